/-
  'parse': records from one text.
-/
import Derived.Test.YtjcjpekndeoonaaGreatDoorJnCut
namespace Go.Cz.Jn
theorem parseB_nil : parseB [] = some [] := rfl
theorem parseB_step {l : Bytes} (h : l ≠ []) : parseB l = match l.findIdx? (· == 58) with
    | none => none
    | some k => match numB (l.take k) with
      | none => none
      | some n => if n ≤ (l.drop (k + 1)).length then (parseB ((l.drop (k + 1)).drop n)).map ((l.drop (k + 1)).take n :: ·) else none := by
  have hpos : 0 < l.length := List.length_pos_iff.2 h
  have e : ∀ k n, parseGo l.length ((l.drop (k + 1)).drop n) = parseB ((l.drop (k + 1)).drop n) := fun k n => parse_more _ _ _ (by rw [List.length_drop, List.length_drop]; omega) (by omega)
  show parseGo (l.length + 1) l = _
  rw [parseGo_succ, if_neg h]
  cases l.findIdx? (· == 58) with
  | none => rfl
  | some k =>
    dsimp only
    cases numB (l.take k) with
    | none => rfl
    | some n =>
      dsimp only
      rw [e]
end Go.Cz.Jn
namespace Go.Proofs.YtjcjpekndeoonaaGreatDoor
open Go.RowKit Go.Cz Go.Cz.Jn
set_option linter.unusedSimpArgs false
set_option linter.unusedVariables false
attribute [local go_sem] bs_size bs_extract bs_append bs_toList
attribute [local irreducible] cList cPlan
/-- What 'parse' answers. -/
def PaP (V : World) (t : Bytes) (e : Ending) (w' : World) : Prop :=
  (∃ v rs, parseB t = some rs ∧ e = .returned (.tuple #[v, .bool true]) ∧ TRow V w' v rs) ∨ (parseB t = none ∧ e = .returned (.tuple #[.slice none 0 0, .bool false]) ∧ Below V.heap.size V w')
set_option maxRecDepth 10000 in
set_option maxHeartbeats 8000000 in
theorem parse_c (t : Bytes) (V w : World) (hV : Below V.heap.size V w) (hl : t.length ≤ 1000000000) (hs : Std V) :
    Calls Tryz.prog 37 #[.string (bs t)] w (PaP V t) := by
  have HR : Hid (TRow V w (.slice none 0 0) [] ∧ Std w) := ⟨ORow.nil hV, hs.below hV⟩
  have HSV := Lib.hid hs
  clear hV hs
  go_enter Tryz.func37, Tryz.ntmps37
  go_wp2_with fail
  go_loopg [0, 4] t.length (fun gk x v wr => ∃ (rest : Bytes) (done : List Bytes), gk = rest.length ∧ x = .string (bs rest) ∧ rest.length ≤ 1000000000 ∧ Hid (done.length + rest.length ≤ 1000000000 ∧ parseB t = (parseB rest).map (done ++ ·)) ∧ Hid (TRow V wr v done ∧ Std wr))
  case atStart => exact ⟨t, [], rfl, rfl, hl, Lib.hid ⟨by simpa using hl, by cases parseB t <;> rfl⟩, HR⟩
  case round =>
    rename_i J1 K1 hJ1 hK1
    clear HR hl
    obtain ⟨rest, done, hgk, rfl, hrl, HP, HR⟩ := hrel
    subst gk
    by_cases h0 : rest = []
    · have hq : (rest == []) = true := by simpa using h0
      have HE : Hid (parseB t = some done) := by show _ = _; rw [HP.out.2, h0, parseB_nil]; simp
      clear hJ1 hK1 h0 HP
      go_wp2_with fail
      go_ret2
      exact .inl ⟨_, done, HE.out, rfl, HR.out.1⟩
    · have hq : (rest == []) = false := by simpa using h0
      have hpos : 0 < rest.length := List.length_pos_iff.2 h0
      have HC := Lib.hid (parseB_step h0)
      clear h0
      go_wp2_with fail
      go_at_call 73
      refine (cut_c rest _ (by omega)).mono ?_
      rintro e w1 (⟨k, hk, rfl, hb⟩ | ⟨hk, rfl, hb⟩)
      · replace HR : Hid (TRow V w1 _ done ∧ Std w1) := ⟨HR.out.1.keep hb, HR.out.2.below hb⟩
        have hkl := find_lt hk
        replace HC := HC.out
        rw [hk] at HC
        dsimp only at HC
        obtain ⟨f, hf⟩ : ∃ f, f = rest.take k := ⟨_, rfl⟩
        obtain ⟨r, hr⟩ : ∃ r, r = rest.drop (k + 1) := ⟨_, rfl⟩
        have hfl : f.length = k := by rw [hf, List.length_take]; omega
        have hrl2 : r.length + k + 1 = rest.length := by rw [hr, List.length_drop]; omega
        rw [← hf, ← hr] at HC ⊢
        rw [num_law] at HC
        replace HC := Lib.hid HC
        clear hf hr hk hb
        go_wp2_with fail
        go_at_call 34
        refine (Atoi_c f _ (by omega) HR.out.2).mono ?_
        rintro e w2 (⟨v, rfl, ha, hb⟩ | ⟨v, tt, N, rfl, ha, hb⟩)
        · replace HR : Hid (TRow V w2 _ done ∧ Std w2) := ⟨HR.out.1.keep hb, HR.out.2.below hb⟩
          replace HC := HC.out
          rw [ha] at HC
          dsimp only at HC
          replace HC := Lib.hid HC
          clear ha hb
          by_cases hv : v < 0
          · have HN : Hid (parseB t = none) := by show _ = _; rw [HP.out.2, HC.out, if_neg (by omega)]; rfl
            clear HC HP hJ1 hK1
            go_wp2_with fail
            go_ret2
            exact .inr ⟨HN.out, rfl, HR.out.1.below⟩
          · by_cases hv2 : 20000 < v
            · have HN : Hid (parseB t = none) := by show _ = _; rw [HP.out.2, HC.out, if_neg (by omega)]; rfl
              clear HC HP hJ1 hK1
              go_wp2_with fail
              go_ret2
              exact .inr ⟨HN.out, rfl, HR.out.1.below⟩
            · obtain ⟨n, rfl⟩ : ∃ n : Nat, v = (n : Int) := ⟨v.toNat, by omega⟩
              rw [Int.toNat_natCast] at HC
              obtain ⟨d, hd⟩ : ∃ d, d = decB n := ⟨_, rfl⟩
              have HD : Hid (Lib.decDigits n = d) := by show _ = _; rw [hd, decB_eq]
              rw [← hd] at HC
              clear hd
              go_wp2_with fail
              go_at_call 74
              refine (Itoa_c n _ (by omega) HR.out.2).mono ?_
              rintro e w3 ⟨rfl, hb⟩
              rw [HD.out]
              replace HR : Hid (TRow V w3 _ done ∧ Std w3) := ⟨HR.out.1.keep hb, HR.out.2.below hb⟩
              clear hb HD
              by_cases hdf : d = f
              · have hq2 : (d == f) = true := by simpa using hdf
                have HC2 : Hid (parseB rest = if n ≤ r.length then (parseB (r.drop n)).map (r.take n :: ·) else none) := by
                  show _ = _
                  rw [HC.out, if_pos ⟨by omega, by omega, hdf⟩]
                clear HC hdf
                by_cases hnr : n ≤ r.length
                · have HP2 : Hid (parseB t = (parseB (r.drop n)).map ((done ++ [r.take n]) ++ ·)) := by
                    show _ = _
                    rw [HP.out.2, HC2.out, if_pos hnr, Option.map_map]
                    congr 1
                    funext x
                    simp
                  have hdl : done.length ≤ 1000000000 := by have := HP.out.1; omega
                  have HP1 := Lib.hid HP.out.1
                  clear HC2 HP
                  go_wp2_with (refine wpList_plain rfl fun K hK => wp_append (.tmp 49) (.tmp 53) 26 (by rfl) 9 _ 1 16 Tryz.underlying26 info_jstr (by rfl) (by omega) _ done.length _ (by rfl) (HR.out.1.row.alloc _) w3.heap.size 1 1 [.string (bs (r.take n))] (by rfl) (by rfl) 9 (by exact new_heap w3 _ _ rfl) (by simp [Value.oneCell']) (by omega) (by omega) ?_; intro v' w4 hrow hgrow hblk; have hp2 := (HR.out.1.keep ((Below.refl _ w3).alloc (Nat.le_refl _) _)).step hrow hgrow hblk; have Hp := Lib.hid hp2; clear hp2 hrow hgrow hblk)
                  go_roundg (r.drop n).length
                  case measure => rw [List.length_drop]; omega
                  case rel =>
                    refine ⟨r.drop n, done ++ [r.take n], rfl, by rw [List.take_of_length_le (by rw [List.length_drop]; exact Nat.le_refl _)], by rw [List.length_drop]; omega, Lib.hid ⟨?_, HP2.out⟩, Lib.hid ⟨?_, ?_⟩⟩
                    · have := HP1.out
                      rw [List.length_append, List.length_drop]
                      simp
                      omega
                    · have h := Hp.out
                      show ORow _ _ _ _ _ (done ++ [r.take n]).length (tcs (done ++ [r.take n]))
                      rw [List.length_append, show tcs (done ++ [r.take n]) = tcs done ++ [.string (bs (r.take n))] by simp [tcs]]
                      exact h
                    · exact HSV.out.below Hp.out.below
                · have HN : Hid (parseB t = none) := by show _ = _; rw [HP.out.2, HC2.out, if_neg hnr]; rfl
                  clear HC2 HP hJ1 hK1
                  go_wp2_with fail
                  go_ret2
                  exact .inr ⟨HN.out, rfl, HR.out.1.below⟩
              · have hq2 : (d == f) = false := by simpa using hdf
                have HN : Hid (parseB t = none) := by show _ = _; rw [HP.out.2, HC.out, if_neg fun h => hdf h.2.2]; rfl
                clear HC HP hJ1 hK1 hdf
                go_wp2_with fail
                go_ret2
                exact .inr ⟨HN.out, rfl, HR.out.1.below⟩
        · replace HR : Hid (TRow V w2 _ done ∧ Std w2) := ⟨HR.out.1.keep hb, HR.out.2.below hb⟩
          have HN : Hid (parseB t = none) := by
            show _ = _
            rw [HP.out.2, HC.out]
            rcases hh : Lib.atoiAll f with v | _ | _
            · exact absurd hh (ha v)
            · rfl
            · rfl
          clear HC HP hJ1 hK1 ha hb
          go_wp2_with fail
          go_ret2
          exact .inr ⟨HN.out, rfl, HR.out.1.below⟩
      · replace HR : Hid (TRow V w1 _ done ∧ Std w1) := ⟨HR.out.1.keep hb, HR.out.2.below hb⟩
        have HN : Hid (parseB t = none) := by show _ = _; rw [HP.out.2, HC.out, hk]; rfl
        clear HC HP hJ1 hK1 hk hb
        go_wp2_with fail
        go_at_call 34
        refine (Atoi_c rest _ (by omega) HR.out.2).mono ?_
        rintro e w2 hP
        have hb : Below w1.heap.size w1 w2 ∧ ∃ a b, e = .returned (.tuple #[a, b]) := by
          rcases hP with ⟨v, rfl, -, hb⟩ | ⟨v, tt, N, rfl, -, hb⟩
          · exact ⟨hb, _, _, rfl⟩
          · exact ⟨hb, _, _, rfl⟩
        obtain ⟨hb, a, b, rfl⟩ := hb
        replace HR : Hid (TRow V w2 _ done ∧ Std w2) := ⟨HR.out.1.keep hb, HR.out.2.below hb⟩
        clear hb hP
        go_wp2_with fail
        go_ret2
        exact .inr ⟨HN.out, rfl, HR.out.1.below⟩
end Go.Proofs.YtjcjpekndeoonaaGreatDoor

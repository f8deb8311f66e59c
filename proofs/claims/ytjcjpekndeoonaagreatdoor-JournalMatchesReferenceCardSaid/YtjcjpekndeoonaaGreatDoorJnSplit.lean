/-
  'split': a text in pieces.
-/
import Derived.Test.YtjcjpekndeoonaaGreatDoorJnCount
namespace Go.Cz.Jn
theorem pieces_more : ∀ (f g : Nat) (l : Bytes), l.length ≤ f → l.length ≤ g → piecesGo f l = piecesGo g l
  | 0, 0, _, _, _ => rfl
  | 0, g + 1, l, hf, _ => by
    have : l = [] := List.length_eq_zero_iff.1 (by omega)
    subst this
    rfl
  | f + 1, 0, l, _, hg => by
    have : l = [] := List.length_eq_zero_iff.1 (by omega)
    subst this
    rfl
  | f + 1, g + 1, l, hf, hg => by
    unfold piecesGo
    by_cases h : l = []
    · rw [if_pos h, if_pos h]
    · have : 0 < l.length := List.length_pos_iff.2 h
      rw [if_neg h, if_neg h, pieces_more f g (l.drop 46) (by rw [List.length_drop]; omega) (by rw [List.length_drop]; omega)]
theorem piecesB_cons {l : Bytes} (h : l ≠ []) : piecesB l = l.take 46 :: piecesB (l.drop 46) := by
  have h0 : 0 < l.length := List.length_pos_iff.2 h
  unfold piecesB
  obtain ⟨n, hn⟩ : ∃ n, l.length = n + 1 := ⟨l.length - 1, by omega⟩
  rw [hn, piecesGo, if_neg h, pieces_more n (l.drop 46).length (l.drop 46) (by rw [List.length_drop]; omega) (Nat.le_refl _)]
/-- The cells of texts. -/
def tcs (l : List Bytes) : List Value := l.map fun s => .string (bs s)
end Go.Cz.Jn
namespace Go.Proofs.YtjcjpekndeoonaaGreatDoor
open Go.RowKit Go.Cz Go.Cz.Jn
set_option linter.unusedSimpArgs false
set_option linter.unusedVariables false
attribute [local go_sem] bs_size bs_extract bs_append bs_toList
attribute [local irreducible] cList cPlan
theorem info_jstr : (Tryz.prog.info? 9).map (fun i => (i.zero, i.size, i.bytes)) = some (some (.string ⟨#[]⟩), 1, 16) := by kernel_rfl
/-- A row of texts of the call's own. -/
abbrev TRow (V w : World) (v : Value) (l : List Bytes) : Prop := ORow 9 1 V w v l.length (tcs l)
set_option maxRecDepth 10000 in
set_option maxHeartbeats 4000000 in
theorem split_c (t : Bytes) (V w : World) (hV : Below V.heap.size V w) (hl : t.length ≤ 1000000000) :
    Calls Tryz.prog 46 #[.string (bs t)] w fun e w' => ∃ v, e = .returned v ∧ TRow V w' v (piecesB t) := by
  have HR : Hid (TRow V w (.slice none 0 0) []) := ORow.nil hV
  clear hV
  go_enter Tryz.func46, Tryz.ntmps46
  go_wp2_with fail
  go_loopg [0, 3] t.length (fun gk x v wr => ∃ (rest : Bytes) (done : List Bytes), gk = rest.length ∧ x = .string (bs rest) ∧ rest.length ≤ 1000000000 ∧ Hid (done.length + rest.length ≤ 1000000000 ∧ piecesB t = done ++ piecesB rest) ∧ Hid (TRow V wr v done))
  case atStart => exact ⟨t, [], rfl, rfl, hl, Lib.hid ⟨by simpa using hl, rfl⟩, HR⟩
  case round =>
    rename_i J1 K1 hJ1 hK1
    clear HR
    obtain ⟨rest, done, hgk, rfl, hrl, HP, HR⟩ := hrel
    subst gk
    by_cases h0 : rest = []
    · have hq : (rest == []) = true := by simpa using h0
      have HE : Hid (piecesB t = done) := by show _ = _; rw [HP.out.2, h0]; exact List.append_nil _
      clear hJ1 hK1 h0 HP
      go_wp2_with fail
      go_ret
      exact ⟨_, rfl, by rw [HE.out]; exact HR.out⟩
    · have hq : (rest == []) = false := by simpa using h0
      have hpos : 0 < rest.length := List.length_pos_iff.2 h0
      obtain ⟨n, hn⟩ : ∃ n, n = min 46 rest.length := ⟨_, rfl⟩
      have e1 : min (46 : Int) (rest.length : Int) = (n : Int) := by omega
      have hnl : n ≤ rest.length := by omega
      have hn0 : 0 < n := by omega
      have HN : Hid (rest.take n = rest.take 46 ∧ rest.drop n = rest.drop 46) := by
        rcases Nat.le_total 46 rest.length with h | h
        · rw [show n = 46 by omega]; exact ⟨rfl, rfl⟩
        · rw [show n = rest.length by omega, List.take_length, List.drop_length, List.take_of_length_le h, List.drop_eq_nil_of_le h]; exact ⟨rfl, rfl⟩
      have HC := Lib.hid (piecesB_cons h0)
      clear hn h0
      have HL := Lib.hid hl
      have hdl : done.length ≤ 1000000000 := by have := HP.out.1; omega
      go_wp2_with (refine wpList_plain rfl fun K hK => wp_append (.tmp 10) (.tmp 14) 26 (by rfl) 9 _ 1 16 Tryz.underlying26 info_jstr (by rfl) (by omega) _ done.length _ (by rfl) (HR.out.row.alloc _) wr.heap.size 1 1 [.string (bs (rest.take n))] (by rfl) (by rfl) 9 (by exact new_heap wr _ _ rfl) (by simp [Value.oneCell']) (by omega) (by omega) ?_; intro v' w2 hrow hgrow hblk; have hp2 := (HR.out.keep ((Below.refl _ wr).alloc (Nat.le_refl _) _)).step hrow hgrow hblk; have Hp := Lib.hid hp2; clear hp2 hrow hgrow hblk)
      go_roundg (rest.drop n).length
      case measure => rw [List.length_drop]; omega
      case rel =>
        refine ⟨rest.drop n, done ++ [rest.take n], rfl, by rw [List.take_of_length_le (by rw [List.length_drop]; exact Nat.le_refl _)], by rw [List.length_drop]; omega, Lib.hid ⟨?_, ?_⟩, ?_⟩
        · have := HP.out.1
          rw [List.length_append, List.length_drop]
          simp
          omega
        · rw [HP.out.2, HC.out, List.append_assoc, HN.out.1, HN.out.2]
          rfl
        · have h := Hp.out
          show Hid (ORow _ _ _ _ _ (done ++ [rest.take n]).length (tcs (done ++ [rest.take n])))
          rw [List.length_append, show tcs (done ++ [rest.take n]) = tcs done ++ [.string (bs (rest.take n))] by simp [tcs]]
          exact Lib.hid h
end Go.Proofs.YtjcjpekndeoonaaGreatDoor

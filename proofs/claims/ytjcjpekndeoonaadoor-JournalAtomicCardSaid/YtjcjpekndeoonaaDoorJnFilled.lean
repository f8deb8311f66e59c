/-
  'filled'.
-/
import Derived.Test.YtjcjpekndeoonaaDoorJnLight
namespace Go.Cz.Jn
set_option linter.unusedSimpArgs false
set_option linter.unusedVariables false
/-- What an 'Append' leaves of a journal that is whole. -/
theorem Inv.app {m : Dk.Dm} {j : Jm} (h : Inv m j) (rs : List Bytes) : Inv (appendB m j rs).1 (appendB m j rs).2.2 ∧ (appendB m j rs).2.2.sectors = j.sectors ∧
    ((appendB m j rs).2.1 = 0 → (appendB m j rs).2.2.recs = j.recs ++ rs) ∧ ((appendB m j rs).2.1 ≠ 0 → (appendB m j rs).2.2 = j) := by
  by_cases hl : longB rs = true
  · have e : appendB m j rs = (m, 2, j) := by unfold appendB; rw [if_neg (by rw [h.ok]; decide), if_pos hl]
    rw [e]
    exact ⟨h, rfl, (fun h0 => absurd h0 (show ¬ (2 : Int) = 0 by decide)), fun _ => rfl⟩
  · by_cases hr : j.room < (piecesB (textB rs)).length
    · have e : appendB m j rs = (m, 28, j) := by unfold appendB; rw [if_neg (by rw [h.ok]; decide), if_neg hl, if_pos hr]
      rw [e]
      exact ⟨h, rfl, (fun h0 => absurd h0 (show ¬ (28 : Int) = 0 by decide)), fun _ => rfl⟩
    · by_cases hn : rs = []
      · have e : appendB m j rs = (m, 0, j) := by unfold appendB; rw [if_neg (by rw [h.ok]; decide), if_neg hl, if_neg hr, if_pos hn]
        rw [e]
        exact ⟨h, rfl, fun _ => by rw [hn]; simp, fun h0 => absurd rfl h0⟩
      · obtain ⟨e, hi⟩ := h.append (by simpa using hl) (by omega) hn
        rw [e]
        exact ⟨hi, rfl, fun _ => rfl, fun h0 => absurd rfl h0⟩
theorem textB_le1 (rs : List Bytes) (h : ∀ r ∈ rs, r.length ≤ 6000) : (textB rs).length ≤ lenSum rs + 10 * rs.length := by
  induction rs with
  | nil => simp [textB]
  | cons r rs ih =>
    have h1 := ih fun x hx => h x (by simp [hx])
    have h2 := decB_len (k := 5) (n := r.length) (by have := h r (by simp); omega)
    have e : textB (r :: rs) = (decB r.length ++ 58 :: r) ++ textB rs := by simp [textB]
    rw [e, List.length_append, List.length_append, List.length_cons, List.length_cons]
    simp only [lenSum, List.map_cons, List.sum_cons] at h1 ⊢
    omega
theorem lenSum_mem {rs : List Bytes} {r : Bytes} (h : r ∈ rs) : r.length ≤ lenSum rs := by
  induction rs with
  | nil => simp at h
  | cons a rs ih =>
    simp only [lenSum, List.map_cons, List.sum_cons] at ih ⊢
    rcases List.mem_cons.1 h with rfl | h
    · omega
    · have := ih h; omega
theorem opSum_mem {l : List JOp} {o : JOp} (h : o ∈ l) : lenSum o.list ≤ opSum l := by
  induction l with
  | nil => simp at h
  | cons a l ih =>
    simp only [opSum, List.map_cons, List.sum_cons] at ih ⊢
    rcases List.mem_cons.1 h with rfl | h
    · omega
    · have := ih h; omega
theorem Small.text {s : Int} {l : List JOp} (h : Small s l) {o : JOp} (ho : o ∈ l) : (textB o.list).length ≤ 1000000 := by
  have h1 := h.sum
  have h2 := opSum_mem ho
  have h3 := h.rows o ho
  have h4 := textB_le1 o.list fun r hr => by have := lenSum_mem hr; omega
  omega
end Go.Cz.Jn
namespace Go.Proofs.YtjcjpekndeoonaaDoor
open Go.RowKit Go.Cz Go.Cz.Jn
set_option linter.unusedSimpArgs false
set_option linter.unusedVariables false
attribute [local go_sem] bs_size bs_extract bs_append bs_toList
attribute [local irreducible] cList cPlan
/-- append(s, x...) of texts that lie anywhere. -/
theorem wp_append_texts {o : Oper} {a : Act} {K : Act → World → Prop} {Q : Exit → Act → World → Prop} {w : World} (s x : Operand)
    (ho : o.op = .call { callee := .builtin .append, args := #[s, x], argTypes := #[27, 27] })
    (v : Value) (n : Nat) (xs : List Value) (hs : a.eval s = v) (hown : w.ownsRow 0 9 1 v n xs)
    (y : Option Addr) (m c : Nat) (l : List Bytes) (hx : a.eval x = .slice y m c) (ht : IsTexts w y m l) (hy : y = none → c = 0)
    (h63 : n + m ≤ 1000000000)
    (h : ∀ v' w', w'.ownsRow 0 9 1 v' (n + m) (xs ++ tcs l) → w.grownBy w' v.ownBlock → (v'.ownBlock = v.ownBlock ∨ v'.ownBlock = some w.heap.size) → K (a.put o.dst v') w') : o.wp Tryd.prog a w K Q := by
  obtain ⟨i, hi, hz, hs1, hb1⟩ := info_parts info_jstr
  rcases y with _ | ad
  · obtain rfl : c = 0 := hy rfl
    obtain rfl : m = 0 := by
      rcases ht.at' with h0 | ⟨_, _, h0, -⟩
      · exact h0
      · cases h0
    have hl : l = [] := List.length_eq_zero_iff.1 ht.len
    subst hl
    have hr := run_append_owned_none (P := Tryd.prog) w 0 27 o.type 9 i 1 Tryd.underlying27 hi v n xs hown
    unfold Oper.wp execOp
    simp only [ho, resolve, invoke, builtin, Sem.run_bind, Sem.run_pure, Result.andThen_ok, List.map_toArray, List.map_cons, List.map_nil, hs, hx, hr]
    exact h v w (by simpa [tcs] using hown) ⟨rfl, rfl, rfl, Nat.le_refl _, fun _ _ _ => rfl⟩ (.inl rfl)
  · obtain ⟨v', w', hr, h2, h3, _, h5⟩ := run_append_own_at (P := Tryd.prog) w 0 27 o.type 9 i _ 1 16 Tryd.underlying27 hi hz hs1 hb1 rfl (by omega) v n xs hown ad m c (tcs l) (by simp [tcs, ht.len]) (by
      intro j u hu
      simp only [tcs, List.getElem?_map, Option.map_eq_some_iff] at hu
      obtain ⟨r, hr, rfl⟩ := hu
      rcases ht.at' with h0 | ⟨g, off, hx', hg, hc⟩
      · exfalso
        have h1 := (List.getElem?_eq_some_iff.1 hr).1
        have h2 := ht.len
        omega
      · cases hx'
        have hadd : (⟨g, off, none⟩ : Addr).add j = ⟨g, off + j, none⟩ := by unfold Addr.add; split <;> simp_all
        rw [hadd]
        exact hc j r hr) (by
      intro u hu
      simp only [tcs, List.mem_map] at hu
      obtain ⟨r, -, rfl⟩ := hu
      rfl) (by unfold maxLen; omega) (by omega) (Nat.zero_le _)
    unfold Oper.wp execOp
    simp only [ho, resolve, invoke, builtin, Sem.run_bind, Sem.run_pure, Result.andThen_ok, List.map_toArray, List.map_cons, List.map_nil, hs, hx, hr]
    exact h v' w' h2 h3 h5
/-- A journal that is whole, and the records that were taken. -/
def FilP (w0 : World) (s : Nat) (ps : List Piece) (e : Ending) (w' : World) : Prop :=
  ∃ (db jb : Nat) (x : Option Addr) (n c : Nat) (y : Option Addr) (k d : Nat) (m : Dk.Dm) (j : Jm), e = .returned (.tuple #[.pointer (some ⟨db, 0, none⟩), .pointer (some ⟨jb, 0, none⟩), .slice y k d]) ∧ Inv m j ∧ j.sectors = s ∧ j.recs.length ≤ 320 ∧
    Owns w0 w' (jblk jb db j.sectors j.count (.slice x n c) false :: trow (.slice x n c) j.recs :: disk db m :: trow (.slice y k d) j.recs :: ps)
set_option maxRecDepth 10000 in
set_option maxHeartbeats 8000000 in
theorem filled_c {w0 w : World} {ps : List Piece} (s : Nat) (x : Option Addr) (n c : Nat) (l : List JOp) (h : Owns w0 w ps) (hi : IsOps w0 x n l) (h3 : 3 ≤ s) (hsm : Small (s : Int) l) (hs : Std w0) :
    Calls Tryd.prog 10 #[.int .i64 (s : Int), .slice x n c] w (FilP w0 s ps) := by
  have HS := Lib.hid hs
  have HI := Lib.hid hi
  have HSm := Lib.hid hsm
  have HO := Lib.hid h
  have HInv := Lib.hid (inv_fresh (n := s) h3 (by have := hsm.sec; omega))
  have H3 : Hid (0 < s ∧ s ≤ 40) := ⟨by omega, by have := hsm.sec; omega⟩
  have hn16 : n ≤ 16 := by rw [← hi.len]; exact hsm.ops
  clear h hi hsm hs h3
  go_enter Tryd.func10, Tryd.ntmps10
  go_wp2_with fail
  go_at_call 19
  refine (Owns.new s HO.out H3.out.1 (by have := H3.out.2; omega)).mono ?_
  rintro e w1 ⟨db, rfl, ho⟩
  replace HO := Lib.hid ho
  clear ho
  go_wp2_with fail
  go_at_call 15
  refine (Open_c HO.out (by rw [HInv.out.calm.q]; simp) HS.out).mono ?_
  intro e w2 ho
  obtain ⟨jb, xr, nr, cr, yo, ko, d, rfl, ho2⟩ := open_good ho (by rw [HInv.out.open])
  clear ho
  rw [HInv.out.open] at ho2
  have HOJ : Hid (∃ (m : Dk.Dm) (j : Jm), Inv m j ∧ j.sectors = s ∧ j.recs.length ≤ 20 * 0 ∧ ∃ (x' : Option Addr) (n' c' : Nat), Owns w0 w2 (jblk jb db j.sectors j.count (.slice x' n' c') false :: trow (.slice x' n' c') j.recs :: disk db m :: trow (.slice none 0 0) j.recs :: ps)) := by
    refine ⟨_, _, HInv.out, rfl, by simp, xr, nr, cr, ?_⟩
    have h1 := (ho2.re [0, 1, 2, 3]).pop
    have h2 := trow_base (v := .slice none 0 0) (l := []) h1 (World.ownsRow_nil _ _ _ _) (Below.refl _ _)
    exact h2.re [1, 2, 3, 0]
  clear ho2 HO HInv
  go_wp2_with fail
  go_loopg [11, 12] n (fun gk v i wr => ∃ k : Nat, gk = n - k ∧ k ≤ n ∧ i = .int .i64 (k : Int) ∧ Hid (∃ (m : Dk.Dm) (j : Jm), Inv m j ∧ j.sectors = s ∧ j.recs.length ≤ 20 * k ∧ ∃ (x' : Option Addr) (n' c' : Nat), Owns w0 wr (jblk jb db j.sectors j.count (.slice x' n' c') false :: trow (.slice x' n' c') j.recs :: disk db m :: trow v j.recs :: ps)))
  case atStart => exact ⟨0, rfl, Nat.zero_le _, rfl, HOJ⟩
  case round =>
    rename_i J1 K1 hJ1 hK1
    clear HOJ
    obtain ⟨k, rfl, hk, rfl, HOJ⟩ := hrel
    obtain ⟨m, j, hinv, hsec, hlen, x', n', c', ho⟩ := HOJ.out
    obtain ⟨yo, ko, dd, rfl, -⟩ := Owns.texts (ho.re [3, 0, 1, 2])
    have HV := Lib.hid (And.intro hinv (And.intro hsec hlen))
    have HO := Lib.hid ho
    clear HOJ hinv hsec hlen ho
    by_cases hlt : k < n
    · obtain ⟨g, off, o, y, q, cc, rfl, hoj, hg, ht, hsl, -, c1, -, -, -⟩ := (HI.out.below HO.out.base).get hlt
      obtain ⟨g', off', o', y', q', cc', hx', hoj', hg', ht', hsl', -, c1', -, -, -⟩ := HI.out.get hlt
      have HT : Hid (∀ w', Below w0.heap.size w0 w' → IsTexts w' y q o.list) := fun w' hb => by
        cases hx'
        rw [hoj] at hoj'
        cases hoj'
        have e : wr.cell? ⟨g, off + k * 5 + 1, none⟩ = w0.cell? ⟨g, off + k * 5 + 1, none⟩ := HO.out.base.cell (p := ⟨g, off + k * 5 + 1, none⟩) hg'
        rw [e, c1'] at c1
        cases c1
        exact ht'.below hb
      have HCl : Hid (∀ w', Below w0.heap.size w0 w' → g < w'.heap.size ∧ w'.cell? ⟨g, off + k * 5 + 1, none⟩ = some (.slice y q cc)) := fun w' hb => by
        cases hx'
        refine ⟨Nat.lt_of_lt_of_le hg' hb.size, ?_⟩
        have e1 : w'.cell? ⟨g, off + k * 5 + 1, none⟩ = w0.cell? ⟨g, off + k * 5 + 1, none⟩ := hb.cell (p := ⟨g, off + k * 5 + 1, none⟩) hg'
        have e2 : wr.cell? ⟨g, off + k * 5 + 1, none⟩ = w0.cell? ⟨g, off + k * 5 + 1, none⟩ := HO.out.base.cell (p := ⟨g, off + k * 5 + 1, none⟩) hg'
        rw [e1, ← e2]
        exact c1
      have HMem := Lib.hid (List.mem_of_getElem? hoj)
      have HY := Lib.hid hsl.1
      have HLt := Lib.hid hlt
      have HQl : Hid (q ≤ 20) := by
        show _ ≤ _
        have h1 := HSm.out.rows o HMem.out
        have h2 := ht.len
        omega
      have HRv : Hid (appendB m ⟨j.sectors, j.count, j.recs, false⟩ o.list = appendB m j o.list) := by
        show _ = _
        have h1 := HV.out.1.ok
        cases j
        dsimp only at h1
        rw [h1]
      clear hoj hoj' hg' ht' hsl' c1' hx' ht hsl
      go_wp2_with fail
      go_at_call 18
      refine (Append_c HO.out (fun w' h => HT.out w' h.base) (HSm.out.text HMem.out) (by have := HQl.out; omega) (by rw [HV.out.1.calm.q]; simp) (by have := HV.out.1.room; omega) (HV.out.1.high) (by have := HV.out.2.2; omega) HS.out).mono ?_
      rintro e w3 ⟨rv, rfl, ho⟩
      rw [HRv.out] at ho ⊢
      obtain ⟨ha1, ha2, ha3, ha4⟩ := HV.out.1.app o.list
      obtain ⟨r, hr⟩ : ∃ r, r = appendB m j o.list := ⟨_, rfl⟩
      rw [← hr] at ho ha1 ha2 ha3 ha4 ⊢
      rw [ha1.ok] at ho
      obtain ⟨x2, n2, c2, rfl, -⟩ := Owns.texts ho.swap
      have HA := Lib.hid (And.intro ha1 (And.intro ha2 (And.intro ha3 ha4)))
      have HO2 := Lib.hid ho
      clear ho ha1 ha2 ha3 ha4 hr HO HRv
      by_cases he : r.2.1 = 0
      · have heq : (r.2.1 == 0) = true := by simpa using he
        have HR0 := Lib.hid (HA.out.2.2.1 he)
        obtain ⟨hg3, c3⟩ := HCl.out w3 HO2.out.base
        have HO3 : Hid (Owns w0 w3 (trow (.slice yo ko dd) j.recs :: jblk jb db r.2.2.sectors r.2.2.count (.slice x2 n2 c2) false :: trow (.slice x2 n2 c2) r.2.2.recs :: disk db r.1 :: ps)) := HO2.out.re [3, 0, 1, 2]
        have Hrow := Lib.hid (Owns.row HO3.out)
        clear c1 hg he HO2
        go_wp2_with (refine wpList_plain rfl fun K hK => wp_append_texts (.tmp 38) (.tmp 43) (by rfl) _ j.recs.length _ (by rfl) Hrow.out y q cc o.list (by rfl) (HT.out _ HO3.out.base) HY.out (by have := HV.out.2.2; have := HQl.out; omega) ?_; intro v' w4 hrow hgrow hblk; have hp := Owns.grew (l' := j.recs ++ o.list) HO3.out (by rw [List.length_append, (HT.out _ HO3.out.base).len, show tcs (j.recs ++ o.list) = tcs j.recs ++ tcs o.list by simp [tcs]]; exact hrow) hgrow hblk; have Hp := Lib.hid hp; clear hp hrow hgrow hblk)
        go_roundg (n - (k + 1))
        case measure => have := HLt.out; omega
        case rel =>
          refine ⟨k + 1, rfl, by have := HLt.out; omega, by go_num, Lib.hid ⟨r.1, r.2.2, HA.out.1, by rw [HA.out.2.1]; exact HV.out.2.1, ?_, x2, n2, c2, ?_⟩⟩
          · rw [HR0.out, List.length_append]
            have h1 := HV.out.2.2
            have h2 := HQl.out
            have h3 := (HT.out _ HO3.out.base).len
            omega
          · rw [← HR0.out] at Hp
            exact Hp.out.re [1, 2, 3, 0]
      · have heq : (r.2.1 == 0) = false := by simpa using he
        have HR0 := Lib.hid (HA.out.2.2.2 he)
        clear c1 hg he
        go_wp2_with fail
        go_roundg (n - (k + 1))
        case measure => have := HLt.out; omega
        case rel =>
          refine ⟨k + 1, rfl, by have := HLt.out; omega, by go_num, Lib.hid ⟨r.1, r.2.2, HA.out.1, by rw [HA.out.2.1]; exact HV.out.2.1, ?_, x2, n2, c2, ?_⟩⟩
          · rw [HR0.out]
            have h1 := HV.out.2.2
            omega
          · have h1 := HO2.out
            rw [show trow (.slice yo ko dd) j.recs = trow (.slice yo ko dd) r.2.2.recs by rw [HR0.out]] at h1
            exact h1
    · have hkn : k = n := by omega
      have HF : Hid (FilP w0 s ps (.returned (.tuple #[.pointer (some ⟨db, 0, none⟩), .pointer (some ⟨jb, 0, none⟩), .slice yo ko dd])) wr) :=
        ⟨db, jb, x', n', c', yo, ko, dd, m, j, rfl, HV.out.1, HV.out.2.1, by have := HV.out.2.2; omega, HO.out⟩
      clear hJ1 hK1 hkn
      go_wp2_with fail
      go_ret3
      exact HF.out
end Go.Proofs.YtjcjpekndeoonaaDoor

/-
  'TopEachDay' returns true: the walk.
-/
import Derived.Test.YtlkihpgpcgeogaaDoorTdHead
import Derived.Test.YtlkihpgpcgeogaaDoorFzRel
import Derived.Test.YtlkihpgpcgeogaaDoorFzCorr
import Derived.Test.YtlkihpgpcgeogaaDoorLgBook
import Derived.Test.YtlkihpgpcgeogaaDoorLgAt
import Derived.Test.YtlkihpgpcgeogaaDoorTdLaw
import Derived.Deep.DeepCutAuto
namespace Go.Cz.Td
structure Stp where
  k : Int
  d : Int
  u : Int
  lic : Bool
def IsSteps (w : World) (x : Option Addr) (n : Nat) (l : List Stp) : Prop := n = l.length ∧ ∀ (j : Nat) (s : Stp), l[j]? = some s → ∃ g o, x = some ⟨g, o, none⟩ ∧ g < w.heap.size ∧
  w.cell? ⟨g, o + j * 4, none⟩ = some (.int .i64 s.k) ∧ w.cell? ⟨g, o + j * 4 + 1, none⟩ = some (.int .i64 s.d) ∧ w.cell? ⟨g, o + j * 4 + 2, none⟩ = some (.int .i64 s.u) ∧ w.cell? ⟨g, o + j * 4 + 3, none⟩ = some (.bool s.lic)
/-- What holds of the account between two steps. -/
structure StepI (rate void day : Int) (a : Acc) (N k : Nat) : Prop where
  good : GoodA a
  op : a.closed = false
  r0 : a.r0 = rate
  r1 : a.r1 = void
  first : firstD a.ms = day
  len : N = a.ms.length
  le : N ≤ k + 1
theorem StepI.next {rate void day : Int} {a : Acc} {N k j : Nat} (h : StepI rate void day a N k) (hk : k ≤ j) : StepI rate void day a N j := ⟨h.good, h.op, h.r0, h.r1, h.first, h.len, by have := h.le; omega⟩
theorem firstD_snoc {l : List Mv} (m : Mv) (h : l ≠ []) : firstD (l ++ [m]) = firstD l := by
  rcases l with _ | ⟨x, r⟩
  · exact absurd rfl h
  · rfl
theorem StepI.snoc {rate void day : Int} {a : Acc} {N k : Nat} {m : Mv} (h : StepI rate void day a N k) (hg : GoodA { a with ms := a.ms ++ [m] }) : StepI rate void day { a with ms := a.ms ++ [m] } (N + 1) (k + 1) :=
  ⟨hg, h.op, h.r0, h.r1, by rw [firstD_snoc m h.good.some]; exact h.first, by rw [List.length_append, ← h.len]; rfl, by have := h.le; omega⟩
theorem StepI.corr {rate void day : Int} {a : Acc} {N k j : Nat} {u : Int} (h : StepI rate void day a N k) (hg : GoodA { a with ms := putU a.ms j u }) : StepI rate void day { a with ms := putU a.ms j u } N (k + 1) :=
  ⟨hg, h.op, h.r0, h.r1, by
    have h1 := putU_map u a.ms j
    have h2 := h.first
    revert h1 h2
    show (putU a.ms j u).map (·.1) = a.ms.map (·.1) → firstD a.ms = day → firstD (putU a.ms j u) = day
    cases putU a.ms j u <;> cases a.ms <;> simp [firstD] <;> intro h3 <;> simp_all, by rw [putU_length]; exact h.len, by have := h.le; omega⟩
end Go.Cz.Td
namespace Go.Proofs.YtlkihpgpcgeogaaDoor
open Go.RowKit Go.Cz Go.Cz.Td
set_option linter.unusedSimpArgs false
set_option linter.unusedVariables false
attribute [local go_sem] bs_size bs_extract bs_append bs_toList
attribute [local irreducible] cList cPlan cWalk
theorem Own_older {w0 w w' : World} {P : Piece} (h : Owns w0 w []) (h2 : Owns w w' [P]) : Owns w0 w' [P] := by
  obtain ⟨S, h3, h4⟩ := h2.first
  exact h.push h3 h2.base h4
abbrev ivP (v : Value) (N : Nat) (xs : List Value) : Piece := rowP 3 1 v N xs
abbrev dmP (b : Nat) (a : Acc) (N gd cd gm cm : Nat) : List Piece := [accP b a, ivP (.slice (some ⟨gd, 0, none⟩) N cd) N (dsI a.ms), ivP (.slice (some ⟨gm, 0, none⟩) N cm) N (usI a.ms)]
abbrev stO (s : Stp) : Obj := .cells #[.int .i64 s.k, .int .i64 s.d, .int .i64 s.u, .bool s.lic] 30 (0, 0)
theorem info_in : (Tryd.prog.info? 3).map (fun i => (i.zero, i.size, i.bytes)) = some (some (.int .i64 0), 1, 8) := by kernel_rfl
theorem fin_own {w0 w : World} {v1 v2 : Value} {n b : Nat} {a : Acc} {d u : Int} {X Y Z : Piece} (h : Owns w0 w (ivP v1 n (dsI a.ms ++ [.int .i64 d]) :: ivP v2 n (usI a.ms ++ [.int .i64 u]) :: accP b { a with ms := a.ms ++ [(d, u)] } :: X :: Y :: Z :: [])) :
    Owns w0 w [accP b { a with ms := a.ms ++ [(d, u)] }, ivP v1 n (dsI (a.ms ++ [(d, u)])), ivP v2 n (usI (a.ms ++ [(d, u)]))] := by
  have e1 : dsI (a.ms ++ [(d, u)]) = dsI a.ms ++ [.int .i64 d] := by simp [dsI]
  have e2 : usI (a.ms ++ [(d, u)]) = usI a.ms ++ [.int .i64 u] := by simp [usI]
  rw [e1, e2]
  exact (Owns.re h [3, 4, 5, 2, 0, 1]).pop.pop.pop
theorem find_two : Instr.findNow .string (.string (bs nFrozen)) ((#[] : Array MapEntry).push (mE nBank (acV 0 true) 0)).toList 0 = some none := by
  have h1 : ¬ nFrozen = nBank := by decide
  have h2 : ¬ nBank = nFrozen := by decide
  simp [Instr.findNow, Instr.sameNow, bs_beq, h1, h2]
theorem enc_nB : ∀ j : Nat, j < 13 → (Utf8.encode (wrap32 (wrap64 (97 + (j : Int))))).size = 1 ∧ (⟨#[98]⟩ : ByteArray) ++ Utf8.encode (wrap32 (wrap64 (97 + (j : Int)))) = bs (nB j) := by decide +kernel
theorem mv_bound {a : Acc} {j : Nat} {d u : Int} (h : GoodA a) (hm : a.ms[j]? = some (d, u)) : (-1000000000000 ≤ u ∧ u ≤ 1000000000000) ∧ 0 ≤ d ∧ d ≤ 100000 :=
  ⟨h.slim.1 _ (List.mem_of_getElem? hm), sort_ge 0 a.ms h.days j _ hm⟩
theorem cor_own {w0 w : World} {v1 v2 : Value} {n b j : Nat} {a : Acc} {u : Int} {m : Mv} (hm : a.ms[j]? = some m) (h : Owns w0 w (ivP v2 n ((usI a.ms).set j (.int .i64 u)) :: ivP v1 n (dsI a.ms) :: accP b { a with ms := putU a.ms j u } :: [])) :
    Owns w0 w [accP b { a with ms := putU a.ms j u }, ivP v1 n (dsI (putU a.ms j u)), ivP v2 n (usI (putU a.ms j u))] := by
  have e1 : dsI (putU a.ms j u) = dsI a.ms := by
    have h1 := putU_map u a.ms j
    have h2 : ∀ l : List Mv, dsI l = (l.map (·.1)).map (fun d => Value.int .i64 d) := fun l => by simp [dsI]
    rw [h2, h2, h1]
  have e2 : usI (putU a.ms j u) = (usI a.ms).set j (.int .i64 u) := by
    rw [putU_some hm]
    simp [usI, List.map_set]
  rw [e1, e2]
  exact Owns.re h [2, 1, 0]
set_option maxRecDepth 100000 in
set_option maxHeartbeats 8000000 in
theorem TopEachDay_walk (w : World) (rate void day units : Int) (x : Option Addr) (n c : Nat) (l : List Stp) (hx : IsSteps w x n l) (td : Int) (flag : Bool) :
    Calls Tryd.prog 3 #[.int .i64 rate, .int .i64 void, .int .i64 day, .int .i64 units, .slice x n c, .int .i64 td, .bool flag] w fun e w' => e = .returned (.bool true) ∧ Below w.heap.size w w' := by
  have HX := Lib.hid hx
  clear hx
  have HO : Hid (Owns w w []) := Lib.hid (Owns.start w)
  go_enter Tryd.func3, Tryd.ntmps3
  go_wp2_with fail
  go_at_call 4
  refine (head_c w).mono ?_
  rintro e W1 ⟨rfl, hb⟩
  replace HO := Lib.hid (HO.out.below hb)
  clear hb
  go_wp2_with fail
  go_at_call 5
  refine (new_c rate void day units W1).mono ?_
  rintro e W2 (⟨hbad, rfl, hb⟩ | ⟨hok, b, rfl, ho⟩)
  · replace HO := Lib.hid (HO.out.below hb)
    clear hb hbad
    go_wp2_with fail
    go_ret
    exact ⟨rfl, HO.out.base⟩
  replace HO := Lib.hid (Own_older HO.out ho)
  clear ho
  by_cases h1 : n ≤ 12
  rotate_left
  · have h1' : (12 : Int) < (n : Int) := by omega
    clear h1 hok
    go_wp2_with fail
    go_ret
    exact ⟨rfl, HO.out.base⟩
  have h1' : ¬ (12 : Int) < (n : Int) := by omega
  by_cases h2 : day ≤ td
  rotate_left
  · have h2' : td < day := by omega
    clear h2 hok
    go_wp2_with fail
    go_ret
    exact ⟨rfl, HO.out.base⟩
  have h2' : ¬ td < day := by omega
  by_cases h3 : td ≤ 100000
  rotate_left
  · have h3' : 100000 < td := by omega
    clear h3 hok
    go_wp2_with fail
    go_ret
    exact ⟨rfl, HO.out.base⟩
  have h3' : ¬ 100000 < td := by omega
  have hday : 0 ≤ day := by
    simp only [newA, Bool.and_eq_true] at hok
    exact (isDay_iff.1 hok.1.2).1
  by_cases h4 : td - day ≤ 400
  rotate_left
  · have h4' : 400 < td - day := by omega
    clear h4 hok
    go_wp2_with fail
    go_ret
    exact ⟨rfl, HO.out.base⟩
  have h4' : ¬ 400 < td - day := by omega
  have hgood := new_good hok
  go_wp2_with fail
  obtain ⟨gd, hgd⟩ : ∃ x, x = W2.heap.size := ⟨_, rfl⟩
  obtain ⟨W3, hW3⟩ : ∃ W, W = W2.alloc (.cells #[.int .i64 day] 3) := ⟨_, rfl⟩
  have h5 := HO.out.rowLit (e := 3) (size := 1) (n := 1) [.int .i64 day] (by unfold maxLen; omega) rfl
  rw [← hW3, ← hgd] at h5 ⊢
  have hg3 : W3.heap.size = gd + 1 := by rw [hW3, hgd]; simp
  obtain ⟨gm, hgm⟩ : ∃ x, x = gd + 1 := ⟨_, rfl⟩
  obtain ⟨W4, hW4⟩ : ∃ W, W = W3.alloc (.cells #[.int .i64 units] 3) := ⟨_, rfl⟩
  have h6 := h5.rowLit (e := 3) (size := 1) (n := 1) [.int .i64 units] (by unfold maxLen; omega) rfl
  rw [hg3] at h6
  rw [← hW4, ← hgm] at h6 ⊢
  have HS : Hid (StepI rate void day ⟨rate, void, [(day, units)], false⟩ 1 0) := Lib.hid ⟨hgood, rfl, rfl, rfl, rfl, rfl, by omega⟩
  replace HO : Hid (Owns w W4 (dmP b ⟨rate, void, [(day, units)], false⟩ 1 gd 1 gm 1)) := Lib.hid (Owns.re h6 [2, 1, 0])
  have HT := Lib.hid (And.intro h2 (And.intro h3 (And.intro hday h4)))
  clear h5 h6 hW3 hg3 hgm hgd hW4 hgood hok h1' h2' h3' h4' h2 h3 hday h4
  go_loopw [18, 19, 20] (fun v18 v19 i wr => ∃ (k N gd cd gm cm : Nat) (a : Acc), k ≤ n ∧ i = .int .i64 (k : Int) ∧ v18 = .slice (some ⟨gd, 0, none⟩) N cd ∧ v19 = .slice (some ⟨gm, 0, none⟩) N cm ∧ Hid (StepI rate void day a N k) ∧ Hid (Owns w wr (dmP b a N gd cd gm cm))) (fun _ _ i _ => n - (intOf i).toNat)
  case atStart => exact ⟨0, 1, gd, 1, gm, 1, _, Nat.zero_le _, rfl, rfl, rfl, HS, HO⟩
  clear HO HS
  obtain ⟨k, N, gd, cd, gm, cm, a, hk, rfl, rfl, rfl, HS, HO⟩ := hrel
  by_cases hkn : k < n
  · skip
    as_aux_lemma =>
        have hlt : (k : Int) < (n : Int) := by omega
        obtain ⟨hn, hcell⟩ := HX.out
        have hx : l[k]? = some (l[k]'(by rw [← hn]; exact hkn)) := List.getElem?_eq_getElem _
        obtain ⟨g, o, rfl, hg, d0, d1, d2, d3⟩ := hcell k _ hx
        obtain ⟨⟨sk, sd, su, sl⟩, hxx⟩ : ∃ x, x = l[k]'(by rw [← hn]; exact hkn) := ⟨_, rfl⟩
        rw [← hxx] at d0 d1 d2 d3
        have hb := HO.out.base
        rw [← hb.cell (p := ⟨g, _, none⟩) hg] at d0 d1 d2 d3
        have hg2 : g < wr.heap.size := Nat.lt_of_lt_of_le hg hb.size
        clear hx hxx hcell hb hn
        go_upto_region 10 with fail
        clear d0 d1 d2 d3 hg hg2
        obtain ⟨b21, hb21⟩ : ∃ x, x = wr.heap.size := ⟨_, rfl⟩
        obtain ⟨W5, hW5⟩ : ∃ W, W = wr.alloc (.cells #[.int .i64 sk, .int .i64 sd, .int .i64 su, .bool sl] 30) := ⟨_, rfl⟩
        have h5 := HO.out.box (stO ⟨sk, sd, su, sl⟩)
        rw [← hb21] at h5 ⊢
        rw [← hW5] at h5 ⊢
        replace HO := Lib.hid h5
        clear h5 hb21 hW5
        by_cases hk0 : sk = 0
        · subst hk0
          focus
            obtain ⟨bk, -⟩ := HO.out.blk
            have hbs := lt_of_block bk
            have cs0 : W5.cell? ⟨b21, 0, none⟩ = some (.int .i64 (0)) := by rw [cell_of_heap bk]; rfl
            have cs1 : W5.cell? ⟨b21, 1, none⟩ = some (.int .i64 sd) := by rw [cell_of_heap bk]; rfl
            have cs2 : W5.cell? ⟨b21, 2, none⟩ = some (.int .i64 su) := by rw [cell_of_heap bk]; rfl
            have cs3 : W5.cell? ⟨b21, 3, none⟩ = some (.bool sl) := by rw [cell_of_heap bk]; rfl
            clear bk
            go_wp2_with fail
            clear hbs cs0 cs1 cs2 cs3
          go_at_call 6
          refine (recv_c sd su W5 (Owns.re HO.out [1, 0, 2, 3]) HS.out.good).mono ?_
          rintro e W6 ⟨rfl, h6⟩
          by_cases hE : recvE a sd su = 0
          · have hA : recvA a sd su = { a with ms := a.ms ++ [(sd, su)] } := by unfold recvA; rw [if_pos hE]
            rw [hA] at h6
            rw [hE]
            replace HO := Lib.hid (Owns.re h6 [1, 0, 2, 3])
            clear h6
            go_upto_region 17 with fail
            have hN := HS.out.le
            replace HO : Hid (Owns w W6 (ivP (.slice (some ⟨gd, 0, none⟩) N cd) N (dsI a.ms) :: ivP (.slice (some ⟨gm, 0, none⟩) N cm) N (usI a.ms) :: accP b { a with ms := a.ms ++ [(sd, su)] } :: blk b21 (stO ⟨0, sd, su, sl⟩) :: [])) := Lib.hid (Owns.re HO.out [2, 3, 1, 0])
            refine wp_region_walk [] 12 rfl (by decide +kernel) ?_
            replace HO := Lib.hid HO.out.drew
            generalize hWd : World.drew _ = W7 at HO ⊢
            clear hWd
            focus
              obtain ⟨bk, -⟩ := HO.out.pop.pop.pop.blk
              have hbs := lt_of_block bk
              have cs0 : W7.cell? ⟨b21, 0, none⟩ = some (.int .i64 (0)) := by rw [cell_of_heap bk]; rfl
              have cs1 : W7.cell? ⟨b21, 1, none⟩ = some (.int .i64 sd) := by rw [cell_of_heap bk]; rfl
              have cs2 : W7.cell? ⟨b21, 2, none⟩ = some (.int .i64 su) := by rw [cell_of_heap bk]; rfl
              have cs3 : W7.cell? ⟨b21, 3, none⟩ = some (.bool sl) := by rw [cell_of_heap bk]; rfl
              clear bk
              have HS2 := Lib.hid (HS.out.snoc (m := (sd, su)) (by have h := HS.out.good.recv sd su; rwa [hA] at h))
              refine cw_step 0 (by decide +kernel) (by decide +kernel) (by decide +kernel) ?_; (refine cw_do rfl rfl rfl (by first | rfl | simp [okB, lenV, plainV, Act.eval]) (fun _ _ => ?_); go_wp2_with fail)
              refine cw_step 1 (by decide +kernel) (by decide +kernel) (by decide +kernel) ?_; (refine cw_do rfl rfl rfl (by first | rfl | simp [okB, lenV, plainV, Act.eval]) (fun _ _ => ?_); go_wp2_with fail)
              refine cw_step 2 (by decide +kernel) (by decide +kernel) (by decide +kernel) ?_; (refine cw_do rfl rfl rfl (by first | rfl | simp [okB, lenV, plainV, Act.eval]) (fun _ _ => ?_); go_wp2_with fail)
              refine cw_step 5 (by decide +kernel) (by decide +kernel) (by decide +kernel) ?_; (refine cw_do rfl rfl rfl (by first | rfl | simp [okB, lenV, plainV, Act.eval]) (fun _ _ => ?_); go_wp2_with fail)
              refine cw_step 6 (by decide +kernel) (by decide +kernel) (by decide +kernel) ?_; (refine cw_do rfl rfl rfl (by first | rfl | simp [okB, lenV, plainV, Act.eval]) (fun _ _ => ?_); go_wp2_with fail)
              clear hbs cs0 cs1 cs2 cs3
              refine cw_two 3 7 (by decide +kernel) ?_ ?_
              · skip
                refine cw_do rfl rfl rfl (by first | rfl | simp [okB, lenV, plainV, Act.eval]) (fun _ _ => ?_)
                have hoA := Owns.re (HO.out.box (.cells #[.int .i64 (sd)] 3 (0, 0))) [1, 2, 3, 4, 0]
                obtain ⟨g1, hg⟩ : ∃ x, x = (W7).heap.size := ⟨_, rfl⟩
                obtain ⟨W8, hW⟩ : ∃ W, W = (W7).alloc (.cells #[.int .i64 (sd)] 3) := ⟨_, rfl⟩
                rw [← hW, ← hg] at hoA
                go_wp2_with fail
                rw [← hW, ← hg]
                replace HO := Lib.hid hoA
                clear hoA hW hg
                refine cw_two 4 7 (by decide +kernel) ?_ ?_
                · skip
                  refine cw_do rfl rfl rfl rfl (fun K hK => ?_)
                  refine wp_append (.tmp 117) (.tmp 120) 28 (by rfl) 3 _ 1 8 Tryd.underlying28 info_in (by rfl) (by omega) _ N _ (by rfl) HO.out.row g1 1 1 [.int .i64 sd] (by rfl) (by rfl) 3 (by exact (Owns.blk HO.out.pop.pop.pop.pop).1) (by simp [Value.oneCell']) (by omega) (by omega) ?_
                  intro v2 W9 hrow hgrow hblk
                  have ho2 := Owns.rowGrew HO.out hrow hgrow hblk
                  clear hrow hgrow hblk
                  obtain ⟨gd2, cd2, rfl, -, -, -, -, -⟩ := row_at ho2.row (by omega)
                  replace HO := Lib.hid ho2
                  clear ho2
                  go_wp2_with fail
                  refine cw_step 7 (by decide +kernel) (by decide +kernel) (by decide +kernel) ?_
                  obtain ⟨bk, -⟩ := HO.out.pop.pop.pop.blk
                  have hbs := lt_of_block bk
                  have cs0 : W9.cell? ⟨b21, 0, none⟩ = some (.int .i64 (0)) := by rw [cell_of_heap bk]; rfl
                  have cs1 : W9.cell? ⟨b21, 1, none⟩ = some (.int .i64 sd) := by rw [cell_of_heap bk]; rfl
                  have cs2 : W9.cell? ⟨b21, 2, none⟩ = some (.int .i64 su) := by rw [cell_of_heap bk]; rfl
                  have cs3 : W9.cell? ⟨b21, 3, none⟩ = some (.bool sl) := by rw [cell_of_heap bk]; rfl
                  clear bk
                  (refine cw_do rfl rfl rfl (by first | rfl | simp [okB, lenV, plainV, Act.eval]) (fun _ _ => ?_); go_wp2_with fail)
                  clear hbs cs0 cs1 cs2 cs3
                  refine cw_step 8 (by decide +kernel) (by decide +kernel) (by decide +kernel) ?_
                  refine cw_do rfl rfl rfl (by first | rfl | simp [okB, lenV, plainV, Act.eval]) (fun _ _ => ?_)
                  have hoA := Owns.re (HO.out.box (.cells #[.int .i64 (su)] 3 (0, 0))) [1, 2, 3, 4, 5, 0]
                  obtain ⟨g2, hg⟩ : ∃ x, x = (W9).heap.size := ⟨_, rfl⟩
                  obtain ⟨W10, hW⟩ : ∃ W, W = (W9).alloc (.cells #[.int .i64 (su)] 3) := ⟨_, rfl⟩
                  rw [← hW, ← hg] at hoA
                  go_wp2_with fail
                  rw [← hW, ← hg]
                  replace HO := Lib.hid hoA
                  clear hoA hW hg
                  refine cw_step 9 (by decide +kernel) (by decide +kernel) (by decide +kernel) ?_
                  refine cw_do rfl rfl rfl rfl (fun K hK => ?_)
                  refine wp_append (.tmp 122) (.tmp 125) 28 (by rfl) 3 _ 1 8 Tryd.underlying28 info_in (by rfl) (by omega) _ N _ (by rfl) HO.out.swap.row g2 1 1 [.int .i64 (su)] (by rfl) (by rfl) 3 (by exact (Owns.blk HO.out.pop.pop.pop.pop.pop).1) (by simp [Value.oneCell']) (by omega) (by omega) ?_
                  intro v2 W11 hrow hgrow hblk
                  have ho2 := Owns.rowGrew HO.out.swap hrow hgrow hblk
                  clear hrow hgrow hblk
                  obtain ⟨gm2, cm2, rfl, -, -, -, -, -⟩ := row_at ho2.row (by omega)
                  replace HO := Lib.hid ho2.swap
                  clear ho2
                  go_wp2_with fail
                  refine cw_step 10 (by decide +kernel) (by decide +kernel) (by decide +kernel) ?_; (refine cw_do rfl rfl rfl (by first | rfl | simp [okB, lenV, plainV, Act.eval]) (fun _ _ => ?_); go_wp2_with fail)
                  refine cw_step 11 (by decide +kernel) (by decide +kernel) (by decide +kernel) ?_; (refine cw_do rfl rfl rfl (by first | rfl | simp [okB, lenV, plainV, Act.eval]) (fun _ _ => ?_); go_wp2_with fail)
                  refine cw_nil (by decide +kernel) ?_
                  go_wp2_with fail
                  go_roundw
                  case rel => exact ⟨k + 1, N + 1, gd2, cd2, gm2, cm2, _, by omega, by go_num, rfl, rfl, HS2, Lib.hid (fin_own HO.out)⟩
                  case measure => simp [intOf]; omega
                · skip
                  obtain ⟨bk, -⟩ := HO.out.pop.pop.pop.blk
                  have hbs := lt_of_block bk
                  have cs0 : W8.cell? ⟨b21, 0, none⟩ = some (.int .i64 (0)) := by rw [cell_of_heap bk]; rfl
                  have cs1 : W8.cell? ⟨b21, 1, none⟩ = some (.int .i64 sd) := by rw [cell_of_heap bk]; rfl
                  have cs2 : W8.cell? ⟨b21, 2, none⟩ = some (.int .i64 su) := by rw [cell_of_heap bk]; rfl
                  have cs3 : W8.cell? ⟨b21, 3, none⟩ = some (.bool sl) := by rw [cell_of_heap bk]; rfl
                  clear bk
                  (refine cw_do rfl rfl rfl (by first | rfl | simp [okB, lenV, plainV, Act.eval]) (fun _ _ => ?_); go_wp2_with fail)
                  clear hbs cs0 cs1 cs2 cs3
                  refine cw_two 4 8 (by decide +kernel) ?_ ?_
                  · skip
                    refine cw_do rfl rfl rfl rfl (fun K hK => ?_)
                    refine wp_append (.tmp 117) (.tmp 120) 28 (by rfl) 3 _ 1 8 Tryd.underlying28 info_in (by rfl) (by omega) _ N _ (by rfl) HO.out.row g1 1 1 [.int .i64 sd] (by rfl) (by rfl) 3 (by exact (Owns.blk HO.out.pop.pop.pop.pop).1) (by simp [Value.oneCell']) (by omega) (by omega) ?_
                    intro v2 W9 hrow hgrow hblk
                    have ho2 := Owns.rowGrew HO.out hrow hgrow hblk
                    clear hrow hgrow hblk
                    obtain ⟨gd2, cd2, rfl, -, -, -, -, -⟩ := row_at ho2.row (by omega)
                    replace HO := Lib.hid ho2
                    clear ho2
                    go_wp2_with fail
                    refine cw_step 8 (by decide +kernel) (by decide +kernel) (by decide +kernel) ?_
                    refine cw_do rfl rfl rfl (by first | rfl | simp [okB, lenV, plainV, Act.eval]) (fun _ _ => ?_)
                    have hoA := Owns.re (HO.out.box (.cells #[.int .i64 (su)] 3 (0, 0))) [1, 2, 3, 4, 5, 0]
                    obtain ⟨g2, hg⟩ : ∃ x, x = (W9).heap.size := ⟨_, rfl⟩
                    obtain ⟨W10, hW⟩ : ∃ W, W = (W9).alloc (.cells #[.int .i64 (su)] 3) := ⟨_, rfl⟩
                    rw [← hW, ← hg] at hoA
                    go_wp2_with fail
                    rw [← hW, ← hg]
                    replace HO := Lib.hid hoA
                    clear hoA hW hg
                    refine cw_step 9 (by decide +kernel) (by decide +kernel) (by decide +kernel) ?_
                    refine cw_do rfl rfl rfl rfl (fun K hK => ?_)
                    refine wp_append (.tmp 122) (.tmp 125) 28 (by rfl) 3 _ 1 8 Tryd.underlying28 info_in (by rfl) (by omega) _ N _ (by rfl) HO.out.swap.row g2 1 1 [.int .i64 (su)] (by rfl) (by rfl) 3 (by exact (Owns.blk HO.out.pop.pop.pop.pop.pop).1) (by simp [Value.oneCell']) (by omega) (by omega) ?_
                    intro v2 W11 hrow hgrow hblk
                    have ho2 := Owns.rowGrew HO.out.swap hrow hgrow hblk
                    clear hrow hgrow hblk
                    obtain ⟨gm2, cm2, rfl, -, -, -, -, -⟩ := row_at ho2.row (by omega)
                    replace HO := Lib.hid ho2.swap
                    clear ho2
                    go_wp2_with fail
                    refine cw_step 10 (by decide +kernel) (by decide +kernel) (by decide +kernel) ?_; (refine cw_do rfl rfl rfl (by first | rfl | simp [okB, lenV, plainV, Act.eval]) (fun _ _ => ?_); go_wp2_with fail)
                    refine cw_step 11 (by decide +kernel) (by decide +kernel) (by decide +kernel) ?_; (refine cw_do rfl rfl rfl (by first | rfl | simp [okB, lenV, plainV, Act.eval]) (fun _ _ => ?_); go_wp2_with fail)
                    refine cw_nil (by decide +kernel) ?_
                    go_wp2_with fail
                    go_roundw
                    case rel => exact ⟨k + 1, N + 1, gd2, cd2, gm2, cm2, _, by omega, by go_num, rfl, rfl, HS2, Lib.hid (fin_own HO.out)⟩
                    case measure => simp [intOf]; omega
                  · skip
                    refine cw_do rfl rfl rfl (by first | rfl | simp [okB, lenV, plainV, Act.eval]) (fun _ _ => ?_)
                    have hoA := Owns.re (HO.out.box (.cells #[.int .i64 (su)] 3 (0, 0))) [1, 2, 3, 4, 5, 0]
                    obtain ⟨g2, hg⟩ : ∃ x, x = (W8).heap.size := ⟨_, rfl⟩
                    obtain ⟨W9, hW⟩ : ∃ W, W = (W8).alloc (.cells #[.int .i64 (su)] 3) := ⟨_, rfl⟩
                    rw [← hW, ← hg] at hoA
                    go_wp2_with fail
                    rw [← hW, ← hg]
                    replace HO := Lib.hid hoA
                    clear hoA hW hg
                    refine cw_step 4 (by decide +kernel) (by decide +kernel) (by decide +kernel) ?_
                    refine cw_do rfl rfl rfl rfl (fun K hK => ?_)
                    refine wp_append (.tmp 117) (.tmp 120) 28 (by rfl) 3 _ 1 8 Tryd.underlying28 info_in (by rfl) (by omega) _ N _ (by rfl) HO.out.row g1 1 1 [.int .i64 sd] (by rfl) (by rfl) 3 (by exact (Owns.blk HO.out.pop.pop.pop.pop).1) (by simp [Value.oneCell']) (by omega) (by omega) ?_
                    intro v2 W10 hrow hgrow hblk
                    have ho2 := Owns.rowGrew HO.out hrow hgrow hblk
                    clear hrow hgrow hblk
                    obtain ⟨gd2, cd2, rfl, -, -, -, -, -⟩ := row_at ho2.row (by omega)
                    replace HO := Lib.hid ho2
                    clear ho2
                    go_wp2_with fail
                    refine cw_step 9 (by decide +kernel) (by decide +kernel) (by decide +kernel) ?_
                    refine cw_do rfl rfl rfl rfl (fun K hK => ?_)
                    refine wp_append (.tmp 122) (.tmp 125) 28 (by rfl) 3 _ 1 8 Tryd.underlying28 info_in (by rfl) (by omega) _ N _ (by rfl) HO.out.swap.row g2 1 1 [.int .i64 (su)] (by rfl) (by rfl) 3 (by exact (Owns.blk HO.out.pop.pop.pop.pop.pop).1) (by simp [Value.oneCell']) (by omega) (by omega) ?_
                    intro v2 W11 hrow hgrow hblk
                    have ho2 := Owns.rowGrew HO.out.swap hrow hgrow hblk
                    clear hrow hgrow hblk
                    obtain ⟨gm2, cm2, rfl, -, -, -, -, -⟩ := row_at ho2.row (by omega)
                    replace HO := Lib.hid ho2.swap
                    clear ho2
                    go_wp2_with fail
                    refine cw_step 10 (by decide +kernel) (by decide +kernel) (by decide +kernel) ?_; (refine cw_do rfl rfl rfl (by first | rfl | simp [okB, lenV, plainV, Act.eval]) (fun _ _ => ?_); go_wp2_with fail)
                    refine cw_step 11 (by decide +kernel) (by decide +kernel) (by decide +kernel) ?_; (refine cw_do rfl rfl rfl (by first | rfl | simp [okB, lenV, plainV, Act.eval]) (fun _ _ => ?_); go_wp2_with fail)
                    refine cw_nil (by decide +kernel) ?_
                    go_wp2_with fail
                    go_roundw
                    case rel => exact ⟨k + 1, N + 1, gd2, cd2, gm2, cm2, _, by omega, by go_num, rfl, rfl, HS2, Lib.hid (fin_own HO.out)⟩
                    case measure => simp [intOf]; omega
              · skip
                obtain ⟨bk, -⟩ := HO.out.pop.pop.pop.blk
                have hbs := lt_of_block bk
                have cs0 : W7.cell? ⟨b21, 0, none⟩ = some (.int .i64 (0)) := by rw [cell_of_heap bk]; rfl
                have cs1 : W7.cell? ⟨b21, 1, none⟩ = some (.int .i64 sd) := by rw [cell_of_heap bk]; rfl
                have cs2 : W7.cell? ⟨b21, 2, none⟩ = some (.int .i64 su) := by rw [cell_of_heap bk]; rfl
                have cs3 : W7.cell? ⟨b21, 3, none⟩ = some (.bool sl) := by rw [cell_of_heap bk]; rfl
                clear bk
                (refine cw_do rfl rfl rfl (by first | rfl | simp [okB, lenV, plainV, Act.eval]) (fun _ _ => ?_); go_wp2_with fail)
                clear hbs cs0 cs1 cs2 cs3
                refine cw_two 3 8 (by decide +kernel) ?_ ?_
                · skip
                  refine cw_do rfl rfl rfl (by first | rfl | simp [okB, lenV, plainV, Act.eval]) (fun _ _ => ?_)
                  have hoA := Owns.re (HO.out.box (.cells #[.int .i64 (sd)] 3 (0, 0))) [1, 2, 3, 4, 0]
                  obtain ⟨g1, hg⟩ : ∃ x, x = (W7).heap.size := ⟨_, rfl⟩
                  obtain ⟨W8, hW⟩ : ∃ W, W = (W7).alloc (.cells #[.int .i64 (sd)] 3) := ⟨_, rfl⟩
                  rw [← hW, ← hg] at hoA
                  go_wp2_with fail
                  rw [← hW, ← hg]
                  replace HO := Lib.hid hoA
                  clear hoA hW hg
                  refine cw_two 4 8 (by decide +kernel) ?_ ?_
                  · skip
                    refine cw_do rfl rfl rfl rfl (fun K hK => ?_)
                    refine wp_append (.tmp 117) (.tmp 120) 28 (by rfl) 3 _ 1 8 Tryd.underlying28 info_in (by rfl) (by omega) _ N _ (by rfl) HO.out.row g1 1 1 [.int .i64 sd] (by rfl) (by rfl) 3 (by exact (Owns.blk HO.out.pop.pop.pop.pop).1) (by simp [Value.oneCell']) (by omega) (by omega) ?_
                    intro v2 W9 hrow hgrow hblk
                    have ho2 := Owns.rowGrew HO.out hrow hgrow hblk
                    clear hrow hgrow hblk
                    obtain ⟨gd2, cd2, rfl, -, -, -, -, -⟩ := row_at ho2.row (by omega)
                    replace HO := Lib.hid ho2
                    clear ho2
                    go_wp2_with fail
                    refine cw_step 8 (by decide +kernel) (by decide +kernel) (by decide +kernel) ?_
                    refine cw_do rfl rfl rfl (by first | rfl | simp [okB, lenV, plainV, Act.eval]) (fun _ _ => ?_)
                    have hoA := Owns.re (HO.out.box (.cells #[.int .i64 (su)] 3 (0, 0))) [1, 2, 3, 4, 5, 0]
                    obtain ⟨g2, hg⟩ : ∃ x, x = (W9).heap.size := ⟨_, rfl⟩
                    obtain ⟨W10, hW⟩ : ∃ W, W = (W9).alloc (.cells #[.int .i64 (su)] 3) := ⟨_, rfl⟩
                    rw [← hW, ← hg] at hoA
                    go_wp2_with fail
                    rw [← hW, ← hg]
                    replace HO := Lib.hid hoA
                    clear hoA hW hg
                    refine cw_step 9 (by decide +kernel) (by decide +kernel) (by decide +kernel) ?_
                    refine cw_do rfl rfl rfl rfl (fun K hK => ?_)
                    refine wp_append (.tmp 122) (.tmp 125) 28 (by rfl) 3 _ 1 8 Tryd.underlying28 info_in (by rfl) (by omega) _ N _ (by rfl) HO.out.swap.row g2 1 1 [.int .i64 (su)] (by rfl) (by rfl) 3 (by exact (Owns.blk HO.out.pop.pop.pop.pop.pop).1) (by simp [Value.oneCell']) (by omega) (by omega) ?_
                    intro v2 W11 hrow hgrow hblk
                    have ho2 := Owns.rowGrew HO.out.swap hrow hgrow hblk
                    clear hrow hgrow hblk
                    obtain ⟨gm2, cm2, rfl, -, -, -, -, -⟩ := row_at ho2.row (by omega)
                    replace HO := Lib.hid ho2.swap
                    clear ho2
                    go_wp2_with fail
                    refine cw_step 10 (by decide +kernel) (by decide +kernel) (by decide +kernel) ?_; (refine cw_do rfl rfl rfl (by first | rfl | simp [okB, lenV, plainV, Act.eval]) (fun _ _ => ?_); go_wp2_with fail)
                    refine cw_step 11 (by decide +kernel) (by decide +kernel) (by decide +kernel) ?_; (refine cw_do rfl rfl rfl (by first | rfl | simp [okB, lenV, plainV, Act.eval]) (fun _ _ => ?_); go_wp2_with fail)
                    refine cw_nil (by decide +kernel) ?_
                    go_wp2_with fail
                    go_roundw
                    case rel => exact ⟨k + 1, N + 1, gd2, cd2, gm2, cm2, _, by omega, by go_num, rfl, rfl, HS2, Lib.hid (fin_own HO.out)⟩
                    case measure => simp [intOf]; omega
                  · skip
                    refine cw_do rfl rfl rfl (by first | rfl | simp [okB, lenV, plainV, Act.eval]) (fun _ _ => ?_)
                    have hoA := Owns.re (HO.out.box (.cells #[.int .i64 (su)] 3 (0, 0))) [1, 2, 3, 4, 5, 0]
                    obtain ⟨g2, hg⟩ : ∃ x, x = (W8).heap.size := ⟨_, rfl⟩
                    obtain ⟨W9, hW⟩ : ∃ W, W = (W8).alloc (.cells #[.int .i64 (su)] 3) := ⟨_, rfl⟩
                    rw [← hW, ← hg] at hoA
                    go_wp2_with fail
                    rw [← hW, ← hg]
                    replace HO := Lib.hid hoA
                    clear hoA hW hg
                    refine cw_step 4 (by decide +kernel) (by decide +kernel) (by decide +kernel) ?_
                    refine cw_do rfl rfl rfl rfl (fun K hK => ?_)
                    refine wp_append (.tmp 117) (.tmp 120) 28 (by rfl) 3 _ 1 8 Tryd.underlying28 info_in (by rfl) (by omega) _ N _ (by rfl) HO.out.row g1 1 1 [.int .i64 sd] (by rfl) (by rfl) 3 (by exact (Owns.blk HO.out.pop.pop.pop.pop).1) (by simp [Value.oneCell']) (by omega) (by omega) ?_
                    intro v2 W10 hrow hgrow hblk
                    have ho2 := Owns.rowGrew HO.out hrow hgrow hblk
                    clear hrow hgrow hblk
                    obtain ⟨gd2, cd2, rfl, -, -, -, -, -⟩ := row_at ho2.row (by omega)
                    replace HO := Lib.hid ho2
                    clear ho2
                    go_wp2_with fail
                    refine cw_step 9 (by decide +kernel) (by decide +kernel) (by decide +kernel) ?_
                    refine cw_do rfl rfl rfl rfl (fun K hK => ?_)
                    refine wp_append (.tmp 122) (.tmp 125) 28 (by rfl) 3 _ 1 8 Tryd.underlying28 info_in (by rfl) (by omega) _ N _ (by rfl) HO.out.swap.row g2 1 1 [.int .i64 (su)] (by rfl) (by rfl) 3 (by exact (Owns.blk HO.out.pop.pop.pop.pop.pop).1) (by simp [Value.oneCell']) (by omega) (by omega) ?_
                    intro v2 W11 hrow hgrow hblk
                    have ho2 := Owns.rowGrew HO.out.swap hrow hgrow hblk
                    clear hrow hgrow hblk
                    obtain ⟨gm2, cm2, rfl, -, -, -, -, -⟩ := row_at ho2.row (by omega)
                    replace HO := Lib.hid ho2.swap
                    clear ho2
                    go_wp2_with fail
                    refine cw_step 10 (by decide +kernel) (by decide +kernel) (by decide +kernel) ?_; (refine cw_do rfl rfl rfl (by first | rfl | simp [okB, lenV, plainV, Act.eval]) (fun _ _ => ?_); go_wp2_with fail)
                    refine cw_step 11 (by decide +kernel) (by decide +kernel) (by decide +kernel) ?_; (refine cw_do rfl rfl rfl (by first | rfl | simp [okB, lenV, plainV, Act.eval]) (fun _ _ => ?_); go_wp2_with fail)
                    refine cw_nil (by decide +kernel) ?_
                    go_wp2_with fail
                    go_roundw
                    case rel => exact ⟨k + 1, N + 1, gd2, cd2, gm2, cm2, _, by omega, by go_num, rfl, rfl, HS2, Lib.hid (fin_own HO.out)⟩
                    case measure => simp [intOf]; omega
                · skip
                  refine cw_do rfl rfl rfl (by first | rfl | simp [okB, lenV, plainV, Act.eval]) (fun _ _ => ?_)
                  have hoA := Owns.re (HO.out.box (.cells #[.int .i64 (su)] 3 (0, 0))) [1, 2, 3, 4, 0]
                  obtain ⟨g2, hg⟩ : ∃ x, x = (W7).heap.size := ⟨_, rfl⟩
                  obtain ⟨W8, hW⟩ : ∃ W, W = (W7).alloc (.cells #[.int .i64 (su)] 3) := ⟨_, rfl⟩
                  rw [← hW, ← hg] at hoA
                  go_wp2_with fail
                  rw [← hW, ← hg]
                  replace HO := Lib.hid hoA
                  clear hoA hW hg
                  refine cw_step 3 (by decide +kernel) (by decide +kernel) (by decide +kernel) ?_
                  refine cw_do rfl rfl rfl (by first | rfl | simp [okB, lenV, plainV, Act.eval]) (fun _ _ => ?_)
                  have hoA := Owns.re (HO.out.box (.cells #[.int .i64 (sd)] 3 (0, 0))) [1, 2, 3, 4, 5, 0]
                  obtain ⟨g1, hg⟩ : ∃ x, x = (W8).heap.size := ⟨_, rfl⟩
                  obtain ⟨W9, hW⟩ : ∃ W, W = (W8).alloc (.cells #[.int .i64 (sd)] 3) := ⟨_, rfl⟩
                  rw [← hW, ← hg] at hoA
                  go_wp2_with fail
                  rw [← hW, ← hg]
                  replace HO := Lib.hid hoA
                  clear hoA hW hg
                  refine cw_step 4 (by decide +kernel) (by decide +kernel) (by decide +kernel) ?_
                  refine cw_do rfl rfl rfl rfl (fun K hK => ?_)
                  refine wp_append (.tmp 117) (.tmp 120) 28 (by rfl) 3 _ 1 8 Tryd.underlying28 info_in (by rfl) (by omega) _ N _ (by rfl) HO.out.row g1 1 1 [.int .i64 sd] (by rfl) (by rfl) 3 (by exact (Owns.blk HO.out.pop.pop.pop.pop.pop).1) (by simp [Value.oneCell']) (by omega) (by omega) ?_
                  intro v2 W10 hrow hgrow hblk
                  have ho2 := Owns.rowGrew HO.out hrow hgrow hblk
                  clear hrow hgrow hblk
                  obtain ⟨gd2, cd2, rfl, -, -, -, -, -⟩ := row_at ho2.row (by omega)
                  replace HO := Lib.hid ho2
                  clear ho2
                  go_wp2_with fail
                  refine cw_step 9 (by decide +kernel) (by decide +kernel) (by decide +kernel) ?_
                  refine cw_do rfl rfl rfl rfl (fun K hK => ?_)
                  refine wp_append (.tmp 122) (.tmp 125) 28 (by rfl) 3 _ 1 8 Tryd.underlying28 info_in (by rfl) (by omega) _ N _ (by rfl) HO.out.swap.row g2 1 1 [.int .i64 (su)] (by rfl) (by rfl) 3 (by exact (Owns.blk HO.out.pop.pop.pop.pop).1) (by simp [Value.oneCell']) (by omega) (by omega) ?_
                  intro v2 W11 hrow hgrow hblk
                  have ho2 := Owns.rowGrew HO.out.swap hrow hgrow hblk
                  clear hrow hgrow hblk
                  obtain ⟨gm2, cm2, rfl, -, -, -, -, -⟩ := row_at ho2.row (by omega)
                  replace HO := Lib.hid ho2.swap
                  clear ho2
                  go_wp2_with fail
                  refine cw_step 10 (by decide +kernel) (by decide +kernel) (by decide +kernel) ?_; (refine cw_do rfl rfl rfl (by first | rfl | simp [okB, lenV, plainV, Act.eval]) (fun _ _ => ?_); go_wp2_with fail)
                  refine cw_step 11 (by decide +kernel) (by decide +kernel) (by decide +kernel) ?_; (refine cw_do rfl rfl rfl (by first | rfl | simp [okB, lenV, plainV, Act.eval]) (fun _ _ => ?_); go_wp2_with fail)
                  refine cw_nil (by decide +kernel) ?_
                  go_wp2_with fail
                  go_roundw
                  case rel => exact ⟨k + 1, N + 1, gd2, cd2, gm2, cm2, _, by omega, by go_num, rfl, rfl, HS2, Lib.hid (fin_own HO.out)⟩
                  case measure => simp [intOf]; omega
          · obtain ⟨E, hEE⟩ : ∃ E, E = recvE a sd su := ⟨_, rfl⟩
            have hA : recvA a sd su = a := by unfold recvA; rw [if_neg hE]
            rw [← hEE] at hE ⊢
            rw [hA] at h6
            have hE' : ¬ (E : Int) = 0 := by omega
            replace HO := Lib.hid (Owns.re h6 [1, 0, 2, 3])
            clear h6 hE hEE hA
            go_wp2_with fail
            go_roundw
            case rel => exact ⟨k + 1, N, gd, cd, gm, cm, a, by omega, by go_num, rfl, rfl, Lib.hid (HS.out.next (by omega)), Lib.hid HO.out.pop⟩
            case measure => simp [intOf]; omega
        · by_cases hk1 : sk = 1
          · subst hk1
            focus
              obtain ⟨bk, -⟩ := HO.out.blk
              have hbs := lt_of_block bk
              have cs0 : W5.cell? ⟨b21, 0, none⟩ = some (.int .i64 (1)) := by rw [cell_of_heap bk]; rfl
              have cs1 : W5.cell? ⟨b21, 1, none⟩ = some (.int .i64 sd) := by rw [cell_of_heap bk]; rfl
              have cs2 : W5.cell? ⟨b21, 2, none⟩ = some (.int .i64 su) := by rw [cell_of_heap bk]; rfl
              have cs3 : W5.cell? ⟨b21, 3, none⟩ = some (.bool sl) := by rw [cell_of_heap bk]; rfl
              clear bk
              go_wp2_with fail
              clear hbs cs0 cs1 cs2 cs3
            go_at_call 7
            refine (move_c sd su sl W5 (Owns.re HO.out [1, 0, 2, 3]) HS.out.good).mono ?_
            rintro e W6 ⟨rfl, h6⟩
            by_cases hE : moveE a sd su sl = 0
            · have hA : moveA a sd su sl = { a with ms := a.ms ++ [(sd, -su)] } := by unfold moveA; rw [if_pos hE]
              have hsu : 1 ≤ su ∧ su ≤ 1000000000000 := by
                have h := hE
                unfold moveE at h
                split at h
                · rename_i h2
                  rw [Bool.and_eq_true] at h2
                  exact inB_iff.1 h2.2
                · omega
              rw [hA] at h6
              rw [hE]
              replace HO := Lib.hid (Owns.re h6 [1, 0, 2, 3])
              clear h6 hk0
              go_upto_region 20 with fail
              have hN := HS.out.le
              replace HO : Hid (Owns w W6 (ivP (.slice (some ⟨gd, 0, none⟩) N cd) N (dsI a.ms) :: ivP (.slice (some ⟨gm, 0, none⟩) N cm) N (usI a.ms) :: accP b { a with ms := a.ms ++ [(sd, -su)] } :: blk b21 (stO ⟨1, sd, su, sl⟩) :: [])) := Lib.hid (Owns.re HO.out [2, 3, 1, 0])
              refine wp_region_walk [] 13 rfl (by decide +kernel) ?_
              replace HO := Lib.hid HO.out.drew
              generalize hWd : World.drew _ = W7 at HO ⊢
              clear hWd
              focus
                obtain ⟨bk, -⟩ := HO.out.pop.pop.pop.blk
                have hbs := lt_of_block bk
                have cs0 : W7.cell? ⟨b21, 0, none⟩ = some (.int .i64 (1)) := by rw [cell_of_heap bk]; rfl
                have cs1 : W7.cell? ⟨b21, 1, none⟩ = some (.int .i64 sd) := by rw [cell_of_heap bk]; rfl
                have cs2 : W7.cell? ⟨b21, 2, none⟩ = some (.int .i64 su) := by rw [cell_of_heap bk]; rfl
                have cs3 : W7.cell? ⟨b21, 3, none⟩ = some (.bool sl) := by rw [cell_of_heap bk]; rfl
                clear bk
                have HS2 := Lib.hid (HS.out.snoc (m := (sd, -su)) (by have h := HS.out.good.move sd su sl; rwa [hA] at h))
                refine cw_step 0 (by decide +kernel) (by decide +kernel) (by decide +kernel) ?_; (refine cw_do rfl rfl rfl (by first | rfl | simp [okB, lenV, plainV, Act.eval]) (fun _ _ => ?_); go_wp2_with fail)
                refine cw_step 1 (by decide +kernel) (by decide +kernel) (by decide +kernel) ?_; (refine cw_do rfl rfl rfl (by first | rfl | simp [okB, lenV, plainV, Act.eval]) (fun _ _ => ?_); go_wp2_with fail)
                refine cw_step 2 (by decide +kernel) (by decide +kernel) (by decide +kernel) ?_; (refine cw_do rfl rfl rfl (by first | rfl | simp [okB, lenV, plainV, Act.eval]) (fun _ _ => ?_); go_wp2_with fail)
                refine cw_step 5 (by decide +kernel) (by decide +kernel) (by decide +kernel) ?_; (refine cw_do rfl rfl rfl (by first | rfl | simp [okB, lenV, plainV, Act.eval]) (fun _ _ => ?_); go_wp2_with fail)
                refine cw_step 6 (by decide +kernel) (by decide +kernel) (by decide +kernel) ?_; (refine cw_do rfl rfl rfl (by first | rfl | simp [okB, lenV, plainV, Act.eval]) (fun _ _ => ?_); go_wp2_with fail)
                clear hbs cs0 cs1 cs2 cs3
                refine cw_two 3 7 (by decide +kernel) ?_ ?_
                · skip
                  refine cw_do rfl rfl rfl (by first | rfl | simp [okB, lenV, plainV, Act.eval]) (fun _ _ => ?_)
                  have hoA := Owns.re (HO.out.box (.cells #[.int .i64 (sd)] 3 (0, 0))) [1, 2, 3, 4, 0]
                  obtain ⟨g1, hg⟩ : ∃ x, x = (W7).heap.size := ⟨_, rfl⟩
                  obtain ⟨W8, hW⟩ : ∃ W, W = (W7).alloc (.cells #[.int .i64 (sd)] 3) := ⟨_, rfl⟩
                  rw [← hW, ← hg] at hoA
                  go_wp2_with fail
                  rw [← hW, ← hg]
                  replace HO := Lib.hid hoA
                  clear hoA hW hg
                  refine cw_two 4 7 (by decide +kernel) ?_ ?_
                  · skip
                    refine cw_do rfl rfl rfl rfl (fun K hK => ?_)
                    refine wp_append (.tmp 138) (.tmp 141) 28 (by rfl) 3 _ 1 8 Tryd.underlying28 info_in (by rfl) (by omega) _ N _ (by rfl) HO.out.row g1 1 1 [.int .i64 sd] (by rfl) (by rfl) 3 (by exact (Owns.blk HO.out.pop.pop.pop.pop).1) (by simp [Value.oneCell']) (by omega) (by omega) ?_
                    intro v2 W9 hrow hgrow hblk
                    have ho2 := Owns.rowGrew HO.out hrow hgrow hblk
                    clear hrow hgrow hblk
                    obtain ⟨gd2, cd2, rfl, -, -, -, -, -⟩ := row_at ho2.row (by omega)
                    replace HO := Lib.hid ho2
                    clear ho2
                    go_wp2_with fail
                    refine cw_step 7 (by decide +kernel) (by decide +kernel) (by decide +kernel) ?_
                    obtain ⟨bk, -⟩ := HO.out.pop.pop.pop.blk
                    have hbs := lt_of_block bk
                    have cs0 : W9.cell? ⟨b21, 0, none⟩ = some (.int .i64 (1)) := by rw [cell_of_heap bk]; rfl
                    have cs1 : W9.cell? ⟨b21, 1, none⟩ = some (.int .i64 sd) := by rw [cell_of_heap bk]; rfl
                    have cs2 : W9.cell? ⟨b21, 2, none⟩ = some (.int .i64 su) := by rw [cell_of_heap bk]; rfl
                    have cs3 : W9.cell? ⟨b21, 3, none⟩ = some (.bool sl) := by rw [cell_of_heap bk]; rfl
                    clear bk
                    (refine cw_do rfl rfl rfl (by first | rfl | simp [okB, lenV, plainV, Act.eval]) (fun _ _ => ?_); go_wp2_with fail)
                    clear hbs cs0 cs1 cs2 cs3
                    refine cw_step 8 (by decide +kernel) (by decide +kernel) (by decide +kernel) ?_; (refine cw_do rfl rfl rfl (by first | rfl | simp [okB, lenV, plainV, Act.eval]) (fun _ _ => ?_); go_wp2_with fail)
                    refine cw_step 9 (by decide +kernel) (by decide +kernel) (by decide +kernel) ?_
                    refine cw_do rfl rfl rfl (by first | rfl | simp [okB, lenV, plainV, Act.eval]) (fun _ _ => ?_)
                    have hoA := Owns.re (HO.out.box (.cells #[.int .i64 (-su)] 3 (0, 0))) [1, 2, 3, 4, 5, 0]
                    obtain ⟨g2, hg⟩ : ∃ x, x = (W9).heap.size := ⟨_, rfl⟩
                    obtain ⟨W10, hW⟩ : ∃ W, W = (W9).alloc (.cells #[.int .i64 (-su)] 3) := ⟨_, rfl⟩
                    rw [← hW, ← hg] at hoA
                    go_wp2_with fail
                    rw [← hW, ← hg]
                    replace HO := Lib.hid hoA
                    clear hoA hW hg
                    refine cw_step 10 (by decide +kernel) (by decide +kernel) (by decide +kernel) ?_
                    refine cw_do rfl rfl rfl rfl (fun K hK => ?_)
                    refine wp_append (.tmp 143) (.tmp 147) 28 (by rfl) 3 _ 1 8 Tryd.underlying28 info_in (by rfl) (by omega) _ N _ (by rfl) HO.out.swap.row g2 1 1 [.int .i64 (-su)] (by rfl) (by rfl) 3 (by exact (Owns.blk HO.out.pop.pop.pop.pop.pop).1) (by simp [Value.oneCell']) (by omega) (by omega) ?_
                    intro v2 W11 hrow hgrow hblk
                    have ho2 := Owns.rowGrew HO.out.swap hrow hgrow hblk
                    clear hrow hgrow hblk
                    obtain ⟨gm2, cm2, rfl, -, -, -, -, -⟩ := row_at ho2.row (by omega)
                    replace HO := Lib.hid ho2.swap
                    clear ho2
                    go_wp2_with fail
                    refine cw_step 11 (by decide +kernel) (by decide +kernel) (by decide +kernel) ?_; (refine cw_do rfl rfl rfl (by first | rfl | simp [okB, lenV, plainV, Act.eval]) (fun _ _ => ?_); go_wp2_with fail)
                    refine cw_step 12 (by decide +kernel) (by decide +kernel) (by decide +kernel) ?_; (refine cw_do rfl rfl rfl (by first | rfl | simp [okB, lenV, plainV, Act.eval]) (fun _ _ => ?_); go_wp2_with fail)
                    refine cw_nil (by decide +kernel) ?_
                    go_wp2_with fail
                    go_roundw
                    case rel => exact ⟨k + 1, N + 1, gd2, cd2, gm2, cm2, _, by omega, by go_num, rfl, rfl, HS2, Lib.hid (fin_own HO.out)⟩
                    case measure => simp [intOf]; omega
                  · skip
                    obtain ⟨bk, -⟩ := HO.out.pop.pop.pop.blk
                    have hbs := lt_of_block bk
                    have cs0 : W8.cell? ⟨b21, 0, none⟩ = some (.int .i64 (1)) := by rw [cell_of_heap bk]; rfl
                    have cs1 : W8.cell? ⟨b21, 1, none⟩ = some (.int .i64 sd) := by rw [cell_of_heap bk]; rfl
                    have cs2 : W8.cell? ⟨b21, 2, none⟩ = some (.int .i64 su) := by rw [cell_of_heap bk]; rfl
                    have cs3 : W8.cell? ⟨b21, 3, none⟩ = some (.bool sl) := by rw [cell_of_heap bk]; rfl
                    clear bk
                    (refine cw_do rfl rfl rfl (by first | rfl | simp [okB, lenV, plainV, Act.eval]) (fun _ _ => ?_); go_wp2_with fail)
                    clear hbs cs0 cs1 cs2 cs3
                    refine cw_step 8 (by decide +kernel) (by decide +kernel) (by decide +kernel) ?_; (refine cw_do rfl rfl rfl (by first | rfl | simp [okB, lenV, plainV, Act.eval]) (fun _ _ => ?_); go_wp2_with fail)
                    refine cw_two 4 9 (by decide +kernel) ?_ ?_
                    · skip
                      refine cw_do rfl rfl rfl rfl (fun K hK => ?_)
                      refine wp_append (.tmp 138) (.tmp 141) 28 (by rfl) 3 _ 1 8 Tryd.underlying28 info_in (by rfl) (by omega) _ N _ (by rfl) HO.out.row g1 1 1 [.int .i64 sd] (by rfl) (by rfl) 3 (by exact (Owns.blk HO.out.pop.pop.pop.pop).1) (by simp [Value.oneCell']) (by omega) (by omega) ?_
                      intro v2 W9 hrow hgrow hblk
                      have ho2 := Owns.rowGrew HO.out hrow hgrow hblk
                      clear hrow hgrow hblk
                      obtain ⟨gd2, cd2, rfl, -, -, -, -, -⟩ := row_at ho2.row (by omega)
                      replace HO := Lib.hid ho2
                      clear ho2
                      go_wp2_with fail
                      refine cw_step 9 (by decide +kernel) (by decide +kernel) (by decide +kernel) ?_
                      refine cw_do rfl rfl rfl (by first | rfl | simp [okB, lenV, plainV, Act.eval]) (fun _ _ => ?_)
                      have hoA := Owns.re (HO.out.box (.cells #[.int .i64 (-su)] 3 (0, 0))) [1, 2, 3, 4, 5, 0]
                      obtain ⟨g2, hg⟩ : ∃ x, x = (W9).heap.size := ⟨_, rfl⟩
                      obtain ⟨W10, hW⟩ : ∃ W, W = (W9).alloc (.cells #[.int .i64 (-su)] 3) := ⟨_, rfl⟩
                      rw [← hW, ← hg] at hoA
                      go_wp2_with fail
                      rw [← hW, ← hg]
                      replace HO := Lib.hid hoA
                      clear hoA hW hg
                      refine cw_step 10 (by decide +kernel) (by decide +kernel) (by decide +kernel) ?_
                      refine cw_do rfl rfl rfl rfl (fun K hK => ?_)
                      refine wp_append (.tmp 143) (.tmp 147) 28 (by rfl) 3 _ 1 8 Tryd.underlying28 info_in (by rfl) (by omega) _ N _ (by rfl) HO.out.swap.row g2 1 1 [.int .i64 (-su)] (by rfl) (by rfl) 3 (by exact (Owns.blk HO.out.pop.pop.pop.pop.pop).1) (by simp [Value.oneCell']) (by omega) (by omega) ?_
                      intro v2 W11 hrow hgrow hblk
                      have ho2 := Owns.rowGrew HO.out.swap hrow hgrow hblk
                      clear hrow hgrow hblk
                      obtain ⟨gm2, cm2, rfl, -, -, -, -, -⟩ := row_at ho2.row (by omega)
                      replace HO := Lib.hid ho2.swap
                      clear ho2
                      go_wp2_with fail
                      refine cw_step 11 (by decide +kernel) (by decide +kernel) (by decide +kernel) ?_; (refine cw_do rfl rfl rfl (by first | rfl | simp [okB, lenV, plainV, Act.eval]) (fun _ _ => ?_); go_wp2_with fail)
                      refine cw_step 12 (by decide +kernel) (by decide +kernel) (by decide +kernel) ?_; (refine cw_do rfl rfl rfl (by first | rfl | simp [okB, lenV, plainV, Act.eval]) (fun _ _ => ?_); go_wp2_with fail)
                      refine cw_nil (by decide +kernel) ?_
                      go_wp2_with fail
                      go_roundw
                      case rel => exact ⟨k + 1, N + 1, gd2, cd2, gm2, cm2, _, by omega, by go_num, rfl, rfl, HS2, Lib.hid (fin_own HO.out)⟩
                      case measure => simp [intOf]; omega
                    · skip
                      refine cw_do rfl rfl rfl (by first | rfl | simp [okB, lenV, plainV, Act.eval]) (fun _ _ => ?_)
                      have hoA := Owns.re (HO.out.box (.cells #[.int .i64 (-su)] 3 (0, 0))) [1, 2, 3, 4, 5, 0]
                      obtain ⟨g2, hg⟩ : ∃ x, x = (W8).heap.size := ⟨_, rfl⟩
                      obtain ⟨W9, hW⟩ : ∃ W, W = (W8).alloc (.cells #[.int .i64 (-su)] 3) := ⟨_, rfl⟩
                      rw [← hW, ← hg] at hoA
                      go_wp2_with fail
                      rw [← hW, ← hg]
                      replace HO := Lib.hid hoA
                      clear hoA hW hg
                      refine cw_step 4 (by decide +kernel) (by decide +kernel) (by decide +kernel) ?_
                      refine cw_do rfl rfl rfl rfl (fun K hK => ?_)
                      refine wp_append (.tmp 138) (.tmp 141) 28 (by rfl) 3 _ 1 8 Tryd.underlying28 info_in (by rfl) (by omega) _ N _ (by rfl) HO.out.row g1 1 1 [.int .i64 sd] (by rfl) (by rfl) 3 (by exact (Owns.blk HO.out.pop.pop.pop.pop).1) (by simp [Value.oneCell']) (by omega) (by omega) ?_
                      intro v2 W10 hrow hgrow hblk
                      have ho2 := Owns.rowGrew HO.out hrow hgrow hblk
                      clear hrow hgrow hblk
                      obtain ⟨gd2, cd2, rfl, -, -, -, -, -⟩ := row_at ho2.row (by omega)
                      replace HO := Lib.hid ho2
                      clear ho2
                      go_wp2_with fail
                      refine cw_step 10 (by decide +kernel) (by decide +kernel) (by decide +kernel) ?_
                      refine cw_do rfl rfl rfl rfl (fun K hK => ?_)
                      refine wp_append (.tmp 143) (.tmp 147) 28 (by rfl) 3 _ 1 8 Tryd.underlying28 info_in (by rfl) (by omega) _ N _ (by rfl) HO.out.swap.row g2 1 1 [.int .i64 (-su)] (by rfl) (by rfl) 3 (by exact (Owns.blk HO.out.pop.pop.pop.pop.pop).1) (by simp [Value.oneCell']) (by omega) (by omega) ?_
                      intro v2 W11 hrow hgrow hblk
                      have ho2 := Owns.rowGrew HO.out.swap hrow hgrow hblk
                      clear hrow hgrow hblk
                      obtain ⟨gm2, cm2, rfl, -, -, -, -, -⟩ := row_at ho2.row (by omega)
                      replace HO := Lib.hid ho2.swap
                      clear ho2
                      go_wp2_with fail
                      refine cw_step 11 (by decide +kernel) (by decide +kernel) (by decide +kernel) ?_; (refine cw_do rfl rfl rfl (by first | rfl | simp [okB, lenV, plainV, Act.eval]) (fun _ _ => ?_); go_wp2_with fail)
                      refine cw_step 12 (by decide +kernel) (by decide +kernel) (by decide +kernel) ?_; (refine cw_do rfl rfl rfl (by first | rfl | simp [okB, lenV, plainV, Act.eval]) (fun _ _ => ?_); go_wp2_with fail)
                      refine cw_nil (by decide +kernel) ?_
                      go_wp2_with fail
                      go_roundw
                      case rel => exact ⟨k + 1, N + 1, gd2, cd2, gm2, cm2, _, by omega, by go_num, rfl, rfl, HS2, Lib.hid (fin_own HO.out)⟩
                      case measure => simp [intOf]; omega
                · skip
                  obtain ⟨bk, -⟩ := HO.out.pop.pop.pop.blk
                  have hbs := lt_of_block bk
                  have cs0 : W7.cell? ⟨b21, 0, none⟩ = some (.int .i64 (1)) := by rw [cell_of_heap bk]; rfl
                  have cs1 : W7.cell? ⟨b21, 1, none⟩ = some (.int .i64 sd) := by rw [cell_of_heap bk]; rfl
                  have cs2 : W7.cell? ⟨b21, 2, none⟩ = some (.int .i64 su) := by rw [cell_of_heap bk]; rfl
                  have cs3 : W7.cell? ⟨b21, 3, none⟩ = some (.bool sl) := by rw [cell_of_heap bk]; rfl
                  clear bk
                  (refine cw_do rfl rfl rfl (by first | rfl | simp [okB, lenV, plainV, Act.eval]) (fun _ _ => ?_); go_wp2_with fail)
                  clear hbs cs0 cs1 cs2 cs3
                  refine cw_step 8 (by decide +kernel) (by decide +kernel) (by decide +kernel) ?_; (refine cw_do rfl rfl rfl (by first | rfl | simp [okB, lenV, plainV, Act.eval]) (fun _ _ => ?_); go_wp2_with fail)
                  refine cw_two 3 9 (by decide +kernel) ?_ ?_
                  · skip
                    refine cw_do rfl rfl rfl (by first | rfl | simp [okB, lenV, plainV, Act.eval]) (fun _ _ => ?_)
                    have hoA := Owns.re (HO.out.box (.cells #[.int .i64 (sd)] 3 (0, 0))) [1, 2, 3, 4, 0]
                    obtain ⟨g1, hg⟩ : ∃ x, x = (W7).heap.size := ⟨_, rfl⟩
                    obtain ⟨W8, hW⟩ : ∃ W, W = (W7).alloc (.cells #[.int .i64 (sd)] 3) := ⟨_, rfl⟩
                    rw [← hW, ← hg] at hoA
                    go_wp2_with fail
                    rw [← hW, ← hg]
                    replace HO := Lib.hid hoA
                    clear hoA hW hg
                    refine cw_two 4 9 (by decide +kernel) ?_ ?_
                    · skip
                      refine cw_do rfl rfl rfl rfl (fun K hK => ?_)
                      refine wp_append (.tmp 138) (.tmp 141) 28 (by rfl) 3 _ 1 8 Tryd.underlying28 info_in (by rfl) (by omega) _ N _ (by rfl) HO.out.row g1 1 1 [.int .i64 sd] (by rfl) (by rfl) 3 (by exact (Owns.blk HO.out.pop.pop.pop.pop).1) (by simp [Value.oneCell']) (by omega) (by omega) ?_
                      intro v2 W9 hrow hgrow hblk
                      have ho2 := Owns.rowGrew HO.out hrow hgrow hblk
                      clear hrow hgrow hblk
                      obtain ⟨gd2, cd2, rfl, -, -, -, -, -⟩ := row_at ho2.row (by omega)
                      replace HO := Lib.hid ho2
                      clear ho2
                      go_wp2_with fail
                      refine cw_step 9 (by decide +kernel) (by decide +kernel) (by decide +kernel) ?_
                      refine cw_do rfl rfl rfl (by first | rfl | simp [okB, lenV, plainV, Act.eval]) (fun _ _ => ?_)
                      have hoA := Owns.re (HO.out.box (.cells #[.int .i64 (-su)] 3 (0, 0))) [1, 2, 3, 4, 5, 0]
                      obtain ⟨g2, hg⟩ : ∃ x, x = (W9).heap.size := ⟨_, rfl⟩
                      obtain ⟨W10, hW⟩ : ∃ W, W = (W9).alloc (.cells #[.int .i64 (-su)] 3) := ⟨_, rfl⟩
                      rw [← hW, ← hg] at hoA
                      go_wp2_with fail
                      rw [← hW, ← hg]
                      replace HO := Lib.hid hoA
                      clear hoA hW hg
                      refine cw_step 10 (by decide +kernel) (by decide +kernel) (by decide +kernel) ?_
                      refine cw_do rfl rfl rfl rfl (fun K hK => ?_)
                      refine wp_append (.tmp 143) (.tmp 147) 28 (by rfl) 3 _ 1 8 Tryd.underlying28 info_in (by rfl) (by omega) _ N _ (by rfl) HO.out.swap.row g2 1 1 [.int .i64 (-su)] (by rfl) (by rfl) 3 (by exact (Owns.blk HO.out.pop.pop.pop.pop.pop).1) (by simp [Value.oneCell']) (by omega) (by omega) ?_
                      intro v2 W11 hrow hgrow hblk
                      have ho2 := Owns.rowGrew HO.out.swap hrow hgrow hblk
                      clear hrow hgrow hblk
                      obtain ⟨gm2, cm2, rfl, -, -, -, -, -⟩ := row_at ho2.row (by omega)
                      replace HO := Lib.hid ho2.swap
                      clear ho2
                      go_wp2_with fail
                      refine cw_step 11 (by decide +kernel) (by decide +kernel) (by decide +kernel) ?_; (refine cw_do rfl rfl rfl (by first | rfl | simp [okB, lenV, plainV, Act.eval]) (fun _ _ => ?_); go_wp2_with fail)
                      refine cw_step 12 (by decide +kernel) (by decide +kernel) (by decide +kernel) ?_; (refine cw_do rfl rfl rfl (by first | rfl | simp [okB, lenV, plainV, Act.eval]) (fun _ _ => ?_); go_wp2_with fail)
                      refine cw_nil (by decide +kernel) ?_
                      go_wp2_with fail
                      go_roundw
                      case rel => exact ⟨k + 1, N + 1, gd2, cd2, gm2, cm2, _, by omega, by go_num, rfl, rfl, HS2, Lib.hid (fin_own HO.out)⟩
                      case measure => simp [intOf]; omega
                    · skip
                      refine cw_do rfl rfl rfl (by first | rfl | simp [okB, lenV, plainV, Act.eval]) (fun _ _ => ?_)
                      have hoA := Owns.re (HO.out.box (.cells #[.int .i64 (-su)] 3 (0, 0))) [1, 2, 3, 4, 5, 0]
                      obtain ⟨g2, hg⟩ : ∃ x, x = (W8).heap.size := ⟨_, rfl⟩
                      obtain ⟨W9, hW⟩ : ∃ W, W = (W8).alloc (.cells #[.int .i64 (-su)] 3) := ⟨_, rfl⟩
                      rw [← hW, ← hg] at hoA
                      go_wp2_with fail
                      rw [← hW, ← hg]
                      replace HO := Lib.hid hoA
                      clear hoA hW hg
                      refine cw_step 4 (by decide +kernel) (by decide +kernel) (by decide +kernel) ?_
                      refine cw_do rfl rfl rfl rfl (fun K hK => ?_)
                      refine wp_append (.tmp 138) (.tmp 141) 28 (by rfl) 3 _ 1 8 Tryd.underlying28 info_in (by rfl) (by omega) _ N _ (by rfl) HO.out.row g1 1 1 [.int .i64 sd] (by rfl) (by rfl) 3 (by exact (Owns.blk HO.out.pop.pop.pop.pop).1) (by simp [Value.oneCell']) (by omega) (by omega) ?_
                      intro v2 W10 hrow hgrow hblk
                      have ho2 := Owns.rowGrew HO.out hrow hgrow hblk
                      clear hrow hgrow hblk
                      obtain ⟨gd2, cd2, rfl, -, -, -, -, -⟩ := row_at ho2.row (by omega)
                      replace HO := Lib.hid ho2
                      clear ho2
                      go_wp2_with fail
                      refine cw_step 10 (by decide +kernel) (by decide +kernel) (by decide +kernel) ?_
                      refine cw_do rfl rfl rfl rfl (fun K hK => ?_)
                      refine wp_append (.tmp 143) (.tmp 147) 28 (by rfl) 3 _ 1 8 Tryd.underlying28 info_in (by rfl) (by omega) _ N _ (by rfl) HO.out.swap.row g2 1 1 [.int .i64 (-su)] (by rfl) (by rfl) 3 (by exact (Owns.blk HO.out.pop.pop.pop.pop.pop).1) (by simp [Value.oneCell']) (by omega) (by omega) ?_
                      intro v2 W11 hrow hgrow hblk
                      have ho2 := Owns.rowGrew HO.out.swap hrow hgrow hblk
                      clear hrow hgrow hblk
                      obtain ⟨gm2, cm2, rfl, -, -, -, -, -⟩ := row_at ho2.row (by omega)
                      replace HO := Lib.hid ho2.swap
                      clear ho2
                      go_wp2_with fail
                      refine cw_step 11 (by decide +kernel) (by decide +kernel) (by decide +kernel) ?_; (refine cw_do rfl rfl rfl (by first | rfl | simp [okB, lenV, plainV, Act.eval]) (fun _ _ => ?_); go_wp2_with fail)
                      refine cw_step 12 (by decide +kernel) (by decide +kernel) (by decide +kernel) ?_; (refine cw_do rfl rfl rfl (by first | rfl | simp [okB, lenV, plainV, Act.eval]) (fun _ _ => ?_); go_wp2_with fail)
                      refine cw_nil (by decide +kernel) ?_
                      go_wp2_with fail
                      go_roundw
                      case rel => exact ⟨k + 1, N + 1, gd2, cd2, gm2, cm2, _, by omega, by go_num, rfl, rfl, HS2, Lib.hid (fin_own HO.out)⟩
                      case measure => simp [intOf]; omega
                  · skip
                    refine cw_do rfl rfl rfl (by first | rfl | simp [okB, lenV, plainV, Act.eval]) (fun _ _ => ?_)
                    have hoA := Owns.re (HO.out.box (.cells #[.int .i64 (-su)] 3 (0, 0))) [1, 2, 3, 4, 0]
                    obtain ⟨g2, hg⟩ : ∃ x, x = (W7).heap.size := ⟨_, rfl⟩
                    obtain ⟨W8, hW⟩ : ∃ W, W = (W7).alloc (.cells #[.int .i64 (-su)] 3) := ⟨_, rfl⟩
                    rw [← hW, ← hg] at hoA
                    go_wp2_with fail
                    rw [← hW, ← hg]
                    replace HO := Lib.hid hoA
                    clear hoA hW hg
                    refine cw_step 3 (by decide +kernel) (by decide +kernel) (by decide +kernel) ?_
                    refine cw_do rfl rfl rfl (by first | rfl | simp [okB, lenV, plainV, Act.eval]) (fun _ _ => ?_)
                    have hoA := Owns.re (HO.out.box (.cells #[.int .i64 (sd)] 3 (0, 0))) [1, 2, 3, 4, 5, 0]
                    obtain ⟨g1, hg⟩ : ∃ x, x = (W8).heap.size := ⟨_, rfl⟩
                    obtain ⟨W9, hW⟩ : ∃ W, W = (W8).alloc (.cells #[.int .i64 (sd)] 3) := ⟨_, rfl⟩
                    rw [← hW, ← hg] at hoA
                    go_wp2_with fail
                    rw [← hW, ← hg]
                    replace HO := Lib.hid hoA
                    clear hoA hW hg
                    refine cw_step 4 (by decide +kernel) (by decide +kernel) (by decide +kernel) ?_
                    refine cw_do rfl rfl rfl rfl (fun K hK => ?_)
                    refine wp_append (.tmp 138) (.tmp 141) 28 (by rfl) 3 _ 1 8 Tryd.underlying28 info_in (by rfl) (by omega) _ N _ (by rfl) HO.out.row g1 1 1 [.int .i64 sd] (by rfl) (by rfl) 3 (by exact (Owns.blk HO.out.pop.pop.pop.pop.pop).1) (by simp [Value.oneCell']) (by omega) (by omega) ?_
                    intro v2 W10 hrow hgrow hblk
                    have ho2 := Owns.rowGrew HO.out hrow hgrow hblk
                    clear hrow hgrow hblk
                    obtain ⟨gd2, cd2, rfl, -, -, -, -, -⟩ := row_at ho2.row (by omega)
                    replace HO := Lib.hid ho2
                    clear ho2
                    go_wp2_with fail
                    refine cw_step 10 (by decide +kernel) (by decide +kernel) (by decide +kernel) ?_
                    refine cw_do rfl rfl rfl rfl (fun K hK => ?_)
                    refine wp_append (.tmp 143) (.tmp 147) 28 (by rfl) 3 _ 1 8 Tryd.underlying28 info_in (by rfl) (by omega) _ N _ (by rfl) HO.out.swap.row g2 1 1 [.int .i64 (-su)] (by rfl) (by rfl) 3 (by exact (Owns.blk HO.out.pop.pop.pop.pop).1) (by simp [Value.oneCell']) (by omega) (by omega) ?_
                    intro v2 W11 hrow hgrow hblk
                    have ho2 := Owns.rowGrew HO.out.swap hrow hgrow hblk
                    clear hrow hgrow hblk
                    obtain ⟨gm2, cm2, rfl, -, -, -, -, -⟩ := row_at ho2.row (by omega)
                    replace HO := Lib.hid ho2.swap
                    clear ho2
                    go_wp2_with fail
                    refine cw_step 11 (by decide +kernel) (by decide +kernel) (by decide +kernel) ?_; (refine cw_do rfl rfl rfl (by first | rfl | simp [okB, lenV, plainV, Act.eval]) (fun _ _ => ?_); go_wp2_with fail)
                    refine cw_step 12 (by decide +kernel) (by decide +kernel) (by decide +kernel) ?_; (refine cw_do rfl rfl rfl (by first | rfl | simp [okB, lenV, plainV, Act.eval]) (fun _ _ => ?_); go_wp2_with fail)
                    refine cw_nil (by decide +kernel) ?_
                    go_wp2_with fail
                    go_roundw
                    case rel => exact ⟨k + 1, N + 1, gd2, cd2, gm2, cm2, _, by omega, by go_num, rfl, rfl, HS2, Lib.hid (fin_own HO.out)⟩
                    case measure => simp [intOf]; omega
            · obtain ⟨E, hEE⟩ : ∃ E, E = moveE a sd su sl := ⟨_, rfl⟩
              have hA : moveA a sd su sl = a := by unfold moveA; rw [if_neg hE]
              rw [← hEE] at hE ⊢
              rw [hA] at h6
              have hE' : ¬ (E : Int) = 0 := by omega
              replace HO := Lib.hid (Owns.re h6 [1, 0, 2, 3])
              clear h6 hE hEE hA hk0
              go_wp2_with fail
              go_roundw
              case rel => exact ⟨k + 1, N, gd, cd, gm, cm, a, by omega, by go_num, rfl, rfl, Lib.hid (HS.out.next (by omega)), Lib.hid HO.out.pop⟩
              case measure => simp [intOf]; omega
          · focus
              obtain ⟨bk, -⟩ := HO.out.blk
              have hbs := lt_of_block bk
              have cs0 : W5.cell? ⟨b21, 0, none⟩ = some (.int .i64 (sk)) := by rw [cell_of_heap bk]; rfl
              have cs1 : W5.cell? ⟨b21, 1, none⟩ = some (.int .i64 sd) := by rw [cell_of_heap bk]; rfl
              have cs2 : W5.cell? ⟨b21, 2, none⟩ = some (.int .i64 su) := by rw [cell_of_heap bk]; rfl
              have cs3 : W5.cell? ⟨b21, 3, none⟩ = some (.bool sl) := by rw [cell_of_heap bk]; rfl
              clear bk
              go_wp2_with fail
              clear hbs cs0 cs1 cs2 cs3
            go_at_call 8
            refine (corr_c sd su W5 (Owns.re HO.out [1, 0, 2, 3]) HS.out.good).mono ?_
            rintro e W6 ⟨rfl, h6⟩
            by_cases hE : corrE a sd su = 0
            · obtain ⟨-, hi0, hi1, -⟩ := corrE_zero hE
              obtain ⟨j, rfl⟩ : ∃ j : Nat, sd = (j : Int) := ⟨sd.toNat, by omega⟩
              rw [← HS.out.len] at hi1
              have hjN : j < N := by omega
              have hA : corrA a j su = { a with ms := putU a.ms j su } := by unfold corrA; rw [if_pos hE, Int.toNat_natCast]
              rw [hA] at h6
              rw [hE]
              have HS2 := Lib.hid (HS.out.corr (j := j) (u := su) (by have h := HS.out.good.corr j su; rwa [hA] at h))
              replace HO : Hid (Owns w W6 (blk b21 (stO ⟨sk, j, su, sl⟩) :: ivP (.slice (some ⟨gm, 0, none⟩) N cm) N (usI a.ms) :: ivP (.slice (some ⟨gd, 0, none⟩) N cd) N (dsI a.ms) :: accP b { a with ms := putU a.ms j su } :: [])) := Lib.hid (Owns.re h6 [1, 3, 2, 0])
              obtain ⟨gm', cm', e0, -, -, hgl, ⟨cur, hcur, -⟩, hcl⟩ := row_at HO.out.pop.row (by omega)
              cases e0
              have hm : a.ms[j]? = some (a.ms[j]'(by rw [← HS.out.len]; exact hjN)) := List.getElem?_eq_getElem _
              obtain ⟨m, hmm⟩ : ∃ m, a.ms[j]? = some m := ⟨_, hm⟩
              have cg := hcl j (.int .i64 m.2) (by simp [usI, hmm])
              have fg := free_of_heap hcur (i := j)
              have h7 := HO.out.pop.rowSet (i := j) (.int .i64 su) (by omega)
              clear h6 hk0 hk1 hE hA hi0 hi1 hm hcl hcur
              focus
                obtain ⟨bk, -⟩ := HO.out.blk
                have hbs := lt_of_block bk
                have cs0 : W6.cell? ⟨b21, 0, none⟩ = some (.int .i64 (sk)) := by rw [cell_of_heap bk]; rfl
                have cs1 : W6.cell? ⟨b21, 1, none⟩ = some (.int .i64 (j : Int)) := by rw [cell_of_heap bk]; rfl
                have cs2 : W6.cell? ⟨b21, 2, none⟩ = some (.int .i64 su) := by rw [cell_of_heap bk]; rfl
                have cs3 : W6.cell? ⟨b21, 3, none⟩ = some (.bool sl) := by rw [cell_of_heap bk]; rfl
                clear bk
                go_wp2_with fail
                clear hbs cs0 cs1 cs2 cs3
              go_roundw
              case rel => exact ⟨k + 1, N, gd, cd, gm, cm, _, by omega, by go_num, rfl, rfl, HS2, Lib.hid (cor_own hmm h7)⟩
              case measure => simp [intOf]; omega
            · obtain ⟨E, hEE⟩ : ∃ E, E = corrE a sd su := ⟨_, rfl⟩
              have hA : corrA a sd su = a := by unfold corrA; rw [if_neg hE]
              rw [← hEE] at hE ⊢
              rw [hA] at h6
              have hE' : ¬ (E : Int) = 0 := by omega
              replace HO := Lib.hid (Owns.re h6 [1, 0, 2, 3])
              clear h6 hE hEE hA hk0 hk1
              go_wp2_with fail
              go_roundw
              case rel => exact ⟨k + 1, N, gd, cd, gm, cm, a, by omega, by go_num, rfl, rfl, Lib.hid (HS.out.next (by omega)), Lib.hid HO.out.pop⟩
              case measure => simp [intOf]; omega
  · obtain rfl : k = n := by omega
    clear hkn hk
    go_wp2_with fail
    go_at_call 9
    refine (lnew_c wr HO.out).mono ?_
    rintro e W5 ⟨bl, rfl, h5⟩
    have HL := Lib.hid h5
    clear h5 HO
    go_wp2_with fail
    go_at_call 10
    refine (open_l nBank true W5 HL.out ident_bank (by decide) (by decide) rfl (by decide)).mono ?_
    rintro e W6 ⟨rfl, h6⟩
    replace HL := Lib.hid h6
    clear h6
    go_wp2_with fail
    go_at_call 10
    refine (open_l nFrozen false W6 HL.out ident_frozen (by decide) (by decide) find_two (by decide)).mono ?_
    rintro e W7 ⟨rfl, h7⟩
    have HO : Hid (Owns w W7 (ledP bl (bookN a.ms 0) :: dmP b a N gd cd gm cm)) := Lib.hid (led_open h7)
    clear h7 HL
    go_wp2_with fail
    have HN13 : Hid (N ≤ 13) := by have := HS.out.le; show N ≤ 13; omega
    replace h1 := Lib.hid h1

    go_loopw [23] (fun i wq => ∃ j : Nat, j ≤ N ∧ i = .int .i64 (j : Int) ∧ Hid (Owns w wq (ledP bl (bookN a.ms j) :: dmP b a N gd cd gm cm))) (fun i _ => N - (intOf i).toNat)
    case atStart => exact ⟨0, Nat.zero_le _, rfl, HO⟩
    clear HO
    obtain ⟨j, hj, rfl, HO⟩ := hrel
    by_cases hjn : j < N
    · skip
      have hlt : (j : Int) < (N : Int) := by omega
      obtain ⟨hes, hen⟩ := enc_nB j (by have := HN13.out; omega)
      have HEN := Lib.hid hen
      clear hen
      have hm : a.ms[j]? = some (a.ms[j]'(by rw [← HS.out.len]; exact hjn)) := List.getElem?_eq_getElem _
      obtain ⟨m, hmm⟩ : ∃ m, a.ms[j]? = some m := ⟨_, hm⟩
      clear hm
      obtain ⟨gd', cd', e0, -, -, hgd, -, hcl⟩ := row_at HO.out.pop.pop.row (by omega)
      cases e0
      have cd0 := hcl j (.int .i64 m.1) (by simp [dsI, hmm])
      clear hcl
      obtain ⟨gm', cm', e0, -, -, hgm, -, hcl⟩ := row_at HO.out.pop.pop.pop.row (by omega)
      cases e0
      have cm0 := hcl j (.int .i64 m.2) (by simp [usI, hmm])
      clear hcl
      obtain ⟨md, mu⟩ := m
      dsimp only at cd0 cm0
      by_cases h0 : mu = 0
      · subst h0
        have hN13 := HN13.out
        go_wp2_with fail
        go_roundw
        case rel => exact ⟨j + 1, by omega, by go_num, by rw [bookN_zero hmm rfl]; exact HO⟩
        case measure => simp [intOf]; omega
      · go_upto_region 29 with fail
        rw [HEN.out]
        clear hes HEN
        have hN13 := HN13.out
        refine wp_region_can [] (List.range 22) (by decide +kernel) (by decide +kernel) ?_
        replace HO := Lib.hid HO.out.drew
        generalize hWd : World.drew _ = W8 at HO ⊢
        clear hWd
        obtain ⟨hmu, hmd⟩ := mv_bound HS.out.good hmm
        clear cd0 cm0 hgd hgm
        obtain ⟨gd', cd', e0, -, -, hgd, -, hcl⟩ := row_at HO.out.pop.pop.row (by omega)
        cases e0
        have cd0 := hcl j (.int .i64 md) (by simp [dsI, hmm])
        clear hcl
        obtain ⟨gm', cm', e0, -, -, hgm, -, hcl⟩ := row_at HO.out.pop.pop.pop.row (by omega)
        cases e0
        have cm0 := hcl j (.int .i64 mu) (by simp [usI, hmm])
        clear hcl
        iterate 18 (refine cl_do rfl rfl rfl (by first | rfl | simp [okB, lenV, plainV, Act.eval]) (fun _ _ => ?_); go_wp2_with fail)
        refine cl_do (i := 18) rfl rfl rfl rfl (fun _ _ => ?_)
        have ho := HO.out.box (pobj true mu)
        go_wp2_with fail
        generalize hgp : W8.heap.size = gp at ho ⊢
        generalize hW9 : World.alloc W8 _ = W9
        have ho9 : Owns w W9 (blk gp (pobj true mu) :: ledP bl (bookN a.ms j) :: dmP b a N gd cd gm cm) := by rw [← hW9]; exact ho
        replace HO := Lib.hid ho9
        clear ho ho9 hgp hW9
        refine cl_do (i := 19) rfl rfl rfl rfl (fun _ _ => ?_)
        go_wp2_with fail
        refine cl_do (i := 20) rfl rfl rfl rfl (fun _ _ => ?_)
        go_wp2_with fail
        have HB := Lib.hid (book_ok HS.out.good (by rw [← HS.out.len]; exact hN13) hmm h0)
        go_at_call 11
        refine (book_c (nB j) (md * 1440) W9 (Owns.re HO.out [1, 0]) HB.out.ident HB.out.quote HB.out.idlen HB.out.fresh HB.out.t0 HB.out.t1 HB.out.last HB.out.len HB.out.nz HB.out.u0 HB.out.u1 HB.out.cov HB.out.bound).mono ?_
        rintro e W10 ⟨rfl, h10⟩
        replace HO : Hid (Owns w W10 (ledP bl (bookN a.ms (j + 1)) :: dmP b a N gd cd gm cm)) := by
          rw [bookN_some hmm h0]
          exact Lib.hid (Owns.re h10 [1, 0]).pop
        clear h10 HB hgd hgm cd0 cm0
        go_wp2_with fail
        refine cl_do (i := 21) rfl rfl rfl rfl (fun _ _ => ?_)
        go_wp2_with fail
        refine cl_nil ?_
        go_wp2_with fail
        go_roundw
        case rel => exact ⟨j + 1, by omega, by go_num, HO⟩
        case measure => simp [intOf]; omega
    · obtain rfl : j = N := by omega
      have hN13 := HN13.out
      obtain ⟨f1, f2⟩ := bookN_f a.ms j (by rw [← HS.out.len]; exact Nat.le_refl _)
      rw [HS.out.len, List.take_length] at f1 f2
      rw [← HS.out.len] at f1 f2
      have hT := tot_take_bound HS.out.good j
      rw [HS.out.len, List.take_length] at hT
      obtain ⟨T, hTT⟩ : ∃ T, T = tot a.ms := ⟨_, rfl⟩
      have HTT := Lib.hid hTT
      rw [← hTT] at hT f1 f2
      have HF1 := Lib.hid f1
      have HF2 := Lib.hid f2
      clear hTT f1 f2 hj hjn
      go_wp2_with fail
      go_at_call 12
      refine (lbal_c false wr HO.out).mono ?_
      rintro e W8 ⟨rfl, hb⟩
      rw [HF1.out]
      replace HO := Lib.hid (HO.out.below hb)
      clear hb
      go_wp2_with fail
      go_at_call 13
      have HBal : Hid (balA a = T) := by show _ = _; unfold balA; rw [HS.out.op, HTT.out]; rfl
      refine (bal_c W8 (Owns.re HO.out [1, 0]) HS.out.good).mono ?_
      rintro e W9 ⟨rfl, hb⟩
      rw [HBal.out]
      replace HO := Lib.hid (HO.out.below hb)
      clear hb HBal
      go_wp2_with fail
      go_at_call 14
      refine (int_c td flag W9 (Owns.re HO.out [1, 0]) HS.out.good).mono ?_
      rintro e W10 ⟨rfl, hb⟩
      replace HO := Lib.hid (HO.out.below hb)
      clear hb
      have hday : isDay td = true := isDay_iff.2 ⟨by have := HT.out; omega, HT.out.2.1⟩
      have hj0 : 0 < j := by rw [HS.out.len]; exact List.length_pos_iff.2 HS.out.good.some
      have e1 : ((j : Int) - 1) = ((j - 1 : Nat) : Int) := by omega
      have hl1 : ((j - 1 : Nat) : Int) < (j : Int) := by omega
      obtain ⟨D, hD⟩ : ∃ D, D = lastD a.ms := ⟨_, rfl⟩
      obtain ⟨gd', cd', e0, -, -, hgd, -, hcl⟩ := row_at HO.out.pop.pop.row hj0
      cases e0
      have cd0 := hcl (j - 1) (.int .i64 D) (by rw [hD, HS.out.len]; exact last_cell HS.out.good)
      clear hcl
      have HD := Lib.hid hD
      clear hD
      by_cases hlast : td < D
      · have hE := int_late hday HS.out.op (by rw [← HD.out]; exact hlast)
        rw [hE]
        clear hE hj0
        go_wp2_with fail
        go_ret
        exact ⟨rfl, HO.out.base⟩
      have hle : lastD a.ms ≤ td := by rw [← HD.out]; omega
      have hE := int_zero hday HS.out.op hle
      have HI := Lib.hid (int_sum HS.out.good hday HS.out.op hle flag)
      rw [hE]
      obtain ⟨n0, hn0⟩ : ∃ n, n = intN a td flag := ⟨_, rfl⟩
      rw [← hn0] at HI ⊢
      have HN0 := Lib.hid hn0
      have HE := Lib.hid hE
      have HLE := Lib.hid hle
      have HDay := Lib.hid hday
      clear hn0 hE hle hday hj0
      go_upto_if 230 with fail
      clear hgd cd0 e1 hl1
      go_cut [27] (fun v wx => v = .int .i64 (if flag then void else rate) ∧ Hid (Owns w wx (ledP bl (bookN a.ms j) :: dmP b a j gd cd gm cm)))
      case first =>
        cases flag
        · go_wp2_with fail
          go_meet
          exact ⟨rfl, HO⟩
        · go_wp2_with fail
          go_meet
          exact ⟨rfl, HO⟩
      obtain ⟨rfl, HO1⟩ := hcut
      clear HO
      have HO := HO1
      clear HO1
      obtain ⟨r, hr⟩ : ∃ r, r = (if flag then void else rate) := ⟨_, rfl⟩
      rw [← hr]
      have hr0 : 0 ≤ r ∧ r ≤ 10000 := by
        have h3 := HS.out.good.r0
        have h4 := HS.out.good.r1
        rw [HS.out.r0] at h3
        rw [HS.out.r1] at h4
        rw [hr]
        cases flag
        · exact h3
        · exact h4
      have hi3 := HI.out
      rw [HS.out.first, HS.out.r0, HS.out.r1, ← hr] at hi3
      replace HI := Lib.hid hi3
      clear hi3 hr
      obtain ⟨dd, hdd⟩ : ∃ dd : Nat, td = day + (dd : Int) := ⟨(td - day).toNat, by have := HT.out; omega⟩
      have HDB : Hid (dd ≤ 400 ∧ 0 ≤ day ∧ day ≤ 100000 ∧ td ≤ 100000 ∧ td = day + (dd : Int)) := by have := HT.out; show dd ≤ 400 ∧ 0 ≤ day ∧ day ≤ 100000 ∧ td ≤ 100000 ∧ td = day + (dd : Int); omega
      have HR0 := Lib.hid hr0
      clear hdd hr0
      go_wp2_with fail
      go_loopw [28, 29] (fun sm i wq => ∃ q : Nat, q ≤ dd ∧ i = .int .i64 (day + (q : Int)) ∧ sm = .int .i64 (sumD a.ms day q * r) ∧ Hid (Owns w wq (ledP bl (bookN a.ms j) :: dmP b a j gd cd gm cm))) (fun _ i _ => (day + (dd : Int) - intOf i).toNat)
      case atStart => exact ⟨0, Nat.zero_le _, by simp, by simp [sumD], HO⟩
      clear HO
      obtain ⟨q, hq, rfl, rfl, HO⟩ := hrel
      by_cases hqd : q < dd
      · skip
        have hdb := HDB.out
        have hr0 := HR0.out
        have hlt : day + (q : Int) < td := by omega
        have hday0 : 0 ≤ day ∧ day ≤ 100000 := by omega
        have hq4 : q ≤ 400 := by omega
        have htd : td ≤ 100000 := hdb.2.2.2.1
        have HB1 := Lib.hid (upr_bound (c := q) (sumD_bound HS.out.good.days HS.out.good.pre day q).1 (sumD_bound HS.out.good.days HS.out.good.pre day q).2 (by omega) hr0.1 hr0.2)
        obtain ⟨u, hu⟩ : ∃ u, u = upTo (day + (q : Int)) a.ms := ⟨_, rfl⟩
        have hub := upTo_bound HS.out.good.days HS.out.good.pre (day + (q : Int))
        rw [← hu] at hub
        have HB2 := Lib.hid (upr_bound (c := 1) (r := r) hub.1 (by have := hub.2; have e : MU = 1000000000000 := rfl; omega) (by omega) hr0.1 hr0.2)
        obtain ⟨S, hS⟩ : ∃ S, S = sumD a.ms day q * r := ⟨_, rfl⟩
        obtain ⟨P, hP⟩ : ∃ P, P = u * r := ⟨_, rfl⟩
        have HSu : Hid (S + P = sumD a.ms day (q + 1) * r) := by
          show _ = _
          rw [hS, hP, hu, sumD, Int.add_mul]
        rw [← hS] at HB1 ⊢
        rw [← hP] at HB2
        have hb1 := HB1.out
        have hb2 := HB2.out
        have HU := Lib.hid hu
        have HP := Lib.hid hP
        clear hu hS hP hub HB1 HB2 hdb
        go_wp2_with fail
        go_at_call 15
        have HAt : Hid (atR ((day + (q : Int)) * 1440 + 1439) false ((bookN a.ms j).f false) (bookN a.ms j).bks.reverse = u) := by
          show _ = _
          have h := at_law HS.out.good.days (day + (q : Int)) a.ms.length (Nat.le_refl _)
          rw [List.take_length, ← HS.out.len] at h
          rw [HU.out]
          exact h
        refine (lat_c false ((day + (q : Int)) * 1440 + 1439) wr HO.out (fun x hx => ?_) ?_ ?_).mono ?_
        · obtain ⟨i, m, -, h2, -, h3⟩ := bookN_bks a.ms j x hx
          rw [h3]
          exact HS.out.good.slim.1 _ (List.mem_of_getElem? h2)
        · have := bookN_len a.ms j; omega
        · rw [HF1.out]; omega
        rintro e W11 ⟨rfl, hb⟩
        rw [HAt.out]
        replace HO := Lib.hid (HO.out.below hb)
        clear hb HAt
        have hP' : u * r = P := HP.out.symm
        go_wp2_with fail
        go_roundw
        case rel => exact ⟨q + 1, by omega, by go_num, by rw [← HSu.out], HO⟩
        case measure => simp [intOf]; omega
      · obtain rfl : q = dd := by omega
        have hdb := HDB.out
        have hr0 := HR0.out
        have HS0 := Lib.hid (upr_bound (c := q) (sumD_bound HS.out.good.days HS.out.good.pre day q).1 (sumD_bound HS.out.good.days HS.out.good.pre day q).2 (by omega) hr0.1 hr0.2)
        have hi4 := HI.out
        have e2 : (td - day).toNat = q := by omega
        rw [e2] at hi4
        obtain ⟨S, hS⟩ : ∃ S, S = sumD a.ms day q * r := ⟨_, rfl⟩
        rw [← hS] at hi4 HS0 ⊢
        have hs0 := HS0.out
        have hs1 : 0 ≤ S ∧ S ≤ 4000000000000000000 := by omega
        have hn1 : S.tdiv 3650000 = n0 := by rw [hi4]; exact Int.tdiv_eq_ediv_of_nonneg hs1.1
        have hnb : 0 ≤ n0 ∧ n0 ≤ 4000000000000000000 := by omega
        have htq : ¬ (day + (q : Int) < td) := by omega
        have HS1 := Lib.hid hs1
        have HN1 := Lib.hid hn1
        clear hdb hr0 HS0 hi4 e2 hS hs0 hqd hq
        go_upto_region 48 with fail
        clear htq
        obtain ⟨W12, hW12⟩ : ∃ W, W = wr := ⟨_, rfl⟩
        rw [← hW12] at HO ⊢
        clear hW12
        go_wp2_with fail
        clear hs1 hn1 hnb
        have HRT : Hid (relT a td = T) := by show _ = _; unfold relT; rw [HE.out, if_pos rfl, HTT.out]
        have HRA : Hid (relA a td = { a with closed := true }) := by show _ = _; unfold relA; rw [HE.out, if_pos rfl]
        go_at_call 16
        refine (rel_c td flag W12 (Owns.re HO.out [1, 0]) HS.out.good).mono ?_
        rintro e W13 ⟨rfl, h13⟩
        rw [HRT.out, ← HN0.out, HE.out]
        have HG2 : Hid (GoodA { a with closed := true }) := by have h := HS.out.good.rel td; rw [HRA.out] at h; exact h
        rw [HRA.out] at h13
        replace HO : Hid (Owns w W13 (ledP bl (bookN a.ms j) :: dmP b { a with closed := true } j gd cd gm cm)) := Lib.hid (Owns.re h13 [1, 0])
        clear h13 HRT HRA
        go_wp2_with fail
        go_at_call 13
        refine (bal_c W13 (Owns.re HO.out [1, 0]) HG2.out).mono ?_
        rintro e W14 ⟨rfl, hb⟩
        rw [show balA { a with closed := true } = 0 from rfl]
        replace HO := Lib.hid (HO.out.below hb)
        clear hb HG2
        by_cases hp : 0 < T
        · have hdt : 0 ≤ td ∧ td ≤ 100000 := by have := HDB.out; omega
          go_wp2_with fail
          have HB := out_ok HS.out.good (by rw [← HS.out.len]; exact hN13) HLE.out hdt.2 (by rw [← HTT.out]; exact hp)
          rw [← HS.out.len, ← HTT.out] at HB
          have HB2 := Lib.hid HB
          clear HB
          generalize hgp : W14.heap.size = gp
          generalize hW15 : World.alloc W14 _ = W15
          have ho15 : Owns w W15 (blk gp (pobj false (-T)) :: ledP bl (bookN a.ms j) :: dmP b { a with closed := true } j gd cd gm cm) := by
            rw [← hW15, ← hgp]
            have e3 : amt (-T) (!false) = T := by show - -T = T; omega
            have h15 := HO.out.box (pobj false (-T))
            unfold pobj at h15 ⊢
            rw [e3] at h15 ⊢
            exact h15
          replace HO := Lib.hid ho15
          clear ho15 hgp hW15
          refine (book_c nOut (td * 1440) W15 (Owns.re HO.out [1, 0]) HB2.out.ident HB2.out.quote HB2.out.idlen HB2.out.fresh HB2.out.t0 HB2.out.t1 HB2.out.last HB2.out.len HB2.out.nz HB2.out.u0 HB2.out.u1 HB2.out.cov HB2.out.bound).mono ?_
          rintro e W16 ⟨rfl, h16⟩
          obtain ⟨s2, hs2⟩ : ∃ s2, s2 = (bookN a.ms j).book ⟨nOut, td * 1440, false, -T⟩ := ⟨_, rfl⟩
          have HZ : Hid (s2.f false = 0 ∧ s2.f true = 0) := by
            show _ ∧ _
            rw [hs2]
            simp only [Lg.book, HF1.out, HF2.out, amt]
            exact ⟨by simp; omega, by simp; omega⟩
          rw [← hs2] at h16
          replace HO : Hid (Owns w W16 (ledP bl s2 :: [])) := Lib.hid (Owns.re h16 [1, 2, 3, 4, 0]).pop.pop.pop.pop
          clear h16 hs2 HB2
          go_wp2_with fail
          go_at_call 12
          refine (lbal_c true _ HO.out).mono ?_
          rintro e W17 ⟨rfl, hb⟩
          rw [HZ.out.2]
          replace HO := Lib.hid (HO.out.below hb)
          clear hb
          go_wp2_with fail
          go_at_call 12
          refine (lbal_c false _ HO.out).mono ?_
          rintro e W18 ⟨rfl, hb⟩
          rw [HZ.out.1]
          replace HO := Lib.hid (HO.out.below hb)
          clear hb
          go_wp2_with fail
          go_ret
          exact ⟨rfl, HO.out.base⟩
        · have hT0 : T = 0 := by omega
          obtain ⟨s2, hs2⟩ : ∃ s2, s2 = bookN a.ms j := ⟨_, rfl⟩
          have HZ : Hid (s2.f false = 0 ∧ s2.f true = 0) := by
            show _ ∧ _
            rw [hs2, HF1.out, HF2.out]
            omega
          replace HO : Hid (Owns w W14 (ledP bl s2 :: [])) := by
            rw [hs2]
            exact Lib.hid (Owns.re HO.out [1, 2, 3, 0]).pop.pop.pop
          clear hs2
          go_wp2_with fail
          go_at_call 12
          refine (lbal_c true _ HO.out).mono ?_
          rintro e W17 ⟨rfl, hb⟩
          rw [HZ.out.2]
          replace HO := Lib.hid (HO.out.below hb)
          clear hb
          go_wp2_with fail
          go_at_call 12
          refine (lbal_c false _ HO.out).mono ?_
          rintro e W18 ⟨rfl, hb⟩
          rw [HZ.out.1]
          replace HO := Lib.hid (HO.out.below hb)
          clear hb
          go_wp2_with fail
          go_ret
          exact ⟨rfl, HO.out.base⟩
end Go.Proofs.YtlkihpgpcgeogaaDoor

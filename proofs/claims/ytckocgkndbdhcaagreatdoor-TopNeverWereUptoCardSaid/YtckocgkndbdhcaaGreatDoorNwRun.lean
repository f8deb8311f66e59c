/-
  A run of changes: list.Run.
-/
import Derived.Test.YtckocgkndbdhcaaGreatDoorNwModel
namespace Go.Proofs.YtckocgkndbdhcaaGreatDoor
open Go.RowKit Go.Cz Go.Cz.Nw Go.Cz.Lx Go.ChangeMaps
set_option linter.unusedSimpArgs false
set_option linter.unusedVariables false
attribute [local go_sem] bs_size bs_extract bs_append bs_toList
attribute [local irreducible] cList cPlan
def ecs (l : List Int) : List Value := l.map fun n => .int .i64 n
abbrev erow (v : Value) (l : List Int) : Piece := rowP 34 1 v l.length (ecs l)
theorem erow_snoc (v : Value) (l : List Int) (e : Int) : erow v (l ++ [e]) = rowP 34 1 v (l.length + 1) (ecs l ++ [.int .i64 e]) := by
  unfold erow
  rw [List.length_append, show ecs (l ++ [e]) = ecs l ++ [.int .i64 e] by simp [ecs]]
  rfl
theorem info_er : (Tryz.prog.info? 34).map (fun i => (i.zero, i.size, i.bytes)) = some (some (.int .i64 0), 1, 8) := by kernel_rfl
theorem run_res {W : World} {tmps : Array Value} : (results Tryz.f6 tmps).run Tryz.prog W = .ok (.tuple #[tmps.getD 2 undef, tmps.getD 3 undef]) W := by
  simp [results, Tryz.results6, go_sem]
theorem take_snocC {l : List Chg} {j : Nat} {x : Chg} (h : l[j]? = some x) : l.take (j + 1) = l.take j ++ [x] := by
  obtain ⟨hj, rfl⟩ := List.getElem?_eq_some_iff.1 h
  exact List.take_succ_eq_append_getElem hj
set_option maxRecDepth 100000 in
set_option maxHeartbeats 4000000 in
theorem Run_c (cs : List Chg) (v : Value) (w : World) (hstd : Std w) (hv : IsChgs w v cs) (hok : ∀ c ∈ cs, ChgOk c) (hn4 : cs.length < 400) :
    Calls Tryz.prog 6 #[v] w fun e w' => ∃ v1 v2, e = .returned (.tuple #[v1, v2]) ∧ Owns w w' [lrow v1 (runL [] cs), erow v2 (runE [] cs)] := by
  have HV := Lib.hid hv
  have HStd := Lib.hid hstd
  have HOk := Lib.hid hok
  obtain ⟨y, cc, rfl, -⟩ := hv
  obtain ⟨n, hn⟩ : ∃ n, n = cs.length := ⟨_, rfl⟩
  have HN := Lib.hid hn
  rw [← hn] at HV hn4 ⊢
  have H0 : Hid (Owns w w [lrow (.slice none 0 0) (runL [] (cs.take 0)), erow (.slice none 0 0) (runE [] (cs.take 0))]) := Lib.hid (((Owns.start w).rowNil 34 1).rowNil 57 5)
  clear hn hstd hok
  go_enter Tryz.func6, Tryz.ntmps6
  go_wp2_with fail
  go_loopw [4, 5, 12] (fun r4 r5 i wr => ∃ j : Nat, j ≤ n ∧ i = .int .i64 (j : Int) ∧ Hid (Owns w wr [lrow r4 (runL [] (cs.take j)), erow r5 (runE [] (cs.take j))])) (fun _ _ i _ => n - (intOf i).toNat)
  case atStart => exact ⟨0, Nat.zero_le _, rfl, H0⟩
  clear H0
  obtain ⟨j, hj, rfl, HO⟩ := hrel
  by_cases hjn : j < n
  · have hlt : (j : Int) < (n : Int) := by omega
    obtain ⟨x, hxx⟩ : ∃ x, cs[j]? = some x := ⟨_, List.getElem?_eq_getElem (by rw [← HN.out]; exact hjn)⟩
    obtain ⟨y', cc', e0, hcell⟩ := HV.out
    cases e0
    obtain ⟨g, o, rfl, hg, d0, d1, d2, d3, d4, hnm⟩ := hcell j x hxx
    replace d0 := old_cell HO.out.base d0
    replace d1 := old_cell HO.out.base d1
    replace d2 := old_cell HO.out.base d2
    replace d3 := old_cell HO.out.base d3
    replace d4 := old_cell HO.out.base d4
    have hg1 : g < wr.heap.size := Nat.lt_of_lt_of_le hg HO.out.base.size
    have HX := Lib.hid hxx
    have HNm := Lib.hid hnm
    have HXk := Lib.hid (HOk.out x (List.mem_of_getElem? hxx))
    have HJ : Hid ((runL [] (cs.take j)).length ≤ j ∧ ListOk w (runL [] (cs.take j))) := by
      have hr := runL_ok (w := w) (cs.take j) [] (listok_nil w) (by simp; omega) fun c hc => by
        obtain ⟨i, hi⟩ := List.getElem?_of_mem hc
        have hi2 : cs[i]? = some c := by
          rw [List.getElem?_take] at hi
          split at hi
          · exact hi
          · cases hi
        obtain ⟨g, o, -, -, -, -, -, -, -, h⟩ := hcell i c hi2
        exact ⟨HOk.out c (List.mem_of_getElem? hi2), h⟩
      refine Lib.hid ⟨?_, hr.1⟩
      have := hr.2
      simp at this
      omega
    have HEl : Hid ((runE [] (cs.take j)).length = j) := by
      show _ = _
      rw [runE_len, List.length_take, ← HN.out]
      omega
    have HT1 : Hid (runL [] (cs.take (j + 1)) = applyL (runL [] (cs.take j)) x) := by show _ = _; rw [take_snocC hxx, runL_snoc]
    have HT2 : Hid (runE [] (cs.take (j + 1)) = runE [] (cs.take j) ++ [applyE (runL [] (cs.take j)) x]) := by show _ = _; rw [take_snocC hxx, runE_snoc]
    obtain ⟨k, id, eid, nv, ns, t⟩ := x
    dsimp only at d0 d1 d2 d3 d4 hnm
    obtain ⟨yn, cn, hnv, -⟩ := hnm
    subst hnv
    clear hcell hxx hg
    go_upto_region 6 with fail
    clear d0 d1 d2 d3 d4 hg1
    have hoA := HO.out.box (.cells #[.int .i64 k, .string (bs id), .string (bs eid), .slice yn ns.length cn, .int .i64 t] 29 (0, 0))
    obtain ⟨b7, hb7⟩ : ∃ x, x = wr.heap.size := ⟨_, rfl⟩
    obtain ⟨W5, hW5⟩ : ∃ W, W = wr.alloc (.cells #[.int .i64 k, .string (bs id), .string (bs eid), .slice yn ns.length cn, .int .i64 t] 29) := ⟨_, rfl⟩
    rw [← hW5, ← hb7] at hoA ⊢
    clear hW5 hb7
    have hbk := hoA.blk
    have c0 : W5.cell? ⟨b7, 0, none⟩ = some (.int .i64 k) := by rw [cell_of_heap hbk.1]; rfl
    have c1 : W5.cell? ⟨b7, 1, none⟩ = some (.string (bs id)) := by rw [cell_of_heap hbk.1]; rfl
    have c2 : W5.cell? ⟨b7, 2, none⟩ = some (.string (bs eid)) := by rw [cell_of_heap hbk.1]; rfl
    have c3 : W5.cell? ⟨b7, 3, none⟩ = some (.slice yn ns.length cn) := by rw [cell_of_heap hbk.1]; rfl
    have c4 : W5.cell? ⟨b7, 4, none⟩ = some (.int .i64 t) := by rw [cell_of_heap hbk.1]; rfl
    have l3 := lt_of_block hbk.1
    replace HO := Lib.hid hoA.pop
    clear hbk hoA
    go_wp2_with fail
    clear c0 c1 c2 c3 c4 l3
    go_at_call 16
    refine (apply_c (runL [] (cs.take j)) ⟨k, id, eid, .slice yn ns.length cn, ns, t⟩ _ W5 HStd.out HO.out HJ.out.2 (by have := HJ.out.1; omega) HNm.out HXk.out).mono ?_
    rintro e W6 (⟨he, rfl, ho⟩ | ⟨he, v', rfl, ho⟩)
    · obtain ⟨er, her⟩ : ∃ z, z = applyE (runL [] (cs.take j)) ⟨k, id, eid, .slice yn ns.length cn, ns, t⟩ := ⟨_, rfl⟩
      have HEr := Lib.hid her
      rw [← her] at he ⊢
      have he' : (er == 0) = false := by simpa using he
      replace HO := Lib.hid ho
      clear ho her he
      -- the error is written down: W6 the world, er the error, %3 its equation
      have hoA := HO.out.swap.box (.cells #[.int .i64 er] 34 (0, 0))
      go_wp2_with (refine wpList_plain rfl fun K hK => wp_append (.tmp 22) (.tmp 24) 31 (by rfl) 34 _ 1 8 Tryz.underlying31 info_er (by rfl) (by omega) _ (runE [] (cs.take j)).length _ (by rfl) hoA.pop.row W6.heap.size 1 1 [.int .i64 er] (by rfl) (by rfl) 34 (by exact hoA.blk.1) (by simp [Value.oneCell']) (by rw [HEl.out]; omega) (by rw [HEl.out]; omega) ?_; intro v2 w9 hrow hgrow hblk; refine hK _ _ ?_)
      have hO2 := Owns.rowGrew hoA.swap hrow hgrow hblk
      replace HO := Lib.hid hO2.swap.pop
      clear hoA hrow hgrow hblk hO2
      go_wp2_with fail
      go_roundw
      case rel =>
        refine ⟨j + 1, by omega, by go_num, ?_⟩
        have h1 : applyL (runL [] (cs.take j)) ⟨k, id, eid, .slice yn ns.length cn, ns, t⟩ = runL [] (cs.take j) := by
          unfold applyL
          rw [if_pos (by rw [← HEr.out]; simpa using he')]
        refine Lib.hid ?_
        rw [HT1.out, HT2.out, h1, ← HEr.out]
        rw [erow_snoc]
        exact HO.out.swap
      case measure => simp [intOf]; omega
    · replace HO := Lib.hid ho
      clear ho
      -- the error is written down: W6 the world, 0 the error, %3 its equation
      have hoA := HO.out.swap.box (.cells #[.int .i64 0] 34 (0, 0))
      go_wp2_with (refine wpList_plain rfl fun K hK => wp_append (.tmp 22) (.tmp 24) 31 (by rfl) 34 _ 1 8 Tryz.underlying31 info_er (by rfl) (by omega) _ (runE [] (cs.take j)).length _ (by rfl) hoA.pop.row W6.heap.size 1 1 [.int .i64 0] (by rfl) (by rfl) 34 (by exact hoA.blk.1) (by simp [Value.oneCell']) (by rw [HEl.out]; omega) (by rw [HEl.out]; omega) ?_; intro v2 w9 hrow hgrow hblk; refine hK _ _ ?_)
      have hO2 := Owns.rowGrew hoA.swap hrow hgrow hblk
      replace HO := Lib.hid hO2.swap.pop
      clear hoA hrow hgrow hblk hO2
      go_wp2_with fail
      go_roundw
      case rel =>
        refine ⟨j + 1, by omega, by go_num, ?_⟩
        refine Lib.hid ?_
        rw [HT1.out, HT2.out, he]
        rw [erow_snoc]
        exact HO.out.swap
      case measure => simp [intOf]; omega
  · obtain rfl : j = n := by omega
    clear hjn hj
    go_wp2_with fail
    refine bodyPost_ret run_res (by rfl) ⟨_, _, rfl, ?_⟩
    have h := HO.out
    rw [HN.out, List.take_length] at h
    exact h
end Go.Proofs.YtckocgkndbdhcaaGreatDoor

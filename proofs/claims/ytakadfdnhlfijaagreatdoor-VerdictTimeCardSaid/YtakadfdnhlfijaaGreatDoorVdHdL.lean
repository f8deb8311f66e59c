/-
  The examples of the chapter, in plain Lean; measures and scenes that are written out in memory.
-/
import Derived.Test.YtakadfdnhlfijaaGreatDoorVdFew2
namespace Go.Cz.Vd
open Go.Cz.Lx Go.Cz.Fo
open Go.Cz.Ck (Shift validB)
def tM1 : Bytes := [109, 49]
def tX1 : Bytes := [120, 49]
def tB1 : Bytes := [98, 49]
def tEu : Bytes := [101, 117]
def tUs : Bytes := [117, 115]
def tVal : Bytes := [118, 97, 108, 117, 101]
def moreF (n : Int) : Fm := .mk 3 tVal 6 n []
def exMs : List Me := [⟨tM1, tEu, 1, [], moreF 5, 2, -1, 0⟩, ⟨tX1, tEu, 2, tM1, moreF 9, 8, -1, 0⟩, ⟨tB1, tUs, 3, tEu, .mk 1 [] 0 0 [], 5, -1, 0⟩]
def exSc (day : Int) : Sc := ⟨[⟨tVal, 2, 0, 100⟩], [tEu, tUs], [[(0, 0)], [(0, 0)]], [[10], [10]], 0, day * 1440⟩
theorem ex_licensed : licensedV exMs (exSc 1) [] = (⟨1, [], []⟩, 0) ∧ licensedV exMs (exSc 2) [] = (⟨2, [tM1], []⟩, 0) ∧ licensedV exMs (exSc 5) [] = (⟨3, [tM1], [tB1]⟩, 0) ∧ licensedV exMs (exSc 5) [tM1] = (⟨4, [tM1], []⟩, 0) ∧ licensedV exMs (exSc 8) [] = (⟨1, [], []⟩, 0) := by
  have h : ∀ (r : Ve × Nat) (k : Int) (f b : List Bytes), (r.1.kind = k ∧ r.1.forbids = f ∧ r.1.blocks = b ∧ r.2 = 0) → r = (⟨k, f, b⟩, 0) := by
    rintro ⟨⟨a, b, c⟩, d⟩ k f b' ⟨rfl, rfl, rfl, rfl⟩; rfl
  exact ⟨h _ _ _ _ (by decide +kernel), h _ _ _ _ (by decide +kernel), h _ _ _ _ (by decide +kernel), h _ _ _ _ (by decide +kernel), h _ _ _ _ (by decide +kernel)⟩
theorem ex_proper : properB (exSc 3) = true := by decide +kernel
end Go.Cz.Vd
namespace Go.Proofs.YtakadfdnhlfijaaGreatDoor
open Go.RowKit Go.Cz Go.Cz.Lx Go.Cz.Fo Go.Cz.Vd
open Go.Cz.Ck (Shift validB)
set_option linter.unusedSimpArgs false
set_option linter.unusedVariables false
attribute [local go_sem] bs_size bs_extract bs_append bs_toList
attribute [local irreducible] cList cPlan
theorem more_c (n : Int) (w : World) : Calls Tryz.prog 52 #[.int .i64 n] w fun e w' => e = .returned (.agg #[.int .i64 3, .string (bs tVal), .int .i64 6, .int .i64 n, .slice none 0 0]) ∧ Below w.heap.size w w' := by
  go_enter Tryz.func52, Tryz.ntmps52
  go_wp2_with fail
  refine bodyPost_ret (v := .agg #[.int .i64 3, .string (bs tVal), .int .i64 6, .int .i64 n, .slice none 0 0]) (by simp [results, Tryz.results52, go_sem, bs, tVal]) rfl ?_
  exact ⟨rfl, by repeat (first | exact Below.refl _ _ | (refine Below.setCell ?_ (by simp) _) | (refine Below.alloc ?_ (by simp) _))⟩
abbrev exCells : List Value := [.string (bs tM1), .string (bs tEu), .int .i64 1, .string (bs []), .int .i64 3, .string (bs tVal), .int .i64 6, .int .i64 5, .slice none 0 0, .int .i64 2, .int .i64 (-1), .int .i64 0,
  .string (bs tX1), .string (bs tEu), .int .i64 2, .string (bs tM1), .int .i64 3, .string (bs tVal), .int .i64 6, .int .i64 9, .slice none 0 0, .int .i64 8, .int .i64 (-1), .int .i64 0,
  .string (bs tB1), .string (bs tUs), .int .i64 3, .string (bs tEu), .int .i64 1, .string (bs []), .int .i64 0, .int .i64 0, .slice none 0 0, .int .i64 5, .int .i64 (-1), .int .i64 0]
theorem ex_me {W : World} {g : Nat} (h : W.heap[g]? = some (.cells exCells.toArray 46 (0, 0))) : IsMeR W exMs (.slice (some ⟨g, 0, none⟩) 3 3) := by
  refine ⟨_, 3, rfl, .inr ⟨g, 0, rfl, lt_of_block h, Nat.le_refl _, fun j m hj => ?_⟩⟩
  have k : ∀ i, W.cell? ⟨g, i, none⟩ = exCells[i]? := fun i => by rw [cell_of_heap h]; simp
  rcases j with _ | _ | _ | j
  · obtain rfl : _ = m := by simpa [exMs] using hj
    exact ⟨.slice none 0 0, ⟨k 0, k 1, k 2, k 3, k 4, k 5, k 6, k 7, k 8, k 9, k 10, k 11⟩, .leaf _ _ _ _ _ _⟩
  · obtain rfl : _ = m := by simpa [exMs] using hj
    exact ⟨.slice none 0 0, ⟨k 12, k 13, k 14, k 15, k 16, k 17, k 18, k 19, k 20, k 21, k 22, k 23⟩, .leaf _ _ _ _ _ _⟩
  · obtain rfl : _ = m := by simpa [exMs] using hj
    exact ⟨.slice none 0 0, ⟨k 24, k 25, k 26, k 27, k 28, k 29, k 30, k 31, k 32, k 33, k 34, k 35⟩, .leaf _ _ _ _ _ _⟩
  · simp [exMs] at hj
set_option maxRecDepth 100000 in
set_option maxHeartbeats 4000000 in
theorem measures_c (w : World) : Calls Tryz.prog 24 #[] w fun e w' => ∃ v, e = .returned v ∧ IsMeR w' exMs v ∧ Below w.heap.size w w' := by
  go_enter Tryz.func24, Tryz.ntmps24
  go_wp2_with fail
  go_at_call 52
  refine (more_c 5 w).mono ?_
  rintro e W2 ⟨rfl, hb⟩
  have Hb := Lib.hid hb
  clear hb
  go_wp2_with fail
  go_at_call 52
  refine (more_c 9 W2).mono ?_
  rintro e W3 ⟨rfl, hb⟩
  replace Hb := Lib.hid (Hb.out.trans (hb.mono Hb.out.size))
  clear hb
  obtain ⟨W4, hW4⟩ : ∃ W, W = W3.alloc (.cells exCells.toArray 46) := ⟨_, rfl⟩
  have HE : Hid (IsMeR W4 exMs (.slice (some ⟨W3.heap.size, 0, none⟩) 3 3) ∧ Below w.heap.size w W4) := by
    rw [hW4]
    exact ⟨ex_me (new_heap W3 _ _ rfl), Hb.out.alloc Hb.out.size _⟩
  go_wp2_with fail
  go_ret
  rw [hW4] at HE
  exact ⟨_, rfl, HE.out.1, HE.out.2⟩
set_option maxRecDepth 100000 in
set_option maxHeartbeats 4000000 in
theorem scene_c (d : Int) (h0 : 0 ≤ d) (h1 : d ≤ 1000) (w : World) : Calls Tryz.prog 25 #[.int .i64 d] w fun e w' => ∃ vd va vz vc, e = .returned (sval (exSc d) vd va vz vc) ∧ IsSc w' (exSc d) vd va vz vc ∧ Below w.heap.size w w' := by
  have ho := ((((((((((Owns.start w).box (.cells #[Value.slice (some ⟨w.heap.size + 1 + 1 + 1, 0, none⟩) 1 1, Value.slice (some ⟨w.heap.size + 1 + 1 + 1 + 1, 0, none⟩) 2 2, Value.slice (some ⟨w.heap.size + 1 + 1 + 1 + 1 + 1, 0, none⟩) 2 2, Value.slice (some ⟨w.heap.size + 1 + 1 + 1 + 1 + 1 + 1 + 1 + 1, 0, none⟩) 2 2, .int .i64 0, .int .i64 (d * 1440)] 30 (0, 0))).box (.cells #[.int .i64 0, .int .i64 0] 89 (0, 0))).box (.cells #[Value.slice (some ⟨w.heap.size + 1, 0, none⟩) 1 1] 66 (0, 0))).box (.cells #[.string (bs tVal), .int .i64 2, .int .i64 0, .int .i64 100] 91 (0, 0))).box (.cells #[.string (bs tEu), .string (bs tUs)] 9 (0, 0))).box (.cells #[Value.slice (some ⟨w.heap.size + 1, 0, none⟩) 1 1, Value.slice (some ⟨w.heap.size + 1, 0, none⟩) 1 1] 66 (0, 0))).box (.cells #[.int .i64 10] 3 (0, 0))).box (.cells #[.int .i64 10] 3 (0, 0))).box (.cells #[Value.slice (some ⟨w.heap.size + 1 + 1 + 1 + 1 + 1 + 1, 0, none⟩) 1 1, Value.slice (some ⟨w.heap.size + 1 + 1 + 1 + 1 + 1 + 1 + 1, 0, none⟩) 1 1] 68 (0, 0)))
  simp only [World.size_alloc] at ho
  obtain ⟨W, hW⟩ : ∃ W, W = (((((((((w.alloc (.cells #[Value.slice (some ⟨w.heap.size + 1 + 1 + 1, 0, none⟩) 1 1, Value.slice (some ⟨w.heap.size + 1 + 1 + 1 + 1, 0, none⟩) 2 2, Value.slice (some ⟨w.heap.size + 1 + 1 + 1 + 1 + 1, 0, none⟩) 2 2, Value.slice (some ⟨w.heap.size + 1 + 1 + 1 + 1 + 1 + 1 + 1 + 1, 0, none⟩) 2 2, .int .i64 0, .int .i64 (d * 1440)] 30 (0, 0))).alloc (.cells #[.int .i64 0, .int .i64 0] 89 (0, 0))).alloc (.cells #[Value.slice (some ⟨w.heap.size + 1, 0, none⟩) 1 1] 66 (0, 0))).alloc (.cells #[.string (bs tVal), .int .i64 2, .int .i64 0, .int .i64 100] 91 (0, 0))).alloc (.cells #[.string (bs tEu), .string (bs tUs)] 9 (0, 0))).alloc (.cells #[Value.slice (some ⟨w.heap.size + 1, 0, none⟩) 1 1, Value.slice (some ⟨w.heap.size + 1, 0, none⟩) 1 1] 66 (0, 0))).alloc (.cells #[.int .i64 10] 3 (0, 0))).alloc (.cells #[.int .i64 10] 3 (0, 0))).alloc (.cells #[Value.slice (some ⟨w.heap.size + 1 + 1 + 1 + 1 + 1 + 1, 0, none⟩) 1 1, Value.slice (some ⟨w.heap.size + 1 + 1 + 1 + 1 + 1 + 1 + 1, 0, none⟩) 1 1] 68 (0, 0))) := ⟨_, rfl⟩
  rw [← hW] at ho
  have k0 := (Owns.drop ho 8).blk.1
  have k1 := (Owns.drop ho 7).blk.1
  have k2 := (Owns.drop ho 6).blk.1
  have k3 := (Owns.drop ho 5).blk.1
  have k4 := (Owns.drop ho 4).blk.1
  have k5 := (Owns.drop ho 3).blk.1
  have k6 := (Owns.drop ho 2).blk.1
  have k7 := (Owns.drop ho 1).blk.1
  have k8 := (Owns.drop ho 0).blk.1
  have hz : IsShifts W (some ⟨w.heap.size + 1, 0, none⟩) 1 [(0, 0)] := ⟨rfl, by omega, .inr ⟨_, 0, rfl, lt_of_block k1, fun j x hj => by
    rcases j with _ | j
    · obtain rfl : _ = x := by simpa using hj
      exact ⟨by rw [cell_of_heap k1]; rfl, by rw [cell_of_heap k1]; rfl⟩
    · simp at hj⟩⟩
  have hd : IsD W (exSc d).dom (Value.slice (some ⟨w.heap.size + 1 + 1 + 1, 0, none⟩) 1 1) := ⟨_, 1, rfl, .inr ⟨_, 0, rfl, lt_of_block k3, Nat.le_refl _, fun j x hj => by
    rcases j with _ | j
    · obtain rfl : _ = x := by simpa [exSc] using hj
      exact ⟨by rw [cell_of_heap k3]; rfl, by rw [cell_of_heap k3]; rfl, by rw [cell_of_heap k3]; rfl, by rw [cell_of_heap k3]; rfl⟩
    · simp [exSc] at hj⟩⟩
  have ha : IsTxR W (exSc d).auths (Value.slice (some ⟨w.heap.size + 1 + 1 + 1 + 1, 0, none⟩) 2 2) := ⟨_, 2, rfl, .inr ⟨_, 0, rfl, lt_of_block k4, Nat.le_refl _, fun j x hj => by
    rcases j with _ | _ | j
    · obtain rfl : _ = x := by simpa [exSc] using hj
      rw [cell_of_heap k4]; rfl
    · obtain rfl : _ = x := by simpa [exSc] using hj
      rw [cell_of_heap k4]; rfl
    · simp [exSc] at hj⟩⟩
  have hzz : IsZoR W (exSc d).zones (Value.slice (some ⟨w.heap.size + 1 + 1 + 1 + 1 + 1, 0, none⟩) 2 2) := ⟨_, 2, rfl, .inr ⟨_, 0, rfl, lt_of_block k5, Nat.le_refl _, fun j x hj => by
    rcases j with _ | _ | j
    · obtain rfl : _ = x := by simpa [exSc] using hj
      exact ⟨_, 1, by rw [cell_of_heap k5]; rfl, hz⟩
    · obtain rfl : _ = x := by simpa [exSc] using hj
      exact ⟨_, 1, by rw [cell_of_heap k5]; rfl, hz⟩
    · simp [exSc] at hj⟩⟩
  have hca : ∀ g, W.heap[g]? = some (.cells #[.int .i64 10] 3 (0, 0)) → IsC W [10] (.slice (some ⟨g, 0, none⟩) 1 1) := fun g hg => ⟨_, 1, rfl, .inr ⟨_, 0, rfl, lt_of_block hg, Nat.le_refl _, fun j x hj => by
    rcases j with _ | j
    · obtain rfl : _ = x := by simpa using hj
      rw [cell_of_heap hg]; rfl
    · simp at hj⟩⟩
  have hcc : IsCaR W (exSc d).cases (Value.slice (some ⟨w.heap.size + 1 + 1 + 1 + 1 + 1 + 1 + 1 + 1, 0, none⟩) 2 2) := ⟨_, 2, rfl, .inr ⟨_, 0, rfl, lt_of_block k8, Nat.le_refl _, fun j x hj => by
    rcases j with _ | _ | j
    · obtain rfl : _ = x := by simpa [exSc] using hj
      exact ⟨_, by rw [cell_of_heap k8]; rfl, hca _ k6⟩
    · obtain rfl : _ = x := by simpa [exSc] using hj
      exact ⟨_, by rw [cell_of_heap k8]; rfl, hca _ k7⟩
    · simp [exSc] at hj⟩⟩
  have HE : Hid (IsSc W (exSc d) (Value.slice (some ⟨w.heap.size + 1 + 1 + 1, 0, none⟩) 1 1) (Value.slice (some ⟨w.heap.size + 1 + 1 + 1 + 1, 0, none⟩) 2 2) (Value.slice (some ⟨w.heap.size + 1 + 1 + 1 + 1 + 1, 0, none⟩) 2 2) (Value.slice (some ⟨w.heap.size + 1 + 1 + 1 + 1 + 1 + 1 + 1 + 1, 0, none⟩) 2 2) ∧ Below w.heap.size w W) := ⟨⟨hd, ha, hzz, hcc⟩, ho.base⟩
  have c0 := cell_of_heap k0 (i := 0)
  have c1 := cell_of_heap k0 (i := 1)
  have c2 := cell_of_heap k0 (i := 2)
  have c3 := cell_of_heap k0 (i := 3)
  have c4 := cell_of_heap k0 (i := 4)
  have c5 := cell_of_heap k0 (i := 5)
  simp only [List.getElem?_toArray, List.getElem?_cons_succ, List.getElem?_cons_zero] at c0 c1 c2 c3 c4 c5
  clear ho k0 k1 k2 k3 k4 k5 k6 k7 k8 hz hd ha hzz hca hcc
  go_enter Tryz.func25, Tryz.ntmps25
  go_wp2_with fail
  show bodyPost _ _ _ _ _ (((((((((w.alloc (.cells #[Value.slice (some ⟨w.heap.size + 1 + 1 + 1, 0, none⟩) 1 1, Value.slice (some ⟨w.heap.size + 1 + 1 + 1 + 1, 0, none⟩) 2 2, Value.slice (some ⟨w.heap.size + 1 + 1 + 1 + 1 + 1, 0, none⟩) 2 2, Value.slice (some ⟨w.heap.size + 1 + 1 + 1 + 1 + 1 + 1 + 1 + 1, 0, none⟩) 2 2, .int .i64 0, .int .i64 (d * 1440)] 30 (0, 0))).alloc (.cells #[.int .i64 0, .int .i64 0] 89 (0, 0))).alloc (.cells #[Value.slice (some ⟨w.heap.size + 1, 0, none⟩) 1 1] 66 (0, 0))).alloc (.cells #[.string (bs tVal), .int .i64 2, .int .i64 0, .int .i64 100] 91 (0, 0))).alloc (.cells #[.string (bs tEu), .string (bs tUs)] 9 (0, 0))).alloc (.cells #[Value.slice (some ⟨w.heap.size + 1, 0, none⟩) 1 1, Value.slice (some ⟨w.heap.size + 1, 0, none⟩) 1 1] 66 (0, 0))).alloc (.cells #[.int .i64 10] 3 (0, 0))).alloc (.cells #[.int .i64 10] 3 (0, 0))).alloc (.cells #[Value.slice (some ⟨w.heap.size + 1 + 1 + 1 + 1 + 1 + 1, 0, none⟩) 1 1, Value.slice (some ⟨w.heap.size + 1 + 1 + 1 + 1 + 1 + 1 + 1, 0, none⟩) 1 1] 68 (0, 0)))
  rw [← hW]
  clear hW
  refine bodyPost_ret (v := .agg #[Value.slice (some ⟨w.heap.size + 1 + 1 + 1, 0, none⟩) 1 1, Value.slice (some ⟨w.heap.size + 1 + 1 + 1 + 1, 0, none⟩) 2 2, Value.slice (some ⟨w.heap.size + 1 + 1 + 1 + 1 + 1, 0, none⟩) 2 2, Value.slice (some ⟨w.heap.size + 1 + 1 + 1 + 1 + 1 + 1 + 1 + 1, 0, none⟩) 2 2, .int .i64 0, .int .i64 (d * 1440)]) (by simp [results, Tryz.results25, go_sem, c0, c1, c2, c3, c4, c5]) rfl ?_
  exact ⟨_, _, _, _, rfl, HE.out.1, HE.out.2⟩
end Go.Proofs.YtakadfdnhlfijaaGreatDoor

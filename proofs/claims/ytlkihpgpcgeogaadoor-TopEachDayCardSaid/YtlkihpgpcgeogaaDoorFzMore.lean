/-
  Frozen accounts: 'Receive', 'Move', 'New', 'first', 'Balance'.
-/
import Derived.Test.YtlkihpgpcgeogaaDoorFzAdd
namespace Go.Proofs.YtlkihpgpcgeogaaDoor
open Go.RowKit Go.Cz Go.Cz.Td
set_option linter.unusedSimpArgs false
set_option linter.unusedVariables false
attribute [local irreducible] cList cPlan
set_option maxHeartbeats 1000000 in
theorem recv_c {w0 : World} {ps : List Piece} {b : Nat} {a : Acc} (d u : Int) (w : World) (h : Owns w0 w (accP b a :: ps)) (hg : GoodA a) :
    Calls Tryd.prog 6 #[.pointer (some ⟨b, 0, none⟩), .int .i64 d, .int .i64 u] w fun e w' => e = .returned (.int .i64 (recvE a d u : Nat)) ∧ Owns w0 w' (accP b (recvA a d u) :: ps) := by
  have HO := Lib.hid h
  have HG := Lib.hid hg
  have HB : Hid (recvE a d u = 1 → recvA a d u = a) := Lib.hid fun h => by unfold recvA; rw [h]; rfl
  clear h hg
  go_enter Tryd.func6, Tryd.ntmps6
  go_wp2_with fail
  go_at_call 18
  refine (isDay_c d _).mono ?_
  rintro e w1 ⟨rfl, rfl⟩
  obtain ⟨q, hq⟩ : ∃ q, q = isDay d := ⟨_, rfl⟩
  rw [← hq]
  replace hq := Lib.hid hq
  cases q
  · have HE : Hid (recvE a d u = 1) := by show _ = _; unfold recvE; rw [← hq.out]; rfl
    go_wp2_with fail
    go_ret
    exact ⟨by rw [HE.out]; rfl, by rw [HB.out HE.out]; exact HO.out⟩
  go_wp2_with fail
  go_at_call 17
  refine (within_c u 1 1000000000000 _).mono ?_
  rintro e w2 ⟨rfl, rfl⟩
  obtain ⟨q, hq2⟩ : ∃ q, q = inB u 1 1000000000000 := ⟨_, rfl⟩
  rw [← hq2]
  replace hq2 := Lib.hid hq2
  cases q
  · have HE : Hid (recvE a d u = 1) := by show _ = _; unfold recvE; rw [← hq.out, show inB u 1 MU = false from hq2.out.symm]; rfl
    go_wp2_with fail
    go_ret
    exact ⟨by rw [HE.out]; rfl, by rw [HB.out HE.out]; exact HO.out⟩
  have HE : Hid (recvE a d u = addE a d u true) := by show _ = _; unfold recvE; rw [← hq.out, show inB u 1 MU = true from hq2.out.symm]; rfl
  have HA2 : Hid (recvA a d u = addA a d u true) := by show _ = _; unfold recvA addA; rw [HE.out]
  have hb := inB_iff.1 hq2.out.symm
  have HU : Hid (-MU ≤ u ∧ u ≤ MU) := Lib.hid ⟨by have e : MU = 1000000000000 := rfl; omega, by have e : MU = 1000000000000 := rfl; omega⟩
  clear hb
  go_wp2_with fail
  go_at_call 19
  refine (add_c d u true _ HO.out HG.out HU.out).mono ?_
  rintro e w3 ⟨rfl, ho⟩
  rw [← HE.out]
  rw [← HA2.out] at ho
  go_wp2_with fail
  go_ret
  exact ⟨rfl, ho⟩
set_option maxHeartbeats 1000000 in
theorem move_c {w0 : World} {ps : List Piece} {b : Nat} {a : Acc} (d u : Int) (lic : Bool) (w : World) (h : Owns w0 w (accP b a :: ps)) (hg : GoodA a) :
    Calls Tryd.prog 7 #[.pointer (some ⟨b, 0, none⟩), .int .i64 d, .int .i64 u, .bool lic] w fun e w' => e = .returned (.int .i64 (moveE a d u lic : Nat)) ∧ Owns w0 w' (accP b (moveA a d u lic) :: ps) := by
  have HO := Lib.hid h
  have HG := Lib.hid hg
  have HB : Hid (moveE a d u lic = 1 → moveA a d u lic = a) := Lib.hid fun h => by unfold moveA; rw [h]; rfl
  clear h hg
  go_enter Tryd.func7, Tryd.ntmps7
  go_wp2_with fail
  go_at_call 18
  refine (isDay_c d _).mono ?_
  rintro e w1 ⟨rfl, rfl⟩
  obtain ⟨q, hq⟩ : ∃ q, q = isDay d := ⟨_, rfl⟩
  rw [← hq]
  replace hq := Lib.hid hq
  cases q
  · have HE : Hid (moveE a d u lic = 1) := by show _ = _; unfold moveE; rw [← hq.out]; rfl
    go_wp2_with fail
    go_ret
    exact ⟨by rw [HE.out]; rfl, by rw [HB.out HE.out]; exact HO.out⟩
  go_wp2_with fail
  go_at_call 17
  refine (within_c u 1 1000000000000 _).mono ?_
  rintro e w2 ⟨rfl, rfl⟩
  obtain ⟨q, hq2⟩ : ∃ q, q = inB u 1 1000000000000 := ⟨_, rfl⟩
  rw [← hq2]
  replace hq2 := Lib.hid hq2
  cases q
  · have HE : Hid (moveE a d u lic = 1) := by show _ = _; unfold moveE; rw [← hq.out, show inB u 1 MU = false from hq2.out.symm]; rfl
    go_wp2_with fail
    go_ret
    exact ⟨by rw [HE.out]; rfl, by rw [HB.out HE.out]; exact HO.out⟩
  have HE : Hid (moveE a d u lic = addE a d (-u) lic) := by show _ = _; unfold moveE; rw [← hq.out, show inB u 1 MU = true from hq2.out.symm]; rfl
  have HA2 : Hid (moveA a d u lic = addA a d (-u) lic) := by show _ = _; unfold moveA addA; rw [HE.out]
  obtain ⟨hb1, hb2⟩ := inB_iff.1 hq2.out.symm
  have HU : Hid (-MU ≤ -u ∧ -u ≤ MU) := Lib.hid ⟨by have e : MU = 1000000000000 := rfl; omega, by have e : MU = 1000000000000 := rfl; omega⟩
  go_wp2_with fail
  clear hb1 hb2
  go_at_call 19
  refine (add_c d (-u) lic _ HO.out HG.out HU.out).mono ?_
  rintro e w3 ⟨rfl, ho⟩
  rw [← HE.out]
  rw [← HA2.out] at ho
  go_wp2_with fail
  go_ret
  exact ⟨rfl, ho⟩
set_option maxHeartbeats 1000000 in
theorem new_c (r0 r1 d u : Int) (w : World) :
    Calls Tryd.prog 5 #[.int .i64 r0, .int .i64 r1, .int .i64 d, .int .i64 u] w fun e w' => (newA r0 r1 d u = false ∧ e = .returned (.tuple #[.pointer none, .int .i64 1]) ∧ Below w.heap.size w w') ∨ (newA r0 r1 d u = true ∧ ∃ b, e = .returned (.tuple #[.pointer (some ⟨b, 0, none⟩), .int .i64 0]) ∧ Owns w w' [accP b ⟨r0, r1, [(d, u)], false⟩]) := by
  go_enter Tryd.func5, Tryd.ntmps5
  go_wp2_with fail
  go_at_call 17
  refine (within_c r0 0 10000 _).mono ?_
  rintro e w1 ⟨rfl, rfl⟩
  obtain ⟨q1, hq1⟩ : ∃ q, q = inB r0 0 10000 := ⟨_, rfl⟩
  rw [← hq1]
  replace hq1 := Lib.hid hq1
  cases q1
  · have HE : Hid (newA r0 r1 d u = false) := by show _ = _; unfold newA; rw [← hq1.out]; rfl
    go_wp2_with fail
    go_ret2
    exact .inl ⟨HE.out, rfl, Below.refl _ _⟩
  go_wp2_with fail
  go_at_call 17
  refine (within_c r1 0 10000 _).mono ?_
  rintro e w1 ⟨rfl, rfl⟩
  obtain ⟨q2, hq2⟩ : ∃ q, q = inB r1 0 10000 := ⟨_, rfl⟩
  rw [← hq2]
  replace hq2 := Lib.hid hq2
  cases q2
  · have HE : Hid (newA r0 r1 d u = false) := by show _ = _; unfold newA; rw [← hq1.out, ← hq2.out]; rfl
    go_wp2_with fail
    go_ret2
    exact .inl ⟨HE.out, rfl, Below.refl _ _⟩
  go_wp2_with fail
  go_at_call 18
  refine (isDay_c d _).mono ?_
  rintro e w1 ⟨rfl, rfl⟩
  obtain ⟨q3, hq3⟩ : ∃ q, q = isDay d := ⟨_, rfl⟩
  rw [← hq3]
  replace hq3 := Lib.hid hq3
  cases q3
  · have HE : Hid (newA r0 r1 d u = false) := by show _ = _; unfold newA; rw [← hq1.out, ← hq2.out, ← hq3.out]; rfl
    go_wp2_with fail
    go_ret2
    exact .inl ⟨HE.out, rfl, Below.refl _ _⟩
  go_wp2_with fail
  go_at_call 17
  refine (within_c u 0 1000000000000 _).mono ?_
  rintro e w1 ⟨rfl, rfl⟩
  obtain ⟨q4, hq4⟩ : ∃ q, q = inB u 0 1000000000000 := ⟨_, rfl⟩
  rw [← hq4]
  replace hq4 := Lib.hid hq4
  cases q4
  · have HE : Hid (newA r0 r1 d u = false) := by show _ = _; unfold newA; rw [← hq1.out, ← hq2.out, ← hq3.out, show inB u 0 MU = false from hq4.out.symm]; rfl
    go_wp2_with fail
    go_ret2
    exact .inl ⟨HE.out, rfl, Below.refl _ _⟩
  have HE : Hid (newA r0 r1 d u = true) := by show _ = _; unfold newA; rw [← hq1.out, ← hq2.out, ← hq3.out, show inB u 0 MU = true from hq4.out.symm]; rfl
  clear hq1 hq2 hq3 hq4
  have ho := ((Owns.start w1).rowLit (e := 54) (size := 2) (n := 1) [.int .i64 d, .int .i64 u] (by unfold maxLen; omega) rfl).box (aobj ⟨r0, r1, [(d, u)], false⟩ (.slice (some ⟨w1.heap.size, 0, none⟩) 1 1))
  rw [World.size_alloc] at ho
  have HO : Hid (Owns w1 _ [accP (w1.heap.size + 1) ⟨r0, r1, [(d, u)], false⟩]) := Lib.hid (Owns.asAcc (a := ⟨r0, r1, [(d, u)], false⟩) (v := .slice (some ⟨w1.heap.size, 0, none⟩) 1 1) ho)
  clear ho
  go_wp2_with fail
  go_ret2
  exact .inr ⟨HE.out, _, rfl, HO.out⟩
theorem bal_c {w0 : World} {ps : List Piece} {b : Nat} {a : Acc} (w : World) (h : Owns w0 w (accP b a :: ps)) (hg : GoodA a) :
    Calls Tryd.prog 13 #[.pointer (some ⟨b, 0, none⟩)] w fun e w' => e = .returned (.int .i64 (balA a)) ∧ Below w.heap.size w w' := by
  obtain ⟨g, o, c, hi⟩ := acc_in h hg.some
  have HI := Lib.hid hi
  have HG := Lib.hid hg
  have hb0 := lt_of_block hi.obj
  have ca3 : w.cell? ⟨b, 3, none⟩ = some (.bool a.closed) := by rw [cell_of_heap hi.obj]; rfl
  obtain ⟨q, hq⟩ : ∃ q, q = a.closed := ⟨_, rfl⟩
  rw [← hq] at ca3
  have HQ := Lib.hid hq
  clear h hg hi hq
  cases q
  · have HE : Hid (balA a = tot a.ms) := by show _ = _; unfold balA; rw [← HQ.out]; rfl
    go_enter Tryd.func13, Tryd.ntmps13
    go_wp2_with fail
    go_at_call 26
    refine (sum_c b a g o c w HI.out HG.out.slim HG.out.some).mono ?_
    rintro e w1 ⟨rfl, hb⟩
    go_wp2_with fail
    go_ret
    exact ⟨by rw [HE.out]; rfl, hb⟩
  · have HE : Hid (balA a = 0) := by show _ = _; unfold balA; rw [← HQ.out]; rfl
    go_enter Tryd.func13, Tryd.ntmps13
    go_wp2_with fail
    go_ret
    exact ⟨by rw [HE.out]; rfl, Below.refl _ _⟩
end Go.Proofs.YtlkihpgpcgeogaaDoor

/-
  Frozen accounts: 'Release'.
-/
import Derived.Test.YtlkihpgpcgeogaaDoorFzInt
namespace Go.Cz.Td
def relA (a : Acc) (d : Int) : Acc := if intE a d = 0 then { a with closed := true } else a
def relT (a : Acc) (d : Int) : Int := if intE a d = 0 then tot a.ms else 0
theorem GoodA.rel {a : Acc} (g : GoodA a) (d : Int) : GoodA (relA a d) := by
  unfold relA
  split
  · exact ⟨g.some, g.days, g.pre, g.len, g.r0, g.r1⟩
  · exact g
end Go.Cz.Td
namespace Go.Proofs.YtlkihpgpcgeogaaDoor
open Go.RowKit Go.Cz Go.Cz.Td
set_option linter.unusedSimpArgs false
set_option linter.unusedVariables false
attribute [local irreducible] cList cPlan
theorem rel_res {W : World} {tmps : Array Value} : (results Tryd.f16 tmps).run Tryd.prog W = .ok (.tuple #[tmps.getD 6 undef, tmps.getD 7 undef, tmps.getD 8 undef]) W := by
  simp [results, Tryd.results16, go_sem]
set_option maxHeartbeats 1000000 in
theorem rel_c {w0 : World} {ps : List Piece} {b : Nat} {a : Acc} (d : Int) (flag : Bool) (w : World) (h : Owns w0 w (accP b a :: ps)) (hg : GoodA a) :
    Calls Tryd.prog 16 #[.pointer (some ⟨b, 0, none⟩), .int .i64 d, .bool flag] w fun e w' => e = .returned (.tuple #[.int .i64 (relT a d), .int .i64 (intN a d flag), .int .i64 (intE a d : Nat)]) ∧ Owns w0 w' (accP b (relA a d) :: ps) := by
  have HO := Lib.hid h
  have HG := Lib.hid hg
  clear h hg
  go_enter Tryd.func16, Tryd.ntmps16
  go_wp2_with fail
  go_at_call 14
  refine (int_c d flag w HO.out HG.out).mono ?_
  rintro e W1 ⟨rfl, hb⟩
  replace HO := Lib.hid (HO.out.below hb)
  clear hb
  obtain ⟨E, hE⟩ : ∃ E, E = intE a d := ⟨_, rfl⟩
  obtain ⟨V, hV⟩ : ∃ V, V = intN a d flag := ⟨_, rfl⟩
  rw [← hE, ← hV]
  have HE : Hid (intE a d = E) := hE.symm
  have HV : Hid (intN a d flag = V) := hV.symm
  clear hE hV
  by_cases h0 : E = 0
  rotate_left
  · have h0' : ((E : Int) != 0) = true := by simp; omega
    have HT : Hid (relT a d = 0) := by show _ = _; unfold relT; rw [HE.out, if_neg h0]
    have HA2 : Hid (relA a d = a) := by show _ = _; unfold relA; rw [HE.out, if_neg h0]
    have HV0 : Hid (V = 0) := by show _ = _; rw [← HV.out]; unfold intN; rw [HE.out, if_neg h0]
    clear h0
    go_wp2_with fail
    refine bodyPost_ret rel_res (by rfl) ⟨?_, ?_⟩
    · rw [HE.out, HT.out, HV.out, HV0.out]; rfl
    · rw [HA2.out]; exact HO.out
  subst h0
  have HT : Hid (relT a d = tot a.ms) := by show _ = _; unfold relT; rw [HE.out, if_pos rfl]
  have HA2 : Hid (relA a d = { a with closed := true }) := by show _ = _; unfold relA; rw [HE.out, if_pos rfl]
  obtain ⟨v, hv⟩ := HO.out.acc
  obtain ⟨gv, cv, rfl, -, -, -, -, -⟩ := row_at hv.pop.row (List.length_pos_iff.2 HG.out.some)
  have h2 := Owns.asAcc (a := { a with closed := true }) (hv.store (i := 3) (.bool true))
  have HO2 := Lib.hid h2
  obtain ⟨bk, -⟩ := hv.blk
  have hba := lt_of_block bk
  have ca0 := cell_of_heap bk (i := 0)
  have ca1 := cell_of_heap bk (i := 1)
  have ca2 := cell_of_heap bk (i := 2)
  have ca3 := cell_of_heap bk (i := 3)
  have fa2 := free_of_heap bk (i := 2)
  have fa3 := free_of_heap bk (i := 3)
  simp only [List.getElem?_toArray, List.getElem?_cons_succ, List.getElem?_cons_zero] at ca0 ca1 ca2 ca3
  clear bk
  clear h2 hv
  go_upto_region 5 with fail
  obtain ⟨W2, hW2⟩ : ∃ W, W = W1.setCell ⟨b, 3, none⟩ (.bool true) := ⟨_, rfl⟩
  rw [← hW2] at HO2 ⊢
  clear hW2 hba ca0 ca1 ca2 ca3 fa2 fa3
  obtain ⟨g, o, c, hi⟩ := acc_in HO2.out (show ({ a with closed := true } : Acc).ms ≠ [] from HG.out.some)
  have HI := Lib.hid hi
  clear hi
  go_wp2_with fail
  go_at_call 26
  refine (sum_c b _ g o c W2 HI.out (show Slim ({ a with closed := true } : Acc).ms from HG.out.slim) HG.out.some).mono ?_
  rintro e W3 ⟨rfl, hb⟩
  go_wp2_with fail
  refine bodyPost_ret rel_res (by rfl) ⟨?_, ?_⟩
  · rw [HE.out, HT.out, HV.out]; rfl
  · rw [HA2.out]; exact HO2.out.below hb
end Go.Proofs.YtlkihpgpcgeogaaDoor

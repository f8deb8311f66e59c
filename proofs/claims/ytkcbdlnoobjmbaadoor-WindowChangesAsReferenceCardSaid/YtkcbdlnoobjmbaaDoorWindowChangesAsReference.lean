/-
  The statement of 'WindowChangesAsReference': the walk, lifted, and the card.
-/
import Derived.Test.YtkcbdlnoobjmbaaDoorWindowChangesAsReferenceW
import Derived.Test.YtkcbdlnoobjmbaaDoorWnWit
import Derived.Test.YtkcbdlnoobjmbaaDoorWnLists
import Derived.Test.YtkcbdlnoobjmbaaDoorRows
import Derived.Test.YtkcbdlnoobjmbaaDoorTie
import Derived.Test.YtkcbdlnoobjmbaaDoorCards
import Derived.SevenTiedAt
import Derived.WalkKit
import Derived.ProofKit
import Derived.OpenShut
import Derived.ShutString
import Derived.ChangeOld
import Derived.Below
import Derived.SizedLaws
namespace Go.Proofs.YtkcbdlnoobjmbaaDoor
open Go.ChangeShapes Go.WideShapes Go.ChangeAt Go.RowKit Go.Cz Go.Cz.Ck Go.Cz.Wn
open Go.ChangeMaps (open_string shut_string)
set_option linter.unusedVariables false
set_option maxRecDepth 100000 in
theorem windowChangesAsReference_lifted (os : Os) (started : os.Started) (H : Type) (enc : TypeId × Value → H) :
    ReturnsInHanded {} Tryd.checked os 4 .any (fun w args => (Rows.windowChangesAsReferenceSpec.pre enc Tryd.prog Tryd.f4 Rows.windowChangesAsReferenceRow.domain false w args ∧ laidMet Tryd.prog laid5 w) ∧ sizedMet enc Tryd.prog Tryd.f4 (OpenSpec.ofChange Rows.windowChangesAsReferenceSpec) false w args)
      (Rows.windowChangesAsReferenceSpec.post enc Tryd.prog Tryd.f4 false true false false) := by
  refine returnsInHanded_of_change_and (C := Tryd.checked) (X := fun w _ => laidMet Tryd.prog laid5 w) (fun _ _ _ hh h => h.of_heap hh) clock_own started (by kernel_rfl) Tryd.func4
    (ChangeSpec.witness_at (enc := enc) (C := Tryd.checked) (os := os) (X := fun w _ => laidMet Tryd.prog laid5 w) false (laidWorld os) #[.slice none 0 0, .slice none 0 0, .slice none 0 0] 8 rfl (by kernel_rfl) (by kernel_rfl) (by kernel_rfl) (by kernel_rfl) (by kernel_rfl) (laidWorld_met os _)) ?_
  intro W base args ds gs before hval0 hW _ hsz0 hL _
  have hsz : (DataW.weightsEach Tryd.prog (Tryd.f4.params.toList ++ Rows.windowChangesAsReferenceSpec.plain.varTypes Tryd.prog) (ds ++ gs)).all (· ≤ reachBytes) = true := hsz0
  clear hsz0
  have hval : ∀ (j : Nat) t v, Tryd.f4.params[j]? = some t → args[j]? = some v → Value.okWide Tryd.prog W .any base t v := hval0
  have hW' := hW
  obtain ⟨p, q, hA0, hV, rfl, hfz, hnd⟩ := hW
  have hA : DataW.TrodAll enc Tryd.prog W 0 (fun _ => true) true Tryd.f4.params.toList args.toList ds p := hA0
  rw [Tryd.params4] at hA hval hsz
  obtain ⟨v0, vs0, d0, ds0, p0, q0, hargs, rfl, rfl, h0, r0⟩ := trodAll_cons hA
  obtain ⟨v1, vs1, d1, ds1, p1, q1, rfl, rfl, rfl, h1, r1⟩ := trodAll_cons r0
  obtain ⟨v2, vs2, d2, ds2, p2, q2, rfl, rfl, rfl, h2, r2⟩ := trodAll_cons r1
  obtain ⟨rfl, rfl, rfl⟩ := trodAll_nil r2
  obtain rfl : args = #[v0, v1, v2] := by cases args; simp_all
  obtain ⟨rfl, rfl⟩ := trodVars_none hV
  have k0 := h0
  have lt0 : ∀ x ∈ p0, x.block < W.heap.size := by obtain ⟨m, hm⟩ := k0; exact DataW.trod_lt m _ _ _ hm
  have k1 := h1
  have lt1 : ∀ x ∈ p1, x.block < W.heap.size := by obtain ⟨m, hm⟩ := k1; exact DataW.trod_lt m _ _ _ hm
  have k2 := h2
  have lt2 : ∀ x ∈ p2, x.block < W.heap.size := by obtain ⟨m, hm⟩ := k2; exact DataW.trod_lt m _ _ _ hm
  obtain ⟨y0, yn0, yc0, rfl⟩ := okWide_slice Tryd.underlying35 (hval 0 35 v0 rfl rfl)
  obtain ⟨x0, n0, c0, l0, e0, hc0, hn0, u0⟩ : ∃ (x : Option Addr) (n c : Nat) (l : List Ms), Value.slice y0 yn0 yc0 = .slice x n c ∧ n ≤ c ∧ n ≤ 9223372036854775807 ∧ IsMs W x n l := by
    obtain ⟨fuel, hf⟩ := h0
    obtain ⟨a, n, c, l, hcs, h1, h2, h3⟩ := open_ms hf
    exact ⟨a, n, c, l, (List.cons.inj hcs).1, h1, h2, h3⟩
  simp only [Value.slice.injEq] at e0
  obtain ⟨rfl, rfl, rfl⟩ := e0
  obtain ⟨y1, yn1, yc1, rfl⟩ := okWide_slice Tryd.underlying36 (hval 1 36 v1 rfl rfl)
  obtain ⟨x1, n1, c1, l1, e1, hc1, hn1, u1⟩ : ∃ (x : Option Addr) (n c : Nat) (l : List ByteArray), Value.slice y1 yn1 yc1 = .slice x n c ∧ n ≤ c ∧ n ≤ 9223372036854775807 ∧ IsStrs W x n l := by
    obtain ⟨fuel, hf⟩ := h1
    obtain ⟨a, n, c, l, hcs, h0, h1, h2, h3⟩ := open_strs Tryd.underlying36 Tryd.underlying9 (by kernel_rfl) hf
    exact ⟨a, n, c, l, (List.cons.inj hcs).1, h1, h2, h0, h3⟩
  simp only [Value.slice.injEq] at e1
  obtain ⟨rfl, rfl, rfl⟩ := e1
  obtain ⟨y2, yn2, yc2, rfl⟩ := okWide_slice Tryd.underlying37 (hval 2 37 v2 rfl rfl)
  obtain ⟨x2, n2, c2, l2, e2, hc2, hn2, u2⟩ : ∃ (x : Option Addr) (n c : Nat) (l : List Zn), Value.slice y2 yn2 yc2 = .slice x n c ∧ n ≤ c ∧ n ≤ 9223372036854775807 ∧ IsZones W x n l := by
    obtain ⟨fuel, hf⟩ := h2
    obtain ⟨a, n, c, l, hcs, h1, h2, h3⟩ := open_zs hf
    exact ⟨a, n, c, l, (List.cons.inj hcs).1, h1, h2, h3⟩
  simp only [Value.slice.injEq] at e2
  obtain ⟨rfl, rfl, rfl⟩ := e2
  clear hA0 hval0
  refine (WindowChangesAsReference_walk W y0 yn0 yc0 y1 yn1 yc1 y2 yn2 yc2 l0 l1 l2 ⟨u0, u1, u2, hc1, hn0, hn1, hn2⟩).mono fun e W' ⟨he, bel⟩ => ?_
  subst he
  exact ⟨_, rfl, _, _, _, [], _, [], hW', trodAll_mk1 (shut_bool Tryd.underlying4 _), (trodAll_cons_mk (Below.trod clock_laidOut (by kernel_rfl) (of_decide_eq_true (by kernel_rfl)) k0 bel lt0) (trodAll_cons_mk (Below.trod clock_laidOut (by kernel_rfl) (of_decide_eq_true (by kernel_rfl)) k1 bel lt1) (trodAll_cons_mk (Below.trod clock_laidOut (by kernel_rfl) (of_decide_eq_true (by kernel_rfl)) k2 bel lt2) trodAll_mk0))), rfl, bel.frame _, fun h => by cases h⟩

theorem WindowChangesAsReference_proved : Rows.WindowChangesAsReferenceSaid :=
  OpenClaim.holds_of_wide 4 Tryd.f4 rfl rfl rfl rfl rfl rfl rfl ⟨rfl, rfl, rfl, rfl, rfl⟩ rfl rfl rfl rfl rfl (by kernel_rfl) Tryd.func4 (by kernel_rfl)
    (of_decide_eq_true (by kernel_rfl)) (by unfold Func.isWrapper; first | (rw [if_pos (by decide +kernel)]; kernel_rfl) | (rw [if_neg (by decide +kernel)]; exact ⟨rfl, rfl⟩))
    (fun os started H enc _ => windowChangesAsReference_lifted os started H enc)

/-- The statement: the tied card. -/
theorem WindowChangesAsReference_card : Rows.WindowChangesAsReferenceCardSaid :=
  Claim7.holds_tied_plain_at .later [] [.data, .data, .data, .sentinel, .sentinel] true (true, "83976fd4c881fff5173902935fe460a29e47b197596fb71936ab339715c2ce63") true
    WindowChangesAsReference_proved (fun _ h => by cases h) (by kernel_rfl) (fun _ h => by cases h) windowChangesAsReference_row_tie rfl ⟨rfl, rfl⟩ (by kernel_rfl) rfl
    (fun f fn hf hfn => by
      obtain rfl : f = 4 := Option.some.inj ((show Tryd.prog.funcNamed "customhouse/customhouselaw31.WindowChangesAsReference" = some 4 by kernel_rfl).symm.trans hf) |>.symm
      obtain rfl : fn = Tryd.f4 := (Option.some.inj (Tryd.func4.symm.trans hfn)).symm
      exact ⟨by kernel_rfl, fun j t ht => by
        rw [Tryd.params4] at ht
        rcases j with _ | _ | _ | j
        · obtain rfl : t = 35 := by simpa using ht.symm
          exact (show Tryd.prog.wantsStandIn 35 = false by kernel_rfl)
        · obtain rfl : t = 36 := by simpa using ht.symm
          exact (show Tryd.prog.wantsStandIn 36 = false by kernel_rfl)
        · obtain rfl : t = 37 := by simpa using ht.symm
          exact (show Tryd.prog.wantsStandIn 37 = false by kernel_rfl)
        · simp at ht⟩)
    (by kernel_rfl)
#print axioms WindowChangesAsReference_card
end Go.Proofs.YtkcbdlnoobjmbaaDoor

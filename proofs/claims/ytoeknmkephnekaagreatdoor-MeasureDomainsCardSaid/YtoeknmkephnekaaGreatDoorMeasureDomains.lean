/-
  The statement of 'MeasureDomains': the walk, lifted, and the card.
-/
import Derived.Test.YtoeknmkephnekaaGreatDoorMeasureDomainsW
import Derived.Test.YtoeknmkephnekaaGreatDoorMsO
import Derived.Test.YtoeknmkephnekaaGreatDoorRows
import Derived.Test.YtoeknmkephnekaaGreatDoorTie
import Derived.Test.YtoeknmkephnekaaGreatDoorCards
import Derived.SevenTiedAt
import Derived.WalkKit
import Derived.ProofKit
import Derived.OpenShut
import Derived.ShutString
import Derived.ChangeOld
import Derived.Below
import Derived.SizedLaws
namespace Go.Proofs.YtoeknmkephnekaaGreatDoor
open Go.ChangeShapes Go.WideShapes Go.ChangeAt Go.RowKit Go.Cz Go.Cz.Fo Go.Cz.Vd
open Go.ChangeMaps (open_string shut_string)
set_option linter.unusedVariables false
set_option maxRecDepth 100000 in
theorem measureDomains_lifted (os : Os) (started : os.Started) (H : Type) (enc : TypeId × Value → H) :
    ReturnsInHanded {} Tryz.checked os 7 .any (fun w args => (Rows.measureDomainsSpec.pre enc Tryz.prog Tryz.f7 Rows.measureDomainsRow.domain false w args ∧ laidMet Tryz.prog laid5 w) ∧ sizedMet enc Tryz.prog Tryz.f7 (OpenSpec.ofChange Rows.measureDomainsSpec) false w args)
      (Rows.measureDomainsSpec.post enc Tryz.prog Tryz.f7 false true false false) := by
  refine returnsInHanded_of_change_and (C := Tryz.checked) (X := fun w _ => laidMet Tryz.prog laid5 w) (fun _ _ _ hh h => h.of_heap hh) clock_own started (by kernel_rfl) Tryz.func7
    (ChangeSpec.witness_at (enc := enc) (C := Tryz.checked) (os := os) (X := fun w _ => laidMet Tryz.prog laid5 w) false (laidWorld os) #[.agg #[.string ⟨#[]⟩, .string ⟨#[]⟩, .int .i64 0, .string ⟨#[]⟩, .int .i64 0, .string ⟨#[]⟩, .int .i64 0, .int .i64 0, .slice none 0 0, .int .i64 0, .int .i64 0, .int .i64 0], .agg #[.slice none 0 0], .agg #[.string ⟨#[]⟩, .int .i64 0, .int .i64 0, .int .i64 0]] 8 rfl (by kernel_rfl) (by kernel_rfl) (by kernel_rfl) (by kernel_rfl) (by kernel_rfl) (laidWorld_met os _)) ?_
  intro W base args ds gs before hval0 hW _ hsz0 hL _
  have hsz : (DataW.weightsEach Tryz.prog (Tryz.f7.params.toList ++ Rows.measureDomainsSpec.plain.varTypes Tryz.prog) (ds ++ gs)).all (· ≤ reachBytes) = true := hsz0
  clear hsz0
  have hval : ∀ (j : Nat) t v, Tryz.f7.params[j]? = some t → args[j]? = some v → Value.okWide Tryz.prog W .any base t v := hval0
  have hW' := hW
  obtain ⟨p, q, hA0, hV, rfl, hfz, hnd⟩ := hW
  have hA : DataW.TrodAll enc Tryz.prog W 0 (fun _ => true) true Tryz.f7.params.toList args.toList ds p := hA0
  rw [Tryz.params7] at hA hval hsz
  obtain ⟨v0, vs0, d0, ds0, p0, q0, hargs, rfl, rfl, h0, r0⟩ := trodAll_cons hA
  obtain ⟨v1, vs1, d1, ds1, p1, q1, rfl, rfl, rfl, h1, r1⟩ := trodAll_cons r0
  obtain ⟨v2, vs2, d2, ds2, p2, q2, rfl, rfl, rfl, h2, r2⟩ := trodAll_cons r1
  obtain ⟨rfl, rfl, rfl⟩ := trodAll_nil r2
  obtain rfl : args = #[v0, v1, v2] := by cases args; simp_all
  obtain ⟨rfl, rfl⟩ := trodVars_none hV
  have k0 := h0
  have lt0 : ∀ x ∈ p0, x.block < W.heap.size := by obtain ⟨m, hm⟩ := k0; exact DataW.trod_lt m _ _ _ hm
  have k1 := h1
  have lt1 : ∀ x ∈ p1, x.block < W.heap.size := by obtain ⟨m, hm⟩ := k1; exact DataW.trod_lt m _ _ _ hm
  have k2 := h2
  have lt2 : ∀ x ∈ p2, x.block < W.heap.size := by obtain ⟨m, hm⟩ := k2; exact DataW.trod_lt m _ _ _ hm
  obtain ⟨xs0, rfl, hsz0⟩ := okWide_struct Tryz.underlying26 (hval 0 26 v0 rfl rfl)
  obtain ⟨f0, kv0, rfl, u0⟩ : ∃ m kv, xs0 = (mclM m kv).toArray ∧ MIn W m kv := by
    obtain ⟨fuel, hf⟩ := h0
    obtain ⟨m, kv, hcs, h1⟩ := in_me hf (sized_each hsz (j := 0) (t := 26) rfl rfl)
    exact ⟨m, kv, Array.toList_inj.1 hcs, h1⟩
  obtain ⟨xs1, rfl, hsz1⟩ := okWide_struct Tryz.underlying45 (hval 1 45 v1 rfl rfl)
  obtain ⟨f1, kv1, rfl, u1⟩ : ∃ d v, xs1 = #[v] ∧ DIn W d v := by
    obtain ⟨fuel, hf⟩ := h1
    obtain ⟨d, v, hcs, h1⟩ := in_dom hf (sized_each hsz (j := 1) (t := 45) rfl rfl)
    exact ⟨d, v, Array.toList_inj.1 hcs, h1⟩
  obtain ⟨xs2, rfl, hsz2⟩ := okWide_struct Tryz.underlying47 (hval 2 47 v2 rfl rfl)
  obtain ⟨f2, rfl, u2⟩ : ∃ f : Fact, xs2 = #[.string (bs f.name), .int .i64 f.kind, .int .i64 f.lo, .int .i64 f.hi] ∧ f.name.length ≤ 140737488355328 := by
    obtain ⟨fuel, hf⟩ := h2
    obtain ⟨f, hcs, h1⟩ := in_fact hf (sized_each hsz (j := 2) (t := 47) rfl rfl)
    exact ⟨f, Array.toList_inj.1 hcs, h1⟩
  clear hA0 hval0
  refine (MeasureDomains_walk W (std_of hL) f0 kv0 u0 f1 kv1 u1 f2 u2).mono fun e W' ⟨he, bel⟩ => ?_
  subst he
  exact ⟨_, rfl, _, _, _, [], _, [], hW', trodAll_mk1 (shut_bool Tryz.underlying4 _), (trodAll_cons_mk (Below.trod clock_laidOut (by kernel_rfl) (of_decide_eq_true (by kernel_rfl)) k0 bel lt0) (trodAll_cons_mk (Below.trod clock_laidOut (by kernel_rfl) (of_decide_eq_true (by kernel_rfl)) k1 bel lt1) (trodAll_cons_mk (Below.trod clock_laidOut (by kernel_rfl) (of_decide_eq_true (by kernel_rfl)) k2 bel lt2) trodAll_mk0))), rfl, bel.frame _, fun h => by cases h⟩

theorem MeasureDomains_proved : Rows.MeasureDomainsSaid :=
  OpenClaim.holds_of_wide 7 Tryz.f7 rfl rfl rfl rfl rfl rfl rfl ⟨rfl, rfl, rfl, rfl, rfl⟩ rfl rfl rfl rfl rfl (by kernel_rfl) Tryz.func7 (by kernel_rfl)
    (of_decide_eq_true (by kernel_rfl)) (by unfold Func.isWrapper; first | (rw [if_pos (by decide +kernel)]; kernel_rfl) | (rw [if_neg (by decide +kernel)]; exact ⟨rfl, rfl⟩))
    (fun os started H enc _ => measureDomains_lifted os started H enc)

/-- The statement: the tied card. -/
theorem MeasureDomains_card : Rows.MeasureDomainsCardSaid :=
  Claim7.holds_tied_plain_at .later [] [.data, .data, .data, .sentinel, .sentinel] true (true, "c1a74f8c053b38fe410982b812a479b7244cae795c509a8673bef9467bd38a66") true
    MeasureDomains_proved (fun _ h => by cases h) (by kernel_rfl) (fun _ h => by cases h) measureDomains_row_tie rfl ⟨rfl, rfl⟩ (by kernel_rfl) rfl
    (fun f fn hf hfn => by
      obtain rfl : f = 7 := Option.some.inj ((show Tryz.prog.funcNamed "customhouse/customhouselaw30.MeasureDomains" = some 7 by kernel_rfl).symm.trans hf) |>.symm
      obtain rfl : fn = Tryz.f7 := (Option.some.inj (Tryz.func7.symm.trans hfn)).symm
      exact ⟨by kernel_rfl, fun j t ht => by
        rw [Tryz.params7] at ht
        rcases j with _ | _ | _ | j
        · obtain rfl : t = 26 := by simpa using ht.symm
          exact (show Tryz.prog.wantsStandIn 26 = false by kernel_rfl)
        · obtain rfl : t = 45 := by simpa using ht.symm
          exact (show Tryz.prog.wantsStandIn 45 = false by kernel_rfl)
        · obtain rfl : t = 47 := by simpa using ht.symm
          exact (show Tryz.prog.wantsStandIn 47 = false by kernel_rfl)
        · simp at ht⟩)
    (by kernel_rfl)
#print axioms MeasureDomains_card
end Go.Proofs.YtoeknmkephnekaaGreatDoor

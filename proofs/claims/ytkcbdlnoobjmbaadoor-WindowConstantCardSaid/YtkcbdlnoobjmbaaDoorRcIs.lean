/-
  The reference clock's 'Is': what it returns.
-/
import Derived.Test.YtkcbdlnoobjmbaaDoorRcModel
import Derived.Test.YtkcbdlnoobjmbaaDoorClBegin
namespace Go.Proofs.YtkcbdlnoobjmbaaDoor
open Go.RowKit Go.Cz Go.Cz.Ck
set_option linter.unusedSimpArgs false
set_option linter.unusedVariables false
attribute [local go_sem] bs_size bs_extract bs_append bs_toList
attribute [local irreducible] cList
set_option maxHeartbeats 1000000 in
theorem rIs_c (t : Int) (w : World) : Calls Tryd.prog 28 #[.int .i64 t] w fun e w' => e = .returned (.bool (instB t)) ∧ w' = w := by
  by_cases h0 : 0 ≤ t
  · by_cases h1 : t ≤ 144001439
    · have He : Hid (instB t = true) := instB_true.2 ⟨h0, h1⟩
      go_enter Tryd.func28, Tryd.ntmps28
      go_wp2
      go_ret
      exact ⟨by rw [He.out]; rfl, rfl⟩
    · have He : Hid (instB t = false) := instB_false.2 (by omega)
      go_enter Tryd.func28, Tryd.ntmps28
      go_wp2
      go_ret
      exact ⟨by rw [He.out]; rfl, rfl⟩
  · have He : Hid (instB t = false) := instB_false.2 (by omega)
    go_enter Tryd.func28, Tryd.ntmps28
    go_wp2
    go_ret
    exact ⟨by rw [He.out]; rfl, rfl⟩
end Go.Proofs.YtkcbdlnoobjmbaaDoor

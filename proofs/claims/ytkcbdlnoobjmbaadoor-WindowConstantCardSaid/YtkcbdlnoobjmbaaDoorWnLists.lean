/-
  What a law of lists of measures, authorities and zones is handed.
-/
import Derived.Test.YtkcbdlnoobjmbaaDoorWnWit
import Derived.Test.YtkcbdlnoobjmbaaDoorOpen
import Derived.Test.YtkcbdlnoobjmbaaDoorWindowChangesAsReferenceW
namespace Go.Proofs.YtkcbdlnoobjmbaaDoor
open Go.RowKit Go.Cz Go.Cz.Ck Go.Cz.Wn Go.ChangeShapes Go.WideShapes Go.Deep
set_option linter.unusedSimpArgs false
set_option linter.unusedVariables false
section
variable {H : Type} {enc : TypeId × Value → H} {w : World} {base : Nat} {spare : Nat → Bool} {held : Bool}
theorem open_ms {fuel : Nat} {cs : List Value} {x : DataW H × List MemPlace} (h : DataW.trod enc Tryd.prog w base spare held fuel 35 cs = some x) :
    ∃ a n c ms, cs = [.slice a n c] ∧ n ≤ c ∧ n ≤ 9223372036854775807 ∧ IsMs w a n ms := by
  obtain ⟨a, n, c, l, h1, h2, h3, h4, -, h5⟩ := open_rows (sz := 12) (⟨⟨#[]⟩, ⟨#[]⟩, 0, ⟨#[]⟩, 0, ⟨#[]⟩, 0, 0, none, 0, 0, 0, 0, 0⟩ : Ms) Ms.v (fun _ => True) Tryd.underlying35 (by kernel_rfl) (by omega) (fun _ => rfl) (fun fuel cs x h => by
    obtain ⟨m, hm⟩ := open_measure h
    exact ⟨m, hm, trivial⟩) h
  exact ⟨a, n, c, l, h1, h3, h4, h2, h5⟩
theorem open_zs {fuel : Nat} {cs : List Value} {x : DataW H × List MemPlace} (h : DataW.trod enc Tryd.prog w base spare held fuel 37 cs = some x) :
    ∃ a n c zs, cs = [.slice a n c] ∧ n ≤ c ∧ n ≤ 9223372036854775807 ∧ IsZones w a n zs := by
  obtain ⟨a, n, c, l, h1, h2, h3, h4, hp, h5⟩ := open_rows (sz := 1) (⟨none, 0, 0, []⟩ : Zn) (fun z => #[.slice z.x z.n z.c]) (fun z => IsShifts w z.x z.n z.l) Tryd.underlying37 (by kernel_rfl) (by omega) (fun _ => rfl) (fun fuel cs x h => by
    obtain ⟨a, n, c, l, h1, h2⟩ := open_zone h
    exact ⟨⟨a, n, c, l⟩, h1, h2⟩) h
  refine ⟨a, n, c, l, h1, h3, h4, h2, ?_⟩
  rcases h5 with h5 | ⟨g, off, e1, e2, e3⟩
  · exact .inl h5
  · refine .inr ⟨g, off, e1, e2, fun j z hz => ⟨?_, hp z (List.mem_of_getElem? hz)⟩⟩
    have := e3 j z hz 0 _ rfl
    simpa using this
end
end Go.Proofs.YtkcbdlnoobjmbaaDoor

/-
  The examples of the chapter, in plain Lean; formulas that are written out in memory; 'test', 'both'.
-/
import Derived.Test.YtagoefnibgobcaaGreatDoorFmParse
import Derived.Test.YtagoefnibgobcaaGreatDoorFmHolds
import Derived.Test.YtagoefnibgobcaaGreatDoorFmSame
namespace Go.Cz.Fo
open Go.Cz.Lx
def wWeight : Bytes := [119, 101, 105, 103, 104, 116]
def wUsed : Bytes := [117, 115, 101, 100]
def hT : Fm := .mk 3 wWeight 6 18 []
def hU : Fm := .mk 3 wUsed 1 1 []
def hN : Fm := .mk 4 [] 0 0 [hU]
def hF : Fm := .mk 5 [] 0 0 [hT, hN]
def hD : List Fact := [⟨wWeight, 2, 0, 150⟩, ⟨wUsed, 1, 0, 1⟩]
def hC : List Int := [20, 0]
def hG : Fm := .mk 6 [] 0 0 [.mk 5 [] 0 0 [.mk 3 [97] 1 1 [], .mk 3 [98] 1 2 []], .mk 3 [99] 1 3 []]
def hM : Fm := .mk 3 wWeight 1 1000001 []
def hO : Fm := .mk 3 [110, 111, 110, 101] 1 1 []
def hW : Fm := .mk 5 [] 0 0 [hF]
def tP : Bytes := [97, 32, 61, 32, 49, 32, 97, 110, 100, 32, 98, 32, 61, 32, 50, 32, 111, 114, 32, 40, 99, 32, 61, 32, 51, 41]
def tQ : Bytes := [119, 101, 105, 103, 104, 116, 32, 61, 32, 49, 48, 48, 48, 48, 48, 49]
def tR : Bytes := [97, 32, 61]
def tS : Bytes := [111, 114]
theorem hd_holds : holdsF hD hC hF = true := by decide +kernel
theorem hd_size : size hF = 4 ∧ depth hF = 3 := by decide +kernel
theorem hd_checks : checkF hD hM = 10 ∧ checkF hD hO = 7 ∧ checkF hD hW = 1 := by decide +kernel
theorem hd_texts : textE hF = 0 ∧ textE hG = 0 := by decide +kernel
theorem dec1 (u : Nat) (h : u < 10) : Lib.decDigits u = [UInt8.ofNat (48 + u)] := by rw [Lib.decDigits, dif_pos h]
theorem dec18 : Lib.itoa 18 = [49, 56] := by
  show Lib.decDigits 18 = _
  rw [Lib.decDigits, dif_neg (by decide), dec1 _ (by decide)]
  decide
theorem decs : Lib.itoa 1 = [49] ∧ Lib.itoa 2 = [50] ∧ Lib.itoa 3 = [51] := ⟨dec1 1 (by decide), dec1 2 (by decide), dec1 3 (by decide)⟩
theorem hd_textF : textF Lib.itoa hF = [119, 101, 105, 103, 104, 116, 32, 62, 61, 32, 49, 56, 32, 97, 110, 100, 32, 110, 111, 116, 32, 117, 115, 101, 100, 32, 61, 32, 49] := by
  simp only [hF, hT, hN, hU, textF, textKids, dec18, decs.1]
  decide
theorem hd_textG : textF Lib.itoa hG = [97, 32, 61, 32, 49, 32, 97, 110, 100, 32, 98, 32, 61, 32, 50, 32, 111, 114, 32, 99, 32, 61, 32, 51] := by
  simp only [hG, textF, textKids, decs.1, decs.2.1, decs.2.2]
  decide
theorem hd_parseP : parseF tP = (hG, 0, 0) := by kernel_rfl
theorem hd_parseQ : parseF tQ = (zeroF, 10, 9) := by kernel_rfl
theorem hd_parseR : parseF tR = (zeroF, 6, 3) := by kernel_rfl
theorem hd_parseS : parseF tS = (zeroF, 5, 0) := by kernel_rfl
theorem hd_same : sameF hF hF = true ∧ sameF hF hG = false := by decide +kernel
end Go.Cz.Fo
namespace Go.Proofs.YtagoefnibgobcaaGreatDoor
open Go.RowKit Go.Cz Go.Cz.Lx Go.Cz.Fo
set_option linter.unusedSimpArgs false
set_option linter.unusedVariables false
attribute [local go_sem] bs_size bs_extract bs_append bs_toList
attribute [local irreducible] cList cPlan
section
variable {p : Nat → Prop} {W : World}
theorem IsFm.row {g m : Nat} {t : TypeId} {fr : Nat × Nat} (L : List (Fm × Value)) (h : W.heap[g]? = some (.cells (kidCells L).toArray t fr)) (hk : ∀ q ∈ L, IsFm p W q.1 q.2) (hp : p g) (hm : L.length ≤ m) (a : Int) (s : Bytes) (c d : Int) :
    IsFm p W (.mk a s c d (L.map Prod.fst)) (.slice (some ⟨g, 0, none⟩) L.length m) := by
  have hks : (L.map Prod.fst).length = L.length := by simp
  rw [← hks]
  have get : ∀ (j : Nat) (k : Fm), (L.map Prod.fst)[j]? = some k → ∃ q, L[j]? = some q ∧ q.1 = k := fun j k hj => by
    rw [List.getElem?_map] at hj
    cases hq : L[j]? with
    | none => rw [hq] at hj; simp at hj
    | some q => rw [hq] at hj; exact ⟨q, rfl, by simpa using hj⟩
  have e : ∀ i x, (kidCells L)[i]? = some x → W.cell? ⟨g, i, none⟩ = some x := fun i x hx => by
    rw [cell_of_heap h]; simpa using hx
  refine .node a s c d (L.map Prod.fst) g 0 m (fun j => (L[j]?.map Prod.snd).getD (.bool false)) (by simpa using hm) (lt_of_block h) hp (fun j k hj => ?_) fun j k hj => ?_
  · obtain ⟨q, hq, rfl⟩ := get j k hj
    simp only [Nat.zero_add]
    refine ⟨e _ _ ?_, e _ _ ?_, e _ _ ?_, e _ _ ?_, e _ _ ?_⟩
    · exact (flat_kid L j 0 q hq (by omega)).trans rfl
    · exact (flat_kid L j 1 q hq (by omega)).trans rfl
    · exact (flat_kid L j 2 q hq (by omega)).trans rfl
    · exact (flat_kid L j 3 q hq (by omega)).trans rfl
    · rw [hq]; exact (flat_kid L j 4 q hq (by omega)).trans rfl
  · obtain ⟨q, hq, rfl⟩ := get j k hj
    rw [hq]
    exact hk q (List.mem_of_getElem? hq)
theorem test_c (s : Bytes) (m n : Int) (w : World) : Calls Tryz.prog 32 #[.string (bs s), .int .i64 m, .int .i64 n] w fun e w' => e = .returned (.agg #[.int .i64 3, .string (bs s), .int .i64 m, .int .i64 n, .slice none 0 0]) ∧ Below w.heap.size w w' := by
  go_enter Tryz.func32, Tryz.ntmps32
  go_wp2_with fail
  go_returns
  exact ⟨rfl, by repeat (first | exact Below.refl _ _ | (refine Below.setCell ?_ (by simp) _) | (refine Below.alloc ?_ (by simp) _))⟩
theorem both_c (o : Int) (y : Option Addr) (n m : Nat) (w : World) : Calls Tryz.prog 29 #[.int .i64 o, .slice y n m] w fun e w' => e = .returned (.agg #[.int .i64 o, .string (bs []), .int .i64 0, .int .i64 0, .slice y n m]) ∧ Below w.heap.size w w' := by
  go_enter Tryz.func29, Tryz.ntmps29
  go_wp2_with fail
  go_returns
  exact ⟨rfl, by repeat (first | exact Below.refl _ _ | (refine Below.setCell ?_ (by simp) _) | (refine Below.alloc ?_ (by simp) _))⟩
end
end Go.Proofs.YtagoefnibgobcaaGreatDoor

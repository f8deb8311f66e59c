/-
  The reference's 'Same'; calls on nothing.
-/
import Derived.Test.YtjcjpekndeoonaaGreatDoorJnOpen
import Derived.Test.YtjcjpekndeoonaaGreatDoorJnAppend
namespace Go.Proofs.YtjcjpekndeoonaaGreatDoor
open Go.RowKit Go.Cz Go.Cz.Jn
set_option linter.unusedSimpArgs false
set_option linter.unusedVariables false
attribute [local go_sem] bs_size bs_extract bs_append bs_toList
attribute [local irreducible] cList cPlan
theorem same_ext {a b : List Bytes} (hl : a.length = b.length) (h : ∀ j, j < a.length → a[j]? = b[j]?) : a = b := by
  refine List.ext_getElem? fun j => ?_
  by_cases hj : j < a.length
  · exact h j hj
  · rw [List.getElem?_eq_none (by omega), List.getElem?_eq_none (by omega)]
set_option maxRecDepth 10000 in
set_option maxHeartbeats 4000000 in
theorem Same_c (x y : Option Addr) (n c n2 c2 : Nat) (a b : List Bytes) (w : World) (ha : IsTexts w x n a) (hb : IsTexts w y n2 b) (hn : n ≤ 1000000000) (hn2 : n2 ≤ 1000000000) :
    Calls Tryz.prog 15 #[.slice x n c, .slice y n2 c2] w fun e w' => e = .returned (.bool (decide (a = b))) ∧ Below w.heap.size w w' := by
  have HA := Lib.hid ha
  have HB := Lib.hid hb
  have HL := Lib.hid (And.intro ha.len hb.len)
  clear ha hb
  go_enter Tryz.func15, Tryz.ntmps15
  by_cases hnn : n = n2
  · subst hnn
    have hq : ((n : Int) == (n : Int)) = true := by simp
    go_wp2_with fail
    go_loopg [5] n (fun gk i wr => ∃ k : Nat, gk = n - k ∧ k ≤ n ∧ i = .int .i64 (k : Int) ∧ Hid (∀ j, j < k → a[j]? = b[j]?) ∧ Hid (Below w.heap.size w wr))
    case atStart => exact ⟨0, rfl, Nat.zero_le _, rfl, Lib.hid fun j hj => absurd hj (Nat.not_lt_zero _), Lib.hid (Below.refl _ _)⟩
    case round =>
      rename_i J1 K1 hJ1 hK1
      obtain ⟨k, rfl, hk, rfl, HE, HW⟩ := hrel
      by_cases hlt : k < n
      · obtain ⟨g, off, s, rfl, hs, hg, cs⟩ := (HA.out.below HW.out).get hlt
        obtain ⟨g2, off2, s2, rfl, hs2, hg2, cs2⟩ := (HB.out.below HW.out).get hlt
        have HSs := Lib.hid (And.intro hs hs2)
        have HD := Lib.hid hlt
        replace HW : Hid (Below w.heap.size w wr.drew) := HW.out.trans ((Below.refl _ wr).drew.mono HW.out.size)
        clear hs hs2
        go_wp2_with fail
        refine wp_region_can [] (List.range 9) (by kernel_rfl) (by kernel_rfl) ?_
        iterate 8 (refine cl_do rfl rfl rfl rfl (fun _ _ => ?_); go_wp2_with fail)
        by_cases hss : s = s2
        · have hq2 : (s == s2) = true := by simpa using hss
          have HE2 : Hid (∀ j, j < k + 1 → a[j]? = b[j]?) := fun j hj => by
            by_cases hjk : j < k
            · exact HE.out j hjk
            · obtain rfl : j = k := by omega
              rw [HSs.out.1, HSs.out.2, hss]
          clear hss
          refine cl_do rfl rfl rfl rfl (fun _ _ => ?_)
          go_wp2_with fail
          refine cl_nil ?_
          go_wp2_with fail
          go_roundg (n - (k + 1))
          case measure => have := HD.out; omega
          case rel => exact ⟨k + 1, rfl, by have := HD.out; omega, by go_num, HE2, HW⟩
        · have hq2 : (s == s2) = false := by simpa using hss
          have HN : Hid (decide (a = b) = false) := by
            show _ = _
            refine decide_eq_false fun h => hss ?_
            have h1 := HSs.out.1
            rw [h, HSs.out.2] at h1
            exact (Option.some.inj h1).symm
          clear hss hJ1 hK1
          refine cl_do rfl rfl rfl rfl (fun _ _ => ?_)
          go_wp2_with fail
          refine cl_nil ?_
          go_wp2_with fail
          go_ret
          exact ⟨by rw [HN.out]; rfl, HW.out⟩
      · have HY : Hid (decide (a = b) = true) := decide_eq_true (same_ext (by rw [HL.out.1, HL.out.2]) fun j hj => HE.out j (by rw [HL.out.1] at hj; omega))
        clear hJ1 hK1
        go_wp2_with fail
        go_ret
        exact ⟨by rw [HY.out]; rfl, HW.out⟩
  · have HN : Hid (decide (a = b) = false) := decide_eq_false fun h => hnn (by rw [← HL.out.1, ← HL.out.2, h])
    have hq : ¬ (n : Int) = (n2 : Int) := by omega
    clear hnn hn hn2
    go_wp2_with fail
    go_ret
    exact ⟨by rw [HN.out]; rfl, Below.refl _ _⟩
set_option maxRecDepth 10000 in
set_option maxHeartbeats 2000000 in
theorem OpenNil_c (w : World) : Calls Tryz.prog 7 #[.pointer none] w fun e w' => e = .returned (.tuple #[.pointer none, .slice none 0 0, .int .i64 1]) ∧ w' = w := by
  go_enter Tryz.func7, Tryz.ntmps7
  go_wp2_with fail
  go_ret3
  exact ⟨rfl, rfl⟩
def AppNilP (w0 : World) (ps : List Piece) (e : Ending) (w' : World) : Prop := e = .returned (.int .i64 1) ∧ Owns w0 w' ps
set_option maxRecDepth 10000 in
set_option maxHeartbeats 2000000 in
theorem AppNil_c {w0 w : World} {ps : List Piece} (x : Value) (h : Owns w0 w ps) : Calls Tryz.prog 13 #[.pointer none, x] w (AppNilP w0 ps) := by
  have h1 := (h.box (.cells #[.pointer none] 25)).box (.cells #[.int .i64 1] 27)
  rw [show (w.alloc (.cells #[.pointer none] 25)).heap.size = w.heap.size + 1 by simp] at h1
  have HO := Lib.hid h1
  clear h h1
  go_enter_defers Tryz.func13, Tryz.ntmps13
  go_wp2_with fail
  refine leave_cell rfl (by exact (Owns.one HO.out).2.1) ⟨rfl, ?_⟩
  exact HO.out.pop.pop
end Go.Proofs.YtjcjpekndeoonaaGreatDoor

/-
  The iterator 'spans' of the clock: its contract.
-/
import Derived.Test.YtakadfdnhlfijaaGreatDoorClValid
import Derived.Test.YtakadfdnhlfijaaGreatDoorBase
import Derived.RangeFuncNested
import Derived.RangeFuncBound
import Derived.RangeFuncCalls
import Derived.RangeFuncLeaves
import Derived.Shelf.Abstract
import Derived.Shelf.RegionOpen
import Derived.WalkKit
import Derived.OwnWalkIn
import Derived.TacticsInMore
import Derived.LoopNIn
import Derived.LoopIn
namespace Go.Proofs.YtakadfdnhlfijaaGreatDoor
open Go.RowKit Go.Cz Go.Cz.Ck Go.Shelf
set_option linter.unusedSimpArgs false
set_option linter.unusedVariables false
attribute [local go_sem] Oper.semAt_some

section
variable {W W' : World} {B : Nat} {cs : Array Value} {t : TypeId}
theorem Bk.grown (h : Bk W B cs t) {row : Option Nat} (hg : W.grownBy W' row) (hr : ∀ r, row = some r → ∃ o : Obj, W.heap[r]? = some o ∧ o.isCells = false) : Bk W' B cs t := by
  refine (hg.block B h.lt fun e => ?_).trans h
  obtain ⟨o, ho, hc⟩ := hr B e.symm
  unfold Bk at h
  rw [h] at ho
  cases ho
  cases hc
end
theorem Bk.own {β : Type} (B t : Nat) (cs : β → Array Value) (B0 : Nat) : OwnFrom B0 (fun s W => Bk W B (cs s) t) := fun s A C row hs hg hr => hs.grown hg fun r e => (hr r e).2
/-- What a round keeps: what is old, and the box with the zone. -/
def Kz (w0 : World) (Bz : Nat) (W W' : World) : Prop := Below w0.heap.size W W' ∧ W'.heap[Bz]? = W.heap[Bz]?
theorem Kz.refl (w0 : World) (Bz : Nat) (W : World) : Kz w0 Bz W W := ⟨Below.refl _ _, rfl⟩
theorem Kz.trans {w0 : World} {Bz : Nat} {a b c : World} (h : Kz w0 Bz a b) (k : Kz w0 Bz b c) : Kz w0 Bz a c := ⟨h.1.trans k.1, k.2.trans h.2⟩
theorem Kz.alloc {w0 : World} {Bz : Nat} {a b : World} (h : Kz w0 Bz a b) (hb : w0.heap.size ≤ b.heap.size) (hz : Bz < b.heap.size) (o : Obj) : Kz w0 Bz a (b.alloc o) :=
  h.trans ⟨(Below.refl _ b).alloc hb o, Below.heap_alloc b o Bz hz⟩
/-- A span, as it is handed to the loop's body. -/
def encS (p : Shift × Int) : Array Value := #[.agg #[.int .i64 p.1.1, .int .i64 p.1.2, .int .i64 p.2]]
theorem spans_take_succ {l : List Shift} {k : Nat} {s : Shift} (h : l[k]? = some s) : (spans l).take (k + 1) = (spans l).take k ++ [(s, endAt l k)] := by
  have hs := spans_get l k s h
  obtain ⟨hk, he⟩ := List.getElem?_eq_some_iff.1 hs
  rw [List.take_succ_eq_append_getElem hk, he]
set_option maxRecDepth 100000 in
set_option maxHeartbeats 2000000 in
theorem spans1_in (F : Fence) (n : Nat) (hf : F.fn 122) (hro : F.round = none) (hn : 1 ≤ n) (lp Bz : Nat) (w0 : World) (x : Option Addr) (m c : Nat) (l : List Shift) (hx : IsShifts w0 x m l) (hm : m ≤ 20) (hB : ∀ s ∈ l, 0 ≤ s.1 ∧ s.1 ≤ 144001439)
    (J Jx : List (Shift × Int) → World → Prop) (W : World) (hJ : AbidesFrom W.heap.size J) (hbW : Below w0.heap.size w0 W) (hBz : Bk W Bz #[.slice x m c] 66)
    (hY : ∀ pre x W1, J pre W1 → pre.length < m → YieldAt F (n - 1) Tryz.prog lp (encS x) W1 fun e W' => (e = .returned (.bool true) ∧ J (pre ++ [x]) W' ∧ Kz w0 Bz W1 W') ∨ (e = .returned (.bool false) ∧ Jx (pre ++ [x]) W'))
    (h0 : J [] W) :
    CallsIn F n Tryz.prog 122 #[.func (.yield lp) #[] #[], .pointer (some ⟨Bz, 0, none⟩)] W fun e W' => (∃ v, e = .returned v) ∧ ((∃ ys, ys = spans l ∧ J ys W') ∨ (∃ pre, pre <+: spans l ∧ Jx pre W')) := by
  have hlen := hx.1
  have Hx := Lib.hid hx
  have HB := Lib.hid hB
  have Hlen := Lib.hid hlen
  have HY := Lib.hid hY
  have c0 : W.cell? ⟨Bz, 0, none⟩ = some (.slice x m c) := by rw [hBz.cell]; rfl
  have hz0 := hBz.lt
  have HBz := Lib.hid hBz
  clear hx hB hlen hY hBz
  refine callsIn_of_wp Tryz.func122 rfl hf ?_ hro
  simp only [Tryz.ntmps122, List.size_toArray, List.length_cons, List.length_nil, Nat.reduceAdd, Nat.reduceSub, Array.replicate_succ, Array.replicate_zero, List.push_toArray, List.append_toArray, List.nil_append, List.cons_append]
  gi_wp2
  gi_loopw [9] (fun i wr => ∃ k : Nat, k ≤ m ∧ i = .int .i64 k ∧ Hid (J ((spans l).take k) wr) ∧ Hid (Kz w0 Bz W wr)) (fun i _ => m - (intOf i).toNat)
  case atStart => exact ⟨0, Nat.zero_le _, rfl, h0, Kz.refl _ _ _⟩
  case round =>
    obtain ⟨k, hk, rfl, hJs, hK⟩ := hrel
    by_cases hlt : k < m
    · have hbr := hbW.trans hK.out.1
      have hBr : Bk wr Bz #[.slice x m c] 66 := hK.out.2.trans HBz.out
      obtain ⟨g, off, s, rfl, hs, hg, d0, d1⟩ := (Hx.out.below hbr).at hlt
      have c0r : wr.cell? ⟨Bz, 0, none⟩ = some (.slice (some ⟨g, off, none⟩) m c) := by rw [hBr.cell]; rfl
      have hzr := hBr.lt
      have hJ2 : J ((spans l).take k) (wr.alloc (.cells #[.int .i64 s.1, .int .i64 s.2] 89)) := hJ _ _ _ none hJs.out (World.grownBy_alloc _ _ _) (fun r e => by cases e)
      have hlk : ((spans l).take k).length < m := by rw [List.length_take, length_spans, Hlen.out]; omega
      obtain ⟨fn, tmps, assign, body, hy, hR⟩ := HY.out _ (s, endAt l k) _ hJ2 hlk
      obtain ⟨s1, s2⟩ := s
      dsimp only [encS] at hy d0 d1
      have HJ2 := Lib.hid hJ2
      have Hs := Lib.hid hs
      clear hJ2 hs hlk hJs
      by_cases hk1 : k + 1 < m
      · obtain ⟨g', off', t, e, ht, -, e0, e1⟩ := (Hx.out.below hbr).at hk1
        cases e
        have hend : endAt l k = t.1 - 1 := by unfold endAt; rw [ht]
        have htb := HB.out t (List.mem_of_getElem? ht)
        obtain ⟨t1, t2⟩ := t
        dsimp only at e0 e1 hend htb
        obtain ⟨hb0, hb1⟩ := htb
        rw [hend] at hy hR
        have Hend := Lib.hid hend
        clear hend ht
        gi_wp2
        refine hR.mono ?_
        rintro e W3 (⟨rfl, hJ3, hk3⟩ | ⟨rfl, hJx3⟩)
        · have HJ3 : Hid (J ((spans l).take (k + 1)) W3) := by rw [spans_take_succ Hs.out, Hend.out]; exact hJ3
          have HK3 : Hid (Kz w0 Bz W W3) := (hK.out.alloc hbr.size hzr _).trans hk3
          clear hJ3 hk3 hR hy
          gi_wp2
          go_roundw
          case rel => exact ⟨k + 1, by omega, by go_num, HJ3, HK3⟩
          case measure => simp [intOf]; omega
        · have HJx : Hid (∃ pre, pre <+: spans l ∧ Jx pre W3) := ⟨(spans l).take (k + 1), List.take_prefix _ _, by rw [spans_take_succ Hs.out, Hend.out]; exact hJx3⟩
          clear hJx3 hR hy
          gi_wp2
          refine bodyPost_ret (results_none rfl _ _ _) rfl ?_
          exact ⟨⟨_, rfl⟩, .inr HJx.out⟩
      · have hend : endAt l k = 144001439 := by unfold endAt; rw [List.getElem?_eq_none (by rw [Hlen.out]; omega)]
        rw [hend] at hy hR
        have Hend := Lib.hid hend
        clear hend
        gi_wp2
        refine hR.mono ?_
        rintro e W3 (⟨rfl, hJ3, hk3⟩ | ⟨rfl, hJx3⟩)
        · have HJ3 : Hid (J ((spans l).take (k + 1)) W3) := by rw [spans_take_succ Hs.out, Hend.out]; exact hJ3
          have HK3 : Hid (Kz w0 Bz W W3) := (hK.out.alloc hbr.size hzr _).trans hk3
          clear hJ3 hk3 hR hy
          gi_wp2
          go_roundw
          case rel => exact ⟨k + 1, by omega, by go_num, HJ3, HK3⟩
          case measure => simp [intOf]; omega
        · have HJx : Hid (∃ pre, pre <+: spans l ∧ Jx pre W3) := ⟨(spans l).take (k + 1), List.take_prefix _ _, by rw [spans_take_succ Hs.out, Hend.out]; exact hJx3⟩
          clear hJx3 hR hy
          gi_wp2
          refine bodyPost_ret (results_none rfl _ _ _) rfl ?_
          exact ⟨⟨_, rfl⟩, .inr HJx.out⟩
    · obtain rfl : k = m := by omega
      have hJe : J (spans l) wr := by
        have := hJs.out
        rwa [List.take_of_length_le (by rw [length_spans, Hlen.out]; exact Nat.le_refl _)] at this
      have HJe := Lib.hid hJe
      clear hJe hJs
      gi_wp2
      go_end0
      exact ⟨⟨_, rfl⟩, .inl ⟨_, rfl, HJe.out⟩⟩
end Go.Proofs.YtakadfdnhlfijaaGreatDoor

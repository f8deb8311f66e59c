/-
  Frozen accounts: 'periods', 'sum' and the checks of an entry.
-/
import Derived.Test.YtlkihpgpcgeogaaDoorFzKit
import Derived.Test.YtlkihpgpcgeogaaDoorBase
import Derived.RangeFuncNested
import Derived.RangeFuncBound
import Derived.RangeFuncCalls
import Derived.RangeFuncLeaves
import Derived.Shelf.Abstract
import Derived.Shelf.RegionOpen
import Derived.WalkKit
import Derived.OwnWalkIn
import Derived.TacticsInMore
import Derived.LoopNIn
import Derived.LoopIn
namespace Go.Cz.Td
/-- The days and the balances behind each movement. -/
def pers : Int → List Mv → List Mv
  | _, [] => []
  | b, m :: r => (m.1, b + m.2) :: pers (b + m.2) r
theorem pers_len : ∀ (b : Int) (l : List Mv), (pers b l).length = l.length
  | _, [] => rfl
  | b, m :: r => by simp [pers, pers_len]
theorem pers_get : ∀ (b : Int) (l : List Mv) (k : Nat) (m : Mv), l[k]? = some m → (pers b l)[k]? = some (m.1, b + tot (l.take (k + 1)))
  | b, [], k, m, h => by simp at h
  | b, x :: r, 0, m, h => by simp at h; subst h; simp [pers, tot]
  | b, x :: r, k + 1, m, h => by
    have h1 := pers_get (b + x.2) r k m (by simpa using h)
    simp only [pers, List.getElem?_cons_succ, h1, List.take_succ_cons, tot]
    rw [show b + x.2 + tot (r.take (k + 1)) = b + (x.2 + tot (r.take (k + 1))) by omega]
theorem tot_take_succ {l : List Mv} {k : Nat} {m : Mv} (h : l[k]? = some m) : tot (l.take (k + 1)) = tot (l.take k) + m.2 := by
  obtain ⟨hk, rfl⟩ := List.getElem?_eq_some_iff.1 h
  rw [List.take_succ_eq_append_getElem hk, tot_append]
  simp [tot]
theorem pers_take_succ {l : List Mv} {k : Nat} {m : Mv} (h : l[k]? = some m) : (pers 0 l).take (k + 1) = (pers 0 l).take k ++ [(m.1, tot (l.take (k + 1)))] := by
  have hs := pers_get 0 l k m h
  rw [Int.zero_add] at hs
  obtain ⟨hk, he⟩ := List.getElem?_eq_some_iff.1 hs
  rw [List.take_succ_eq_append_getElem hk, he]
theorem pre_take : ∀ (b : Int) (l : List Mv) (k : Nat), preOk b l = true → preOk b (l.take k) = true
  | b, [], k, h => by simp [preOk]
  | b, m :: r, 0, h => by simp [preOk]
  | b, m :: r, k + 1, h => by
    simp only [preOk, Bool.and_eq_true] at h
    simp only [List.take_succ_cons, preOk, Bool.and_eq_true]
    exact ⟨h.1, pre_take _ r k h.2⟩
/-- The balances stay small: no movement is beyond 'MU', and there are few of them. -/
def Slim (ms : List Mv) : Prop := (∀ m ∈ ms, -MU ≤ m.2 ∧ m.2 ≤ MU) ∧ ms.length ≤ 1000
theorem Slim.tot_take {ms : List Mv} (h : Slim ms) (k : Nat) : -MU * 1000 ≤ tot (ms.take k) ∧ tot (ms.take k) ≤ MU * 1000 := by
  have key : ∀ (l : List Mv), (∀ m ∈ l, -MU ≤ m.2 ∧ m.2 ≤ MU) → -MU * l.length ≤ tot l ∧ tot l ≤ MU * l.length := by
    intro l
    induction l with
    | nil => intro _; simp [tot]
    | cons m r ih =>
      intro h
      have h1 := h m (by simp)
      have h2 := ih fun x hx => h x (by simp [hx])
      have e : MU = 1000000000000 := rfl
      rw [e] at h1 h2 ⊢
      simp only [tot, List.length_cons]
      omega
  have h1 := key (ms.take k) fun m hm => h.1 m (List.mem_of_mem_take hm)
  have h2 : (ms.take k).length ≤ 1000 := by rw [List.length_take]; have := h.2; omega
  have e : MU = 1000000000000 := rfl
  rw [e] at h1 ⊢
  omega
theorem slim_of_pre : ∀ (b : Int) (l : List Mv), preOk b l = true → 0 ≤ b → b ≤ MU → ∀ m ∈ l, -MU ≤ m.2 ∧ m.2 ≤ MU
  | b, [], _, _, _, m, hm => by simp at hm
  | b, x :: r, h, h0, h1, m, hm => by
    simp only [preOk, Bool.and_eq_true] at h
    have h2 := inB_iff.1 h.1
    rcases List.mem_cons.1 hm with rfl | hm
    · omega
    · exact slim_of_pre _ r h.2 h2.1 h2.2 m hm
theorem GoodA.slim {a : Acc} (g : GoodA a) : Slim a.ms := ⟨slim_of_pre 0 a.ms g.pre (by decide) (by decide), g.len⟩
end Go.Cz.Td
namespace Go.Proofs.YtlkihpgpcgeogaaDoor
open Go.RowKit Go.Cz Go.Cz.Td Go.Shelf
set_option linter.unusedSimpArgs false
set_option linter.unusedVariables false
attribute [local go_sem] Oper.semAt_some
attribute [local irreducible] cList cPlan
theorem periods_c (b : Nat) (w : World) : Calls Tryd.prog 22 #[.pointer (some ⟨b, 0, none⟩)] w fun e w' => e = .returned (.func (.func 32) #[] #[.pointer (some ⟨w.heap.size, 0, none⟩)]) ∧ w' = w.alloc (.cells #[.pointer (some ⟨b, 0, none⟩)] 24) := by
  go_enter Tryd.func22, Tryd.ntmps22
  go_wp2_with fail
  go_ret
  exact ⟨rfl, rfl⟩
section
variable {W W' : World} {B : Nat} {cs : Array Value} {t : TypeId}
theorem Bk.grown (h : Bk W B cs t) {row : Option Nat} (hg : W.grownBy W' row) (hr : ∀ r, row = some r → ∃ o : Obj, W.heap[r]? = some o ∧ o.isCells = false) : Bk W' B cs t := by
  refine (hg.block B h.lt fun e => ?_).trans h
  obtain ⟨o, ho, hc⟩ := hr B e.symm
  unfold Bk at h
  rw [h] at ho
  cases ho
  cases hc
end
/-- What a round keeps: what is old, and the box with the account's address. -/
def Kz (w0 : World) (Bz : Nat) (W W' : World) : Prop := Below w0.heap.size W W' ∧ W'.heap[Bz]? = W.heap[Bz]?
theorem Kz.refl (w0 : World) (Bz : Nat) (W : World) : Kz w0 Bz W W := ⟨Below.refl _ _, rfl⟩
theorem Kz.trans {w0 : World} {Bz : Nat} {a b c : World} (h : Kz w0 Bz a b) (k : Kz w0 Bz b c) : Kz w0 Bz a c := ⟨h.1.trans k.1, k.2.trans h.2⟩
theorem Kz.alloc {w0 : World} {Bz : Nat} {a b : World} (h : Kz w0 Bz a b) (hb : w0.heap.size ≤ b.heap.size) (hz : Bz < b.heap.size) (o : Obj) : Kz w0 Bz a (b.alloc o) :=
  h.trans ⟨(Below.refl _ b).alloc hb o, Below.heap_alloc b o Bz hz⟩
theorem Kz.turn {w0 w : World} {Bz : Nat} (hb : w0.heap.size ≤ w.heap.size) (hz : Bz < w.heap.size) (W : World) (l : Nat) (o o' : Obj) (hl : w.heap.size ≤ l) (h : W.heap[l]? = some o) (_ : o.isCells = false) (_ : o.isWalk = false) : Kz w0 Bz W (W.putObj l o') :=
  ⟨belowK_b hb W l o o' hl h ‹_› ‹_›, World.putObj_heap_other (by omega)⟩
def encP (p : Mv) : Array Value := #[.int .i64 p.1, .int .i64 p.2]
/-- An account that lies in a world, older than what is to come. -/
structure AccIn (w : World) (b : Nat) (a : Acc) (g o c : Nat) : Prop where
  obj : w.heap[b]? = some (aobj a (.slice (some ⟨g, o, none⟩) a.ms.length c))
  lt : g < w.heap.size
  cells : ∀ (j : Nat) (m : Mv), a.ms[j]? = some m → w.cell? ⟨g, o + j * 2, none⟩ = some (.int .i64 m.1) ∧ w.cell? ⟨g, o + j * 2 + 1, none⟩ = some (.int .i64 m.2)
theorem AccIn.below {w W : World} {b g o c : Nat} {a : Acc} (h : AccIn w b a g o c) (hb : Below w.heap.size w W) : AccIn W b a g o c :=
  ⟨(hb.block b (lt_of_block h.obj)).trans h.obj, Nat.lt_of_lt_of_le h.lt hb.size, fun j m hm => by
    obtain ⟨h1, h2⟩ := h.cells j m hm
    exact ⟨(hb.cell (p := ⟨g, o + j * 2, none⟩) h.lt).trans h1, (hb.cell (p := ⟨g, o + j * 2 + 1, none⟩) h.lt).trans h2⟩⟩
theorem acc_in {w0 w : World} {ps : List Piece} {b : Nat} {a : Acc} (h : Owns w0 w (accP b a :: ps)) (hn : a.ms ≠ []) : ∃ g o c, AccIn w b a g o c := by
  obtain ⟨v, h1⟩ := h.acc
  obtain ⟨g, c, rfl, -, -, hg, -, hc⟩ := row_at h1.pop.row (List.length_pos_iff.2 hn)
  refine ⟨g, 0, c, h1.blk.1, hg, fun j m hm => ?_⟩
  obtain ⟨h2, h3⟩ := mcs_at a.ms j m hm
  rw [Nat.zero_add]
  exact ⟨hc _ _ h2, hc _ _ h3⟩
set_option maxRecDepth 100000 in
set_option maxHeartbeats 2000000 in
theorem periods1_in (F : Fence) (n : Nat) (hf : F.fn 32) (hro : F.round = none) (hn : 1 ≤ n) (lp Bz b : Nat) (w0 : World) (a : Acc) (g o c : Nat) (ha : AccIn w0 b a g o c) (hs : Slim a.ms)
    (J Jx : List Mv → World → Prop) (W : World) (hJ : AbidesFrom W.heap.size J) (hbW : Below w0.heap.size w0 W) (hBz : Bk W Bz #[.pointer (some ⟨b, 0, none⟩)] 24)
    (hY : ∀ pre x W1, J pre W1 → pre.length < a.ms.length → YieldAt F (n - 1) Tryd.prog lp (encP x) W1 fun e W' => (e = .returned (.bool true) ∧ J (pre ++ [x]) W' ∧ Kz w0 Bz W1 W') ∨ (e = .returned (.bool false) ∧ Jx (pre ++ [x]) W'))
    (h0 : J [] W) :
    CallsIn F n Tryd.prog 32 #[.func (.yield lp) #[] #[], .pointer (some ⟨Bz, 0, none⟩)] W fun e W' => (∃ v, e = .returned v) ∧ ((∃ ys, ys = pers 0 a.ms ∧ J ys W') ∨ (∃ pre, pre <+: pers 0 a.ms ∧ Jx pre W')) := by
  have HA := Lib.hid ha
  have HY := Lib.hid hY
  obtain ⟨m, hm⟩ : ∃ m, m = a.ms.length := ⟨_, rfl⟩
  have HM := Lib.hid hm
  have hmm : m ≤ 1000 := by rw [hm]; exact hs.2
  have HS := Lib.hid hs
  have hA := ha.below hbW
  have c0 : W.cell? ⟨Bz, 0, none⟩ = some (.pointer (some ⟨b, 0, none⟩)) := by rw [hBz.cell]; rfl
  have hz0 := hBz.lt
  have HBz := Lib.hid hBz
  have hb0 := lt_of_block hA.obj
  have d2 : W.cell? ⟨b, 2, none⟩ = some (.slice (some ⟨g, o, none⟩) m c) := by rw [cell_of_heap hA.obj, hm]; rfl
  clear ha hY hBz hs hA hm
  refine callsIn_of_wp Tryd.func32 rfl hf ?_ hro
  simp only [Tryd.ntmps32, List.size_toArray, List.length_cons, List.length_nil, Nat.reduceAdd, Nat.reduceSub, Array.replicate_succ, Array.replicate_zero, List.push_toArray, List.append_toArray, List.nil_append, List.cons_append]
  gi_wp2
  gi_loopw [3, 11] (fun q i wr => ∃ k : Nat, k ≤ m ∧ i = .int .i64 k ∧ q = .int .i64 (tot (a.ms.take k)) ∧ Hid (J ((pers 0 a.ms).take k) wr) ∧ Hid (Kz w0 Bz W wr)) (fun q i _ => m - (intOf i).toNat)
  case atStart => exact ⟨0, Nat.zero_le _, rfl, rfl, h0, Kz.refl _ _ _⟩
  case round =>
    obtain ⟨k, hk, rfl, rfl, hJs, hK⟩ := hrel
    by_cases hlt : k < m
    · have hbr := hbW.trans hK.out.1
      have hBr : Bk wr Bz #[.pointer (some ⟨b, 0, none⟩)] 24 := hK.out.2.trans HBz.out
      have hx : a.ms[k]? = some (a.ms[k]'(by rw [← HM.out]; exact hlt)) := List.getElem?_eq_getElem _
      obtain ⟨x, hxx⟩ : ∃ x, x = a.ms[k]'(by rw [← HM.out]; exact hlt) := ⟨_, rfl⟩
      rw [← hxx] at hx
      clear hxx
      obtain ⟨d0, d1⟩ := (HA.out.below hbr).cells k x hx
      have hg := (HA.out.below hbr).lt
      have hzr := hBr.lt
      have ht := tot_take_succ hx
      obtain ⟨T0, hT0⟩ : ∃ t, t = tot (a.ms.take k) := ⟨_, rfl⟩
      obtain ⟨T1, hT1⟩ : ∃ t, t = tot (a.ms.take (k + 1)) := ⟨_, rfl⟩
      have hb1 := HS.out.tot_take k
      have hb2 := HS.out.tot_take (k + 1)
      have hp := pers_take_succ hx
      rw [← hT0] at ht hb1 ⊢
      rw [← hT1] at ht hb2 hp
      have e1 : MU = 1000000000000 := rfl
      rw [e1] at hb1 hb2
      have hj2 : J ((pers 0 a.ms).take k) (wr.alloc (.cells #[.int .i64 x.1, .int .i64 x.2] 54)) := hJ _ _ _ none hJs.out (World.grownBy_alloc _ _ _) (fun r e => by cases e)
      have hlk : ((pers 0 a.ms).take k).length < a.ms.length := by rw [List.length_take, pers_len, ← HM.out]; omega
      obtain ⟨fn, tmps, assign, body, hy, hR⟩ := HY.out _ (x.1, T1) _ hj2 hlk
      obtain ⟨x1, x2⟩ := x
      have hs1 : T0 + x2 = T1 := ht.symm
      dsimp only [encP] at hy d0 d1
      have HP := Lib.hid hp
      have HT1 := Lib.hid hT1
      have HJ2 := Lib.hid hj2
      clear hj2 hlk hJs hx ht hT0 hT1 hp e1
      gi_wp2
      refine hR.mono ?_
      rintro e W3 (⟨rfl, hJ3, hk3⟩ | ⟨rfl, hJx3⟩)
      · have HJ3 : Hid (J ((pers 0 a.ms).take (k + 1)) W3) := by rw [HP.out]; exact hJ3
        have HK3 : Hid (Kz w0 Bz W W3) := (hK.out.alloc hbr.size hzr _).trans hk3
        clear hJ3 hk3 hR hy
        gi_wp2
        go_roundw
        case rel => exact ⟨k + 1, by omega, by go_num, by rw [HT1.out], HJ3, HK3⟩
        case measure => simp [intOf]; omega
      · have HJx : Hid (∃ pre, pre <+: pers 0 a.ms ∧ Jx pre W3) := ⟨(pers 0 a.ms).take (k + 1), List.take_prefix _ _, by rw [HP.out]; exact hJx3⟩
        clear hJx3 hR hy
        gi_wp2
        refine bodyPost_ret (results_none rfl _ _ _) rfl ?_
        exact ⟨⟨_, rfl⟩, .inr HJx.out⟩
    · obtain rfl : k = m := by omega
      have hJe : J (pers 0 a.ms) wr := by
        have := hJs.out
        rwa [List.take_of_length_le (by rw [pers_len, ← HM.out]; exact Nat.le_refl _)] at this
      have HJe := Lib.hid hJe
      clear hJe hJs
      gi_wp2
      go_end0
      exact ⟨⟨_, rfl⟩, .inl ⟨_, rfl, HJe.out⟩⟩
theorem periods_stops (n : Nat) (hn : 1 ≤ n) (Bz b : Nat) (w0 : World) (a : Acc) (g o c : Nat) (ha : AccIn w0 b a g o c) (hs : Slim a.ms) (w : World) (hbw : Below w0.heap.size w0 w) (hBz : Bk w Bz #[.pointer (some ⟨b, 0, none⟩)] 24) :
    SeqStopsK Fence.wide n Tryd.prog 32 #[.pointer (some ⟨Bz, 0, none⟩)] encP (Kz w0 Bz) (fun ys => ys = pers 0 a.ms) (fun pre => pre <+: pers 0 a.ms) a.ms.length w := fun lp J Jx W hW hJ _ hY h0 =>
  periods1_in Fence.wide n trivial rfl hn lp Bz b w0 a g o c ha hs J Jx W hJ (hbw.trans (hW.mono hbw.size)) (hBz.below hW) hY h0
/-- A function that holds a range over a function, entered; the calls in it are plain ones. -/
theorem calls_marks {P : Program} {f : FuncId} {fn : Func} {c : Code} {args : Array Value} {w : World} {R : Ending → World → Prop} (n : Nat) (hf : P.funcs[f]? = some fn) (hb : fn.body = some c)
    (h : c.wp P (bodyPostM Fence.wide n P fn R) { tmps := args ++ Array.replicate (fn.ntmps - args.size) undef, defers := [] } w) : Calls P f args w R :=
  (callsIn_wide (n := n)).1 (callsIn_of_wp_marks (F := Fence.wide) hf hb trivial (wpIn_wide.2 h) rfl)
def lastB : List Mv → Int
  | [] => 0
  | [m] => m.2
  | _ :: r => lastB r
theorem lastB_append (m : Mv) : ∀ l : List Mv, lastB (l ++ [m]) = m.2
  | [] => rfl
  | [_] => rfl
  | _ :: n :: r => by
    have h := lastB_append m (n :: r)
    simp only [List.cons_append] at h ⊢
    rw [lastB]
    · exact h
    · simp
theorem lastB_pers : ∀ (b : Int) (l : List Mv), l ≠ [] → lastB (pers b l) = b + tot l
  | b, [], h => absurd rfl h
  | b, [m], _ => by simp [pers, lastB, tot]
  | b, m :: n :: r, _ => by
    have h := lastB_pers (b + m.2) (n :: r) (by simp)
    show lastB ((m.1, b + m.2) :: pers (b + m.2) (n :: r)) = _
    have e : pers (b + m.2) (n :: r) ≠ [] := by simp [pers]
    rw [show lastB ((m.1, b + m.2) :: pers (b + m.2) (n :: r)) = lastB (pers (b + m.2) (n :: r)) from by
      rcases h2 : pers (b + m.2) (n :: r) with _ | ⟨x, y⟩
      · exact absurd h2 e
      · rfl, h, tot, tot]
    simp only [tot]; omega
theorem sum_res {W : World} {tmps : Array Value} {v : Value} (h : tmps.getD 2 undef = v) : (results Tryd.f26 tmps).run Tryd.prog W = .ok v W := by
  have h' : tmps[2]?.getD undef = v := by simpa using h
  simp [results, Tryd.results26, go_sem, h']
/-- What holds between two rounds of 'sum'. -/
def SumI (w : World) (Bn Bz b : Nat) (pre : List Mv) (W : World) : Prop :=
  Bk W Bn #[.int .i64 (lastB pre)] 3 ∧ Bk W Bz #[.pointer (some ⟨b, 0, none⟩)] 24 ∧ Below w.heap.size w W
set_option maxRecDepth 100000 in
set_option maxHeartbeats 4000000 in
theorem sum_c (b : Nat) (a : Acc) (g o c : Nat) (w : World) (ha : AccIn w b a g o c) (hs : Slim a.ms) (hn : a.ms ≠ []) :
    Calls Tryd.prog 26 #[.pointer (some ⟨b, 0, none⟩)] w fun e w' => e = .returned (.int .i64 (tot a.ms)) ∧ Below w.heap.size w w' := by
  have HA := Lib.hid ha
  have HS := Lib.hid hs
  have HE : Hid (lastB (pers 0 a.ms) = tot a.ms) := by show _ = _; rw [lastB_pers 0 a.ms hn, Int.zero_add]
  clear ha hs hn
  refine calls_marks 8 Tryd.func26 rfl ?_
  simp only [Tryd.ntmps26, List.size_toArray, List.length_cons, List.length_nil, Nat.reduceAdd, Nat.reduceSub, Array.replicate_succ, Array.replicate_zero, List.push_toArray, List.append_toArray, List.nil_append, List.cons_append]
  go_wp2_with fail
  go_at_call 22
  refine (periods_c b _).mono ?_
  rintro e w1 ⟨rfl, rfl⟩
  go_wp2_with fail
  obtain ⟨Bn, hBn⟩ : ∃ x, x = w.heap.size := ⟨_, rfl⟩
  have bN := (Bk.new w #[.int .i64 0] 3).alloc (.cells #[.pointer (some ⟨b, 0, none⟩)] 24)
  have bZ := Bk.new (w.alloc (.cells #[.int .i64 0] 3)) #[.pointer (some ⟨b, 0, none⟩)] 24
  have hB0 : Below w.heap.size w ((w.alloc (.cells #[.int .i64 0] 3)).alloc (.cells #[.pointer (some ⟨b, 0, none⟩)] 24)) := ((Below.refl _ _).alloc (Nat.le_refl _) _).alloc (by simp) _
  have hsz : ((w.alloc (.cells #[.int .i64 0] 3)).alloc (.cells #[.pointer (some ⟨b, 0, none⟩)] 24)).heap.size = w.heap.size + 2 := by simp
  rw [World.size_alloc] at bZ
  rw [← hBn] at bN bZ
  obtain ⟨W0, hW0⟩ : ∃ W0, (w.alloc (.cells #[.int .i64 0] 3)).alloc (.cells #[.pointer (some ⟨b, 0, none⟩)] 24) = W0 := ⟨_, rfl⟩
  rw [hW0] at bN bZ hB0 hsz
  rw [hW0, ← hBn]
  have hwB : w.heap.size ≤ Bn := by rw [hBn]; exact Nat.le_refl _
  have hB2 : W0.heap.size = Bn + 2 := by rw [hsz, hBn]
  clear hW0 hsz hBn
  rw [← wpIn_wide (n := 8)]
  refine wpIn_rangeFunc_ownH rfl (by omega) (gf := 32) (lb := #[.pointer (some ⟨Bn + 1, 0, none⟩)]) rfl trivial (enters_of Tryd.func32 (by kernel_rfl) rfl)
    (periods_stops 7 (by omega) (Bn + 1) b w a g o c HA.out HS.out W0 hB0 bZ) Kz.trans (Kz.turn hB0.size (by omega)) (Below.refl _ _) (fun _ => rfl)
    (SumI w Bn (Bn + 1) b) (fun _ _ _ => False)
    (fun s A B row hs hg hr => ⟨hs.1.grown hg fun r e => (hr r e).2, hs.2.1.grown hg fun r e => (hr r e).2, hs.2.2.grown hg hs.2.2.size (fun r e => by have := (hr r e).1; omega)⟩)
    (fun e s A B row hs hg hr => hs)
    ⟨bN, bZ, hB0⟩
    (fun p a' W => a' = { tmps := #[.pointer (some ⟨b, 0, none⟩), undef, .int .i64 0, .pointer (some ⟨Bn, 0, none⟩), undef, .int .i64 p.2, .pointer (some ⟨b, 0, none⟩), .func (.func 32) #[] #[.pointer (some ⟨Bn + 1, 0, none⟩)], .int .i64 p.1, .int .i64 p.2, undef, undef], defers := [] })
    (fun p a' _ X Y row hs hg hr => hs)
    ?assign ?body ?done ?stop
  case assign =>
    rintro lp pre p W K ⟨i1, i2, i3⟩ hK
    have hlt := i2.lt
    have hs4 := i3.size
    unfold encP
    gi_wp2
    exact hK _ _ (KeepsFrom.refl _ _) (Kz.refl w (Bn + 1) W) ⟨i1, i2, i3⟩ rfl
  case body =>
    rintro lp pre p a' W hl ⟨r, hr⟩ ⟨i1, i2, i3⟩ rfl hlt
    have cN : W.cell? ⟨Bn, 0, none⟩ = some (.int .i64 (lastB pre)) := by rw [i1.cell]; rfl
    have fN := i1.free 0
    have l1 := i1.lt
    have Hn : Hid (Bk (W.setCell ⟨Bn, 0, none⟩ (.int .i64 p.2)) Bn #[.int .i64 p.2] 3) := i1.set 0 _
    have Hb : Hid (Below w.heap.size w (W.setCell ⟨Bn, 0, none⟩ (.int .i64 p.2))) := i3.setCell (p := ⟨Bn, 0, none⟩) (by show w.heap.size ≤ Bn; omega) _
    have Hz : Hid (Bk (W.setCell ⟨Bn, 0, none⟩ (.int .i64 p.2)) (Bn + 1) #[.pointer (some ⟨b, 0, none⟩)] 24) := i2.other (p := ⟨Bn, 0, none⟩) (by show Bn + 1 ≠ Bn; omega) _
    have Hk : Hid (Kz w (Bn + 1) W (W.setCell ⟨Bn, 0, none⟩ (.int .i64 p.2))) := ⟨(Below.refl _ _).setCell (p := ⟨Bn, 0, none⟩) (by show w.heap.size ≤ Bn; omega) _, setCell_heap_ne (by show Bn + 1 ≠ Bn; omega) _⟩
    clear i1 i2
    gi_wp2
    refine ⟨(KeepsOthers.setCell _ _ _).from _, Hk.out, ?_, Hz.out, Hb.out⟩
    rw [lastB_append]
    exact Hn.out
  case done =>
    rintro D xs W hD rfl ⟨i1, i2, i3⟩ hK
    have cN : W.cell? ⟨Bn, 0, none⟩ = some (.int .i64 (tot a.ms)) := by rw [i1.cell, HE.out]; rfl
    have l1 := i1.lt
    have HK : Hid (∃ w', (Instr.takeDeferred D).run Tryd.prog W = .ok [] w' ∧ Below w.heap.size w w') :=
      ⟨_, run_takeDeferred (by exact hK), i3.trans (belowK_b (w := w) (Nat.le_refl _) W D _ _ (by omega) (by exact hK) rfl rfl)⟩
    clear i1 i2 i3 hK bN bZ hB0
    go_wp2_with fail
    obtain ⟨w', hk, hb⟩ := HK.out
    exact ⟨by simp, .inl ⟨_, w', rfl, hk, _, sum_res rfl, rfl, hb⟩⟩
  case stop =>
    rintro D e pre W hD hpre hf hK
    exact hf.elim
end Go.Proofs.YtlkihpgpcgeogaaDoor

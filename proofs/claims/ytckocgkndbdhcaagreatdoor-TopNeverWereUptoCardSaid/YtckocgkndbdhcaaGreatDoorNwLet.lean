/-
  The letters of a word; valid names.
-/
import Derived.Test.YtckocgkndbdhcaaGreatDoorNwScript
namespace Go.Cz.Nw
/-- The letters with which a text begins. -/
def letsF : Nat → Int → Bytes → List Bytes
  | 0, _, _ => []
  | f + 1, k, s => if lenL k s = 0 then [] else s.take (lenL k s) :: letsF f k (s.drop (lenL k s))
def lets (k : Int) (s : Bytes) : List Bytes := letsF s.length k s
end Go.Cz.Nw
namespace Go.Proofs.YtckocgkndbdhcaaGreatDoor
open Go.RowKit Go.Cz Go.Cz.Nw Go.Shelf
set_option linter.unusedSimpArgs false
set_option linter.unusedVariables false
attribute [local go_sem] Oper.semAt_some bs_size bs_extract bs_append bs_toList
attribute [local irreducible] cList
theorem letters_c (k : Int) (s : Bytes) (w : World) : Calls Tryz.prog 84 #[.int .i64 k, .string (bs s)] w fun e w' => e = .returned (.func (.func 97) #[] #[.pointer (some ⟨w.heap.size, 0, none⟩), .pointer (some ⟨w.heap.size + 1, 0, none⟩)]) ∧ w' = (w.alloc (.cells #[.int .i64 k] 3)).alloc (.cells #[.string (bs s)] 9) := by
  go_enter Tryz.func84, Tryz.ntmps84
  go_wp2_with fail
  go_ret
  exact ⟨by simp, rfl⟩
def encL (x : Bytes) : Array Value := #[.string (bs x)]
def restN (B : Nat) (w : World) : Nat := match w.cell? ⟨B, 0, none⟩ with
  | some (.string b) => b.size
  | _ => 0
theorem restN_eq {B : Nat} {w : World} {s : Bytes} (h : Bk w B #[.string (bs s)] 9) : restN B w = s.length := by
  have c : w.cell? ⟨B, 0, none⟩ = some (.string (bs s)) := by rw [h.cell]; rfl
  unfold restN
  rw [c]
  exact bs_size s
/-- What a round keeps: what is old, and the iterator's two boxes. -/
def Kq (w0 : World) (B2 Bs : Nat) (W W' : World) : Prop := Below w0.heap.size W W' ∧ W'.heap[B2]? = W.heap[B2]? ∧ W'.heap[Bs]? = W.heap[Bs]?
theorem Kq.refl (w0 : World) (B2 Bs : Nat) (W : World) : Kq w0 B2 Bs W W := ⟨Below.refl _ _, rfl, rfl⟩
theorem Kq.trans {w0 : World} {B2 Bs : Nat} {a b c : World} (h : Kq w0 B2 Bs a b) (k : Kq w0 B2 Bs b c) : Kq w0 B2 Bs a c := ⟨h.1.trans k.1, k.2.1.trans h.2.1, k.2.2.trans h.2.2⟩
theorem Kq.turn {w0 w : World} {B2 Bs : Nat} (hb : w0.heap.size ≤ w.heap.size) (h2 : B2 < w.heap.size) (hs : Bs < w.heap.size) (W : World) (l : Nat) (o o' : Obj) (hl : w.heap.size ≤ l) (h : W.heap[l]? = some o) (_ : o.isCells = false) (_ : o.isWalk = false) : Kq w0 B2 Bs W (W.putObj l o') :=
  ⟨belowK_b hb W l o o' hl h ‹_› ‹_›, World.putObj_heap_other (by omega), World.putObj_heap_other (by omega)⟩
set_option maxRecDepth 100000 in
set_option maxHeartbeats 4000000 in
theorem letters1_in (n : Nat) (hn : 1 ≤ n) (lp Bs B2 : Nat) (k : Int) (s : Bytes) (w0 : World) (hstd : Std w0) (hs : s.length ≤ 1000) (hB : w0.heap.size ≤ Bs) (hne : B2 ≠ Bs)
    (J Jx : List Bytes → World → Prop) (W : World) (hJ : AbidesFrom W.heap.size J) (hJb : Boxy Bs J) (hbW : Below w0.heap.size w0 W) (hk : Bk W B2 #[.int .i64 k] 3) (hBs : Bk W Bs #[.string (bs s)] 9)
    (hY : ∀ pre x W1, J pre W1 → (pre ++ [x] <+: lets k s) → YieldAt Fence.wide (n - 1) Tryz.prog lp (encL x) W1 fun e W' => (e = .returned (.bool true) ∧ J (pre ++ [x]) W' ∧ Kq w0 B2 Bs W1 W') ∨ (e = .returned (.bool false) ∧ Jx (pre ++ [x]) W'))
    (h0 : J [] W) :
    CallsIn Fence.wide n Tryz.prog 97 #[.func (.yield lp) #[] #[], .pointer (some ⟨B2, 0, none⟩), .pointer (some ⟨Bs, 0, none⟩)] W fun e W' => (∃ v, e = .returned v) ∧ ((∃ ys, ys = lets k s ∧ J ys W') ∨ (∃ pre, pre <+: lets k s ∧ Jx pre W')) := by
  have HY := Lib.hid hY
  have HK := Lib.hid hk
  have HStd := Lib.hid hstd
  have c2 : W.cell? ⟨B2, 0, none⟩ = some (.int .i64 k) := by rw [hk.cell]; rfl
  have l2 := hk.lt
  have c3 : W.cell? ⟨Bs, 0, none⟩ = some (.string (bs s)) := by rw [hBs.cell]; rfl
  have l3 := hBs.lt
  have HL := Lib.hid (length_c k s W (hstd.below hbW) hs)
  have HBs := Lib.hid hBs
  have HBW := Lib.hid hbW
  clear hY hBs hbW hk hstd
  refine callsIn_of_wp Tryz.func97 rfl trivial ?_ rfl
  simp only [Tryz.ntmps97, List.size_toArray, List.length_cons, List.length_nil, Nat.reduceAdd, Nat.reduceSub, Array.replicate_succ, Array.replicate_zero, List.push_toArray, List.append_toArray, List.nil_append, List.cons_append]
  gi_wp2
  refine ⟨by trivial, (callsIn_wide.2 HL.out).mono ?_⟩
  rintro e W1 ⟨rfl, hb⟩
  have h1 : J [] W1 := hJ _ _ _ none h0 (grown_below hb) (fun r e => by cases e)
  have H1 := Lib.hid h1
  have HB1 : Hid (Below w0.heap.size w0 W1) := HBW.out.trans (hb.mono HBW.out.size)
  have HK1 : Hid (Bk W1 Bs #[.string (bs s)] 9) := HBs.out.below hb
  have HK2 : Hid (Bk W1 B2 #[.int .i64 k] 3) := HK.out.below hb
  clear hb h0 h1 c2 c3 l2 l3 HL HBW HBs HK
  gi_wp2
  gi_loopw [4] (fun v wr => ∃ (pre : List Bytes) (rest : Bytes) (f : Nat), rest.length ≤ f ∧ rest.length ≤ 1000 ∧ pre ++ letsF f k rest = lets k s ∧ v = .int .i64 (lenL k rest : Nat) ∧ Hid (J pre wr) ∧ Hid (Below w0.heap.size w0 wr) ∧ Hid (Bk wr Bs #[.string (bs rest)] 9) ∧ Hid (Bk wr B2 #[.int .i64 k] 3)) (fun _ wr => restN Bs wr)
  case atStart => exact ⟨[], s, s.length, Nat.le_refl _, hs, rfl, rfl, H1, HB1, HK1, HK2⟩
  case round =>
    clear H1 HB1 HK1 HK2
    obtain ⟨pre, rest, f, hf, hr9, hL, rfl, hJs, hB0, hBs, hB2⟩ := hrel
    have HR := Lib.hid (restN_eq hBs.out)
    have hle := lenL_le k rest
    rcases Nat.eq_zero_or_pos (lenL k rest) with hz | hpos
    · have hnil : letsF f k rest = [] := by
        cases f with
        | zero => rfl
        | succ f => rw [letsF, if_pos hz]
      rw [hnil, List.append_nil] at hL
      have HL := Lib.hid hL
      rw [hz]
      clear hL hnil hz hle
      gi_wp2
      refine ⟨fun f h => (by cases h), ?_⟩
      gi_wp2
      go_end0
      exact ⟨⟨_, rfl⟩, .inl ⟨_, rfl, by rw [← HL.out]; exact hJs.out⟩⟩
    · obtain ⟨f, rfl⟩ : ∃ g, f = g + 1 := ⟨f - 1, by omega⟩
      rw [letsF, if_neg (by omega)] at hL
      obtain ⟨m, hm⟩ : ∃ m, m = lenL k rest := ⟨_, rfl⟩
      rw [← hm] at hL hle hpos ⊢
      have HM := Lib.hid hm
      clear hm
      have HT : Hid (pre ++ [rest.take m] <+: lets k s) := by
        show _ <+: _
        rw [← hL]
        exact ⟨letsF f k (rest.drop m), by simp⟩
      have HL2 : Hid ((pre ++ [rest.take m]) ++ letsF f k (rest.drop m) = lets k s) := by
        show _ = _
        rw [← hL]
        simp
      obtain ⟨fn, tmps, assign, body, hy, hR⟩ := HY.out pre (rest.take m) wr hJs.out HT.out
      have c3 : wr.cell? ⟨Bs, 0, none⟩ = some (.string (bs rest)) := by rw [hBs.out.cell]; rfl
      have l3 := hBs.out.lt
      have hm1 : (0 : Int) < (m : Int) := by omega
      have hm2 : (m : Int) ≤ (rest.length : Int) := by omega
      dsimp only [encL] at hy
      clear hL
      gi_wp2
      refine hR.mono ?_
      rintro e W3 (⟨rfl, hJ3, hk3⟩ | ⟨rfl, hJx3⟩)
      · have hb3 : Bk W3 Bs #[.string (bs rest)] 9 := hk3.2.2.trans hBs.out
        have hk3' : Bk W3 B2 #[.int .i64 k] 3 := hk3.2.1.trans hB2.out
        have hB3 := hB0.out.trans hk3.1
        have c4 : W3.cell? ⟨Bs, 0, none⟩ = some (.string (bs rest)) := by rw [hb3.cell]; rfl
        have f4 := hb3.free 0
        have l4 := hb3.lt
        have htk : (rest.drop m).take (rest.length - m) = rest.drop m := tk_drop rest m
        have c2 : W3.cell? ⟨B2, 0, none⟩ = some (.int .i64 k) := by rw [hk3'.cell]; rfl
        have l2 := hk3'.lt
        have HW2 : Hid (Bk (W3.setCell ⟨Bs, 0, none⟩ (.string (bs (rest.drop m)))) B2 #[.int .i64 k] 3) := hk3'.other (p := ⟨Bs, 0, none⟩) (by exact hne) _
        have HW : Hid (Bk (W3.setCell ⟨Bs, 0, none⟩ (.string (bs (rest.drop m)))) Bs #[.string (bs (rest.drop m))] 9) := hb3.set 0 _
        have HB4 : Hid (Below w0.heap.size w0 (W3.setCell ⟨Bs, 0, none⟩ (.string (bs (rest.drop m))))) := hB3.setCell (p := ⟨Bs, 0, none⟩) hB _
        have HJ4 : Hid (J (pre ++ [rest.take m]) (W3.setCell ⟨Bs, 0, none⟩ (.string (bs (rest.drop m))))) := hJb _ _ _ hJ3
        clear hJ3 hk3 hR hy hb3 hB3 c3 l3 hk3'
        have HLn := Lib.hid (length_c k (rest.drop m) (W3.setCell ⟨Bs, 0, none⟩ (.string (bs (rest.drop m)))) (HStd.out.below HB4.out) (by rw [List.length_drop]; omega))
        gi_wp2
        refine ⟨by trivial, (callsIn_wide.2 HLn.out).mono ?_⟩
        rintro e W5 ⟨rfl, hb⟩
        have HJ5 : Hid (J (pre ++ [rest.take m]) W5) := hJ _ _ _ none HJ4.out (grown_below hb) (fun r e => by cases e)
        have HB5 : Hid (Below w0.heap.size w0 W5) := HB4.out.trans (hb.mono HB4.out.size)
        have HW6 : Hid (Bk W5 B2 #[.int .i64 k] 3) := HW2.out.below hb
        have HW5 : Hid (Bk W5 Bs #[.string (bs (rest.drop m))] 9) := HW.out.below hb
        clear hb HLn c2 l2 c4 f4 l4 htk
        gi_wp2
        go_roundw
        case rel => exact ⟨pre ++ [rest.take m], rest.drop m, f, by rw [List.length_drop]; omega, by rw [List.length_drop]; omega, HL2.out, rfl, HJ5, HB5, HW5, HW6⟩
        case measure => rw [restN_eq HW5.out, HR.out, List.length_drop]; omega
      · have HJx : Hid (∃ pre, pre <+: lets k s ∧ Jx pre W3) := ⟨_, HT.out, hJx3⟩
        clear hJx3 hR hy
        gi_wp2
        go_end0
        exact ⟨⟨_, rfl⟩, .inr HJx.out⟩
theorem letters_stops (n : Nat) (hn : 1 ≤ n) (Bs B2 : Nat) (k : Int) (s : Bytes) (w0 : World) (hstd : Std w0) (hs : s.length ≤ 1000) (hB : w0.heap.size ≤ Bs) (hne : B2 ≠ Bs) (w : World) (hbw : Below w0.heap.size w0 w) (hk : Bk w B2 #[.int .i64 k] 3) (hBs : Bk w Bs #[.string (bs s)] 9) :
    SeqBox Fence.wide n Tryz.prog 97 #[.pointer (some ⟨B2, 0, none⟩), .pointer (some ⟨Bs, 0, none⟩)] encL (Kq w0 B2 Bs) (fun ys => ys = lets k s) (fun pre => pre <+: lets k s) (fun pre x => pre ++ [x] <+: lets k s) Bs w := fun lp J Jx W hW hJ _ hJb _ hY h0 =>
  letters1_in n hn lp Bs B2 k s w0 hstd hs hB hne J Jx W hJ hJb (hbw.trans (hW.mono hbw.size)) (hk.below hW) (hBs.below hW) hY h0
end Go.Proofs.YtckocgkndbdhcaaGreatDoor

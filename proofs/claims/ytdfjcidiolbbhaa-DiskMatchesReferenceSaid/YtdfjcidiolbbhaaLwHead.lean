/-
  What 'head' of the disk's laws answers: true.
-/
import Derived.Test.YtdfjcidiolbbhaaLwCont
namespace Go.Proofs.Ytdfjcidiolbbhaa
open Go.RowKit Go.Cz Go.Cz.Dk
set_option linter.unusedSimpArgs false
set_option linter.unusedVariables false
attribute [local go_sem] bs_size bs_extract bs_append bs_toList

/-- The disks of 'head' after each call. -/
def hd0 : Dm := Dk.fresh 2
def hd1 : Dm := (Dk.write hd0 0 (fillT [97])).1
def hd2 : Dm := (Dk.sync hd1).1
def hd3 : Dm := (Dk.write hd2 0 (fillT [98])).1
def hd4 : Dm := Dk.fail hd3 0 2
def hd5 : Dm := Dk.start hd4
def hx0 : Dm := Dk.fresh 1
def hx1 : Dm := (Dk.write hx0 0 (fillT [97])).1
def hx2 : Dm := (Dk.sync hx1).1
def hx3 : Dm := Dk.rot hx2 0 1 3
def hx4 : Dm := (Dk.write hx3 0 (fillT [98])).1
def hk0 : Dm := Dk.fresh 1
def hk1 : Dm := Dk.arm hk0 1 1 2
def hk2 : Dm := (Dk.write hk1 0 (fillT [97])).1
def hk3 : Dm := (Dk.write hk2 0 (fillT [98])).1
def hk4 : Dm := Dk.start hk3
theorem r1 : (Dk.write hd0 0 (fillT [97])).2 = 0 := by decide +kernel
theorem r2 : (Dk.sync hd1).2 = 0 := by decide +kernel
theorem r3 : (Dk.write hd2 0 (fillT [98])).2 = 0 := by decide +kernel
theorem r4 : Dk.read hd3 0 = (fillT [98], 0) := by decide +kernel
theorem r5 : Dk.sync hd4 = (hd4, 26) := by
  have h : hd4.off = true := by decide +kernel
  simp [Dk.sync, h]
theorem r6 : Dk.read hd5 0 = ([98, 98] ++ (fillT [97]).drop 2, 0) := by decide +kernel
theorem r7 : Dk.read hd5 1 = (fillT [0], 0) := by decide +kernel
theorem r8 : Dk.read hd5 2 = ([], 1) := by decide +kernel
theorem r9 : Dk.write hd5 1 [115, 104, 111, 114, 116] = (hd5, 1) := by
  have h : hd5.off = false := by decide +kernel
  simp [Dk.write, h]
theorem r10 : (Dk.write hx0 0 (fillT [97])).2 = 0 := by decide +kernel
theorem r11 : (Dk.sync hx1).2 = 0 := by decide +kernel
theorem r12 : Dk.read hx3 0 = ([97, 98] ++ (fillT [97]).drop 2, 0) := by decide +kernel
theorem r13 : (Dk.write hx3 0 (fillT [98])).2 = 0 := by decide +kernel
theorem r14 : Dk.raw hx4 = [97, 98] ++ (fillT [97]).drop 2 := by decide +kernel
theorem r15 : (Dk.write hk1 0 (fillT [97])).2 = 0 := by decide +kernel
theorem r16 : (Dk.write hk2 0 (fillT [98])).2 = 26 := by decide +kernel
theorem r17 : Dk.read hk4 0 = ([98, 98] ++ (fillT [97]).drop 2, 0) := by decide +kernel
theorem q1 : hd0.q.length = 0 ∧ hd1.q.length = 1 ∧ hd2.q.length = 0 ∧ hd3.q.length = 1 ∧ hd4.q.length = 0 ∧ hd5.q.length = 0 ∧ hx0.q.length = 0 ∧ hx1.q.length = 1 ∧ hx2.q.length = 0 ∧ hx3.q.length = 0 ∧ hx4.q.length = 1 ∧ hk0.q.length = 0 ∧ hk1.q.length = 0 ∧ hk2.q.length = 1 ∧ hk3.q.length = 0 ∧ hk4.q.length = 0 := by decide +kernel
theorem length_fill : ∀ (t : Bytes), 0 < t.length → (fillT t).length = 64 := by
  intro t ht
  have : t ≠ [] := by intro e; simp [e] at ht
  have h1 : 64 * 1 ≤ 64 * t.length := Nat.mul_le_mul_left 64 ht
  simp [fillT, AAct.txt, this, length_rep]
  omega

/-- A disk of the law's own is still there. -/
theorem Own.base {w0 w : World} {b : Nat} {m : Dm} {K : List (Nat × Obj)} (h : Own w0 w b m K) : Below w0.heap.size w0 w := by obtain ⟨S, _, hb, _⟩ := h; exact hb
theorem Own.fresh (n : Nat) {w0 w : World} (hb : Below w0.heap.size w0 w) (h0 : 0 < n) (h1 : n ≤ 4000) : Calls Try.prog 13 #[.int .i64 (n : Int)] w fun e w' => ∃ b, e = .returned (.pointer (some ⟨b, 0, none⟩)) ∧ Own w0 w' b (Dk.fresh n) [] := by
  refine (New_c n w h0 h1).mono ?_
  rintro e w' ⟨b, S, rfl, hd, hb1, hS⟩
  exact ⟨b, rfl, S, hd, hb.trans (hb1.mono hb.size), fun k hk => Nat.le_trans hb.size (hS k hk), by simp⟩
abbrev OwnPost (w0 : World) (b : Nat) (m : Dm) (v : Value) (e : Ending) (w' : World) : Prop := e = .returned v ∧ Own w0 w' b m []
section
variable {w0 w : World} {b : Nat}
theorem W1 (h : Own w0 w b hd0 []) : Calls Try.prog 23 #[.pointer (some ⟨b, 0, none⟩), .int .i64 0, .string (bs (fillT [97]))] w (OwnPost w0 b hd1 (.int .i64 0)) := by
  have hc := h.call fun S hS => Write_c b 0 (fillT [97]) hd0 S w hS (by have := q1; omega)
  rw [r1] at hc
  exact hc
theorem W2 (h : Own w0 w b hd2 []) : Calls Try.prog 23 #[.pointer (some ⟨b, 0, none⟩), .int .i64 0, .string (bs (fillT [98]))] w (OwnPost w0 b hd3 (.int .i64 0)) := by
  have hc := h.call fun S hS => Write_c b 0 (fillT [98]) hd2 S w hS (by have := q1; omega)
  rw [r3] at hc
  exact hc
theorem W3 (h : Own w0 w b hd5 []) : Calls Try.prog 23 #[.pointer (some ⟨b, 0, none⟩), .int .i64 1, .string (bs [115, 104, 111, 114, 116])] w (OwnPost w0 b hd5 (.int .i64 1)) := by
  have hc := h.call fun S hS => Write_c b 1 [115, 104, 111, 114, 116] hd5 S w hS (by have := q1; omega)
  rw [r9] at hc
  exact hc
theorem W4 (h : Own w0 w b hx0 []) : Calls Try.prog 23 #[.pointer (some ⟨b, 0, none⟩), .int .i64 0, .string (bs (fillT [97]))] w (OwnPost w0 b hx1 (.int .i64 0)) := by
  have hc := h.call fun S hS => Write_c b 0 (fillT [97]) hx0 S w hS (by have := q1; omega)
  rw [r10] at hc
  exact hc
theorem W5 (h : Own w0 w b hx3 []) : Calls Try.prog 23 #[.pointer (some ⟨b, 0, none⟩), .int .i64 0, .string (bs (fillT [98]))] w (OwnPost w0 b hx4 (.int .i64 0)) := by
  have hc := h.call fun S hS => Write_c b 0 (fillT [98]) hx3 S w hS (by have := q1; omega)
  rw [r13] at hc
  exact hc
theorem W6 (h : Own w0 w b hk1 []) : Calls Try.prog 23 #[.pointer (some ⟨b, 0, none⟩), .int .i64 0, .string (bs (fillT [97]))] w (OwnPost w0 b hk2 (.int .i64 0)) := by
  have hc := h.call fun S hS => Write_c b 0 (fillT [97]) hk1 S w hS (by have := q1; omega)
  rw [r15] at hc
  exact hc
theorem W7 (h : Own w0 w b hk2 []) : Calls Try.prog 23 #[.pointer (some ⟨b, 0, none⟩), .int .i64 0, .string (bs (fillT [98]))] w (OwnPost w0 b hk3 (.int .i64 26)) := by
  have hc := h.call fun S hS => Write_c b 0 (fillT [98]) hk2 S w hS (by have := q1; omega)
  rw [r16] at hc
  exact hc
theorem Y1 (h : Own w0 w b hd1 []) : Calls Try.prog 21 #[.pointer (some ⟨b, 0, none⟩)] w (OwnPost w0 b hd2 (.int .i64 0)) := by
  have hc := h.call fun S hS => Sync_c b hd1 S w hS (by have := q1; omega)
  rw [r2] at hc
  exact hc
theorem Y2 (h : Own w0 w b hd4 []) : Calls Try.prog 21 #[.pointer (some ⟨b, 0, none⟩)] w (OwnPost w0 b hd4 (.int .i64 26)) := by
  have hc := h.call fun S hS => Sync_c b hd4 S w hS (by have := q1; omega)
  rw [r5] at hc
  exact hc
theorem Y3 (h : Own w0 w b hx1 []) : Calls Try.prog 21 #[.pointer (some ⟨b, 0, none⟩)] w (OwnPost w0 b hx2 (.int .i64 0)) := by
  have hc := h.call fun S hS => Sync_c b hx1 S w hS (by have := q1; omega)
  rw [r11] at hc
  exact hc
theorem D1 (h : Own w0 w b hd3 []) : Calls Try.prog 18 #[.pointer (some ⟨b, 0, none⟩), .int .i64 0] w (OwnPost w0 b hd3 (.tuple #[.string (bs (fillT [98])), .int .i64 0])) := by
  have h0 := h
  obtain ⟨S, hd, _⟩ := h0
  have hc := Read_c b 0 hd3 S w hd (by have := q1; omega)
  rw [r4] at hc
  exact hc.mono fun e w' ⟨h1, h2⟩ => ⟨h1, h.below h2⟩
theorem D2 (h : Own w0 w b hd5 []) : Calls Try.prog 18 #[.pointer (some ⟨b, 0, none⟩), .int .i64 0] w (OwnPost w0 b hd5 (.tuple #[.string (bs ([98, 98] ++ (fillT [97]).drop 2)), .int .i64 0])) := by
  have h0 := h
  obtain ⟨S, hd, _⟩ := h0
  have hc := Read_c b 0 hd5 S w hd (by have := q1; omega)
  rw [r6] at hc
  exact hc.mono fun e w' ⟨h1, h2⟩ => ⟨h1, h.below h2⟩
theorem D3 (h : Own w0 w b hd5 []) : Calls Try.prog 18 #[.pointer (some ⟨b, 0, none⟩), .int .i64 1] w (OwnPost w0 b hd5 (.tuple #[.string (bs (fillT [0])), .int .i64 0])) := by
  have h0 := h
  obtain ⟨S, hd, _⟩ := h0
  have hc := Read_c b 1 hd5 S w hd (by have := q1; omega)
  rw [r7] at hc
  exact hc.mono fun e w' ⟨h1, h2⟩ => ⟨h1, h.below h2⟩
theorem D4 (h : Own w0 w b hd5 []) : Calls Try.prog 18 #[.pointer (some ⟨b, 0, none⟩), .int .i64 2] w (OwnPost w0 b hd5 (.tuple #[.string (bs ([])), .int .i64 1])) := by
  have h0 := h
  obtain ⟨S, hd, _⟩ := h0
  have hc := Read_c b 2 hd5 S w hd (by have := q1; omega)
  rw [r8] at hc
  exact hc.mono fun e w' ⟨h1, h2⟩ => ⟨h1, h.below h2⟩
theorem D5 (h : Own w0 w b hx3 []) : Calls Try.prog 18 #[.pointer (some ⟨b, 0, none⟩), .int .i64 0] w (OwnPost w0 b hx3 (.tuple #[.string (bs ([97, 98] ++ (fillT [97]).drop 2)), .int .i64 0])) := by
  have h0 := h
  obtain ⟨S, hd, _⟩ := h0
  have hc := Read_c b 0 hx3 S w hd (by have := q1; omega)
  rw [r12] at hc
  exact hc.mono fun e w' ⟨h1, h2⟩ => ⟨h1, h.below h2⟩
theorem D6 (h : Own w0 w b hk4 []) : Calls Try.prog 18 #[.pointer (some ⟨b, 0, none⟩), .int .i64 0] w (OwnPost w0 b hk4 (.tuple #[.string (bs ([98, 98] ++ (fillT [97]).drop 2)), .int .i64 0])) := by
  have h0 := h
  obtain ⟨S, hd, _⟩ := h0
  have hc := Read_c b 0 hk4 S w hd (by have := q1; omega)
  rw [r17] at hc
  exact hc.mono fun e w' ⟨h1, h2⟩ => ⟨h1, h.below h2⟩
theorem F1 (h : Own w0 w b hd3 []) : Calls Try.prog 25 #[.pointer (some ⟨b, 0, none⟩), .int .i64 0, .int .i64 2] w (OwnPost w0 b hd4 (.tuple #[])) := h.call fun S hS => Fail_c b 0 2 hd3 S w hS (by have := q1; omega)
theorem S1 (h : Own w0 w b hd4 []) : Calls Try.prog 20 #[.pointer (some ⟨b, 0, none⟩)] w (OwnPost w0 b hd5 (.tuple #[])) := h.call fun S hS => Start_c b hd4 S w hS
theorem S2 (h : Own w0 w b hk3 []) : Calls Try.prog 20 #[.pointer (some ⟨b, 0, none⟩)] w (OwnPost w0 b hk4 (.tuple #[])) := h.call fun S hS => Start_c b hk3 S w hS
theorem A1 (h : Own w0 w b hk0 []) : Calls Try.prog 29 #[.pointer (some ⟨b, 0, none⟩), .int .i64 1, .int .i64 1, .int .i64 2] w (OwnPost w0 b hk1 (.tuple #[])) := h.call fun S hS => Arm_c b 1 1 2 hk0 S w hS (by omega)
theorem T1 (h : Own w0 w b hx2 []) : Calls Try.prog 30 #[.pointer (some ⟨b, 0, none⟩), .int .i64 0, .int .i64 1, .int .i64 3] w (OwnPost w0 b hx3 (.tuple #[])) := h.call fun S hS => Rot_c b 0 1 3 hx2 S w hS
theorem G1 (h : Own w0 w b hx4 []) : Calls Try.prog 31 #[.pointer (some ⟨b, 0, none⟩)] w (OwnPost w0 b hx4 (.string (bs ([97, 98] ++ (fillT [97]).drop 2)))) := by
  have h0 := h
  obtain ⟨S, hd, _⟩ := h0
  have hc := Raw_c b hx4 S w hd
  rw [r14] at hc
  exact hc.mono fun e w' ⟨h1, h2⟩ => ⟨h1, by rw [h2]; exact h⟩
end
attribute [local irreducible] hd0 hd1 hd2 hd3 hd4 hd5 hx0 hx1 hx2 hx3 hx4 hk0 hk1 hk2 hk3 hk4
end Go.Proofs.Ytdfjcidiolbbhaa

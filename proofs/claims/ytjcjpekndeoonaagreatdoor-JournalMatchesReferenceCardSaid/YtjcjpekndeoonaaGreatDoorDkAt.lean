/-
  The program's disk in memory, and what its methods do: 'at', 'place', 'count', 'Write', 'Read', 'set', 'settle', 'Sync', 'Fail', 'Arm', 'Start', 'Rot', 'Raw', 'New'.
-/
import Derived.Test.YtjcjpekndeoonaaGreatDoorDkModel
import Derived.Test.YtjcjpekndeoonaaGreatDoorProg
namespace Go.Proofs.YtjcjpekndeoonaaGreatDoor
open Go.RowKit Go.Cz Go.Cz.Dk
set_option linter.unusedSimpArgs false
set_option linter.unusedVariables false
attribute [local go_sem] bs_size bs_extract bs_append bs_toList

/-- The cells of a pending write. -/
def pcells (p : Nat × Bytes) : List Value := [.int .i64 ((p.1 : Int) * 64), .int .i64 (((p.1 : Int) + 1) * 64), .string (bs p.2)]
/-- Where the alarm lies. -/
def AlarmAt (w : World) (av : Value) (al : Option (Int × Int × Int)) (ab : List Nat) : Prop :=
  (av = .pointer none ∧ al = none ∧ ab = []) ∨
  ∃ g x y z, av = .pointer (some ⟨g, 0, none⟩) ∧ al = some (x, y, z) ∧ ab = [g] ∧ w.heap[g]? = some (.cells #[.int .i64 x, .int .i64 y, .int .i64 z] 95 (0, 0))
/-- The disk m lies at block b, and takes the blocks S. -/
structure DiskAt' (w : World) (b : Nat) (m : Dm) (S : List Nat) (sb : Nat) (qv av : Value) (ab : List Nat) : Prop where
  main : w.heap[b]? = some (.cells #[.slice (some ⟨sb, 0, none⟩) (m.st.length * 64) (m.st.length * 64), qv, .bool m.off, av] 72 (0, 0))
  stab : w.heap[sb]? = some (.cells (bcells m.st.flatten).toArray 5 (0, 0))
  row : w.ownsRow 0 88 3 qv m.q.length (m.q.flatMap pcells)
  alarm : AlarmAt w av m.al ab
  own : S = b :: sb :: (qv.ownBlock.toList ++ ab)
  nodup : S.Nodup
  ok : m.ok
  few : m.st.length ≤ 4000
def DiskAt (w : World) (b : Nat) (m : Dm) (S : List Nat) : Prop := ∃ sb qv av ab, DiskAt' w b m S sb qv av ab

/-- What is known of a disk's first cells. -/
theorem DiskAt'.cells {w : World} {b : Nat} {m : Dm} {S : List Nat} {sb : Nat} {qv av : Value} {ab : List Nat} (h : DiskAt' w b m S sb qv av ab) :
    b < w.heap.size ∧ w.cell? ⟨b, 0, none⟩ = some (.slice (some ⟨sb, 0, none⟩) (m.st.length * 64) (m.st.length * 64)) ∧ w.cell? ⟨b, 1, none⟩ = some qv ∧
    w.cell? ⟨b, 2, none⟩ = some (.bool m.off) ∧ w.cell? ⟨b, 3, none⟩ = some av ∧ (∀ i, w.frozen? ⟨b, i, none⟩ = false) :=
  ⟨lt_of_block h.main, by rw [cell_of_heap h.main]; simp, by rw [cell_of_heap h.main]; simp, by rw [cell_of_heap h.main]; simp, by rw [cell_of_heap h.main]; simp, fun i => free_of_heap h.main⟩

set_option maxHeartbeats 1000000 in
theorem place_nil (s : Int) (w : World) :
    Calls Tryz.prog 65 #[.pointer none, .int .i64 s] w fun e w' => e = .returned (.tuple #[.agg #[.int .i64 0, .int .i64 0], .bool false]) ∧ Below w.heap.size w w' := by
  go_enter Tryz.func65, Tryz.ntmps65
  go_wp2
  exact bodyPost_ret (v := .tuple #[.agg #[.int .i64 0, .int .i64 0], .bool false]) (by simp [results, Tryz.results65, go_sem]) rfl ⟨rfl, by repeat (first | exact Below.refl _ _ | (refine Below.drew ?_) | (refine Below.alloc ?_ (by (try simp only [World.size_alloc, World.size_setCell, World.size_drew] at *); omega) _) | (refine Below.setCell ?_ (by (try simp only [World.size_alloc, World.size_setCell, World.size_drew] at *); omega) _))⟩
set_option maxHeartbeats 1000000 in
theorem place_bad (b sb n : Nat) (s : Int) (w : World) (hb : b < w.heap.size) (c0 : w.cell? ⟨b, 0, none⟩ = some (.slice (some ⟨sb, 0, none⟩) (n * 64) (n * 64))) (hf : n ≤ 4000) (hv : s < 0 ∨ (n : Int) ≤ s) :
    Calls Tryz.prog 65 #[.pointer (some ⟨b, 0, none⟩), .int .i64 s] w fun e w' => e = .returned (.tuple #[.agg #[.int .i64 0, .int .i64 0], .bool false]) ∧ Below w.heap.size w w' := by
  have hd : (n : Int) * 64 / 64 = n := by omega
  go_enter Tryz.func65, Tryz.ntmps65
  rcases hv with hv | hv
  · go_wp2
    exact bodyPost_ret (v := .tuple #[.agg #[.int .i64 0, .int .i64 0], .bool false]) (by simp [results, Tryz.results65, go_sem]) rfl ⟨rfl, by repeat (first | exact Below.refl _ _ | (refine Below.drew ?_) | (refine Below.alloc ?_ (by (try simp only [World.size_alloc, World.size_setCell, World.size_drew] at *); omega) _) | (refine Below.setCell ?_ (by (try simp only [World.size_alloc, World.size_setCell, World.size_drew] at *); omega) _))⟩
  · have hv' : ¬ s < 0 := by omega
    go_wp2
    exact bodyPost_ret (v := .tuple #[.agg #[.int .i64 0, .int .i64 0], .bool false]) (by simp [results, Tryz.results65, go_sem]) rfl ⟨rfl, by repeat (first | exact Below.refl _ _ | (refine Below.drew ?_) | (refine Below.alloc ?_ (by (try simp only [World.size_alloc, World.size_setCell, World.size_drew] at *); omega) _) | (refine Below.setCell ?_ (by (try simp only [World.size_alloc, World.size_setCell, World.size_drew] at *); omega) _))⟩
set_option maxHeartbeats 1000000 in
theorem place_ok (b sb n : Nat) (s : Int) (w : World) (hb : b < w.heap.size) (c0 : w.cell? ⟨b, 0, none⟩ = some (.slice (some ⟨sb, 0, none⟩) (n * 64) (n * 64))) (hf : n ≤ 4000) (h0 : 0 ≤ s) (h1 : s < n) :
    Calls Tryz.prog 65 #[.pointer (some ⟨b, 0, none⟩), .int .i64 s] w fun e w' => e = .returned (.tuple #[.agg #[.int .i64 (s * 64), .int .i64 ((s + 1) * 64)], .bool true]) ∧ Below w.heap.size w w' := by
  have hd : (n : Int) * 64 / 64 = n := by omega
  go_enter Tryz.func65, Tryz.ntmps65
  go_wp2
  exact bodyPost_ret (v := .tuple #[.agg #[.int .i64 (s * 64), .int .i64 ((s + 1) * 64)], .bool true]) (by simp [results, Tryz.results65, go_sem]) rfl ⟨rfl, by repeat (first | exact Below.refl _ _ | (refine Below.drew ?_) | (refine Below.alloc ?_ (by (try simp only [World.size_alloc, World.size_setCell, World.size_drew] at *); omega) _) | (refine Below.setCell ?_ (by (try simp only [World.size_alloc, World.size_setCell, World.size_drew] at *); omega) _))⟩

/-- A disk's state in another world that is the same below the first one's size. -/
theorem DiskAt'.below {w w' : World} {b : Nat} {m : Dm} {S : List Nat} {sb : Nat} {qv av : Value} {ab : List Nat} (h : DiskAt' w b m S sb qv av ab) (hb : Below w.heap.size w w') : DiskAt' w' b m S sb qv av ab := by
  have k : ∀ {i : Nat} {o : Obj}, w.heap[i]? = some o → w'.heap[i]? = some o := fun hi => (hb.block _ (lt_of_block hi)).trans hi
  refine ⟨k h.main, k h.stab, ?_, ?_, h.own, h.nodup, h.ok, h.few⟩
  · refine h.row.kept (row := none) ⟨hb.os, hb.tape, hb.output, hb.size, fun i hi _ => hb.block i hi⟩ ?_
    cases qv.ownBlock <;> simp
  · rcases h.alarm with ha | ⟨g, x, y, z, h1, h2, h3, h4⟩
    · exact .inl ha
    · exact .inr ⟨g, x, y, z, h1, h2, h3, k h4⟩

set_option maxHeartbeats 1000000 in
theorem at_off (b sb : Nat) (s : Int) (m : Dm) (S ab : List Nat) (qv av : Value) (w : World) (h : DiskAt' w b m S sb qv av ab) (ho : m.off = true) :
    Calls Tryz.prog 67 #[.pointer (some ⟨b, 0, none⟩), .int .i64 s] w fun e w' => e = .returned (.tuple #[.agg #[.int .i64 0, .int .i64 0], .int .i64 26]) ∧ Below w.heap.size w w' := by
  obtain ⟨hb, _, _, c2, _, _⟩ := h.cells
  rw [ho] at c2
  clear h ho
  go_enter Tryz.func67, Tryz.ntmps67
  go_wp2
  exact bodyPost_ret (v := .tuple #[.agg #[.int .i64 0, .int .i64 0], .int .i64 26]) (by simp [results, Tryz.results67, go_sem]) rfl ⟨rfl, by repeat (first | exact Below.refl _ _ | (refine Below.drew ?_) | (refine Below.alloc ?_ (by (try simp only [World.size_alloc, World.size_setCell, World.size_drew] at *); omega) _) | (refine Below.setCell ?_ (by (try simp only [World.size_alloc, World.size_setCell, World.size_drew] at *); omega) _))⟩
set_option maxHeartbeats 1000000 in
theorem at_bad (b sb : Nat) (s : Int) (m : Dm) (S ab : List Nat) (qv av : Value) (w : World) (h : DiskAt' w b m S sb qv av ab) (ho : m.off = false) (hv : s < 0 ∨ (m.st.length : Int) ≤ s) :
    Calls Tryz.prog 67 #[.pointer (some ⟨b, 0, none⟩), .int .i64 s] w fun e w' => e = .returned (.tuple #[.agg #[.int .i64 0, .int .i64 0], .int .i64 1]) ∧ Below w.heap.size w w' := by
  obtain ⟨hb, c0, _, c2, _, _⟩ := h.cells
  rw [ho] at c2
  have hf := h.few
  clear h ho
  generalize m.st.length = n at *
  go_enter Tryz.func67, Tryz.ntmps67
  go_wp2_with (go_at_call 65; refine (place_bad b sb n s _ (by simp; omega) (by simp [go_sem, hb, c0]) hf hv).mono ?_; rintro e w1 ⟨rfl, hb1⟩; obtain ⟨hc1, hf1, hz1⟩ := bcall hb1)
  refine bodyPost_ret (v := .tuple #[.agg #[.int .i64 0, .int .i64 0], .int .i64 1]) (by simp [results, Tryz.results67, go_sem, hc1, hz1]) rfl ⟨rfl, ?_⟩
  repeat (first | exact Below.refl _ _ | (refine Below.trans ?_ (hb1.mono (by have z0 := hb1.size; (try simp only [World.size_alloc, World.size_setCell, World.size_drew] at *); omega))) | (refine Below.drew ?_) | (refine Below.alloc ?_ (by have z0 := hb1.size; (try simp only [World.size_alloc, World.size_setCell, World.size_drew] at *); omega) _) | (refine Below.setCell ?_ (by have z0 := hb1.size; (try simp only [World.size_alloc, World.size_setCell, World.size_drew] at *); omega) _))
set_option maxHeartbeats 1000000 in
theorem at_ok (b sb : Nat) (s : Int) (m : Dm) (S ab : List Nat) (qv av : Value) (w : World) (h : DiskAt' w b m S sb qv av ab) (ho : m.off = false) (h0 : 0 ≤ s) (h1 : s < m.st.length) :
    Calls Tryz.prog 67 #[.pointer (some ⟨b, 0, none⟩), .int .i64 s] w fun e w' => e = .returned (.tuple #[.agg #[.int .i64 (s * 64), .int .i64 ((s + 1) * 64)], .int .i64 0]) ∧ Below w.heap.size w w' := by
  obtain ⟨hb, c0, _, c2, _, _⟩ := h.cells
  rw [ho] at c2
  have hf := h.few
  clear h ho
  generalize m.st.length = n at *
  go_enter Tryz.func67, Tryz.ntmps67
  go_wp2_with (go_at_call 65; refine (place_ok b sb n s _ (by simp; omega) (by simp [go_sem, hb, c0]) hf h0 h1).mono ?_; rintro e w1 ⟨rfl, hb1⟩; obtain ⟨hc1, hf1, hz1⟩ := bcall hb1)
  refine bodyPost_ret (v := .tuple #[.agg #[.int .i64 (s * 64), .int .i64 ((s + 1) * 64)], .int .i64 0]) (by simp [results, Tryz.results67, go_sem, hc1, hz1]) rfl ⟨rfl, ?_⟩
  repeat (first | exact Below.refl _ _ | (refine Below.trans ?_ (hb1.mono (by have z0 := hb1.size; (try simp only [World.size_alloc, World.size_setCell, World.size_drew] at *); omega))) | (refine Below.drew ?_) | (refine Below.alloc ?_ (by have z0 := hb1.size; (try simp only [World.size_alloc, World.size_setCell, World.size_drew] at *); omega) _) | (refine Below.setCell ?_ (by have z0 := hb1.size; (try simp only [World.size_alloc, World.size_setCell, World.size_drew] at *); omega) _))
set_option maxHeartbeats 1000000 in
theorem at_nil (s : Int) (w : World) :
    Calls Tryz.prog 67 #[.pointer none, .int .i64 s] w fun e w' => e = .returned (.tuple #[.agg #[.int .i64 0, .int .i64 0], .int .i64 1]) ∧ Below w.heap.size w w' := by
  go_enter Tryz.func67, Tryz.ntmps67
  go_wp2_with (go_at_call 65; refine (place_nil s _).mono ?_; rintro e w1 ⟨rfl, hb1⟩; obtain ⟨hc1, hf1, hz1⟩ := bcall hb1)
  refine bodyPost_ret (v := .tuple #[.agg #[.int .i64 0, .int .i64 0], .int .i64 1]) (by simp [results, Tryz.results67, go_sem, hc1, hz1]) rfl ⟨rfl, ?_⟩
  repeat (first | exact Below.refl _ _ | (refine Below.trans ?_ (hb1.mono (by have z0 := hb1.size; (try simp only [World.size_alloc, World.size_setCell, World.size_drew] at *); omega))) | (refine Below.drew ?_) | (refine Below.alloc ?_ (by have z0 := hb1.size; (try simp only [World.size_alloc, World.size_setCell, World.size_drew] at *); omega) _) | (refine Below.setCell ?_ (by have z0 := hb1.size; (try simp only [World.size_alloc, World.size_setCell, World.size_drew] at *); omega) _))

set_option maxHeartbeats 1000000 in
theorem Write_off (b sb : Nat) (s : Int) (t : Bytes) (m : Dm) (S ab : List Nat) (qv av : Value) (w : World) (h : DiskAt' w b m S sb qv av ab) (ho : m.off = true) :
    Calls Tryz.prog 76 #[.pointer (some ⟨b, 0, none⟩), .int .i64 s, .string (bs t)] w fun e w' => e = .returned (.int .i64 26) ∧ Below w.heap.size w w' := by
  go_enter Tryz.func76, Tryz.ntmps76
  go_wp2_with (go_at_call 67; refine (at_off b sb s m S ab qv av _ h ho).mono ?_; rintro e w1 ⟨rfl, hb1⟩; obtain ⟨hc1, hf1, hz1⟩ := bcall hb1; clear h ho)
  go_ret
  refine ⟨rfl, ?_⟩
  repeat (first | exact Below.refl _ _ | (refine Below.trans ?_ (hb1.mono (by have z0 := hb1.size; (try simp only [World.size_alloc, World.size_setCell, World.size_drew] at *); omega))) | (refine Below.drew ?_) | (refine Below.alloc ?_ (by have z0 := hb1.size; (try simp only [World.size_alloc, World.size_setCell, World.size_drew] at *); omega) _) | (refine Below.setCell ?_ (by have z0 := hb1.size; (try simp only [World.size_alloc, World.size_setCell, World.size_drew] at *); omega) _))
set_option maxHeartbeats 1000000 in
theorem Write_bad (b sb : Nat) (s : Int) (t : Bytes) (m : Dm) (S ab : List Nat) (qv av : Value) (w : World) (h : DiskAt' w b m S sb qv av ab) (ho : m.off = false) (hv : s < 0 ∨ (m.st.length : Int) ≤ s) :
    Calls Tryz.prog 76 #[.pointer (some ⟨b, 0, none⟩), .int .i64 s, .string (bs t)] w fun e w' => e = .returned (.int .i64 1) ∧ Below w.heap.size w w' := by
  go_enter Tryz.func76, Tryz.ntmps76
  go_wp2_with (go_at_call 67; refine (at_bad b sb s m S ab qv av _ h ho hv).mono ?_; rintro e w1 ⟨rfl, hb1⟩; obtain ⟨hc1, hf1, hz1⟩ := bcall hb1; clear h ho hv)
  go_ret
  refine ⟨rfl, ?_⟩
  repeat (first | exact Below.refl _ _ | (refine Below.trans ?_ (hb1.mono (by have z0 := hb1.size; (try simp only [World.size_alloc, World.size_setCell, World.size_drew] at *); omega))) | (refine Below.drew ?_) | (refine Below.alloc ?_ (by have z0 := hb1.size; (try simp only [World.size_alloc, World.size_setCell, World.size_drew] at *); omega) _) | (refine Below.setCell ?_ (by have z0 := hb1.size; (try simp only [World.size_alloc, World.size_setCell, World.size_drew] at *); omega) _))
set_option maxHeartbeats 1000000 in
theorem Write_len (b sb : Nat) (s : Int) (t : Bytes) (m : Dm) (S ab : List Nat) (qv av : Value) (w : World) (h : DiskAt' w b m S sb qv av ab) (ho : m.off = false) (h0 : 0 ≤ s) (h1 : s < m.st.length) (ht : t.length ≠ 64) :
    Calls Tryz.prog 76 #[.pointer (some ⟨b, 0, none⟩), .int .i64 s, .string (bs t)] w fun e w' => e = .returned (.int .i64 1) ∧ Below w.heap.size w w' := by
  have ht' : ((t.length : Int) != 64) = true := by simp; omega
  clear ht
  go_enter Tryz.func76, Tryz.ntmps76
  go_wp2_with (go_at_call 67; refine (at_ok b sb s m S ab qv av _ h ho h0 h1).mono ?_; rintro e w1 ⟨rfl, hb1⟩; obtain ⟨hc1, hf1, hz1⟩ := bcall hb1; clear h ho)
  go_ret
  refine ⟨rfl, ?_⟩
  repeat (first | exact Below.refl _ _ | (refine Below.trans ?_ (hb1.mono (by have z0 := hb1.size; (try simp only [World.size_alloc, World.size_setCell, World.size_drew] at *); omega))) | (refine Below.drew ?_) | (refine Below.alloc ?_ (by have z0 := hb1.size; (try simp only [World.size_alloc, World.size_setCell, World.size_drew] at *); omega) _) | (refine Below.setCell ?_ (by have z0 := hb1.size; (try simp only [World.size_alloc, World.size_setCell, World.size_drew] at *); omega) _))
end Go.Proofs.YtjcjpekndeoonaaGreatDoor

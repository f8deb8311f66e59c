/-
  Disks and lists of texts as pieces of memory; the calls on them.
-/
import Derived.Test.YtdfjcidiolbbhaaSep
import Derived.Test.YtdfjcidiolbbhaaLwHead2
import Derived.Test.YtdfjcidiolbbhaaLwPlain
namespace Go.Proofs.Ytdfjcidiolbbhaa
open Go.RowKit Go.Cz Go.Cz.Dk
set_option linter.unusedSimpArgs false
set_option linter.unusedVariables false
attribute [local go_sem] bs_size bs_extract bs_append bs_toList

def disk (b : Nat) (m : Dm) : Piece where
  lies w S := DiskAt w b m S
  lt h := h.lt
  keep h hm hd := h.mod hm hd
/-- A list of texts at block g. -/
def strs (g : Nat) (l : List Bytes) : Piece where
  lies w S := S = [g] ∧ ∃ cur, w.heap[g]? = some (.cells cur 9 (0, 0)) ∧ StrsAt cur l
  lt := by rintro w S ⟨rfl, cur, h, _⟩ k hk; simp at hk; subst hk; exact lt_of_block h
  keep := by rintro w w' S T ⟨rfl, cur, h, hs⟩ hm hd; exact ⟨rfl, cur, hm.heap h (hd g (by simp)), hs⟩
abbrev Back (w0 : World) (v : Value) (ps : List Piece) (e : Ending) (w' : World) : Prop := e = .returned v ∧ Owns w0 w' ps

section
variable {w0 w : World} {ps : List Piece} {b : Nat} {m : Dm}
theorem Owns.dk {m' : Dm} {v : Value} {f : FuncId} {args : Array Value} (h : Owns w0 w (disk b m :: ps)) (hc : ∀ S, DiskAt w b m S → Calls Try.prog f args w (DkPost b m' v S w)) :
    Calls Try.prog f args w (Back w0 v (disk b m' :: ps)) := by
  obtain ⟨S, h1, _, hf⟩ := h.open
  refine (hc S h1).mono ?_
  rintro e w' ⟨S', rfl, hd', hu⟩
  exact ⟨rfl, hf _ _ S' hd' hu.1 hu.2⟩
theorem Owns.ok (h : Owns w0 w (disk b m :: ps)) : m.ok ∧ m.st.length ≤ 4000 := by
  obtain ⟨S, ⟨_, _, _, _, h⟩, _⟩ := h.first
  exact ⟨h.ok, h.few⟩
theorem Owns.new (n : Nat) (h : Owns w0 w ps) (h0 : 0 < n) (h1 : n ≤ 4000) : Calls Try.prog 13 #[.int .i64 (n : Int)] w fun e w' => ∃ b, e = .returned (.pointer (some ⟨b, 0, none⟩)) ∧ Owns w0 w' (disk b (Dk.fresh n) :: ps) := by
  refine (New_c n w h0 h1).mono ?_
  rintro e w' ⟨b, S, rfl, hd, hb1, hS⟩
  exact ⟨b, rfl, h.push (Q := disk b (Dk.fresh n)) hd hb1 hS⟩
theorem Owns.write (s : Int) (t : Bytes) (h : Owns w0 w (disk b m :: ps)) (hq : m.q.length ≤ 1000) : Calls Try.prog 23 #[.pointer (some ⟨b, 0, none⟩), .int .i64 s, .string (bs t)] w (Back w0 (.int .i64 (Dk.write m s t).2) (disk b (Dk.write m s t).1 :: ps)) :=
  Owns.dk h fun S hd => Write_c b s t m S w hd (by omega)
theorem Owns.sync (h : Owns w0 w (disk b m :: ps)) (hq : m.q.length ≤ 1000) : Calls Try.prog 21 #[.pointer (some ⟨b, 0, none⟩)] w (Back w0 (.int .i64 (Dk.sync m).2) (disk b (Dk.sync m).1 :: ps)) :=
  Owns.dk h fun S hd => Sync_c b m S w hd (by omega)
theorem Owns.fail (x y : Int) (h : Owns w0 w (disk b m :: ps)) (hq : m.q.length ≤ 1000) : Calls Try.prog 25 #[.pointer (some ⟨b, 0, none⟩), .int .i64 x, .int .i64 y] w (Back w0 (.tuple #[]) (disk b (Dk.fail m x y) :: ps)) :=
  Owns.dk h fun S hd => Fail_c b x y m S w hd (by omega)
theorem Owns.st (h : Owns w0 w (disk b m :: ps)) : Calls Try.prog 20 #[.pointer (some ⟨b, 0, none⟩)] w (Back w0 (.tuple #[]) (disk b (Dk.start m) :: ps)) :=
  Owns.dk h fun S hd => Start_c b m S w hd
theorem Owns.arm (a x y : Int) (h : Owns w0 w (disk b m :: ps)) (ha : a ≤ 9223372036854775807) : Calls Try.prog 29 #[.pointer (some ⟨b, 0, none⟩), .int .i64 a, .int .i64 x, .int .i64 y] w (Back w0 (.tuple #[]) (disk b (Dk.arm m a x y) :: ps)) :=
  Owns.dk h fun S hd => Arm_c b a x y m S w hd ha
theorem Owns.rotten (s a k : Int) (h : Owns w0 w (disk b m :: ps)) : Calls Try.prog 30 #[.pointer (some ⟨b, 0, none⟩), .int .i64 s, .int .i64 a, .int .i64 k] w (Back w0 (.tuple #[]) (disk b (Dk.rot m s a k) :: ps)) :=
  Owns.dk h fun S hd => Rot_c b s a k m S w hd
theorem Owns.read (s : Int) (h : Owns w0 w (disk b m :: ps)) (hq : m.q.length ≤ 1000) : Calls Try.prog 18 #[.pointer (some ⟨b, 0, none⟩), .int .i64 s] w (Back w0 (.tuple #[.string (bs (Dk.read m s).1), .int .i64 (Dk.read m s).2]) (disk b m :: ps)) := by
  obtain ⟨S, hd, _⟩ := h.first
  exact (Read_c b s m S w hd (by omega)).mono fun e w' ⟨h1, h2⟩ => ⟨h1, h.below h2⟩
theorem Owns.raw (h : Owns w0 w (disk b m :: ps)) : Calls Try.prog 31 #[.pointer (some ⟨b, 0, none⟩)] w fun e w' => e = .returned (.string (bs (Dk.raw m))) ∧ w' = w := by
  obtain ⟨S, hd, _⟩ := h.first
  exact Raw_c b m S w hd
theorem Owns.act (a : AAct) (h : Owns w0 w (disk b m :: ps)) (hq : m.q.length ≤ 1000) (hl : a.text.length ≤ 100) (ha : a.after ≤ 9223372036854775807) :
    Calls Try.prog 16 #[.pointer (some ⟨b, 0, none⟩), .agg (AAct.cells a)] w (Back w0 (.tuple #[.string (bs (Dk.act m a).2.1), .int .i64 (Dk.act m a).2.2]) (disk b (Dk.act m a).1 :: ps)) :=
  Owns.dk h fun S hd => do_c b a m S w hd hq hl ha
theorem Owns.conts (n : Nat) (h : Owns w0 w (disk b m :: ps)) (hn : n = m.st.length) (hn0 : 0 < n) (ho : m.off = false) (hq : m.q.length ≤ 1000) :
    Calls Try.prog 22 #[.pointer (some ⟨b, 0, none⟩), .int .i64 (n : Int)] w fun e w' => ∃ g cap, e = .returned (.tuple #[.slice (some ⟨g, 0, none⟩) n cap, .bool true]) ∧ Owns w0 w' (strs g (Dk.conts m) :: disk b m :: ps) := by
  obtain ⟨S, hd, _⟩ := h.first
  refine (contents_c b n m S w hd hn hn0 ho (by omega)).mono ?_
  rintro e w' ⟨g, cap, cur, rfl, hb, hg, hc, hs⟩
  exact ⟨g, cap, rfl, h.push (Q := strs g (Dk.conts m)) (S := [g]) ⟨rfl, cur, hc, hs⟩ hb (by simpa using hg)⟩
/-- Two lists of texts that lie somewhere are compared. -/
def Lists (w : World) (g : Nat) (l : List Bytes) : Prop := ∃ cur, w.heap[g]? = some (.cells cur 9 (0, 0)) ∧ StrsAt cur l
theorem Owns.lists {g : Nat} {l : List Bytes} (h : Owns w0 w (strs g l :: ps)) : Lists w g l := by
  obtain ⟨S, ⟨_, h⟩, _⟩ := h.first
  exact h
theorem same_l (g1 g2 n1 n2 c1 c2 : Nat) (l1 l2 : List Bytes) (w : World) (h1 : Lists w g1 l1) (h2 : Lists w g2 l2) (hl1 : l1.length = n1) (hl2 : l2.length = n2) (hs1 : n1 ≤ 100000) (hs2 : n2 ≤ 100000) :
    Calls Try.prog 27 #[.slice (some ⟨g1, 0, none⟩) n1 c1, .slice (some ⟨g2, 0, none⟩) n2 c2] w fun e w' => e = .returned (.bool (decide (l1 = l2))) ∧ Below w.heap.size w w' := by
  obtain ⟨cur1, h1, s1⟩ := h1
  obtain ⟨cur2, h2, s2⟩ := h2
  exact same_c g1 g2 n1 n2 c1 c2 cur1 cur2 l1 l2 w h1 h2 s1 s2 hl1 hl2 hs1 hs2
end
/-- The number of sectors of a law's disk. -/
theorem size_n {r : Int} (hr : (Lit.int .u8 r).wf = true) : ∃ n : Nat, 0 < n ∧ n ≤ 12 ∧ Hid (∀ w, Calls Try.prog 14 #[.int .u8 r] w fun e w' => e = .returned (.int .i64 (n : Int)) ∧ w' = w) := by
  simp only [Lit.wf, Bool.and_eq_true, decide_eq_true_eq] at hr
  have h1 : 0 ≤ r := hr.1
  have h2 : r ≤ 255 := hr.2
  obtain ⟨k, rfl⟩ : ∃ k : Nat, r = k := ⟨r.toNat, by omega⟩
  exact ⟨1 + k % 12, by omega, by omega, fun w => size_c k (by omega) w⟩
/-- A box with an operation. -/
def box (g : Nat) (a : AAct) : Piece := blk g (.cells (AAct.cells a) 34 (0, 0))
theorem Owns.cells {w0 w : World} {ps : List Piece} {g : Nat} {a : AAct} (h : Owns w0 w (box g a :: ps)) : g < w.heap.size ∧ w.cell? ⟨g, 0, none⟩ = some (.int .i64 a.kind) ∧ w.cell? ⟨g, 1, none⟩ = some (.int .i64 a.sector) ∧ w.cell? ⟨g, 2, none⟩ = some (.int .i64 a.bytes) ∧
    w.cell? ⟨g, 3, none⟩ = some (.string (bs a.text)) ∧ w.cell? ⟨g, 4, none⟩ = some (.bool a.odd) ∧ w.cell? ⟨g, 5, none⟩ = some (.int .i64 a.after) := by
  have hg := (Owns.blk h).1
  refine ⟨lt_of_block hg, ?_, ?_, ?_, ?_, ?_, ?_⟩ <;> · rw [cell_of_heap hg]; simp [AAct.cells]
theorem IsActs.one {w : World} {g : Nat} {a : AAct} (h : w.heap[g]? = some (.cells (AAct.cells a) 34 (0, 0))) : IsActs w (some ⟨g, 0, none⟩) 1 [a] := by
  refine ⟨rfl, by omega, .inr ⟨g, 0, rfl, lt_of_block h, ?_⟩⟩
  intro j x hj
  cases j with
  | zero => simp at hj; subst hj; refine ⟨?_, ?_, ?_, ?_, ?_, ?_⟩ <;> · rw [cell_of_heap h]; simp [AAct.cells]
  | succ j => simp at hj
/-- An operation of a list that came in. -/
theorem IsActs.at {w : World} {x : Option Addr} {n : Nat} {l : List AAct} (h : IsActs w x n l) {j : Nat} (hj : j < n) : ∃ g off a, x = some ⟨g, off, none⟩ ∧ l[j]? = some a ∧ g < w.heap.size ∧
    w.cell? ⟨g, off + j * 6, none⟩ = some (.int .i64 a.kind) ∧ w.cell? ⟨g, off + j * 6 + 1, none⟩ = some (.int .i64 a.sector) ∧ w.cell? ⟨g, off + j * 6 + 2, none⟩ = some (.int .i64 a.bytes) ∧
    w.cell? ⟨g, off + j * 6 + 3, none⟩ = some (.string (bs a.text)) ∧ w.cell? ⟨g, off + j * 6 + 4, none⟩ = some (.bool a.odd) ∧ w.cell? ⟨g, off + j * 6 + 5, none⟩ = some (.int .i64 a.after) := by
  obtain ⟨h1, h2, h3⟩ := h
  rcases h3 with h3 | ⟨g, off, rfl, h4, h5⟩
  · omega
  · exact ⟨g, off, l[j], rfl, List.getElem?_eq_getElem (by omega), h4, h5 j _ (List.getElem?_eq_getElem (by omega))⟩
theorem IsActs.cells {w : World} {g off n : Nat} {l : List AAct} (h : IsActs w (some ⟨g, off, none⟩) n l) {j : Nat} {a : AAct} (ha : l[j]? = some a) : g < w.heap.size ∧
    w.cell? ⟨g, off + j * 6, none⟩ = some (.int .i64 a.kind) ∧ w.cell? ⟨g, off + j * 6 + 1, none⟩ = some (.int .i64 a.sector) ∧ w.cell? ⟨g, off + j * 6 + 2, none⟩ = some (.int .i64 a.bytes) ∧
    w.cell? ⟨g, off + j * 6 + 3, none⟩ = some (.string (bs a.text)) ∧ w.cell? ⟨g, off + j * 6 + 4, none⟩ = some (.bool a.odd) ∧ w.cell? ⟨g, off + j * 6 + 5, none⟩ = some (.int .i64 a.after) := by
  obtain ⟨h1, h2, h3⟩ := h
  have hj := (List.getElem?_eq_some_iff.1 ha).1
  rcases h3 with h3 | ⟨g', off', e, h4, h5⟩
  · omega
  · cases e
    exact ⟨h4, h5 j _ ha⟩
/-- What a law knows of a list of operations that came in and can be performed. -/
structure LawIn (w : World) (x : Option Addr) (n c : Nat) (l : List AAct) : Prop where
  acts : ∀ wr, Below w.heap.size w wr → IsActs wr x n l
  ok : ∀ wr, Below w.heap.size w wr → Calls Try.prog 12 #[.slice x n c] wr fun e w' => e = .returned (.bool true) ∧ w' = wr
  few : n ≤ 60
  len : l.length = n
  fine : ∀ (j : Nat) (a : AAct), l[j]? = some a → a.text.length ≤ 100 ∧ a.after ≤ 9223372036854775807
  q : ∀ N j, (runs (Dk.fresh N) (l.take j)).q.length ≤ 1000
  all : ∀ N, runs (Dk.fresh N) (l.take n) = runs (Dk.fresh N) l
  step : ∀ N (j : Nat) (a : AAct), l[j]? = some a → runs (Dk.fresh N) (l.take (j + 1)) = (Dk.act (runs (Dk.fresh N) (l.take j)) a).1
  ran : ∀ N, (runs (Dk.fresh N) l).ok ∧ (runs (Dk.fresh N) l).st.length = N ∧ (runs (Dk.fresh N) l).q.length ≤ 60
theorem lawIn (w : World) (x : Option Addr) (n c : Nat) (l : List AAct) (hx : IsActs w x n l) (hl : ∀ y ∈ l, AAct.fine y) (hok : okB l = true) : LawIn w x n c l := by
  obtain ⟨hl60, hl100⟩ := okB_true hok
  have hn := hx.1
  refine ⟨fun wr hb => hx.below hb, fun wr hb => hok ▸ ok_c x n c l wr (hx.below hb), by omega, hn, fun j a ha => ⟨hl100 a (List.mem_of_getElem? ha), hl a (List.mem_of_getElem? ha)⟩, ?_, ?_, fun N j a ha => runs_take_succ _ _ ha, fun N => after_runs hl60 hl⟩
  · intro N j
    have := q_runs (l.take j) (Dk.fresh N)
    simp [Dk.fresh] at this ⊢
    omega
  · intro N
    rw [List.take_of_length_le (by omega)]
theorem lawNot (w : World) (x : Option Addr) (n c : Nat) (l : List AAct) (hx : IsActs w x n l) (hok : okB l = false) : Hid (∀ wr, Below w.heap.size w wr → Calls Try.prog 12 #[.slice x n c] wr fun e w' => e = .returned (.bool false) ∧ w' = wr) :=
  fun wr hb => hok ▸ ok_c x n c l wr (hx.below hb)
/-- The box of an operation that came in. -/
theorem box_new (w : World) (y : AAct) : Hid (Owns w (w.alloc (.cells (AAct.cells y) 34)) [box w.heap.size y]) := (Owns.start w).box _
theorem ok_box (y : AAct) (b : Bool) (hb : okB [y] = b) : Hid (∀ g wr, wr.heap[g]? = some (.cells (AAct.cells y) 34 (0, 0)) → Calls Try.prog 12 #[.slice (some ⟨g, 0, none⟩) 1 1] wr fun e w' => e = .returned (.bool b) ∧ w' = wr) :=
  fun g wr hg => hb ▸ ok_c _ _ _ [y] wr (IsActs.one hg)
/-- A text of a list of texts. -/
theorem Owns.text {w0 w : World} {ps : List Piece} {g i : Nat} {l : List Bytes} {t : Bytes} (h : Owns w0 w (strs g l :: ps)) (hi : l[i]? = some t) : g < w.heap.size ∧ w.cell? ⟨g, i, none⟩ = some (.string (bs t)) ∧ w.frozen? ⟨g, i, none⟩ = false := by
  obtain ⟨S, ⟨_, cur, hc, hs⟩, _⟩ := h.first
  exact ⟨lt_of_block hc, by rw [cell_of_heap hc, hs i t hi], free_of_heap hc⟩
theorem Owns.setText {w0 w : World} {ps : List Piece} {g i : Nat} {l : List Bytes} {t : Bytes} (h : Owns w0 w (strs g l :: ps)) : Owns w0 (w.setCell ⟨g, i, none⟩ (.string (bs t))) (strs g (l.set i t) :: ps) := by
  obtain ⟨S, ⟨rfl, cur, hc, hs⟩, _, hf⟩ := h.open
  refine hf _ (strs g (l.set i t)) [g] ⟨rfl, _, setCell_heap hc _, ?_⟩ ((Mod.refl _ _).setCell (.inl (by simp)) _) fun k hk => .inl hk
  intro j s hj
  rw [List.getElem?_set] at hj
  by_cases h : i = j
  · subst h
    by_cases hi : i < l.length
    · simp [hi] at hj; subst hj
      have := hs i l[i] (List.getElem?_eq_getElem hi)
      have := (Array.getElem?_eq_some_iff.1 this).1
      simp [Array.getElem?_setIfInBounds, this]
    · simp [hi] at hj
  · simp [h] at hj
    have := hs j s hj
    simpa [Array.getElem?_setIfInBounds, h] using this
end Go.Proofs.Ytdfjcidiolbbhaa

/-
  What the helpers of the disk's laws do: 'size', 'ok', 'text', 'fill', 'do', 'contents', 'same'.
-/
import Derived.Test.YtdfjcidiolbbhaaDkMore
import Derived.Test.YtdfjcidiolbbhaaLwModel
namespace Go.Proofs.Ytdfjcidiolbbhaa
open Go.RowKit Go.Cz Go.Cz.Dk
set_option linter.unusedSimpArgs false
set_option linter.unusedVariables false
attribute [local go_sem] bs_size bs_extract bs_append bs_toList

/-- A disk that the law made, in a world that is as w0 below w0's size; other blocks of the law's own, with what is in them. -/
def Own (w0 w : World) (b : Nat) (m : Dm) (K : List (Nat × Obj)) : Prop :=
  ∃ S, DiskAt w b m S ∧ Below w0.heap.size w0 w ∧ (∀ k ∈ S, w0.heap.size ≤ k) ∧ ∀ p ∈ K, w.heap[p.1]? = some p.2 ∧ p.1 ∉ S
theorem toBelow {S : List Nat} {w0 w w' : World} (h : Mod S w w') (hb : Below w0.heap.size w0 w) (hS : ∀ k ∈ S, w0.heap.size ≤ k) : Below w0.heap.size w0 w' :=
  ⟨h.os.trans hb.os, h.tape.trans hb.tape, h.output.trans hb.output, Nat.le_trans hb.size h.size, fun k hk => (h.block k (Nat.lt_of_lt_of_le hk hb.size) (fun hx => by have := hS k hx; omega)).trans (hb.block k hk)⟩
theorem Own.call {w0 w : World} {b : Nat} {m m' : Dm} {K : List (Nat × Obj)} {f : FuncId} {args : Array Value} {v : Value} (h : Own w0 w b m K)
    (hc : ∀ S, DiskAt w b m S → Calls Try.prog f args w (DkPost b m' v S w)) : Calls Try.prog f args w fun e w' => e = .returned v ∧ Own w0 w' b m' K := by
  obtain ⟨S, hd, hb, hS, hK⟩ := h
  refine (hc S hd).mono ?_
  rintro e w' ⟨S', rfl, hd', hu⟩
  refine ⟨rfl, S', hd', toBelow hu.1 hb hS, ?_, ?_⟩
  · intro k hk
    rcases hu.2 k hk with h1 | h1
    · exact hS k h1
    · exact Nat.le_trans hb.size h1
  · intro p hp
    obtain ⟨h1, h2⟩ := hK p hp
    refine ⟨hu.1.heap h1 h2, fun hx => ?_⟩
    rcases hu.2 _ hx with h3 | h3
    · exact h2 h3
    · have := lt_of_block h1; omega
theorem Own.below {w0 w w' : World} {b : Nat} {m : Dm} {K : List (Nat × Obj)} (h : Own w0 w b m K) (hb : Below w.heap.size w w') : Own w0 w' b m K := by
  obtain ⟨S, hd, hb0, hS, hK⟩ := h
  exact ⟨S, hd.below hb, hb0.trans (hb.mono hb0.size), hS, fun p hp => ⟨(hb.block _ (lt_of_block (hK p hp).1)).trans (hK p hp).1, (hK p hp).2⟩⟩
/-- A new block of the law's own. -/
theorem Own.keep {w0 w : World} {b : Nat} {m : Dm} {K : List (Nat × Obj)} (h : Own w0 w b m K) {g : Nat} {o : Obj} (hg : w.heap[g]? = some o) (hn : ∀ S, DiskAt w b m S → g ∉ S) : Own w0 w b m ((g, o) :: K) := by
  obtain ⟨S, hd, hb0, hS, hK⟩ := h
  refine ⟨S, hd, hb0, hS, ?_⟩
  intro p hp
  rcases List.mem_cons.1 hp with rfl | hp
  · exact ⟨hg, hn S hd⟩
  · exact hK p hp

set_option maxHeartbeats 1000000 in
theorem size_c (n : Nat) (hn : n < 256) (w : World) : Calls Try.prog 14 #[.int .u8 (n : Int)] w fun e w' => e = .returned (.int .i64 ((1 + n % 12 : Nat) : Int)) ∧ w' = w := by
  have ht : (n : Int).tmod 12 = ((n % 12 : Nat) : Int) := by rw [Int.tmod_eq_emod_of_nonneg (by omega)]; simp
  have hm : n % 12 < 12 := Nat.mod_lt _ (by omega)
  generalize n % 12 = r at *
  go_enter Try.func14, Try.ntmps14
  go_wp2
  go_ret
  refine ⟨?_, rfl⟩
  simp [go_sem]

def AAct.cells (a : AAct) : Array Value := #[.int .i64 a.kind, .int .i64 a.sector, .int .i64 a.bytes, .string (bs a.text), .bool a.odd, .int .i64 a.after]
def AAct.fine (a : AAct) : Prop := a.after ≤ 9223372036854775807
/-- A slice of operations that came in. -/
def IsActs (w : World) (x : Option Addr) (n : Nat) (l : List AAct) : Prop :=
  l.length = n ∧ n ≤ 9223372036854775807 ∧ (n = 0 ∨ ∃ g off, x = some ⟨g, off, none⟩ ∧ g < w.heap.size ∧ ∀ (j : Nat) (a : AAct), l[j]? = some a →
    w.cell? ⟨g, off + j * 6, none⟩ = some (.int .i64 a.kind) ∧ w.cell? ⟨g, off + j * 6 + 1, none⟩ = some (.int .i64 a.sector) ∧ w.cell? ⟨g, off + j * 6 + 2, none⟩ = some (.int .i64 a.bytes) ∧
    w.cell? ⟨g, off + j * 6 + 3, none⟩ = some (.string (bs a.text)) ∧ w.cell? ⟨g, off + j * 6 + 4, none⟩ = some (.bool a.odd) ∧ w.cell? ⟨g, off + j * 6 + 5, none⟩ = some (.int .i64 a.after))
theorem IsActs.below {w w' : World} {x : Option Addr} {n : Nat} {l : List AAct} (h : IsActs w x n l) (hb : Below w.heap.size w w') : IsActs w' x n l := by
  obtain ⟨h1, h2, h3⟩ := h
  refine ⟨h1, h2, ?_⟩
  rcases h3 with h3 | ⟨g, off, h4, h5, h6⟩
  · exact .inl h3
  · refine .inr ⟨g, off, h4, Nat.lt_of_lt_of_le h5 hb.size, fun j a ha => ?_⟩
    simpa only [hb.cell (p := ⟨g, _, none⟩) h5] using h6 j a ha

set_option maxHeartbeats 1000000 in
theorem text_c (a : AAct) (hl : a.text.length ≤ 100) (w : World) : Calls Try.prog 24 #[.agg (AAct.cells a)] w fun e w' => e = .returned (.string (bs a.txt)) ∧ Below w.heap.size w w' := by
  obtain ⟨kind, sector, bytes, text, odd, after⟩ := a
  dsimp only [AAct.cells] at *
  cases odd
  · by_cases ht : text = []
    · subst ht
      go_enter Try.func24, Try.ntmps24
      go_wp2
      go_ret
      refine ⟨by simp [AAct.txt, go_sem], ?_⟩
      repeat (first | exact Below.refl _ _ | (refine Below.drew ?_) | (refine Below.alloc ?_ (by (try simp only [World.size_alloc, World.size_setCell, World.size_drew] at *); omega) _) | (refine Below.setCell ?_ (by (try simp only [World.size_alloc, World.size_setCell, World.size_drew] at *); omega) _))
    · have hpos : 0 < text.length := List.length_pos_iff.2 ht
      have hemp : text.isEmpty = false := by simpa using ht
      go_enter Try.func24, Try.ntmps24
      go_wp2
      obtain ⟨w2, hw2⟩ : ∃ w2 : World, w2 = w.alloc (.cells #[.int .i64 kind, .int .i64 sector, .int .i64 bytes, .string (bs text), .bool false, .int .i64 after] 34) := ⟨_, rfl⟩
      have hb2 : Below w.heap.size w w2 := by rw [hw2]; repeat (first | exact Below.refl _ _ | (refine Below.drew ?_) | (refine Below.alloc ?_ (by (try simp only [World.size_alloc, World.size_setCell, World.size_drew] at *); omega) _) | (refine Below.setCell ?_ (by (try simp only [World.size_alloc, World.size_setCell, World.size_drew] at *); omega) _))
      have d3 : w2.cell? ⟨w.heap.size, 3, none⟩ = some (.string (bs text)) := by rw [hw2]; simp
      have hw2s : w.heap.size < w2.heap.size := by rw [hw2]; simp
      simp only [← hw2]
      have Hb2 := Lib.hid hb2
      have hend : AAct.txt { kind := kind, sector := sector, bytes := bytes, text := text, odd := false, after := after } = (rep text 64).take 64 := by simp [AAct.txt, ht]
      have Hend := Lib.hid hend
      clear hw2 hb2 ht hemp hend
      go_loopw [3] (fun s wr => wr = w2 ∧ ∃ k : Nat, k ≤ 64 ∧ s = .string (bs (rep text k))) (fun s _ => 100 - (match s with | .string b => b.size | _ => 0))
      case atStart => exact ⟨rfl, 0, by omega, rfl⟩
      case round =>
        obtain ⟨rfl, k, hk, rfl⟩ := hrel
        have hlen := length_rep text k
        by_cases h64 : (rep text k).length < 64
        · have hk64 : k < 64 := by
            rcases Nat.lt_or_ge k 64 with h | h
            · exact h
            · have := Nat.mul_le_mul h hpos; omega
          have hcat := rep_succ text k
          have hl2 : (rep text k ++ text).length = (rep text k).length + text.length := List.length_append
          go_wp2
          go_roundw
          case rel => exact ⟨trivial, k + 1, by omega, by rw [hcat]⟩
          case measure => simp [bs_size]; omega
        · have hk1 : (rep text k).take 64 = (rep text 64).take 64 := rep_take (by omega) hk
          go_wp2
          go_ret
          refine ⟨?_, Hb2.out⟩
          rw [Hend.out]
          simp [go_sem]
  · go_enter Try.func24, Try.ntmps24
    go_wp2
    go_ret
    refine ⟨by simp [AAct.txt, go_sem], ?_⟩
    repeat (first | exact Below.refl _ _ | (refine Below.drew ?_) | (refine Below.alloc ?_ (by (try simp only [World.size_alloc, World.size_setCell, World.size_drew] at *); omega) _) | (refine Below.setCell ?_ (by (try simp only [World.size_alloc, World.size_setCell, World.size_drew] at *); omega) _))

/-- 64 equal letters. -/
def fillT (t : Bytes) : Bytes := AAct.txt { kind := 0, sector := 0, bytes := 0, text := t, odd := false, after := 0 }
set_option maxHeartbeats 1000000 in
theorem fill_c (t : Bytes) (hl : t.length ≤ 100) (w : World) : Calls Try.prog 28 #[.string (bs t)] w fun e w' => e = .returned (.string (bs (fillT t))) ∧ Below w.heap.size w w' := by
  have Ht := Lib.hid fun w => text_c { kind := 0, sector := 0, bytes := 0, text := t, odd := false, after := 0 } hl w
  go_enter Try.func28, Try.ntmps28
  go_wp2_with (go_at_call 24; refine (Ht.out _).mono ?_; rintro e w1 ⟨rfl, hb1⟩)
  go_ret
  exact ⟨rfl, hb1⟩

/-- Operations that can be performed here. -/
def okB (l : List AAct) : Bool := decide (l.length ≤ 60 ∧ ∀ a ∈ l, a.text.length ≤ 100)
theorem okB_true {l : List AAct} (h : okB l = true) : l.length ≤ 60 ∧ ∀ a ∈ l, a.text.length ≤ 100 := by simpa [okB] using h
set_option maxHeartbeats 1000000 in
theorem ok_c (x : Option Addr) (n c : Nat) (l : List AAct) (w : World) (hx : IsActs w x n l) :
    Calls Try.prog 12 #[.slice x n c] w fun e w' => e = .returned (.bool (okB l)) ∧ w' = w := by
  obtain ⟨h1, h2, h3⟩ := hx
  have Hend : Hid (∀ b : Bool, (b = true ↔ l.length ≤ 60 ∧ ∀ a ∈ l, a.text.length ≤ 100) → Ending.returned (.bool b) = .returned (.bool (okB l))) := fun b hb => by congr 2; rw [Bool.eq_iff_iff, hb]; simp [okB]
  have H3 := Lib.hid h3; clear h3
  go_enter Try.func12, Try.ntmps12
  go_wp2
  go_loopw [3] (fun i wr => wr = w ∧ ∃ j : Nat, j ≤ n ∧ i = .int .i64 j ∧ Hid (∀ (k : Nat) (a : AAct), k < j → l[k]? = some a → a.text.length ≤ 100)) (fun i _ => n - (intOf i).toNat)
  case atStart => exact ⟨rfl, 0, by omega, rfl, fun k a hk => by omega⟩
  case round =>
    obtain ⟨rfl, j, hj, rfl, hr⟩ := hrel
    by_cases hlt : j < n
    · obtain ⟨a, ha⟩ : ∃ a, l[j]? = some a := ⟨l[j], List.getElem?_eq_getElem (by omega)⟩
      rcases H3.out with h0 | ⟨g, off, rfl, hgl, hcell⟩
      · omega
      · obtain ⟨-, -, -, c3, -, -⟩ := hcell j a ha
        clear hcell
        have Ha := Lib.hid ha; clear ha
        by_cases ht : 100 < a.text.length
        · go_wp2
          go_ret
          refine ⟨Hend.out false ⟨fun h => (by cases h), fun h => ?_⟩, rfl⟩
          have := h.2 a (List.mem_of_getElem? Ha.out)
          omega
        · go_wp2
          go_roundw
          case rel =>
            refine ⟨trivial, j + 1, by omega, by go_num, fun k y hk hy => ?_⟩
            by_cases hkj : k = j
            · subst hkj
              rw [Ha.out] at hy; cases hy
              omega
            · exact hr.out k y (by omega) hy
          case measure => simp [intOf]; omega
    · obtain rfl : j = n := by omega
      go_wp2
      go_ret
      have e60 : Ending.returned (.bool (decide ((j : Int) ≤ 60))) = .returned (.bool (okB l)) := by
        refine Hend.out _ ?_
        simp only [decide_eq_true_eq]
        refine ⟨fun h => ⟨by omega, fun a ha => ?_⟩, fun h => by omega⟩
        obtain ⟨k, hk⟩ := List.getElem?_of_mem ha
        exact hr.out k a (by have := (List.getElem?_eq_some_iff.1 hk).1; omega) hk
      exact ⟨by simpa [go_sem] using e60, rfl⟩

set_option maxHeartbeats 2000000 in
theorem do_c (b : Nat) (a : AAct) (m : Dm) (S : List Nat) (w : World) (h : DiskAt w b m S) (hq : m.q.length ≤ 1000) (hl : a.text.length ≤ 100) (ha : a.after ≤ 9223372036854775807) :
    Calls Try.prog 16 #[.pointer (some ⟨b, 0, none⟩), .agg (AAct.cells a)] w (DkPost b (act m a).1 (.tuple #[.string (bs (act m a).2.1), .int .i64 (act m a).2.2]) S w) := by
  have Htxt := Lib.hid (text_c a hl)
  obtain ⟨kind, sector, bytes, text, odd, after⟩ := a
  dsimp only [AAct.cells] at *
  generalize hT : AAct.txt _ = T at Htxt
  have hact : act m { kind := kind, sector := sector, bytes := bytes, text := text, odd := odd, after := after } = act m { kind := kind, sector := sector, bytes := bytes, text := text, odd := odd, after := after } := rfl
  conv at hact => rhs; unfold act; rw [hT]
  dsimp only at hact
  have Hact := Lib.hid hact; clear hact hT
  have hw2 : ∀ o : Obj, Below w.heap.size w (w.alloc o) := fun o => by repeat (first | exact Below.refl _ _ | (refine Below.drew ?_) | (refine Below.alloc ?_ (by (try simp only [World.size_alloc, World.size_setCell, World.size_drew] at *); omega) _) | (refine Below.setCell ?_ (by (try simp only [World.size_alloc, World.size_setCell, World.size_drew] at *); omega) _))
  have Hw3 := Lib.hid fun (o : Obj) (w1 : World) (hb : Below (w.alloc o).drew.heap.size (w.alloc o).drew w1) => (hw2 o).trans ((Below.drew (Below.refl _ _)).trans (hb.mono (hw2 o).size))
  have Hw2 := Lib.hid hw2; clear hw2
  have H := Lib.hid h; clear h
  have hq1 : m.q.length ≤ 1000000 := by omega
  have hq2 : m.q.length ≤ 100000 := by omega
  by_cases k0 : kind = 0
  · subst k0
    go_enter Try.func16, Try.ntmps16
    go_wp2
    refine wp_region_can [4] (List.range 8) (by kernel_rfl) (by kernel_rfl) ?_
    go_wp2_with (first | refine cl_nil ?_ | (go_at_call 24; refine (Htxt.out _).mono ?_; rintro e w1 ⟨rfl, hb1⟩; obtain ⟨hc1, hf1, hz1⟩ := bcall hb1) | (go_at_call 23; go_loud (refine (Write_c b sector T m S _ (H.out.below (Hw3.out _ _ hb1)) hq2).mono ?_); rintro e w3 ⟨S', rfl, hd, hu⟩; have Hd := Lib.hid hd; have Hu := Lib.hid hu; clear hd hu) | (refine And.intro (show Below _ _ _ from ?_) ?_; exact hb1) | (refine cl_call (i := 4) rfl rfl rfl (fun K hK => ?_)) | (refine cl_do rfl rfl rfl rfl (fun _ _ => ?_)))
    refine bodyPost_ret (results_tmp2 rfl _ _ _) (by rfl) ⟨S', ?_, ?_, (Upd.ofBelow (Hw3.out _ _ hb1)).trans Hu.out⟩
    · rw [Hact.out]; simp [go_sem, bs]
    · rw [Hact.out]; exact Hd.out
  by_cases k2 : kind = 2
  · subst k2
    go_enter Try.func16, Try.ntmps16
    go_wp2_with (go_at_call 21; refine (Sync_c b m S _ (H.out.below (Hw2.out _)) hq2).mono ?_; rintro e w1 ⟨S', rfl, hd, hu⟩; have Hd := Lib.hid hd; have Hu := Lib.hid hu; clear hd hu)
    refine bodyPost_ret (results_tmp2 rfl _ _ _) (by rfl) ⟨S', ?_, ?_, (Upd.ofBelow (Hw2.out _)).trans Hu.out⟩
    · rw [Hact.out]; simp [go_sem, bs]
    · rw [Hact.out]; exact Hd.out
  by_cases k3 : kind = 3
  · subst k3
    go_enter Try.func16, Try.ntmps16
    go_wp2_with (go_at_call 25; refine (Fail_c b sector bytes m S _ (H.out.below (Hw2.out _)) hq1).mono ?_; rintro e w1 ⟨S', rfl, hd, hu⟩; have Hd := Lib.hid hd; have Hu := Lib.hid hu; clear hd hu)
    refine bodyPost_ret (results_tmp2 rfl _ _ _) (by rfl) ⟨S', ?_, ?_, (Upd.ofBelow (Hw2.out _)).trans Hu.out⟩
    · rw [Hact.out]; simp [go_sem, bs]
    · rw [Hact.out]; exact Hd.out
  by_cases k4 : kind = 4
  · subst k4
    go_enter Try.func16, Try.ntmps16
    go_wp2_with (go_at_call 20; refine (Start_c b m S _ (H.out.below (Hw2.out _))).mono ?_; rintro e w1 ⟨S', rfl, hd, hu⟩; have Hd := Lib.hid hd; have Hu := Lib.hid hu; clear hd hu)
    refine bodyPost_ret (results_tmp2 rfl _ _ _) (by rfl) ⟨S', ?_, ?_, (Upd.ofBelow (Hw2.out _)).trans Hu.out⟩
    · rw [Hact.out]; simp [go_sem, bs]
    · rw [Hact.out]; exact Hd.out
  by_cases k5 : kind = 5
  · subst k5
    go_enter Try.func16, Try.ntmps16
    go_wp2_with (go_at_call 29; refine (Arm_c b after sector bytes m S _ (H.out.below (Hw2.out _)) ha).mono ?_; rintro e w1 ⟨S', rfl, hd, hu⟩; have Hd := Lib.hid hd; have Hu := Lib.hid hu; clear hd hu)
    refine bodyPost_ret (results_tmp2 rfl _ _ _) (by rfl) ⟨S', ?_, ?_, (Upd.ofBelow (Hw2.out _)).trans Hu.out⟩
    · rw [Hact.out]; simp [go_sem, bs]
    · rw [Hact.out]; exact Hd.out
  by_cases k6 : kind = 6
  · subst k6
    go_enter Try.func16, Try.ntmps16
    go_wp2_with (go_at_call 30; refine (Rot_c b sector bytes after m S _ (H.out.below (Hw2.out _))).mono ?_; rintro e w1 ⟨S', rfl, hd, hu⟩; have Hd := Lib.hid hd; have Hu := Lib.hid hu; clear hd hu)
    refine bodyPost_ret (results_tmp2 rfl _ _ _) (by rfl) ⟨S', ?_, ?_, (Upd.ofBelow (Hw2.out _)).trans Hu.out⟩
    · rw [Hact.out]; simp [go_sem, bs]
    · rw [Hact.out]; exact Hd.out
  by_cases k1 : kind = 1
  · subst k1
    go_enter Try.func16, Try.ntmps16
    go_wp2_with (go_at_call 18; refine (Read_c b sector m S _ (H.out.below (Hw2.out _)) hq1).mono ?_; rintro e w1 ⟨rfl, hb1⟩; have Hb1 := Lib.hid hb1; clear hb1)
    have hbb := Upd.ofBelow (S := S) ((Hw2.out _).trans (Hb1.out.mono (Hw2.out _).size))
    refine bodyPost_ret (results_tmp2 rfl _ _ _) (by rfl) ⟨S, ?_, ?_, hbb⟩
    · rw [Hact.out]; simp [go_sem]
    · rw [Hact.out]; exact (H.out.below (Hw2.out _)).below Hb1.out
  by_cases k7 : kind = 7
  · subst k7
    go_enter Try.func16, Try.ntmps16
    go_wp2_with (go_at_call 31; refine (Raw_c b m S _ (H.out.below (Hw2.out _))).mono ?_; rintro e w1 ⟨rfl, rfl⟩)
    refine bodyPost_ret (results_tmp2 rfl _ _ _) (by rfl) ⟨S, ?_, ?_, Upd.ofBelow (Hw2.out _)⟩
    · rw [Hact.out]; simp [go_sem]
    · rw [Hact.out]; exact H.out.below (Hw2.out _)
  go_enter Try.func16, Try.ntmps16
  go_wp2
  refine bodyPost_ret (results_tmp2 rfl _ _ _) (by rfl) ⟨S, ?_, ?_, Upd.ofBelow (Hw2.out _)⟩
  · rw [Hact.out]; simp [go_sem, bs, k0, k1, k2, k3, k4, k5, k6, k7]
  · rw [Hact.out]; simp only [k0, k1, k2, k3, k4, k5, k6, k7, if_false]; exact H.out.below (Hw2.out _)
end Go.Proofs.Ytdfjcidiolbbhaa

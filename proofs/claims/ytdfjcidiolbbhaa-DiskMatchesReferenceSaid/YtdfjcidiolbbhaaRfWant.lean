/-
  The reference disk: 'New', and the law's 'want'.
-/
import Derived.Test.YtdfjcidiolbbhaaRfEnd
namespace Go.Proofs.Ytdfjcidiolbbhaa
open Go.RowKit Go.Cz Go.Cz.Dk
set_option linter.unusedSimpArgs false
set_option linter.unusedVariables false
attribute [local go_sem] bs_size bs_extract bs_append bs_toList
attribute [local irreducible] cList

theorem info_rstr : (Try.prog.info? 9).map (fun i => (i.zero, i.size, i.bytes)) = some (some (.string ⟨#[]⟩), 1, 16) := by kernel_rfl
set_option maxHeartbeats 1000000 in
theorem rNew_bad (n : Int) (w : World) (hn : n < 1 ∨ 4000 < n) :
    Calls Try.prog 15 #[.int .i64 n] w fun e w' => e = .returned (.pointer none) ∧ w' = w := by
  rcases hn with hn | hn
  · go_enter Try.func15, Try.ntmps15
    go_wp2
    go_ret
    exact ⟨rfl, rfl⟩
  · have h1 : ¬ n < 1 := by omega
    go_enter Try.func15, Try.ntmps15
    go_wp2
    go_ret
    exact ⟨rfl, rfl⟩
/-- A reference disk that is being made: j sectors are there. -/
structure RfMade (w wr : World) (Z : Bytes) (j : Nat) (v : Value) : Prop where
  main : wr.heap[w.heap.size]? = some (.cells #[v, .slice none 0 0, .bool true, .bool false, .int .i64 0, .int .i64 0, .int .i64 0] 63 (0, 0))
  row : wr.ownsRow 0 9 1 v j (tcells (List.replicate j Z))
  new : ∀ k, v.ownBlock = some k → w.heap.size < k
  below : Below w.heap.size w wr
theorem RfMade.step {w wr w1 w2 : World} {Z : Bytes} {j : Nat} {v v' : Value} (h : RfMade w wr Z j v) (hb : Below wr.heap.size wr w1) (hrow : w2.ownsRow 0 9 1 v' (j + 1) (tcells (List.replicate j Z) ++ [.string (bs Z)]))
    (hgrow : w1.grownBy w2 v.ownBlock) (hblk : v'.ownBlock = v.ownBlock ∨ v'.ownBlock = some w1.heap.size) :
    RfMade w (w2.setCell ⟨w.heap.size, 0, none⟩ v') Z (j + 1) v' ∧ w.heap.size < w2.heap.size ∧ w2.frozen? ⟨w.heap.size, 0, none⟩ = false ∧ w2.cell? ⟨w.heap.size, 0, none⟩ = some v := by
  have hlt := lt_of_block h.main
  have hne : some w.heap.size ≠ v.ownBlock := fun e => by have := h.new _ e.symm; omega
  have hmain := ((hgrow.block _ (Nat.lt_of_lt_of_le hlt hb.size) hne).trans (hb.block _ hlt)).trans h.main
  have hnew : ∀ k, v'.ownBlock = some k → w.heap.size < k := fun k hk => by
    rcases hblk with e | e
    · exact h.new k (by rw [← e]; exact hk)
    · rw [e] at hk; cases hk; exact Nat.lt_of_lt_of_le hlt hb.size
  refine ⟨⟨?_, ?_, hnew, ?_⟩, lt_of_block hmain, free_of_heap hmain, by rw [cell_of_heap hmain]; simp⟩
  · rw [setCell_heap hmain]; simp
  · have := ownsRow_setCell_other (a := ⟨w.heap.size, 0, none⟩) hrow (fun e => by have := hnew _ e; simp at this) v'
    simpa [tcells, List.replicate_succ'] using this
  · have h1 : Below w.heap.size w w2 := (h.below.trans (hb.mono h.below.size)).grown hgrow (Nat.le_trans h.below.size hb.size) fun k hk => Nat.le_of_lt (h.new k hk)
    exact h1.setCell (Nat.le_refl _) _
/-- What 'New' leaves: a new disk in new blocks. -/
def RfNew (n : Nat) (w : World) (e : Ending) (w' : World) : Prop := ∃ b S, e = .returned (.pointer (some ⟨b, 0, none⟩)) ∧ RefAt w' b (Dk.fresh n) S ∧ Below w.heap.size w w' ∧ ∀ k ∈ S, w.heap.size ≤ k
theorem RfMade.done {w wr : World} {n : Nat} {v : Value} (h : RfMade w wr (List.replicate 64 0) n v) (h0 : 0 < n) (h1 : n ≤ 4000) : RfNew n w (.returned (.pointer (some ⟨w.heap.size, 0, none⟩))) wr := by
  obtain ⟨hm, hr, hn, hb⟩ := h
  obtain ⟨g, cap, rfl⟩ : ∃ g cap, v = .slice (some ⟨g, 0, none⟩) n cap := by
    rcases hr.2 with ⟨_, h0⟩ | ⟨g, cp, cur, hv, _⟩
    · omega
    · exact ⟨g, cp, hv⟩
  have hg := hn g rfl
  have hl : (Dk.fresh n).st.length = n := by simp [Dk.fresh]
  refine ⟨_, [w.heap.size, g], rfl, ⟨g, cap, .slice none 0 0, false, 0, 0, 0, by rw [hl]; exact hm, by rw [hl]; exact hr, World.ownsRow_nil _ _ _ _, .inl ⟨rfl, rfl⟩, rfl, by simp; omega, ok_fresh n, by rw [hl]; exact h1⟩, hb, ?_⟩
  intro k hk
  simp at hk
  omega
set_option maxHeartbeats 1000000 in
theorem rNew_c (n : Nat) (w : World) (h0 : 0 < n) (h1 : n ≤ 4000) : Calls Try.prog 15 #[.int .i64 (n : Int)] w (RfNew n w) := by
  obtain ⟨Z, hZ⟩ : ∃ Z : Bytes, Z = List.replicate 64 0 := ⟨_, rfl⟩
  have Hz : Hid (∀ w, Calls Try.prog 32 #[.int .i64 64] w fun e w' => e = .returned (.string (bs Z)) ∧ w' = w) := fun w => by rw [hZ]; exact rzero_c 64 w (by omega)
  have HZ := Lib.hid hZ
  clear hZ
  have k1 : ¬ n < 1 := by omega
  have k2 : ¬ 4000 < n := by omega
  go_enter Try.func15, Try.ntmps15
  go_wp2_with fail
  go_at_call 32
  refine (Hz.out _).mono ?_
  rintro e w1 ⟨rfl, rfl⟩
  go_wp2_with fail
  have H0 : Hid (∃ v, RfMade w (w.alloc (.cells #[.slice none 0 0, .slice none 0 0, .bool true, .bool false, .int .i64 0, .int .i64 0, .int .i64 0] 63)) Z 0 v) :=
    ⟨.slice none 0 0, new_heap _ _ _ rfl, World.ownsRow_nil _ _ _ _, fun k hk => (by cases hk), by repeat (first | exact Below.refl _ _ | (refine Below.drew ?_) | (refine Below.alloc ?_ (by (try simp only [World.size_alloc, World.size_setCell, World.size_drew] at *); omega) _) | (refine Below.setCell ?_ (by (try simp only [World.size_alloc, World.size_setCell, World.size_drew] at *); omega) _))⟩
  go_loopg [5] n (fun gk i wr => ∃ j : Nat, gk = n - j ∧ j ≤ n ∧ i = .int .i64 j ∧ Hid (∃ v, RfMade w wr Z j v))
  case atStart => exact ⟨0, rfl, Nat.zero_le _, rfl, H0⟩
  case round =>
    rename_i J1 K1 hJ1 hK1
    clear H0
    obtain ⟨j, rfl, hj, rfl, hr⟩ := hrel
    by_cases hlt : j < n
    · obtain ⟨v, hm⟩ := hr.out
      have Hm := Lib.hid hm
      have hb := lt_of_block hm.main
      have c0 : wr.cell? ⟨w.heap.size, 0, none⟩ = some v := by rw [cell_of_heap hm.main]; simp
      clear hm hr
      go_wp2_with (refine wpList_plain rfl fun K hK => wp_append (.tmp 24) (.tmp 26) 39 (by rfl) 9 _ 1 16 Try.underlying39 info_rstr (by rfl) (by omega) v j (tcells (List.replicate j Z)) (by rfl) (Hm.out.row.alloc _) wr.heap.size 1 1 [.string (bs Z)] (by rfl) (by rfl) 9 (by exact new_heap wr _ _ rfl) (by simp [Value.oneCell']) (by omega) (by omega) ?_; intro v' w2 hrow hgrow hblk; obtain ⟨g', cap', rfl⟩ := row_form hrow; obtain ⟨hp, hb2, f0, e0⟩ := Hm.out.step (by repeat (first | exact Below.refl _ _ | (refine Below.drew ?_) | (refine Below.alloc ?_ (by (try simp only [World.size_alloc, World.size_setCell, World.size_drew] at *); omega) _) | (refine Below.setCell ?_ (by (try simp only [World.size_alloc, World.size_setCell, World.size_drew] at *); omega) _))) hrow hgrow hblk; have Hp := Lib.hid hp; clear hp hrow hgrow hblk c0)
      go_roundg (n - (j + 1))
      case measure => omega
      case rel => exact ⟨j + 1, rfl, by omega, by go_num, _, Hp.out⟩
    · obtain rfl : j = n := by omega
      clear hJ1 hK1
      obtain ⟨v, hm⟩ := hr.out
      rw [HZ.out] at hm
      have Hend := Lib.hid (hm.done h0 h1)
      clear hm hr
      go_wp2_with fail
      go_ret
      exact Hend.out
set_option maxHeartbeats 2000000 in
theorem rwant_c (b : Nat) (a : AAct) (m : Dm) (S : List Nat) (w : World) (h : RefAt w b m S) (hq : m.q.length ≤ 1000) (hpos : 0 < m.st.length) (hl : a.text.length ≤ 100) (ha : a.after ≤ 9223372036854775807) :
    Calls Try.prog 17 #[.pointer (some ⟨b, 0, none⟩), .agg (AAct.cells a)] w (RfPost b (act m a).1 (.tuple #[.string (bs (act m a).2.1), .int .i64 (act m a).2.2]) S w) := by
  have Htxt := Lib.hid (text_c a hl)
  obtain ⟨kind, sector, bytes, text, odd, after⟩ := a
  dsimp only [AAct.cells] at *
  generalize hT : AAct.txt _ = T at Htxt
  have hact : act m { kind := kind, sector := sector, bytes := bytes, text := text, odd := odd, after := after } = act m { kind := kind, sector := sector, bytes := bytes, text := text, odd := odd, after := after } := rfl
  conv at hact => rhs; unfold act; rw [hT]
  dsimp only at hact
  have Hact := Lib.hid hact; clear hact hT
  have hw2 : ∀ o : Obj, Below w.heap.size w (w.alloc o) := fun o => by repeat (first | exact Below.refl _ _ | (refine Below.drew ?_) | (refine Below.alloc ?_ (by (try simp only [World.size_alloc, World.size_setCell, World.size_drew] at *); omega) _) | (refine Below.setCell ?_ (by (try simp only [World.size_alloc, World.size_setCell, World.size_drew] at *); omega) _))
  have Hw3 := Lib.hid fun (o : Obj) (w1 : World) (hb : Below (w.alloc o).drew.heap.size (w.alloc o).drew w1) => (hw2 o).trans ((Below.drew (Below.refl _ _)).trans (hb.mono (hw2 o).size))
  have Hw2 := Lib.hid hw2; clear hw2
  have H := Lib.hid h; clear h
  have hq1 : m.q.length ≤ 1000000 := by omega
  have hq2 : m.q.length ≤ 100000 := by omega
  by_cases k0 : kind = 0
  · subst k0
    go_enter Try.func17, Try.ntmps17
    go_wp2
    refine wp_region_can [4] (List.range 8) (by kernel_rfl) (by kernel_rfl) ?_
    go_wp2_with (first | refine cl_nil ?_ | (go_at_call 24; refine (Htxt.out _).mono ?_; rintro e w1 ⟨rfl, hb1⟩; obtain ⟨hc1, hf1, hz1⟩ := bcall hb1) | (go_at_call 33; go_loud (refine (rWrite_c b sector T m S _ (H.out.below (Hw3.out _ _ hb1)) hq2).mono ?_); rintro e w3 ⟨rfl, S', hd, hu⟩; have Hd := Lib.hid hd; have Hu := Lib.hid hu; clear hd hu) | (refine And.intro (show Below _ _ _ from ?_) ?_; exact hb1) | (refine cl_call (i := 4) rfl rfl rfl (fun K hK => ?_)) | (refine cl_do rfl rfl rfl rfl (fun _ _ => ?_)))
    refine bodyPost_ret (results_tmp2 rfl _ _ _) (by rfl) ⟨?_, S', ?_, (Upd.ofBelow (Hw3.out _ _ hb1)).trans Hu.out⟩
    · rw [Hact.out]; simp [go_sem, bs]
    · rw [Hact.out]; exact Hd.out
  by_cases k2 : kind = 2
  · subst k2
    go_enter Try.func17, Try.ntmps17
    go_wp2_with (go_at_call 34; refine (rSync_c b m S _ (H.out.below (Hw2.out _)) hq2).mono ?_; rintro e w1 ⟨rfl, S', hd, hu⟩; have Hd := Lib.hid hd; have Hu := Lib.hid hu; clear hd hu)
    refine bodyPost_ret (results_tmp2 rfl _ _ _) (by rfl) ⟨?_, S', ?_, (Upd.ofBelow (Hw2.out _)).trans Hu.out⟩
    · rw [Hact.out]; simp [go_sem, bs]
    · rw [Hact.out]; exact Hd.out
  by_cases k3 : kind = 3
  · subst k3
    go_enter Try.func17, Try.ntmps17
    go_wp2_with (go_at_call 35; refine (rFail_c b sector bytes m S _ (H.out.below (Hw2.out _)) hq1).mono ?_; rintro e w1 ⟨rfl, S', hd, hu⟩; have Hd := Lib.hid hd; have Hu := Lib.hid hu; clear hd hu)
    refine bodyPost_ret (results_tmp2 rfl _ _ _) (by rfl) ⟨?_, S', ?_, (Upd.ofBelow (Hw2.out _)).trans Hu.out⟩
    · rw [Hact.out]; simp [go_sem, bs]
    · rw [Hact.out]; exact Hd.out
  by_cases k4 : kind = 4
  · subst k4
    go_enter Try.func17, Try.ntmps17
    go_wp2_with (go_at_call 36; refine (rStart_c b m S _ (H.out.below (Hw2.out _))).mono ?_; rintro e w1 ⟨rfl, S', hd, hu⟩; have Hd := Lib.hid hd; have Hu := Lib.hid hu; clear hd hu)
    refine bodyPost_ret (results_tmp2 rfl _ _ _) (by rfl) ⟨?_, S', ?_, (Upd.ofBelow (Hw2.out _)).trans Hu.out⟩
    · rw [Hact.out]; simp [go_sem, bs]
    · rw [Hact.out]; exact Hd.out
  by_cases k5 : kind = 5
  · subst k5
    go_enter Try.func17, Try.ntmps17
    go_wp2_with (go_at_call 37; refine (rArm_c b after sector bytes m S _ (H.out.below (Hw2.out _)) ha).mono ?_; rintro e w1 ⟨rfl, S', hd, hu⟩; have Hd := Lib.hid hd; have Hu := Lib.hid hu; clear hd hu)
    refine bodyPost_ret (results_tmp2 rfl _ _ _) (by rfl) ⟨?_, S', ?_, (Upd.ofBelow (Hw2.out _)).trans Hu.out⟩
    · rw [Hact.out]; simp [go_sem, bs]
    · rw [Hact.out]; exact Hd.out
  by_cases k6 : kind = 6
  · subst k6
    go_enter Try.func17, Try.ntmps17
    go_wp2_with (go_at_call 38; refine (rRot_c b sector bytes after m S _ (H.out.below (Hw2.out _))).mono ?_; rintro e w1 ⟨rfl, S', hd, hu⟩; have Hd := Lib.hid hd; have Hu := Lib.hid hu; clear hd hu)
    refine bodyPost_ret (results_tmp2 rfl _ _ _) (by rfl) ⟨?_, S', ?_, (Upd.ofBelow (Hw2.out _)).trans Hu.out⟩
    · rw [Hact.out]; simp [go_sem, bs]
    · rw [Hact.out]; exact Hd.out
  by_cases k1 : kind = 1
  · subst k1
    go_enter Try.func17, Try.ntmps17
    go_wp2_with (go_at_call 19; refine (rRead_c b sector m S _ (H.out.below (Hw2.out _)) hq2).mono ?_; rintro e w1 ⟨rfl, rfl⟩)
    refine bodyPost_ret (results_tmp2 rfl _ _ _) (by rfl) ⟨?_, S, ?_, Upd.ofBelow (Hw2.out _)⟩
    · rw [Hact.out]; simp [go_sem]
    · rw [Hact.out]; exact H.out.below (Hw2.out _)
  by_cases k7 : kind = 7
  · subst k7
    go_enter Try.func17, Try.ntmps17
    go_wp2_with (go_at_call 39; refine (rRaw_c b m S _ (H.out.below (Hw2.out _)) hpos).mono ?_; rintro e w1 ⟨rfl, hb1⟩; have Hb1 := Lib.hid hb1; clear hb1)
    have hbb := Upd.ofBelow (S := S) ((Hw2.out _).trans (Hb1.out.mono (Hw2.out _).size))
    refine bodyPost_ret (results_tmp2 rfl _ _ _) (by rfl) ⟨?_, S, ?_, hbb⟩
    · rw [Hact.out]; simp [go_sem]
    · rw [Hact.out]; exact (H.out.below (Hw2.out _)).below Hb1.out
  go_enter Try.func17, Try.ntmps17
  go_wp2
  refine bodyPost_ret (results_tmp2 rfl _ _ _) (by rfl) ⟨?_, S, ?_, Upd.ofBelow (Hw2.out _)⟩
  · rw [Hact.out]; simp [go_sem, bs, k0, k1, k2, k3, k4, k5, k6, k7]
  · rw [Hact.out]; simp only [k0, k1, k2, k3, k4, k5, k6, k7, if_false]; exact H.out.below (Hw2.out _)
end Go.Proofs.Ytdfjcidiolbbhaa

/-
  The program's disk: 'count', 'Write', 'Sync'.
-/
import Derived.Test.YtjcjpekndeoonaaGreatDoorDkFail
namespace Go.Proofs.YtjcjpekndeoonaaGreatDoor
open Go.RowKit Go.Cz Go.Cz.Dk
set_option linter.unusedSimpArgs false
set_option linter.unusedVariables false
attribute [local go_sem] bs_size bs_extract bs_append bs_toList

/-- From the blocks S to the blocks S'. -/
def Upd (S S' : List Nat) (w w' : World) : Prop := Mod S w w' ∧ ∀ k ∈ S', k ∈ S ∨ w.heap.size ≤ k
theorem Upd.refl (S : List Nat) (w : World) : Upd S S w w := ⟨Mod.refl _ _, fun _ h => .inl h⟩
theorem Upd.trans {S S' S'' : List Nat} {a b c : World} (h : Upd S S' a b) (k : Upd S' S'' b c) : Upd S S'' a c :=
  ⟨h.1.then k.1 h.2, fun x hx => by rcases k.2 x hx with h1 | h1; exact h.2 x h1; exact .inr (Nat.le_trans h.1.size h1)⟩
theorem Upd.below {S S' : List Nat} {a b c : World} (h : Upd S S' a b) (k : Below b.heap.size b c) : Upd S S' a c := h.trans ⟨Mod.ofBelow k _, fun _ h => .inl h⟩
theorem Upd.ofBelow {S : List Nat} {a b : World} (k : Below a.heap.size a b) : Upd S S a b := (Upd.refl S a).below k
/-- What a method leaves: a value, and the disk m'. -/
def DkPost (b : Nat) (m' : Dm) (v : Value) (S : List Nat) (w : World) (e : Ending) (w' : World) : Prop := ∃ S', e = .returned v ∧ DiskAt w' b m' S' ∧ Upd S S' w w'
theorem DiskAt.below {w w' : World} {b : Nat} {m : Dm} {S : List Nat} (h : DiskAt w b m S) (hb : Below w.heap.size w w') : DiskAt w' b m S := by
  obtain ⟨sb, qv, av, ab, h⟩ := h
  exact ⟨sb, qv, av, ab, h.below hb⟩
theorem DiskAt.lt {w : World} {b : Nat} {m : Dm} {S : List Nat} (h : DiskAt w b m S) : ∀ k ∈ S, k < w.heap.size := by
  obtain ⟨sb, qv, av, ab, h⟩ := h
  intro k hk
  rw [h.own] at hk
  rcases List.mem_cons.1 hk with rfl | hk
  · exact lt_of_block h.main
  rcases List.mem_cons.1 hk with rfl | hk
  · exact lt_of_block h.stab
  rcases List.mem_append.1 hk with hk | hk
  · rcases h.row.2 with ⟨rfl, _⟩ | ⟨g, cap, cur, rfl, _, hg, _⟩
    · simp [Value.ownBlock] at hk
    · simp [Value.ownBlock] at hk; subst hk; exact lt_of_block hg
  · rcases h.alarm with ⟨_, _, rfl⟩ | ⟨g, x, y, z, _, _, rfl, hg⟩
    · simp at hk
    · simp at hk; subst hk; exact lt_of_block hg
/-- A disk in a world in which other blocks were written. -/
theorem DiskAt.mod {w w' : World} {b : Nat} {m : Dm} {S S0 : List Nat} (h : DiskAt w b m S) (hm : Mod S0 w w') (hd : ∀ k ∈ S, k ∉ S0) : DiskAt w' b m S := by
  have hlt := h.lt
  obtain ⟨sb, qv, av, ab, h⟩ := h
  have k : ∀ {i : Nat} {o : Obj}, i ∈ S → w.heap[i]? = some o → w'.heap[i]? = some o := fun hi ho => hm.heap ho (hd _ hi)
  have hb : b ∈ S := by rw [h.own]; simp
  have hs : sb ∈ S := by rw [h.own]; simp
  refine ⟨sb, qv, av, ab, k hb h.main, k hs h.stab, ?_, ?_, h.own, h.nodup, h.ok, h.few⟩
  · refine ⟨h.row.1, ?_⟩
    rcases h.row.2 with hn | ⟨g, cap, cur, rfl, h1, hg, r⟩
    · exact .inl hn
    · exact .inr ⟨g, cap, cur, rfl, h1, k (by rw [h.own]; simp [Value.ownBlock]) hg, r⟩
  · rcases h.alarm with ha | ⟨g, x, y, z, h1, h2, h3, h4⟩
    · exact .inl ha
    · exact .inr ⟨g, x, y, z, h1, h2, h3, k (by rw [h.own, h3]; simp) h4⟩

set_option maxHeartbeats 1000000 in
theorem Fail_c (b : Nat) (wr bt : Int) (m : Dm) (S : List Nat) (w : World) (h : DiskAt w b m S) (hl : m.q.length ≤ 1000000) :
    Calls Tryz.prog 20 #[.pointer (some ⟨b, 0, none⟩), .int .i64 wr, .int .i64 bt] w (DkPost b (Dk.fail m wr bt) (.tuple #[]) S w) := by
  obtain ⟨sb, qv, av, ab, h⟩ := h
  by_cases ho : m.off = true
  · obtain ⟨hb, _, _, c2, _, _⟩ := h.cells
    rw [ho] at c2
    have Hend : Hid (DkPost b (Dk.fail m wr bt) (.tuple #[]) S w (.returned (.tuple #[])) w) := ⟨S, rfl, ⟨sb, qv, av, ab, by unfold Dk.fail; rw [if_pos ho]; exact h⟩, Upd.refl _ _⟩
    clear h ho
    go_enter Tryz.func20, Tryz.ntmps20
    go_wp2
    refine bodyPost_ret (results_none rfl _ _ _) rfl ?_
    exact Hend.out
  · have ho' : m.off = false := by simpa using ho
    refine (Fail_on b sb wr bt m S ab qv av w h ho' hl).mono ?_
    rintro e w' ⟨rfl, hm, hd⟩
    refine ⟨_, rfl, ⟨_, _, _, _, hd⟩, hm, fun k hk => .inl ?_⟩
    rw [h.own]
    simp at hk ⊢
    rcases hk with rfl | rfl <;> simp
set_option maxHeartbeats 1000000 in
theorem Fail_nil (wr bt : Int) (w : World) :
    Calls Tryz.prog 20 #[.pointer none, .int .i64 wr, .int .i64 bt] w fun e w' => e = .returned (.tuple #[]) ∧ w' = w := by
  go_enter Tryz.func20, Tryz.ntmps20
  go_wp2
  refine bodyPost_ret (results_none rfl _ _ _) rfl ⟨rfl, rfl⟩

theorem DiskAt'.setAlarm {w : World} {b : Nat} {m : Dm} {S : List Nat} {sb : Nat} {qv : Value} {g : Nat} {x y z : Int} (h : DiskAt' w b m S sb qv (.pointer (some ⟨g, 0, none⟩)) [g]) (hal : m.al = some (x, y, z))
    (hg : w.heap[g]? = some (.cells #[.int .i64 x, .int .i64 y, .int .i64 z] 95 (0, 0))) (x' : Int) (hx : 0 ≤ x' ∧ x' ≤ 9223372036854775807) :
    DiskAt' (w.setCell ⟨g, 0, none⟩ (.int .i64 x')) b { m with al := some (x', y, z) } S sb qv (.pointer (some ⟨g, 0, none⟩)) [g] ∧ Mod S w (w.setCell ⟨g, 0, none⟩ (.int .i64 x')) := by
  have hn := h.nodup
  rw [h.own] at hn
  have hgb : b ≠ g := by intro e; subst e; simp at hn
  have hgs : sb ≠ g := by intro e; subst e; simp at hn
  have hgq : qv.ownBlock ≠ some g := by intro e; rw [e] at hn; simp at hn
  have hgS : g ∈ S := by rw [h.own]; simp
  refine ⟨⟨?_, ?_, ?_, ?_, h.own, h.nodup, ⟨h.ok.1, h.ok.2.1, ?_⟩, h.few⟩, (Mod.refl S w).setCell (.inl hgS) _⟩
  · rw [setCell_heap_ne hgb]; exact h.main
  · rw [setCell_heap_ne hgs]; exact h.stab
  · exact ownsRow_setCell_other h.row hgq _
  · refine .inr ⟨g, x', y, z, rfl, rfl, rfl, ?_⟩
    rw [setCell_heap hg]; simp
  · intro q hq; cases hq; exact hx

set_option maxHeartbeats 1000000 in
theorem count_c (b : Nat) (m : Dm) (S : List Nat) (w : World) (h : DiskAt w b m S) (hl : m.q.length ≤ 1000000) :
    Calls Tryz.prog 99 #[.pointer (some ⟨b, 0, none⟩)] w (DkPost b (Dk.count m).1 (.int .i64 (Dk.count m).2) S w) := by
  have h0 := h
  obtain ⟨sb, qv, av, ab, h⟩ := h
  obtain ⟨hb, _, _, _, c3, _⟩ := h.cells
  rcases h.alarm with ⟨rfl, hal, rfl⟩ | ⟨g, x, y, z, rfl, hal, rfl, hg⟩
  · have Hend : Hid (DkPost b (Dk.count m).1 (.int .i64 (Dk.count m).2) S w (.returned (.int .i64 0)) w) := ⟨S, by simp [Dk.count, hal], ⟨sb, qv, _, _, by simpa [Dk.count, hal] using h⟩, Upd.refl _ _⟩
    clear h h0 hal
    go_enter Tryz.func99, Tryz.ntmps99
    go_wp2
    go_ret
    exact Hend.out
  · have a0 : w.cell? ⟨g, 0, none⟩ = some (.int .i64 x) := by rw [cell_of_heap hg]; simp
    have a1 : w.cell? ⟨g, 1, none⟩ = some (.int .i64 y) := by rw [cell_of_heap hg]; simp
    have a2 : w.cell? ⟨g, 2, none⟩ = some (.int .i64 z) := by rw [cell_of_heap hg]; simp
    have af : w.frozen? ⟨g, 0, none⟩ = false := free_of_heap hg
    have hx := h.ok.2.2 _ hal
    dsimp only at hx
    obtain ⟨hx0, hx1⟩ := hx
    by_cases hp : 0 < x
    · have hend := h.setAlarm hal hg (x - 1) ⟨by omega, by omega⟩
      have Hend : Hid (DkPost b (Dk.count m).1 (.int .i64 (Dk.count m).2) S w (.returned (.int .i64 0)) (w.setCell ⟨g, 0, none⟩ (.int .i64 (x - 1)))) :=
        ⟨S, by simp [Dk.count, hal, hp], ⟨sb, qv, _, _, by simpa [Dk.count, hal, hp] using hend.1⟩, hend.2, fun _ hk => .inl hk⟩
      clear h h0 hal hg hend
      go_enter Tryz.func99, Tryz.ntmps99
      go_wp2
      go_ret
      exact Hend.out
    · obtain rfl : x = 0 := by omega
      have Hf := Lib.hid (fun w1 (hw : Below w.heap.size w w1) => Fail_c b y z m S w1 (h0.below hw) hl)
      have Hend : Hid (∀ w1 e w2, Below w.heap.size w w1 → DkPost b (Dk.fail m y z) (.tuple #[]) S w1 e w2 → e = .returned (.tuple #[]) ∧ DkPost b (Dk.count m).1 (.int .i64 (Dk.count m).2) S w (.returned (.int .i64 26)) w2) := by
        rintro w1 e w2 hw ⟨S', rfl, hd, hu⟩
        exact ⟨rfl, S', by simp [Dk.count, hal], by simpa [Dk.count, hal] using hd, (Upd.ofBelow hw).trans hu⟩
      clear h h0 hal hg
      go_enter Tryz.func99, Tryz.ntmps99
      go_wp2_with fail
      refine wp_region_can [] (List.range 16) (by kernel_rfl) (by kernel_rfl) ?_
      go_wp2_with (first | refine cl_nil ?_ | (refine cl_do rfl rfl rfl rfl (fun _ _ => ?_)))
      refine (Hf.out _ (by exact (Below.refl _ _).drew)).mono ?_
      intro e w2 hpost
      obtain ⟨rfl, hp2⟩ := Hend.out _ e w2 (by exact (Below.refl _ _).drew) hpost
      have Hp2 := Lib.hid hp2; clear hp2 hpost
      go_wp2_with (first | refine cl_nil ?_ | (refine cl_do rfl rfl rfl rfl (fun _ _ => ?_)))
      go_ret
      exact Hp2.out
end Go.Proofs.YtjcjpekndeoonaaGreatDoor

/-
  What the helpers of the disk's laws do: 'contents', 'same'.
-/
import Derived.Test.YtdfjcidiolbbhaaLwOps
namespace Go.Proofs.Ytdfjcidiolbbhaa
open Go.RowKit Go.Cz Go.Cz.Dk
set_option linter.unusedSimpArgs false
set_option linter.unusedVariables false
attribute [local go_sem] bs_size bs_extract bs_append bs_toList

theorem info_str : (Try.prog.info? 9).map (fun i => (i.zero, i.size, i.bytes)) = some (some (.string ⟨#[]⟩), 1, 16) := by kernel_rfl
def scells (l : List Bytes) : List Value := l.map fun s => .string (bs s)
theorem ownsRow_below {w w' : World} {base : Nat} {e : TypeId} {size n : Nat} {v : Value} {xs : List Value} (h : w.ownsRow base e size v n xs) (hb : Below w.heap.size w w') : w'.ownsRow base e size v n xs := by
  refine h.kept (row := none) ⟨hb.os, hb.tape, hb.output, hb.size, fun i hi _ => hb.block i hi⟩ ?_
  cases v.ownBlock <;> simp
/-- One text more. -/
theorem row_push {w wr w1 w2 : World} {v v' : Value} {j : Nat} {xs ys : List Value} {o : Obj} (h : Below w.heap.size w wr ∧ wr.ownsRow 0 9 1 v j xs ∧ ∀ g, v.ownBlock = some g → w.heap.size ≤ g) (hb : Below wr.heap.size wr w1)
    (hrow : w2.ownsRow 0 9 1 v' (j + 1) ys) (hgrow : (w1.alloc o).grownBy w2 v.ownBlock) (hblk : v'.ownBlock = v.ownBlock ∨ v'.ownBlock = some (w1.alloc o).heap.size) :
    Below w.heap.size w w2 ∧ w2.ownsRow 0 9 1 v' (j + 1) ys ∧ ∀ g, v'.ownBlock = some g → w.heap.size ≤ g := by
  obtain ⟨h1, h2, h3⟩ := h
  have s1 := h1.size
  have s2 := hb.size
  have hm := ((((Mod.refl [] w).trans (Mod.ofBelow h1 [])).trans ((Mod.ofBelow (hb.mono (Nat.le_refl _)) []).mono (by simp))).alloc o).grown hgrow (fun k hk => .inr (h3 k hk))
  refine ⟨⟨hm.os, hm.tape, hm.output, hm.size, fun k hk => hm.block k hk (by simp)⟩, hrow, fun g hg => ?_⟩
  rcases hblk with h4 | h4
  · rw [h4] at hg; exact h3 g hg
  · rw [h4] at hg; cases hg; rw [World.size_alloc]; omega
/-- A list of texts lies at block g. -/
def StrsAt (cur : Array Value) (l : List Bytes) : Prop := ∀ (j : Nat) (s : Bytes), l[j]? = some s → cur[j]? = some (.string (bs s))
/-- What 'contents' leaves. -/
def ContPost (m : Dm) (n : Nat) (w : World) (e : Ending) (w' : World) : Prop :=
  ∃ g cap cur, e = .returned (.tuple #[.slice (some ⟨g, 0, none⟩) n cap, .bool true]) ∧ Below w.heap.size w w' ∧ w.heap.size ≤ g ∧ w'.heap[g]? = some (.cells cur 9 (0, 0)) ∧ StrsAt cur (conts m)
set_option maxHeartbeats 2000000 in
theorem contents_c (b n : Nat) (m : Dm) (S : List Nat) (w : World) (h : DiskAt w b m S) (hn : n = m.st.length) (hn0 : 0 < n) (ho : m.off = false) (hq : m.q.length ≤ 1000000) :
    Calls Try.prog 22 #[.pointer (some ⟨b, 0, none⟩), .int .i64 (n : Int)] w (ContPost m n w) := by
  have hok : m.ok := by obtain ⟨_, _, _, _, h⟩ := h; exact h.ok
  have hfew : n ≤ 4000 := by obtain ⟨_, _, _, _, h⟩ := h; have := h.few; omega
  have hread : Hid (∀ (wr : World) (j : Nat), j < n → Below w.heap.size w wr → Calls Try.prog 18 #[.pointer (some ⟨b, 0, none⟩), .int .i64 (j : Int)] wr fun e w' => e = .returned (.tuple #[.string (bs (Dk.look m j)), .int .i64 0]) ∧ Below wr.heap.size wr w') := by
    intro wr j hj hb
    have hc := Read_c b j m S wr (h.below hb) hq
    have hr : Dk.read m (j : Int) = (Dk.look m j, 0) := by
      have hv : valid m (j : Int) = true := by simp [valid]; omega
      simp [Dk.read, ho, hv]
    rw [hr] at hc
    exact hc
  have Hlen : Hid (∀ j, j < n → (Dk.look m j).length = 64) := fun j hj => look_length hok (by omega)
  have Hget : Hid (∀ j, j < n → scells ((conts m).take (j + 1)) = scells ((conts m).take j) ++ [.string (bs (Dk.look m j))]) := by
    intro j hj
    have hl : j < (conts m).length := by rw [length_conts]; omega
    rw [List.take_succ_eq_append_getElem hl]
    have := conts_get (m := m) (j := j) (by omega)
    rw [List.getElem?_eq_getElem hl] at this
    simp [scells, Option.some.inj this]
  have Hfin : Hid (∀ cur : Array Value, cur.toList.take (n * 1) = scells ((conts m).take n) → StrsAt cur (conts m)) := by
    intro cur hcur j s hs
    have hj : j < n := by have := (List.getElem?_eq_some_iff.1 hs).1; rw [length_conts] at this; omega
    have e0 : (conts m).take n = conts m := List.take_of_length_le (by rw [length_conts]; omega)
    rw [e0] at hcur
    have h1 : (scells (conts m))[j]? = some (.string (bs s)) := by simp [scells, hs]
    rw [← hcur, List.getElem?_take] at h1
    simpa [hj] using h1
  clear h ho hn hok
  go_enter Try.func22, Try.ntmps22
  go_wp2
  go_loopw [6, 7] (fun v i wr => ∃ j : Nat, j ≤ n ∧ i = .int .i64 j ∧ Hid (Below w.heap.size w wr ∧ wr.ownsRow 0 9 1 v j (scells ((conts m).take j)) ∧ ∀ g, v.ownBlock = some g → w.heap.size ≤ g)) (fun _ i _ => n - (intOf i).toNat)
  case atStart => exact ⟨0, Nat.zero_le _, rfl, Below.refl _ _, World.ownsRow_nil _ _ _ _, by simp [Value.ownBlock]⟩
  case round =>
    obtain ⟨j, hj, rfl, hr⟩ := hrel
    by_cases hlt : j < n
    · have hl64 := Hlen.out j hlt
      go_wp2_with (first | (go_at_call 18; refine (hread.out _ j hlt (by exact hr.out.1)).mono ?_; rintro e w1 ⟨rfl, hb1⟩; have Hb1 := Lib.hid hb1; clear hb1) | (at_builtin; refine wpList_plain rfl fun K hK => ?_; go_loud (refine wp_append (.tmp 28) (.tmp 30) 39 (by rfl) 9 _ 1 16 Try.underlying39 info_str (by rfl) (by omega) u6 j (scells ((conts m).take j)) (by rfl) (ownsRow_below (ownsRow_below hr.out.2.1 Hb1.out) (by exact Below.alloc (Below.refl _ _) (Nat.le_refl _) _)) w1.heap.size 1 1 [.string (bs (Dk.look m j))] (by rfl) (by rfl) 9 (by exact new_heap _ _ _ (by simp)) (by simp [Value.oneCell']) (by omega) (by omega) ?_); intro v' w2 hrow hgrow hblk; rw [← Hget.out j hlt] at hrow; obtain ⟨g', cap', rfl⟩ := row_form hrow; go_loud (have Hp := Lib.hid (row_push hr.out Hb1.out hrow hgrow hblk)); clear hrow hgrow hblk))
      go_roundw
      case rel => exact ⟨j + 1, by omega, by go_num, Hp.out⟩
      case measure => simp [intOf]; omega
    · obtain rfl : j = n := by omega
      obtain ⟨hb, hrow, hown⟩ := hr.out
      obtain ⟨j, rfl⟩ : ∃ k, j = k + 1 := ⟨j - 1, by omega⟩
      obtain ⟨g, cap, rfl⟩ := row_form hrow
      have hg := hown g rfl
      have Hrow := Lib.hid hrow
      have Hb := Lib.hid hb
      clear hr hrow hb hown
      go_wp2
      rcases Hrow.out.2 with ⟨h0, _⟩ | ⟨g', cap', cur, hv, _, hgc, _, _, _, hcur⟩
      · cases h0
      · cases hv
        refine bodyPost_ret (results_tmp2 rfl _ _ _) (by rfl) ⟨g, cap, cur, ?_, Hb.out, hg, hgc, Hfin.out cur hcur⟩
        simp [go_sem]
set_option maxHeartbeats 2000000 in
theorem same_c (g1 g2 n1 n2 c1 c2 : Nat) (cur1 cur2 : Array Value) (l1 l2 : List Bytes) (w : World) (h1 : w.heap[g1]? = some (.cells cur1 9 (0, 0))) (h2 : w.heap[g2]? = some (.cells cur2 9 (0, 0)))
    (s1 : StrsAt cur1 l1) (s2 : StrsAt cur2 l2) (hl1 : l1.length = n1) (hl2 : l2.length = n2) (hs1 : n1 ≤ 100000) (hs2 : n2 ≤ 100000) :
    Calls Try.prog 27 #[.slice (some ⟨g1, 0, none⟩) n1 c1, .slice (some ⟨g2, 0, none⟩) n2 c2] w fun e w' => e = .returned (.bool (decide (l1 = l2))) ∧ Below w.heap.size w w' := by
  have H1 := Lib.hid h1; have H2 := Lib.hid h2
  have hg1 := lt_of_block h1; have hg2 := lt_of_block h2
  have Hc1 : Hid (∀ (j : Nat) (s : Bytes) (wr : World), l1[j]? = some s → Below w.heap.size w wr → wr.cell? ⟨g1, j, none⟩ = some (.string (bs s))) := fun j s wr hj hb => by rw [hb.cell (p := ⟨g1, j, none⟩) hg1, cell_of_heap H1.out, s1 j s hj]
  have Hc2 : Hid (∀ (j : Nat) (s : Bytes) (wr : World), l2[j]? = some s → Below w.heap.size w wr → wr.cell? ⟨g2, j, none⟩ = some (.string (bs s))) := fun j s wr hj hb => by rw [hb.cell (p := ⟨g2, j, none⟩) hg2, cell_of_heap H2.out, s2 j s hj]
  clear h1 h2 s1 s2
  by_cases hn : n1 = n2
  · subst hn
    have Hend : Hid (∀ b : Bool, (b = true ↔ l1 = l2) → Ending.returned (.bool b) = .returned (.bool (decide (l1 = l2)))) := fun b hb => by congr 2; rw [Bool.eq_iff_iff, hb]; simp
    go_enter Try.func27, Try.ntmps27
    go_wp2
    go_loopw [5] (fun i wr => ∃ j : Nat, j ≤ n1 ∧ i = .int .i64 j ∧ Hid (Below w.heap.size w wr ∧ ∀ k, k < j → l1[k]? = l2[k]?)) (fun i _ => n1 - (intOf i).toNat)
    case atStart => exact ⟨0, Nat.zero_le _, rfl, Below.refl _ _, fun k hk => by omega⟩
    case round =>
      obtain ⟨j, hj, rfl, hr⟩ := hrel
      by_cases hlt : j < n1
      · obtain ⟨a, ha⟩ : ∃ a, l1[j]? = some a := ⟨l1[j], List.getElem?_eq_getElem (by omega)⟩
        obtain ⟨b, hb⟩ : ∃ b, l2[j]? = some b := ⟨l2[j], List.getElem?_eq_getElem (by omega)⟩
        have e1 := Hc1.out j a wr ha hr.out.1
        have e2 := Hc2.out j b wr hb hr.out.1
        have hg1' : g1 < wr.heap.size := Nat.lt_of_lt_of_le hg1 hr.out.1.size
        have hg2' : g2 < wr.heap.size := Nat.lt_of_lt_of_le hg2 hr.out.1.size
        have Ha := Lib.hid ha; have Hb := Lib.hid hb; clear ha hb
        by_cases hab : a = b
        · subst hab
          go_wp2
          refine wp_region_can [] (List.range 9) (by kernel_rfl) (by kernel_rfl) ?_
          go_wp2_with (first | refine cl_nil ?_ | (refine cl_do rfl rfl rfl rfl (fun _ _ => ?_)))
          go_roundw
          case rel =>
            refine ⟨j + 1, by omega, by go_num, Below.drew hr.out.1, fun k hk => ?_⟩
            by_cases hkj : k = j
            · subst hkj; rw [Ha.out, Hb.out]
            · exact hr.out.2 k (by omega)
          case measure => simp [intOf]; omega
        · have hne : (a == b) = false := by simpa using hab
          go_wp2
          refine wp_region_can [] (List.range 9) (by kernel_rfl) (by kernel_rfl) ?_
          go_wp2_with (first | refine cl_nil ?_ | (refine cl_do rfl rfl rfl rfl (fun _ _ => ?_)))
          go_ret
          refine ⟨Hend.out false ⟨fun h => (by cases h), fun h => ?_⟩, Below.drew hr.out.1⟩
          subst h
          have := Ha.out.symm.trans Hb.out
          exact absurd (Option.some.inj this) hab
      · obtain rfl : j = n1 := by omega
        go_wp2
        go_ret
        refine ⟨Hend.out true ⟨fun _ => ?_, fun _ => rfl⟩, hr.out.1⟩
        apply List.ext_getElem?
        intro k
        by_cases hk : k < j
        · exact hr.out.2 k hk
        · rw [List.getElem?_eq_none (by omega), List.getElem?_eq_none (by omega)]
  · have hne : l1 ≠ l2 := fun e => hn (by rw [← hl1, ← hl2, e])
    have Hend : Hid (decide (l1 = l2) = false) := Lib.hid (by simpa using hne)
    go_enter Try.func27, Try.ntmps27
    go_wp2
    go_ret
    exact ⟨by rw [Hend.out]; rfl, Below.refl _ _⟩
end Go.Proofs.Ytdfjcidiolbbhaa

/-
  The operations that a law is handed; 'light'.
-/
import Derived.Test.YtjcjpekndeoonaaGreatDoorJnHead
namespace Go.Cz.Jn
structure JOp where
  kind : Int
  list : List Bytes
  pos : Int
  writes : Int
  bytes : Int
def lenSum (l : List Bytes) : Nat := (l.map List.length).sum
def opSum (l : List JOp) : Nat := (l.map fun o => lenSum o.list).sum
theorem lenSum_take {l : List Bytes} {k : Nat} {s : Bytes} (h : l[k]? = some s) : lenSum (l.take (k + 1)) = lenSum (l.take k) + s.length := by
  obtain ⟨hk, rfl⟩ := List.getElem?_eq_some_iff.1 h
  unfold lenSum
  rw [List.take_succ_eq_append_getElem hk, List.map_append, List.sum_append]
  simp
theorem opSum_take {l : List JOp} {k : Nat} {o : JOp} (h : l[k]? = some o) : opSum (l.take (k + 1)) = opSum (l.take k) + lenSum o.list := by
  obtain ⟨hk, rfl⟩ := List.getElem?_eq_some_iff.1 h
  unfold opSum
  rw [List.take_succ_eq_append_getElem hk, List.map_append, List.sum_append]
  simp
/-- What 'light' makes sure of. -/
structure Small (s : Int) (l : List JOp) : Prop where
  sec : s ≤ 40
  ops : l.length ≤ 16
  rows : ∀ o ∈ l, o.list.length ≤ 20
  sum : opSum l ≤ 6000
end Go.Cz.Jn
namespace Go.Proofs.YtjcjpekndeoonaaGreatDoor
open Go.RowKit Go.Cz Go.Cz.Jn
set_option linter.unusedSimpArgs false
set_option linter.unusedVariables false
attribute [local go_sem] bs_size bs_extract bs_append bs_toList
/-- Operations that lie in a row somewhere. -/
structure IsOps (w : World) (x : Option Addr) (n : Nat) (l : List JOp) : Prop where
  len : l.length = n
  cells : n = 0 ∨ ∃ g off, x = some ⟨g, off, none⟩ ∧ g < w.heap.size ∧ ∀ (j : Nat) (o : JOp), l[j]? = some o → ∃ y k c, IsTexts w y k o.list ∧ ((y = none → c = 0) ∧ ∀ s ∈ o.list, s.length ≤ 140737488355328) ∧
    w.cell? ⟨g, off + j * 5 + 0, none⟩ = some (.int .i64 o.kind) ∧ w.cell? ⟨g, off + j * 5 + 1, none⟩ = some (.slice y k c) ∧ w.cell? ⟨g, off + j * 5 + 2, none⟩ = some (.int .i64 o.pos) ∧ w.cell? ⟨g, off + j * 5 + 3, none⟩ = some (.int .i64 o.writes) ∧ w.cell? ⟨g, off + j * 5 + 4, none⟩ = some (.int .i64 o.bytes)
theorem IsOps.below {w w' : World} {x : Option Addr} {n : Nat} {l : List JOp} (h : IsOps w x n l) (hb : Below w.heap.size w w') : IsOps w' x n l := by
  refine ⟨h.len, ?_⟩
  rcases h.cells with h0 | ⟨g, off, hx, hg, hc⟩
  · exact .inl h0
  · refine .inr ⟨g, off, hx, Nat.lt_of_lt_of_le hg hb.size, fun j o hj => ?_⟩
    obtain ⟨y, k, c, h1, h2, h3, h4, h5, h6, h7⟩ := hc j o hj
    have e : ∀ i, w'.cell? ⟨g, i, none⟩ = w.cell? ⟨g, i, none⟩ := fun i => hb.cell (p := ⟨g, i, none⟩) hg
    exact ⟨y, k, c, h1.below hb, h2, by rw [e]; exact h3, by rw [e]; exact h4, by rw [e]; exact h5, by rw [e]; exact h6, by rw [e]; exact h7⟩
theorem IsOps.get {w : World} {x : Option Addr} {n : Nat} {l : List JOp} (h : IsOps w x n l) {i : Nat} (hi : i < n) : ∃ g off o y k c, x = some ⟨g, off, none⟩ ∧ l[i]? = some o ∧ g < w.heap.size ∧ IsTexts w y k o.list ∧ ((y = none → c = 0) ∧ ∀ s ∈ o.list, s.length ≤ 140737488355328) ∧
    w.cell? ⟨g, off + i * 5 + 0, none⟩ = some (.int .i64 o.kind) ∧ w.cell? ⟨g, off + i * 5 + 1, none⟩ = some (.slice y k c) ∧ w.cell? ⟨g, off + i * 5 + 2, none⟩ = some (.int .i64 o.pos) ∧ w.cell? ⟨g, off + i * 5 + 3, none⟩ = some (.int .i64 o.writes) ∧ w.cell? ⟨g, off + i * 5 + 4, none⟩ = some (.int .i64 o.bytes) := by
  rcases h.cells with h0 | ⟨g, off, hx, hg, hc⟩
  · omega
  · have hl := h.len
    have hj : l[i]? = some (l[i]'(by omega)) := List.getElem?_eq_getElem (by omega)
    obtain ⟨y, k, c, h1, h2, h3, h4, h5, h6, h7⟩ := hc i _ hj
    exact ⟨g, off, _, y, k, c, hx, hj, hg, h1, h2, h3, h4, h5, h6, h7⟩
def LightP (s : Int) (l : List JOp) (w : World) (e : Ending) (w' : World) : Prop := ∃ b, e = .returned (.bool b) ∧ (b = true → Small s l) ∧ w' = w
set_option maxRecDepth 10000 in
set_option maxHeartbeats 8000000 in
theorem light_c (s : Int) (x : Option Addr) (n c : Nat) (l : List JOp) (w : World) (h : IsOps w x n l) : Calls Tryz.prog 6 #[.int .i64 s, .slice x n c] w (LightP s l w) := by
  have HI := Lib.hid h
  have HLn := Lib.hid h.len
  clear h
  go_enter Tryz.func6, Tryz.ntmps6
  by_cases h40 : 40 < s
  · go_wp2_with fail
    go_ret
    exact ⟨false, rfl, (fun h => by cases h), rfl⟩
  by_cases h16 : 16 < n
  · have h16' : (16 : Int) < (n : Int) := by omega
    go_wp2_with fail
    go_ret
    exact ⟨false, rfl, (fun h => by cases h), rfl⟩
  have h16' : ¬ (16 : Int) < (n : Int) := by omega
  have H40 : Hid (s ≤ 40 ∧ n ≤ 16) := ⟨by omega, by omega⟩
  clear h16
  go_wp2_with fail
  go_loopg [5, 6] n (fun gk a i wr => ∃ k tot : Nat, gk = n - k ∧ k ≤ n ∧ i = .int .i64 (k : Int) ∧ a = .int .i64 (tot : Int) ∧ tot ≤ 6000 ∧ w = wr ∧ Hid (opSum (l.take k) = tot ∧ ∀ o ∈ l.take k, o.list.length ≤ 20))
  case atStart => exact ⟨0, 0, rfl, Nat.zero_le _, rfl, rfl, by omega, rfl, Lib.hid ⟨by simp [opSum], by simp⟩⟩
  case round =>
    rename_i J1 K1 hJ1 hK1
    obtain ⟨k, tot, rfl, hk, rfl, rfl, htot, rfl, HP⟩ := hrel
    by_cases hlt : k < n
    · obtain ⟨g, off, o, y, m, cc, rfl, ho, hg, ht, hsl, -, c1, -, -, -⟩ := HI.out.get hlt
      have HOo := Lib.hid ho
      have HTt := Lib.hid ht
      have HSl := Lib.hid hsl.2
      have HLt := Lib.hid hlt
      clear ho ht hsl
      by_cases h20 : 20 < m
      · have h20' : (20 : Int) < (m : Int) := by omega
        clear hJ1 hK1
        go_wp2_with fail
        go_ret
        exact ⟨false, rfl, (fun h => by cases h), rfl⟩
      · have h20' : ¬ (20 : Int) < (m : Int) := by omega
        have H20 : Hid (m ≤ 20) := by show _ ≤ _; omega
        clear h20
        go_wp2_with fail
        go_loopg [5, 7] m (fun gk a i wr => ∃ q tq : Nat, gk = m - q ∧ q ≤ m ∧ i = .int .i64 (q : Int) ∧ a = .int .i64 (tq : Int) ∧ tq ≤ 6000 ∧ w = wr ∧ Hid (tot + lenSum (o.list.take q) = tq))
        case atStart => exact ⟨0, tot, rfl, Nat.zero_le _, rfl, rfl, htot, rfl, Lib.hid (by simp [lenSum])⟩
        case round =>
          rename_i J2 K2 hJ2 hK2
          obtain ⟨q, tq, rfl, hq, rfl, rfl, htq, rfl, HQ⟩ := hrel
          by_cases hlq : q < m
          · obtain ⟨g2, off2, r, rfl, hr, hg2, c2⟩ := HTt.out.get hlq
            have hrl := HSl.out r (List.mem_of_getElem? hr)
            have HRr := Lib.hid (lenSum_take hr)
            obtain ⟨t2, ht2⟩ : ∃ t2, t2 = tq + r.length := ⟨_, rfl⟩
            have et : (tq : Int) + (r.length : Int) = (t2 : Int) := by omega
            have ht2l : t2 ≤ 140737488361328 := by omega
            have HQ2 : Hid (tot + lenSum (o.list.take (q + 1)) = t2) := by show _ = _; rw [HRr.out, ht2, ← HQ.out]; omega
            have HLq := Lib.hid hlq
            clear hr ht2
            by_cases h6 : 6000 < t2
            · have h6' : (6000 : Int) < (t2 : Int) := by omega
              clear hJ1 hK1 hJ2 hK2
              go_wp2_with fail
              go_ret
              exact ⟨false, rfl, (fun h => by cases h), rfl⟩
            · have h6' : ¬ (6000 : Int) < (t2 : Int) := by omega
              have H6 : Hid (t2 ≤ 6000) := by show _ ≤ _; omega
              clear h6
              go_wp2_with fail
              go_roundg (m - (q + 1))
              case measure => have := HLq.out; omega
              case rel => exact ⟨q + 1, t2, rfl, by have := HLq.out; omega, by go_num, rfl, H6.out, rfl, HQ2⟩
          · have hqm : q = m := by omega
            have HP2 : Hid (opSum (l.take (k + 1)) = tq ∧ ∀ o ∈ l.take (k + 1), o.list.length ≤ 20) := by
              have h1 := HP.out
              have h2 := HQ.out
              have h3 := opSum_take HOo.out
              rw [List.take_of_length_le (by rw [HTt.out.len]; omega)] at h2
              refine ⟨by rw [h3, h1.1, h2], fun o' ho' => ?_⟩
              obtain ⟨hk', he⟩ := List.getElem?_eq_some_iff.1 HOo.out
              rw [List.take_succ_eq_append_getElem hk', he] at ho'
              rcases List.mem_append.1 ho' with h | h
              · exact h1.2 o' h
              · have : o' = o := by simpa using h
                rw [this, HTt.out.len]
                exact H20.out
            clear hqm hJ2 hK2
            go_wp2_with fail
            go_roundg (n - (k + 1))
            case measure => have := HLt.out; omega
            case rel => exact ⟨k + 1, tq, rfl, by have := HLt.out; omega, by go_num, rfl, htq, rfl, HP2⟩
    · have HB : Hid (Small s l) := by
        have h1 := HP.out
        rw [List.take_of_length_le (by rw [HLn.out]; omega)] at h1
        exact ⟨H40.out.1, by rw [HLn.out]; exact H40.out.2, h1.2, by rw [h1.1]; exact htot⟩
      clear hJ1 hK1
      go_wp2_with fail
      go_ret
      exact ⟨true, rfl, fun _ => HB.out, rfl⟩
end Go.Proofs.YtjcjpekndeoonaaGreatDoor

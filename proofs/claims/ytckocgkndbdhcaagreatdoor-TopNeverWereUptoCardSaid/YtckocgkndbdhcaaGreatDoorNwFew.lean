/-
  Whether an entry is of a moderate size: small; what nodes, Short and Few say of zero values.
-/
import Derived.Test.YtckocgkndbdhcaaGreatDoorNwModel
namespace Go.Cz.Nw
/-- A name of a moderate size. -/
def SmN (n : Nm) : Prop := n.ws.length ≤ 4 ∧ ∀ x ∈ n.ws, x.length ≤ 30
theorem take_step {α : Type} {l : List α} {j : Nat} {x : α} {P : α → Prop} (h : l[j]? = some x) (h1 : ∀ a ∈ l.take j, P a) (h2 : P x) : ∀ a ∈ l.take (j + 1), P a := by
  obtain ⟨hj, rfl⟩ := List.getElem?_eq_some_iff.1 h
  intro a ha
  rw [List.take_succ_eq_append_getElem hj] at ha
  rcases List.mem_append.1 ha with ha | ha
  · exact h1 a ha
  · simp at ha
    subst ha
    exact h2
end Go.Cz.Nw
namespace Go.Proofs.YtckocgkndbdhcaaGreatDoor
open Go.RowKit Go.Cz Go.Cz.Nw Go.Cz.Lx Go.ChangeMaps
set_option linter.unusedSimpArgs false
set_option linter.unusedVariables false
attribute [local go_sem] bs_size bs_extract bs_append bs_toList
attribute [local irreducible] cList cPlan
theorem sm_res {W : World} {tmps : Array Value} : (results Tryz.f25 tmps).run Tryz.prog W = .ok (tmps.getD 2 undef) W := by
  simp [results, Tryz.results25, go_sem]
set_option maxRecDepth 100000 in
set_option maxHeartbeats 4000000 in
theorem small_c (eid : Bytes) (ns : List Nm) (nv : Value) (w : World) (hv : IsNames w nv ns) (hn : ns.length ≤ 9223372036854775807) (hw : ∀ n ∈ ns, n.ws.length ≤ 9223372036854775807) :
    Calls Tryz.prog 25 #[.agg #[.string (bs eid), nv]] w fun e w' => ∃ b, e = .returned (.bool b) ∧ (b = true → eid.length ≤ 60 ∧ ns.length ≤ 4 ∧ ∀ n ∈ ns, SmN n) ∧ Below w.heap.size w w' := by
  obtain ⟨y, c, rfl, q⟩ := hv
  obtain ⟨m, hm⟩ : ∃ m, m = ns.length := ⟨_, rfl⟩
  have HM := Lib.hid hm
  have Q := Lib.hid q
  have HW := Lib.hid hw
  rw [← hm] at hn ⊢
  obtain ⟨W1, hW1⟩ : ∃ W, W = w.alloc (.cells #[.string (bs eid), .slice y m c] 27) := ⟨_, rfl⟩
  obtain ⟨b1, hb1⟩ : ∃ x, x = w.heap.size := ⟨_, rfl⟩
  have hB1 : Below w.heap.size w W1 := by rw [hW1]; exact (Below.refl _ _).alloc (Nat.le_refl _) _
  have hK1 : Bk W1 b1 #[.string (bs eid), .slice y m c] 27 := by rw [hW1, hb1]; exact Bk.new _ _ _
  have c0 : W1.cell? ⟨b1, 0, none⟩ = some (.string (bs eid)) := by rw [hK1.cell]; rfl
  have c1 : W1.cell? ⟨b1, 1, none⟩ = some (.slice y m c) := by rw [hK1.cell]; rfl
  have l1 := hK1.lt
  have HB := Lib.hid hB1
  clear hm hK1 hB1 q hw
  go_enter Tryz.func25, Tryz.ntmps25
  go_upto_region 1 with fail
  rw [← hW1, ← hb1]
  clear hW1 hb1
  go_wp2_with fail
  go_loopw [3] (fun i wr => ∃ j : Nat, j ≤ m ∧ i = .int .i64 (j : Int) ∧ Hid (wr = W1) ∧ Hid (∀ n ∈ ns.take j, SmN n)) (fun i _ => m - (intOf i).toNat)
  case atStart => exact ⟨0, Nat.zero_le _, rfl, Lib.hid rfl, Lib.hid (by simp)⟩
  obtain ⟨j, hj, rfl, hwr, HJ⟩ := hrel
  obtain rfl := hwr.out.symm
  clear hwr
  by_cases hjm : j < m
  · have hlt : (j : Int) < (m : Int) := by omega
    obtain ⟨x, hxx⟩ : ∃ x, ns[j]? = some x := ⟨_, List.getElem?_eq_getElem (by rw [← HM.out]; exact hjm)⟩
    obtain ⟨g, o, wv, rfl, hg, -, d1, hws⟩ := Q.out j x hxx
    obtain ⟨yw, cw, rfl, qw⟩ := hws
    have hp4 := HW.out x (List.mem_of_getElem? hxx)
    obtain ⟨p, hp⟩ : ∃ p, p = x.ws.length := ⟨_, rfl⟩
    have HP := Lib.hid hp
    have QW := Lib.hid qw
    have HX := Lib.hid hxx
    rw [← hp] at d1 hp4
    replace d1 := old_cell HB.out d1
    have l2 : g < W1.heap.size := Nat.lt_of_lt_of_le hg HB.out.size
    clear hp qw hxx hg
    by_cases h4 : p ≤ 4
    · have h4' : ¬ ((p : Nat) : Int) > 4 := by omega
      go_wp2_with fail
      go_loopw [4] (fun i wr => ∃ k : Nat, k ≤ p ∧ i = .int .i64 (k : Int) ∧ Hid (wr = W1) ∧ Hid (∀ z ∈ x.ws.take k, z.length ≤ 30)) (fun i _ => p - (intOf i).toNat)
      case atStart => exact ⟨0, Nat.zero_le _, rfl, Lib.hid rfl, Lib.hid (by simp)⟩
      obtain ⟨k, hk, rfl, hwr, HK⟩ := hrel
      obtain rfl := hwr.out.symm
      clear hwr
      by_cases hkp : k < p
      · have hlt2 : (k : Int) < (p : Int) := by omega
        obtain ⟨z, hzz⟩ : ∃ z, x.ws[k]? = some z := ⟨_, List.getElem?_eq_getElem (by rw [← HP.out]; exact hkp)⟩
        obtain ⟨gz, oz, rfl, hgz, e1⟩ := QW.out k z hzz
        replace e1 := old_cell HB.out e1
        have l3 : gz < W1.heap.size := Nat.lt_of_lt_of_le hgz HB.out.size
        clear hgz
        have HZ := Lib.hid hzz
        clear hzz
        by_cases h30 : z.length ≤ 30
        · have h30' : ¬ ((z.length : Nat) : Int) > 30 := by omega
          go_wp2_with fail
          go_roundw
          case rel => exact ⟨k + 1, by omega, by go_num, Lib.hid (by first | trivial | rfl), Lib.hid (take_step HZ.out HK.out h30)⟩
          case measure => simp [intOf]; omega
        · have h30' : ((z.length : Nat) : Int) > 30 := by omega
          go_wp2_with fail
          refine bodyPost_ret sm_res (by rfl) ?_
          first | exact ⟨_, rfl, by simp, HB.out⟩ | exact ⟨rfl, HB.out⟩
      · obtain rfl : k = p := by omega
        clear hkp hk
        go_wp2_with fail
        go_roundw
        case rel =>
          refine ⟨j + 1, by omega, by go_num, Lib.hid (by first | trivial | rfl), Lib.hid (take_step HX.out HJ.out ⟨by rw [← HP.out]; exact h4, ?_⟩)⟩
          have h := HK.out
          rw [HP.out, List.take_length] at h
          exact h
        case measure => simp [intOf]; omega
    · have h4' : ((p : Nat) : Int) > 4 := by omega
      go_wp2_with fail
      refine bodyPost_ret sm_res (by rfl) ?_
      first | exact ⟨_, rfl, by simp, HB.out⟩ | exact ⟨rfl, HB.out⟩
  · obtain rfl : j = m := by omega
    clear hjm hj
    have HA : Hid (∀ n ∈ ns, SmN n) := by
      have h := HJ.out
      rw [HM.out, List.take_length] at h
      exact Lib.hid h
    by_cases h4 : j ≤ 4
    · have h4' : ((j : Nat) : Int) ≤ 4 := by omega
      by_cases h6 : eid.length ≤ 60
      · have h6' : ((eid.length : Nat) : Int) ≤ 60 := by omega
        go_wp2_with fail
        refine bodyPost_ret sm_res (by rfl) ⟨_, rfl, fun _ => ⟨h6, h4, HA.out⟩, HB.out⟩
      · have h6' : ¬ ((eid.length : Nat) : Int) ≤ 60 := by omega
        go_wp2_with fail
        refine bodyPost_ret sm_res (by rfl) ?_
        first | exact ⟨_, rfl, by simp, HB.out⟩ | exact ⟨rfl, HB.out⟩
    · have h4' : ¬ ((j : Nat) : Int) ≤ 4 := by omega
      go_wp2_with fail
      refine bodyPost_ret sm_res (by rfl) ?_
      first | exact ⟨_, rfl, by simp, HB.out⟩ | exact ⟨rfl, HB.out⟩
theorem nd_res {W : World} {tmps : Array Value} : (results Tryz.f26 tmps).run Tryz.prog W = .ok (tmps.getD 4 undef) W := by
  simp [results, Tryz.results26, go_sem]
set_option maxRecDepth 100000 in
theorem nodes_c (w : World) : Calls Tryz.prog 26 #[.agg #[.int .i64 0, .string ⟨#[]⟩, .int .i64 0, .int .i64 0, .slice none 0 0], .int .i64 60] w fun e w' => e = .returned (.int .i64 1) ∧ Below w.heap.size w w' := by
  obtain ⟨W1, hW1⟩ : ∃ W, W = w.alloc (.cells #[.int .i64 0, .string ⟨#[]⟩, .int .i64 0, .int .i64 0, .slice none 0 0] 73) := ⟨_, rfl⟩
  obtain ⟨b1, hb1⟩ : ∃ x, x = w.heap.size := ⟨_, rfl⟩
  have hB1 : Below w.heap.size w W1 := by rw [hW1]; exact (Below.refl _ _).alloc (Nat.le_refl _) _
  have hK1 : Bk W1 b1 #[.int .i64 0, .string ⟨#[]⟩, .int .i64 0, .int .i64 0, .slice none 0 0] 73 := by rw [hW1, hb1]; exact Bk.new _ _ _
  have c4 : W1.cell? ⟨b1, 4, none⟩ = some (.slice none 0 0) := by rw [hK1.cell]; rfl
  have l1 := hK1.lt
  have HB := Lib.hid hB1
  clear hK1 hB1
  go_enter Tryz.func26, Tryz.ntmps26
  go_upto_region 1 with fail
  rw [← hW1, ← hb1]
  clear hW1 hb1
  go_wp2_with fail
  go_loopw [5, 6] (fun o i wr => o = .int .i64 1 ∧ i = .int .i64 0 ∧ Hid (wr = W1)) (fun _ _ _ => 0)
  case atStart => exact ⟨rfl, rfl, Lib.hid rfl⟩
  obtain ⟨rfl, rfl, hwr⟩ := hrel
  obtain rfl := hwr.out.symm
  clear hwr
  go_wp2_with fail
  refine bodyPost_ret nd_res (by rfl) ⟨rfl, HB.out⟩
theorem sh_res {W : World} {tmps : Array Value} : (results Tryz.f27 tmps).run Tryz.prog W = .ok (tmps.getD 2 undef) W := by
  simp [results, Tryz.results27, go_sem]
set_option maxRecDepth 100000 in
theorem lic_c (w : World) : Calls Tryz.prog 27 #[.agg #[.string ⟨#[]⟩, .slice none 0 0, .slice none 0 0, .int .i64 0, .int .i64 0, .int .i64 0, .int .i64 0]] w fun e w' => e = .returned (.bool true) ∧ Below w.heap.size w w' := by
  obtain ⟨W1, hW1⟩ : ∃ W, W = w.alloc (.cells #[.string ⟨#[]⟩, .slice none 0 0, .slice none 0 0, .int .i64 0, .int .i64 0, .int .i64 0, .int .i64 0] 77) := ⟨_, rfl⟩
  obtain ⟨b1, hb1⟩ : ∃ x, x = w.heap.size := ⟨_, rfl⟩
  have hB1 : Below w.heap.size w W1 := by rw [hW1]; exact (Below.refl _ _).alloc (Nat.le_refl _) _
  have hK1 : Bk W1 b1 #[.string ⟨#[]⟩, .slice none 0 0, .slice none 0 0, .int .i64 0, .int .i64 0, .int .i64 0, .int .i64 0] 77 := by rw [hW1, hb1]; exact Bk.new _ _ _
  have c0 : W1.cell? ⟨b1, 0, none⟩ = some (.string ⟨#[]⟩) := by rw [hK1.cell]; rfl
  have c1 : W1.cell? ⟨b1, 1, none⟩ = some (.slice none 0 0) := by rw [hK1.cell]; rfl
  have c2 : W1.cell? ⟨b1, 2, none⟩ = some (.slice none 0 0) := by rw [hK1.cell]; rfl
  have l1 := hK1.lt
  have HB := Lib.hid hB1
  clear hK1 hB1
  go_enter Tryz.func27, Tryz.ntmps27
  go_upto_region 1 with fail
  rw [← hW1, ← hb1]
  clear hW1 hb1
  go_wp2_with fail
  go_loopw [3] (fun i wr => i = .int .i64 0 ∧ Hid (wr = W1)) (fun _ _ => 0)
  case atStart => exact ⟨rfl, Lib.hid rfl⟩
  obtain ⟨rfl, hwr⟩ := hrel
  obtain rfl := hwr.out.symm
  clear hwr
  go_wp2_with fail
  go_loopw [4] (fun i wr => i = .int .i64 0 ∧ Hid (wr = W1)) (fun _ _ => 0)
  case atStart => exact ⟨rfl, Lib.hid rfl⟩
  obtain ⟨rfl, hwr⟩ := hrel
  obtain rfl := hwr.out.symm
  clear hwr
  go_wp2_with fail
  refine bodyPost_ret sh_res (by rfl) ⟨rfl, HB.out⟩
theorem ho_res {W : World} {tmps : Array Value} : (results Tryz.f28 tmps).run Tryz.prog W = .ok (tmps.getD 4 undef) W := by
  simp [results, Tryz.results28, go_sem]
def noHold : List Value := [.string ⟨#[]⟩, .string ⟨#[]⟩, .string ⟨#[]⟩, .string ⟨#[]⟩, .string ⟨#[]⟩, .slice none 0 0, .int .i64 0, .int .i64 0, .int .i64 0, .int .i64 0]
set_option maxRecDepth 100000 in
set_option maxHeartbeats 4000000 in
theorem hold_c (g : Nat) (w : World) (hk : Bk w g #[.string ⟨#[]⟩, .string ⟨#[]⟩, .string ⟨#[]⟩, .string ⟨#[]⟩, .string ⟨#[]⟩, .slice none 0 0, .int .i64 0, .int .i64 0, .int .i64 0, .int .i64 0] 79) : Calls Tryz.prog 28 #[.slice (some ⟨g, 0, none⟩) 1 1, .int .i64 1] w fun e w' => e = .returned (.bool true) ∧ Below w.heap.size w w' := by
  have d0 : w.cell? ⟨g, 0, none⟩ = some (.string ⟨#[]⟩) := by rw [hk.cell]; rfl
  have d1 : w.cell? ⟨g, 1, none⟩ = some (.string ⟨#[]⟩) := by rw [hk.cell]; rfl
  have d2 : w.cell? ⟨g, 2, none⟩ = some (.string ⟨#[]⟩) := by rw [hk.cell]; rfl
  have d3 : w.cell? ⟨g, 3, none⟩ = some (.string ⟨#[]⟩) := by rw [hk.cell]; rfl
  have d4 : w.cell? ⟨g, 4, none⟩ = some (.string ⟨#[]⟩) := by rw [hk.cell]; rfl
  have d5 : w.cell? ⟨g, 5, none⟩ = some (.slice none 0 0) := by rw [hk.cell]; rfl
  have d6 : w.cell? ⟨g, 6, none⟩ = some (.int .i64 0) := by rw [hk.cell]; rfl
  have d7 : w.cell? ⟨g, 7, none⟩ = some (.int .i64 0) := by rw [hk.cell]; rfl
  have d8 : w.cell? ⟨g, 8, none⟩ = some (.int .i64 0) := by rw [hk.cell]; rfl
  have d9 : w.cell? ⟨g, 9, none⟩ = some (.int .i64 0) := by rw [hk.cell]; rfl
  have l0 := hk.lt
  obtain ⟨W1, hW1⟩ : ∃ W, W = w.alloc (.cells #[.string ⟨#[]⟩, .string ⟨#[]⟩, .string ⟨#[]⟩, .string ⟨#[]⟩, .string ⟨#[]⟩, .slice none 0 0, .int .i64 0, .int .i64 0, .int .i64 0, .int .i64 0] 79) := ⟨_, rfl⟩
  obtain ⟨b1, hb1⟩ : ∃ x, x = w.heap.size := ⟨_, rfl⟩
  have hB1 : Below w.heap.size w W1 := by rw [hW1]; exact (Below.refl _ _).alloc (Nat.le_refl _) _
  have hK1 : Bk W1 b1 #[.string ⟨#[]⟩, .string ⟨#[]⟩, .string ⟨#[]⟩, .string ⟨#[]⟩, .string ⟨#[]⟩, .slice none 0 0, .int .i64 0, .int .i64 0, .int .i64 0, .int .i64 0] 79 := by rw [hW1, hb1]; exact Bk.new _ _ _
  have c0 : W1.cell? ⟨b1, 0, none⟩ = some (.string ⟨#[]⟩) := by rw [hK1.cell]; rfl
  have c1 : W1.cell? ⟨b1, 1, none⟩ = some (.string ⟨#[]⟩) := by rw [hK1.cell]; rfl
  have c2 : W1.cell? ⟨b1, 2, none⟩ = some (.string ⟨#[]⟩) := by rw [hK1.cell]; rfl
  have c3 : W1.cell? ⟨b1, 3, none⟩ = some (.string ⟨#[]⟩) := by rw [hK1.cell]; rfl
  have c4 : W1.cell? ⟨b1, 4, none⟩ = some (.string ⟨#[]⟩) := by rw [hK1.cell]; rfl
  have c5 : W1.cell? ⟨b1, 5, none⟩ = some (.slice none 0 0) := by rw [hK1.cell]; rfl
  have l1 := hK1.lt
  have HB := Lib.hid hB1
  have HW := Lib.hid hW1
  have Hb := Lib.hid hb1
  clear hK1 hB1 hk hW1 hb1
  go_enter Tryz.func28, Tryz.ntmps28
  go_wp2_with fail
  go_loopw [5] (fun i wr => (i = .int .i64 0 ∧ Hid (wr = w)) ∨ (i = .int .i64 1 ∧ Hid (wr = W1))) (fun i _ => 1 - (intOf i).toNat)
  case atStart => exact .inl ⟨rfl, Lib.hid rfl⟩
  rcases hrel with ⟨rfl, hwr⟩ | ⟨rfl, hwr⟩
  · obtain rfl := hwr.out
    clear hwr
    go_upto_region 7 with fail
    rw [← HW.out, ← Hb.out]
    go_wp2_with fail
    go_loopw [7] (fun i wr => i = .int .i64 0 ∧ Hid (wr = W1)) (fun _ _ => 0)
    case atStart => exact ⟨rfl, Lib.hid rfl⟩
    obtain ⟨rfl, hwr⟩ := hrel
    obtain rfl := hwr.out.symm
    clear hwr
    go_wp2_with fail
    go_roundw
    case rel => exact .inr ⟨by go_num, Lib.hid (by first | trivial | rfl)⟩
    case measure => simp [intOf]
  · obtain rfl := hwr.out.symm
    clear hwr
    go_wp2_with fail
    refine bodyPost_ret ho_res (by rfl) ⟨rfl, HB.out⟩
end Go.Proofs.YtckocgkndbdhcaaGreatDoor

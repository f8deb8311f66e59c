/-
  'Instant', 'Begin'.
-/
import Derived.Test.YtakadfdnhlfijaaGreatDoorClLocal
namespace Go.Proofs.YtakadfdnhlfijaaGreatDoor
open Go.RowKit Go.Cz Go.Cz.Ck Go.Shelf
set_option linter.unusedSimpArgs false
set_option linter.unusedVariables false
attribute [local go_sem] Oper.semAt_some
attribute [local irreducible] cList

/-- The test of 'Instant' in its own words. -/
def hitW (loc : Int) (p : Shift × Int) : Prop := max p.1.1 (wrap64 (loc - p.1.2)) ≤ p.2
theorem hitW_iff {loc : Int} {p : Shift × Int} (h1 : -1000000000 ≤ loc) (h2 : loc ≤ 1000000000) (h3 : -840 ≤ p.1.2) (h4 : p.1.2 ≤ 840) : hitW loc p ↔ hit loc p = true := by
  unfold hitW hit
  have : wrap64 (loc - p.1.2) = loc - p.1.2 := by unfold wrap64; omega
  rw [this, decide_eq_true_eq]
theorem wrap_loc {loc o : Int} (h1 : -1000000000 ≤ loc) (h2 : loc ≤ 1000000000) (h3 : -840 ≤ o) (h4 : o ≤ 840) : wrap64 (loc - o) = loc - o := by unfold wrap64; omega
def InsI (w : World) (B L : Nat) (x : Option Addr) (m c : Nat) (loc : Int) (pre : List (Shift × Int)) (W : World) : Prop :=
  Bk W (B + 1) #[.int .i64 0] 3 ∧ Bk W (B + 2) #[.int .i64 0] 35 ∧ Bk W L #[.int .i64 loc] 3 ∧ Bk W (L + 1) #[.slice x m c] 66 ∧ Below w.heap.size w W ∧ (∀ p ∈ pre, ¬ hitW loc p)
def InsX (w : World) (B : Nat) (loc : Int) (e : Code) (pre : List (Shift × Int)) (W : World) : Prop :=
  Below w.heap.size w W ∧ e = .ret ∧ ∃ ini p, pre = ini ++ [p] ∧ (∀ y ∈ ini, ¬ hitW loc y) ∧ hitW loc p ∧ Bk W (B + 1) #[.int .i64 (max p.1.1 (wrap64 (loc - p.1.2)))] 3 ∧ Bk W (B + 2) #[.int .i64 0] 35
/-- What 'Instant' leaves. -/
def InsPost (w : World) (v e : Int) (en : Ending) (w' : World) : Prop := en = .returned (.tuple #[.int .i64 v, .int .i64 e]) ∧ Below w.heap.size w w'
theorem Ins_res {B : Nat} {w' : World} {tmps : Array Value} {v e : Int} (h6 : tmps.getD 6 undef = .pointer (some ⟨B + 1, 0, none⟩)) (h7 : tmps.getD 7 undef = .pointer (some ⟨B + 2, 0, none⟩))
    (b1 : Bk w' (B + 1) #[.int .i64 v] 3) (b2 : Bk w' (B + 2) #[.int .i64 e] 35) : (results Tryz.f79 tmps).run Tryz.prog w' = .ok (.tuple #[.int .i64 v, .int .i64 e]) w' := by
  have c1 : w'.cell? ⟨B + 1, 0, none⟩ = some (.int .i64 v) := by rw [b1.cell]; rfl
  have c2 : w'.cell? ⟨B + 2, 0, none⟩ = some (.int .i64 e) := by rw [b2.cell]; rfl
  have h6' : tmps[6]?.getD undef = .pointer (some ⟨B + 1, 0, none⟩) := by simpa using h6
  have h7' : tmps[7]?.getD undef = .pointer (some ⟨B + 2, 0, none⟩) := by simpa using h7
  simp [results, Tryz.results79, go_sem, h6', h7', c1, c2]
/-- The two results, written. -/
theorem Ins_end {B : Nat} {w W : World} {v0 e0 : Value} (hB : B = w.heap.size) (b1 : Bk W (B + 1) #[v0] 3) (b2 : Bk W (B + 2) #[e0] 35) (hb : Below w.heap.size w W) (v e : Int) :
    Bk ((W.setCell ⟨B + 1, 0, none⟩ (.int .i64 v)).setCell ⟨B + 2, 0, none⟩ (.int .i64 e)) (B + 1) #[.int .i64 v] 3 ∧ Bk ((W.setCell ⟨B + 1, 0, none⟩ (.int .i64 v)).setCell ⟨B + 2, 0, none⟩ (.int .i64 e)) (B + 2) #[.int .i64 e] 35 ∧
    Below w.heap.size w ((W.setCell ⟨B + 1, 0, none⟩ (.int .i64 v)).setCell ⟨B + 2, 0, none⟩ (.int .i64 e)) := by
  refine ⟨(b1.set 0 (.int .i64 v)).other (by simp) _, (b2.other (by simp) _).set 0 _, (hb.setCell (p := ⟨B + 1, 0, none⟩) (by simp; omega) _).setCell (p := ⟨B + 2, 0, none⟩) (by simp; omega) _⟩
theorem Ins_take {w W : World} {B D : Nat} {v e : Int} (b1 : Bk W (B + 1) #[.int .i64 v] 3) (b2 : Bk W (B + 2) #[.int .i64 e] 35) (hb : Below w.heap.size w W) (hD : w.heap.size ≤ D) (hK : W.heap[D]? = some (.deferred (some []))) :
    ∃ w', (Instr.takeDeferred D).run Tryz.prog W = .ok [] w' ∧ Bk w' (B + 1) #[.int .i64 v] 3 ∧ Bk w' (B + 2) #[.int .i64 e] 35 ∧ Below w.heap.size w w' := by
  have hg := grownBy_putObj' W D (.deferred none)
  have hr : ∀ r, some D = some r → ∃ o : Obj, W.heap[r]? = some o ∧ o.isCells = false := fun r e => by cases e; exact ⟨_, hK, rfl⟩
  exact ⟨_, run_takeDeferred hK, b1.grown hg hr, b2.grown hg hr, hb.trans (belowK_b (w := w) (Nat.le_refl _) W D _ _ hD hK rfl rfl)⟩
set_option maxRecDepth 100000 in
set_option maxHeartbeats 4000000 in
theorem Instant_c (x : Option Addr) (m c : Nat) (l : List Shift) (day minute : Int) (w : World) (hx : IsShifts w x m l) :
    Calls Tryz.prog 79 #[.agg #[.slice x m c], .int .i64 day, .int .i64 minute] w (InsPost w (instF l day minute).1 (instF l day minute).2) := by
  have HV := Lib.hid fun (W : World) (hb : Below w.heap.size w W) => Valid_c x m c l W (hx.below hb)
  obtain ⟨B, hB⟩ : ∃ B, B = w.heap.size := ⟨_, rfl⟩
  by_cases hearly : validB l = false ∨ minute < 0 ∨ 1440 ≤ minute ∨ 100001 < day
  · obtain ⟨v, e, he, hcase⟩ : ∃ v e, instF l day minute = (v, e) ∧ v = 0 ∧ ((validB l = false ∧ e = 1) ∨ (validB l = true ∧ minute < 0 ∧ e = 1) ∨ (validB l = true ∧ ¬ minute < 0 ∧ 1440 ≤ minute ∧ e = 1) ∨ (validB l = true ∧ ¬ minute < 0 ∧ ¬ 1440 ≤ minute ∧ 100001 < day ∧ e = 10)) := by
      by_cases hv : validB l = true
      · by_cases h1 : minute < 0
        · exact ⟨0, 1, by simp [instF, h1]; omega, rfl, .inr (.inl ⟨hv, h1, rfl⟩)⟩
        · by_cases h2 : 1440 ≤ minute
          · exact ⟨0, 1, by simp [instF]; omega, rfl, .inr (.inr (.inl ⟨hv, h1, h2, rfl⟩))⟩
          · have h3 : 100001 < day := by rcases hearly with h | h | h | h <;> simp_all
            exact ⟨0, 10, by unfold instF; rw [if_pos (by simp [hv]; omega), if_pos h3], rfl, .inr (.inr (.inr ⟨hv, h1, h2, h3, rfl⟩))⟩
      · have hv' : validB l = false := by simpa using hv
        exact ⟨0, 1, by simp [instF, hv'], rfl, .inl ⟨hv', rfl⟩⟩
    obtain ⟨rfl, hcase⟩ := hcase
    rw [he]
    clear he hearly
    have key : ∀ vb : Bool, validB l = vb → Hid (∀ (W : World), Below w.heap.size w W → Calls Tryz.prog 40 #[.agg #[.slice x m c]] W fun e w' => e = .returned (.bool vb) ∧ Below W.heap.size W w') := fun vb hvb => hvb ▸ HV
    rcases hcase with ⟨hv, rfl⟩ | ⟨hv, h1, rfl⟩ | ⟨hv, h1, h2, rfl⟩ | ⟨hv, h1, h2, h3, rfl⟩
    all_goals
      have HV' := key _ hv
      clear key HV hv hx
      go_enter Tryz.func79, Tryz.ntmps79
      go_wp2_with fail
      go_at_call 40
      refine (HV'.out _ (by repeat (first | exact Below.refl _ _ | (refine Below.drew ?_) | (refine Below.alloc ?_ (by (try simp only [World.size_alloc, World.size_setCell, World.size_drew] at *); omega) _) | (refine Below.setCell ?_ (by (try simp only [World.size_alloc, World.size_setCell, World.size_drew] at *); omega) _)))).mono ?_
      rintro e w1 ⟨rfl, hb1⟩
      have b1 := ((Bk.new (w.alloc (.cells #[.slice x m c] 66)) #[.int .i64 0] 3).alloc (.cells #[.int .i64 0] 35)).below hb1
      have b2 := (Bk.new ((w.alloc (.cells #[.slice x m c] 66)).alloc (.cells #[.int .i64 0] 3)) #[.int .i64 0] 35).below hb1
      simp only [World.size_alloc] at b1 b2
      have hb : Below w.heap.size w w1 := by repeat (first | exact Below.refl _ _ | (refine Below.trans ?_ (hb1.mono (by have z0 := hb1.size; (try simp only [World.size_alloc, World.size_setCell, World.size_drew] at *); omega))) | (refine Below.drew ?_) | (refine Below.alloc ?_ (by have z0 := hb1.size; (try simp only [World.size_alloc, World.size_setCell, World.size_drew] at *); omega) _) | (refine Below.setCell ?_ (by have z0 := hb1.size; (try simp only [World.size_alloc, World.size_setCell, World.size_drew] at *); omega) _))
      rw [← hB] at b1 b2
      have g1 : w1.cell? ⟨B + 1, 0, none⟩ = some (.int .i64 0) := by rw [b1.cell]; rfl
      have g2 : w1.cell? ⟨B + 2, 0, none⟩ = some (.int .i64 0) := by rw [b2.cell]; rfl
      have g3 := b1.free 0
      have g4 := b2.free 0
      have l1 := b1.lt
      have l2 := b2.lt
      first
      | (have Hend := Lib.hid (Ins_end hB b1 b2 hb 0 1)
         have hB' : w.heap.size = B := hB.symm
         clear b1 b2 hb hb1 hB
         go_wp2_with fail
         exact bodyPost_ret (Ins_res (B := B) rfl rfl Hend.out.1 Hend.out.2.1) rfl ⟨rfl, Hend.out.2.2⟩)
      | (have Hend := Lib.hid (Ins_end hB b1 b2 hb 0 10)
         have hB' : w.heap.size = B := hB.symm
         clear b1 b2 hb hb1 hB
         go_wp2_with fail
         exact bodyPost_ret (Ins_res (B := B) rfl rfl Hend.out.1 Hend.out.2.1) rfl ⟨rfl, Hend.out.2.2⟩)
  · have hv : validB l = true := by
      cases h : validB l with
      | true => rfl
      | false => exact absurd (.inl h) hearly
    have q1 : ¬ minute < 0 := fun h => hearly (.inr (.inl h))
    have q2 : ¬ 1440 ≤ minute := fun h => hearly (.inr (.inr (.inl h)))
    have q3 : ¬ 100001 < day := fun h => hearly (.inr (.inr (.inr h)))
    have hva := valid_all hv
    have hvl := valid_len hv
    have hm20 : m ≤ 20 := by rw [← hx.1]; exact hvl.2
    obtain ⟨E, hE⟩ : ∃ E, E = max day (-2) := ⟨_, rfl⟩
    have hE' : max day (-2) = E := hE.symm
    have hE1 : -2 ≤ E := by omega
    have hE2 : E ≤ 100001 := by omega
    obtain ⟨loc, hloc⟩ : ∃ loc, loc = E * 1440 + minute := ⟨_, rfl⟩
    have hl1 : -1000000000 ≤ loc := by omega
    have hl2 : loc ≤ 1000000000 := by omega
    have HF : Hid (instF l day minute = match (spans l).find? (hit loc) with | some p => (max p.1.1 (loc - p.1.2), 0) | none => (0, 10)) := by
      show _ = _
      unfold instF
      rw [if_pos (by simp [hv]; omega), if_neg q3, ← hE, ← hloc]
      generalize (spans l).find? (hit loc) = o
      cases o <;> rfl
    have HF1 : Hid (∀ ini p, (ini ++ [p]) <+: spans l → (∀ y ∈ ini, ¬ hitW loc y) → hitW loc p → instF l day minute = (max p.1.1 (wrap64 (loc - p.1.2)), 0)) := fun ini p h1 h2 h3 => by
      have hp : ∀ y ∈ spans l, -840 ≤ y.1.2 ∧ y.1.2 ≤ 840 := fun y hy => by have := hva y.1 (spans_fst l y hy); omega
      have hb := hp p (prefix_mem h1)
      rw [HF.out, find_prefix h1 (fun y hy => by
        have hb := hp y (h1.subset (by simp [hy]))
        have := h2 y hy
        rw [hitW_iff hl1 hl2 hb.1 hb.2] at this
        simpa using this) ((hitW_iff hl1 hl2 hb.1 hb.2).1 h3), wrap_loc hl1 hl2 hb.1 hb.2]
    have HF0 : Hid ((∀ y ∈ spans l, ¬ hitW loc y) → instF l day minute = (0, 10)) := fun h => by
      have hp : ∀ y ∈ spans l, -840 ≤ y.1.2 ∧ y.1.2 ≤ 840 := fun y hy => by have := hva y.1 (spans_fst l y hy); omega
      rw [HF.out, find_none (fun y hy => by
        have hb := hp y hy
        have := h y hy
        rw [hitW_iff hl1 hl2 hb.1 hb.2] at this
        simpa using this)]
    have hloc' : E * 1440 + minute = loc := hloc.symm
    rw [hv] at HV
    have Hx := Lib.hid hx
    have Hva := Lib.hid hva
    clear hv hx hva hvl hE hloc hearly HF
    refine calls_marks 8 Tryz.func79 rfl ?_
    simp only [Tryz.ntmps79, List.size_toArray, List.length_cons, List.length_nil, Nat.reduceAdd, Nat.reduceSub, Array.replicate_succ, Array.replicate_zero, List.push_toArray, List.append_toArray, List.nil_append, List.cons_append]
    go_wp2_with fail
    go_at_call 40
    refine (HV.out _ (by repeat (first | exact Below.refl _ _ | (refine Below.drew ?_) | (refine Below.alloc ?_ (by (try simp only [World.size_alloc, World.size_setCell, World.size_drew] at *); omega) _) | (refine Below.setCell ?_ (by (try simp only [World.size_alloc, World.size_setCell, World.size_drew] at *); omega) _)))).mono ?_
    rintro e w1 ⟨rfl, hb1⟩
    have b0 := (((Bk.new w #[.slice x m c] 66).alloc (.cells #[.int .i64 0] 3)).alloc (.cells #[.int .i64 0] 35)).below hb1
    have b1 := ((Bk.new (w.alloc (.cells #[.slice x m c] 66)) #[.int .i64 0] 3).alloc (.cells #[.int .i64 0] 35)).below hb1
    have b2 := (Bk.new ((w.alloc (.cells #[.slice x m c] 66)).alloc (.cells #[.int .i64 0] 3)) #[.int .i64 0] 35).below hb1
    simp only [World.size_alloc] at b1 b2
    have hb : Below w.heap.size w w1 := by repeat (first | exact Below.refl _ _ | (refine Below.trans ?_ (hb1.mono (by have z0 := hb1.size; (try simp only [World.size_alloc, World.size_setCell, World.size_drew] at *); omega))) | (refine Below.drew ?_) | (refine Below.alloc ?_ (by have z0 := hb1.size; (try simp only [World.size_alloc, World.size_setCell, World.size_drew] at *); omega) _) | (refine Below.setCell ?_ (by have z0 := hb1.size; (try simp only [World.size_alloc, World.size_setCell, World.size_drew] at *); omega) _))
    rw [← hB] at b0 b1 b2
    have cz : w1.cell? ⟨B, 0, none⟩ = some (.slice x m c) := by rw [b0.cell]; rfl
    have l0 := b0.lt
    have l2 := b2.lt
    have HB := Lib.hid (And.intro b1 (And.intro b2 hb))
    have hB' : w.heap.size = B := hB.symm
    have HBe := Lib.hid hB
    clear hb1 b0 b1 b2 hb hB
    go_wp2_with fail
    go_at_call 104
    refine (spans_c _ _ _ _).mono ?_
    rintro e w3 ⟨rfl, rfl⟩
    go_wp2_with fail
    obtain ⟨L, hL⟩ : ∃ L, L = w1.heap.size := ⟨_, rfl⟩
    rw [← hL] at l0 l2 ⊢
    obtain ⟨b1, b2, hb⟩ := HB.out
    have bL := (Bk.new w1 #[.int .i64 loc] 3).alloc (.cells #[.slice x m c] 66)
    have bz := Bk.new (w1.alloc (.cells #[.int .i64 loc] 3)) #[.slice x m c] 66
    have b1' := (b1.alloc (.cells #[.int .i64 loc] 3)).alloc (.cells #[.slice x m c] 66)
    have b2' := (b2.alloc (.cells #[.int .i64 loc] 3)).alloc (.cells #[.slice x m c] 66)
    have hB0 : Below w.heap.size w ((w1.alloc (.cells #[.int .i64 loc] 3)).alloc (.cells #[.slice x m c] 66)) := (hb.alloc hb.size _).alloc (by have := hb.size; simp; omega) _
    have hsz : ((w1.alloc (.cells #[.int .i64 loc] 3)).alloc (.cells #[.slice x m c] 66)).heap.size = L + 2 := by simp; omega
    rw [← hL] at bL
    rw [World.size_alloc, ← hL] at bz
    obtain ⟨W0, hW0⟩ : ∃ W0, (w1.alloc (.cells #[.int .i64 loc] 3)).alloc (.cells #[.slice x m c] 66) = W0 := ⟨_, rfl⟩
    rw [hW0] at bL bz b1' b2' hB0 hsz ⊢
    clear hW0 hL cz HB b1 b2 hb
    rw [← wpIn_wide (n := 8)]
    refine wpIn_rangeFunc_ownH rfl (by omega) (gf := 122) (lb := #[.pointer (some ⟨L + 1, 0, none⟩)]) rfl trivial (enters_of Tryz.func122 (by kernel_rfl) rfl)
      (spans_stops 7 (by omega) (L + 1) w x m c l Hx.out hm20 (fun s hs => ⟨(Hva.out s hs).1, (Hva.out s hs).2.1⟩) W0 hB0 bz) Kz.trans (Kz.turn hB0.size (by omega)) (Below.refl _ _) (fun _ => rfl)
      (InsI w B L x m c loc) (InsX w B loc)
      (fun s A C row hs hg hr => ⟨hs.1.grown hg fun r e => (hr r e).2, hs.2.1.grown hg fun r e => (hr r e).2, hs.2.2.1.grown hg fun r e => (hr r e).2, hs.2.2.2.1.grown hg fun r e => (hr r e).2, hs.2.2.2.2.1.grown hg hs.2.2.2.2.1.size (fun r e => by have := (hr r e).1; have := HBe.out; omega), hs.2.2.2.2.2⟩)
      (fun e s A C row hs hg hr => by
        obtain ⟨h1, h2, ini, p, h3, h4, h5, h6, h7⟩ := hs
        exact ⟨h1.grown hg h1.size (fun r e => by have := (hr r e).1; have := HBe.out; omega), h2, ini, p, h3, h4, h5, h6.grown hg fun r e => (hr r e).2, h7.grown hg fun r e => (hr r e).2⟩)
      ⟨b1', b2', bL, bz, hB0, by simp⟩
      (fun p a' W => ∃ Bx, L + 1 < Bx ∧ Bk W Bx #[.int .i64 p.1.1, .int .i64 p.1.2, .int .i64 p.2] 138 ∧ a' = { tmps := #[.agg #[.slice x m c], .int .i64 day, .int .i64 minute, .pointer (some ⟨B, 0, none⟩), undef, undef, .pointer (some ⟨B + 1, 0, none⟩), .pointer (some ⟨B + 1 + 1, 0, none⟩), .pointer (some ⟨L, 0, none⟩), .pointer (some ⟨Bx, 0, none⟩), undef, .bool (decide (minute < 0) || decide (1440 ≤ minute)), .agg #[.slice x m c], .bool true, .bool false, .bool false, .int .i64 minute, .bool (decide (minute < 0)), .bool (decide (minute < 0)), .bool (decide (minute < 0)), .int .i64 minute, .bool (decide (1440 ≤ minute)), .bool (decide (minute < 0) || decide (1440 ≤ minute)), .bool (decide (100001 < day)), .int .i64 day, .bool (decide (100001 < day)), .int .i64 day, .int .i64 E, .int .i64 (E * 1440), .int .i64 minute, .int .i64 loc, .agg #[.slice x m c], .func (.func 122) #[] #[.pointer (some ⟨L + 1, 0, none⟩)], .agg #[.int .i64 p.1.1, .int .i64 p.1.2, .int .i64 p.2], undef, undef, undef, undef, undef, undef, undef, undef, undef, undef, undef, undef, undef, undef], defers := [] })
      (fun p a' _ X Y row hs hg hr => by obtain ⟨Bx, h1, h2, h3⟩ := hs; exact ⟨Bx, h1, h2.grown hg fun r e => (hr r e).2, h3⟩)
      ?assign ?body ?done ?stop
    case assign =>
      rintro lp pre p W K ⟨i1, i2, i3, i4, i5, i6⟩ hK
      have hlt := i4.lt
      have hs4 := i5.size
      clear hB'
      unfold encS
      gi_wp2
      refine hK _ _ ((KeepsOthers.alloc _ _).from _) ((Kz.refl w (L + 1) W).alloc hs4 hlt _) ⟨i1.alloc _, i2.alloc _, i3.alloc _, i4.alloc _, i5.alloc hs4 _, i6⟩ ⟨W.heap.size, hlt, Bk.new W _ _, rfl⟩
    case body =>
      rintro lp pre p a' W hl ⟨r, hr⟩ ⟨i1, i2, i3, i4, i5, i6⟩ ⟨Bx, hBx, bX, rfl⟩ hlt
      have c1 : W.cell? ⟨B + 1, 0, none⟩ = some (.int .i64 0) := by rw [i1.cell]; rfl
      have c2 : W.cell? ⟨B + 1 + 1, 0, none⟩ = some (.int .i64 0) := by rw [i2.cell]; rfl
      have f1 := i1.free 0
      have f2 : W.frozen? ⟨B + 1 + 1, 0, none⟩ = false := i2.free 0
      have cL : W.cell? ⟨L, 0, none⟩ = some (.int .i64 loc) := by rw [i3.cell]; rfl
      have cX0 : W.cell? ⟨Bx, 0, none⟩ = some (.int .i64 p.1.1) := by rw [bX.cell]; rfl
      have cX1 : W.cell? ⟨Bx, 1, none⟩ = some (.int .i64 p.1.2) := by rw [bX.cell]; rfl
      have cX2 : W.cell? ⟨Bx, 2, none⟩ = some (.int .i64 p.2) := by rw [bX.cell]; rfl
      have l1 := i1.lt
      have l2' := i2.lt
      have l3 := i3.lt
      have lX := bX.lt
      by_cases hh : hitW loc p
      · have hE := Ins_end HBe.out i1 i2 i5 (max p.1.1 (wrap64 (loc - p.1.2))) 0
        have Hend := Lib.hid hE
        have H6 := Lib.hid i6
        have Hh := Lib.hid hh
        unfold hitW at hh
        clear i1 i2 i3 i4 i5 i6 bX hE hB'
        gi_wp2
        exact ⟨((KeepsOthers.setCell _ _ _).trans (KeepsOthers.setCell _ _ _)).from _, Hend.out.2.2, rfl, pre, p, rfl, H6.out, Hh.out, Hend.out.1, Hend.out.2.1⟩
      · have H : Hid (InsI w B L x m c loc (pre ++ [p]) W) := ⟨i1, i2, i3, i4, i5, fun y hy => (List.mem_append.1 hy).elim (i6 y) (fun e => by simp at e; subst e; exact hh)⟩
        unfold hitW at hh
        clear i1 i2 i3 i4 i5 i6 bX hB'
        gi_wp2
        exact ⟨KeepsFrom.refl _ _, Kz.refl _ _ _, H.out⟩
    case done =>
      rintro D xs W hD rfl ⟨i1, i2, i3, i4, i5, i6⟩ hK
      have c1 : W.cell? ⟨B + 1, 0, none⟩ = some (.int .i64 0) := by rw [i1.cell]; rfl
      have c2 : W.cell? ⟨B + 1 + 1, 0, none⟩ = some (.int .i64 0) := by rw [i2.cell]; rfl
      have f1 := i1.free 0
      have f2 : W.frozen? ⟨B + 1 + 1, 0, none⟩ = false := i2.free 0
      have l1 := i1.lt
      have l2' := i2.lt
      obtain ⟨j1, j2, j3⟩ := Ins_end HBe.out i1 i2 i5 0 10
      have hsz2 := hB0.size
      have HT := Lib.hid (Ins_take j1 j2 j3 (by omega) (((KeepsOthers.setCell _ _ _).trans (KeepsOthers.setCell _ _ _)).same D _ hK rfl))
      have HE := Lib.hid (HF0.out i6)
      clear i1 i2 i3 i4 i5 i6 j1 j2 j3 hB' hK bL bz b1' b2'
      go_wp2_with fail
      obtain ⟨w', hk, k1, k2, k3⟩ := HT.out
      exact ⟨by simp, .inl ⟨_, w', rfl, hk, _, Ins_res (B := B) rfl rfl k1 k2, by rw [HE.out], k3⟩⟩
    case stop =>
      rintro D e pre W hD hpre ⟨hB2, rfl, ini, p, rfl, h4, h5, h6, h7⟩ hK
      have hsz2 := hB0.size
      have HT := Lib.hid (Ins_take h6 h7 hB2 (by omega) hK)
      have HE := Lib.hid (HF1.out ini p hpre h4 h5)
      clear h4 h5 h6 h7 hpre hB2 hK hB' bL bz b1' b2'
      rw [wpIn_wide]
      go_wp2_with fail
      obtain ⟨w', hk, k1, k2, k3⟩ := HT.out
      exact ⟨by simp, .inl ⟨_, w', rfl, hk, _, Ins_res (B := B) rfl rfl k1 k2, by rw [HE.out], k3⟩⟩
end Go.Proofs.YtakadfdnhlfijaaGreatDoor

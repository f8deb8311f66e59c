/-
  'spans' as a value; 'Local'.
-/
import Derived.Test.YtkcbdlnoobjmbaaDoorClSpans
namespace Go.Proofs.YtkcbdlnoobjmbaaDoor
open Go.RowKit Go.Cz Go.Cz.Ck Go.Shelf
set_option linter.unusedSimpArgs false
set_option linter.unusedVariables false
attribute [local go_sem] Oper.semAt_some
attribute [local irreducible] cList

theorem spans_c (x : Option Addr) (m c : Nat) (w : World) :
    Calls Tryd.prog 38 #[.agg #[.slice x m c]] w fun e w' => e = .returned (.func (.func 47) #[] #[.pointer (some ⟨w.heap.size, 0, none⟩)]) ∧ w' = w.alloc (.cells #[.slice x m c] 29) := by
  go_enter Tryd.func38, Tryd.ntmps38
  go_wp2
  go_ret
  exact ⟨rfl, rfl⟩
theorem spans_stops (n : Nat) (hn : 1 ≤ n) (Bz : Nat) (w0 : World) (x : Option Addr) (m c : Nat) (l : List Shift) (hx : IsShifts w0 x m l) (hm : m ≤ 20) (hB : ∀ s ∈ l, 0 ≤ s.1 ∧ s.1 ≤ 144001439) (w : World) (hbw : Below w0.heap.size w0 w) (hBz : Bk w Bz #[.slice x m c] 29) :
    SeqStopsK Fence.wide n Tryd.prog 47 #[.pointer (some ⟨Bz, 0, none⟩)] encS (Kz w0 Bz) (fun ys => ys = spans l) (fun pre => pre <+: spans l) m w := fun lp J Jx W hW hJ _ hY h0 =>
  spans1_in Fence.wide n trivial rfl hn lp Bz w0 x m c l hx hm hB J Jx W hJ (hbw.trans (hW.mono hbw.size)) (hBz.below hW) hY h0
theorem Kz.turn {w0 w : World} {Bz : Nat} (hb : w0.heap.size ≤ w.heap.size) (hz : Bz < w.heap.size) (W : World) (l : Nat) (o o' : Obj) (hl : w.heap.size ≤ l) (h : W.heap[l]? = some o) (_ : o.isCells = false) (_ : o.isWalk = false) : Kz w0 Bz W (W.putObj l o') :=
  ⟨belowK_b hb W l o o' hl h ‹_› ‹_›, World.putObj_heap_other (by omega)⟩
/-- A function that holds a range over a function, entered; the calls in it are plain ones. -/
theorem calls_marks {P : Program} {f : FuncId} {fn : Func} {c : Code} {args : Array Value} {w : World} {R : Ending → World → Prop} (n : Nat) (hf : P.funcs[f]? = some fn) (hb : fn.body = some c)
    (h : c.wp P (bodyPostM Fence.wide n P fn R) { tmps := args ++ Array.replicate (fn.ntmps - args.size) undef, defers := [] } w) : Calls P f args w R :=
  (callsIn_wide (n := n)).1 (callsIn_of_wp_marks (F := Fence.wide) hf hb trivial (wpIn_wide.2 h) rfl)
/-- What holds between two rounds of 'Local', and what a round leaves that ends the loop. -/
def LocI (w : World) (L : Nat) (x : Option Addr) (m c : Nat) (t : Int) (pre : List (Shift × Int)) (W : World) : Prop :=
  Bk W (w.heap.size + 1) #[.int .i64 t] 3 ∧ Bk W L #[.int .i64 t] 3 ∧ Bk W (L + 1) #[.slice x m c] 29 ∧ Below w.heap.size w W ∧ (∀ p ∈ pre, p.2 < t)
def LocX (w : World) (L : Nat) (t : Int) (e : Code) (pre : List (Shift × Int)) (W : World) : Prop :=
  Below w.heap.size w W ∧ e = .exit 0 ∧ ∃ ini p, pre = ini ++ [p] ∧ (∀ y ∈ ini, y.2 < t) ∧ t ≤ p.2 ∧ Bk W L #[.int .i64 (wrap64 (t + p.1.2))] 3
set_option maxRecDepth 100000 in
set_option maxHeartbeats 4000000 in
theorem Local_c (x : Option Addr) (m c : Nat) (l : List Shift) (t : Int) (w : World) (hx : IsShifts w x m l) :
    Calls Tryd.prog 21 #[.agg #[.slice x m c], .int .i64 t] w fun e w' => e = .returned (.tuple #[.int .i64 (localF l t).1, .int .i64 (localF l t).2.1, .int .i64 (localF l t).2.2]) ∧ Below w.heap.size w w' := by
  have HV := Lib.hid fun (W : World) (hb : Below w.heap.size w W) => Valid_c x m c l W (hx.below hb)
  have HI := Lib.hid (instant_c t)
  by_cases hv : validB l = true
  · by_cases hi : instB t = true
    · obtain ⟨ht0, ht1⟩ := instB_true.1 hi
      have hva := valid_all hv
      have hvl := valid_len hv
      have hm20 : m ≤ 20 := by rw [← hx.1]; exact hvl.2
      have hne : l ≠ [] := by intro e; rw [e] at hvl; simp at hvl
      rw [hi] at HI
      rw [hv] at HV
      have HE : Hid (localF l t = ((t + off l t) / 1440, (t + off l t) % 1440, 0)) := by simp [Hid, localF, hv, hi]
      have Hx := Lib.hid hx
      have Hva := Lib.hid hva
      have Hne := Lib.hid hne
      clear hv hi hx hva hvl hne
      refine calls_marks 8 Tryd.func21 rfl ?_
      simp only [Tryd.ntmps21, List.size_toArray, List.length_cons, List.length_nil, Nat.reduceAdd, Nat.reduceSub, Array.replicate_succ, Array.replicate_zero, List.push_toArray, List.append_toArray, List.nil_append, List.cons_append]
      go_wp2_with fail
      go_at_call 23
      refine (HV.out _ (by repeat (first | exact Below.refl _ _ | (refine Below.drew ?_) | (refine Below.alloc ?_ (by (try simp only [World.size_alloc, World.size_setCell, World.size_drew] at *); omega) _) | (refine Below.setCell ?_ (by (try simp only [World.size_alloc, World.size_setCell, World.size_drew] at *); omega) _)))).mono ?_
      rintro e w1 ⟨rfl, hb1⟩
      have bZ := ((Bk.new w #[.slice x m c] 29).alloc (.cells #[.int .i64 t] 3)).below hb1
      have bT := (Bk.new (w.alloc (.cells #[.slice x m c] 29)) #[.int .i64 t] 3).below hb1
      have hb1' : Below w.heap.size w w1 := by repeat (first | exact Below.refl _ _ | (refine Below.trans ?_ (hb1.mono (by have z0 := hb1.size; (try simp only [World.size_alloc, World.size_setCell, World.size_drew] at *); omega))) | (refine Below.drew ?_) | (refine Below.alloc ?_ (by have z0 := hb1.size; (try simp only [World.size_alloc, World.size_setCell, World.size_drew] at *); omega) _) | (refine Below.setCell ?_ (by have z0 := hb1.size; (try simp only [World.size_alloc, World.size_setCell, World.size_drew] at *); omega) _))
      rw [World.size_alloc] at bT
      have cz : w1.cell? ⟨w.heap.size, 0, none⟩ = some (.slice x m c) := by rw [bZ.cell]; rfl
      have ct : w1.cell? ⟨w.heap.size + 1, 0, none⟩ = some (.int .i64 t) := by rw [bT.cell]; rfl
      have lz := bZ.lt
      have lt := bT.lt
      have Hb1 := Lib.hid (And.intro hb1' (And.intro bZ bT))
      clear hb1 hb1' bZ bT
      go_wp2_with fail
      go_at_call 37
      refine (HI.out _).mono ?_
      rintro e w2 ⟨rfl, rfl⟩
      go_wp2_with fail
      go_at_call 38
      refine (spans_c _ _ _ _).mono ?_
      rintro e w3 ⟨rfl, rfl⟩
      go_wp2_with fail
      obtain ⟨L, hL⟩ : ∃ L, L = w2.heap.size := ⟨_, rfl⟩
      rw [← hL] at lz lt ⊢
      have bL := (Bk.new w2 #[.int .i64 t] 3).alloc (.cells #[.slice x m c] 29)
      have bz := Bk.new (w2.alloc (.cells #[.int .i64 t] 3)) #[.slice x m c] 29
      have bT := (Hb1.out.2.2.alloc (.cells #[.int .i64 t] 3)).alloc (.cells #[.slice x m c] 29)
      have hB0 : Below w.heap.size w ((w2.alloc (.cells #[.int .i64 t] 3)).alloc (.cells #[.slice x m c] 29)) := (Hb1.out.1.alloc (by omega) _).alloc (by simp; omega) _
      have hsz : ((w2.alloc (.cells #[.int .i64 t] 3)).alloc (.cells #[.slice x m c] 29)).heap.size = L + 2 := by simp; omega
      rw [← hL] at bL
      rw [World.size_alloc, ← hL] at bz
      obtain ⟨W0, hW0⟩ : ∃ W0, (w2.alloc (.cells #[.int .i64 t] 3)).alloc (.cells #[.slice x m c] 29) = W0 := ⟨_, rfl⟩
      rw [hW0] at bL bz bT hB0 hsz ⊢
      clear hW0 hL cz ct Hb1
      rw [← wpIn_wide (n := 8)]
      refine wpIn_rangeFunc_ownH rfl (by omega) (gf := 47) (lb := #[.pointer (some ⟨L + 1, 0, none⟩)]) rfl trivial (enters_of Tryd.func47 (by kernel_rfl) rfl)
        (spans_stops 7 (by omega) (L + 1) w x m c l Hx.out hm20 (fun s hs => ⟨(Hva.out s hs).1, (Hva.out s hs).2.1⟩) W0 hB0 bz) Kz.trans (Kz.turn hB0.size (by omega)) (Below.refl _ _) (fun _ => rfl)
        (LocI w L x m c t) (LocX w L t)
        (fun s A B row hs hg hr => ⟨hs.1.grown hg fun r e => (hr r e).2, hs.2.1.grown hg fun r e => (hr r e).2, hs.2.2.1.grown hg fun r e => (hr r e).2, hs.2.2.2.1.grown hg hs.2.2.2.1.size (fun r e => by have := (hr r e).1; omega), hs.2.2.2.2⟩)
        (fun e s A B row hs hg hr => by
          obtain ⟨h1, h2, ini, p, h3, h4, h5, h6⟩ := hs
          exact ⟨h1.grown hg h1.size (fun r e => by have := (hr r e).1; omega), h2, ini, p, h3, h4, h5, h6.grown hg fun r e => (hr r e).2⟩)
        ⟨bT, bL, bz, hB0, by simp⟩
        (fun p a' W => ∃ Bx, L + 1 < Bx ∧ Bk W Bx #[.int .i64 p.1.1, .int .i64 p.1.2, .int .i64 p.2] 70 ∧ a' = { tmps := #[.agg #[.slice x m c], .int .i64 t, .pointer (some ⟨w.heap.size, 0, none⟩), .pointer (some ⟨w.heap.size + 1, 0, none⟩), .int .i64 0, .int .i64 0, .int .i64 0, .pointer (some ⟨L, 0, none⟩), .pointer (some ⟨Bx, 0, none⟩), undef, undef, .agg #[.slice x m c], .bool true, .bool false, .bool false, .int .i64 t, .bool true, .bool false, .bool false, .int .i64 t, .agg #[.slice x m c], .func (.func 47) #[] #[.pointer (some ⟨L + 1, 0, none⟩)], .agg #[.int .i64 p.1.1, .int .i64 p.1.2, .int .i64 p.2], undef, undef, undef, undef, undef, undef, undef, undef, undef, undef, undef, undef, undef, undef, undef, undef, undef, undef, undef, undef, undef], defers := [] })
        (fun p a' _ X Y row hs hg hr => by obtain ⟨Bx, h1, h2, h3⟩ := hs; exact ⟨Bx, h1, h2.grown hg fun r e => (hr r e).2, h3⟩)
        ?assign ?body ?done ?stop
      case assign =>
        rintro lp pre p W K ⟨i1, i2, i3, i4, i5⟩ hK
        have hlt := i3.lt
        have hs4 := i4.size
        unfold encS
        gi_wp2
        refine hK _ _ ((KeepsOthers.alloc _ _).from _) ((Kz.refl w (L + 1) W).alloc hs4 hlt _) ⟨i1.alloc _, i2.alloc _, i3.alloc _, i4.alloc hs4 _, i5⟩ ⟨W.heap.size, hlt, Bk.new W _ _, rfl⟩
      case body =>
        rintro lp pre p a' W hl ⟨r, hr⟩ ⟨i1, i2, i3, i4, i5⟩ ⟨Bx, hBx, bX, rfl⟩ hlt
        have cT : W.cell? ⟨w.heap.size + 1, 0, none⟩ = some (.int .i64 t) := by rw [i1.cell]; rfl
        have cL : W.cell? ⟨L, 0, none⟩ = some (.int .i64 t) := by rw [i2.cell]; rfl
        have fL := i2.free 0
        have cX1 : W.cell? ⟨Bx, 1, none⟩ = some (.int .i64 p.1.2) := by rw [bX.cell]; rfl
        have cX2 : W.cell? ⟨Bx, 2, none⟩ = some (.int .i64 p.2) := by rw [bX.cell]; rfl
        have l1 := i1.lt
        have l2 := i2.lt
        have l4 := i4.size
        have lX := bX.lt
        by_cases htp : t ≤ p.2
        · have Hend : Hid (Bk (W.setCell ⟨L, 0, none⟩ (.int .i64 (wrap64 (t + p.1.2)))) L #[.int .i64 (wrap64 (t + p.1.2))] 3) := i2.set 0 _
          have Hb : Hid (Below w.heap.size w (W.setCell ⟨L, 0, none⟩ (.int .i64 (wrap64 (t + p.1.2))))) := i4.setCell (p := ⟨L, 0, none⟩) (by show w.heap.size ≤ L; omega) _
          have H5 := Lib.hid i5
          clear i1 i2 i3 i4 i5 bX
          gi_wp2
          exact ⟨(KeepsOthers.setCell _ _ _).from _, Hb.out, rfl, pre, p, rfl, H5.out, htp, Hend.out⟩
        · have H := Lib.hid (And.intro i1 (And.intro i2 (And.intro i3 (And.intro i4 i5))))
          clear i1 i2 i3 i4 i5 bX
          gi_wp2
          exact ⟨KeepsFrom.refl _ _, Kz.refl _ _ _, H.out.1, H.out.2.1, H.out.2.2.1, H.out.2.2.2.1, fun y hy => (List.mem_append.1 hy).elim (H.out.2.2.2.2 y) (fun e => by simp at e; subst e; omega)⟩
      case done =>
        rintro D xs W hD rfl ⟨-, -, -, -, i5⟩ hK
        obtain ⟨p, h1, h2⟩ := spans_last l Hne.out
        exact absurd ht1 (by have := i5 p h1; omega)
      case stop =>
        rintro D e pre W hD hpre ⟨hB, rfl, ini, p, rfl, h4, h5, h6⟩ hK
        obtain ⟨-, -, o1, o2⟩ := Hva.out p.1 (spans_fst l p (prefix_mem hpre))
        have ho : wrap64 (t + p.1.2) = t + off l t := by rw [off_hit hpre h4 h5, IntWalk.wrap64_in _ (by omega)]
        rw [ho] at h6
        have ob1 : -840 ≤ t + off l t := by rw [off_hit hpre h4 h5]; omega
        have ob2 : t + off l t ≤ 144002279 := by rw [off_hit hpre h4 h5]; omega
        have cL : W.cell? ⟨L, 0, none⟩ = some (.int .i64 (t + off l t)) := by rw [h6.cell]; rfl
        have lL := h6.lt
        have HK : Hid (∃ w', (Instr.takeDeferred D).run Tryd.prog W.drew = .ok [] w' ∧ Below w.heap.size w w') :=
          ⟨_, run_takeDeferred (by exact hK), (hB.drew).trans (belowK_b (w := w) (Nat.le_refl _) W.drew D _ _ (by omega) (by exact hK) rfl rfl)⟩
        clear ho h4 h5 h6 hpre hB hK o1 o2 bL bz bT hB0
        generalize t + off l t = o at *
        rw [wpIn_wide]
        by_cases h0 : 0 ≤ o
        · go_wp2_with fail
          refine wp_region_can [] (List.range 6) (by kernel_rfl) (by kernel_rfl) ?_
          iterate 6 (refine cl_do rfl rfl rfl rfl (fun _ _ => ?_); go_wp2_with fail)
          refine cl_nil ?_
          go_wp2_with fail
          obtain ⟨w', hk, hb⟩ := HK.out
          refine ⟨by simp, .inl ⟨_, w', rfl, hk, _, results_tmp3 rfl _ _ _, ?_, hb⟩⟩
          rw [HE.out]
          simp [go_sem]
        · obtain ⟨e1, e2⟩ := tdiv_small (o := o) (by omega) (by omega)
          have e3 : o / 1440 = -1 := by omega
          have e4 : o % 1440 = o + 1440 := by omega
          rw [e3, e4] at HE
          clear e3 e4
          go_wp2_with fail
          refine wp_region_can [] (List.range 6) (by kernel_rfl) (by kernel_rfl) ?_
          iterate 6 (refine cl_do rfl rfl rfl rfl (fun _ _ => ?_); go_wp2_with fail)
          refine cl_nil ?_
          go_wp2_with fail
          obtain ⟨w', hk, hb⟩ := HK.out
          refine ⟨by simp, .inl ⟨_, w', rfl, hk, _, results_tmp3 rfl _ _ _, ?_, hb⟩⟩
          rw [HE.out]
          simp [go_sem]
    · have hi' : instB t = false := by simpa using hi
      have HE : Hid (localF l t = (0, 0, 1)) := by simp [Hid, localF, hi']
      rw [hi'] at HI
      rw [hv] at HV
      clear hv hi hi' hx
      go_enter Tryd.func21, Tryd.ntmps21
      go_wp2_with fail
      go_at_call 23
      refine (HV.out _ (by repeat (first | exact Below.refl _ _ | (refine Below.drew ?_) | (refine Below.alloc ?_ (by (try simp only [World.size_alloc, World.size_setCell, World.size_drew] at *); omega) _) | (refine Below.setCell ?_ (by (try simp only [World.size_alloc, World.size_setCell, World.size_drew] at *); omega) _)))).mono ?_
      rintro e w1 ⟨rfl, hb1⟩
      obtain ⟨hc1, hf1, hz1⟩ := bcall hb1
      have Hb1 : Hid (Below w.heap.size w w1) := by show Below _ _ _; repeat (first | exact Below.refl _ _ | (refine Below.trans ?_ (hb1.mono (by have z0 := hb1.size; (try simp only [World.size_alloc, World.size_setCell, World.size_drew] at *); omega))) | (refine Below.drew ?_) | (refine Below.alloc ?_ (by have z0 := hb1.size; (try simp only [World.size_alloc, World.size_setCell, World.size_drew] at *); omega) _) | (refine Below.setCell ?_ (by have z0 := hb1.size; (try simp only [World.size_alloc, World.size_setCell, World.size_drew] at *); omega) _))
      clear hb1
      go_wp2_with fail
      go_at_call 37
      refine (HI.out _).mono ?_
      rintro e w2 ⟨rfl, rfl⟩
      go_wp2_with fail
      refine bodyPost_ret (results_tmp3 rfl _ _ _) (by rfl) ⟨?_, Hb1.out⟩
      rw [HE.out]
      simp [go_sem]
  · have hv' : validB l = false := by simpa using hv
    have HE : Hid (localF l t = (0, 0, 1)) := by simp [Hid, localF, hv']
    rw [hv'] at HV
    clear hv hv' hx
    go_enter Tryd.func21, Tryd.ntmps21
    go_wp2_with fail
    go_at_call 23
    refine (HV.out _ (by repeat (first | exact Below.refl _ _ | (refine Below.drew ?_) | (refine Below.alloc ?_ (by (try simp only [World.size_alloc, World.size_setCell, World.size_drew] at *); omega) _) | (refine Below.setCell ?_ (by (try simp only [World.size_alloc, World.size_setCell, World.size_drew] at *); omega) _)))).mono ?_
    rintro e w1 ⟨rfl, hb1⟩
    have Hb1 : Hid (Below w.heap.size w w1) := by show Below _ _ _; repeat (first | exact Below.refl _ _ | (refine Below.trans ?_ (hb1.mono (by have z0 := hb1.size; (try simp only [World.size_alloc, World.size_setCell, World.size_drew] at *); omega))) | (refine Below.drew ?_) | (refine Below.alloc ?_ (by have z0 := hb1.size; (try simp only [World.size_alloc, World.size_setCell, World.size_drew] at *); omega) _) | (refine Below.setCell ?_ (by have z0 := hb1.size; (try simp only [World.size_alloc, World.size_setCell, World.size_drew] at *); omega) _))
    clear hb1
    go_wp2_with fail
    refine bodyPost_ret (results_tmp3 rfl _ _ _) (by rfl) ⟨?_, Hb1.out⟩
    rw [HE.out]
    simp [go_sem]
end Go.Proofs.YtkcbdlnoobjmbaaDoor

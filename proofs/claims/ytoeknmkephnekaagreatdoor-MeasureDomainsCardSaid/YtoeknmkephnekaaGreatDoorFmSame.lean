/-
  'Same', in the program and in the reference.
-/
import Derived.Test.YtoeknmkephnekaaGreatDoorFmFirst
namespace Go.Proofs.YtoeknmkephnekaaGreatDoor
open Go.RowKit Go.Cz Go.Cz.Lx Go.Cz.Fo
set_option linter.unusedSimpArgs false
set_option linter.unusedVariables false
attribute [local go_sem] bs_size bs_extract bs_append bs_toList
attribute [local irreducible] cList cPlan
theorem sameF_eq : ∀ f g : Fm, sameF f g = (decide (f.op = g.op) && (decide (f.name = g.name) && (decide (f.cmp = g.cmp) && (decide (f.num = g.num) && sames f.kids g.kids)))) | .mk _ _ _ _ _, .mk _ _ _ _ _ => by rw [sameF]; rfl
theorem sames_len : ∀ {l m : List Fm}, l.length ≠ m.length → sames l m = false
  | [], [], h => by simp at h
  | [], _ :: _, _ => by simp [sames]
  | _ :: _, [], _ => by simp [sames]
  | k :: r, k' :: r', h => by rw [sames, sames_len (by simpa using h), Bool.and_false]
theorem sames_take {k : Nat} {q q' : Fm} : ∀ {l m : List Fm}, l[k]? = some q → m[k]? = some q' → sames (l.take k) (m.take k) = true → (sameF q q' = true → sames (l.take (k + 1)) (m.take (k + 1)) = true) ∧ (sameF q q' = false → sames l m = false)
  | [], _, h, _, _ => by simp at h
  | _ :: _, [], _, h, _ => by simp at h
  | a :: l, b :: m, h, h', hs => by
    cases k with
    | zero =>
      simp at h h'; subst h; subst h'
      exact ⟨fun e => by simp [sames, e], fun e => by rw [sames, e]; rfl⟩
    | succ k =>
      rw [List.take_succ_cons, List.take_succ_cons, sames, Bool.and_eq_true] at hs
      have ih := sames_take (k := k) (l := l) (m := m) (by simpa using h) (by simpa using h') hs.2
      refine ⟨fun e => ?_, fun e => ?_⟩
      · rw [List.take_succ_cons, List.take_succ_cons, sames, hs.1, ih.1 e]; rfl
      · rw [sames, ih.2 e, Bool.and_false]
section
variable {p : Nat → Prop}
set_option maxHeartbeats 2000000 in
theorem EqualF_c (w0 : World) (f g : Fm) (y y' : Option Addr) (N m N' m' : Nat) (hN : N = f.kids.length) (hN' : N' = g.kids.length) (hN9 : N ≤ 900000) (hN9' : N' ≤ 900000) (hf : IsFm p w0 f (.slice y N m)) (hg : IsFm p w0 g (.slice y' N' m'))
    (HL : ∀ (q r : Fm) (qv rv : Value) (W : World), q ∈ f.kids → r ∈ g.kids → IsFm p w0 q qv → IsFm p w0 r rv → Below w0.heap.size w0 W → Calls Tryz.prog 15 #[fval q qv, fval r rv] W fun e w' => e = .returned (.bool (sameF q r)) ∧ Below W.heap.size W w')
    (w : World) (hw : Below w0.heap.size w0 w) :
    Calls Tryz.prog 45 #[.slice y N m, .slice y' N' m', .func (.func 15) #[] #[]] w (fun e w' => e = .returned (.bool (sames f.kids g.kids)) ∧ Below w.heap.size w w') := by
  have HLH := Lib.hid HL
  have HN := Lib.hid hN
  have HN' := Lib.hid hN'
  have HF := Lib.hid hf
  have HG := Lib.hid hg
  have HW := Lib.hid hw
  clear HL hN hN' hf hg hw
  go_enter Tryz.func45, Tryz.ntmps45
  by_cases hNN : N = N'
  · subst hNN
    go_wp2_with fail
    have H0 : Hid (sames (f.kids.take 0) (g.kids.take 0) = true) := by show _ = _; simp [sames]
    have HB : Hid (Below w.heap.size w w) := Lib.hid (Below.refl _ _)
    go_loopg [17] N (fun gk i wr => ∃ k : Nat, gk = N - k ∧ k ≤ N ∧ i = .int .i64 (k : Int) ∧ Hid (sames (f.kids.take k) (g.kids.take k) = true) ∧ Hid (Below w.heap.size w wr))
    case atStart => exact ⟨0, rfl, Nat.zero_le _, rfl, H0, HB⟩
    case round =>
      rename_i J1 K1 hJ1 hK1
      clear H0 HB
      obtain ⟨k, rfl, hk, rfl, HC, HB⟩ := hrel
      have HWr := Lib.hid (HW.out.trans (HB.out.mono HW.out.size))
      by_cases hlt : k < N
      · obtain ⟨q, hq⟩ : ∃ q, f.kids[k]? = some q := ⟨_, List.getElem?_eq_getElem (by rw [← HN.out]; exact hlt)⟩
        obtain ⟨r, hr⟩ : ∃ r, g.kids[k]? = some r := ⟨_, List.getElem?_eq_getElem (by rw [← HN'.out]; exact hlt)⟩
        obtain ⟨gg, off, kv, rfl, hgg, hkv, c0, c1, c2, c3, c4⟩ := HF.out.old HWr.out hq
        obtain ⟨y2, m2, rfl⟩ := hkv.form
        have HQ := Lib.hid hq
        have HK := Lib.hid hkv
        clear hq hkv
        obtain ⟨N2, hN2⟩ : ∃ N2, N2 = q.kids.length := ⟨_, rfl⟩
        rw [← hN2] at c4 HK
        clear hN2
        obtain ⟨gg', off', kv', rfl, hgg', hkv', d0, d1, d2, d3, d4⟩ := HG.out.old HWr.out hr
        obtain ⟨y3, m3, rfl⟩ := hkv'.form
        have HR := Lib.hid hr
        have HK' := Lib.hid hkv'
        clear hr hkv'
        obtain ⟨N3, hN3⟩ : ∃ N3, N3 = r.kids.length := ⟨_, rfl⟩
        rw [← hN3] at d4 HK'
        clear hN3
        obtain ⟨W4, hW4⟩ : ∃ W4, W4 = (wr.alloc (fobj q (.slice y2 N2 m2))).alloc (fobj r (.slice y3 N3 m3)) := ⟨_, rfl⟩
        have HB4 : Hid (Below wr.heap.size wr W4) := by
          rw [hW4]
          exact Lib.hid (((Below.refl _ _).alloc (Nat.le_refl _) _).alloc (by simp) _)
        go_wp2_with fail
        try rw [← hW4]
        clear hW4 c0 c1 c2 c3 c4 d0 d1 d2 d3 d4 hgg hgg'
        refine (HLH.out q r _ _ W4 (List.mem_of_getElem? HQ.out) (List.mem_of_getElem? HR.out) HK.out HK'.out (HWr.out.trans (HB4.out.mono HWr.out.size))).mono ?_
        rintro e W2 ⟨rfl, hb⟩
        have HB2 := Lib.hid (HB.out.trans ((HB4.out.trans (hb.mono HB4.out.size)).mono HB.out.size))
        obtain ⟨x, hx⟩ : ∃ x, x = sameF q r := ⟨_, rfl⟩
        rw [← hx]
        have HS := sames_take HQ.out HR.out HC.out
        rw [← hx] at HS
        replace HS := Lib.hid HS
        clear hx hb HB HC HB4 HWr
        cases x
        · have HE := Lib.hid (HS.out.2 rfl)
          clear hJ1 hK1
          go_wp2_with fail
          go_ret
          exact ⟨by rw [HE.out]; rfl, HB2.out⟩
        · have HC2 := Lib.hid (HS.out.1 rfl)
          go_wp2_with fail
          go_roundg (N - (k + 1))
          case measure => omega
          case rel => exact ⟨k + 1, rfl, by omega, by go_num, HC2, HB2⟩
      · obtain rfl : k = N := by omega
        have HE : Hid (sames f.kids g.kids = true) := by
          have := HC.out
          rw [HN.out, List.take_length, ← HN.out, HN'.out, List.take_length] at this
          exact this
        clear hJ1 hK1 hlt
        go_wp2_with fail
        go_ret
        exact ⟨by rw [HE.out]; rfl, HB.out⟩
  · have HE : Hid (sames f.kids g.kids = false) := Lib.hid (sames_len (by rw [← HN.out, ← HN'.out]; exact hNN))
    have h2 : ((N : Int) != (N' : Int)) = true := by simp; omega
    clear hNN
    go_wp2_with fail
    go_ret
    exact ⟨by rw [HE.out]; rfl, Below.refl _ _⟩
set_option maxRecDepth 100000 in
set_option maxHeartbeats 8000000 in
theorem Same_c (w0 : World) (f : Fm) : ∀ (g : Fm) (w : World) (kv gv : Value), Below w0.heap.size w0 w → IsFm p w0 f kv → IsFm p w0 g gv → size f ≤ 900000 → size g ≤ 900000 →
    Calls Tryz.prog 15 #[fval f kv, fval g gv] w (fun e w' => e = .returned (.bool (sameF f g)) ∧ Below w.heap.size w w') := by
  refine Fm.induct (P := fun f => ∀ (g : Fm) (w : World) (kv gv : Value), Below w0.heap.size w0 w → IsFm p w0 f kv → IsFm p w0 g gv → size f ≤ 900000 → size g ≤ 900000 →
    Calls Tryz.prog 15 #[fval f kv, fval g gv] w (fun e w' => e = .returned (.bool (sameF f g)) ∧ Below w.heap.size w w')) ?_ f
  clear f
  intro f ih g w kv gv hw hf hg hz hz'
  obtain ⟨y, m, rfl⟩ := hf.form
  obtain ⟨y', m', rfl⟩ := hg.form
  have hk9 := length_sizes f.kids
  have hk9' := length_sizes g.kids
  have HI := Lib.hid ih
  have HZ := Lib.hid hz
  have HZ' := Lib.hid hz'
  have HW := Lib.hid hw
  rw [size_kids] at hz hz'
  obtain ⟨N, hN⟩ : ∃ N, N = f.kids.length := ⟨_, rfl⟩
  obtain ⟨N', hN'⟩ : ∃ N', N' = g.kids.length := ⟨_, rfl⟩
  have hN9 : N ≤ 900000 := by omega
  have hN9' : N' ≤ 900000 := by omega
  have HN := Lib.hid hN
  have HN' := Lib.hid hN'
  rw [← hN] at hf ⊢
  rw [← hN'] at hg ⊢
  have HF := Lib.hid hf
  have HG := Lib.hid hg
  clear hN hN' hf hg hz hz' hw ih hk9 hk9'
  have HK : Hid (∀ (q r : Fm) (qv rv : Value) (W : World), q ∈ f.kids → r ∈ g.kids → IsFm p w0 q qv → IsFm p w0 r rv → Below w0.heap.size w0 W → Calls Tryz.prog 15 #[fval q qv, fval r rv] W fun e w' => e = .returned (.bool (sameF q r)) ∧ Below W.heap.size W w') := by
    intro q r qv rv W hm hm' hq hr hW
    exact HI.out q hm r W qv rv hW hq hr (by have := HZ.out; rw [size_kids] at this; have := size_mem hm; omega) (by have := HZ'.out; rw [size_kids] at this; have := size_mem hm'; omega)
  clear HI HZ HZ'
  obtain ⟨W1, hW1⟩ : ∃ W1, W1 = (w.alloc (fobj f (.slice y N m))).alloc (fobj g (.slice y' N' m')) := ⟨_, rfl⟩
  obtain ⟨bf, hbf⟩ : ∃ bf, bf = w.heap.size := ⟨_, rfl⟩
  obtain ⟨bg, hbg⟩ : ∃ bg, bg = w.heap.size + 1 := ⟨_, rfl⟩
  have HO : Hid (Owns w W1 [blk bf (fobj f (.slice y N m)), blk bg (fobj g (.slice y' N' m'))]) := by
    rw [hW1, hbf, hbg]
    have := ((Owns.start w).box (fobj f (.slice y N m))).box (fobj g (.slice y' N' m'))
    rw [World.size_alloc] at this
    exact Lib.hid this.swap
  go_enter Tryz.func15, Tryz.ntmps15
  by_cases h1 : f.op = g.op
  case neg =>
    have h1' : (f.op == g.op) = false := by simpa using h1
    have HE : Hid (sameF f g = false) := by show _ = _; rw [sameF_eq]; simp [h1]
    clear h1
    go_wp2_with fail
    rw [← hW1]
    clear hW1
    go_ret
    exact ⟨by rw [HE.out]; rfl, HO.out.base⟩
  have h1' : (f.op == g.op) = true := by simpa using h1
  replace h1 := Lib.hid h1
  by_cases h2 : f.name = g.name
  case neg =>
    have h2' : (f.name == g.name) = false := by simpa using h2
    have HE : Hid (sameF f g = false) := by show _ = _; rw [sameF_eq]; simp [h2]
    clear h2
    go_wp2_with fail
    rw [← hW1]
    clear hW1
    go_ret
    exact ⟨by rw [HE.out]; rfl, HO.out.base⟩
  have h2' : (f.name == g.name) = true := by simpa using h2
  replace h2 := Lib.hid h2
  by_cases h3 : f.cmp = g.cmp
  case neg =>
    have h3' : (f.cmp == g.cmp) = false := by simpa using h3
    have HE : Hid (sameF f g = false) := by show _ = _; rw [sameF_eq]; simp [h3]
    clear h3
    go_wp2_with fail
    rw [← hW1]
    clear hW1
    go_ret
    exact ⟨by rw [HE.out]; rfl, HO.out.base⟩
  have h3' : (f.cmp == g.cmp) = true := by simpa using h3
  replace h3 := Lib.hid h3
  by_cases h4 : f.num = g.num
  case neg =>
    have h4' : (f.num == g.num) = false := by simpa using h4
    have HE : Hid (sameF f g = false) := by show _ = _; rw [sameF_eq]; simp [h4]
    clear h4
    go_wp2_with fail
    rw [← hW1]
    clear hW1
    go_ret
    exact ⟨by rw [HE.out]; rfl, HO.out.base⟩
  have h4' : (f.num == g.num) = true := by simpa using h4
  replace h4 := Lib.hid h4
  have HE : Hid (sameF f g = sames f.kids g.kids) := by show _ = _; rw [sameF_eq]; simp [h1.out, h2.out, h3.out, h4.out]
  clear h1 h2 h3 h4
  go_wp2_with fail
  rw [← hW1]
  clear hW1
  go_at_call 45
  refine (EqualF_c w0 f g y y' N m N' m' HN.out HN'.out hN9 hN9' HF.out HG.out HK.out W1 (HW.out.trans (HO.out.base.mono HW.out.size))).mono ?_
  rintro e W2 ⟨rfl, hb⟩
  replace HO := Lib.hid (HO.out.below hb)
  obtain ⟨x, hx⟩ : ∃ x, x = sames f.kids g.kids := ⟨_, rfl⟩
  rw [← hx] at HE ⊢
  clear hx hb
  go_wp2_with fail
  go_ret
  exact ⟨by rw [HE.out]; rfl, HO.out.base⟩
set_option maxRecDepth 100000 in
set_option maxHeartbeats 8000000 in
theorem rSame_c (w0 : World) (f : Fm) : ∀ (g : Fm) (w : World) (kv gv : Value), Below w0.heap.size w0 w → IsFm p w0 f kv → IsFm p w0 g gv → size f ≤ 900000 → size g ≤ 900000 →
    Calls Tryz.prog 64 #[fval f kv, fval g gv] w (fun e w' => e = .returned (.bool (sameF f g)) ∧ Below w.heap.size w w') := by
  refine Fm.induct (P := fun f => ∀ (g : Fm) (w : World) (kv gv : Value), Below w0.heap.size w0 w → IsFm p w0 f kv → IsFm p w0 g gv → size f ≤ 900000 → size g ≤ 900000 →
    Calls Tryz.prog 64 #[fval f kv, fval g gv] w (fun e w' => e = .returned (.bool (sameF f g)) ∧ Below w.heap.size w w')) ?_ f
  clear f
  intro f ih g w kv gv hw hf hg hz hz'
  obtain ⟨y, m, rfl⟩ := hf.form
  obtain ⟨y', m', rfl⟩ := hg.form
  have hk9 := length_sizes f.kids
  have hk9' := length_sizes g.kids
  have HI := Lib.hid ih
  have HZ := Lib.hid hz
  have HZ' := Lib.hid hz'
  have HW := Lib.hid hw
  rw [size_kids] at hz hz'
  obtain ⟨N, hN⟩ : ∃ N, N = f.kids.length := ⟨_, rfl⟩
  obtain ⟨N', hN'⟩ : ∃ N', N' = g.kids.length := ⟨_, rfl⟩
  have hN9 : N ≤ 900000 := by omega
  have hN9' : N' ≤ 900000 := by omega
  have HN := Lib.hid hN
  have HN' := Lib.hid hN'
  rw [← hN] at hf ⊢
  rw [← hN'] at hg ⊢
  have HF := Lib.hid hf
  have HG := Lib.hid hg
  clear hN hN' hf hg hz hz' hw ih hk9 hk9'
  have HK : Hid (∀ (q r : Fm) (qv rv : Value) (W : World), q ∈ f.kids → r ∈ g.kids → IsFm p w0 q qv → IsFm p w0 r rv → Below w0.heap.size w0 W → Calls Tryz.prog 64 #[fval q qv, fval r rv] W fun e w' => e = .returned (.bool (sameF q r)) ∧ Below W.heap.size W w') := by
    intro q r qv rv W hm hm' hq hr hW
    exact HI.out q hm r W qv rv hW hq hr (by have := HZ.out; rw [size_kids] at this; have := size_mem hm; omega) (by have := HZ'.out; rw [size_kids] at this; have := size_mem hm'; omega)
  clear HI HZ HZ'
  obtain ⟨W1, hW1⟩ : ∃ W1, W1 = (w.alloc (fobj f (.slice y N m))).alloc (fobj g (.slice y' N' m')) := ⟨_, rfl⟩
  obtain ⟨bf, hbf⟩ : ∃ bf, bf = w.heap.size := ⟨_, rfl⟩
  obtain ⟨bg, hbg⟩ : ∃ bg, bg = w.heap.size + 1 := ⟨_, rfl⟩
  have HO : Hid (Owns w W1 [blk bf (fobj f (.slice y N m)), blk bg (fobj g (.slice y' N' m'))]) := by
    rw [hW1, hbf, hbg]
    have := ((Owns.start w).box (fobj f (.slice y N m))).box (fobj g (.slice y' N' m'))
    rw [World.size_alloc] at this
    exact Lib.hid this.swap
  go_enter Tryz.func64, Tryz.ntmps64
  by_cases h1 : f.op = g.op
  case neg =>
    have h1' : (f.op != g.op) = true := by simpa using h1
    have HE : Hid (sameF f g = false) := by show _ = _; rw [sameF_eq]; simp [h1]
    clear h1
    go_wp2_with fail
    rw [← hW1]
    clear hW1
    go_ret
    exact ⟨by rw [HE.out]; rfl, HO.out.base⟩
  have h1' : (f.op != g.op) = false := by simpa using h1
  replace h1 := Lib.hid h1
  by_cases h2 : f.name = g.name
  case neg =>
    have h2' : (f.name == g.name) = false := by simpa using h2
    have HE : Hid (sameF f g = false) := by show _ = _; rw [sameF_eq]; simp [h2]
    clear h2
    go_wp2_with fail
    rw [← hW1]
    clear hW1
    go_ret
    exact ⟨by rw [HE.out]; rfl, HO.out.base⟩
  have h2' : (f.name == g.name) = true := by simpa using h2
  replace h2 := Lib.hid h2
  by_cases h3 : f.cmp = g.cmp
  case neg =>
    have h3' : (f.cmp != g.cmp) = true := by simpa using h3
    have HE : Hid (sameF f g = false) := by show _ = _; rw [sameF_eq]; simp [h3]
    clear h3
    go_wp2_with fail
    rw [← hW1]
    clear hW1
    go_ret
    exact ⟨by rw [HE.out]; rfl, HO.out.base⟩
  have h3' : (f.cmp != g.cmp) = false := by simpa using h3
  replace h3 := Lib.hid h3
  by_cases h4 : f.num = g.num
  case neg =>
    have h4' : (f.num != g.num) = true := by simpa using h4
    have HE : Hid (sameF f g = false) := by show _ = _; rw [sameF_eq]; simp [h4]
    clear h4
    go_wp2_with fail
    rw [← hW1]
    clear hW1
    go_ret
    exact ⟨by rw [HE.out]; rfl, HO.out.base⟩
  have h4' : (f.num != g.num) = false := by simpa using h4
  replace h4 := Lib.hid h4
  by_cases hNN : N = N'
  case neg =>
    have h5' : ((N : Int) != (N' : Int)) = true := by simp; omega
    have HE : Hid (sameF f g = false) := by show _ = _; rw [sameF_eq, sames_len (by rw [← HN.out, ← HN'.out]; exact hNN)]; simp
    clear hNN
    go_wp2_with fail
    rw [← hW1]
    clear hW1
    go_ret
    exact ⟨by rw [HE.out]; rfl, HO.out.base⟩
  subst hNN
  have HE : Hid (sameF f g = sames f.kids g.kids) := by show _ = _; rw [sameF_eq]; simp [h1.out, h2.out, h3.out, h4.out]
  clear h1 h2 h3 h4
  go_wp2_with fail
  rw [← hW1, ← hbg, ← hbf]
  clear hW1 hbg hbf
  have H0 : Hid (sames (f.kids.take 0) (g.kids.take 0) = true) := by show _ = _; simp [sames]
  go_loopg [5] N (fun gk i wr => ∃ k : Nat, gk = N - k ∧ k ≤ N ∧ i = .int .i64 (k : Int) ∧ Hid (sames (f.kids.take k) (g.kids.take k) = true) ∧ Hid (Owns w wr [blk bf (fobj f (.slice y N m)), blk bg (fobj g (.slice y' N m'))]))
  case atStart => exact ⟨0, rfl, Nat.zero_le _, rfl, H0, HO⟩
  case round =>
    rename_i J1 K1 hJ1 hK1
    clear H0 HO
    obtain ⟨k, rfl, hk, rfl, HC, HO⟩ := hrel
    by_cases hlt : k < N
    · obtain ⟨q, hq⟩ : ∃ q, f.kids[k]? = some q := ⟨_, List.getElem?_eq_getElem (by rw [← HN.out]; exact hlt)⟩
      obtain ⟨r, hr⟩ : ∃ r, g.kids[k]? = some r := ⟨_, List.getElem?_eq_getElem (by rw [← HN'.out]; exact hlt)⟩
      focus
        obtain ⟨bk, -⟩ := HO.out.blk
        have hbf := lt_of_block bk
        have cb0 := cell_of_heap bk (i := 0)
        have cb1 := cell_of_heap bk (i := 1)
        have cb2 := cell_of_heap bk (i := 2)
        have cb3 := cell_of_heap bk (i := 3)
        have cb4 := cell_of_heap bk (i := 4)
        simp only [List.getElem?_toArray, List.getElem?_cons_succ, List.getElem?_cons_zero] at cb0 cb1 cb2 cb3 cb4
        clear bk
        clear cb0 cb1 cb2 cb3
        go_wp2_with fail
        clear cb4 hbf
      refine wp_region_can [10] (List.range 12) (by decide +kernel) (by decide +kernel) ?_
      replace HO := Lib.hid HO.out.drew
      obtain ⟨W5, hW5⟩ : ∃ W5, W5 = wr.drew := ⟨_, rfl⟩
      rw [← hW5] at HO ⊢
      clear hW5
      have HWr := Lib.hid (HW.out.trans (HO.out.base.mono HW.out.size))
      obtain ⟨gg, off, kv, rfl, hgg, hkv, c0, c1, c2, c3, c4⟩ := HF.out.old HWr.out hq
      obtain ⟨y2, m2, rfl⟩ := hkv.form
      have HQ := Lib.hid hq
      have HK1 := Lib.hid hkv
      clear hq hkv
      obtain ⟨N2, hN2⟩ : ∃ N2, N2 = q.kids.length := ⟨_, rfl⟩
      rw [← hN2] at c4 HK1
      clear hN2
      obtain ⟨gg', off', kv', rfl, hgg', hkv', d0, d1, d2, d3, d4⟩ := HG.out.old HWr.out hr
      obtain ⟨y3, m3, rfl⟩ := hkv'.form
      have HR := Lib.hid hr
      have HK2 := Lib.hid hkv'
      clear hr hkv'
      obtain ⟨N3, hN3⟩ : ∃ N3, N3 = r.kids.length := ⟨_, rfl⟩
      rw [← hN3] at d4 HK2
      clear hN3
      obtain ⟨bk, -⟩ := HO.out.blk
      have hbf := lt_of_block bk
      have cb0 := cell_of_heap bk (i := 0)
      have cb1 := cell_of_heap bk (i := 1)
      have cb2 := cell_of_heap bk (i := 2)
      have cb3 := cell_of_heap bk (i := 3)
      have cb4 := cell_of_heap bk (i := 4)
      simp only [List.getElem?_toArray, List.getElem?_cons_succ, List.getElem?_cons_zero] at cb0 cb1 cb2 cb3 cb4
      clear bk
      obtain ⟨bk, -⟩ := HO.out.swap.blk
      have hbg := lt_of_block bk
      have cg0 := cell_of_heap bk (i := 0)
      have cg1 := cell_of_heap bk (i := 1)
      have cg2 := cell_of_heap bk (i := 2)
      have cg3 := cell_of_heap bk (i := 3)
      have cg4 := cell_of_heap bk (i := 4)
      simp only [List.getElem?_toArray, List.getElem?_cons_succ, List.getElem?_cons_zero] at cg0 cg1 cg2 cg3 cg4
      clear bk
      clear cb0 cb1 cb2 cb3 cg0 cg1 cg2 cg3
      iterate 10 (refine cl_do rfl rfl rfl (by first | rfl | simp [okB, lenV, plainV, Act.eval]) (fun _ _ => ?_); go_wp2_with fail)
      refine cl_call (i := 10) rfl rfl rfl (fun K hK => ?_)
      clear cb4 cg4 hbf hbg c0 c1 c2 c3 c4 d0 d1 d2 d3 d4 hgg hgg'
      go_wp2_with fail
      go_at_call 64
      refine (HK.out q r _ _ W5 (List.mem_of_getElem? HQ.out) (List.mem_of_getElem? HR.out) HK1.out HK2.out HWr.out).mono ?_
      rintro e W6 ⟨rfl, hb⟩
      have Hb := Lib.hid hb
      replace HO := Lib.hid (HO.out.below hb)
      obtain ⟨x, hx⟩ : ∃ x, x = sameF q r := ⟨_, rfl⟩
      rw [← hx]
      have HS := sames_take HQ.out HR.out HC.out
      rw [← hx] at HS
      replace HS := Lib.hid HS
      clear hx hb HC HWr
      go_wp2_with fail
      refine And.intro Hb.out ?_
      clear Hb
      refine cl_do rfl rfl rfl rfl (fun _ _ => ?_)
      go_wp2_with fail
      refine cl_nil ?_
      cases x
      · have HE2 := Lib.hid (HS.out.2 rfl)
        clear hJ1 hK1
        go_wp2_with fail
        go_ret
        exact ⟨by rw [HE.out, HE2.out]; rfl, HO.out.base⟩
      · have HC2 := Lib.hid (HS.out.1 rfl)
        go_wp2_with fail
        go_roundg (N - (k + 1))
        case measure => omega
        case rel => exact ⟨k + 1, rfl, by omega, by go_num, HC2, HO⟩
    · obtain rfl : k = N := by omega
      have HE2 : Hid (sames f.kids g.kids = true) := by
        have := HC.out
        rw [HN.out, List.take_length, ← HN.out, HN'.out, List.take_length] at this
        exact this
      obtain ⟨bk, -⟩ := HO.out.blk
      have hbf := lt_of_block bk
      have cb0 := cell_of_heap bk (i := 0)
      have cb1 := cell_of_heap bk (i := 1)
      have cb2 := cell_of_heap bk (i := 2)
      have cb3 := cell_of_heap bk (i := 3)
      have cb4 := cell_of_heap bk (i := 4)
      simp only [List.getElem?_toArray, List.getElem?_cons_succ, List.getElem?_cons_zero] at cb0 cb1 cb2 cb3 cb4
      clear bk
      clear hJ1 hK1 hlt cb0 cb1 cb2 cb3
      go_wp2_with fail
      go_ret
      exact ⟨by rw [HE.out, HE2.out]; rfl, HO.out.base⟩
end
end Go.Proofs.YtoeknmkephnekaaGreatDoor

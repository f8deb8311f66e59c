/-
  'Holds'.
-/
import Derived.Test.YtakadfdnhlfijaaGreatDoorFmFirst
import Derived.Test.YtakadfdnhlfijaaGreatDoorFmFact
import Derived.Test.YtakadfdnhlfijaaGreatDoorFmToks
namespace Go.Proofs.YtakadfdnhlfijaaGreatDoor
open Go.RowKit Go.Cz Go.Cz.Lx Go.Cz.Fo
set_option linter.unusedSimpArgs false
set_option linter.unusedVariables false
attribute [local go_sem] bs_size bs_extract bs_append bs_toList
attribute [local irreducible] cList cPlan
theorem all_any {d : List Fact} {c : List Int} : ∀ ks : List Fm, (!(ks.any fun k => !valueF d c k)) = valueAll d c ks
  | [] => by simp [valueAll]
  | k :: r => by rw [List.any_cons, valueAll, ← all_any r, Bool.not_or, Bool.not_not]
theorem any_any {d : List Fact} {c : List Int} : ∀ ks : List Fm, (ks.any fun k => valueF d c k) = valueAny d c ks
  | [] => by simp [valueAny]
  | k :: r => by rw [List.any_cons, valueAny, ← any_any r]
theorem any_take {look : Fm → Bool} {ks : List Fm} {k : Nat} {q : Fm} (hq : ks[k]? = some q) (h : (ks.take k).any look = false) : (look q = true → ks.any look = true) ∧ (look q = false → (ks.take (k + 1)).any look = false) := by
  refine ⟨fun h1 => List.any_eq_true.2 ⟨q, List.mem_of_getElem? hq, h1⟩, fun h1 => ?_⟩
  rw [List.take_add_one, List.any_append, h, hq]
  simp [h1]
section
variable {p : Nat → Prop}
set_option maxHeartbeats 2000000 in
theorem anyN_c_i (w0 : World) (look : Fm → Bool) (bh : Nat) (f : Fm) (y : Option Addr) (N m : Nat) (hN : N = f.kids.length) (hN9 : N ≤ 900000) (hf : IsFm p w0 f (.slice y N m)) (HL : ∀ (q : Fm) (qv : Value) (W : World), q ∈ f.kids → IsFm p w0 q qv → Below w0.heap.size w0 W → Calls Tryz.prog 62 #[fval q qv, .pointer (some ⟨bh, 0, none⟩)] W fun e w' => e = .returned (.bool (look q)) ∧ Below W.heap.size W w')
    (w : World) (hw : Below w0.heap.size w0 w) :
    Calls Tryz.prog 86 #[.slice y N m, .func (.func 62) #[] #[.pointer (some ⟨bh, 0, none⟩)]] w (fun e w' => (∃ i : Int, e = .returned (.int .i64 i) ∧ decide (0 ≤ i) = f.kids.any look) ∧ Below w.heap.size w w') := by
  have HLH := Lib.hid HL
  have HN := Lib.hid hN
  have HF := Lib.hid hf
  have HW := Lib.hid hw
  clear HL hN hf hw
  go_enter Tryz.func86, Tryz.ntmps86
  go_wp2_with fail
  have H0 : Hid ((f.kids.take 0).any look = false) := by show _ = _; simp
  have HB : Hid (Below w.heap.size w w) := Lib.hid (Below.refl _ _)
  go_loopg [8] N (fun gk i wr => ∃ k : Nat, gk = N - k ∧ k ≤ N ∧ i = .int .i64 (k : Int) ∧ Hid ((f.kids.take k).any look = false) ∧ Hid (Below w.heap.size w wr))
  case atStart => exact ⟨0, rfl, Nat.zero_le _, rfl, H0, HB⟩
  case round =>
    rename_i J1 K1 hJ1 hK1
    clear H0 HB
    obtain ⟨k, rfl, hk, rfl, HC, HB⟩ := hrel
    have HWr := Lib.hid (HW.out.trans (HB.out.mono HW.out.size))
    by_cases hlt : k < N
    · obtain ⟨q, hq⟩ : ∃ q, f.kids[k]? = some q := ⟨_, List.getElem?_eq_getElem (by rw [← HN.out]; exact hlt)⟩
      obtain ⟨g, off, kv, rfl, hg, hkv, c0, c1, c2, c3, c4⟩ := HF.out.old HWr.out hq
      obtain ⟨y2, m2, rfl⟩ := hkv.form
      have HQ := Lib.hid hq
      have HK := Lib.hid hkv
      clear hq hkv
      obtain ⟨N2, hN2⟩ : ∃ N2, N2 = q.kids.length := ⟨_, rfl⟩
      rw [← hN2] at c4 HK
      clear hN2
      go_wp2_with fail
      refine (HLH.out q _ wr (List.mem_of_getElem? HQ.out) HK.out HWr.out).mono ?_
      rintro e W2 ⟨rfl, hb⟩
      have HB2 := Lib.hid (HB.out.trans (hb.mono HB.out.size))
      obtain ⟨x, hx⟩ : ∃ x, x = look q := ⟨_, rfl⟩
      rw [← hx]
      have HS := any_take HQ.out HC.out
      rw [← hx] at HS
      replace HS := Lib.hid HS
      clear hx hb HB HC c0 c1 c2 c3 c4 hg HWr
      cases x
      · have HC2 := Lib.hid (HS.out.2 rfl)
        go_wp2_with fail
        go_roundg (N - (k + 1))
        case measure => omega
        case rel => exact ⟨k + 1, rfl, by omega, by go_num, HC2, HB2⟩
      · have HE := Lib.hid (HS.out.1 rfl)
        clear hJ1 hK1
        go_wp2_with fail
        go_ret
        exact ⟨⟨k, rfl, by rw [HE.out, decide_eq_true (by omega)]⟩, HB2.out⟩
    · obtain rfl : k = N := by omega
      have HE : Hid (f.kids.any look = false) := by
        have := HC.out
        rw [HN.out, List.take_length] at this
        exact this
      clear hJ1 hK1 hlt
      go_wp2_with fail
      go_ret
      exact ⟨⟨-1, rfl, by rw [HE.out]; rfl⟩, HB.out⟩
theorem anyN_c (w0 : World) (look : Fm → Bool) (bh : Nat) (f : Fm) (y : Option Addr) (N m : Nat) (hN : N = f.kids.length) (hN9 : N ≤ 900000) (hf : IsFm p w0 f (.slice y N m)) (HL : ∀ (q : Fm) (qv : Value) (W : World), q ∈ f.kids → IsFm p w0 q qv → Below w0.heap.size w0 W → Calls Tryz.prog 62 #[fval q qv, .pointer (some ⟨bh, 0, none⟩)] W fun e w' => e = .returned (.bool (look q)) ∧ Below W.heap.size W w')
    (w : World) (hw : Below w0.heap.size w0 w) :
    Calls Tryz.prog 61 #[.slice y N m, .func (.func 62) #[] #[.pointer (some ⟨bh, 0, none⟩)]] w (fun e w' => e = .returned (.bool (f.kids.any look)) ∧ Below w.heap.size w w') := by
  have HC := Lib.hid (anyN_c_i w0 look bh f y N m hN hN9 hf HL w hw)
  clear HL hN hN9 hf hw
  go_enter Tryz.func61, Tryz.ntmps61
  go_wp2_with fail
  refine HC.out.mono ?_
  rintro e W2 ⟨⟨i, rfl, hi⟩, hb⟩
  have Hb := Lib.hid hb
  have Hi := Lib.hid hi
  clear hb hi HC
  go_wp2_with fail
  go_ret
  exact ⟨congrArg (fun b => Ending.returned (Value.bool b)) (show decide (0 ≤ i) = f.kids.any look from Hi.out), Hb.out⟩
set_option maxHeartbeats 2000000 in
theorem anyH_c_i (w0 : World) (look : Fm → Bool) (bc bd bh : Nat) (f : Fm) (y : Option Addr) (N m : Nat) (hN : N = f.kids.length) (hN9 : N ≤ 900000) (hf : IsFm p w0 f (.slice y N m)) (HL : ∀ (q : Fm) (qv : Value) (W : World), q ∈ f.kids → IsFm p w0 q qv → Below w0.heap.size w0 W → Calls Tryz.prog 59 #[fval q qv, .pointer (some ⟨bc, 0, none⟩), .pointer (some ⟨bd, 0, none⟩), .pointer (some ⟨bh, 0, none⟩)] W fun e w' => e = .returned (.bool (look q)) ∧ Below W.heap.size W w')
    (w : World) (hw : Below w0.heap.size w0 w) :
    Calls Tryz.prog 86 #[.slice y N m, .func (.func 59) #[] #[.pointer (some ⟨bc, 0, none⟩), .pointer (some ⟨bd, 0, none⟩), .pointer (some ⟨bh, 0, none⟩)]] w (fun e w' => (∃ i : Int, e = .returned (.int .i64 i) ∧ decide (0 ≤ i) = f.kids.any look) ∧ Below w.heap.size w w') := by
  have HLH := Lib.hid HL
  have HN := Lib.hid hN
  have HF := Lib.hid hf
  have HW := Lib.hid hw
  clear HL hN hf hw
  go_enter Tryz.func86, Tryz.ntmps86
  go_wp2_with fail
  have H0 : Hid ((f.kids.take 0).any look = false) := by show _ = _; simp
  have HB : Hid (Below w.heap.size w w) := Lib.hid (Below.refl _ _)
  go_loopg [8] N (fun gk i wr => ∃ k : Nat, gk = N - k ∧ k ≤ N ∧ i = .int .i64 (k : Int) ∧ Hid ((f.kids.take k).any look = false) ∧ Hid (Below w.heap.size w wr))
  case atStart => exact ⟨0, rfl, Nat.zero_le _, rfl, H0, HB⟩
  case round =>
    rename_i J1 K1 hJ1 hK1
    clear H0 HB
    obtain ⟨k, rfl, hk, rfl, HC, HB⟩ := hrel
    have HWr := Lib.hid (HW.out.trans (HB.out.mono HW.out.size))
    by_cases hlt : k < N
    · obtain ⟨q, hq⟩ : ∃ q, f.kids[k]? = some q := ⟨_, List.getElem?_eq_getElem (by rw [← HN.out]; exact hlt)⟩
      obtain ⟨g, off, kv, rfl, hg, hkv, c0, c1, c2, c3, c4⟩ := HF.out.old HWr.out hq
      obtain ⟨y2, m2, rfl⟩ := hkv.form
      have HQ := Lib.hid hq
      have HK := Lib.hid hkv
      clear hq hkv
      obtain ⟨N2, hN2⟩ : ∃ N2, N2 = q.kids.length := ⟨_, rfl⟩
      rw [← hN2] at c4 HK
      clear hN2
      go_wp2_with fail
      refine (HLH.out q _ wr (List.mem_of_getElem? HQ.out) HK.out HWr.out).mono ?_
      rintro e W2 ⟨rfl, hb⟩
      have HB2 := Lib.hid (HB.out.trans (hb.mono HB.out.size))
      obtain ⟨x, hx⟩ : ∃ x, x = look q := ⟨_, rfl⟩
      rw [← hx]
      have HS := any_take HQ.out HC.out
      rw [← hx] at HS
      replace HS := Lib.hid HS
      clear hx hb HB HC c0 c1 c2 c3 c4 hg HWr
      cases x
      · have HC2 := Lib.hid (HS.out.2 rfl)
        go_wp2_with fail
        go_roundg (N - (k + 1))
        case measure => omega
        case rel => exact ⟨k + 1, rfl, by omega, by go_num, HC2, HB2⟩
      · have HE := Lib.hid (HS.out.1 rfl)
        clear hJ1 hK1
        go_wp2_with fail
        go_ret
        exact ⟨⟨k, rfl, by rw [HE.out, decide_eq_true (by omega)]⟩, HB2.out⟩
    · obtain rfl : k = N := by omega
      have HE : Hid (f.kids.any look = false) := by
        have := HC.out
        rw [HN.out, List.take_length] at this
        exact this
      clear hJ1 hK1 hlt
      go_wp2_with fail
      go_ret
      exact ⟨⟨-1, rfl, by rw [HE.out]; rfl⟩, HB.out⟩
theorem anyH_c (w0 : World) (look : Fm → Bool) (bc bd bh : Nat) (f : Fm) (y : Option Addr) (N m : Nat) (hN : N = f.kids.length) (hN9 : N ≤ 900000) (hf : IsFm p w0 f (.slice y N m)) (HL : ∀ (q : Fm) (qv : Value) (W : World), q ∈ f.kids → IsFm p w0 q qv → Below w0.heap.size w0 W → Calls Tryz.prog 59 #[fval q qv, .pointer (some ⟨bc, 0, none⟩), .pointer (some ⟨bd, 0, none⟩), .pointer (some ⟨bh, 0, none⟩)] W fun e w' => e = .returned (.bool (look q)) ∧ Below W.heap.size W w')
    (w : World) (hw : Below w0.heap.size w0 w) :
    Calls Tryz.prog 61 #[.slice y N m, .func (.func 59) #[] #[.pointer (some ⟨bc, 0, none⟩), .pointer (some ⟨bd, 0, none⟩), .pointer (some ⟨bh, 0, none⟩)]] w (fun e w' => e = .returned (.bool (f.kids.any look)) ∧ Below w.heap.size w w') := by
  have HC := Lib.hid (anyH_c_i w0 look bc bd bh f y N m hN hN9 hf HL w hw)
  clear HL hN hN9 hf hw
  go_enter Tryz.func61, Tryz.ntmps61
  go_wp2_with fail
  refine HC.out.mono ?_
  rintro e W2 ⟨⟨i, rfl, hi⟩, hb⟩
  have Hb := Lib.hid hb
  have Hi := Lib.hid hi
  clear hb hi HC
  go_wp2_with fail
  go_ret
  exact ⟨congrArg (fun b => Ending.returned (Value.bool b)) (show decide (0 ≤ i) = f.kids.any look from Hi.out), Hb.out⟩
abbrev holV (bc bd bh : Nat) : Value := .func (.func 59) #[] #[.pointer (some ⟨bc, 0, none⟩), .pointer (some ⟨bd, 0, none⟩), .pointer (some ⟨bh, 0, none⟩)]
structure HoE (w0 : World) (bc bd bh : Nat) (cv dv : Value) : Prop where
  lc : bc < w0.heap.size
  ld : bd < w0.heap.size
  lh : bh < w0.heap.size
  cc : w0.cell? ⟨bc, 0, none⟩ = some cv
  cd : w0.cell? ⟨bd, 0, none⟩ = some dv
  ch : w0.cell? ⟨bh, 0, none⟩ = some (holV bc bd bh)
theorem HoE.at {w0 W : World} {bc bd bh : Nat} {cv dv : Value} (h : HoE w0 bc bd bh cv dv) (hb : Below w0.heap.size w0 W) : HoE W bc bd bh cv dv :=
  ⟨Nat.lt_of_lt_of_le h.lc hb.size, Nat.lt_of_lt_of_le h.ld hb.size, Nat.lt_of_lt_of_le h.lh hb.size, by rw [hb.cell (p := ⟨bc, 0, none⟩) h.lc]; exact h.cc, by rw [hb.cell (p := ⟨bd, 0, none⟩) h.ld]; exact h.cd, by rw [hb.cell (p := ⟨bh, 0, none⟩) h.lh]; exact h.ch⟩
/-- The closure that negates. -/
theorem holdsN_c (w0 : World) (bc bd bh : Nat) (cv dv : Value) (he : HoE w0 bc bd bh cv dv) (q : Fm) (qv : Value) (x : Bool) (hq : IsFm p w0 q qv) (HL : ∀ (W : World), Below w0.heap.size w0 W → Calls Tryz.prog 59 #[fval q qv, .pointer (some ⟨bc, 0, none⟩), .pointer (some ⟨bd, 0, none⟩), .pointer (some ⟨bh, 0, none⟩)] W fun e w' => e = .returned (.bool x) ∧ Below W.heap.size W w')
    (w : World) (hw : Below w0.heap.size w0 w) : Calls Tryz.prog 62 #[fval q qv, .pointer (some ⟨bh, 0, none⟩)] w (fun e w' => e = .returned (.bool !x) ∧ Below w.heap.size w w') := by
  obtain ⟨y, m, rfl⟩ := hq.form
  obtain ⟨N, hN⟩ : ∃ N, N = q.kids.length := ⟨_, rfl⟩
  rw [← hN] at HL ⊢
  have HLH := Lib.hid HL
  have HW := Lib.hid hw
  have HE := Lib.hid he
  clear HL hw he hN hq
  obtain ⟨W1, hW1⟩ : ∃ W1, W1 = w.alloc (fobj q (.slice y N m)) := ⟨_, rfl⟩
  obtain ⟨bf, hbf⟩ : ∃ bf, bf = w.heap.size := ⟨_, rfl⟩
  have HO : Hid (Owns w W1 [blk bf (fobj q (.slice y N m))]) := by
    rw [hW1, hbf]
    exact Lib.hid ((Owns.start w).box _)
  obtain ⟨-, -, lh, -, -, ch⟩ := HE.out.at HW.out
  go_enter Tryz.func62, Tryz.ntmps62
  go_wp2_with fail
  rw [← hW1]
  have HWr := Lib.hid (HW.out.trans (HO.out.base.mono HW.out.size))
  refine (HLH.out W1 HWr.out).mono ?_
  rintro e W2 ⟨rfl, hb⟩
  replace HO := Lib.hid (HO.out.below hb)
  clear hb hbf hW1 lh ch HWr
  go_wp2_with fail
  go_ret
  exact ⟨rfl, HO.out.base⟩
theorem idxB1 (v0 v1 v2 v3 v4 v5 v6 : Value) (w : World) : (Instr.index 102 (.agg #[v0, v1, v2, v3, v4, v5, v6]) (.int .i64 1)).run Tryz.prog w = .ok v1 w := by kernel_rfl
theorem idxB2 (v0 v1 v2 v3 v4 v5 v6 : Value) (w : World) : (Instr.index 102 (.agg #[v0, v1, v2, v3, v4, v5, v6]) (.int .i64 2)).run Tryz.prog w = .ok v2 w := by kernel_rfl
theorem idxB3 (v0 v1 v2 v3 v4 v5 v6 : Value) (w : World) : (Instr.index 102 (.agg #[v0, v1, v2, v3, v4, v5, v6]) (.int .i64 3)).run Tryz.prog w = .ok v3 w := by kernel_rfl
theorem idxB4 (v0 v1 v2 v3 v4 v5 v6 : Value) (w : World) : (Instr.index 102 (.agg #[v0, v1, v2, v3, v4, v5, v6]) (.int .i64 4)).run Tryz.prog w = .ok v4 w := by kernel_rfl
theorem idxB5 (v0 v1 v2 v3 v4 v5 v6 : Value) (w : World) : (Instr.index 102 (.agg #[v0, v1, v2, v3, v4, v5, v6]) (.int .i64 5)).run Tryz.prog w = .ok v5 w := by kernel_rfl
theorem idxB6 (v0 v1 v2 v3 v4 v5 v6 : Value) (w : World) : (Instr.index 102 (.agg #[v0, v1, v2, v3, v4, v5, v6]) (.int .i64 6)).run Tryz.prog w = .ok v6 w := by kernel_rfl
set_option maxRecDepth 100000 in
set_option maxHeartbeats 8000000 in
theorem holds_c (w0 : World) (bc bd bh : Nat) (d : List Fact) (c : List Int) (yd yc : Option Addr) (M md Mc mc : Nat) (he : HoE w0 bc bd bh (.slice yc Mc mc) (.slice yd M md)) (hd : IsD w0 d (.slice yd M md)) (hc : IsC w0 c (.slice yc Mc mc)) (hMc : Mc = c.length) (hl : c.length = d.length) (hn : d.length ≤ 1000000) (hx : ∀ x ∈ d, x.name.length ≤ 140737488355328) {lim : Nat} (hlim : lim ≤ 140737488355328)
    (f : Fm) : ∀ (w : World) (kv : Value), Below w0.heap.size w0 w → IsFm p w0 f kv → short lim f = true → size f ≤ 900000 → firstF (nodeE d) f = 0 →
    Calls Tryz.prog 59 #[fval f kv, .pointer (some ⟨bc, 0, none⟩), .pointer (some ⟨bd, 0, none⟩), .pointer (some ⟨bh, 0, none⟩)] w (fun e w' => e = .returned (.bool (valueF d c f)) ∧ Below w.heap.size w w') := by
  have HE := Lib.hid he
  have HD := Lib.hid hd
  have HC := Lib.hid hc
  have HMc := Lib.hid hMc
  have HX := Lib.hid hx
  have HDn := Lib.hid hn
  have HLim := Lib.hid hlim
  have HLe := Lib.hid hl
  have hMc9 : Mc ≤ 1000000 := by omega
  clear hd hx hn hlim he hc hMc hl
  refine Fm.induct (P := fun f => ∀ (w : World) (kv : Value), Below w0.heap.size w0 w → IsFm p w0 f kv → short lim f = true → size f ≤ 900000 → firstF (nodeE d) f = 0 →
    Calls Tryz.prog 59 #[fval f kv, .pointer (some ⟨bc, 0, none⟩), .pointer (some ⟨bd, 0, none⟩), .pointer (some ⟨bh, 0, none⟩)] w (fun e w' => e = .returned (.bool (valueF d c f)) ∧ Below w.heap.size w w')) ?_ f
  clear f
  intro f ih w kv hw hf hs hz h0
  have HI := Lib.hid ih
  have HS := Lib.hid hs
  have HZ := Lib.hid hz
  have HW := Lib.hid hw
  have HZ0 := Lib.hid ((firstF_zero f).1 h0)
  have hN9 := length_sizes f.kids
  rw [size_kids] at hz
  obtain ⟨y, m, rfl⟩ := hf.form
  obtain ⟨N, hN⟩ : ∃ N, N = f.kids.length := ⟨_, rfl⟩
  have HN := Lib.hid hN
  rw [← hN] at hf ⊢
  have HF := Lib.hid hf
  clear hN hf
  obtain ⟨W1, hW1⟩ : ∃ W1, W1 = w.alloc (fobj f (.slice y N m)) := ⟨_, rfl⟩
  obtain ⟨bf, hbf⟩ : ∃ bf, bf = w.heap.size := ⟨_, rfl⟩
  have HO : Hid (Owns w W1 [blk bf (fobj f (.slice y N m))]) := by
    rw [hW1, hbf]
    exact Lib.hid ((Owns.start w).box _)
  have hN9 : N ≤ 900000 := by have := HN.out; omega
  clear ih hs hz hw h0
  have HK : Hid (∀ (q : Fm) (qv : Value) (W : World), q ∈ f.kids → IsFm p w0 q qv → Below w0.heap.size w0 W → Calls Tryz.prog 59 #[fval q qv, .pointer (some ⟨bc, 0, none⟩), .pointer (some ⟨bd, 0, none⟩), .pointer (some ⟨bh, 0, none⟩)] W fun e w' => e = .returned (.bool (valueF d c q)) ∧ Below W.heap.size W w') := by
    intro q qv W hm hq hW
    exact HI.out q hm W qv hW hq (short_kid HS.out hm) (by have := HZ.out; rw [size_kids] at this; have := size_mem hm; omega) (HZ0.out.2 q hm)
  have hnode := HZ0.out.1
  have hform : formedB f = true := by
    unfold nodeE at hnode
    cases hb : formedB f
    · rw [if_pos hb] at hnode; simp at hnode
    · rfl
  obtain ⟨o, ho⟩ : ∃ o, o = f.op := ⟨_, rfl⟩
  obtain ⟨mm, hmm⟩ : ∃ mm, mm = f.cmp := ⟨_, rfl⟩
  obtain ⟨x, hxx⟩ : ∃ x, x = f.num := ⟨_, rfl⟩
  obtain ⟨s, hss⟩ : ∃ s, s = f.name := ⟨_, rfl⟩
  have HX2 : Hid (f.op = o ∧ f.name = s ∧ f.cmp = mm ∧ f.num = x) := ⟨ho.symm, hss.symm, hmm.symm, hxx.symm⟩
  have hcase := formed_cases hform
  have hsl : s.length ≤ 140737488355328 := by rw [hss]; exact Nat.le_trans (short_name HS.out) HLim.out
  have hidx : o = 3 → 0 ≤ idxD s d := fun h => by
    unfold nodeE at hnode
    rw [if_neg (by rw [hform]; simp), if_neg (by rw [← ho]; simpa using h)] at hnode
    split at hnode
    · simp at hnode
    · split at hnode
      · simp at hnode
      · rw [hss]; omega
  rw [← ho, ← hmm, ← hss, ← hxx] at hcase
  simp only [fobj, fval] at HO hW1 ⊢
  rw [← ho, ← hmm, ← hss, ← hxx] at HO hW1 ⊢
  clear ho hmm hss hxx hnode hform
  have HXa := HX
  clear HX
  have HX := HX2
  clear HX2
  go_enter Tryz.func59, Tryz.ntmps59
  by_cases h3 : o = 3
  · subst h3
    obtain ⟨-, -, hm1, hm6, -⟩ := hcase.resolve_right (fun h => by omega)
    have hi0 := hidx rfl
    clear hcase hidx
    go_wp2_with fail
    rw [← hW1, ← hbf]
    clear hW1 hbf
    refine wp_region_can [4] (List.range 8) (by decide +kernel) (by decide +kernel) ?_
    replace HO := Lib.hid HO.out.drew
    obtain ⟨W5, hW5⟩ : ∃ W5, W5 = W1.drew := ⟨_, rfl⟩
    rw [← hW5] at HO ⊢
    clear hW5
    have HWr := Lib.hid (HW.out.trans (HO.out.base.mono HW.out.size))
    obtain ⟨lc, ld, -, cc, cd, -⟩ := HE.out.at HWr.out
    obtain ⟨bk, -⟩ := HO.out.blk
    have hbf := lt_of_block bk
    have cb0 := cell_of_heap bk (i := 0)
    have cb1 := cell_of_heap bk (i := 1)
    have cb2 := cell_of_heap bk (i := 2)
    have cb3 := cell_of_heap bk (i := 3)
    have cb4 := cell_of_heap bk (i := 4)
    simp only [List.getElem?_toArray, List.getElem?_cons_succ, List.getElem?_cons_zero] at cb0 cb1 cb2 cb3 cb4
    clear bk
    iterate 4 (refine cl_do rfl rfl rfl (by first | rfl | simp [okB, lenV, plainV, Act.eval]) (fun _ _ => ?_); go_wp2_with fail)
    refine cl_call (i := 4) rfl rfl rfl (fun K hK => ?_)
    clear cb0 cb1 cb2 cb3 cb4 hbf lc ld cc cd
    go_wp2_with fail
    go_at_call 60
    refine (Index_c d s _ W5 (HD.out.later HWr.out) HXa.out hsl HDn.out).mono ?_
    rintro e W6 ⟨rfl, hb⟩
    have Hb := Lib.hid hb
    replace HO := Lib.hid (HO.out.below hb)
    replace HWr := Lib.hid (HW.out.trans (HO.out.base.mono HW.out.size))
    obtain ⟨j, hj⟩ : ∃ j : Nat, idxD s d = (j : Int) := ⟨(idxD s d).toNat, by omega⟩
    have hjl : j < d.length := by
      obtain ⟨z, hz, -⟩ := idxD_get hi0
      have := (List.getElem?_eq_some_iff.1 hz).1
      rw [hj] at this
      simpa using this
    obtain ⟨u, hu⟩ : ∃ u, c[j]? = some u := ⟨_, List.getElem?_eq_getElem (by rw [HLe.out]; exact hjl)⟩
    obtain ⟨gc, offc, rfl, hgc, cj⟩ := HC.out.get HWr.out hu
    have HGD : Hid (c.getD (idxD s d).toNat 0 = u) := by
      show _ = _
      rw [hj, Int.toNat_natCast, List.getD_eq_getElem?_getD, hu]; rfl
    have hjM : j < Mc := by rw [HMc.out, HLe.out]; exact hjl
    rw [hj]
    clear hb hi0 hu hj hjl
    go_wp2_with fail
    refine And.intro Hb.out ?_
    clear Hb
    iterate 3 (refine cl_do rfl rfl rfl (by first | rfl | simp [okB, lenV, plainV, Act.eval]) (fun _ _ => ?_); go_wp2_with fail)
    refine cl_nil ?_
    obtain ⟨bk, -⟩ := HO.out.blk
    have hbf := lt_of_block bk
    have cb0 := cell_of_heap bk (i := 0)
    have cb1 := cell_of_heap bk (i := 1)
    have cb2 := cell_of_heap bk (i := 2)
    have cb3 := cell_of_heap bk (i := 3)
    have cb4 := cell_of_heap bk (i := 4)
    simp only [List.getElem?_toArray, List.getElem?_cons_succ, List.getElem?_cons_zero] at cb0 cb1 cb2 cb3 cb4
    clear bk
    have h16 : mm = 1 ∨ mm = 2 ∨ mm = 3 ∨ mm = 4 ∨ mm = 5 ∨ mm = 6 := by omega
    clear hm1 hm6
    rcases h16 with rfl | rfl | rfl | rfl | rfl | rfl
    · have hv : Hid (valueF d c f = (u == x)) := by
        show _ = _
        rw [valueF_eq, if_pos HX.out.1, HX.out.2.1, HX.out.2.2.1, HX.out.2.2.2, HGD.out]
        simp [cmpB]
      have hix := idxB1
      go_wp2_with fail
      go_ret
      exact ⟨congrArg (fun b => Ending.returned (Value.bool b)) (show (u == x) = valueF d c f from hv.out.symm), HO.out.base⟩
    · have hv : Hid (valueF d c f = (u != x)) := by
        show _ = _
        rw [valueF_eq, if_pos HX.out.1, HX.out.2.1, HX.out.2.2.1, HX.out.2.2.2, HGD.out]
        simp [cmpB]
      have hix := idxB2
      go_wp2_with fail
      go_ret
      exact ⟨congrArg (fun b => Ending.returned (Value.bool b)) (show (u != x) = valueF d c f from hv.out.symm), HO.out.base⟩
    · have hv : Hid (valueF d c f = decide (u < x)) := by
        show _ = _
        rw [valueF_eq, if_pos HX.out.1, HX.out.2.1, HX.out.2.2.1, HX.out.2.2.2, HGD.out]
        simp [cmpB]
      have hix := idxB3
      go_wp2_with fail
      go_ret
      exact ⟨congrArg (fun b => Ending.returned (Value.bool b)) (show (decide (u < x)) = valueF d c f from hv.out.symm), HO.out.base⟩
    · have hv : Hid (valueF d c f = decide (u ≤ x)) := by
        show _ = _
        rw [valueF_eq, if_pos HX.out.1, HX.out.2.1, HX.out.2.2.1, HX.out.2.2.2, HGD.out]
        simp [cmpB]
      have hix := idxB4
      go_wp2_with fail
      go_ret
      exact ⟨congrArg (fun b => Ending.returned (Value.bool b)) (show (decide (u ≤ x)) = valueF d c f from hv.out.symm), HO.out.base⟩
    · have hv : Hid (valueF d c f = decide (x < u)) := by
        show _ = _
        rw [valueF_eq, if_pos HX.out.1, HX.out.2.1, HX.out.2.2.1, HX.out.2.2.2, HGD.out]
        simp [cmpB]
      have hix := idxB5
      go_wp2_with fail
      go_ret
      exact ⟨congrArg (fun b => Ending.returned (Value.bool b)) (show (decide (x < u)) = valueF d c f from hv.out.symm), HO.out.base⟩
    · have hv : Hid (valueF d c f = decide (x ≤ u)) := by
        show _ = _
        rw [valueF_eq, if_pos HX.out.1, HX.out.2.1, HX.out.2.2.1, HX.out.2.2.2, HGD.out]
        simp [cmpB]
      have hix := idxB6
      go_wp2_with fail
      go_ret
      exact ⟨congrArg (fun b => Ending.returned (Value.bool b)) (show (decide (x ≤ u)) = valueF d c f from hv.out.symm), HO.out.base⟩
  have h3' : (o == 3) = false := by simpa using h3
  have hcase2 := (hcase.resolve_left (fun h => h3 h.1)).2
  clear hcase hidx
  by_cases h4 : o = 4
  · subst h4
    obtain ⟨q, hq⟩ : ∃ q, f.kids = [q] := by
      rcases hcase2 with h | h | h
      · omega
      · exact h.2
      · omega
    have hN1 : N = 1 := by rw [HN.out, hq]; rfl
    subst hN1
    have HQ : Hid (f.kids[0]? = some q) := by show _ = _; rw [hq]; rfl
    have HV : Hid (valueF d c f = !valueF d c q) := by
      show _ = _
      rw [valueF_eq, HX.out.1, hq]
      simp [valueAll]
    clear hq hcase2
    go_wp2_with fail
    rw [← hW1, ← hbf]
    clear hW1 hbf
    refine wp_region_can [5] (List.range 8) (by decide +kernel) (by decide +kernel) ?_
    replace HO := Lib.hid HO.out.drew
    obtain ⟨W5, hW5⟩ : ∃ W5, W5 = W1.drew := ⟨_, rfl⟩
    rw [← hW5] at HO ⊢
    clear hW5
    have HWr := Lib.hid (HW.out.trans (HO.out.base.mono HW.out.size))
    obtain ⟨-, -, lh, -, -, ch⟩ := HE.out.at HWr.out
    obtain ⟨g, off, kv, rfl, hg, hkv, c0, c1, c2, c3, c4⟩ := HF.out.old HWr.out HQ.out
    simp only [Nat.zero_mul, Nat.add_zero] at c0 c1 c2 c3 c4
    obtain ⟨y2, m2, rfl⟩ := hkv.form
    have HKv := Lib.hid hkv
    clear hkv
    obtain ⟨N2, hN2⟩ : ∃ N2, N2 = q.kids.length := ⟨_, rfl⟩
    rw [← hN2] at c4 HKv
    clear hN2
    obtain ⟨bk, -⟩ := HO.out.blk
    have hbf := lt_of_block bk
    have cb0 := cell_of_heap bk (i := 0)
    have cb1 := cell_of_heap bk (i := 1)
    have cb2 := cell_of_heap bk (i := 2)
    have cb3 := cell_of_heap bk (i := 3)
    have cb4 := cell_of_heap bk (i := 4)
    simp only [List.getElem?_toArray, List.getElem?_cons_succ, List.getElem?_cons_zero] at cb0 cb1 cb2 cb3 cb4
    clear bk
    iterate 5 (refine cl_do rfl rfl rfl (by first | rfl | simp [okB, lenV, plainV, Act.eval]) (fun _ _ => ?_); go_wp2_with fail)
    refine cl_call (i := 5) rfl rfl rfl (fun K hK => ?_)
    clear cb0 cb1 cb2 cb3 cb4 hbf c0 c1 c2 c3 c4 hg lh ch
    go_wp2_with fail
    refine (HK.out q _ W5 (List.mem_of_getElem? HQ.out) HKv.out HWr.out).mono ?_
    rintro e W6 ⟨rfl, hb⟩
    have Hb := Lib.hid hb
    replace HO := Lib.hid (HO.out.below hb)
    clear hb
    go_wp2_with fail
    refine And.intro Hb.out ?_
    clear Hb
    iterate 2 (refine cl_do rfl rfl rfl (by first | rfl | simp [okB, lenV, plainV, Act.eval]) (fun _ _ => ?_); go_wp2_with fail)
    refine cl_nil ?_
    go_wp2_with fail
    go_ret
    exact ⟨by rw [HV.out]; rfl, HO.out.base⟩
  have h4' : (o == 4) = false := by simpa using h4
  by_cases h5 : o = 5
  · subst h5
    have HV : Hid (valueF d c f = !(f.kids.any fun k => !valueF d c k)) := by
      show _ = _
      rw [valueF_eq, HX.out.1, all_any]
      rfl
    clear hcase2
    go_wp2_with fail
    rw [← hW1]
    clear hW1 hbf
    go_at_call 61
    have HWr := Lib.hid (HW.out.trans (HO.out.base.mono HW.out.size))
    refine (anyN_c w0 (fun k => !valueF d c k) bh f y N m HN.out hN9 HF.out (fun q qv W hm hq hW => holdsN_c w0 bc bd bh _ _ HE.out q qv (valueF d c q) hq (fun W hW => HK.out q qv W hm hq hW) W hW) W1 HWr.out).mono ?_
    rintro e W6 ⟨rfl, hb⟩
    replace HO := Lib.hid (HO.out.below hb)
    obtain ⟨x2, hx2⟩ : ∃ x2, x2 = f.kids.any fun k => !valueF d c k := ⟨_, rfl⟩
    rw [← hx2] at HV ⊢
    clear hb HWr hx2
    go_wp2_with fail
    go_ret
    exact ⟨by rw [HV.out]; rfl, HO.out.base⟩
  have h5' : (o == 5) = false := by simpa using h5
  by_cases h6 : o = 6
  · subst h6
    have HV : Hid (valueF d c f = (f.kids.any fun k => valueF d c k)) := by
      show _ = _
      rw [valueF_eq, HX.out.1, any_any]
      rfl
    clear hcase2
    have HWr := Lib.hid (HW.out.trans (HO.out.base.mono HW.out.size))
    obtain ⟨-, -, lh, -, -, ch⟩ := HE.out.at HW.out
    go_wp2_with fail
    rw [← hW1]
    clear hW1 hbf lh ch
    go_at_call 61
    refine (anyH_c w0 (fun k => valueF d c k) bc bd bh f y N m HN.out hN9 HF.out HK.out W1 HWr.out).mono ?_
    rintro e W6 ⟨rfl, hb⟩
    replace HO := Lib.hid (HO.out.below hb)
    obtain ⟨x2, hx2⟩ : ∃ x2, x2 = f.kids.any fun k => valueF d c k := ⟨_, rfl⟩
    rw [← hx2] at HV ⊢
    clear hb HWr hx2
    go_wp2_with fail
    go_ret
    exact ⟨by rw [HV.out]; rfl, HO.out.base⟩
  have h6' : (o == 6) = false := by simpa using h6
  have HV : Hid (valueF d c f = (o == 1)) := by
    show _ = _
    rw [valueF_eq, HX.out.1, if_neg h3, if_neg h4, if_neg h5, if_neg h6, Bool.eq_iff_iff]
    simp
  clear hcase2 h3 h4 h5 h6
  go_wp2_with fail
  rw [← hW1]
  clear hW1 hbf
  go_ret
  exact ⟨congrArg (fun b => Ending.returned (Value.bool b)) (show (o == 1) = valueF d c f from HV.out.symm), HO.out.base⟩
abbrev hoP (w : World) (f : Fm) (y : Option Addr) (N m : Nat) (vd vc : Value) : List Piece := [blk w.heap.size (fobj f (.slice y N m)), blk (w.heap.size + 1) (.cells #[vd] 25 (0, 0)), blk (w.heap.size + 2) (.cells #[vc] 68 (0, 0))]
theorem check_zero {d : List Fact} {f : Fm} (h : checkF d f = 0) : largeB f = false ∧ firstF (nodeE d) f = 0 := by
  unfold checkF at h
  cases hb : largeB f
  · rw [if_neg (by rw [hb]; simp)] at h; exact ⟨rfl, h⟩
  · rw [if_pos hb] at h; cases h
set_option maxHeartbeats 4000000 in
theorem Holds_c (f : Fm) (w : World) (kv : Value) (d : List Fact) (v : Value) (c : List Int) (u : Value) (hf : IsFm p w f kv) (hd : IsD w d v) (hc : IsC w c u) (hn : d.length ≤ 1000000) (hm : c.length ≤ 1000000) (hx : ∀ x ∈ d, x.name.length ≤ 140737488355328) {lim : Nat} (hlim : lim ≤ 140737488355328) (hs : short lim f = true) (hz : size f ≤ 900000) :
    Calls Tryz.prog 31 #[fval f kv, .agg #[v], u] w (fun e w' => e = .returned (.bool (holdsF d c f)) ∧ Below w.heap.size w w') := by
  have HS := Lib.hid hs
  have HLim := Lib.hid hlim
  have HD := Lib.hid hd
  have HC := Lib.hid hc
  have HX := Lib.hid hx
  have HDn := Lib.hid hn
  have HCn := Lib.hid hm
  have HZ := Lib.hid hz
  clear hs hlim hd hc hx hn hm hz
  obtain ⟨yd, md, hv⟩ := HD.out.form
  subst hv
  obtain ⟨M, hM⟩ : ∃ M, M = d.length := ⟨_, rfl⟩
  have HM := Lib.hid hM
  rw [← hM] at HD ⊢
  obtain ⟨yc, mc, hv⟩ := HC.out.form
  subst hv
  obtain ⟨Mc, hMc⟩ : ∃ Mc, Mc = c.length := ⟨_, rfl⟩
  have HMc := Lib.hid hMc
  rw [← hMc] at HC ⊢
  clear hM hMc
  obtain ⟨y, m, rfl⟩ := hf.form
  obtain ⟨N, hN⟩ : ∃ N, N = f.kids.length := ⟨_, rfl⟩
  have HN := Lib.hid hN
  rw [← hN] at hf ⊢
  have HF := Lib.hid hf
  clear hN hf
  obtain ⟨W1, hW1⟩ : ∃ W1, W1 = ((w.alloc (fobj f (.slice y N m))).alloc (.cells #[.slice yd M md] 25)).alloc (.cells #[.slice yc Mc mc] 68) := ⟨_, rfl⟩
  obtain ⟨bf, hbf⟩ : ∃ bf, bf = w.heap.size := ⟨_, rfl⟩
  obtain ⟨bd, hbd⟩ : ∃ bd, bd = w.heap.size + 1 := ⟨_, rfl⟩
  obtain ⟨bc, hbc⟩ : ∃ bc, bc = w.heap.size + 2 := ⟨_, rfl⟩
  have HO : Hid (Owns w W1 [blk bf (fobj f (.slice y N m)), blk bd (.cells #[.slice yd M md] 25 (0, 0)), blk bc (.cells #[.slice yc Mc mc] 68 (0, 0))]) := by
    rw [hW1, hbf, hbd, hbc]
    have := (((Owns.start w).box (fobj f (.slice y N m))).box (.cells #[.slice yd M md] 25 (0, 0))).box (.cells #[.slice yc Mc mc] 68 (0, 0))
    rw [World.size_alloc, World.size_alloc] at this
    exact Lib.hid (this.re [2, 1, 0])
  have HE : Hid (holdsF d c f = (fitsB d c && (decide (checkF d f = 0) && valueF d c f))) := rfl
  go_enter Tryz.func31, Tryz.ntmps31
  go_wp2_with fail
  rw [← hW1]
  try rw [← hbc]
  try rw [← hbd]
  try rw [← hbf]
  clear hW1 hbf hbd hbc
  go_at_call 41
  refine (Fits_c d c _ _ W1 (HD.out.later HO.out.base) (HC.out.later HO.out.base) HDn.out HCn.out HX.out).mono ?_
  rintro e W2 ⟨rfl, hb⟩
  replace HO := Lib.hid (HO.out.below hb)
  clear hb
  obtain ⟨F, hF⟩ : ∃ F, F = fitsB d c := ⟨_, rfl⟩
  have HFt := Lib.hid hF
  rw [← hF] at HE ⊢
  clear hF
  cases F
  · go_wp2_with fail
    go_ret
    exact ⟨by rw [HE.out]; rfl, HO.out.base⟩
  focus
    obtain ⟨bk, -⟩ := HO.out.blk
    have hbf := lt_of_block bk
    have cb0 := cell_of_heap bk (i := 0)
    have cb1 := cell_of_heap bk (i := 1)
    have cb2 := cell_of_heap bk (i := 2)
    have cb3 := cell_of_heap bk (i := 3)
    have cb4 := cell_of_heap bk (i := 4)
    obtain ⟨bk, -⟩ := HO.out.pop.blk
    have hbd := lt_of_block bk
    have cd0 := cell_of_heap bk (i := 0)
    obtain ⟨bk, -⟩ := HO.out.pop.pop.blk
    have hbc := lt_of_block bk
    have cc0 := cell_of_heap bk (i := 0)
    simp only [List.getElem?_toArray, List.getElem?_cons_succ, List.getElem?_cons_zero] at cb0 cb1 cb2 cb3 cb4 cd0 cc0
    clear bk
    go_wp2_with fail
    clear cb0 cb1 cb2 cb3 cb4 hbf cd0 hbd cc0 hbc
  go_at_call 58
  refine (Check_c f W2 _ d _ (HF.out.later HO.out.base) (HD.out.later HO.out.base) HDn.out HX.out HLim.out HS.out HZ.out).mono ?_
  rintro e W3 ⟨rfl, hb⟩
  replace HO := Lib.hid (HO.out.below hb)
  clear hb
  obtain ⟨E, hE⟩ : ∃ E, E = checkF d f := ⟨_, rfl⟩
  have HEE := Lib.hid hE
  rw [← hE] at HE ⊢
  clear hE
  by_cases hE : E = 0
  · subst hE
    obtain ⟨hL, h0⟩ := check_zero HEE.out.symm
    have H0 := Lib.hid h0
    clear hL h0
    have HE2 : Hid (holdsF d c f = valueF d c f) := by show _ = _; rw [HE.out]; simp
    obtain ⟨bh, hbh⟩ : ∃ bh, bh = W3.heap.size := ⟨_, rfl⟩
    obtain ⟨W4, hW4⟩ : ∃ W4, W4 = W3.alloc (.cells #[holV bc bd bh] 100) := ⟨_, rfl⟩
    have HO4 : Hid (Owns w W4 [blk bf (fobj f (.slice y N m)), blk bd (.cells #[.slice yd M md] 25 (0, 0)), blk bc (.cells #[.slice yc Mc mc] 68 (0, 0)), blk bh (.cells #[holV bc bd bh] 100 (0, 0))]) := by
      rw [hW4, hbh]
      exact Lib.hid ((HO.out.box (.cells #[holV bc bd W3.heap.size] 100 (0, 0))).re [1, 2, 3, 0])
    focus
      obtain ⟨bk, -⟩ := HO.out.blk
      have hbf := lt_of_block bk
      have cb0 := cell_of_heap bk (i := 0)
      have cb1 := cell_of_heap bk (i := 1)
      have cb2 := cell_of_heap bk (i := 2)
      have cb3 := cell_of_heap bk (i := 3)
      have cb4 := cell_of_heap bk (i := 4)
      obtain ⟨bk, -⟩ := HO.out.pop.blk
      have hbd := lt_of_block bk
      have cd0 := cell_of_heap bk (i := 0)
      obtain ⟨bk, -⟩ := HO.out.pop.pop.blk
      have hbc := lt_of_block bk
      have cc0 := cell_of_heap bk (i := 0)
      simp only [List.getElem?_toArray, List.getElem?_cons_succ, List.getElem?_cons_zero] at cb0 cb1 cb2 cb3 cb4 cd0 cc0
      clear bk
      go_wp2_with fail
    try rw [← hbh]
    rw [← hW4]
    clear hW4 hbh HO
    have hE : HoE W4 bc bd bh (.slice yc Mc mc) (.slice yd M md) := by
      obtain ⟨b1, -⟩ := HO4.out.pop.blk
      obtain ⟨b2, -⟩ := HO4.out.pop.pop.blk
      obtain ⟨b3, -⟩ := HO4.out.pop.pop.pop.blk
      exact ⟨lt_of_block b2, lt_of_block b1, lt_of_block b3, by rw [cell_of_heap b2]; rfl, by rw [cell_of_heap b1]; rfl, by rw [cell_of_heap b3]; rfl⟩
    obtain ⟨-, hlen, -⟩ := fits_valid HFt.out.symm
    refine (holds_c (p := p) W4 bc bd bh d c yd yc M md Mc mc hE (HD.out.later HO4.out.base) (HC.out.later HO4.out.base) HMc.out hlen HDn.out HX.out HLim.out f W4 _ (Below.refl _ _) (HF.out.later HO4.out.base) HS.out HZ.out H0.out).mono ?_
    rintro e W5 ⟨rfl, hb⟩
    have HB := Lib.hid (HO4.out.below hb).base
    clear hb hE hlen HO4
    go_wp2_with fail
    go_ret
    exact ⟨by rw [HE2.out]; rfl, HB.out⟩
  · have hE' : ((E : Int) != 0) = true := by simpa using hE
    have HE2 : Hid (holdsF d c f = false) := by show _ = _; rw [HE.out]; simp [hE]
    clear hE
    go_wp2_with fail
    go_ret
    exact ⟨by rw [HE2.out]; rfl, HO.out.base⟩
end
end Go.Proofs.YtakadfdnhlfijaaGreatDoor

/-
  The ledger: At.
-/
import Derived.Test.YtlkihpgpcgeogaaDoorLgNew
import Derived.Test.YtlkihpgpcgeogaaDoorFzFn
namespace Go.Cz.Td
/-- The balance at an instant: the bookings behind it, the last first, are taken back. -/
def atR (t : Int) (z : Bool) : Int → List Bkg → Int
  | n, [] => n
  | n, x :: r => if x.tm ≤ t then n else atR t z (n - amt x.u z) r
def sumU (z : Bool) : List Bkg → Int
  | [] => 0
  | x :: r => amt x.u z + sumU z r
theorem sumU_append (z : Bool) : ∀ a b : List Bkg, sumU z (a ++ b) = sumU z a + sumU z b
  | [], b => by simp [sumU]
  | x :: r, b => by simp only [List.cons_append, sumU, sumU_append z r b]; omega
theorem atR_all (t : Int) (z : Bool) : ∀ (n : Int) (l : List Bkg), (∀ x ∈ l, t < x.tm) → atR t z n l = n - sumU z l
  | n, [], _ => by simp [atR, sumU]
  | n, x :: r, h => by
    have h1 := h x (by simp)
    have h2 := atR_all t z (n - amt x.u z) r fun y hy => h y (by simp [hy])
    simp only [atR, sumU, h2, if_neg (Int.not_le.2 h1)]
    omega
theorem atR_hit (t : Int) (z : Bool) (p : Bkg) (q : List Bkg) (hp : p.tm ≤ t) : ∀ (n : Int) (l : List Bkg), (∀ x ∈ l, t < x.tm) → atR t z n (l ++ p :: q) = n - sumU z l
  | n, [], _ => by simp [atR, sumU, hp]
  | n, x :: r, h => by
    have h1 := h x (by simp)
    have h2 := atR_hit t z p q hp (n - amt x.u z) r fun y hy => h y (by simp [hy])
    simp only [List.cons_append, atR, sumU, h2, if_neg (Int.not_le.2 h1)]
    omega
theorem sumU_bound (z : Bool) : ∀ l : List Bkg, (∀ x ∈ l, -1000000000000 ≤ x.u ∧ x.u ≤ 1000000000000) → -1000000000000 * (l.length : Int) ≤ sumU z l ∧ sumU z l ≤ 1000000000000 * (l.length : Int)
  | [], _ => by simp [sumU]
  | x :: r, h => by
    have h1 := h x (by simp)
    have h2 := sumU_bound z r fun y hy => h y (by simp [hy])
    simp only [sumU, List.length_cons]
    have h3 : -1000000000000 ≤ amt x.u z ∧ amt x.u z ≤ 1000000000000 := by
      unfold amt
      cases z <;> simp <;> omega
    omega
/-- The places of a row, the last first. -/
def bwd (m : Nat) : List (Fin m) := (List.finRange m).reverse
theorem bwd_len (m : Nat) : (bwd m).length = m := by simp [bwd]
theorem bwd_take {m k : Nat} (h : k < m) : (bwd m).take (m - (k + 1)) ++ [⟨k, h⟩] = (bwd m).take (m - k) := by
  have h0 : m - (k + 1) < (bwd m).length := by rw [bwd_len]; omega
  have h1 : m - k = m - (k + 1) + 1 := by omega
  rw [h1, List.take_succ_eq_append_getElem h0]
  congr 2
  simp only [bwd, List.getElem_reverse, List.getElem_finRange]
  apply Fin.ext
  simp
  omega
theorem bwd_map {m : Nat} (l : List Bkg) (h : l.length = m) (f : Fin m → Bkg) (hf : ∀ k : Fin m, f k = l[k.1]'(by omega)) : (bwd m).map f = l.reverse := by
  subst h
  unfold bwd
  rw [List.map_reverse]
  congr 1
  apply List.ext_getElem
  · simp
  · intro i h1 h2
    simp [hf]
end Go.Cz.Td
namespace Go.Proofs.YtlkihpgpcgeogaaDoor
open Go.RowKit Go.Cz Go.Cz.Td Go.Shelf Go.ChangeMaps
set_option linter.unusedSimpArgs false
set_option linter.unusedVariables false
attribute [local go_sem] Oper.semAt_some bs_size bs_extract bs_append bs_toList
attribute [local irreducible] cList cPlan
theorem back_c (y : Option Addr) (m c : Nat) (w : World) : Calls Tryd.prog 28 #[.slice y m c] w fun e w' => e = .returned (.func (.func 36) #[] #[.pointer (some ⟨w.heap.size, 0, none⟩)]) ∧ w' = w.alloc (.cells #[.slice y m c] 65) := by
  go_enter Tryd.func28, Tryd.ntmps28
  go_wp2_with fail
  go_ret
  exact ⟨rfl, rfl⟩
/-- A ledger that lies in a world, older than what is to come. -/
structure LedIn (w : World) (b m : Nat) (f : Fin m → Bkg × Value) (y : Option Addr) (c : Nat) : Prop where
  lt : b < w.heap.size
  row : w.cell? ⟨b, 1, none⟩ = some (.slice y m c)
  at_ : ∀ k : Fin m, ∃ g p cp, y = some ⟨g, 0, none⟩ ∧ g < w.heap.size ∧ p < w.heap.size ∧ (f k).2 = .slice (some ⟨p, 0, none⟩) 2 cp ∧
    w.cell? ⟨g, k.1 * 3, none⟩ = some (.string (bs (f k).1.id)) ∧ w.cell? ⟨g, k.1 * 3 + 1, none⟩ = some (.int .i64 (f k).1.tm) ∧ w.cell? ⟨g, k.1 * 3 + 2, none⟩ = some (f k).2 ∧
    w.cell? ⟨p, 0, none⟩ = some (.string (bs (nmB (f k).1.o))) ∧ w.cell? ⟨p, 1, none⟩ = some (.int .i64 (amt (f k).1.u (f k).1.o)) ∧ w.cell? ⟨p, 2, none⟩ = some (.string (bs (nmB !(f k).1.o))) ∧ w.cell? ⟨p, 3, none⟩ = some (.int .i64 (amt (f k).1.u !(f k).1.o))
theorem LedIn.below {w W : World} {b m c : Nat} {f : Fin m → Bkg × Value} {y : Option Addr} (h : LedIn w b m f y c) (hb : Below w.heap.size w W) : LedIn W b m f y c :=
  ⟨Nat.lt_of_lt_of_le h.lt hb.size, (hb.cell (p := ⟨b, 1, none⟩) h.lt).trans h.row, fun k => by
    obtain ⟨g, p, cp, h0, h1, h2, h3, h4, h5, h6, h7, h8, h9, h10⟩ := h.at_ k
    exact ⟨g, p, cp, h0, Nat.lt_of_lt_of_le h1 hb.size, Nat.lt_of_lt_of_le h2 hb.size, h3, (hb.cell (p := ⟨g, _, none⟩) h1).trans h4, (hb.cell (p := ⟨g, _, none⟩) h1).trans h5, (hb.cell (p := ⟨g, _, none⟩) h1).trans h6,
      (hb.cell (p := ⟨p, _, none⟩) h2).trans h7, (hb.cell (p := ⟨p, _, none⟩) h2).trans h8, (hb.cell (p := ⟨p, _, none⟩) h2).trans h9, (hb.cell (p := ⟨p, _, none⟩) h2).trans h10⟩⟩
theorem led_in {w0 w : World} {ps : List Piece} {b : Nat} {s : Lg} (h : Owns w0 w (ledP b s :: ps)) : ∃ (bl : List (Bkg × Value)) (y : Option Addr) (c : Nat), bl.map (·.1) = s.bks ∧ LedIn w b bl.length (fun k => bl[k.1]) y c := by
  obtain ⟨ga, gi, gt, v, ids, ci, tr, ct, bl, -, hbl, h⟩ := h.led
  have hr := h.pop.pop.pop.pop.row
  obtain ⟨y, c, rfl⟩ : ∃ y c, v = .slice y bl.length c := by
    rcases hr.2 with ⟨rfl, h0⟩ | ⟨g, c, cur, rfl, -⟩
    · exact ⟨none, 0, by rw [h0]⟩
    · exact ⟨_, _, rfl⟩
  refine ⟨bl, y, c, hbl, lt_of_block h.blk.1, by rw [cell_of_heap h.blk.1]; rfl, fun k => ?_⟩
  obtain ⟨g, c', e, -, -, hg, -, hc⟩ := row_at hr (by have := k.2; omega)
  cases e
  have hk : bl[k.1]? = some bl[k.1] := List.getElem?_eq_getElem _
  obtain ⟨h1, h2, h3⟩ := bcs_at bl k.1 _ hk
  have hp := h.pop.pop.pop.pop.pop
  obtain ⟨-, S, hl, -⟩ := hp
  have hx := posts_row hl hk
  obtain ⟨p, cp, e, -, -, hpl, -, hcp⟩ := row_at hx (by omega)
  refine ⟨g, p, cp, rfl, hg, hpl, e, hc _ _ h1, hc _ _ h2, hc _ _ h3, hcp _ _ rfl, hcp _ _ rfl, hcp _ _ rfl, hcp _ _ rfl⟩
def encB {m : Nat} (f : Fin m → Bkg × Value) (k : Fin m) : Array Value := #[.int .i64 (k.1 : Int), .agg #[.string (bs (f k).1.id), .int .i64 (f k).1.tm, (f k).2]]
set_option maxRecDepth 100000 in
set_option maxHeartbeats 2000000 in
theorem back1_in (F : Fence) (n : Nat) (hf : F.fn 36) (hro : F.round = none) (hn : 1 ≤ n) (lp Bz b m : Nat) (w0 : World) (f : Fin m → Bkg × Value) (y : Option Addr) (c : Nat) (ha : LedIn w0 b m f y c) (hm : m ≤ 1000)
    (J Jx : List (Fin m) → World → Prop) (W : World) (hJ : AbidesFrom W.heap.size J) (hbW : Below w0.heap.size w0 W) (hBz : Bk W Bz #[.slice y m c] 65)
    (hY : ∀ pre x W1, J pre W1 → pre.length < m → YieldAt F (n - 1) Tryd.prog lp (encB f x) W1 fun e W' => (e = .returned (.bool true) ∧ J (pre ++ [x]) W' ∧ Kz w0 Bz W1 W') ∨ (e = .returned (.bool false) ∧ Jx (pre ++ [x]) W'))
    (h0 : J [] W) :
    CallsIn F n Tryd.prog 36 #[.func (.yield lp) #[] #[], .pointer (some ⟨Bz, 0, none⟩)] W fun e W' => (∃ v, e = .returned v) ∧ ((∃ ys, ys = bwd m ∧ J ys W') ∨ (∃ pre, pre <+: bwd m ∧ Jx pre W')) := by
  have HA := Lib.hid ha
  have HY := Lib.hid hY
  have hz0 := hBz.lt
  have HBz := Lib.hid hBz
  have c0 : W.cell? ⟨Bz, 0, none⟩ = some (.slice y m c) := by rw [hBz.cell]; rfl
  have HBW := Lib.hid hbW
  have h00 : J ((bwd m).take (m - m)) W := by rw [Nat.sub_self]; exact h0
  have H0 := Lib.hid h00
  clear ha hY hBz hbW h0 h00
  refine callsIn_of_wp Tryd.func36 rfl hf ?_ hro
  simp only [Tryd.ntmps36, List.size_toArray, List.length_cons, List.length_nil, Nat.reduceAdd, Nat.reduceSub, Array.replicate_succ, Array.replicate_zero, List.push_toArray, List.append_toArray, List.nil_append, List.cons_append]
  gi_wp2
  clear c0
  gi_loopw [3] (fun i wr => ∃ k : Nat, k ≤ m ∧ i = .int .i64 ((k : Int) - 1) ∧ Hid (J ((bwd m).take (m - k)) wr) ∧ Hid (Kz w0 Bz W wr)) (fun i _ => (intOf i + 1).toNat)
  case atStart => exact ⟨m, Nat.le_refl _, by go_num, H0, Lib.hid (Kz.refl _ _ _)⟩
  case round =>
    clear H0
    obtain ⟨k, hk, rfl, hJs, hK⟩ := hrel
    rcases Nat.eq_zero_or_pos k with rfl | hpos
    · have hJe : J (bwd m) wr := by
        have := hJs.out
        rwa [Nat.sub_zero, List.take_of_length_le (by rw [bwd_len]; exact Nat.le_refl _)] at this
      have HJe := Lib.hid hJe
      clear hJe hJs
      gi_wp2
      go_end0
      exact ⟨⟨_, rfl⟩, .inl ⟨_, rfl, HJe.out⟩⟩
    · obtain ⟨k, rfl⟩ : ∃ j, k = j + 1 := ⟨k - 1, by omega⟩
      have e1 : (((k + 1 : Nat) : Int) - 1) = (k : Int) := by omega
      rw [e1]
      have hbr := HBW.out.trans hK.out.1
      have hBr : Bk wr Bz #[.slice y m c] 65 := hK.out.2.trans HBz.out
      have hzr := hBr.lt
      have cz : wr.cell? ⟨Bz, 0, none⟩ = some (.slice y m c) := by rw [hBr.cell]; rfl
      obtain ⟨g, p, cp, rfl, hg, -, e2, d0, d1, d2, -⟩ := (HA.out.below hbr).at_ ⟨k, hk⟩
      dsimp only at d0 d1 d2
      obtain ⟨fn, tmps, assign, body, hy, hR⟩ := HY.out _ ⟨k, hk⟩ _ hJs.out (by rw [List.length_take, bwd_len]; omega)
      have hkm : (k : Int) < (m : Int) := by omega
      have hk0 : (0 : Int) ≤ (k : Int) := by omega
      rw [bwd_take hk] at hR
      have HP : Hid ((bwd m).take (m - k) <+: bwd m) := List.take_prefix _ _
      dsimp only [encB] at hy
      rw [e2] at d2 hy
      clear hJs hBr
      gi_wp2
      refine hR.mono ?_
      rintro e W3 (⟨rfl, hJ3, hk3⟩ | ⟨rfl, hJx3⟩)
      · have HJ3 := Lib.hid hJ3
        have HK3 : Hid (Kz w0 Bz W W3) := hK.out.trans hk3
        clear hJ3 hk3 hR hy
        gi_wp2
        go_roundw
        case rel => exact ⟨k, by omega, by go_num, HJ3, HK3⟩
        case measure => simp [intOf] <;> omega
      · have HJx : Hid (∃ pre, pre <+: bwd m ∧ Jx pre W3) := ⟨_, HP.out, hJx3⟩
        clear hJx3 hR hy
        gi_wp2
        refine bodyPost_ret (results_none rfl _ _ _) rfl ?_
        exact ⟨⟨_, rfl⟩, .inr HJx.out⟩
theorem back_stops (n : Nat) (hn : 1 ≤ n) (Bz b m : Nat) (w0 : World) (f : Fin m → Bkg × Value) (y : Option Addr) (c : Nat) (ha : LedIn w0 b m f y c) (hm : m ≤ 1000) (w : World) (hbw : Below w0.heap.size w0 w) (hBz : Bk w Bz #[.slice y m c] 65) :
    SeqStopsK Fence.wide n Tryd.prog 36 #[.pointer (some ⟨Bz, 0, none⟩)] (encB f) (Kz w0 Bz) (fun ys => ys = bwd m) (fun pre => pre <+: bwd m) m w := fun lp J Jx W hW hJ _ hY h0 =>
  back1_in Fence.wide n trivial rfl hn lp Bz b m w0 f y c ha hm J Jx W hJ (hbw.trans (hW.mono hbw.size)) (hBz.below hW) hY h0
theorem at_res {W : World} {tmps : Array Value} {u v : Value} (h : tmps.getD 6 undef = u) (h2 : tmps.getD 7 undef = v) : (results Tryd.f15 tmps).run Tryd.prog W = .ok (.tuple #[u, v]) W := by
  have h' : tmps[6]?.getD undef = u := by simpa using h
  have h2' : tmps[7]?.getD undef = v := by simpa using h2
  simp [results, Tryd.results15, go_sem, h', h2']
abbrev bkf {m : Nat} (f : Fin m → Bkg × Value) (k : Fin m) : Bkg := (f k).1
/-- What holds between two rounds. -/
def AtI (w : World) (L m : Nat) (f : Fin m → Bkg × Value) (y : Option Addr) (c : Nat) (z : Bool) (t n : Int) (pre : List (Fin m)) (W : World) : Prop :=
  Bk W L #[.int .i64 (n - sumU z (pre.map (bkf f)))] 3 ∧ Bk W (L + 1) #[.slice y m c] 65 ∧ Below w.heap.size w W ∧ ∀ x ∈ pre, t < (f x).1.tm
def AtX (w : World) (L m : Nat) (f : Fin m → Bkg × Value) (z : Bool) (t n : Int) (e : Code) (pre : List (Fin m)) (W : World) : Prop :=
  Below w.heap.size w W ∧ e = .exit 0 ∧ ∃ ini p, pre = ini ++ [p] ∧ (∀ x ∈ ini, t < (f x).1.tm) ∧ (f p).1.tm ≤ t ∧ Bk W L #[.int .i64 (n - sumU z (ini.map (bkf f)))] 3
def prt (k : Nat) (o z : Bool) (u : Int) : Int := (if 1 ≤ k ∧ o = z then amt u z else 0) + (if 2 ≤ k ∧ o ≠ z then amt u z else 0)
theorem nm_beq {o z : Bool} (e : o ≠ z) : (nmB o == nmB z) = false := by
  cases o <;> cases z <;> first | exact absurd rfl e | decide
theorem prt_0 {o z : Bool} {u : Int} : prt 0 o z u = 0 := by simp [prt]
theorem prt_1e {o z : Bool} {u : Int} (e : o = z) : prt 1 o z u = amt u o := by subst e; simp [prt]
theorem prt_1n {o z : Bool} {u : Int} (e : o ≠ z) : prt 1 o z u = 0 := by simp [prt, e]
theorem prt_2 {o z : Bool} {u : Int} : prt 2 o z u = amt u z := by
  by_cases e : o = z <;> simp [prt, e]
theorem prt_bound (k : Nat) (o z : Bool) (u : Int) (hu : -1000000000000 ≤ u ∧ u ≤ 1000000000000) : -1000000000000 ≤ prt k o z u ∧ prt k o z u ≤ 1000000000000 := by
  have h : -1000000000000 ≤ amt u z ∧ amt u z ≤ 1000000000000 := by
    unfold amt
    cases z <;> simp <;> omega
  unfold prt
  by_cases e : o = z <;> simp [e] <;> split <;> omega
theorem at_keep {w2 W wr : World} {L : Nat} {v : Value} {t : TypeId} (hwL : w2.heap.size ≤ L) (lwr : w2.heap.size ≤ wr.heap.size) (hz1 : L + 1 < wr.heap.size) (hK : Kz w2 (L + 1) W wr) (hO : KeepsOthers W wr) (hL : Bk wr L #[v] t) (o : Obj) :
    Bk (wr.alloc o) L #[v] t ∧ Kz w2 (L + 1) W (wr.alloc o) ∧ KeepsOthers W (wr.alloc o) :=
  ⟨hL.alloc _, hK.alloc lwr hz1 _, hO.trans (KeepsOthers.alloc _ _)⟩
theorem at_set {w2 W wr : World} {L : Nat} {v : Value} {t : TypeId} (hwL : w2.heap.size ≤ L) (lwr : w2.heap.size ≤ wr.heap.size) (hz1 : L + 1 < wr.heap.size) (hK : Kz w2 (L + 1) W wr) (hO : KeepsOthers W wr) (hL : Bk wr L #[v] t) (o : Obj) (x : Value) :
    Bk ((wr.setCell ⟨L, 0, none⟩ x).alloc o) L #[x] t ∧ Kz w2 (L + 1) W ((wr.setCell ⟨L, 0, none⟩ x).alloc o) ∧ KeepsOthers W ((wr.setCell ⟨L, 0, none⟩ x).alloc o) :=
  at_keep hwL (by simpa using lwr) (by simpa using hz1) (hK.trans ⟨(Below.refl _ _).setCell (p := ⟨L, 0, none⟩) hwL _, setCell_heap_ne (by show L + 1 ≠ L; omega) _⟩) (hO.trans (KeepsOthers.setCell _ _ _)) (hL.set 0 x) o
set_option maxRecDepth 100000 in
set_option maxHeartbeats 4000000 in
theorem lat_c {w0 : World} {ps : List Piece} {b : Nat} {s : Lg} (z : Bool) (t : Int) (w : World) (h : Owns w0 w (ledP b s :: ps)) (hu : ∀ x ∈ s.bks, -1000000000000 ≤ x.u ∧ x.u ≤ 1000000000000) (hl : s.bks.length ≤ 1000) (hf : -1000000000000000 ≤ s.f z ∧ s.f z ≤ 1000000000000000) :
    Calls Tryd.prog 15 #[.pointer (some ⟨b, 0, none⟩), .string (bs (nmB z)), .int .i64 t] w fun e w' => e = .returned (.tuple #[.int .i64 (atR t z (s.f z) s.bks.reverse), .int .i64 0]) ∧ Below w.heap.size w w' := by
  obtain ⟨bl, y, c, hbl, hi⟩ := led_in h
  obtain ⟨m, hm⟩ : ∃ m, m = bl.length := ⟨_, rfl⟩
  obtain ⟨f, hff⟩ : ∃ f : Fin m → Bkg × Value, f = fun k => bl[k.1]'(by have := k.2; omega) := ⟨_, rfl⟩
  have hi2 : LedIn w b m f y c := by
    subst hm
    rw [hff]
    exact hi
  have hsl : s.bks.length = m := by rw [← hbl, List.length_map, hm]
  have hfb : ∀ k : Fin m, bkf f k = s.bks[k.1]'(by rw [hsl]; exact k.2) := fun k => by
    simp only [bkf, hff, ← hbl, List.getElem_map]
  have HR := Lib.hid (bwd_map s.bks hsl (bkf f) hfb)
  have HU : Hid (∀ k : Fin m, -1000000000000 ≤ (f k).1.u ∧ (f k).1.u ≤ 1000000000000) := fun k => by
    have h1 := hfb k
    simp only [bkf] at h1
    rw [h1]
    exact hu _ (List.getElem_mem _)
  have hm9 : m ≤ 1000 := by omega
  obtain ⟨N, hN⟩ : ∃ N, N = s.f z := ⟨_, rfl⟩
  have HN := Lib.hid hN
  rw [← hN] at hf ⊢
  have HC := Lib.hid fun (w' : World) (hb : Below w.heap.size w w') => lbal_c z w' (h.below hb)
  have HI := Lib.hid hi2
  have HF := Lib.hid hf
  clear h hu hl hi hi2 hff hm hbl hsl hfb hN hf
  refine calls_marks 8 Tryd.func15 rfl ?_
  simp only [Tryd.ntmps15, List.size_toArray, List.length_cons, List.length_nil, Nat.reduceAdd, Nat.reduceSub, Array.replicate_succ, Array.replicate_zero, List.push_toArray, List.append_toArray, List.nil_append, List.cons_append]
  go_wp2_with fail
  have hB1 : Below w.heap.size w ((w.alloc (.cells #[.string (bs (nmB z))] 9)).alloc (.cells #[.int .i64 t] 3)) := ((Below.refl _ _).alloc (Nat.le_refl _) _).alloc (by simp) _
  have b4 := (Bk.new w #[.string (bs (nmB z))] 9).alloc (.cells #[.int .i64 t] 3)
  have b5 := Bk.new (w.alloc (.cells #[.string (bs (nmB z))] 9)) #[.int .i64 t] 3
  rw [World.size_alloc] at b5
  obtain ⟨p4, hp4⟩ : ∃ x, x = w.heap.size := ⟨_, rfl⟩
  obtain ⟨w1, hw1⟩ : ∃ W, W = (w.alloc (.cells #[.string (bs (nmB z))] 9)).alloc (.cells #[.int .i64 t] 3) := ⟨_, rfl⟩
  rw [← hw1] at hB1 b4 b5 ⊢
  rw [← hp4] at b4 b5 ⊢
  have hsz1 : w1.heap.size = p4 + 2 := by rw [hw1, hp4]; simp
  have HP4 := Lib.hid hp4
  clear hw1 hp4
  refine (HC.out w1 hB1).mono ?_
  rintro e w2 ⟨rfl, hb⟩
  rw [← HN.out]
  have i2 := HI.out.below (hB1.trans (hb.mono hB1.size))
  have hB2 : Below w.heap.size w w2 := hB1.trans (hb.mono hB1.size)
  replace b4 := b4.below hb
  replace b5 := b5.below hb
  have hsz2 : p4 + 2 ≤ w2.heap.size := by have := hb.size; omega
  clear hb HC HI hB1 hsz1
  obtain ⟨L, hL⟩ : ∃ L, L = w2.heap.size := ⟨_, rfl⟩
  have lb := i2.lt
  have cb := i2.row
  have H2 := Lib.hid (And.intro i2 (And.intro hB2 (And.intro b4 b5)))
  clear i2 hB2 b4 b5
  go_wp2_with fail
  clear cb
  go_at_call 28
  refine (back_c y m c _).mono ?_
  rintro e w3 ⟨rfl, rfl⟩
  go_wp2_with fail
  rw [← hL] at lb ⊢
  have bL := (Bk.new w2 #[.int .i64 N] 3).alloc (.cells #[.slice y m c] 65)
  have bz := Bk.new (w2.alloc (.cells #[.int .i64 N] 3)) #[.slice y m c] 65
  have hB0 : Below w2.heap.size w2 ((w2.alloc (.cells #[.int .i64 N] 3)).alloc (.cells #[.slice y m c] 65)) := ((Below.refl _ _).alloc (Nat.le_refl _) _).alloc (by simp) _
  have hsz : ((w2.alloc (.cells #[.int .i64 N] 3)).alloc (.cells #[.slice y m c] 65)).heap.size = L + 2 := by simp; omega
  rw [← hL] at bL
  rw [World.size_alloc, ← hL] at bz
  obtain ⟨W0, hW0⟩ : ∃ W0, (w2.alloc (.cells #[.int .i64 N] 3)).alloc (.cells #[.slice y m c] 65) = W0 := ⟨_, rfl⟩
  rw [hW0] at bL bz hB0 hsz ⊢
  clear hW0
  have hwL : w2.heap.size ≤ L := by omega
  clear hL
  rw [← wpIn_wide (n := 8)]
  refine wpIn_rangeFunc_ownH rfl (by omega) (gf := 36) (lb := #[.pointer (some ⟨L + 1, 0, none⟩)]) rfl trivial (enters_of Tryd.func36 (by kernel_rfl) rfl)
    (back_stops 7 (by omega) (L + 1) b m w2 f y c H2.out.1 hm9 W0 hB0 bz) Kz.trans (Kz.turn hB0.size (by omega)) (Below.refl _ _) (fun _ => rfl)
    (AtI w2 L m f y c z t N) (AtX w2 L m f z t N)
    (fun s A B row hs hg hr => ⟨hs.1.grown hg fun r e => (hr r e).2, hs.2.1.grown hg fun r e => (hr r e).2, hs.2.2.1.grown hg hs.2.2.1.size (fun r e => by have := (hr r e).1; omega), hs.2.2.2⟩)
    (fun e s A B row hs hg hr => by
      obtain ⟨h1, h2, ini, p, h3, h4, h5, h6⟩ := hs
      exact ⟨h1.grown hg h1.size (fun r e => by have := (hr r e).1; omega), h2, ini, p, h3, h4, h5, h6.grown hg fun r e => (hr r e).2⟩)
    ⟨by simpa [sumU] using bL, bz, hB0, by simp⟩
    (fun p a' W => ∃ Bx, L + 1 < Bx ∧ Bk W Bx #[.string (bs (f p).1.id), .int .i64 (f p).1.tm, (f p).2] 41 ∧ a' = { tmps := #[.pointer (some ⟨b, 0, none⟩), .string (bs (nmB z)), .int .i64 t, undef, .pointer (some ⟨p4, 0, none⟩), .pointer (some ⟨p4 + 1, 0, none⟩), .int .i64 0, .int .i64 0, .pointer (some ⟨L, 0, none⟩), .int .i64 0, undef, .pointer (some ⟨Bx, 0, none⟩), undef, undef, .tuple #[.int .i64 N, .int .i64 0], .pointer (some ⟨b, 0, none⟩), .string (bs (nmB z)), .tuple #[.int .i64 N, .int .i64 0], .int .i64 N, .int .i64 0, .int .i64 0, .bool false, undef, .pointer (some ⟨b, 0, none⟩), .pointer (some ⟨b, 0, none⟩), .pointer (some ⟨b, 1, none⟩), .slice y m c, .func (.func 36) #[] #[.pointer (some ⟨L + 1, 0, none⟩)], .int .i64 (p.1 : Int), .agg #[.string (bs (f p).1.id), .int .i64 (f p).1.tm, (f p).2], undef, undef, undef, undef, undef, undef, undef, undef, undef, undef, undef, undef, undef, undef, undef, undef, undef, undef, undef, undef, undef], defers := [] })
    (fun p a' _ X Y row hs hg hr => by obtain ⟨Bx, h1, h2, h3⟩ := hs; exact ⟨Bx, h1, h2.grown hg fun r e => (hr r e).2, h3⟩)
    ?assign ?body ?done ?stop
  case assign =>
    rintro lp pre p W K ⟨i1, i2, i3, i4⟩ hK
    have hlt := i2.lt
    have hs4 := i3.size
    unfold encB
    obtain ⟨q, cq, e2⟩ : ∃ q cq, (f p).2 = .slice (some ⟨q, 0, none⟩) 2 cq := by
      obtain ⟨g, q, cq, -, -, -, e2, -⟩ := H2.out.1.at_ p
      exact ⟨_, _, e2⟩
    have HK := Lib.hid hK
    rw [e2] at HK ⊢
    clear hK
    gi_wp2
    exact HK.out _ _ ((KeepsOthers.alloc _ _).from _) ((Kz.refl w2 (L + 1) W).alloc hs4 hlt _) ⟨i1.alloc _, i2.alloc _, i3.alloc hs4 _, i4⟩ ⟨W.heap.size, hlt, Bk.new W _ _, rfl⟩
  case body =>
    rintro lp pre p a' W hl ⟨r, hr⟩ ⟨i1, i2, i3, i4⟩ ⟨Bx, hBx, bX, rfl⟩ hlt
    obtain ⟨j2, jB, j4, j5⟩ := H2.out
    have b4 := j4.below i3
    have b5 := j5.below i3
    obtain ⟨g, q, cq, hy, hg, hq, e2, d0, d1, d2, d3, d4, d5, d6⟩ := (j2.below i3).at_ p
    have hu := HU.out p
    have hs1 := sumU_bound z (pre.map (bkf f)) (fun x hx => by
      obtain ⟨k, -, rfl⟩ := List.mem_map.1 hx
      exact HU.out k)
    rw [List.length_map] at hs1
    obtain ⟨S, hS⟩ : ∃ S, S = N - sumU z (pre.map (bkf f)) := ⟨_, rfl⟩
    have hSb : -2000000000000000 ≤ S ∧ S ≤ 2000000000000000 := by have := HF.out; omega
    have HS := Lib.hid hS
    rw [← hS] at i1
    obtain ⟨⟨⟨id, tm, o, u⟩, pv⟩, hx⟩ : ∃ x, f p = x := ⟨_, rfl⟩
    have HX := Lib.hid hx
    rw [hx] at bX e2 d3 d4 d5 d6 hu ⊢
    dsimp only at bX e2 d3 d4 d5 d6 hu ⊢
    subst e2
    have cX1 : W.cell? ⟨Bx, 1, none⟩ = some (.int .i64 tm) := by rw [bX.cell]; rfl
    have cX2 : W.cell? ⟨Bx, 2, none⟩ = some (.slice (some ⟨q, 0, none⟩) 2 cq) := by rw [bX.cell]; rfl
    have c5 : W.cell? ⟨p4 + 1, 0, none⟩ = some (.int .i64 t) := by rw [b5.cell]; rfl
    have lX := bX.lt
    have l5 := b5.lt
    have I := Lib.hid (And.intro i1 (And.intro i2 (And.intro i3 i4)))
    clear i1 i2 i3 i4 j2 jB j4 j5 b4 b5 bX hy hg d0 d1 d2 hs1 hS hx hl hr hq d3 d4 d5 d6
    by_cases htm : tm ≤ t
    · have HT : Hid ((f p).1.tm ≤ t) := by rw [HX.out]; exact htm
      gi_wp2
      refine ⟨KeepsFrom.refl _ _, I.out.2.2.1, rfl, pre, p, rfl, I.out.2.2.2, HT.out, ?_⟩
      rw [← HS.out]
      exact I.out.1
    · have HTM : Hid (t < (f p).1.tm) := by rw [HX.out]; show t < tm; omega
      gi_wp2
      clear cX1 cX2 c5 lX
      gi_loopw [37] (fun i wr => ∃ k : Nat, k ≤ 2 ∧ i = .int .i64 (k : Int) ∧ Hid (Bk wr L #[.int .i64 (S - prt k o z u)] 3) ∧ Hid (Kz w2 (L + 1) W wr) ∧ Hid (KeepsOthers W wr)) (fun i _ => 2 - (intOf i).toNat)
      case atStart => exact ⟨0, by omega, rfl, Lib.hid (by simpa [prt] using I.out.1), Lib.hid (Kz.refl _ _ _), Lib.hid (KeepsOthers.refl _)⟩
      case round =>
        obtain ⟨k, hk, rfl, hL1, hK1, hO1⟩ := hrel
        obtain ⟨j2, jB, j4, j5⟩ := H2.out
        have hbw := I.out.2.2.1.trans hK1.out.1
        have b4 := j4.below hbw
        have lwr := hbw.size
        obtain ⟨g, q', cq', hy, hg, hq, e2, d0, d1, d2, d3, d4, d5, d6⟩ := (j2.below hbw).at_ p
        rw [HX.out] at e2 d3 d4 d5 d6
        dsimp only at e2 d3 d4 d5 d6
        cases e2
        have c4 : wr.cell? ⟨p4, 0, none⟩ = some (.string (bs (nmB z))) := by rw [b4.cell]; rfl
        have l4 := b4.lt
        have cL : wr.cell? ⟨L, 0, none⟩ = some (.int .i64 (S - prt k o z u)) := by rw [hL1.out.cell]; rfl
        have fL := hL1.out.free 0
        have lL := hL1.out.lt
        have hz1 : L + 1 < wr.heap.size := by
          have := I.out.2.1.lt
          have := hK1.out.1.size
          have := hO1.out.size
          omega
        clear b4 j2 jB j4 j5 hbw hy hg d0 d1 d2
        have bA : ∀ q, -1000000000000 ≤ amt u q ∧ amt u q ≤ 1000000000000 := fun q => by
          unfold amt
          cases q <;> simp <;> omega
        have bA1 := bA o
        have bA2 := bA !o
        obtain ⟨a1, ha1⟩ : ∃ a, a = amt u o := ⟨_, rfl⟩
        obtain ⟨a2, ha2⟩ : ∃ a, a = amt u !o := ⟨_, rfl⟩
        rw [← ha1] at d4 bA1
        rw [← ha2] at d6 bA2
        have HA1 := Lib.hid ha1
        have HA2 := Lib.hid ha2
        clear bA ha1 ha2
        obtain ⟨v, hv⟩ : ∃ v, v = S - prt k o z u := ⟨_, rfl⟩
        rw [← hv] at cL hL1
        have bv : -3000000000000000 ≤ v ∧ v ≤ 3000000000000000 := by
          have := prt_bound k o z u hu
          omega
        have HV := Lib.hid hv
        clear hv
        obtain rfl | rfl | rfl : k = 0 ∨ k = 1 ∨ k = 2 := by omega
        · by_cases e : o = z
          · have hq2 : (nmB o == nmB z) = true := by rw [e]; exact beq_self_eq_true _
            have HE : Hid (v - a1 = S - prt 1 o z u) := by show _ = _; rw [HV.out, HA1.out, prt_0, prt_1e e]; omega
            clear e
            -- a posting of the account: o its name, a1 its units, 1 the next place
            have H1 := Lib.hid (at_set (W := W) hwL lwr hz1 hK1.out hO1.out hL1.out (.cells #[.string (bs (nmB (o))), .int .i64 (a1)] 38) (.int .i64 (v - a1)))
            gi_wp2
            go_roundw
            case rel => exact ⟨1, by omega, by go_num, by rw [← HE.out]; exact Lib.hid H1.out.1, Lib.hid H1.out.2.1, Lib.hid H1.out.2.2⟩
            case measure => simp [intOf]
          · have hq2 : (nmB o == nmB z) = false := nm_beq e
            have HE : Hid (v = S - prt 1 o z u) := by show _ = _; rw [HV.out, prt_0, prt_1n e]
            clear e
            have H1 := Lib.hid (at_keep (W := W) hwL lwr hz1 hK1.out hO1.out hL1.out (.cells #[.string (bs (nmB (o))), .int .i64 (a1)] 38))
            gi_wp2
            go_roundw
            case rel => exact ⟨1, by omega, by go_num, by rw [← HE.out]; exact Lib.hid H1.out.1, Lib.hid H1.out.2.1, Lib.hid H1.out.2.2⟩
            case measure => simp [intOf]
        · by_cases e : o = z
          · have hq2 : (nmB (!o) == nmB z) = false := nm_beq (by cases o <;> cases z <;> simp_all)
            have HE : Hid (v = S - prt 2 o z u) := by show _ = _; rw [HV.out, prt_1e e, prt_2, e]
            clear e
            have H1 := Lib.hid (at_keep (W := W) hwL lwr hz1 hK1.out hO1.out hL1.out (.cells #[.string (bs (nmB (!o))), .int .i64 (a2)] 38))
            gi_wp2
            go_roundw
            case rel => exact ⟨2, by omega, by go_num, by rw [← HE.out]; exact Lib.hid H1.out.1, Lib.hid H1.out.2.1, Lib.hid H1.out.2.2⟩
            case measure => simp [intOf]
          · have e2 : (!o) = z := by cases o <;> cases z <;> simp_all
            have hq2 : (nmB (!o) == nmB z) = true := by rw [e2]; exact beq_self_eq_true _
            have HE : Hid (v - a2 = S - prt 2 o z u) := by show _ = _; rw [HV.out, HA2.out, prt_1n e, prt_2, e2]; omega
            clear e e2
            -- a posting of the account: !o its name, a2 its units, 2 the next place
            have H1 := Lib.hid (at_set (W := W) hwL lwr hz1 hK1.out hO1.out hL1.out (.cells #[.string (bs (nmB (!o))), .int .i64 (a2)] 38) (.int .i64 (v - a2)))
            gi_wp2
            go_roundw
            case rel => exact ⟨2, by omega, by go_num, by rw [← HE.out]; exact Lib.hid H1.out.1, Lib.hid H1.out.2.1, Lib.hid H1.out.2.2⟩
            case measure => simp [intOf]
        · have HE : Hid (v = N - sumU z ((pre ++ [p]).map (bkf f))) := by
            show _ = _
            rw [HV.out, prt_2, HS.out, List.map_append, sumU_append]
            simp only [List.map_cons, List.map_nil, bkf, HX.out, sumU]
            omega
          gi_wp2
          refine ⟨hO1.out.from _, hK1.out, ?_, hK1.out.2.trans I.out.2.1, I.out.2.2.1.trans hK1.out.1, fun y hy => ?_⟩
          · rw [← HE.out]
            exact hL1.out
          · rcases List.mem_append.1 hy with h | h
            · exact I.out.2.2.2 y h
            · simp only [List.mem_singleton] at h
              subst h
              exact HTM.out
  case done =>
    rintro D xs W hD rfl ⟨i1, i2, i3, i4⟩ hK
    have HE : Hid (atR t z N s.bks.reverse = N - sumU z ((bwd m).map (bkf f))) := by
      show _ = _
      rw [HR.out, atR_all]
      intro x hx
      rw [← HR.out] at hx
      obtain ⟨k, hk, rfl⟩ := List.mem_map.1 hx
      exact i4 k hk
    have hB := H2.out.2.1.trans (i3.mono H2.out.2.1.size)
    have c8 : W.cell? ⟨L, 0, none⟩ = some (.int .i64 (atR t z N s.bks.reverse)) := by rw [i1.cell, HE.out]; rfl
    have l8 := i1.lt
    have HK : Hid (∃ w', (Instr.takeDeferred D).run Tryd.prog W = .ok [] w' ∧ Below w.heap.size w w') :=
      ⟨_, run_takeDeferred (by exact hK), hB.trans (belowK_b (w := w) (Nat.le_refl _) W D _ _ (by have := H2.out.2.1.size; omega) (by exact hK) rfl rfl)⟩
    obtain ⟨rv, hrv⟩ : ∃ r, r = atR t z N s.bks.reverse := ⟨_, rfl⟩
    rw [← hrv] at c8
    have HRV := Lib.hid hrv
    clear i1 i3 hK bL bz hB0 hB hrv
    go_wp2_with fail
    obtain ⟨w', hk, hb⟩ := HK.out
    exact ⟨by simp, .inl ⟨_, w', rfl, hk, _, at_res rfl rfl, by rw [HRV.out]; rfl, hb⟩⟩
  case stop =>
    rintro D e pre W hD hpre ⟨i3, rfl, ini, p, rfl, h4, h5, i1⟩ hK
    have HE : Hid (atR t z N s.bks.reverse = N - sumU z (ini.map (bkf f))) := by
      show _ = _
      obtain ⟨r, hr⟩ := hpre
      rw [← HR.out, ← hr, List.append_assoc, List.map_append]
      simp only [List.cons_append, List.nil_append, List.map_cons]
      rw [atR_hit t z _ _ h5]
      intro x hx
      obtain ⟨k, hk, rfl⟩ := List.mem_map.1 hx
      exact h4 k hk
    have hB := H2.out.2.1.trans (i3.mono H2.out.2.1.size)
    clear hpre h4 h5
    rw [wpIn_wide]
    have c8 : W.cell? ⟨L, 0, none⟩ = some (.int .i64 (atR t z N s.bks.reverse)) := by rw [i1.cell, HE.out]; rfl
    have l8 := i1.lt
    have HK : Hid (∃ w', (Instr.takeDeferred D).run Tryd.prog W = .ok [] w' ∧ Below w.heap.size w w') :=
      ⟨_, run_takeDeferred (by exact hK), hB.trans (belowK_b (w := w) (Nat.le_refl _) W D _ _ (by have := H2.out.2.1.size; omega) (by exact hK) rfl rfl)⟩
    obtain ⟨rv, hrv⟩ : ∃ r, r = atR t z N s.bks.reverse := ⟨_, rfl⟩
    rw [← hrv] at c8
    have HRV := Lib.hid hrv
    clear i1 i3 hK bL bz hB0 hB hrv
    go_wp2_with fail
    obtain ⟨w', hk, hb⟩ := HK.out
    exact ⟨by simp, .inl ⟨_, w', rfl, hk, _, at_res rfl rfl, by rw [HRV.out]; rfl, hb⟩⟩
end Go.Proofs.YtlkihpgpcgeogaaDoor

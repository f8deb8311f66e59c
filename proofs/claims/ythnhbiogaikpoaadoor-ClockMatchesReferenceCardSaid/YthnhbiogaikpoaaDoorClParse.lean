/-
  'Parse'.
-/
import Derived.Test.YthnhbiogaikpoaaDoorClText
import Derived.Lib.AtoiAll
import Derived.Lib.ConvBytes
import Derived.Lib.AtoiErrMem
namespace Go.Proofs.YthnhbiogaikpoaaDoor
open Go.RowKit Go.Cz Go.Cz.Ck
set_option linter.unusedSimpArgs false
set_option linter.unusedVariables false
attribute [local go_sem] bs_size bs_extract bs_append bs_toList
attribute [local irreducible] cList

/-- A part of a text of an instant: the number that it spells, if it is one from 0 to 100000. -/
def partF (l : List UInt8) : Option Nat := match Lib.atoiAll l with | .ok v => if 0 ≤ v ∧ v ≤ 100000 then some v.toNat else none | _ => none
def parseF (l : List UInt8) : Int × Int :=
  match partF (cutL l 47).1, partF (cutL (cutL l 47).2 58).1, partF (cutL (cutL l 47).2 58).2 with
  | some a, some b, some c => if textF ((a : Int) * 1440 + b * 60 + c) = (l, 0) then ((a : Int) * 1440 + b * 60 + c, 0) else (0, 5)
  | _, _, _ => (0, 5)
/-- What Atoi answers, as far as 'Parse' looks. -/
def AtPost (w : World) (l : List UInt8) (e : Ending) (w' : World) : Prop :=
  (∃ v : Int, e = .returned (.tuple #[.int .i64 v, .nilIface]) ∧ Lib.atoiAll l = .ok v ∧ Below w.heap.size w w') ∨
  (∃ (v : Int) (t : TypeId) (N : Nat), e = .returned (.tuple #[.int .i64 v, .iface t (.pointer (some ⟨N, 0, none⟩))]) ∧ partF l = none ∧ Below w.heap.size w w')
theorem Atoi_c (l : List UInt8) (w : World) (hl : l.length ≤ 281474976710656) (hs : Std w) : Calls Tryd.prog 35 #[.string (bs l)] w (AtPost w l) := by
  rcases h : Lib.atoiAll l with v | _ | _
  · refine (Tryd.strconv_Atoi_ok (bs l) (by rw [bs_size]; omega) v h w).mono ?_
    rintro e w' ⟨rfl, rfl | ⟨t, rfl⟩⟩
    · exact .inl ⟨v, rfl, h, Below.refl _ _⟩
    · exact .inl ⟨v, rfl, h, Lib.bytesWorld_below _ _ _⟩
  · obtain ⟨tp, p, hv⟩ := hs.syn
    refine (Tryd.strconv_Atoi_syntax_var (bs l) (by rw [bs_size]; exact hl) h tp p w hv).mono ?_
    rintro e w' ⟨N, rfl, -, -, hb⟩
    exact .inr ⟨_, _, N, rfl, by unfold partF; rw [h], hb⟩
  · obtain ⟨tp, p, hv⟩ := hs.rng
    refine (Tryd.strconv_Atoi_range_var (bs l) (by rw [bs_size]; exact hl) h tp p w hv).mono ?_
    rintro e w' ⟨N, rfl, -, -, hb⟩
    exact .inr ⟨_, _, N, rfl, by unfold partF; rw [h], hb⟩
/-- The three parts. -/
def p0 (l : List UInt8) : List UInt8 := (cutL l 47).1
def p1 (l : List UInt8) : List UInt8 := (cutL (cutL l 47).2 58).1
def p2 (l : List UInt8) : List UInt8 := (cutL (cutL l 47).2 58).2
theorem p_len (l : List UInt8) : (p0 l).length ≤ l.length ∧ (p1 l).length ≤ l.length ∧ (p2 l).length ≤ l.length := by
  have h1 := cutL_len l 47
  have h2 := cutL_len (cutL l 47).2 58
  exact ⟨h1.1, Nat.le_trans h2.1 h1.2, Nat.le_trans h2.2 h1.2⟩
theorem parseF_no {l : List UInt8} (h : partF (p0 l) = none ∨ partF (p1 l) = none ∨ partF (p2 l) = none) : parseF l = (0, 5) := by
  unfold parseF
  show (match partF (p0 l), partF (p1 l), partF (p2 l) with | some a, some b, some c => _ | _, _, _ => _) = _
  rcases h with h | h | h
  · rw [h]
  · rw [h]; cases partF (p0 l) <;> rfl
  · rw [h]; cases partF (p0 l) <;> cases partF (p1 l) <;> rfl
theorem parseF_yes {l : List UInt8} {a b c : Nat} (ha : partF (p0 l) = some a) (hb : partF (p1 l) = some b) (hc : partF (p2 l) = some c) :
    parseF l = if textF ((a : Int) * 1440 + b * 60 + c) = (l, 0) then ((a : Int) * 1440 + b * 60 + c, 0) else (0, 5) := by
  unfold parseF
  show (match partF (p0 l), partF (p1 l), partF (p2 l) with | some a, some b, some c => _ | _, _, _ => _) = _
  rw [ha, hb, hc]
theorem partF_le {l : List UInt8} {a : Nat} (h : partF l = some a) : a ≤ 100000 := by
  unfold partF at h
  split at h
  · split at h
    · cases h; omega
    · cases h
  · cases h
/-- What holds when j parts are read. -/
def PaR (w : World) (B : Nat) (l : List UInt8) (j : Nat) (wr : World) : Prop :=
  ∃ a b c : Nat, wr.heap[B]? = some (.cells #[.int .i64 (a : Int), .int .i64 (b : Int), .int .i64 (c : Int)] 62 (0, 0)) ∧ Below w.heap.size w wr ∧ (1 ≤ j → partF (p0 l) = some a) ∧ (2 ≤ j → partF (p1 l) = some b) ∧ (3 ≤ j → partF (p2 l) = some c)
def PaRel (w : World) (B : Nat) (l : List UInt8) (gk : Nat) (i : Value) (wr : World) : Prop :=
  (gk = 3 ∧ i = .int .i64 0 ∧ Hid (PaR w B l 0 wr)) ∨ (gk = 2 ∧ i = .int .i64 1 ∧ Hid (PaR w B l 1 wr)) ∨ (gk = 1 ∧ i = .int .i64 2 ∧ Hid (PaR w B l 2 wr)) ∨ (gk = 0 ∧ i = .int .i64 3 ∧ Hid (PaR w B l 3 wr))
theorem PaR.step {w wr w3 : World} {B : Nat} {l : List UInt8} (hB : w.heap.size ≤ B) {j k : Nat} (h : PaR w B l j wr) (hb : Below wr.heap.size wr w3) (hj : j < 3) (hp : partF (if j = 0 then p0 l else if j = 1 then p1 l else p2 l) = some k) :
    PaR w B l (j + 1) (w3.setCell ⟨B, j, none⟩ (.int .i64 (k : Int))) := by
  obtain ⟨a, b, c, h0, h1, h2, h3, h4⟩ := h
  have h5 := (hb.block B (lt_of_block h0)).trans h0
  have h6 := setCell_heap (i := j) h5 (.int .i64 (k : Int))
  have hb' : Below w.heap.size w (w3.setCell ⟨B, j, none⟩ (.int .i64 (k : Int))) := (h1.trans (hb.mono h1.size)).setCell (p := ⟨B, j, none⟩) hB _
  rcases j with _ | _ | _ | j
  · exact ⟨k, b, c, by rw [h6]; simp, hb', fun _ => by simpa using hp, fun h => by omega, fun h => by omega⟩
  · exact ⟨a, k, c, by rw [h6]; simp, hb', fun _ => h2 (by omega), fun _ => by simpa using hp, fun h => by omega⟩
  · exact ⟨a, b, k, by rw [h6]; simp, hb', fun _ => h2 (by omega), fun _ => h3 (by omega), fun _ => by simpa using hp⟩
  · omega
theorem PaR.facts {w wr w3 : World} {B : Nat} {l : List UInt8} {j : Nat} (h : PaR w B l j wr) (hb : Below wr.heap.size wr w3) : ∃ a b c : Nat, B < w3.heap.size ∧ w3.cell? ⟨B, 0, none⟩ = some (.int .i64 (a : Int)) ∧ w3.cell? ⟨B, 1, none⟩ = some (.int .i64 (b : Int)) ∧ w3.cell? ⟨B, 2, none⟩ = some (.int .i64 (c : Int)) ∧
    (∀ i, w3.frozen? ⟨B, i, none⟩ = false) ∧ Below w.heap.size w w3 ∧ (1 ≤ j → partF (p0 l) = some a) ∧ (2 ≤ j → partF (p1 l) = some b) ∧ (3 ≤ j → partF (p2 l) = some c) := by
  obtain ⟨a, b, c, h0, h1, h2⟩ := h
  have h5 := (hb.block B (lt_of_block h0)).trans h0
  exact ⟨a, b, c, lt_of_block h5, by rw [cell_of_heap h5]; simp, by rw [cell_of_heap h5]; simp, by rw [cell_of_heap h5]; simp, fun i => free_of_heap h5, h1.trans (hb.mono h1.size), h2⟩
theorem partF_ok {l : List UInt8} {k : Nat} (h : Lib.atoiAll l = .ok (k : Int)) (hk : k ≤ 100000) : partF l = some k := by
  unfold partF
  rw [h]
  simp
  omega
theorem partF_bad {l : List UInt8} {v : Int} (h : Lib.atoiAll l = .ok v) (hv : v < 0 ∨ 100000 < v) : partF l = none := by
  unfold partF
  rw [h]
  simp
  omega
set_option maxRecDepth 10000 in
set_option maxHeartbeats 4000000 in
theorem Parse_c (l : List UInt8) (w : World) (hl : l.length ≤ 140737488355328) (hs : Std w) : Calls Tryd.prog 20 #[.string (bs l)] w fun e w' => e = .returned (.tuple #[.int .i64 (parseF l).1, .int .i64 (parseF l).2]) ∧ Below w.heap.size w w' := by
  obtain ⟨l0, l1, l2⟩ := p_len l
  have HC1 := Lib.hid fun w => cut_c l 47 w (by omega)
  have HC2 := Lib.hid fun w => cut_c (cutL l 47).2 58 w (by have := (cutL_len l 47).2; omega)
  rw [show (cutL l 47).1 = p0 l from rfl] at HC1
  rw [show (cutL (cutL l 47).2 58).1 = p1 l from rfl, show (cutL (cutL l 47).2 58).2 = p2 l from rfl] at HC2
  have HA0 := Lib.hid fun (W : World) (hb : Below w.heap.size w W) => Atoi_c (p0 l) W (by omega) (hs.below hb)
  have HA1 := Lib.hid fun (W : World) (hb : Below w.heap.size w W) => Atoi_c (p1 l) W (by omega) (hs.below hb)
  have HA2 := Lib.hid fun (W : World) (hb : Below w.heap.size w W) => Atoi_c (p2 l) W (by omega) (hs.below hb)
  have HNo := Lib.hid (parseF_no (l := l))
  have HTx := Lib.hid fun (t : Int) (W : World) (hb : Below w.heap.size w W) => Text_c t W (hs.below hb)
  clear hs
  obtain ⟨r, hr⟩ : ∃ r, r = (cutL l 47).2 := ⟨_, rfl⟩
  rw [← hr] at HC1 HC2
  clear hr l0 l1 l2
  have i0 : ∀ w, (Instr.index 63 (.agg #[.string (bs (p0 l)), .string (bs (p1 l)), .string (bs (p2 l))]) (.int .i64 0)).run Tryd.prog w = .ok (.string (bs (p0 l))) w := fun _ => by kernel_rfl
  have i1 : ∀ w, (Instr.index 63 (.agg #[.string (bs (p0 l)), .string (bs (p1 l)), .string (bs (p2 l))]) (.int .i64 1)).run Tryd.prog w = .ok (.string (bs (p1 l))) w := fun _ => by kernel_rfl
  have i2 : ∀ w, (Instr.index 63 (.agg #[.string (bs (p0 l)), .string (bs (p1 l)), .string (bs (p2 l))]) (.int .i64 2)).run Tryd.prog w = .ok (.string (bs (p2 l))) w := fun _ => by kernel_rfl
  go_enter Tryd.func20, Tryd.ntmps20
  go_wp2_with fail
  go_at_call 34
  refine (HC1.out _).mono ?_
  rintro e w1 ⟨⟨b1, rfl⟩, hb1⟩
  go_wp2_with fail
  go_at_call 34
  refine (HC2.out _).mono ?_
  rintro e w2 ⟨⟨b2, rfl⟩, hb2⟩
  have Hb := Lib.hid (show Below w.heap.size w w2 from by repeat (first | exact Below.refl _ _ | (refine Below.trans ?_ (hb2.mono (by have z0 := hb2.size; have z1 := hb1.size; (try simp only [World.size_alloc, World.size_setCell, World.size_drew] at *); omega))) | (refine Below.trans ?_ (hb1.mono (by have z0 := hb2.size; have z1 := hb1.size; (try simp only [World.size_alloc, World.size_setCell, World.size_drew] at *); omega))) | (refine Below.drew ?_) | (refine Below.alloc ?_ (by have z0 := hb2.size; have z1 := hb1.size; (try simp only [World.size_alloc, World.size_setCell, World.size_drew] at *); omega) _) | (refine Below.setCell ?_ (by have z0 := hb2.size; have z1 := hb1.size; (try simp only [World.size_alloc, World.size_setCell, World.size_drew] at *); omega) _)))
  clear hb1 hb2
  go_wp2_with fail
  obtain ⟨B, hB⟩ : ∃ B, B = w2.heap.size := ⟨_, rfl⟩
  have hwB : w.heap.size ≤ B := by rw [hB]; exact Hb.out.size
  have H0 : Hid (PaR w B l 0 (w2.alloc (.cells #[.int .i64 0, .int .i64 0, .int .i64 0] 62))) := ⟨0, 0, 0, by rw [hB]; exact new_heap _ _ _ rfl, Hb.out.alloc Hb.out.size _, fun h => by omega, fun h => by omega, fun h => by omega⟩
  rw [← hB]
  clear hB
  go_loopg [34] 3 (fun gk i wr => PaRel w B l gk i wr)
  case atStart => exact .inl ⟨rfl, rfl, H0⟩
  case round =>
    rename_i J1 K1 hJ1 hK1
    clear H0
    rcases hrel with ⟨rfl, rfl, hr⟩ | ⟨rfl, rfl, hr⟩ | ⟨rfl, rfl, hr⟩ | ⟨rfl, rfl, hr⟩
    · have hbr := hr.out.choose_spec.choose_spec.choose_spec.2.1
      go_wp2_with fail
      go_at_call 35
      refine (HA0.out _ hbr).mono ?_
      rintro e w3 (⟨v, rfl, hv, hb3⟩ | ⟨v, t, N, rfl, hv, hb3⟩)
      · obtain ⟨a, b, c, hz, c0, c1, c2, hf, hbw, -, -, -⟩ := hr.out.facts hb3
        have f0 := hf 0
        by_cases h0 : v < 0
        · have He : Hid (parseF l = (0, 5)) := HNo.out (.inl (partF_bad hv (.inl h0)))
          have Hbw := Lib.hid hbw
          clear hv hb3 hf hbw hbr
          go_wp2_with fail
          go_ret2
          exact ⟨by rw [He.out]; rfl, Hbw.out⟩
        · by_cases h1 : 100000 < v
          · have He : Hid (parseF l = (0, 5)) := HNo.out (.inl (partF_bad hv (.inr h1)))
            have Hbw := Lib.hid hbw
            clear hv hb3 hf hbw hbr
            go_wp2_with fail
            go_ret2
            exact ⟨by rw [He.out]; rfl, Hbw.out⟩
          · obtain ⟨k, rfl⟩ : ∃ k : Nat, v = k := ⟨v.toNat, by omega⟩
            have HP : Hid (PaR w B l (0 + 1) (w3.setCell ⟨B, 0, none⟩ (.int .i64 (k : Int)))) := hr.out.step hwB hb3 (by omega) (partF_ok hv (by omega))
            clear hv hb3 hf hbw hbr
            go_wp2_with fail
            go_roundg 2
            case measure => omega
            case rel => exact .inr (.inl ⟨rfl, rfl, HP⟩)
      · obtain ⟨a, b, c, hz, c0, c1, c2, hf, hbw, -, -, -⟩ := hr.out.facts hb3
        have He : Hid (parseF l = (0, 5)) := HNo.out (.inl hv)
        have Hbw := Lib.hid hbw
        clear hv hb3 hf hbw hbr
        go_wp2_with fail
        go_ret2
        exact ⟨by rw [He.out]; rfl, Hbw.out⟩
    · have hbr := hr.out.choose_spec.choose_spec.choose_spec.2.1
      go_wp2_with fail
      go_at_call 35
      refine (HA1.out _ hbr).mono ?_
      rintro e w3 (⟨v, rfl, hv, hb3⟩ | ⟨v, t, N, rfl, hv, hb3⟩)
      · obtain ⟨a, b, c, hz, c0, c1, c2, hf, hbw, -, -, -⟩ := hr.out.facts hb3
        have f0 := hf 1
        by_cases h0 : v < 0
        · have He : Hid (parseF l = (0, 5)) := HNo.out (.inr (.inl (partF_bad hv (.inl h0))))
          have Hbw := Lib.hid hbw
          clear hv hb3 hf hbw hbr
          go_wp2_with fail
          go_ret2
          exact ⟨by rw [He.out]; rfl, Hbw.out⟩
        · by_cases h1 : 100000 < v
          · have He : Hid (parseF l = (0, 5)) := HNo.out (.inr (.inl (partF_bad hv (.inr h1))))
            have Hbw := Lib.hid hbw
            clear hv hb3 hf hbw hbr
            go_wp2_with fail
            go_ret2
            exact ⟨by rw [He.out]; rfl, Hbw.out⟩
          · obtain ⟨k, rfl⟩ : ∃ k : Nat, v = k := ⟨v.toNat, by omega⟩
            have HP : Hid (PaR w B l (1 + 1) (w3.setCell ⟨B, 1, none⟩ (.int .i64 (k : Int)))) := hr.out.step hwB hb3 (by omega) (partF_ok hv (by omega))
            clear hv hb3 hf hbw hbr
            go_wp2_with fail
            go_roundg 1
            case measure => omega
            case rel => exact .inr (.inr (.inl ⟨rfl, rfl, HP⟩))
      · obtain ⟨a, b, c, hz, c0, c1, c2, hf, hbw, -, -, -⟩ := hr.out.facts hb3
        have He : Hid (parseF l = (0, 5)) := HNo.out (.inr (.inl hv))
        have Hbw := Lib.hid hbw
        clear hv hb3 hf hbw hbr
        go_wp2_with fail
        go_ret2
        exact ⟨by rw [He.out]; rfl, Hbw.out⟩
    · have hbr := hr.out.choose_spec.choose_spec.choose_spec.2.1
      go_wp2_with fail
      go_at_call 35
      refine (HA2.out _ hbr).mono ?_
      rintro e w3 (⟨v, rfl, hv, hb3⟩ | ⟨v, t, N, rfl, hv, hb3⟩)
      · obtain ⟨a, b, c, hz, c0, c1, c2, hf, hbw, -, -, -⟩ := hr.out.facts hb3
        have f0 := hf 2
        by_cases h0 : v < 0
        · have He : Hid (parseF l = (0, 5)) := HNo.out (.inr (.inr (partF_bad hv (.inl h0))))
          have Hbw := Lib.hid hbw
          clear hv hb3 hf hbw hbr
          go_wp2_with fail
          go_ret2
          exact ⟨by rw [He.out]; rfl, Hbw.out⟩
        · by_cases h1 : 100000 < v
          · have He : Hid (parseF l = (0, 5)) := HNo.out (.inr (.inr (partF_bad hv (.inr h1))))
            have Hbw := Lib.hid hbw
            clear hv hb3 hf hbw hbr
            go_wp2_with fail
            go_ret2
            exact ⟨by rw [He.out]; rfl, Hbw.out⟩
          · obtain ⟨k, rfl⟩ : ∃ k : Nat, v = k := ⟨v.toNat, by omega⟩
            have HP : Hid (PaR w B l (2 + 1) (w3.setCell ⟨B, 2, none⟩ (.int .i64 (k : Int)))) := hr.out.step hwB hb3 (by omega) (partF_ok hv (by omega))
            clear hv hb3 hf hbw hbr
            go_wp2_with fail
            go_roundg 0
            case measure => omega
            case rel => exact .inr (.inr (.inr ⟨rfl, rfl, HP⟩))
      · obtain ⟨a, b, c, hz, c0, c1, c2, hf, hbw, -, -, -⟩ := hr.out.facts hb3
        have He : Hid (parseF l = (0, 5)) := HNo.out (.inr (.inr hv))
        have Hbw := Lib.hid hbw
        clear hv hb3 hf hbw hbr
        go_wp2_with fail
        go_ret2
        exact ⟨by rw [He.out]; rfl, Hbw.out⟩
    · clear hJ1 hK1
      obtain ⟨a, b, c, hz, c0, c1, c2, hf, hbw, h1, h2, h3⟩ := hr.out.facts (Below.refl _ _)
      have h1 := h1 (by omega)
      have h2 := h2 (by omega)
      have h3 := h3 (by omega)
      have la := partF_le h1
      have lb := partF_le h2
      have lc := partF_le h3
      have hy := parseF_yes h1 h2 h3
      have HT := Lib.hid (HTx.out ((a : Int) * 1440 + b * 60 + c) wr hbw)
      have Hbw := Lib.hid hbw
      clear h1 h2 h3 hf hbw i0 i1 i2 hr
      obtain ⟨T, hT⟩ : ∃ T : Int, T = (a : Int) * 1440 + b * 60 + c := ⟨_, rfl⟩
      have hT' : (a : Int) * 1440 + (b : Int) * 60 + (c : Int) = T := hT.symm
      rw [hT'] at HT hy
      clear hT
      by_cases heq : textF T = (l, 0)
      · rw [if_pos heq] at hy
        have He := Lib.hid hy
        rw [heq] at HT
        clear heq hy
        go_wp2_with fail
        go_at_call 18
        refine HT.out.mono ?_
        rintro e w4 ⟨rfl, hb4⟩
        have Hb4 := Lib.hid (Hbw.out.trans (hb4.mono Hbw.out.size))
        clear hb4
        go_wp2_with fail
        go_ret2
        exact ⟨by rw [He.out]; rfl, Hb4.out⟩
      · rw [if_neg heq] at hy
        have He := Lib.hid hy
        by_cases hi : instB T = true
        · have hx : textF T = (textL T.toNat, 0) := by unfold textF; rw [if_pos hi]
          rw [hx] at HT heq
          have hne : ¬ textL T.toNat = l := fun h => heq (by rw [h])
          have hne1 : (textL T.toNat == l) = false := by simpa using hne
          have hne2 : (textL T.toNat != l) = true := by simpa using hne
          clear heq hy hi hx hne
          generalize textL T.toNat = x at *
          go_wp2_with fail
          go_at_call 18
          refine HT.out.mono ?_
          rintro e w4 ⟨rfl, hb4⟩
          have Hb4 := Lib.hid (Hbw.out.trans (hb4.mono Hbw.out.size))
          clear hb4
          go_wp2_with fail
          go_ret2
          exact ⟨by rw [He.out]; rfl, Hb4.out⟩
        · have hx : textF T = ([], 1) := by unfold textF; rw [if_neg hi]
          rw [hx] at HT
          clear heq hy hi hx
          go_wp2_with fail
          go_at_call 18
          refine HT.out.mono ?_
          rintro e w4 ⟨rfl, hb4⟩
          have Hb4 := Lib.hid (Hbw.out.trans (hb4.mono Hbw.out.size))
          clear hb4
          go_wp2_with fail
          go_ret2
          exact ⟨by rw [He.out]; rfl, Hb4.out⟩
end Go.Proofs.YthnhbiogaikpoaaDoor

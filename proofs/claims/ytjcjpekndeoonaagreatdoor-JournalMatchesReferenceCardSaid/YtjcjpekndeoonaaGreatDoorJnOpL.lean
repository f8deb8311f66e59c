/-
  What 'Open' finds: plain laws.
-/
import Derived.Test.YtjcjpekndeoonaaGreatDoorJnPush
import Derived.Test.YtjcjpekndeoonaaGreatDoorJnInv
namespace Go.Cz.Jn
set_option linter.unusedSimpArgs false
set_option linter.unusedVariables false
theorem look_len {m : Dk.Dm} (h : m.ok) {j : Nat} (hj : j < m.st.length) : (Dk.look m j).length = 64 := by
  unfold Dk.look
  split
  · rename_i p hp
    have := List.mem_of_find?_eq_some hp
    exact (h.2.1 p (by simpa using this)).2
  · rw [List.getD_eq_getElem?_getD, List.getElem?_eq_getElem hj]
    exact h.1 _ (List.getElem_mem hj)
/-- What the first k sectors hold. -/
def sects (m : Dk.Dm) (k : Nat) : List Bytes := (List.range k).map (Dk.look m)
theorem sects_len (m : Dk.Dm) (k : Nat) : (sects m k).length = k := by simp [sects]
theorem sects_succ (m : Dk.Dm) (k : Nat) : sects m (k + 1) = sects m k ++ [Dk.look m k] := by simp [sects, List.range_succ]
theorem sects_get (m : Dk.Dm) {k i : Nat} (h : i < k) : (sects m k)[i]? = some (Dk.look m i) := by simp [sects, h]
/-- What Atoi's first result is. -/
def atV (l : Bytes) : Int := match Lib.atoiAll l with | .ok v => v | .range => Lib.atoiSat l | _ => 0
theorem atV_digits {n : Nat} (h : n < 10 ^ 2) : atV (digitsB n 2) = (n : Int) := by
  have hl := digitsB_len (k := 1) h
  unfold atV
  rw [atoi_digits (by intro h0; rw [h0] at hl; simp at hl) (fun c hc => ?_) (by rw [hl]; decide)]
  · unfold digitsB
    simp only [valB_rep, decB_eq, valB_dec]
  · unfold digitsB at hc
    rcases List.mem_append.1 hc with hc | hc
    · rw [(List.mem_replicate.1 hc).2]; decide
    · exact decB_digit hc
theorem piece_law {p : Nat} {s : Bytes} (hl : s.length = 64) : pieceB p s = if 1 ≤ atV ((s.drop 16).take 2) ∧ atV ((s.drop 16).take 2) ≤ 46 ∧ sectorB p ((s.drop 18).take (atV ((s.drop 16).take 2)).toNat) = s then some ((s.drop 18).take (atV ((s.drop 16).take 2)).toNat) else none := by
  by_cases hh : ∃ n, 1 ≤ n ∧ n ≤ 46 ∧ sectorB p ((s.drop 18).take n) = s
  · obtain ⟨n, h1, h2, h3⟩ := hh
    have hn : ((s.drop 18).take n).length = n := by rw [List.length_take, List.length_drop]; omega
    have hv : atV ((s.drop 16).take 2) = n := by
      have h4 := (sectorB_read (place := p) (s := (s.drop 18).take n) (by omega)).2
      rw [h3, hn] at h4
      rw [h4]
      exact atV_digits (by omega)
    rw [hv, Int.toNat_natCast, if_pos ⟨by omega, by omega, h3⟩]
    have := pieceB_sector (place := p) (s := (s.drop 18).take n) (by omega) (by omega)
    rw [h3] at this
    exact this
  · have : pieceB p s = none := by
      unfold pieceB
      rw [find_no fun k hk => ?_]
      · rfl
      · simp only [Bool.and_eq_false_iff, decide_eq_false_iff_not, beq_eq_false_iff_ne]
        by_cases h1 : 1 ≤ k
        · exact .inr fun h2 => hh ⟨k, h1, by omega, h2⟩
        · exact .inl h1
    rw [this, if_neg fun h => hh ⟨(atV ((s.drop 16).take 2)).toNat, by omega, by omega, h.2.2⟩]
theorem foldr_none : ∀ (xs : List (Option Bytes)), none ∈ xs → xs.foldr (fun x a => match x, a with | some x, some a => some (x :: a) | _, _ => none) (some []) = none
  | [], h => by simp at h
  | x :: xs, h => by
    rw [List.foldr_cons]
    rcases List.mem_cons.1 h with rfl | h
    · rfl
    · rw [foldr_none xs h]
      cases x <;> rfl
theorem piecesOf_some {m : Dk.Dm} {c : Nat} {ps : List Bytes} (hl : ps.length = c) (h : ∀ i, i < c → pieceB (2 + i) (Dk.look m (2 + i)) = ps[i]?) : piecesOf m c = some ps := by
  refine foldr_some _ _ (List.ext_getElem? fun i => ?_)
  rw [List.getElem?_map, List.getElem?_map]
  by_cases hi : i < c
  · rw [List.getElem?_range hi]
    have h1 := h i hi
    rw [List.getElem?_eq_getElem (by omega)] at h1 ⊢
    show some (pieceB (2 + i) (Dk.look m (2 + i))) = _
    rw [h1]
    rfl
  · rw [List.getElem?_eq_none (by simpa using hi), List.getElem?_eq_none (by omega)]; rfl
theorem piecesOf_none {m : Dk.Dm} {c k : Nat} (hk : k < c) (h : pieceB (2 + k) (Dk.look m (2 + k)) = none) : piecesOf m c = none :=
  foldr_none _ (List.mem_map.2 ⟨k, List.mem_range.2 hk, h⟩)
theorem open_err {m : Dk.Dm} {c : Int} (h : findB m = .error c) : openB m = (m, c, ⟨0, 0, [], false⟩) := by unfold openB; rw [h]
theorem countB_le (p : Nat) (s : Bytes) (room : Nat) : -1 ≤ countB p s room ∧ countB p s room ≤ room := by
  unfold countB
  split
  · omega
  · split
    · rename_i n hn
      have := List.mem_range.1 (List.mem_of_find?_eq_some hn)
      omega
    · omega
/-- What 'Open' does when the disk is on and has sectors enough. -/
theorem find_law {m : Dk.Dm} (h1 : ¬ m.off = true) (h2 : 3 ≤ m.st.length) {c d : Int} (hc : c = countB 0 (Dk.look m 0) (m.st.length - 2)) (hd : d = countB 1 (Dk.look m 1) (m.st.length - 2)) :
    findB m = if max c d < 0 then .error 27 else match piecesOf m (max c d).toNat with
      | none => .error 27
      | some ps => match parseB ps.flatten with
        | none => .error 27
        | some rs => .ok ((max c d).toNat, rs) := by
  subst hc hd
  unfold findB
  rw [if_neg h1, if_neg (by omega)]
  rfl
theorem open_ok {m : Dk.Dm} {c : Nat} {rs : List Bytes} (h : findB m = .ok (c, rs)) {x y : Dk.Dm × Int} (hx : x = fixB m 0 (Dk.look m 0) c) (hy : y = fixB x.1 1 (Dk.look m 1) c) :
    openB m = if x.2 != 0 then (x.1, x.2, ⟨0, 0, [], false⟩) else if y.2 != 0 then (y.1, y.2, ⟨0, 0, [], false⟩) else (y.1, 0, ⟨m.st.length, c, rs, false⟩) := by
  subst hx hy
  unfold openB
  rw [h]
/-- A text has no more records than bytes. -/
theorem parse_count {l : Bytes} {rs : List Bytes} (h : parseB l = some rs) : rs.length ≤ l.length := by
  have key : ∀ (f : Nat) (l : Bytes) (rs : List Bytes), parseGo f l = some rs → rs.length ≤ l.length := by
    intro f
    induction f with
    | zero => intro l rs h; cases h
    | succ f ih =>
      intro l rs h
      rw [parseGo_succ] at h
      by_cases hl : l = []
      · rw [if_pos hl] at h
        cases h
        simp
      · rw [if_neg hl] at h
        cases hk : l.findIdx? (· == 58) with
        | none => rw [hk] at h; cases h
        | some k =>
          rw [hk] at h
          dsimp only at h
          cases hn : numB (l.take k) with
          | none => rw [hn] at h; cases h
          | some n =>
            rw [hn] at h
            dsimp only at h
            split at h
            · obtain ⟨xs, hx, rfl⟩ := Option.map_eq_some_iff.1 h
              have := ih _ _ hx
              have hpos := List.length_pos_iff.2 hl
              rw [List.length_drop, List.length_drop] at this
              rw [List.length_cons]
              omega
            · cases h
  exact key _ _ _ h
theorem flat_le : ∀ (ps : List Bytes), (∀ p ∈ ps, p.length ≤ 46) → ps.flatten.length ≤ 46 * ps.length
  | [], _ => by simp
  | p :: ps, h => by
    have h1 := h p (by simp)
    have h2 := flat_le ps fun q hq => h q (by simp [hq])
    rw [List.flatten_cons, List.length_append, List.length_cons]
    omega
theorem pieceB_len {p : Nat} {s t : Bytes} (h : pieceB p s = some t) : t.length ≤ 46 := by
  unfold pieceB at h
  obtain ⟨n, hn, rfl⟩ := Option.map_eq_some_iff.1 h
  have := List.mem_range.1 (List.mem_of_find?_eq_some hn)
  rw [List.length_take]
  omega
end Go.Cz.Jn
namespace Go.Proofs.YtjcjpekndeoonaaGreatDoor
open Go.RowKit Go.Cz Go.Cz.Jn
/-- Atoi, with what it returns beside an error. -/
theorem AtoiV_c (l : Bytes) (w : World) (hl : l.length ≤ 281474976710656) (hs : Std w) : Calls Tryz.prog 34 #[.string (bs l)] w fun e w' => ∃ x, e = .returned (.tuple #[.int .i64 (atV l), x]) ∧ Below w.heap.size w w' := by
  unfold atV
  rcases h : Lib.atoiAll l with v | _ | _
  · refine (Tryz.strconv_Atoi_ok (bs l) (by rw [bs_size]; omega) v h w).mono ?_
    rintro e w' ⟨rfl, rfl | ⟨t, rfl⟩⟩
    · exact ⟨_, rfl, Below.refl _ _⟩
    · exact ⟨_, rfl, Lib.bytesWorld_below _ _ _⟩
  · obtain ⟨tp, p, hv⟩ := hs.syn
    refine (Tryz.strconv_Atoi_syntax_var (bs l) (by rw [bs_size]; exact hl) h tp p w hv).mono ?_
    rintro e w' ⟨N, rfl, -, -, hb⟩
    exact ⟨_, rfl, hb⟩
  · obtain ⟨tp, p, hv⟩ := hs.rng
    refine (Tryz.strconv_Atoi_range_var (bs l) (by rw [bs_size]; exact hl) h tp p w hv).mono ?_
    rintro e w' ⟨N, rfl, -, -, hb⟩
    exact ⟨_, rfl, hb⟩
theorem Owns.txt {w0 w : World} {ps : List Piece} {g off n c : Nat} {l : List Bytes} (h : Owns w0 w (Go.Proofs.YtjcjpekndeoonaaGreatDoor.trow (.slice (some ⟨g, off, none⟩) n c) l :: ps)) {k : Nat} {s : Bytes} (hs : l[k]? = some s) : g < w.heap.size ∧ w.cell? ⟨g, off + k, none⟩ = some (.string (bs s)) := by
  obtain ⟨x, n', c', he, ht⟩ := Owns.texts h
  cases he
  have hk : k < n := by have := ht.len; have := (List.getElem?_eq_some_iff.1 hs).1; omega
  obtain ⟨g', off', s', hx, hs', hg, hc⟩ := ht.get hk
  cases hx
  rw [hs] at hs'
  cases hs'
  exact ⟨hg, hc⟩
theorem sync_q (m : Dk.Dm) : (Dk.sync m).1.q.length ≤ m.q.length := by
  have hc : (Dk.count m).1.q.length ≤ m.q.length := by
    unfold Dk.count
    split
    · exact Nat.le_refl _
    · split
      · exact Nat.le_refl _
      · unfold Dk.fail
        split <;> simp
  unfold Dk.sync
  split
  · exact Nat.le_refl _
  · split
    · exact hc
    · simp
theorem writes_q : ∀ (l : List Bytes) (m : Dk.Dm) (p : Nat), (writesB m p l).1.q.length ≤ m.q.length + l.length
  | [], m, p => sync_q m
  | s :: r, m, p => by
    have h1 := write_q m (p : Int) s
    have h2 := writes_q r (Dk.write m (p : Int) s).1 (p + 1)
    show (if (Dk.write m (p : Int) s).2 != 0 then Dk.write m (p : Int) s else writesB (Dk.write m (p : Int) s).1 (p + 1) r).1.q.length ≤ _
    split
    · rw [List.length_cons]; omega
    · rw [List.length_cons]; omega
theorem fix_q (m : Dk.Dm) (p : Nat) (old : Bytes) (c : Nat) : (fixB m p old c).1.q.length ≤ m.q.length + 2 := by
  have h1 := writes_q [zeroB] m p
  have h2 := writes_q [headB p c] (writesB m p [zeroB]).1 p
  simp only [List.length_cons, List.length_nil] at h1 h2
  unfold fixB
  split
  · show m.q.length ≤ _; omega
  · split <;> omega
end Go.Proofs.YtjcjpekndeoonaaGreatDoor
namespace Go.Cz.Jn
/-- The heads are mended one after the other. -/
theorem open_fix {m : Dk.Dm} {c : Nat} {rs : List Bytes} (h : findB m = .ok (c, rs)) : ∃ (D : Nat → Dk.Dm) (E : Nat → Int), D 0 = m ∧ (∀ k, k < 2 → fixB (D k) k (Dk.look m k) c = (D (k + 1), E k)) ∧
    (∀ k, k < 2 → (∀ j, j < k → E j = 0) → E k ≠ 0 → openB m = (D (k + 1), E k, ⟨0, 0, [], false⟩)) ∧ ((∀ k, k < 2 → E k = 0) → openB m = (D 2, 0, ⟨m.st.length, c, rs, false⟩)) := by
  refine ⟨fun k => match k with | 0 => m | 1 => (fixB m 0 (Dk.look m 0) c).1 | _ => (fixB (fixB m 0 (Dk.look m 0) c).1 1 (Dk.look m 1) c).1, fun k => match k with | 0 => (fixB m 0 (Dk.look m 0) c).2 | _ => (fixB (fixB m 0 (Dk.look m 0) c).1 1 (Dk.look m 1) c).2, rfl, ?_, ?_, ?_⟩
  · intro k hk
    rcases (by omega : k = 0 ∨ k = 1) with rfl | rfl <;> rfl
  · intro k hk hj he
    rw [open_ok h rfl rfl]
    rcases (by omega : k = 0 ∨ k = 1) with rfl | rfl
    · rw [if_pos (by simpa using he)]
      rfl
    · have h0 := hj 0 (by omega)
      rw [if_neg (by simpa using h0), if_pos (by simpa using he)]
      rfl
  · intro he
    have h0 := he 0 (by omega)
    have h1 := he 1 (by omega)
    rw [open_ok h rfl rfl, if_neg (by simpa using h0), if_neg (by simpa using h1)]
    rfl
end Go.Cz.Jn

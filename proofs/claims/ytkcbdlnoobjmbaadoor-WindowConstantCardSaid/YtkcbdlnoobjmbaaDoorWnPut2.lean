/-
  The ordered lists of the windows: 'put', walked.
-/
import Derived.Test.YtkcbdlnoobjmbaaDoorWnPut
namespace Go.Proofs.YtkcbdlnoobjmbaaDoor
open Go.RowKit Go.Cz Go.Cz.Wn
set_option linter.unusedSimpArgs false
set_option linter.unusedVariables false
attribute [local go_sem] bs_size bs_extract bs_append bs_toList
attribute [local irreducible] cList
theorem SL.form {V W : World} {bo : Nat} {v : Value} {xs : List Int} (h : SL V W bo v xs) : ∃ a c, v = .slice a xs.length c := by
  rcases h with ⟨rfl, rfl⟩ | ⟨g, c, cur, rfl, -⟩
  · exact ⟨none, 0, rfl⟩
  · exact ⟨_, c, rfl⟩
theorem SL.other {V W : World} {bo : Nat} {v u : Value} {xs : List Int} (h : SL V W bo v xs) : SL V (W.setCell ⟨bo, 0, none⟩ u) bo v xs := by
  rcases h with h | ⟨g, c, cur, h1, h2, h3, h4, h5⟩
  · exact .inl h
  · exact .inr ⟨g, c, cur, h1, h2, h3, h4.other (by simpa using h2) _, h5⟩
theorem below_drewN (W : World) (q : Nat) : Below W.heap.size W (W.drewN q) := ⟨rfl, rfl, rfl, Nat.le_refl _, fun _ _ => rfl⟩
theorem search_c {V W : World} {bo : Nat} {v : Value} {xs : List Int} (h : SL V W bo v xs) (hs : xs.Pairwise (· < ·)) (hlen : xs.length ≤ 1000000) (x : Int) :
    Calls Tryd.prog 43 #[v, .int .i64 x] W fun e w' => e = .returned (.tuple #[.int .i64 ((xs.countP (· < x) : Nat) : Int), .bool (xs.contains x)]) ∧ Below W.heap.size W w' := by
  rcases h with ⟨rfl, rfl⟩ | ⟨g, c, cur, rfl, h2, h3, h4, h5, h6, h7, h8, h9⟩
  · refine (Tryd.slices_BinarySearch_int_empty none 0 x W).mono ?_
    rintro e w' ⟨rfl, rfl⟩
    exact ⟨rfl, Below.refl _ _⟩
  · refine (Tryd.slices_BinarySearch_int g 0 xs.length c xs x W (Nat.le_refl _) (by omega) (fun j hj => ?_) ?_).mono ?_
    · rw [h4.cell, Nat.zero_add, h9 j xs[j] (List.getElem?_eq_getElem hj), List.getD_eq_getElem?_getD, List.getElem?_eq_getElem hj]
      rfl
    · rw [List.take_length]
      exact hs.imp fun h => Int.le_of_lt h
    · rintro e w' ⟨rfl, q, rfl⟩
      rw [List.take_length]
      exact ⟨rfl, below_drewN _ _⟩
/-- What 'put' leaves. -/
def PutPost (V W : World) (bo : Nat) (v : Value) (ys : List Int) (w' : World) : Prop := Below V.heap.size V w' ∧ Mod (bo :: SB v) W w' ∧ ∃ v', Bk w' bo #[v'] 60 ∧ SL V w' bo v' ys ∧ ∀ k ∈ SB v', k ∈ SB v ∨ W.heap.size ≤ k
set_option maxHeartbeats 1000000 in
theorem put_c (V W : World) (bo : Nat) (v : Value) (xs : List Int) (x : Int) (hbel : Below V.heap.size V W) (hown : V.heap.size ≤ bo) (hbk : Bk W bo #[v] 60) (hsl : SL V W bo v xs) (hs : xs.Pairwise (· < ·)) (hlen : xs.length ≤ 999999) :
    Calls Tryd.prog 31 #[.pointer (some ⟨bo, 0, none⟩), .int .i64 x] W fun e w' => e = .returned (.tuple #[]) ∧ PutPost V W bo v (insF x xs) w' := by
  have HV : Hid (Below V.heap.size V W ∧ V.heap.size ≤ bo) := ⟨hbel, hown⟩
  have HB := Lib.hid (And.intro hbk hsl)
  have HS := Lib.hid (search_c hsl hs (by omega) x)
  have hz := hbk.lt
  have c0 : W.cell? ⟨bo, 0, none⟩ = some v := by rw [hbk.cell]; rfl
  clear hbk hsl hs hbel hown
  go_enter Tryd.func31, Tryd.ntmps31
  go_wp2_with fail
  go_at_call 43
  refine HS.out.mono ?_
  rintro e W1 ⟨rfl, hb⟩
  have HB1 : Hid (Bk W1 bo #[v] 60 ∧ SL V W1 bo v xs ∧ Below V.heap.size V W1 ∧ Below W.heap.size W W1) := ⟨HB.out.1.below hb, HB.out.2.keep hb, HV.out.1.trans (hb.mono HV.out.1.size), hb⟩
  clear hb HB HS c0 hz
  cases hc : xs.contains x
  · have HI : Hid (insF x xs = xs.take (xs.countP (· < x)) ++ x :: xs.drop (xs.countP (· < x))) := by show _ = _; unfold insF; rw [hc]; rfl
    obtain ⟨i, hi⟩ : ∃ i, i = xs.countP (· < x) := ⟨_, rfl⟩
    have hil : i ≤ xs.length := by rw [hi]; exact List.countP_le_length
    rw [← hi] at HI ⊢
    clear hi hc
    have hz := HB1.out.1.lt
    have c0 : W1.cell? ⟨bo, 0, none⟩ = some v := by rw [HB1.out.1.cell]; rfl
    go_wp2_with fail
    go_at_call 44
    refine (insert_c V W1 bo v xs i x hil (by omega) HB1.out.2.2.1 HB1.out.2.1 HB1.out.1 HV.out.2).mono ?_
    rintro e W2 ⟨v', rfl, hs2, hk2, hb2, hm2, hn2⟩
    obtain ⟨sa, sc, hv'⟩ := hs2.form
    subst hv'
    clear c0 hz
    have hz := hk2.lt
    have c0 : W2.cell? ⟨bo, 0, none⟩ = some v := by rw [hk2.cell]; rfl
    have f0 : W2.frozen? ⟨bo, 0, none⟩ = false := hk2.free 0
    have HE : Hid (PutPost V W bo v (insF x xs) (W2.setCell ⟨bo, 0, none⟩ (.slice sa (xs.take i ++ x :: xs.drop i).length sc))) := by
      show PutPost _ _ _ _ _ _
      rw [HI.out]
      refine ⟨hb2.setCell (p := ⟨bo, 0, none⟩) HV.out.2 _, ?_, _, hk2.set 0 _, hs2.other, fun k hk => ?_⟩
      · exact (((Mod.ofBelow HB1.out.2.2.2 (bo :: SB v)).trans (hm2.mono fun k hk _ => List.mem_cons_of_mem _ hk))).setCell (p := ⟨bo, 0, none⟩) (.inl (by simp)) _
      · rcases hn2 k hk with h | h
        · exact .inl h
        · exact .inr (Nat.le_trans HB1.out.2.2.2.size h)
    obtain ⟨N, hN⟩ : ∃ N, N = (xs.take i ++ x :: xs.drop i).length := ⟨_, rfl⟩
    rw [← hN] at HE ⊢
    clear hs2 hk2 hb2 hm2 hn2 hN
    go_wp2_with fail
    go_end0
    exact ⟨rfl, HE.out⟩
  · have HI : Hid (insF x xs = xs) := by show _ = _; unfold insF; rw [hc]; rfl
    clear hc
    go_wp2_with fail
    go_end0
    exact ⟨rfl, by rw [HI.out]; exact ⟨HB1.out.2.2.1, Mod.ofBelow HB1.out.2.2.2 _, v, HB1.out.1, HB1.out.2.1, fun k hk => .inl hk⟩⟩
/-- An ordered list as a piece of memory. -/
def olP (w0 : World) (bo : Nat) (xs : List Int) : Piece where
  lies w S := ∃ v, S = bo :: SB v ∧ Bk w bo #[v] 60 ∧ SL w0 w bo v xs
  lt := by
    rintro w S ⟨v, rfl, h1, h2⟩ k hk
    rcases List.mem_cons.1 hk with rfl | hk
    · exact h1.lt
    · rcases h2 with ⟨rfl, -⟩ | ⟨g, c, cur, rfl, -, -, h3, -⟩
      · simp [SB] at hk
      · simp [SB] at hk; subst hk; exact h3.lt
  keep := by
    rintro w w' S T ⟨v, rfl, h1, h2⟩ hm hd
    refine ⟨v, rfl, hm.heap h1 (hd bo (by simp)), ?_⟩
    rcases h2 with h2 | ⟨g, c, cur, rfl, k1, k2, k3, k4⟩
    · exact .inl h2
    · exact .inr ⟨g, c, cur, rfl, k1, k2, hm.heap k3 (hd g (by simp [SB])), k4⟩
theorem put_o {w0 W : World} {bo : Nat} {xs : List Int} {ps : List Piece} (x : Int) (h : Owns w0 W (olP w0 bo xs :: ps)) (hs : xs.Pairwise (· < ·)) (hlen : xs.length ≤ 999999) :
    Calls Tryd.prog 31 #[.pointer (some ⟨bo, 0, none⟩), .int .i64 x] W fun e w' => e = .returned (.tuple #[]) ∧ Owns w0 w' (olP w0 bo (insF x xs) :: ps) := by
  obtain ⟨S, ⟨v, rfl, h1, h2⟩, h3, h4⟩ := h.open
  refine (put_c w0 W bo v xs x h.base (h3 bo (by simp)) h1 h2 hs hlen).mono ?_
  rintro e w' ⟨rfl, p1, p2, v', p3, p4, p5⟩
  refine ⟨rfl, h4 w' _ (bo :: SB v') ⟨v', rfl, p3, p4⟩ p2 fun k hk => ?_⟩
  rcases List.mem_cons.1 hk with rfl | hk
  · exact .inl (by simp)
  · rcases p5 k hk with h | h
    · exact .inl (List.mem_cons_of_mem _ h)
    · exact .inr h
end Go.Proofs.YtkcbdlnoobjmbaaDoor

/-
  The ordered lists of the windows: 'put'.
-/
import Derived.Test.YtkcbdlnoobjmbaaDoorWnInsert
import Derived.Test.YtkcbdlnoobjmbaaDoorBase
import Derived.Deep.LoopGhost
import Derived.Deep.DeepCutAuto
import Derived.Laws.IdiomCopy
namespace Go.Cz.Wn
/-- A list with one element more, in order. -/
def insF (x : Int) (xs : List Int) : List Int := if xs.contains x then xs else xs.take (xs.countP (· < x)) ++ x :: xs.drop (xs.countP (· < x))
theorem insF_len (x : Int) (xs : List Int) : (insF x xs).length ≤ xs.length + 1 := by
  unfold insF
  split
  · omega
  · have := List.countP_le_length (p := fun y => decide (y < x)) (l := xs)
    simp
    omega
theorem insF_mem {x y : Int} {xs : List Int} : y ∈ insF x xs ↔ y = x ∨ y ∈ xs := by
  unfold insF
  split
  · rename_i h
    have hx : x ∈ xs := by simpa using h
    constructor
    · exact .inr
    · rintro (rfl | h)
      · exact hx
      · exact h
  · have e : xs = xs.take (xs.countP (· < x)) ++ xs.drop (xs.countP (· < x)) := (List.take_append_drop _ _).symm
    rw [List.mem_append, List.mem_cons]
    conv => rhs; rw [e, List.mem_append]
    constructor
    · rintro (h | h | h)
      · exact .inr (.inl h)
      · exact .inl h
      · exact .inr (.inr h)
    · rintro (h | h | h)
      · exact .inr (.inl h)
      · exact .inl h
      · exact .inr (.inr h)
/-- In a list in order, the lesser ones come first. -/
theorem sorted_split {x : Int} : ∀ {xs : List Int}, xs.Pairwise (· < ·) → (∀ y ∈ xs.take (xs.countP (· < x)), y < x) ∧ (∀ y ∈ xs.drop (xs.countP (· < x)), x ≤ y)
  | [], _ => by simp
  | a :: r, h => by
    obtain ⟨h1, h2⟩ := List.pairwise_cons.1 h
    obtain ⟨i1, i2⟩ := sorted_split (x := x) h2
    by_cases ha : a < x
    · have : (a :: r).countP (· < x) = r.countP (· < x) + 1 := by simp [ha]
      rw [this]
      refine ⟨fun y hy => ?_, fun y hy => i2 y hy⟩
      rcases List.mem_cons.1 hy with rfl | hy
      · exact ha
      · exact i1 y hy
    · have h0 : r.countP (· < x) = 0 := by
        rw [List.countP_eq_zero]
        intro y hy
        have := h1 y hy
        simp
        omega
      have : (a :: r).countP (· < x) = 0 := by simp [ha, h0]
      rw [this]
      refine ⟨fun y hy => by simp at hy, fun y hy => ?_⟩
      rcases List.mem_cons.1 hy with rfl | hy
      · omega
      · have := h1 y hy; omega
theorem insF_sorted {x : Int} {xs : List Int} (h : xs.Pairwise (· < ·)) : (insF x xs).Pairwise (· < ·) := by
  unfold insF
  split
  · exact h
  · rename_i hc
    have hx : x ∉ xs := by simpa using hc
    obtain ⟨h1, h2⟩ := sorted_split (x := x) h
    have e : xs = xs.take (xs.countP (· < x)) ++ xs.drop (xs.countP (· < x)) := (List.take_append_drop _ _).symm
    rw [e] at h
    obtain ⟨p1, p2, p3⟩ := List.pairwise_append.1 h
    refine List.pairwise_append.2 ⟨p1, List.pairwise_cons.2 ⟨fun y hy => ?_, p2⟩, fun a ha b hb => ?_⟩
    · have h3 := h2 y hy
      have : y ≠ x := fun e => hx (e ▸ List.mem_of_mem_drop hy)
      omega
    · rcases List.mem_cons.1 hb with rfl | hb
      · exact h1 a ha
      · exact p3 a ha b hb
end Go.Cz.Wn
namespace Go.Proofs.YtkcbdlnoobjmbaaDoor
open Go.RowKit Go.Cz Go.Cz.Wn
set_option linter.unusedSimpArgs false
set_option linter.unusedVariables false
attribute [local go_sem] bs_size bs_extract bs_append bs_toList
attribute [local irreducible] cList
theorem Bk.setCells {W : World} {g : Nat} {t : TypeId} : ∀ (vs : List Value) (o : Nat) (W : World) (cs : Array Value), Bk W g cs t → o + vs.length ≤ cs.size → ∃ cs', Bk (W.setCells g o vs) g cs' t ∧ cs'.size = cs.size ∧ ∀ j, cs'[j]? = if o ≤ j ∧ j < o + vs.length then vs[j - o]? else cs[j]?
  | [], o, W, cs, h, _ => ⟨cs, h, rfl, fun j => by rw [if_neg (by simp only [List.length_nil]; omega)]⟩
  | v :: r, o, W, cs, h, hl => by
    have hl' : o + 1 + r.length ≤ (cs.setIfInBounds o v).size := by simp at hl ⊢; omega
    obtain ⟨cs', h1, h2, h3⟩ := Bk.setCells (W := W) r (o + 1) _ _ (h.set o v) hl'
    refine ⟨cs', h1, by simpa using h2, fun j => ?_⟩
    rw [h3 j]
    by_cases hj : j = o
    · subst hj
      have hlt : j < cs.size := by simp at hl; omega
      rw [if_neg (by omega), if_pos (by simp)]
      simp [hlt]
    · by_cases hj2 : o + 1 ≤ j ∧ j < o + 1 + r.length
      · rw [if_pos hj2, if_pos (by simp; omega)]
        have : j - o = (j - (o + 1)) + 1 := by omega
        rw [this, List.getElem?_cons_succ]
      · rw [if_neg hj2, if_neg (by simp; omega)]
        have : ¬ o = j := fun e => hj e.symm
        simp [Array.getElem?_setIfInBounds, this]
theorem setCells_mod {g : Nat} : ∀ (vs : List Value) (o : Nat) (W : World), Mod [g] W (W.setCells g o vs)
  | [], _, W => Mod.refl _ _
  | v :: r, o, W => ((Mod.refl [g] W).setCell (p := ⟨g, o, none⟩) (.inl (by simp)) v).trans (setCells_mod r (o + 1) _)
/-- A list in memory of one's own. -/
def SL (V W : World) (bo : Nat) (v : Value) (xs : List Int) : Prop := (v = .slice none 0 0 ∧ xs = []) ∨ ∃ g c cur, v = .slice (some ⟨g, 0, none⟩) xs.length c ∧ g ≠ bo ∧ V.heap.size ≤ g ∧ Bk W g cur 3 ∧ xs.length ≤ c ∧ c ≤ maxLen ∧ cur.size = c ∧ 0 < xs.length ∧
    ∀ (j : Nat) (x : Int), xs[j]? = some x → cur[j]? = some (.int .i64 x)
theorem SL.keep {V W W' : World} {bo : Nat} {v : Value} {xs : List Int} (h : SL V W bo v xs) (hb : Below W.heap.size W W') : SL V W' bo v xs := by
  rcases h with h | ⟨g, c, cur, h1, h2, h3, h4, h5⟩
  · exact .inl h
  · exact .inr ⟨g, c, cur, h1, h2, h3, h4.below hb, h5⟩
structure OL (V W : World) (bo : Nat) (xs : List Int) : Prop where
  below : Below V.heap.size V W
  own : V.heap.size ≤ bo
  obj : ∃ v, Bk W bo #[v] 60 ∧ SL V W bo v xs
theorem OL.keep {V W W' : World} {bo : Nat} {xs : List Int} (h : OL V W bo xs) (hb : Below W.heap.size W W') : OL V W' bo xs := by
  obtain ⟨v, h1, h2⟩ := h.obj
  exact ⟨h.below.trans (hb.mono h.below.size), h.own, v, h1.below hb, h2.keep hb⟩
/-- What an insertion leaves: a list of one's own; all else as it was. -/
def SB (v : Value) : List Nat := match v with | .slice (some a) _ _ => [a.block] | _ => []
def InsrPost (V W : World) (bo : Nat) (v : Value) (ys : List Int) (e : Ending) (w' : World) : Prop := ∃ v', e = .returned v' ∧ SL V w' bo v' ys ∧ Bk w' bo #[v] 60 ∧ Below V.heap.size V w' ∧ Mod (SB v) W w' ∧ (∀ k ∈ SB v', k ∈ SB v ∨ W.heap.size ≤ k)
theorem ins_get {xs : List Int} {x : Int} {i : Nat} (hi : i ≤ xs.length) {j : Nat} {y : Int} (h : (xs.take i ++ x :: xs.drop i)[j]? = some y) :
    (j < i ∧ xs[j]? = some y) ∨ (j = i ∧ x = y) ∨ (i < j ∧ xs[j - 1]? = some y) := by
  have hl : (xs.take i).length = i := by rw [List.length_take]; omega
  by_cases h1 : j < i
  · rw [List.getElem?_append_left (by omega), List.getElem?_take, if_pos h1] at h
    exact .inl ⟨h1, h⟩
  · rw [List.getElem?_append_right (by omega), hl] at h
    by_cases h2 : j = i
    · subst h2
      simp at h
      exact .inr (.inl ⟨rfl, h⟩)
    · have : j - i = (j - 1 - i) + 1 := by omega
      rw [this, List.getElem?_cons_succ, List.getElem?_drop] at h
      refine .inr (.inr ⟨by omega, ?_⟩)
      rw [← h]
      congr 1
      omega
theorem below_of_mod {V W W' : World} {S : List Nat} (hb : Below V.heap.size V W) (hm : Mod S W W') (hS : ∀ k ∈ S, V.heap.size ≤ k) : Below V.heap.size V W' := toBelow' hm hb hS
theorem icell_one {xs : List Int} : ∀ v ∈ xs.map (Value.int .i64 ·), v.oneCell' = true := by
  intro v hv
  obtain ⟨y, _, rfl⟩ := List.mem_map.1 hv
  rfl
/-- slices.Insert of one element, whatever room there is. -/
theorem insert_c (V W : World) (bo : Nat) (v : Value) (xs : List Int) (i : Nat) (x : Int) (hi : i ≤ xs.length) (hlen : xs.length ≤ 1000000) (hb : Below V.heap.size V W) (hs : SL V W bo v xs) (ho : Bk W bo #[v] 60) (hbo : V.heap.size ≤ bo) :
    Calls Tryd.prog 44 #[v, .int .i64 (i : Int), .slice (some ⟨W.heap.size, 0, none⟩) 1 1] (W.alloc (.cells #[.int .i64 x] 3)) (InsrPost V W bo v (xs.take i ++ x :: xs.drop i)) := by
  have hbW : Below W.heap.size W (W.alloc (.cells #[.int .i64 x] 3)) := (Below.refl _ _).alloc (Nat.le_refl _) _
  have hmW : ∀ S, Mod S W (W.alloc (.cells #[.int .i64 x] 3)) := fun S => Mod.ofBelow hbW S
  have hv : Bk (W.alloc (.cells #[.int .i64 x] 3)) W.heap.size #[.int .i64 x] 3 := Bk.new _ _ _
  have ho2 := ho.below hbW
  have hb2 : Below V.heap.size V (W.alloc (.cells #[.int .i64 x] 3)) := hb.trans (hbW.mono hb.size)
  have hvs : ∀ (j : Nat) (u : Value), [Value.int .i64 x][j]? = some u → (W.alloc (.cells #[.int .i64 x] 3)).cell? ⟨W.heap.size, 0 + j, none⟩ = some u := fun j u hu => by
    rw [hv.cell, Nat.zero_add]
    rcases j with _ | j
    · exact hu
    · simp at hu
  have h1v : ∀ u ∈ [Value.int .i64 x], u.oneCell' = true := by simp [Value.oneCell']
  have hboW : bo < W.heap.size := ho.lt
  rcases hs with ⟨rfl, rfl⟩ | ⟨g, c, cur, rfl, h2, h3, h4, h5, h6, h7, h8, h9⟩
  · have hi0 : i = 0 := by simpa using hi
    subst hi0
    refine (Any2.slices_Insert_int_end_grow insLay none 0 0 W.heap.size 0 1 1 [] [.int .i64 x] _ (by omega) (Nat.le_refl _) (by omega) (by omega) rfl rfl (fun _ => rfl) (fun a ha => by cases ha) hvs h1v).mono ?_
    rintro e w' ⟨rfl, rfl⟩
    obtain ⟨cap, hcap⟩ : ∃ cap, cap = grownCap (W.alloc (.cells #[.int .i64 x] 3)) (0 + 1) 0 3 := ⟨_, rfl⟩
    have hc1 : 1 ≤ cap := by rw [hcap]; exact grownCap_ge _ _ _ _
    have hc2 : cap ≤ maxLen := by rw [hcap]; exact grownCap_le_maxLen _ _ _ _ (by unfold maxLen; omega)
    rw [show insRen.t 3 = 3 from rfl, ← hcap]
    refine ⟨_, rfl, .inr ⟨(W.alloc (.cells #[.int .i64 x] 3)).heap.size, cap, _, rfl, ?_, ?_, Bk.new (W.alloc (.cells #[.int .i64 x] 3)).drew _ _, hc1, hc2, ?_, by simp, fun j y hj => ?_⟩, ?_, ?_, ?_, ?_⟩
    · simp; omega
    · exact hb2.size
    · simp [Builtin.zeroCells, Value.cells]; omega
    · rcases j with _ | j
      · simp at hj; subst hj; rw [Array.getElem?_append_left (by simp)]; rfl
      · simp at hj
    · exact ho2.below (((Below.refl _ _).drew).alloc (by simp) _)
    · exact (hb2.drew).alloc hb2.size _
    · exact ((hmW _).drew).alloc _
    · intro k hk; simp [SB] at hk; right; omega
  · have hg2 : Bk (W.alloc (.cells #[.int .i64 x] 3)) g cur 3 := h4.below hbW
    have hgW : g < W.heap.size := h4.lt
    have hcs : ∀ (j : Nat) (u : Value), (xs.map (Value.int .i64 ·))[j]? = some u → (W.alloc (.cells #[.int .i64 x] 3)).cell? ⟨g, 0 + j, none⟩ = some u := fun j u hu => by
      rw [hg2.cell, Nat.zero_add]
      rw [List.getElem?_map] at hu
      rcases hx : xs[j]? with _ | y
      · rw [hx] at hu; simp at hu
      · rw [hx] at hu; simp at hu; subst hu; exact h9 j y hx
    have hysl : (xs.take i ++ x :: xs.drop i).length = xs.length + 1 := by simp; omega
    by_cases hend : i = xs.length
    · subst hend
      have hys : xs.take xs.length ++ x :: xs.drop xs.length = xs ++ [x] := by simp
      by_cases hroom : xs.length + 1 ≤ c
      · refine (Any2.slices_Insert_int_end_room insLay g 0 xs.length c W.heap.size 0 1 1 [.int .i64 x] _ (by omega) hroom (by unfold maxLen at h6; omega) rfl (fun j hj => ?_) (fun j hj => ?_) hvs h1v).mono ?_
        · rw [hg2.cell, Array.getElem?_eq_getElem (by omega)]; rfl
        · exact hg2.free _
        rintro e w' ⟨rfl, rfl⟩
        obtain ⟨cur', k1, k2, k3⟩ := Bk.setCells (W := W) [.int .i64 x] (0 + xs.length) _ cur hg2 (by simp; omega)
        have hm := setCells_mod (g := g) [.int .i64 x] (0 + xs.length) (W.alloc (.cells #[.int .i64 x] 3))
        refine ⟨_, rfl, .inr ⟨g, c, cur', by rw [hysl], h2, h3, k1, by omega, h6, by omega, by omega, fun j y hj => ?_⟩, hm.heap ho2 (by simpa using Ne.symm h2), below_of_mod hb2 hm (by simpa using h3), (hmW _).trans hm, fun k hk => .inl hk⟩
        rw [k3 j]
        rcases ins_get (Nat.le_refl _) hj with ⟨q1, q2⟩ | ⟨q1, q2⟩ | ⟨q1, q2⟩
        · rw [if_neg (by omega)]; exact h9 j y q2
        · subst q1; subst q2; rw [if_pos (by simp)]; simp
        · have := (List.getElem?_eq_some_iff.1 q2).1; omega
      · refine (Any2.slices_Insert_int_end_grow insLay (some ⟨g, 0, none⟩) xs.length c W.heap.size 0 1 1 (xs.map (Value.int .i64 ·)) [.int .i64 x] _ (by omega) h5 (by omega) (by omega) (by simp) rfl (fun h => by cases h) (fun a ha j u hu => by cases ha; rw [Addr.add_lit]; exact hcs j u hu) hvs h1v).mono ?_
        rintro e w' ⟨rfl, rfl⟩
        obtain ⟨cap, hcap⟩ : ∃ cap, cap = grownCap (W.alloc (.cells #[.int .i64 x] 3)) (xs.length + 1) c 3 := ⟨_, rfl⟩
        have hc1 : xs.length + 1 ≤ cap := by rw [hcap]; exact grownCap_ge _ _ _ _
        have hc2 : cap ≤ maxLen := by rw [hcap]; exact grownCap_le_maxLen _ _ _ _ (by unfold maxLen; omega)
        rw [show insRen.t 3 = 3 from rfl, ← hcap]
        refine ⟨_, rfl, .inr ⟨(W.alloc (.cells #[.int .i64 x] 3)).heap.size, cap, _, by rw [hysl], ?_, ?_, Bk.new (W.alloc (.cells #[.int .i64 x] 3)).drew _ _, by omega, hc2, ?_, by omega, fun j y hj => ?_⟩, ?_, ?_, ?_, ?_⟩
        · simp; omega
        · exact hb2.size
        · simp [Builtin.zeroCells, Value.cells]; omega
        · rw [hys] at hj
          have hjl := (List.getElem?_eq_some_iff.1 hj).1
          rw [Array.getElem?_append_left (by simpa using hjl)]
          have : (xs.map (Value.int .i64 ·) ++ [Value.int .i64 x]) = (xs ++ [x]).map (Value.int .i64 ·) := by simp
          rw [List.getElem?_toArray, this, List.getElem?_map, hj]
          rfl
        · exact ho2.below (((Below.refl _ _).drew).alloc (by simp) _)
        · exact (hb2.drew).alloc hb2.size _
        · exact ((hmW _).drew).alloc _
        · intro k hk; simp [SB] at hk; right; omega
    · have hlt : i < xs.length := by omega
      by_cases hroom : xs.length + 1 ≤ c
      · refine (Any2.slices_Insert_int_shift insLay g 0 xs.length c i W.heap.size 0 1 1 (xs.map (Value.int .i64 ·)) [.int .i64 x] _ hlt (by omega) hroom (by unfold maxLen at h6; omega) (by omega) (by simp) rfl hcs (fun j hj => ?_) (fun j hj => ?_) hvs icell_one h1v
          3 3 1 c ?_ ?_ (by omega) ?_ ?_).mono ?_
        · rw [hg2.cell, Array.getElem?_eq_getElem (by omega)]; rfl
        · exact hg2.free _
        · unfold World.shape?; rw [show (W.alloc (.cells #[.int .i64 x] 3)).heap[W.heap.size]? = _ from hv]; rfl
        · unfold World.shape?; rw [show (W.alloc (.cells #[.int .i64 x] 3)).heap[g]? = _ from hg2]; simp [h7]
        · exact hv.free _
        · exact hv.free _
        rintro e w' ⟨rfl, rfl⟩
        obtain ⟨cur1, k1, k2, k3⟩ := Bk.setCells (W := W) ((xs.map (Value.int .i64 ·)).drop i) (0 + (i + 1)) (W.alloc (.cells #[.int .i64 x] 3)).drew cur hg2 (by simp; omega)
        obtain ⟨cur2, m1, m2, m3⟩ := Bk.setCells (W := W) [.int .i64 x] (0 + i) _ cur1 k1 (by simp; omega)
        have hm : Mod [g] (W.alloc (.cells #[.int .i64 x] 3)) ((((W.alloc (.cells #[.int .i64 x] 3)).drew.setCells g (0 + (i + 1)) ((xs.map (Value.int .i64 ·)).drop i))).setCells g (0 + i) [.int .i64 x]) :=
          (((Mod.refl [g] (W.alloc (.cells #[.int .i64 x] 3))).drew).trans (setCells_mod _ _ _)).trans (setCells_mod _ _ _)
        refine ⟨_, rfl, .inr ⟨g, c, cur2, by rw [hysl], h2, h3, m1, by omega, h6, by omega, by omega, fun j y hj => ?_⟩, hm.heap ho2 (by simpa using Ne.symm h2), below_of_mod hb2 hm (by simpa using h3), (hmW _).trans hm, fun k hk => .inl hk⟩
        rw [m3 j, k3 j]
        rcases ins_get hi hj with ⟨q1, q2⟩ | ⟨q1, q2⟩ | ⟨q1, q2⟩
        · rw [if_neg (by omega), if_neg (by omega)]; exact h9 j y q2
        · subst q1; subst q2; rw [if_pos (by simp)]; simp
        · have hj1 := (List.getElem?_eq_some_iff.1 q2).1
          rw [if_neg (by simp; omega), if_pos (by simp; omega), List.getElem?_drop, List.getElem?_map, show i + (j - (0 + (i + 1))) = j - 1 by omega, q2]
          rfl
      · refine (Any2.slices_Insert_int_grow insLay g 0 xs.length c i W.heap.size 0 1 1 (xs.map (Value.int .i64 ·)) [.int .i64 x] _ hlt (by omega) h5 (by omega) (by omega) (by simp) rfl hcs hvs icell_one h1v).mono ?_
        rintro e w' ⟨rfl, rfl⟩
        obtain ⟨cap, hcap⟩ : ∃ cap, cap = grownCap (W.alloc (.cells #[.int .i64 x] 3)) (xs.length + 1) c 3 := ⟨_, rfl⟩
        have hc1 : xs.length + 1 ≤ cap := by rw [hcap]; exact grownCap_ge _ _ _ _
        have hc2 : cap ≤ maxLen := by rw [hcap]; exact grownCap_le_maxLen _ _ _ _ (by unfold maxLen; omega)
        rw [show insRen.t 3 = 3 from rfl, ← hcap]
        obtain ⟨N, hN⟩ : ∃ N, N = (W.alloc (.cells #[.int .i64 x] 3)).heap.size := ⟨_, rfl⟩
        obtain ⟨A0, hA0⟩ : ∃ A0, A0 = ((xs.map (Value.int .i64 ·)).take i).toArray ++ Builtin.zeroCells (Value.int .i64 0).cells (xs.length + 1 - i) ++ Builtin.zeroCells (Value.int .i64 0).cells (cap - (xs.length + 1)) := ⟨_, rfl⟩
        have hA1 : A0.size = cap := by rw [hA0]; simp [Builtin.zeroCells, Value.cells]; omega
        have hA2 : ∀ j y, j < i → xs[j]? = some y → A0[j]? = some (.int .i64 y) := fun j y hj hy => by
          rw [hA0, Array.append_assoc, Array.getElem?_append_left (by simp; omega), List.getElem?_toArray, List.getElem?_take, if_pos hj, List.getElem?_map, hy]
          rfl
        rw [← hA0, ← hN]
        clear hA0
        have hn0 : Bk ((W.alloc (.cells #[.int .i64 x] 3)).alloc (.cells A0 3)).drew N A0 3 := by rw [hN]; exact Bk.new _ _ _
        obtain ⟨cur1, k1, k2, k3⟩ := Bk.setCells (W := W) [.int .i64 x] i _ A0 hn0 (by simp; omega)
        obtain ⟨cur2, m1, m2, m3⟩ := Bk.setCells (W := W) ((xs.map (Value.int .i64 ·)).drop i) (i + 1) (((W.alloc (.cells #[.int .i64 x] 3)).alloc (.cells A0 3)).drew.setCells N i [.int .i64 x]).drew cur1 k1 (by simp; omega)
        have hm : Mod [N] (W.alloc (.cells #[.int .i64 x] 3)) ((((W.alloc (.cells #[.int .i64 x] 3)).alloc (.cells A0 3)).drew.setCells N i [.int .i64 x]).drew.setCells N (i + 1) ((xs.map (Value.int .i64 ·)).drop i)) :=
          ((((((Mod.refl [N] (W.alloc (.cells #[.int .i64 x] 3))).alloc _).drew).trans (setCells_mod _ _ _)).drew).trans (setCells_mod _ _ _))
        have hNb : bo ≠ N := by rw [hN]; simp; omega
        refine ⟨_, rfl, .inr ⟨N, cap, cur2, by rw [hysl], Ne.symm hNb, by rw [hN]; exact hb2.size, m1, by omega, hc2, by omega, by omega, fun j y hj => ?_⟩, hm.heap ho2 (by simpa using hNb), below_of_mod hb2 hm (by simp; rw [hN]; exact hb2.size), (hmW _).then hm (fun k hk => .inr (by simp at hk; subst hk; rw [hN]; simp)), fun k hk => .inr (by simp [SB] at hk; subst hk; rw [hN]; simp)⟩
        rw [m3 j, k3 j]
        rcases ins_get hi hj with ⟨q1, q2⟩ | ⟨q1, q2⟩ | ⟨q1, q2⟩
        · rw [if_neg (by omega), if_neg (by omega)]; exact hA2 j y q1 q2
        · subst q1; subst q2; rw [if_neg (by omega), if_pos (by simp)]; simp
        · have hj1 := (List.getElem?_eq_some_iff.1 q2).1
          rw [if_pos (by simp; omega), List.getElem?_drop, List.getElem?_map, show i + (j - (i + 1)) = j - 1 by omega, q2]
          rfl
end Go.Proofs.YtkcbdlnoobjmbaaDoor

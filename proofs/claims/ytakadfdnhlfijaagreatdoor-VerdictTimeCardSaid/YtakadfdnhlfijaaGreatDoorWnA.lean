/-
  The contracts of slices.Insert at []int, laid at this dump by hand.
  The ordered lists of the windows: 'put'.
  The ordered lists of the windows: 'put', walked.
  The windows' 'begins'.
  The windows' 'identifier'.
  What 'Changes' computes, in plain Lean; measures, texts and zones in rows.
  What the reference's 'Changes' computes, in plain Lean: the same.
  The windows' 'Changes'.
-/
import Derived.Test.YtakadfdnhlfijaaGreatDoorShelf
import Derived.Shelf.Spec.SlicesInsertGrow
import Derived.Test.YtakadfdnhlfijaaGreatDoorBase
import Derived.Deep.LoopGhost
import Derived.Deep.DeepCutAuto
import Derived.Laws.IdiomCopy
import Derived.Test.YtakadfdnhlfijaaGreatDoorWnModel
import Derived.Test.YtakadfdnhlfijaaGreatDoorClBegin
import Derived.Test.YtakadfdnhlfijaaGreatDoorLxA
import Derived.Test.YtakadfdnhlfijaaGreatDoorWnSpan
import Derived.Lib.SlicesS
namespace Go.Proofs.YtakadfdnhlfijaaGreatDoor
open Go.RowKit Go.Shelf
set_option maxRecDepth 100000
def insRen : Go.Shelf.Ren := ⟨fun | 21 => 74 | 27 => 101 | 28 => 102 | 35 => 121 | 39 => 136 | n => n, fun | 22 => 52 | 3 => 3 | 4 => 4 | 0 => 0 | n => n, fun | n => n⟩
theorem insLay : Go.Proofs.Lays2.n21 Tryz.prog insRen := {
  mixed := by kernel_rfl
  f21 := Tryz.func74.trans (congrArg some (by kernel_rfl))
  f27 := Tryz.func101.trans (congrArg some (by kernel_rfl))
  f28 := Tryz.func102.trans (congrArg some (by kernel_rfl))
  f35 := Tryz.func121.trans (congrArg some (by kernel_rfl))
  f39 := Tryz.func136.trans (congrArg some (by kernel_rfl))
  t0 := Tryz.underlying0
  a0 := Tryz.isAgg0
  z0 := Tryz.sizeOf0
  v0 := Tryz.zeroValue0
  t3 := Tryz.underlying3
  a3 := Tryz.isAgg3
  z3 := Tryz.sizeOf3
  v3 := Tryz.zeroValue3
  t4 := Tryz.underlying4
  a4 := Tryz.isAgg4
  z4 := Tryz.sizeOf4
  v4 := Tryz.zeroValue4
  t22 := Tryz.underlying52
  a22 := Tryz.isAgg52
  z22 := Tryz.sizeOf52
  v22 := Tryz.zeroValue52
  i3 := by kernel_rfl }
end Go.Proofs.YtakadfdnhlfijaaGreatDoor
namespace Go.Cz.Wn
/-- A list with one element more, in order. -/
def insF (x : Int) (xs : List Int) : List Int := if xs.contains x then xs else xs.take (xs.countP (· < x)) ++ x :: xs.drop (xs.countP (· < x))
theorem insF_len (x : Int) (xs : List Int) : (insF x xs).length ≤ xs.length + 1 := by
  unfold insF
  split
  · omega
  · have := List.countP_le_length (p := fun y => decide (y < x)) (l := xs)
    simp
    omega
theorem insF_mem {x y : Int} {xs : List Int} : y ∈ insF x xs ↔ y = x ∨ y ∈ xs := by
  unfold insF
  split
  · rename_i h
    have hx : x ∈ xs := by simpa using h
    constructor
    · exact .inr
    · rintro (rfl | h)
      · exact hx
      · exact h
  · have e : xs = xs.take (xs.countP (· < x)) ++ xs.drop (xs.countP (· < x)) := (List.take_append_drop _ _).symm
    rw [List.mem_append, List.mem_cons]
    conv => rhs; rw [e, List.mem_append]
    constructor
    · rintro (h | h | h)
      · exact .inr (.inl h)
      · exact .inl h
      · exact .inr (.inr h)
    · rintro (h | h | h)
      · exact .inr (.inl h)
      · exact .inl h
      · exact .inr (.inr h)
/-- In a list in order, the lesser ones come first. -/
theorem sorted_split {x : Int} : ∀ {xs : List Int}, xs.Pairwise (· < ·) → (∀ y ∈ xs.take (xs.countP (· < x)), y < x) ∧ (∀ y ∈ xs.drop (xs.countP (· < x)), x ≤ y)
  | [], _ => by simp
  | a :: r, h => by
    obtain ⟨h1, h2⟩ := List.pairwise_cons.1 h
    obtain ⟨i1, i2⟩ := sorted_split (x := x) h2
    by_cases ha : a < x
    · have : (a :: r).countP (· < x) = r.countP (· < x) + 1 := by simp [ha]
      rw [this]
      refine ⟨fun y hy => ?_, fun y hy => i2 y hy⟩
      rcases List.mem_cons.1 hy with rfl | hy
      · exact ha
      · exact i1 y hy
    · have h0 : r.countP (· < x) = 0 := by
        rw [List.countP_eq_zero]
        intro y hy
        have := h1 y hy
        simp
        omega
      have : (a :: r).countP (· < x) = 0 := by simp [ha, h0]
      rw [this]
      refine ⟨fun y hy => by simp at hy, fun y hy => ?_⟩
      rcases List.mem_cons.1 hy with rfl | hy
      · omega
      · have := h1 y hy; omega
theorem insF_sorted {x : Int} {xs : List Int} (h : xs.Pairwise (· < ·)) : (insF x xs).Pairwise (· < ·) := by
  unfold insF
  split
  · exact h
  · rename_i hc
    have hx : x ∉ xs := by simpa using hc
    obtain ⟨h1, h2⟩ := sorted_split (x := x) h
    have e : xs = xs.take (xs.countP (· < x)) ++ xs.drop (xs.countP (· < x)) := (List.take_append_drop _ _).symm
    rw [e] at h
    obtain ⟨p1, p2, p3⟩ := List.pairwise_append.1 h
    refine List.pairwise_append.2 ⟨p1, List.pairwise_cons.2 ⟨fun y hy => ?_, p2⟩, fun a ha b hb => ?_⟩
    · have h3 := h2 y hy
      have : y ≠ x := fun e => hx (e ▸ List.mem_of_mem_drop hy)
      omega
    · rcases List.mem_cons.1 hb with rfl | hb
      · exact h1 a ha
      · exact p3 a ha b hb
end Go.Cz.Wn
namespace Go.Proofs.YtakadfdnhlfijaaGreatDoor
open Go.RowKit Go.Cz Go.Cz.Wn
set_option linter.unusedSimpArgs false
set_option linter.unusedVariables false
attribute [local go_sem] bs_size bs_extract bs_append bs_toList
attribute [local irreducible] cList
theorem Bk.setCells {W : World} {g : Nat} {t : TypeId} : ∀ (vs : List Value) (o : Nat) (W : World) (cs : Array Value), Bk W g cs t → o + vs.length ≤ cs.size → ∃ cs', Bk (W.setCells g o vs) g cs' t ∧ cs'.size = cs.size ∧ ∀ j, cs'[j]? = if o ≤ j ∧ j < o + vs.length then vs[j - o]? else cs[j]?
  | [], o, W, cs, h, _ => ⟨cs, h, rfl, fun j => by rw [if_neg (by simp only [List.length_nil]; omega)]⟩
  | v :: r, o, W, cs, h, hl => by
    have hl' : o + 1 + r.length ≤ (cs.setIfInBounds o v).size := by simp at hl ⊢; omega
    obtain ⟨cs', h1, h2, h3⟩ := Bk.setCells (W := W) r (o + 1) _ _ (h.set o v) hl'
    refine ⟨cs', h1, by simpa using h2, fun j => ?_⟩
    rw [h3 j]
    by_cases hj : j = o
    · subst hj
      have hlt : j < cs.size := by simp at hl; omega
      rw [if_neg (by omega), if_pos (by simp)]
      simp [hlt]
    · by_cases hj2 : o + 1 ≤ j ∧ j < o + 1 + r.length
      · rw [if_pos hj2, if_pos (by simp; omega)]
        have : j - o = (j - (o + 1)) + 1 := by omega
        rw [this, List.getElem?_cons_succ]
      · rw [if_neg hj2, if_neg (by simp; omega)]
        have : ¬ o = j := fun e => hj e.symm
        simp [Array.getElem?_setIfInBounds, this]
theorem setCells_mod {g : Nat} : ∀ (vs : List Value) (o : Nat) (W : World), Mod [g] W (W.setCells g o vs)
  | [], _, W => Mod.refl _ _
  | v :: r, o, W => ((Mod.refl [g] W).setCell (p := ⟨g, o, none⟩) (.inl (by simp)) v).trans (setCells_mod r (o + 1) _)
/-- A list in memory of one's own. -/
def SL (V W : World) (bo : Nat) (v : Value) (xs : List Int) : Prop := (v = .slice none 0 0 ∧ xs = []) ∨ ∃ g c cur, v = .slice (some ⟨g, 0, none⟩) xs.length c ∧ g ≠ bo ∧ V.heap.size ≤ g ∧ Bk W g cur 3 ∧ xs.length ≤ c ∧ c ≤ maxLen ∧ cur.size = c ∧ 0 < xs.length ∧
    ∀ (j : Nat) (x : Int), xs[j]? = some x → cur[j]? = some (.int .i64 x)
theorem SL.keep {V W W' : World} {bo : Nat} {v : Value} {xs : List Int} (h : SL V W bo v xs) (hb : Below W.heap.size W W') : SL V W' bo v xs := by
  rcases h with h | ⟨g, c, cur, h1, h2, h3, h4, h5⟩
  · exact .inl h
  · exact .inr ⟨g, c, cur, h1, h2, h3, h4.below hb, h5⟩
structure OL (V W : World) (bo : Nat) (xs : List Int) : Prop where
  below : Below V.heap.size V W
  own : V.heap.size ≤ bo
  obj : ∃ v, Bk W bo #[v] 83 ∧ SL V W bo v xs
theorem OL.keep {V W W' : World} {bo : Nat} {xs : List Int} (h : OL V W bo xs) (hb : Below W.heap.size W W') : OL V W' bo xs := by
  obtain ⟨v, h1, h2⟩ := h.obj
  exact ⟨h.below.trans (hb.mono h.below.size), h.own, v, h1.below hb, h2.keep hb⟩
/-- What an insertion leaves: a list of one's own; all else as it was. -/
def SB (v : Value) : List Nat := match v with | .slice (some a) _ _ => [a.block] | _ => []
def InsrPost (V W : World) (bo : Nat) (v : Value) (ys : List Int) (e : Ending) (w' : World) : Prop := ∃ v', e = .returned v' ∧ SL V w' bo v' ys ∧ Bk w' bo #[v] 83 ∧ Below V.heap.size V w' ∧ Mod (SB v) W w' ∧ (∀ k ∈ SB v', k ∈ SB v ∨ W.heap.size ≤ k)
theorem ins_get {xs : List Int} {x : Int} {i : Nat} (hi : i ≤ xs.length) {j : Nat} {y : Int} (h : (xs.take i ++ x :: xs.drop i)[j]? = some y) :
    (j < i ∧ xs[j]? = some y) ∨ (j = i ∧ x = y) ∨ (i < j ∧ xs[j - 1]? = some y) := by
  have hl : (xs.take i).length = i := by rw [List.length_take]; omega
  by_cases h1 : j < i
  · rw [List.getElem?_append_left (by omega), List.getElem?_take, if_pos h1] at h
    exact .inl ⟨h1, h⟩
  · rw [List.getElem?_append_right (by omega), hl] at h
    by_cases h2 : j = i
    · subst h2
      simp at h
      exact .inr (.inl ⟨rfl, h⟩)
    · have : j - i = (j - 1 - i) + 1 := by omega
      rw [this, List.getElem?_cons_succ, List.getElem?_drop] at h
      refine .inr (.inr ⟨by omega, ?_⟩)
      rw [← h]
      congr 1
      omega
theorem below_of_mod {V W W' : World} {S : List Nat} (hb : Below V.heap.size V W) (hm : Mod S W W') (hS : ∀ k ∈ S, V.heap.size ≤ k) : Below V.heap.size V W' := toBelow' hm hb hS
theorem icell_one {xs : List Int} : ∀ v ∈ xs.map (Value.int .i64 ·), v.oneCell' = true := by
  intro v hv
  obtain ⟨y, _, rfl⟩ := List.mem_map.1 hv
  rfl
/-- slices.Insert of one element, whatever room there is. -/
theorem insert_c (V W : World) (bo : Nat) (v : Value) (xs : List Int) (i : Nat) (x : Int) (hi : i ≤ xs.length) (hlen : xs.length ≤ 1000000) (hb : Below V.heap.size V W) (hs : SL V W bo v xs) (ho : Bk W bo #[v] 83) (hbo : V.heap.size ≤ bo) :
    Calls Tryz.prog 74 #[v, .int .i64 (i : Int), .slice (some ⟨W.heap.size, 0, none⟩) 1 1] (W.alloc (.cells #[.int .i64 x] 3)) (InsrPost V W bo v (xs.take i ++ x :: xs.drop i)) := by
  have hbW : Below W.heap.size W (W.alloc (.cells #[.int .i64 x] 3)) := (Below.refl _ _).alloc (Nat.le_refl _) _
  have hmW : ∀ S, Mod S W (W.alloc (.cells #[.int .i64 x] 3)) := fun S => Mod.ofBelow hbW S
  have hv : Bk (W.alloc (.cells #[.int .i64 x] 3)) W.heap.size #[.int .i64 x] 3 := Bk.new _ _ _
  have ho2 := ho.below hbW
  have hb2 : Below V.heap.size V (W.alloc (.cells #[.int .i64 x] 3)) := hb.trans (hbW.mono hb.size)
  have hvs : ∀ (j : Nat) (u : Value), [Value.int .i64 x][j]? = some u → (W.alloc (.cells #[.int .i64 x] 3)).cell? ⟨W.heap.size, 0 + j, none⟩ = some u := fun j u hu => by
    rw [hv.cell, Nat.zero_add]
    rcases j with _ | j
    · exact hu
    · simp at hu
  have h1v : ∀ u ∈ [Value.int .i64 x], u.oneCell' = true := by simp [Value.oneCell']
  have hboW : bo < W.heap.size := ho.lt
  rcases hs with ⟨rfl, rfl⟩ | ⟨g, c, cur, rfl, h2, h3, h4, h5, h6, h7, h8, h9⟩
  · have hi0 : i = 0 := by simpa using hi
    subst hi0
    refine (Any2.slices_Insert_int_end_grow insLay none 0 0 W.heap.size 0 1 1 [] [.int .i64 x] _ (by omega) (Nat.le_refl _) (by omega) (by omega) rfl rfl (fun _ => rfl) (fun a ha => by cases ha) hvs h1v).mono ?_
    rintro e w' ⟨rfl, rfl⟩
    obtain ⟨cap, hcap⟩ : ∃ cap, cap = grownCap (W.alloc (.cells #[.int .i64 x] 3)) (0 + 1) 0 3 := ⟨_, rfl⟩
    have hc1 : 1 ≤ cap := by rw [hcap]; exact grownCap_ge _ _ _ _
    have hc2 : cap ≤ maxLen := by rw [hcap]; exact grownCap_le_maxLen _ _ _ _ (by unfold maxLen; omega)
    rw [show insRen.t 3 = 3 from rfl, ← hcap]
    refine ⟨_, rfl, .inr ⟨(W.alloc (.cells #[.int .i64 x] 3)).heap.size, cap, _, rfl, ?_, ?_, Bk.new (W.alloc (.cells #[.int .i64 x] 3)).drew _ _, hc1, hc2, ?_, by simp, fun j y hj => ?_⟩, ?_, ?_, ?_, ?_⟩
    · simp; omega
    · exact hb2.size
    · simp [Builtin.zeroCells, Value.cells]; omega
    · rcases j with _ | j
      · simp at hj; subst hj; rw [Array.getElem?_append_left (by simp)]; rfl
      · simp at hj
    · exact ho2.below (((Below.refl _ _).drew).alloc (by simp) _)
    · exact (hb2.drew).alloc hb2.size _
    · exact ((hmW _).drew).alloc _
    · intro k hk; simp [SB] at hk; right; omega
  · have hg2 : Bk (W.alloc (.cells #[.int .i64 x] 3)) g cur 3 := h4.below hbW
    have hgW : g < W.heap.size := h4.lt
    have hcs : ∀ (j : Nat) (u : Value), (xs.map (Value.int .i64 ·))[j]? = some u → (W.alloc (.cells #[.int .i64 x] 3)).cell? ⟨g, 0 + j, none⟩ = some u := fun j u hu => by
      rw [hg2.cell, Nat.zero_add]
      rw [List.getElem?_map] at hu
      rcases hx : xs[j]? with _ | y
      · rw [hx] at hu; simp at hu
      · rw [hx] at hu; simp at hu; subst hu; exact h9 j y hx
    have hysl : (xs.take i ++ x :: xs.drop i).length = xs.length + 1 := by simp; omega
    by_cases hend : i = xs.length
    · subst hend
      have hys : xs.take xs.length ++ x :: xs.drop xs.length = xs ++ [x] := by simp
      by_cases hroom : xs.length + 1 ≤ c
      · refine (Any2.slices_Insert_int_end_room insLay g 0 xs.length c W.heap.size 0 1 1 [.int .i64 x] _ (by omega) hroom (by unfold maxLen at h6; omega) rfl (fun j hj => ?_) (fun j hj => ?_) hvs h1v).mono ?_
        · rw [hg2.cell, Array.getElem?_eq_getElem (by omega)]; rfl
        · exact hg2.free _
        rintro e w' ⟨rfl, rfl⟩
        obtain ⟨cur', k1, k2, k3⟩ := Bk.setCells (W := W) [.int .i64 x] (0 + xs.length) _ cur hg2 (by simp; omega)
        have hm := setCells_mod (g := g) [.int .i64 x] (0 + xs.length) (W.alloc (.cells #[.int .i64 x] 3))
        refine ⟨_, rfl, .inr ⟨g, c, cur', by rw [hysl], h2, h3, k1, by omega, h6, by omega, by omega, fun j y hj => ?_⟩, hm.heap ho2 (by simpa using Ne.symm h2), below_of_mod hb2 hm (by simpa using h3), (hmW _).trans hm, fun k hk => .inl hk⟩
        rw [k3 j]
        rcases ins_get (Nat.le_refl _) hj with ⟨q1, q2⟩ | ⟨q1, q2⟩ | ⟨q1, q2⟩
        · rw [if_neg (by omega)]; exact h9 j y q2
        · subst q1; subst q2; rw [if_pos (by simp)]; simp
        · have := (List.getElem?_eq_some_iff.1 q2).1; omega
      · refine (Any2.slices_Insert_int_end_grow insLay (some ⟨g, 0, none⟩) xs.length c W.heap.size 0 1 1 (xs.map (Value.int .i64 ·)) [.int .i64 x] _ (by omega) h5 (by omega) (by omega) (by simp) rfl (fun h => by cases h) (fun a ha j u hu => by cases ha; rw [Addr.add_lit]; exact hcs j u hu) hvs h1v).mono ?_
        rintro e w' ⟨rfl, rfl⟩
        obtain ⟨cap, hcap⟩ : ∃ cap, cap = grownCap (W.alloc (.cells #[.int .i64 x] 3)) (xs.length + 1) c 3 := ⟨_, rfl⟩
        have hc1 : xs.length + 1 ≤ cap := by rw [hcap]; exact grownCap_ge _ _ _ _
        have hc2 : cap ≤ maxLen := by rw [hcap]; exact grownCap_le_maxLen _ _ _ _ (by unfold maxLen; omega)
        rw [show insRen.t 3 = 3 from rfl, ← hcap]
        refine ⟨_, rfl, .inr ⟨(W.alloc (.cells #[.int .i64 x] 3)).heap.size, cap, _, by rw [hysl], ?_, ?_, Bk.new (W.alloc (.cells #[.int .i64 x] 3)).drew _ _, by omega, hc2, ?_, by omega, fun j y hj => ?_⟩, ?_, ?_, ?_, ?_⟩
        · simp; omega
        · exact hb2.size
        · simp [Builtin.zeroCells, Value.cells]; omega
        · rw [hys] at hj
          have hjl := (List.getElem?_eq_some_iff.1 hj).1
          rw [Array.getElem?_append_left (by simpa using hjl)]
          have : (xs.map (Value.int .i64 ·) ++ [Value.int .i64 x]) = (xs ++ [x]).map (Value.int .i64 ·) := by simp
          rw [List.getElem?_toArray, this, List.getElem?_map, hj]
          rfl
        · exact ho2.below (((Below.refl _ _).drew).alloc (by simp) _)
        · exact (hb2.drew).alloc hb2.size _
        · exact ((hmW _).drew).alloc _
        · intro k hk; simp [SB] at hk; right; omega
    · have hlt : i < xs.length := by omega
      by_cases hroom : xs.length + 1 ≤ c
      · refine (Any2.slices_Insert_int_shift insLay g 0 xs.length c i W.heap.size 0 1 1 (xs.map (Value.int .i64 ·)) [.int .i64 x] _ hlt (by omega) hroom (by unfold maxLen at h6; omega) (by omega) (by simp) rfl hcs (fun j hj => ?_) (fun j hj => ?_) hvs icell_one h1v
          3 3 1 c ?_ ?_ (by omega) ?_ ?_).mono ?_
        · rw [hg2.cell, Array.getElem?_eq_getElem (by omega)]; rfl
        · exact hg2.free _
        · unfold World.shape?; rw [show (W.alloc (.cells #[.int .i64 x] 3)).heap[W.heap.size]? = _ from hv]; rfl
        · unfold World.shape?; rw [show (W.alloc (.cells #[.int .i64 x] 3)).heap[g]? = _ from hg2]; simp [h7]
        · exact hv.free _
        · exact hv.free _
        rintro e w' ⟨rfl, rfl⟩
        obtain ⟨cur1, k1, k2, k3⟩ := Bk.setCells (W := W) ((xs.map (Value.int .i64 ·)).drop i) (0 + (i + 1)) (W.alloc (.cells #[.int .i64 x] 3)).drew cur hg2 (by simp; omega)
        obtain ⟨cur2, m1, m2, m3⟩ := Bk.setCells (W := W) [.int .i64 x] (0 + i) _ cur1 k1 (by simp; omega)
        have hm : Mod [g] (W.alloc (.cells #[.int .i64 x] 3)) ((((W.alloc (.cells #[.int .i64 x] 3)).drew.setCells g (0 + (i + 1)) ((xs.map (Value.int .i64 ·)).drop i))).setCells g (0 + i) [.int .i64 x]) :=
          (((Mod.refl [g] (W.alloc (.cells #[.int .i64 x] 3))).drew).trans (setCells_mod _ _ _)).trans (setCells_mod _ _ _)
        refine ⟨_, rfl, .inr ⟨g, c, cur2, by rw [hysl], h2, h3, m1, by omega, h6, by omega, by omega, fun j y hj => ?_⟩, hm.heap ho2 (by simpa using Ne.symm h2), below_of_mod hb2 hm (by simpa using h3), (hmW _).trans hm, fun k hk => .inl hk⟩
        rw [m3 j, k3 j]
        rcases ins_get hi hj with ⟨q1, q2⟩ | ⟨q1, q2⟩ | ⟨q1, q2⟩
        · rw [if_neg (by omega), if_neg (by omega)]; exact h9 j y q2
        · subst q1; subst q2; rw [if_pos (by simp)]; simp
        · have hj1 := (List.getElem?_eq_some_iff.1 q2).1
          rw [if_neg (by simp; omega), if_pos (by simp; omega), List.getElem?_drop, List.getElem?_map, show i + (j - (0 + (i + 1))) = j - 1 by omega, q2]
          rfl
      · refine (Any2.slices_Insert_int_grow insLay g 0 xs.length c i W.heap.size 0 1 1 (xs.map (Value.int .i64 ·)) [.int .i64 x] _ hlt (by omega) h5 (by omega) (by omega) (by simp) rfl hcs hvs icell_one h1v).mono ?_
        rintro e w' ⟨rfl, rfl⟩
        obtain ⟨cap, hcap⟩ : ∃ cap, cap = grownCap (W.alloc (.cells #[.int .i64 x] 3)) (xs.length + 1) c 3 := ⟨_, rfl⟩
        have hc1 : xs.length + 1 ≤ cap := by rw [hcap]; exact grownCap_ge _ _ _ _
        have hc2 : cap ≤ maxLen := by rw [hcap]; exact grownCap_le_maxLen _ _ _ _ (by unfold maxLen; omega)
        rw [show insRen.t 3 = 3 from rfl, ← hcap]
        obtain ⟨N, hN⟩ : ∃ N, N = (W.alloc (.cells #[.int .i64 x] 3)).heap.size := ⟨_, rfl⟩
        obtain ⟨A0, hA0⟩ : ∃ A0, A0 = ((xs.map (Value.int .i64 ·)).take i).toArray ++ Builtin.zeroCells (Value.int .i64 0).cells (xs.length + 1 - i) ++ Builtin.zeroCells (Value.int .i64 0).cells (cap - (xs.length + 1)) := ⟨_, rfl⟩
        have hA1 : A0.size = cap := by rw [hA0]; simp [Builtin.zeroCells, Value.cells]; omega
        have hA2 : ∀ j y, j < i → xs[j]? = some y → A0[j]? = some (.int .i64 y) := fun j y hj hy => by
          rw [hA0, Array.append_assoc, Array.getElem?_append_left (by simp; omega), List.getElem?_toArray, List.getElem?_take, if_pos hj, List.getElem?_map, hy]
          rfl
        rw [← hA0, ← hN]
        clear hA0
        have hn0 : Bk ((W.alloc (.cells #[.int .i64 x] 3)).alloc (.cells A0 3)).drew N A0 3 := by rw [hN]; exact Bk.new _ _ _
        obtain ⟨cur1, k1, k2, k3⟩ := Bk.setCells (W := W) [.int .i64 x] i _ A0 hn0 (by simp; omega)
        obtain ⟨cur2, m1, m2, m3⟩ := Bk.setCells (W := W) ((xs.map (Value.int .i64 ·)).drop i) (i + 1) (((W.alloc (.cells #[.int .i64 x] 3)).alloc (.cells A0 3)).drew.setCells N i [.int .i64 x]).drew cur1 k1 (by simp; omega)
        have hm : Mod [N] (W.alloc (.cells #[.int .i64 x] 3)) ((((W.alloc (.cells #[.int .i64 x] 3)).alloc (.cells A0 3)).drew.setCells N i [.int .i64 x]).drew.setCells N (i + 1) ((xs.map (Value.int .i64 ·)).drop i)) :=
          ((((((Mod.refl [N] (W.alloc (.cells #[.int .i64 x] 3))).alloc _).drew).trans (setCells_mod _ _ _)).drew).trans (setCells_mod _ _ _))
        have hNb : bo ≠ N := by rw [hN]; simp; omega
        refine ⟨_, rfl, .inr ⟨N, cap, cur2, by rw [hysl], Ne.symm hNb, by rw [hN]; exact hb2.size, m1, by omega, hc2, by omega, by omega, fun j y hj => ?_⟩, hm.heap ho2 (by simpa using hNb), below_of_mod hb2 hm (by simp; rw [hN]; exact hb2.size), (hmW _).then hm (fun k hk => .inr (by simp at hk; subst hk; rw [hN]; simp)), fun k hk => .inr (by simp [SB] at hk; subst hk; rw [hN]; simp)⟩
        rw [m3 j, k3 j]
        rcases ins_get hi hj with ⟨q1, q2⟩ | ⟨q1, q2⟩ | ⟨q1, q2⟩
        · rw [if_neg (by omega), if_neg (by omega)]; exact hA2 j y q1 q2
        · subst q1; subst q2; rw [if_neg (by omega), if_pos (by simp)]; simp
        · have hj1 := (List.getElem?_eq_some_iff.1 q2).1
          rw [if_pos (by simp; omega), List.getElem?_drop, List.getElem?_map, show i + (j - (i + 1)) = j - 1 by omega, q2]
          rfl
end Go.Proofs.YtakadfdnhlfijaaGreatDoor
namespace Go.Proofs.YtakadfdnhlfijaaGreatDoor
open Go.RowKit Go.Cz Go.Cz.Wn
set_option linter.unusedSimpArgs false
set_option linter.unusedVariables false
attribute [local go_sem] bs_size bs_extract bs_append bs_toList
attribute [local irreducible] cList
theorem SL.form {V W : World} {bo : Nat} {v : Value} {xs : List Int} (h : SL V W bo v xs) : ∃ a c, v = .slice a xs.length c := by
  rcases h with ⟨rfl, rfl⟩ | ⟨g, c, cur, rfl, -⟩
  · exact ⟨none, 0, rfl⟩
  · exact ⟨_, c, rfl⟩
theorem SL.other {V W : World} {bo : Nat} {v u : Value} {xs : List Int} (h : SL V W bo v xs) : SL V (W.setCell ⟨bo, 0, none⟩ u) bo v xs := by
  rcases h with h | ⟨g, c, cur, h1, h2, h3, h4, h5⟩
  · exact .inl h
  · exact .inr ⟨g, c, cur, h1, h2, h3, h4.other (by simpa using h2) _, h5⟩
theorem below_drewN (W : World) (q : Nat) : Below W.heap.size W (W.drewN q) := ⟨rfl, rfl, rfl, Nat.le_refl _, fun _ _ => rfl⟩
theorem search_c {V W : World} {bo : Nat} {v : Value} {xs : List Int} (h : SL V W bo v xs) (hs : xs.Pairwise (· < ·)) (hlen : xs.length ≤ 1000000) (x : Int) :
    Calls Tryz.prog 73 #[v, .int .i64 x] W fun e w' => e = .returned (.tuple #[.int .i64 ((xs.countP (· < x) : Nat) : Int), .bool (xs.contains x)]) ∧ Below W.heap.size W w' := by
  rcases h with ⟨rfl, rfl⟩ | ⟨g, c, cur, rfl, h2, h3, h4, h5, h6, h7, h8, h9⟩
  · refine (Tryz.slices_BinarySearch_int_empty none 0 x W).mono ?_
    rintro e w' ⟨rfl, rfl⟩
    exact ⟨rfl, Below.refl _ _⟩
  · refine (Tryz.slices_BinarySearch_int g 0 xs.length c xs x W (Nat.le_refl _) (by omega) (fun j hj => ?_) ?_).mono ?_
    · rw [h4.cell, Nat.zero_add, h9 j xs[j] (List.getElem?_eq_getElem hj), List.getD_eq_getElem?_getD, List.getElem?_eq_getElem hj]
      rfl
    · rw [List.take_length]
      exact hs.imp fun h => Int.le_of_lt h
    · rintro e w' ⟨rfl, q, rfl⟩
      rw [List.take_length]
      exact ⟨rfl, below_drewN _ _⟩
/-- What 'put' leaves. -/
def PutPost (V W : World) (bo : Nat) (v : Value) (ys : List Int) (w' : World) : Prop := Below V.heap.size V w' ∧ Mod (bo :: SB v) W w' ∧ ∃ v', Bk w' bo #[v'] 83 ∧ SL V w' bo v' ys ∧ ∀ k ∈ SB v', k ∈ SB v ∨ W.heap.size ≤ k
set_option maxHeartbeats 1000000 in
theorem put_c (V W : World) (bo : Nat) (v : Value) (xs : List Int) (x : Int) (hbel : Below V.heap.size V W) (hown : V.heap.size ≤ bo) (hbk : Bk W bo #[v] 83) (hsl : SL V W bo v xs) (hs : xs.Pairwise (· < ·)) (hlen : xs.length ≤ 999999) :
    Calls Tryz.prog 48 #[.pointer (some ⟨bo, 0, none⟩), .int .i64 x] W fun e w' => e = .returned (.tuple #[]) ∧ PutPost V W bo v (insF x xs) w' := by
  have HV : Hid (Below V.heap.size V W ∧ V.heap.size ≤ bo) := ⟨hbel, hown⟩
  have HB := Lib.hid (And.intro hbk hsl)
  have HS := Lib.hid (search_c hsl hs (by omega) x)
  have hz := hbk.lt
  have c0 : W.cell? ⟨bo, 0, none⟩ = some v := by rw [hbk.cell]; rfl
  clear hbk hsl hs hbel hown
  go_enter Tryz.func48, Tryz.ntmps48
  go_wp2_with fail
  go_at_call 73
  refine HS.out.mono ?_
  rintro e W1 ⟨rfl, hb⟩
  have HB1 : Hid (Bk W1 bo #[v] 83 ∧ SL V W1 bo v xs ∧ Below V.heap.size V W1 ∧ Below W.heap.size W W1) := ⟨HB.out.1.below hb, HB.out.2.keep hb, HV.out.1.trans (hb.mono HV.out.1.size), hb⟩
  clear hb HB HS c0 hz
  cases hc : xs.contains x
  · have HI : Hid (insF x xs = xs.take (xs.countP (· < x)) ++ x :: xs.drop (xs.countP (· < x))) := by show _ = _; unfold insF; rw [hc]; rfl
    obtain ⟨i, hi⟩ : ∃ i, i = xs.countP (· < x) := ⟨_, rfl⟩
    have hil : i ≤ xs.length := by rw [hi]; exact List.countP_le_length
    rw [← hi] at HI ⊢
    clear hi hc
    have hz := HB1.out.1.lt
    have c0 : W1.cell? ⟨bo, 0, none⟩ = some v := by rw [HB1.out.1.cell]; rfl
    go_wp2_with fail
    go_at_call 74
    refine (insert_c V W1 bo v xs i x hil (by omega) HB1.out.2.2.1 HB1.out.2.1 HB1.out.1 HV.out.2).mono ?_
    rintro e W2 ⟨v', rfl, hs2, hk2, hb2, hm2, hn2⟩
    obtain ⟨sa, sc, hv'⟩ := hs2.form
    subst hv'
    clear c0 hz
    have hz := hk2.lt
    have c0 : W2.cell? ⟨bo, 0, none⟩ = some v := by rw [hk2.cell]; rfl
    have f0 : W2.frozen? ⟨bo, 0, none⟩ = false := hk2.free 0
    have HE : Hid (PutPost V W bo v (insF x xs) (W2.setCell ⟨bo, 0, none⟩ (.slice sa (xs.take i ++ x :: xs.drop i).length sc))) := by
      show PutPost _ _ _ _ _ _
      rw [HI.out]
      refine ⟨hb2.setCell (p := ⟨bo, 0, none⟩) HV.out.2 _, ?_, _, hk2.set 0 _, hs2.other, fun k hk => ?_⟩
      · exact (((Mod.ofBelow HB1.out.2.2.2 (bo :: SB v)).trans (hm2.mono fun k hk _ => List.mem_cons_of_mem _ hk))).setCell (p := ⟨bo, 0, none⟩) (.inl (by simp)) _
      · rcases hn2 k hk with h | h
        · exact .inl h
        · exact .inr (Nat.le_trans HB1.out.2.2.2.size h)
    obtain ⟨N, hN⟩ : ∃ N, N = (xs.take i ++ x :: xs.drop i).length := ⟨_, rfl⟩
    rw [← hN] at HE ⊢
    clear hs2 hk2 hb2 hm2 hn2 hN
    go_wp2_with fail
    go_end0
    exact ⟨rfl, HE.out⟩
  · have HI : Hid (insF x xs = xs) := by show _ = _; unfold insF; rw [hc]; rfl
    clear hc
    go_wp2_with fail
    go_end0
    exact ⟨rfl, by rw [HI.out]; exact ⟨HB1.out.2.2.1, Mod.ofBelow HB1.out.2.2.2 _, v, HB1.out.1, HB1.out.2.1, fun k hk => .inl hk⟩⟩
/-- An ordered list as a piece of memory. -/
def olP (w0 : World) (bo : Nat) (xs : List Int) : Piece where
  lies w S := ∃ v, S = bo :: SB v ∧ Bk w bo #[v] 83 ∧ SL w0 w bo v xs
  lt := by
    rintro w S ⟨v, rfl, h1, h2⟩ k hk
    rcases List.mem_cons.1 hk with rfl | hk
    · exact h1.lt
    · rcases h2 with ⟨rfl, -⟩ | ⟨g, c, cur, rfl, -, -, h3, -⟩
      · simp [SB] at hk
      · simp [SB] at hk; subst hk; exact h3.lt
  keep := by
    rintro w w' S T ⟨v, rfl, h1, h2⟩ hm hd
    refine ⟨v, rfl, hm.heap h1 (hd bo (by simp)), ?_⟩
    rcases h2 with h2 | ⟨g, c, cur, rfl, k1, k2, k3, k4⟩
    · exact .inl h2
    · exact .inr ⟨g, c, cur, rfl, k1, k2, hm.heap k3 (hd g (by simp [SB])), k4⟩
theorem put_o {w0 W : World} {bo : Nat} {xs : List Int} {ps : List Piece} (x : Int) (h : Owns w0 W (olP w0 bo xs :: ps)) (hs : xs.Pairwise (· < ·)) (hlen : xs.length ≤ 999999) :
    Calls Tryz.prog 48 #[.pointer (some ⟨bo, 0, none⟩), .int .i64 x] W fun e w' => e = .returned (.tuple #[]) ∧ Owns w0 w' (olP w0 bo (insF x xs) :: ps) := by
  obtain ⟨S, ⟨v, rfl, h1, h2⟩, h3, h4⟩ := h.open
  refine (put_c w0 W bo v xs x h.base (h3 bo (by simp)) h1 h2 hs hlen).mono ?_
  rintro e w' ⟨rfl, p1, p2, v', p3, p4, p5⟩
  refine ⟨rfl, h4 w' _ (bo :: SB v') ⟨v', rfl, p3, p4⟩ p2 fun k hk => ?_⟩
  rcases List.mem_cons.1 hk with rfl | hk
  · exact .inl (by simp)
  · rcases p5 k hk with h | h
    · exact .inl (List.mem_cons_of_mem _ h)
    · exact .inr h
end Go.Proofs.YtakadfdnhlfijaaGreatDoor
namespace Go.Cz.Wn
open Go.Cz.Ck
/-- The beginnings of days, put into a list. -/
def beginsF (l : List Shift) (ds xs : List Int) : List Int := ds.foldl (fun acc d => if (instF l d 0).2 = 0 then insF (instF l d 0).1 acc else acc) xs
theorem beginsF_snoc (l : List Shift) (ds xs : List Int) (d : Int) : beginsF l (ds ++ [d]) xs = if (instF l d 0).2 = 0 then insF (instF l d 0).1 (beginsF l ds xs) else beginsF l ds xs := by simp [beginsF]
theorem beginsF_sorted (l : List Shift) : ∀ (ds xs : List Int), xs.Pairwise (· < ·) → (beginsF l ds xs).Pairwise (· < ·)
  | [], xs, h => h
  | d :: ds, xs, h => by
    show (beginsF l ds (if (instF l d 0).2 = 0 then insF (instF l d 0).1 xs else xs)).Pairwise (· < ·)
    refine beginsF_sorted l ds _ ?_
    split
    · exact insF_sorted h
    · exact h
theorem beginsF_len (l : List Shift) : ∀ (ds xs : List Int), (beginsF l ds xs).length ≤ xs.length + ds.length
  | [], xs => Nat.le_refl _
  | d :: ds, xs => by
    show (beginsF l ds (if (instF l d 0).2 = 0 then insF (instF l d 0).1 xs else xs)).length ≤ _
    have h := beginsF_len l ds (if (instF l d 0).2 = 0 then insF (instF l d 0).1 xs else xs)
    have h2 : (if (instF l d 0).2 = 0 then insF (instF l d 0).1 xs else xs).length ≤ xs.length + 1 := by
      split
      · exact insF_len _ _
      · omega
    simp only [List.length_cons]
    omega
end Go.Cz.Wn
namespace Go.Proofs.YtakadfdnhlfijaaGreatDoor
open Go.RowKit Go.Cz Go.Cz.Ck Go.Cz.Wn
set_option linter.unusedSimpArgs false
set_option linter.unusedVariables false
attribute [local go_sem] bs_size bs_extract bs_append bs_toList
attribute [local irreducible] cList
set_option maxHeartbeats 2000000 in
theorem begins_c {w0 W : World} {bo : Nat} {xs : List Int} {ps : List Piece} (x : Option Addr) (n c : Nat) (l : List Shift) (dg k kc : Nat) (ds : List Int) (cur : Array Value) (hx : IsShifts w0 x n l) (hk : ds.length = k) (hk3 : k ≤ 3) (hcur : ∀ (j : Nat) (d : Int), ds[j]? = some d → cur[j]? = some (.int .i64 d))
    (hs : xs.Pairwise (· < ·)) (hlen : xs.length ≤ 900000) (h : Owns w0 W (olP w0 bo xs :: blk dg (.cells cur 3 (0, 0)) :: ps)) :
    Calls Tryz.prog 51 #[.agg #[.slice x n c], .func (.func 48) #[.pointer (some ⟨bo, 0, none⟩)] #[], .slice (some ⟨dg, 0, none⟩) k kc] W fun e w' => e = .returned (.tuple #[]) ∧ Owns w0 w' (olP w0 bo (beginsF l ds xs) :: blk dg (.cells cur 3 (0, 0)) :: ps) := by
  obtain ⟨B, hB⟩ : ∃ B, B = W.heap.size := ⟨_, rfl⟩
  have HX := Lib.hid hx
  have HK := Lib.hid (And.intro hk hcur)
  have HS := Lib.hid (And.intro hs hlen)
  have HO : Hid (Owns w0 (W.alloc (.cells #[.slice x n c] 66)) (olP w0 bo xs :: blk B (.cells #[.slice x n c] 66 (0, 0)) :: blk dg (.cells cur 3 (0, 0)) :: ps)) := by
    rw [hB]; exact (h.box _).swap
  clear h hx hk hcur hs hlen
  go_enter Tryz.func51, Tryz.ntmps51
  go_wp2_with fail
  rw [← hB] at *
  clear hB
  go_loopg [12] k (fun gk i wr => ∃ j : Nat, gk = k - j ∧ j ≤ k ∧ i = .int .i64 (j : Int) ∧ Hid (Owns w0 wr (olP w0 bo (beginsF l (ds.take j) xs) :: blk B (.cells #[.slice x n c] 66 (0, 0)) :: blk dg (.cells cur 3 (0, 0)) :: ps)))
  case atStart => exact ⟨0, rfl, Nat.zero_le _, rfl, HO⟩
  case round =>
    rename_i J1 K1 hJ1 hK1
    clear HO
    obtain ⟨j, rfl, hj, rfl, hw⟩ := hrel
    by_cases hlt : j < k
    · obtain ⟨bz, -⟩ := hw.out.swap.blk
      obtain ⟨bd, -⟩ := hw.out.pop.swap.blk
      have z1 := lt_of_block bz
      have z2 := lt_of_block bd
      have cz : wr.cell? ⟨B, 0, none⟩ = some (.slice x n c) := by rw [cell_of_heap bz]; rfl
      obtain ⟨d, hd⟩ : ∃ d, ds[j]? = some d := ⟨_, List.getElem?_eq_getElem (by have := HK.out.1; omega)⟩
      have cd : wr.cell? ⟨dg, j, none⟩ = some (.int .i64 d) := by rw [cell_of_heap bd]; exact HK.out.2 j d hd
      have HD := Lib.hid hd
      rcases hI : instF l d 0 with ⟨t, e1⟩
      have HI := Lib.hid hI
      have HN : Hid (beginsF l (ds.take (j + 1)) xs = if e1 = 0 then insF t (beginsF l (ds.take j) xs) else beginsF l (ds.take j) xs) := by
        obtain ⟨q1, q2⟩ := List.getElem?_eq_some_iff.1 hd
        show _ = _
        rw [List.take_succ_eq_append_getElem q1, q2, beginsF_snoc, hI]
      have Hso := Lib.hid (beginsF_sorted l (ds.take j) xs HS.out.1)
      have Hle : Hid ((beginsF l (ds.take j) xs).length ≤ 999999) := by
        have h1 := beginsF_len l (ds.take j) xs
        have h2 := HS.out.2
        have h3 : (ds.take j).length ≤ j := List.length_take_le _ _
        show _ ≤ _
        omega
      clear bz bd hd hI
      go_wp2_with fail
      go_at_call 57
      refine (Begin_c x n c l d wr (HX.out.below hw.out.base)).mono ?_
      rintro e W4 ⟨rfl, hb⟩
      rw [HI.out]
      have HO := Lib.hid (hw.out.below hb)
      clear hb hw cz cd z1 z2
      by_cases h0 : e1 = 0
      · have h0b : (e1 == 0) = true := by simp [h0]
        have HN2 := HN.out
        rw [if_pos h0] at HN2
        have HN3 := Lib.hid HN2
        clear h0 HN HN2
        go_wp2_with fail
        go_at_call 48
        refine (put_o t HO.out Hso.out Hle.out).mono ?_
        rintro e W5 ⟨rfl, ho⟩
        have HO2 : Hid (Owns w0 W5 (olP w0 bo (beginsF l (ds.take (j + 1)) xs) :: blk B (.cells #[.slice x n c] 66 (0, 0)) :: blk dg (.cells cur 3 (0, 0)) :: ps)) := by
          show Owns _ _ _
          rw [HN3.out]
          exact ho
        clear ho HO
        go_wp2_with fail
        go_roundg (k - (j + 1))
        case measure => omega
        case rel => exact ⟨j + 1, rfl, by omega, by go_num, HO2⟩
      · have h0b : (e1 == 0) = false := by simp [h0]
        have HO2 : Hid (Owns w0 W4 (olP w0 bo (beginsF l (ds.take (j + 1)) xs) :: blk B (.cells #[.slice x n c] 66 (0, 0)) :: blk dg (.cells cur 3 (0, 0)) :: ps)) := by
          show Owns _ _ _
          rw [HN.out, if_neg h0]
          exact HO.out
        clear h0 HN HO
        go_wp2_with fail
        go_roundg (k - (j + 1))
        case measure => omega
        case rel => exact ⟨j + 1, rfl, by omega, by go_num, HO2⟩
    · obtain rfl : j = k := by omega
      have HO2 : Hid (Owns w0 wr (olP w0 bo (beginsF l ds xs) :: blk dg (.cells cur 3 (0, 0)) :: ps)) := by
        have h1 := hw.out
        rw [List.take_of_length_le (by rw [HK.out.1]; exact Nat.le_refl _)] at h1
        exact h1.swap.pop
      clear hJ1 hK1 hw
      go_wp2_with fail
      go_end0
      exact ⟨rfl, HO2.out⟩
end Go.Proofs.YtakadfdnhlfijaaGreatDoor
namespace Go.Proofs.YtakadfdnhlfijaaGreatDoor
open Go.RowKit Go.Cz Go.Cz.Lx
set_option linter.unusedSimpArgs false
set_option linter.unusedVariables false
attribute [local go_sem] bs_size bs_extract bs_append bs_toList
attribute [local irreducible] cList
set_option maxHeartbeats 2000000 in
theorem identifier_c (l : List UInt8) (HI : 34 ∈ l → IdxAny) (w : World) (hl : l.length ≤ 140737488355328) : Calls Tryz.prog 47 #[.string (bs l)] w fun e w' => e = .returned (.bool (identB l)) ∧ Below w.heap.size w w' := by
  have HL := Lib.hid (Lex_c l HI w hl)
  clear HI hl
  rcases hx : lexAll l with ⟨ts, e1, o1⟩
  have Hx := Lib.hid hx
  clear hx
  go_enter Tryz.func47, Tryz.ntmps47
  go_wp2_with fail
  go_at_call 72
  refine HL.out.mono ?_
  rintro e W2 ⟨v, rfl, ht, hb⟩
  rw [Hx.out] at ht ⊢
  have HB := Lib.hid hb
  dsimp only at ht ⊢
  clear hb HL
  by_cases h0 : e1 = 0
  · subst h0
    rcases ts with _ | ⟨t, _ | ⟨t2, r⟩⟩
    · have He : Hid (identB l = false) := by show _ = _; unfold identB; rw [Hx.out]; rfl
      obtain ⟨a, c, rfl⟩ : ∃ a c, v = .slice a 0 c := by
        rcases ht with ⟨-, rfl⟩ | ⟨g, c, rfl, -⟩
        · exact ⟨none, 0, rfl⟩
        · exact ⟨_, c, rfl⟩
      clear ht
      go_wp2_with fail
      go_ret
      exact ⟨by rw [He.out]; rfl, HB.out⟩
    · rcases ht with ⟨h, -⟩ | ⟨g, c, rfl, -, hz, hc⟩
      · cases h
      obtain ⟨c0, -, -, c3⟩ := hc 0 t rfl
      simp only [Nat.zero_mul, Nat.zero_add, List.length_cons, List.length_nil] at c0 c3 ⊢
      clear hc
      by_cases hk : t.kind = 1
      · have hk1 : ((t.kind : Int) == 1) = true := by simp; omega
        obtain ⟨q, hq⟩ : ∃ q, q = (t.text == l) := ⟨_, rfl⟩
        have He : Hid (identB l = q) := by show _ = _; unfold identB; rw [Hx.out, hq]; simp [hk]
        have Hq := Lib.hid hq
        clear hq hk
        cases q
        · have hq2 : (t.text == l) = false := Hq.out.symm
          go_wp2_with fail
          go_ret
          exact ⟨by rw [He.out]; rfl, HB.out⟩
        · have hq2 : t.text = l := by simpa using Hq.out.symm
          rw [hq2] at c3
          clear hq2
          go_wp2_with fail
          go_ret
          exact ⟨by rw [He.out]; rfl, HB.out⟩
      · have hk1 : ((t.kind : Int) == 1) = false := by simp; omega
        have He : Hid (identB l = false) := by show _ = _; unfold identB; rw [Hx.out]; simp [hk]
        clear hk
        go_wp2_with fail
        go_ret
        exact ⟨by rw [He.out]; rfl, HB.out⟩
    · have He : Hid (identB l = false) := by show _ = _; unfold identB; rw [Hx.out]; rfl
      rcases ht with ⟨h, -⟩ | ⟨g, c, rfl, -⟩
      · cases h
      obtain ⟨N, hN⟩ : ∃ N, N = (t :: t2 :: r).length := ⟨_, rfl⟩
      have hN2 : ((N : Int) == 1) = false := by simp; simp at hN; omega
      rw [← hN]
      clear hN
      go_wp2_with fail
      go_ret
      exact ⟨by rw [He.out]; rfl, HB.out⟩
  · have h0b : ((e1 : Int) == 0) = false := by simp; omega
    have He : Hid (identB l = false) := by show _ = _; unfold identB; rw [Hx.out]; simp [h0]
    clear h0 ht
    go_wp2_with fail
    go_ret
    exact ⟨by rw [He.out]; rfl, HB.out⟩
end Go.Proofs.YtakadfdnhlfijaaGreatDoor
namespace Go.Cz.Wn
open Go.Cz.Ck Go.Cz.Lx
/-- The days of a measure. -/
def daysF (m : Ms) : List Int := [m.fr, m.fr + m.wi] ++ if 0 ≤ m.un then [m.un] else []
def authsOk (au : List ByteArray) (zs : List (List Shift)) (i : Nat) : Bool :=
  identB (au.getD i ByteArray.empty).data.toList && (validB (zs.getD i []) && !Lib.containsS (au.take i) (au.getD i ByteArray.empty))
def chg (au : List ByteArray) (zs : List (List Shift)) : List Ms → List Int → List Int × Int
  | [], xs => (xs, 0)
  | m :: r, xs => if Lib.idxOfS au m.auth < 0 then chg au zs r xs else
    if datedB m.kind m.fr m.un m.wi then chg au zs r (beginsF (zs.getD (Lib.idxOfS au m.auth).toNat []) (daysF m) xs) else ([], 1)
def changesF (ms : List Ms) (au : List ByteArray) (zs : List (List Shift)) : List Int × Int :=
  if 200 < ms.length ∨ 6 < au.length then ([], 2)
  else if au.length ≠ zs.length then ([], 1)
  else if (List.range au.length).all (authsOk au zs) then chg au zs ms [0] else ([], 1)
theorem changes_bad {ms : List Ms} {au : List ByteArray} {zs : List (List Shift)} {i : Nat} (h1 : ms.length ≤ 200) (h2 : au.length ≤ 6) (h3 : au.length = zs.length) (hi : i < au.length) (hb : authsOk au zs i = false) : changesF ms au zs = ([], 1) := by
  unfold changesF
  rw [if_neg (by omega), if_neg (by omega), if_neg]
  simp only [List.all_eq_true, List.mem_range]
  intro h
  rw [h i hi] at hb
  cases hb
theorem changes_good {ms : List Ms} {au : List ByteArray} {zs : List (List Shift)} (h1 : ms.length ≤ 200) (h2 : au.length ≤ 6) (h3 : au.length = zs.length) (hg : ∀ i < au.length, authsOk au zs i = true) : changesF ms au zs = chg au zs ms [0] := by
  unfold changesF
  rw [if_neg (by omega), if_neg (by omega), if_pos]
  simp only [List.all_eq_true, List.mem_range]
  exact hg
theorem idxFromS_lt (x : ByteArray) : ∀ (au : List ByteArray) (i : Nat), Lib.idxFromS au x i = -1 ∨ ((i : Int) ≤ Lib.idxFromS au x i ∧ Lib.idxFromS au x i < ((i + au.length : Nat) : Int))
  | [], i => .inl rfl
  | a :: r, i => by
    unfold Lib.idxFromS
    split
    · right
      simp only [List.length_cons]
      omega
    · rcases idxFromS_lt x r (i + 1) with h | ⟨h1, h2⟩
      · exact .inl h
      · right
        simp only [List.length_cons]
        omega
theorem idxOfS_lt (au : List ByteArray) (x : ByteArray) : -1 ≤ Lib.idxOfS au x ∧ Lib.idxOfS au x < au.length := by
  have := idxFromS_lt x au 0
  unfold Lib.idxOfS
  omega
end Go.Cz.Wn
namespace Go.Proofs.YtakadfdnhlfijaaGreatDoor
open Go.RowKit Go.Cz Go.Cz.Ck Go.Cz.Wn
set_option linter.unusedSimpArgs false
set_option linter.unusedVariables false
/-- Texts in a row. -/
def IsStrs (w : World) (x : Option Addr) (n : Nat) (au : List ByteArray) : Prop := au.length = n ∧ (n = 0 ∨ ∃ g off, x = some ⟨g, off, none⟩ ∧ g < w.heap.size ∧ ∀ j, j < au.length → w.cell? ⟨g, off + j, none⟩ = some (.string (au.getD j ByteArray.empty)))
theorem IsStrs.below {w w' : World} {x : Option Addr} {n : Nat} {au : List ByteArray} (h : IsStrs w x n au) (hb : Below w.heap.size w w') : IsStrs w' x n au := by
  obtain ⟨h1, h2⟩ := h
  refine ⟨h1, ?_⟩
  rcases h2 with h2 | ⟨g, off, h3, h4, h5⟩
  · exact .inl h2
  · exact .inr ⟨g, off, h3, Nat.lt_of_lt_of_le h4 hb.size, fun j hj => (hb.cell (p := ⟨g, off + j, none⟩) h4).trans (h5 j hj)⟩
/-- A zone in a row: its slice, its shifts. -/
structure Zn where
  x : Option Addr
  n : Nat
  c : Nat
  l : List Shift
def IsZones (w : World) (x : Option Addr) (n : Nat) (zs : List Zn) : Prop := zs.length = n ∧ (n = 0 ∨ ∃ g off, x = some ⟨g, off, none⟩ ∧ g < w.heap.size ∧ ∀ (j : Nat) (z : Zn), zs[j]? = some z → w.cell? ⟨g, off + j, none⟩ = some (.slice z.x z.n z.c) ∧ IsShifts w z.x z.n z.l)
theorem IsZones.below {w w' : World} {x : Option Addr} {n : Nat} {zs : List Zn} (h : IsZones w x n zs) (hb : Below w.heap.size w w') : IsZones w' x n zs := by
  obtain ⟨h1, h2⟩ := h
  refine ⟨h1, ?_⟩
  rcases h2 with h2 | ⟨g, off, h3, h4, h5⟩
  · exact .inl h2
  · exact .inr ⟨g, off, h3, Nat.lt_of_lt_of_le h4 hb.size, fun j z hz => ⟨(hb.cell (p := ⟨g, off + j, none⟩) h4).trans (h5 j z hz).1, (h5 j z hz).2.below hb⟩⟩
/-- Measures in a row. -/
def IsMs (w : World) (x : Option Addr) (n : Nat) (ms : List Ms) : Prop := ms.length = n ∧ (n = 0 ∨ ∃ g off, x = some ⟨g, off, none⟩ ∧ g < w.heap.size ∧ ∀ (j : Nat) (m : Ms), ms[j]? = some m → ∀ (k : Nat) (u : Value), m.v[k]? = some u → w.cell? ⟨g, off + j * 12 + k, none⟩ = some u)
theorem IsMs.below {w w' : World} {x : Option Addr} {n : Nat} {ms : List Ms} (h : IsMs w x n ms) (hb : Below w.heap.size w w') : IsMs w' x n ms := by
  obtain ⟨h1, h2⟩ := h
  refine ⟨h1, ?_⟩
  rcases h2 with h2 | ⟨g, off, h3, h4, h5⟩
  · exact .inl h2
  · exact .inr ⟨g, off, h3, Nat.lt_of_lt_of_le h4 hb.size, fun j m hm k u hu => (hb.cell (p := ⟨g, off + j * 12 + k, none⟩) h4).trans (h5 j m hm k u hu)⟩
/-- Integers in a row. -/
def IsInts (W : World) (v : Value) (xs : List Int) : Prop := (v = .slice none 0 0 ∧ xs = []) ∨ ∃ g c, v = .slice (some ⟨g, 0, none⟩) xs.length c ∧ g < W.heap.size ∧ ∀ (j : Nat) (x : Int), xs[j]? = some x → W.cell? ⟨g, j, none⟩ = some (.int .i64 x)
theorem ints_of_SL {V W : World} {bo : Nat} {v : Value} {xs : List Int} (h : SL V W bo v xs) : IsInts W v xs := by
  rcases h with h | ⟨g, c, cur, h1, h2, h3, h4, h5, h6, h7, h8, h9⟩
  · exact .inl h
  · exact .inr ⟨g, c, h1, h4.lt, fun j x hx => by rw [h4.cell]; exact h9 j x hx⟩
def ChPost (w : World) (r : List Int × Int) (e : Ending) (w' : World) : Prop := ∃ v, e = .returned (.tuple #[v, .int .i64 r.2]) ∧ IsInts w' v r.1 ∧ Below w.heap.size w w'
end Go.Proofs.YtakadfdnhlfijaaGreatDoor
namespace Go.Cz.Wn
open Go.Cz.Ck Go.Cz.Lx
theorem sorted_ext : ∀ {a b : List Int}, a.Pairwise (· < ·) → b.Pairwise (· < ·) → (∀ x, x ∈ a ↔ x ∈ b) → a = b
  | [], [], _, _, _ => rfl
  | [], b :: r, _, _, h => by have := (h b).2 (by simp); simp at this
  | a :: r, [], _, _, h => by have := (h a).1 (by simp); simp at this
  | a :: r, b :: s, ha, hb, h => by
    obtain ⟨ha1, ha2⟩ := List.pairwise_cons.1 ha
    obtain ⟨hb1, hb2⟩ := List.pairwise_cons.1 hb
    have e : a = b := by
      rcases List.mem_cons.1 ((h a).1 (by simp)) with e | h1
      · exact e
      · rcases List.mem_cons.1 ((h b).2 (by simp)) with e | h2
        · exact e.symm
        · have := ha1 b h2; have := hb1 a h1; omega
    subst e
    rw [sorted_ext ha2 hb2 fun x => ⟨fun hx => ?_, fun hx => ?_⟩]
    · rcases List.mem_cons.1 ((h x).1 (by simp [hx])) with e | h1
      · have := ha1 x hx; omega
      · exact h1
    · rcases List.mem_cons.1 ((h x).2 (by simp [hx])) with e | h1
      · have := hb1 x hx; omega
      · exact h1
/-- The reference's 'put'. -/
def rputF (t : Int) (xs : List Int) : List Int := if t < 0 then xs else insF t xs
theorem rputF_mem {t y : Int} {xs : List Int} : y ∈ rputF t xs ↔ y ∈ xs ∨ (0 ≤ t ∧ y = t) := by
  unfold rputF
  split
  · constructor
    · exact .inl
    · rintro (h | ⟨h, -⟩)
      · exact h
      · omega
  · rw [insF_mem]
    constructor
    · rintro (h | h)
      · exact .inr ⟨by omega, h⟩
      · exact .inl h
    · rintro (h | ⟨-, h⟩)
      · exact .inr h
      · exact .inl h
theorem rputF_sorted {t : Int} {xs : List Int} (h : xs.Pairwise (· < ·)) : (rputF t xs).Pairwise (· < ·) := by
  unfold rputF
  split
  · exact h
  · exact insF_sorted h
theorem rputF_len (t : Int) (xs : List Int) : (rputF t xs).length ≤ xs.length + 1 := by
  unfold rputF
  split
  · omega
  · exact insF_len _ _
theorem beginsF_mem {l : List Shift} (hv : validB l = true) {y : Int} : ∀ {ds xs : List Int}, y ∈ beginsF l ds xs ↔ y ∈ xs ∨ ∃ d ∈ ds, 0 ≤ beginF l d ∧ y = beginF l d
  | [], xs => by simp [beginsF]
  | d :: ds, xs => by
    show y ∈ beginsF l ds (if (instF l d 0).2 = 0 then insF (instF l d 0).1 xs else xs) ↔ _
    rw [beginsF_mem hv (ds := ds)]
    have hb : (y ∈ if (instF l d 0).2 = 0 then insF (instF l d 0).1 xs else xs) ↔ y ∈ xs ∨ (0 ≤ beginF l d ∧ y = beginF l d) := by
      unfold beginF
      rcases inst_ok hv d with ⟨h1, h2, h3⟩ | ⟨h1, h2⟩
      · rw [if_pos h1, if_pos h1, insF_mem]
        constructor
        · rintro (h | h)
          · exact .inr ⟨h2, h⟩
          · exact .inl h
        · rintro (h | ⟨-, h⟩)
          · exact .inr h
          · exact .inl h
      · rw [if_neg (by omega), if_neg (by omega)]
        constructor
        · exact .inl
        · rintro (h | ⟨h, -⟩)
          · exact h
          · omega
    rw [hb]
    simp only [List.mem_cons, exists_eq_or_imp]
    constructor
    · rintro ((h | h) | h)
      · exact .inl h
      · exact .inr (.inl h)
      · exact .inr (.inr h)
    · rintro (h | h | h)
      · exact .inl (.inl h)
      · exact .inl (.inr h)
      · exact .inr h
/-- What the reference does for a measure. -/
def rstep1 (l : List Shift) (fr : Int) (xs : List Int) : List Int := rputF (beginF l fr) xs
def rstep2 (l : List Shift) (fr un : Int) (xs : List Int) : List Int := if 0 ≤ un then rputF (beginF l un) (rstep1 l fr xs) else rstep1 l fr xs
def rstep (l : List Shift) (m : Ms) (xs : List Int) : List Int := if 0 < m.wi then rputF (beginF l (m.fr + m.wi)) (rstep2 l m.fr m.un xs) else rstep2 l m.fr m.un xs
theorem rstep_eq {l : List Shift} {m : Ms} {xs : List Int} (hv : validB l = true) (hd : datedB m.kind m.fr m.un m.wi = true) (hs : xs.Pairwise (· < ·)) : rstep l m xs = beginsF l (daysF m) xs := by
  obtain ⟨-, -, hw, -⟩ := dated_in hd
  have s1 : (rstep1 l m.fr xs).Pairwise (· < ·) := rputF_sorted hs
  have s2 : (rstep2 l m.fr m.un xs).Pairwise (· < ·) := by
    unfold rstep2
    split
    · exact rputF_sorted s1
    · exact s1
  have s3 : (rstep l m xs).Pairwise (· < ·) := by
    unfold rstep
    split
    · exact rputF_sorted s2
    · exact s2
  refine sorted_ext s3 (beginsF_sorted l _ _ hs) fun y => ?_
  rw [beginsF_mem hv]
  have h2 : y ∈ rstep2 l m.fr m.un xs ↔ y ∈ xs ∨ (0 ≤ beginF l m.fr ∧ y = beginF l m.fr) ∨ (0 ≤ m.un ∧ 0 ≤ beginF l m.un ∧ y = beginF l m.un) := by
    unfold rstep2 rstep1
    by_cases hu : 0 ≤ m.un
    · rw [if_pos hu, rputF_mem, rputF_mem, or_assoc]; simp [hu]
    · rw [if_neg hu, rputF_mem]; simp [hu]
  have h3 : y ∈ rstep l m xs ↔ y ∈ xs ∨ (0 ≤ beginF l m.fr ∧ y = beginF l m.fr) ∨ (0 ≤ m.un ∧ 0 ≤ beginF l m.un ∧ y = beginF l m.un) ∨ (0 ≤ beginF l (m.fr + m.wi) ∧ y = beginF l (m.fr + m.wi)) := by
    unfold rstep
    by_cases hu : 0 < m.wi
    · rw [if_pos hu, rputF_mem, h2, or_assoc, or_assoc]
    · have h0 : m.fr + m.wi = m.fr := by omega
      rw [if_neg hu, h2, h0]
      constructor
      · rintro (h | h | h)
        · exact .inl h
        · exact .inr (.inl h)
        · exact .inr (.inr (.inl h))
      · rintro (h | h | h | h)
        · exact .inl h
        · exact .inr (.inl h)
        · exact .inr (.inr h)
        · exact .inr (.inl h)
  rw [h3]
  have h4 : ∀ p : Int → Prop, (∃ d ∈ daysF m, p d) ↔ p m.fr ∨ p (m.fr + m.wi) ∨ (0 ≤ m.un ∧ p m.un) := by
    intro p
    unfold daysF
    by_cases hu : 0 ≤ m.un
    · rw [if_pos hu]; simp [hu]
    · rw [if_neg hu]; simp [hu]
  rw [h4 fun d => 0 ≤ beginF l d ∧ y = beginF l d]
  constructor
  · rintro (h | h | h | h)
    · exact .inl h
    · exact .inr (.inl h)
    · exact .inr (.inr (.inr h))
    · exact .inr (.inr (.inl h))
  · rintro (h | h | h | h)
    · exact .inl h
    · exact .inr (.inl h)
    · exact .inr (.inr (.inr h))
    · exact .inr (.inr (.inl h))
/-- Where the reference's 'put' stops. -/
theorem put_stop {xs : List Int} {t : Int} {i : Nat} (hs : xs.Pairwise (· < ·)) (h1 : ∀ j, j < i → ∀ y, xs[j]? = some y → y < t) (h2 : ∀ y, xs[i]? = some y → t < y) (hi : i ≤ xs.length) : insF t xs = xs.take i ++ t :: xs.drop i := by
  have a1 : ∀ y ∈ xs.take i, y < t := fun y hy => by
    obtain ⟨j, hj, rfl⟩ := List.mem_iff_getElem.1 hy
    have hj2 : j < i := by rw [List.length_take] at hj; omega
    refine h1 j hj2 _ ?_
    rw [List.getElem_take]
    exact List.getElem?_eq_getElem _
  have a2 : ∀ y ∈ xs.drop i, t < y := fun y hy => by
    have hp : (xs.drop i).Pairwise (· < ·) := hs.drop
    rcases hd : xs.drop i with _ | ⟨z, r⟩
    · rw [hd] at hy; simp at hy
    · have hz : xs[i]? = some z := by
        have := congrArg (·[0]?) hd
        simpa using this
      have := h2 z hz
      rw [hd] at hy hp
      rcases List.mem_cons.1 hy with rfl | hy
      · exact this
      · have := (List.pairwise_cons.1 hp).1 y hy; omega
  have e : xs.take i ++ xs.drop i = xs := List.take_append_drop _ _
  have hn : t ∉ xs := by
    rw [← e, List.mem_append]
    rintro (h | h)
    · have := a1 t h; omega
    · have := a2 t h; omega
  have hc : xs.countP (· < t) = i := by
    conv => lhs; rw [← e]
    rw [List.countP_append, List.countP_eq_length.2 (fun y hy => by simpa using a1 y hy), List.countP_eq_zero.2 (fun y hy => by have := a2 y hy; simp; omega), List.length_take]
    omega
  unfold insF
  rw [if_neg (by simpa using hn), hc]
theorem idxFromS_get (x : ByteArray) : ∀ (zs : List ByteArray) (i k : Nat), Lib.idxFromS zs x i = ((i + k : Nat) : Int) → zs.getD k ByteArray.empty = x
  | [], i, k, h => by simp [Lib.idxFromS] at h; omega
  | z :: zs, i, k, h => by
    unfold Lib.idxFromS at h
    by_cases hz : z = x
    · rw [if_pos hz] at h
      have : k = 0 := by omega
      subst this
      simpa using hz
    · rw [if_neg hz] at h
      rcases k with _ | k
      · exfalso
        rcases idxFromS_lt x zs (i + 1) with h1 | ⟨h1, -⟩
        · omega
        · omega
      · have := idxFromS_get x zs (i + 1) k (by rw [h]; congr 1; omega)
        simpa using this
/-- Authorities that are told apart. -/
theorem idx_is {au : List ByteArray} {x : ByteArray} {k : Nat} (hk : k < au.length) (hd : ∀ i, i < au.length → Lib.containsS (au.take i) (au.getD i ByteArray.empty) = false) : (au.getD k ByteArray.empty = x) ↔ Lib.idxOfS au x = k := by
  constructor
  · intro h
    have hn : ∀ j, j < k → au.getD j ByteArray.empty ≠ x := fun j hj he => by
      have h1 := hd k hk
      have h2 : Lib.containsS (au.take k) (au.getD k ByteArray.empty) = true := by
        rw [Lib.containsS_iff, h, ← he, ← Lib.getD_takeS au k j hj, List.getD_eq_getElem?_getD, List.getElem?_eq_getElem (by rw [List.length_take]; omega)]
        exact List.getElem_mem _
      rw [h1] at h2
      cases h2
    have := Lib.idxOfS_hit au au.length k x hk (Nat.le_refl _) h hn
    rwa [List.take_length] at this
  · intro h
    have := idxFromS_get x au 0 k (by unfold Lib.idxOfS at h; rw [h]; simp)
    exact this
end Go.Cz.Wn
namespace Go.Proofs.YtakadfdnhlfijaaGreatDoor
open Go.RowKit Go.Cz Go.Cz.Ck Go.Cz.Wn Go.Cz.Lx
set_option linter.unusedSimpArgs false
set_option linter.unusedVariables false
attribute [local go_sem] bs_size bs_extract bs_append bs_toList
attribute [local irreducible] cList
/-- What the walk of 'Changes' knows of its arguments. -/
structure ChEnv (w : World) (ma : Option Addr) (mn : Nat) (aa : Option Addr) (an ac : Nat) (za : Option Addr) (zn : Nat) (ms : List Ms) (au : List ByteArray) (zs : List Zn) : Prop where
  hm : IsMs w ma mn ms
  ha : IsStrs w aa an au
  hz : IsZones w za zn zs
  hac : an ≤ ac
  hi : ∀ a ∈ au, 34 ∈ a.data.toList → IdxAny
  hl : ∀ a ∈ au, a.data.toList.length ≤ 140737488355328
theorem idx_c (W : World) (aa : Option Addr) (an ac : Nat) (au : List ByteArray) (x : ByteArray) (ha : IsStrs W aa an au) (hn : an ≤ 1000) : Calls Tryz.prog 49 #[.slice aa an ac, .string x] W fun e w' => e = .returned (.int .i64 (Lib.idxOfS au x)) ∧ w' = W := by
  obtain ⟨h1, h2⟩ := ha
  rcases h2 with h2 | ⟨g, off, rfl, h3, h4⟩
  · subst h2
    obtain rfl := List.length_eq_zero_iff.1 h1
    exact Tryz.slices_Index_string_empty aa ac x W
  · refine (Tryz.slices_Index_string g off an ac au x W (by omega) (by omega) h4).mono ?_
    rintro e w' ⟨rfl, hw⟩
    rw [← h1, List.take_length]
    exact ⟨rfl, hw⟩
theorem info_int' : (Tryz.prog.info? 3).map (fun i => (i.zero, i.size, i.bytes)) = some (some (.int .i64 0), 1, 8) := by kernel_rfl
theorem days_start (V : World) (a b : Int) : ORow 3 1 V (V.alloc (.cells #[.int .i64 a, .int .i64 b] 3)) (.slice (some ⟨V.heap.size, 0, none⟩) 2 2) 2 [.int .i64 a, .int .i64 b] := by
  have h : (V.alloc (.cells #[.int .i64 a, .int .i64 b] 3)).heap[V.heap.size]? = some (.cells #[.int .i64 a, .int .i64 b] 3 (0, 0)) := new_heap V _ _ rfl
  refine ⟨⟨?_, .inr ⟨V.heap.size, 2, #[.int .i64 a, .int .i64 b], rfl, ?_, ?_, ?_, ?_, ?_, ?_⟩⟩, fun k hk => (by cases hk; exact Nat.le_refl _), (Below.refl _ _).alloc (Nat.le_refl _) _⟩
  all_goals first | exact h | (simp; done) | omega | rfl | (unfold maxLen; simp)
/-- A row of integers becomes a piece. -/
theorem row_piece {w0 V W : World} {v : Value} {n : Nat} {ds : List Int} {ps : List Piece} (h : ORow 3 1 V W v n (ds.map (Value.int .i64 ·))) (hn : 0 < n) (ho : Owns w0 V ps) : ∃ g c cur, v = .slice (some ⟨g, 0, none⟩) n c ∧ Owns w0 W (blk g (.cells cur 3 (0, 0)) :: ps) ∧ ∀ (j : Nat) (d : Int), ds[j]? = some d → cur[j]? = some (.int .i64 d) := by
  rcases h.row.2 with ⟨-, h2⟩ | ⟨g, c, cur, rfl, h2, h3, h4, h5, h6, h7⟩
  · omega
  · refine ⟨g, c, cur, rfl, ho.push (S := [g]) ⟨rfl, h3⟩ h.below (fun k hk => by simp at hk; subst hk; exact h.new k rfl), fun j d hd => ?_⟩
    have h8 : (ds.map (Value.int .i64 ·))[j]? = some (.int .i64 d) := by rw [List.getElem?_map, hd]; rfl
    rw [← h7, List.getElem?_take] at h8
    split at h8
    · simpa using h8
    · cases h8
theorem ol_new {w W : World} (hb : Below w.heap.size w W) : Owns w (W.alloc (.cells #[.slice none 0 0] 83)) [olP w W.heap.size []] :=
  Owns.push (S := [W.heap.size]) (⟨hb, trivial⟩ : Owns w W []) ⟨.slice none 0 0, rfl, Bk.new _ _ _, .inl ⟨rfl, rfl⟩⟩ ((Below.refl _ _).alloc (Nat.le_refl _) _) (by simp)
set_option maxRecDepth 100000 in
set_option maxHeartbeats 4000000 in
theorem Changes_c (w : World) (ma : Option Addr) (mn mc : Nat) (aa : Option Addr) (an ac : Nat) (za : Option Addr) (zn zc : Nat) (ms : List Ms) (au : List ByteArray) (zs : List Zn) (hE : ChEnv w ma mn aa an ac za zn ms au zs) :
    Calls Tryz.prog 22 #[.slice ma mn mc, .slice aa an ac, .slice za zn zc] w (ChPost w (changesF ms au (zs.map (·.l)))) := by
  have hml := hE.hm.1
  have hal := hE.ha.1
  have hzl := hE.hz.1
  have hac := hE.hac
  have HE := Lib.hid hE
  clear hE
  by_cases h1 : 200 < mn
  · have He : Hid (changesF ms au (zs.map (·.l)) = ([], 2)) := by show _ = _; unfold changesF; rw [if_pos (by omega)]
    clear hml hal hzl
    go_enter Tryz.func22, Tryz.ntmps22
    go_wp2_with fail
    refine bodyPost_ret (results_tmp2 rfl _ _ _) (by rfl) ⟨.slice none 0 0, ?_, ?_, Below.refl _ _⟩
    · rw [He.out]; rfl
    · rw [He.out]; exact .inl ⟨rfl, rfl⟩
  by_cases h2 : 6 < an
  · have He : Hid (changesF ms au (zs.map (·.l)) = ([], 2)) := by show _ = _; unfold changesF; rw [if_pos (by omega)]
    clear hml hal hzl
    go_enter Tryz.func22, Tryz.ntmps22
    go_wp2_with fail
    refine bodyPost_ret (results_tmp2 rfl _ _ _) (by rfl) ⟨.slice none 0 0, ?_, ?_, Below.refl _ _⟩
    · rw [He.out]; rfl
    · rw [He.out]; exact .inl ⟨rfl, rfl⟩
  by_cases h3 : an = zn
  · subst h3
    have hzm : (zs.map (·.l)).length = an := by simpa using hzl
    have HF : Hid (∀ i, i < an → authsOk au (zs.map (·.l)) i = false → changesF ms au (zs.map (·.l)) = ([], 1)) := fun i hi hb => changes_bad (by omega) (by omega) (by omega) (by omega) hb
    have HG : Hid ((∀ i, i < an → authsOk au (zs.map (·.l)) i = true) → changesF ms au (zs.map (·.l)) = chg au (zs.map (·.l)) ms [0]) := fun h => changes_good (by omega) (by omega) (by omega) fun i hi => h i (by omega)
    have HLn := Lib.hid (And.intro hml (And.intro hal (And.intro hzl hzm)))
    clear hml hal hzl hzm
    go_enter Tryz.func22, Tryz.ntmps22
    go_wp2_with fail
    go_loopg [30] an (fun gk i wr => ∃ k : Nat, gk = an - k ∧ k ≤ an ∧ i = .int .i64 (k : Int) ∧ Hid (∀ j, j < k → authsOk au (zs.map (·.l)) j = true) ∧ Hid (Below w.heap.size w wr))
    case atStart => exact ⟨0, rfl, Nat.zero_le _, rfl, Lib.hid (fun j hj => by omega), Below.refl _ _⟩
    case round =>
      rename_i J1 K1 hJ1 hK1
      obtain ⟨k, rfl, hk, rfl, hv, hw⟩ := hrel
      by_cases hlt : k < an
      · have ha := HE.out.ha.below hw.out
        obtain ⟨-, ha⟩ := ha
        rcases ha with ha | ⟨g, off, rfl, hg, ha⟩
        · omega
        obtain ⟨s, hs⟩ : ∃ s, s = au.getD k ByteArray.empty := ⟨_, rfl⟩
        have hsm : s ∈ au := by
          rw [hs, List.getD_eq_getElem?_getD, List.getElem?_eq_getElem (by have := HLn.out.2.1; omega)]
          exact List.getElem_mem _
        have c0 := ha k (by have := HLn.out.2.1; omega)
        rw [← hs, ← bs_of s] at c0
        have HHa := Lib.hid ha
        have Hs := Lib.hid (And.intro hs hsm)
        clear ha hs hsm
        go_wp2_with fail
        go_at_call 47
        refine (identifier_c s.data.toList (HE.out.hi s Hs.out.2) wr (HE.out.hl s Hs.out.2)).mono ?_
        rintro e W2 ⟨rfl, hb⟩
        have HW2 := Lib.hid (hw.out.trans (hb.mono hw.out.size))
        have h2g := hg
        clear hb c0 hg
        cases hi : identB s.data.toList
        · have He : Hid (changesF ms au (zs.map (·.l)) = ([], 1)) := HF.out k hlt (by unfold authsOk; rw [← Hs.out.1, hi]; rfl)
          clear hi
          go_wp2_with fail
          refine bodyPost_ret (results_tmp2 rfl _ _ _) (by rfl) ⟨.slice none 0 0, ?_, ?_, HW2.out⟩
          · rw [He.out]; rfl
          · rw [He.out]; exact .inl ⟨rfl, rfl⟩
        have hz := HE.out.hz.below HW2.out
        obtain ⟨-, hz⟩ := hz
        rcases hz with hz | ⟨gz, oz, rfl, hgz, hz⟩
        · omega
        obtain ⟨z, hzk⟩ : ∃ z, zs[k]? = some z := ⟨_, List.getElem?_eq_getElem (by have := HLn.out.2.2.1; omega)⟩
        obtain ⟨cz, hsh⟩ := hz k z hzk
        have hzl : (zs.map (·.l)).getD k [] = z.l := by rw [List.getD_eq_getElem?_getD, List.getElem?_map, hzk]; rfl
        have Hzl := Lib.hid hzl
        have Hsh := Lib.hid hsh
        obtain ⟨zx, zn', zc', zl⟩ := z
        dsimp only at cz Hzl Hsh
        have Hi := Lib.hid hi
        clear hz hzk hsh hzl hi
        go_wp2_with fail
        go_at_call 40
        refine (Valid_c zx zn' zc' zl W2 Hsh.out).mono ?_
        rintro e W3 ⟨rfl, hb⟩
        have HW3 := Lib.hid (HW2.out.trans (hb.mono HW2.out.size))
        clear hb cz hgz
        cases hv2 : validB zl
        · have He : Hid (changesF ms au (zs.map (·.l)) = ([], 1)) := HF.out k hlt (by unfold authsOk; rw [← Hs.out.1, Hi.out, Hzl.out, hv2]; rfl)
          clear hv2
          go_wp2_with fail
          refine bodyPost_ret (results_tmp2 rfl _ _ _) (by rfl) ⟨.slice none 0 0, ?_, ?_, HW3.out⟩
          · rw [He.out]; rfl
          · rw [He.out]; exact .inl ⟨rfl, rfl⟩
        have Hv2 := Lib.hid hv2
        clear hv2
        have Hsr : Hid (Calls Tryz.prog 32 #[.slice (some ⟨g, off, none⟩) k ac, .string s] W3 fun e w' => e = .returned (.bool (Lib.containsS (au.take k) s)) ∧ w' = W3) :=
          Tryz.slices_Contains_string g off k ac au s W3 (by have := HLn.out.2.1; omega) (by omega) (fun j hj => by
            have hag := HE.out.ha.below HW3.out
            rcases hag.2 with hh | ⟨g', off', he, hg', hh⟩
            · omega
            · simp only [Option.some.injEq, Addr.mk.injEq] at he
              obtain ⟨rfl, rfl, -⟩ := he
              exact hh j hj)
        go_wp2_with fail
        rw [bs_of]
        go_at_call 32
        refine Hsr.out.mono ?_
        rintro e W4 ⟨rfl, hb⟩
        obtain rfl : W4 = W3 := hb
        cases hcs : Lib.containsS (au.take k) s
        · have HN : Hid (∀ j, j < k + 1 → authsOk au (zs.map (·.l)) j = true) := Lib.hid fun j hj => by
            by_cases hjk : j = k
            · subst hjk
              unfold authsOk
              rw [← Hs.out.1, Hi.out, Hzl.out, Hv2.out, hcs]
              rfl
            · exact hv.out j (by omega)
          clear hcs hv Hsr
          go_wp2_with fail
          go_roundg (an - (k + 1))
          case measure => omega
          case rel => exact ⟨k + 1, rfl, by omega, by go_num, HN, HW3⟩
        · have He : Hid (changesF ms au (zs.map (·.l)) = ([], 1)) := HF.out k hlt (by unfold authsOk; rw [← Hs.out.1, Hi.out, Hzl.out, Hv2.out, hcs]; rfl)
          clear hcs Hsr
          go_wp2_with fail
          refine bodyPost_ret (results_tmp2 rfl _ _ _) (by rfl) ⟨.slice none 0 0, ?_, ?_, HW3.out⟩
          · rw [He.out]; rfl
          · rw [He.out]; exact .inl ⟨rfl, rfl⟩
      · obtain rfl : an = k := by omega
        clear hJ1 hK1
        have HC : Hid (changesF ms au (zs.map (·.l)) = chg au (zs.map (·.l)) ms [0]) := HG.out hv.out
        clear HF HG hv
        go_wp2_with fail
        have HO := Lib.hid (ol_new hw.out)
        obtain ⟨bo, hbo⟩ : ∃ bo, bo = wr.heap.size := ⟨_, rfl⟩
        rw [← hbo] at HO ⊢
        clear hbo hw
        go_at_call 48
        refine (put_o 0 HO.out (by simp) (by simp)).mono ?_
        rintro e W2 ⟨rfl, ho⟩
        have HO1 : Hid (Owns w W2 [olP w bo [0]]) := ho
        clear ho HO
        go_wp2_with fail
        go_loopg [57] mn (fun gk i wr => ∃ (j : Nat) (xs : List Int), gk = mn - j ∧ j ≤ mn ∧ i = .int .i64 (j : Int) ∧ Hid (chg au (zs.map (·.l)) ms [0] = chg au (zs.map (·.l)) (ms.drop j) xs) ∧ Hid (xs.Pairwise (· < ·) ∧ xs.length ≤ 3 * j + 1) ∧ Hid (Owns w wr [olP w bo xs]))
        case atStart => exact ⟨0, [0], rfl, Nat.zero_le _, rfl, rfl, Lib.hid ⟨by simp, by simp⟩, HO1⟩
        case round =>
          rename_i J1 K1 hJ1 hK1
          clear HO1
          clear hlt hk
          obtain ⟨k, xs, rfl, hk, rfl, hv, HSo, hw⟩ := hrel
          by_cases hlt : k < mn
          · have hmm := HE.out.hm.below hw.out.base
            obtain ⟨-, hmm⟩ := hmm
            rcases hmm with hmm | ⟨g, off, rfl, hg, hmm⟩
            · omega
            obtain ⟨m, hmk⟩ : ∃ m, ms[k]? = some m := ⟨_, List.getElem?_eq_getElem (by have := HLn.out.1; omega)⟩
            have hc := hmm k m hmk
            have HStep : Hid ((Lib.idxOfS au m.auth < 0 → chg au (zs.map (·.l)) ms [0] = chg au (zs.map (·.l)) (ms.drop (k + 1)) xs) ∧
                (0 ≤ Lib.idxOfS au m.auth ∧ datedB m.kind m.fr m.un m.wi = true → chg au (zs.map (·.l)) ms [0] = chg au (zs.map (·.l)) (ms.drop (k + 1)) (beginsF ((zs.map (·.l)).getD (Lib.idxOfS au m.auth).toNat []) (daysF m) xs)) ∧
                (0 ≤ Lib.idxOfS au m.auth ∧ datedB m.kind m.fr m.un m.wi = false → chg au (zs.map (·.l)) ms [0] = ([], 1))) := by
              obtain ⟨q1, q2⟩ := List.getElem?_eq_some_iff.1 hmk
              have hd : ms.drop k = m :: ms.drop (k + 1) := by rw [List.drop_eq_getElem_cons q1, q2]
              refine ⟨fun h => ?_, fun h => ?_, fun h => ?_⟩
              · rw [hv.out, hd]; simp only [chg]; rw [if_pos h]
              · rw [hv.out, hd]; simp only [chg]; rw [if_neg (by omega), if_pos h.2]
              · rw [hv.out, hd]; simp only [chg]; rw [if_neg (by omega), if_neg (by rw [h.2]; simp)]
            have hidx := idxOfS_lt au m.auth
            have HIx := Lib.hid (fun W hb => idx_c W aa an ac au m.auth (HE.out.ha.below hb) (by omega))
            obtain ⟨id, auth, kind, target, op, name, cmp, num, ka, kn, kc, fr, un, wi⟩ := m
            dsimp only [Ms.v] at hc HStep hidx HIx
            have m0 : wr.cell? ⟨g, off + k * 12, none⟩ = some (.string id) := hc 0 _ rfl
            have m1 : wr.cell? ⟨g, off + k * 12 + 1, none⟩ = some (.string auth) := hc 1 _ rfl
            have m2 : wr.cell? ⟨g, off + k * 12 + 2, none⟩ = some (.int .i64 kind) := hc 2 _ rfl
            have m3 : wr.cell? ⟨g, off + k * 12 + 3, none⟩ = some (.string target) := hc 3 _ rfl
            have m4 : wr.cell? ⟨g, off + k * 12 + 4, none⟩ = some (.int .i64 op) := hc 4 _ rfl
            have m5 : wr.cell? ⟨g, off + k * 12 + 5, none⟩ = some (.string name) := hc 5 _ rfl
            have m6 : wr.cell? ⟨g, off + k * 12 + 6, none⟩ = some (.int .i64 cmp) := hc 6 _ rfl
            have m7 : wr.cell? ⟨g, off + k * 12 + 7, none⟩ = some (.int .i64 num) := hc 7 _ rfl
            have m8 : wr.cell? ⟨g, off + k * 12 + 8, none⟩ = some (.slice ka kn kc) := hc 8 _ rfl
            have m9 : wr.cell? ⟨g, off + k * 12 + 9, none⟩ = some (.int .i64 fr) := hc 9 _ rfl
            have m10 : wr.cell? ⟨g, off + k * 12 + 10, none⟩ = some (.int .i64 un) := hc 10 _ rfl
            have m11 : wr.cell? ⟨g, off + k * 12 + 11, none⟩ = some (.int .i64 wi) := hc 11 _ rfl
            clear hc hmm hmk hv
            have HB1 := Lib.hid (hw.out.box (.cells #[.string id, .string auth, .int .i64 kind, .string target, .int .i64 op, .string name, .int .i64 cmp, .int .i64 num, .slice ka kn kc, .int .i64 fr, .int .i64 un, .int .i64 wi] 46))
            go_wp2_with fail
            obtain ⟨mb, hmb⟩ : ∃ mb, mb = wr.heap.size := ⟨_, rfl⟩
            obtain ⟨W1, hW1⟩ : ∃ W1, W1 = wr.alloc (.cells #[.string id, .string auth, .int .i64 kind, .string target, .int .i64 op, .string name, .int .i64 cmp, .int .i64 num, .slice ka kn kc, .int .i64 fr, .int .i64 un, .int .i64 wi] 46) := ⟨_, rfl⟩
            rw [← hW1, ← hmb] at HB1 ⊢
            clear hW1 hmb m0 m1 m2 m3 m4 m5 m6 m7 m8 m9 m10 m11 hg hw
            go_at_call 49
            refine (HIx.out W1 HB1.out.base).mono ?_
            rintro e W1' ⟨rfl, hb⟩
            obtain rfl : W1' = W1 := hb
            obtain ⟨I, hI⟩ : ∃ I, I = Lib.idxOfS au auth := ⟨_, rfl⟩
            rw [← hI] at hidx HStep ⊢
            clear hI HIx
            by_cases hI0 : I < 0
            · have HN := Lib.hid (HStep.out.1 hI0)
              have HON := Lib.hid HB1.out.pop
              have HS2 : Hid (xs.Pairwise (· < ·) ∧ xs.length ≤ 3 * (k + 1) + 1) := ⟨HSo.out.1, by have := HSo.out.2; omega⟩
              have hI1 : decide (I < 0) = true := decide_eq_true hI0
              clear HB1 HStep HSo
              go_wp2_with fail
              go_roundg (mn - (k + 1))
              case measure => omega
              case rel => exact ⟨k + 1, xs, rfl, by omega, by go_num, HN, HS2, HON⟩
            obtain ⟨K, rfl⟩ : ∃ K : Nat, I = K := ⟨I.toNat, by omega⟩
            have hKan : K < an := by have := HLn.out.2.1; omega
            clear hI0 hidx
            obtain ⟨hbk, -⟩ := HB1.out.blk
            have z1 := lt_of_block hbk
            have n0 : W1'.cell? ⟨mb, 0, none⟩ = some (.string id) := by rw [cell_of_heap hbk]; rfl
            have n1 : W1'.cell? ⟨mb, 1, none⟩ = some (.string auth) := by rw [cell_of_heap hbk]; rfl
            have n2 : W1'.cell? ⟨mb, 2, none⟩ = some (.int .i64 kind) := by rw [cell_of_heap hbk]; rfl
            have n3 : W1'.cell? ⟨mb, 3, none⟩ = some (.string target) := by rw [cell_of_heap hbk]; rfl
            have n4 : W1'.cell? ⟨mb, 4, none⟩ = some (.int .i64 op) := by rw [cell_of_heap hbk]; rfl
            have n5 : W1'.cell? ⟨mb, 5, none⟩ = some (.string name) := by rw [cell_of_heap hbk]; rfl
            have n6 : W1'.cell? ⟨mb, 6, none⟩ = some (.int .i64 cmp) := by rw [cell_of_heap hbk]; rfl
            have n7 : W1'.cell? ⟨mb, 7, none⟩ = some (.int .i64 num) := by rw [cell_of_heap hbk]; rfl
            have n8 : W1'.cell? ⟨mb, 8, none⟩ = some (.slice ka kn kc) := by rw [cell_of_heap hbk]; rfl
            have n9 : W1'.cell? ⟨mb, 9, none⟩ = some (.int .i64 fr) := by rw [cell_of_heap hbk]; rfl
            have n10 : W1'.cell? ⟨mb, 10, none⟩ = some (.int .i64 un) := by rw [cell_of_heap hbk]; rfl
            have n11 : W1'.cell? ⟨mb, 11, none⟩ = some (.int .i64 wi) := by rw [cell_of_heap hbk]; rfl
            clear hbk
            go_wp2_with fail
            go_at_call 50
            refine (dated_c ⟨id, auth, kind, target, op, name, cmp, num, ka, kn, kc, fr, un, wi⟩ _).mono ?_
            rintro e W3 ⟨rfl, hb⟩
            dsimp only
            have HB3 := Lib.hid (HB1.out.below hb)
            clear hb HB1 z1 n0 n1 n2 n3 n4 n5 n6 n7 n8 n9 n10 n11
            cases hdt : datedB kind fr un wi
            · have He : Hid (changesF ms au (zs.map (·.l)) = ([], 1)) := HC.out.trans (HStep.out.2.2 ⟨by omega, hdt⟩)
              clear hdt HStep
              go_wp2_with fail
              refine bodyPost_ret (results_tmp2 rfl _ _ _) (by rfl) ⟨.slice none 0 0, ?_, ?_, HB3.out.base⟩
              · rw [He.out]; rfl
              · rw [He.out]; exact .inl ⟨rfl, rfl⟩
            obtain ⟨d1, d2, d3, d4, d5, -⟩ := dated_in hdt
            have HDt := Lib.hid hdt
            clear hdt
            obtain ⟨hbk, -⟩ := HB3.out.blk
            have z1 := lt_of_block hbk
            have n0 : W3.cell? ⟨mb, 0, none⟩ = some (.string id) := by rw [cell_of_heap hbk]; rfl
            have n1 : W3.cell? ⟨mb, 1, none⟩ = some (.string auth) := by rw [cell_of_heap hbk]; rfl
            have n2 : W3.cell? ⟨mb, 2, none⟩ = some (.int .i64 kind) := by rw [cell_of_heap hbk]; rfl
            have n3 : W3.cell? ⟨mb, 3, none⟩ = some (.string target) := by rw [cell_of_heap hbk]; rfl
            have n4 : W3.cell? ⟨mb, 4, none⟩ = some (.int .i64 op) := by rw [cell_of_heap hbk]; rfl
            have n5 : W3.cell? ⟨mb, 5, none⟩ = some (.string name) := by rw [cell_of_heap hbk]; rfl
            have n6 : W3.cell? ⟨mb, 6, none⟩ = some (.int .i64 cmp) := by rw [cell_of_heap hbk]; rfl
            have n7 : W3.cell? ⟨mb, 7, none⟩ = some (.int .i64 num) := by rw [cell_of_heap hbk]; rfl
            have n8 : W3.cell? ⟨mb, 8, none⟩ = some (.slice ka kn kc) := by rw [cell_of_heap hbk]; rfl
            have n9 : W3.cell? ⟨mb, 9, none⟩ = some (.int .i64 fr) := by rw [cell_of_heap hbk]; rfl
            have n10 : W3.cell? ⟨mb, 10, none⟩ = some (.int .i64 un) := by rw [cell_of_heap hbk]; rfl
            have n11 : W3.cell? ⟨mb, 11, none⟩ = some (.int .i64 wi) := by rw [cell_of_heap hbk]; rfl
            clear hbk
            clear n0 n1 n2 n3 n4 n5 n6 n7 n8
            rcases HE.out.hz.2 with hh | ⟨gz, oz, hza, hgz0, hh⟩
            · omega
            subst hza
            obtain ⟨z, hzk⟩ : ∃ z, zs[K]? = some z := ⟨_, List.getElem?_eq_getElem (by have := HLn.out.2.2.1; omega)⟩
            obtain ⟨cz0, hsh⟩ := hh K z hzk
            have hzl : (zs.map (·.l)).getD K [] = z.l := by rw [List.getD_eq_getElem?_getD, List.getElem?_map, hzk]; rfl
            have Hzl := Lib.hid hzl
            have Hsh := Lib.hid hsh
            obtain ⟨zx, zn', zc', zl⟩ := z
            dsimp only at cz0 Hzl Hsh
            have hgz3 : gz < W3.heap.size := Nat.lt_of_lt_of_le hgz0 HB3.out.base.size
            have cz3 : W3.cell? ⟨gz, oz + K, none⟩ = some (.slice zx zn' zc') := (HB3.out.base.cell (p := ⟨gz, oz + K, none⟩) hgz0).trans cz0
            clear hh hzk hsh hzl cz0
            by_cases hun : 0 ≤ un
            · obtain ⟨ds, hds⟩ : ∃ ds, ds = [fr, fr + wi, un] := ⟨_, rfl⟩
              have HDs : Hid (daysF ⟨id, auth, kind, target, op, name, cmp, num, ka, kn, kc, fr, un, wi⟩ = ds) := by show _ = _; rw [hds]; unfold daysF; rw [if_pos hun]; rfl
              have HR0 := Lib.hid (days_start W3 fr (fr + wi))
              have hd5 : un ≤ 100000 := by omega
              clear d5
              go_wp2_with (refine wpList_plain rfl fun K' hK' => wp_append (.tmp 81) (.tmp 84) 52 (by rfl) 3 _ 1 8 Tryz.underlying52 info_int' (by rfl) (by omega) _ 2 _ (by rfl) (HR0.out.row.alloc _) (W3.heap.size + 1) 1 1 [.int .i64 un] (by rfl) (by rfl) 3 (by exact new_heap (W3.alloc _) _ _ (by simp)) (by simp [Value.oneCell']) (by omega) (by omega) ?_; intro v' w4 hrow hgrow hblk; have HR2 := Lib.hid ((HR0.out.keep ((Below.refl _ _).alloc (Nat.le_refl _) _)).step hrow hgrow hblk); clear hrow hgrow hblk; have cz4 : w4.cell? ⟨gz, oz + K, none⟩ = some (.slice zx zn' zc') := (HR2.out.below.cell (p := ⟨gz, oz + K, none⟩) hgz3).trans cz3; have hgz4 : gz < w4.heap.size := Nat.lt_of_lt_of_le hgz3 HR2.out.below.size)
              have hR := HR2.out
              rw [show ([Value.int .i64 fr, Value.int .i64 (fr + wi)] ++ [Value.int .i64 un]) = ds.map (Value.int .i64 ·) by rw [hds]; rfl] at hR
              obtain ⟨dg, dc, cur, hv', hod, hcur⟩ := row_piece hR (by omega) HB3.out
              subst hv'
              have HOD : Hid (Owns w w4 [olP w bo xs, blk dg (.cells cur 3 (0, 0)), blk mb (.cells #[.string id, .string auth, .int .i64 kind, .string target, .int .i64 op, .string name, .int .i64 cmp, .int .i64 num, .slice ka kn kc, .int .i64 fr, .int .i64 un, .int .i64 wi] 46 (0, 0))]) := hod.rot
              have HCur := Lib.hid hcur
              clear hR hod hcur HR2 HR0 HB3 z1 n9 n10 n11 cz3 hgz3 cz4 hgz4
              go_at_call 51
              refine (begins_c zx zn' zc' zl dg 3 dc ds cur Hsh.out (by rw [hds]; rfl) (by omega) HCur.out HSo.out.1 (by have := HSo.out.2; omega) HOD.out).mono ?_
              rintro e W6 ⟨rfl, ho⟩
              have HON : Hid (Owns w W6 [olP w bo (beginsF zl ds xs)]) := ho.swap.pop.swap.pop
              have HNX : Hid (chg au (zs.map (·.l)) ms [0] = chg au (zs.map (·.l)) (ms.drop (k + 1)) (beginsF zl ds xs)) := by
                have h1 := HStep.out.2.1 ⟨by omega, HDt.out⟩
                rw [Int.toNat_natCast, Hzl.out, HDs.out] at h1
                exact h1
              have HS2 : Hid ((beginsF zl ds xs).Pairwise (· < ·) ∧ (beginsF zl ds xs).length ≤ 3 * (k + 1) + 1) := by
                refine ⟨beginsF_sorted zl ds xs HSo.out.1, ?_⟩
                have h1 := beginsF_len zl ds xs
                have h2 := HSo.out.2
                have h3 : ds.length ≤ 3 := by rw [hds]; simp
                omega
              clear ho hds
              go_wp2_with fail
              go_roundg (mn - (k + 1))
              case measure => omega
              case rel => exact ⟨k + 1, _, rfl, by omega, by go_num, HNX, HS2, HON⟩
            · obtain ⟨ds, hds⟩ : ∃ ds, ds = [fr, fr + wi] := ⟨_, rfl⟩
              have HDs : Hid (daysF ⟨id, auth, kind, target, op, name, cmp, num, ka, kn, kc, fr, un, wi⟩ = ds) := by show _ = _; rw [hds]; unfold daysF; rw [if_neg hun]; rfl
              obtain ⟨dg, hdg⟩ : ∃ dg, dg = W3.heap.size := ⟨_, rfl⟩
              obtain ⟨cur, hcu⟩ : ∃ cur : Array Value, cur = #[.int .i64 fr, .int .i64 (fr + wi)] := ⟨_, rfl⟩
              have HOD : Hid (Owns w (W3.alloc (.cells #[.int .i64 fr, .int .i64 (fr + wi)] 3)) [olP w bo xs, blk dg (.cells cur 3 (0, 0)), blk mb (.cells #[.string id, .string auth, .int .i64 kind, .string target, .int .i64 op, .string name, .int .i64 cmp, .int .i64 num, .slice ka kn kc, .int .i64 fr, .int .i64 un, .int .i64 wi] 46 (0, 0))]) := by
                rw [hdg, hcu]
                exact (HB3.out.box _).rot
              have HCur : Hid (∀ (j : Nat) (d : Int), ds[j]? = some d → cur[j]? = some (.int .i64 d)) := Lib.hid fun j d hd => by
                rw [hcu]
                rw [hds] at hd
                rcases j with _ | _ | j
                · simp at hd; subst hd; rfl
                · simp at hd; subst hd; rfl
                · simp at hd
              clear hcu
              go_wp2_with fail
              rw [← hdg]
              clear hdg HB3 z1 n9 n10 n11 cz3 hgz3
              go_at_call 51
              refine (begins_c zx zn' zc' zl dg 2 2 ds cur Hsh.out (by rw [hds]; rfl) (by omega) HCur.out HSo.out.1 (by have := HSo.out.2; omega) HOD.out).mono ?_
              rintro e W6 ⟨rfl, ho⟩
              have HON : Hid (Owns w W6 [olP w bo (beginsF zl ds xs)]) := ho.swap.pop.swap.pop
              have HNX : Hid (chg au (zs.map (·.l)) ms [0] = chg au (zs.map (·.l)) (ms.drop (k + 1)) (beginsF zl ds xs)) := by
                have h1 := HStep.out.2.1 ⟨by omega, HDt.out⟩
                rw [Int.toNat_natCast, Hzl.out, HDs.out] at h1
                exact h1
              have HS2 : Hid ((beginsF zl ds xs).Pairwise (· < ·) ∧ (beginsF zl ds xs).length ≤ 3 * (k + 1) + 1) := by
                refine ⟨beginsF_sorted zl ds xs HSo.out.1, ?_⟩
                have h1 := beginsF_len zl ds xs
                have h2 := HSo.out.2
                have h3 : ds.length ≤ 3 := by rw [hds]; simp
                omega
              clear ho hds
              go_wp2_with fail
              go_roundg (mn - (k + 1))
              case measure => omega
              case rel => exact ⟨k + 1, _, rfl, by omega, by go_num, HNX, HS2, HON⟩
          · obtain rfl : mn = k := by omega
            have He : Hid (changesF ms au (zs.map (·.l)) = (xs, 0)) := by
              show _ = _
              rw [HC.out, hv.out, List.drop_of_length_le (by rw [HLn.out.1]; exact Nat.le_refl _)]
              rfl
            obtain ⟨S, ⟨v, -, hk1, hs1⟩, -⟩ := hw.out.first
            have z0 := hk1.lt
            have c0 : wr.cell? ⟨bo, 0, none⟩ = some v := by rw [hk1.cell]; rfl
            have HI := Lib.hid (ints_of_SL hs1)
            clear hJ1 hK1 hv hk1 hs1
            go_wp2_with fail
            refine bodyPost_ret (results_tmp2 rfl _ _ _) (by rfl) ⟨v, ?_, ?_, hw.out.base⟩
            · rw [He.out]; rfl
            · rw [He.out]; exact HI.out
  · have He : Hid (changesF ms au (zs.map (·.l)) = ([], 1)) := by show _ = _; unfold changesF; rw [if_neg (by omega), if_pos (by simp; omega)]
    have h3b : ((an : Int) != (zn : Int)) = true := by simp; omega
    clear hml hal hzl h3
    go_enter Tryz.func22, Tryz.ntmps22
    go_wp2_with fail
    refine bodyPost_ret (results_tmp2 rfl _ _ _) (by rfl) ⟨.slice none 0 0, ?_, ?_, Below.refl _ _⟩
    · rw [He.out]; rfl
    · rw [He.out]; exact .inl ⟨rfl, rfl⟩
end Go.Proofs.YtakadfdnhlfijaaGreatDoor

/-
  The letters of a whole word; valid names.
-/
import Derived.Test.YtckocgkndbdhcaaGreatDoorNwLet
import Derived.Test.YtckocgkndbdhcaaGreatDoorNwOrdIn
namespace Go.Cz.Nw
def szs (l : List Bytes) : Nat := (l.map List.length).sum
/-- Whether a word consists of letters, of few enough. -/
def wordB (k : Int) (s : Bytes) : Bool := decide ((lets k s).length ≤ 12 ∧ 0 < (lets k s).length ∧ s.drop (szs (lets k s)) = [])
def wordE (k : Int) (s : Bytes) : Int := if wordB k s then 0 else 1
theorem szs_snoc (l : List Bytes) (x : Bytes) : szs (l ++ [x]) = szs l + x.length := by simp [szs]
theorem letsF_sum : ∀ (f : Nat) (k : Int) (s : Bytes) (p : List Bytes), p <+: letsF f k s → szs p ≤ s.length
  | 0, k, s, p, h => by
    rw [letsF] at h
    rw [List.prefix_nil.1 h]
    exact Nat.zero_le _
  | f + 1, k, s, [], h => Nat.zero_le _
  | f + 1, k, s, x :: p, h => by
    rw [letsF] at h
    split at h
    · simp at h
    · rw [List.cons_prefix_cons] at h
      obtain ⟨rfl, h⟩ := h
      have h1 := letsF_sum f k _ p h
      have h2 := lenL_le k s
      rw [List.length_drop] at h1
      have e : szs (s.take (lenL k s) :: p) = (s.take (lenL k s)).length + szs p := by simp [szs]
      rw [e, List.length_take]
      omega
end Go.Cz.Nw
namespace Go.Proofs.YtckocgkndbdhcaaGreatDoor
open Go.RowKit Go.Cz Go.Cz.Nw Go.Shelf
set_option linter.unusedSimpArgs false
set_option linter.unusedVariables false
attribute [local go_sem] Oper.semAt_some bs_size bs_extract bs_append bs_toList
attribute [local irreducible] cList cPlan cWalk
theorem row_kept {w w' : World} {e : TypeId} {size n : Nat} {v : Value} {xs : List Value} (h : w.ownsRow 0 e size v n xs) (hk : ∀ g, v.ownBlock = some g → w'.heap[g]? = w.heap[g]?) : w'.ownsRow 0 e size v n xs := by
  refine ⟨h.1, ?_⟩
  rcases h.2 with h0 | ⟨g, cap, cur, rfl, h2, h3, h4⟩
  · exact .inl h0
  · exact .inr ⟨g, cap, cur, rfl, h2, (hk g (by simp [Value.ownBlock])).trans h3, h4⟩
def strV (x : Bytes) : Value := .string (bs x)
/-- What holds between two rounds. -/
def LetI (w : World) (L : Nat) (s : Bytes) (pre : List Bytes) (W : World) : Prop :=
  ∃ y c, Bk W L #[.slice y pre.length c] 39 ∧ Bk W (L + 1) #[.string (bs (s.drop (szs pre)))] 9 ∧ W.ownsRow 0 9 1 (.slice y pre.length c) pre.length (pre.map strV) ∧ Below w.heap.size w W ∧
    (∀ g, (Value.slice y pre.length c).ownBlock = some g → L + 3 < g) ∧ L + 3 < W.heap.size
def LetJ (w : World) (L : Nat) (s : Bytes) (pre : List Bytes) (W : World) : Prop := LetI w L s pre W ∧ pre.length ≤ 12
def LetX (w : World) (L : Nat) (s : Bytes) (pre : List Bytes) (W : World) : Prop := LetI w L s pre W ∧ 12 < pre.length
theorem letI_own {w : World} {L B : Nat} {s : Bytes} (hL : w.heap.size ≤ L) (hB : L + 3 < B) : OwnFrom B (LetI w L s) := by
  rintro pre X Y row ⟨y, c, h1, h2, h3, h4, h5, h6⟩ hg hr
  refine ⟨y, c, h1.grown hg fun r e => (hr r e).2, h2.grown hg fun r e => (hr r e).2, row_kept h3 fun g e => ?_, h4.grown hg h4.size (fun r e => by have := (hr r e).1; omega), h5, Nat.lt_of_lt_of_le h6 hg.size⟩
  have hx := h3.2
  rcases hx with ⟨h0, -⟩ | ⟨g', cap, cur, hv, -, hb, -⟩
  · rw [h0] at e
    simp [Value.ownBlock] at e
  · rw [hv] at e
    simp [Value.ownBlock] at e
    subst e
    refine hg.block g' (lt_of_block hb) fun e2 => ?_
    obtain ⟨o, ho, hc⟩ := (hr g' e2.symm).2
    rw [hb] at ho
    cases ho
    cases hc
theorem letI_box {w : World} {L : Nat} {s : Bytes} (hL : w.heap.size ≤ L) : Boxy (L + 3) (LetI w L s) := by
  rintro pre X v ⟨y, c, h1, h2, h3, h4, h5, h6⟩
  refine ⟨y, c, h1.other (p := ⟨L + 3, 0, none⟩) (by show L ≠ L + 3; omega) v, h2.other (p := ⟨L + 3, 0, none⟩) (by show L + 1 ≠ L + 3; omega) v, row_kept h3 fun g e => setCell_heap_ne (by have := h5 g e; show g ≠ L + 3; omega) v, h4.setCell (p := ⟨L + 3, 0, none⟩) (by show w.heap.size ≤ L + 3; omega) v, h5, by simpa using h6⟩
theorem lets_res {W : World} {tmps : Array Value} {u v : Value} (h : tmps.getD 4 undef = u) (h2 : tmps.getD 5 undef = v) : (results Tryz.f68 tmps).run Tryz.prog W = .ok (.tuple #[u, v]) W := by
  have h' : tmps[4]?.getD undef = u := by simpa using h
  have h2' : tmps[5]?.getD undef = v := by simpa using h2
  simp [results, Tryz.results68, go_sem, h', h2']
theorem row_form {w : World} {e : TypeId} {size n : Nat} {v : Value} {xs : List Value} (h : w.ownsRow 0 e size v n xs) : ∃ y c, v = .slice y n c := by
  rcases h.2 with ⟨rfl, h0⟩ | ⟨g, c, cur, rfl, -⟩
  · exact ⟨none, 0, by rw [h0]⟩
  · exact ⟨_, _, rfl⟩
theorem own_cells {w : World} {e : TypeId} {size n g : Nat} {v : Value} {xs : List Value} (h : w.ownsRow 0 e size v n xs) (hg : v.ownBlock = some g) : ∃ cur, w.heap[g]? = some (.cells cur e (0, 0)) := by
  rcases h.2 with ⟨rfl, h0⟩ | ⟨g', c, cur, rfl, -, hb, -⟩
  · simp [Value.ownBlock] at hg
  · simp [Value.ownBlock] at hg
    subst hg
    exact ⟨_, hb⟩
theorem info_st : (Tryz.prog.info? 9).map (fun i => (i.zero, i.size, i.bytes)) = some (some (.string ⟨#[]⟩), 1, 16) := by kernel_rfl
/-- What a round leaves: a letter more. -/
structure Lett (w : World) (L : Nat) (s : Bytes) (pre : List Bytes) (x : Bytes) (B : Nat) (W W2 : World) (y : Option Addr) (c : Nat) : Prop where
  b6 : ∃ v, Bk W2 L #[v] 39
  b7 : Bk W2 (L + 1) #[.string (bs (s.drop (szs pre)))] 9
  all : ∀ W4, W4 = (W2.setCell ⟨L, 0, none⟩ (.slice y (pre.length + 1) c)).setCell ⟨L + 1, 0, none⟩ (.string (bs (s.drop (szs (pre ++ [x]))))) → Bk W4 L #[.slice y (pre.length + 1) c] 39 ∧ LetI w L s (pre ++ [x]) W4 ∧ KeepsFrom B W W4 ∧ Kq w (L + 2) (L + 3) W W4
theorem lett {w W W2 : World} {L B : Nat} {s x : Bytes} {pre : List Bytes} {y y2 : Option Addr} {c c2 : Nat} {o : Obj} (hwL : w.heap.size ≤ L)
    (h1 : Bk W L #[.slice y pre.length c] 39) (h2 : Bk W (L + 1) #[.string (bs (s.drop (szs pre)))] 9) (h3 : W.ownsRow 0 9 1 (.slice y pre.length c) pre.length (pre.map strV)) (h4 : Below w.heap.size w W)
    (h5 : ∀ g, (Value.slice y pre.length c).ownBlock = some g → L + 3 < g) (h6 : L + 3 < W.heap.size)
    (hr : W2.ownsRow 0 9 1 (.slice y2 (pre.length + 1) c2) (pre.length + 1) (pre.map strV ++ [strV x])) (hg : (W.drew.alloc o).grownBy W2 (Value.slice y pre.length c).ownBlock)
    (hb : (Value.slice y2 (pre.length + 1) c2).ownBlock = (Value.slice y pre.length c).ownBlock ∨ (Value.slice y2 (pre.length + 1) c2).ownBlock = some (W.drew.alloc o).heap.size) : Lett w L s pre x B W W2 y2 c2 := by
  have hs1 : (W.drew.alloc o).heap.size = W.heap.size + 1 := by rw [World.size_alloc]; rfl
  have hs2 := hg.size
  have keep : ∀ k, k ≤ L + 3 → W2.heap[k]? = W.heap[k]? := fun k hk => by
    rw [hg.block k (by omega) fun e => by have := h5 k e.symm; omega]
    exact Below.heap_alloc W.drew o k (by show k < W.heap.size; omega)
  have hs3 : L + 3 < W2.heap.size := by omega
  have e6 : Bk W2 L #[.slice y pre.length c] 39 := (keep L (by omega)).trans h1
  have e7 : Bk W2 (L + 1) #[.string (bs (s.drop (szs pre)))] 9 := (keep (L + 1) (by omega)).trans h2
  have e5 : ∀ g, (Value.slice y2 (pre.length + 1) c2).ownBlock = some g → L + 3 < g := fun g hg2 => by
    rcases hb with hb | hb
    · exact h5 g (by rw [← hb]; exact hg2)
    · rw [hb] at hg2
      cases hg2
      omega
  have hB2 : Below w.heap.size w W2 := ((h4.drew).alloc (by have := h4.size; exact this) o).grown hg (by have := h4.size; omega) (fun k e => by have := h5 k e; omega)
  refine ⟨⟨_, e6⟩, e7, fun W4 hW4 => ?_⟩
  have a6 := (e6.set 0 (.slice y2 (pre.length + 1) c2)).other (p := ⟨L + 1, 0, none⟩) (by show L ≠ L + 1; omega) (.string (bs (s.drop (szs (pre ++ [x])))))
  have a7 := (e7.other (p := ⟨L, 0, none⟩) (by show L + 1 ≠ L; omega) (.slice y2 (pre.length + 1) c2)).set 0 (.string (bs (s.drop (szs (pre ++ [x])))))
  have hne : ∀ k, k ≠ L → k ≠ L + 1 → W4.heap[k]? = W2.heap[k]? := fun k n1 n2 => by
    rw [hW4]
    exact (setCell_heap_ne (by exact n2) _).trans (setCell_heap_ne (by exact n1) _)
  have hB4 : Below w.heap.size w W4 := by
    rw [hW4]
    exact (hB2.setCell (p := ⟨L, 0, none⟩) hwL _).setCell (p := ⟨L + 1, 0, none⟩) (by show w.heap.size ≤ L + 1; omega) _
  have hrow : W4.ownsRow 0 9 1 (.slice y2 (pre.length + 1) c2) (pre.length + 1) (pre.map strV ++ [strV x]) := row_kept hr fun g hg2 => hne g (by have := e5 g hg2; omega) (by have := e5 g hg2; omega)
  have hk : KeepsOthers W W4 := by
    rw [hW4]
    refine KeepsOthers.trans ?_ ((KeepsOthers.setCell W2 ⟨L, 0, none⟩ (.slice y2 (pre.length + 1) c2)).trans (KeepsOthers.setCell _ ⟨L + 1, 0, none⟩ (.string (bs (s.drop (szs (pre ++ [x])))))))
    refine ((KeepsOthers.drew W).trans (KeepsOthers.alloc W.drew o)).trans (KeepsOthers.of_grownBy hg fun j ob hj ho => ?_)
    obtain ⟨cur, hc⟩ := own_cells h3 hj
    have : (W.drew.alloc o).heap[j]? = some (.cells cur 9 (0, 0)) := (Below.heap_alloc W.drew o j (lt_of_block hc)).trans hc
    rw [this] at ho
    cases ho
    rfl
  have hsz4 : W4.heap.size = W2.heap.size := by rw [hW4]; simp
  rw [← hW4] at a6 a7
  refine ⟨a6, ⟨y2, c2, ?_, ?_, ?_, hB4, ?_, by omega⟩, hk.from _, ⟨?_, (hne (L + 2) (by omega) (by omega)).trans (keep (L + 2) (by omega)), (hne (L + 3) (by omega) (by omega)).trans (keep (L + 3) (by omega))⟩⟩
  · rw [List.length_append]; exact a6
  · exact a7
  · rw [List.length_append, List.map_append]; exact hrow
  · rw [List.length_append]; exact e5
  · refine ⟨hB4.os.trans h4.os.symm, hB4.tape.trans h4.tape.symm, hB4.output.trans h4.output.symm, by omega, fun k hk2 => ?_⟩
    rw [hne k (by omega) (by omega), keep k (by omega)]
set_option maxRecDepth 100000 in
set_option maxHeartbeats 4000000 in
theorem Letters_c (k : Int) (s : Bytes) (w : World) (hstd : Std w) (hs : s.length ≤ 1000) : Calls Tryz.prog 68 #[.int .i64 k, .string (bs s)] w fun e w' => (∃ v, e = .returned (.tuple #[v, .int .i64 (wordE k s)])) ∧ Below w.heap.size w w' := by
  refine calls_marks 8 Tryz.func68 rfl ?_
  simp only [Tryz.ntmps68, List.size_toArray, List.length_cons, List.length_nil, Nat.reduceAdd, Nat.reduceSub, Array.replicate_succ, Array.replicate_zero, List.push_toArray, List.append_toArray, List.nil_append, List.cons_append]
  have HStd := Lib.hid hstd
  clear hstd
  go_wp2_with fail
  go_at_call 84
  refine (letters_c k s _).mono ?_
  rintro e w1 ⟨rfl, rfl⟩
  go_wp2_with fail
  obtain ⟨L, hL⟩ : ∃ L, L = w.heap.size := ⟨_, rfl⟩
  have hwL : w.heap.size ≤ L := by omega
  have b6 := (((Bk.new w #[.slice none 0 0] 39).alloc (.cells #[.string (bs s)] 9)).alloc (.cells #[.int .i64 k] 3)).alloc (.cells #[.string (bs s)] 9)
  have b7 := ((Bk.new (w.alloc (.cells #[.slice none 0 0] 39)) #[.string (bs s)] 9).alloc (.cells #[.int .i64 k] 3)).alloc (.cells #[.string (bs s)] 9)
  have b2 := (Bk.new ((w.alloc (.cells #[.slice none 0 0] 39)).alloc (.cells #[.string (bs s)] 9)) #[.int .i64 k] 3).alloc (.cells #[.string (bs s)] 9)
  have b3 := Bk.new (((w.alloc (.cells #[.slice none 0 0] 39)).alloc (.cells #[.string (bs s)] 9)).alloc (.cells #[.int .i64 k] 3)) #[.string (bs s)] 9
  have hB0 : Below w.heap.size w ((((w.alloc (.cells #[.slice none 0 0] 39)).alloc (.cells #[.string (bs s)] 9)).alloc (.cells #[.int .i64 k] 3)).alloc (.cells #[.string (bs s)] 9)) := by repeat (first | exact Below.refl _ _ | (refine Below.drew ?_) | (refine Below.alloc ?_ (by (try simp only [World.size_alloc, World.size_setCell, World.size_drew] at *); omega) _) | (refine Below.setCell ?_ (by (try simp only [World.size_alloc, World.size_setCell, World.size_drew] at *); omega) _))
  simp only [World.size_alloc] at b7 b2 b3
  obtain ⟨W0, hW0⟩ : ∃ W0, W0 = (((w.alloc (.cells #[.slice none 0 0] 39)).alloc (.cells #[.string (bs s)] 9)).alloc (.cells #[.int .i64 k] 3)).alloc (.cells #[.string (bs s)] 9) := ⟨_, rfl⟩
  have hsz : W0.heap.size = L + 4 := by rw [hW0, hL]; simp
  rw [← hW0] at b6 b7 b2 b3 hB0 ⊢
  rw [← hL] at b6 b7 b2 b3 ⊢
  clear hW0
  have HLw := Lib.hid hL
  clear hL
  rw [← wpIn_wide (n := 8)]
  have hI := letI_own (s := s) hwL (B := W0.heap.size) (by omega)
  have hIb := letI_box (s := s) hwL
  refine wpIn_rangeFunc_box rfl (by omega) (gf := 97) (lb := #[.pointer (some ⟨L + 2, 0, none⟩), .pointer (some ⟨L + 3, 0, none⟩)]) rfl trivial (enters_of Tryz.func97 (by kernel_rfl) rfl)
    (letters_stops 7 (by omega) (L + 3) (L + 2) k s w HStd.out hs (by omega) (by omega) W0 hB0 b2 b3) (by omega) Kq.trans (Kq.turn hB0.size (by omega) (by omega)) (Below.refl _ _) (fun _ => rfl)
    (LetJ w L s) (LetX w L s) 0
    (fun p X Y row h hg hr => ⟨hI p X Y row h.1 hg hr, h.2⟩) (fun p X Y row h hg hr => ⟨hI p X Y row h.1 hg hr, h.2⟩)
    (fun p X v h => ⟨hIb p X v h.1, h.2⟩) (fun p X v h => ⟨hIb p X v h.1, h.2⟩)
    ⟨⟨none, 0, b6, b7, World.ownsRow_nil _ _ _ _, hB0, by simp [Value.ownBlock], by omega⟩, by simp⟩
    (fun x => { tmps := #[.int .i64 k, .string (bs s), undef, undef, .slice none 0 0, .int .i64 0, .pointer (some ⟨L, 0, none⟩), .pointer (some ⟨L + 1, 0, none⟩), .string (bs x), .string (bs s), .int .i64 k, .string (bs s), .func (.func 97) #[] #[.pointer (some ⟨L + 2, 0, none⟩), .pointer (some ⟨L + 3, 0, none⟩)], .string (bs x), undef, undef, undef, undef, undef, undef, undef, undef, undef, undef, undef, undef, undef, undef, undef, undef, undef, undef, undef, undef, undef, undef, undef, undef], defers := [] })
    ?assign ?body ?done ?stop
  case assign =>
    rintro lp x W K hK
    unfold encL
    gi_wp2
    exact hK
  case body =>
    rintro lp pre x W ⟨⟨y, c, i1, i2, i3, i4, i5, i6⟩, i7⟩ hT
    have hsum := letsF_sum _ k s _ hT
    rw [szs_snoc] at hsum
    obtain ⟨r, hr⟩ : ∃ r, r = s.drop (szs pre) := ⟨_, rfl⟩
    have hrl : r.length = s.length - szs pre := by rw [hr, List.length_drop]
    have HR := Lib.hid hr
    rw [← hr] at i2
    clear hr
    have c6 : W.cell? ⟨L, 0, none⟩ = some (.slice y pre.length c) := by rw [i1.cell]; rfl
    have f6 := i1.free 0
    have l6 := i1.lt
    have c7 : W.cell? ⟨L + 1, 0, none⟩ = some (.string (bs r)) := by rw [i2.cell]; rfl
    have f7 := i2.free 0
    have l7 := i2.lt
    have hx1 : (x.length : Int) ≤ (r.length : Int) := by omega
    have htk : (r.drop x.length).take (r.length - x.length) = r.drop x.length := tk_drop r x.length
    have hrd : r.drop x.length = s.drop (szs (pre ++ [x])) := by rw [HR.out, List.drop_drop, szs_snoc]
    have HRD := Lib.hid hrd
    have hr9 : r.length ≤ 1000 := by omega
    have HRL := Lib.hid hrl
    have HI := Lib.hid (And.intro i1 (And.intro i2 (And.intro i3 (And.intro i4 (And.intro i5 i6)))))
    have HSum := Lib.hid hsum
    have HRow : Hid (((W.alloc (.cells #[.string (bs x)] 9)).drew).ownsRow 0 9 1 (.slice y pre.length c) pre.length (pre.map strV)) := row_kept i3 fun g hg => by
      obtain ⟨cur, hc⟩ := own_cells i3 hg
      exact Below.heap_alloc W _ g (lt_of_block hc)
    have HNew : Hid (((W.alloc (.cells #[.string (bs x)] 9)).drew).heap[W.heap.size]? = some (.cells #[.string (bs x)] 9 (0, 0))) := new_heap W _ _ rfl
    clear hrl hrd hsum i1 i2 i3 i4 i5 i6 b2 b3 b6 b7 hB0 hI hIb hT
    gi_wp2_with fail
    refine wpIn_region_walk [] 10 rfl (by decide +kernel) (by decide +kernel) ?_
    refine cw_step 0 (by decide +kernel) (by decide +kernel) (by decide +kernel) ?_; (refine cw_do rfl rfl rfl (by first | rfl | simp [okB, lenV, plainV, Act.eval]) (fun _ _ => ?_); go_wp2_with fail)
    refine cw_step 1 (by decide +kernel) (by decide +kernel) (by decide +kernel) ?_; (refine cw_do rfl rfl rfl (by first | rfl | simp [okB, lenV, plainV, Act.eval]) (fun _ _ => ?_); go_wp2_with fail)
    refine cw_step 5 (by decide +kernel) (by decide +kernel) (by decide +kernel) ?_; (refine cw_do rfl rfl rfl (by first | rfl | simp [okB, lenV, plainV, Act.eval]) (fun _ _ => ?_); go_wp2_with fail)
    refine cw_step 6 (by decide +kernel) (by decide +kernel) (by decide +kernel) ?_; (refine cw_do rfl rfl rfl (by first | rfl | simp [okB, lenV, plainV, Act.eval]) (fun _ _ => ?_); go_wp2_with fail)
    refine cw_two 2 4 (by decide +kernel) ?_ ?_
    · (refine cw_do rfl rfl rfl (by first | rfl | simp [okB, lenV, plainV, Act.eval]) (fun _ _ => ?_); go_wp2_with fail)
      refine cw_two 3 4 (by decide +kernel) ?_ ?_
      · refine cw_do rfl rfl rfl rfl (fun K2 hK2 => ?_)
        refine wp_append (.tmp 14) (.tmp 16) 39 (by rfl) 9 _ 1 16 Tryz.underlying39 info_st (by rfl) (by omega) _ pre.length _ (by rfl) HRow.out W.heap.size 1 1 [strV x] (by rfl) (by rfl) 9 (by exact HNew.out) (by simp [strV, Value.oneCell']) (by omega) (by omega) ?_
        intro v2 W2 hrow hgrow hblk
        obtain ⟨y2, cc2, rfl⟩ := row_form hrow
        have hlt := lett (s := s) (x := x) (B := L + 4) hwL HI.out.1 (by rw [← HR.out]; exact HI.out.2.1) HI.out.2.2.1 HI.out.2.2.2.1 HI.out.2.2.2.2.1 HI.out.2.2.2.2.2 hrow hgrow hblk
        have HLt := Lib.hid hlt
        clear hrow hgrow hblk hlt c6 f6 l6 c7 f7 l7
        obtain ⟨u6, e6⟩ := HLt.out.b6
        have e7 := HLt.out.b7
        rw [← HR.out] at e7
        have c6 : W2.cell? ⟨L, 0, none⟩ = some u6 := by rw [e6.cell]; rfl
        have f6 := e6.free 0
        have l6 := e6.lt
        have c7 : W2.cell? ⟨L + 1, 0, none⟩ = some (.string (bs r)) := by rw [e7.cell]; rfl
        have f7 := e7.free 0
        have l7 := e7.lt
        clear e6 e7
        go_wp2_with fail
        refine cw_two 4 8 (by decide +kernel) ?_ ?_
        · (refine cw_do rfl rfl rfl (by first | rfl | simp [okB, lenV, plainV, Act.eval]) (fun _ _ => ?_); go_wp2_with fail)
          refine cw_step 7 (by decide +kernel) (by decide +kernel) (by decide +kernel) ?_; (refine cw_do rfl rfl rfl (by first | rfl | simp [okB, lenV, plainV, Act.eval]) (fun _ _ => ?_); go_wp2_with fail)
          refine cw_step 8 (by decide +kernel) (by decide +kernel) (by decide +kernel) ?_; (refine cw_do rfl rfl rfl (by first | rfl | simp [okB, lenV, plainV, Act.eval]) (fun _ _ => ?_); go_wp2_with fail)
          refine cw_step 9 (by decide +kernel) (by decide +kernel) (by decide +kernel) ?_; (refine cw_do rfl rfl rfl (by first | rfl | simp [okB, lenV, plainV, Act.eval]) (fun _ _ => ?_); go_wp2_with fail)
          refine cw_nil (by decide +kernel) ?_
          rw [HRD.out]
          obtain ⟨W4, hW4⟩ : ∃ W, W = (W2.setCell ⟨L, 0, none⟩ (.slice y2 (pre.length + 1) cc2)).setCell ⟨L + 1, 0, none⟩ (.string (bs (s.drop (szs (pre ++ [x]))))) := ⟨_, rfl⟩
          obtain ⟨q6, q1, q2, q3⟩ := HLt.out.all W4 hW4
          rw [← hW4]
          clear hW4 c6 f6 l6 c7 f7 l7
          have HQ := Lib.hid (And.intro q1 (And.intro q2 q3))
          have c6 : W4.cell? ⟨L, 0, none⟩ = some (.slice y2 (pre.length + 1) cc2) := by rw [q6.cell]; rfl
          have l6 := q6.lt
          clear q6 q1 q2 q3
          by_cases h13 : 12 < pre.length + 1
          · have h13' : ((pre.length + 1 : Nat) : Int) > 12 := by omega
            gi_wp2_with fail
            exact ⟨rfl, by rw [hsz]; exact HQ.out.2.1, HQ.out.1, by rw [List.length_append]; exact h13⟩
          · have h13' : ¬ ((pre.length + 1 : Nat) : Int) > 12 := by omega
            gi_wp2_with fail
            exact ⟨HQ.out.2.1, HQ.out.2.2, HQ.out.1, by rw [List.length_append]; simp; omega⟩
        · (refine cw_do rfl rfl rfl (by first | rfl | simp [okB, lenV, plainV, Act.eval]) (fun _ _ => ?_); go_wp2_with fail)
          refine cw_step 4 (by decide +kernel) (by decide +kernel) (by decide +kernel) ?_; (refine cw_do rfl rfl rfl (by first | rfl | simp [okB, lenV, plainV, Act.eval]) (fun _ _ => ?_); go_wp2_with fail)
          refine cw_step 7 (by decide +kernel) (by decide +kernel) (by decide +kernel) ?_; (refine cw_do rfl rfl rfl (by first | rfl | simp [okB, lenV, plainV, Act.eval]) (fun _ _ => ?_); go_wp2_with fail)
          refine cw_step 9 (by decide +kernel) (by decide +kernel) (by decide +kernel) ?_; (refine cw_do rfl rfl rfl (by first | rfl | simp [okB, lenV, plainV, Act.eval]) (fun _ _ => ?_); go_wp2_with fail)
          refine cw_nil (by decide +kernel) ?_
          rw [HRD.out]
          obtain ⟨W4, hW4⟩ : ∃ W, W = (W2.setCell ⟨L, 0, none⟩ (.slice y2 (pre.length + 1) cc2)).setCell ⟨L + 1, 0, none⟩ (.string (bs (s.drop (szs (pre ++ [x]))))) := ⟨_, rfl⟩
          obtain ⟨q6, q1, q2, q3⟩ := HLt.out.all W4 hW4
          rw [← hW4]
          clear hW4 c6 f6 l6 c7 f7 l7
          have HQ := Lib.hid (And.intro q1 (And.intro q2 q3))
          have c6 : W4.cell? ⟨L, 0, none⟩ = some (.slice y2 (pre.length + 1) cc2) := by rw [q6.cell]; rfl
          have l6 := q6.lt
          clear q6 q1 q2 q3
          by_cases h13 : 12 < pre.length + 1
          · have h13' : ((pre.length + 1 : Nat) : Int) > 12 := by omega
            gi_wp2_with fail
            exact ⟨rfl, by rw [hsz]; exact HQ.out.2.1, HQ.out.1, by rw [List.length_append]; exact h13⟩
          · have h13' : ¬ ((pre.length + 1 : Nat) : Int) > 12 := by omega
            gi_wp2_with fail
            exact ⟨HQ.out.2.1, HQ.out.2.2, HQ.out.1, by rw [List.length_append]; simp; omega⟩
      · (refine cw_do rfl rfl rfl (by first | rfl | simp [okB, lenV, plainV, Act.eval]) (fun _ _ => ?_); go_wp2_with fail)
        refine cw_step 7 (by decide +kernel) (by decide +kernel) (by decide +kernel) ?_; (refine cw_do rfl rfl rfl (by first | rfl | simp [okB, lenV, plainV, Act.eval]) (fun _ _ => ?_); go_wp2_with fail)
        refine cw_step 3 (by decide +kernel) (by decide +kernel) (by decide +kernel) ?_
        refine cw_do rfl rfl rfl rfl (fun K2 hK2 => ?_)
        refine wp_append (.tmp 14) (.tmp 16) 39 (by rfl) 9 _ 1 16 Tryz.underlying39 info_st (by rfl) (by omega) _ pre.length _ (by rfl) HRow.out W.heap.size 1 1 [strV x] (by rfl) (by rfl) 9 (by exact HNew.out) (by simp [strV, Value.oneCell']) (by omega) (by omega) ?_
        intro v2 W2 hrow hgrow hblk
        obtain ⟨y2, cc2, rfl⟩ := row_form hrow
        have hlt := lett (s := s) (x := x) (B := L + 4) hwL HI.out.1 (by rw [← HR.out]; exact HI.out.2.1) HI.out.2.2.1 HI.out.2.2.2.1 HI.out.2.2.2.2.1 HI.out.2.2.2.2.2 hrow hgrow hblk
        have HLt := Lib.hid hlt
        clear hrow hgrow hblk hlt c6 f6 l6 c7 f7 l7
        obtain ⟨u6, e6⟩ := HLt.out.b6
        have e7 := HLt.out.b7
        rw [← HR.out] at e7
        have c6 : W2.cell? ⟨L, 0, none⟩ = some u6 := by rw [e6.cell]; rfl
        have f6 := e6.free 0
        have l6 := e6.lt
        have c7 : W2.cell? ⟨L + 1, 0, none⟩ = some (.string (bs r)) := by rw [e7.cell]; rfl
        have f7 := e7.free 0
        have l7 := e7.lt
        clear e6 e7
        go_wp2_with fail
        refine cw_step 8 (by decide +kernel) (by decide +kernel) (by decide +kernel) ?_; (refine cw_do rfl rfl rfl (by first | rfl | simp [okB, lenV, plainV, Act.eval]) (fun _ _ => ?_); go_wp2_with fail)
        refine cw_step 9 (by decide +kernel) (by decide +kernel) (by decide +kernel) ?_; (refine cw_do rfl rfl rfl (by first | rfl | simp [okB, lenV, plainV, Act.eval]) (fun _ _ => ?_); go_wp2_with fail)
        refine cw_nil (by decide +kernel) ?_
        rw [HRD.out]
        obtain ⟨W4, hW4⟩ : ∃ W, W = (W2.setCell ⟨L, 0, none⟩ (.slice y2 (pre.length + 1) cc2)).setCell ⟨L + 1, 0, none⟩ (.string (bs (s.drop (szs (pre ++ [x]))))) := ⟨_, rfl⟩
        obtain ⟨q6, q1, q2, q3⟩ := HLt.out.all W4 hW4
        rw [← hW4]
        clear hW4 c6 f6 l6 c7 f7 l7
        have HQ := Lib.hid (And.intro q1 (And.intro q2 q3))
        have c6 : W4.cell? ⟨L, 0, none⟩ = some (.slice y2 (pre.length + 1) cc2) := by rw [q6.cell]; rfl
        have l6 := q6.lt
        clear q6 q1 q2 q3
        by_cases h13 : 12 < pre.length + 1
        · have h13' : ((pre.length + 1 : Nat) : Int) > 12 := by omega
          gi_wp2_with fail
          exact ⟨rfl, by rw [hsz]; exact HQ.out.2.1, HQ.out.1, by rw [List.length_append]; exact h13⟩
        · have h13' : ¬ ((pre.length + 1 : Nat) : Int) > 12 := by omega
          gi_wp2_with fail
          exact ⟨HQ.out.2.1, HQ.out.2.2, HQ.out.1, by rw [List.length_append]; simp; omega⟩
    · (refine cw_do rfl rfl rfl (by first | rfl | simp [okB, lenV, plainV, Act.eval]) (fun _ _ => ?_); go_wp2_with fail)
      refine cw_step 7 (by decide +kernel) (by decide +kernel) (by decide +kernel) ?_; (refine cw_do rfl rfl rfl (by first | rfl | simp [okB, lenV, plainV, Act.eval]) (fun _ _ => ?_); go_wp2_with fail)
      refine cw_step 2 (by decide +kernel) (by decide +kernel) (by decide +kernel) ?_; (refine cw_do rfl rfl rfl (by first | rfl | simp [okB, lenV, plainV, Act.eval]) (fun _ _ => ?_); go_wp2_with fail)
      refine cw_step 3 (by decide +kernel) (by decide +kernel) (by decide +kernel) ?_
      refine cw_do rfl rfl rfl rfl (fun K2 hK2 => ?_)
      refine wp_append (.tmp 14) (.tmp 16) 39 (by rfl) 9 _ 1 16 Tryz.underlying39 info_st (by rfl) (by omega) _ pre.length _ (by rfl) HRow.out W.heap.size 1 1 [strV x] (by rfl) (by rfl) 9 (by exact HNew.out) (by simp [strV, Value.oneCell']) (by omega) (by omega) ?_
      intro v2 W2 hrow hgrow hblk
      obtain ⟨y2, cc2, rfl⟩ := row_form hrow
      have hlt := lett (s := s) (x := x) (B := L + 4) hwL HI.out.1 (by rw [← HR.out]; exact HI.out.2.1) HI.out.2.2.1 HI.out.2.2.2.1 HI.out.2.2.2.2.1 HI.out.2.2.2.2.2 hrow hgrow hblk
      have HLt := Lib.hid hlt
      clear hrow hgrow hblk hlt c6 f6 l6 c7 f7 l7
      obtain ⟨u6, e6⟩ := HLt.out.b6
      have e7 := HLt.out.b7
      rw [← HR.out] at e7
      have c6 : W2.cell? ⟨L, 0, none⟩ = some u6 := by rw [e6.cell]; rfl
      have f6 := e6.free 0
      have l6 := e6.lt
      have c7 : W2.cell? ⟨L + 1, 0, none⟩ = some (.string (bs r)) := by rw [e7.cell]; rfl
      have f7 := e7.free 0
      have l7 := e7.lt
      clear e6 e7
      go_wp2_with fail
      refine cw_step 8 (by decide +kernel) (by decide +kernel) (by decide +kernel) ?_; (refine cw_do rfl rfl rfl (by first | rfl | simp [okB, lenV, plainV, Act.eval]) (fun _ _ => ?_); go_wp2_with fail)
      refine cw_step 9 (by decide +kernel) (by decide +kernel) (by decide +kernel) ?_; (refine cw_do rfl rfl rfl (by first | rfl | simp [okB, lenV, plainV, Act.eval]) (fun _ _ => ?_); go_wp2_with fail)
      refine cw_nil (by decide +kernel) ?_
      rw [HRD.out]
      obtain ⟨W4, hW4⟩ : ∃ W, W = (W2.setCell ⟨L, 0, none⟩ (.slice y2 (pre.length + 1) cc2)).setCell ⟨L + 1, 0, none⟩ (.string (bs (s.drop (szs (pre ++ [x]))))) := ⟨_, rfl⟩
      obtain ⟨q6, q1, q2, q3⟩ := HLt.out.all W4 hW4
      rw [← hW4]
      clear hW4 c6 f6 l6 c7 f7 l7
      have HQ := Lib.hid (And.intro q1 (And.intro q2 q3))
      have c6 : W4.cell? ⟨L, 0, none⟩ = some (.slice y2 (pre.length + 1) cc2) := by rw [q6.cell]; rfl
      have l6 := q6.lt
      clear q6 q1 q2 q3
      by_cases h13 : 12 < pre.length + 1
      · have h13' : ((pre.length + 1 : Nat) : Int) > 12 := by omega
        gi_wp2_with fail
        exact ⟨rfl, by rw [hsz]; exact HQ.out.2.1, HQ.out.1, by rw [List.length_append]; exact h13⟩
      · have h13' : ¬ ((pre.length + 1 : Nat) : Int) > 12 := by omega
        gi_wp2_with fail
        exact ⟨HQ.out.2.1, HQ.out.2.2, HQ.out.1, by rw [List.length_append]; simp; omega⟩
  case done =>
    rintro D xs W hD rfl ⟨⟨y, c, i1, i2, i3, i4, i5, i6⟩, i7⟩ hK
    obtain ⟨m, hm⟩ : ∃ m, m = (lets k s).length := ⟨_, rfl⟩
    obtain ⟨r, hr⟩ : ∃ r, r = s.drop (szs (lets k s)) := ⟨_, rfl⟩
    have HW : Hid (wordB k s = decide (m ≤ 12 ∧ 0 < m ∧ r = [])) := by show _ = _; rw [hm, hr]; rfl
    rw [← hm] at i1 i7
    rw [← hr] at i2
    clear hm hr i3 i5
    have c6 : W.cell? ⟨L, 0, none⟩ = some (.slice y m c) := by rw [i1.cell]; rfl
    have l6 := i1.lt
    have c7 : W.cell? ⟨L + 1, 0, none⟩ = some (.string (bs r)) := by rw [i2.cell]; rfl
    have l7 := i2.lt
    have HK : Hid (∃ w', (Instr.takeDeferred D).run Tryz.prog W = .ok [] w' ∧ Below w.heap.size w w') :=
      ⟨_, run_takeDeferred (by exact hK), i4.trans (belowK_b (w := w) (Nat.le_refl _) W D _ _ (by omega) (by exact hK) rfl rfl)⟩
    clear i1 i2 i4 i6 hK b2 b3 b6 b7 hB0 hI hIb
    have h13 : ¬ ((m : Nat) : Int) > 12 := by omega
    rcases r with _ | ⟨r1, r2⟩
    · rcases Nat.eq_zero_or_pos m with rfl | hpos
      · have HE : Hid (wordE k s = 1) := by show _ = _; unfold wordE; rw [HW.out]; simp
        go_wp2_with fail
        obtain ⟨w', hk, hb⟩ := HK.out
        exact ⟨by simp, .inl ⟨_, w', rfl, hk, _, lets_res rfl rfl, ⟨_, by rw [HE.out]; rfl⟩, hb⟩⟩
      · have hp : ¬ ((m : Nat) : Int) = 0 := by omega
        have HE : Hid (wordE k s = 0) := by show _ = _; unfold wordE; rw [HW.out]; simp; omega
        go_wp2_with fail
        obtain ⟨w', hk, hb⟩ := HK.out
        exact ⟨by simp, .inl ⟨_, w', rfl, hk, _, lets_res rfl rfl, ⟨_, by rw [HE.out]; rfl⟩, hb⟩⟩
    · have HE : Hid (wordE k s = 1) := by show _ = _; unfold wordE; rw [HW.out]; simp
      have hne : ((r1 :: r2 : List UInt8) == []) = false := rfl
      go_wp2_with fail
      obtain ⟨w', hk, hb⟩ := HK.out
      exact ⟨by simp, .inl ⟨_, w', rfl, hk, _, lets_res rfl rfl, ⟨_, by rw [HE.out]; rfl⟩, hb⟩⟩
  case stop =>
    rintro D pre W hD hpre ⟨⟨y, c, i1, i2, i3, i4, i5, i6⟩, i7⟩ hK
    have HE : Hid (wordE k s = 1) := by
      have h := hpre.length_le
      have h2 : wordB k s = false := by
        unfold wordB
        simp
        omega
      show _ = _
      unfold wordE
      rw [h2]
      rfl
    obtain ⟨m, hm⟩ : ∃ m, m = pre.length := ⟨_, rfl⟩
    obtain ⟨r, hr⟩ : ∃ r, r = s.drop (szs pre) := ⟨_, rfl⟩
    rw [← hm] at i1 i7
    rw [← hr] at i2
    clear hm hr i3 i5 hpre
    have c6 : W.cell? ⟨L, 0, none⟩ = some (.slice y m c) := by rw [i1.cell]; rfl
    have l6 := i1.lt
    have c7 : W.cell? ⟨L + 1, 0, none⟩ = some (.string (bs r)) := by rw [i2.cell]; rfl
    have l7 := i2.lt
    have HK : Hid (∃ w', (Instr.takeDeferred D).run Tryz.prog W = .ok [] w' ∧ Below w.heap.size w w') :=
      ⟨_, run_takeDeferred (by exact hK), i4.trans (belowK_b (w := w) (Nat.le_refl _) W D _ _ (by omega) (by exact hK) rfl rfl)⟩
    clear i1 i2 i4 i6 hK b2 b3 b6 b7 hB0 hI hIb
    have h13 : ((m : Nat) : Int) > 12 := by omega
    have hp : ¬ ((m : Nat) : Int) = 0 := by omega
    rw [wpIn_wide]
    rcases r with _ | ⟨r1, r2⟩
    · go_wp2_with fail
      obtain ⟨w', hk, hb⟩ := HK.out
      exact ⟨by simp, .inl ⟨_, w', rfl, hk, _, lets_res rfl rfl, ⟨_, by rw [HE.out]; rfl⟩, hb⟩⟩
    · have hne : ((r1 :: r2 : List UInt8) == []) = false := rfl
      go_wp2_with fail
      obtain ⟨w', hk, hb⟩ := HK.out
      exact ⟨by simp, .inl ⟨_, w', rfl, hk, _, lets_res rfl rfl, ⟨_, by rw [HE.out]; rfl⟩, hb⟩⟩
end Go.Proofs.YtckocgkndbdhcaaGreatDoor

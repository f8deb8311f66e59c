/-
  What a verdict means.
  A row of indices of the call's own, as a piece.
  The value of a formula, by the reference of layer 26.
  The reference's 'Counts'.
  The reference's 'Forbidding'.
  The reference's 'Licensed' and 'Decide'.
  The reference's 'Decide'.
-/
import Derived.Test.YtakadfdnhlfijaaGreatDoorVdLaws
import Derived.Test.YtakadfdnhlfijaaGreatDoorVdTexts
import Derived.Test.YtakadfdnhlfijaaGreatDoorFmHolds
import Derived.Deep.DeepCutAuto
import Derived.Test.YtakadfdnhlfijaaGreatDoorVdRA
import Derived.Test.YtakadfdnhlfijaaGreatDoorRcA
import Derived.Test.YtakadfdnhlfijaaGreatDoorVdF
import Derived.Test.YtakadfdnhlfijaaGreatDoorVdLicensed
import Derived.Test.YtakadfdnhlfijaaGreatDoorVdDecide
namespace Go.Cz.Vd
set_option linter.unusedVariables false
set_option linter.unusedSimpArgs false
open Go.Cz.Lx Go.Cz.Fo
def exB (l : List Me) (s : Sc) (m : Me) : Bool := l.any fun k => decide (k.kind = 2) && (decide (k.target = m.id) && (decide (k.auth = m.auth) && countsB s k))
def agB (l : List Me) (fs : List Bytes) (m : Me) : Bool := l.any fun k => decide (k.auth = m.target) && (decide (k.kind = 1) && fs.contains k.id)
def fB (l : List Me) (s : Sc) (m : Me) : Bool := decide (m.kind = 1) && (countsB s m && !exB l s m)
def bB (l : List Me) (s : Sc) (fs : List Bytes) (m : Me) : Bool := decide (m.kind = 3) && (countsB s m && agB l fs m)
section
variable {s : Sc} {l : List Me} {m : Me}
theorem exB_iff : exB l s m = (exempts s l).contains (m.auth, m.id) := by
  rw [Bool.eq_iff_iff, List.contains_iff_mem, mem_exempts]
  unfold exB
  simp only [List.any_eq_true, Bool.and_eq_true, decide_eq_true_eq]
  constructor
  · rintro ⟨k, h1, h2, h3, h4, h5⟩; exact ⟨k, h1, h2, h5, h4, h3⟩
  · rintro ⟨k, h1, h2, h3, h4, h5⟩; exact ⟨k, h1, h2, h5, h4, h3⟩
theorem forbs_filter : forbs s l = l.filter (fB l s) := by
  unfold forbs counting
  rw [List.filter_filter]
  refine List.filter_congr fun m _ => ?_
  unfold fB
  rw [exB_iff]
  cases decide (m.kind = 1) <;> cases countsB s m <;> simp
/-- Two measures with one id are one. -/
theorem id_one : ∀ {l : List Me}, (l.map Me.id).Nodup → ∀ {a b : Me}, a ∈ l → b ∈ l → a.id = b.id → a = b
  | [], _, a, b, h, _, _ => by simp at h
  | c :: r, hn, a, b, ha, hb, e => by
    rw [List.map_cons, List.nodup_cons] at hn
    rcases List.mem_cons.1 ha with rfl | ha'
    · rcases List.mem_cons.1 hb with rfl | hb'
      · rfl
      · exact absurd (List.mem_map.2 ⟨b, hb', e.symm⟩) hn.1
    · rcases List.mem_cons.1 hb with rfl | hb'
      · exact absurd (List.mem_map.2 ⟨a, ha', e⟩) hn.1
      · exact id_one hn.2 ha' hb' e
theorem contains_id {q : Me → Bool} (hn : (l.map Me.id).Nodup) (hm : m ∈ l) : ((l.filter q).map Me.id).contains m.id = q m := by
  rw [Bool.eq_iff_iff, List.contains_iff_mem, List.mem_map]
  constructor
  · rintro ⟨k, hk, e⟩
    obtain ⟨h1, h2⟩ := List.mem_filter.1 hk
    rw [← id_one hn h1 hm e]
    exact h2
  · exact fun h => ⟨m, List.mem_filter.2 ⟨hm, h⟩, rfl⟩
theorem blocks_filter (hn : (l.map Me.id).Nodup) : blocksM s l [] = l.filter (bB l s ((forbs s l).map Me.id)) := by
  unfold blocksM counting
  rw [List.filter_filter, left_nil]
  refine List.filter_congr fun m hm => ?_
  have h : ((forbs s l).map Me.auth).contains m.target = agB l ((forbs s l).map Me.id) m := by
    rw [Bool.eq_iff_iff, List.contains_iff_mem, List.mem_map]
    unfold agB
    simp only [List.any_eq_true, Bool.and_eq_true, decide_eq_true_eq]
    constructor
    · rintro ⟨k, hk, e⟩
      have h1 := mem_forbs.1 hk
      exact ⟨k, h1.1, e, h1.2.1, by rw [List.contains_iff_mem]; exact List.mem_map.2 ⟨k, hk, rfl⟩⟩
    · rintro ⟨k, hk, e, h1, h2⟩
      rw [forbs_filter, contains_id hn hk] at h2
      exact ⟨k, by rw [forbs_filter]; exact List.mem_filter.2 ⟨hk, h2⟩, e⟩
  rw [h]
  unfold bB
  cases decide (m.kind = 3) <;> cases countsB s m <;> simp
/-- What a verdict says of each measure. -/
theorem means_law (h : (decideV l s).2 = 0) : (∀ m ∈ l, fB l s m = (decideV l s).1.forbids.contains m.id ∧ bB l s (decideV l s).1.forbids m = (decideV l s).1.blocks.contains m.id) ∧
    (decideV l s).1.forbids.length = (l.filter (fB l s)).length ∧ (decideV l s).1.blocks.length = (l.filter (bB l s (decideV l s).1.forbids)).length ∧
    (decideV l s).1.kind = if 0 < (l.filter (bB l s (decideV l s).1.forbids)).length then 3 else if 0 < (l.filter (fB l s)).length then 2 else 1 := by
  obtain ⟨c, f⟩ := decide_forbids h
  obtain ⟨-, -, -, hn⟩ := check_zero.1 c
  have c' : ¬ checkV l s ≠ 0 := by simp [c]
  have hd : decideV l s = (verdictOf ((forbs s l).map Me.id) ((forbs s l).map Me.id) ((blocksM s l []).map Me.id), 0) := by
    unfold decideV licensedV; rw [if_neg c', left_nil]
  have hb : (decideV l s).1.blocks = (blocksM s l []).map Me.id := by
    rw [hd]
    unfold verdictOf
    by_cases h1 : (forbs s l).map Me.id = []
    · rw [if_pos h1]
      have h2 : forbs s l = [] := by simpa using h1
      unfold blocksM
      rw [left_nil, h2]
      simp
    · rw [if_neg h1, if_neg h1]
      split
      · rename_i h2; rw [h2]
      · rfl
  rw [f, hb, blocks_filter hn]
  refine ⟨fun m hm => ⟨?_, (contains_id hn hm).symm⟩, by rw [List.length_map, forbs_filter], by rw [List.length_map], ?_⟩
  · rw [forbs_filter, contains_id hn hm]
  · rw [hd, blocks_filter hn]
    unfold verdictOf
    rw [forbs_filter]
    obtain ⟨A, hA⟩ : ∃ A, A = l.filter (fB l s) := ⟨_, rfl⟩
    have hAB : A = [] → l.filter (bB l s (A.map Me.id)) = [] := fun h0 => by
      rw [h0]
      rw [List.filter_eq_nil_iff]
      intro m hm
      unfold bB agB
      simp
    rw [← hA]
    by_cases h1 : A = []
    · rw [hAB h1, h1]
      simp
    · have h1' : A.map Me.id ≠ [] := by simpa using h1
      rw [if_neg h1', if_neg h1']
      by_cases h2 : l.filter (bB l s (A.map Me.id)) = []
      · rw [h2]
        have : 0 < A.length := List.length_pos_iff.2 h1
        simp [this]
      · have h2' : (l.filter (bB l s (A.map Me.id))).map Me.id ≠ [] := by simpa using h2
        rw [if_neg h2', if_pos (List.length_pos_iff.2 h2)]
end
end Go.Cz.Vd
namespace Go.Proofs.YtakadfdnhlfijaaGreatDoor
open Go.RowKit Go.Cz Go.Cz.Lx Go.Cz.Fo Go.Cz.Vd
set_option linter.unusedSimpArgs false
set_option linter.unusedVariables false
def nums (L : List Nat) : List Value := L.map fun (i : Nat) => .int .i64 (i : Int)
theorem info_ix : (Tryz.prog.info? 3).map (fun i => (i.zero, i.size, i.bytes)) = some (some (.int .i64 0), 1, 8) := by kernel_rfl
def irw (v : Value) (L : List Nat) : Piece where
  lies w S := w.ownsRow 0 3 1 v L.length (nums L) ∧ S = v.ownBlock.toList
  lt := by
    rintro w S ⟨h, rfl⟩ k hk
    rcases h.2 with ⟨rfl, _⟩ | ⟨g, cap, cur, rfl, _, hg, _⟩
    · simp [Value.ownBlock] at hk
    · simp [Value.ownBlock] at hk
      subst hk
      exact lt_of_block hg
  keep := by
    rintro w w' S T ⟨h, rfl⟩ hm hd
    refine ⟨⟨h.1, ?_⟩, rfl⟩
    rcases h.2 with h0 | ⟨g, cap, cur, rfl, h2, hg, h4⟩
    · exact .inl h0
    · exact .inr ⟨g, cap, cur, rfl, h2, hm.heap hg (hd g (by simp [Value.ownBlock])), h4⟩
end Go.Proofs.YtakadfdnhlfijaaGreatDoor
namespace Go.Cz
open Go.RowKit Go.Cz.Lx Go.Cz.Fo Go.Cz.Vd Go.Proofs.YtakadfdnhlfijaaGreatDoor
section
variable {w0 w w' : World} {ps : List Piece} {v v' : Value} {L L' : List Nat}
theorem Owns.irNew (h : Owns w0 w ps) : Owns w0 w (irw (.slice none 0 0) [] :: ps) :=
  h.push (Q := irw (.slice none 0 0) []) (S := []) ⟨⟨by simp [nums], .inl ⟨rfl, rfl⟩⟩, rfl⟩ (Below.refl _ _) (by simp)
theorem Owns.irRow (h : Owns w0 w (irw v L :: ps)) : w.ownsRow 0 3 1 v L.length (nums L) := by
  obtain ⟨S, ⟨hr, -⟩, -⟩ := h.first
  exact hr
theorem Owns.irGrew (h : Owns w0 w (irw v L :: ps)) (hr : w'.ownsRow 0 3 1 v' L'.length (nums L')) (hg : w.grownBy w' v.ownBlock) (hb : v'.ownBlock = v.ownBlock ∨ v'.ownBlock = some w.heap.size) : Owns w0 w' (irw v' L' :: ps) := by
  obtain ⟨S, ⟨h1, rfl⟩, -, hf⟩ := h.open
  refine hf w' _ v'.ownBlock.toList ⟨hr, rfl⟩ ⟨hg.os, hg.tape, hg.output, hg.size, fun k hk hn => hg.block k hk fun e => hn (by rw [← e]; simp)⟩ fun k hk => ?_
  rcases hb with hb | hb
  · exact .inl (by rw [← hb]; exact hk)
  · rw [hb] at hk
    simp at hk
    exact .inr (by omega)
theorem Owns.irForm (h : Owns w0 w (irw v L :: ps)) : ∃ y c, v = .slice y L.length c := by
  rcases h.irRow.2 with ⟨h1, h2⟩ | ⟨g, c, cur, h1, -⟩
  · exact ⟨_, 0, by rw [h1, h2]⟩
  · exact ⟨_, c, h1⟩
theorem Owns.irGet {y : Option Addr} {n c j i : Nat} (h : Owns w0 w (irw (.slice y n c) L :: ps)) (hj : L[j]? = some i) : ∃ g, y = some ⟨g, 0, none⟩ ∧ g < w.heap.size ∧ w.cell? ⟨g, j, none⟩ = some (.int .i64 (i : Int)) := by
  rcases h.irRow.2 with ⟨h1, h2⟩ | ⟨g, c, cur, hv, h2, hg, h4, h5, h6, h7⟩
  · have : L = [] := List.length_eq_zero_iff.1 h2
    subst this
    simp at hj
  · cases hv
    refine ⟨g, rfl, lt_of_block hg, ?_⟩
    rw [cell_of_heap hg]
    have h8 : (nums L)[j]? = some (.int .i64 (i : Int)) := by simp [nums, hj]
    rw [← h7, List.getElem?_take] at h8
    split at h8
    · simpa using h8
    · cases h8
end
end Go.Cz
namespace Go.Proofs.YtakadfdnhlfijaaGreatDoor
open Go.RowKit Go.Cz Go.Cz.Lx Go.Cz.Fo
set_option linter.unusedSimpArgs false
set_option linter.unusedVariables false
attribute [local go_sem] bs_size bs_extract bs_append bs_toList
attribute [local irreducible] cList cPlan
section
variable {p : Nat → Prop}
theorem valueAll_take {d : List Fact} {c : List Int} {k : Nat} {q : Fm} : ∀ {ks : List Fm}, ks[k]? = some q → valueAll d c (ks.take (k + 1)) = (valueAll d c (ks.take k) && valueF d c q)
  | [], h => by simp at h
  | a :: r, h => by
    cases k with
    | zero => simp at h; subst h; simp [valueAll]
    | succ k =>
      have := valueAll_take (d := d) (c := c) (ks := r) (k := k) (q := q) (by simpa using h)
      rw [List.take_succ_cons, List.take_succ_cons, valueAll, valueAll, this, Bool.and_assoc]
theorem valueAny_take {d : List Fact} {c : List Int} {k : Nat} {q : Fm} : ∀ {ks : List Fm}, ks[k]? = some q → valueAny d c (ks.take (k + 1)) = (valueAny d c (ks.take k) || valueF d c q)
  | [], h => by simp at h
  | a :: r, h => by
    cases k with
    | zero => simp at h; subst h; simp [valueAny]
    | succ k =>
      have := valueAny_take (d := d) (c := c) (ks := r) (k := k) (q := q) (by simpa using h)
      rw [List.take_succ_cons, List.take_succ_cons, valueAny, valueAny, this, Bool.or_assoc]
theorem valueAll_false {d : List Fact} {c : List Int} {q : Fm} : ∀ {ks : List Fm}, q ∈ ks → valueF d c q = false → valueAll d c ks = false
  | a :: r, h, e => by
    rw [valueAll]
    rcases List.mem_cons.1 h with rfl | h
    · rw [e]; rfl
    · rw [valueAll_false h e]; simp
theorem valueAny_true {d : List Fact} {c : List Int} {q : Fm} : ∀ {ks : List Fm}, q ∈ ks → valueF d c q = true → valueAny d c ks = true
  | a :: r, h, e => by
    rw [valueAny]
    rcases List.mem_cons.1 h with rfl | h
    · rw [e]; rfl
    · rw [valueAny_true h e]; simp
set_option maxRecDepth 100000 in
set_option maxHeartbeats 8000000 in
theorem r26Value_c (w0 : World) (d : List Fact) (c : List Int) (yd yc : Option Addr) (M md mc : Nat) (hd : IsD w0 d (.slice yd M md)) (hc : IsC w0 c (.slice yc M mc)) (hl : c.length = d.length) (hn : d.length ≤ 1000000) (hM : M = d.length) (hun : ∀ (i j : Nat) (x y : Fact), d[i]? = some x → d[j]? = some y → x.name = y.name → i = j) (hx : ∀ x ∈ d, x.name.length ≤ 140737488355328) {lim : Nat} (hlim : lim ≤ 140737488355328)
    (f : Fm) : ∀ (w : World) (kv : Value), Below w0.heap.size w0 w → IsFm p w0 f kv → short lim f = true → size f ≤ 900000 → firstF (nodeE d) f = 0 →
    Calls Tryz.prog 65 #[fval f kv, .agg #[.slice yd M md], .slice yc M mc] w (fun e w' => e = .returned (.bool (valueF d c f)) ∧ Below w.heap.size w w') := by
  have HD := Lib.hid hd
  have HC := Lib.hid hc
  have HX := Lib.hid hx
  have HDn := Lib.hid hn
  have HLim := Lib.hid hlim
  have HLe := Lib.hid hl
  have HM := Lib.hid hM
  have HUn := Lib.hid hun
  have hM9 : M ≤ 1000000 := by omega
  clear hd hx hn hlim hc hl hM hun
  refine Fm.induct (P := fun f => ∀ (w : World) (kv : Value), Below w0.heap.size w0 w → IsFm p w0 f kv → short lim f = true → size f ≤ 900000 → firstF (nodeE d) f = 0 →
    Calls Tryz.prog 65 #[fval f kv, .agg #[.slice yd M md], .slice yc M mc] w (fun e w' => e = .returned (.bool (valueF d c f)) ∧ Below w.heap.size w w')) ?_ f
  clear f
  intro f ih w kv hw hf hs hz h0
  have HI := Lib.hid ih
  have HS := Lib.hid hs
  have HZ := Lib.hid hz
  have HW := Lib.hid hw
  have HZ0 := Lib.hid ((firstF_zero f).1 h0)
  have hN9 := length_sizes f.kids
  rw [size_kids] at hz
  obtain ⟨y, m, rfl⟩ := hf.form
  obtain ⟨N, hN⟩ : ∃ N, N = f.kids.length := ⟨_, rfl⟩
  have HN := Lib.hid hN
  rw [← hN] at hf ⊢
  have HF := Lib.hid hf
  clear hN hf
  obtain ⟨W1, hW1⟩ : ∃ W1, W1 = (w.alloc (fobj f (.slice y N m))).alloc (.cells #[.slice yd M md] 25) := ⟨_, rfl⟩
  obtain ⟨bf, hbf⟩ : ∃ bf, bf = w.heap.size := ⟨_, rfl⟩
  obtain ⟨bd, hbd⟩ : ∃ bd, bd = w.heap.size + 1 := ⟨_, rfl⟩
  have HO : Hid (Owns w W1 [blk bf (fobj f (.slice y N m)), blk bd (.cells #[.slice yd M md] 25 (0, 0))]) := by
    rw [hW1, hbf, hbd]
    have := ((Owns.start w).box (fobj f (.slice y N m))).box (.cells #[.slice yd M md] 25 (0, 0))
    rw [World.size_alloc] at this
    exact Lib.hid this.swap
  have hN9 : N ≤ 900000 := by have := HN.out; omega
  clear ih hs hz hw h0
  have HKI : Hid (∀ (q : Fm) (qv : Value) (W : World), q ∈ f.kids → IsFm p w0 q qv → Below w0.heap.size w0 W → Calls Tryz.prog 65 #[fval q qv, .agg #[.slice yd M md], .slice yc M mc] W fun e w' => e = .returned (.bool (valueF d c q)) ∧ Below W.heap.size W w') := by
    intro q qv W hm hq hW
    exact HI.out q hm W qv hW hq (short_kid HS.out hm) (by have := HZ.out; rw [size_kids] at this; have := size_mem hm; omega) (HZ0.out.2 q hm)
  have hnode := HZ0.out.1
  have hform : formedB f = true := by
    unfold nodeE at hnode
    cases hb : formedB f
    · rw [if_pos hb] at hnode; simp at hnode
    · rfl
  obtain ⟨o, ho⟩ : ∃ o, o = f.op := ⟨_, rfl⟩
  have HOp := Lib.hid ho
  have hcase := formed_cases hform
  have hsl : f.name.length ≤ 140737488355328 := Nat.le_trans (short_name HS.out) HLim.out
  have hidx : o = 3 → 0 ≤ idxD f.name d := fun h => by
    unfold nodeE at hnode
    rw [if_neg (by rw [hform]; simp), if_neg (by rw [← ho]; simpa using h)] at hnode
    split at hnode
    · simp at hnode
    · split at hnode
      · simp at hnode
      · omega
  rw [← ho] at hcase
  simp only [fobj, fval] at hW1 ⊢
  rw [← ho] at hW1 ⊢
  go_enter Tryz.func65, Tryz.ntmps65
  clear hnode hform ho
  focus
    by_cases h3 : o = 3
    · subst h3
      obtain ⟨-, -, hm1, hm6, -⟩ := hcase.resolve_right (fun h => by omega)
      have hi0 := hidx rfl
      clear hcase hidx
      obtain ⟨j, hj⟩ : ∃ j : Nat, idxD f.name d = (j : Int) := ⟨(idxD f.name d).toNat, by omega⟩
      obtain ⟨z, hz, hzn⟩ := idxD_get hi0
      rw [hj, Int.toNat_natCast] at hz
      have hjl : j < d.length := (List.getElem?_eq_some_iff.1 hz).1
      obtain ⟨u, hu⟩ : ∃ u, c[j]? = some u := ⟨_, List.getElem?_eq_getElem (by rw [HLe.out]; exact hjl)⟩
      have HV : Hid (valueF d c f = cmpB u f.cmp f.num) := by
        show _ = _
        rw [valueF_eq, if_pos HOp.out.symm, hj, Int.toNat_natCast, List.getD_eq_getElem?_getD, hu]; rfl
      have HZn : Hid (d[j]? = some z ∧ z.name = f.name) := Lib.hid ⟨hz, hzn⟩
      have HU := Lib.hid hu
      have hjM : j < M := by rw [HM.out]; exact hjl
      clear hi0 hz hzn hu hj hjl
      go_wp2_with fail
      rw [← hW1]
      try rw [← hbd]
      try rw [← hbf]
      clear hW1 hbf hbd
      go_loopg [7, 8] M (fun gk v i wr => ∃ k : Nat, gk = M - k ∧ k ≤ M ∧ v = .int .i64 (if j < k then u else 0) ∧ i = .int .i64 (k : Int) ∧ Hid (Owns w wr [blk bf (fobj f (.slice y N m)), blk bd (.cells #[.slice yd M md] 25 (0, 0))]))
      case atStart => exact ⟨0, rfl, Nat.zero_le _, rfl, rfl, HO⟩
      case round =>
        rename_i J1 K1 hJ1 hK1
        clear HO
        obtain ⟨k, rfl, hk, rfl, rfl, HO⟩ := hrel
        obtain ⟨v, hv⟩ : ∃ v, v = if j < k then u else 0 := ⟨_, rfl⟩
        rw [← hv]
        have HV0 := Lib.hid hv
        clear hv
        obtain ⟨bk, -⟩ := HO.out.swap.blk
        have hbd' := lt_of_block bk
        have cd0 := cell_of_heap bk (i := 0)
        simp only [List.getElem?_toArray, List.getElem?_cons_succ, List.getElem?_cons_zero] at cd0
        clear bk
        by_cases hlt : k < M
        · obtain ⟨x, hx⟩ : ∃ x, d[k]? = some x := ⟨_, List.getElem?_eq_getElem (by rw [← HM.out]; exact hlt)⟩
          obtain ⟨x2, hx2⟩ : ∃ x, c[k]? = some x := ⟨_, List.getElem?_eq_getElem (by rw [HLe.out, ← HM.out]; exact hlt)⟩
          have HWr := Lib.hid (HW.out.trans (HO.out.base.mono HW.out.size))
          obtain ⟨g, off, rfl, -, -⟩ := HD.out.get HWr.out hx
          obtain ⟨gc, oc, rfl, -, -⟩ := HC.out.get HWr.out hx2
          have HX := Lib.hid hx
          have HX2 := Lib.hid hx2
          clear hx hx2 HWr
          go_wp2_with fail
          refine wp_region_can [] (List.range 9) (by decide +kernel) (by decide +kernel) ?_
          clear cd0 hbd'
          replace HO := Lib.hid HO.out.drew
          obtain ⟨W5, hW5⟩ : ∃ W5, W5 = wr.drew := ⟨_, rfl⟩
          rw [← hW5] at HO ⊢
          clear hW5
          have HWr := Lib.hid (HW.out.trans (HO.out.base.mono HW.out.size))
          obtain ⟨g', off', e, hg, n0, -⟩ := HD.out.get HWr.out HX.out
          cases e
          obtain ⟨g', off', e, hgc, n1⟩ := HC.out.get HWr.out HX2.out
          cases e
          obtain ⟨bk, -⟩ := HO.out.blk
          have hbf := lt_of_block bk
          have cb0 := cell_of_heap bk (i := 0)
          have cb1 := cell_of_heap bk (i := 1)
          have cb2 := cell_of_heap bk (i := 2)
          have cb3 := cell_of_heap bk (i := 3)
          have cb4 := cell_of_heap bk (i := 4)
          simp only [List.getElem?_toArray, List.getElem?_cons_succ, List.getElem?_cons_zero] at cb0 cb1 cb2 cb3 cb4
          clear bk
          obtain ⟨bk, -⟩ := HO.out.swap.blk
          have hbd' := lt_of_block bk
          have cd0 := cell_of_heap bk (i := 0)
          simp only [List.getElem?_toArray, List.getElem?_cons_succ, List.getElem?_cons_zero] at cd0
          clear bk
          iterate 8 (refine cl_do rfl rfl rfl rfl (fun _ _ => ?_); go_wp2_with fail)
          by_cases hn : x.name = f.name
          · have hn1 : (x.name == f.name) = true := by simpa using hn
            obtain rfl : k = j := HUn.out k j x z HX.out HZn.out.1 (hn.trans HZn.out.2.symm)
            obtain rfl : x2 = u := by have h1 := HX2.out; rw [HU.out] at h1; simpa using h1.symm
            clear hn HV0
            refine cl_do rfl rfl rfl rfl (fun _ _ => ?_)
            go_wp2_with fail
            refine cl_nil ?_
            go_wp2_with fail
            clear hg n0 hgc n1 cb0 cb1 cb2 cb3 cb4 hbf cd0 hbd' hn1
            go_roundg (M - (k + 1))
            case measure => omega
            case rel => exact ⟨k + 1, rfl, by omega, by rw [if_pos (by omega)], by go_num, HO⟩
          · have hn1 : (x.name == f.name) = false := by simpa using hn
            have hkj : k ≠ j := fun e => by
              subst e
              have h1 := HX.out
              rw [HZn.out.1] at h1
              simp only [Option.some.injEq] at h1
              exact hn (by rw [← h1]; exact HZn.out.2)
            have hv2 : v = if j < k + 1 then u else 0 := by
              rw [HV0.out]
              by_cases h1 : j < k
              · rw [if_pos h1, if_pos (by omega)]
              · rw [if_neg h1, if_neg (by omega)]
            have HV2 := Lib.hid hv2
            clear hn HV0 hkj hv2
            refine cl_do rfl rfl rfl rfl (fun _ _ => ?_)
            go_wp2_with fail
            refine cl_nil ?_
            go_wp2_with fail
            clear hg n0 hgc n1 cb0 cb1 cb2 cb3 cb4 hbf cd0 hbd' hn1
            go_roundg (M - (k + 1))
            case measure => omega
            case rel => exact ⟨k + 1, rfl, by omega, by rw [HV2.out], by go_num, HO⟩
        · obtain rfl : k = M := by omega
          obtain rfl : v = u := by rw [HV0.out, if_pos hjM]
          clear hJ1 hK1 hlt
          have h16 : f.cmp = 1 ∨ f.cmp = 2 ∨ f.cmp = 3 ∨ f.cmp = 4 ∨ f.cmp = 5 ∨ f.cmp = 6 := by omega
          obtain ⟨bk, -⟩ := HO.out.blk
          have hbf := lt_of_block bk
          have cb0 := cell_of_heap bk (i := 0)
          have cb1 := cell_of_heap bk (i := 1)
          have cb2 := cell_of_heap bk (i := 2)
          have cb3 := cell_of_heap bk (i := 3)
          have cb4 := cell_of_heap bk (i := 4)
          simp only [List.getElem?_toArray, List.getElem?_cons_succ, List.getElem?_cons_zero] at cb0 cb1 cb2 cb3 cb4
          clear bk
          go_upto_region 11 with fail
          simp only [List.append_eq, List.cons_append, List.nil_append]
          rcases h16 with h | h | h | h | h | h
          · have HC := Lib.hid h
            have k1 : (f.cmp == 1) = true := by rw [h]; rfl
            have k2 : (f.cmp == 2) = false := by rw [h]; rfl
            have k3 : (f.cmp == 3) = false := by rw [h]; rfl
            have k4 : (f.cmp == 4) = false := by rw [h]; rfl
            have k5 : (f.cmp == 5) = false := by rw [h]; rfl
            have k6 : (f.cmp == 6) = false := by rw [h]; rfl
            clear h hm1 hm6
            by_cases q : v = f.num
            · have HE : Hid (valueF d c f = true) := by show _ = _; rw [HV.out, HC.out]; simp [cmpB, q]
              have q1 : (v == f.num) = true := by simpa using q
              clear q
              go_wp2_with fail
              go_ret
              exact ⟨by rw [HE.out]; rfl, HO.out.base⟩
            · have HE : Hid (valueF d c f = false) := by show _ = _; rw [HV.out, HC.out]; simp [cmpB, q]
              have q1 : (v == f.num) = false := by simpa using q
              clear q
              go_wp2_with fail
              go_ret
              exact ⟨by rw [HE.out]; rfl, HO.out.base⟩
          · have HC := Lib.hid h
            have k1 : (f.cmp == 1) = false := by rw [h]; rfl
            have k2 : (f.cmp == 2) = true := by rw [h]; rfl
            have k3 : (f.cmp == 3) = false := by rw [h]; rfl
            have k4 : (f.cmp == 4) = false := by rw [h]; rfl
            have k5 : (f.cmp == 5) = false := by rw [h]; rfl
            have k6 : (f.cmp == 6) = false := by rw [h]; rfl
            clear h hm1 hm6
            by_cases q : v = f.num
            · have HE : Hid (valueF d c f = false) := by show _ = _; rw [HV.out, HC.out]; simp [cmpB, q]
              have q1 : (v != f.num) = false := by simpa using q
              clear q
              go_wp2_with fail
              go_ret
              exact ⟨by rw [HE.out]; rfl, HO.out.base⟩
            · have HE : Hid (valueF d c f = true) := by show _ = _; rw [HV.out, HC.out]; simp [cmpB, q]
              have q1 : (v != f.num) = true := by simpa using q
              clear q
              go_wp2_with fail
              go_ret
              exact ⟨by rw [HE.out]; rfl, HO.out.base⟩
          · have HC := Lib.hid h
            have k1 : (f.cmp == 1) = false := by rw [h]; rfl
            have k2 : (f.cmp == 2) = false := by rw [h]; rfl
            have k3 : (f.cmp == 3) = true := by rw [h]; rfl
            have k4 : (f.cmp == 4) = false := by rw [h]; rfl
            have k5 : (f.cmp == 5) = false := by rw [h]; rfl
            have k6 : (f.cmp == 6) = false := by rw [h]; rfl
            clear h hm1 hm6
            by_cases q : v < f.num
            · have HE : Hid (valueF d c f = true) := by show _ = _; rw [HV.out, HC.out]; simp [cmpB, q]
              go_wp2_with fail
              go_ret
              exact ⟨by rw [HE.out]; rfl, HO.out.base⟩
            · have HE : Hid (valueF d c f = false) := by show _ = _; rw [HV.out, HC.out]; simp [cmpB, q]
              go_wp2_with fail
              go_ret
              exact ⟨by rw [HE.out]; rfl, HO.out.base⟩
          · have HC := Lib.hid h
            have k1 : (f.cmp == 1) = false := by rw [h]; rfl
            have k2 : (f.cmp == 2) = false := by rw [h]; rfl
            have k3 : (f.cmp == 3) = false := by rw [h]; rfl
            have k4 : (f.cmp == 4) = true := by rw [h]; rfl
            have k5 : (f.cmp == 5) = false := by rw [h]; rfl
            have k6 : (f.cmp == 6) = false := by rw [h]; rfl
            clear h hm1 hm6
            by_cases q : v ≤ f.num
            · have HE : Hid (valueF d c f = true) := by show _ = _; rw [HV.out, HC.out]; simp [cmpB, q]
              go_wp2_with fail
              go_ret
              exact ⟨by rw [HE.out]; rfl, HO.out.base⟩
            · have HE : Hid (valueF d c f = false) := by show _ = _; rw [HV.out, HC.out]; simp [cmpB, q]
              go_wp2_with fail
              go_ret
              exact ⟨by rw [HE.out]; rfl, HO.out.base⟩
          · have HC := Lib.hid h
            have k1 : (f.cmp == 1) = false := by rw [h]; rfl
            have k2 : (f.cmp == 2) = false := by rw [h]; rfl
            have k3 : (f.cmp == 3) = false := by rw [h]; rfl
            have k4 : (f.cmp == 4) = false := by rw [h]; rfl
            have k5 : (f.cmp == 5) = true := by rw [h]; rfl
            have k6 : (f.cmp == 6) = false := by rw [h]; rfl
            clear h hm1 hm6
            by_cases q : f.num < v
            · have HE : Hid (valueF d c f = true) := by show _ = _; rw [HV.out, HC.out]; simp [cmpB, q]
              go_wp2_with fail
              go_ret
              exact ⟨by rw [HE.out]; rfl, HO.out.base⟩
            · have HE : Hid (valueF d c f = false) := by show _ = _; rw [HV.out, HC.out]; simp [cmpB, q]
              go_wp2_with fail
              go_ret
              exact ⟨by rw [HE.out]; rfl, HO.out.base⟩
          · have HC := Lib.hid h
            have k1 : (f.cmp == 1) = false := by rw [h]; rfl
            have k2 : (f.cmp == 2) = false := by rw [h]; rfl
            have k3 : (f.cmp == 3) = false := by rw [h]; rfl
            have k4 : (f.cmp == 4) = false := by rw [h]; rfl
            have k5 : (f.cmp == 5) = false := by rw [h]; rfl
            have k6 : (f.cmp == 6) = true := by rw [h]; rfl
            clear h hm1 hm6
            by_cases q : f.num ≤ v
            · have HE : Hid (valueF d c f = true) := by show _ = _; rw [HV.out, HC.out]; simp [cmpB, q]
              go_wp2_with fail
              go_ret
              exact ⟨by rw [HE.out]; rfl, HO.out.base⟩
            · have HE : Hid (valueF d c f = false) := by show _ = _; rw [HV.out, HC.out]; simp [cmpB, q]
              go_wp2_with fail
              go_ret
              exact ⟨by rw [HE.out]; rfl, HO.out.base⟩
    have h3' : (o == 3) = false := by simpa using h3
    have hcase2 := (hcase.resolve_left (fun h => h3 h.1)).2
    clear hcase hidx
    by_cases h4 : o = 4
    · subst h4
      obtain ⟨q, hq⟩ : ∃ q, f.kids = [q] := by
        rcases hcase2 with h | h | h
        · omega
        · exact h.2
        · omega
      have hN1 : N = 1 := by rw [HN.out, hq]; rfl
      subst hN1
      have HQ : Hid (f.kids[0]? = some q) := by show _ = _; rw [hq]; rfl
      have HV : Hid (valueF d c f = !valueF d c q) := by
        show _ = _
        rw [valueF_eq, ← HOp.out, hq]
        simp [valueAll]
      clear hq hcase2
      go_wp2_with fail
      rw [← hW1]
      try rw [← hbd]
      try rw [← hbf]
      clear hW1 hbf hbd
      refine wp_region_can [6] (List.range 9) (by decide +kernel) (by decide +kernel) ?_
      replace HO := Lib.hid HO.out.drew
      obtain ⟨W5, hW5⟩ : ∃ W5, W5 = W1.drew := ⟨_, rfl⟩
      rw [← hW5] at HO ⊢
      clear hW5
      have HWr := Lib.hid (HW.out.trans (HO.out.base.mono HW.out.size))
      obtain ⟨g, off, kv, rfl, hg, hkv, c0, c1, c2, c3, c4⟩ := HF.out.old HWr.out HQ.out
      simp only [Nat.zero_mul, Nat.add_zero] at c0 c1 c2 c3 c4
      obtain ⟨y2, m2, rfl⟩ := hkv.form
      have HKv := Lib.hid hkv
      clear hkv
      obtain ⟨N2, hN2⟩ : ∃ N2, N2 = q.kids.length := ⟨_, rfl⟩
      rw [← hN2] at c4 HKv
      clear hN2
      obtain ⟨bk, -⟩ := HO.out.blk
      have hbf := lt_of_block bk
      have cb0 := cell_of_heap bk (i := 0)
      have cb1 := cell_of_heap bk (i := 1)
      have cb2 := cell_of_heap bk (i := 2)
      have cb3 := cell_of_heap bk (i := 3)
      have cb4 := cell_of_heap bk (i := 4)
      simp only [List.getElem?_toArray, List.getElem?_cons_succ, List.getElem?_cons_zero] at cb0 cb1 cb2 cb3 cb4
      clear bk
      obtain ⟨bk, -⟩ := HO.out.swap.blk
      have hbd' := lt_of_block bk
      have cd0 := cell_of_heap bk (i := 0)
      simp only [List.getElem?_toArray, List.getElem?_cons_succ, List.getElem?_cons_zero] at cd0
      clear bk
      iterate 6 (refine cl_do rfl rfl rfl rfl (fun _ _ => ?_); go_wp2_with fail)
      refine cl_call (i := 6) rfl rfl rfl (fun K hK => ?_)
      clear cb0 cb1 cb2 cb3 cb4 hbf c0 c1 c2 c3 c4 hg cd0 hbd'
      go_wp2_with fail
      go_at_call 65
      have a4 := List.mem_of_getElem? HQ.out
      have a1 := HKI.out q
      have a2 := HKv.out
      have a3 := HWr.out
      have h := a1 _ _ a4 a2 a3
      clear a1 a2 a3 a4
      refine h.mono ?_
      clear h
      rintro e W6 ⟨rfl, hb⟩
      have Hb := Lib.hid hb
      replace HO := Lib.hid (HO.out.below hb)
      clear hb
      obtain ⟨x, hx⟩ : ∃ x, x = valueF d c q := ⟨_, rfl⟩
      rw [← hx] at HV ⊢
      clear hx
      go_wp2_with fail
      refine And.intro Hb.out ?_
      clear Hb
      iterate 2 (refine cl_do rfl rfl rfl rfl (fun _ _ => ?_); go_wp2_with fail)
      refine cl_nil ?_
      go_wp2_with fail
      go_ret
      exact ⟨by rw [HV.out]; rfl, HO.out.base⟩
    have h4' : (o == 4) = false := by simpa using h4
    by_cases h1 : o = 1
    · subst h1
      have HV : Hid (valueF d c f = true) := by
        show _ = _
        rw [valueF_eq, ← HOp.out]
        simp
      clear hcase2 h3 h4
      go_wp2_with fail
      rw [← hW1]
      clear hW1 hbf hbd
      go_ret
      exact ⟨by rw [HV.out]; rfl, HO.out.base⟩
    have h1' : (o == 1) = false := by simpa using h1
    by_cases h5 : o = 5
    · subst h5
      have HV : Hid (valueF d c f = valueAll d c f.kids) := by
        show _ = _
        rw [valueF_eq, ← HOp.out]
        simp
      clear hcase2 h3 h4 h1
      go_wp2_with fail
      rw [← hW1]
      try rw [← hbd]
      try rw [← hbf]
      clear hW1 hbf hbd
      have H0 : Hid (valueAll d c (f.kids.take 0) = true) := by show _ = _; simp [valueAll]
      go_loopg [9] N (fun gk i wr => ∃ k : Nat, gk = N - k ∧ k ≤ N ∧ i = .int .i64 (k : Int) ∧ Hid (valueAll d c (f.kids.take k) = true) ∧ Hid (Owns w wr [blk bf (fobj f (.slice y N m)), blk bd (.cells #[.slice yd M md] 25 (0, 0))]))
      case atStart => exact ⟨0, rfl, Nat.zero_le _, rfl, H0, HO⟩
      case round =>
        rename_i J1 K1 hJ1 hK1
        clear HO H0
        obtain ⟨k, rfl, hk, rfl, HC, HO⟩ := hrel
        have HWr := Lib.hid (HW.out.trans (HO.out.base.mono HW.out.size))
        by_cases hlt : k < N
        · obtain ⟨q, hq⟩ : ∃ q, f.kids[k]? = some q := ⟨_, List.getElem?_eq_getElem (by rw [← HN.out]; exact hlt)⟩
          have HQ := Lib.hid hq
          obtain ⟨bk, -⟩ := HO.out.blk
          have hbf := lt_of_block bk
          have cb0 := cell_of_heap bk (i := 0)
          have cb1 := cell_of_heap bk (i := 1)
          have cb2 := cell_of_heap bk (i := 2)
          have cb3 := cell_of_heap bk (i := 3)
          have cb4 := cell_of_heap bk (i := 4)
          simp only [List.getElem?_toArray, List.getElem?_cons_succ, List.getElem?_cons_zero] at cb0 cb1 cb2 cb3 cb4
          clear bk
          go_wp2_with fail
          refine wp_region_can [7] (List.range 9) (by decide +kernel) (by decide +kernel) ?_
          clear cb0 cb1 cb2 cb3 cb4 hbf
          replace HO := Lib.hid HO.out.drew
          replace HWr := Lib.hid (HW.out.trans (HO.out.base.mono HW.out.size))
          obtain ⟨W5, hW5⟩ : ∃ W5, W5 = wr.drew := ⟨_, rfl⟩
          rw [← hW5] at HO HWr ⊢
          clear hW5
          obtain ⟨g, off, kv, rfl, hg, hkv, c0, c1, c2, c3, c4⟩ := HF.out.old HWr.out hq
          obtain ⟨y2, m2, rfl⟩ := hkv.form
          have HK := Lib.hid hkv
          clear hq hkv
          obtain ⟨N2, hN2⟩ : ∃ N2, N2 = q.kids.length := ⟨_, rfl⟩
          rw [← hN2] at c4 HK
          clear hN2
          obtain ⟨bk, -⟩ := HO.out.blk
          have hbf := lt_of_block bk
          have cb0 := cell_of_heap bk (i := 0)
          have cb1 := cell_of_heap bk (i := 1)
          have cb2 := cell_of_heap bk (i := 2)
          have cb3 := cell_of_heap bk (i := 3)
          have cb4 := cell_of_heap bk (i := 4)
          simp only [List.getElem?_toArray, List.getElem?_cons_succ, List.getElem?_cons_zero] at cb0 cb1 cb2 cb3 cb4
          clear bk
          obtain ⟨bk, -⟩ := HO.out.swap.blk
          have hbd' := lt_of_block bk
          have cd0 := cell_of_heap bk (i := 0)
          simp only [List.getElem?_toArray, List.getElem?_cons_succ, List.getElem?_cons_zero] at cd0
          clear bk
          iterate 7 (refine cl_do rfl rfl rfl rfl (fun _ _ => ?_); go_wp2_with fail)
          refine cl_call (i := 7) rfl rfl rfl (fun K hK => ?_)
          clear cb0 cb1 cb2 cb3 cb4 hbf cd0 hbd' c0 c1 c2 c3 c4 hg
          go_wp2_with fail
          go_at_call 65
          have hm := List.mem_of_getElem? HQ.out
          have a1 := HKI.out q
          have a2 := HK.out
          have a3 := HWr.out
          have h := a1 _ _ hm a2 a3
          clear a1 a2 a3
          refine h.mono ?_
          clear h
          rintro e W6 ⟨rfl, hb⟩
          have Hb := Lib.hid hb
          have HO6 := Lib.hid (HO.out.below hb)
          obtain ⟨x, hx⟩ : ∃ x, x = valueF d c q := ⟨_, rfl⟩
          rw [← hx]
          have HX2 := Lib.hid hx
          clear hx hb HO hm
          go_wp2_with fail
          refine And.intro Hb.out ?_
          clear Hb
          iterate 1 (refine cl_do rfl rfl rfl rfl (fun _ _ => ?_); go_wp2_with fail)
          refine cl_nil ?_
          cases x
          · have HC2 : Hid (valueF d c f = false) := by
              show _ = _
              rw [HV.out]
              exact valueAll_false (List.mem_of_getElem? HQ.out) HX2.out.symm
            clear HC HX2
            clear hJ1 hK1
            go_wp2_with fail
            go_ret
            exact ⟨by rw [HC2.out]; rfl, HO6.out.base⟩
          · have HC2 : Hid (valueAll d c (f.kids.take (k + 1)) = true) := by
              show _ = _
              rw [valueAll_take HQ.out, HC.out, ← HX2.out]; rfl
            clear HC HX2
            go_wp2_with fail
            go_roundg (N - (k + 1))
            case measure => omega
            case rel => exact ⟨k + 1, rfl, by omega, by go_num, HC2, HO6⟩
        · obtain rfl : k = N := by omega
          have HR : Hid (valueF d c f = true) := by
            show _ = _
            have := HC.out
            rw [HN.out, List.take_length] at this
            rw [HV.out, this]
          obtain ⟨bk, -⟩ := HO.out.blk
          have hbf := lt_of_block bk
          have cb0 := cell_of_heap bk (i := 0)
          have cb1 := cell_of_heap bk (i := 1)
          have cb2 := cell_of_heap bk (i := 2)
          have cb3 := cell_of_heap bk (i := 3)
          have cb4 := cell_of_heap bk (i := 4)
          simp only [List.getElem?_toArray, List.getElem?_cons_succ, List.getElem?_cons_zero] at cb0 cb1 cb2 cb3 cb4
          clear bk
          clear hJ1 hK1 hlt
          go_wp2_with fail
          go_ret
          exact ⟨by rw [HR.out]; rfl, HO.out.base⟩
    have h5' : (o == 5) = false := by simpa using h5
    by_cases h6 : o = 6
    · subst h6
      have HV : Hid (valueF d c f = valueAny d c f.kids) := by
        show _ = _
        rw [valueF_eq, ← HOp.out]
        simp
      clear hcase2 h3 h4 h1 h5
      go_wp2_with fail
      rw [← hW1]
      try rw [← hbd]
      try rw [← hbf]
      clear hW1 hbf hbd
      have H0 : Hid (valueAny d c (f.kids.take 0) = false) := by show _ = _; simp [valueAny]
      go_loopg [10] N (fun gk i wr => ∃ k : Nat, gk = N - k ∧ k ≤ N ∧ i = .int .i64 (k : Int) ∧ Hid (valueAny d c (f.kids.take k) = false) ∧ Hid (Owns w wr [blk bf (fobj f (.slice y N m)), blk bd (.cells #[.slice yd M md] 25 (0, 0))]))
      case atStart => exact ⟨0, rfl, Nat.zero_le _, rfl, H0, HO⟩
      case round =>
        rename_i J1 K1 hJ1 hK1
        clear HO H0
        obtain ⟨k, rfl, hk, rfl, HC, HO⟩ := hrel
        have HWr := Lib.hid (HW.out.trans (HO.out.base.mono HW.out.size))
        by_cases hlt : k < N
        · obtain ⟨q, hq⟩ : ∃ q, f.kids[k]? = some q := ⟨_, List.getElem?_eq_getElem (by rw [← HN.out]; exact hlt)⟩
          have HQ := Lib.hid hq
          obtain ⟨bk, -⟩ := HO.out.blk
          have hbf := lt_of_block bk
          have cb0 := cell_of_heap bk (i := 0)
          have cb1 := cell_of_heap bk (i := 1)
          have cb2 := cell_of_heap bk (i := 2)
          have cb3 := cell_of_heap bk (i := 3)
          have cb4 := cell_of_heap bk (i := 4)
          simp only [List.getElem?_toArray, List.getElem?_cons_succ, List.getElem?_cons_zero] at cb0 cb1 cb2 cb3 cb4
          clear bk
          go_wp2_with fail
          refine wp_region_can [7] (List.range 8) (by decide +kernel) (by decide +kernel) ?_
          clear cb0 cb1 cb2 cb3 cb4 hbf
          replace HO := Lib.hid HO.out.drew
          replace HWr := Lib.hid (HW.out.trans (HO.out.base.mono HW.out.size))
          obtain ⟨W5, hW5⟩ : ∃ W5, W5 = wr.drew := ⟨_, rfl⟩
          rw [← hW5] at HO HWr ⊢
          clear hW5
          obtain ⟨g, off, kv, rfl, hg, hkv, c0, c1, c2, c3, c4⟩ := HF.out.old HWr.out hq
          obtain ⟨y2, m2, rfl⟩ := hkv.form
          have HK := Lib.hid hkv
          clear hq hkv
          obtain ⟨N2, hN2⟩ : ∃ N2, N2 = q.kids.length := ⟨_, rfl⟩
          rw [← hN2] at c4 HK
          clear hN2
          obtain ⟨bk, -⟩ := HO.out.blk
          have hbf := lt_of_block bk
          have cb0 := cell_of_heap bk (i := 0)
          have cb1 := cell_of_heap bk (i := 1)
          have cb2 := cell_of_heap bk (i := 2)
          have cb3 := cell_of_heap bk (i := 3)
          have cb4 := cell_of_heap bk (i := 4)
          simp only [List.getElem?_toArray, List.getElem?_cons_succ, List.getElem?_cons_zero] at cb0 cb1 cb2 cb3 cb4
          clear bk
          obtain ⟨bk, -⟩ := HO.out.swap.blk
          have hbd' := lt_of_block bk
          have cd0 := cell_of_heap bk (i := 0)
          simp only [List.getElem?_toArray, List.getElem?_cons_succ, List.getElem?_cons_zero] at cd0
          clear bk
          iterate 7 (refine cl_do rfl rfl rfl rfl (fun _ _ => ?_); go_wp2_with fail)
          refine cl_call (i := 7) rfl rfl rfl (fun K hK => ?_)
          clear cb0 cb1 cb2 cb3 cb4 hbf cd0 hbd' c0 c1 c2 c3 c4 hg
          go_wp2_with fail
          go_at_call 65
          have hm := List.mem_of_getElem? HQ.out
          have a1 := HKI.out q
          have a2 := HK.out
          have a3 := HWr.out
          have h := a1 _ _ hm a2 a3
          clear a1 a2 a3
          refine h.mono ?_
          clear h
          rintro e W6 ⟨rfl, hb⟩
          have Hb := Lib.hid hb
          have HO6 := Lib.hid (HO.out.below hb)
          obtain ⟨x, hx⟩ : ∃ x, x = valueF d c q := ⟨_, rfl⟩
          rw [← hx]
          have HX2 := Lib.hid hx
          clear hx hb HO hm
          go_wp2_with fail
          refine And.intro Hb.out ?_
          clear Hb
          iterate 0 (refine cl_do rfl rfl rfl rfl (fun _ _ => ?_); go_wp2_with fail)
          refine cl_nil ?_
          cases x
          · have HC2 : Hid (valueAny d c (f.kids.take (k + 1)) = false) := by
              show _ = _
              rw [valueAny_take HQ.out, HC.out, ← HX2.out]; rfl
            clear HC HX2
            go_wp2_with fail
            go_roundg (N - (k + 1))
            case measure => omega
            case rel => exact ⟨k + 1, rfl, by omega, by go_num, HC2, HO6⟩
          · have HC2 : Hid (valueF d c f = true) := by
              show _ = _
              rw [HV.out]
              exact valueAny_true (List.mem_of_getElem? HQ.out) HX2.out.symm
            clear HC HX2
            clear hJ1 hK1
            go_wp2_with fail
            go_ret
            exact ⟨by rw [HC2.out]; rfl, HO6.out.base⟩
        · obtain rfl : k = N := by omega
          have HR : Hid (valueF d c f = false) := by
            show _ = _
            have := HC.out
            rw [HN.out, List.take_length] at this
            rw [HV.out, this]
          obtain ⟨bk, -⟩ := HO.out.blk
          have hbf := lt_of_block bk
          have cb0 := cell_of_heap bk (i := 0)
          have cb1 := cell_of_heap bk (i := 1)
          have cb2 := cell_of_heap bk (i := 2)
          have cb3 := cell_of_heap bk (i := 3)
          have cb4 := cell_of_heap bk (i := 4)
          simp only [List.getElem?_toArray, List.getElem?_cons_succ, List.getElem?_cons_zero] at cb0 cb1 cb2 cb3 cb4
          clear bk
          clear hJ1 hK1 hlt
          go_wp2_with fail
          go_ret
          exact ⟨by rw [HR.out]; rfl, HO.out.base⟩
    · have h6' : (o == 6) = false := by simpa using h6
      have HV : Hid (valueF d c f = false) := by
        show _ = _
        rw [valueF_eq, ← HOp.out, if_neg h3, if_neg h4, if_neg h5, if_neg h6, decide_eq_false h1]
      clear hcase2 h3 h4 h1 h5 h6
      go_wp2_with fail
      rw [← hW1]
      clear hW1 hbf hbd
      go_ret
      exact ⟨by rw [HV.out]; rfl, HO.out.base⟩
end
end Go.Proofs.YtakadfdnhlfijaaGreatDoor
namespace Go.Cz.Vd
set_option linter.unusedVariables false
open Go.Cz.Lx Go.Cz.Fo
open Go.Cz.Ck (Shift validB)
theorem auth_fits {d : List Fact} : ∀ (A seen : List Bytes) (Z : List (List Shift)) (C : List (List Int)) (i : Nat) (a : Bytes) (c : List Int), authL d seen A Z C = true → A[i]? = some a → C[i]? = some c → fitsB d c = true
  | [], _, _, _, i, a, c, _, h, _ => by simp at h
  | a :: ar, seen, [], C, i, x, c, h, _, _ => by simp [authL] at h
  | a :: ar, seen, z :: zs, [], i, x, c, h, _, _ => by simp [authL] at h
  | a :: ar, seen, z :: zs, c0 :: cs, 0, x, c, h, h1, h2 => by
    simp only [authL, Bool.and_eq_true] at h
    obtain rfl : c0 = c := by simpa using h2
    exact h.2.2.2.1
  | a :: ar, seen, z :: zs, c0 :: cs, i + 1, x, c, h, h1, h2 => by
    simp only [authL, Bool.and_eq_true] at h
    exact auth_fits ar (a :: seen) zs cs i x c h.2.2.2.2 (by simpa using h1) (by simpa using h2)
theorem proper_fits {s : Sc} {i : Nat} {a : Bytes} {c : List Int} (h : properB s = true) (h1 : s.auths[i]? = some a) (h2 : s.cases[i]? = some c) : fitsB s.dom c = true := by
  unfold properB at h
  simp only [Bool.and_eq_true] at h
  exact auth_fits _ _ _ _ i a c h.2.2.2.2.2.1 h1 h2
theorem names_one : ∀ (l : List Fact) (seen : List Bytes), validL seen l = true → (∀ x ∈ l, x.name ∉ seen) ∧ ∀ (i j : Nat) (x y : Fact), l[i]? = some x → l[j]? = some y → x.name = y.name → i = j
  | [], seen, _ => ⟨by simp, fun i j x y h => by simp at h⟩
  | f :: r, seen, h => by
    simp only [validL, Bool.and_eq_true] at h
    obtain ⟨h1, h2⟩ := names_one r (f.name :: seen) h.2.2.2
    have h3 : f.name ∉ seen := by have := h.2.2.1; simpa using this
    refine ⟨fun x hx => ?_, fun i j x y hi hj e => ?_⟩
    · rcases List.mem_cons.1 hx with rfl | hx
      · exact h3
      · exact fun hs => h1 x hx (by simp [hs])
    · cases i with
      | zero =>
        obtain rfl : f = x := by simpa using hi
        cases j with
        | zero => rfl
        | succ j =>
          have hy : y ∈ r := List.mem_of_getElem? (by simpa using hj)
          exact absurd (by simp [e]) (h1 y hy)
      | succ i =>
        cases j with
        | zero =>
          obtain rfl : f = y := by simpa using hj
          have hy : x ∈ r := List.mem_of_getElem? (by simpa using hi)
          exact absurd (by simp [e]) (h1 x hy)
        | succ j => rw [h2 i j x y (by simpa using hi) (by simpa using hj) e]
theorem fits_parts {d : List Fact} {c : List Int} (h : fitsB d c = true) : c.length = d.length ∧ ∀ (i j : Nat) (x y : Fact), d[i]? = some x → d[j]? = some y → x.name = y.name → i = j := by
  unfold fitsB validD at h
  simp only [Bool.and_eq_true, decide_eq_true_eq] at h
  exact ⟨h.2.1, (names_one d [] h.1.1).2⟩
theorem check_first {d : List Fact} {f : Fm} (h : checkF d f = 0) : firstF (nodeE d) f = 0 := by
  unfold checkF at h
  split at h
  · simp at h
  · exact h
end Go.Cz.Vd
namespace Go.Proofs.YtakadfdnhlfijaaGreatDoor
open Go.RowKit Go.Cz Go.Cz.Lx Go.Cz.Fo Go.Cz.Vd
open Go.Cz.Ck (Shift validB)
open Go.Cz.Wn (Ms datedB appliesF)
set_option linter.unusedSimpArgs false
set_option linter.unusedVariables false
attribute [local go_sem] bs_size bs_extract bs_append bs_toList
attribute [local irreducible] cList cPlan
set_option maxRecDepth 100000 in
set_option maxHeartbeats 4000000 in
theorem rCounts_c (m : Me) (kv : Value) (s : Sc) (vd va vz vc : Value) (w : World) (hf : IsFm (fun _ => True) w m.cond kv) (hm : MeLen m) (hc : CoLen m.cond) (hs : IsSc w s vd va vz vc) (hl : ScLen s) (hp : properB s = true) (hck : checkF s.dom m.cond = 0) :
    Calls Tryz.prog 36 #[mval m kv, sval s vd va vz vc] w fun e w' => e = .returned (.bool (countsB s m)) ∧ Below w.heap.size w w' := by
  have HP := Lib.hid (proper_parts hp)
  have HFt := Lib.hid fun (i : Nat) (a : Bytes) (c : List Int) => proper_fits (s := s) (i := i) (a := a) (c := c) hp
  have HCk := Lib.hid hck
  have HL := Lib.hid hl
  have HMC := Lib.hid hc
  have hA6 : s.auths.length ≤ 6 := HP.out.2.2.1
  have HIx := Lib.hid fun (W : World) (hb : Below w.heap.size w W) => rindex_c s.auths m.auth va W ((hs.later hb).auths) (by omega)
  clear hl hp hc hm hA6 hck
  obtain ⟨yd, md, rfl⟩ := hs.dom.form
  obtain ⟨ya, ma, rfl⟩ := hs.auths.form
  obtain ⟨yz, mz, rfl⟩ := hs.zones.form
  obtain ⟨yc, mc, rfl⟩ := hs.cases.form
  obtain ⟨ND, hND⟩ : ∃ n, n = s.dom.length := ⟨_, rfl⟩
  obtain ⟨NA, hNA⟩ : ∃ n, n = s.auths.length := ⟨_, rfl⟩
  obtain ⟨NZ, hNZ⟩ : ∃ n, n = s.zones.length := ⟨_, rfl⟩
  obtain ⟨NC, hNC⟩ : ∃ n, n = s.cases.length := ⟨_, rfl⟩
  rw [← hND, ← hNA, ← hNZ, ← hNC] at hs
  have HND := Lib.hid hND
  have HNA := Lib.hid hNA
  have HNZ := Lib.hid hNZ
  have HNC := Lib.hid hNC
  have HS := Lib.hid hs
  clear hs
  rw [← hNA] at HIx
  rw [← hND, ← hNA, ← hNZ, ← hNC]
  clear hND hNA hNZ hNC
  obtain ⟨y2, m2, rfl⟩ := hf.form
  obtain ⟨n2, hn2⟩ : ∃ n, n = m.cond.kids.length := ⟨_, rfl⟩
  rw [← hn2] at hf ⊢
  have HFm := Lib.hid hf
  clear hf hn2
  obtain ⟨o, ho⟩ : ∃ o, o = sobj s (.slice yd ND md) (.slice ya NA ma) (.slice yz NZ mz) (.slice yc NC mc) := ⟨_, rfl⟩
  obtain ⟨W1, hW1⟩ : ∃ W1, W1 = (w.alloc (mobj m (.slice y2 n2 m2))).alloc (sobj s (.slice yd ND md) (.slice ya NA ma) (.slice yz NZ mz) (.slice yc NC mc)) := ⟨_, rfl⟩
  obtain ⟨b8, hb8⟩ : ∃ b, b = w.heap.size := ⟨_, rfl⟩
  obtain ⟨bx, hbx⟩ : ∃ b, b = b8 + 1 := ⟨_, rfl⟩
  have HO : Hid (Owns w W1 [blk bx (sobj s (.slice yd ND md) (.slice ya NA ma) (.slice yz NZ mz) (.slice yc NC mc)), blk b8 (mobj m (.slice y2 n2 m2))]) := by
    rw [hW1, hbx, hb8]
    have := ((Owns.start w).box (mobj m (.slice y2 n2 m2))).box (sobj s (.slice yd ND md) (.slice ya NA ma) (.slice yz NZ mz) (.slice yc NC mc))
    rw [World.size_alloc] at this
    exact Lib.hid this
  go_enter Tryz.func36, Tryz.ntmps36
  go_wp2_with fail
  rw [← hW1, ← hb8, ← hbx]
  clear hW1 hb8 hbx
  obtain ⟨bk, -⟩ := HO.out.blk
  have hbx := lt_of_block bk
  have x0 := cell_of_heap bk (i := 0)
  have x1 := cell_of_heap bk (i := 1)
  have x2 := cell_of_heap bk (i := 2)
  have x3 := cell_of_heap bk (i := 3)
  have x4 := cell_of_heap bk (i := 4)
  have x5 := cell_of_heap bk (i := 5)
  simp only [List.getElem?_toArray, List.getElem?_cons_succ, List.getElem?_cons_zero] at x0 x1 x2 x3 x4 x5
  clear bk
  obtain ⟨bk, -⟩ := HO.out.pop.blk
  have h8 := lt_of_block bk
  have d0 := cell_of_heap bk (i := 0)
  have d1 := cell_of_heap bk (i := 1)
  have d2 := cell_of_heap bk (i := 2)
  have d3 := cell_of_heap bk (i := 3)
  have d4 := cell_of_heap bk (i := 4)
  have d5 := cell_of_heap bk (i := 5)
  have d6 := cell_of_heap bk (i := 6)
  have d7 := cell_of_heap bk (i := 7)
  have d8 := cell_of_heap bk (i := 8)
  have d9 := cell_of_heap bk (i := 9)
  have d10 := cell_of_heap bk (i := 10)
  have d11 := cell_of_heap bk (i := 11)
  simp only [List.getElem?_toArray, List.getElem?_cons_succ, List.getElem?_cons_zero] at d0 d1 d2 d3 d4 d5 d6 d7 d8 d9 d10 d11
  clear bk
  go_wp2_with fail
  clear hbx x0 x1 x2 x3 x4 x5
  clear h8 d0 d1 d2 d3 d4 d5 d6 d7 d8 d9 d10 d11
  go_at_call 35
  refine (HIx.out W1 HO.out.base).mono ?_
  rintro e W2 ⟨rfl, hw⟩
  obtain rfl : W2 = W1 := hw
  clear HIx
  go_wp2_with fail
  refine wp_region_can [13, 25] (List.range 28) (by decide +kernel) (by decide +kernel) ?_
  replace HO := Lib.hid HO.out.drew
  obtain ⟨W3, hW3⟩ : ∃ W, W = W2.drew := ⟨_, rfl⟩
  rw [← hW3] at HO ⊢
  clear hW3
  cases hi : idxA m.auth s.auths with
  | none =>
    have hidx : ixI (none : Option Nat) = -1 := rfl
    rw [hidx]
    have HI := Lib.hid hi
    clear hidx hi
    have HE : Hid (countsB s m = false) := by
      show _ = _
      unfold countsB; rw [HI.out]
    iterate 28 (first | (refine cl_do rfl rfl rfl rfl (fun _ _ => ?_); go_wp2_with fail) | (refine cl_yes rfl rfl rfl rfl (by first | rfl | simp [okB, lenV, plainV, Act.eval]) (fun _ _ => ?_); go_wp2_with fail) | (refine cl_no rfl rfl rfl ?_; go_simp))
    refine cl_nil ?_
    go_wp2_with fail
    go_ret
    exact ⟨by rw [HE.out]; rfl, HO.out.base⟩
  | some i0 =>
    have hidx : ixI (some i0) = (i0 : Int) := rfl
    rw [hidx]
    have HI := Lib.hid hi
    have hil : i0 < s.auths.length := (List.getElem?_eq_some_iff.1 (idxA_some hi)).1
    clear hidx hi
    obtain ⟨z, hz⟩ : ∃ x, s.zones[i0]? = some x := ⟨_, List.getElem?_eq_getElem (by rw [HP.out.1]; exact hil)⟩
    obtain ⟨cs, hc⟩ : ∃ x, s.cases[i0]? = some x := ⟨_, List.getElem?_eq_getElem (by rw [HP.out.2.1]; exact hil)⟩
    have hiz : i0 < NZ := by rw [HNZ.out, HP.out.1]; exact hil
    have hic : i0 < NC := by rw [HNC.out, HP.out.2.1]; exact hil
    have HZ := Lib.hid hz
    have HC := Lib.hid hc
    have HCn : Hid (cs.length ≤ 1000000) := Lib.hid (HL.out.cases cs (List.mem_of_getElem? hc))
    have hfit : fitsB s.dom cs = true := HFt.out i0 _ cs (List.getElem?_eq_getElem hil) HC.out
    have HFi : Hid (firstF (nodeE s.dom) m.cond = 0) := Lib.hid (check_first HCk.out)
    have HLn := Lib.hid (fits_parts hfit).1
    have HUn := Lib.hid (fits_parts hfit).2
    have HCB : Hid (countsB s m = (appliesF z m.kind m.fr m.un m.wi s.signed s.now && valueF s.dom cs m.cond)) := by
      show _ = _
      unfold countsB
      rw [HI.out]
      simp [List.getD_eq_getElem?_getD, HZ.out, HC.out, holdsF, hfit, HCk.out]
    clear hfit
    clear hz hc hil
    obtain ⟨g2, off2, zx, zc, rfl, hg2, cz, hz⟩ := HS.out.zones.get HO.out.base HZ.out
    obtain ⟨g3, off3, cu, rfl, -, -, -⟩ := HS.out.cases.get HO.out.base HC.out
    obtain ⟨bk, -⟩ := HO.out.blk
    have hbx := lt_of_block bk
    have x0 := cell_of_heap bk (i := 0)
    have x1 := cell_of_heap bk (i := 1)
    have x2 := cell_of_heap bk (i := 2)
    have x3 := cell_of_heap bk (i := 3)
    have x4 := cell_of_heap bk (i := 4)
    have x5 := cell_of_heap bk (i := 5)
    simp only [List.getElem?_toArray, List.getElem?_cons_succ, List.getElem?_cons_zero] at x0 x1 x2 x3 x4 x5
    clear bk
    obtain ⟨bk, -⟩ := HO.out.pop.blk
    have h8 := lt_of_block bk
    have d0 := cell_of_heap bk (i := 0)
    have d1 := cell_of_heap bk (i := 1)
    have d2 := cell_of_heap bk (i := 2)
    have d3 := cell_of_heap bk (i := 3)
    have d4 := cell_of_heap bk (i := 4)
    have d5 := cell_of_heap bk (i := 5)
    have d6 := cell_of_heap bk (i := 6)
    have d7 := cell_of_heap bk (i := 7)
    have d8 := cell_of_heap bk (i := 8)
    have d9 := cell_of_heap bk (i := 9)
    have d10 := cell_of_heap bk (i := 10)
    have d11 := cell_of_heap bk (i := 11)
    simp only [List.getElem?_toArray, List.getElem?_cons_succ, List.getElem?_cons_zero] at d0 d1 d2 d3 d4 d5 d6 d7 d8 d9 d10 d11
    clear bk
    have i0n : (0 : Int) ≤ (i0 : Int) := by omega
    iterate 13 (first | (refine cl_do rfl rfl rfl rfl (fun _ _ => ?_); go_wp2_with fail) | (refine cl_yes rfl rfl rfl rfl (by first | rfl | simp [okB, lenV, plainV, Act.eval]) (fun _ _ => ?_); go_wp2_with fail) | (refine cl_no rfl rfl rfl ?_; go_simp))
    clear i0n hg2 cz
    clear hbx x0 x1 x2 x3 x4 x5
    clear h8 d0 d1 d2 d3 d4 d5 d6 d7 d8 d9 d10 d11
    refine cl_ycall (i := 13) rfl rfl rfl rfl (fun K hK => ?_)
    go_wp2_with fail
    go_at_call 64
    have HAp := rApplies_c ⟨bs m.id, bs m.auth, m.kind, bs m.target, m.cond.op, bs m.cond.name, m.cond.cmp, m.cond.num, y2, n2, m2, m.fr, m.un, m.wi⟩ zx z.length zc z s.signed s.now W3 hz
    dsimp only [Ms.v] at HAp
    refine HAp.mono ?_
    clear HAp
    rintro e W4 ⟨rfl, hb⟩
    replace HO := Lib.hid (HO.out.below hb)
    have Hb := Lib.hid hb
    clear hz hb
    dsimp only
    obtain ⟨q, hq⟩ : ∃ q, q = appliesF z m.kind m.fr m.un m.wi s.signed s.now := ⟨_, rfl⟩
    rw [← hq]
    have HQ := Lib.hid hq
    clear hq
    go_wp2_with fail
    refine And.intro Hb.out ?_
    clear Hb
    cases q
    · have HE : Hid (countsB s m = false) := by
        show _ = _
        rw [HCB.out, ← HQ.out]; rfl
      iterate 14 (first | (refine cl_do rfl rfl rfl rfl (fun _ _ => ?_); go_wp2_with fail) | (refine cl_yes rfl rfl rfl rfl (by first | rfl | simp [okB, lenV, plainV, Act.eval]) (fun _ _ => ?_); go_wp2_with fail) | (refine cl_no rfl rfl rfl ?_; go_simp))
      refine cl_nil ?_
      go_wp2_with fail
      go_ret
      exact ⟨by rw [HE.out]; rfl, HO.out.base⟩
    obtain ⟨g3', off3', cu', e3, hg3, cc, hcu⟩ := HS.out.cases.get HO.out.base HC.out
    cases e3
    obtain ⟨yc3, mc3, rfl⟩ := hcu.form
    rw [HLn.out, ← HND.out] at hcu cc
    obtain ⟨bk, -⟩ := HO.out.blk
    have hbx := lt_of_block bk
    have x0 := cell_of_heap bk (i := 0)
    have x1 := cell_of_heap bk (i := 1)
    have x2 := cell_of_heap bk (i := 2)
    have x3 := cell_of_heap bk (i := 3)
    have x4 := cell_of_heap bk (i := 4)
    have x5 := cell_of_heap bk (i := 5)
    simp only [List.getElem?_toArray, List.getElem?_cons_succ, List.getElem?_cons_zero] at x0 x1 x2 x3 x4 x5
    clear bk
    obtain ⟨bk, -⟩ := HO.out.pop.blk
    have h8 := lt_of_block bk
    have d0 := cell_of_heap bk (i := 0)
    have d1 := cell_of_heap bk (i := 1)
    have d2 := cell_of_heap bk (i := 2)
    have d3 := cell_of_heap bk (i := 3)
    have d4 := cell_of_heap bk (i := 4)
    have d5 := cell_of_heap bk (i := 5)
    have d6 := cell_of_heap bk (i := 6)
    have d7 := cell_of_heap bk (i := 7)
    have d8 := cell_of_heap bk (i := 8)
    have d9 := cell_of_heap bk (i := 9)
    have d10 := cell_of_heap bk (i := 10)
    have d11 := cell_of_heap bk (i := 11)
    simp only [List.getElem?_toArray, List.getElem?_cons_succ, List.getElem?_cons_zero] at d0 d1 d2 d3 d4 d5 d6 d7 d8 d9 d10 d11
    clear bk
    iterate 11 (first | (refine cl_do rfl rfl rfl rfl (fun _ _ => ?_); go_wp2_with fail) | (refine cl_yes rfl rfl rfl rfl (by first | rfl | simp [okB, lenV, plainV, Act.eval]) (fun _ _ => ?_); go_wp2_with fail) | (refine cl_no rfl rfl rfl ?_; go_simp))
    clear hg3 cc
    clear hbx x0 x1 x2 x3 x4 x5
    clear h8 d0 d1 d2 d3 d4 d5 d6 d7 d8 d9 d10 d11
    refine cl_ycall (i := 25) rfl rfl rfl rfl (fun K hK => ?_)
    go_wp2_with fail
    go_at_call 65
    refine (r26Value_c W4 s.dom cs yd yc3 ND md mc3 (HS.out.dom.later HO.out.base) hcu HLn.out HL.out.dom.len HND.out HUn.out HL.out.dom.names (lim := 140737488355328) (by omega) m.cond W4 _ (Below.refl _ _) (HFm.out.later HO.out.base) HMC.out.names HMC.out.size HFi.out).mono ?_
    rintro e W5 ⟨rfl, hb⟩
    replace HO := Lib.hid (HO.out.below hb)
    have Hb := Lib.hid hb
    clear hcu hb
    obtain ⟨q, hq⟩ : ∃ q, q = valueF s.dom cs m.cond := ⟨_, rfl⟩
    rw [← hq]
    have HQ2 := Lib.hid hq
    clear hq
    have HE : Hid (countsB s m = q) := by
      show _ = _
      rw [HCB.out, ← HQ.out, ← HQ2.out]; rfl
    go_wp2_with fail
    refine And.intro Hb.out ?_
    clear Hb
    iterate 2 (first | (refine cl_do rfl rfl rfl rfl (fun _ _ => ?_); go_wp2_with fail) | (refine cl_yes rfl rfl rfl rfl (by first | rfl | simp [okB, lenV, plainV, Act.eval]) (fun _ _ => ?_); go_wp2_with fail) | (refine cl_no rfl rfl rfl ?_; go_simp))
    refine cl_nil ?_
    go_wp2_with fail
    go_ret
    exact ⟨by rw [HE.out]; rfl, HO.out.base⟩
end Go.Proofs.YtakadfdnhlfijaaGreatDoor
namespace Go.Cz.Vd
open Go.Cz.Lx Go.Cz.Fo
theorem anyR_next {α : Type} {q : α → Bool} {l : List α} {j : Nat} {m : α} (h : l[j]? = some m) : (l.take (j + 1)).any q = ((l.take j).any q || q m) := by
  rw [List.take_add_one, h, List.any_append]
  simp
end Go.Cz.Vd
namespace Go.Proofs.YtakadfdnhlfijaaGreatDoor
open Go.RowKit Go.Cz Go.Cz.Lx Go.Cz.Fo Go.Cz.Vd
open Go.Cz.Ck (Shift validB)
set_option linter.unusedSimpArgs false
set_option linter.unusedVariables false
attribute [local go_sem] bs_size bs_extract bs_append bs_toList
attribute [local irreducible] cList cPlan
set_option maxRecDepth 100000 in
set_option maxHeartbeats 8000000 in
theorem rforbid_c (l : List Me) (s : Sc) (lv vd va vz vc : Value) (w : World) (hr : IsMeR w l lv) (hs : IsSc w s vd va vz vc) (hm : MsLen l) (hl : ScLen s) (hp : properB s = true) (hck : ∀ m ∈ l, checkF s.dom m.cond = 0) :
    Calls Tryz.prog 34 #[lv, sval s vd va vz vc] w fun e w' => ∃ (v : Value) (L : List Nat), e = .returned v ∧ L.map (l[·]?) = (forbs s l).map some ∧ Owns w w' [irw v L] := by
  have HR := Lib.hid hr
  have HM := Lib.hid hm
  have HCt := Lib.hid fun (m : Me) (kv : Value) (W : World) (h : m ∈ l) (hb : Below w.heap.size w W) (hf : IsFm (fun _ => True) W m.cond kv) => rCounts_c m kv s vd va vz vc W hf (hm.each m h).1 (hm.each m h).2 (hs.later hb) hl hp (hck m h)
  obtain ⟨y, c, rfl⟩ := hr.form
  obtain ⟨N, hN⟩ : ∃ N, N = l.length := ⟨_, rfl⟩
  have HN := Lib.hid hN
  rw [← hN] at HR ⊢
  have hNl : N ≤ 1000000 := by rw [hN]; exact hm.len
  obtain ⟨yd, md, rfl⟩ := hs.dom.form
  obtain ⟨ya, ma, rfl⟩ := hs.auths.form
  obtain ⟨yz, mz, rfl⟩ := hs.zones.form
  obtain ⟨yc, mc, rfl⟩ := hs.cases.form
  obtain ⟨ND, hND⟩ : ∃ n, n = s.dom.length := ⟨_, rfl⟩
  obtain ⟨NA, hNA⟩ : ∃ n, n = s.auths.length := ⟨_, rfl⟩
  obtain ⟨NZ, hNZ⟩ : ∃ n, n = s.zones.length := ⟨_, rfl⟩
  obtain ⟨NC, hNC⟩ : ∃ n, n = s.cases.length := ⟨_, rfl⟩
  rw [← hND, ← hNA, ← hNZ, ← hNC] at HCt ⊢
  clear hr hs hm hl hp hck hN hND hNA hNZ hNC
  obtain ⟨bx, hbx⟩ : ∃ bx, bx = w.heap.size := ⟨_, rfl⟩
  obtain ⟨W1, hW1⟩ : ∃ W1, W1 = w.alloc (sobj s (.slice yd ND md) (.slice ya NA ma) (.slice yz NZ mz) (.slice yc NC mc)) := ⟨_, rfl⟩
  have HO0 : Hid (Owns w W1 [blk bx (sobj s (.slice yd ND md) (.slice ya NA ma) (.slice yz NZ mz) (.slice yc NC mc))]) := by
    rw [hW1, hbx]
    exact Lib.hid ((Owns.start w).box _)
  go_enter Tryz.func34, Tryz.ntmps34
  go_wp2_with fail
  rw [← hW1, ← hbx]
  clear hW1 hbx
  obtain ⟨o, ho⟩ : ∃ o, o = sobj s (.slice yd ND md) (.slice ya NA ma) (.slice yz NZ mz) (.slice yc NC mc) := ⟨_, rfl⟩
  rw [← ho] at HO0
  have HOb := Lib.hid ho
  clear ho
  have HO : Hid (Owns w W1 [irw (.slice none 0 0) [], blk bx o]) := Lib.hid HO0.out.irNew
  clear HO0
  have HF : Hid (([] : List Nat).map (l[·]?) = ((l.take 0).filter (fB l s)).map some) := by show _ = _; simp
  go_loopg [5, 6] N (fun gk v i wr => ∃ (k : Nat) (L : List Nat), gk = N - k ∧ k ≤ N ∧ i = .int .i64 (k : Int) ∧ L.length ≤ k ∧ Hid (L.map (l[·]?) = ((l.take k).filter (fB l s)).map some) ∧ Hid (Owns w wr [irw v L, blk bx o]))
  case atStart => exact ⟨0, [], rfl, Nat.zero_le _, rfl, Nat.le_refl _, HF, HO⟩
  case round =>
    rename_i J1 K1 hJ1 hK1
    clear HO HF
    obtain ⟨k, L, rfl, hk, rfl, hL, HF, HO⟩ := hrel
    obtain ⟨sa, sc, rfl⟩ := HO.out.irForm
    obtain ⟨sn, hsn⟩ : ∃ n, n = L.length := ⟨_, rfl⟩
    have HSn := Lib.hid hsn
    rw [← hsn] at HO hL ⊢
    clear hsn
    by_cases hlt : k < N
    · obtain ⟨m, hx⟩ : ∃ x, l[k]? = some x := ⟨_, List.getElem?_eq_getElem (by rw [← HN.out]; exact hlt)⟩
      obtain ⟨g, off, kv, rfl, hgw, hm, hf⟩ := HR.out.get (Below.refl _ _) hx
      have HMx := Lib.hid hx
      have HMm := Lib.hid (List.mem_of_getElem? hx)
      obtain ⟨ky, kn, rfl⟩ := hf.form
      obtain ⟨n2, hn2⟩ : ∃ n, n = m.cond.kids.length := ⟨_, rfl⟩
      rw [← hn2] at hm hf
      have HFm := Lib.hid hf
      have HMA := Lib.hid hm
      clear hx hf hn2 hm
      go_wp2_with fail
      refine wp_region_can [12] (List.range 15) (by decide +kernel) (by decide +kernel) ?_
      replace HO := Lib.hid HO.out.drew
      obtain ⟨W6, hWx⟩ : ∃ W, W = World.drew wr := ⟨_, rfl⟩
      rw [← hWx] at HO ⊢
      clear hWx
      have rhg : g < W6.heap.size := Nat.lt_of_lt_of_le hgw HO.out.base.size
      obtain ⟨r0, r1, r2, r3, r4, r5, r6, r7, r8, r9, ra, rb⟩ := MeAt.later HMA.out hgw HO.out.base
      by_cases h1 : m.kind = 1
      rotate_left
      · have h1' : (m.kind != 1) = true := by simpa using h1
        have h1c := Lib.hid (decide_eq_false h1)
        clear h1
        iterate 15 (first | (refine cl_do rfl rfl rfl rfl (fun _ _ => ?_); go_wp2_with fail) | (refine cl_yes rfl rfl rfl rfl (by first | rfl | simp [okB, lenV, plainV, Act.eval]) (fun _ _ => ?_); go_wp2_with fail) | (refine cl_no rfl rfl rfl ?_; go_simp) | (refine cl_skip rfl (by rfl) ?_; go_simp))
        refine cl_nil ?_
        clear h1'
        clear rhg r0 r1 r2 r3 r4 r5 r6 r7 r8 r9 ra rb
        have HF2 : Hid (L.map (l[·]?) = ((l.take (k + 1)).filter (fB l s)).map some) := by
          show _ = _
          have hfb : fB l s m = false := by unfold fB; rw [h1c.out]; simp
          rw [filter_next HMx.out, hfb, HF.out]; simp
        go_wp2_with fail
        go_roundg (N - (k + 1))
        case measure => omega
        case rel => exact ⟨k + 1, L, rfl, by omega, by go_num, by rw [← HSn.out]; omega, HF2, HO⟩
      have h1' : (m.kind != 1) = false := by simpa using h1
      have h1c := Lib.hid (decide_eq_true h1)
      clear h1
      obtain ⟨bk, -⟩ := HO.out.pop.blk
      rw [HOb.out] at bk
      have hbx := lt_of_block bk
      have x0 := cell_of_heap bk (i := 0)
      have x1 := cell_of_heap bk (i := 1)
      have x2 := cell_of_heap bk (i := 2)
      have x3 := cell_of_heap bk (i := 3)
      have x4 := cell_of_heap bk (i := 4)
      have x5 := cell_of_heap bk (i := 5)
      simp only [List.getElem?_toArray, List.getElem?_cons_succ, List.getElem?_cons_zero] at x0 x1 x2 x3 x4 x5
      clear bk
      iterate 12 (first | (refine cl_do rfl rfl rfl rfl (fun _ _ => ?_); go_wp2_with fail) | (refine cl_yes rfl rfl rfl rfl (by first | rfl | simp [okB, lenV, plainV, Act.eval]) (fun _ _ => ?_); go_wp2_with fail) | (refine cl_no rfl rfl rfl ?_; go_simp) | (refine cl_skip rfl (by rfl) ?_; go_simp))
      clear h1'
      clear rhg r0 r1 r2 r3 r4 r5 r6 r7 r8 r9 ra rb
      clear hbx x0 x1 x2 x3 x4 x5
      refine cl_ycall (i := 12) rfl rfl rfl rfl (fun K hK => ?_)
      go_wp2_with fail
      go_at_call 36
      refine (HCt.out m _ W6 HMm.out HO.out.base (HFm.out.later HO.out.base)).mono ?_
      rintro e W7 ⟨rfl, hb⟩
      replace HO := Lib.hid (HO.out.below hb)
      have Hb := Lib.hid hb
      clear hb
      obtain ⟨q, hq⟩ : ∃ q, q = countsB s m := ⟨_, rfl⟩
      rw [← hq]
      have HQ := Lib.hid hq
      clear hq
      go_wp2_with fail
      refine And.intro Hb.out ?_
      clear Hb
      cases q
      · iterate 2 (first | (refine cl_do rfl rfl rfl rfl (fun _ _ => ?_); go_wp2_with fail) | (refine cl_yes rfl rfl rfl rfl (by first | rfl | simp [okB, lenV, plainV, Act.eval]) (fun _ _ => ?_); go_wp2_with fail) | (refine cl_no rfl rfl rfl ?_; go_simp) | (refine cl_skip rfl (by rfl) ?_; go_simp))
        refine cl_nil ?_
        have HF2 : Hid (L.map (l[·]?) = ((l.take (k + 1)).filter (fB l s)).map some) := by
          show _ = _
          have hfb : fB l s m = false := by unfold fB; rw [← HQ.out]; simp
          rw [filter_next HMx.out, hfb, HF.out]; simp
        go_wp2_with fail
        go_roundg (N - (k + 1))
        case measure => omega
        case rel => exact ⟨k + 1, L, rfl, by omega, by go_num, by rw [← HSn.out]; omega, HF2, HO⟩
      iterate 2 (first | (refine cl_do rfl rfl rfl rfl (fun _ _ => ?_); go_wp2_with fail) | (refine cl_yes rfl rfl rfl rfl (by first | rfl | simp [okB, lenV, plainV, Act.eval]) (fun _ _ => ?_); go_wp2_with fail) | (refine cl_no rfl rfl rfl ?_; go_simp) | (refine cl_skip rfl (by rfl) ?_; go_simp))
      refine cl_nil ?_
      obtain ⟨exT, hexT⟩ : ∃ f : Nat → Bool, f = fun k => (l.take k).any fun k => decide (k.kind = 2) && (decide (k.target = m.id) && (decide (k.auth = m.auth) && countsB s k)) := ⟨_, rfl⟩
      have HExT := Lib.hid hexT
      have e0 : exT 0 = false := by rw [hexT]; rfl
      clear hexT
      go_wp2_with fail
      go_loopg [7, 8] N (fun gk a i wr => ∃ p : Nat, gk = N - p ∧ p ≤ N ∧ a = .bool (exT p) ∧ i = .int .i64 (p : Int) ∧ Hid (Owns w wr [irw (.slice sa sn sc) L, blk bx o]))
      case atStart => exact ⟨0, rfl, Nat.zero_le _, by rw [e0], rfl, HO⟩
      case round =>
        rename_i J2 K2 hJ2 hK2
        clear HO e0
        obtain ⟨p, rfl, hp, rfl, rfl, HO⟩ := hrel
        obtain ⟨ex, hex⟩ : ∃ b, b = exT p := ⟨_, rfl⟩
        rw [← hex]
        by_cases hlt2 : p < N
        · obtain ⟨x, hx⟩ : ∃ x, l[p]? = some x := ⟨_, List.getElem?_eq_getElem (by rw [← HN.out]; exact hlt2)⟩
          obtain ⟨g', off', kvx, e, hgw', hm', hf'⟩ := HR.out.get (Below.refl _ _) hx
          cases e
          have HX := Lib.hid hx
          have HXm := Lib.hid (List.mem_of_getElem? hx)
          obtain ⟨kxy, kxn, rfl⟩ := hf'.form
          obtain ⟨nx2, hnx2⟩ : ∃ n, n = x.cond.kids.length := ⟨_, rfl⟩
          rw [← hnx2] at hm' hf'
          have HXf := Lib.hid hf'
          have HXA := Lib.hid hm'
          have hexk := hex
          rw [HExT.out] at hexk
          have HExk := Lib.hid hexk.symm
          dsimp only at HExk
          clear hx hf' hm' hnx2 hgw' hex hexk
          go_wp2_with fail
          refine wp_region_can [40] (List.range 44) (by decide +kernel) (by decide +kernel) ?_
          replace HO := Lib.hid HO.out.drew
          obtain ⟨W6, hWx⟩ : ∃ W, W = World.drew wr := ⟨_, rfl⟩
          rw [← hWx] at HO ⊢
          clear hWx
          cases ex
          rotate_left
          · iterate 44 (first | (refine cl_do rfl rfl rfl rfl (fun _ _ => ?_); go_wp2_with fail) | (refine cl_yes rfl rfl rfl rfl (by first | rfl | simp [okB, lenV, plainV, Act.eval]) (fun _ _ => ?_); go_wp2_with fail) | (refine cl_no rfl rfl rfl ?_; go_simp) | (refine cl_skip rfl (by rfl) ?_; go_simp))
            have HEx2 : Hid (exT (p + 1) = true) := by
              show _ = _
              rw [HExT.out]; dsimp only; rw [anyR_next HX.out, HExk.out]; simp
            refine cl_nil ?_
            as_aux_lemma =>
              go_wp2_with fail
              go_roundg (N - (p + 1))
              case measure => omega
              case rel => exact ⟨p + 1, rfl, by omega, by rw [HEx2.out], by go_num, HO⟩
          have phg : g < W6.heap.size := Nat.lt_of_lt_of_le hgw HO.out.base.size
          obtain ⟨p0, p1, p2, p3, p4, p5, p6, p7, p8, p9, pa, pb⟩ := MeAt.later HXA.out hgw HO.out.base
          have rhg : g < W6.heap.size := Nat.lt_of_lt_of_le hgw HO.out.base.size
          obtain ⟨r0, r1, r2, r3, r4, r5, r6, r7, r8, r9, ra, rb⟩ := MeAt.later HMA.out hgw HO.out.base
          by_cases h1 : x.kind = 2
          rotate_left
          · have h1' : (x.kind == 2) = false := by simpa using h1
            have h1d := Lib.hid (decide_eq_false h1)
            clear h1
            iterate 44 (first | (refine cl_do rfl rfl rfl rfl (fun _ _ => ?_); go_wp2_with fail) | (refine cl_yes rfl rfl rfl rfl (by first | rfl | simp [okB, lenV, plainV, Act.eval]) (fun _ _ => ?_); go_wp2_with fail) | (refine cl_no rfl rfl rfl ?_; go_simp) | (refine cl_skip rfl (by rfl) ?_; go_simp))
            clear h1'
            clear phg p0 p1 p2 p3 p4 p5 p6 p7 p8 p9 pa pb
            clear rhg r0 r1 r2 r3 r4 r5 r6 r7 r8 r9 ra rb
            have HEx2 : Hid (exT (p + 1) = false) := by
              show _ = _
              rw [HExT.out]; dsimp only; rw [anyR_next HX.out, HExk.out, h1d.out]; simp
            refine cl_nil ?_
            as_aux_lemma =>
              go_wp2_with fail
              go_roundg (N - (p + 1))
              case measure => omega
              case rel => exact ⟨p + 1, rfl, by omega, by rw [HEx2.out], by go_num, HO⟩
          have h1' : (x.kind == 2) = true := by simpa using h1
          have h1d := Lib.hid (decide_eq_true h1)
          clear h1
          by_cases h3 : x.auth = m.auth
          rotate_left
          · have h3' : (x.auth == m.auth) = false := by simpa using h3
            have h3c := Lib.hid (decide_eq_false h3)
            clear h3
            iterate 44 (first | (refine cl_do rfl rfl rfl rfl (fun _ _ => ?_); go_wp2_with fail) | (refine cl_yes rfl rfl rfl rfl (by first | rfl | simp [okB, lenV, plainV, Act.eval]) (fun _ _ => ?_); go_wp2_with fail) | (refine cl_no rfl rfl rfl ?_; go_simp) | (refine cl_skip rfl (by rfl) ?_; go_simp))
            clear h1' h3'
            clear phg p0 p1 p2 p3 p4 p5 p6 p7 p8 p9 pa pb
            clear rhg r0 r1 r2 r3 r4 r5 r6 r7 r8 r9 ra rb
            have HEx2 : Hid (exT (p + 1) = false) := by
              show _ = _
              rw [HExT.out]; dsimp only; rw [anyR_next HX.out, HExk.out, h1d.out, h3c.out]; simp
            refine cl_nil ?_
            as_aux_lemma =>
              go_wp2_with fail
              go_roundg (N - (p + 1))
              case measure => omega
              case rel => exact ⟨p + 1, rfl, by omega, by rw [HEx2.out], by go_num, HO⟩
          have h3' : (x.auth == m.auth) = true := by simpa using h3
          have h3c := Lib.hid (decide_eq_true h3)
          clear h3
          by_cases h2 : x.target = m.id
          rotate_left
          · have h2' : (x.target == m.id) = false := by simpa using h2
            have h2c := Lib.hid (decide_eq_false h2)
            clear h2
            iterate 44 (first | (refine cl_do rfl rfl rfl rfl (fun _ _ => ?_); go_wp2_with fail) | (refine cl_yes rfl rfl rfl rfl (by first | rfl | simp [okB, lenV, plainV, Act.eval]) (fun _ _ => ?_); go_wp2_with fail) | (refine cl_no rfl rfl rfl ?_; go_simp) | (refine cl_skip rfl (by rfl) ?_; go_simp))
            clear h1' h2' h3'
            clear phg p0 p1 p2 p3 p4 p5 p6 p7 p8 p9 pa pb
            clear rhg r0 r1 r2 r3 r4 r5 r6 r7 r8 r9 ra rb
            have HEx2 : Hid (exT (p + 1) = false) := by
              show _ = _
              rw [HExT.out]; dsimp only; rw [anyR_next HX.out, HExk.out, h1d.out, h2c.out]; simp
            refine cl_nil ?_
            as_aux_lemma =>
              go_wp2_with fail
              go_roundg (N - (p + 1))
              case measure => omega
              case rel => exact ⟨p + 1, rfl, by omega, by rw [HEx2.out], by go_num, HO⟩
          have h2' : (x.target == m.id) = true := by simpa using h2
          have h2c := Lib.hid (decide_eq_true h2)
          clear h2
          obtain ⟨bk, -⟩ := HO.out.pop.blk
          rw [HOb.out] at bk
          have hbx := lt_of_block bk
          have x0 := cell_of_heap bk (i := 0)
          have x1 := cell_of_heap bk (i := 1)
          have x2 := cell_of_heap bk (i := 2)
          have x3 := cell_of_heap bk (i := 3)
          have x4 := cell_of_heap bk (i := 4)
          have x5 := cell_of_heap bk (i := 5)
          simp only [List.getElem?_toArray, List.getElem?_cons_succ, List.getElem?_cons_zero] at x0 x1 x2 x3 x4 x5
          clear bk
          iterate 40 (first | (refine cl_do rfl rfl rfl rfl (fun _ _ => ?_); go_wp2_with fail) | (refine cl_yes rfl rfl rfl rfl (by first | rfl | simp [okB, lenV, plainV, Act.eval]) (fun _ _ => ?_); go_wp2_with fail) | (refine cl_no rfl rfl rfl ?_; go_simp) | (refine cl_skip rfl (by rfl) ?_; go_simp))
          clear h1' h2' h3'
          clear phg p0 p1 p2 p3 p4 p5 p6 p7 p8 p9 pa pb
          clear rhg r0 r1 r2 r3 r4 r5 r6 r7 r8 r9 ra rb
          clear hbx x0 x1 x2 x3 x4 x5
          refine cl_ycall (i := 40) rfl rfl rfl rfl (fun K hK => ?_)
          go_wp2_with fail
          go_at_call 36
          refine (HCt.out x _ W6 HXm.out HO.out.base (HXf.out.later HO.out.base)).mono ?_
          rintro e W9 ⟨rfl, hb⟩
          replace HO := Lib.hid (HO.out.below hb)
          have Hb := Lib.hid hb
          clear hb
          obtain ⟨q, hq⟩ : ∃ q, q = countsB s x := ⟨_, rfl⟩
          rw [← hq]
          have HQ2 := Lib.hid hq
          clear hq
          go_wp2_with fail
          refine And.intro Hb.out ?_
          clear Hb
          iterate 3 (first | (refine cl_do rfl rfl rfl rfl (fun _ _ => ?_); go_wp2_with fail) | (refine cl_yes rfl rfl rfl rfl (by first | rfl | simp [okB, lenV, plainV, Act.eval]) (fun _ _ => ?_); go_wp2_with fail) | (refine cl_no rfl rfl rfl ?_; go_simp) | (refine cl_skip rfl (by rfl) ?_; go_simp))
          have HEx2 : Hid (exT (p + 1) = q) := by
            show _ = _
            rw [HExT.out]; dsimp only; rw [anyR_next HX.out, HExk.out, h1d.out, h2c.out, h3c.out, ← HQ2.out]; simp
          refine cl_nil ?_
          as_aux_lemma =>
            go_wp2_with fail
            go_roundg (N - (p + 1))
            case measure => omega
            case rel => exact ⟨p + 1, rfl, by omega, by rw [HEx2.out], by go_num, HO⟩
        · obtain rfl : p = N := by omega
          have HEx : Hid (exB l s m = ex) := by
            show _ = _
            rw [hex, HExT.out]
            dsimp only
            rw [HN.out, List.take_length]
            rfl
          clear hex hJ2 hK2 hlt2
          cases ex
          rotate_left
          · have HF2 : Hid (L.map (l[·]?) = ((l.take (k + 1)).filter (fB l s)).map some) := by
              show _ = _
              have hfb : fB l s m = false := by unfold fB; rw [HEx.out]; simp
              rw [filter_next HMx.out, hfb, HF.out]; simp
            go_wp2_with fail
            go_roundg (p - (k + 1))
            case measure => omega
            case rel => exact ⟨k + 1, L, rfl, by omega, by go_num, by rw [← HSn.out]; omega, HF2, HO⟩
          have hfb : Hid (fB l s m = true) := by
            show _ = _
            unfold fB
            rw [h1c.out, ← HQ.out, HEx.out]; rfl
          have HF2 : Hid ((L ++ [k]).map (l[·]?) = ((l.take (k + 1)).filter (fB l s)).map some) := by
            show _ = _
            rw [filter_next HMx.out, hfb.out, List.map_append, HF.out]
            simp [HMx.out]
          have HW := Lib.hid (HO.out.alloc (.cells #[.int .i64 (k : Int)] 3))
          go_wp2_with (refine wpList_plain rfl fun K hK => wp_append (.tmp 81) (.tmp 83) 52 (by rfl) 3 _ 1 8 Tryz.underlying52 info_ix (by rfl) (by omega) _ sn _ (by rfl) (by have := Owns.irRow HW.out; rw [← HSn.out] at this; exact this) wr.heap.size 1 1 [.int .i64 (k : Int)] (by rfl) (by rfl) 3 (by exact new_heap wr _ _ rfl) (by simp [Value.oneCell']) (by omega) (by omega) ?_; intro v' w2 hrow hgrow hblk; have ho14 := Owns.irGrew (L' := L ++ [k]) HW.out (by simpa [nums, HSn.out] using hrow) hgrow hblk; have HO14 := Lib.hid ho14; clear ho14 hrow hgrow hblk)
          clear HW HO
          go_roundg (p - (k + 1))
          case measure => omega
          case rel => exact ⟨k + 1, L ++ [k], rfl, by omega, by go_num, by rw [List.length_append, ← HSn.out]; simp; omega, HF2, HO14⟩
    · obtain rfl : k = N := by omega
      have HE : Hid (L.map (l[·]?) = (forbs s l).map some) := by
        show _ = _
        rw [HF.out, HN.out, List.take_length, forbs_filter]
      clear hJ1 hK1 hlt
      go_wp2_with fail
      go_ret
      exact ⟨_, L, rfl, HE.out, Owns.cut (ps := [_]) HO.out⟩
end Go.Proofs.YtakadfdnhlfijaaGreatDoor
namespace Go.Cz.Vd
open Go.Cz.Lx Go.Cz.Fo
theorem blocks_filterR {s : Sc} {l : List Me} {cov : List Bytes} : blocksM s l cov = l.filter fun m => decide (m.kind = 3) && (((leftM s l cov).map Me.auth).contains m.target && countsB s m) := by
  unfold blocksM counting
  rw [List.filter_filter]
  refine List.filter_congr fun m _ => ?_
  cases decide (m.kind = 3) <;> cases countsB s m <;> simp
end Go.Cz.Vd
namespace Go.Proofs.YtakadfdnhlfijaaGreatDoor
open Go.RowKit Go.Cz Go.Cz.Lx Go.Cz.Fo Go.Cz.Vd
open Go.Cz.Ck (Shift validB)
set_option linter.unusedSimpArgs false
set_option linter.unusedVariables false
attribute [local go_sem] bs_size bs_extract bs_append bs_toList
attribute [local irreducible] cList cPlan
set_option maxRecDepth 100000 in
set_option maxHeartbeats 8000000 in
theorem rlicensed_c (l : List Me) (s : Sc) (cov : List Bytes) (lv vd va vz vc cv : Value) (w : World) (hr : IsMeR w l lv) (hs : IsSc w s vd va vz vc) (hv : IsTxR w cov cv) (hm : MsLen l) (hl : ScLen s) (hA : s.auths.length ≤ 1000000) (hZ : s.zones.length ≤ 1000000) (hC : s.cases.length ≤ 1000000)
    (hcl : cov.length ≤ 1000000) :
    Calls Tryz.prog 12 #[lv, sval s vd va vz vc, cv] w (LicP w (licensedV l s cov)) := by
  have HR := Lib.hid hr
  have HCv := Lib.hid hv
  have HM := Lib.hid hm
  have HCl := Lib.hid hcl
  have HP := Lib.hid fun (W : World) (hb : Below w.heap.size w W) => rcheck_c l s lv vd va vz vc W (hr.later hb) (hs.later hb) hm hl hA hZ hC
  have HFo := Lib.hid fun (h0 : checkV l s = 0) (W : World) (hb : Below w.heap.size w W) => rforbid_c l s lv vd va vz vc W (hr.later hb) (hs.later hb) hm hl (Go.Cz.Vd.check_zero.1 h0).1 fun m h => by
    have h1 := (Go.Cz.Vd.check_zero.1 h0).2.2.1 m h
    unfold validM at h1
    split at h1
    · simp at h1
    · split at h1
      · simp at h1
      · exact h1
  have HCt := Lib.hid fun (h0 : checkV l s = 0) (m : Me) (kv : Value) (W : World) (h : m ∈ l) (hb : Below w.heap.size w W) (hf : IsFm (fun _ => True) W m.cond kv) => rCounts_c m kv s vd va vz vc W hf (hm.each m h).1 (hm.each m h).2 (hs.later hb) hl (Go.Cz.Vd.check_zero.1 h0).1 (by
    have h1 := (Go.Cz.Vd.check_zero.1 h0).2.2.1 m h
    unfold validM at h1
    split at h1
    · simp at h1
    · split at h1
      · simp at h1
      · exact h1)
  obtain ⟨y, c, rfl⟩ := hr.form
  obtain ⟨N, hN⟩ : ∃ N, N = l.length := ⟨_, rfl⟩
  have HN := Lib.hid hN
  have hNl : N ≤ 1000000 := by rw [hN]; exact hm.len
  rw [← hN] at HR HP HFo ⊢
  obtain ⟨yk, mk, rfl⟩ := hv.form
  obtain ⟨NK, hNK⟩ : ∃ N, N = cov.length := ⟨_, rfl⟩
  rw [← hNK] at HCv ⊢
  obtain ⟨yd, md, rfl⟩ := hs.dom.form
  obtain ⟨ya, ma, rfl⟩ := hs.auths.form
  obtain ⟨yz, mz, rfl⟩ := hs.zones.form
  obtain ⟨yc, mc, rfl⟩ := hs.cases.form
  obtain ⟨ND, hND⟩ : ∃ n, n = s.dom.length := ⟨_, rfl⟩
  obtain ⟨NA, hNA⟩ : ∃ n, n = s.auths.length := ⟨_, rfl⟩
  obtain ⟨NZ, hNZ⟩ : ∃ n, n = s.zones.length := ⟨_, rfl⟩
  obtain ⟨NC, hNC⟩ : ∃ n, n = s.cases.length := ⟨_, rfl⟩
  rw [← hND, ← hNA, ← hNZ, ← hNC] at HP HFo HCt ⊢
  clear hr hs hv hm hl hA hZ hC hcl hN hNK hND hNA hNZ hNC
  obtain ⟨bx, hbx⟩ : ∃ b, b = w.heap.size := ⟨_, rfl⟩
  obtain ⟨br, hbr⟩ : ∃ b, b = bx + 1 := ⟨_, rfl⟩
  obtain ⟨W1, hW1⟩ : ∃ W1, W1 = (w.alloc (sobj s (.slice yd ND md) (.slice ya NA ma) (.slice yz NZ mz) (.slice yc NC mc))).alloc (vobj 0 (.slice none 0 0) (.slice none 0 0)) := ⟨_, rfl⟩
  have HO : Hid (Owns w W1 [blk br (vobj 0 (.slice none 0 0) (.slice none 0 0)), blk bx (sobj s (.slice yd ND md) (.slice ya NA ma) (.slice yz NZ mz) (.slice yc NC mc))]) := by
    rw [hW1, hbr, hbx]
    have := ((Owns.start w).box (sobj s (.slice yd ND md) (.slice ya NA ma) (.slice yz NZ mz) (.slice yc NC mc))).box (vobj 0 (.slice none 0 0) (.slice none 0 0))
    rw [World.size_alloc] at this
    exact Lib.hid this
  go_enter Tryz.func12, Tryz.ntmps12
  go_wp2_with fail
  rw [← hW1, ← hbx, ← hbr]
  clear hW1 hbx hbr
  obtain ⟨o, ho⟩ : ∃ o, o = sobj s (.slice yd ND md) (.slice ya NA ma) (.slice yz NZ mz) (.slice yc NC mc) := ⟨_, rfl⟩
  rw [← ho] at HO
  have HOb := Lib.hid ho
  clear ho
  obtain ⟨bk, -⟩ := HO.out.pop.blk
  rw [HOb.out] at bk
  have hbx := lt_of_block bk
  have x0 := cell_of_heap bk (i := 0)
  have x1 := cell_of_heap bk (i := 1)
  have x2 := cell_of_heap bk (i := 2)
  have x3 := cell_of_heap bk (i := 3)
  have x4 := cell_of_heap bk (i := 4)
  have x5 := cell_of_heap bk (i := 5)
  simp only [List.getElem?_toArray, List.getElem?_cons_succ, List.getElem?_cons_zero] at x0 x1 x2 x3 x4 x5
  clear bk
  go_wp2_with fail
  clear hbx x0 x1 x2 x3 x4 x5
  go_at_call 33
  refine (HP.out W1 HO.out.base).mono ?_
  rintro e W2 ⟨rfl, hb⟩
  replace HO := Lib.hid (HO.out.below hb)
  clear hb HP
  obtain ⟨q, hq⟩ : ∃ q, q = checkV l s := ⟨_, rfl⟩
  rw [← hq]
  have HQ := Lib.hid hq
  clear hq
  by_cases hq0 : q = 0
  rotate_left
  · have hq1 : ((q : Int) != 0) = true := by simp; omega
    have HE : Hid (licensedV l s cov = (⟨0, [], []⟩, q)) := by
      show _ = _
      unfold licensedV
      rw [← HQ.out, if_pos hq0]
    obtain ⟨bk, -⟩ := Owns.blk (HO.out)
    have hb0 := lt_of_block bk
    have e0 := cell_of_heap bk (i := 0)
    have e1 := cell_of_heap bk (i := 1)
    have e2 := cell_of_heap bk (i := 2)
    simp only [List.getElem?_toArray, List.getElem?_cons_succ, List.getElem?_cons_zero] at e0 e1 e2
    have f0 := free_of_heap bk (i := 0)
    have f1 := free_of_heap bk (i := 1)
    have f2 := free_of_heap bk (i := 2)
    clear bk
    clear hq0 HQ
    go_wp2_with fail
    have ho := ((HO.out.store (i := 0) (.int .i64 0)).store (i := 1) (.slice none 0 0)).store (i := 2) (.slice none 0 0)
    replace ho : Owns w (((W2.setCell ⟨br, 0, none⟩ (.int .i64 0)).setCell ⟨br, 1, none⟩ (.slice none 0 0)).setCell ⟨br, 2, none⟩ (.slice none 0 0)) (blk br (vobj (0) (.slice none 0 0) (.slice none 0 0)) :: _) := ho
    clear hb0 e0 e1 e2 f0 f1 f2
    obtain ⟨W9, hW9⟩ : ∃ W9, W9 = ((W2.setCell ⟨br, 0, none⟩ (.int .i64 0)).setCell ⟨br, 1, none⟩ (.slice none 0 0)).setCell ⟨br, 2, none⟩ (.slice none 0 0) := ⟨_, rfl⟩
    rw [← hW9] at ho ⊢
    clear hW9
    obtain ⟨bk, -⟩ := Owns.blk (ho)
    have hb0 := lt_of_block bk
    have e0 := cell_of_heap bk (i := 0)
    have e1 := cell_of_heap bk (i := 1)
    have e2 := cell_of_heap bk (i := 2)
    simp only [List.getElem?_toArray, List.getElem?_cons_succ, List.getElem?_cons_zero] at e0 e1 e2
    have f0 := free_of_heap bk (i := 0)
    have f1 := free_of_heap bk (i := 1)
    have f2 := free_of_heap bk (i := 2)
    clear bk
    refine bodyPost_ret (v := .tuple #[.agg #[.int .i64 0, .slice none 0 0, .slice none 0 0], .int .i64 q]) (by simp [results, Tryz.results12, go_sem, e0, e1, e2]) rfl ?_
    exact ⟨_, _, by rw [HE.out], by rw [HE.out]; exact (Owns.drop ho 2).txNew.txNew⟩
  have hq1 : ((q : Int) != 0) = false := by simp; omega
  have HK0 : Hid (checkV l s = 0) := Lib.hid (HQ.out.symm.trans hq0)
  clear HQ hq0
  replace HFo := Lib.hid (HFo.out HK0.out)
  replace HCt := Lib.hid (HCt.out HK0.out)
  obtain ⟨bk, -⟩ := HO.out.pop.blk
  rw [HOb.out] at bk
  have hbx := lt_of_block bk
  have x0 := cell_of_heap bk (i := 0)
  have x1 := cell_of_heap bk (i := 1)
  have x2 := cell_of_heap bk (i := 2)
  have x3 := cell_of_heap bk (i := 3)
  have x4 := cell_of_heap bk (i := 4)
  have x5 := cell_of_heap bk (i := 5)
  simp only [List.getElem?_toArray, List.getElem?_cons_succ, List.getElem?_cons_zero] at x0 x1 x2 x3 x4 x5
  clear bk
  go_wp2_with fail
  clear hbx x0 x1 x2 x3 x4 x5
  clear hq1
  go_at_call 34
  refine (HFo.out W2 HO.out.base).mono ?_
  rintro e W3 ⟨fv, L, rfl, hL, hrow⟩
  clear HFo
  replace HO := Lib.hid (Owns.app HO.out hrow)
  have HL := Lib.hid hL
  clear hL hrow
  obtain ⟨F, hF⟩ : ∃ F, F = forbs s l := ⟨_, rfl⟩
  rw [← hF] at HL
  have HF := Lib.hid hF
  clear hF
  obtain ⟨fa, fc, rfl⟩ := HO.out.irForm
  obtain ⟨NF, hNF⟩ : ∃ n, n = L.length := ⟨_, rfl⟩
  have HNF := Lib.hid hNF
  have HNF2 : Hid (NF = F.length) := by
    show _ = _
    have := congrArg List.length HL.out
    rw [List.length_map, List.length_map] at this
    rw [hNF, this]
  have hNFl : NF ≤ 1000000 := by
    have h1 := HM.out.len
    have h2 : (forbs s l).length ≤ l.length := Nat.le_trans (List.length_filter_le _ _) (List.length_filter_le _ _)
    have h3 := HNF2.out
    rw [HF.out] at h3
    omega
  rw [← hNF] at HO
  simp only []
  rw [← hNF]
  clear hNF
  by_cases hz : NF = 0
  · have hz1 : ((NF : Int) == 0) = true := by simp; omega
    have HE : Hid (licensedV l s cov = (⟨1, [], []⟩, 0)) := by
      show _ = _
      unfold licensedV verdictOf
      have h1 : F = [] := List.length_eq_zero_iff.1 (HNF2.out.symm.trans hz)
      rw [HK0.out, if_neg (by simp), ← HF.out, h1]; rfl
    replace HO := Lib.hid (HO.out.re [1, 0])
    obtain ⟨bk, -⟩ := Owns.blk (HO.out)
    have hb0 := lt_of_block bk
    have e0 := cell_of_heap bk (i := 0)
    have e1 := cell_of_heap bk (i := 1)
    have e2 := cell_of_heap bk (i := 2)
    simp only [List.getElem?_toArray, List.getElem?_cons_succ, List.getElem?_cons_zero] at e0 e1 e2
    have f0 := free_of_heap bk (i := 0)
    have f1 := free_of_heap bk (i := 1)
    have f2 := free_of_heap bk (i := 2)
    clear bk
    clear hz
    go_wp2_with fail
    have ho := ((HO.out.store (i := 0) (.int .i64 1)).store (i := 1) (.slice none 0 0)).store (i := 2) (.slice none 0 0)
    replace ho : Owns w (((W3.setCell ⟨br, 0, none⟩ (.int .i64 1)).setCell ⟨br, 1, none⟩ (.slice none 0 0)).setCell ⟨br, 2, none⟩ (.slice none 0 0)) (blk br (vobj (1) (.slice none 0 0) (.slice none 0 0)) :: _) := ho
    clear hb0 e0 e1 e2 f0 f1 f2
    obtain ⟨W9, hW9⟩ : ∃ W9, W9 = ((W3.setCell ⟨br, 0, none⟩ (.int .i64 1)).setCell ⟨br, 1, none⟩ (.slice none 0 0)).setCell ⟨br, 2, none⟩ (.slice none 0 0) := ⟨_, rfl⟩
    rw [← hW9] at ho ⊢
    clear hW9
    obtain ⟨bk, -⟩ := Owns.blk (ho)
    have hb0 := lt_of_block bk
    have e0 := cell_of_heap bk (i := 0)
    have e1 := cell_of_heap bk (i := 1)
    have e2 := cell_of_heap bk (i := 2)
    simp only [List.getElem?_toArray, List.getElem?_cons_succ, List.getElem?_cons_zero] at e0 e1 e2
    have f0 := free_of_heap bk (i := 0)
    have f1 := free_of_heap bk (i := 1)
    have f2 := free_of_heap bk (i := 2)
    clear bk
    refine bodyPost_ret (v := .tuple #[.agg #[.int .i64 1, .slice none 0 0, .slice none 0 0], .int .i64 0]) (by simp [results, Tryz.results12, go_sem, e0, e1, e2]) rfl ?_
    exact ⟨_, _, by rw [HE.out]; rfl, by rw [HE.out]; exact (Owns.drop ho 3).txNew.txNew⟩
  have hz1 : ((NF : Int) == 0) = false := by simp; omega
  have HZ : Hid (F.map Me.id ≠ []) := by
    show _ ≠ _
    intro h
    have h1 := congrArg List.length h
    rw [List.length_map, ← HNF2.out] at h1
    exact hz h1
  clear hz
  obtain ⟨q2, hq2⟩ : ∃ q : Me → Bool, q = fun m => !cov.contains m.id := ⟨_, rfl⟩
  obtain ⟨A, hA0⟩ : ∃ A : Nat → List Bytes, A = fun j => (F.take j).map Me.id := ⟨_, rfl⟩
  obtain ⟨B, hB0⟩ : ∃ A : Nat → List Bytes, A = fun j => ((F.take j).filter q2).map Me.id := ⟨_, rfl⟩
  obtain ⟨G, hG0⟩ : ∃ A : Nat → List Bytes, A = fun j => ((F.take j).filter q2).map Me.auth := ⟨_, rfl⟩
  have HQ2 := Lib.hid hq2
  have HA0 := Lib.hid hA0
  have HB0 := Lib.hid hB0
  have HG0 := Lib.hid hG0
  have HO1 : Hid (Owns w W3 (txP (.slice none 0 0) (A 0) :: txP (.slice none 0 0) (B 0) :: txP (.slice none 0 0) (G 0) :: irw (.slice fa NF fc) L :: blk br (vobj 0 (.slice none 0 0) (.slice none 0 0)) :: blk bx o :: [])) := by
    rw [hA0, hB0, hG0]
    exact Lib.hid HO.out.txNew.txNew.txNew
  clear hA0 hB0 hG0 hq2 HO
  go_wp2_with fail
  clear hz1
  go_loopg [10, 11, 12, 13] NF (fun gk va vb vg i wr => ∃ k : Nat, gk = NF - k ∧ k ≤ NF ∧ i = .int .i64 (k : Int) ∧ Hid ((A k).length ≤ k ∧ (B k).length ≤ k ∧ (G k).length ≤ k) ∧ Hid (Owns w wr (txP va (A k) :: txP vb (B k) :: txP vg (G k) :: irw (.slice fa NF fc) L :: blk br (vobj 0 (.slice none 0 0) (.slice none 0 0)) :: blk bx o :: [])))
  case atStart => exact ⟨0, rfl, Nat.zero_le _, rfl, by rw [HA0.out, HB0.out, HG0.out]; exact Lib.hid ⟨by simp, by simp, by simp⟩, HO1⟩
  case round =>
    rename_i J1 K1 hJ1 hK1
    clear HO1
    obtain ⟨k, rfl, hk, rfl, HLe, HO⟩ := hrel
    obtain ⟨aa, an, ac, rfl⟩ : ∃ a n c, u10 = .slice a n c := by obtain ⟨y, c, e, -⟩ := HO.out.txIs; exact ⟨y, _, c, e⟩
    obtain ⟨ba, bn, bc, rfl⟩ : ∃ a n c, u11 = .slice a n c := by obtain ⟨y, c, e, -⟩ := HO.out.pop.txIs; exact ⟨y, _, c, e⟩
    obtain ⟨ga, gn, gc, rfl⟩ : ∃ a n c, u12 = .slice a n c := by obtain ⟨y, c, e, -⟩ := HO.out.pop.pop.txIs; exact ⟨y, _, c, e⟩
    by_cases hlt : k < NF
    · obtain ⟨ix, hix⟩ : ∃ i, L[k]? = some i := ⟨_, List.getElem?_eq_getElem (by rw [← HNF.out]; exact hlt)⟩
      obtain ⟨m, hFm, hx⟩ : ∃ m, F[k]? = some m ∧ l[ix]? = some m := by
        obtain ⟨m, hm⟩ : ∃ m, F[k]? = some m := ⟨_, List.getElem?_eq_getElem (by rw [← HNF2.out]; exact hlt)⟩
        have h1 := congrArg (fun z => z[k]?) HL.out
        simp only [List.getElem?_map, hix, hm, Option.map_some] at h1
        exact ⟨m, hm, by simpa using h1⟩
      have hixN : ix < N := by rw [HN.out]; exact (List.getElem?_eq_some_iff.1 hx).1
      obtain ⟨gf, rfl, hgf, cf⟩ := Owns.irGet (Owns.drop HO.out 3) hix
      obtain ⟨g, off, kv, rfl, hgw, hm, hf⟩ := HR.out.get (Below.refl _ _) hx
      have HFm := Lib.hid hFm
      have HXm := Lib.hid (HM.out.each m (List.mem_of_getElem? hx)).1
      obtain ⟨ky, kn, rfl⟩ := hf.form
      obtain ⟨n2, hn2⟩ : ∃ n, n = m.cond.kids.length := ⟨_, rfl⟩
      rw [← hn2] at hm
      clear hf hn2 hix hFm hx
      have hrg : g < wr.heap.size := Nat.lt_of_lt_of_le hgw HO.out.base.size
      obtain ⟨r0, r1, r2, r3, r4, r5, r6, r7, r8, r9, ra, rb⟩ := MeAt.later hm hgw HO.out.base
      clear hm
      have HO13 := Lib.hid (HO.out.box (mobj m (.slice ky n2 kn)))
      have HW := Lib.hid (HO13.out.alloc (.cells #[.string (bs m.id)] 9))
      have hAl := HLe.out.1
      have e1 : Hid (A (k + 1) = A k ++ [m.id]) := by show _ = _; rw [HA0.out]; dsimp only; rw [List.take_add_one, HFm.out]; simp
      go_wp2_with (refine wpList_plain rfl fun K hK => wp_append (.tmp 44) (.tmp 47) 26 (by rfl) 9 _ 1 16 Tryz.underlying26 info_txt (by rfl) (by omega) _ (A k).length _ (by rfl) (Owns.txRow HW.out.pop) (wr.heap.size + 1) 1 1 [.string (bs m.id)] (by rfl) (by rfl) 9 (by exact new_heap (wr.alloc _) _ _ (by simp)) (by simp [Value.oneCell']) (by omega) (by omega) ?_; intro v' w2 hrow hgrow hblk; have ho14 := (Owns.txGrew (l' := A k ++ [m.id]) HW.out.swap (by simpa [txs] using hrow) hgrow hblk).swap; have HO14 := Lib.hid ho14; clear ho14 hrow hgrow hblk; obtain ⟨bk, -⟩ := HO14.out.blk; have h8 := lt_of_block bk; have e80 := cell_of_heap bk (i := 0); have e81 := cell_of_heap bk (i := 1); simp only [List.getElem?_toArray, List.getElem?_cons_succ, List.getElem?_cons_zero] at e80 e81; clear bk)
      clear hrg r0 r1 r2 r3 r4 r5 r6 r7 r8 r9 ra rb hgf cf hixN
      go_at_call 35
      refine (rindex_c cov m.id _ w2 (HCv.out.later HO14.out.base) (by have := HCl.out; omega)).mono ?_
      rintro e w3 ⟨rfl, hw⟩
      subst hw
      obtain ⟨p, hp⟩ : ∃ p, p = ixI (idxA m.id cov) := ⟨_, rfl⟩
      have hpc : decide (p < 0) = !cov.contains m.id := by rw [hp, ixI_neg]
      rw [← hp]
      clear hp
      obtain ⟨x2, hx2⟩ : ∃ x, x = cov.contains m.id := ⟨_, rfl⟩
      have hv2 : q2 m = !cov.contains m.id := by rw [HQ2.out]
      rw [← hx2] at hpc hv2
      have HV3 := Lib.hid hv2
      clear hx2 hv2
      cases x2
      rotate_left
      · have hp0 : ¬ p < 0 := by simpa using hpc
        have e2 : Hid (B (k + 1) = B k) := by show _ = _; rw [HB0.out]; dsimp only; rw [filter_next HFm.out, HV3.out]; simp
        have e3 : Hid (G (k + 1) = G k) := by show _ = _; rw [HG0.out]; dsimp only; rw [filter_next HFm.out, HV3.out]; simp
        clear hpc
        go_wp2_with fail
        clear h8 e80 e81 hp0
        go_roundg (NF - (k + 1))
        case measure => omega
        case rel => exact ⟨k + 1, rfl, by omega, by go_num, by rw [e1.out, e2.out, e3.out]; exact Lib.hid ⟨by rw [List.length_append]; exact Nat.succ_le_succ HLe.out.1, Nat.le_succ_of_le HLe.out.2.1, Nat.le_succ_of_le HLe.out.2.2⟩, by rw [e1.out, e2.out, e3.out]; exact Lib.hid HO14.out.pop⟩
      have hp0 : p < 0 := by simpa using hpc
      clear hpc
      have e2 : Hid (B (k + 1) = B k ++ [m.id]) := by show _ = _; rw [HB0.out]; dsimp only; rw [filter_next HFm.out, HV3.out]; simp
      have e3 : Hid (G (k + 1) = G k ++ [m.auth]) := by show _ = _; rw [HG0.out]; dsimp only; rw [filter_next HFm.out, HV3.out]; simp
      obtain ⟨b8, hb8⟩ : ∃ b, b = wr.heap.size := ⟨_, rfl⟩
      rw [← hb8] at HO14 h8 e80 e81 ⊢
      have HW2 : Hid (Owns w (w3.alloc (.cells #[.string (bs m.id)] 9)) (txP (.slice ba bn bc) (B k) :: blk b8 (mobj m (.slice ky n2 kn)) :: txP v' (A k ++ [m.id]) :: txP (.slice ga gn gc) (G k) :: irw (.slice (some ⟨gf, 0, none⟩) NF fc) L :: blk br (vobj 0 (.slice none 0 0) (.slice none 0 0)) :: blk bx o :: [])) := Lib.hid ((HO14.out.re [2, 0, 1]).alloc _)
      have hBl := HLe.out.2.1
      have hGl := HLe.out.2.2
      clear HO13 HW HO hb8
      go_wp2_with (first | (refine wpList_plain rfl fun K hK => wp_append (.tmp 54) (.tmp 57) 26 (by rfl) 9 _ 1 16 Tryz.underlying26 info_txt (by rfl) (by omega) _ (B k).length _ (by rfl) (Owns.txRow HW2.out) (w3.heap.size) 1 1 [.string (bs m.id)] (by rfl) (by rfl) 9 (by exact new_heap w3 _ _ rfl) (by simp [Value.oneCell']) (by omega) (by omega) ?_; intro v2' w4 hrow hgrow hblk; have ho15 := (Owns.txGrew (l' := B k ++ [m.id]) HW2.out (by simpa [txs] using hrow) hgrow hblk); have HO15 : Hid (Owns w w4 (txP (.slice ga gn gc) (G k) :: blk b8 (mobj m (.slice ky n2 kn)) :: txP v' (A k ++ [m.id]) :: txP v2' (B k ++ [m.id]) :: irw (.slice (some ⟨gf, 0, none⟩) NF fc) L :: blk br (vobj 0 (.slice none 0 0) (.slice none 0 0)) :: blk bx o :: [])) := Lib.hid (ho15.re [3, 1, 2, 0]); clear ho15 hrow hgrow hblk h8 e80 e81; obtain ⟨bk, -⟩ := Owns.blk (Owns.drop HO15.out 1); have h8 := lt_of_block bk; have e81 := cell_of_heap bk (i := 1); simp only [List.getElem?_toArray, List.getElem?_cons_succ, List.getElem?_cons_zero] at e81; clear bk; have HW3 := Lib.hid (HO15.out.alloc (.cells #[.string (bs m.auth)] 9))) | (refine wpList_plain rfl fun K hK => wp_append (.tmp 59) (.tmp 62) 26 (by rfl) 9 _ 1 16 Tryz.underlying26 info_txt (by rfl) (by omega) _ (G k).length _ (by rfl) (Owns.txRow HW3.out) (w4.heap.size) 1 1 [.string (bs m.auth)] (by rfl) (by rfl) 9 (by exact new_heap w4 _ _ rfl) (by simp [Value.oneCell']) (by omega) (by omega) ?_; intro v3' w5 hrow hgrow hblk; have ho16 := (Owns.txGrew (l' := G k ++ [m.auth]) HW3.out (by simpa [txs] using hrow) hgrow hblk); have HO16 := Lib.hid ((ho16.re [2, 3, 0, 1])); clear ho16 hrow hgrow hblk h8 e81))
      have HO17 : Hid (Owns w w5 (txP v' (A (k + 1)) :: txP v2' (B (k + 1)) :: txP v3' (G (k + 1)) :: irw (.slice (some ⟨gf, 0, none⟩) NF fc) L :: blk br (vobj 0 (.slice none 0 0) (.slice none 0 0)) :: blk bx o :: [])) := by
        rw [e1.out, e2.out, e3.out]
        exact Lib.hid ((HO16.out.re [3, 0, 1, 2]).pop)
      clear HO16 HO15 HO14 HW2 HW3 hp0
      go_roundg (NF - (k + 1))
      case measure => omega
      case rel => exact ⟨k + 1, rfl, by omega, by go_num, by rw [e1.out, e2.out, e3.out]; exact Lib.hid ⟨by rw [List.length_append]; exact Nat.succ_le_succ HLe.out.1, by rw [List.length_append]; exact Nat.succ_le_succ HLe.out.2.1, by rw [List.length_append]; exact Nat.succ_le_succ HLe.out.2.2⟩, HO17⟩
    · obtain rfl : k = NF := by omega
      obtain ⟨AA, hAA⟩ : ∃ x, x = A k := ⟨_, rfl⟩
      obtain ⟨BB, hBB⟩ : ∃ x, x = B k := ⟨_, rfl⟩
      obtain ⟨GG, hGG⟩ : ∃ x, x = G k := ⟨_, rfl⟩
      have HAe : Hid ((forbs s l).map Me.id = AA) := by
        show _ = _
        rw [hAA, HA0.out, HNF2.out, ← HF.out]
        dsimp only
        rw [List.take_length]
      have HBe : Hid ((leftM s l cov).map Me.id = BB) := by
        show _ = _
        rw [hBB, HB0.out, HNF2.out]
        dsimp only
        rw [List.take_length]
        unfold leftM
        rw [← HF.out, HQ2.out]
      have HGe : Hid ((leftM s l cov).map Me.auth = GG) := by
        show _ = _
        rw [hGG, HG0.out, HNF2.out]
        dsimp only
        rw [List.take_length]
        unfold leftM
        rw [← HF.out, HQ2.out]
      have hGl : GG.length ≤ 1000000 := by rw [hGG]; have := HLe.out.2.2; omega
      rw [← hAA, ← hBB, ← hGG] at HO
      have HZa : Hid (AA ≠ []) := by
        show _ ≠ _
        rw [← HAe.out, ← HF.out]
        exact HZ.out
      have HO20 : Hid (Owns w wr (blk br (vobj 0 (.slice none 0 0) (.slice none 0 0)) :: txP (.slice aa an ac) AA :: txP (.slice ba bn bc) BB :: txP (.slice ga gn gc) GG :: irw (.slice fa k fc) L :: blk bx o :: [])) := Lib.hid (HO.out.re [4, 0, 1, 2, 3])
      have hbn : bn = BB.length := by
        obtain ⟨y, c, e, -⟩ := HO.out.pop.txIs
        injection e
      clear hJ1 hK1 hlt HO hAA hBB hGG HZ HA0 HB0 HG0 HQ2 HLe HL HF HNF HNF2
      replace HO := HO20
      clear HO20
      obtain ⟨bk, -⟩ := Owns.blk (HO.out)
      have hb0 := lt_of_block bk
      have e0 := cell_of_heap bk (i := 0)
      have e1 := cell_of_heap bk (i := 1)
      have e2 := cell_of_heap bk (i := 2)
      simp only [List.getElem?_toArray, List.getElem?_cons_succ, List.getElem?_cons_zero] at e0 e1 e2
      have f0 := free_of_heap bk (i := 0)
      have f1 := free_of_heap bk (i := 1)
      have f2 := free_of_heap bk (i := 2)
      clear bk
      by_cases zb : bn = 0
      · have zb1 : ((bn : Int) == 0) = true := by simp; omega
        have HE : Hid (licensedV l s cov = (⟨4, AA, []⟩, 0)) := by
          show _ = _
          unfold licensedV verdictOf
          rw [HK0.out, if_neg (by simp), HAe.out, HBe.out, if_neg HZa.out, if_pos (List.length_eq_zero_iff.1 (hbn.symm.trans zb))]
        clear zb hbn
        go_wp2_with fail
        have ho := ((HO.out.store (i := 0) (.int .i64 4)).store (i := 1) (.slice aa an ac)).store (i := 2) (.slice none 0 0)
        replace ho : Owns w (((wr.setCell ⟨br, 0, none⟩ (.int .i64 4)).setCell ⟨br, 1, none⟩ (.slice aa an ac)).setCell ⟨br, 2, none⟩ (.slice none 0 0)) (blk br (vobj (4) (.slice aa an ac) (.slice none 0 0)) :: _) := ho
        clear hb0 e0 e1 e2 f0 f1 f2
        obtain ⟨W9, hW9⟩ : ∃ W9, W9 = ((wr.setCell ⟨br, 0, none⟩ (.int .i64 4)).setCell ⟨br, 1, none⟩ (.slice aa an ac)).setCell ⟨br, 2, none⟩ (.slice none 0 0) := ⟨_, rfl⟩
        rw [← hW9] at ho ⊢
        clear hW9
        obtain ⟨bk, -⟩ := Owns.blk (ho)
        have hb0 := lt_of_block bk
        have e0 := cell_of_heap bk (i := 0)
        have e1 := cell_of_heap bk (i := 1)
        have e2 := cell_of_heap bk (i := 2)
        simp only [List.getElem?_toArray, List.getElem?_cons_succ, List.getElem?_cons_zero] at e0 e1 e2
        have f0 := free_of_heap bk (i := 0)
        have f1 := free_of_heap bk (i := 1)
        have f2 := free_of_heap bk (i := 2)
        clear bk
        refine bodyPost_ret (v := .tuple #[.agg #[.int .i64 4, .slice aa an ac, .slice none 0 0], .int .i64 0]) (by simp [results, Tryz.results12, go_sem, e0, e1, e2]) rfl ?_
        exact ⟨_, _, by rw [HE.out]; rfl, by rw [HE.out]; exact (Owns.cut (ps := [_]) (ho.re [1, 0])).txNew.swap⟩
      have zb1 : ((bn : Int) == 0) = false := by simp; omega
      have HZb : Hid (BB ≠ []) := Lib.hid fun h => zb (by rw [hbn, h]; rfl)
      clear zb hbn hb0 e0 e1 e2 f0 f1 f2
      obtain ⟨bv, hbv⟩ : ∃ b, b = wr.heap.size := ⟨_, rfl⟩
      obtain ⟨W5, hW5⟩ : ∃ W, W = wr.alloc (vobj 2 (.slice ba bn bc) (.slice none 0 0)) := ⟨_, rfl⟩
      obtain ⟨bl, hbl⟩ : ∃ f : Me → Bool, f = fun m => decide (m.kind = 3) && (GG.contains m.target && countsB s m) := ⟨_, rfl⟩
      obtain ⟨D, hD⟩ : ∃ A : Nat → List Bytes, A = fun j => ((l.take j).filter bl).map Me.id := ⟨_, rfl⟩
      have HBl := Lib.hid hbl
      have HD := Lib.hid hD
      have HO5 : Hid (Owns w W5 (blk bv (vobj 2 (.slice ba bn bc) (.slice none 0 0)) :: txP (.slice none 0 0) (D 0) :: txP (.slice ga gn gc) GG :: blk br (vobj 0 (.slice none 0 0) (.slice none 0 0)) :: txP (.slice aa an ac) AA :: txP (.slice ba bn bc) BB :: irw (.slice fa k fc) L :: blk bx o :: [])) := by
        rw [hW5, hbv, hD]
        exact Lib.hid (((HO.out.re [3, 0, 1, 2]).txNew).box _)
      have hD0 : D 0 = [] := by rw [hD]; rfl
      have HD0 : Hid ((2 : Int) = if D 0 = [] then 2 else 3) := by show _ = _; rw [if_pos hD0]
      have hDl : (D 0).length ≤ 0 := by rw [hD0]; exact Nat.le_refl _
      clear HO hD hbl hD0
      go_wp2_with fail
      rw [← hW5, ← hbv]
      clear hW5 hbv zb1
      go_loopg [16] N (fun gk i wr => ∃ (j : Nat) (kd : Int) (dv : Value), gk = N - j ∧ j ≤ N ∧ i = .int .i64 (j : Int) ∧ (D j).length ≤ j ∧ Hid (kd = if D j = [] then 2 else 3) ∧ Hid (Owns w wr (blk bv (vobj kd (.slice ba bn bc) dv) :: txP dv (D j) :: txP (.slice ga gn gc) GG :: blk br (vobj 0 (.slice none 0 0) (.slice none 0 0)) :: txP (.slice aa an ac) AA :: txP (.slice ba bn bc) BB :: irw (.slice fa k fc) L :: blk bx o :: [])))
      case atStart => exact ⟨0, 2, .slice none 0 0, rfl, Nat.zero_le _, rfl, hDl, HD0, HO5⟩
      case round =>
        rename_i J2 K2 hJ2 hK2
        clear HO5 HD0 hDl
        obtain ⟨j, kd, dv, rfl, hj, rfl, hDl, HKd, HO⟩ := hrel
        obtain ⟨da, dn, dc, rfl⟩ : ∃ a n c, dv = .slice a n c := by obtain ⟨y, c, e, -⟩ := HO.out.pop.txIs; exact ⟨y, _, c, e⟩
        by_cases hlt : j < N
        · obtain ⟨m, hx⟩ : ∃ x, l[j]? = some x := ⟨_, List.getElem?_eq_getElem (by rw [← HN.out]; exact hlt)⟩
          obtain ⟨g, off, kv, rfl, hgw, hm, hf⟩ := HR.out.get (Below.refl _ _) hx
          have HMx := Lib.hid hx
          have HMm := Lib.hid (List.mem_of_getElem? hx)
          have HXm := Lib.hid (HM.out.each m (List.mem_of_getElem? hx)).1
          obtain ⟨ky, kn, rfl⟩ := hf.form
          obtain ⟨n2, hn2⟩ : ∃ n, n = m.cond.kids.length := ⟨_, rfl⟩
          rw [← hn2] at hm hf
          have HFm := Lib.hid hf
          have HMA := Lib.hid hm
          clear hx hf hn2 hm
          go_wp2_with fail
          refine wp_region_can [13, 22] (List.range 24) (by decide +kernel) (by decide +kernel) ?_
          replace HO := Lib.hid HO.out.drew
          obtain ⟨W6, hWx⟩ : ∃ W, W = World.drew wr := ⟨_, rfl⟩
          rw [← hWx] at HO ⊢
          clear hWx
          have rhg : g < W6.heap.size := Nat.lt_of_lt_of_le hgw HO.out.base.size
          obtain ⟨r0, r1, r2, r3, r4, r5, r6, r7, r8, r9, ra, rb⟩ := MeAt.later HMA.out hgw HO.out.base
          by_cases h1 : m.kind = 3
          rotate_left
          · have h1' : (m.kind == 3) = false := by simpa using h1
            have hb : bl m = false := by rw [HBl.out]; simp [h1]
            have HB2 := Lib.hid hb
            clear h1 hb
            iterate 24 (first | (refine cl_do rfl rfl rfl rfl (fun _ _ => ?_); go_wp2_with fail) | (refine cl_yes rfl rfl rfl rfl (by first | rfl | simp [okB, lenV, plainV, Act.eval]) (fun _ _ => ?_); go_wp2_with fail) | (refine cl_no rfl rfl rfl ?_; go_simp) | (refine cl_skip rfl (by rfl) ?_; go_simp))
            refine cl_nil ?_
            clear h1'
            clear rhg r0 r1 r2 r3 r4 r5 r6 r7 r8 r9 ra rb
            have e1 : Hid (D (j + 1) = D j) := by show _ = _; rw [HD.out]; dsimp only; rw [filter_next HMx.out, HB2.out]; simp
            go_wp2_with fail
            go_roundg (N - (j + 1))
            case measure => omega
            case rel => exact ⟨j + 1, kd, _, rfl, by omega, by go_num, by rw [e1.out]; omega, by rw [e1.out]; exact HKd, by rw [e1.out]; exact HO⟩
          have h1' : (m.kind == 3) = true := by simpa using h1
          have h1c := Lib.hid (decide_eq_true h1)
          clear h1
          iterate 13 (first | (refine cl_do rfl rfl rfl rfl (fun _ _ => ?_); go_wp2_with fail) | (refine cl_yes rfl rfl rfl rfl (by first | rfl | simp [okB, lenV, plainV, Act.eval]) (fun _ _ => ?_); go_wp2_with fail) | (refine cl_no rfl rfl rfl ?_; go_simp) | (refine cl_skip rfl (by rfl) ?_; go_simp))
          clear rhg r0 r1 r2 r3 r4 r5 r6 r7 r8 r9 ra rb
          refine cl_ycall (i := 13) rfl rfl rfl rfl (fun K hK => ?_)
          go_wp2_with fail
          go_at_call 35
          refine (rindex_c GG m.target _ W6 (Owns.drop HO.out 2).txIs (by omega)).mono ?_
          rintro e W7 ⟨rfl, hw⟩
          obtain rfl : W7 = W6 := hw
          obtain ⟨p, hp⟩ : ∃ p, p = ixI (idxA m.target GG) := ⟨_, rfl⟩
          have hpc : decide (0 ≤ p) = GG.contains m.target := by rw [hp, ixI_ge]
          rw [← hp]
          clear hp
          go_wp2_with fail
          refine And.intro (Below.refl _ _) ?_
          by_cases hp0 : 0 ≤ p
          rotate_left
          · have hp1 : decide (0 ≤ p) = false := by simp; omega
            have hb : bl m = false := by rw [HBl.out]; show (decide (m.kind = 3) && (GG.contains m.target && countsB s m)) = false; rw [← hpc, hp1]; simp
            have HB2 := Lib.hid hb
            clear hb hpc
            iterate 10 (first | (refine cl_do rfl rfl rfl rfl (fun _ _ => ?_); go_wp2_with fail) | (refine cl_yes rfl rfl rfl rfl (by first | rfl | simp [okB, lenV, plainV, Act.eval]) (fun _ _ => ?_); go_wp2_with fail) | (refine cl_no rfl rfl rfl ?_; go_simp) | (refine cl_skip rfl (by rfl) ?_; go_simp))
            refine cl_nil ?_
            clear h1' hp0 hp1
            have e1 : Hid (D (j + 1) = D j) := by show _ = _; rw [HD.out]; dsimp only; rw [filter_next HMx.out, HB2.out]; simp
            go_wp2_with fail
            go_roundg (N - (j + 1))
            case measure => omega
            case rel => exact ⟨j + 1, kd, _, rfl, by omega, by go_num, by rw [e1.out]; omega, by rw [e1.out]; exact HKd, by rw [e1.out]; exact HO⟩
          have hp1 : decide (0 ≤ p) = true := by simp; omega
          have HG1 : Hid (GG.contains m.target = true) := by show _ = _; rw [← hpc, hp1]
          clear hpc
          have rhg : g < W7.heap.size := Nat.lt_of_lt_of_le hgw HO.out.base.size
          obtain ⟨r0, r1, r2, r3, r4, r5, r6, r7, r8, r9, ra, rb⟩ := MeAt.later HMA.out hgw HO.out.base
          obtain ⟨bk, -⟩ := (Owns.drop HO.out 7).blk
          rw [HOb.out] at bk
          have hbx := lt_of_block bk
          have x0 := cell_of_heap bk (i := 0)
          have x1 := cell_of_heap bk (i := 1)
          have x2 := cell_of_heap bk (i := 2)
          have x3 := cell_of_heap bk (i := 3)
          have x4 := cell_of_heap bk (i := 4)
          have x5 := cell_of_heap bk (i := 5)
          simp only [List.getElem?_toArray, List.getElem?_cons_succ, List.getElem?_cons_zero] at x0 x1 x2 x3 x4 x5
          clear bk
          iterate 8 (first | (refine cl_do rfl rfl rfl rfl (fun _ _ => ?_); go_wp2_with fail) | (refine cl_yes rfl rfl rfl rfl (by first | rfl | simp [okB, lenV, plainV, Act.eval]) (fun _ _ => ?_); go_wp2_with fail) | (refine cl_no rfl rfl rfl ?_; go_simp) | (refine cl_skip rfl (by rfl) ?_; go_simp))
          clear h1' hp0 hp1
          clear rhg r0 r1 r2 r3 r4 r5 r6 r7 r8 r9 ra rb
          clear hbx x0 x1 x2 x3 x4 x5
          refine cl_ycall (i := 22) rfl rfl rfl rfl (fun K hK => ?_)
          go_wp2_with fail
          go_at_call 36
          refine (HCt.out m _ W7 HMm.out HO.out.base (HFm.out.later HO.out.base)).mono ?_
          rintro e W6 ⟨rfl, hb⟩
          replace HO := Lib.hid (HO.out.below hb)
          have Hb := Lib.hid hb
          clear hb
          obtain ⟨q, hq⟩ : ∃ q, q = countsB s m := ⟨_, rfl⟩
          rw [← hq]
          have HQ := Lib.hid hq
          clear hq
          go_wp2_with fail
          refine And.intro Hb.out ?_
          clear Hb
          have HB2 : Hid (bl m = q) := by show _ = _; rw [HBl.out]; dsimp only; rw [h1c.out, HG1.out, ← HQ.out]; rfl
          clear HQ HG1 h1c
          cases q
          · iterate 1 (first | (refine cl_do rfl rfl rfl rfl (fun _ _ => ?_); go_wp2_with fail) | (refine cl_yes rfl rfl rfl rfl (by first | rfl | simp [okB, lenV, plainV, Act.eval]) (fun _ _ => ?_); go_wp2_with fail) | (refine cl_no rfl rfl rfl ?_; go_simp) | (refine cl_skip rfl (by rfl) ?_; go_simp))
            refine cl_nil ?_
            have e1 : Hid (D (j + 1) = D j) := by show _ = _; rw [HD.out]; dsimp only; rw [filter_next HMx.out, HB2.out]; simp
            go_wp2_with fail
            go_roundg (N - (j + 1))
            case measure => omega
            case rel => exact ⟨j + 1, kd, _, rfl, by omega, by go_num, by rw [e1.out]; omega, by rw [e1.out]; exact HKd, by rw [e1.out]; exact HO⟩
          iterate 1 (first | (refine cl_do rfl rfl rfl rfl (fun _ _ => ?_); go_wp2_with fail) | (refine cl_yes rfl rfl rfl rfl (by first | rfl | simp [okB, lenV, plainV, Act.eval]) (fun _ _ => ?_); go_wp2_with fail) | (refine cl_no rfl rfl rfl ?_; go_simp) | (refine cl_skip rfl (by rfl) ?_; go_simp))
          refine cl_nil ?_
          have e1 : Hid (D (j + 1) = D j ++ [m.id]) := by show _ = _; rw [HD.out]; dsimp only; rw [filter_next HMx.out, HB2.out]; simp
          obtain ⟨bk, -⟩ := Owns.blk (HO.out)
          have hbv2 := lt_of_block bk
          have g0 := cell_of_heap bk (i := 0)
          have g1 := cell_of_heap bk (i := 1)
          have g2 := cell_of_heap bk (i := 2)
          simp only [List.getElem?_toArray, List.getElem?_cons_succ, List.getElem?_cons_zero] at g0 g1 g2
          have gf0 := free_of_heap bk (i := 0)
          have gf2 := free_of_heap bk (i := 2)
          clear bk
          go_wp2_with fail
          have ho := HO.out.store (i := 0) (.int .i64 3)
          replace ho : Owns w (W6.setCell ⟨bv, 0, none⟩ (.int .i64 3)) (blk bv (vobj 3 (.slice ba bn bc) (.slice da dn dc)) :: _) := ho
          obtain ⟨W8, hW8⟩ : ∃ W, W = W6.setCell ⟨bv, 0, none⟩ (.int .i64 3) := ⟨_, rfl⟩
          rw [← hW8] at ho ⊢
          replace HO := Lib.hid ho
          clear ho hW8 hbv2 g0 g1 g2 gf0 gf2
          refine wp_region_can [] (List.range 11) (by decide +kernel) (by decide +kernel) ?_
          replace HO := Lib.hid HO.out.drew
          obtain ⟨W9, hWx⟩ : ∃ W, W = World.drew W8 := ⟨_, rfl⟩
          rw [← hWx] at HO ⊢
          clear hWx
          have rhg : g < W9.heap.size := Nat.lt_of_lt_of_le hgw HO.out.base.size
          obtain ⟨r0, r1, r2, r3, r4, r5, r6, r7, r8, r9, ra, rb⟩ := MeAt.later HMA.out hgw HO.out.base
          obtain ⟨bk, -⟩ := Owns.blk (HO.out)
          have hbv2 := lt_of_block bk
          have g0 := cell_of_heap bk (i := 0)
          have g1 := cell_of_heap bk (i := 1)
          have g2 := cell_of_heap bk (i := 2)
          simp only [List.getElem?_toArray, List.getElem?_cons_succ, List.getElem?_cons_zero] at g0 g1 g2
          have gf0 := free_of_heap bk (i := 0)
          have gf2 := free_of_heap bk (i := 2)
          clear bk
          have HW := Lib.hid (HO.out.alloc (.cells #[.string (bs m.id)] 9))
          iterate 8 (refine cl_do rfl rfl rfl rfl (fun _ _ => ?_); go_wp2_with fail)
          refine cl_do rfl rfl rfl rfl (fun K hK => ?_)
          refine wp_append (.tmp 103) (.tmp 109) 26 (by rfl) 9 _ 1 16 Tryz.underlying26 info_txt (by rfl) (by omega) _ (D j).length _ (by rfl) (Owns.txRow HW.out.pop) W9.heap.size 1 1 [.string (bs m.id)] (by rfl) (by rfl) 9 (by exact new_heap W9 _ _ rfl) (by simp [Value.oneCell']) (by omega) (by omega) ?_
          intro v' w2 hrow hgrow hblk
          have HO2 := Lib.hid ((Owns.txGrew (l' := D j ++ [m.id]) HW.out.swap (by simpa [txs] using hrow) hgrow hblk).swap)
          clear hrow hgrow hblk HW HO hbv2 g0 g1 g2 gf0 gf2
          clear rhg r0 r1 r2 r3 r4 r5 r6 r7 r8 r9 ra rb
          obtain ⟨da2, dn2, dc2, rfl⟩ : ∃ a n c, v' = .slice a n c := by obtain ⟨y, c, e, -⟩ := HO2.out.pop.txIs; exact ⟨y, _, c, e⟩
          obtain ⟨bk, -⟩ := Owns.blk (HO2.out)
          have hbv2 := lt_of_block bk
          have g0 := cell_of_heap bk (i := 0)
          have g1 := cell_of_heap bk (i := 1)
          have g2 := cell_of_heap bk (i := 2)
          simp only [List.getElem?_toArray, List.getElem?_cons_succ, List.getElem?_cons_zero] at g0 g1 g2
          have gf0 := free_of_heap bk (i := 0)
          have gf2 := free_of_heap bk (i := 2)
          clear bk
          have HO3 := Lib.hid (HO2.out.store (i := 2) (.slice da2 dn2 dc2))
          go_wp2_with fail
          iterate 2 (refine cl_do rfl rfl rfl rfl (fun _ _ => ?_); go_wp2_with fail)
          refine cl_nil ?_
          go_wp2_with fail
          have HO4 : Hid (Owns w (w2.setCell ⟨bv, 2, none⟩ (.slice da2 dn2 dc2)) (blk bv (vobj 3 (.slice ba bn bc) (.slice da2 dn2 dc2)) :: txP (.slice da2 dn2 dc2) (D (j + 1)) :: txP (.slice ga gn gc) GG :: blk br (vobj 0 (.slice none 0 0) (.slice none 0 0)) :: txP (.slice aa an ac) AA :: txP (.slice ba bn bc) BB :: irw (.slice fa k fc) L :: blk bx o :: [])) := by
            rw [e1.out]
            exact HO3
          have HK2 : Hid ((3 : Int) = if D (j + 1) = [] then 2 else 3) := by show _ = _; rw [e1.out, if_neg (by simp)]
          clear HO2 HO3 hbv2 g0 g1 g2 gf0 gf2
          go_roundg (N - (j + 1))
          case measure => omega
          case rel => exact ⟨j + 1, 3, _, rfl, by omega, by go_num, by rw [e1.out, List.length_append]; exact Nat.succ_le_succ hDl, HK2, HO4⟩
        · obtain rfl : j = N := by omega
          obtain ⟨CC, hCC⟩ : ∃ x, x = D j := ⟨_, rfl⟩
          have HCe : Hid ((blocksM s l cov).map Me.id = CC) := by
            show _ = _
            rw [hCC, HD.out, HN.out]
            dsimp only
            rw [List.take_length, blocks_filterR, HGe.out, HBl.out]
          have HE : Hid (licensedV l s cov = (⟨kd, BB, CC⟩, 0)) := by
            show _ = _
            unfold licensedV verdictOf
            rw [HK0.out, if_neg (by simp), HAe.out, HBe.out, HCe.out, if_neg HZa.out, if_neg HZb.out, HKd.out, ← hCC]
            by_cases hc : CC = []
            · rw [if_pos hc, if_pos hc, hc]
            · rw [if_neg hc, if_neg hc]
          rw [← hCC] at HO
          clear hJ2 hK2 hlt hCC HKd hDl HAe HBe HGe HCe HZa HZb HD HBl
          obtain ⟨bk, -⟩ := Owns.blk (HO.out)
          have hbv2 := lt_of_block bk
          have g0 := cell_of_heap bk (i := 0)
          have g1 := cell_of_heap bk (i := 1)
          have g2 := cell_of_heap bk (i := 2)
          simp only [List.getElem?_toArray, List.getElem?_cons_succ, List.getElem?_cons_zero] at g0 g1 g2
          have gf0 := free_of_heap bk (i := 0)
          have gf2 := free_of_heap bk (i := 2)
          clear bk
          have HO21 := Lib.hid (HO.out.re [3, 0, 1, 2])
          replace HO := HO21
          clear HO21
          obtain ⟨bk, -⟩ := Owns.blk (HO.out)
          have hb0 := lt_of_block bk
          have e0 := cell_of_heap bk (i := 0)
          have e1 := cell_of_heap bk (i := 1)
          have e2 := cell_of_heap bk (i := 2)
          simp only [List.getElem?_toArray, List.getElem?_cons_succ, List.getElem?_cons_zero] at e0 e1 e2
          have f0 := free_of_heap bk (i := 0)
          have f1 := free_of_heap bk (i := 1)
          have f2 := free_of_heap bk (i := 2)
          clear bk
          go_wp2_with fail
          clear hbv2 g0 g1 g2 gf0 gf2
          have ho := ((HO.out.store (i := 0) (.int .i64 kd)).store (i := 1) (.slice ba bn bc)).store (i := 2) (.slice da dn dc)
          replace ho : Owns w (((wr.setCell ⟨br, 0, none⟩ (.int .i64 kd)).setCell ⟨br, 1, none⟩ (.slice ba bn bc)).setCell ⟨br, 2, none⟩ (.slice da dn dc)) (blk br (vobj (kd) (.slice ba bn bc) (.slice da dn dc)) :: _) := ho
          clear hb0 e0 e1 e2 f0 f1 f2
          obtain ⟨W9, hW9⟩ : ∃ W9, W9 = ((wr.setCell ⟨br, 0, none⟩ (.int .i64 kd)).setCell ⟨br, 1, none⟩ (.slice ba bn bc)).setCell ⟨br, 2, none⟩ (.slice da dn dc) := ⟨_, rfl⟩
          rw [← hW9] at ho ⊢
          clear hW9
          obtain ⟨bk, -⟩ := Owns.blk (ho)
          have hb0 := lt_of_block bk
          have e0 := cell_of_heap bk (i := 0)
          have e1 := cell_of_heap bk (i := 1)
          have e2 := cell_of_heap bk (i := 2)
          simp only [List.getElem?_toArray, List.getElem?_cons_succ, List.getElem?_cons_zero] at e0 e1 e2
          have f0 := free_of_heap bk (i := 0)
          have f1 := free_of_heap bk (i := 1)
          have f2 := free_of_heap bk (i := 2)
          clear bk
          refine bodyPost_ret (v := .tuple #[.agg #[.int .i64 kd, .slice ba bn bc, .slice da dn dc], .int .i64 0]) (by simp [results, Tryz.results12, go_sem, e0, e1, e2]) rfl ?_
          exact ⟨_, _, by rw [HE.out]; rfl, by rw [HE.out]; exact Owns.cut (ps := [_, _]) (ho.re [5, 2, 0, 1, 3, 4])⟩
end Go.Proofs.YtakadfdnhlfijaaGreatDoor
namespace Go.Proofs.YtakadfdnhlfijaaGreatDoor
open Go.RowKit Go.Cz Go.Cz.Lx Go.Cz.Fo Go.Cz.Vd
open Go.WideMaps (keyOf_string_mk)
open Go.Cz.Ck (Shift validB)
set_option linter.unusedSimpArgs false
set_option linter.unusedVariables false
attribute [local go_sem] bs_size bs_extract bs_append bs_toList
attribute [local irreducible] cList cPlan
set_option maxRecDepth 100000 in
set_option maxHeartbeats 4000000 in
theorem rdecide_c (l : List Me) (s : Sc) (lv vd va vz vc : Value) (w : World) (hr : IsMeR w l lv) (hs : IsSc w s vd va vz vc) (hm : MsLen l) (hl : ScLen s) (hA : s.auths.length ≤ 1000000) (hZ : s.zones.length ≤ 1000000) (hC : s.cases.length ≤ 1000000) :
    Calls Tryz.prog 14 #[lv, sval s vd va vz vc] w (LicP w (decideV l s)) := by
  obtain ⟨W1, hW1⟩ : ∃ W1, W1 = (w.alloc (sobj s vd va vz vc)).alloc (vobj 0 (.slice none 0 0) (.slice none 0 0)) := ⟨_, rfl⟩
  obtain ⟨bx, hbx⟩ : ∃ b, b = w.heap.size := ⟨_, rfl⟩
  obtain ⟨br, hbr⟩ : ∃ b, b = bx + 1 := ⟨_, rfl⟩
  have HO : Hid (Owns w W1 [blk br (vobj 0 (.slice none 0 0) (.slice none 0 0)), blk bx (sobj s vd va vz vc)]) := by
    rw [hW1, hbr, hbx]
    have := ((Owns.start w).box (sobj s vd va vz vc)).box (vobj 0 (.slice none 0 0) (.slice none 0 0))
    rw [World.size_alloc] at this
    exact Lib.hid this
  have HL := Lib.hid (rlicensed_c l s [] lv vd va vz vc (.slice none 0 0) W1 (hr.later HO.out.base) (hs.later HO.out.base) (no_texts _) hm hl hA hZ hC (by simp))
  obtain ⟨yd, md, rfl⟩ := hs.dom.form
  obtain ⟨ya, ma, rfl⟩ := hs.auths.form
  obtain ⟨yz, mz, rfl⟩ := hs.zones.form
  obtain ⟨yc, mc, rfl⟩ := hs.cases.form
  clear hr hs hm hl
  go_enter Tryz.func14, Tryz.ntmps14
  go_wp2_with fail
  rw [← hW1, ← hbx, ← hbr]
  clear hW1 hbx hbr
  go_at_call 12
  refine HL.out.mono ?_
  rintro e W2 ⟨fv, bv, rfl, h1⟩
  have HDv : Hid (licensedV l s [] = decideV l s) := Lib.hid rfl
  rw [HDv.out] at h1 ⊢
  obtain ⟨r, hr⟩ : ∃ r, r = decideV l s := ⟨_, rfl⟩
  have Hr := Lib.hid hr
  rw [← hr] at h1 ⊢
  obtain ⟨⟨k, fl, bl⟩, q⟩ := r
  dsimp only at h1 ⊢
  replace HO : Hid (Owns w W2 (blk br (vobj 0 (.slice none 0 0) (.slice none 0 0)) :: txP fv fl :: txP bv bl :: blk bx (sobj s (.slice yd s.dom.length md) (.slice ya s.auths.length ma) (.slice yz s.zones.length mz) (.slice yc s.cases.length mc)) :: [])) := Lib.hid ((Owns.app HO.out h1).re [2, 0, 1, 3])
  clear h1 HL HDv hr
  obtain ⟨fy, fc, rfl, -⟩ := HO.out.pop.txIs
  obtain ⟨gy, gc, rfl, -⟩ := HO.out.pop.pop.txIs
  obtain ⟨nf, hnf⟩ : ∃ n, n = fl.length := ⟨_, rfl⟩
  obtain ⟨nb, hnb⟩ : ∃ n, n = bl.length := ⟨_, rfl⟩
  rw [← hnf, ← hnb] at HO ⊢
  clear hnf hnb
  obtain ⟨bk, -⟩ := Owns.blk (HO.out)
  have hb0 := lt_of_block bk
  have e0 := cell_of_heap bk (i := 0)
  have e1 := cell_of_heap bk (i := 1)
  have e2 := cell_of_heap bk (i := 2)
  simp only [List.getElem?_toArray, List.getElem?_cons_succ, List.getElem?_cons_zero] at e0 e1 e2
  have f0 := free_of_heap bk (i := 0)
  have f1 := free_of_heap bk (i := 1)
  have f2 := free_of_heap bk (i := 2)
  clear bk
  go_wp2_with fail
  have ho := ((HO.out.store (i := 0) (.int .i64 k)).store (i := 1) (.slice fy nf fc)).store (i := 2) (.slice gy nb gc)
  replace ho : Owns w (((W2.setCell ⟨br, 0, none⟩ (.int .i64 k)).setCell ⟨br, 1, none⟩ (.slice fy nf fc)).setCell ⟨br, 2, none⟩ (.slice gy nb gc)) (blk br (vobj k (.slice fy nf fc) (.slice gy nb gc)) :: _) := ho
  clear hb0 e0 e1 e2 f0 f1 f2
  obtain ⟨W9, hW9⟩ : ∃ W9, W9 = ((W2.setCell ⟨br, 0, none⟩ (.int .i64 k)).setCell ⟨br, 1, none⟩ (.slice fy nf fc)).setCell ⟨br, 2, none⟩ (.slice gy nb gc) := ⟨_, rfl⟩
  rw [← hW9] at ho ⊢
  clear hW9
  obtain ⟨bk, -⟩ := Owns.blk (ho)
  have hb0 := lt_of_block bk
  have e0 := cell_of_heap bk (i := 0)
  have e1 := cell_of_heap bk (i := 1)
  have e2 := cell_of_heap bk (i := 2)
  simp only [List.getElem?_toArray, List.getElem?_cons_succ, List.getElem?_cons_zero] at e0 e1 e2
  have f0 := free_of_heap bk (i := 0)
  have f1 := free_of_heap bk (i := 1)
  have f2 := free_of_heap bk (i := 2)
  clear bk
  refine bodyPost_ret (v := .tuple #[.agg #[.int .i64 k, .slice fy nf fc, .slice gy nb gc], .int .i64 (q : Nat)]) (by simp [results, Tryz.results14, go_sem, e0, e1, e2]) rfl ?_
  refine ⟨_, _, by rw [← Hr.out], ?_⟩
  rw [← Hr.out]
  exact Owns.cut (ps := [_, _]) ho.pop
end Go.Proofs.YtakadfdnhlfijaaGreatDoor

/-
  Domains: what a valid measure is, one fact more; rows of facts of the call's own.
-/
import Derived.Test.YtoeknmkephnekaaGreatDoorMsO
import Derived.Test.YtoeknmkephnekaaGreatDoorFmFirst
import Derived.Test.YtoeknmkephnekaaGreatDoorFmFact
namespace Go.Cz.Vd
open Go.Cz.Lx Go.Cz.Fo
open Go.Cz.Wn (datedB)
theorem node_bad {d : List Fact} {f : Fm} (h : nodeE d f = 0) : badE f = 0 := by
  unfold nodeE at h
  unfold badE
  by_cases h1 : formedB f = false
  · rw [if_pos h1] at h; cases h
  · rw [if_neg h1] at h
    by_cases h2 : f.op = 3
    · rw [if_neg (by simp [h2])] at h
      by_cases h3 : f.num < 0 ∨ 1000000 < f.num
      · rw [if_pos h3] at h; cases h
      · rw [if_neg]
        rintro (h4 | h4)
        · exact h1 h4
        · exact h3 h4.2
    · rw [if_neg]
      rintro (h4 | h4)
      · exact h1 h4
      · exact h2 h4.1
theorem idx_more (s : Bytes) (x : Fact) : ∀ d : List Fact, ¬ idxD s d < 0 → ¬ idxD s (d ++ [x]) < 0
  | [], h => by simp [idxD] at h
  | f :: r, h => by
    rw [List.cons_append, idxD]
    rw [idxD] at h
    by_cases h1 : f.name = s
    · rw [if_pos h1]; omega
    · rw [if_neg h1] at h ⊢
      by_cases h2 : idxD s r < 0
      · rw [if_pos h2] at h; omega
      · have h3 := idx_more s x r h2
        rw [if_neg h3]; omega
theorem node_more {d : List Fact} {x : Fact} {f : Fm} (h : nodeE d f = 0) : nodeE (d ++ [x]) f = 0 := by
  unfold nodeE at h ⊢
  by_cases h1 : formedB f = false
  · rw [if_pos h1] at h; cases h
  · rw [if_neg h1] at h ⊢
    by_cases h2 : f.op ≠ 3
    · rw [if_pos h2]
    · rw [if_neg h2] at h ⊢
      by_cases h3 : f.num < 0 ∨ 1000000 < f.num
      · rw [if_pos h3] at h; cases h
      · rw [if_neg h3] at h ⊢
        by_cases h4 : idxD f.name d < 0
        · rw [if_pos h4] at h; cases h
        · rw [if_neg (idx_more _ x d h4)]
theorem first_imp {p q : Fm → Nat} (hpq : ∀ f, p f = 0 → q f = 0) (f : Fm) : firstF p f = 0 → firstF q f = 0 := by
  refine Fm.induct (P := fun f => firstF p f = 0 → firstF q f = 0) ?_ f
  clear f
  intro f ih h
  rw [firstF_zero] at h ⊢
  exact ⟨hpq f h.1, fun k hk => ih k hk (h.2 k hk)⟩
theorem check_text {d : List Fact} {f : Fm} (h : checkF d f = 0) : textE f = 0 := by
  unfold checkF at h
  unfold textE
  by_cases h1 : largeB f = true
  · rw [if_pos h1] at h; cases h
  · rw [if_neg h1] at h
    rw [if_neg]
    rintro (h2 | h2)
    · exact h1 h2
    · exact h2 (first_imp (fun _ => node_bad) f h)
theorem check_more {d : List Fact} {x : Fact} {f : Fm} (h : checkF d f = 0) : checkF (d ++ [x]) f = 0 := by
  unfold checkF at h ⊢
  by_cases h1 : largeB f = true
  · rw [if_pos h1] at h; cases h
  · rw [if_neg h1] at h ⊢
    exact first_imp (fun _ => node_more) f h
theorem valid_parts {d : List Fact} {m : Me} : validM d m = 0 ↔ validD d = true ∧ namedM m = true ∧ datedB m.kind m.fr m.un m.wi = true ∧ checkF d m.cond = 0 := by
  unfold validM
  by_cases h1 : validD d = false ∨ namedM m = false
  · rw [if_pos h1]
    refine ⟨fun h => (by cases h), fun h => ?_⟩
    rcases h1 with h1 | h1
    · rw [h1] at h; cases h.1
    · rw [h1] at h; cases h.2.1
  · rw [if_neg h1]
    have h2 : validD d = true ∧ namedM m = true := by
      constructor
      · cases h : validD d with
        | true => rfl
        | false => exact absurd (.inl h) h1
      · cases h : namedM m with
        | true => rfl
        | false => exact absurd (.inr h) h1
    by_cases h3 : datedB m.kind m.fr m.un m.wi = false
    · rw [if_pos h3]
      exact ⟨fun h => (by cases h), fun h => by rw [h3] at h; cases h.2.2.1⟩
    · rw [if_neg h3]
      exact ⟨fun h => ⟨h2.1, h2.2, by simpa using h3, h⟩, fun h => h.2.2.2⟩
theorem text_parts {m : Me} : (textM m).2 = 0 ↔ textE m.cond = 0 ∧ namedM m = true ∧ datedB m.kind m.fr m.un m.wi = true := by
  unfold textM wrM
  by_cases h : (decide (textE m.cond = 0) && (namedM m && datedB m.kind m.fr m.un m.wi)) = true
  · rw [if_pos h]
    simp only [Bool.and_eq_true, decide_eq_true_eq] at h
    exact ⟨fun _ => h, fun _ => rfl⟩
  · rw [if_neg h]
    simp only [Bool.and_eq_true, decide_eq_true_eq] at h
    exact ⟨fun hx => (by cases hx), fun hx => absurd hx h⟩
theorem valid_text {d : List Fact} {m : Me} (h : validM d m = 0) : (textM m).2 = 0 := by
  obtain ⟨-, h2, h3, h4⟩ := valid_parts.1 h
  exact text_parts.2 ⟨check_text h4, h2, h3⟩
theorem valid_iff {d : List Fact} {m : Me} (h : (textM m).2 = 0) : validM d m = 0 ↔ validD d = true ∧ checkF d m.cond = 0 := by
  obtain ⟨-, h2, h3⟩ := text_parts.1 h
  rw [valid_parts]
  exact ⟨fun h => ⟨h.1, h.2.2.2⟩, fun h => ⟨h.1, h2, h3, h.2⟩⟩
theorem valid_more {d : List Fact} {x : Fact} {m : Me} (h : validM d m = 0) (hv : validD (d ++ [x]) = true) : validM (d ++ [x]) m = 0 := by
  obtain ⟨-, h2, h3, h4⟩ := valid_parts.1 h
  exact valid_parts.2 ⟨hv, h2, h3, check_more h4⟩
def few24 (d : List Fact) : Bool := (d.take 70).all (fun x => decide (x.name.length ≤ 100)) && decide (d.length ≤ 70)
end Go.Cz.Vd
namespace Go.Proofs.YtoeknmkephnekaaGreatDoor
open Go.RowKit Go.Cz Go.Cz.Lx Go.Cz.Fo Go.Cz.Vd
set_option linter.unusedSimpArgs false
set_option linter.unusedVariables false
attribute [local go_sem] bs_size bs_extract bs_append bs_toList
attribute [local irreducible] cList cPlan
set_option maxRecDepth 100000 in
set_option maxHeartbeats 4000000 in
theorem few24_c (d : List Fact) (v : Value) (w : World) (hd : IsD w d v) (hn : d.length ≤ 9223372036854775807) (hx : ∀ x ∈ d, x.name.length ≤ 140737488355328) :
    Calls Tryz.prog 16 #[.agg #[v], .int .i64 70] w fun e w' => e = .returned (.bool (few24 d)) ∧ Below w.heap.size w w' := by
  obtain ⟨y, c, rfl⟩ := hd.form
  obtain ⟨N, hN⟩ : ∃ N, N = d.length := ⟨_, rfl⟩
  rw [← hN] at hd hn ⊢
  have HD := Lib.hid hd
  have HN := Lib.hid hN
  have HX := Lib.hid hx
  clear hd hN hx
  obtain ⟨W1, hW1⟩ : ∃ W1, W1 = w.alloc (.cells #[.slice y N c] 45) := ⟨_, rfl⟩
  obtain ⟨b2, hb2⟩ : ∃ b, b = w.heap.size := ⟨_, rfl⟩
  have HO : Hid (Owns w W1 [blk b2 (.cells #[.slice y N c] 45 (0, 0))]) := by
    rw [hW1, hb2]
    exact Lib.hid ((Owns.start w).box _)
  go_enter Tryz.func16, Tryz.ntmps16
  go_wp2_with fail
  rw [← hW1, ← hb2]
  clear hW1 hb2
  have H0 : Hid ((d.take 0).all (fun x => decide (x.name.length ≤ 100)) = true) := Lib.hid rfl
  obtain ⟨bk, -⟩ := HO.out.blk
  have hbf := lt_of_block bk
  have c0 := cell_of_heap bk (i := 0)
  simp only [List.getElem?_toArray, List.getElem?_cons_zero] at c0
  clear bk
  go_loopg [5] 71 (fun gk i wr => ∃ k : Nat, gk = 71 - k ∧ k ≤ 70 ∧ k ≤ N ∧ i = .int .i64 (k : Int) ∧ wr = W1 ∧ Hid ((d.take k).all (fun x => decide (x.name.length ≤ 100)) = true))
  case atStart => exact ⟨0, rfl, by omega, Nat.zero_le _, rfl, rfl, H0⟩
  case round =>
    rename_i J1 K1 hJ1 hK1
    clear H0
    obtain ⟨k, rfl, hk, hkN, rfl, rfl, HT⟩ := hrel
    by_cases hlt : k < N
    · have hlt' : (k : Int) < (N : Int) := by omega
      by_cases hk7 : k < 70
      · have hk7' : (k : Int) < 70 := by omega
        obtain ⟨x, hxk⟩ : ∃ x, d[k]? = some x := ⟨_, List.getElem?_eq_getElem (by rw [← HN.out]; exact hlt)⟩
        obtain ⟨g, off, rfl, hg, d0, d1, d2, d3⟩ := HD.out.get HO.out.base hxk
        have hnl := HX.out x (List.mem_of_getElem? hxk)
        have HNx : Hid ((d.take (k + 1)).all (fun x => decide (x.name.length ≤ 100)) = decide (x.name.length ≤ 100)) := by
          show _ = _
          rw [List.take_add_one, hxk, List.all_append, HT.out]
          simp
        clear hxk
        by_cases hn1 : x.name.length ≤ 100
        · have hn1' : ¬ (100 : Int) < (x.name.length : Int) := by omega
          have HT2 : Hid ((d.take (k + 1)).all (fun x => decide (x.name.length ≤ 100)) = true) := by show _ = _; rw [HNx.out]; simp [hn1]
          clear HNx hn1
          go_wp2_with fail
          clear d0 d1 d2 d3 hg
          go_roundg (71 - (k + 1))
          case measure => omega
          case rel => exact ⟨k + 1, rfl, by omega, by omega, by go_num, rfl, HT2⟩
        · have hn1' : (100 : Int) < (x.name.length : Int) := by omega
          have HE : Hid (few24 d = false) := by
            show _ = _
            unfold few24
            have h1 : (d.take 70).all (fun x => decide (x.name.length ≤ 100)) = false := by
              have h2 : (d.take (k + 1)).all (fun x => decide (x.name.length ≤ 100)) = false := by rw [HNx.out]; simp [hn1]
              have h3 : d.take 70 = d.take (k + 1) ++ (d.take 70).drop (k + 1) := by
                conv => lhs; rw [← List.take_append_drop (k + 1) (d.take 70)]
                rw [List.take_take, Nat.min_eq_left (by omega)]
              rw [h3, List.all_append, h2]; rfl
            rw [h1]; rfl
          clear hn1 HNx hJ1 hK1
          go_wp2_with fail
          go_ret
          exact ⟨by rw [HE.out]; rfl, HO.out.base⟩
      · obtain rfl : k = 70 := by omega
        have HE : Hid (few24 d = false) := by
          show _ = _
          unfold few24
          have : ¬ d.length ≤ 70 := by rw [← HN.out]; omega
          simp [this]
        have hn2 : ¬ (N : Int) ≤ 70 := by omega
        clear hk7 hJ1 hK1
        go_wp2_with fail
        go_ret
        exact ⟨by rw [HE.out]; rfl, HO.out.base⟩
    · obtain rfl : k = N := by omega
      have HE : Hid (few24 d = true) := by
        show _ = _
        unfold few24
        have h1 := HT.out
        rw [HN.out, List.take_length] at h1
        rw [List.take_of_length_le (by rw [← HN.out]; omega), h1]
        have : d.length ≤ 70 := by rw [← HN.out]; exact hk
        simp [this]
      have hn2 : (k : Int) ≤ 70 := by omega
      clear hlt hJ1 hK1
      go_wp2_with fail
      go_ret
      exact ⟨by rw [HE.out]; rfl, HO.out.base⟩
end Go.Proofs.YtoeknmkephnekaaGreatDoor
namespace Go.Cz
open Go.RowKit
theorem run_append_noneF {P : Program} {w : World} (base : Nat) (t ty e : TypeId) (i : TypeInfo) (size : Nat) (ht : P.underlying t = some (.slice e)) (hi : P.info? e = some i)
    (v : Value) (n : Nat) (xs : List Value) (hown : w.ownsRow base e size v n xs) (c : Nat) :
    (Builtin.append_ #[t, t] ty #[v, .slice none 0 c]).run P w = .ok v w := by
  rcases hown.2 with ⟨rfl, rfl⟩ | ⟨g, cap, cur, rfl, _, _, hnc, _⟩
  · simp [Builtin.append_, run_underlying ht, sizeOf, typeInfo, hi, Builtin.lenOf, Builtin.firstCells]
  · simp [Builtin.append_, run_underlying ht, sizeOf, typeInfo, hi, Builtin.lenOf, Builtin.firstCells, hnc, storeCells]
end Go.Cz
namespace Go.Proofs.YtoeknmkephnekaaGreatDoor
open Go.RowKit Go.Cz Go.Cz.Lx Go.Cz.Fo Go.Cz.Vd
set_option linter.unusedSimpArgs false
set_option linter.unusedVariables false
/-- The cells of a fact. -/
def fcl (x : Fact) : List Value := [.string (bs x.name), .int .i64 x.kind, .int .i64 x.lo, .int .i64 x.hi]
theorem info_fact : (Tryz.prog.info? 47).map (fun i => (i.zero, i.size, i.bytes)) = some (some (.agg #[.string ⟨#[]⟩, .int .i64 0, .int .i64 0, .int .i64 0]), 4, 40) := by kernel_rfl
theorem flat_fcl : ∀ (L : List Fact) (j i : Nat) (x : Fact), L[j]? = some x → i < 4 → (L.flatMap fcl)[j * 4 + i]? = (fcl x)[i]?
  | [], j, i, x, h, _ => by simp at h
  | a :: r, 0, i, x, h, hk => by
    simp at h; subst h
    rw [List.flatMap_cons, Nat.zero_mul, Nat.zero_add, List.getElem?_append_left (by simp [fcl]; exact hk)]
  | a :: r, j + 1, i, x, h, hk => by
    rw [List.flatMap_cons, List.getElem?_append_right (by simp [fcl]; omega)]
    have : (j + 1) * 4 + i - (fcl a).length = j * 4 + i := by simp [fcl]; omega
    rw [this]
    exact flat_fcl r j i x (by simpa using h) hk
theorem len_fcl : ∀ L : List Fact, (L.flatMap fcl).length = L.length * 4
  | [] => rfl
  | a :: r => by rw [List.flatMap_cons, List.length_append, len_fcl r, List.length_cons]; simp [fcl]; omega
/-- A row of facts of the call's own. -/
def fcP (v : Value) (L : List Fact) : Piece where
  lies w S := w.ownsRow 0 47 4 v L.length (L.flatMap fcl) ∧ S = v.ownBlock.toList
  lt := by
    rintro w S ⟨h, rfl⟩ k hk
    rcases h.2 with ⟨rfl, _⟩ | ⟨g, cap, cur, rfl, _, hg, _⟩
    · simp [Value.ownBlock] at hk
    · simp [Value.ownBlock] at hk
      subst hk
      exact lt_of_block hg
  keep := by
    rintro w w' S T ⟨h, rfl⟩ hm hd
    refine ⟨⟨h.1, ?_⟩, rfl⟩
    rcases h.2 with h0 | ⟨g, cap, cur, rfl, h2, hg, h4⟩
    · exact .inl h0
    · exact .inr ⟨g, cap, cur, rfl, h2, hm.heap hg (hd g (by simp [Value.ownBlock])), h4⟩
/-- append(s, d...) of a domain's facts. -/
theorem wp_append_dom {o : Oper} {a : Act} {K : Act → World → Prop} {Q : Exit → Act → World → Prop} {w : World} (s x : Operand)
    (ho : o.op = .call { callee := .builtin .append, args := #[s, x], argTypes := #[43, 43] })
    (v : Value) (hs : a.eval s = v) (hown : w.ownsRow 0 47 4 v 0 [])
    (d : List Fact) (u : Value) (hx : a.eval x = u) (hc : IsD w d u) (h63 : d.length ≤ 1000000)
    (h : ∀ v' w', w'.ownsRow 0 47 4 v' d.length (d.flatMap fcl) → w.grownBy w' v.ownBlock → (v'.ownBlock = v.ownBlock ∨ v'.ownBlock = some w.heap.size) → K (a.put o.dst v') w') : o.wp Tryz.prog a w K Q := by
  obtain ⟨i, hi, hz, hs1, hb1⟩ := info_parts info_fact
  obtain ⟨y, m, rfl, hc⟩ := hc
  rcases hc with rfl | ⟨g, off, rfl, hg, hm, hc⟩
  · rcases y with _ | ad
    · have hr := run_append_noneF (P := Tryz.prog) 0 43 o.type 47 i 4 Tryz.underlying43 hi v 0 [] hown m
      unfold Oper.wp execOp
      simp only [List.length_nil] at hx
      simp only [ho, resolve, invoke, builtin, Sem.run_bind, Sem.run_pure, Result.andThen_ok, List.map_toArray, List.map_cons, List.map_nil, hs, hx, hr]
      exact h v w (by simpa using hown) ⟨rfl, rfl, rfl, Nat.le_refl _, fun _ _ _ => rfl⟩ (.inl rfl)
    · obtain ⟨v', w', hr, h2, h3, _, h5⟩ := run_append_own_at (P := Tryz.prog) w 0 43 o.type 47 i _ 4 40 Tryz.underlying43 hi hz hs1 hb1 rfl (by omega) v 0 [] hown ad 0 m [] (by simp) (by intro j u hu; simp at hu) (by simp) (by unfold maxLen; omega) (by omega) (Nat.zero_le _)
      unfold Oper.wp execOp
      simp only [List.length_nil] at hx
      simp only [ho, resolve, invoke, builtin, Sem.run_bind, Sem.run_pure, Result.andThen_ok, List.map_toArray, List.map_cons, List.map_nil, hs, hx, hr]
      exact h v' w' (by simpa using h2) h3 h5
  · refine wp_append_at s x 43 ho 47 _ 4 40 Tryz.underlying43 info_fact rfl (by omega) v 0 [] hs hown g off m d.length (d.flatMap fcl) hx (len_fcl d) (fun j u hu => ?_) (fun u hu => ?_) (by omega) (by omega) fun v' w' h1 h2 h3 => h v' w' (by simpa using h1) h2 h3
    · obtain ⟨q, r, hr, rfl⟩ : ∃ q r, r < 4 ∧ j = q * 4 + r := ⟨j / 4, j % 4, Nat.mod_lt _ (by omega), by omega⟩
      have hq : q < d.length := by
        have := (List.getElem?_eq_some_iff.1 hu).1
        rw [len_fcl] at this
        omega
      have hx2 : d[q]? = some d[q] := List.getElem?_eq_getElem hq
      rw [flat_fcl d q r _ hx2 hr] at hu
      obtain ⟨e0, e1, e2, e3⟩ := hc q _ hx2
      rcases (by omega : r = 0 ∨ r = 1 ∨ r = 2 ∨ r = 3) with rfl | rfl | rfl | rfl
      · simp [fcl] at hu; subst hu; exact e0
      · simp [fcl] at hu; subst hu; exact e1
      · simp [fcl] at hu; subst hu; exact e2
      · simp [fcl] at hu; subst hu; exact e3
    · rw [List.mem_flatMap] at hu
      obtain ⟨r, -, hr⟩ := hu
      simp only [fcl, List.mem_cons, List.not_mem_nil, or_false] at hr
      rcases hr with rfl | rfl | rfl | rfl <;> rfl
end Go.Proofs.YtoeknmkephnekaaGreatDoor
namespace Go.Cz
open Go.RowKit Go.Cz.Lx Go.Cz.Fo Go.Cz.Vd Go.Proofs.YtoeknmkephnekaaGreatDoor
section
variable {w0 w w' : World} {ps : List Piece} {v v' : Value} {l l' : List Fact}
theorem Owns.fcLit0 (h : Owns w0 w ps) : Owns w0 (w.alloc (.cells #[] 47)) (fcP (.slice (some ⟨w.heap.size, 0, none⟩) 0 0) [] :: ps) :=
  h.push (Q := fcP (.slice (some ⟨w.heap.size, 0, none⟩) 0 0) []) (S := [w.heap.size]) ⟨World.ownsRow_lit w #[] 0 (Nat.zero_le _) (Nat.zero_le _) (by simp), by simp [Value.ownBlock]⟩ ((Below.refl _ _).alloc (Nat.le_refl _) _) (by simp)
theorem Owns.fcRow (h : Owns w0 w (fcP v l :: ps)) : w.ownsRow 0 47 4 v l.length (l.flatMap fcl) := by
  obtain ⟨S, ⟨hr, -⟩, -⟩ := h.first
  exact hr
theorem Owns.fcGrew (h : Owns w0 w (fcP v l :: ps)) (hr : w'.ownsRow 0 47 4 v' l'.length (l'.flatMap fcl)) (hg : w.grownBy w' v.ownBlock) (hb : v'.ownBlock = v.ownBlock ∨ v'.ownBlock = some w.heap.size) : Owns w0 w' (fcP v' l' :: ps) := by
  obtain ⟨S, ⟨h1, rfl⟩, -, hf⟩ := h.open
  refine hf w' _ v'.ownBlock.toList ⟨hr, rfl⟩ ⟨hg.os, hg.tape, hg.output, hg.size, fun k hk hn => hg.block k hk fun e => hn (by rw [← e]; simp)⟩ fun k hk => ?_
  rcases hb with hb | hb
  · exact .inl (by rw [← hb]; exact hk)
  · rw [hb] at hk
    simp at hk
    exact .inr (by omega)
theorem Owns.fcIs (h : Owns w0 w (fcP v l :: ps)) : IsD w l v := by
  have hr := h.fcRow
  rcases hr.2 with ⟨hv, h0⟩ | ⟨g, cap, cur, hv, h2, hg, h4, h5, h6, h7⟩
  · exact ⟨none, 0, by rw [hv, h0], .inl (List.length_eq_zero_iff.1 h0)⟩
  · refine ⟨_, _, hv, .inr ⟨g, 0, rfl, lt_of_block hg, h4, fun j x hj => ?_⟩⟩
    have key : ∀ i u, i < 4 → (fcl x)[i]? = some u → w.cell? ⟨g, 0 + j * 4 + i, none⟩ = some u := fun i u hi hu => by
      rw [Nat.zero_add, cell_of_heap hg]
      have h8 := flat_fcl l j i x hj hi
      rw [hu, ← h7, List.getElem?_take] at h8
      split at h8
      · simpa using h8
      · cases h8
    exact ⟨key 0 _ (by omega) rfl, key 1 _ (by omega) rfl, key 2 _ (by omega) rfl, key 3 _ (by omega) rfl⟩
end
end Go.Cz

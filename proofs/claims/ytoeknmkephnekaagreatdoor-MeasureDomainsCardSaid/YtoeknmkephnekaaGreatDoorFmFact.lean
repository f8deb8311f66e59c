/-
  'fact.isName', 'fact.Valid', 'fact.Fits'.
-/
import Derived.Test.YtoeknmkephnekaaGreatDoorFmDom
import Derived.Test.YtoeknmkephnekaaGreatDoorLxA
import Derived.Maps.OwnSet
import Derived.Carry
namespace Go.Proofs.YtoeknmkephnekaaGreatDoor
open Go.RowKit Go.Cz Go.Cz.Lx Go.Cz.Fo
open Go.WideMaps (keyOf_string_mk)
set_option linter.unusedSimpArgs false
set_option linter.unusedVariables false
attribute [local go_sem] bs_size bs_extract bs_append bs_toList
attribute [local irreducible] cList cPlan
/-- The loop of 'isName'. -/
theorem name_at : ∀ (l : Bytes), nameB l = (decide (0 < l.length) && decide (l.length ≤ 24) && (match l with | [] => true | c :: r => (cls c == 3) && r.all wordB)) := by
  intro l
  cases l with
  | nil => rfl
  | cons c r =>
    unfold nameB
    have h : atL (c :: r) 0 = cls c := rfl
    rw [h]
    simp only [List.all_cons]
    by_cases hc : cls c = 3
    · have : wordB c = true := by unfold wordB; rw [hc]; rfl
      rw [this, hc]
      cases r.all wordB <;> simp
    · have : (cls c == 3) = false := by simpa using hc
      rw [this]
      simp
def upto (l : Bytes) (k : Nat) : Prop := (∀ c ∈ l.take k, wordB c = true) ∧ (0 < k → ∃ c, l[0]? = some c ∧ cls c = 3)
theorem upto_next {l : Bytes} {k : Nat} {c : UInt8} (h : upto l k) (hc : l[k]? = some c) (h1 : wordB c = true) (h2 : k = 0 → cls c = 3) : upto l (k + 1) := by
  refine ⟨fun d hd => ?_, fun _ => ?_⟩
  · rw [List.take_add_one, hc] at hd
    rcases List.mem_append.1 hd with hd | hd
    · exact h.1 d hd
    · obtain rfl : d = c := by simpa using hd
      exact h1
  · by_cases h0 : k = 0
    · subst h0; exact ⟨c, hc, h2 rfl⟩
    · exact h.2 (by omega)
theorem upto_bad {l : Bytes} {k : Nat} {c : UInt8} (hc : l[k]? = some c) (h : wordB c = false ∨ (k = 0 ∧ cls c ≠ 3)) : nameB l = false := by
  unfold nameB
  rcases h with h | ⟨rfl, h⟩
  · have : l.all wordB = false := by
      rw [List.all_eq_false]
      exact ⟨c, List.mem_of_getElem? hc, by rw [h]; simp⟩
    rw [this]; rfl
  · have : (atL l 0 == 3) = false := by
      unfold atL
      rw [hc]
      simpa using h
    rw [this]; simp
theorem upto_end {l : Bytes} (h : upto l l.length) : nameB l = (decide (0 < l.length) && decide (l.length ≤ 24)) := by
  unfold nameB
  have h1 : l.all wordB = true := List.all_eq_true.2 fun c hc => h.1 c (by rw [List.take_length]; exact hc)
  rw [h1]
  by_cases h0 : 0 < l.length
  · obtain ⟨c, h2, h3⟩ := h.2 h0
    have : atL l 0 = 3 := by unfold atL; rw [h2]; exact h3
    rw [this]; simp
  · rw [decide_eq_false h0]; simp
set_option maxHeartbeats 4000000 in
theorem isName_c (l : List UInt8) (w : World) (hl : l.length ≤ 140737488355328) : Calls Tryz.prog 46 #[.string (bs l)] w fun e w' => e = .returned (.bool (nameB l)) ∧ w' = w := by
  obtain ⟨u, hu⟩ : ∃ u, u = bs l := ⟨_, rfl⟩
  have hus : u.size = l.length := by rw [hu, bs_size]
  have hget : ∀ (i : Nat) (h : i < u.size) (h2 : i < l.length), u[i]'h = l[i]'h2 := by
    subst hu; intro i h h2; rfl
  have HU := Lib.hid hget
  have Htl : Hid (u.toList = l) := by show _ = _; rw [hu, bs_toList]
  rw [← hu]
  clear hget hu
  obtain ⟨N, hN⟩ : ∃ N, N = l.length := ⟨_, rfl⟩
  rw [← hN] at hus hl
  have HN := Lib.hid hN
  clear hN
  go_enter Tryz.func46, Tryz.ntmps46
  go_wp2_with fail
  go_loopg [9] N (fun gk i wr => ∃ k : Nat, gk = N - k ∧ k ≤ N ∧ i = .int .i64 (k : Int) ∧ wr = w ∧ Hid (upto l k))
  case atStart => exact ⟨0, rfl, Nat.zero_le _, rfl, rfl, ⟨by simp, fun h => absurd h (by omega)⟩⟩
  case round =>
    rename_i J1 K1 hJ1 hK1
    obtain ⟨k, rfl, hk, rfl, rfl, HU2⟩ := hrel
    by_cases hlt : k < N
    · have kl : k < u.size := by omega
      have hkl : k < l.length := by have := HN.out; omega
      obtain ⟨c, hc⟩ : ∃ c, c = l[k] := ⟨_, rfl⟩
      have hcu : u[k] = c := by rw [HU.out k kl hkl, hc]
      have Hc : Hid (l[k]? = some c) := by show _ = _; rw [List.getElem?_eq_getElem hkl, hc]
      clear hc hkl
      have H3 := all_bytes (p := fun c => (97 ≤ (c.toNat : Int) ∧ (c.toNat : Int) ≤ 122) ∨ (65 ≤ (c.toNat : Int) ∧ (c.toNat : Int) ≤ 90) → wordB c = true ∧ cls c = 3) (by decide +kernel) c
      have H4 := all_bytes (p := fun c => (48 ≤ (c.toNat : Int) ∧ (c.toNat : Int) ≤ 57) ∨ (c.toNat : Int) = 95 → wordB c = true ∧ ¬ cls c = 3) (by decide +kernel) c
      have H5 := all_bytes (p := fun c => ¬ ((97 ≤ (c.toNat : Int) ∧ (c.toNat : Int) ≤ 122) ∨ (65 ≤ (c.toNat : Int) ∧ (c.toNat : Int) ≤ 90) ∨ (48 ≤ (c.toNat : Int) ∧ (c.toNat : Int) ≤ 57) ∨ (c.toNat : Int) = 95) → wordB c = false) (by decide +kernel) c
      have HC : Hid ((97 ≤ (c.toNat : Int) ∧ (c.toNat : Int) ≤ 122) ∨ (65 ≤ (c.toNat : Int) ∧ (c.toNat : Int) ≤ 90) → wordB c = true ∧ cls c = 3) := Lib.hid H3
      have HD : Hid ((48 ≤ (c.toNat : Int) ∧ (c.toNat : Int) ≤ 57) ∨ (c.toNat : Int) = 95 → wordB c = true ∧ ¬ cls c = 3) := Lib.hid H4
      have HX : Hid (¬ ((97 ≤ (c.toNat : Int) ∧ (c.toNat : Int) ≤ 122) ∨ (65 ≤ (c.toNat : Int) ∧ (c.toNat : Int) ≤ 90) ∨ (48 ≤ (c.toNat : Int) ∧ (c.toNat : Int) ≤ 57) ∨ (c.toNat : Int) = 95) → wordB c = false) := Lib.hid H5
      clear H3 H4 H5
      by_cases a1 : 97 ≤ (c.toNat : Int)
      · have b1 : 48 ≤ (c.toNat : Int) := by omega
        have b2 : ¬ (c.toNat : Int) ≤ 57 := by omega
        have b3 : ((c.toNat : Int) == 95) = false := by simp; omega
        by_cases a2 : (c.toNat : Int) ≤ 122
        · obtain ⟨h1, h2⟩ : wordB c = true ∧ cls c = 3 := HC.out (.inl ⟨a1, a2⟩)
          have HV : Hid (upto l (k + 1)) := upto_next HU2.out Hc.out h1 fun _ => h2
          clear h1 h2 HC HD HX
          go_wp2_with fail
          go_roundg (N - (k + 1))
          case measure => omega
          case rel => exact ⟨k + 1, rfl, by omega, by go_num, rfl, HV⟩
        · have a3 : 65 ≤ (c.toNat : Int) := by omega
          have a4 : ¬ (c.toNat : Int) ≤ 90 := by omega
          have HE : Hid (nameB l = false) := upto_bad Hc.out (.inl (HX.out (by omega)))
          clear HC HD HX
          by_cases hk0 : k = 0
          · subst hk0
            clear hJ1 hK1
            go_wp2_with fail
            go_ret
            exact ⟨by rw [HE.out]; rfl, rfl⟩
          · have hk1 : ((k : Int) == 0) = false := by simp; omega
            clear hJ1 hK1 hk0
            go_wp2_with fail
            go_ret
            exact ⟨by rw [HE.out]; rfl, rfl⟩
      by_cases a3 : 65 ≤ (c.toNat : Int)
      · have b1 : 48 ≤ (c.toNat : Int) := by omega
        have b2 : ¬ (c.toNat : Int) ≤ 57 := by omega
        by_cases a4 : (c.toNat : Int) ≤ 90
        · have b3 : ((c.toNat : Int) == 95) = false := by simp; omega
          obtain ⟨h1, h2⟩ : wordB c = true ∧ cls c = 3 := HC.out (.inr ⟨a3, a4⟩)
          have HV : Hid (upto l (k + 1)) := upto_next HU2.out Hc.out h1 fun _ => h2
          clear h1 h2 HC HD HX
          go_wp2_with fail
          go_roundg (N - (k + 1))
          case measure => omega
          case rel => exact ⟨k + 1, rfl, by omega, by go_num, rfl, HV⟩
        by_cases e : (c.toNat : Int) = 95
        · have b3 : ((c.toNat : Int) == 95) = true := by simpa using e
          obtain ⟨h1, h2⟩ : wordB c = true ∧ ¬ cls c = 3 := HD.out (.inr e)
          clear e
          by_cases hk0 : k = 0
          · have HE : Hid (nameB l = false) := upto_bad Hc.out (.inr ⟨hk0, h2⟩)
            subst hk0
            clear h1 h2 HC HD HX hJ1 hK1
            go_wp2_with fail
            go_ret
            exact ⟨by rw [HE.out]; rfl, rfl⟩
          · have HV : Hid (upto l (k + 1)) := upto_next HU2.out Hc.out h1 fun h => absurd h hk0
            have hk1 : ((k : Int) == 0) = false := by simp; omega
            clear h1 h2 HC HD HX hk0
            go_wp2_with fail
            go_roundg (N - (k + 1))
            case measure => omega
            case rel => exact ⟨k + 1, rfl, by omega, by go_num, rfl, HV⟩
        · have b3 : ((c.toNat : Int) == 95) = false := by simpa using e
          have HE : Hid (nameB l = false) := upto_bad Hc.out (.inl (HX.out (by omega)))
          clear HC HD HX
          by_cases hk0 : k = 0
          · subst hk0
            clear hJ1 hK1
            go_wp2_with fail
            go_ret
            exact ⟨by rw [HE.out]; rfl, rfl⟩
          · have hk1 : ((k : Int) == 0) = false := by simp; omega
            clear hJ1 hK1 hk0
            go_wp2_with fail
            go_ret
            exact ⟨by rw [HE.out]; rfl, rfl⟩
      have b3 : ((c.toNat : Int) == 95) = false := by simp; omega
      by_cases b1 : 48 ≤ (c.toNat : Int)
      · by_cases b2 : (c.toNat : Int) ≤ 57
        · obtain ⟨h1, h2⟩ : wordB c = true ∧ ¬ cls c = 3 := HD.out (.inl ⟨b1, b2⟩)
          by_cases hk0 : k = 0
          · have HE : Hid (nameB l = false) := upto_bad Hc.out (.inr ⟨hk0, h2⟩)
            subst hk0
            clear h1 h2 HC HD HX hJ1 hK1
            go_wp2_with fail
            go_ret
            exact ⟨by rw [HE.out]; rfl, rfl⟩
          · have HV : Hid (upto l (k + 1)) := upto_next HU2.out Hc.out h1 fun h => absurd h hk0
            have hk1 : ((k : Int) == 0) = false := by simp; omega
            clear h1 h2 HC HD HX hk0
            go_wp2_with fail
            go_roundg (N - (k + 1))
            case measure => omega
            case rel => exact ⟨k + 1, rfl, by omega, by go_num, rfl, HV⟩
        · have HE : Hid (nameB l = false) := upto_bad Hc.out (.inl (HX.out (by omega)))
          clear HC HD HX
          by_cases hk0 : k = 0
          · subst hk0
            clear hJ1 hK1
            go_wp2_with fail
            go_ret
            exact ⟨by rw [HE.out]; rfl, rfl⟩
          · have hk1 : ((k : Int) == 0) = false := by simp; omega
            clear hJ1 hK1 hk0
            go_wp2_with fail
            go_ret
            exact ⟨by rw [HE.out]; rfl, rfl⟩
      · have HE : Hid (nameB l = false) := upto_bad Hc.out (.inl (HX.out (by omega)))
        clear HC HD HX
        by_cases hk0 : k = 0
        · subst hk0
          clear hJ1 hK1
          go_wp2_with fail
          go_ret
          exact ⟨by rw [HE.out]; rfl, rfl⟩
        · have hk1 : ((k : Int) == 0) = false := by simp; omega
          clear hJ1 hK1 hk0
          go_wp2_with fail
          go_ret
          exact ⟨by rw [HE.out]; rfl, rfl⟩
    · obtain rfl : k = N := by omega
      have HE : Hid (nameB l = (decide (0 < k) && decide (k ≤ 24))) := by
        show _ = _
        have := HU2.out
        rw [HN.out] at this ⊢
        exact upto_end this
      clear hJ1 hK1 hlt
      by_cases h0 : k = 0
      · have hs : u.toList = [] := by rw [Htl.out]; exact List.length_eq_zero_iff.1 (by rw [← HN.out]; exact h0)
        subst h0
        go_wp2_with fail
        go_ret
        exact ⟨by rw [HE.out]; rfl, rfl⟩
      · have hs : ¬ u.toList = [] := fun e => h0 (by rw [HN.out, ← Htl.out, e]; rfl)
        go_wp2_with fail
        go_ret
        exact ⟨congrArg (fun b => Ending.returned (Value.bool b)) (show (!u.toList.isEmpty && decide ((k : Int) ≤ 24)) = nameB l by
          have e : u.toList.isEmpty = false := by simpa using hs
          rw [HE.out, e, decide_eq_true (p := 0 < k) (by omega), Bool.not_false, Bool.true_and, Bool.true_and, Bool.eq_iff_iff]
          simp
          omega), rfl⟩
/-! The set of the names that were seen. -/
open Go.Maps (Keyed IsMap isMap_empty atKey_put_same atKey_put_other) in
def seenD : List Bytes → DataW Unit
  | [] => .map []
  | s :: r => (seenD r).put (.string s) (.lit (.bool true))
theorem seen_map : ∀ l, Go.Maps.IsMap (seenD l)
  | [] => Go.Maps.isMap_empty
  | s :: r => (seen_map r).put _ _
theorem seen_at (s : Bytes) : ∀ l, (seenD l).atKey (.string s) (.lit (.bool false)) = .lit (.bool (l.contains s))
  | [] => rfl
  | t :: r => by
    show ((seenD r).put (.string t) (.lit (.bool true))).atKey (.string s) (.lit (.bool false)) = _
    by_cases h : s = t
    · subst h
      rw [Go.Maps.atKey_put_same (seen_map r) (by trivial)]
      simp
    · rw [Go.Maps.atKey_put_other (by simpa using h), seen_at s r]
      simp [h]
theorem plainElem_bool_inv {H : Type} {P : Program} {e : TypeId} (he : P.underlying e = some .bool) {v : Value} {z : DataW H × List MemPlace} (h : plainElem P e v = some z) : ∃ q, v = .bool q ∧ z = (.lit (.bool q), []) := by
  unfold plainElem at h
  rw [he] at h
  cases v <;> simp at h
  rename_i q
  exact ⟨q, rfl, h.symm⟩
theorem key_str : Go.Maps.Keyed Tryz.prog 9 := Go.Maps.string_keyed Tryz.underlying9
theorem zero_bool (w : World) : (zeroValue 4).run Tryz.prog w = .ok (.bool false) w := by kernel_rfl
structure VI (w wr : World) (bx bm : Nat) (o : Obj) (n : Nat) (l : List Bytes) : Prop where
  base : Below w.heap.size w wr
  box : wr.heap[bx]? = some o
  map : wr.ownsMap Tryz.prog 9 (plainElem Tryz.prog 4) bm n (seenD l)
  ne : bx ≠ bm
  new : w.heap.size ≤ bm
section
variable {w wr W : World} {bx bm n : Nat} {o : Obj} {l : List Bytes}
theorem VI.below (h : VI w wr bx bm o n l) (hb : Below wr.heap.size wr W) : VI w W bx bm o n l :=
  ⟨h.base.trans (hb.mono h.base.size), (hb.block bx (lt_of_block h.box)).trans h.box, h.map.kept ⟨hb.os, hb.tape, hb.output, hb.size, fun k hk _ => hb.block k hk⟩ (row := none) (by simp), h.ne, h.new⟩
theorem VI.look (h : VI w wr bx bm o n l) (s : Bytes) (hs : s.length ≤ 140737488355328) : (Instr.lookup 86 (.map (some bm)) (.string (bs s)) false).run Tryz.prog wr = .ok (.bool (l.contains s)) wr := by
  obtain ⟨v, ps, hrun, hv⟩ := h.map.lookup key_str Tryz.underlying86 (zero_bool wr) (plainElem_bool Tryz.underlying4 false) (keyOf_string_mk Tryz.underlying9 (s := bs s) (by rw [bs_size]; unfold maxLen; omega))
  have e : (bs s).data.toList = s := by simp [bs]
  rw [e, seen_at] at hv
  obtain ⟨q, rfl, e2⟩ := plainElem_bool_inv Tryz.underlying4 hv
  simp only [Prod.mk.injEq, DataW.lit.injEq, Lit.bool.injEq] at e2
  rw [hrun, e2.1]
theorem VI.step (h : VI w wr bx bm o n l) {s : Bytes} (hm : W.ownsMap Tryz.prog 9 (plainElem Tryz.prog 4) bm (n + 1) ((seenD l).put (.string s) (.lit (.bool true)))) (hg : wr.grownBy W (some bm)) : VI w W bx bm o (n + 1) (s :: l) :=
  ⟨h.base.grown hg h.base.size (fun k hk => by cases hk; exact h.new), (hg.block bx (lt_of_block h.box) (by simpa using h.ne)).trans h.box, hm, h.ne, h.new⟩
end
theorem seen_step {d : List Fact} {k : Nat} {x : Fact} (hx : d[k]? = some x) : validL ((d.take k).map (·.name)).reverse (d.drop k) = (factB x && (nameB x.name && (!((d.take k).map (·.name)).reverse.contains x.name && validL ((d.take (k + 1)).map (·.name)).reverse (d.drop (k + 1))))) := by
  obtain ⟨hk, rfl⟩ := List.getElem?_eq_some_iff.1 hx
  rw [List.drop_eq_getElem_cons hk, validL, List.take_add_one, List.getElem?_eq_getElem hk, List.map_append, List.reverse_append]
  rfl
set_option maxHeartbeats 4000000 in
theorem factValid_c (d : List Fact) (v : Value) (w : World) (hd : IsD w d v) (hn : d.length ≤ 1000000) (hx : ∀ x ∈ d, x.name.length ≤ 140737488355328) :
    Calls Tryz.prog 18 #[.agg #[v]] w fun e w' => e = .returned (.bool (validD d)) ∧ Below w.heap.size w w' := by
  obtain ⟨y, m, rfl⟩ := hd.form
  have HD := Lib.hid hd
  have HXS := Lib.hid hx
  obtain ⟨N, hN⟩ : ∃ N, N = d.length := ⟨_, rfl⟩
  have HN := Lib.hid hN
  rw [← hN] at HD hn ⊢
  clear hd hx hN
  obtain ⟨bx, hbx⟩ : ∃ bx, bx = w.heap.size := ⟨_, rfl⟩
  obtain ⟨bm, hbm⟩ : ∃ bm, bm = w.heap.size + 1 := ⟨_, rfl⟩
  obtain ⟨W1, hW1⟩ : ∃ W1, W1 = (w.alloc (.cells #[.slice y N m] 45)).alloc (.map #[] 0) := ⟨_, rfl⟩
  have HV : Hid (VI w W1 bx bm (.cells #[.slice y N m] 45 (0, 0)) 0 []) := by
    rw [hW1, hbx, hbm]
    refine ⟨((Below.refl _ _).alloc (Nat.le_refl _) _).alloc (by simp) _, ?_, ?_, by omega, by omega⟩
    · have h1 := new_heap w (.cells #[.slice y N m] 45) w.heap.size rfl
      rw [(((Below.refl _ _).alloc (Nat.le_refl _) (.map #[] 0)).block _ (lt_of_block h1))]
      exact h1
    · have := World.ownsMap_made (w.alloc (.cells #[.slice y N m] 45)) Tryz.prog 9 (plainElem (H := Unit) Tryz.prog 4)
      rw [World.size_alloc] at this
      exact this
  have H0 : Hid (validL [] d = validL ((d.take 0).map (·.name)).reverse (d.drop 0)) := by show _ = _; simp
  have hmm := @run_makeMap Tryz.prog
  go_enter Tryz.func18, Tryz.ntmps18
  go_wp2_with fail
  rw [← hW1, ← hbm, ← hbx]
  clear hW1 hbx hbm
  have hbx := lt_of_block HV.out.box
  have cb0 : W1.cell? ⟨bx, 0, none⟩ = some (.slice y N m) := by rw [cell_of_heap HV.out.box]; rfl
  go_wp2_with fail
  clear hbx cb0
  go_loopg [12] N (fun gk i wr => ∃ k : Nat, gk = N - k ∧ k ≤ N ∧ i = .int .i64 (k : Int) ∧ Hid (validL [] d = validL ((d.take k).map (·.name)).reverse (d.drop k)) ∧ Hid (VI w wr bx bm (.cells #[.slice y N m] 45 (0, 0)) k ((d.take k).map (·.name)).reverse))
  case atStart => exact ⟨0, rfl, Nat.zero_le _, rfl, H0, HV⟩
  case round =>
    rename_i J1 K1 hJ1 hK1
    clear HV H0
    obtain ⟨k, rfl, hk, rfl, HI, HV⟩ := hrel
    by_cases hlt : k < N
    · obtain ⟨x, hx⟩ : ∃ x, d[k]? = some x := ⟨_, List.getElem?_eq_getElem (by rw [← HN.out]; exact hlt)⟩
      obtain ⟨g, off, rfl, hg, c0, c1, c2, c3⟩ := HD.out.get HV.out.base hx
      have HX := Lib.hid hx
      have HXn : Hid (x.name.length ≤ 140737488355328) := Lib.hid (HXS.out x (List.mem_of_getElem? hx))
      obtain ⟨W4, hW4⟩ : ∃ W4, W4 = wr.alloc (.cells #[.string (bs x.name), .int .i64 x.kind, .int .i64 x.lo, .int .i64 x.hi] 47) := ⟨_, rfl⟩
      have HV4 : Hid (VI w W4 bx bm (.cells #[.slice (some ⟨g, off, none⟩) N m] 45 (0, 0)) k ((d.take k).map (·.name)).reverse) := by
        rw [hW4]
        exact Lib.hid (HV.out.below ((Below.refl _ _).alloc (Nat.le_refl _) _))
      have HB4 : Hid (wr.heap.size < W4.heap.size ∧ W4.cell? ⟨wr.heap.size, 0, none⟩ = some (.string (bs x.name)) ∧ W4.cell? ⟨wr.heap.size, 1, none⟩ = some (.int .i64 x.kind) ∧ W4.cell? ⟨wr.heap.size, 2, none⟩ = some (.int .i64 x.lo) ∧ W4.cell? ⟨wr.heap.size, 3, none⟩ = some (.int .i64 x.hi)) := by
        have h := new_heap wr (.cells #[.string (bs x.name), .int .i64 x.kind, .int .i64 x.lo, .int .i64 x.hi] 47) wr.heap.size rfl
        rw [← hW4] at h
        exact ⟨lt_of_block h, by rw [cell_of_heap h]; rfl, by rw [cell_of_heap h]; rfl, by rw [cell_of_heap h]; rfl, by rw [cell_of_heap h]; rfl⟩
      obtain ⟨F, hF⟩ : ∃ F, F = factB x := ⟨_, rfl⟩
      have HFB : Hid (factB x = F) := hF.symm
      have hfb : factB x = (decide (x.kind = 1 ∧ x.lo = 0 ∧ x.hi = 1) || decide (x.kind = 2 ∧ 0 ≤ x.lo ∧ x.lo ≤ x.hi ∧ x.hi ≤ 1000000)) := rfl
      rw [← hF] at hfb
      clear hx hF HV
      by_cases k1 : x.kind = 1
      · have k1' : (x.kind == 1) = true := by simpa using k1
        have k2' : (x.kind == 2) = false := by rw [k1]; rfl
        by_cases l0 : x.lo = 0
        · have l0' : (x.lo == 0) = true := by simpa using l0
          by_cases h1 : x.hi = 1
          · have h1' : (x.hi == 1) = true := by simpa using h1
            obtain rfl : F = true := by rw [hfb, decide_eq_true ⟨k1, l0, h1⟩]; rfl
            clear k1 l0 h1 hfb
            go_wp2_with fail
            rw [← hW4]
            clear hW4
            go_at_call 46
            refine (isName_c x.name W4 HXn.out).mono ?_
            rintro e w1 ⟨rfl, hw⟩
            subst hw
            obtain ⟨q, hq⟩ : ∃ q, q = nameB x.name := ⟨_, rfl⟩
            rw [← hq]
            have HQ := Lib.hid hq
            clear hq
            cases q
            · have HE : Hid (validD d = false) := by
                show _ = _
                unfold validD
                rw [HI.out, seen_step HX.out, HFB.out, ← HQ.out]; rfl
              clear hJ1 hK1
              go_wp2_with fail
              go_ret
              exact ⟨by rw [HE.out]; rfl, HV4.out.base⟩
            obtain ⟨q, hq⟩ : ∃ q, q = ((d.take k).map (·.name)).reverse.contains x.name := ⟨_, rfl⟩
            have hrun := HV4.out.look x.name HXn.out
            rw [← hq] at hrun
            have HQ2 := Lib.hid hq
            clear hq
            obtain ⟨hx4, cx0, cx1, cx2, cx3⟩ := HB4.out
            cases q
            · have HI2 : Hid (validL [] d = validL ((d.take (k + 1)).map (·.name)).reverse (d.drop (k + 1))) := by
                show _ = _
                rw [HI.out, seen_step HX.out, HFB.out, ← HQ.out, ← HQ2.out]; rfl
              go_wp2_with (first | (at_mapUpdate; refine wpList_mapUpdate_own _ rfl _ _ _ 86 rfl 9 4 key_str Tryz.underlying86 _ bm k (seenD ((d.take k).map (·.name)).reverse) rfl HV4.out.map (by unfold maxLen; omega) _ _ _ rfl rfl (keyOf_string_mk Tryz.underlying9 (s := bs x.name) (by rw [bs_size]; have := HXn.out; unfold maxLen; omega)) (.lit (.bool true)) [] (plainElem_bool Tryz.underlying4 true) ?_; intro w2 hown hgrow))
              have HV5 : Hid (VI w w2 bx bm (.cells #[.slice (some ⟨g, off, none⟩) N m] 45 (0, 0)) (k + 1) ((d.take (k + 1)).map (·.name)).reverse) := by
                have e : (bs x.name).data.toList = x.name := by simp [bs]
                rw [e] at hown
                have := HV4.out.step hown hgrow
                rw [List.take_add_one, HX.out]
                simpa using Lib.hid this
              clear hown hgrow HV4
              go_roundg (N - (k + 1))
              case measure => omega
              case rel => exact ⟨k + 1, rfl, by omega, by go_num, HI2, HV5⟩
            · have HE : Hid (validD d = false) := by
                show _ = _
                unfold validD
                rw [HI.out, seen_step HX.out, HFB.out, ← HQ.out, ← HQ2.out]; rfl
              clear hJ1 hK1
              go_wp2_with fail
              go_ret
              exact ⟨by rw [HE.out]; rfl, HV4.out.base⟩
          · have h1' : (x.hi == 1) = false := by simpa using h1
            obtain rfl : F = false := by rw [hfb, decide_eq_false (by omega), decide_eq_false (by omega)]; rfl
            clear k1 l0 h1 hfb
            have HE : Hid (validD d = false) := by
              show _ = _
              unfold validD
              rw [HI.out, seen_step HX.out, HFB.out]; rfl
            clear hJ1 hK1
            go_wp2_with fail
            rw [← hW4]
            clear hW4
            go_ret
            exact ⟨by rw [HE.out]; rfl, HV4.out.base⟩
        · have l0' : (x.lo == 0) = false := by simpa using l0
          obtain rfl : F = false := by rw [hfb, decide_eq_false (by omega), decide_eq_false (by omega)]; rfl
          clear k1 l0 hfb
          have HE : Hid (validD d = false) := by
            show _ = _
            unfold validD
            rw [HI.out, seen_step HX.out, HFB.out]; rfl
          clear hJ1 hK1
          go_wp2_with fail
          rw [← hW4]
          clear hW4
          go_ret
          exact ⟨by rw [HE.out]; rfl, HV4.out.base⟩
      have k1' : (x.kind == 1) = false := by simpa using k1
      by_cases k2 : x.kind = 2
      · have k2' : (x.kind == 2) = true := by simpa using k2
        by_cases l0 : 0 ≤ x.lo
        · by_cases lh : x.lo ≤ x.hi
          · by_cases hm : x.hi ≤ 1000000
            · obtain rfl : F = true := by rw [hfb, decide_eq_true (p := x.kind = 2 ∧ _) ⟨k2, l0, lh, hm⟩]; simp
              clear k1 k2 hfb
              go_wp2_with fail
              rw [← hW4]
              clear hW4
              go_at_call 46
              refine (isName_c x.name W4 HXn.out).mono ?_
              rintro e w1 ⟨rfl, hw⟩
              subst hw
              obtain ⟨q, hq⟩ : ∃ q, q = nameB x.name := ⟨_, rfl⟩
              rw [← hq]
              have HQ := Lib.hid hq
              clear hq
              cases q
              · have HE : Hid (validD d = false) := by
                  show _ = _
                  unfold validD
                  rw [HI.out, seen_step HX.out, HFB.out, ← HQ.out]; rfl
                clear hJ1 hK1
                go_wp2_with fail
                go_ret
                exact ⟨by rw [HE.out]; rfl, HV4.out.base⟩
              obtain ⟨q, hq⟩ : ∃ q, q = ((d.take k).map (·.name)).reverse.contains x.name := ⟨_, rfl⟩
              have hrun := HV4.out.look x.name HXn.out
              rw [← hq] at hrun
              have HQ2 := Lib.hid hq
              clear hq
              obtain ⟨hx4, cx0, cx1, cx2, cx3⟩ := HB4.out
              cases q
              · have HI2 : Hid (validL [] d = validL ((d.take (k + 1)).map (·.name)).reverse (d.drop (k + 1))) := by
                  show _ = _
                  rw [HI.out, seen_step HX.out, HFB.out, ← HQ.out, ← HQ2.out]; rfl
                go_wp2_with (first | (at_mapUpdate; refine wpList_mapUpdate_own _ rfl _ _ _ 86 rfl 9 4 key_str Tryz.underlying86 _ bm k (seenD ((d.take k).map (·.name)).reverse) rfl HV4.out.map (by unfold maxLen; omega) _ _ _ rfl rfl (keyOf_string_mk Tryz.underlying9 (s := bs x.name) (by rw [bs_size]; have := HXn.out; unfold maxLen; omega)) (.lit (.bool true)) [] (plainElem_bool Tryz.underlying4 true) ?_; intro w2 hown hgrow))
                have HV5 : Hid (VI w w2 bx bm (.cells #[.slice (some ⟨g, off, none⟩) N m] 45 (0, 0)) (k + 1) ((d.take (k + 1)).map (·.name)).reverse) := by
                  have e : (bs x.name).data.toList = x.name := by simp [bs]
                  rw [e] at hown
                  have := HV4.out.step hown hgrow
                  rw [List.take_add_one, HX.out]
                  simpa using Lib.hid this
                clear hown hgrow HV4
                go_roundg (N - (k + 1))
                case measure => omega
                case rel => exact ⟨k + 1, rfl, by omega, by go_num, HI2, HV5⟩
              · have HE : Hid (validD d = false) := by
                  show _ = _
                  unfold validD
                  rw [HI.out, seen_step HX.out, HFB.out, ← HQ.out, ← HQ2.out]; rfl
                clear hJ1 hK1
                go_wp2_with fail
                go_ret
                exact ⟨by rw [HE.out]; rfl, HV4.out.base⟩
            · obtain rfl : F = false := by rw [hfb, decide_eq_false (by omega), decide_eq_false (by omega)]; rfl
              clear k1 k2 hfb
              have HE : Hid (validD d = false) := by
                show _ = _
                unfold validD
                rw [HI.out, seen_step HX.out, HFB.out]; rfl
              clear hJ1 hK1
              go_wp2_with fail
              rw [← hW4]
              clear hW4
              go_ret
              exact ⟨by rw [HE.out]; rfl, HV4.out.base⟩
          · obtain rfl : F = false := by rw [hfb, decide_eq_false (by omega), decide_eq_false (by omega)]; rfl
            clear k1 k2 hfb
            have HE : Hid (validD d = false) := by
              show _ = _
              unfold validD
              rw [HI.out, seen_step HX.out, HFB.out]; rfl
            clear hJ1 hK1
            go_wp2_with fail
            rw [← hW4]
            clear hW4
            go_ret
            exact ⟨by rw [HE.out]; rfl, HV4.out.base⟩
        · obtain rfl : F = false := by rw [hfb, decide_eq_false (by omega), decide_eq_false (by omega)]; rfl
          clear k1 k2 hfb
          have HE : Hid (validD d = false) := by
            show _ = _
            unfold validD
            rw [HI.out, seen_step HX.out, HFB.out]; rfl
          clear hJ1 hK1
          go_wp2_with fail
          rw [← hW4]
          clear hW4
          go_ret
          exact ⟨by rw [HE.out]; rfl, HV4.out.base⟩
      · have k2' : (x.kind == 2) = false := by simpa using k2
        obtain rfl : F = false := by rw [hfb, decide_eq_false (by omega), decide_eq_false (by omega)]; rfl
        clear k1 k2 hfb
        have HE : Hid (validD d = false) := by
          show _ = _
          unfold validD
          rw [HI.out, seen_step HX.out, HFB.out]; rfl
        clear hJ1 hK1
        go_wp2_with fail
        rw [← hW4]
        clear hW4
        go_ret
        exact ⟨by rw [HE.out]; rfl, HV4.out.base⟩
    · obtain rfl : k = N := by omega
      have HE : Hid (validD d = decide (k ≤ 60)) := by
        show _ = _
        unfold validD
        have h := HI.out
        rw [HN.out, List.drop_length] at h
        rw [h, validL, ← HN.out]; rfl
      have hbx := lt_of_block HV.out.box
      have cb0 : wr.cell? ⟨bx, 0, none⟩ = some (.slice y k m) := by rw [cell_of_heap HV.out.box]; rfl
      clear hJ1 hK1 hlt
      go_wp2_with fail
      go_ret
      exact ⟨congrArg (fun b => Ending.returned (Value.bool b)) (show decide ((k : Int) ≤ 60) = validD d by rw [HE.out, Bool.eq_iff_iff]; simp; omega), HV.out.base⟩
theorem within_get : ∀ {d : List Fact} {c : List Int} {k : Nat} {x : Fact} {u : Int}, d[k]? = some x → c[k]? = some u → within (d.drop k) (c.drop k) = (decide (x.lo ≤ u) && (decide (u ≤ x.hi) && within (d.drop (k + 1)) (c.drop (k + 1)))) := by
  intro d c k x u hx hu
  obtain ⟨h1, rfl⟩ := List.getElem?_eq_some_iff.1 hx
  obtain ⟨h2, rfl⟩ := List.getElem?_eq_some_iff.1 hu
  rw [List.drop_eq_getElem_cons h1, List.drop_eq_getElem_cons h2, within]
end Go.Proofs.YtoeknmkephnekaaGreatDoor

/-
  The reference's 'index' of a text in a list; its 'Ident'.
  Names: the reference's 'Ident'.
  The reference's 'Proper'.
  Measures that are valid, by the reference: 'named', 'dated', 'Valid'.
  The reference's 'Check'.
-/
import Derived.Test.YtakadfdnhlfijaaGreatDoorVdF
import Derived.Test.YtakadfdnhlfijaaGreatDoorFmFact
import Derived.Test.YtakadfdnhlfijaaGreatDoorRcA
import Derived.Test.YtakadfdnhlfijaaGreatDoorFmRef24
import Derived.Test.YtakadfdnhlfijaaGreatDoorVdValid
import Derived.Test.YtakadfdnhlfijaaGreatDoorFmNode
import Derived.Test.YtakadfdnhlfijaaGreatDoorVdCheck
namespace Go.Proofs.YtakadfdnhlfijaaGreatDoor
open Go.RowKit Go.Cz Go.Cz.Lx Go.Cz.Fo Go.Cz.Vd
set_option linter.unusedSimpArgs false
set_option linter.unusedVariables false
attribute [local go_sem] bs_size bs_extract bs_append bs_toList
attribute [local irreducible] cList cPlan
/-- An index as the program has it. -/
def ixI : Option Nat → Int
  | some i => (i : Int)
  | none => -1
theorem idxA_none_iff {s : Bytes} : ∀ {l : List Bytes}, idxA s l = none ↔ s ∉ l
  | [] => by simp [idxA]
  | b :: r => by
    unfold idxA
    have h := idxA_none_iff (s := s) (l := r)
    by_cases hb : b = s
    · rw [if_pos hb]; simp [hb]
    · rw [if_neg hb, List.mem_cons, Option.map_eq_none_iff, h]
      constructor
      · intro h1 h2
        rcases h2 with h2 | h2
        · exact hb h2.symm
        · exact h1 h2
      · exact fun h1 h2 => h1 (.inr h2)
theorem idxA_at {s : Bytes} : ∀ {l : List Bytes} {k : Nat}, s ∉ l.take k → l[k]? = some s → idxA s l = some k
  | [], k, _, h => by simp at h
  | b :: r, 0, _, h => by
    obtain rfl : b = s := by simpa using h
    unfold idxA; rw [if_pos rfl]
  | b :: r, k + 1, h1, h2 => by
    rw [List.take_succ_cons, List.mem_cons, not_or] at h1
    unfold idxA
    rw [if_neg fun e => h1.1 e.symm, idxA_at (l := r) (k := k) h1.2 (by simpa using h2)]
    rfl
theorem ixI_neg {s : Bytes} {l : List Bytes} : decide (ixI (idxA s l) < 0) = !l.contains s := by
  cases h : idxA s l with
  | none =>
    have := idxA_none_iff.1 h
    simp [ixI, this]
  | some i =>
    have : s ∈ l := by
      apply Classical.byContradiction
      intro hn
      rw [idxA_none_iff.2 hn] at h
      cases h
    have h2 : ¬ ((i : Int) < 0) := by omega
    simp [ixI, this, h2]
set_option maxRecDepth 100000 in
set_option maxHeartbeats 2000000 in
theorem rindex_c (l : List Bytes) (s : Bytes) (v : Value) (w : World) (hv : IsTxR w l v) (h9 : l.length ≤ 9223372036854775806) :
    Calls Tryz.prog 35 #[v, .string (bs s)] w fun e w' => e = .returned (.int .i64 (ixI (idxA s l))) ∧ w' = w := by
  have HA := Lib.hid hv
  obtain ⟨ya, ca, rfl⟩ := hv.form
  obtain ⟨n, hn⟩ : ∃ n, n = l.length := ⟨_, rfl⟩
  have HN := Lib.hid hn
  rw [← hn] at HA h9 ⊢
  clear hv hn
  go_enter Tryz.func35, Tryz.ntmps35
  go_wp2_with fail
  have HT : Hid (s ∉ l.take 0) := Lib.hid (by simp)
  go_loopg [5] n (fun gk i wr => ∃ k : Nat, gk = n - k ∧ k ≤ n ∧ wr = w ∧ i = .int .i64 (k : Int) ∧ Hid (s ∉ l.take k))
  case atStart => exact ⟨0, rfl, Nat.zero_le _, rfl, rfl, HT⟩
  case round =>
    rename_i J1 K1 hJ1 hK1
    clear HT
    obtain ⟨k, rfl, hk, rfl, rfl, HT⟩ := hrel
    by_cases hlt : k < n
    · obtain ⟨x, hx⟩ : ∃ x, l[k]? = some x := ⟨_, List.getElem?_eq_getElem (by rw [← HN.out]; exact hlt)⟩
      obtain ⟨g, off, rfl, hg, cx⟩ := HA.out.get (Below.refl _ _) hx
      have HX := Lib.hid hx
      clear hx
      by_cases hxz : x = s
      · have h2 : (x == s) = true := by simpa using hxz
        have HE : Hid (idxA s l = some k) := Lib.hid (idxA_at HT.out (by rw [HX.out, hxz]))
        clear hxz hJ1 hK1
        go_wp2_with fail
        go_ret
        exact ⟨by rw [HE.out]; rfl, rfl⟩
      have h2 : (x == s) = false := by simpa using hxz
      have HT2 : Hid (s ∉ l.take (k + 1)) := by
        show ¬ _
        rw [List.take_add_one, HX.out]
        simp only [Option.toList_some, List.mem_append, List.mem_singleton, not_or]
        exact ⟨HT.out, fun e => hxz e.symm⟩
      clear hxz
      go_wp2_with fail
      clear h2 hg cx HX
      go_roundg (n - (k + 1))
      case measure => omega
      case rel => exact ⟨k + 1, rfl, by omega, rfl, by go_num, HT2⟩
    · obtain rfl : k = n := by omega
      have HE : Hid (idxA s l = none) := by
        show _ = _
        have := HT.out
        rw [HN.out, List.take_length] at this
        exact idxA_none_iff.2 this
      clear hJ1 hK1 hlt
      go_wp2_with fail
      go_ret
      exact ⟨by rw [HE.out]; rfl, rfl⟩
end Go.Proofs.YtakadfdnhlfijaaGreatDoor
namespace Go.Proofs.YtakadfdnhlfijaaGreatDoor
open Go.RowKit Go.Cz Go.Cz.Lx Go.Cz.Fo
set_option linter.unusedSimpArgs false
set_option linter.unusedVariables false
attribute [local go_sem] bs_size bs_extract bs_append bs_toList
attribute [local irreducible] cList cPlan
set_option maxHeartbeats 4000000 in
theorem rIdent_c (l : List UInt8) (w : World) (hl : l.length ≤ 140737488355328) : Calls Tryz.prog 43 #[.string (bs l)] w fun e w' => e = .returned (.bool (nameB l)) ∧ w' = w := by
  obtain ⟨u, hu⟩ : ∃ u, u = bs l := ⟨_, rfl⟩
  have hus : u.size = l.length := by rw [hu, bs_size]
  have hget : ∀ (i : Nat) (h : i < u.size) (h2 : i < l.length), u[i]'h = l[i]'h2 := by
    subst hu; intro i h h2; rfl
  have HU := Lib.hid hget
  have Htl : Hid (u.toList = l) := by show _ = _; rw [hu, bs_toList]
  rw [← hu]
  clear hget hu
  obtain ⟨N, hN⟩ : ∃ N, N = l.length := ⟨_, rfl⟩
  rw [← hN] at hus hl
  have HN := Lib.hid hN
  clear hN
  by_cases hn1 : N < 1
  · have HE : Hid (nameB l = false) := by show _ = _; have := HN.out; unfold nameB; rw [decide_eq_false (by omega)]; simp
    go_enter Tryz.func43, Tryz.ntmps43
    go_wp2_with fail
    go_ret
    exact ⟨by rw [HE.out]; rfl, rfl⟩
  by_cases hn24 : 24 < N
  · have HE : Hid (nameB l = false) := by show _ = _; have := HN.out; unfold nameB; rw [decide_eq_false (p := l.length ≤ 24) (by omega)]; simp
    go_enter Tryz.func43, Tryz.ntmps43
    go_wp2_with fail
    go_ret
    exact ⟨by rw [HE.out]; rfl, rfl⟩
  go_enter Tryz.func43, Tryz.ntmps43
  go_wp2_with fail
  go_loopg [3] N (fun gk i wr => ∃ k : Nat, gk = N - k ∧ k ≤ N ∧ i = .int .i64 (k : Int) ∧ wr = w ∧ Hid (upto l k))
  case atStart => exact ⟨0, rfl, Nat.zero_le _, rfl, rfl, ⟨by simp, fun h => absurd h (by omega)⟩⟩
  case round =>
    rename_i J1 K1 hJ1 hK1
    obtain ⟨k, rfl, hk, rfl, rfl, HU2⟩ := hrel
    by_cases hlt : k < N
    · have kl : k < u.size := by omega
      have hkl : k < l.length := by have := HN.out; omega
      obtain ⟨c, hc⟩ : ∃ c, c = l[k] := ⟨_, rfl⟩
      have hcu : u[k] = c := by rw [HU.out k kl hkl, hc]
      have Hc : Hid (l[k]? = some c) := by show _ = _; rw [List.getElem?_eq_getElem hkl, hc]
      clear hc hkl
      have H3 := all_bytes (p := fun c => (97 ≤ (c.toNat : Int) ∧ (c.toNat : Int) ≤ 122) ∨ (65 ≤ (c.toNat : Int) ∧ (c.toNat : Int) ≤ 90) → wordB c = true ∧ cls c = 3) (by decide +kernel) c
      have H4 := all_bytes (p := fun c => (48 ≤ (c.toNat : Int) ∧ (c.toNat : Int) ≤ 57) ∨ (c.toNat : Int) = 95 → wordB c = true ∧ ¬ cls c = 3) (by decide +kernel) c
      have H5 := all_bytes (p := fun c => ¬ ((97 ≤ (c.toNat : Int) ∧ (c.toNat : Int) ≤ 122) ∨ (65 ≤ (c.toNat : Int) ∧ (c.toNat : Int) ≤ 90) ∨ (48 ≤ (c.toNat : Int) ∧ (c.toNat : Int) ≤ 57) ∨ (c.toNat : Int) = 95) → wordB c = false) (by decide +kernel) c
      have HC : Hid ((97 ≤ (c.toNat : Int) ∧ (c.toNat : Int) ≤ 122) ∨ (65 ≤ (c.toNat : Int) ∧ (c.toNat : Int) ≤ 90) → wordB c = true ∧ cls c = 3) := Lib.hid H3
      have HD : Hid ((48 ≤ (c.toNat : Int) ∧ (c.toNat : Int) ≤ 57) ∨ (c.toNat : Int) = 95 → wordB c = true ∧ ¬ cls c = 3) := Lib.hid H4
      have HX : Hid (¬ ((97 ≤ (c.toNat : Int) ∧ (c.toNat : Int) ≤ 122) ∨ (65 ≤ (c.toNat : Int) ∧ (c.toNat : Int) ≤ 90) ∨ (48 ≤ (c.toNat : Int) ∧ (c.toNat : Int) ≤ 57) ∨ (c.toNat : Int) = 95) → wordB c = false) := Lib.hid H5
      clear H3 H4 H5
      by_cases a1 : 97 ≤ (c.toNat : Int)
      · have b1 : 48 ≤ (c.toNat : Int) := by omega
        have b2 : ¬ (c.toNat : Int) ≤ 57 := by omega
        have b3 : ((c.toNat : Int) == 95) = false := by simp; omega
        have b4 : ((c.toNat : Int) != 95) = true := by rw [bne, b3]; rfl
        by_cases a2 : (c.toNat : Int) ≤ 122
        · obtain ⟨h1, h2⟩ : wordB c = true ∧ cls c = 3 := HC.out (.inl ⟨a1, a2⟩)
          have HV : Hid (upto l (k + 1)) := upto_next HU2.out Hc.out h1 fun _ => h2
          clear h1 h2 HC HD HX
          go_wp2_with fail
          go_roundg (N - (k + 1))
          case measure => omega
          case rel => exact ⟨k + 1, rfl, by omega, by go_num, rfl, HV⟩
        · have a3 : 65 ≤ (c.toNat : Int) := by omega
          have a4 : ¬ (c.toNat : Int) ≤ 90 := by omega
          have HE : Hid (nameB l = false) := upto_bad Hc.out (.inl (HX.out (by omega)))
          clear HC HD HX
          by_cases hk0 : k = 0
          · subst hk0
            clear hJ1 hK1
            go_wp2_with fail
            go_ret
            exact ⟨by rw [HE.out]; rfl, rfl⟩
          · have hk1 : ((k : Int) == 0) = false := by simp; omega
            clear hJ1 hK1 hk0
            go_wp2_with fail
            go_ret
            exact ⟨by rw [HE.out]; rfl, rfl⟩
      by_cases a3 : 65 ≤ (c.toNat : Int)
      · have b1 : 48 ≤ (c.toNat : Int) := by omega
        have b2 : ¬ (c.toNat : Int) ≤ 57 := by omega
        by_cases a4 : (c.toNat : Int) ≤ 90
        · have b3 : ((c.toNat : Int) == 95) = false := by simp; omega
          have b4 : ((c.toNat : Int) != 95) = true := by rw [bne, b3]; rfl
          obtain ⟨h1, h2⟩ : wordB c = true ∧ cls c = 3 := HC.out (.inr ⟨a3, a4⟩)
          have HV : Hid (upto l (k + 1)) := upto_next HU2.out Hc.out h1 fun _ => h2
          clear h1 h2 HC HD HX
          go_wp2_with fail
          go_roundg (N - (k + 1))
          case measure => omega
          case rel => exact ⟨k + 1, rfl, by omega, by go_num, rfl, HV⟩
        by_cases e : (c.toNat : Int) = 95
        · have b3 : ((c.toNat : Int) == 95) = true := by simpa using e
          have b4 : ((c.toNat : Int) != 95) = false := by rw [bne, b3]; rfl
          obtain ⟨h1, h2⟩ : wordB c = true ∧ ¬ cls c = 3 := HD.out (.inr e)
          clear e
          by_cases hk0 : k = 0
          · have HE : Hid (nameB l = false) := upto_bad Hc.out (.inr ⟨hk0, h2⟩)
            subst hk0
            clear h1 h2 HC HD HX hJ1 hK1
            go_wp2_with fail
            go_ret
            exact ⟨by rw [HE.out]; rfl, rfl⟩
          · have HV : Hid (upto l (k + 1)) := upto_next HU2.out Hc.out h1 fun h => absurd h hk0
            have hk1 : ((k : Int) == 0) = false := by simp; omega
            clear h1 h2 HC HD HX hk0
            go_wp2_with fail
            go_roundg (N - (k + 1))
            case measure => omega
            case rel => exact ⟨k + 1, rfl, by omega, by go_num, rfl, HV⟩
        · have b3 : ((c.toNat : Int) == 95) = false := by simpa using e
          have b4 : ((c.toNat : Int) != 95) = true := by rw [bne, b3]; rfl
          have HE : Hid (nameB l = false) := upto_bad Hc.out (.inl (HX.out (by omega)))
          clear HC HD HX
          by_cases hk0 : k = 0
          · subst hk0
            clear hJ1 hK1
            go_wp2_with fail
            go_ret
            exact ⟨by rw [HE.out]; rfl, rfl⟩
          · have hk1 : ((k : Int) == 0) = false := by simp; omega
            clear hJ1 hK1 hk0
            go_wp2_with fail
            go_ret
            exact ⟨by rw [HE.out]; rfl, rfl⟩
      have b3 : ((c.toNat : Int) == 95) = false := by simp; omega
      have b4 : ((c.toNat : Int) != 95) = true := by rw [bne, b3]; rfl
      by_cases b1 : 48 ≤ (c.toNat : Int)
      · by_cases b2 : (c.toNat : Int) ≤ 57
        · obtain ⟨h1, h2⟩ : wordB c = true ∧ ¬ cls c = 3 := HD.out (.inl ⟨b1, b2⟩)
          by_cases hk0 : k = 0
          · have HE : Hid (nameB l = false) := upto_bad Hc.out (.inr ⟨hk0, h2⟩)
            subst hk0
            clear h1 h2 HC HD HX hJ1 hK1
            go_wp2_with fail
            go_ret
            exact ⟨by rw [HE.out]; rfl, rfl⟩
          · have HV : Hid (upto l (k + 1)) := upto_next HU2.out Hc.out h1 fun h => absurd h hk0
            have hk1 : ((k : Int) == 0) = false := by simp; omega
            clear h1 h2 HC HD HX hk0
            go_wp2_with fail
            go_roundg (N - (k + 1))
            case measure => omega
            case rel => exact ⟨k + 1, rfl, by omega, by go_num, rfl, HV⟩
        · have HE : Hid (nameB l = false) := upto_bad Hc.out (.inl (HX.out (by omega)))
          clear HC HD HX
          by_cases hk0 : k = 0
          · subst hk0
            clear hJ1 hK1
            go_wp2_with fail
            go_ret
            exact ⟨by rw [HE.out]; rfl, rfl⟩
          · have hk1 : ((k : Int) == 0) = false := by simp; omega
            clear hJ1 hK1 hk0
            go_wp2_with fail
            go_ret
            exact ⟨by rw [HE.out]; rfl, rfl⟩
      · have HE : Hid (nameB l = false) := upto_bad Hc.out (.inl (HX.out (by omega)))
        clear HC HD HX
        by_cases hk0 : k = 0
        · subst hk0
          clear hJ1 hK1
          go_wp2_with fail
          go_ret
          exact ⟨by rw [HE.out]; rfl, rfl⟩
        · have hk1 : ((k : Int) == 0) = false := by simp; omega
          clear hJ1 hK1 hk0
          go_wp2_with fail
          go_ret
          exact ⟨by rw [HE.out]; rfl, rfl⟩
    · obtain rfl : k = N := by omega
      have HE : Hid (nameB l = (decide (0 < k) && decide (k ≤ 24))) := by
        show _ = _
        have := HU2.out
        rw [HN.out] at this ⊢
        exact upto_end this
      clear hJ1 hK1 hlt
      have HE2 : Hid (nameB l = true) := by
        show _ = _
        rw [HE.out, decide_eq_true (by omega), decide_eq_true (by omega)]; rfl
      go_wp2_with fail
      go_ret
      exact ⟨by rw [HE2.out]; rfl, rfl⟩
end Go.Proofs.YtakadfdnhlfijaaGreatDoor
namespace Go.Proofs.YtakadfdnhlfijaaGreatDoor
open Go.RowKit Go.Cz Go.Cz.Lx Go.Cz.Fo Go.Cz.Vd
open Go.Cz.Ck (Shift validB)
set_option linter.unusedSimpArgs false
set_option linter.unusedVariables false
attribute [local go_sem] bs_size bs_extract bs_append bs_toList
attribute [local irreducible] cList cPlan
/-- The first texts of a row. -/
theorem IsTxR.take {W : World} {l : List Bytes} {y : Option Addr} {n c k : Nat} (h : IsTxR W l (.slice y n c)) (hk : k ≤ l.length) : IsTxR W (l.take k) (.slice y k c) := by
  obtain ⟨y', c', e, h⟩ := h
  cases e
  have hl : (l.take k).length = k := by rw [List.length_take]; omega
  refine ⟨y, c, by rw [hl], ?_⟩
  rcases h with rfl | ⟨g, off, e, hg, hc, hx⟩
  · exact .inl (by simp)
  · refine .inr ⟨g, off, e, hg, by omega, fun j s hj => hx j s ?_⟩
    rw [List.getElem?_take] at hj
    split at hj
    · exact hj
    · cases hj
theorem IsTxR.cap {W : World} {l : List Bytes} {y : Option Addr} {n c : Nat} (h : IsTxR W l (.slice y n c)) : n ≤ c ∨ n = 0 := by
  obtain ⟨y', c', e, h⟩ := h
  cases e
  rcases h with rfl | ⟨g, off, e, hg, hc, hx⟩
  · exact .inr rfl
  · exact .inl hc
theorem ixI_ge {s : Bytes} {l : List Bytes} : decide (0 ≤ ixI (idxA s l)) = l.contains s := by
  have := ixI_neg (s := s) (l := l)
  rw [show decide (0 ≤ ixI (idxA s l)) = !decide (ixI (idxA s l) < 0) by by_cases h : ixI (idxA s l) < 0 <;> simp [h] <;> omega, this, Bool.not_not]
set_option maxRecDepth 100000 in
set_option maxHeartbeats 4000000 in
theorem rProper_c (s : Sc) (vd va vz vc : Value) (w : World) (hs : IsSc w s vd va vz vc) (hl : ScLen s) (hA : s.auths.length ≤ 1000000) (hZ : s.zones.length ≤ 1000000) (hC : s.cases.length ≤ 1000000) :
    Calls Tryz.prog 16 #[sval s vd va vz vc] w fun e w' => e = .returned (.bool (properB s)) ∧ Below w.heap.size w w' := by
  have HS := Lib.hid hs
  have HL := Lib.hid hl
  obtain ⟨yd, md, rfl⟩ := hs.dom.form
  obtain ⟨ya, ma, rfl⟩ := hs.auths.form
  obtain ⟨yz, mz, rfl⟩ := hs.zones.form
  obtain ⟨yc, mc, rfl⟩ := hs.cases.form
  obtain ⟨ND, hND⟩ : ∃ n, n = s.dom.length := ⟨_, rfl⟩
  obtain ⟨NA, hNA⟩ : ∃ n, n = s.auths.length := ⟨_, rfl⟩
  obtain ⟨NZ, hNZ⟩ : ∃ n, n = s.zones.length := ⟨_, rfl⟩
  obtain ⟨NC, hNC⟩ : ∃ n, n = s.cases.length := ⟨_, rfl⟩
  rw [← hND, ← hNA, ← hNZ, ← hNC] at HS ⊢
  rw [← hNA] at hA
  rw [← hNZ] at hZ
  rw [← hNC] at hC
  have HNA := Lib.hid hNA
  have HNZ := Lib.hid hNZ
  have HNC := Lib.hid hNC
  clear hs hl hND hNA hNZ hNC
  obtain ⟨bx, hbx⟩ : ∃ bx, bx = w.heap.size := ⟨_, rfl⟩
  obtain ⟨W1, hW1⟩ : ∃ W1, W1 = w.alloc (sobj s (.slice yd ND md) (.slice ya NA ma) (.slice yz NZ mz) (.slice yc NC mc)) := ⟨_, rfl⟩
  have HO : Hid (Owns w W1 [blk bx (sobj s (.slice yd ND md) (.slice ya NA ma) (.slice yz NZ mz) (.slice yc NC mc))]) := by
    rw [hW1, hbx]
    exact Lib.hid ((Owns.start w).box _)
  go_enter Tryz.func16, Tryz.ntmps16
  go_wp2_with fail
  rw [← hW1, ← hbx]
  clear hW1 hbx
  (try clear hx0 c0 c1 c2 c3 c4 c5)
  obtain ⟨bk, -⟩ := HO.out.blk
  have hx0 := lt_of_block bk
  have c0 : W1.cell? ⟨bx, 0, none⟩ = some (.slice yd ND md) := by rw [cell_of_heap bk]; rfl
  have c1 : W1.cell? ⟨bx, 1, none⟩ = some (.slice ya NA ma) := by rw [cell_of_heap bk]; rfl
  have c2 : W1.cell? ⟨bx, 2, none⟩ = some (.slice yz NZ mz) := by rw [cell_of_heap bk]; rfl
  have c3 : W1.cell? ⟨bx, 3, none⟩ = some (.slice yc NC mc) := by rw [cell_of_heap bk]; rfl
  have c4 : W1.cell? ⟨bx, 4, none⟩ = some (.int .i64 s.signed) := by rw [cell_of_heap bk]; rfl
  have c5 : W1.cell? ⟨bx, 5, none⟩ = some (.int .i64 s.now) := by rw [cell_of_heap bk]; rfl
  clear bk
  go_wp2_with fail
  go_at_call 42
  refine (rfactValid_c s.dom _ W1 (HS.out.dom.later HO.out.base) HL.out.dom.len HL.out.dom.names).mono ?_
  rintro e W4 ⟨rfl, hb⟩
  replace HO := Lib.hid (HO.out.below hb)
  clear hb
  (try clear hx0 c0 c1 c2 c3 c4 c5)
  obtain ⟨bk, -⟩ := HO.out.blk
  have hx0 := lt_of_block bk
  have c0 : W4.cell? ⟨bx, 0, none⟩ = some (.slice yd ND md) := by rw [cell_of_heap bk]; rfl
  have c1 : W4.cell? ⟨bx, 1, none⟩ = some (.slice ya NA ma) := by rw [cell_of_heap bk]; rfl
  have c2 : W4.cell? ⟨bx, 2, none⟩ = some (.slice yz NZ mz) := by rw [cell_of_heap bk]; rfl
  have c3 : W4.cell? ⟨bx, 3, none⟩ = some (.slice yc NC mc) := by rw [cell_of_heap bk]; rfl
  have c4 : W4.cell? ⟨bx, 4, none⟩ = some (.int .i64 s.signed) := by rw [cell_of_heap bk]; rfl
  have c5 : W4.cell? ⟨bx, 5, none⟩ = some (.int .i64 s.now) := by rw [cell_of_heap bk]; rfl
  clear bk
  obtain ⟨q, hq⟩ : ∃ q, q = validD s.dom := ⟨_, rfl⟩
  rw [← hq]
  have HQ := Lib.hid hq
  clear hq
  cases q
  · have HE : Hid (properB s = false) := by
      show _ = _
      unfold properB
      rw [← HQ.out]; simp
    go_wp2_with fail
    go_ret
    exact ⟨by rw [HE.out]; rfl, HO.out.base⟩
  by_cases n1 : 1 ≤ NA
  rotate_left
  · have n1' : (NA : Int) < 1 := by omega
    have HE : Hid (properB s = false) := by
      show _ = _
      unfold properB
      rw [decide_eq_false (by rw [← HNA.out]; exact n1)]; simp
    go_wp2_with fail
    go_ret
    exact ⟨by rw [HE.out]; rfl, HO.out.base⟩
  have n1' : ¬ (NA : Int) < 1 := by omega
  by_cases n6 : NA ≤ 6
  rotate_left
  · have n6' : (6 : Int) < NA := by omega
    have HE : Hid (properB s = false) := by
      show _ = _
      unfold properB
      rw [decide_eq_false (p := s.auths.length ≤ 6) (by rw [← HNA.out]; exact n6)]; simp
    go_wp2_with fail
    go_ret
    exact ⟨by rw [HE.out]; rfl, HO.out.base⟩
  have n6' : ¬ (6 : Int) < NA := by omega
  by_cases eZ : NZ = NA
  rotate_left
  · have eZ' : ((NZ : Int) != (NA : Int)) = true := by simp; omega
    have HE : Hid (properB s = false) := by
      show _ = _
      unfold properB
      rw [decide_eq_false (p := s.zones.length = s.auths.length) (by rw [← HNZ.out, ← HNA.out]; exact eZ)]; simp
    go_wp2_with fail
    go_ret
    exact ⟨by rw [HE.out]; rfl, HO.out.base⟩
  have eZ' : ((NZ : Int) != (NA : Int)) = false := by simp; omega
  by_cases eC : NC = NA
  rotate_left
  · have eC' : ((NC : Int) != (NA : Int)) = true := by simp; omega
    have HE : Hid (properB s = false) := by
      show _ = _
      unfold properB
      rw [decide_eq_false (p := s.cases.length = s.auths.length) (by rw [← HNC.out, ← HNA.out]; exact eC)]; simp
    go_wp2_with fail
    go_ret
    exact ⟨by rw [HE.out]; rfl, HO.out.base⟩
  have eC' : ((NC : Int) != (NA : Int)) = false := by simp; omega
  have HEZ := Lib.hid eZ
  have HEC := Lib.hid eC
  clear eZ eC
  by_cases t1 : s.signed < 0
  · have HT : Hid (timeB s.signed s.now = false) := by show _ = _; unfold timeB; rw [decide_eq_false (p := (0 : Int) ≤ s.signed) (by omega)]; rfl
    have HE : Hid (properB s = false) := by
      show _ = _
      unfold properB
      rw [HT.out]; simp
    go_wp2_with fail
    go_ret
    exact ⟨by rw [HE.out]; rfl, HO.out.base⟩
  by_cases t2 : s.now < s.signed
  · have HT : Hid (timeB s.signed s.now = false) := by show _ = _; unfold timeB; rw [decide_eq_false (p := s.signed ≤ s.now) (by omega)]; simp
    have HE : Hid (properB s = false) := by
      show _ = _
      unfold properB
      rw [HT.out]; simp
    go_wp2_with fail
    go_ret
    exact ⟨by rw [HE.out]; rfl, HO.out.base⟩
  by_cases t3 : 144001439 < s.now
  · have HT : Hid (timeB s.signed s.now = false) := by show _ = _; unfold timeB; rw [decide_eq_false (p := s.now ≤ 144001439) (by omega)]; simp
    have HE : Hid (properB s = false) := by
      show _ = _
      unfold properB
      rw [HT.out]; simp
    go_wp2_with fail
    go_ret
    exact ⟨by rw [HE.out]; rfl, HO.out.base⟩
  have HT : Hid (timeB s.signed s.now = true) := by
    show _ = _
    unfold timeB
    rw [decide_eq_true (p := (0 : Int) ≤ s.signed) (by omega), decide_eq_true (p := s.signed ≤ s.now) (by omega), decide_eq_true (p := s.now ≤ 144001439) (by omega)]; rfl
  have HP : Hid (properB s = authL s.dom [] s.auths s.zones s.cases) := by
    show _ = _
    unfold properB
    rw [← HQ.out, decide_eq_true (p := 1 ≤ s.auths.length) (by rw [← HNA.out]; exact n1), decide_eq_true (p := s.auths.length ≤ 6) (by rw [← HNA.out]; exact n6), decide_eq_true (p := s.zones.length = s.auths.length) (by rw [← HNZ.out, ← HNA.out]; exact HEZ.out), decide_eq_true (p := s.cases.length = s.auths.length) (by rw [← HNC.out, ← HNA.out]; exact HEC.out), HT.out]; simp only [Bool.true_and, Bool.and_true]
  go_wp2_with fail
  clear n1 n1' n6 n6' eZ' eC' t1 t2 t3 HT hZ hC HQ c0 c1 c2 c3 c4 c5 hx0
  have H0 : Hid (authL s.dom [] s.auths s.zones s.cases = authL s.dom (s.auths.take 0).reverse (s.auths.drop 0) (s.zones.drop 0) (s.cases.drop 0)) := by show _ = _; simp
  obtain ⟨o, ho⟩ : ∃ o, o = sobj s (.slice yd ND md) (.slice ya NA ma) (.slice yz NZ mz) (.slice yc NC mc) := ⟨_, rfl⟩
  rw [← ho] at HO
  have HOb := Lib.hid ho
  clear ho
  go_loopg [4] NA (fun gk i wr => ∃ k : Nat, gk = NA - k ∧ k ≤ NA ∧ i = .int .i64 (k : Int) ∧ Hid (authL s.dom [] s.auths s.zones s.cases = authL s.dom (s.auths.take k).reverse (s.auths.drop k) (s.zones.drop k) (s.cases.drop k)) ∧ Hid (Owns w wr [blk bx o]))
  case atStart => exact ⟨0, rfl, Nat.zero_le _, rfl, H0, HO⟩
  case round =>
    rename_i J1 K1 hJ1 hK1
    clear HO H0
    obtain ⟨k, rfl, hk, rfl, HI, HO⟩ := hrel
    by_cases hlt : k < NA
    · obtain ⟨x, hx⟩ : ∃ x, s.auths[k]? = some x := ⟨_, List.getElem?_eq_getElem (by rw [← HNA.out]; exact hlt)⟩
      obtain ⟨z, hz⟩ : ∃ x, s.zones[k]? = some x := ⟨_, List.getElem?_eq_getElem (by rw [← HNZ.out, HEZ.out]; exact hlt)⟩
      obtain ⟨c, hc⟩ : ∃ x, s.cases[k]? = some x := ⟨_, List.getElem?_eq_getElem (by rw [← HNC.out, HEC.out]; exact hlt)⟩
      have hkz : k < NZ := by rw [HEZ.out]; exact hlt
      have hkc : k < NC := by rw [HEC.out]; exact hlt
      have hkm : k ≤ ma := by have := HS.out.auths.cap; omega
      have HX := Lib.hid hx
      have HZ := Lib.hid hz
      have HC := Lib.hid hc
      have HXn : Hid (x.length ≤ 140737488355328) := Lib.hid (HL.out.auths x (List.mem_of_getElem? hx))
      have HCn : Hid (c.length ≤ 1000000) := Lib.hid (HL.out.cases c (List.mem_of_getElem? hc))
      have HKl : Hid (k ≤ s.auths.length) := by show _ ≤ _; rw [← HNA.out]; exact hk
      clear hx hz hc
      obtain ⟨g, off, rfl, hg, ca⟩ := HS.out.auths.get HO.out.drew.base HX.out
      go_wp2_with fail
      replace HO := Lib.hid HO.out.drew
      refine wp_region_can [5, 17, 26, 37] (List.range 40) (by decide +kernel) (by decide +kernel) ?_
      obtain ⟨W6, hW6⟩ : ∃ W6, W6 = wr.drew := ⟨_, rfl⟩
      rw [← hW6] at HO hg ca ⊢
      clear hW6
      obtain ⟨bk, -⟩ := HO.out.blk
      rw [HOb.out] at bk
      have hx0 := lt_of_block bk
      have c1 : W6.cell? ⟨bx, 1, none⟩ = some (.slice (some ⟨g, off, none⟩) NA ma) := by rw [cell_of_heap bk]; rfl
      clear bk
      iterate 5 (first | (refine cl_do rfl rfl rfl rfl (fun _ _ => ?_); go_wp2_with fail) | (refine cl_yes rfl rfl rfl rfl (by first | rfl | simp [okB, lenV, plainV, Act.eval]) (fun _ _ => ?_); go_wp2_with fail) | (refine cl_no rfl rfl rfl ?_; go_simp))
      refine cl_call (i := 5) rfl rfl rfl (fun K hK => ?_)
      clear hx0 c1 hg ca
      go_wp2_with fail
      go_at_call 43
      refine (rIdent_c x W6 HXn.out).mono ?_
      rintro e W7 ⟨rfl, hw⟩
      subst hw
      obtain ⟨q, hq⟩ : ∃ q, q = nameB x := ⟨_, rfl⟩
      rw [← hq]
      have HQ := Lib.hid hq
      clear hq
      go_wp2_with fail
      refine And.intro (Below.refl _ _) ?_
      cases q
      · have HE : Hid (properB s = false) := by
          show _ = _
          rw [HP.out, HI.out, auth_step HX.out HZ.out HC.out, ← HQ.out]; simp
        clear hJ1 hK1
        iterate 34 (first | (refine cl_do rfl rfl rfl rfl (fun _ _ => ?_); go_wp2_with fail) | (refine cl_yes rfl rfl rfl rfl (by first | rfl | simp [okB, lenV, plainV, Act.eval]) (fun _ _ => ?_); go_wp2_with fail) | (refine cl_no rfl rfl rfl ?_; go_simp))
        refine cl_nil ?_
        go_wp2_with fail
        go_ret
        exact ⟨by rw [HE.out]; rfl, HO.out.base⟩
      obtain ⟨g', off', e, hg, ca⟩ := HS.out.auths.get HO.out.base HX.out
      cases e
      obtain ⟨bk, -⟩ := HO.out.blk
      rw [HOb.out] at bk
      have hx0 := lt_of_block bk
      have c1 : W7.cell? ⟨bx, 1, none⟩ = some (.slice (some ⟨g, off, none⟩) NA ma) := by rw [cell_of_heap bk]; rfl
      clear bk
      iterate 11 (first | (refine cl_do rfl rfl rfl rfl (fun _ _ => ?_); go_wp2_with fail) | (refine cl_yes rfl rfl rfl rfl (by first | rfl | simp [okB, lenV, plainV, Act.eval]) (fun _ _ => ?_); go_wp2_with fail) | (refine cl_no rfl rfl rfl ?_; go_simp))
      clear hx0 c1 hg ca
      refine cl_ycall (i := 17) rfl rfl rfl rfl (fun K hK => ?_)
      go_wp2_with fail
      go_at_call 35
      refine (rindex_c (s.auths.take k) x _ W7 ((HS.out.auths.later HO.out.base).take HKl.out) (by rw [List.length_take]; omega)).mono ?_
      rintro e W6 ⟨rfl, hw⟩
      subst hw
      obtain ⟨p, hp⟩ : ∃ p, p = ixI (idxA x (s.auths.take k)) := ⟨_, rfl⟩
      have hpc : decide (0 ≤ p) = (s.auths.take k).reverse.contains x := by rw [hp, ixI_ge, contains_reverse]
      rw [← hp]
      clear hp
      by_cases hp0 : 0 ≤ p
      · have HQ2 : Hid (true = (s.auths.take k).reverse.contains x) := by show _ = _; rw [← hpc]; simp [hp0]
        clear hpc
        go_wp2_with fail
        refine And.intro (Below.refl _ _) ?_
        have HE : Hid (properB s = false) := by
          show _ = _
          rw [HP.out, HI.out, auth_step HX.out HZ.out HC.out, ← HQ.out, ← HQ2.out]; simp
        clear hJ1 hK1
        iterate 22 (first | (refine cl_do rfl rfl rfl rfl (fun _ _ => ?_); go_wp2_with fail) | (refine cl_yes rfl rfl rfl rfl (by first | rfl | simp [okB, lenV, plainV, Act.eval]) (fun _ _ => ?_); go_wp2_with fail) | (refine cl_no rfl rfl rfl ?_; go_simp))
        refine cl_nil ?_
        go_wp2_with fail
        go_ret
        exact ⟨by rw [HE.out]; rfl, HO.out.base⟩
      have HQ2 : Hid (false = (s.auths.take k).reverse.contains x) := by show _ = _; rw [← hpc]; simp [hp0]
      clear hpc
      go_wp2_with fail
      refine And.intro (Below.refl _ _) ?_
      obtain ⟨g2, off2, zx, zc, e2, hg2, cz, hz⟩ := HS.out.zones.get HO.out.base HZ.out
      subst e2
      obtain ⟨bk, -⟩ := HO.out.blk
      rw [HOb.out] at bk
      have hx0 := lt_of_block bk
      have c2 : W6.cell? ⟨bx, 2, none⟩ = some (.slice (some ⟨g2, off2, none⟩) NZ mz) := by rw [cell_of_heap bk]; rfl
      clear bk
      iterate 1 (first | (refine cl_do rfl rfl rfl rfl (fun _ _ => ?_); go_wp2_with fail) | (refine cl_yes rfl rfl rfl rfl (by first | rfl | simp [okB, lenV, plainV, Act.eval]) (fun _ _ => ?_); go_wp2_with fail) | (refine cl_no rfl rfl rfl ?_; go_simp))
      have hp1 : decide (0 ≤ p) = false := by simp; omega
      rw [hp1]
      iterate 7 (first | (refine cl_do rfl rfl rfl rfl (fun _ _ => ?_); go_wp2_with fail) | (refine cl_yes rfl rfl rfl rfl (by first | rfl | simp [okB, lenV, plainV, Act.eval]) (fun _ _ => ?_); go_wp2_with fail) | (refine cl_no rfl rfl rfl ?_; go_simp))
      clear hg2 cz hx0 c2 hp0
      refine cl_ycall (i := 26) rfl rfl rfl rfl (fun K hK => ?_)
      go_wp2_with fail
      go_at_call 44
      refine (rValid_c zx z.length zc z W6 hz).mono ?_
      rintro e W7 ⟨rfl, hb⟩
      replace HO := Lib.hid (HO.out.below hb)
      have Hb := Lib.hid hb
      clear hz hb
      obtain ⟨q, hq⟩ : ∃ q, q = validB z := ⟨_, rfl⟩
      rw [← hq]
      have HQ3 := Lib.hid hq
      clear hq
      go_wp2_with fail
      refine And.intro Hb.out ?_
      clear Hb
      cases q
      · have HE : Hid (properB s = false) := by
          show _ = _
          rw [HP.out, HI.out, auth_step HX.out HZ.out HC.out, ← HQ.out, ← HQ2.out, ← HQ3.out]; simp
        clear hJ1 hK1
        iterate 13 (first | (refine cl_do rfl rfl rfl rfl (fun _ _ => ?_); go_wp2_with fail) | (refine cl_yes rfl rfl rfl rfl (by first | rfl | simp [okB, lenV, plainV, Act.eval]) (fun _ _ => ?_); go_wp2_with fail) | (refine cl_no rfl rfl rfl ?_; go_simp))
        refine cl_nil ?_
        go_wp2_with fail
        go_ret
        exact ⟨by rw [HE.out]; rfl, HO.out.base⟩
      obtain ⟨g3, off3, cu, e3, hg3, cc, hcu⟩ := HS.out.cases.get HO.out.base HC.out
      subst e3
      obtain ⟨bk, -⟩ := HO.out.blk
      rw [HOb.out] at bk
      have hx0 := lt_of_block bk
      have c0 : W7.cell? ⟨bx, 0, none⟩ = some (.slice yd ND md) := by rw [cell_of_heap bk]; rfl
      have c3 : W7.cell? ⟨bx, 3, none⟩ = some (.slice (some ⟨g3, off3, none⟩) NC mc) := by rw [cell_of_heap bk]; rfl
      clear bk
      iterate 10 (first | (refine cl_do rfl rfl rfl rfl (fun _ _ => ?_); go_wp2_with fail) | (refine cl_yes rfl rfl rfl rfl (by first | rfl | simp [okB, lenV, plainV, Act.eval]) (fun _ _ => ?_); go_wp2_with fail) | (refine cl_no rfl rfl rfl ?_; go_simp))
      refine cl_ycall (i := 37) rfl rfl rfl rfl (fun K hK => ?_)
      go_wp2_with fail
      clear hg3 cc hx0 c0 c3
      go_at_call 45
      refine (rFits_c s.dom c _ cu W7 (HS.out.dom.later HO.out.base) hcu HL.out.dom.len HCn.out HL.out.dom.names).mono ?_
      rintro e W8 ⟨rfl, hb⟩
      replace HO := Lib.hid (HO.out.below hb)
      have Hb := Lib.hid hb
      clear hcu hb
      obtain ⟨q, hq⟩ : ∃ q, q = fitsB s.dom c := ⟨_, rfl⟩
      rw [← hq]
      have HQ4 := Lib.hid hq
      clear hq
      go_wp2_with fail
      refine And.intro Hb.out ?_
      clear Hb
      cases q
      · have HE : Hid (properB s = false) := by
          show _ = _
          rw [HP.out, HI.out, auth_step HX.out HZ.out HC.out, ← HQ.out, ← HQ2.out, ← HQ3.out, ← HQ4.out]; simp
        clear hJ1 hK1
        iterate 2 (first | (refine cl_do rfl rfl rfl rfl (fun _ _ => ?_); go_wp2_with fail) | (refine cl_yes rfl rfl rfl rfl (by first | rfl | simp [okB, lenV, plainV, Act.eval]) (fun _ _ => ?_); go_wp2_with fail) | (refine cl_no rfl rfl rfl ?_; go_simp))
        refine cl_nil ?_
        go_wp2_with fail
        go_ret
        exact ⟨by rw [HE.out]; rfl, HO.out.base⟩
      have HI2 : Hid (authL s.dom [] s.auths s.zones s.cases = authL s.dom (s.auths.take (k + 1)).reverse (s.auths.drop (k + 1)) (s.zones.drop (k + 1)) (s.cases.drop (k + 1))) := by
        show _ = _
        rw [HI.out, auth_step HX.out HZ.out HC.out, ← HQ.out, ← HQ2.out, ← HQ3.out, ← HQ4.out]; simp
      clear HI HQ HQ2 HQ3 HQ4
      iterate 2 (first | (refine cl_do rfl rfl rfl rfl (fun _ _ => ?_); go_wp2_with fail) | (refine cl_yes rfl rfl rfl rfl (by first | rfl | simp [okB, lenV, plainV, Act.eval]) (fun _ _ => ?_); go_wp2_with fail) | (refine cl_no rfl rfl rfl ?_; go_simp))
      refine cl_nil ?_
      go_wp2_with fail
      go_roundg (NA - (k + 1))
      case measure => omega
      case rel => exact ⟨k + 1, rfl, by omega, by go_num, HI2, HO⟩
    · obtain rfl : k = NA := by omega
      have HE : Hid (properB s = true) := by
        show _ = _
        rw [HP.out, HI.out]
        have e1 : s.auths.drop k = [] := by rw [HNA.out]; exact List.drop_length
        rw [e1, authL]
      clear hJ1 hK1 hlt
      go_wp2_with fail
      go_ret
      exact ⟨by rw [HE.out]; rfl, HO.out.base⟩
end Go.Proofs.YtakadfdnhlfijaaGreatDoor
namespace Go.Proofs.YtakadfdnhlfijaaGreatDoor
open Go.RowKit Go.Cz Go.Cz.Lx Go.Cz.Fo Go.Cz.Vd
open Go.Cz.Wn (datedB)
set_option linter.unusedSimpArgs false
set_option linter.unusedVariables false
attribute [local go_sem] bs_size bs_extract bs_append bs_toList
attribute [local irreducible] cList cPlan
set_option maxHeartbeats 4000000 in
theorem rNamed_c (m : Me) (y : Option Addr) (n c : Nat) (w : World) (hl : MeLen m) : Calls Tryz.prog 87 #[mval m (.slice y n c)] w fun e w' => e = .returned (.bool (namedM m)) ∧ Below w.heap.size w w' := by
  have HL := Lib.hid hl
  clear hl
  obtain ⟨bx, hbx⟩ : ∃ bx, bx = w.heap.size := ⟨_, rfl⟩
  obtain ⟨W1, hW1⟩ : ∃ W1, W1 = w.alloc (mobj m (.slice y n c)) := ⟨_, rfl⟩
  have HO : Hid (Owns w W1 [blk bx (mobj m (.slice y n c))]) := by
    rw [hW1, hbx]
    exact Lib.hid ((Owns.start w).box _)
  go_enter Tryz.func87, Tryz.ntmps87
  go_wp2_with fail
  rw [← hW1, ← hbx]
  clear hW1 hbx
  (try clear hx0 c0 c1 c2 c3)
  obtain ⟨bk, -⟩ := HO.out.blk
  have hx0 := lt_of_block bk
  have c0 : W1.cell? ⟨bx, 0, none⟩ = some (.string (bs m.id)) := by rw [cell_of_heap bk]; rfl
  have c1 : W1.cell? ⟨bx, 1, none⟩ = some (.string (bs m.auth)) := by rw [cell_of_heap bk]; rfl
  have c2 : W1.cell? ⟨bx, 2, none⟩ = some (.int .i64 m.kind) := by rw [cell_of_heap bk]; rfl
  have c3 : W1.cell? ⟨bx, 3, none⟩ = some (.string (bs m.target)) := by rw [cell_of_heap bk]; rfl
  clear bk
  go_wp2_with fail
  go_at_call 70
  refine (rName_c m.id W1 HL.out.id).mono ?_
  rintro e W2 ⟨rfl, hb⟩
  obtain rfl : W2 = W1 := hb
  (try clear hx0 c0 c1 c2 c3)
  obtain ⟨bk, -⟩ := HO.out.blk
  have hx0 := lt_of_block bk
  have c0 : W2.cell? ⟨bx, 0, none⟩ = some (.string (bs m.id)) := by rw [cell_of_heap bk]; rfl
  have c1 : W2.cell? ⟨bx, 1, none⟩ = some (.string (bs m.auth)) := by rw [cell_of_heap bk]; rfl
  have c2 : W2.cell? ⟨bx, 2, none⟩ = some (.int .i64 m.kind) := by rw [cell_of_heap bk]; rfl
  have c3 : W2.cell? ⟨bx, 3, none⟩ = some (.string (bs m.target)) := by rw [cell_of_heap bk]; rfl
  clear bk
  obtain ⟨a, ha⟩ : ∃ q, q = nameB m.id := ⟨_, rfl⟩
  rw [← ha]
  replace ha := Lib.hid ha
  cases a
  · have HE : Hid (namedM m = false) := by
      show _ = _
      unfold namedM
      rw [← ha.out]; simp
    go_wp2_with fail
    all_goals (go_ret; exact ⟨by rw [HE.out]; rfl, HO.out.base⟩)
  go_wp2_with fail
  go_at_call 70
  refine (rName_c m.auth W2 HL.out.auth).mono ?_
  rintro e W3 ⟨rfl, hb⟩
  obtain rfl : W3 = W2 := hb
  (try clear hx0 c0 c1 c2 c3)
  obtain ⟨bk, -⟩ := HO.out.blk
  have hx0 := lt_of_block bk
  have c0 : W3.cell? ⟨bx, 0, none⟩ = some (.string (bs m.id)) := by rw [cell_of_heap bk]; rfl
  have c1 : W3.cell? ⟨bx, 1, none⟩ = some (.string (bs m.auth)) := by rw [cell_of_heap bk]; rfl
  have c2 : W3.cell? ⟨bx, 2, none⟩ = some (.int .i64 m.kind) := by rw [cell_of_heap bk]; rfl
  have c3 : W3.cell? ⟨bx, 3, none⟩ = some (.string (bs m.target)) := by rw [cell_of_heap bk]; rfl
  clear bk
  obtain ⟨b, hb⟩ : ∃ q, q = nameB m.auth := ⟨_, rfl⟩
  rw [← hb]
  replace hb := Lib.hid hb
  cases b
  · have HE : Hid (namedM m = false) := by
      show _ = _
      unfold namedM
      rw [← hb.out]; simp
    go_wp2_with fail
    all_goals (go_ret; exact ⟨by rw [HE.out]; rfl, HO.out.base⟩)
  by_cases k : m.kind = 1
  · have k1 : (m.kind == 1) = true := by simpa using k
    have HE : Hid (namedM m = decide (m.target = [])) := by
      show _ = _
      unfold namedM
      rw [← ha.out, ← hb.out, if_pos k]; rfl
    clear k
    go_wp2_with fail
    go_ret
    exact ⟨congrArg (fun b => Ending.returned (Value.bool b)) (show List.isEmpty m.target = namedM m by rw [HE.out]; cases m.target <;> simp), HO.out.base⟩
  have k1 : (m.kind == 1) = false := by simpa using k
  clear k
  by_cases k : m.kind = 2
  · have k2 : (m.kind == 2) = true := by simpa using k
    have HK : Hid (namedM m = (nameB m.target && decide (m.target ≠ m.id))) := by
      show _ = _
      unfold namedM
      rw [← ha.out, ← hb.out, k]; simp
    clear k
    go_wp2_with fail
    go_at_call 70
    refine (rName_c m.target W3 HL.out.target).mono ?_
    rintro e W4 ⟨rfl, hb⟩
    obtain rfl : W4 = W3 := hb
    (try clear hx0 c0 c1 c2 c3)
    obtain ⟨bk, -⟩ := HO.out.blk
    have hx0 := lt_of_block bk
    have c0 : W4.cell? ⟨bx, 0, none⟩ = some (.string (bs m.id)) := by rw [cell_of_heap bk]; rfl
    have c1 : W4.cell? ⟨bx, 1, none⟩ = some (.string (bs m.auth)) := by rw [cell_of_heap bk]; rfl
    have c2 : W4.cell? ⟨bx, 2, none⟩ = some (.int .i64 m.kind) := by rw [cell_of_heap bk]; rfl
    have c3 : W4.cell? ⟨bx, 3, none⟩ = some (.string (bs m.target)) := by rw [cell_of_heap bk]; rfl
    clear bk
    obtain ⟨p, hp⟩ : ∃ q, q = nameB m.target := ⟨_, rfl⟩
    rw [← hp]
    replace hp := Lib.hid hp
    cases p
    · have HE : Hid (namedM m = false) := by
        show _ = _
        rw [HK.out, ← hp.out]; rfl
      go_wp2_with fail
      go_ret
      exact ⟨by rw [HE.out]; rfl, HO.out.base⟩
    go_wp2_with fail
    go_ret
    exact ⟨congrArg (fun b => Ending.returned (Value.bool b)) (show (!(m.target == m.id)) = namedM m by rw [HK.out, ← hp.out]; by_cases e : m.target = m.id <;> simp [e]), HO.out.base⟩
  have k2 : (m.kind == 2) = false := by simpa using k
  clear k
  by_cases k : m.kind = 3
  · have k3 : (m.kind == 3) = true := by simpa using k
    have HK : Hid (namedM m = (nameB m.target && decide (m.target ≠ m.auth))) := by
      show _ = _
      unfold namedM
      rw [← ha.out, ← hb.out, k]; simp
    clear k
    go_wp2_with fail
    go_at_call 70
    refine (rName_c m.target W3 HL.out.target).mono ?_
    rintro e W4 ⟨rfl, hb⟩
    obtain rfl : W4 = W3 := hb
    (try clear hx0 c0 c1 c2 c3)
    obtain ⟨bk, -⟩ := HO.out.blk
    have hx0 := lt_of_block bk
    have c0 : W4.cell? ⟨bx, 0, none⟩ = some (.string (bs m.id)) := by rw [cell_of_heap bk]; rfl
    have c1 : W4.cell? ⟨bx, 1, none⟩ = some (.string (bs m.auth)) := by rw [cell_of_heap bk]; rfl
    have c2 : W4.cell? ⟨bx, 2, none⟩ = some (.int .i64 m.kind) := by rw [cell_of_heap bk]; rfl
    have c3 : W4.cell? ⟨bx, 3, none⟩ = some (.string (bs m.target)) := by rw [cell_of_heap bk]; rfl
    clear bk
    obtain ⟨p, hp⟩ : ∃ q, q = nameB m.target := ⟨_, rfl⟩
    rw [← hp]
    replace hp := Lib.hid hp
    cases p
    · have HE : Hid (namedM m = false) := by
        show _ = _
        rw [HK.out, ← hp.out]; rfl
      go_wp2_with fail
      go_ret
      exact ⟨by rw [HE.out]; rfl, HO.out.base⟩
    go_wp2_with fail
    go_ret
    exact ⟨congrArg (fun b => Ending.returned (Value.bool b)) (show (!(m.target == m.auth)) = namedM m by rw [HK.out, ← hp.out]; by_cases e : m.target = m.auth <;> simp [e]), HO.out.base⟩
  have k3 : (m.kind == 3) = false := by simpa using k
  clear k
  have HE : Hid (namedM m = false) := by
    show _ = _
    unfold namedM
    rw [if_neg (by simpa using k1), if_neg (by simpa using k2), if_neg (by simpa using k3)]; simp
  go_wp2_with fail
  go_ret
  exact ⟨by rw [HE.out]; rfl, HO.out.base⟩
set_option maxHeartbeats 4000000 in
theorem rDated30_c (m : Me) (y : Option Addr) (n c : Nat) (w : World) : Calls Tryz.prog 88 #[mval m (.slice y n c)] w fun e w' => e = .returned (.bool (datedB m.kind m.fr m.un m.wi)) ∧ Below w.heap.size w w' := by
  go_enter Tryz.func88, Tryz.ntmps88
  go_wp2_with fail
  all_goals go_ret
  all_goals refine ⟨congrArg (fun b => Ending.returned (Value.bool b)) ?_, (Below.refl _ _).alloc (Nat.le_refl _) _⟩
  all_goals rw [Bool.eq_iff_iff]
  all_goals simp only [datedB, Go.Cz.Wn.dayB, Bool.and_eq_true, Bool.or_eq_true, decide_eq_true_eq, beq_iff_eq, beq_eq_false_iff_ne, bne_eq_false_iff_eq, bne_iff_ne, Bool.false_eq_true, false_iff, true_iff] at *
  all_goals omega
set_option maxHeartbeats 4000000 in
theorem rValid30_c (d : List Fact) (vd : Value) (m : Me) (kv : Value) (w : World) (hd : IsD w d vd) (hf : IsFm (fun _ => True) w m.cond kv) (hD : DoLen d) (hM : MeLen m) (hC : CoLen m.cond) :
    Calls Tryz.prog 63 #[mval m kv, .agg #[vd]] w fun e w' => e = .returned (.int .i64 (validM d m : Nat)) ∧ Below w.heap.size w w' := by
  have HD := Lib.hid hd
  have HF := Lib.hid hf
  have HDL := Lib.hid hD
  have HML := Lib.hid hM
  have HCL := Lib.hid hC
  obtain ⟨y, c, rfl⟩ := hf.form
  obtain ⟨n, hn⟩ : ∃ n, n = m.cond.kids.length := ⟨_, rfl⟩
  rw [← hn] at HF ⊢
  clear hd hf hD hM hC hn
  obtain ⟨bx, hbx⟩ : ∃ bx, bx = w.heap.size := ⟨_, rfl⟩
  obtain ⟨by0, hby⟩ : ∃ by0, by0 = w.heap.size + 1 := ⟨_, rfl⟩
  obtain ⟨W1, hW1⟩ : ∃ W1, W1 = (w.alloc (mobj m (.slice y n c))).alloc (.cells #[vd] 25) := ⟨_, rfl⟩
  have HO : Hid (Owns w W1 [blk bx (mobj m (.slice y n c)), blk by0 (.cells #[vd] 25 (0, 0))]) := by
    have h := ((Owns.start w).box (mobj m (.slice y n c))).box (.cells #[vd] 25 (0, 0))
    rw [World.size_alloc] at h
    rw [hW1, hbx, hby]
    exact Lib.hid h.swap
  go_enter Tryz.func63, Tryz.ntmps63
  go_wp2_with fail
  rw [← hW1, ← hby, ← hbx]
  clear hW1 hby hbx
  (try clear hx0 c0 c1 c2 c3 c4 c5 c6 c7 c8 c9 c10 c11)
  (try clear hy0 cd)
  obtain ⟨bk, -⟩ := HO.out.blk
  obtain ⟨bd, -⟩ := HO.out.swap.blk
  have hx0 := lt_of_block bk
  have hy0 := lt_of_block bd
  have cd : W1.cell? ⟨by0, 0, none⟩ = some vd := by rw [cell_of_heap bd]; rfl
  have c0 : W1.cell? ⟨bx, 0, none⟩ = some (.string (bs m.id)) := by rw [cell_of_heap bk]; rfl
  have c1 : W1.cell? ⟨bx, 1, none⟩ = some (.string (bs m.auth)) := by rw [cell_of_heap bk]; rfl
  have c2 : W1.cell? ⟨bx, 2, none⟩ = some (.int .i64 m.kind) := by rw [cell_of_heap bk]; rfl
  have c3 : W1.cell? ⟨bx, 3, none⟩ = some (.string (bs m.target)) := by rw [cell_of_heap bk]; rfl
  have c4 : W1.cell? ⟨bx, 4, none⟩ = some (.int .i64 m.cond.op) := by rw [cell_of_heap bk]; rfl
  have c5 : W1.cell? ⟨bx, 5, none⟩ = some (.string (bs m.cond.name)) := by rw [cell_of_heap bk]; rfl
  have c6 : W1.cell? ⟨bx, 6, none⟩ = some (.int .i64 m.cond.cmp) := by rw [cell_of_heap bk]; rfl
  have c7 : W1.cell? ⟨bx, 7, none⟩ = some (.int .i64 m.cond.num) := by rw [cell_of_heap bk]; rfl
  have c8 : W1.cell? ⟨bx, 8, none⟩ = some (.slice y n c) := by rw [cell_of_heap bk]; rfl
  have c9 : W1.cell? ⟨bx, 9, none⟩ = some (.int .i64 m.fr) := by rw [cell_of_heap bk]; rfl
  have c10 : W1.cell? ⟨bx, 10, none⟩ = some (.int .i64 m.un) := by rw [cell_of_heap bk]; rfl
  have c11 : W1.cell? ⟨bx, 11, none⟩ = some (.int .i64 m.wi) := by rw [cell_of_heap bk]; rfl
  clear bk bd
  go_wp2_with fail
  go_at_call 42
  refine (rfactValid_c d vd W1 (HD.out.later HO.out.base) HDL.out.len HDL.out.names).mono ?_
  rintro e W2 ⟨rfl, hb⟩
  replace HO := Lib.hid (HO.out.below hb)
  clear hb
  (try clear hx0 c0 c1 c2 c3 c4 c5 c6 c7 c8 c9 c10 c11)
  (try clear hy0 cd)
  obtain ⟨bk, -⟩ := HO.out.blk
  obtain ⟨bd, -⟩ := HO.out.swap.blk
  have hx0 := lt_of_block bk
  have hy0 := lt_of_block bd
  have cd : W2.cell? ⟨by0, 0, none⟩ = some vd := by rw [cell_of_heap bd]; rfl
  have c0 : W2.cell? ⟨bx, 0, none⟩ = some (.string (bs m.id)) := by rw [cell_of_heap bk]; rfl
  have c1 : W2.cell? ⟨bx, 1, none⟩ = some (.string (bs m.auth)) := by rw [cell_of_heap bk]; rfl
  have c2 : W2.cell? ⟨bx, 2, none⟩ = some (.int .i64 m.kind) := by rw [cell_of_heap bk]; rfl
  have c3 : W2.cell? ⟨bx, 3, none⟩ = some (.string (bs m.target)) := by rw [cell_of_heap bk]; rfl
  have c4 : W2.cell? ⟨bx, 4, none⟩ = some (.int .i64 m.cond.op) := by rw [cell_of_heap bk]; rfl
  have c5 : W2.cell? ⟨bx, 5, none⟩ = some (.string (bs m.cond.name)) := by rw [cell_of_heap bk]; rfl
  have c6 : W2.cell? ⟨bx, 6, none⟩ = some (.int .i64 m.cond.cmp) := by rw [cell_of_heap bk]; rfl
  have c7 : W2.cell? ⟨bx, 7, none⟩ = some (.int .i64 m.cond.num) := by rw [cell_of_heap bk]; rfl
  have c8 : W2.cell? ⟨bx, 8, none⟩ = some (.slice y n c) := by rw [cell_of_heap bk]; rfl
  have c9 : W2.cell? ⟨bx, 9, none⟩ = some (.int .i64 m.fr) := by rw [cell_of_heap bk]; rfl
  have c10 : W2.cell? ⟨bx, 10, none⟩ = some (.int .i64 m.un) := by rw [cell_of_heap bk]; rfl
  have c11 : W2.cell? ⟨bx, 11, none⟩ = some (.int .i64 m.wi) := by rw [cell_of_heap bk]; rfl
  clear bk bd
  obtain ⟨q, hq⟩ : ∃ q, q = validD d := ⟨_, rfl⟩
  rw [← hq]
  have HQ := Lib.hid hq
  clear hq
  cases q
  · have HE : Hid (validM d m = 1) := by
      show _ = _
      unfold validM
      rw [← HQ.out]; simp
    go_wp2_with fail
    go_ret
    exact ⟨by rw [HE.out]; rfl, HO.out.base⟩
  go_wp2_with fail
  go_at_call 87
  refine (rNamed_c m y n c W2 HML.out).mono ?_
  rintro e W3 ⟨rfl, hb⟩
  replace HO := Lib.hid (HO.out.below hb)
  clear hb
  (try clear hx0 c0 c1 c2 c3 c4 c5 c6 c7 c8 c9 c10 c11)
  (try clear hy0 cd)
  obtain ⟨bk, -⟩ := HO.out.blk
  obtain ⟨bd, -⟩ := HO.out.swap.blk
  have hx0 := lt_of_block bk
  have hy0 := lt_of_block bd
  have cd : W3.cell? ⟨by0, 0, none⟩ = some vd := by rw [cell_of_heap bd]; rfl
  have c0 : W3.cell? ⟨bx, 0, none⟩ = some (.string (bs m.id)) := by rw [cell_of_heap bk]; rfl
  have c1 : W3.cell? ⟨bx, 1, none⟩ = some (.string (bs m.auth)) := by rw [cell_of_heap bk]; rfl
  have c2 : W3.cell? ⟨bx, 2, none⟩ = some (.int .i64 m.kind) := by rw [cell_of_heap bk]; rfl
  have c3 : W3.cell? ⟨bx, 3, none⟩ = some (.string (bs m.target)) := by rw [cell_of_heap bk]; rfl
  have c4 : W3.cell? ⟨bx, 4, none⟩ = some (.int .i64 m.cond.op) := by rw [cell_of_heap bk]; rfl
  have c5 : W3.cell? ⟨bx, 5, none⟩ = some (.string (bs m.cond.name)) := by rw [cell_of_heap bk]; rfl
  have c6 : W3.cell? ⟨bx, 6, none⟩ = some (.int .i64 m.cond.cmp) := by rw [cell_of_heap bk]; rfl
  have c7 : W3.cell? ⟨bx, 7, none⟩ = some (.int .i64 m.cond.num) := by rw [cell_of_heap bk]; rfl
  have c8 : W3.cell? ⟨bx, 8, none⟩ = some (.slice y n c) := by rw [cell_of_heap bk]; rfl
  have c9 : W3.cell? ⟨bx, 9, none⟩ = some (.int .i64 m.fr) := by rw [cell_of_heap bk]; rfl
  have c10 : W3.cell? ⟨bx, 10, none⟩ = some (.int .i64 m.un) := by rw [cell_of_heap bk]; rfl
  have c11 : W3.cell? ⟨bx, 11, none⟩ = some (.int .i64 m.wi) := by rw [cell_of_heap bk]; rfl
  clear bk bd
  obtain ⟨q, hq⟩ : ∃ q, q = namedM m := ⟨_, rfl⟩
  rw [← hq]
  have HP := Lib.hid hq
  clear hq
  cases q
  · have HE : Hid (validM d m = 1) := by
      show _ = _
      unfold validM
      rw [← HQ.out, ← HP.out]; simp
    go_wp2_with fail
    go_ret
    exact ⟨by rw [HE.out]; rfl, HO.out.base⟩
  go_wp2_with fail
  go_at_call 88
  refine (rDated30_c m y n c W3).mono ?_
  rintro e W4 ⟨rfl, hb⟩
  replace HO := Lib.hid (HO.out.below hb)
  clear hb
  (try clear hx0 c0 c1 c2 c3 c4 c5 c6 c7 c8 c9 c10 c11)
  (try clear hy0 cd)
  obtain ⟨bk, -⟩ := HO.out.blk
  obtain ⟨bd, -⟩ := HO.out.swap.blk
  have hx0 := lt_of_block bk
  have hy0 := lt_of_block bd
  have cd : W4.cell? ⟨by0, 0, none⟩ = some vd := by rw [cell_of_heap bd]; rfl
  have c0 : W4.cell? ⟨bx, 0, none⟩ = some (.string (bs m.id)) := by rw [cell_of_heap bk]; rfl
  have c1 : W4.cell? ⟨bx, 1, none⟩ = some (.string (bs m.auth)) := by rw [cell_of_heap bk]; rfl
  have c2 : W4.cell? ⟨bx, 2, none⟩ = some (.int .i64 m.kind) := by rw [cell_of_heap bk]; rfl
  have c3 : W4.cell? ⟨bx, 3, none⟩ = some (.string (bs m.target)) := by rw [cell_of_heap bk]; rfl
  have c4 : W4.cell? ⟨bx, 4, none⟩ = some (.int .i64 m.cond.op) := by rw [cell_of_heap bk]; rfl
  have c5 : W4.cell? ⟨bx, 5, none⟩ = some (.string (bs m.cond.name)) := by rw [cell_of_heap bk]; rfl
  have c6 : W4.cell? ⟨bx, 6, none⟩ = some (.int .i64 m.cond.cmp) := by rw [cell_of_heap bk]; rfl
  have c7 : W4.cell? ⟨bx, 7, none⟩ = some (.int .i64 m.cond.num) := by rw [cell_of_heap bk]; rfl
  have c8 : W4.cell? ⟨bx, 8, none⟩ = some (.slice y n c) := by rw [cell_of_heap bk]; rfl
  have c9 : W4.cell? ⟨bx, 9, none⟩ = some (.int .i64 m.fr) := by rw [cell_of_heap bk]; rfl
  have c10 : W4.cell? ⟨bx, 10, none⟩ = some (.int .i64 m.un) := by rw [cell_of_heap bk]; rfl
  have c11 : W4.cell? ⟨bx, 11, none⟩ = some (.int .i64 m.wi) := by rw [cell_of_heap bk]; rfl
  clear bk bd
  obtain ⟨q, hq⟩ : ∃ q, q = datedB m.kind m.fr m.un m.wi := ⟨_, rfl⟩
  rw [← hq]
  have HT := Lib.hid hq
  clear hq
  cases q
  · have HE : Hid (validM d m = 10) := by
      show _ = _
      unfold validM
      rw [← HQ.out, ← HP.out, ← HT.out]; simp
    go_wp2_with fail
    go_ret
    exact ⟨by rw [HE.out]; rfl, HO.out.base⟩
  go_wp2_with fail
  go_at_call 89
  refine (rCheck_c m.cond W4 (.slice y n c) d vd (HF.out.later HO.out.base) (HD.out.later HO.out.base) HDL.out.len HDL.out.names (Nat.le_refl _) HCL.out.names HCL.out.size).mono ?_
  rintro e W5 ⟨rfl, hb⟩
  replace HO := Lib.hid (HO.out.below hb)
  clear hb
  have HE : Hid (validM d m = checkF d m.cond) := by
    show _ = _
    unfold validM
    rw [← HQ.out, ← HP.out, ← HT.out]; simp
  go_wp2_with fail
  go_ret
  exact ⟨by rw [HE.out]; rfl, HO.out.base⟩
end Go.Proofs.YtakadfdnhlfijaaGreatDoor
namespace Go.Cz.Vd
open Go.Cz.Lx Go.Cz.Fo
theorem nodup_next {l : List Me} {i : Nat} {m : Me} (h : ((l.take i).map Me.id).Nodup) (hm : m.id ∉ (l.take i).map Me.id) (hi : l[i]? = some m) : ((l.take (i + 1)).map Me.id).Nodup := by
  rw [List.take_add_one, hi, List.map_append, List.nodup_append]
  refine ⟨h, by simp, fun a ha b hb e => ?_⟩
  have : b = m.id := by simpa using hb
  exact hm (by rw [← this, ← e]; exact ha)
theorem twice_at {l : List Me} {i k : Nat} {m x : Me} (hk : k < i) (h1 : l[i]? = some m) (h2 : l[k]? = some x) (h : m.id = x.id) : twice (l.map Me.id) = true := by
  cases ht : twice (l.map Me.id)
  · have hn := twice_nodup.1 ht
    have e1 : (l.map Me.id)[i]? = some m.id := by rw [List.getElem?_map, h1]; rfl
    have e2 : (l.map Me.id)[k]? = some m.id := by rw [List.getElem?_map, h2, h]; rfl
    obtain ⟨l1, e1⟩ := List.getElem?_eq_some_iff.1 e1
    obtain ⟨l2, e2⟩ := List.getElem?_eq_some_iff.1 e2
    have := (List.pairwise_iff_getElem.1 hn) k i l2 l1 hk
    exact absurd (e2.trans e1.symm) this
  · rfl
end Go.Cz.Vd
namespace Go.Proofs.YtakadfdnhlfijaaGreatDoor
open Go.RowKit Go.Cz Go.Cz.Lx Go.Cz.Fo Go.Cz.Vd
open Go.Cz.Ck (Shift validB)
set_option linter.unusedSimpArgs false
set_option linter.unusedVariables false
attribute [local go_sem] bs_size bs_extract bs_append bs_toList
attribute [local irreducible] cList cPlan
set_option maxRecDepth 100000 in
set_option maxHeartbeats 4000000 in
theorem rcheck_c (l : List Me) (s : Sc) (lv vd va vz vc : Value) (w : World) (hr : IsMeR w l lv) (hs : IsSc w s vd va vz vc) (hm : MsLen l) (hl : ScLen s) (hA : s.auths.length ≤ 1000000) (hZ : s.zones.length ≤ 1000000) (hC : s.cases.length ≤ 1000000) :
    Calls Tryz.prog 33 #[lv, sval s vd va vz vc] w fun e w' => e = .returned (.int .i64 (checkV l s : Nat)) ∧ Below w.heap.size w w' := by
  have HR := Lib.hid hr
  have HS := Lib.hid hs
  have HM := Lib.hid hm
  have HL := Lib.hid hl
  have HP := Lib.hid fun (W : World) (hb : Below w.heap.size w W) => rProper_c s vd va vz vc W (hs.later hb) hl hA hZ hC
  obtain ⟨y, c, rfl⟩ := hr.form
  obtain ⟨N, hN⟩ : ∃ N, N = l.length := ⟨_, rfl⟩
  have HN := Lib.hid hN
  rw [← hN] at HR ⊢
  have hNl : N ≤ 1000000 := by rw [hN]; exact hm.len
  clear hr hs hm hl hA hZ hC hN
  obtain ⟨bx, hbx⟩ : ∃ bx, bx = w.heap.size := ⟨_, rfl⟩
  obtain ⟨W1, hW1⟩ : ∃ W1, W1 = w.alloc (sobj s vd va vz vc) := ⟨_, rfl⟩
  have HO : Hid (Owns w W1 [blk bx (sobj s vd va vz vc)]) := by
    rw [hW1, hbx]
    exact Lib.hid ((Owns.start w).box _)
  obtain ⟨yd, md, rfl⟩ := HS.out.dom.form
  obtain ⟨ya, ma, rfl⟩ := HS.out.auths.form
  obtain ⟨yz, mz, rfl⟩ := HS.out.zones.form
  obtain ⟨yc, mc, rfl⟩ := HS.out.cases.form
  obtain ⟨ND, hND⟩ : ∃ n, n = s.dom.length := ⟨_, rfl⟩
  obtain ⟨NA, hNA⟩ : ∃ n, n = s.auths.length := ⟨_, rfl⟩
  obtain ⟨NZ, hNZ⟩ : ∃ n, n = s.zones.length := ⟨_, rfl⟩
  obtain ⟨NC, hNC⟩ : ∃ n, n = s.cases.length := ⟨_, rfl⟩
  rw [← hND, ← hNA, ← hNZ, ← hNC] at HS HP HO hW1 ⊢
  clear hND hNA hNZ hNC
  go_enter Tryz.func33, Tryz.ntmps33
  go_wp2_with fail
  rw [← hW1, ← hbx]
  clear hW1 hbx
  (try clear hx0 c0 c1 c2 c3 c4 c5)
  obtain ⟨bk, -⟩ := HO.out.blk
  have hx0 := lt_of_block bk
  have c0 : W1.cell? ⟨bx, 0, none⟩ = some (.slice yd ND md) := by rw [cell_of_heap bk]; rfl
  have c1 : W1.cell? ⟨bx, 1, none⟩ = some (.slice ya NA ma) := by rw [cell_of_heap bk]; rfl
  have c2 : W1.cell? ⟨bx, 2, none⟩ = some (.slice yz NZ mz) := by rw [cell_of_heap bk]; rfl
  have c3 : W1.cell? ⟨bx, 3, none⟩ = some (.slice yc NC mc) := by rw [cell_of_heap bk]; rfl
  have c4 : W1.cell? ⟨bx, 4, none⟩ = some (.int .i64 s.signed) := by rw [cell_of_heap bk]; rfl
  have c5 : W1.cell? ⟨bx, 5, none⟩ = some (.int .i64 s.now) := by rw [cell_of_heap bk]; rfl
  clear bk
  go_wp2_with fail
  clear hx0 c0 c1 c2 c3 c4 c5
  go_at_call 16
  refine (HP.out W1 HO.out.base).mono ?_
  rintro e W2 ⟨rfl, hb⟩
  replace HO := Lib.hid (HO.out.below hb)
  clear hb HP
  obtain ⟨q, hq⟩ : ∃ q, q = properB s := ⟨_, rfl⟩
  rw [← hq]
  have HQ := Lib.hid hq
  clear hq
  cases q
  · have HE : Hid (checkV l s = 1) := by
      show _ = _
      unfold checkV
      rw [← HQ.out]; rfl
    go_wp2_with fail
    go_ret
    exact ⟨by rw [HE.out]; rfl, HO.out.base⟩
  by_cases n2 : 200 < N
  · have n2' : (200 : Int) < N := by omega
    have HE : Hid (checkV l s = 2) := by
      show _ = _
      unfold checkV
      rw [← HQ.out, if_neg (by simp), if_pos (by rw [← HN.out]; exact n2)]
    go_wp2_with fail
    go_ret
    exact ⟨by rw [HE.out]; rfl, HO.out.base⟩
  have n2' : ¬ (200 : Int) < N := by omega
  have HP : Hid (checkV l s = if firstM s.dom l ≠ 0 then firstM s.dom l else if twice (l.map Me.id) = true then 9 else 0) := by
    show _ = _
    unfold checkV
    rw [← HQ.out, if_neg (by simp), if_neg (by rw [← HN.out]; exact n2)]
  clear HQ n2
  obtain ⟨o, ho⟩ : ∃ o, o = sobj s (.slice yd ND md) (.slice ya NA ma) (.slice yz NZ mz) (.slice yc NC mc) := ⟨_, rfl⟩
  rw [← ho] at HO
  have HOb := Lib.hid ho
  clear ho
  go_wp2_with fail
  have H0 : Hid (firstM s.dom l = firstM s.dom (l.drop 0)) := by show _ = _; simp
  go_loopg [5] N (fun gk i wr => ∃ k : Nat, gk = N - k ∧ k ≤ N ∧ i = .int .i64 (k : Int) ∧ Hid (firstM s.dom l = firstM s.dom (l.drop k)) ∧ Hid (Owns w wr [blk bx o]))
  case atStart => exact ⟨0, rfl, Nat.zero_le _, rfl, H0, HO⟩
  case round =>
    rename_i J1 K1 hJ1 hK1
    clear HO H0
    obtain ⟨k, rfl, hk, rfl, HI, HO⟩ := hrel
    by_cases hlt : k < N
    · obtain ⟨m, hx⟩ : ∃ x, l[k]? = some x := ⟨_, List.getElem?_eq_getElem (by rw [← HN.out]; exact hlt)⟩
      obtain ⟨hml, hmc⟩ := HM.out.each m (List.mem_of_getElem? hx)
      have HX := Lib.hid hx
      have HML := Lib.hid hml
      have HMC := Lib.hid hmc
      clear hml hmc
      obtain ⟨g, off, kv, rfl, -, -, -⟩ := HR.out.get HO.out.base hx
      go_wp2_with fail
      replace HO := Lib.hid HO.out.drew
      refine wp_region_can [6] (List.range 8) (by decide +kernel) (by decide +kernel) ?_
      obtain ⟨W3, hW3⟩ : ∃ W, W = wr.drew := ⟨_, rfl⟩
      rw [← hW3] at HO ⊢
      clear hW3
      obtain ⟨g', off', kv, e, hg, hm, hf⟩ := HR.out.get HO.out.base hx
      cases e
      obtain ⟨y2, m2, rfl⟩ := hf.form
      obtain ⟨n2, hn2⟩ : ∃ n, n = m.cond.kids.length := ⟨_, rfl⟩
      rw [← hn2] at hm hf
      have HF := Lib.hid hf
      clear hf hn2 hx
      obtain ⟨d0, d1, d2, d3, d4, d5, d6, d7, d8, d9, d10, d11⟩ := hm
      obtain ⟨bk, -⟩ := HO.out.blk
      rw [HOb.out] at bk
      have hx0 := lt_of_block bk
      have c0 : W3.cell? ⟨bx, 0, none⟩ = some (.slice yd ND md) := by rw [cell_of_heap bk]; rfl
      clear bk
      iterate 6 (refine cl_do rfl rfl rfl rfl (fun _ _ => ?_); go_wp2_with fail)
      refine cl_call (i := 6) rfl rfl rfl (fun K hK => ?_)
      clear hx0 c0 hg d0 d1 d2 d3 d4 d5 d6 d7 d8 d9 d10 d11
      go_wp2_with fail
      go_at_call 63
      refine (rValid30_c s.dom _ m _ W3 (HS.out.dom.later HO.out.base) HF.out HL.out.dom HML.out HMC.out).mono ?_
      rintro e W4 ⟨rfl, hb⟩
      replace HO := Lib.hid (HO.out.below hb)
      have Hb := Lib.hid hb
      clear hb HF
      obtain ⟨q, hq⟩ : ∃ q, q = validM s.dom m := ⟨_, rfl⟩
      rw [← hq]
      have HQ := Lib.hid hq
      clear hq
      go_wp2_with fail
      refine And.intro Hb.out ?_
      clear Hb
      refine cl_do rfl rfl rfl rfl (fun _ _ => ?_)
      go_wp2_with fail
      refine cl_nil ?_
      by_cases hq0 : q = 0
      rotate_left
      · have hq1 : ((q : Int) != 0) = true := by simp; omega
        have HE : Hid (checkV l s = q) := by
          show _ = _
          rw [HP.out, HI.out, first_next HX.out, ← HQ.out, if_pos hq0, if_pos hq0]
        clear hJ1 hK1 hq0
        go_wp2_with fail
        go_ret
        exact ⟨by rw [HE.out]; rfl, HO.out.base⟩
      have HI2 : Hid (firstM s.dom l = firstM s.dom (l.drop (k + 1))) := by
        show _ = _
        rw [HI.out, first_next HX.out, ← HQ.out, if_neg (by simpa using hq0)]
      clear HI HQ
      subst hq0
      go_wp2_with fail
      go_roundg (N - (k + 1))
      case measure => omega
      case rel => exact ⟨k + 1, rfl, by omega, by go_num, HI2, HO⟩
    · obtain rfl : k = N := by omega
      have HE : Hid (checkV l s = if twice (l.map Me.id) = true then 9 else 0) := by
        show _ = _
        have e1 : firstM s.dom l = 0 := by rw [HI.out, HN.out, List.drop_length]; rfl
        rw [HP.out, e1, if_neg (by simp)]
      clear hJ1 hK1 hlt HI HP
      go_wp2_with fail
      have HT : Hid (((l.take 0).map Me.id).Nodup) := by show List.Nodup _; simp
      go_loopg [7] k (fun gk i wr => ∃ j : Nat, gk = k - j ∧ j ≤ k ∧ i = .int .i64 (j : Int) ∧ Hid (((l.take j).map Me.id).Nodup) ∧ Hid (Owns w wr [blk bx o]))
      case atStart => exact ⟨0, rfl, Nat.zero_le _, rfl, HT, HO⟩
      case round =>
        rename_i J2 K2 hJ2 hK2
        clear HO HT
        obtain ⟨j, rfl, hj, rfl, HT, HO⟩ := hrel
        by_cases hlt : j < k
        · obtain ⟨m, hx⟩ : ∃ x, l[j]? = some x := ⟨_, List.getElem?_eq_getElem (by rw [← HN.out]; exact hlt)⟩
          have HX := Lib.hid hx
          obtain ⟨g, off, kv, rfl, -, -, -⟩ := HR.out.get HO.out.base hx
          clear hx
          go_wp2_with fail
          have HU : Hid (m.id ∉ (l.take 0).map Me.id) := by show ¬ _; simp
          go_loopg [8] j (fun gk i wr => ∃ p : Nat, gk = j - p ∧ p ≤ j ∧ i = .int .i64 (p : Int) ∧ Hid (m.id ∉ (l.take p).map Me.id) ∧ Hid (Owns w wr [blk bx o]))
          case atStart => exact ⟨0, rfl, Nat.zero_le _, rfl, HU, HO⟩
          case round =>
            rename_i J3 K3 hJ3 hK3
            clear HO HU
            obtain ⟨p, rfl, hp, rfl, HU, HO⟩ := hrel
            by_cases hlt2 : p < j
            · obtain ⟨x, hx⟩ : ∃ x, l[p]? = some x := ⟨_, List.getElem?_eq_getElem (by rw [← HN.out]; omega)⟩
              have hpk : p < k := by omega
              have HX2 := Lib.hid hx
              clear hx
              go_wp2_with fail
              replace HO := Lib.hid HO.out.drew
              refine wp_region_can [] (List.range 11) (by decide +kernel) (by decide +kernel) ?_
              obtain ⟨W3, hW3⟩ : ∃ W, W = wr.drew := ⟨_, rfl⟩
              rw [← hW3] at HO ⊢
              clear hW3
              obtain ⟨g', off', kv, e, hg, hm, -⟩ := HR.out.get HO.out.base HX.out
              cases e
              obtain ⟨g', off', kv2, e, -, hm2, -⟩ := HR.out.get HO.out.base HX2.out
              cases e
              have d0 := hm.c0
              have e0 := hm2.c0
              clear hm hm2
              iterate 10 (refine cl_do rfl rfl rfl rfl (fun _ _ => ?_); go_wp2_with fail)
              by_cases heq : m.id = x.id
              · have h1 : (m.id == x.id) = true := by simpa using heq
                have HE9 : Hid (checkV l s = 9) := by
                  show _ = _
                  rw [HE.out, if_pos (twice_at hlt2 HX.out HX2.out heq)]
                clear heq hJ2 hK2 hJ3 hK3
                refine cl_do rfl rfl rfl rfl (fun _ _ => ?_)
                go_wp2_with fail
                refine cl_nil ?_
                go_wp2_with fail
                go_ret
                exact ⟨by rw [HE9.out]; rfl, HO.out.base⟩
              have h1 : (m.id == x.id) = false := by simpa using heq
              have HU2 : Hid (m.id ∉ (l.take (p + 1)).map Me.id) := by
                show ¬ _
                rw [List.take_add_one, HX2.out]
                simp only [Option.toList_some, List.map_append, List.map_cons, List.map_nil, List.mem_append, List.mem_singleton, not_or]
                exact ⟨HU.out, heq⟩
              clear heq
              refine cl_do rfl rfl rfl rfl (fun _ _ => ?_)
              go_wp2_with fail
              refine cl_nil ?_
              go_wp2_with fail
              clear h1 hg d0 e0
              go_roundg (j - (p + 1))
              case measure => omega
              case rel => exact ⟨p + 1, rfl, by omega, by go_num, HU2, HO⟩
            · obtain rfl : p = j := by omega
              have HT2 : Hid (((l.take (p + 1)).map Me.id).Nodup) := Lib.hid (nodup_next HT.out HU.out HX.out)
              clear hJ3 hK3 hlt2
              go_wp2_with fail
              go_roundg (k - (p + 1))
              case measure => omega
              case rel => exact ⟨p + 1, rfl, by omega, by go_num, HT2, HO⟩
        · obtain rfl : j = k := by omega
          have HE0 : Hid (checkV l s = 0) := by
            show _ = _
            have := HT.out
            rw [HN.out, List.take_length] at this
            rw [HE.out, twice_nodup.2 this]; rfl
          clear hJ2 hK2 hlt
          go_wp2_with fail
          go_ret
          exact ⟨by rw [HE0.out]; rfl, HO.out.base⟩
end Go.Proofs.YtakadfdnhlfijaaGreatDoor

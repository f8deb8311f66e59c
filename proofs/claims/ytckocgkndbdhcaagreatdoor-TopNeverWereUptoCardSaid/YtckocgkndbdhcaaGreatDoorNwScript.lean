/-
  Names in several scripts: letters, words, names.
-/
import Derived.Test.YtckocgkndbdhcaaGreatDoorNwClock
import Derived.Test.YtckocgkndbdhcaaGreatDoorNwRange
import Derived.Lib.MapU
namespace Go.Cz.Nw
abbrev Bytes := List UInt8
def isB (s : Bytes) (i : Nat) (set : Bytes) : Bool := match s[i]? with
  | some b => decide (0 ≤ Lib.indexByte set b)
  | none => false
def smallL : Bytes := [97, 98, 99, 100, 101, 102, 103, 104, 105, 106, 107, 108, 109, 110, 111, 112, 113, 114, 115, 116, 117, 118, 119, 120, 121, 122]
def markL : Bytes := [39, 96, 94]
def abjL : Bytes := [98, 100, 102, 103, 104, 106, 107, 108, 109, 110, 112, 113, 114, 115, 116, 119, 120, 121, 122, 39]
def consL : Bytes := [107, 115, 116, 110, 104, 109, 121, 114, 119, 103, 122, 100, 98, 112]
def vowL : Bytes := [97, 105, 117, 101, 111]
/-- The length of the letter with which a text begins. -/
def lenL (k : Int) (s : Bytes) : Nat :=
  if k = 1 then (if isB s 0 smallL then 1 else 0)
  else if k = 2 then (if isB (Lib.toLowerD (s.take 1)) 0 smallL then (if isB s 1 markL then 2 else 1) else 0)
  else if k = 3 then (if isB s 0 abjL then 1 else 0)
  else if k = 4 then (if isB s 0 consL && isB s 1 vowL then 2 else if isB s 0 vowL || isB s 0 [110] then 1 else 0)
  else 0
theorem isB_lt {s : Bytes} {i : Nat} {set : Bytes} (h : isB s i set = true) : i < s.length := by
  unfold isB at h
  split at h
  · rename_i b hb
    exact (List.getElem?_eq_some_iff.1 hb).1
  · cases h
theorem lower_nil : Lib.toLowerD [] = [] := rfl
theorem lenL_le (k : Int) (s : Bytes) : lenL k s ≤ s.length := by
  have h0 : ∀ set, isB s 0 set = true → 1 ≤ s.length := fun set h => isB_lt h
  have h1 : ∀ set, isB s 1 set = true → 2 ≤ s.length := fun set h => isB_lt h
  have h2 : isB (Lib.toLowerD (s.take 1)) 0 smallL = true → 1 ≤ s.length := fun h => by
    rcases s with _ | ⟨a, r⟩
    · rw [List.take_nil, lower_nil] at h
      cases h
    · simp
  unfold lenL
  by_cases k1 : k = 1
  · rw [if_pos k1]
    split
    · exact h0 _ ‹_›
    · exact Nat.zero_le _
  rw [if_neg k1]
  by_cases k2 : k = 2
  · rw [if_pos k2]
    split
    · split
      · exact h1 _ ‹_›
      · exact h2 ‹_›
    · exact Nat.zero_le _
  rw [if_neg k2]
  by_cases k3 : k = 3
  · rw [if_pos k3]
    split
    · exact h0 _ ‹_›
    · exact Nat.zero_le _
  rw [if_neg k3]
  by_cases k4 : k = 4
  · rw [if_pos k4]
    split
    · rename_i h
      rw [Bool.and_eq_true] at h
      exact h1 _ h.2
    · split
      · rename_i h
        rw [Bool.or_eq_true] at h
        rcases h with h | h <;> exact h0 _ h
      · exact Nat.zero_le _
  rw [if_neg k4]
  exact Nat.zero_le _
end Go.Cz.Nw
namespace Go.Proofs.YtckocgkndbdhcaaGreatDoor
open Go.RowKit Go.Cz Go.Cz.Nw
set_option linter.unusedSimpArgs false
set_option linter.unusedVariables false
attribute [local go_sem] bs_size bs_extract bs_append bs_toList
attribute [local irreducible] cList
theorem is_c (s set : Bytes) (i : Nat) (w : World) (hl : s.length ≤ 140737488355328) : Calls Tryz.prog 104 #[.string (bs s), .int .i64 (i : Int), .string (bs set)] w fun e w' => e = .returned (.bool (isB s i set)) ∧ w' = w := by
  by_cases h : i < s.length
  · have HE : Hid (isB s i set = decide (0 ≤ Lib.indexByte set s[i])) := by show _ = _; unfold isB; rw [List.getElem?_eq_getElem h]
    have HI := Lib.hid fun w => indexByte_c set s[i] w
    have hi : (i : Int) < (s.length : Int) := by omega
    go_enter Tryz.func104, Tryz.ntmps104
    go_wp2_with fail
    go_at_call 86
    refine (HI.out _).mono ?_
    rintro e w1 ⟨rfl, rfl⟩
    go_wp2_with fail
    go_ret
    rw [HE.out]
    exact ⟨rfl, rfl⟩
  · have HE : Hid (isB s i set = false) := by show _ = _; unfold isB; rw [List.getElem?_eq_none (by omega)]
    have hi : ¬ (i : Int) < (s.length : Int) := by omega
    clear h hl
    go_enter Tryz.func104, Tryz.ntmps104
    go_wp2_with fail
    go_ret
    rw [HE.out]
    exact ⟨rfl, rfl⟩
theorem old_cell {w w' : World} {p : Addr} {v : Value} (hb : Below w.heap.size w w') (h : w.cell? p = some v) : w'.cell? p = some v := by
  rw [hb.cell (World.block_lt_of_cell? w p h), h]
theorem Std.below {w w' : World} (h : Std w) (hb : Below w.heap.size w w') : Std w' := by
  refine ⟨var_below g_tab h.tab hb, ?_, ?_⟩
  · obtain ⟨R, o, c, h1, h2⟩ := h.cas
    refine ⟨R, o, c, old_cell hb h1, fun i hi => ?_⟩
    obtain ⟨a1, a2, a3, a4, a5⟩ := h2 i hi
    exact ⟨old_cell hb a1, old_cell hb a2, old_cell hb a3, old_cell hb a4, old_cell hb a5⟩
  · obtain ⟨h1, h2⟩ := h.utf
    exact ⟨fun c hc => old_cell hb (h1 c hc), fun i hi => ⟨old_cell hb (h2 i hi).1, old_cell hb (h2 i hi).2⟩⟩
theorem lower_c (s : Bytes) (w : World) (hs : Std w) (hl : s.length ≤ 1000) : Calls Tryz.prog 105 #[.string (bs s)] w fun e w' => e = .returned (.string (bs (Lib.toLowerD s))) ∧ Below w.heap.size w w' := by
  have h := Tryz.strings_ToLower_any (bs s) w (by rw [bs_size]; omega) hs.cas hs.utf
  rw [show (bs s).data.toList = s from bs_data s] at h
  exact h
theorem lower_one : ∀ n : Nat, n < 256 → (Lib.toLowerD [UInt8.ofNat n]).length ≤ 1000 := by decide +kernel
theorem lower_len (s : Bytes) : (Lib.toLowerD (s.take 1)).length ≤ 1000 := by
  rcases s with _ | ⟨b, r⟩
  · rw [List.take_nil, lower_nil]
    simp
  · have h := lower_one b.toNat (UInt8.toNat_lt b)
    rw [UInt8.ofNat_toNat] at h
    simpa using h
set_option maxRecDepth 100000 in
set_option maxHeartbeats 4000000 in
theorem length_c (k : Int) (s : Bytes) (w : World) (hs : Std w) (hl : s.length ≤ 1000) : Calls Tryz.prog 98 #[.int .i64 k, .string (bs s)] w fun e w' => e = .returned (.int .i64 (lenL k s : Nat)) ∧ Below w.heap.size w w' := by
  by_cases k1 : k = 1
  · subst k1
    rcases hb : isB s 0 smallL with _ | _
    · have HE : Hid (lenL 1 s = 0) := by show _ = _; simp [lenL, hb]
      go_enter Tryz.func98, Tryz.ntmps98
      go_wp2_with fail
      go_at_call 104
      refine (is_c s smallL 0 _ (by omega)).mono ?_
      rintro e w1 ⟨rfl, rfl⟩
      rw [hb]
      go_wp2_with fail
      go_ret
      rw [HE.out]
      exact ⟨rfl, Below.refl _ _⟩
    · have HE : Hid (lenL 1 s = 1) := by show _ = _; simp [lenL, hb]
      go_enter Tryz.func98, Tryz.ntmps98
      go_wp2_with fail
      go_at_call 104
      refine (is_c s smallL 0 _ (by omega)).mono ?_
      rintro e w1 ⟨rfl, rfl⟩
      rw [hb]
      go_wp2_with fail
      go_ret
      rw [HE.out]
      exact ⟨rfl, Below.refl _ _⟩
  by_cases k2 : k = 2
  · subst k2
    have HT := Lib.hid (lower_c (s.take 1) w hs (by rw [List.length_take]; omega))
    have hll := lower_len s
    have hmt : s.take (min 1 (s.length : Int)).toNat = s.take 1 := by
      rcases s with _ | ⟨b, r⟩
      · simp
      · congr 1
        have : (1 : Int) ≤ ((b :: r).length : Int) := by rw [List.length_cons]; omega
        omega
    have HMT := Lib.hid hmt
    clear hmt
    rcases hb : isB (Lib.toLowerD (s.take 1)) 0 smallL with _ | _
    · have HE : Hid (lenL 2 s = 0) := by show _ = _; simp [lenL, hb]
      go_enter Tryz.func98, Tryz.ntmps98
      go_wp2_with fail
      rw [HMT.out]
      go_at_call 105
      refine HT.out.mono ?_
      rintro e W1 ⟨rfl, hbl⟩
      have HB := Lib.hid hbl
      clear hbl
      go_wp2_with fail
      go_at_call 104
      refine (is_c (Lib.toLowerD (s.take 1)) smallL 0 _ (by omega)).mono ?_
      rintro e w1 ⟨rfl, rfl⟩
      rw [hb]
      go_wp2_with fail
      go_ret
      rw [HE.out]
      exact ⟨rfl, HB.out⟩
    · rcases hc : isB s 1 markL with _ | _
      · have HE : Hid (lenL 2 s = 1) := by show _ = _; simp [lenL, hb, hc]
        go_enter Tryz.func98, Tryz.ntmps98
        go_wp2_with fail
        rw [HMT.out]
        go_at_call 105
        refine HT.out.mono ?_
        rintro e W1 ⟨rfl, hbl⟩
        have HB := Lib.hid hbl
        clear hbl
        go_wp2_with fail
        go_at_call 104
        refine (is_c (Lib.toLowerD (s.take 1)) smallL 0 _ (by omega)).mono ?_
        rintro e w1 ⟨rfl, rfl⟩
        rw [hb]
        go_wp2_with fail
        go_at_call 104
        refine (is_c s markL 1 _ (by omega)).mono ?_
        rintro e w1 ⟨rfl, rfl⟩
        rw [hc]
        go_wp2_with fail
        go_ret
        rw [HE.out]
        exact ⟨rfl, HB.out⟩
      · have HE : Hid (lenL 2 s = 2) := by show _ = _; simp [lenL, hb, hc]
        go_enter Tryz.func98, Tryz.ntmps98
        go_wp2_with fail
        rw [HMT.out]
        go_at_call 105
        refine HT.out.mono ?_
        rintro e W1 ⟨rfl, hbl⟩
        have HB := Lib.hid hbl
        clear hbl
        go_wp2_with fail
        go_at_call 104
        refine (is_c (Lib.toLowerD (s.take 1)) smallL 0 _ (by omega)).mono ?_
        rintro e w1 ⟨rfl, rfl⟩
        rw [hb]
        go_wp2_with fail
        go_at_call 104
        refine (is_c s markL 1 _ (by omega)).mono ?_
        rintro e w1 ⟨rfl, rfl⟩
        rw [hc]
        go_wp2_with fail
        go_ret
        rw [HE.out]
        exact ⟨rfl, HB.out⟩
  by_cases k3 : k = 3
  · subst k3
    rcases hb : isB s 0 abjL with _ | _
    · have HE : Hid (lenL 3 s = 0) := by show _ = _; simp [lenL, hb]
      go_enter Tryz.func98, Tryz.ntmps98
      go_wp2_with fail
      go_at_call 104
      refine (is_c s abjL 0 _ (by omega)).mono ?_
      rintro e w1 ⟨rfl, rfl⟩
      rw [hb]
      go_wp2_with fail
      go_ret
      rw [HE.out]
      exact ⟨rfl, Below.refl _ _⟩
    · have HE : Hid (lenL 3 s = 1) := by show _ = _; simp [lenL, hb]
      go_enter Tryz.func98, Tryz.ntmps98
      go_wp2_with fail
      go_at_call 104
      refine (is_c s abjL 0 _ (by omega)).mono ?_
      rintro e w1 ⟨rfl, rfl⟩
      rw [hb]
      go_wp2_with fail
      go_ret
      rw [HE.out]
      exact ⟨rfl, Below.refl _ _⟩
  by_cases k4 : k = 4
  · subst k4
    clear k1 k2 k3
    rcases hb : isB s 0 consL with _ | _
    · rcases hc : isB s 0 vowL with _ | _
      · rcases hd : isB s 0 [110] with _ | _
        · have HE : Hid (lenL 4 s = 0) := by show _ = _; simp [lenL, hb, hc, hd]
          go_enter Tryz.func98, Tryz.ntmps98
          go_wp2_with fail
          go_at_call 104
          refine (is_c s consL 0 _ (by omega)).mono ?_
          rintro e w1 ⟨rfl, rfl⟩
          rw [hb]
          go_wp2_with fail
          go_at_call 104
          refine (is_c s vowL 0 _ (by omega)).mono ?_
          rintro e w1 ⟨rfl, rfl⟩
          rw [hc]
          go_wp2_with fail
          go_at_call 104
          refine (is_c s [110] 0 _ (by omega)).mono ?_
          rintro e w1 ⟨rfl, rfl⟩
          rw [hd]
          go_wp2_with fail
          go_ret
          rw [HE.out]
          exact ⟨rfl, Below.refl _ _⟩
        · have HE : Hid (lenL 4 s = 1) := by show _ = _; simp [lenL, hb, hc, hd]
          go_enter Tryz.func98, Tryz.ntmps98
          go_wp2_with fail
          go_at_call 104
          refine (is_c s consL 0 _ (by omega)).mono ?_
          rintro e w1 ⟨rfl, rfl⟩
          rw [hb]
          go_wp2_with fail
          go_at_call 104
          refine (is_c s vowL 0 _ (by omega)).mono ?_
          rintro e w1 ⟨rfl, rfl⟩
          rw [hc]
          go_wp2_with fail
          go_at_call 104
          refine (is_c s [110] 0 _ (by omega)).mono ?_
          rintro e w1 ⟨rfl, rfl⟩
          rw [hd]
          go_wp2_with fail
          go_ret
          rw [HE.out]
          exact ⟨rfl, Below.refl _ _⟩
      · have HE : Hid (lenL 4 s = 1) := by show _ = _; simp [lenL, hb, hc]
        go_enter Tryz.func98, Tryz.ntmps98
        go_wp2_with fail
        go_at_call 104
        refine (is_c s consL 0 _ (by omega)).mono ?_
        rintro e w1 ⟨rfl, rfl⟩
        rw [hb]
        go_wp2_with fail
        go_at_call 104
        refine (is_c s vowL 0 _ (by omega)).mono ?_
        rintro e w1 ⟨rfl, rfl⟩
        rw [hc]
        go_wp2_with fail
        go_ret
        rw [HE.out]
        exact ⟨rfl, Below.refl _ _⟩
    · rcases he : isB s 1 vowL with _ | _
      · rcases hc : isB s 0 vowL with _ | _
        · rcases hd : isB s 0 [110] with _ | _
          · have HE : Hid (lenL 4 s = 0) := by show _ = _; simp [lenL, hb, hc, hd, he]
            go_enter Tryz.func98, Tryz.ntmps98
            go_wp2_with fail
            go_at_call 104
            refine (is_c s consL 0 _ (by omega)).mono ?_
            rintro e w1 ⟨rfl, rfl⟩
            rw [hb]
            go_wp2_with fail
            go_at_call 104
            refine (is_c s vowL 1 _ (by omega)).mono ?_
            rintro e w1 ⟨rfl, rfl⟩
            rw [he]
            go_wp2_with fail
            go_at_call 104
            refine (is_c s vowL 0 _ (by omega)).mono ?_
            rintro e w1 ⟨rfl, rfl⟩
            rw [hc]
            go_wp2_with fail
            go_at_call 104
            refine (is_c s [110] 0 _ (by omega)).mono ?_
            rintro e w1 ⟨rfl, rfl⟩
            rw [hd]
            go_wp2_with fail
            go_ret
            rw [HE.out]
            exact ⟨rfl, Below.refl _ _⟩
          · have HE : Hid (lenL 4 s = 1) := by show _ = _; simp [lenL, hb, hc, hd, he]
            go_enter Tryz.func98, Tryz.ntmps98
            go_wp2_with fail
            go_at_call 104
            refine (is_c s consL 0 _ (by omega)).mono ?_
            rintro e w1 ⟨rfl, rfl⟩
            rw [hb]
            go_wp2_with fail
            go_at_call 104
            refine (is_c s vowL 1 _ (by omega)).mono ?_
            rintro e w1 ⟨rfl, rfl⟩
            rw [he]
            go_wp2_with fail
            go_at_call 104
            refine (is_c s vowL 0 _ (by omega)).mono ?_
            rintro e w1 ⟨rfl, rfl⟩
            rw [hc]
            go_wp2_with fail
            go_at_call 104
            refine (is_c s [110] 0 _ (by omega)).mono ?_
            rintro e w1 ⟨rfl, rfl⟩
            rw [hd]
            go_wp2_with fail
            go_ret
            rw [HE.out]
            exact ⟨rfl, Below.refl _ _⟩
        · have HE : Hid (lenL 4 s = 1) := by show _ = _; simp [lenL, hb, hc, he]
          go_enter Tryz.func98, Tryz.ntmps98
          go_wp2_with fail
          go_at_call 104
          refine (is_c s consL 0 _ (by omega)).mono ?_
          rintro e w1 ⟨rfl, rfl⟩
          rw [hb]
          go_wp2_with fail
          go_at_call 104
          refine (is_c s vowL 1 _ (by omega)).mono ?_
          rintro e w1 ⟨rfl, rfl⟩
          rw [he]
          go_wp2_with fail
          go_at_call 104
          refine (is_c s vowL 0 _ (by omega)).mono ?_
          rintro e w1 ⟨rfl, rfl⟩
          rw [hc]
          go_wp2_with fail
          go_ret
          rw [HE.out]
          exact ⟨rfl, Below.refl _ _⟩
      · have HE : Hid (lenL 4 s = 2) := by show _ = _; simp [lenL, hb, he]
        go_enter Tryz.func98, Tryz.ntmps98
        go_wp2_with fail
        go_at_call 104
        refine (is_c s consL 0 _ (by omega)).mono ?_
        rintro e w1 ⟨rfl, rfl⟩
        rw [hb]
        go_wp2_with fail
        go_at_call 104
        refine (is_c s vowL 1 _ (by omega)).mono ?_
        rintro e w1 ⟨rfl, rfl⟩
        rw [he]
        go_wp2_with fail
        go_ret
        rw [HE.out]
        exact ⟨rfl, Below.refl _ _⟩
  have HE : Hid (lenL k s = 0) := by show _ = _; simp [lenL, k1, k2, k3, k4]
  go_enter Tryz.func98, Tryz.ntmps98
  go_wp2_with fail
  go_ret
  rw [HE.out]
  exact ⟨rfl, Below.refl _ _⟩
end Go.Proofs.YtckocgkndbdhcaaGreatDoor

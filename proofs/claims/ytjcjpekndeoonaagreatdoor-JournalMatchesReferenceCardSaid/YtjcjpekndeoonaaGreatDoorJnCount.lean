/-
  'count': the count of a head.
-/
import Derived.Test.YtjcjpekndeoonaaGreatDoorJnBld
import Derived.Lib.AtoiAll
import Derived.Lib.ConvBytes
import Derived.Lib.AtoiErrMem
namespace Go.Cz.Jn
theorem parse_digits : ∀ (l : Bytes) (acc j : Nat), (∀ c ∈ l, 48 ≤ c.toNat ∧ c.toNat ≤ 57) → acc < 10 ^ j → j + l.length ≤ 18 → Lib.parseUint10 acc l = .ok (l.foldl (fun a c => 10 * a + (c.toNat - 48)) acc)
  | [], acc, j, _, _, _ => rfl
  | c :: r, acc, j, hd, ha, hl => by
    have hc := hd c (by simp)
    rw [List.length_cons] at hl
    have h1 : (10 : Nat) ^ (j + 1) ≤ 10 ^ 18 := Nat.pow_le_pow_right (by decide) (by omega)
    have h2 : acc * 10 + (c.toNat - 48) < 10 ^ (j + 1) := by rw [Nat.pow_succ]; omega
    simp only [Lib.parseUint10, List.foldl_cons]
    rw [if_pos hc, if_neg (by omega), if_neg (by omega), parse_digits r _ (j + 1) (fun x hx => hd x (by simp [hx])) h2 (by omega), Nat.mul_comm acc]
theorem atoi_digits {l : Bytes} (hne : l ≠ []) (hd : ∀ c ∈ l, 48 ≤ c.toNat ∧ c.toNat ≤ 57) (hl : l.length ≤ 18) : Lib.atoiAll l = .ok (valB l : Int) := by
  have hp := parse_digits l 0 0 hd (by decide) (by omega)
  have hv : valB l < 10 ^ 18 := by
    have : ∀ (l : Bytes) (acc j : Nat), (∀ c ∈ l, 48 ≤ c.toNat ∧ c.toNat ≤ 57) → acc < 10 ^ j → l.foldl (fun a c => 10 * a + (c.toNat - 48)) acc < 10 ^ (j + l.length) := by
      intro l
      induction l with
      | nil => intro acc j _ h; simpa using h
      | cons c r ih =>
        intro acc j hd h
        have hc := hd c (by simp)
        have := ih (10 * acc + (c.toNat - 48)) (j + 1) (fun x hx => hd x (by simp [hx])) (by rw [Nat.pow_succ]; omega)
        rw [List.foldl_cons, List.length_cons, show j + (r.length + 1) = j + 1 + r.length by omega]
        exact this
    have h1 := this l 0 0 hd (by decide)
    have h2 : (10 : Nat) ^ (0 + l.length) ≤ 10 ^ 18 := Nat.pow_le_pow_right (by decide) (by omega)
    exact Nat.lt_of_lt_of_le h1 h2
  obtain ⟨u, hu⟩ : ∃ u, u = valB l := ⟨_, rfl⟩
  rw [← hu] at hv ⊢
  have hp2 : Lib.parseUint10 0 l = .ok u := by rw [hp, hu]; rfl
  rcases l with _ | ⟨c, r⟩
  · exact absurd rfl hne
  · have hc := hd c (by simp)
    have e0 : ¬ c.toNat = 43 := by omega
    have e2 : ¬ c.toNat = 45 := by omega
    have e3 : Lib.parseMag (c :: r) = .ok u := by unfold Lib.parseMag; rw [if_neg (by simp)]; exact hp2
    have e4 : ¬ 9223372036854775808 ≤ u := by omega
    unfold Lib.atoiAll
    simp [e0, e2, e3, e4]
theorem atoi_digitsB {n : Nat} (h : n < 10 ^ 8) : Lib.atoiAll (digitsB n 8) = .ok (n : Int) := by
  have hl := digitsB_len (k := 7) h
  rw [atoi_digits (by intro h0; rw [h0] at hl; simp at hl) (fun c hc => ?_) (by rw [hl]; decide)]
  · unfold digitsB
    rw [valB_rep, decB_eq, valB_dec]
  · unfold digitsB at hc
    rcases List.mem_append.1 hc with hc | hc
    · rw [(List.mem_replicate.1 hc).2]; decide
    · exact decB_digit hc
theorem count_law {p room : Nat} {s : Bytes} (hr : room < 10 ^ 8) (hz : s ≠ zeroB) :
    countB p s room = match Lib.atoiAll ((s.drop 16).take 8) with | .ok v => if 0 ≤ v ∧ v ≤ (room : Int) ∧ headB p v.toNat = s then v else -1 | _ => -1 := by
  by_cases hh : ∃ n, n ≤ room ∧ headB p n = s
  · obtain ⟨n, hn, rfl⟩ := hh
    rw [countB_head hn hr, headB_num (by omega), atoi_digitsB (by omega)]
    simp only [Int.toNat_natCast]
    rw [if_pos ⟨by omega, by omega, trivial⟩]
  · rw [countB_none hz fun n hn he => hh ⟨n, hn, he⟩]
    split
    · rename_i v hv
      rw [if_neg fun h => hh ⟨v.toNat, by omega, h.2.2⟩]
    · rfl
end Go.Cz.Jn
namespace Go.Proofs.YtjcjpekndeoonaaGreatDoor
open Go.RowKit Go.Cz Go.Cz.Jn
set_option linter.unusedSimpArgs false
set_option linter.unusedVariables false
attribute [local go_sem] bs_size bs_extract bs_append bs_toList
attribute [local irreducible] cList cPlan
/-- What Atoi answers. -/
def AtP (w : World) (l : Bytes) (e : Ending) (w' : World) : Prop :=
  (∃ v : Int, e = .returned (.tuple #[.int .i64 v, .nilIface]) ∧ Lib.atoiAll l = .ok v ∧ Below w.heap.size w w') ∨
  (∃ (v : Int) (t : TypeId) (N : Nat), e = .returned (.tuple #[.int .i64 v, .iface t (.pointer (some ⟨N, 0, none⟩))]) ∧ (∀ v, Lib.atoiAll l ≠ .ok v) ∧ Below w.heap.size w w')
theorem Atoi_c (l : Bytes) (w : World) (hl : l.length ≤ 281474976710656) (hs : Std w) : Calls Tryz.prog 34 #[.string (bs l)] w (AtP w l) := by
  rcases h : Lib.atoiAll l with v | _ | _
  · refine (Tryz.strconv_Atoi_ok (bs l) (by rw [bs_size]; omega) v h w).mono ?_
    rintro e w' ⟨rfl, rfl | ⟨t, rfl⟩⟩
    · exact .inl ⟨v, rfl, h, Below.refl _ _⟩
    · exact .inl ⟨v, rfl, h, Lib.bytesWorld_below _ _ _⟩
  · obtain ⟨tp, p, hv⟩ := hs.syn
    refine (Tryz.strconv_Atoi_syntax_var (bs l) (by rw [bs_size]; exact hl) h tp p w hv).mono ?_
    rintro e w' ⟨N, rfl, -, -, hb⟩
    exact .inr ⟨_, _, N, rfl, (fun v hv => by rw [h] at hv; cases hv), hb⟩
  · obtain ⟨tp, p, hv⟩ := hs.rng
    refine (Tryz.strconv_Atoi_range_var (bs l) (by rw [bs_size]; exact hl) h tp p w hv).mono ?_
    rintro e w' ⟨N, rfl, -, -, hb⟩
    exact .inr ⟨_, _, N, rfl, (fun v hv => by rw [h] at hv; cases hv), hb⟩
set_option maxHeartbeats 4000000 in
theorem countJ_c (p room : Nat) (s : Bytes) (hp : p ≤ 1000000000) (hr : room < 10 ^ 8) (hl : s.length = 64) (w : World) (hs : Std w) :
    Calls Tryz.prog 33 #[.int .i64 (p : Int), .string (bs s), .int .i64 (room : Int)] w fun e w' => e = .returned (.int .i64 (countB p s room)) ∧ Below w.heap.size w w' := by
  have HS := Lib.hid hs
  have HZ : Hid (s = zeroB → countB p s room = 0) := fun h => by rw [h]; exact countB_zero _ _
  have HN : Hid (s ≠ zeroB → _) := fun h => count_law (p := p) hr h
  obtain ⟨c, hc⟩ : ∃ c, c = countB p s room := ⟨_, rfl⟩
  rw [← hc] at HZ HN ⊢
  obtain ⟨z, hz⟩ : ∃ z, z = zeroB := ⟨_, rfl⟩
  have HZz := Lib.hid hz
  rw [← hz] at HZ HN
  have hr1 : room < 100000000 := hr
  clear hs hc hz hr
  go_enter Tryz.func33, Tryz.ntmps33
  go_wp2_with fail
  go_at_call 40
  refine (zeroJ_c _).mono ?_
  rintro e w1 ⟨rfl, hb⟩
  rw [← HZz.out]
  have HB : Hid (Below w.heap.size w w1 ∧ Std w1) := ⟨hb, HS.out.below hb⟩
  clear hb HS HZz
  by_cases hsz : s = z
  · have hq : (s == z) = true := by simpa using hsz
    have HC := Lib.hid (HZ.out hsz)
    clear HZ HN hsz
    go_wp2_with fail
    go_ret
    exact ⟨by rw [HC.out]; rfl, HB.out.1⟩
  · have hq : (s == z) = false := by simpa using hsz
    have HC := Lib.hid (HN.out hsz)
    clear HZ HN hsz
    go_wp2_with fail
    obtain ⟨f, hf⟩ : ∃ f, f = (s.drop 16).take 8 := ⟨_, rfl⟩
    have hfl : f.length ≤ 281474976710656 := by rw [hf, List.length_take]; omega
    rw [← hf] at HC ⊢
    clear hf
    go_at_call 34
    refine (Atoi_c f _ hfl HB.out.2).mono ?_
    rintro e w2 (⟨v, rfl, ha, hb⟩ | ⟨v, t, N, rfl, ha, hb⟩)
    · replace HB : Hid (Below w.heap.size w w2 ∧ Std w2) := ⟨HB.out.1.trans (hb.mono HB.out.1.size), HB.out.2.below hb⟩
      replace HC : Hid (c = if 0 ≤ v ∧ v ≤ (room : Int) ∧ headB p v.toNat = s then v else -1) := by have h := HC.out; rw [ha] at h; exact h
      clear hb ha hfl
      by_cases h0 : v < 0
      · have HV : Hid (c = -1) := by show _ = _; rw [HC.out, if_neg (by omega)]
        clear HC
        go_wp2_with fail
        go_ret
        exact ⟨by rw [HV.out]; rfl, HB.out.1⟩
      · by_cases h1 : (room : Int) < v
        · have HV : Hid (c = -1) := by show _ = _; rw [HC.out, if_neg (by omega)]
          clear HC
          go_wp2_with fail
          go_ret
          exact ⟨by rw [HV.out]; rfl, HB.out.1⟩
        · obtain ⟨n, rfl⟩ : ∃ n : Nat, v = (n : Int) := ⟨v.toNat, by omega⟩
          rw [Int.toNat_natCast] at HC
          go_wp2_with fail
          go_at_call 39
          refine (headJ_c p n hp (by omega) _ HB.out.2).mono ?_
          rintro e w3 ⟨rfl, hb⟩
          replace HB : Hid (Below w.heap.size w w3) := HB.out.1.trans (hb.mono HB.out.1.size)
          obtain ⟨x, hx⟩ : ∃ x, x = headB p n := ⟨_, rfl⟩
          rw [← hx] at HC ⊢
          clear hb hx
          by_cases hs : x = s
          · have hxs : (x == s) = true := by simpa using hs
            have HV : Hid (c = n) := by show _ = _; rw [HC.out, if_pos ⟨by omega, by omega, hs⟩]
            clear HC hs
            go_wp2_with fail
            go_ret
            exact ⟨by rw [HV.out]; rfl, HB.out⟩
          · have hxs : (x == s) = false := by simpa using hs
            have HV : Hid (c = -1) := by show _ = _; rw [HC.out, if_neg fun h => hs h.2.2]
            clear HC hs
            go_wp2_with fail
            go_ret
            exact ⟨by rw [HV.out]; rfl, HB.out⟩
    · replace HB : Hid (Below w.heap.size w w2) := HB.out.1.trans (hb.mono HB.out.1.size)
      have HV : Hid (c = -1) := by
        have h := HC.out
        revert h
        rcases hh : Lib.atoiAll f with v | _ | _
        · exact absurd hh (ha v)
        · exact id
        · exact id
      clear hb ha hfl HC
      go_wp2_with fail
      go_ret
      exact ⟨by rw [HV.out]; rfl, HB.out⟩
end Go.Proofs.YtjcjpekndeoonaaGreatDoor

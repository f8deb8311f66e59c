/-
  The ledger's 'identifier'.
-/
import Derived.Test.YtckocgkndbdhcaaGreatDoorLxA
namespace Go.Proofs.YtckocgkndbdhcaaGreatDoor
open Go.RowKit Go.Cz Go.Cz.Lx
set_option linter.unusedSimpArgs false
set_option linter.unusedVariables false
attribute [local go_sem] bs_size bs_extract bs_append bs_toList
attribute [local irreducible] cList
set_option maxHeartbeats 2000000 in
theorem ident_c (l : List UInt8) (HI : 34 ∈ l → IdxAny) (w : World) (hl : l.length ≤ 140737488355328) : Calls Tryz.prog 47 #[.string (bs l)] w fun e w' => e = .returned (.bool (identB l)) ∧ Below w.heap.size w w' := by
  have HL := Lib.hid (Lex_c l HI w hl)
  clear HI hl
  rcases hx : lexAll l with ⟨ts, e1, o1⟩
  have Hx := Lib.hid hx
  clear hx
  go_enter Tryz.func47, Tryz.ntmps47
  go_wp2_with fail
  go_at_call 67
  refine HL.out.mono ?_
  rintro e W2 ⟨v, rfl, ht, hb⟩
  rw [Hx.out] at ht ⊢
  have HB := Lib.hid hb
  dsimp only at ht ⊢
  clear hb HL
  by_cases h0 : e1 = 0
  · subst h0
    rcases ts with _ | ⟨t, _ | ⟨t2, r⟩⟩
    · have He : Hid (identB l = false) := by show _ = _; unfold identB; rw [Hx.out]; rfl
      obtain ⟨a, c, rfl⟩ : ∃ a c, v = .slice a 0 c := by
        rcases ht with ⟨-, rfl⟩ | ⟨g, c, rfl, -⟩
        · exact ⟨none, 0, rfl⟩
        · exact ⟨_, c, rfl⟩
      clear ht
      go_wp2_with fail
      go_ret
      exact ⟨by rw [He.out]; rfl, HB.out⟩
    · rcases ht with ⟨h, -⟩ | ⟨g, c, rfl, -, hz, hc⟩
      · cases h
      obtain ⟨c0, -, -, c3⟩ := hc 0 t rfl
      simp only [Nat.zero_mul, Nat.zero_add, List.length_cons, List.length_nil] at c0 c3 ⊢
      clear hc
      by_cases hk : t.kind = 1
      · have hk1 : ((t.kind : Int) == 1) = true := by simp; omega
        obtain ⟨q, hq⟩ : ∃ q, q = (t.text == l) := ⟨_, rfl⟩
        have He : Hid (identB l = q) := by show _ = _; unfold identB; rw [Hx.out, hq]; simp [hk]
        have Hq := Lib.hid hq
        clear hq hk
        cases q
        · have hq2 : (t.text == l) = false := Hq.out.symm
          go_wp2_with fail
          go_ret
          exact ⟨by rw [He.out]; rfl, HB.out⟩
        · have hq2 : t.text = l := by simpa using Hq.out.symm
          rw [hq2] at c3
          clear hq2
          go_wp2_with fail
          go_ret
          exact ⟨by rw [He.out]; rfl, HB.out⟩
      · have hk1 : ((t.kind : Int) == 1) = false := by simp; omega
        have He : Hid (identB l = false) := by show _ = _; unfold identB; rw [Hx.out]; simp [hk]
        clear hk
        go_wp2_with fail
        go_ret
        exact ⟨by rw [He.out]; rfl, HB.out⟩
    · have He : Hid (identB l = false) := by show _ = _; unfold identB; rw [Hx.out]; rfl
      rcases ht with ⟨h, -⟩ | ⟨g, c, rfl, -⟩
      · cases h
      obtain ⟨N, hN⟩ : ∃ N, N = (t :: t2 :: r).length := ⟨_, rfl⟩
      have hN2 : ((N : Int) == 1) = false := by simp; simp at hN; omega
      rw [← hN]
      clear hN
      go_wp2_with fail
      go_ret
      exact ⟨by rw [He.out]; rfl, HB.out⟩
  · have h0b : ((e1 : Int) == 0) = false := by simp; omega
    have He : Hid (identB l = false) := by show _ = _; unfold identB; rw [Hx.out]; simp [h0]
    clear h0 ht
    go_wp2_with fail
    go_ret
    exact ⟨by rw [He.out]; rfl, HB.out⟩
end Go.Proofs.YtckocgkndbdhcaaGreatDoor

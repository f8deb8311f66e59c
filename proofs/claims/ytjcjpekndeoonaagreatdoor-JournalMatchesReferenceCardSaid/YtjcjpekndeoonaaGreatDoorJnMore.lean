/-
  What 'Append' leaves of a whole journal; append of texts that lie anywhere.
-/
import Derived.Test.YtjcjpekndeoonaaGreatDoorJnLight
namespace Go.Cz.Jn
set_option linter.unusedSimpArgs false
set_option linter.unusedVariables false
/-- What an 'Append' leaves of a journal that is whole. -/
theorem Inv.app {m : Dk.Dm} {j : Jm} (h : Inv m j) (rs : List Bytes) : Inv (appendB m j rs).1 (appendB m j rs).2.2 ∧ (appendB m j rs).2.2.sectors = j.sectors ∧
    ((appendB m j rs).2.1 = 0 → (appendB m j rs).2.2.recs = j.recs ++ rs) ∧ ((appendB m j rs).2.1 ≠ 0 → (appendB m j rs).2.2 = j) := by
  by_cases hl : longB rs = true
  · have e : appendB m j rs = (m, 2, j) := by unfold appendB; rw [if_neg (by rw [h.ok]; decide), if_pos hl]
    rw [e]
    exact ⟨h, rfl, (fun h0 => absurd h0 (show ¬ (2 : Int) = 0 by decide)), fun _ => rfl⟩
  · by_cases hr : j.room < (piecesB (textB rs)).length
    · have e : appendB m j rs = (m, 28, j) := by unfold appendB; rw [if_neg (by rw [h.ok]; decide), if_neg hl, if_pos hr]
      rw [e]
      exact ⟨h, rfl, (fun h0 => absurd h0 (show ¬ (28 : Int) = 0 by decide)), fun _ => rfl⟩
    · by_cases hn : rs = []
      · have e : appendB m j rs = (m, 0, j) := by unfold appendB; rw [if_neg (by rw [h.ok]; decide), if_neg hl, if_neg hr, if_pos hn]
        rw [e]
        exact ⟨h, rfl, fun _ => by rw [hn]; simp, fun h0 => absurd rfl h0⟩
      · obtain ⟨e, hi⟩ := h.append (by simpa using hl) (by omega) hn
        rw [e]
        exact ⟨hi, rfl, fun _ => rfl, fun h0 => absurd rfl h0⟩
theorem textB_le1 (rs : List Bytes) (h : ∀ r ∈ rs, r.length ≤ 6000) : (textB rs).length ≤ lenSum rs + 10 * rs.length := by
  induction rs with
  | nil => simp [textB]
  | cons r rs ih =>
    have h1 := ih fun x hx => h x (by simp [hx])
    have h2 := decB_len (k := 5) (n := r.length) (by have := h r (by simp); omega)
    have e : textB (r :: rs) = (decB r.length ++ 58 :: r) ++ textB rs := by simp [textB]
    rw [e, List.length_append, List.length_append, List.length_cons, List.length_cons]
    simp only [lenSum, List.map_cons, List.sum_cons] at h1 ⊢
    omega
theorem lenSum_mem {rs : List Bytes} {r : Bytes} (h : r ∈ rs) : r.length ≤ lenSum rs := by
  induction rs with
  | nil => simp at h
  | cons a rs ih =>
    simp only [lenSum, List.map_cons, List.sum_cons] at ih ⊢
    rcases List.mem_cons.1 h with rfl | h
    · omega
    · have := ih h; omega
theorem opSum_mem {l : List JOp} {o : JOp} (h : o ∈ l) : lenSum o.list ≤ opSum l := by
  induction l with
  | nil => simp at h
  | cons a l ih =>
    simp only [opSum, List.map_cons, List.sum_cons] at ih ⊢
    rcases List.mem_cons.1 h with rfl | h
    · omega
    · have := ih h; omega
theorem Small.text {s : Int} {l : List JOp} (h : Small s l) {o : JOp} (ho : o ∈ l) : (textB o.list).length ≤ 1000000 := by
  have h1 := h.sum
  have h2 := opSum_mem ho
  have h3 := h.rows o ho
  have h4 := textB_le1 o.list fun r hr => by have := lenSum_mem hr; omega
  omega
end Go.Cz.Jn
namespace Go.Proofs.YtjcjpekndeoonaaGreatDoor
open Go.RowKit Go.Cz Go.Cz.Jn
set_option linter.unusedSimpArgs false
set_option linter.unusedVariables false
attribute [local go_sem] bs_size bs_extract bs_append bs_toList
attribute [local irreducible] cList cPlan
/-- append(s, x...) of texts that lie anywhere. -/
theorem wp_append_texts {o : Oper} {a : Act} {K : Act → World → Prop} {Q : Exit → Act → World → Prop} {w : World} (s x : Operand)
    (ho : o.op = .call { callee := .builtin .append, args := #[s, x], argTypes := #[26, 26] })
    (v : Value) (n : Nat) (xs : List Value) (hs : a.eval s = v) (hown : w.ownsRow 0 9 1 v n xs)
    (y : Option Addr) (m c : Nat) (l : List Bytes) (hx : a.eval x = .slice y m c) (ht : IsTexts w y m l) (hy : y = none → c = 0)
    (h63 : n + m ≤ 1000000000)
    (h : ∀ v' w', w'.ownsRow 0 9 1 v' (n + m) (xs ++ tcs l) → w.grownBy w' v.ownBlock → (v'.ownBlock = v.ownBlock ∨ v'.ownBlock = some w.heap.size) → K (a.put o.dst v') w') : o.wp Tryz.prog a w K Q := by
  obtain ⟨i, hi, hz, hs1, hb1⟩ := info_parts info_jstr
  rcases y with _ | ad
  · obtain rfl : c = 0 := hy rfl
    obtain rfl : m = 0 := by
      rcases ht.at' with h0 | ⟨_, _, h0, -⟩
      · exact h0
      · cases h0
    have hl : l = [] := List.length_eq_zero_iff.1 ht.len
    subst hl
    have hr := run_append_owned_none (P := Tryz.prog) w 0 26 o.type 9 i 1 Tryz.underlying26 hi v n xs hown
    unfold Oper.wp execOp
    simp only [ho, resolve, invoke, builtin, Sem.run_bind, Sem.run_pure, Result.andThen_ok, List.map_toArray, List.map_cons, List.map_nil, hs, hx, hr]
    exact h v w (by simpa [tcs] using hown) ⟨rfl, rfl, rfl, Nat.le_refl _, fun _ _ _ => rfl⟩ (.inl rfl)
  · obtain ⟨v', w', hr, h2, h3, _, h5⟩ := run_append_own_at (P := Tryz.prog) w 0 26 o.type 9 i _ 1 16 Tryz.underlying26 hi hz hs1 hb1 rfl (by omega) v n xs hown ad m c (tcs l) (by simp [tcs, ht.len]) (by
      intro j u hu
      simp only [tcs, List.getElem?_map, Option.map_eq_some_iff] at hu
      obtain ⟨r, hr, rfl⟩ := hu
      rcases ht.at' with h0 | ⟨g, off, hx', hg, hc⟩
      · exfalso
        have h1 := (List.getElem?_eq_some_iff.1 hr).1
        have h2 := ht.len
        omega
      · cases hx'
        have hadd : (⟨g, off, none⟩ : Addr).add j = ⟨g, off + j, none⟩ := by unfold Addr.add; split <;> simp_all
        rw [hadd]
        exact hc j r hr) (by
      intro u hu
      simp only [tcs, List.mem_map] at hu
      obtain ⟨r, -, rfl⟩ := hu
      rfl) (by unfold maxLen; omega) (by omega) (Nat.zero_le _)
    unfold Oper.wp execOp
    simp only [ho, resolve, invoke, builtin, Sem.run_bind, Sem.run_pure, Result.andThen_ok, List.map_toArray, List.map_cons, List.map_nil, hs, hx, hr]
    exact h v' w' h2 h3 h5
theorem open_few {n : Nat} (h : n < 3) : (openB (Dk.fresh n)).2.1 = 1 := by
  rw [open_err (c := 1) (by unfold findB; rw [if_neg (by simp [Dk.fresh]), if_pos (by simpa [Dk.fresh] using h)])]
end Go.Proofs.YtjcjpekndeoonaaGreatDoor

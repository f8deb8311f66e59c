/-
  append of measures.
-/
import Derived.Test.YtakadfdnhlfijaaGreatDoorVdLaw
import Derived.Test.YtakadfdnhlfijaaGreatDoorVdWit
import Derived.Deep.DeepCutAuto
namespace Go.Cz
open Go.RowKit
theorem cut3v {Goal : Prop} {Hyp G : Nat → Nat → Value → Value → World → Prop} (h1 : (∀ b c u v W, Hyp b c u v W → G b c u v W) → Goal) (h2 : ∀ b c u v W, Hyp b c u v W → G b c u v W) : Goal := h1 h2
section
variable {P : Program} {w : World}
theorem run_append_nothing (base : Nat) (t ty e : TypeId) (i : TypeInfo) (size : Nat) (ht : P.underlying t = some (.slice e)) (hi : P.info? e = some i)
    (v : Value) (n : Nat) (xs : List Value) (hown : w.ownsRow base e size v n xs) (c : Nat) :
    (Builtin.append_ #[t, t] ty #[v, .slice none 0 c]).run P w = .ok v w := by
  rcases hown.2 with ⟨rfl, rfl⟩ | ⟨g, cap, cur, rfl, _, _, hnc, _⟩
  · simp [Builtin.append_, run_underlying ht, sizeOf, typeInfo, hi, Builtin.lenOf, Builtin.firstCells]
  · simp [Builtin.append_, run_underlying ht, sizeOf, typeInfo, hi, Builtin.lenOf, Builtin.firstCells, hnc, storeCells]
end
end Go.Cz
namespace Go.Proofs.YtakadfdnhlfijaaGreatDoor
open Go.RowKit Go.Cz Go.Cz.Lx Go.Cz.Fo Go.Cz.Vd
set_option linter.unusedSimpArgs false
set_option linter.unusedVariables false
attribute [local go_sem] bs_size bs_extract bs_append bs_toList
attribute [local irreducible] cList cPlan
theorem me_pairs : ∀ {l : List Me} {P : Nat → Me → Value → Prop}, (∀ (j : Nat) (m : Me), l[j]? = some m → ∃ kv, P j m kv) → ∃ L : List (Me × Value), L.map Prod.fst = l ∧ ∀ (j : Nat) (p : Me × Value), L[j]? = some p → P j p.1 p.2
  | [], P, _ => ⟨[], rfl, fun j p h => by simp at h⟩
  | m :: r, P, h => by
    obtain ⟨kv, hk⟩ := h 0 m rfl
    obtain ⟨L, h1, h2⟩ := me_pairs (l := r) (P := fun j => P (j + 1)) fun j x hx => h (j + 1) x (by simpa using hx)
    refine ⟨(m, kv) :: L, by simp [h1], fun j p hp => ?_⟩
    rcases j with _ | j
    · obtain rfl : (m, kv) = p := by simpa using hp
      exact hk
    · exact h2 j p (by simpa using hp)
/-- Where the cells of a row of measures stand. -/
theorem me_cells {W : World} {g off : Nat} {L : List (Me × Value)} (h : ∀ (j : Nat) (p : Me × Value), L[j]? = some p → MeAt W g (off + j * 12) p.1 p.2) (j : Nat) (u : Value) (hu : (L.flatMap mcl)[j]? = some u) : W.cell? ⟨g, off + j, none⟩ = some u := by
  have hlen : ∀ L : List (Me × Value), (L.flatMap mcl).length = L.length * 12 := fun L => by
    induction L with
    | nil => rfl
    | cons a r ih => rw [List.flatMap_cons, List.length_append, ih, List.length_cons]; simp [mcl]; omega
  have hj := (List.getElem?_eq_some_iff.1 hu).1
  rw [hlen] at hj
  obtain ⟨p, hp⟩ : ∃ p, L[j / 12]? = some p := ⟨_, List.getElem?_eq_getElem (by omega)⟩
  have e : j / 12 * 12 + j % 12 = j := by omega
  have h1 := flat_mcl L (j / 12) (j % 12) p hp (by omega)
  rw [e, hu] at h1
  have hm := h _ p hp
  have e2 : ∀ i, i < 12 → j % 12 = i → off + j = off + j / 12 * 12 + i := fun i _ hi => by omega
  obtain ⟨c0, c1, c2, c3, c4, c5, c6, c7, c8, c9, c10, c11⟩ := hm
  have hi : j % 12 < 12 := by omega
  obtain ⟨i, hi2⟩ : ∃ i, i = j % 12 := ⟨_, rfl⟩
  rw [← hi2] at h1 hi e2
  have e3 := e2 i hi rfl
  rw [e3]
  rcases i with _ | _ | _ | _ | _ | _ | _ | _ | _ | _ | _ | _ | i
  · rw [h1]; exact c0
  · rw [h1]; exact c1
  · rw [h1]; exact c2
  · rw [h1]; exact c3
  · rw [h1]; exact c4
  · rw [h1]; exact c5
  · rw [h1]; exact c6
  · rw [h1]; exact c7
  · rw [h1]; exact c8
  · rw [h1]; exact c9
  · rw [h1]; exact c10
  · rw [h1]; exact c11
  · omega
/-- append(s, l...) of measures to an empty row of the call's own. -/
theorem wp_append_mes {o : Oper} {a : Act} {K : Act → World → Prop} {Q : Exit → Act → World → Prop} {w : World} (s x : Operand)
    (ho : o.op = .call { callee := .builtin .append, args := #[s, x], argTypes := #[22, 22] })
    (v : Value) (hs : a.eval s = v) (hown : w.ownsRow 0 46 12 v 0 [])
    (l : List Me) (u : Value) (hx : a.eval x = u) (w0 : World) (hc : IsMeR w0 l u) (hbw : Below w0.heap.size w0 w) (h63 : l.length * 144 ≤ 140737488351232)
    (h : ∀ L : List (Me × Value), L.map Prod.fst = l → (∀ p ∈ L, IsFm (fun _ => True) w0 p.1.cond p.2) → ∀ v' w', w'.ownsRow 0 46 12 v' L.length (L.flatMap mcl) → w.grownBy w' v.ownBlock → (v'.ownBlock = v.ownBlock ∨ v'.ownBlock = some w.heap.size) → K (a.put o.dst v') w') : o.wp Tryz.prog a w K Q := by
  obtain ⟨i, hi, hz, hs1, hb1⟩ := info_parts info_me
  obtain ⟨y, m, rfl, hc⟩ := hc
  rcases hc with rfl | ⟨g, off, rfl, hg, hm, hc⟩
  · rcases y with _ | ad
    · have hr := run_append_nothing (P := Tryz.prog) 0 22 o.type 46 i 12 Tryz.underlying22 hi v 0 [] hown m
      unfold Oper.wp execOp
      simp only [List.length_nil] at hx
      simp only [ho, resolve, invoke, builtin, Sem.run_bind, Sem.run_pure, Result.andThen_ok, List.map_toArray, List.map_cons, List.map_nil, hs, hx, hr]
      exact h [] rfl (by simp) v w (by simpa using hown) ⟨rfl, rfl, rfl, Nat.le_refl _, fun _ _ _ => rfl⟩ (.inl rfl)
    · obtain ⟨v', w', hr, h2, h3, _, h5⟩ := run_append_own_at (P := Tryz.prog) w 0 22 o.type 46 i _ 12 144 Tryz.underlying22 hi hz hs1 hb1 rfl (by omega) v 0 [] hown ad 0 m [] (by simp) (by intro j u hu; simp at hu) (by simp) (by unfold maxLen; omega) (by omega) (Nat.zero_le _)
      unfold Oper.wp execOp
      simp only [List.length_nil] at hx
      simp only [ho, resolve, invoke, builtin, Sem.run_bind, Sem.run_pure, Result.andThen_ok, List.map_toArray, List.map_cons, List.map_nil, hs, hx, hr]
      exact h [] rfl (by simp) v' w' (by simpa using h2) h3 h5
  · obtain ⟨L, e1, e2⟩ := me_pairs (P := fun j m kv => MeAt w g (off + j * 12) m kv ∧ IsFm (fun _ => True) w0 m.cond kv) fun j m hj => by
      obtain ⟨kv, k1, k2⟩ := hc j m hj
      exact ⟨kv, k1.later hg hbw, k2⟩
    have hLl : L.length = l.length := by rw [← e1, List.length_map]
    have hlen : ∀ L : List (Me × Value), (L.flatMap mcl).length = L.length * 12 := fun L => by
      induction L with
      | nil => rfl
      | cons a r ih => rw [List.flatMap_cons, List.length_append, ih, List.length_cons]; simp [mcl]; omega
    refine wp_append_at s x 22 ho 46 _ 12 144 Tryz.underlying22 info_me rfl (by omega) v 0 [] hs hown g off m l.length (L.flatMap mcl) hx (by rw [hlen, hLl]) (fun j u hu => me_cells (fun j p hp => (e2 j p hp).1) j u hu) (fun u hu => ?_) (by omega) (by omega) fun v' w' h1 h2 h3 => h L e1 (fun p hp => ?_) v' w' (by rw [hLl]; simpa using h1) h2 h3
    · obtain ⟨p, hp, hu⟩ := List.mem_flatMap.1 hu
      simp only [mcl, List.mem_cons, List.not_mem_nil, or_false] at hu
      obtain ⟨j, hj⟩ := List.getElem?_of_mem hp
      obtain ⟨ky, kc, hk⟩ := ((e2 j p hj).2).form
      rw [hk] at hu
      rcases hu with rfl | rfl | rfl | rfl | rfl | rfl | rfl | rfl | rfl | rfl | rfl | rfl <;> rfl
    · obtain ⟨j, hj⟩ := List.getElem?_of_mem hp
      exact (e2 j p hj).2
/-- A row of measures whose length memory bounds. -/
structure MeBig (w : World) (l : List Me) (v : Value) : Prop where
  inn : MeIn w l v
  big : l.length * 144 ≤ 140737488351232
section
variable {H : Type} {enc : TypeId × Value → H} {W : World}
theorem sized_eachR {ts : List TypeId} {ds : List (DataW H)} (hsz : (DataW.weightsEach Tryz.prog ts ds).all (· ≤ reachBytes) = true) {j : Nat} {t : TypeId} {d : DataW H} (ht : ts[j]? = some t) (hd : ds[j]? = some d) : ∀ k ∈ d.weights Tryz.prog t, k ≤ 140737488351232 := fun k hk => by
  have h1 := List.all_eq_true.1 hsz _ (DataW.weights_mem_each ht hd k hk)
  simp only [decide_eq_true_eq] at h1
  exact h1
theorem in_mesx {spare : Nat → Bool} {held : Bool} {base fuel : Nat} {cs : List Value} {x : DataW H × List MemPlace} (h : DataW.trod enc Tryz.prog W base spare held fuel 22 cs = some x) (hz : ∀ k ∈ x.1.weights Tryz.prog 22, k ≤ 140737488351232) : ∃ l v, cs = [v] ∧ MeBig W l v := by
  obtain ⟨l, v, h1, h2⟩ := in_mes h fun k hk => by have := hz k hk; omega
  refine ⟨l, v, h1, h2, ?_⟩
  obtain ⟨y, c, e, -⟩ := h2.row
  rcases DataW.trod_slice Tryz.underlying22 h with ⟨h3, -⟩ | ⟨a, len, cap, elems, rest, n, -, h3, h4, -, -, -, hlen, -, -, -⟩
  · rw [h1, e] at h3
    have h5 := (List.cons.inj h3).1
    injection h5 with _ h6 _
    rw [h6]
    omega
  · rw [h1, e] at h3
    have h5 := (List.cons.inj h3).1
    injection h5 with _ h6 _
    rw [h6, ← hlen]
    have hb : Tryz.prog.bytesOf 46 = 144 := by kernel_rfl
    have h7 := hz ((elems.length + rest.length) * Tryz.prog.bytesOf 46) (by rw [h4]; show _ ∈ DataW.weights _ _ (DataW.slice _ _); rw [DataW.weights, Tryz.underlying22]; simp)
    rw [hb] at h7
    omega
end
theorem Owns.meLit0 {w0 w : World} {ps : List Piece} (h : Owns w0 w ps) : Owns w0 (w.alloc (.cells #[] 46)) (meP (.slice (some ⟨w.heap.size, 0, none⟩) 0 0) [] :: ps) :=
  Owns.mePush h ⟨World.ownsRow_lit w #[] 0 (Nat.zero_le _) (Nat.zero_le _) (by simp), fun k hk => by
    have : w.heap.size = k := by simpa [Value.ownBlock] using hk
    omega, (Below.refl _ _).alloc (Nat.le_refl _) _⟩
end Go.Proofs.YtakadfdnhlfijaaGreatDoor

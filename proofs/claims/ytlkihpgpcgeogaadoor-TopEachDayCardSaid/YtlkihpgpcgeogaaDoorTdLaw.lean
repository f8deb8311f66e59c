/-
  TopEachDay: the law in plain terms.
-/
import Derived.Test.YtlkihpgpcgeogaaDoorLgAt
import Derived.Test.YtlkihpgpcgeogaaDoorLgBook
namespace Go.Cz.Td
open Go.Proofs.YtlkihpgpcgeogaaDoor Go.Cz.Lx
def dsI (ms : List Mv) : List Value := ms.map fun m => .int .i64 m.1
def usI (ms : List Mv) : List Value := ms.map fun m => .int .i64 m.2
/-- The ledger in which the first movements are booked. -/
def bookN (ms : List Mv) : Nat → Lg
  | 0 => ⟨fun _ => 0, [], []⟩
  | k + 1 => match ms[k]? with
    | some m => if m.2 = 0 then bookN ms k else (bookN ms k).book ⟨nB k, m.1 * 1440, true, m.2⟩
    | none => bookN ms k
theorem bookN_zero {ms : List Mv} {k : Nat} {m : Mv} (h : ms[k]? = some m) (h0 : m.2 = 0) : bookN ms (k + 1) = bookN ms k := by simp [bookN, h, h0]
theorem bookN_some {ms : List Mv} {k : Nat} {m : Mv} (h : ms[k]? = some m) (h0 : m.2 ≠ 0) : bookN ms (k + 1) = (bookN ms k).book ⟨nB k, m.1 * 1440, true, m.2⟩ := by simp [bookN, h, h0]
theorem take_snoc {ms : List Mv} {k : Nat} {m : Mv} (h : ms[k]? = some m) : ms.take (k + 1) = ms.take k ++ [m] := by
  obtain ⟨hk, rfl⟩ := List.getElem?_eq_some_iff.1 h
  exact List.take_succ_eq_append_getElem hk
theorem some_at {ms : List Mv} {k : Nat} (h : k + 1 ≤ ms.length) : ∃ m, ms[k]? = some m := ⟨_, List.getElem?_eq_getElem (by omega)⟩
theorem bookN_f (ms : List Mv) : ∀ k, k ≤ ms.length → (bookN ms k).f false = tot (ms.take k) ∧ (bookN ms k).f true = -tot (ms.take k)
  | 0, _ => by simp [bookN, tot]
  | k + 1, h => by
    obtain ⟨h1, h2⟩ := bookN_f ms k (by omega)
    obtain ⟨m, hm⟩ := some_at h
    have ht : tot (ms.take (k + 1)) = tot (ms.take k) + m.2 := by rw [take_snoc hm, tot_append]; simp [tot]
    by_cases h0 : m.2 = 0
    · rw [bookN_zero hm h0, ht, h0, h1, h2]; simp
    · rw [bookN_some hm h0, ht]
      simp only [Lg.book, amt, h1, h2]
      exact ⟨by simp, by simp; omega⟩
theorem bookN_ids (ms : List Mv) : ∀ k, ∀ x ∈ (bookN ms k).ids, ∃ j, j < k ∧ x = nB j
  | 0, x, hx => by simp [bookN] at hx
  | k + 1, x, hx => by
    have ih := bookN_ids ms k x
    unfold bookN at hx
    split at hx
    · split at hx
      · obtain ⟨j, h1, h2⟩ := ih hx
        exact ⟨j, by omega, h2⟩
      · simp only [Lg.book, List.mem_append, List.mem_singleton] at hx
        rcases hx with hx | rfl
        · obtain ⟨j, h1, h2⟩ := ih hx
          exact ⟨j, by omega, h2⟩
        · exact ⟨k, by omega, rfl⟩
    · obtain ⟨j, h1, h2⟩ := ih hx
      exact ⟨j, by omega, h2⟩
theorem bookN_len (ms : List Mv) : ∀ k, (bookN ms k).bks.length ≤ k
  | 0 => by simp [bookN]
  | k + 1 => by
    have ih := bookN_len ms k
    unfold bookN
    split
    · split
      · omega
      · simp [Lg.book]; omega
    · omega
/-- Every booking is one of the movements before. -/
theorem bookN_bks (ms : List Mv) : ∀ k, ∀ x ∈ (bookN ms k).bks, ∃ (j : Nat) (m : Mv), j < k ∧ ms[j]? = some m ∧ x.tm = m.1 * 1440 ∧ x.u = m.2
  | 0, x, hx => by simp [bookN] at hx
  | k + 1, x, hx => by
    have ih := bookN_bks ms k x
    unfold bookN at hx
    split at hx
    · rename_i m hm
      split at hx
      · obtain ⟨j, m, h1, h2⟩ := ih hx
        exact ⟨j, m, by omega, h2⟩
      · simp only [Lg.book, List.mem_append, List.mem_singleton] at hx
        rcases hx with hx | rfl
        · obtain ⟨j, m, h1, h2⟩ := ih hx
          exact ⟨j, m, by omega, h2⟩
        · exact ⟨k, m, by omega, hm, rfl, rfl⟩
    · obtain ⟨j, m, h1, h2⟩ := ih hx
      exact ⟨j, m, by omega, h2⟩
theorem sort_ge : ∀ (d : Int) (l : List Mv), sortD d l → ∀ (j : Nat) (m : Mv), l[j]? = some m → d ≤ m.1 ∧ m.1 ≤ 100000
  | d, [], h, j, m, hm => by simp at hm
  | d, x :: r, h, 0, m, hm => by simp at hm; subst hm; exact ⟨h.1, h.2.1⟩
  | d, x :: r, h, j + 1, m, hm => by
    have h1 := sort_ge x.1 r h.2.2 j m (by simpa using hm)
    have h2 := h.1
    exact ⟨by omega, h1.2⟩
theorem sort_le : ∀ (d : Int) (l : List Mv), sortD d l → ∀ (i j : Nat) (a b : Mv), i ≤ j → l[i]? = some a → l[j]? = some b → a.1 ≤ b.1
  | d, [], h, i, j, a, b, _, ha, hb => by simp at ha
  | d, x :: r, h, 0, 0, a, b, _, ha, hb => by simp at ha hb; subst ha; subst hb; omega
  | d, x :: r, h, 0, j + 1, a, b, _, ha, hb => by
    simp at ha
    subst ha
    exact (sort_ge x.1 r h.2.2 j b (by simpa using hb)).1
  | d, x :: r, h, i + 1, 0, a, b, hij, ha, hb => by omega
  | d, x :: r, h, i + 1, j + 1, a, b, hij, ha, hb => sort_le x.1 r h.2.2 i j a b (by omega) (by simpa using ha) (by simpa using hb)
theorem lastT_le {l : List Bkg} {t : Int} (h : ∀ x ∈ l, x.tm ≤ t) (hn : l ≠ []) : lastT l ≤ t := by
  unfold lastT
  rcases h1 : l.getLast? with _ | b
  · simp at h1; exact absurd h1 hn
  · exact h b (List.mem_of_getLast? h1)
theorem upTo_snoc (d : Int) (m : Mv) : ∀ l : List Mv, upTo d (l ++ [m]) = upTo d l + (if m.1 ≤ d then m.2 else 0)
  | [] => by simp [upTo]
  | x :: r => by simp only [List.cons_append, upTo, upTo_snoc d m r]; omega
theorem upTo_all (d : Int) : ∀ l : List Mv, (∀ m ∈ l, m.1 ≤ d) → upTo d l = tot l
  | [], _ => rfl
  | x :: r, h => by rw [upTo, if_pos (h x (by simp)), upTo_all d r fun y hy => h y (by simp [hy])]; rfl
/-- What the ledger has at the end of a day. -/
theorem at_law {ms : List Mv} (hs : sortD 0 ms) (d : Int) : ∀ k, k ≤ ms.length → atR (d * 1440 + 1439) false ((bookN ms k).f false) (bookN ms k).bks.reverse = upTo d (ms.take k)
  | 0, _ => by simp [bookN, atR, upTo]
  | k + 1, h => by
    have ih := at_law hs d k (by omega)
    obtain ⟨m, hm⟩ := some_at h
    rw [take_snoc hm, upTo_snoc]
    by_cases h0 : m.2 = 0
    · rw [bookN_zero hm h0, ih, h0]; simp
    · have hf := (bookN_f ms k (by omega)).1
      rw [bookN_some hm h0]
      simp only [Lg.book, List.reverse_append, List.reverse_cons, List.reverse_nil, List.nil_append, List.singleton_append, atR, amt, Bool.false_eq_true, if_false]
      by_cases hd : m.1 ≤ d
      · rw [if_pos (by omega), if_pos hd, hf]
        rw [upTo_all]
        intro y hy
        obtain ⟨j, hj⟩ := List.mem_iff_getElem?.1 hy
        have hjk : j < k := by
          have := (List.getElem?_eq_some_iff.1 hj).1
          simp at this; omega
        rw [List.getElem?_take_of_lt hjk] at hj
        have := sort_le 0 ms hs j k y m (by omega) hj hm
        omega
      · rw [if_neg (by omega), if_neg hd, Int.add_sub_cancel, ih]; simp
theorem upTo_take {ms : List Mv} (hs : sortD 0 ms) (d : Int) : ∃ k, upTo d ms = tot (ms.take k) := by
  have key : ∀ (l : List Mv) (e : Int), sortD e l → ∃ k, upTo d l = tot (l.take k) := by
    intro l
    induction l with
    | nil => intro e _; exact ⟨0, rfl⟩
    | cons m r ih =>
      intro e h
      by_cases hd : m.1 ≤ d
      · obtain ⟨k, hk⟩ := ih m.1 h.2.2
        exact ⟨k + 1, by rw [upTo, if_pos hd, hk]; rfl⟩
      · exact ⟨0, by rw [upTo_late d m.1 (m :: r) ⟨Int.le_refl _, h.2.1, h.2.2⟩ (by omega)]; rfl⟩
  exact key ms 0 hs
theorem pre_take_bound : ∀ (b : Int) (l : List Mv), preOk b l = true → 0 ≤ b → b ≤ MU → ∀ k, 0 ≤ b + tot (l.take k) ∧ b + tot (l.take k) ≤ MU := by
  intro b l h h0 h1 k
  exact pre_tot b (l.take k) (pre_take b l k h) h0 h1
theorem upTo_bound {ms : List Mv} (hs : sortD 0 ms) (hp : preOk 0 ms = true) (d : Int) : 0 ≤ upTo d ms ∧ upTo d ms ≤ MU := by
  obtain ⟨k, hk⟩ := upTo_take hs d
  have h := pre_take_bound 0 ms hp (by decide) (by decide) k
  rw [hk]; omega
theorem sumD_bound {ms : List Mv} (hs : sortD 0 ms) (hp : preOk 0 ms = true) (d : Int) : ∀ n : Nat, 0 ≤ sumD ms d n ∧ sumD ms d n ≤ MU * n
  | 0 => by simp [sumD]
  | n + 1 => by
    have h1 := sumD_bound hs hp d n
    have h2 := upTo_bound hs hp (d + n)
    have e : MU = 1000000000000 := rfl
    rw [sumD]
    rw [e] at h1 h2 ⊢
    omega
theorem nB_inj : ∀ i, i < 13 → ∀ j, j < 13 → nB i = nB j → i = j := by decide +kernel
theorem nB_quote : ∀ i, i < 13 → 34 ∉ nB i := by decide +kernel
theorem nOut_ne : ∀ i, i < 13 → nOut ≠ nB i := by decide +kernel
/-- What the booking of a movement asks. -/
structure BookOk (s : Lg) (id : List UInt8) (t u : Int) : Prop where
  ident : identB id = true
  quote : 34 ∉ id
  idlen : id.length ≤ 1000
  fresh : id ∉ s.ids
  t0 : 0 ≤ t
  t1 : t ≤ 144001439
  last : s.bks ≠ [] → lastT s.bks ≤ t
  len : s.bks.length < 1000
  nz : u ≠ 0
  u0 : -1000000000000 ≤ u
  u1 : u ≤ 1000000000000
  cov : 0 ≤ s.f false + u
  bound : ∀ z, -4000000000000000 ≤ s.f z ∧ s.f z ≤ 4000000000000000
theorem tot_take_bound {a : Acc} (g : GoodA a) (k : Nat) : 0 ≤ tot (a.ms.take k) ∧ tot (a.ms.take k) ≤ 1000000000000 := by
  have h := pre_take_bound 0 a.ms g.pre (by decide) (by decide) k
  have e : MU = 1000000000000 := rfl
  rw [e] at h; omega
theorem book_ok {a : Acc} (g : GoodA a) (h13 : a.ms.length ≤ 13) {j : Nat} {d u : Int} (hm : a.ms[j]? = some (d, u)) (h0 : u ≠ 0) : BookOk (bookN a.ms j) (nB j) (d * 1440) u := by
  have hj := (List.getElem?_eq_some_iff.1 hm).1
  have hd := sort_ge 0 a.ms g.days j _ hm
  have hu := g.slim.1 _ (List.mem_of_getElem? hm)
  have hb1 := tot_take_bound g j
  have hb2 := tot_take_bound g (j + 1)
  rw [take_snoc hm, tot_append] at hb2
  have e : tot [((d, u) : Mv)] = u := by simp [tot]
  rw [e] at hb2
  obtain ⟨f1, f2⟩ := bookN_f a.ms j (by omega)
  have e2 : MU = 1000000000000 := rfl
  rw [e2] at hu
  dsimp only at hd hu
  refine ⟨ident_nB j (by omega), nB_quote j (by omega), by simp [nB], fun hx => ?_, by omega, by omega, fun hn => lastT_le (fun x hx => ?_) hn, ?_, h0, hu.1, hu.2, by rw [f1]; exact hb2.1, fun z => ?_⟩
  · obtain ⟨i, h1, h2⟩ := bookN_ids a.ms j _ hx
    have := nB_inj j (by omega) i (by omega) h2
    omega
  · obtain ⟨i, m, h1, h2, h3, -⟩ := bookN_bks a.ms j x hx
    have := sort_le 0 a.ms g.days i j m (d, u) (by omega) h2 hm
    dsimp only at this
    omega
  · have := bookN_len a.ms j; omega
  · cases z
    · rw [f1]; omega
    · rw [f2]; omega
/-- What the last booking asks. -/
theorem out_ok {a : Acc} (g : GoodA a) (h13 : a.ms.length ≤ 13) {t : Int} (h1 : lastD a.ms ≤ t) (h2 : t ≤ 100000) (hp : 0 < tot a.ms) : BookOk (bookN a.ms a.ms.length) nOut (t * 1440) (-tot a.ms) := by
  have hb := tot_take_bound g a.ms.length
  obtain ⟨f1, f2⟩ := bookN_f a.ms a.ms.length (Nat.le_refl _)
  rw [List.take_length] at hb f1 f2
  have hl : ∀ (i : Nat) (m : Mv), a.ms[i]? = some m → 0 ≤ m.1 ∧ m.1 ≤ t := fun i m hm => by
    have h0 := sort_ge 0 a.ms g.days i m hm
    have h3 : m.1 ≤ lastD a.ms := by
      obtain ⟨x, hx, e⟩ := lastD_mem a.ms g.some
      have hlast : a.ms[a.ms.length - 1]? = some (a.ms[a.ms.length - 1]'(by have := (List.getElem?_eq_some_iff.1 hm).1; omega)) := List.getElem?_eq_getElem _
      obtain ⟨j, hj⟩ := List.mem_iff_getElem?.1 hx
      have hle := sort_le 0 a.ms g.days i (a.ms.length - 1) m _ (by have := (List.getElem?_eq_some_iff.1 hm).1; omega) hm hlast
      have e2 : (a.ms[a.ms.length - 1]'(by have := (List.getElem?_eq_some_iff.1 hm).1; omega)).1 = lastD a.ms := lastD_get a.ms _ hlast
      omega
    omega
  have h0 : 0 ≤ t := by
    obtain ⟨m, hm⟩ : ∃ m, a.ms[0]? = some m := ⟨_, List.getElem?_eq_getElem (List.length_pos_iff.2 g.some)⟩
    have := hl 0 m hm
    omega
  refine ⟨ident_out, by decide, by decide, fun hx => ?_, by omega, by omega, fun hn => lastT_le (fun x hx => ?_) hn, ?_, by omega, by omega, by omega, by rw [f1]; omega, fun z => ?_⟩
  · obtain ⟨i, h1, h2⟩ := bookN_ids a.ms _ _ hx
    exact nOut_ne i (by omega) h2
  · obtain ⟨i, m, -, h4, h5, -⟩ := bookN_bks a.ms _ x hx
    have := hl i m h4
    omega
  · have := bookN_len a.ms a.ms.length; omega
  · cases z
    · rw [f1]; omega
    · rw [f2]; omega
where
  lastD_get : ∀ (l : List Mv) (x : Mv), l[l.length - 1]? = some x → x.1 = lastD l
    | [], x, h => by simp at h
    | [m], x, h => by simp at h; subst h; rfl
    | m :: n :: r, x, h => lastD_get (n :: r) x (by simpa using h)
theorem int_late {a : Acc} {d : Int} (hd : isDay d = true) (hc : a.closed = false) (h : d < lastD a.ms) : intE a d = 14 := by simp [intE, hd, hc, h]
theorem int_zero {a : Acc} {d : Int} (hd : isDay d = true) (hc : a.closed = false) (h : lastD a.ms ≤ d) : intE a d = 0 := by simp [intE, hd, hc, Int.not_lt.2 h]
theorem int_sum {a : Acc} (g : GoodA a) {d : Int} (hd : isDay d = true) (hc : a.closed = false) (h : lastD a.ms ≤ d) (flag : Bool) : intN a d flag = sumD a.ms (firstD a.ms) (d - firstD a.ms).toNat * (if flag then a.r1 else a.r0) / 3650000 := by
  have h0 := int_zero hd hc h
  unfold intN
  rw [h0, if_pos rfl]
  unfold intV
  rw [areaM_sum g.some g.days h]
  have h1 := (sumD_bound g.days g.pre (firstD a.ms) (d - firstD a.ms).toNat).1
  have h2 : 0 ≤ (if flag then a.r1 else a.r0) := by
    cases flag
    · exact g.r0.1
    · exact g.r1.1
  exact int_floor h1 h2
theorem last_cell {a : Acc} (g : GoodA a) : (dsI a.ms)[a.ms.length - 1]? = some (.int .i64 (lastD a.ms)) := by
  have hp := List.length_pos_iff.2 g.some
  have h : a.ms[a.ms.length - 1]? = some (a.ms[a.ms.length - 1]'(by omega)) := List.getElem?_eq_getElem _
  have e := out_ok.lastD_get a.ms _ h
  unfold dsI
  rw [List.getElem?_map, h, Option.map_some, e]
/-- The products stay small. -/
theorem upr_bound {u r c : Int} (h0 : 0 ≤ u) (h1 : u ≤ 1000000000000 * c) (hc : 0 ≤ c) (h2 : 0 ≤ r) (h3 : r ≤ 10000) : 0 ≤ u * r ∧ u * r ≤ 10000000000000000 * c := by
  refine ⟨Int.mul_nonneg h0 h2, ?_⟩
  have h4 : u * r ≤ 1000000000000 * c * 10000 := Int.mul_le_mul h1 h3 h2 (by omega)
  omega
end Go.Cz.Td

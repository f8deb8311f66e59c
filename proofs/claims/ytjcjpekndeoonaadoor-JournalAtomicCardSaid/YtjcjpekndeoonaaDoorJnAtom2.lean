/-
  'Append' and 'Open' on an armed disk: what is there after a start; plain laws.
-/
import Derived.Test.YtjcjpekndeoonaaDoorJnAtom
namespace Go.Cz.Jn
set_option linter.unusedSimpArgs false
set_option linter.unusedVariables false
open Go.Cz.Dk (Dm)
theorem zero_all : ∀ x ∈ [zeroB], x.length = 64 := fun x hx => by simp at hx; subst hx; exact zeroB_len
theorem head_all (p c : Nat) : ∀ x ∈ [headB p c], x.length = 64 := fun x hx => by simp at hx; subst hx; exact headB_len _ _
/-- A head changes, and does not count more. -/
theorem Rec.head {st st' : List Bytes} {n c p : Nat} {recs : List Bytes} (h : Rec st n c recs) (hp : p < 2) (hl : st'.length = st.length) (hk : ∀ i, i ≠ p → st'[i]? = st[i]?) (h1 : hdC st' p n ≤ c) (h2 : ∀ o, o < 2 → o ≠ p → hdC st o n = c) : Rec st' n c recs := by
  refine ⟨h.body.keep hl fun i hi _ => hk i (by omega), ?_⟩
  have hh := h.heads
  rcases (by omega : p = 0 ∨ p = 1) with rfl | rfl
  · have h3 := h2 1 (by omega) (by omega)
    rw [hdC_keep (st := st) (st' := st') (p := 1) (hk 1 (by omega)), h3]
    omega
  · have h3 := h2 0 (by omega) (by omega)
    rw [hdC_keep (st := st) (st' := st') (p := 0) (hk 0 (by omega)), h3]
    omega
theorem Rec.le {st : List Bytes} {n c : Nat} {recs : List Bytes} (h : Rec st n c recs) {p : Nat} (hp : p < 2) : hdC st p n ≤ c := by
  have hh := h.heads
  rcases (by omega : p = 0 ∨ p = 1) with rfl | rfl
  · omega
  · omega
theorem fix_arm {m : Dm} {n c p : Nat} {recs : List Bytes} (hm : Ready m) (h : Rec m.st n c recs) (hp : p < 2) {old : Bytes} (ho : m.st[p]? = some old) :
    ((fixB m p old c).2 = 0 ∧ Ready (fixB m p old c).1 ∧ Rec (fixB m p old c).1.st n c recs ∧ (∃ s, (fixB m p old c).1.st[p]? = some s ∧ (s = headB p c ∨ (c = 0 ∧ s = zeroB))) ∧ ∀ i, i ≠ p → (fixB m p old c).1.st[i]? = m.st[i]?) ∨
    ((fixB m p old c).2 = 26 ∧ (fixB m p old c).1.q = [] ∧ (∀ s ∈ (fixB m p old c).1.st, s.length = 64) ∧ Rec (fixB m p old c).1.st n c recs) := by
  have hnum := h.body.num
  have hlow := h.body.low
  have hhigh := h.body.high
  have hroom := h.body.room
  have hpl : p < m.st.length := by omega
  by_cases hc : old = headB p c ∨ (c = 0 ∧ old = zeroB)
  · have e : fixB m p old c = (m, 0) := by unfold fixB; rw [if_pos hc]
    rw [e]
    exact .inl ⟨rfl, hm, h, ⟨old, ho, hc⟩, fun _ _ => rfl⟩
  · have hne : hdC m.st p n ≠ c := fun he => by
      rw [hdC_of ho] at he
      exact hc (count_inv he)
    have hoth : ∀ o, o < 2 → o ≠ p → hdC m.st o n = c := fun o h2 hop => by
      have hh := h.heads
      rcases (by omega : (p = 0 ∧ o = 1) ∨ (p = 1 ∧ o = 0)) with ⟨rfl, rfl⟩ | ⟨rfl, rfl⟩
      · omega
      · omega
    have hle := h.le hp
    unfold fixB
    rw [if_neg hc]
    rcases writes_ready hm (p := p) (ss := [zeroB]) (by simp; omega) zero_all with ⟨a1, a2, a3⟩ | ⟨a1, a2, a3⟩
    · obtain ⟨m1, hm1⟩ : ∃ m1, m1 = writesB m p [zeroB] := ⟨_, rfl⟩
      rw [← hm1] at a1 a2 a3 ⊢
      obtain ⟨v1, v2⟩ := over_one (s := zeroB) hpl
      rw [← a3] at v1 v2
      have hl1 : m1.1.st.length = m.st.length := by rw [a3, over_len]
      have h1 : Rec m1.1.st n c recs := h.head hp hl1 v2 (by rw [hdC_of v1, countB_zero]; omega) hoth
      by_cases hc0 : 0 < c
      · rw [if_pos ⟨a1, hc0⟩]
        have hoth1 : ∀ o, o < 2 → o ≠ p → hdC m1.1.st o n = c := fun o h2 hop => by rw [hdC_keep (v2 o hop)]; exact hoth o h2 hop
        rcases writes_ready a2 (p := p) (ss := [headB p c]) (by simp; omega) (head_all p c) with ⟨b1, b2, b3⟩ | ⟨b1, b2, b3⟩
        · obtain ⟨u1, u2⟩ := over_one (st := m1.1.st) (p := p) (s := headB p c) (by omega)
          rw [← b3] at u1 u2
          refine .inl ⟨b1, b2, h1.head hp (by rw [b3, over_len]) u2 (by rw [hdC_of u1, countB_head (by omega) (by omega)]; exact Int.le_refl _) hoth1, ⟨_, u1, .inl rfl⟩, fun i hi => by rw [u2 i hi, v2 i hi]⟩
        · obtain ⟨u1, u2⟩ := hd_torn b3 hp (by omega) (by omega) hhigh (fun s hs => .inr (by rw [v1] at hs; exact (Option.some.inj hs).symm))
          refine .inr ⟨b1, b2, b3.len, h1.head hp b3.num u2 ?_ hoth1⟩
          rw [hdC_of v1, countB_zero] at u1
          omega
      · rw [if_neg fun hx => hc0 hx.2]
        exact .inl ⟨a1, a2, h1, ⟨_, v1, .inr ⟨by omega, rfl⟩⟩, v2⟩
    · rw [if_neg fun hx => by rw [a1] at hx; exact absurd hx.1 (by decide)]
      obtain ⟨u1, u2⟩ := hd_zero (n := n) a3 hpl
      exact .inr ⟨a1, a2, a3.len, h.head hp a3.num u2 (by omega) hoth⟩
/-- 'Open' on an armed disk. -/
theorem open_arm {m : Dm} {n c : Nat} {recs : List Bytes} (hm : Ready m) (h : Rec m.st n c recs) :
    ((openB m).2 = (0, ⟨n, c, recs, false⟩) ∧ (openB m).1.q = [] ∧ Inv (cal (openB m).1.st) ⟨n, c, recs, false⟩) ∨
    ((openB m).2.1 = 26 ∧ (openB m).1.q = [] ∧ (∀ s ∈ (openB m).1.st, s.length = 64) ∧ Rec (openB m).1.st n c recs) := by
  have hnum := h.body.num
  have hlow := h.body.low
  have hfind := h.find hm
  have hk : ∀ k, k < m.st.length → m.st[k]? = some (Dk.look m k) := fun k hk => by
    rw [look_calm hm.q, List.getElem?_eq_getElem hk, List.getD_eq_getElem?_getD, List.getElem?_eq_getElem hk]
    rfl
  obtain ⟨x, hx⟩ : ∃ x, x = fixB m 0 (Dk.look m 0) c := ⟨_, rfl⟩
  obtain ⟨y, hy⟩ : ∃ y, y = fixB x.1 1 (Dk.look m 1) c := ⟨_, rfl⟩
  rw [open_ok hfind hx hy]
  have h0 := fix_arm hm h (p := 0) (by omega) (hk 0 (by omega))
  rw [← hx] at h0
  rcases h0 with ⟨a1, a2, a3, a4, a5⟩ | ⟨a1, a2, a3, a4⟩
  · rw [if_neg (by simp [a1])]
    have h1 := fix_arm a2 a3 (p := 1) (by omega) (old := Dk.look m 1) (by rw [a5 1 (by omega)]; exact hk 1 (by omega))
    rw [← hy] at h1
    rcases h1 with ⟨b1, b2, b3, b4, b5⟩ | ⟨b1, b2, b3, b4⟩
    · rw [if_neg (by simp [b1])]
      refine .inl ⟨by rw [hnum], b2.q, whole b2.len b3.body fun p hp => ?_⟩
      rcases (by omega : p = 0 ∨ p = 1) with rfl | rfl
      · dsimp only
        rw [b5 0 (by omega)]
        exact a4
      · exact b4
    · rw [if_pos (by simp [b1])]
      exact .inr ⟨b1, b2, b3, b4⟩
  · rw [if_pos (by simp [a1])]
    exact .inr ⟨a1, a2, a3, a4⟩
theorem fullB_all (c : Nat) (ps : List Bytes) : ∀ x ∈ fullB c ps, x.length = 64 := fun x hx => by
  obtain ⟨_, _, rfl⟩ := List.mem_map.1 hx
  exact sectorB_len _ _
theorem fullB_get {c : Nat} {ps : List Bytes} {i : Nat} {p : Bytes} (h : ps[i]? = some p) : (fullB c ps)[i]? = some (sectorB (2 + c + i) p) := by
  have hi := (List.getElem?_eq_some_iff.1 h).1
  unfold fullB
  rw [List.getElem?_map, List.getElem?_range hi]
  simp [List.getD_eq_getElem?_getD, h]
/-- The four steps of 'Append' on an armed disk. -/
theorem steps_arm {m : Dm} {n c : Nat} {recs rs : List Bytes} (hm : Ready m) (h : Inv (cal m.st) ⟨n, c, recs, false⟩) (hn : n ≤ 40) {ps : List Bytes} (hps : ps = piecesB (textB rs)) (hr : 2 + c + ps.length ≤ n) (hl : ∀ r ∈ rs, r.length ≤ 20000) :
    ((stepsB m c ps).2 = 0 ∧ (stepsB m c ps).1.q = [] ∧ Inv (cal (stepsB m c ps).1.st) ⟨n, c + ps.length, recs ++ rs, false⟩) ∨
    ((stepsB m c ps).2 = 26 ∧ (stepsB m c ps).1.q = [] ∧ (∀ s ∈ (stepsB m c ps).1.st, s.length = 64) ∧ (Rec (stepsB m c ps).1.st n c recs ∨ Rec (stepsB m c ps).1.st n (c + ps.length) (recs ++ rs))) := by
  have hrec : Rec m.st n c recs := h.toRec hn
  have hhead : ∀ p, p < 2 → ∃ s, m.st[p]? = some s ∧ (s = headB p c ∨ (c = 0 ∧ s = zeroB)) := h.head
  have hnum := hrec.body.num
  have hlow := hrec.body.low
  obtain ⟨a, ha⟩ : ∃ a, a = writesB m (2 + c) (ps.map fun _ => zeroB) := ⟨_, rfl⟩
  obtain ⟨b, hb⟩ : ∃ b, b = writesB a.1 (2 + c) (fullB c ps) := ⟨_, rfl⟩
  obtain ⟨d, hd⟩ : ∃ d, d = writesB b.1 1 [headB 1 (c + ps.length)] := ⟨_, rfl⟩
  obtain ⟨f, hf⟩ : ∃ f, f = writesB d.1 0 [headB 0 (c + ps.length)] := ⟨_, rfl⟩
  have hst : stepsB m c ps = if a.2 != 0 then a else if b.2 != 0 then b else if d.2 != 0 then d else f := by
    subst hf hd hb ha
    rfl
  rw [hst]
  have keep : ∀ {st st' : List Bytes}, st'.length = st.length → (∀ i, i < 2 + c → st'[i]? = st[i]?) → Rec st n c recs → Rec st' n c recs := fun hl hk hr => by
    refine ⟨hr.body.keep hl fun i _ hi => hk i hi, ?_⟩
    rw [hdC_keep (hk 0 (by omega)), hdC_keep (hk 1 (by omega))]
    exact hr.heads
  have h1 := writes_ready hm (p := 2 + c) (ss := ps.map fun _ => zeroB) (by rw [List.length_map]; omega) (fun x hx => by obtain ⟨_, _, rfl⟩ := List.mem_map.1 hx; exact zeroB_len)
  rw [← ha] at h1
  rcases h1 with ⟨a1, a2, a3⟩ | ⟨a1, a2, a3⟩
  rotate_left
  · rw [if_pos (by simp [a1])]
    exact .inr ⟨a1, a2, a3.len, .inl (keep a3.num (fun i hi => a3.same i (.inl hi)) hrec)⟩
  rw [if_neg (by simp [a1])]
  have al : a.1.st.length = n := by rw [a3, over_len]; exact hnum
  have ak : ∀ i, i < 2 + c → a.1.st[i]? = m.st[i]? := fun i hi => by rw [a3, over_get _ _ _ _ (by rw [List.length_map]; omega), if_neg (by omega)]
  have ar : Rec a.1.st n c recs := keep (al.trans hnum.symm) ak hrec
  have h2 := writes_ready a2 (p := 2 + c) (ss := fullB c ps) (by rw [fullB_len]; omega) (fullB_all c ps)
  rw [← hb] at h2
  rcases h2 with ⟨b1, b2, b3⟩ | ⟨b1, b2, b3⟩
  rotate_left
  · rw [if_pos (by simp [b1])]
    exact .inr ⟨b1, b2, b3.len, .inl (keep b3.num (fun i hi => b3.same i (.inl hi)) ar)⟩
  rw [if_neg (by simp [b1])]
  have bl : b.1.st.length = n := by rw [b3, over_len]; exact al
  have bk : ∀ i, i < 2 + c → b.1.st[i]? = a.1.st[i]? := fun i hi => by rw [b3, over_get _ _ _ _ (by rw [fullB_len]; omega), if_neg (by omega)]
  have br : Rec b.1.st n c recs := keep (bl.trans al.symm) bk ar
  have bb : Body b.1.st n (c + ps.length) (recs ++ rs) := by
    obtain ⟨qs, q1, q2, q3⟩ := br.body.pieces
    refine ⟨bl, hlow, hn, by omega, ⟨qs ++ ps, by rw [List.length_append, q1], fun i p hi => ?_, ?_⟩, fun r hr2 => ?_⟩
    · by_cases hic : i < qs.length
      · rw [List.getElem?_append_left hic] at hi
        exact q2 i p hi
      · rw [List.getElem?_append_right (by omega)] at hi
        have hlt := (List.getElem?_eq_some_iff.1 hi).1
        refine ⟨?_, piecesB_mem (hps ▸ List.mem_of_getElem? hi)⟩
        rw [b3, over_get _ _ _ _ (by rw [fullB_len]; omega), fullB_len, if_pos (by omega), show 2 + i - (2 + c) = i - qs.length by omega, fullB_get hi, show 2 + c + (i - qs.length) = 2 + i by omega]
    · rw [List.flatten_append, q3, hps, piecesB_flat, ← textB_append]
    · rcases List.mem_append.1 hr2 with hr2 | hr2
      · exact hrec.body.recs r hr2
      · exact hl r hr2
  have bh : ∀ p, p < 2 → ∃ s, b.1.st[p]? = some s ∧ (s = headB p c ∨ (c = 0 ∧ s = zeroB)) := fun p hp => by
    rw [bk p (by omega), ak p (by omega)]
    exact hhead p hp
  have bd : ∀ p, p < 2 → hdC b.1.st p n = (c : Int) := fun p hp => head_hd (by omega) hn (bh p hp)
  have bo : ∀ p, p < 2 → ∀ s, b.1.st[p]? = some s → (∃ y, y ≤ n - 2 ∧ s = headB p y) ∨ s = zeroB := fun p hp s hs => by
    obtain ⟨t, ht, h4⟩ := bh p hp
    rw [hs] at ht
    cases ht
    rcases h4 with h4 | h4
    · exact .inl ⟨c, by omega, h4⟩
    · exact .inr h4.2
  have h3 := writes_ready b2 (p := 1) (ss := [headB 1 (c + ps.length)]) (by simp; omega) (head_all _ _)
  rw [← hd] at h3
  rcases h3 with ⟨d1, d2, d3⟩ | ⟨d1, d2, d3⟩
  rotate_left
  · rw [if_pos (by simp [d1])]
    refine .inr ⟨d1, d2, d3.len, ?_⟩
    obtain ⟨u1, u2⟩ := hd_torn (n := n) d3 (by omega) (by omega) (by omega) hn (bo 1 (by omega))
    have e0 : hdC d.1.st 0 n = c := by rw [hdC_keep (u2 0 (by omega))]; exact bd 0 (by omega)
    have e1 := bd 1 (by omega)
    rw [e1] at u1
    by_cases hx : hdC d.1.st 1 n = ((c + ps.length : Nat) : Int)
    · refine .inr ⟨bb.keep d3.num fun i hi _ => u2 i (by omega), ?_⟩
      rw [e0, hx]
      omega
    · refine .inl ⟨br.body.keep d3.num fun i hi _ => u2 i (by omega), ?_⟩
      rw [e0]
      omega
  rw [if_neg (by simp [d1])]
  have dl : d.1.st.length = n := by rw [d3, over_len]; exact bl
  obtain ⟨v1, v2⟩ := over_one (st := b.1.st) (p := 1) (s := headB 1 (c + ps.length)) (by omega)
  rw [← d3] at v1 v2
  have db : Body d.1.st n (c + ps.length) (recs ++ rs) := bb.keep (dl.trans bl.symm) fun i hi _ => v2 i (by omega)
  have dd : hdC d.1.st 1 n = ((c + ps.length : Nat) : Int) := by rw [hdC_of v1, countB_head (by omega) (by omega)]
  have h4 := writes_ready d2 (p := 0) (ss := [headB 0 (c + ps.length)]) (by simp; omega) (head_all _ _)
  rw [← hf] at h4
  rcases h4 with ⟨f1, f2, f3⟩ | ⟨f1, f2, f3⟩
  · left
    obtain ⟨w1, w2⟩ := over_one (st := d.1.st) (p := 0) (s := headB 0 (c + ps.length)) (by omega)
    rw [← f3] at w1 w2
    refine ⟨f1, f2.q, whole f2.len (db.keep (by rw [f3, over_len]) fun i hi _ => w2 i (by omega)) fun p hp => ?_⟩
    rcases (by omega : p = 0 ∨ p = 1) with rfl | rfl
    · exact ⟨_, w1, .inl rfl⟩
    · exact ⟨_, by rw [w2 1 (by omega)]; exact v1, .inl rfl⟩
  · obtain ⟨u1, u2⟩ := hd_torn (n := n) f3 (by omega) (by omega) (by omega) hn (by rw [v2 0 (by omega)]; exact bo 0 (by omega))
    refine .inr ⟨f1, f2, f3.len, .inr ⟨db.keep f3.num fun i hi _ => u2 i (by omega), ?_⟩⟩
    have e0 : hdC d.1.st 0 n = c := by rw [hdC_keep (v2 0 (by omega))]; exact bd 0 (by omega)
    rw [hdC_keep (st := d.1.st) (u2 1 (by omega)), dd]
    rw [e0] at u1
    omega
theorem restart {m : Dm} (h : m.q = []) (w b : Int) : Dk.start (Dk.fail m w b) = cal m.st := by
  obtain ⟨st, q, off, al⟩ := m
  dsimp only at h
  subst h
  unfold Dk.fail Dk.start cal
  cases off
  · simp [Dk.settle]
  · simp
theorem arm_cal {st : List Bytes} (hl : ∀ s ∈ st, s.length = 64) (a w b : Int) : Ready (Dk.arm (cal st) a w b) ∧ (Dk.arm (cal st) a w b).st = st := by
  unfold Dk.arm cal
  exact ⟨⟨rfl, rfl, hl⟩, rfl⟩
theorem cal_calm {m : Dm} (h : Calm m) : m = cal m.st := by
  obtain ⟨st, q, off, al⟩ := m
  obtain ⟨h1, h2, h3, -⟩ := h
  dsimp only at h1 h2 h3
  subst h1 h2 h3
  rfl
/-- 'Append' on an armed disk. -/
theorem append_arm {m : Dm} {j : Jm} (hm : Ready m) (h : Inv (cal m.st) j) (hn : j.sectors ≤ 40) (rs : List Bytes) :
    ((appendB m j rs).2.1 = 0 ∧ (appendB m j rs).1.q = [] ∧ Inv (cal (appendB m j rs).1.st) { j with count := j.count + (piecesB (textB rs)).length, recs := j.recs ++ rs }) ∨
    ((appendB m j rs).2.1 ≠ 0 ∧ (appendB m j rs).2.1 ≠ 26 ∧ (appendB m j rs).1.q = [] ∧ (appendB m j rs).1.st = m.st) ∨
    ((appendB m j rs).2.1 = 26 ∧ (appendB m j rs).1.q = [] ∧ (∀ s ∈ (appendB m j rs).1.st, s.length = 64) ∧ (Rec (appendB m j rs).1.st j.sectors j.count j.recs ∨ Rec (appendB m j rs).1.st j.sectors (j.count + (piecesB (textB rs)).length) (j.recs ++ rs))) := by
  obtain ⟨n, c, recs, br⟩ := j
  have hok : br = false := h.ok
  subst hok
  by_cases hl : longB rs = true
  · have e : appendB m ⟨n, c, recs, false⟩ rs = (m, 2, ⟨n, c, recs, false⟩) := by unfold appendB; rw [if_neg (by simp), if_pos hl]
    rw [e]
    exact .inr (.inl ⟨by simp, by simp, hm.q, rfl⟩)
  · by_cases hr : Jm.room ⟨n, c, recs, false⟩ < (piecesB (textB rs)).length
    · have e : appendB m ⟨n, c, recs, false⟩ rs = (m, 28, ⟨n, c, recs, false⟩) := by unfold appendB; rw [if_neg (by simp), if_neg hl, if_pos hr]
      rw [e]
      exact .inr (.inl ⟨by simp, by simp, hm.q, rfl⟩)
    · by_cases h0 : rs = []
      · subst h0
        have e : appendB m ⟨n, c, recs, false⟩ [] = (m, 0, ⟨n, c, recs, false⟩) := by unfold appendB; rw [if_neg (by simp), if_neg hl, if_neg hr, if_pos rfl]
        rw [e]
        refine .inl ⟨rfl, hm.q, ?_⟩
        rw [show (piecesB (textB [])).length = 0 by decide, List.append_nil]
        exact h
      · have e : ((appendB m ⟨n, c, recs, false⟩ rs).1, (appendB m ⟨n, c, recs, false⟩ rs).2.1) = stepsB m c (piecesB (textB rs)) := by
          unfold appendB
          rw [if_neg (by simp), if_neg hl, if_neg hr, if_neg h0]
        have e1 : (appendB m ⟨n, c, recs, false⟩ rs).1 = (stepsB m c (piecesB (textB rs))).1 := congrArg Prod.fst e
        have e2 : (appendB m ⟨n, c, recs, false⟩ rs).2.1 = (stepsB m c (piecesB (textB rs))).2 := congrArg Prod.snd e
        rw [e1, e2]
        rcases steps_arm hm h hn (rs := rs) rfl (by unfold Jm.room at hr; dsimp only at hr; omega) (fun r hr2 => by
          have := List.any_eq_false.1 (by simpa using hl : longB rs = false) r hr2
          simp at this
          omega) with h1 | h1
        · exact .inl h1
        · exact .inr (.inr h1)
/-- What 'JournalAtomic' asks of one 'Append'. -/
theorem atomic {m : Dm} {j : Jm} (h : Inv m j) (hn : j.sectors ≤ 40) (rs : List Bytes) (a w b a2 w2 b2 : Int) {r : Dm × Int × Jm} (er : r = appendB (Dk.arm m a w b) j rs) {r2 r3 : Dm × Int × Jm}
    (er2 : r2 = openB (Dk.arm (Dk.start (Dk.fail r.1 0 0)) a2 w2 b2)) (er3 : r3 = openB (Dk.start (Dk.fail r2.1 0 0))) :
    r.1.q = [] ∧ r2.1.q = [] ∧ r3.2.1 = 0 ∧ Inv r3.1 r3.2.2 ∧ r3.2.2.sectors = j.sectors ∧ (r3.2.2.recs = j.recs ∨ r3.2.2.recs = j.recs ++ rs) ∧ (r.2.1 = 0 → r3.2.2.recs = j.recs ++ rs) ∧ (r.2.1 ≠ 0 → r.2.1 ≠ 26 → r3.2.2.recs = j.recs) ∧ (r2.2.1 = 0 → r2.2.2.recs = r3.2.2.recs) ∧ (r2.2.1 ≠ 0 → r2.2.1 = 26) := by
  have hm : m = cal m.st := cal_calm h.calm
  have h' : Inv (cal m.st) j := hm ▸ h
  obtain ⟨m1, hm1⟩ : ∃ m1, m1 = Dk.arm m a w b := ⟨_, rfl⟩
  obtain ⟨v1, v2⟩ := arm_cal h.calm.len a w b
  rw [← hm, ← hm1] at v1 v2
  rw [← hm1] at er
  have key : ∃ c recs, r.1.q = [] ∧ (∀ s ∈ r.1.st, s.length = 64) ∧ Rec r.1.st j.sectors c recs ∧ (recs = j.recs ∨ recs = j.recs ++ rs) ∧ (r.2.1 = 0 → recs = j.recs ++ rs) ∧ (r.2.1 ≠ 0 → r.2.1 ≠ 26 → recs = j.recs) := by
    have h1 := append_arm v1 (by rw [v2]; exact h') hn rs
    rw [← er] at h1
    rcases h1 with ⟨h1, h2, h3⟩ | ⟨h1, h2, h3, h4⟩ | ⟨h1, h2, h3, h4⟩
    · exact ⟨_, _, h2, h3.calm.len, h3.toRec hn, .inr rfl, fun _ => rfl, fun hx => absurd h1 hx⟩
    · exact ⟨j.count, j.recs, h3, by rw [h4]; exact v1.len, by rw [h4, v2]; exact h.toRec hn, .inl rfl, fun hx => absurd hx h1, fun _ _ => rfl⟩
    · rcases h4 with h4 | h4
      · exact ⟨_, _, h2, h3, h4, .inl rfl, fun hx => by rw [h1] at hx; exact absurd hx (by decide), fun _ hx => absurd h1 hx⟩
      · exact ⟨_, _, h2, h3, h4, .inr rfl, fun _ => rfl, fun _ hx => absurd h1 hx⟩
  obtain ⟨c, recs, k1, k2, k3, k4, k5, k6⟩ := key
  rw [restart k1] at er2
  obtain ⟨u1, u2⟩ := arm_cal k2 a2 w2 b2
  have h2 := open_arm u1 (by rw [u2]; exact k3)
  rw [← er2] at h2
  have key2 : r2.1.q = [] ∧ (∀ s ∈ r2.1.st, s.length = 64) ∧ Rec r2.1.st j.sectors c recs ∧ (r2.2.1 = 0 → r2.2.2.recs = recs) ∧ (r2.2.1 ≠ 0 → r2.2.1 = 26) := by
    rcases h2 with ⟨h1, h2, h3⟩ | ⟨h1, h2, h3, h4⟩
    · exact ⟨h2, h3.calm.len, h3.toRec hn, fun _ => by rw [h1], fun hx => absurd (by rw [h1]) hx⟩
    · exact ⟨h2, h3, h4, fun hx => by rw [h1] at hx; exact absurd hx (by decide), fun _ => h1⟩
  obtain ⟨q1, q2, q3, q4, q5⟩ := key2
  rw [restart q1] at er3
  have hcal : Calm (cal r2.1.st) := ⟨rfl, rfl, rfl, q2⟩
  have hlow := q3.body.low
  have hnum := q3.body.num
  obtain ⟨o1, o2⟩ := open_inv (m := cal r2.1.st) hcal (by show 3 ≤ r2.1.st.length; omega) (by show r2.1.st.length ≤ 4000; omega) (q3.find (m := cal r2.1.st) ⟨rfl, rfl, q2⟩)
  rw [← er3] at o1 o2
  have e3 : r3.2 = (0, ⟨j.sectors, c, recs, false⟩) := by rw [o1]; show (_, _) = _; rw [show (cal r2.1.st).st.length = j.sectors from hnum]
  have o3 : Inv r3.1 ⟨j.sectors, c, recs, false⟩ := by
    rw [show (cal r2.1.st).st.length = j.sectors from hnum] at o2
    exact o2
  rw [e3]
  exact ⟨k1, q1, rfl, o3, rfl, k4, k5, k6, q4, q5⟩
end Go.Cz.Jn

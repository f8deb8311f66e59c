/-
  The reference disk's methods as calls on a piece of memory; the reference's 'write'.
  What a write that succeeds keeps: plain laws.
  The reference's 'Open'.
  The reference's 'Records', 'Room' and 'Append'.
  What 'JournalMatchesReference' carries: plain laws, and calls on nothing.
-/
import Derived.Test.YtjcjpekndeoonaaGreatDoorRjA
import Derived.Test.YtjcjpekndeoonaaGreatDoorJfA
import Derived.Test.YtjcjpekndeoonaaGreatDoorJnFor
import Derived.Test.YtjcjpekndeoonaaGreatDoorJnAtom
namespace Go.Proofs.YtjcjpekndeoonaaGreatDoor
open Go.RowKit Go.Cz Go.Cz.Jn
set_option linter.unusedSimpArgs false
set_option linter.unusedVariables false
attribute [local go_sem] bs_size bs_extract bs_append bs_toList
attribute [local irreducible] cList cPlan
section
variable {w0 w : World} {ps : List Piece} {b : Nat} {m : Dk.Dm}
theorem Owns.rwr (s : Int) (t : Bytes) (h : Owns w0 w (rdisk b m :: ps)) (hq : m.q.length ≤ 100000) : Calls Tryz.prog 84 #[.pointer (some ⟨b, 0, none⟩), .int .i64 s, .string (bs t)] w (Back w0 (.int .i64 (Dk.write m s t).2) (rdisk b (Dk.write m s t).1 :: ps)) :=
  Owns.rk h fun S hd => rWrite_c b s t m S w hd hq
theorem Owns.rsy (h : Owns w0 w (rdisk b m :: ps)) (hq : m.q.length ≤ 100000) : Calls Tryz.prog 85 #[.pointer (some ⟨b, 0, none⟩)] w (Back w0 (.int .i64 (Dk.sync m).2) (rdisk b (Dk.sync m).1 :: ps)) :=
  Owns.rk h fun S hd => rSync_c b m S w hd hq
theorem Owns.rfl' (x y : Int) (h : Owns w0 w (rdisk b m :: ps)) (hq : m.q.length ≤ 100000) : Calls Tryz.prog 21 #[.pointer (some ⟨b, 0, none⟩), .int .i64 x, .int .i64 y] w (Back w0 (.tuple #[]) (rdisk b (Dk.fail m x y) :: ps)) :=
  Owns.rk h fun S hd => rFail_c b x y m S w hd (by omega)
theorem Owns.rst (h : Owns w0 w (rdisk b m :: ps)) : Calls Tryz.prog 23 #[.pointer (some ⟨b, 0, none⟩)] w (Back w0 (.tuple #[]) (rdisk b (Dk.start m) :: ps)) :=
  Owns.rk h fun S hd => rStart_c b m S w hd
theorem Owns.rar (a x y : Int) (h : Owns w0 w (rdisk b m :: ps)) (ha : a ≤ 9223372036854775807) : Calls Tryz.prog 25 #[.pointer (some ⟨b, 0, none⟩), .int .i64 a, .int .i64 x, .int .i64 y] w (Back w0 (.tuple #[]) (rdisk b (Dk.arm m a x y) :: ps)) :=
  Owns.rk h fun S hd => rArm_c b a x y m S w hd ha
theorem Owns.rro (s a k : Int) (h : Owns w0 w (rdisk b m :: ps)) : Calls Tryz.prog 27 #[.pointer (some ⟨b, 0, none⟩), .int .i64 s, .int .i64 a, .int .i64 k] w (Back w0 (.tuple #[]) (rdisk b (Dk.rot m s a k) :: ps)) :=
  Owns.rk h fun S hd => rRot_c b s a k m S w hd
theorem Owns.rra (h : Owns w0 w (rdisk b m :: ps)) (hpos : 0 < m.st.length) : Calls Tryz.prog 30 #[.pointer (some ⟨b, 0, none⟩)] w fun e w' => e = .returned (.string (bs (Dk.raw m))) ∧ Owns w0 w' (rdisk b m :: ps) := by
  obtain ⟨S, hd, _⟩ := h.first
  exact (rRaw_c b m S w hd hpos).mono fun e w' ⟨h1, h2⟩ => ⟨h1, h.below h2⟩
theorem Owns.rok (h : Owns w0 w (rdisk b m :: ps)) : m.ok ∧ m.st.length ≤ 4000 := by
  obtain ⟨S, ⟨_, _, _, _, _, _, _, h⟩, _⟩ := h.first
  exact ⟨h.ok, h.few⟩
end
def rjcells (db sec cnt : Nat) (rv : Value) (br : Bool) : Array Value := #[.pointer (some ⟨db, 0, none⟩), .int .i64 (sec : Int), .int .i64 (cnt : Int), rv, .bool br]
/-- The reference journal's own cells. -/
abbrev rjblk (jb db sec cnt : Nat) (rv : Value) (br : Bool) : Piece := blk jb (.cells (rjcells db sec cnt rv br) 81 (0, 0))
/-- The places from p on lie in a row somewhere. -/
structure IsPlaces (w : World) (x : Option Addr) (n p : Nat) : Prop where
  at' : n = 0 ∨ ∃ g off, x = some ⟨g, off, none⟩ ∧ g < w.heap.size ∧ ∀ j : Nat, j < n → w.cell? ⟨g, off + j, none⟩ = some (.int .i64 ((p + j : Nat) : Int))
theorem IsPlaces.below {w w' : World} {x : Option Addr} {n p : Nat} (h : IsPlaces w x n p) (hb : Below w.heap.size w w') : IsPlaces w' x n p := by
  refine ⟨?_⟩
  rcases h.at' with h0 | ⟨g, off, hx, hg, hc⟩
  · exact .inl h0
  · exact .inr ⟨g, off, hx, Nat.lt_of_lt_of_le hg hb.size, fun j hj => by rw [hb.cell (p := ⟨g, off + j, none⟩) hg]; exact hc j hj⟩
theorem IsPlaces.get {w : World} {x : Option Addr} {n p : Nat} (h : IsPlaces w x n p) {k : Nat} (hk : k < n) : ∃ g off, x = some ⟨g, off, none⟩ ∧ g < w.heap.size ∧ w.cell? ⟨g, off + k, none⟩ = some (.int .i64 ((p + k : Nat) : Int)) := by
  rcases h.at' with h0 | ⟨g, off, hx, hg, hc⟩
  · omega
  · exact ⟨g, off, hx, hg, hc k hk⟩
set_option maxRecDepth 10000 in
set_option maxHeartbeats 4000000 in
theorem rwrite43_c {w0 w : World} {ps : List Piece} {m : Dk.Dm} {db jb sec cnt : Nat} {rv : Value} {br : Bool} {l : List Bytes} {x y : Option Addr} {n c1 c2 : Nat} (p : Nat) (h : Owns w0 w (rdisk db m :: rjblk jb db sec cnt rv br :: ps))
    (hP : ∀ w', Owns w0 w' ps → IsPlaces w' x n p) (hS : ∀ w', Owns w0 w' ps → IsTexts w' y n l) (hp : p ≤ 1000000000) (hn : n ≤ 1000000) (hq : m.q.length + n ≤ 100000) :
    Calls Tryz.prog 60 #[.pointer (some ⟨jb, 0, none⟩), .slice x n c1, .slice y n c2] w (Back w0 (.int .i64 (writesB m p l).2) (rdisk db (writesB m p l).1 :: rjblk jb db sec cnt rv br :: ps)) := by
  have hlen := (hS w h.pop.pop).len
  have HP := Lib.hid hP
  have HS := Lib.hid hS
  have HO := Lib.hid h
  clear h hP hS
  go_enter Tryz.func60, Tryz.ntmps60
  go_wp2_with fail
  go_loopg [7] n (fun gk i wr => ∃ (k : Nat) (m' : Dk.Dm), gk = n - k ∧ k ≤ n ∧ i = .int .i64 (k : Int) ∧ m'.q.length + (n - k) ≤ 100000 ∧ Hid (writesB m p l = writesB m' (p + k) (l.drop k)) ∧ Hid (Owns w0 wr (rdisk db m' :: rjblk jb db sec cnt rv br :: ps)))
  case atStart => exact ⟨0, m, rfl, Nat.zero_le _, rfl, by omega, rfl, HO⟩
  case round =>
    rename_i J1 K1 hJ1 hK1
    clear HO
    obtain ⟨k, m', rfl, hk, rfl, hq', HW, HO⟩ := hrel
    by_cases hlt : k < n
    · obtain ⟨g, off, s, rfl, hs, hg, cs⟩ := (HS.out _ HO.out.drew.pop.pop).get hlt
      obtain ⟨g2, off2, rfl, hg2, cs2⟩ := (HP.out _ HO.out.drew.pop.pop).get hlt
      have HD : Hid (l.drop k = s :: l.drop (k + 1)) := by
        obtain ⟨hk', rfl⟩ := List.getElem?_eq_some_iff.1 hs
        exact List.drop_eq_getElem_cons hk'
      obtain ⟨pk, hpk⟩ : ∃ pk, pk = p + k := ⟨_, rfl⟩
      have HW2 : Hid (writesB m p l = if (Dk.write m' (pk : Int) s).2 != 0 then Dk.write m' (pk : Int) s else writesB (Dk.write m' (pk : Int) s).1 (pk + 1) (l.drop (k + 1))) := by
        show _ = _
        rw [HW.out, HD.out, hpk]
        rfl
      rw [← hpk] at cs2
      have HPK := Lib.hid hpk
      clear HW HD hs hpk
      have hwq := write_q m' (pk : Int) s
      replace HO := Lib.hid HO.out.drew
      obtain ⟨bk, -⟩ := HO.out.swap.blk
      have hb1 := lt_of_block bk
      have c0 : wr.drew.cell? ⟨jb, 0, none⟩ = some (.pointer (some ⟨db, 0, none⟩)) := by rw [cell_of_heap bk]; rfl
      clear bk
      go_wp2_with fail
      refine wp_region_can [] (List.range 14) (by kernel_rfl) (by kernel_rfl) ?_
      iterate 12 (refine cl_do rfl rfl rfl rfl (fun _ _ => ?_); go_wp2_with fail)
      refine cl_do rfl rfl rfl rfl (fun _ _ => ?_)
      go_wp2_with fail
      go_at_call 84
      refine (Owns.rwr _ s HO.out (by omega)).mono ?_
      rintro e w2 ⟨rfl, ho⟩
      replace HO := Lib.hid ho
      clear ho cs hg c0 hb1 cs2 hg2
      obtain ⟨y, hy⟩ : ∃ y, y = Dk.write m' (pk : Int) s := ⟨_, rfl⟩
      rw [← hy] at HO HW2 hwq ⊢
      clear hy
      go_wp2_with fail
      refine cl_do rfl rfl rfl rfl (fun _ _ => ?_)
      go_wp2_with fail
      refine cl_nil ?_
      by_cases h0 : y.2 = 0
      · have HW3 : Hid (writesB m p l = writesB y.1 (p + (k + 1)) (l.drop (k + 1))) := by
          show _ = _
          rw [HW2.out, if_neg (by simp [h0]), HPK.out]
          rfl
        have hq0 : (y.2 == 0) = true := by simpa using h0
        clear HW2 h0
        go_wp2_with fail
        go_roundg (n - (k + 1))
        case measure => omega
        case rel => exact ⟨k + 1, y.1, rfl, by omega, by go_num, by omega, HW3, HO⟩
      · have HW3 : Hid (writesB m p l = y) := by
          show _ = _
          rw [HW2.out, if_pos (by simp [h0])]
        have hq0 : (y.2 == 0) = false := by simpa using h0
        clear HW2 h0 hJ1 hK1
        go_wp2_with fail
        go_ret
        rw [HW3.out]
        exact ⟨rfl, HO.out⟩
    · have HW3 : Hid (writesB m p l = Dk.sync m') := by
        show _ = _
        rw [HW.out, List.drop_of_length_le (by omega)]
        rfl
      obtain ⟨bk, -⟩ := HO.out.swap.blk
      have hb1 := lt_of_block bk
      have c0 : wr.cell? ⟨jb, 0, none⟩ = some (.pointer (some ⟨db, 0, none⟩)) := by rw [cell_of_heap bk]; rfl
      clear HW hJ1 hK1 bk
      go_wp2_with fail
      go_at_call 85
      refine (Owns.rsy HO.out (by omega)).mono ?_
      rintro e w2 ⟨rfl, ho⟩
      replace HO := Lib.hid ho
      clear ho c0 hb1
      go_wp2_with fail
      go_ret
      rw [HW3.out]
      exact ⟨rfl, HO.out⟩
end Go.Proofs.YtjcjpekndeoonaaGreatDoor
namespace Go.Cz.Jn
set_option linter.unusedSimpArgs false
set_option linter.unusedVariables false
open Go.Cz.Dk (Dm)
/-- The disk is on, as large as it was, and the sectors that P does not name read as before. -/
structure Keep (m m' : Dm) (P : Nat → Prop) : Prop where
  off : m'.off = false
  ok : m'.ok
  num : m'.st.length = m.st.length
  look : ∀ j, ¬ P j → Dk.look m' j = Dk.look m j
theorem Keep.refl {m : Dm} (h : m.ok) (ho : m.off = false) (P : Nat → Prop) : Keep m m P := ⟨ho, h, rfl, fun _ _ => rfl⟩
theorem Keep.trans {m m1 m2 : Dm} {P : Nat → Prop} (h : Keep m m1 P) (h2 : Keep m1 m2 P) : Keep m m2 P := ⟨h2.off, h2.ok, h2.num.trans h.num, fun j hj => (h2.look j hj).trans (h.look j hj)⟩
theorem Keep.more {m m1 : Dm} {P Q : Nat → Prop} (h : Keep m m1 P) (hq : ∀ j, P j → Q j) : Keep m m1 Q := ⟨h.off, h.ok, h.num, fun j hj => h.look j fun hp => hj (hq j hp)⟩
theorem count_keep {m : Dm} (h : (Dk.count m).2 = 0) : (Dk.count m).1.off = m.off ∧ (Dk.count m).1.st = m.st ∧ (Dk.count m).1.q = m.q := by
  unfold Dk.count at h ⊢
  split
  · exact ⟨rfl, rfl, rfl⟩
  · rename_i a w b hal
    rw [hal] at h
    dsimp only at h
    split
    · exact ⟨rfl, rfl, rfl⟩
    · rename_i ha
      rw [if_neg ha] at h
      cases h
theorem look_more (m : Dm) (p : Nat × Bytes) {j : Nat} (hj : j ≠ p.1) {m' : Dm} (hs : m'.st = m.st) (hq : m'.q = m.q ++ [p]) : Dk.look m' j = Dk.look m j := by
  unfold Dk.look
  rw [hs, hq, List.reverse_append, List.reverse_singleton, List.singleton_append, List.find?_cons]
  have : (p.1 == j) = false := by simpa using fun h => hj h.symm
  rw [this]
theorem write_keep {m : Dm} {p : Nat} {t : Bytes} (hok : m.ok) (ho : m.off = false) (h : (Dk.write m (p : Int) t).2 = 0) : Keep m (Dk.write m (p : Int) t).1 (· = p) := by
  have hw := Dk.ok_write hok (p : Int) t
  have hl := Dk.length_write m (p : Int) t
  unfold Dk.write at h hw hl ⊢
  rw [if_neg (by rw [ho]; decide)] at h hw hl ⊢
  by_cases hv : (Dk.valid m (p : Int) && t.length == 64) = true
  · rw [if_pos hv] at h hw hl ⊢
    obtain ⟨k1, k2, k3⟩ := count_keep h
    exact ⟨k1.trans ho, hw, hl, fun j hj => look_more m (p, t) hj k2 k3⟩
  · rw [if_neg hv] at h
    cases h
theorem sync_keep {m : Dm} (hok : m.ok) (ho : m.off = false) (h : (Dk.sync m).2 = 0) : Keep m (Dk.sync m).1 (fun _ => False) := by
  have hw := Dk.ok_sync hok
  have hl := Dk.length_sync m
  have hc : (Dk.count m).2 = 0 := by
    unfold Dk.sync at h
    rw [if_neg (by rw [ho]; decide)] at h
    split at h
    · exact h
    · rename_i hx; simpa using hx
  obtain ⟨k1, k2, k3⟩ := count_keep hc
  have e : Dk.sync m = ({ (Dk.count m).1 with st := Dk.settle (Dk.count m).1.st (Dk.count m).1.q, q := [] }, 0) := by
    unfold Dk.sync
    rw [if_neg (by rw [ho]; decide), if_neg (by simp [hc])]
  rw [e] at hw hl ⊢
  refine ⟨k1.trans ho, hw, hl, fun j _ => ?_⟩
  rw [look_calm rfl]
  dsimp only
  rw [k2, k3, ← look_gen m.q m.st hok.1 hok.2.1 j]
  rfl
theorem writes_keep : ∀ (ss : List Bytes) (m : Dm) (p : Nat), m.ok → m.off = false → (writesB m p ss).2 = 0 → Keep m (writesB m p ss).1 (fun j => p ≤ j ∧ j < p + ss.length)
  | [], m, p, hok, ho, h => (sync_keep hok ho h).more fun j hj => hj.elim
  | s :: r, m, p, hok, ho, h => by
    have e : writesB m p (s :: r) = if (Dk.write m (p : Int) s).2 != 0 then Dk.write m (p : Int) s else writesB (Dk.write m (p : Int) s).1 (p + 1) r := rfl
    by_cases h0 : (Dk.write m (p : Int) s).2 = 0
    · rw [e, if_neg (by simp [h0])] at h ⊢
      have h1 := write_keep hok ho h0
      have h2 := writes_keep r _ (p + 1) h1.ok h1.off h
      refine (h1.more ?_).trans (h2.more ?_)
      · intro j hj
        subst hj
        rw [List.length_cons]
        omega
      · intro j hj
        rw [List.length_cons]
        omega
    · rw [e, if_pos (by simp [h0])] at h
      exact absurd h h0
theorem fix_keep {m : Dm} {p c : Nat} {old : Bytes} (hok : m.ok) (ho : m.off = false) (h : (fixB m p old c).2 = 0) : Keep m (fixB m p old c).1 (· = p) := by
  unfold fixB at h ⊢
  split
  · exact Keep.refl hok ho _
  · rename_i hc
    rw [if_neg hc] at h
    have one : ∀ j, p ≤ j ∧ j < p + 1 → j = p := fun j hj => by omega
    by_cases hx : (writesB m p [zeroB]).2 = 0 ∧ 0 < c
    · rw [if_pos hx] at h ⊢
      have h1 := (writes_keep [zeroB] m p hok ho hx.1).more one
      exact h1.trans ((writes_keep [headB p c] _ p h1.ok h1.off h).more one)
    · rw [if_neg hx] at h ⊢
      exact (writes_keep [zeroB] m p hok ho h).more one
/-- The heads are mended one after the other; what is read there. -/
theorem open_fix2 {m : Dm} {c : Nat} {rs : List Bytes} (h : findB m = .ok (c, rs)) (hok : m.ok) (ho : m.off = false) (h3 : 3 ≤ m.st.length) : ∃ (D : Nat → Dm) (E : Nat → Int), D 0 = m ∧
    (∀ k, k < 2 → (∀ j, j < k → E j = 0) → Dk.read (D k) (k : Int) = (Dk.look m k, 0)) ∧ (∀ k, k < 2 → fixB (D k) k (Dk.look m k) c = (D (k + 1), E k)) ∧ (∀ k, k ≤ 2 → (D k).q.length ≤ m.q.length + 2 * k) ∧
    (∀ k, k < 2 → (∀ j, j < k → E j = 0) → E k ≠ 0 → openB m = (D (k + 1), E k, ⟨0, 0, [], false⟩)) ∧ ((∀ k, k < 2 → E k = 0) → openB m = (D 2, 0, ⟨m.st.length, c, rs, false⟩)) := by
  obtain ⟨D, E, h0, h1, h2, h4⟩ := open_fix h
  have hrd : ∀ (m' : Dm) (k : Nat), m'.off = false → k < m'.st.length → Dk.read m' (k : Int) = (Dk.look m' k, 0) := fun m' k ho hk => by
    unfold Dk.read Dk.valid
    rw [if_neg (by rw [ho]; decide), decide_eq_true (by omega : (0 : Int) ≤ (k : Int)), decide_eq_true (by omega : (k : Int) < (m'.st.length : Int))]
    rfl
  have hq : ∀ k, k < 2 → (D (k + 1)).q.length ≤ (D k).q.length + 2 := fun k hk => by
    have := Go.Proofs.YtjcjpekndeoonaaGreatDoor.fix_q (D k) k (Dk.look m k) c
    rw [h1 k hk] at this
    exact this
  refine ⟨D, E, h0, fun k hk hj => ?_, h1, fun k hk => ?_, h2, h4⟩
  · rcases (by omega : k = 0 ∨ k = 1) with rfl | rfl
    · rw [h0]
      exact hrd m 0 ho (by omega)
    · have e := h1 0 (by omega)
      rw [h0] at e
      have hk := fix_keep (m := m) (p := 0) (c := c) (old := Dk.look m 0) hok ho (by rw [e]; exact hj 0 (by omega))
      rw [e] at hk
      have hn : (D 1).st.length = m.st.length := hk.num
      have := hrd (D 1) 1 hk.off (by omega)
      rw [this, hk.look 1 (by decide)]
  · have a := hq 0 (by omega)
    have b := hq 1 (by omega)
    rw [h0] at a
    rcases (by omega : k = 0 ∨ k = 1 ∨ k = 2) with rfl | rfl | rfl
    · rw [h0]; omega
    · omega
    · show (D (1 + 1)).q.length ≤ _
      have a' : (D 1).q.length ≤ m.q.length + 2 := a
      omega
end Go.Cz.Jn
namespace Go.Proofs.YtjcjpekndeoonaaGreatDoor
open Go.RowKit Go.Cz Go.Cz.Jn
set_option linter.unusedSimpArgs false
set_option linter.unusedVariables false
attribute [local go_sem] bs_size bs_extract bs_append bs_toList
attribute [local irreducible] cList cPlan
theorem Owns.rread2 {w0 w : World} {ps : List Piece} {b : Nat} {m : Dk.Dm} (s : Int) (h : Owns w0 w (rdisk b m :: ps)) (hq : m.q.length ≤ 100000) : Calls Tryz.prog 54 #[.pointer (some ⟨b, 0, none⟩), .int .i64 s] w fun e w' => e = .returned (.tuple #[.string (bs (Dk.read m s).1), .int .i64 (Dk.read m s).2]) ∧ w' = w := by
  obtain ⟨S, hd, _⟩ := h.first
  exact rRead_c b s m S w hd hq
theorem Owns.place {w0 w : World} {ps : List Piece} {g p : Nat} (h : Owns w0 w (blk g (.cells #[.int .i64 (p : Int)] 3 (0, 0)) :: ps)) : IsPlaces w (some ⟨g, 0, none⟩) 1 p := by
  obtain ⟨bk, -⟩ := h.blk
  refine ⟨.inr ⟨g, 0, rfl, lt_of_block bk, fun j hj => ?_⟩⟩
  obtain rfl : j = 0 := by omega
  rw [cell_of_heap bk]
  rfl
/-- What the reference's 'Open' leaves. -/
def ROpenP (w0 : World) (db : Nat) (m : Dk.Dm) (ps : List Piece) (e : Ending) (w' : World) : Prop :=
  ((openB m).2.1 ≠ 0 ∧ e = .returned (.tuple #[.pointer none, .slice none 0 0, .int .i64 (openB m).2.1]) ∧ Owns w0 w' (rdisk db (openB m).1 :: ps)) ∨
  ((openB m).2.1 = 0 ∧ ∃ jb rv out, e = .returned (.tuple #[.pointer (some ⟨jb, 0, none⟩), out, .int .i64 0]) ∧
    Owns w0 w' (trow out (openB m).2.2.recs :: rjblk jb db (openB m).2.2.sectors (openB m).2.2.count rv false :: trow rv (openB m).2.2.recs :: rdisk db (openB m).1 :: ps))
theorem conv_nil (w : World) : (convert 56 9 (.slice none 0 0)).run Tryz.prog w = .ok (.string (bs [])) w := by
  exact run_convert_bytes_nil (P := Tryz.prog) w 56 5 Tryz.underlying56 Tryz.underlying5 0 0 9 Tryz.underlying9
set_option maxRecDepth 10000 in
theorem OpenNilR_c (w : World) : Calls Tryz.prog 17 #[.pointer none] w fun e w' => e = .returned (.tuple #[.pointer none, .slice none 0 0, .int .i64 1]) ∧ w' = w := by
  go_enter Tryz.func17, Tryz.ntmps17
  go_wp2_with fail
  go_ret3
  exact ⟨rfl, rfl⟩
set_option maxRecDepth 10000 in
set_option maxHeartbeats 8000000 in
theorem ROpen_c {w0 w : World} {ps : List Piece} {m : Dk.Dm} {db : Nat} (h : Owns w0 w (rdisk db m :: ps)) (hq : m.q.length ≤ 1000) :
    Calls Tryz.prog 17 #[.pointer (some ⟨db, 0, none⟩)] w (ROpenP w0 db m ps) := by
  have hlen := (Owns.rok h).2
  have HL := Lib.hid hlen
  have HK := Lib.hid (Owns.rok h).1
  have HQ := Lib.hid hq
  have HO := Lib.hid h
  have HRw : Hid (∀ (wr : World) (s : Int), Below w.heap.size w wr → Calls Tryz.prog 54 #[.pointer (some ⟨db, 0, none⟩), .int .i64 s] wr fun e w' => e = .returned (.tuple #[.string (bs (Dk.read m s).1), .int .i64 (Dk.read m s).2]) ∧ w' = wr) := fun wr s hb => Owns.rread s (h.below hb) (by omega)
  have HRd : Hid (∀ s : Int, Calls Tryz.prog 54 #[.pointer (some ⟨db, 0, none⟩), .int .i64 s] w fun e w' => e = .returned (.tuple #[.string (bs (Dk.read m s).1), .int .i64 (Dk.read m s).2]) ∧ w' = w) := fun s => Owns.rread s h (by omega)
  obtain ⟨i0, hi0, hz0, hz1, hz2⟩ := info_parts info_byte
  have HInf := Lib.hid (And.intro hi0 (And.intro hz0 (And.intro hz1 hz2)))
  clear hi0 hz0 hz1 hz2
  clear h hq
  go_enter Tryz.func17, Tryz.ntmps17
  go_wp2_with fail
  go_at_call 54
  by_cases hoff : m.off = true
  · have hrd : Dk.read m 0 = ([], 26) := by unfold Dk.read; rw [if_pos hoff]
    have HE : Hid (openB m = (m, 26, ⟨0, 0, [], false⟩)) := open_err (by unfold findB; rw [if_pos hoff])
    refine (HRd.out 0).mono ?_
    rintro e w1 ⟨rfl, hw⟩
    rw [hw, hrd]
    clear hw w1 hrd hoff HRd
    go_wp2_with fail
    go_loopg [5, 7] 0 (fun gk nv ev wr => gk = 0 ∧ nv = .int .i64 0 ∧ ev = .int .i64 26 ∧ w = wr)
    case atStart => exact ⟨rfl, rfl, rfl, rfl⟩
    case round =>
      rename_i J1 K1 hJ1 hK1
      obtain ⟨rfl, rfl, rfl, rfl⟩ := hrel
      clear hJ1 hK1
      go_wp2_with fail
      go_ret3
      exact .inl ⟨by rw [HE.out]; exact Int.ofNat_ne_zero.2 (by decide), by rw [HE.out]; rfl, by rw [HE.out]; exact HO.out⟩
  · have HF := Lib.hid hoff
    have hrd : ∀ k : Nat, Dk.read m (k : Int) = if k < m.st.length then (Dk.look m k, 0) else ([], 1) := fun k => by
      unfold Dk.read Dk.valid
      rw [if_neg hoff, decide_eq_true (by omega : (0 : Int) ≤ (k : Int))]
      by_cases hk : k < m.st.length
      · rw [if_pos hk, decide_eq_true (by omega : (k : Int) < (m.st.length : Int))]
        rfl
      · rw [if_neg hk, decide_eq_false (by omega : ¬ (k : Int) < (m.st.length : Int))]
        rfl
    obtain ⟨N, hN⟩ : ∃ N, N = m.st.length := ⟨_, rfl⟩
    rw [← hN] at hrd hlen
    have HN := Lib.hid hN
    have HR : Hid (∀ k : Nat, ∃ s : Bytes, (k < N → s = Dk.look m k ∧ s.length = 64) ∧ Calls Tryz.prog 54 #[.pointer (some ⟨db, 0, none⟩), .int .i64 (k : Int)] w fun e w' => e = .returned (.tuple #[.string (bs s), .int .i64 (if k < N then 0 else 1)]) ∧ w' = w) := fun k => by
      have h1 := HRd.out (k : Int)
      rw [hrd k] at h1
      by_cases hk : k < N
      · rw [if_pos hk] at h1 ⊢
        exact ⟨_, fun _ => ⟨rfl, look_len HK.out (by omega)⟩, h1⟩
      · rw [if_neg hk] at h1 ⊢
        exact ⟨_, fun h => absurd h hk, h1⟩
    have HR2 : Hid (∀ (wr : World) (j : Nat), Below w.heap.size w wr → j < N → Calls Tryz.prog 54 #[.pointer (some ⟨db, 0, none⟩), .int .i64 (j : Int)] wr fun e w' => e = .returned (.tuple #[.string (bs (Dk.look m j)), .int .i64 0]) ∧ w' = wr) := fun wr j hb hj => by
      have h1 := HRw.out wr (j : Int) hb
      rw [hrd j, if_pos hj] at h1
      exact h1
    have HLk : Hid (∀ j, j < N → (Dk.look m j).length = 64) := fun j hj => look_len HK.out (by omega)
    clear hrd hN hoff HRd HRw
    obtain ⟨s0, -, hc0⟩ := HR.out 0
    refine (show Calls _ _ #[.pointer (some ⟨db, 0, none⟩), .int .i64 0] _ _ from hc0).mono ?_
    rintro e w1 ⟨rfl, hw⟩
    rw [hw]
    obtain ⟨ev0, hev0⟩ : ∃ ev0 : Int, ev0 = if 0 < N then 0 else 1 := ⟨_, rfl⟩
    rw [← hev0]
    have HEv0 := Lib.hid hev0
    clear hw w1 hc0 hev0
    go_wp2_with fail
    go_loopg [5, 7] N (fun gk nv ev wr => ∃ k : Nat, gk = N - k ∧ k ≤ N ∧ nv = .int .i64 (k : Int) ∧ ev = .int .i64 (if k < N then 0 else 1) ∧ w = wr)
    case atStart => exact ⟨0, rfl, Nat.zero_le _, rfl, by rw [HEv0.out], rfl⟩
    case round =>
      rename_i J1 K1 hJ1 hK1
      clear HEv0
      obtain ⟨k, rfl, hk, rfl, rfl, rfl⟩ := hrel
      by_cases hlt : k < N
      · obtain ⟨s1, -, hc1⟩ := HR.out (k + 1)
        have HC1 := Lib.hid hc1
        rw [if_pos hlt]
        obtain ⟨ev, hev⟩ : ∃ ev : Int, ev = if k + 1 < N then 0 else 1 := ⟨_, rfl⟩
        rw [← hev] at HC1
        have HEv := Lib.hid hev
        clear hev hc1
        have e1 : (k : Int) + 1 = ((k + 1 : Nat) : Int) := by omega
        obtain ⟨k1, hk1⟩ : ∃ k1, k1 = k + 1 := ⟨_, rfl⟩
        rw [← hk1] at HC1 HEv e1
        have hkN : k1 ≤ N := by omega
        have hk4 : k1 ≤ 4000 := by omega
        have Hk1 := Lib.hid hk1
        clear hk1
        go_wp2_with fail
        go_at_call 54
        refine HC1.out.mono ?_
        rintro e w1 ⟨rfl, hw⟩
        rw [hw]
        clear hw w1 HC1 e1
        go_wp2_with fail
        go_roundg (N - k1)
        case measure => have := Hk1.out; omega
        case rel => exact ⟨k1, rfl, hkN, rfl, by rw [HEv.out], rfl⟩
      · rw [if_neg hlt]
        obtain rfl : k = N := by omega
        clear hJ1 hK1 hlt hk
        by_cases h3 : k < 3
        · have HE : Hid (openB m = (m, 1, ⟨0, 0, [], false⟩)) := open_err (by unfold findB; rw [if_neg HF.out, if_pos (by rw [← HN.out]; exact h3)])
          go_wp2_with fail
          go_ret3
          exact .inl ⟨by rw [HE.out]; exact Int.ofNat_ne_zero.2 (by decide), by rw [HE.out]; rfl, by rw [HE.out]; exact HO.out⟩
        · have hn3 : 3 ≤ k := by omega
          have hl0 := HLk.out 0 (by omega)
          have hl1 := HLk.out 1 (by omega)
          have HFL0 := Lib.hid (find_law HF.out (by rw [← HN.out]; exact hn3) rfl rfl)
          have HRa := Lib.hid (HR2.out w 0 (Below.refl _ _) (by omega))
          have HRb := Lib.hid (HR2.out w 1 (Below.refl _ _) (by omega))
          obtain ⟨s0, hs0⟩ : ∃ s0, s0 = Dk.look m 0 := ⟨_, rfl⟩
          obtain ⟨s1, hs1⟩ : ∃ s1, s1 = Dk.look m 1 := ⟨_, rfl⟩
          rw [← hs0] at hl0 HRa
          rw [← hs1] at hl1 HRb
          rw [← hs0, ← hs1, ← HN.out] at HFL0
          obtain ⟨c0, hc0⟩ : ∃ c0, c0 = countB 0 s0 (k - 2) := ⟨_, rfl⟩
          obtain ⟨c1, hc1⟩ : ∃ c1, c1 = countB 1 s1 (k - 2) := ⟨_, rfl⟩
          have hcl : -1 ≤ c0 ∧ c0 ≤ (k - 2 : Nat) ∧ -1 ≤ c1 ∧ c1 ≤ (k - 2 : Nat) := by rw [hc0, hc1]; exact ⟨(countB_le _ _ _).1, (countB_le _ _ _).2, (countB_le _ _ _).1, (countB_le _ _ _).2⟩
          obtain ⟨r, hr⟩ : ∃ r : Nat, r = k - 2 := ⟨_, rfl⟩
          rw [← hr] at hc0 hc1 hcl HFL0
          rw [← hc0, ← hc1] at HFL0
          have er : (k : Int) - 2 = (r : Int) := by omega
          have HCa := Lib.hid (fun w => rcount43_c 0 r s0 (by omega) (by omega) hl0 w)
          have HCb := Lib.hid (fun w => rcount43_c 1 r s1 (by omega) (by omega) hl1 w)
          rw [← hc0] at HCa
          rw [← hc1] at HCb
          obtain ⟨C, hC⟩ : ∃ C, C = max c0 c1 := ⟨_, rfl⟩
          have HCC := Lib.hid hC
          rw [← hC] at HFL0
          have HFL : Hid (findB m = if C < 0 then .error 27 else match piecesOf m C.toNat with
            | none => .error 27
            | some ps => match parseB ps.flatten with
              | none => .error 27
              | some rs => .ok (C.toNat, rs)) := HFL0.out
          have hCr : -1 ≤ C ∧ C ≤ (r : Int) := by omega
          have hrk : r + 2 = k := by omega
          have HRk := Lib.hid hrk
          clear hs0 hs1 hc0 hc1 hcl hr HFL0 hC hrk
          go_wp2_with fail
          go_at_call 54
          refine HRa.out.mono ?_
          rintro e w1 ⟨rfl, hw⟩
          rw [hw]
          clear hw w1 HRa
          go_wp2_with fail
          go_at_call 54
          refine HRb.out.mono ?_
          rintro e w1 ⟨rfl, hw⟩
          rw [hw]
          clear hw w1 HRb
          go_wp2_with fail
          go_at_call 55
          refine (HCa.out _).mono ?_
          rintro e w1 ⟨rfl, hb⟩
          have HB := Lib.hid hb
          clear hb HCa
          go_wp2_with fail
          go_at_call 55
          refine (HCb.out _).mono ?_
          rintro e w2 ⟨rfl, hb⟩
          replace HB : Hid (Below w.heap.size w w2) := HB.out.trans (hb.mono HB.out.size)
          clear hb HCb er
          have hm : max c0 c1 = C := HCC.out.symm
          by_cases hC0 : C < 0
          · have HE : Hid (openB m = (m, 27, ⟨0, 0, [], false⟩)) := open_err (by rw [HFL.out, if_pos hC0])
            clear HFL HCC
            replace HO := Lib.hid (HO.out.below HB.out)
            go_wp2_with fail
            go_ret3
            exact .inl ⟨by rw [HE.out]; exact Int.ofNat_ne_zero.2 (by decide), by rw [HE.out]; rfl, by rw [HE.out]; exact HO.out⟩
          · obtain ⟨c, rfl⟩ : ∃ c : Nat, C = (c : Int) := ⟨C.toNat, by omega⟩
            replace HFL : Hid (findB m = match piecesOf m c with
              | none => .error 27
              | some ps => match parseB ps.flatten with
                | none => .error 27
                | some rs => .ok (c, rs)) := by
              have h1 := HFL.out
              rw [if_neg hC0, Int.toNat_natCast] at h1
              exact h1
            have hc4 : c ≤ 4000 := by have := HRk.out; omega
            have hck : c + 2 ≤ k := by have := HRk.out; omega
            have HR0 : Hid (BRow w w2 (.slice none 0 0) ([] : List Bytes).flatten) := ORow.nil HB.out
            clear HCC hC0 hCr
            go_wp2_with fail
            clear hm
            go_loopg [13, 14] c (fun gk v i wr => ∃ (q : Nat) (pt : List Bytes), gk = c - q ∧ q ≤ c ∧ i = .int .i64 (q : Int) ∧ Hid (pt.length = q ∧ (∀ j, j < q → pieceB (2 + j) (Dk.look m (2 + j)) = pt[j]?) ∧ pt.flatten.length ≤ 46 * q ∧ (0 < q → pt.flatten ≠ [])) ∧ Hid (BRow w wr v pt.flatten))
            case atStart => exact ⟨0, [], rfl, Nat.zero_le _, rfl, Lib.hid ⟨rfl, fun j hj => by omega, by simp, fun h => by omega⟩, HR0⟩
            case round =>
              rename_i J2 K2 hJ2 hK2
              clear HR0 HB
              obtain ⟨q, pt, rfl, hq2, rfl, HPt, HR0⟩ := hrel
              by_cases hlt : q < c
              · have hq4 : q ≤ 4000 := by omega
                have HS := Lib.hid (HR2.out wr (2 + q) HR0.out.below (by omega))
                have hsl := HLk.out (2 + q) (by omega)
                obtain ⟨s, hs⟩ : ∃ s, s = Dk.look m (2 + q) := ⟨_, rfl⟩
                rw [← hs] at HS hsl
                have HPc := Lib.hid (fun w => rpiece_c (2 + q) s (by omega) hsl w)
                have HSe := Lib.hid hs
                have e2 : (2 : Int) + (q : Int) = ((2 + q : Nat) : Int) := by omega
                obtain ⟨q2, hq22⟩ : ∃ q2, q2 = 2 + q := ⟨_, rfl⟩
                rw [← hq22] at HS HPc e2 HSe
                have Hq2 := Lib.hid hq22
                have hq2l : q2 ≤ 4002 := by omega
                clear hs hq22
                go_wp2_with fail
                go_at_call 54
                refine HS.out.mono ?_
                rintro e w3 ⟨rfl, hw⟩
                rw [hw]
                clear hw w3 HS
                go_wp2_with fail
                go_at_call 56
                refine (HPc.out _).mono ?_
                rintro e w4 ⟨rfl, hb⟩
                replace HR0 := Lib.hid (HR0.out.keep hb)
                clear hb HPc e2
                cases hpc : pieceB q2 s with
                | none =>
                  have HE : Hid (openB m = (m, 27, ⟨0, 0, [], false⟩)) := open_err (by
                    rw [HFL.out, piecesOf_none hlt (by rw [← Hq2.out, ← HSe.out]; exact hpc)])
                  replace HO := Lib.hid (HO.out.below HR0.out.below)
                  clear HFL HPt hJ2 hK2 hpc
                  rw [Option.getD_none]
                  go_wp2_with fail
                  go_ret3
                  exact .inl ⟨by rw [HE.out]; exact Int.ofNat_ne_zero.2 (by decide), by rw [HE.out]; rfl, by rw [HE.out]; exact HO.out⟩
                | some p =>
                  rw [Option.getD_some]
                  obtain ⟨-, hp1, hp46⟩ := piece_inv hsl hpc
                  have hp0 : p ≠ [] := fun h => by rw [h] at hp1; simp at hp1
                  have hpq : (p == []) = false := by simpa using hp0
                  have HPt2 : Hid ((pt ++ [p]).length = q + 1 ∧ (∀ j, j < q + 1 → pieceB (2 + j) (Dk.look m (2 + j)) = (pt ++ [p])[j]?) ∧ (pt ++ [p]).flatten.length ≤ 46 * (q + 1) ∧ (0 < q + 1 → (pt ++ [p]).flatten ≠ [])) := by
                    obtain ⟨a1, a2, a3, a4⟩ := HPt.out
                    refine ⟨by simp [a1], fun j hj => ?_, ?_, fun _ => by simp [hp0]⟩
                    · by_cases hjq : j < q
                      · rw [a2 j hjq, List.getElem?_append_left (by omega)]
                      · obtain rfl : j = q := by omega
                        rw [List.getElem?_append_right (by omega), a1, Nat.sub_self, ← Hq2.out, ← HSe.out, hpc]
                        rfl
                    · rw [List.flatten_append, List.length_append, show ([p] : List Bytes).flatten = p by simp]
                      omega
                  have HPf : Hid ((pt ++ [p]).flatten = pt.flatten ++ p) := by show _ = _; simp
                  obtain ⟨tx, htx⟩ : ∃ tx, tx = pt.flatten := ⟨_, rfl⟩
                  have htl : tx.length ≤ 184000 := by rw [htx]; have := HPt.out.2.2.1; omega
                  rw [← htx] at HR0 HPf
                  clear HPt hpc htx hp1 hp0
                  go_wp2_with (at_builtin; go_loud (refine Lib.wpList_append_own_string _ rfl (.tmp 87) (.tmp 88) 56 9 rfl w.heap.size 5 i0 Tryz.underlying56 Tryz.underlying9 HInf.out.1 HInf.out.2.1 HInf.out.2.2.1 HInf.out.2.2.2 _ tx.length (bcells tx) rfl (ORow.base (e := 5) HR0.out) (bs p) rfl (by rw [bs_size]; unfold maxLen; omega) (by rw [bs_size]; omega) HR0.out.below.size ?_; intro v1 w5 hrow hgrow hblk; have HR1 := Lib.hid (ORow.ofText (v' := v1) (ys := bcells (tx ++ p)) (m := (tx ++ p).length) HR0.out (by rw [List.length_append, bcells_append]; simpa [bs_size, strCells_bs'] using hrow) hgrow); clear hrow hgrow hblk))
                  rw [← HPf.out] at HR1
                  go_roundg (c - (q + 1))
                  case measure => omega
                  case rel => exact ⟨q + 1, pt ++ [p], rfl, by omega, by go_num, HPt2, HR1⟩
              · obtain rfl : q = c := by omega
                have HPs : Hid (piecesOf m q = some pt) := piecesOf_some HPt.out.1 HPt.out.2.1
                obtain ⟨tx, htx⟩ : ∃ tx, tx = pt.flatten := ⟨_, rfl⟩
                have htl : tx.length ≤ 184000 := by rw [htx]; have := HPt.out.2.2.1; omega
                replace HFL : Hid (findB m = match parseB tx with
                  | none => .error 27
                  | some rs => .ok (q, rs)) := by
                  have h1 := HFL.out
                  rw [HPs.out] at h1
                  rw [htx]
                  exact h1
                rw [← htx] at HR0
                have hcv : (convert 56 9 u13).run Tryz.prog wr = .ok (.string (bs tx)) wr := by
                  rcases HR0.out.at with ⟨h1, h2⟩ | ⟨g, cp, h1, -⟩
                  · have : tx = [] := List.length_eq_zero_iff.1 h2
                    rw [h1, this]
                    exact conv_nil wr
                  · have h3 := HR0.out.row
                    rw [h1] at h3 ⊢
                    exact row_text' h3 rfl
                have HB := Lib.hid HR0.out.below
                have HPc := Lib.hid (rParse_c tx w wr HB.out (by omega))
                clear htx HPs HPt HR0 hJ2 hK2
                go_wp2_with fail
                go_at_call 57
                refine HPc.out.mono ?_
                clear HPc hcv
                rintro e w5 (⟨lv, rs, hrs, rfl, hrow⟩ | ⟨hn, rfl, hb⟩)
                · have hfind : findB m = .ok (q, rs) := by rw [HFL.out, hrs]
                  have HRs : Hid (rs.length ≤ 184000) := by show _ ≤ _; have := parse_count hrs; omega
                  obtain ⟨D, E, hD0, hDr, hDf, hDq, hDe, hDo⟩ := open_fix2 hfind HK.out (by simpa using HF.out) (by rw [← HN.out]; exact hn3)
                  rw [← HN.out] at hDo
                  have HDr := Lib.hid hDr
                  have HDf := Lib.hid hDf
                  have HDq := Lib.hid hDq
                  have HDe := Lib.hid hDe
                  have HDo := Lib.hid hDo
                  have HLh : Hid (∀ j, j < 2 → (Dk.look m j).length = 64) := fun j hj => HLk.out j (by omega)
                  have HO2 : Hid (Owns w0 w5 (trow lv rs :: rdisk db (D 0) :: ps)) := by
                    rw [hD0]
                    exact Lib.hid (trow_base (HO.out) (ORow.base hrow) hrow.below)
                  clear hfind hrs hrow hD0 hDr hDf hDq hDe hDo HFL HO HB HN HK HR HR2 HLk HF HL
                  obtain ⟨x5, n5, c5, rfl, -⟩ := Owns.texts HO2.out
                  have HN5 : Hid (n5 ≤ 184000) := by show _ ≤ _; rw [← small_of HO2.out]; exact HRs.out
                  have HY5 : Hid (x5 = none → c5 = 0) := fun hn => by
                    rcases (Owns.row HO2.out).2 with ⟨hv, -⟩ | ⟨_, _, _, hv, -⟩
                    · cases hv; rfl
                    · simp only [Value.slice.injEq] at hv
                      rw [hn] at hv
                      cases hv.1
                  obtain ⟨jb, hjb⟩ : ∃ jb, jb = w5.heap.size := ⟨_, rfl⟩
                  obtain ⟨W6, hW6⟩ : ∃ W6, W6 = w5.alloc (.cells #[.pointer (some ⟨db, 0, none⟩), .int .i64 (k : Int), .int .i64 (q : Int), .slice x5 n5 c5, .bool false] 81) := ⟨_, rfl⟩
                  have HO : Hid (Owns w0 W6 (rdisk db (D 0) :: rjblk jb db k q (.slice x5 n5 c5) false :: trow (.slice x5 n5 c5) rs :: ps)) := by
                    rw [hW6, hjb]
                    exact Lib.hid ((HO2.out.box _).re [2, 0, 1])
                  clear HO2
                  go_wp2_with fail
                  rw [← hjb, ← hW6]
                  clear hjb hW6
                  go_loopg [21] 2 (fun gk pv wr => ∃ z : Nat, gk = 2 - z ∧ z ≤ 2 ∧ pv = .int .i64 (z : Int) ∧ Hid (∀ j, j < z → E j = 0) ∧ Hid (Owns w0 wr (rdisk db (D z) :: rjblk jb db k q (.slice x5 n5 c5) false :: trow (.slice x5 n5 c5) rs :: ps)))
                  case atStart => exact ⟨0, rfl, Nat.zero_le _, rfl, Lib.hid fun j hj => by omega, HO⟩
                  case round =>
                    rename_i J3 K3 hJ3 hK3
                    clear HO
                    obtain ⟨z, rfl, hz, rfl, HEz, HO⟩ := hrel
                    by_cases hz2 : z < 2
                    · have HDz := Lib.hid (HDr.out z hz2 HEz.out)
                      have HQz : Hid ((D z).q.length ≤ 1010) := by show _ ≤ _; have h1 := HDq.out z hz; have h2 := HQ.out; omega
                      have HR3 := Lib.hid (Owns.rread2 (z : Int) HO.out (by have := HQz.out; omega))
                      rw [HDz.out] at HR3
                      have hsl := HLh.out z hz2
                      have HFx := Lib.hid (HDf.out z hz2)
                      obtain ⟨s, hs⟩ : ∃ s, s = Dk.look m z := ⟨_, rfl⟩
                      rw [← hs] at HR3 hsl HFx
                      clear hs HDz
                      obtain ⟨hh, hhh⟩ : ∃ hh, hh = headB z q := ⟨_, rfl⟩
                      have HHd := Lib.hid (fun w => rHead_c z q (by omega) (by omega) w)
                      rw [← hhh] at HHd
                      obtain ⟨zb, hzb⟩ : ∃ zb, zb = zeroB := ⟨_, rfl⟩
                      have HZb : Hid (∀ w, Calls Tryz.prog 59 #[] w fun e w' => e = .returned (.string (bs zb)) ∧ Below w.heap.size w w') := fun w => by rw [hzb]; exact ZeroR_c w
                      have HF0 : Hid ((s = hh ∨ (q = 0 ∧ s = zb)) → D (z + 1) = D z ∧ E z = 0) := fun h => by
                        have h1 := HFx.out
                        rw [hhh, hzb] at h
                        unfold fixB at h1
                        rw [if_pos h] at h1
                        simp only [Prod.mk.injEq] at h1
                        exact ⟨h1.1.symm, h1.2.symm⟩
                      have HF1 : Hid (¬ (s = hh ∨ (q = 0 ∧ s = zb)) → (if (writesB (D z) z [zb]).2 = 0 ∧ 0 < q then writesB (writesB (D z) z [zb]).1 z [hh] else writesB (D z) z [zb]) = (D (z + 1), E z)) := fun h => by
                        have h1 := HFx.out
                        rw [hhh, hzb] at h ⊢
                        unfold fixB at h1
                        rw [if_neg h] at h1
                        exact h1
                      clear hhh hzb HFx
                      go_wp2_with fail
                      go_at_call 54
                      refine HR3.out.mono ?_
                      rintro e w7 ⟨rfl, hw⟩
                      rw [hw]
                      clear hw w7 HR3
                      go_wp2_with fail
                      go_at_call 58
                      refine (HHd.out _).mono ?_
                      rintro e w7 ⟨rfl, hb⟩
                      replace HO := Lib.hid (HO.out.below hb)
                      clear hb
                      by_cases hsh : s = hh
                      · have hq1 : (s == hh) = true := by simpa using hsh
                        obtain ⟨hD1, hE1⟩ := HF0.out (.inl hsh)
                        have HEn : Hid (∀ j, j < z + 1 → E j = 0) := fun j hj => by
                          rcases Nat.lt_or_ge j z with h | h
                          · exact HEz.out j h
                          · obtain rfl : j = z := by omega
                            exact hE1
                        rw [← hD1] at HO
                        clear hsh hD1 hE1 HF0 HF1 HHd HZb HEz
                        go_wp2_with fail
                        go_roundg (2 - (z + 1))
                        case measure => omega
                        case rel => exact ⟨z + 1, rfl, by omega, by go_num, HEn, HO⟩
                      · have hq1 : (s == hh) = false := by simpa using hsh
                        have hyq0 : (writesB (D z) z [zb]).1.q.length ≤ (D z).q.length + 1 := by
                          have := writes_q [zb] (D z) z
                          simpa using this
                        by_cases hq0 : q = 0
                        · subst hq0
                          go_wp2_with fail
                          go_at_call 59
                          refine (HZb.out _).mono ?_
                          rintro e w8 ⟨rfl, hb⟩
                          replace HO := Lib.hid (HO.out.below hb)
                          clear hb
                          by_cases hsz : s = zb
                          · have hq2 : (s == zb) = true := by simpa using hsz
                            obtain ⟨hD1, hE1⟩ := HF0.out (.inr ⟨by simp, hsz⟩)
                            have HEn : Hid (∀ j, j < z + 1 → E j = 0) := fun j hj => by
                              rcases Nat.lt_or_ge j z with h | h
                              · exact HEz.out j h
                              · obtain rfl : j = z := by omega
                                exact hE1
                            rw [← hD1] at HO
                            clear hsz hD1 hE1 HF0 HF1 HHd HZb HEz hyq0 hsh
                            go_wp2_with fail
                            go_roundg (2 - (z + 1))
                            case measure => omega
                            case rel => exact ⟨z + 1, rfl, by omega, by go_num, HEn, HO⟩
                          · have hq2 : (s == zb) = false := by simpa using hsz
                            have hF := HF1.out (fun h => h.elim hsh fun h => hsz h.2)
                            rw [if_neg (fun h => by omega)] at hF
                            obtain ⟨y, hy⟩ : ∃ y, y = writesB (D z) z [zb] := ⟨_, rfl⟩
                            have Hy := Lib.hid hy
                            rw [← hy] at hF hyq0
                            have HDy : Hid (y.1 = D (z + 1)) := by show _ = _; rw [hF]
                            have HEy : Hid (y.2 = E z) := by show _ = _; rw [hF]
                            clear hF hy HF0 HF1 HHd hsz hsh
                            obtain ⟨g1, hg1⟩ : ∃ g1, g1 = w8.heap.size := ⟨_, rfl⟩
                            obtain ⟨Wa, hWa⟩ : ∃ Wa, Wa = w8.alloc (.cells #[.int .i64 (z : Int)] 3) := ⟨_, rfl⟩
                            have HOa : Hid (Owns w0 Wa (blk g1 (.cells #[.int .i64 (z : Int)] 3 (0, 0)) :: rdisk db (D z) :: rjblk jb db k 0 (.slice x5 n5 c5) false :: trow (.slice x5 n5 c5) rs :: ps)) := by
                              rw [hWa, hg1]
                              exact Lib.hid (HO.out.box _)
                            clear HO
                            go_wp2_with fail
                            rw [← hg1, ← hWa]
                            clear hg1 hWa
                            go_at_call 59
                            refine (HZb.out _).mono ?_
                            rintro e w8b ⟨rfl, hb⟩
                            replace HOa := Lib.hid (HOa.out.below hb)
                            clear hb
                            obtain ⟨g2, hg2⟩ : ∃ g2, g2 = w8b.heap.size := ⟨_, rfl⟩
                            obtain ⟨Wb, hWb⟩ : ∃ Wb, Wb = w8b.alloc (.cells #[.string (bs zb)] 9) := ⟨_, rfl⟩
                            have HOb : Hid (Owns w0 Wb (rdisk db (D z) :: rjblk jb db k 0 (.slice x5 n5 c5) false :: trow (.slice (some ⟨g2, 0, none⟩) 1 1) [zb] :: blk g1 (.cells #[.int .i64 (z : Int)] 3 (0, 0)) :: trow (.slice x5 n5 c5) rs :: ps)) := by
                              rw [hWb, hg2]
                              exact Lib.hid ((Owns.made HOa.out [zb] (by simp)).re [2, 3, 0, 1])
                            clear HOa
                            go_wp2_with fail
                            rw [← hg2, ← hWb]
                            clear hg2 hWb
                            go_at_call 60
                            refine (rwrite43_c z HOb.out (fun w' h => Owns.place h.swap) (fun w' h => is_of h) (by omega) (by decide) (by have := HQz.out; omega)).mono ?_
                            rintro e w9 ⟨rfl, ho⟩
                            replace HO := Lib.hid ((ho.re [2, 3, 0, 1]).pop.pop)
                            clear ho HOb
                            rw [← Hy.out] at HO ⊢
                            by_cases hy0 : y.2 = 0
                            · have hyq : (y.2 == 0) = true := by simpa using hy0
                              have HEn : Hid (∀ j, j < z + 1 → E j = 0) := fun j hj => by
                                rcases Nat.lt_or_ge j z with h | h
                                · exact HEz.out j h
                                · obtain rfl : j = z := by omega
                                  rw [← HEy.out]
                                  exact hy0
                              rw [HDy.out] at HO
                              clear hy0
                              go_wp2_with fail
                              go_roundg (2 - (z + 1))
                              case measure => omega
                              case rel => exact ⟨z + 1, rfl, by omega, by go_num, HEn, HO⟩
                            · have HE : Hid (openB m = (D (z + 1), E z, ⟨0, 0, [], false⟩)) := HDe.out z hz2 HEz.out (by rw [← HEy.out]; exact hy0)
                              have hyq : (y.2 == 0) = false := by simpa using hy0
                              have Hy0 := Lib.hid hy0
                              clear hJ3 hK3 HDr HDf HDq HDe HDo hy0
                              go_wp2_with fail
                              go_ret3
                              exact .inl ⟨by rw [HE.out]; show E z ≠ 0; rw [← HEy.out]; exact Hy0.out, by rw [HE.out, ← HEy.out]; rfl, by rw [HE.out]; show Owns w0 _ (rdisk db (D (z + 1)) :: ps); rw [← HDy.out]; exact (HO.out.re [1, 2, 0]).pop.pop⟩
                        · have hqp : 0 < q := by omega
                          have hF := HF1.out (fun h => h.elim hsh fun h => hq0 h.1)
                          obtain ⟨y1, hy1⟩ : ∃ y1, y1 = writesB (D z) z [zb] := ⟨_, rfl⟩
                          have Hy1 := Lib.hid hy1
                          rw [← hy1] at hF hyq0
                          have HY1 : Hid (y1.1.q.length ≤ 1011) := by show _ ≤ _; have := HQz.out; omega
                          have HFy := Lib.hid hF
                          clear hF hy1 HF0 HF1 hsh hyq0
                          have hqi : ¬ (q : Int) = 0 := by omega
                          obtain ⟨g1, hg1⟩ : ∃ g1, g1 = w7.heap.size := ⟨_, rfl⟩
                          obtain ⟨Wa, hWa⟩ : ∃ Wa, Wa = w7.alloc (.cells #[.int .i64 (z : Int)] 3) := ⟨_, rfl⟩
                          have HOa : Hid (Owns w0 Wa (blk g1 (.cells #[.int .i64 (z : Int)] 3 (0, 0)) :: rdisk db (D z) :: rjblk jb db k q (.slice x5 n5 c5) false :: trow (.slice x5 n5 c5) rs :: ps)) := by
                            rw [hWa, hg1]
                            exact Lib.hid (HO.out.box _)
                          clear HO
                          go_wp2_with fail
                          rw [← hg1, ← hWa]
                          clear hg1 hWa
                          go_at_call 59
                          refine (HZb.out _).mono ?_
                          rintro e w8b ⟨rfl, hb⟩
                          replace HOa := Lib.hid (HOa.out.below hb)
                          clear hb
                          obtain ⟨g2, hg2⟩ : ∃ g2, g2 = w8b.heap.size := ⟨_, rfl⟩
                          obtain ⟨Wb, hWb⟩ : ∃ Wb, Wb = w8b.alloc (.cells #[.string (bs zb)] 9) := ⟨_, rfl⟩
                          have HOb : Hid (Owns w0 Wb (rdisk db (D z) :: rjblk jb db k q (.slice x5 n5 c5) false :: trow (.slice (some ⟨g2, 0, none⟩) 1 1) [zb] :: blk g1 (.cells #[.int .i64 (z : Int)] 3 (0, 0)) :: trow (.slice x5 n5 c5) rs :: ps)) := by
                            rw [hWb, hg2]
                            exact Lib.hid ((Owns.made HOa.out [zb] (by simp)).re [2, 3, 0, 1])
                          clear HOa
                          go_wp2_with fail
                          rw [← hg2, ← hWb]
                          clear hg2 hWb
                          go_at_call 60
                          refine (rwrite43_c z HOb.out (fun w' h => Owns.place h.swap) (fun w' h => is_of h) (by omega) (by decide) (by have := HQz.out; omega)).mono ?_
                          rintro e w9 ⟨rfl, ho⟩
                          replace HO := Lib.hid ((ho.re [2, 3, 0, 1]).pop.pop)
                          clear ho HOb
                          rw [← Hy1.out] at HO ⊢
                          by_cases hy1 : y1.2 = 0
                          · have hy1q : (y1.2 == 0) = true := by simpa using hy1
                            have hqi2 : (0 : Int) < (q : Int) := by omega
                            have hF := HFy.out
                            rw [if_pos ⟨hy1, hqp⟩] at hF
                            obtain ⟨y, hy⟩ : ∃ y, y = writesB y1.1 z [hh] := ⟨_, rfl⟩
                            have Hy := Lib.hid hy
                            rw [← hy] at hF
                            have HDy : Hid (y.1 = D (z + 1)) := by show _ = _; rw [hF]
                            have HEy : Hid (y.2 = E z) := by show _ = _; rw [hF]
                            clear hF hy HFy hy1
                            obtain ⟨g1, hg1⟩ : ∃ g1, g1 = w9.heap.size := ⟨_, rfl⟩
                            obtain ⟨Wa, hWa⟩ : ∃ Wa, Wa = w9.alloc (.cells #[.int .i64 (z : Int)] 3) := ⟨_, rfl⟩
                            have HOa : Hid (Owns w0 Wa (blk g1 (.cells #[.int .i64 (z : Int)] 3 (0, 0)) :: rdisk db y1.1 :: rjblk jb db k q (.slice x5 n5 c5) false :: trow (.slice x5 n5 c5) rs :: ps)) := by
                              rw [hWa, hg1]
                              exact Lib.hid (HO.out.box _)
                            clear HO
                            go_wp2_with fail
                            rw [← hg1, ← hWa]
                            clear hg1 hWa
                            go_at_call 58
                            refine (HHd.out _).mono ?_
                            rintro e w8c ⟨rfl, hb⟩
                            replace HOa := Lib.hid (HOa.out.below hb)
                            clear hb
                            obtain ⟨g2, hg2⟩ : ∃ g2, g2 = w8c.heap.size := ⟨_, rfl⟩
                            obtain ⟨Wb, hWb⟩ : ∃ Wb, Wb = w8c.alloc (.cells #[.string (bs hh)] 9) := ⟨_, rfl⟩
                            have HOb : Hid (Owns w0 Wb (rdisk db y1.1 :: rjblk jb db k q (.slice x5 n5 c5) false :: trow (.slice (some ⟨g2, 0, none⟩) 1 1) [hh] :: blk g1 (.cells #[.int .i64 (z : Int)] 3 (0, 0)) :: trow (.slice x5 n5 c5) rs :: ps)) := by
                              rw [hWb, hg2]
                              exact Lib.hid ((Owns.made HOa.out [hh] (by simp)).re [2, 3, 0, 1])
                            clear HOa
                            go_wp2_with fail
                            rw [← hg2, ← hWb]
                            clear hg2 hWb
                            go_at_call 60
                            refine (rwrite43_c z HOb.out (fun w' h => Owns.place h.swap) (fun w' h => is_of h) (by omega) (by decide) (by have := HY1.out; omega)).mono ?_
                            rintro e w9 ⟨rfl, ho⟩
                            replace HO := Lib.hid ((ho.re [2, 3, 0, 1]).pop.pop)
                            clear ho HOb
                            rw [← Hy.out] at HO ⊢
                            by_cases hy0 : y.2 = 0
                            · have hyq : (y.2 == 0) = true := by simpa using hy0
                              have HEn : Hid (∀ j, j < z + 1 → E j = 0) := fun j hj => by
                                rcases Nat.lt_or_ge j z with h | h
                                · exact HEz.out j h
                                · obtain rfl : j = z := by omega
                                  rw [← HEy.out]
                                  exact hy0
                              rw [HDy.out] at HO
                              clear hy0
                              go_wp2_with fail
                              go_roundg (2 - (z + 1))
                              case measure => omega
                              case rel => exact ⟨z + 1, rfl, by omega, by go_num, HEn, HO⟩
                            · have HE : Hid (openB m = (D (z + 1), E z, ⟨0, 0, [], false⟩)) := HDe.out z hz2 HEz.out (by rw [← HEy.out]; exact hy0)
                              have hyq : (y.2 == 0) = false := by simpa using hy0
                              have Hy0 := Lib.hid hy0
                              clear hJ3 hK3 HDr HDf HDq HDe HDo hy0
                              go_wp2_with fail
                              go_ret3
                              exact .inl ⟨by rw [HE.out]; show E z ≠ 0; rw [← HEy.out]; exact Hy0.out, by rw [HE.out, ← HEy.out]; rfl, by rw [HE.out]; show Owns w0 _ (rdisk db (D (z + 1)) :: ps); rw [← HDy.out]; exact (HO.out.re [1, 2, 0]).pop.pop⟩
                          · have hF := HFy.out
                            rw [if_neg (fun h => hy1 h.1)] at hF
                            obtain ⟨y, hy⟩ : ∃ y, y = y1 := ⟨_, rfl⟩
                            rw [← hy] at hF HO hy1 ⊢
                            have HDy : Hid (y.1 = D (z + 1)) := by show _ = _; rw [hF]
                            have HEy : Hid (y.2 = E z) := by show _ = _; rw [hF]
                            have hy0 := hy1
                            clear hF hy HFy hy1
                            have HE : Hid (openB m = (D (z + 1), E z, ⟨0, 0, [], false⟩)) := HDe.out z hz2 HEz.out (by rw [← HEy.out]; exact hy0)
                            have hyq : (y.2 == 0) = false := by simpa using hy0
                            have Hy0 := Lib.hid hy0
                            clear hJ3 hK3 HDr HDf HDq HDe HDo hy0
                            go_wp2_with fail
                            go_ret3
                            exact .inl ⟨by rw [HE.out]; show E z ≠ 0; rw [← HEy.out]; exact Hy0.out, by rw [HE.out, ← HEy.out]; rfl, by rw [HE.out]; show Owns w0 _ (rdisk db (D (z + 1)) :: ps); rw [← HDy.out]; exact (HO.out.re [1, 2, 0]).pop.pop⟩
                    · obtain rfl : z = 2 := by omega
                      have HE : Hid (openB m = (D 2, 0, ⟨k, q, rs, false⟩)) := HDo.out HEz.out
                      clear hJ3 hK3 HDr HDf HDq HDe HDo
                      obtain ⟨g0, hg0⟩ : ∃ g0, g0 = wr.heap.size := ⟨_, rfl⟩
                      have HEm := Owns.made (HO.out.re [1, 2, 0]) [] (by decide)
                      rw [← hg0] at HEm
                      have HEo := Lib.hid HEm
                      clear HEm HO
                      go_wp2_with (refine wpList_plain rfl fun K hK => wp_append_texts (.tmp 152) (.tmp 153) (by rfl) _ 0 [] (by rfl) (by rw [← hg0]; exact Owns.row HEo.out) x5 n5 c5 rs (by rfl) (is_of (HEo.out.re [2, 0, 1])) HY5.out (by have := HN5.out; omega) ?_; intro v' w10 hrow hgrow hblk; have hp := Owns.grew (l' := rs) HEo.out (by rw [show rs.length = 0 + n5 by rw [small_of (HEo.out.re [2, 0, 1])]; omega]; exact hrow) (by rw [hg0]; exact hgrow) (by rw [hg0]; exact hblk); have Hp := Lib.hid hp; clear hp hrow hgrow hblk)
                      go_ret3
                      refine .inr ⟨by rw [HE.out], jb, .slice x5 n5 c5, v', rfl, ?_⟩
                      rw [HE.out]
                      exact Hp.out
                · have HE : Hid (openB m = (m, 27, ⟨0, 0, [], false⟩)) := open_err (by rw [HFL.out, hn])
                  replace HO := Lib.hid (HO.out.below hb)
                  clear HFL hn hb
                  go_wp2_with fail
                  go_ret3
                  exact .inl ⟨by rw [HE.out]; exact Int.ofNat_ne_zero.2 (by decide), by rw [HE.out]; rfl, by rw [HE.out]; exact HO.out⟩
end Go.Proofs.YtjcjpekndeoonaaGreatDoor
namespace Go.Cz.Jn
/-- The cells of places from p on. -/
def ics (p n : Nat) : List Value := (List.range n).map fun j => .int .i64 ((p + j : Nat) : Int)
theorem ics_len (p n : Nat) : (ics p n).length = n := by simp [ics]
theorem ics_succ (p n : Nat) : ics p (n + 1) = ics p n ++ [.int .i64 ((p + n : Nat) : Int)] := by simp [ics, List.range_succ]
theorem append_steps {m : Dk.Dm} {sec cnt : Nat} {recs rs : List Bytes} (hl : longB rs = false) (hr : ¬ (sec : Int) - 2 - (cnt : Int) < ((piecesB (textB rs)).length : Int)) (hn : rs ≠ []) {x : Dk.Dm × Int} (hx : stepsB m cnt (piecesB (textB rs)) = x) :
    appendB m ⟨sec, cnt, recs, false⟩ rs = (x.1, x.2, if x.2 = 0 then ⟨sec, cnt + (piecesB (textB rs)).length, recs ++ rs, false⟩ else ⟨sec, cnt, recs, true⟩) := by
  unfold appendB
  rw [if_neg (by simp), if_neg (by rw [hl]; decide), if_neg (by unfold Jm.room; exact hr), if_neg hn, hx]
end Go.Cz.Jn
namespace Go.Proofs.YtjcjpekndeoonaaGreatDoor
open Go.RowKit Go.Cz Go.Cz.Jn
set_option linter.unusedSimpArgs false
set_option linter.unusedVariables false
attribute [local go_sem] bs_size bs_extract bs_append bs_toList
attribute [local irreducible] cList cPlan
theorem info_jint : (Tryz.prog.info? 3).map (fun i => (i.zero, i.size, i.bytes)) = some (some (.int .i64 0), 1, 8) := by kernel_rfl
/-- A row of places. -/
def irow (v : Value) (p n : Nat) : Piece where
  lies w S := w.ownsRow 0 3 1 v n (ics p n) ∧ S = v.ownBlock.toList
  lt := by
    rintro w S ⟨h, rfl⟩ k hk
    rcases h.2 with ⟨rfl, _⟩ | ⟨g, cap, cur, rfl, _, hg, _⟩
    · simp [Value.ownBlock] at hk
    · simp [Value.ownBlock] at hk
      subst hk
      exact lt_of_block hg
  keep := by
    rintro w w' S T ⟨h, rfl⟩ hm hd
    refine ⟨⟨h.1, ?_⟩, rfl⟩
    rcases h.2 with h0 | ⟨g, cap, cur, rfl, h2, hg, h4⟩
    · exact .inl h0
    · exact .inr ⟨g, cap, cur, rfl, h2, hm.heap hg (hd g (by simp [Value.ownBlock])), h4⟩
section
variable {w0 w w' : World} {ps : List Piece} {v v' : Value} {p n n' : Nat}
theorem Owns.irow (h : Owns w0 w ps) : Owns w0 w (Go.Proofs.YtjcjpekndeoonaaGreatDoor.irow (.slice none 0 0) p 0 :: ps) :=
  h.push (Q := Go.Proofs.YtjcjpekndeoonaaGreatDoor.irow (.slice none 0 0) p 0) ⟨World.ownsRow_nil _ _ _ _, rfl⟩ (Below.refl _ _) fun k hk => by simp [Value.ownBlock] at hk
theorem Owns.irows (h : Owns w0 w (Go.Proofs.YtjcjpekndeoonaaGreatDoor.irow v p n :: ps)) : w.ownsRow 0 3 1 v n (ics p n) := by
  obtain ⟨S, ⟨hr, -⟩, -⟩ := h.first
  exact hr
theorem Owns.igrew (h : Owns w0 w (Go.Proofs.YtjcjpekndeoonaaGreatDoor.irow v p n :: ps)) (hr : w'.ownsRow 0 3 1 v' n' (ics p n')) (hg : w.grownBy w' v.ownBlock) (hb : v'.ownBlock = v.ownBlock ∨ v'.ownBlock = some w.heap.size) : Owns w0 w' (Go.Proofs.YtjcjpekndeoonaaGreatDoor.irow v' p n' :: ps) := by
  obtain ⟨S, ⟨h1, rfl⟩, -, hf⟩ := h.open
  refine hf w' _ v'.ownBlock.toList ⟨hr, rfl⟩ ⟨hg.os, hg.tape, hg.output, hg.size, fun k hk hn => hg.block k hk fun e => hn (by rw [← e]; simp)⟩ fun k hk => ?_
  rcases hb with hb | hb
  · exact .inl (by rw [← hb]; exact hk)
  · rw [hb] at hk
    simp at hk
    exact .inr (by omega)
theorem Owns.iform (h : Owns w0 w (Go.Proofs.YtjcjpekndeoonaaGreatDoor.irow v p n :: ps)) : ∃ x c, v = .slice x n c ∧ IsPlaces w x n p := by
  have hr := Owns.irows h
  rcases hr.2 with ⟨hv, h0⟩ | ⟨g, cap, cur, hv, h2, hg, h4, h5, h6, h7⟩
  · exact ⟨none, 0, by rw [hv, h0], ⟨.inl h0⟩⟩
  · refine ⟨_, _, hv, ⟨.inr ⟨g, 0, rfl, lt_of_block hg, fun j hj => ?_⟩⟩⟩
    rw [Nat.zero_add, cell_of_heap hg]
    have h8 : (ics p n)[j]? = some (.int .i64 ((p + j : Nat) : Int)) := by simp [ics, hj]
    rw [← h7, List.getElem?_take] at h8
    split at h8
    · simpa using h8
    · cases h8
theorem Owns.iplaces {x : Option Addr} {c k : Nat} (h : Owns w0 w (Go.Proofs.YtjcjpekndeoonaaGreatDoor.irow (.slice x k c) p n :: ps)) : IsPlaces w x n p := by
  obtain ⟨x', c', he, h1⟩ := Owns.iform h
  cases he
  exact h1
end
set_option maxHeartbeats 2000000 in
theorem RRoom_c {w0 w : World} {ps : List Piece} {db jb sec cnt : Nat} {rv : Value} {br : Bool} (h : Owns w0 w (rjblk jb db sec cnt rv br :: ps)) (h1 : sec ≤ 1000000000) (h2 : cnt ≤ 1000000000) :
    Calls Tryz.prog 19 #[.pointer (some ⟨jb, 0, none⟩)] w fun e w' => e = .returned (.int .i64 ((sec : Int) - 2 - cnt)) ∧ Below w.heap.size w w' := by
  obtain ⟨bk, -⟩ := h.blk
  have hb1 := lt_of_block bk
  have c1 : w.cell? ⟨jb, 1, none⟩ = some (.int .i64 (sec : Int)) := by rw [cell_of_heap bk]; rfl
  have c2 : w.cell? ⟨jb, 2, none⟩ = some (.int .i64 (cnt : Int)) := by rw [cell_of_heap bk]; rfl
  clear bk h
  go_enter Tryz.func19, Tryz.ntmps19
  go_wp2_with fail
  refine wp_region_can [] (List.range 11) (by kernel_rfl) (by kernel_rfl) ?_
  iterate 11 (refine cl_do rfl rfl rfl rfl (fun _ _ => ?_); go_wp2_with fail)
  refine cl_nil ?_
  go_wp2_with fail
  go_ret
  exact ⟨rfl, (Below.refl _ _).drew⟩
set_option maxHeartbeats 2000000 in
theorem RRecords_c {w0 w : World} {ps : List Piece} {db jb sec cnt : Nat} {rv : Value} {br : Bool} (h : Owns w0 w (rjblk jb db sec cnt rv br :: ps)) :
    Calls Tryz.prog 18 #[.pointer (some ⟨jb, 0, none⟩)] w fun e w' => e = .returned rv ∧ w' = w := by
  obtain ⟨bk, -⟩ := h.blk
  have hb1 := lt_of_block bk
  have c3 : w.cell? ⟨jb, 3, none⟩ = some rv := by rw [cell_of_heap bk]; rfl
  clear bk h
  go_enter Tryz.func18, Tryz.ntmps18
  go_wp2_with fail
  go_ret
  exact ⟨rfl, rfl⟩
theorem RNil_c (w : World) : Calls Tryz.prog 18 #[.pointer none] w fun e w' => e = .returned (.slice none 0 0) ∧ w' = w := by
  go_enter Tryz.func18, Tryz.ntmps18
  go_wp2_with fail
  go_ret
  exact ⟨rfl, rfl⟩
theorem RNilRoom_c (w : World) : Calls Tryz.prog 19 #[.pointer none] w fun e w' => e = .returned (.int .i64 0) ∧ w' = w := by
  go_enter Tryz.func19, Tryz.ntmps19
  go_wp2_with fail
  go_ret
  exact ⟨rfl, rfl⟩
theorem RNilApp_c (v : Value) (w : World) : Calls Tryz.prog 28 #[.pointer none, v] w fun e w' => e = .returned (.int .i64 1) ∧ w' = w := by
  go_enter Tryz.func28, Tryz.ntmps28
  go_wp2_with fail
  go_ret
  exact ⟨rfl, rfl⟩
/-- What the reference's 'Append' leaves. -/
def RAppP (w0 : World) (db jb : Nat) (m : Dk.Dm) (j : Jm) (l : List Bytes) (ps : List Piece) (e : Ending) (w' : World) : Prop :=
  ∃ rv, e = .returned (.int .i64 (appendB m j l).2.1) ∧ Owns w0 w' (rjblk jb db (appendB m j l).2.2.sectors (appendB m j l).2.2.count rv (appendB m j l).2.2.broken :: trow rv (appendB m j l).2.2.recs :: rdisk db (appendB m j l).1 :: ps)
set_option maxRecDepth 10000 in
set_option maxHeartbeats 8000000 in
theorem RAppend_c {w0 w : World} {ps : List Piece} {m : Dk.Dm} {db jb sec cnt : Nat} {rv : Value} {br : Bool} {recs l : List Bytes} {x : Option Addr} {n c : Nat} (h : Owns w0 w (rjblk jb db sec cnt rv br :: trow rv recs :: rdisk db m :: ps)) (hT : ∀ w', Owns w0 w' ps → IsTexts w' x n l) (hy : x = none → c = 0) (hl : (textB l).length ≤ 1000000) (hn : n ≤ 1000000) (hq : m.q.length ≤ 1000) (hc : cnt + 2 ≤ sec) (hsec : sec ≤ 4000) (hr : recs.length ≤ 1000000) :
    Calls Tryz.prog 28 #[.pointer (some ⟨jb, 0, none⟩), .slice x n c] w (RAppP w0 db jb m ⟨sec, cnt, recs, br⟩ l ps) := by
  have HT := Lib.hid hT
  have HY := Lib.hid hy
  have HTl := Lib.hid hl
  have HQ := Lib.hid hq
  have HRl := Lib.hid hr
  have HSc := Lib.hid (And.intro hc hsec)
  have HLs : Hid (∀ s ∈ l, s.length ≤ 1000000000) := fun s hs => by
    have h1 := lenSum_mem hs
    have h2 := lenSum_text l
    omega
  have hlen := (hT w h.pop.pop.pop).len
  have HO : Hid (Owns w0 w (rjblk jb db sec cnt rv br :: trow rv recs :: rdisk db m :: ps)) := h
  obtain ⟨xr, nr, cr, rfl, hxr⟩ := Owns.texts h.swap
  have HNr : Hid (nr ≤ 1000000) := by show _ ≤ _; rw [← hxr.len]; exact hr
  have HYr : Hid (xr = none → cr = 0) := fun hn => by
    rcases (Owns.row h.swap).2 with ⟨hv, -⟩ | ⟨_, _, _, hv, -⟩
    · cases hv; rfl
    · simp only [Value.slice.injEq] at hv
      rw [hn] at hv
      cases hv.1
  clear h hT hy hl hq hr hc hsec hxr
  obtain ⟨bk, -⟩ := HO.out.blk
  have hb1 := lt_of_block bk
  have c4 : World.cell? w ⟨jb, 4, none⟩ = some (.bool br) := by rw [cell_of_heap bk]; rfl
  clear bk
  cases br
  case «true» =>
    have HE : Hid (appendB m ⟨sec, cnt, recs, true⟩ l = (m, 12, ⟨sec, cnt, recs, true⟩)) := by show _ = _; unfold appendB; rw [if_pos rfl]
    go_enter Tryz.func28, Tryz.ntmps28
    go_wp2_with fail
    go_ret
    exact ⟨.slice xr nr cr, by rw [HE.out]; rfl, by rw [HE.out]; exact HO.out⟩
  case «false» =>
    go_enter Tryz.func28, Tryz.ntmps28
    go_wp2_with fail
    clear c4 hb1
    go_at_call 12
    refine (RLong_c x n c l _ (HT.out _ HO.out.pop.pop.pop) HLs.out hn).mono ?_
    rintro e w1 ⟨rfl, hw⟩
    rw [hw]
    clear hw w1
    by_cases hlg : longB l = true
    · have HE : Hid (appendB m ⟨sec, cnt, recs, false⟩ l = (m, 2, ⟨sec, cnt, recs, false⟩)) := by show _ = _; unfold appendB; rw [if_neg (by simp), if_pos hlg]
      rw [hlg]
      clear hlg
      go_wp2_with fail
      go_ret
      exact ⟨.slice xr nr cr, by rw [HE.out]; rfl, by rw [HE.out]; exact HO.out⟩
    · have hlf : longB l = false := by simpa using hlg
      have HLf := Lib.hid hlf
      rw [hlf]
      clear hlf hlg
      go_wp2_with fail
      go_at_call 11
      refine (RText_c x n c l _ (HT.out _ HO.out.pop.pop.pop) HTl.out hn).mono ?_
      rintro e w1 ⟨rfl, hb⟩
      replace HO := Lib.hid (HO.out.below hb)
      obtain ⟨tx, htx⟩ : ∃ tx, tx = textB l := ⟨_, rfl⟩
      rw [← htx]
      have HTx : Hid (tx.length ≤ 1000000) := by show _ ≤ _; rw [htx]; exact HTl.out
      have HTe := Lib.hid htx
      clear hb htx
      go_wp2_with fail
      go_at_call 10
      refine (RPieces_c tx _ _ (Below.refl _ _) (by have := HTx.out; omega)).mono ?_
      rintro e w2 ⟨pv, rfl, hrow⟩
      obtain ⟨P, hP⟩ : ∃ P, P = piecesB tx := ⟨_, rfl⟩
      have HPe := Lib.hid hP
      rw [← hP] at hrow
      have HOp : Hid (Owns w0 w2 (trow pv P :: rjblk jb db sec cnt (.slice xr nr cr) false :: trow (.slice xr nr cr) recs :: rdisk db m :: ps)) := trow_base HO.out (ORow.base hrow) hrow.below
      have HPs : Hid (∀ s ∈ P, s.length ≤ 46) := fun s hs => by rw [hP] at hs; exact (piecesB_mem hs).2
      have hPl : P.length ≤ 1000000 := by rw [hP]; have := piecesB_le tx; have := HTx.out; omega
      clear hrow hP HO
      obtain ⟨px, pn, pc, rfl, hpt⟩ := Owns.texts HOp.out
      obtain rfl : P.length = pn := hpt.len
      obtain ⟨N, hN⟩ : ∃ N, N = P.length := ⟨_, rfl⟩
      have HN := Lib.hid hN
      rw [← hN] at HOp hPl ⊢
      clear hpt hN
      replace HO : Hid (Owns w0 w2 (rjblk jb db sec cnt (.slice xr nr cr) false :: trow (.slice px N pc) P :: trow (.slice xr nr cr) recs :: rdisk db m :: ps)) := HOp.out.swap
      clear HOp
      go_wp2_with fail
      go_at_call 19
      refine (RRoom_c HO.out (by have := HSc.out; omega) (by have := HSc.out; omega)).mono ?_
      rintro e w3 ⟨rfl, hb⟩
      replace HO := Lib.hid (HO.out.below hb)
      obtain ⟨rm, hrm⟩ : ∃ rm : Int, rm = (sec : Int) - 2 - (cnt : Int) := ⟨_, rfl⟩
      rw [← hrm]
      have HRm := Lib.hid hrm
      clear hb hrm
      by_cases hr : rm < (N : Int)
      · have HE : Hid (appendB m ⟨sec, cnt, recs, false⟩ l = (m, 28, ⟨sec, cnt, recs, false⟩)) := by
          show _ = _
          unfold appendB
          rw [if_neg (by simp), if_neg (by rw [HLf.out]; decide), if_pos (by unfold Jm.room; rw [← HTe.out, ← HPe.out, ← HN.out]; show (sec : Int) - 2 - (cnt : Int) < _; rw [← HRm.out]; exact hr)]
        go_wp2_with fail
        go_ret
        exact ⟨.slice xr nr cr, by rw [HE.out]; rfl, by rw [HE.out]; exact HO.out.swap.pop⟩
      · by_cases hn0 : n = 0
        · have hl0 : l = [] := List.length_eq_zero_iff.1 (by omega)
          have HE : Hid (appendB m ⟨sec, cnt, recs, false⟩ l = (m, 0, ⟨sec, cnt, recs, false⟩)) := by
            show _ = _
            unfold appendB
            rw [if_neg (by simp), if_neg (by rw [HLf.out]; decide), if_neg (by unfold Jm.room; rw [← HTe.out, ← HPe.out, ← HN.out]; show ¬ (sec : Int) - 2 - (cnt : Int) < _; rw [← HRm.out]; exact hr), if_pos hl0]
          subst hn0
          go_wp2_with fail
          go_ret
          exact ⟨.slice xr nr cr, by rw [HE.out]; rfl, by rw [HE.out]; exact HO.out.swap.pop⟩
        · have hln : l ≠ [] := fun h => by rw [h] at hlen; simp at hlen; omega
          have hN100 : N ≤ 4000 := by have := HSc.out; have h4 : rm = (sec : Int) - 2 - (cnt : Int) := HRm.out; omega
          have HNx : Hid (cnt + N + 2 ≤ sec) := by
            show _ ≤ _
            have h4 : rm = (sec : Int) - 2 - (cnt : Int) := HRm.out
            have := HSc.out
            omega
          have HAp : Hid (∀ X : Dk.Dm × Int, stepsB m cnt P = X → appendB m ⟨sec, cnt, recs, false⟩ l = (X.1, X.2, if X.2 = 0 then ⟨sec, cnt + N, recs ++ l, false⟩ else ⟨sec, cnt, recs, true⟩)) := fun X hX => by
            have := append_steps (m := m) (sec := sec) (cnt := cnt) (recs := recs) (rs := l) HLf.out (by rw [← HTe.out, ← HPe.out, ← HN.out, ← HRm.out]; exact hr) hln (x := X) (by rw [← HTe.out, ← HPe.out]; exact hX)
            rw [← HTe.out, ← HPe.out, ← HN.out] at this
            exact this
          obtain ⟨D, E, hD0, hDw, hDs⟩ := steps_law m cnt P
          have HDq : Hid (∀ k, k ≤ 4 → (D k).q.length ≤ 1000 + 4001 * k) := by
            intro k
            induction k with
            | zero => intro _; rw [hD0]; have := HQ.out; omega
            | succ k ih =>
              intro hk
              have h1 := ih (by omega)
              have h2 := writes_q (rowsB cnt P k) (D k) (placeB cnt k)
              rw [hDw k (by omega)] at h2
              have h3 := rowsB_len cnt P k
              rw [← HN.out] at h3
              show (D (k + 1)).q.length ≤ _
              dsimp only at h2
              omega
          have HDw := Lib.hid hDw
          have HDs := Lib.hid hDs
          have HO2 : Hid (Owns w0 w3 (irow (.slice none 0 0) (2 + cnt) 0 :: trow (.slice none 0 0) (List.replicate 0 zeroB) :: trow (.slice none 0 0) (fullTo cnt P 0) :: trow (.slice px N pc) P :: rjblk jb db sec cnt (.slice xr nr cr) false :: trow (.slice xr nr cr) recs :: rdisk db (D 0) :: ps)) := by
            rw [hD0]
            exact Lib.hid (Owns.irow (trow_base (v := .slice none 0 0) (l := []) (trow_base (v := .slice none 0 0) (l := []) HO.out.swap (World.ownsRow_nil _ _ _ _) (Below.refl _ _)) (World.ownsRow_nil _ _ _ _) (Below.refl _ _)))
          have hn0i : ((n : Int) == 0) = false := by simp; omega
          have Hln := Lib.hid hln
          clear HO hD0 hDw hDs HPe HTe HRm HLf HTx hln
          go_wp2_with fail
          clear hr hn0 hn0i
          go_loopg [6, 7, 8, 9] N (fun gk xv ev fv iv wr => ∃ q : Nat, gk = N - q ∧ q ≤ N ∧ iv = .int .i64 (q : Int) ∧ Hid (Owns w0 wr (irow xv (2 + cnt) q :: trow ev (List.replicate q zeroB) :: trow fv (fullTo cnt P q) :: trow (.slice px N pc) P :: rjblk jb db sec cnt (.slice xr nr cr) false :: trow (.slice xr nr cr) recs :: rdisk db (D 0) :: ps)))
          case atStart => exact ⟨0, rfl, Nat.zero_le _, rfl, HO2⟩
          case round =>
            rename_i J1 K1 hJ1 hK1
            clear HO2
            obtain ⟨q, rfl, hq, rfl, HO⟩ := hrel
            by_cases hlt : q < N
            · obtain ⟨s, hs⟩ : ∃ s, P[q]? = some s := ⟨_, List.getElem?_eq_getElem (by rw [← HN.out]; exact hlt)⟩
              have hsl := HPs.out s (List.mem_of_getElem? hs)
              have HFs : Hid (fullTo cnt P (q + 1) = fullTo cnt P q ++ [sectorB (2 + cnt + q) s]) := fullTo_succ hs
              have HGs : Hid (∀ W, Owns w0 W (trow (.slice px N pc) P :: rjblk jb db sec cnt (.slice xr nr cr) false :: trow (.slice xr nr cr) recs :: rdisk db (D 0) :: ps) → ∃ g off, px = some ⟨g, off, none⟩ ∧ g < W.heap.size ∧ W.cell? ⟨g, off + q, none⟩ = some (.string (bs s))) := fun W h => by
                obtain ⟨g, off, s', h1, h2, h3, h4⟩ := (is_of h).get hlt
                rw [hs] at h2
                cases h2
                exact ⟨g, off, h1, h3, h4⟩
              obtain ⟨g, off, rfl, -, -⟩ := HGs.out _ HO.out.pop.pop.pop
              have HG : Hid (∀ W, Owns w0 W (trow (.slice (some ⟨g, off, none⟩) N pc) P :: rjblk jb db sec cnt (.slice xr nr cr) false :: trow (.slice xr nr cr) recs :: rdisk db (D 0) :: ps) → g < W.heap.size ∧ W.cell? ⟨g, off + q, none⟩ = some (.string (bs s))) := fun W h => by
                obtain ⟨g', off', h1, h3, h4⟩ := HGs.out W h
                cases h1
                exact ⟨h3, h4⟩
              obtain ⟨pq, hpq⟩ : ∃ pq, pq = 2 + cnt + q := ⟨_, rfl⟩
              have hpl : pq ≤ 8002 := by have := HSc.out; omega
              have HPq := Lib.hid hpq
              have e1 : (2 : Int) + (cnt : Int) + (q : Int) = (pq : Int) := by omega
              have e2 : (2 : Int) + ((cnt : Int) + (q : Int)) = (pq : Int) := by omega
              rw [← hpq] at HFs
              have HSec := Lib.hid (fun w => rsector_c pq s (by omega) hsl w)
              obtain ⟨sx, hsx⟩ : ∃ sx, sx = sectorB pq s := ⟨_, rfl⟩
              rw [← hsx] at HSec HFs
              obtain ⟨zb, hzb⟩ : ∃ zb, zb = zeroB := ⟨_, rfl⟩
              have HZb : Hid (∀ w, Calls Tryz.prog 59 #[] w fun e w' => e = .returned (.string (bs zb)) ∧ Below w.heap.size w w') := fun w => by rw [hzb]; exact ZeroR_c w
              have HZz := Lib.hid hzb
              rw [← hzb] at HO
              obtain ⟨bk, -⟩ := (HO.out.re [4, 0, 1, 2, 3]).blk
              have hb1 := lt_of_block bk
              have c2 : wr.cell? ⟨jb, 2, none⟩ = some (.int .i64 (cnt : Int)) := by rw [cell_of_heap bk]; rfl
              clear bk hs hsx hzb hpq HGs
              go_wp2_with (refine wpList_plain rfl fun K hK => wp_append (.tmp 45) (.tmp 47) 83 (by rfl) 3 _ 1 8 Tryz.underlying83 info_jint (by rfl) (by omega) _ q _ (by rfl) (Owns.irows (HO.out.alloc (.cells #[.int .i64 (pq : Int)] 3))) wr.heap.size 1 1 [.int .i64 (pq : Int)] (by rfl) (by rfl) 3 (by exact new_heap wr _ _ rfl) (by simp [Value.oneCell']) (by omega) (by omega) ?_; intro v1 w4 hrow hgrow hblk; have hp := Owns.igrew (n' := q + 1) (HO.out.alloc (.cells #[.int .i64 (pq : Int)] 3)) (by rw [ics_succ, ← HPq.out]; exact hrow) hgrow hblk; have Hp := Lib.hid hp; clear hp hrow hgrow hblk)
              clear hb1 c2
              go_at_call 59
              refine (HZb.out _).mono ?_
              rintro e w5 ⟨rfl, hb⟩
              have HO3 : Hid (Owns w0 w5 (trow u7 (List.replicate q zb) :: irow v1 (2 + cnt) (q + 1) :: trow u8 (fullTo cnt P q) :: trow (.slice (some ⟨g, off, none⟩) N pc) P :: rjblk jb db sec cnt (.slice xr nr cr) false :: trow (.slice xr nr cr) recs :: rdisk db (D 0) :: ps)) := (Hp.out.below hb).swap
              have hr3 := Owns.row (HO3.out.alloc (.cells #[.string (bs zb)] 9))
              rw [List.length_replicate] at hr3
              have Hr3 := Lib.hid hr3
              clear hb Hp hr3 HO
              go_wp2_with (refine wpList_plain rfl fun K hK => wp_append (.tmp 49) (.tmp 51) 26 (by rfl) 9 _ 1 16 Tryz.underlying26 info_jstr (by rfl) (by omega) _ q _ (by rfl) Hr3.out w5.heap.size 1 1 [.string (bs zb)] (by rfl) (by rfl) 9 (by exact new_heap w5 _ _ rfl) (by simp [Value.oneCell']) (by omega) (by omega) ?_; intro v2 w6 hrow hgrow hblk; have hp := Owns.grew (l' := List.replicate (q + 1) zb) (HO3.out.alloc (.cells #[.string (bs zb)] 9)) (by rw [List.length_replicate, show tcs (List.replicate (q + 1) zb) = tcs (List.replicate q zb) ++ [.string (bs zb)] by simp [tcs, List.replicate_succ']]; exact hrow) hgrow hblk; have Hp := Lib.hid hp; clear hp hrow hgrow hblk; obtain ⟨hg1, cs⟩ := HG.out _ Hp.out.pop.pop.pop)
              go_at_call 66
              refine (HSec.out _).mono ?_
              rintro e w7 ⟨rfl, hb⟩
              have HO4 : Hid (Owns w0 w7 (trow u8 (fullTo cnt P q) :: trow v2 (List.replicate (q + 1) zb) :: irow v1 (2 + cnt) (q + 1) :: trow (.slice (some ⟨g, off, none⟩) N pc) P :: rjblk jb db sec cnt (.slice xr nr cr) false :: trow (.slice xr nr cr) recs :: rdisk db (D 0) :: ps)) := (Hp.out.below hb).re [2, 0, 1]
              have hr4 := Owns.row (HO4.out.alloc (.cells #[.string (bs sx)] 9))
              rw [fullTo_len] at hr4
              have Hr4 := Lib.hid hr4
              clear hb Hp hr4 HO3 hg1 cs Hr3 HSec HZb
              go_wp2_with (refine wpList_plain rfl fun K hK => wp_append (.tmp 53) (.tmp 60) 26 (by rfl) 9 _ 1 16 Tryz.underlying26 info_jstr (by rfl) (by omega) _ q _ (by rfl) Hr4.out w7.heap.size 1 1 [.string (bs sx)] (by rfl) (by rfl) 9 (by exact new_heap w7 _ _ rfl) (by simp [Value.oneCell']) (by omega) (by omega) ?_; intro v3 w8 hrow hgrow hblk; have hp := Owns.grew (l' := fullTo cnt P (q + 1)) (HO4.out.alloc (.cells #[.string (bs sx)] 9)) (by rw [fullTo_len, HFs.out, show tcs (fullTo cnt P q ++ [sx]) = tcs (fullTo cnt P q) ++ [.string (bs sx)] by simp [tcs]]; exact hrow) hgrow hblk; have Hp := Lib.hid hp; clear hp hrow hgrow hblk)
              rw [HZz.out] at Hp
              have HO5 : Hid (Owns w0 w8 (irow v1 (2 + cnt) (q + 1) :: trow v2 (List.replicate (q + 1) zeroB) :: trow v3 (fullTo cnt P (q + 1)) :: trow (.slice (some ⟨g, off, none⟩) N pc) P :: rjblk jb db sec cnt (.slice xr nr cr) false :: trow (.slice xr nr cr) recs :: rdisk db (D 0) :: ps)) := Hp.out.re [2, 1, 0]
              clear Hp HO4 Hr4 e1 e2
              go_roundg (N - (q + 1))
              case measure => omega
              case rel => exact ⟨q + 1, rfl, by omega, by go_num, HO5⟩
            · obtain rfl : q = N := by omega
              have HW0 := HDw.out 0 (by omega)
              have HW1 := HDw.out 1 (by omega)
              have HW2 := HDw.out 2 (by omega)
              have HW3 := HDw.out 3 (by omega)
              rw [show placeB cnt 0 = 2 + cnt from rfl, show rowsB cnt P 0 = P.map fun _ => zeroB from rfl] at HW0
              rw [show placeB cnt 1 = 2 + cnt from rfl, show rowsB cnt P 1 = fullB cnt P from rfl] at HW1
              rw [show placeB cnt 2 = 1 from rfl, show rowsB cnt P 2 = [headB 1 (cnt + P.length)] from rfl, ← HN.out] at HW2
              rw [show placeB cnt 3 = 0 from rfl, show rowsB cnt P 3 = [headB 0 (cnt + P.length)] from rfl, ← HN.out] at HW3
              obtain ⟨xp, cp, rfl, -⟩ := Owns.iform HO.out
              obtain ⟨xe, ne, ce, rfl, hxe⟩ := Owns.texts HO.out.swap
              obtain rfl : q = ne := by have := hxe.len; rw [List.length_replicate] at this; exact this
              obtain ⟨xf, nf, cf, rfl, hxf⟩ := Owns.texts (HO.out.re [2, 0, 1])
              obtain rfl : q = nf := by have := hxf.len; rw [fullTo_len] at this; exact this
              have HOa : Hid (Owns w0 wr (rdisk db (D 0) :: rjblk jb db sec cnt (.slice xr nr cr) false :: irow (.slice xp q cp) (2 + cnt) q :: trow (.slice xe q ce) (P.map fun _ => zeroB) :: trow (.slice xf q cf) (fullB cnt P) :: trow (.slice xr nr cr) recs :: ps)) := by
                have h1 := HO.out
                rw [show List.replicate q zeroB = P.map fun _ => zeroB by rw [HN.out]; exact zeros_all P, show fullTo cnt P q = fullB cnt P by rw [HN.out]; exact fullTo_all cnt P] at h1
                exact Lib.hid ((h1.re [3, 6, 4, 0, 1, 2, 5]).pop)
              have HQ0 := Lib.hid (HDq.out 0 (by omega))
              have HQ1 := Lib.hid (HDq.out 1 (by omega))
              have HQ2 := Lib.hid (HDq.out 2 (by omega))
              have HQ3 := Lib.hid (HDq.out 3 (by omega))
              clear hxe hxf HO hlt hq
              obtain ⟨nx, hnx⟩ : ∃ nx, nx = cnt + q := ⟨_, rfl⟩
              have Hnx := Lib.hid hnx
              have hnx4 : nx ≤ 8000 := by have := HSc.out; omega
              have e1 : (cnt : Int) + (q : Int) = (nx : Int) := by omega
              rw [← hnx] at HW2 HW3
              have HHd := Lib.hid (fun (p : Nat) (hp : p ≤ 10) (w : World) => rHead_c p nx (by omega) (by omega) w)
              obtain ⟨h1t, hh1⟩ : ∃ h1t, h1t = headB 1 nx := ⟨_, rfl⟩
              obtain ⟨h0t, hh0⟩ : ∃ h0t, h0t = headB 0 nx := ⟨_, rfl⟩
              rw [← hh1] at HW2
              rw [← hh0] at HW3
              have HH1 : Hid (∀ w, Calls Tryz.prog 58 #[.int .i64 1, .int .i64 (nx : Int)] w fun e w' => e = .returned (.string (bs h1t)) ∧ Below w.heap.size w w') := fun w => by rw [hh1]; exact HHd.out 1 (by omega) w
              have HH0 : Hid (∀ w, Calls Tryz.prog 58 #[.int .i64 0, .int .i64 (nx : Int)] w fun e w' => e = .returned (.string (bs h0t)) ∧ Below w.heap.size w w') := fun w => by rw [hh0]; exact HHd.out 0 (by omega) w
              have HW0 := Lib.hid HW0
              have HW1 := Lib.hid HW1
              have HW2 := Lib.hid HW2
              have HW3 := Lib.hid HW3
              obtain ⟨bk, -⟩ := HOa.out.swap.blk
              have hb1 := lt_of_block bk
              have c2 : wr.cell? ⟨jb, 2, none⟩ = some (.int .i64 (cnt : Int)) := by rw [cell_of_heap bk]; rfl
              clear bk hnx hh1 hh0 HHd HDw HDq hJ1 hK1
              go_wp2_with fail
              clear c2 hb1
              go_at_call 60
              refine (rwrite43_c (2 + cnt) HOa.out (fun w' h => Owns.iplaces h) (fun w' h => is_of h.swap) (by have := HSc.out; omega) (by omega) (by have := HQ0.out; omega)).mono ?_
              rintro e w4 ⟨rfl, ho⟩
              rw [HW0.out] at ho ⊢
              dsimp only at ho ⊢
              have HOb : Hid (Owns w0 w4 (rdisk db (D 1) :: rjblk jb db sec cnt (.slice xr nr cr) false :: irow (.slice xp q cp) (2 + cnt) q :: trow (.slice xe q ce) (P.map fun _ => zeroB) :: trow (.slice xf q cf) (fullB cnt P) :: trow (.slice xr nr cr) recs :: ps)) := ho
              clear ho HOa HW0
              by_cases hE : E 0 = 0
              · have hE0q : (E 0 == 0) = true := by simpa using hE
                have HE0 := Lib.hid hE
                clear hE
                go_wp2_with fail
                go_at_call 60
                refine (rwrite43_c (2 + cnt) HOb.out (fun w' h => Owns.iplaces h) (fun w' h => is_of (h.re [2, 0, 1])) (by have := HSc.out; omega) (by omega) (by have := HQ1.out; omega)).mono ?_
                rintro e w5 ⟨rfl, ho⟩
                rw [HW1.out] at ho ⊢
                replace HOb : Hid (Owns w0 w5 (rdisk db (D 2) :: rjblk jb db sec cnt (.slice xr nr cr) false :: trow (.slice xr nr cr) recs :: ps)) := (ho.re [2, 3, 4, 0, 1]).pop.pop.pop
                clear ho HW1 hE0q
                by_cases hE : E 1 = 0
                · have hE1q : (E 1 == 0) = true := by simpa using hE
                  have HE1 := Lib.hid hE
                  clear hE
                  obtain ⟨g1, hg1⟩ : ∃ g1, g1 = w5.heap.size := ⟨_, rfl⟩
                  obtain ⟨Wa, hWa⟩ : ∃ Wa, Wa = w5.alloc (.cells #[.int .i64 1] 3) := ⟨_, rfl⟩
                  have HOd : Hid (Owns w0 Wa (blk g1 (.cells #[.int .i64 ((1 : Nat) : Int)] 3 (0, 0)) :: rdisk db (D 2) :: rjblk jb db sec cnt (.slice xr nr cr) false :: trow (.slice xr nr cr) recs :: ps)) := by
                    rw [hWa, hg1]
                    exact Lib.hid (HOb.out.box _)
                  clear HOb
                  go_wp2_with fail
                  rw [← hg1, ← hWa]
                  clear hg1 hWa
                  go_at_call 58
                  refine (HH1.out _).mono ?_
                  rintro e wh ⟨rfl, hb⟩
                  replace HOd := Lib.hid (HOd.out.below hb)
                  clear hb
                  obtain ⟨g2, hg2⟩ : ∃ g2, g2 = wh.heap.size := ⟨_, rfl⟩
                  obtain ⟨Wb, hWb⟩ : ∃ Wb, Wb = wh.alloc (.cells #[.string (bs h1t)] 9) := ⟨_, rfl⟩
                  have HOe : Hid (Owns w0 Wb (rdisk db (D 2) :: rjblk jb db sec cnt (.slice xr nr cr) false :: trow (.slice (some ⟨g2, 0, none⟩) 1 1) [h1t] :: blk g1 (.cells #[.int .i64 ((1 : Nat) : Int)] 3 (0, 0)) :: trow (.slice xr nr cr) recs :: ps)) := by
                    rw [hWb, hg2]
                    exact Lib.hid ((Owns.made HOd.out [h1t] (by simp)).re [2, 3, 0, 1])
                  clear HOd
                  go_wp2_with fail
                  rw [← hg2, ← hWb]
                  clear hg2 hWb
                  go_at_call 60
                  refine (rwrite43_c 1 HOe.out (fun w' h => Owns.place h.swap) (fun w' h => is_of h) (by omega) (by decide) (by have := HQ2.out; omega)).mono ?_
                  rintro e w6 ⟨rfl, ho⟩
                  rw [HW2.out] at ho ⊢
                  replace HOb : Hid (Owns w0 w6 (rdisk db (D 3) :: rjblk jb db sec cnt (.slice xr nr cr) false :: trow (.slice xr nr cr) recs :: ps)) := (ho.re [2, 3, 0, 1]).pop.pop
                  clear ho HW2 hE1q HOe
                  by_cases hE : E 2 = 0
                  · have hE2q : (E 2 == 0) = true := by simpa using hE
                    have HE2 := Lib.hid hE
                    clear hE
                    obtain ⟨g1, hg1⟩ : ∃ g1, g1 = w6.heap.size := ⟨_, rfl⟩
                    obtain ⟨Wa, hWa⟩ : ∃ Wa, Wa = w6.alloc (.cells #[.int .i64 0] 3) := ⟨_, rfl⟩
                    have HOd : Hid (Owns w0 Wa (blk g1 (.cells #[.int .i64 ((0 : Nat) : Int)] 3 (0, 0)) :: rdisk db (D 3) :: rjblk jb db sec cnt (.slice xr nr cr) false :: trow (.slice xr nr cr) recs :: ps)) := by
                      rw [hWa, hg1]
                      exact Lib.hid (HOb.out.box _)
                    clear HOb
                    go_wp2_with fail
                    rw [← hg1, ← hWa]
                    clear hg1 hWa
                    go_at_call 58
                    refine (HH0.out _).mono ?_
                    rintro e wh ⟨rfl, hb⟩
                    replace HOd := Lib.hid (HOd.out.below hb)
                    clear hb
                    obtain ⟨g2, hg2⟩ : ∃ g2, g2 = wh.heap.size := ⟨_, rfl⟩
                    obtain ⟨Wb, hWb⟩ : ∃ Wb, Wb = wh.alloc (.cells #[.string (bs h0t)] 9) := ⟨_, rfl⟩
                    have HOe : Hid (Owns w0 Wb (rdisk db (D 3) :: rjblk jb db sec cnt (.slice xr nr cr) false :: trow (.slice (some ⟨g2, 0, none⟩) 1 1) [h0t] :: blk g1 (.cells #[.int .i64 ((0 : Nat) : Int)] 3 (0, 0)) :: trow (.slice xr nr cr) recs :: ps)) := by
                      rw [hWb, hg2]
                      exact Lib.hid ((Owns.made HOd.out [h0t] (by simp)).re [2, 3, 0, 1])
                    clear HOd
                    go_wp2_with fail
                    rw [← hg2, ← hWb]
                    clear hg2 hWb
                    go_at_call 60
                    refine (rwrite43_c 0 HOe.out (fun w' h => Owns.place h.swap) (fun w' h => is_of h) (by omega) (by decide) (by have := HQ3.out; omega)).mono ?_
                    rintro e w7 ⟨rfl, ho⟩
                    rw [HW3.out] at ho ⊢
                    replace HOb : Hid (Owns w0 w7 (rdisk db (D 4) :: rjblk jb db sec cnt (.slice xr nr cr) false :: trow (.slice xr nr cr) recs :: ps)) := (ho.re [2, 3, 0, 1]).pop.pop
                    clear ho HW3 hE2q HOe
                    by_cases hE : E 3 = 0
                    · have hE3q : (E 3 == 0) = true := by simpa using hE
                      have HE : Hid (appendB m ⟨sec, cnt, recs, false⟩ l = (D 4, 0, ⟨sec, nx, recs ++ l, false⟩)) := by
                        have h1 := HAp.out _ (HDs.out 3 (by omega) (fun j hj => by rcases (by omega : j = 0 ∨ j = 1 ∨ j = 2) with rfl | rfl | rfl <;> first | exact HE0.out | exact HE1.out | exact HE2.out) (.inr rfl))
                        rw [if_pos hE, ← Hnx.out] at h1
                        show _ = _
                        rw [h1]
                        show (D 4, E 3, _) = _
                        rw [hE]
                      obtain ⟨bk, -⟩ := HOb.out.swap.blk
                      have hb1 := lt_of_block bk
                      have f2 : World.frozen? w7 ⟨jb, 2, none⟩ = false := free_of_heap bk
                      have c2 : World.cell? w7 ⟨jb, 2, none⟩ = some (.int .i64 (cnt : Int)) := by rw [cell_of_heap bk]; rfl
                      have c3 : World.cell? w7 ⟨jb, 3, none⟩ = some (.slice xr nr cr) := by rw [cell_of_heap bk]; rfl
                      have HOs : Hid (Owns w0 (w7.setCell ⟨jb, 2, none⟩ (.int .i64 (nx : Int))) (rjblk jb db sec nx (.slice xr nr cr) false :: rdisk db (D 4) :: trow (.slice xr nr cr) recs :: ps)) := HOb.out.swap.store (i := 2) (.int .i64 (nx : Int))
                      obtain ⟨W9, hW9⟩ : ∃ W9, W9 = w7.setCell ⟨jb, 2, none⟩ (.int .i64 (nx : Int)) := ⟨_, rfl⟩
                      rw [← hW9] at HOs
                      obtain ⟨bk9, -⟩ := HOs.out.blk
                      have hsz : W9.heap.size = w7.heap.size := by rw [hW9]; simp
                      have HEm := Owns.made HOs.out [] (by decide)
                      rw [hsz] at HEm
                      have HEo : Hid (Owns w0 (W9.alloc (.cells #[] 9)) (trow (.slice (some ⟨w7.heap.size, 0, none⟩) 0 0) [] :: rjblk jb db sec nx (.slice xr nr cr) false :: rdisk db (D 4) :: trow (.slice xr nr cr) recs :: ps)) := HEm
                      clear bk hE HEm HOb bk9 hsz
                      go_wp2_with (first | (at_builtin; go_loud (rw [← hW9]; refine wpList_plain rfl fun K hK => wp_append_texts (.tmp 106) (.tmp 110) (by rfl) _ 0 [] (by rfl) (Owns.row HEo.out) xr nr cr recs (by rfl) (is_of (HEo.out.re [3, 0, 1, 2])) HYr.out (by have := HNr.out; omega) ?_; intro v1 w8 hrow hgrow hblk; have hp := Owns.grew (l' := recs) HEo.out (by rw [show recs.length = 0 + nr by rw [small_of (HEo.out.re [3, 0, 1, 2])]; omega]; exact hrow) hgrow hblk; have Hp := Lib.hid hp; clear hp hrow hgrow hblk)) | (at_builtin; go_loud (refine wpList_plain rfl fun K hK => wp_append_texts (.tmp 111) (.tmp 112) (by rfl) _ recs.length _ (by rfl) (Owns.row Hp.out) x n c l (by rfl) (HT.out _ Hp.out.pop.pop.pop.pop) HY.out (by have := HRl.out; omega) ?_; intro v2 w10 hrow hgrow hblk; have hp := Owns.grew (l' := recs ++ l) Hp.out (by rw [List.length_append, (HT.out _ Hp.out.pop.pop.pop.pop).len, show tcs (recs ++ l) = tcs recs ++ tcs l by simp [tcs]]; exact hrow) hgrow hblk; have Hp2 := Lib.hid hp; clear hp hrow hgrow hblk hb1 c3; obtain ⟨x9, n9, c9, rfl, -⟩ := Owns.texts Hp2.out; obtain ⟨bk, -⟩ := Hp2.out.swap.blk; have hb1 := lt_of_block bk; have f3 : World.frozen? w10 ⟨jb, 3, none⟩ = false := free_of_heap bk; have c3 : World.cell? w10 ⟨jb, 3, none⟩ = some (.slice xr nr cr) := (by rw [cell_of_heap bk]; rfl); clear bk)))
                      go_ret
                      refine ⟨.slice x9 n9 c9, by rw [HE.out]; rfl, ?_⟩
                      rw [HE.out]
                      exact ((Hp2.out.swap.store (i := 3) (.slice x9 n9 c9)).re [3, 0, 1, 2]).pop
                    · have HE : Hid (appendB m ⟨sec, cnt, recs, false⟩ l = (D 4, E 3, ⟨sec, cnt, recs, true⟩)) := by
                        have h1 := HAp.out _ (HDs.out 3 (by omega) (fun j hj => by rcases (by omega : j = 0 ∨ j = 1 ∨ j = 2) with rfl | rfl | rfl <;> first | exact HE0.out | exact HE1.out | exact HE2.out) (.inl hE))
                        rw [if_neg hE] at h1
                        exact h1
                      obtain ⟨bk, -⟩ := HOb.out.swap.blk
                      have hb1 := lt_of_block bk
                      have f4 : World.frozen? w7 ⟨jb, 4, none⟩ = false := free_of_heap bk
                      have c4 : World.cell? w7 ⟨jb, 4, none⟩ = some (.bool false) := by rw [cell_of_heap bk]; rfl
                      have HOc := Lib.hid (HOb.out.swap.store (i := 4) (.bool true))
                      have hEq : (E 3 == 0) = false := by simpa using hE
                      clear bk hE
                      go_wp2_with fail
                      go_ret
                      refine ⟨.slice xr nr cr, by rw [HE.out]; rfl, ?_⟩
                      rw [HE.out]
                      exact (HOc.out.re [0, 2, 1])
                  · have HE : Hid (appendB m ⟨sec, cnt, recs, false⟩ l = (D 3, E 2, ⟨sec, cnt, recs, true⟩)) := by
                      have h1 := HAp.out _ (HDs.out 2 (by omega) (fun j hj => by rcases (by omega : j = 0 ∨ j = 1) with rfl | rfl <;> first | exact HE0.out | exact HE1.out) (.inl hE))
                      rw [if_neg hE] at h1
                      exact h1
                    obtain ⟨bk, -⟩ := HOb.out.swap.blk
                    have hb1 := lt_of_block bk
                    have f4 : World.frozen? w6 ⟨jb, 4, none⟩ = false := free_of_heap bk
                    have c4 : World.cell? w6 ⟨jb, 4, none⟩ = some (.bool false) := by rw [cell_of_heap bk]; rfl
                    have HOc := Lib.hid (HOb.out.swap.store (i := 4) (.bool true))
                    have hEq : (E 2 == 0) = false := by simpa using hE
                    clear bk hE
                    go_wp2_with fail
                    go_ret
                    refine ⟨.slice xr nr cr, by rw [HE.out]; rfl, ?_⟩
                    rw [HE.out]
                    exact (HOc.out.re [0, 2, 1])
                · have HE : Hid (appendB m ⟨sec, cnt, recs, false⟩ l = (D 2, E 1, ⟨sec, cnt, recs, true⟩)) := by
                    have h1 := HAp.out _ (HDs.out 1 (by omega) (fun j hj => by have h0 : j = 0 := (by omega); subst h0; exact HE0.out) (.inl hE))
                    rw [if_neg hE] at h1
                    exact h1
                  obtain ⟨bk, -⟩ := HOb.out.swap.blk
                  have hb1 := lt_of_block bk
                  have f4 : World.frozen? w5 ⟨jb, 4, none⟩ = false := free_of_heap bk
                  have c4 : World.cell? w5 ⟨jb, 4, none⟩ = some (.bool false) := by rw [cell_of_heap bk]; rfl
                  have HOc := Lib.hid (HOb.out.swap.store (i := 4) (.bool true))
                  have hEq : (E 1 == 0) = false := by simpa using hE
                  clear bk hE
                  go_wp2_with fail
                  go_ret
                  refine ⟨.slice xr nr cr, by rw [HE.out]; rfl, ?_⟩
                  rw [HE.out]
                  exact (HOc.out.re [0, 2, 1])
              · have HE : Hid (appendB m ⟨sec, cnt, recs, false⟩ l = (D 1, E 0, ⟨sec, cnt, recs, true⟩)) := by
                  have h1 := HAp.out _ (HDs.out 0 (by omega) (fun j hj => by omega) (.inl hE))
                  rw [if_neg hE] at h1
                  exact h1
                obtain ⟨bk, -⟩ := HOb.out.swap.blk
                have hb1 := lt_of_block bk
                have f4 : World.frozen? w4 ⟨jb, 4, none⟩ = false := free_of_heap bk
                have c4 : World.cell? w4 ⟨jb, 4, none⟩ = some (.bool false) := by rw [cell_of_heap bk]; rfl
                have HOc := Lib.hid (HOb.out.swap.store (i := 4) (.bool true))
                have hEq : (E 0 == 0) = false := by simpa using hE
                clear bk hE
                go_wp2_with fail
                go_ret
                refine ⟨.slice xr nr cr, by rw [HE.out]; rfl, ?_⟩
                rw [HE.out]
                exact ((HOc.out.re [2, 3, 4, 0, 5, 1]).pop.pop.pop)
end Go.Proofs.YtjcjpekndeoonaaGreatDoor
namespace Go.Cz.Jn
set_option linter.unusedSimpArgs false
set_option linter.unusedVariables false
open Go.Cz.Dk (Dm)
theorem writes_ok : ∀ (ss : List Bytes) (m : Dm) (p : Nat), m.ok → (writesB m p ss).1.ok ∧ (writesB m p ss).1.st.length = m.st.length
  | [], m, p, h => ⟨Dk.ok_sync h, Dk.length_sync m⟩
  | s :: r, m, p, h => by
    have e : writesB m p (s :: r) = if (Dk.write m (p : Int) s).2 != 0 then Dk.write m (p : Int) s else writesB (Dk.write m (p : Int) s).1 (p + 1) r := rfl
    rw [e]
    split
    · exact ⟨Dk.ok_write h _ _, Dk.length_write _ _ _⟩
    · obtain ⟨a, b⟩ := writes_ok r (Dk.write m (p : Int) s).1 (p + 1) (Dk.ok_write h _ _)
      exact ⟨a, b.trans (Dk.length_write _ _ _)⟩
theorem writes_q0 {m : Dm} {p : Nat} {ss : List Bytes} (hok : m.ok) (hq : m.q = []) (hp : p + ss.length ≤ m.st.length) (hs : ∀ x ∈ ss, x.length = 64) : (writesB m p ss).1.q = [] := by
  by_cases ho : m.off = true
  · cases ss with
    | nil =>
      show (Dk.sync m).1.q = []
      unfold Dk.sync
      rw [if_pos ho]
      exact hq
    | cons s r =>
      have hw : Dk.write m (p : Int) s = (m, 26) := by unfold Dk.write; rw [if_pos ho]
      show (if (Dk.write m (p : Int) s).2 != 0 then Dk.write m (p : Int) s else writesB (Dk.write m (p : Int) s).1 (p + 1) r).1.q = []
      rw [hw]
      exact hq
  · rcases writes_arm ss m p (by simpa using ho) hok.1 (by rw [hq]; simp) hp hs (by rw [hq]; exact pend_nodup ss p) with ⟨-, -, h, -⟩ | ⟨-, h, -⟩
    · exact h
    · exact h
/-- On, or off, with nothing pending. -/
structure Idle (m : Dm) (N : Nat) : Prop where
  ok : m.ok
  q : m.q = []
  num : m.st.length = N
theorem Idle.writes {m : Dm} {N p : Nat} {ss : List Bytes} (h : Idle m N) (hp : p + ss.length ≤ N) (hs : ∀ x ∈ ss, x.length = 64) : Idle (writesB m p ss).1 N :=
  ⟨(writes_ok ss m p h.ok).1, writes_q0 h.ok h.q (by rw [h.num]; exact hp) hs, (writes_ok ss m p h.ok).2.trans h.num⟩
theorem zero_all' : ∀ x ∈ [zeroB], x.length = 64 := fun x hx => by simp at hx; subst hx; exact zeroB_len
theorem head_all' (p c : Nat) : ∀ x ∈ [headB p c], x.length = 64 := fun x hx => by simp at hx; subst hx; exact headB_len _ _
theorem Idle.fix {m : Dm} {N p c : Nat} {old : Bytes} (h : Idle m N) (hp : p < N) : Idle (fixB m p old c).1 N := by
  unfold fixB
  split
  · exact h
  · have h1 : Idle (writesB m p [zeroB]).1 N := h.writes (by simp; omega) zero_all'
    split
    · exact h1.writes (by simp; omega) (head_all' p c)
    · exact h1
theorem Idle.open {m : Dm} {N : Nat} (h : Idle m N) : Idle (openB m).1 N := by
  cases hf : findB m with
  | error e => rw [open_err hf]; exact h
  | ok x =>
    obtain ⟨c, rs⟩ := x
    by_cases h3 : 3 ≤ N
    · have a := h.fix (p := 0) (c := c) (old := Dk.look m 0) (by omega)
      have b := a.fix (p := 1) (c := c) (old := Dk.look m 1) (by omega)
      rw [open_ok hf rfl rfl]
      split
      · exact a
      · split
        · exact b
        · exact b
    · exfalso
      unfold findB at hf
      split at hf
      · cases hf
      · rw [if_pos (by rw [h.num]; omega)] at hf
        cases hf
/-- What 'Open' returns, in bounds. -/
theorem open_bounds {m : Dm} {N : Nat} (hn : m.st.length = N) (h : (openB m).2.1 = 0) : ∃ c rs, (openB m).2.2 = ⟨N, c, rs, false⟩ ∧ c + 2 ≤ N ∧ rs.length ≤ 46 * c := by
  cases hf : findB m with
  | error e =>
    exfalso
    rw [open_err hf] at h
    have he : e = 0 := h
    unfold findB at hf
    split at hf
    · cases hf; cases he
    · split at hf
      · cases hf; cases he
      · split at hf
        · cases hf; cases he
        · split at hf
          · cases hf; cases he
          · split at hf
            · cases hf; cases he
            · cases hf
  | ok x =>
    obtain ⟨c, rs⟩ := x
    have hoff : ¬ m.off = true := fun ho => by
      unfold findB at hf
      rw [if_pos ho] at hf
      cases hf
    have h3 : 3 ≤ m.st.length := by
      rcases Nat.lt_or_ge m.st.length 3 with h1 | h1
      · unfold findB at hf
        rw [if_neg hoff, if_pos h1] at hf
        cases hf
      · exact h1
    have hl := find_law hoff h3 rfl rfl
    have b0 := countB_le 0 (Dk.look m 0) (m.st.length - 2)
    have b1 := countB_le 1 (Dk.look m 1) (m.st.length - 2)
    obtain ⟨M, hM⟩ : ∃ M, M = max (countB 0 (Dk.look m 0) (m.st.length - 2)) (countB 1 (Dk.look m 1) (m.st.length - 2)) := ⟨_, rfl⟩
    rw [← hM, hf] at hl
    refine ⟨c, rs, ?_, ?_⟩
    · rw [open_ok hf rfl rfl] at h ⊢
      split
      · rename_i hx
        rw [if_pos hx] at h
        exact absurd h (by simpa using hx)
      · rename_i hx
        rw [if_neg hx] at h
        split
        · rename_i hy
          rw [if_pos hy] at h
          exact absurd h (by simpa using hy)
        · rw [hn]
    · split at hl
      · cases hl
      · split at hl
        · cases hl
        · rename_i ps hps
          split at hl
          · cases hl
          · rename_i rs' hrs
            simp only [Except.ok.injEq, Prod.mk.injEq] at hl
            obtain ⟨rfl, rfl⟩ := hl
            have hxs := foldr_inv _ _ hps
            have hpl : ps.length = M.toNat := by
              have := congrArg List.length hxs
              simpa using this.symm
            have hfl := flat_le ps fun p hp => by
              have : some p ∈ (List.range M.toNat).map (fun i => pieceB (2 + i) (Dk.look m (2 + i))) := by
                rw [hxs]
                exact List.mem_map.2 ⟨p, hp, rfl⟩
              obtain ⟨i, -, hi⟩ := List.mem_map.1 this
              exact pieceB_len hi
            have hpc := parse_count hrs
            omega
theorem Idle.append {m : Dm} {N cnt : Nat} {recs : List Bytes} {br : Bool} (h : Idle m N) (l : List Bytes) : Idle (appendB m ⟨N, cnt, recs, br⟩ l).1 N := by
  unfold appendB
  split
  · exact h
  · split
    · exact h
    · split
      · exact h
      · rename_i hr
        split
        · exact h
        · have hroom : 2 + cnt + (piecesB (textB l)).length ≤ N := by
            unfold Jm.room at hr
            dsimp only at hr
            omega
          obtain ⟨a, ha⟩ : ∃ a, a = writesB m (2 + cnt) ((piecesB (textB l)).map fun _ => zeroB) := ⟨_, rfl⟩
          obtain ⟨b, hb⟩ : ∃ b, b = writesB a.1 (2 + cnt) (fullB cnt (piecesB (textB l))) := ⟨_, rfl⟩
          obtain ⟨d, hd⟩ : ∃ d, d = writesB b.1 1 [headB 1 (cnt + (piecesB (textB l)).length)] := ⟨_, rfl⟩
          obtain ⟨f, hf⟩ : ∃ f, f = writesB d.1 0 [headB 0 (cnt + (piecesB (textB l)).length)] := ⟨_, rfl⟩
          have hst : stepsB m cnt (piecesB (textB l)) = if a.2 != 0 then a else if b.2 != 0 then b else if d.2 != 0 then d else f := by
            subst hf hd hb ha
            rfl
          have ia : Idle a.1 N := by rw [ha]; exact h.writes (by rw [List.length_map]; exact hroom) fun x hx => by obtain ⟨_, _, rfl⟩ := List.mem_map.1 hx; exact zeroB_len
          have ib : Idle b.1 N := by rw [hb]; exact ia.writes (by rw [fullB_len]; exact hroom) fun x hx => by obtain ⟨_, _, rfl⟩ := List.mem_map.1 hx; exact sectorB_len _ _
          have id : Idle d.1 N := by rw [hd]; exact ib.writes (by simp; omega) (head_all' _ _)
          have if' : Idle f.1 N := by rw [hf]; exact id.writes (by simp; omega) (head_all' _ _)
          show Idle (stepsB m cnt (piecesB (textB l))).1 N
          rw [hst]
          split
          · exact ia
          · split
            · exact ib
            · split
              · exact id
              · exact if'
/-- What 'Append' leaves of the journal, in bounds. -/
theorem append_bounds (m : Dm) {N cnt : Nat} {recs : List Bytes} {br : Bool} (l : List Bytes) (hc : cnt + 2 ≤ N) : ∃ c rs b, (appendB m ⟨N, cnt, recs, br⟩ l).2.2 = ⟨N, c, rs, b⟩ ∧ c + 2 ≤ N ∧ rs.length ≤ recs.length + l.length := by
  unfold appendB
  split
  · exact ⟨cnt, recs, br, rfl, hc, by omega⟩
  · split
    · exact ⟨cnt, recs, br, rfl, hc, by omega⟩
    · split
      · exact ⟨cnt, recs, br, rfl, hc, by omega⟩
      · rename_i hr
        split
        · exact ⟨cnt, recs, br, rfl, hc, by omega⟩
        · dsimp only
          split
          · exact ⟨_, _, _, rfl, by unfold Jm.room at hr; dsimp only at hr; omega, by rw [List.length_append]; exact Nat.le_refl _⟩
          · exact ⟨cnt, recs, true, rfl, hc, by omega⟩
theorem Idle.fail {m : Dm} {N : Nat} (h : Idle m N) (w b : Int) : Idle (Dk.fail m w b) N := by
  refine ⟨Dk.ok_fail h.ok w b, ?_, (Dk.length_fail m w b).trans h.num⟩
  unfold Dk.fail
  split
  · exact h.q
  · rfl
theorem Idle.start {m : Dm} {N : Nat} (h : Idle m N) : Idle (Dk.start m) N := ⟨Dk.ok_start h.ok, h.q, h.num⟩
theorem Idle.arm {m : Dm} {N : Nat} (h : Idle m N) (a w b : Int) (ha : a ≤ 9223372036854775807) : Idle (Dk.arm m a w b) N := by
  refine ⟨Dk.ok_arm h.ok a w b ha, ?_, (Dk.length_arm m a w b).trans h.num⟩
  unfold Dk.arm
  split
  · exact h.q
  · exact h.q
theorem Idle.rot {m : Dm} {N : Nat} (h : Idle m N) (s a k : Int) : Idle (Dk.rot m s a k) N := by
  refine ⟨Dk.ok_rot h.ok s a k, ?_, (Dk.length_rot m s a k).trans h.num⟩
  unfold Dk.rot
  split
  · exact h.q
  · exact h.q
theorem idle_fresh (n : Nat) : Idle (Dk.fresh n) n := ⟨Dk.ok_fresh n, rfl, by simp [Dk.fresh]⟩
end Go.Cz.Jn
namespace Go.Proofs.YtjcjpekndeoonaaGreatDoor
open Go.RowKit Go.Cz Go.Cz.Jn
set_option linter.unusedSimpArgs false
set_option linter.unusedVariables false
attribute [local irreducible] cList cPlan
theorem RecNil_c (w : World) : Calls Tryz.prog 9 #[.pointer none] w fun e w' => e = .returned (.slice none 0 0) ∧ w' = w := by
  go_enter Tryz.func9, Tryz.ntmps9
  go_wp2_with fail
  go_ret
  exact ⟨rfl, rfl⟩
theorem RoomNil_c (w : World) : Calls Tryz.prog 14 #[.pointer none] w fun e w' => e = .returned (.int .i64 0) ∧ w' = w := by
  go_enter Tryz.func14, Tryz.ntmps14
  go_wp2_with fail
  go_ret
  exact ⟨rfl, rfl⟩
theorem ropen_good {w0 : World} {db : Nat} {m : Dk.Dm} {ps : List Piece} {e : Ending} {w' : World} (h : ROpenP w0 db m ps e w') (h0 : (openB m).2.1 = 0) :
    ∃ jb rv out, e = .returned (.tuple #[.pointer (some ⟨jb, 0, none⟩), out, .int .i64 0]) ∧ Owns w0 w' (trow out (openB m).2.2.recs :: rjblk jb db (openB m).2.2.sectors (openB m).2.2.count rv false :: trow rv (openB m).2.2.recs :: rdisk db (openB m).1 :: ps) := by
  rcases h with ⟨h1, -⟩ | ⟨-, h1⟩
  · exact absurd h0 h1
  · exact h1
theorem ropen_bad {w0 : World} {db : Nat} {m : Dk.Dm} {ps : List Piece} {e : Ending} {w' : World} (h : ROpenP w0 db m ps e w') (h0 : (openB m).2.1 ≠ 0) :
    e = .returned (.tuple #[.pointer none, .slice none 0 0, .int .i64 (openB m).2.1]) ∧ Owns w0 w' (rdisk db (openB m).1 :: ps) := by
  rcases h with ⟨-, h1⟩ | ⟨h1, -⟩
  · exact h1
  · exact absurd h1 h0
theorem open_bad2 {w0 : World} {db : Nat} {m : Dk.Dm} {ps : List Piece} {e : Ending} {w' : World} (h : OpenP w0 db m ps e w') (h0 : (openB m).2.1 ≠ 0) :
    e = .returned (.tuple #[.pointer none, .slice none 0 0, .int .i64 (openB m).2.1]) ∧ Owns w0 w' (disk db (openB m).1 :: ps) := by
  rcases h with ⟨-, h1⟩ | ⟨h1, -⟩
  · exact h1
  · exact absurd h1 h0
end Go.Proofs.YtjcjpekndeoonaaGreatDoor

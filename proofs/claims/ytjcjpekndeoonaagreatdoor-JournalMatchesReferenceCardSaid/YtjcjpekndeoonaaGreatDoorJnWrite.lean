/-
  The journal's 'write'.
-/
import Derived.Test.YtjcjpekndeoonaaGreatDoorJnRow
namespace Go.Proofs.YtjcjpekndeoonaaGreatDoor
open Go.RowKit Go.Cz Go.Cz.Jn
set_option linter.unusedSimpArgs false
set_option linter.unusedVariables false
attribute [local go_sem] bs_size bs_extract bs_append bs_toList
attribute [local irreducible] cList cPlan
def jcells (db sec cnt : Nat) (rv : Value) (br : Bool) : Array Value := #[.pointer (some ⟨db, 0, none⟩), .int .i64 (sec : Int), .int .i64 (cnt : Int), rv, .bool br]
/-- A journal's own cells. -/
abbrev jblk (jb db sec cnt : Nat) (rv : Value) (br : Bool) : Piece := blk jb (.cells (jcells db sec cnt rv br) 53 (0, 0))
theorem write_q (m : Dk.Dm) (s : Int) (t : Bytes) : (Dk.write m s t).1.q.length ≤ m.q.length + 1 := by
  have hf : ∀ (m : Dk.Dm) (a b : Int), (Dk.fail m a b).q.length ≤ m.q.length := fun m a b => by
    unfold Dk.fail
    split <;> simp
  have hc : ∀ m : Dk.Dm, (Dk.count m).1.q.length ≤ m.q.length := fun m => by
    unfold Dk.count
    split
    · exact Nat.le_refl _
    · split
      · exact Nat.le_refl _
      · exact hf _ _ _
  unfold Dk.write
  split
  · simp
  · split
    · refine Nat.le_trans (hc _) ?_
      simp
    · simp
set_option maxRecDepth 10000 in
set_option maxHeartbeats 4000000 in
theorem writeJ_c {w0 w : World} {ps : List Piece} {m : Dk.Dm} {db jb sec cnt : Nat} {rv v : Value} {br : Bool} {l : List Bytes} (p : Nat) (h : Owns w0 w (disk db m :: jblk jb db sec cnt rv br :: trow v l :: ps)) (hp : p ≤ 1000000000) (hn : l.length ≤ 1000000) (hq : m.q.length + l.length ≤ 100000) :
    Calls Tryz.prog 41 #[.pointer (some ⟨jb, 0, none⟩), .int .i64 (p : Int), v] w (Back w0 (.int .i64 (writesB m p l).2) (disk db (writesB m p l).1 :: jblk jb db sec cnt rv br :: trow v l :: ps)) := by
  obtain ⟨x, n, c, rfl, ht⟩ := Owns.texts h.rot
  have hlen := ht.len
  have HO := Lib.hid h
  clear h ht
  go_enter Tryz.func41, Tryz.ntmps41
  go_wp2_with fail
  go_loopg [12] n (fun gk i wr => ∃ (k : Nat) (m' : Dk.Dm), gk = n - k ∧ k ≤ n ∧ i = .int .i64 (k : Int) ∧ m'.q.length + (n - k) ≤ 100000 ∧ Hid (writesB m p l = writesB m' (p + k) (l.drop k)) ∧ Hid (Owns w0 wr (disk db m' :: jblk jb db sec cnt rv br :: trow (.slice x n c) l :: ps)))
  case atStart => exact ⟨0, m, rfl, Nat.zero_le _, rfl, by omega, rfl, HO⟩
  case round =>
    rename_i J1 K1 hJ1 hK1
    clear HO
    obtain ⟨k, m', rfl, hk, rfl, hq', HW, HO⟩ := hrel
    obtain ⟨bk, -⟩ := HO.out.swap.blk
    have hb1 := lt_of_block bk
    have c0 : wr.cell? ⟨jb, 0, none⟩ = some (.pointer (some ⟨db, 0, none⟩)) := by rw [cell_of_heap bk]; rfl
    clear bk
    by_cases hlt : k < n
    · obtain ⟨g, off, s, rfl, hs, hg, cs⟩ := (show IsTexts wr x n l by
        obtain ⟨x', n', c', he, ht⟩ := Owns.texts HO.out.rot
        cases he
        exact ht).get hlt
      have HD : Hid (l.drop k = s :: l.drop (k + 1)) := by
        obtain ⟨hk', rfl⟩ := List.getElem?_eq_some_iff.1 hs
        exact List.drop_eq_getElem_cons hk'
      obtain ⟨pk, hpk⟩ : ∃ pk, pk = p + k := ⟨_, rfl⟩
      have HW2 : Hid (writesB m p l = if (Dk.write m' (pk : Int) s).2 != 0 then Dk.write m' (pk : Int) s else writesB (Dk.write m' (pk : Int) s).1 (pk + 1) (l.drop (k + 1))) := by
        show _ = _
        rw [HW.out, HD.out, hpk]
        rfl
      have HPK := Lib.hid hpk
      have e1 : (p : Int) + (k : Int) = (pk : Int) := by omega
      clear HW HD hs hpk
      have hwq := write_q m' (pk : Int) s
      go_wp2_with fail
      go_at_call 76
      refine (Owns.write _ s HO.out (by omega)).mono ?_
      rintro e w2 ⟨rfl, ho⟩
      replace HO := Lib.hid ho
      clear ho cs hg c0 hb1
      obtain ⟨y, hy⟩ : ∃ y, y = Dk.write m' (pk : Int) s := ⟨_, rfl⟩
      rw [← hy] at HO HW2 hwq ⊢
      clear hy
      by_cases h0 : y.2 = 0
      · have hq0 : (y.2 == 0) = true := by simpa using h0
        have HW3 : Hid (writesB m p l = writesB y.1 (p + (k + 1)) (l.drop (k + 1))) := by
          show _ = _
          rw [HW2.out, if_neg (by simp [h0]), HPK.out]
          rfl
        clear HW2 h0
        go_wp2_with fail
        go_roundg (n - (k + 1))
        case measure => omega
        case rel => exact ⟨k + 1, y.1, rfl, by omega, by go_num, by omega, HW3, HO⟩
      · have hq0 : (y.2 == 0) = false := by simpa using h0
        have HW3 : Hid (writesB m p l = y) := by
          show _ = _
          rw [HW2.out, if_pos (by simp [h0])]
        clear HW2 h0 hJ1 hK1
        go_wp2_with fail
        go_ret
        rw [HW3.out]
        exact ⟨rfl, HO.out⟩
    · have HW3 : Hid (writesB m p l = Dk.sync m') := by
        show _ = _
        rw [HW.out, List.drop_of_length_le (by omega)]
        rfl
      clear HW hJ1 hK1
      go_wp2_with fail
      go_at_call 77
      refine (Owns.sync HO.out (by omega)).mono ?_
      rintro e w2 ⟨rfl, ho⟩
      replace HO := Lib.hid ho
      clear ho c0 hb1
      go_wp2_with fail
      go_ret
      rw [HW3.out]
      exact ⟨rfl, HO.out⟩
end Go.Proofs.YtjcjpekndeoonaaGreatDoor

/-
  The windows' 'begins'.
-/
import Derived.Test.YtkcbdlnoobjmbaaDoorWnPut2
import Derived.Test.YtkcbdlnoobjmbaaDoorWnModel
import Derived.Test.YtkcbdlnoobjmbaaDoorClBegin
namespace Go.Cz.Wn
open Go.Cz.Ck
/-- The beginnings of days, put into a list. -/
def beginsF (l : List Shift) (ds xs : List Int) : List Int := ds.foldl (fun acc d => if (instF l d 0).2 = 0 then insF (instF l d 0).1 acc else acc) xs
theorem beginsF_snoc (l : List Shift) (ds xs : List Int) (d : Int) : beginsF l (ds ++ [d]) xs = if (instF l d 0).2 = 0 then insF (instF l d 0).1 (beginsF l ds xs) else beginsF l ds xs := by simp [beginsF]
theorem beginsF_sorted (l : List Shift) : ∀ (ds xs : List Int), xs.Pairwise (· < ·) → (beginsF l ds xs).Pairwise (· < ·)
  | [], xs, h => h
  | d :: ds, xs, h => by
    show (beginsF l ds (if (instF l d 0).2 = 0 then insF (instF l d 0).1 xs else xs)).Pairwise (· < ·)
    refine beginsF_sorted l ds _ ?_
    split
    · exact insF_sorted h
    · exact h
theorem beginsF_len (l : List Shift) : ∀ (ds xs : List Int), (beginsF l ds xs).length ≤ xs.length + ds.length
  | [], xs => Nat.le_refl _
  | d :: ds, xs => by
    show (beginsF l ds (if (instF l d 0).2 = 0 then insF (instF l d 0).1 xs else xs)).length ≤ _
    have h := beginsF_len l ds (if (instF l d 0).2 = 0 then insF (instF l d 0).1 xs else xs)
    have h2 : (if (instF l d 0).2 = 0 then insF (instF l d 0).1 xs else xs).length ≤ xs.length + 1 := by
      split
      · exact insF_len _ _
      · omega
    simp only [List.length_cons]
    omega
end Go.Cz.Wn
namespace Go.Proofs.YtkcbdlnoobjmbaaDoor
open Go.RowKit Go.Cz Go.Cz.Ck Go.Cz.Wn
set_option linter.unusedSimpArgs false
set_option linter.unusedVariables false
attribute [local go_sem] bs_size bs_extract bs_append bs_toList
attribute [local irreducible] cList
set_option maxHeartbeats 2000000 in
theorem begins_c {w0 W : World} {bo : Nat} {xs : List Int} {ps : List Piece} (x : Option Addr) (n c : Nat) (l : List Shift) (dg k kc : Nat) (ds : List Int) (cur : Array Value) (hx : IsShifts w0 x n l) (hk : ds.length = k) (hk3 : k ≤ 3) (hcur : ∀ (j : Nat) (d : Int), ds[j]? = some d → cur[j]? = some (.int .i64 d))
    (hs : xs.Pairwise (· < ·)) (hlen : xs.length ≤ 900000) (h : Owns w0 W (olP w0 bo xs :: blk dg (.cells cur 3 (0, 0)) :: ps)) :
    Calls Tryd.prog 33 #[.agg #[.slice x n c], .func (.func 31) #[.pointer (some ⟨bo, 0, none⟩)] #[], .slice (some ⟨dg, 0, none⟩) k kc] W fun e w' => e = .returned (.tuple #[]) ∧ Owns w0 w' (olP w0 bo (beginsF l ds xs) :: blk dg (.cells cur 3 (0, 0)) :: ps) := by
  obtain ⟨B, hB⟩ : ∃ B, B = W.heap.size := ⟨_, rfl⟩
  have HX := Lib.hid hx
  have HK := Lib.hid (And.intro hk hcur)
  have HS := Lib.hid (And.intro hs hlen)
  have HO : Hid (Owns w0 (W.alloc (.cells #[.slice x n c] 29)) (olP w0 bo xs :: blk B (.cells #[.slice x n c] 29 (0, 0)) :: blk dg (.cells cur 3 (0, 0)) :: ps)) := by
    rw [hB]; exact (h.box _).swap
  clear h hx hk hcur hs hlen
  go_enter Tryd.func33, Tryd.ntmps33
  go_wp2_with fail
  rw [← hB] at *
  clear hB
  go_loopg [12] k (fun gk i wr => ∃ j : Nat, gk = k - j ∧ j ≤ k ∧ i = .int .i64 (j : Int) ∧ Hid (Owns w0 wr (olP w0 bo (beginsF l (ds.take j) xs) :: blk B (.cells #[.slice x n c] 29 (0, 0)) :: blk dg (.cells cur 3 (0, 0)) :: ps)))
  case atStart => exact ⟨0, rfl, Nat.zero_le _, rfl, HO⟩
  case round =>
    rename_i J1 K1 hJ1 hK1
    clear HO
    obtain ⟨j, rfl, hj, rfl, hw⟩ := hrel
    by_cases hlt : j < k
    · obtain ⟨bz, -⟩ := hw.out.swap.blk
      obtain ⟨bd, -⟩ := hw.out.pop.swap.blk
      have z1 := lt_of_block bz
      have z2 := lt_of_block bd
      have cz : wr.cell? ⟨B, 0, none⟩ = some (.slice x n c) := by rw [cell_of_heap bz]; rfl
      obtain ⟨d, hd⟩ : ∃ d, ds[j]? = some d := ⟨_, List.getElem?_eq_getElem (by have := HK.out.1; omega)⟩
      have cd : wr.cell? ⟨dg, j, none⟩ = some (.int .i64 d) := by rw [cell_of_heap bd]; exact HK.out.2 j d hd
      have HD := Lib.hid hd
      rcases hI : instF l d 0 with ⟨t, e1⟩
      have HI := Lib.hid hI
      have HN : Hid (beginsF l (ds.take (j + 1)) xs = if e1 = 0 then insF t (beginsF l (ds.take j) xs) else beginsF l (ds.take j) xs) := by
        obtain ⟨q1, q2⟩ := List.getElem?_eq_some_iff.1 hd
        show _ = _
        rw [List.take_succ_eq_append_getElem q1, q2, beginsF_snoc, hI]
      have Hso := Lib.hid (beginsF_sorted l (ds.take j) xs HS.out.1)
      have Hle : Hid ((beginsF l (ds.take j) xs).length ≤ 999999) := by
        have h1 := beginsF_len l (ds.take j) xs
        have h2 := HS.out.2
        have h3 : (ds.take j).length ≤ j := List.length_take_le _ _
        show _ ≤ _
        omega
      clear bz bd hd hI
      go_wp2_with fail
      go_at_call 19
      refine (Begin_c x n c l d wr (HX.out.below hw.out.base)).mono ?_
      rintro e W4 ⟨rfl, hb⟩
      rw [HI.out]
      have HO := Lib.hid (hw.out.below hb)
      clear hb hw cz cd z1 z2
      by_cases h0 : e1 = 0
      · have h0b : (e1 == 0) = true := by simp [h0]
        have HN2 := HN.out
        rw [if_pos h0] at HN2
        have HN3 := Lib.hid HN2
        clear h0 HN HN2
        go_wp2_with fail
        go_at_call 31
        refine (put_o t HO.out Hso.out Hle.out).mono ?_
        rintro e W5 ⟨rfl, ho⟩
        have HO2 : Hid (Owns w0 W5 (olP w0 bo (beginsF l (ds.take (j + 1)) xs) :: blk B (.cells #[.slice x n c] 29 (0, 0)) :: blk dg (.cells cur 3 (0, 0)) :: ps)) := by
          show Owns _ _ _
          rw [HN3.out]
          exact ho
        clear ho HO
        go_wp2_with fail
        go_roundg (k - (j + 1))
        case measure => omega
        case rel => exact ⟨j + 1, rfl, by omega, by go_num, HO2⟩
      · have h0b : (e1 == 0) = false := by simp [h0]
        have HO2 : Hid (Owns w0 W4 (olP w0 bo (beginsF l (ds.take (j + 1)) xs) :: blk B (.cells #[.slice x n c] 29 (0, 0)) :: blk dg (.cells cur 3 (0, 0)) :: ps)) := by
          show Owns _ _ _
          rw [HN.out, if_neg h0]
          exact HO.out
        clear h0 HN HO
        go_wp2_with fail
        go_roundg (k - (j + 1))
        case measure => omega
        case rel => exact ⟨j + 1, rfl, by omega, by go_num, HO2⟩
    · obtain rfl : j = k := by omega
      have HO2 : Hid (Owns w0 wr (olP w0 bo (beginsF l ds xs) :: blk dg (.cells cur 3 (0, 0)) :: ps)) := by
        have h1 := hw.out
        rw [List.take_of_length_le (by rw [HK.out.1]; exact Nat.le_refl _)] at h1
        exact h1.swap.pop
      clear hJ1 hK1 hw
      go_wp2_with fail
      go_end0
      exact ⟨rfl, HO2.out⟩
end Go.Proofs.YtkcbdlnoobjmbaaDoor

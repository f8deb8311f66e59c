/-
  The reference's 'put'.
-/
import Derived.Test.YtkcbdlnoobjmbaaDoorWnRChModel
import Derived.Test.YtkcbdlnoobjmbaaDoorBase
import Derived.Test.YtkcbdlnoobjmbaaDoorWnChanges
namespace Go.Proofs.YtkcbdlnoobjmbaaDoor
open Go.RowKit Go.Cz Go.Cz.Ck Go.Cz.Wn
set_option linter.unusedSimpArgs false
set_option linter.unusedVariables false
attribute [local go_sem] bs_size bs_extract bs_append bs_toList
attribute [local irreducible] cList cPlan
abbrev icl (xs : List Int) : List Value := xs.map (Value.int .i64 ·)
theorem empty_row (V U : World) (h : Below V.heap.size V U) : ORow 3 1 V (U.alloc (.cells #[] 3)) (.slice (some ⟨U.heap.size, 0, none⟩) 0 0) 0 [] := by
  have hh : (U.alloc (.cells #[] 3)).heap[U.heap.size]? = some (.cells #[] 3 (0, 0)) := new_heap U _ _ rfl
  exact ⟨⟨rfl, .inr ⟨U.heap.size, 0, #[], rfl, Nat.zero_le _, hh, Nat.le_refl _, by unfold maxLen; omega, rfl, rfl⟩⟩, fun k hk => (by cases hk; exact h.size), h.alloc h.size _⟩
theorem rput_ret {x : Int} {xs : List Int} (hx : x ∈ xs) : rputF x xs = xs := by
  unfold rputF insF
  split
  · rfl
  · rw [if_pos (by simpa using hx)]
def RPutPost (V : World) (ys : List Int) (e : Ending) (w' : World) : Prop := ∃ v', e = .returned v' ∧ ORow 3 1 V w' v' ys.length (icl ys)
theorem icl_len (xs : List Int) : (icl xs).length = xs.length := by simp
theorem take_get {α : Type} {xs : List α} {i j : Nat} {u : α} (h : (xs.take i)[j]? = some u) : xs[j]? = some u := by
  rw [List.getElem?_take] at h
  split at h
  · exact h
  · cases h
/-- The memory of 'put': the argument's cells. -/
structure PuE (W : World) (g : Nat) (xs : List Int) : Prop where
  lt : g < W.heap.size
  cells : ∀ (j : Nat) (x : Int), xs[j]? = some x → W.cell? ⟨g, j, none⟩ = some (.int .i64 x)
theorem PuE.take {W W' : World} {g : Nat} {xs : List Int} (h : PuE W g xs) (hb : Below W.heap.size W W') (i j : Nat) (u : Value) (hu : (icl (xs.take i))[j]? = some u) : W'.cell? ⟨g, 0 + j, none⟩ = some u := by
  rw [Nat.zero_add, hb.cell (p := ⟨g, j, none⟩) h.lt]
  rw [List.getElem?_map] at hu
  rcases hx : (xs.take i)[j]? with _ | x
  · rw [hx] at hu; cases hu
  · rw [hx] at hu
    simp at hu
    subst hu
    exact h.cells j x (take_get hx)
theorem PuE.drop {W W' : World} {g : Nat} {xs : List Int} (h : PuE W g xs) (hb : Below W.heap.size W W') (i j : Nat) (u : Value) (hu : (icl (xs.drop i))[j]? = some u) : W'.cell? ⟨g, i + j, none⟩ = some u := by
  rw [hb.cell (p := ⟨g, i + j, none⟩) h.lt]
  rw [List.getElem?_map] at hu
  rcases hx : (xs.drop i)[j]? with _ | x
  · rw [hx] at hu; cases hu
  · rw [hx] at hu
    simp at hu
    subst hu
    rw [List.getElem?_drop] at hx
    exact h.cells (i + j) x hx
theorem one_get {x : Value} {W : World} {b : Nat} (h : W.heap[b]? = some (.cells #[x] 3 (0, 0))) (j : Nat) (u : Value) (hj : [x][j]? = some u) : W.cell? ⟨b, 0 + j, none⟩ = some u := by
  rw [Nat.zero_add, cell_of_heap h]
  simpa using hj
theorem put_end {V wr W : World} {v : Value} {xs : List Int} {t : Int} {k n : Nat} (h : ORow 3 1 wr W v (k + 1 + (n - k)) (icl (xs.take k) ++ [.int .i64 t] ++ icl (xs.drop k))) (hb : Below V.heap.size V wr) (hn : xs.length = n) (hk : k ≤ n) (he : rputF t xs = xs.take k ++ t :: xs.drop k) :
    ORow 3 1 V W v (rputF t xs).length (icl (rputF t xs)) := by
  have h2 := h.onto hb
  rw [he]
  have e1 : (xs.take k ++ t :: xs.drop k).length = k + 1 + (n - k) := by simp; omega
  rw [e1]
  simpa using h2
set_option maxRecDepth 10000 in
set_option maxHeartbeats 4000000 in
theorem rPut_c (V W : World) (v : Value) (xs : List Int) (t : Int) (h : ORow 3 1 V W v xs.length (icl xs)) (hs : xs.Pairwise (· < ·)) (hlen : xs.length ≤ 900000) (h1 : 0 < xs.length) :
    Calls Tryd.prog 35 #[v, .int .i64 t] W (RPutPost V (rputF t xs)) := by
  by_cases ht : t < 0
  · have He : Hid (rputF t xs = xs) := if_pos ht
    have HRv := Lib.hid h
    clear h hs
    go_enter Tryd.func35, Tryd.ntmps35
    go_wp2_with fail
    go_ret
    exact ⟨v, rfl, by rw [He.out]; exact HRv.out⟩
  have HP : Hid (rputF t xs = insF t xs) := if_neg ht
  rcases h.at with ⟨-, h0⟩ | ⟨g, c, hv, hnc, hVg, hg, hcell⟩
  · omega
  subst hv
  have HRv := Lib.hid h
  have HS0 := Lib.hid hs
  have hcx : ∀ (j : Nat) (x : Int), xs[j]? = some x → W.cell? ⟨g, j, none⟩ = some (.int .i64 x) := fun j x hx => hcell j _ (by rw [List.getElem?_map, hx]; rfl)
  have HC := Lib.hid hcx
  have HE : Hid (PuE W g xs) := ⟨hg, hcx⟩
  obtain ⟨n, hn⟩ : ∃ n, n = xs.length := ⟨_, rfl⟩
  have HN : Hid (xs.length = n) := hn.symm
  rw [← hn] at h1 hlen hnc HRv ⊢
  clear hcell hcx h hs hn
  go_enter Tryd.func35, Tryd.ntmps35
  go_wp2_with fail
  go_loopg [5] n (fun gk i wr => ∃ k : Nat, gk = n - k ∧ k ≤ n ∧ i = .int .i64 (k : Int) ∧ wr = W ∧ Hid (∀ j, j < k → ∀ y, xs[j]? = some y → y < t))
  case atStart => exact ⟨0, rfl, Nat.zero_le _, rfl, rfl, Lib.hid (fun j hj => by omega)⟩
  case round =>
    rename_i J1 K1 hJ1 hK1
    obtain ⟨k, rfl, hk, rfl, rfl, hv⟩ := hrel
    by_cases hlt : k < n
    · obtain ⟨x, hx⟩ : ∃ x, xs[k]? = some x := ⟨_, List.getElem?_eq_getElem (by have := HN.out; omega)⟩
      have q1 := HC.out k x hx
      have HX := Lib.hid hx
      clear hx
      by_cases hxt : x < t
      · have HV : Hid (∀ j, j < k + 1 → ∀ y, xs[j]? = some y → y < t) := Lib.hid fun j hj y hy => by
          by_cases hjk : j = k
          · subst hjk; rw [HX.out] at hy; cases hy; exact hxt
          · exact hv.out j (by omega) y hy
        clear hv
        go_wp2_with fail
        go_roundg (n - (k + 1))
        case measure => omega
        case rel => exact ⟨k + 1, rfl, by omega, by go_num, rfl, HV⟩
      · clear hJ1 hK1
        by_cases hxe : x = t
        · subst hxe
          have He : Hid (rputF x xs = xs) := rput_ret (List.mem_of_getElem? HX.out)
          clear hv
          go_wp2_with fail
          go_ret
          exact ⟨_, rfl, by rw [He.out, HN.out]; exact HRv.out⟩
        · have hxe2 : (x == t) = false := by simpa using hxe
          have He : Hid (rputF t xs = xs.take k ++ t :: xs.drop k) := HP.out.trans (put_stop HS0.out hv.out (fun y hy => by rw [HX.out] at hy; cases hy; omega) (by have := HN.out; omega))
          clear hv hxe
          go_wp2_with fail
          refine wp_region_plan [] (.step 1 (.step 2 (.step 3 (.step 5 (.step 8 (.step 9 (.step 10 (.fork 0 (.fork 4 (.step 6 (.step 7 (.step 11 (.step 12 .done)))) 6 (.step 4 (.step 7 (.step 11 (.step 12 .done))))) 6 (.step 0 (.step 4 (.step 7 (.step 11 (.step 12 .done))))))))))))) (by kernel_rfl) (by kernel_rfl) ?_
          iterate 7 (refine cp_do rfl rfl rfl rfl (fun _ _ => ?_); go_wp2_with fail)
          refine cp_fork ?_ ?_
          focus
            refine cp_do rfl rfl rfl rfl (fun _ _ => ?_)
            have HR := Lib.hid ((empty_row wr wr (Below.refl _ _)).keep ((Below.refl _ _).drew))
            (try simp only [World.size_alloc] at HR)
            go_wp2_with fail
            refine cp_fork ?_ ?_
            focus
              refine cp_do rfl rfl rfl rfl (fun K hK => ?_)
              refine wp_append_at (.tmp 36) (.tmp 39) 39 (by rfl) 3 _ 1 8 Tryd.underlying39 info_int' (by rfl) (by omega) _ 0 _ (by rfl) HR.out.row g 0 c k (icl (xs.take k)) (by rfl) (by simp; have := HN.out; omega) (HE.out.take HR.out.below k) icell_one (by omega) (by omega) ?_
              intro v2 w2 hrow hgrow hblk
              skip
              replace HR := Lib.hid (HR.out.step hrow hgrow hblk)
              rw [Nat.zero_add, List.nil_append] at HR
              clear hrow hgrow hblk
              go_wp2_with fail
              have HT : Hid ((w2.alloc (.cells #[.int .i64 t] 3)).heap[w2.heap.size]? = some (.cells #[.int .i64 t] 3 (0, 0))) := new_heap _ _ _ rfl
              replace HR := Lib.hid (HR.out.keep ((Below.refl _ _).alloc (Nat.le_refl _) (.cells #[.int .i64 t] 3)))
              refine cp_do rfl rfl rfl rfl (fun _ _ => ?_)
              go_wp2_with fail
              refine cp_do rfl rfl rfl rfl (fun K hK => ?_)
              refine wp_append_at (.tmp 40) (.tmp 42) 39 (by rfl) 3 _ 1 8 Tryd.underlying39 info_int' (by rfl) (by omega) _ k _ (by rfl) HR.out.row w2.heap.size 0 1 1 [.int .i64 t] (by rfl) (by rfl) (one_get HT.out) (by simp [Value.oneCell']) (by omega) (by omega) ?_
              intro v3 w3 hrow hgrow hblk
              replace HR := Lib.hid (HR.out.step hrow hgrow hblk)
              clear hrow hgrow hblk HT
              go_wp2_with fail
              refine cp_do rfl rfl rfl rfl (fun K hK => ?_)
              refine wp_append_at (.tmp 43) (.tmp 46) 39 (by rfl) 3 _ 1 8 Tryd.underlying39 info_int' (by rfl) (by omega) _ (k + 1) _ (by rfl) HR.out.row g k (c - k) (n - k) (icl (xs.drop k)) (by rfl) (by simp; have := HN.out; omega) (HE.out.drop HR.out.below k) icell_one (by omega) (by omega) ?_
              intro v4 w4 hrow hgrow hblk
              replace HR := Lib.hid (put_end (HR.out.step hrow hgrow hblk) HRv.out.below HN.out (by omega) He.out)
              clear hrow hgrow hblk
              go_wp2_with fail
              refine cp_do rfl rfl rfl rfl (fun _ _ => ?_)
              go_wp2_with fail
              refine cp_nil ?_
              go_wp2_with fail
              go_ret
              exact ⟨_, rfl, HR.out⟩
            focus
              have HT : Hid (((wr.alloc (.cells #[] 3)).alloc (.cells #[.int .i64 t] 3)).drew.heap[wr.heap.size + 1]? = some (.cells #[.int .i64 t] 3 (0, 0))) := new_heap _ _ _ (by simp)
              replace HR := Lib.hid (HR.out.keep ((Below.refl _ _).alloc (Nat.le_refl _) (.cells #[.int .i64 t] 3)))
              refine cp_do rfl rfl rfl rfl (fun _ _ => ?_)
              go_wp2_with fail
              refine cp_do rfl rfl rfl rfl (fun K hK => ?_)
              refine wp_append_at (.tmp 36) (.tmp 39) 39 (by rfl) 3 _ 1 8 Tryd.underlying39 info_int' (by rfl) (by omega) _ 0 _ (by rfl) HR.out.row g 0 c k (icl (xs.take k)) (by rfl) (by simp; have := HN.out; omega) (HE.out.take HR.out.below k) icell_one (by omega) (by omega) ?_
              intro v2 w2 hrow hgrow hblk
              replace HT := Lib.hid ((hgrow.block (wr.heap.size + 1) (lt_of_block HT.out) (by simp [Value.ownBlock])).trans HT.out)
              replace HR := Lib.hid (HR.out.step hrow hgrow hblk)
              rw [Nat.zero_add, List.nil_append] at HR
              clear hrow hgrow hblk
              go_wp2_with fail
              refine cp_do rfl rfl rfl rfl (fun K hK => ?_)
              refine wp_append_at (.tmp 40) (.tmp 42) 39 (by rfl) 3 _ 1 8 Tryd.underlying39 info_int' (by rfl) (by omega) _ k _ (by rfl) HR.out.row (wr.heap.size + 1) 0 1 1 [.int .i64 t] (by rfl) (by rfl) (one_get HT.out) (by simp [Value.oneCell']) (by omega) (by omega) ?_
              intro v3 w3 hrow hgrow hblk
              replace HR := Lib.hid (HR.out.step hrow hgrow hblk)
              clear hrow hgrow hblk HT
              go_wp2_with fail
              refine cp_do rfl rfl rfl rfl (fun K hK => ?_)
              refine wp_append_at (.tmp 43) (.tmp 46) 39 (by rfl) 3 _ 1 8 Tryd.underlying39 info_int' (by rfl) (by omega) _ (k + 1) _ (by rfl) HR.out.row g k (c - k) (n - k) (icl (xs.drop k)) (by rfl) (by simp; have := HN.out; omega) (HE.out.drop HR.out.below k) icell_one (by omega) (by omega) ?_
              intro v4 w4 hrow hgrow hblk
              replace HR := Lib.hid (put_end (HR.out.step hrow hgrow hblk) HRv.out.below HN.out (by omega) He.out)
              clear hrow hgrow hblk
              go_wp2_with fail
              refine cp_do rfl rfl rfl rfl (fun _ _ => ?_)
              go_wp2_with fail
              refine cp_nil ?_
              go_wp2_with fail
              go_ret
              exact ⟨_, rfl, HR.out⟩
          focus
            have HT : Hid ((wr.alloc (.cells #[.int .i64 t] 3)).heap[wr.heap.size]? = some (.cells #[.int .i64 t] 3 (0, 0))) := new_heap _ _ _ rfl
            refine cp_do rfl rfl rfl rfl (fun _ _ => ?_)
            go_wp2_with fail
            refine cp_do rfl rfl rfl rfl (fun _ _ => ?_)
            have HR := Lib.hid ((empty_row wr (wr.alloc (.cells #[.int .i64 t] 3)) ((Below.refl _ _).alloc (Nat.le_refl _) _)).keep ((Below.refl _ _).drew))
            (try simp only [World.size_alloc] at HR)
            go_wp2_with fail
            replace HT : Hid (((wr.alloc (.cells #[.int .i64 t] 3)).alloc (.cells #[] 3)).drew.heap[wr.heap.size]? = some (.cells #[.int .i64 t] 3 (0, 0))) := (Below.heap_alloc _ _ _ (by simp)).trans HT.out
            refine cp_do rfl rfl rfl rfl (fun K hK => ?_)
            refine wp_append_at (.tmp 36) (.tmp 39) 39 (by rfl) 3 _ 1 8 Tryd.underlying39 info_int' (by rfl) (by omega) _ 0 _ (by rfl) HR.out.row g 0 c k (icl (xs.take k)) (by rfl) (by simp; have := HN.out; omega) (HE.out.take HR.out.below k) icell_one (by omega) (by omega) ?_
            intro v2 w2 hrow hgrow hblk
            replace HT := Lib.hid ((hgrow.block wr.heap.size (lt_of_block HT.out) (by simp [Value.ownBlock])).trans HT.out)
            replace HR := Lib.hid (HR.out.step hrow hgrow hblk)
            rw [Nat.zero_add, List.nil_append] at HR
            clear hrow hgrow hblk
            go_wp2_with fail
            refine cp_do rfl rfl rfl rfl (fun K hK => ?_)
            refine wp_append_at (.tmp 40) (.tmp 42) 39 (by rfl) 3 _ 1 8 Tryd.underlying39 info_int' (by rfl) (by omega) _ k _ (by rfl) HR.out.row wr.heap.size 0 1 1 [.int .i64 t] (by rfl) (by rfl) (one_get HT.out) (by simp [Value.oneCell']) (by omega) (by omega) ?_
            intro v3 w3 hrow hgrow hblk
            replace HR := Lib.hid (HR.out.step hrow hgrow hblk)
            clear hrow hgrow hblk HT
            go_wp2_with fail
            refine cp_do rfl rfl rfl rfl (fun K hK => ?_)
            refine wp_append_at (.tmp 43) (.tmp 46) 39 (by rfl) 3 _ 1 8 Tryd.underlying39 info_int' (by rfl) (by omega) _ (k + 1) _ (by rfl) HR.out.row g k (c - k) (n - k) (icl (xs.drop k)) (by rfl) (by simp; have := HN.out; omega) (HE.out.drop HR.out.below k) icell_one (by omega) (by omega) ?_
            intro v4 w4 hrow hgrow hblk
            replace HR := Lib.hid (put_end (HR.out.step hrow hgrow hblk) HRv.out.below HN.out (by omega) He.out)
            clear hrow hgrow hblk
            go_wp2_with fail
            refine cp_do rfl rfl rfl rfl (fun _ _ => ?_)
            go_wp2_with fail
            refine cp_nil ?_
            go_wp2_with fail
            go_ret
            exact ⟨_, rfl, HR.out⟩
    · have He : Hid (rputF t xs = xs.take k ++ t :: xs.drop k) := HP.out.trans (put_stop HS0.out hv.out (fun y hy => by have := (List.getElem?_eq_some_iff.1 hy).1; have := HN.out; omega) (by have := HN.out; omega))
      clear hJ1 hK1 hv
      by_cases hck : c = k
      · go_wp2_with fail
        refine wp_region_plan [] (.step 1 (.step 2 (.step 3 (.step 5 (.step 8 (.step 9 (.step 10 (.fork 0 (.fork 4 (.step 6 (.step 7 (.step 11 (.step 12 .done)))) 6 (.step 4 (.step 7 (.step 11 (.step 12 .done))))) 6 (.step 0 (.step 4 (.step 7 (.step 11 (.step 12 .done))))))))))))) (by kernel_rfl) (by kernel_rfl) ?_
        iterate 7 (refine cp_do rfl rfl rfl rfl (fun _ _ => ?_); go_wp2_with fail)
        refine cp_fork ?_ ?_
        focus
          refine cp_do rfl rfl rfl rfl (fun _ _ => ?_)
          have HR := Lib.hid ((empty_row wr wr (Below.refl _ _)).keep ((Below.refl _ _).drew))
          (try simp only [World.size_alloc] at HR)
          go_wp2_with fail
          refine cp_fork ?_ ?_
          focus
            refine cp_do rfl rfl rfl rfl (fun K hK => ?_)
            refine wp_append_at (.tmp 36) (.tmp 39) 39 (by rfl) 3 _ 1 8 Tryd.underlying39 info_int' (by rfl) (by omega) _ 0 _ (by rfl) HR.out.row g 0 k k (icl (xs.take k)) (by rfl) (by simp; have := HN.out; omega) (HE.out.take HR.out.below k) icell_one (by omega) (by omega) ?_
            intro v2 w2 hrow hgrow hblk
            skip
            replace HR := Lib.hid (HR.out.step hrow hgrow hblk)
            rw [Nat.zero_add, List.nil_append] at HR
            clear hrow hgrow hblk
            go_wp2_with fail
            have HT : Hid ((w2.alloc (.cells #[.int .i64 t] 3)).heap[w2.heap.size]? = some (.cells #[.int .i64 t] 3 (0, 0))) := new_heap _ _ _ rfl
            replace HR := Lib.hid (HR.out.keep ((Below.refl _ _).alloc (Nat.le_refl _) (.cells #[.int .i64 t] 3)))
            refine cp_do rfl rfl rfl rfl (fun _ _ => ?_)
            go_wp2_with fail
            refine cp_do rfl rfl rfl rfl (fun K hK => ?_)
            refine wp_append_at (.tmp 40) (.tmp 42) 39 (by rfl) 3 _ 1 8 Tryd.underlying39 info_int' (by rfl) (by omega) _ k _ (by rfl) HR.out.row w2.heap.size 0 1 1 [.int .i64 t] (by rfl) (by rfl) (one_get HT.out) (by simp [Value.oneCell']) (by omega) (by omega) ?_
            intro v3 w3 hrow hgrow hblk
            replace HR := Lib.hid (HR.out.step hrow hgrow hblk)
            clear hrow hgrow hblk HT
            go_wp2_with fail
            refine cp_do rfl rfl rfl rfl (fun K hK => ?_)
            refine wp_append_at (.tmp 43) (.tmp 46) 39 (by rfl) 3 _ 1 8 Tryd.underlying39 info_int' (by rfl) (by omega) _ (k + 1) _ (by rfl) HR.out.row g 0 0 (n - k) (icl (xs.drop k)) (by rfl) (by simp; have := HN.out; omega) (fun j u hu => by rw [List.drop_of_length_le (by have := HN.out; omega)] at hu; simp at hu) icell_one (by omega) (by omega) ?_
            intro v4 w4 hrow hgrow hblk
            replace HR := Lib.hid (put_end (HR.out.step hrow hgrow hblk) HRv.out.below HN.out (by omega) He.out)
            clear hrow hgrow hblk
            go_wp2_with fail
            refine cp_do rfl rfl rfl rfl (fun _ _ => ?_)
            go_wp2_with fail
            refine cp_nil ?_
            go_wp2_with fail
            go_ret
            exact ⟨_, rfl, HR.out⟩
          focus
            have HT : Hid (((wr.alloc (.cells #[] 3)).alloc (.cells #[.int .i64 t] 3)).drew.heap[wr.heap.size + 1]? = some (.cells #[.int .i64 t] 3 (0, 0))) := new_heap _ _ _ (by simp)
            replace HR := Lib.hid (HR.out.keep ((Below.refl _ _).alloc (Nat.le_refl _) (.cells #[.int .i64 t] 3)))
            refine cp_do rfl rfl rfl rfl (fun _ _ => ?_)
            go_wp2_with fail
            refine cp_do rfl rfl rfl rfl (fun K hK => ?_)
            refine wp_append_at (.tmp 36) (.tmp 39) 39 (by rfl) 3 _ 1 8 Tryd.underlying39 info_int' (by rfl) (by omega) _ 0 _ (by rfl) HR.out.row g 0 k k (icl (xs.take k)) (by rfl) (by simp; have := HN.out; omega) (HE.out.take HR.out.below k) icell_one (by omega) (by omega) ?_
            intro v2 w2 hrow hgrow hblk
            replace HT := Lib.hid ((hgrow.block (wr.heap.size + 1) (lt_of_block HT.out) (by simp [Value.ownBlock])).trans HT.out)
            replace HR := Lib.hid (HR.out.step hrow hgrow hblk)
            rw [Nat.zero_add, List.nil_append] at HR
            clear hrow hgrow hblk
            go_wp2_with fail
            refine cp_do rfl rfl rfl rfl (fun K hK => ?_)
            refine wp_append_at (.tmp 40) (.tmp 42) 39 (by rfl) 3 _ 1 8 Tryd.underlying39 info_int' (by rfl) (by omega) _ k _ (by rfl) HR.out.row (wr.heap.size + 1) 0 1 1 [.int .i64 t] (by rfl) (by rfl) (one_get HT.out) (by simp [Value.oneCell']) (by omega) (by omega) ?_
            intro v3 w3 hrow hgrow hblk
            replace HR := Lib.hid (HR.out.step hrow hgrow hblk)
            clear hrow hgrow hblk HT
            go_wp2_with fail
            refine cp_do rfl rfl rfl rfl (fun K hK => ?_)
            refine wp_append_at (.tmp 43) (.tmp 46) 39 (by rfl) 3 _ 1 8 Tryd.underlying39 info_int' (by rfl) (by omega) _ (k + 1) _ (by rfl) HR.out.row g 0 0 (n - k) (icl (xs.drop k)) (by rfl) (by simp; have := HN.out; omega) (fun j u hu => by rw [List.drop_of_length_le (by have := HN.out; omega)] at hu; simp at hu) icell_one (by omega) (by omega) ?_
            intro v4 w4 hrow hgrow hblk
            replace HR := Lib.hid (put_end (HR.out.step hrow hgrow hblk) HRv.out.below HN.out (by omega) He.out)
            clear hrow hgrow hblk
            go_wp2_with fail
            refine cp_do rfl rfl rfl rfl (fun _ _ => ?_)
            go_wp2_with fail
            refine cp_nil ?_
            go_wp2_with fail
            go_ret
            exact ⟨_, rfl, HR.out⟩
        focus
          have HT : Hid ((wr.alloc (.cells #[.int .i64 t] 3)).heap[wr.heap.size]? = some (.cells #[.int .i64 t] 3 (0, 0))) := new_heap _ _ _ rfl
          refine cp_do rfl rfl rfl rfl (fun _ _ => ?_)
          go_wp2_with fail
          refine cp_do rfl rfl rfl rfl (fun _ _ => ?_)
          have HR := Lib.hid ((empty_row wr (wr.alloc (.cells #[.int .i64 t] 3)) ((Below.refl _ _).alloc (Nat.le_refl _) _)).keep ((Below.refl _ _).drew))
          (try simp only [World.size_alloc] at HR)
          go_wp2_with fail
          replace HT : Hid (((wr.alloc (.cells #[.int .i64 t] 3)).alloc (.cells #[] 3)).drew.heap[wr.heap.size]? = some (.cells #[.int .i64 t] 3 (0, 0))) := (Below.heap_alloc _ _ _ (by simp)).trans HT.out
          refine cp_do rfl rfl rfl rfl (fun K hK => ?_)
          refine wp_append_at (.tmp 36) (.tmp 39) 39 (by rfl) 3 _ 1 8 Tryd.underlying39 info_int' (by rfl) (by omega) _ 0 _ (by rfl) HR.out.row g 0 k k (icl (xs.take k)) (by rfl) (by simp; have := HN.out; omega) (HE.out.take HR.out.below k) icell_one (by omega) (by omega) ?_
          intro v2 w2 hrow hgrow hblk
          replace HT := Lib.hid ((hgrow.block wr.heap.size (lt_of_block HT.out) (by simp [Value.ownBlock])).trans HT.out)
          replace HR := Lib.hid (HR.out.step hrow hgrow hblk)
          rw [Nat.zero_add, List.nil_append] at HR
          clear hrow hgrow hblk
          go_wp2_with fail
          refine cp_do rfl rfl rfl rfl (fun K hK => ?_)
          refine wp_append_at (.tmp 40) (.tmp 42) 39 (by rfl) 3 _ 1 8 Tryd.underlying39 info_int' (by rfl) (by omega) _ k _ (by rfl) HR.out.row wr.heap.size 0 1 1 [.int .i64 t] (by rfl) (by rfl) (one_get HT.out) (by simp [Value.oneCell']) (by omega) (by omega) ?_
          intro v3 w3 hrow hgrow hblk
          replace HR := Lib.hid (HR.out.step hrow hgrow hblk)
          clear hrow hgrow hblk HT
          go_wp2_with fail
          refine cp_do rfl rfl rfl rfl (fun K hK => ?_)
          refine wp_append_at (.tmp 43) (.tmp 46) 39 (by rfl) 3 _ 1 8 Tryd.underlying39 info_int' (by rfl) (by omega) _ (k + 1) _ (by rfl) HR.out.row g 0 0 (n - k) (icl (xs.drop k)) (by rfl) (by simp; have := HN.out; omega) (fun j u hu => by rw [List.drop_of_length_le (by have := HN.out; omega)] at hu; simp at hu) icell_one (by omega) (by omega) ?_
          intro v4 w4 hrow hgrow hblk
          replace HR := Lib.hid (put_end (HR.out.step hrow hgrow hblk) HRv.out.below HN.out (by omega) He.out)
          clear hrow hgrow hblk
          go_wp2_with fail
          refine cp_do rfl rfl rfl rfl (fun _ _ => ?_)
          go_wp2_with fail
          refine cp_nil ?_
          go_wp2_with fail
          go_ret
          exact ⟨_, rfl, HR.out⟩
      · go_wp2_with fail
        refine wp_region_plan [] (.step 1 (.step 2 (.step 3 (.step 5 (.step 8 (.step 9 (.step 10 (.fork 0 (.fork 4 (.step 6 (.step 7 (.step 11 (.step 12 .done)))) 6 (.step 4 (.step 7 (.step 11 (.step 12 .done))))) 6 (.step 0 (.step 4 (.step 7 (.step 11 (.step 12 .done))))))))))))) (by kernel_rfl) (by kernel_rfl) ?_
        iterate 7 (refine cp_do rfl rfl rfl rfl (fun _ _ => ?_); go_wp2_with fail)
        refine cp_fork ?_ ?_
        focus
          refine cp_do rfl rfl rfl rfl (fun _ _ => ?_)
          have HR := Lib.hid ((empty_row wr wr (Below.refl _ _)).keep ((Below.refl _ _).drew))
          (try simp only [World.size_alloc] at HR)
          go_wp2_with fail
          refine cp_fork ?_ ?_
          focus
            refine cp_do rfl rfl rfl rfl (fun K hK => ?_)
            refine wp_append_at (.tmp 36) (.tmp 39) 39 (by rfl) 3 _ 1 8 Tryd.underlying39 info_int' (by rfl) (by omega) _ 0 _ (by rfl) HR.out.row g 0 c k (icl (xs.take k)) (by rfl) (by simp; have := HN.out; omega) (HE.out.take HR.out.below k) icell_one (by omega) (by omega) ?_
            intro v2 w2 hrow hgrow hblk
            skip
            replace HR := Lib.hid (HR.out.step hrow hgrow hblk)
            rw [Nat.zero_add, List.nil_append] at HR
            clear hrow hgrow hblk
            go_wp2_with fail
            have HT : Hid ((w2.alloc (.cells #[.int .i64 t] 3)).heap[w2.heap.size]? = some (.cells #[.int .i64 t] 3 (0, 0))) := new_heap _ _ _ rfl
            replace HR := Lib.hid (HR.out.keep ((Below.refl _ _).alloc (Nat.le_refl _) (.cells #[.int .i64 t] 3)))
            refine cp_do rfl rfl rfl rfl (fun _ _ => ?_)
            go_wp2_with fail
            refine cp_do rfl rfl rfl rfl (fun K hK => ?_)
            refine wp_append_at (.tmp 40) (.tmp 42) 39 (by rfl) 3 _ 1 8 Tryd.underlying39 info_int' (by rfl) (by omega) _ k _ (by rfl) HR.out.row w2.heap.size 0 1 1 [.int .i64 t] (by rfl) (by rfl) (one_get HT.out) (by simp [Value.oneCell']) (by omega) (by omega) ?_
            intro v3 w3 hrow hgrow hblk
            replace HR := Lib.hid (HR.out.step hrow hgrow hblk)
            clear hrow hgrow hblk HT
            go_wp2_with fail
            refine cp_do rfl rfl rfl rfl (fun K hK => ?_)
            refine wp_append_at (.tmp 43) (.tmp 46) 39 (by rfl) 3 _ 1 8 Tryd.underlying39 info_int' (by rfl) (by omega) _ (k + 1) _ (by rfl) HR.out.row g k (c - k) (n - k) (icl (xs.drop k)) (by rfl) (by simp; have := HN.out; omega) (HE.out.drop HR.out.below k) icell_one (by omega) (by omega) ?_
            intro v4 w4 hrow hgrow hblk
            replace HR := Lib.hid (put_end (HR.out.step hrow hgrow hblk) HRv.out.below HN.out (by omega) He.out)
            clear hrow hgrow hblk
            go_wp2_with fail
            refine cp_do rfl rfl rfl rfl (fun _ _ => ?_)
            go_wp2_with fail
            refine cp_nil ?_
            go_wp2_with fail
            go_ret
            exact ⟨_, rfl, HR.out⟩
          focus
            have HT : Hid (((wr.alloc (.cells #[] 3)).alloc (.cells #[.int .i64 t] 3)).drew.heap[wr.heap.size + 1]? = some (.cells #[.int .i64 t] 3 (0, 0))) := new_heap _ _ _ (by simp)
            replace HR := Lib.hid (HR.out.keep ((Below.refl _ _).alloc (Nat.le_refl _) (.cells #[.int .i64 t] 3)))
            refine cp_do rfl rfl rfl rfl (fun _ _ => ?_)
            go_wp2_with fail
            refine cp_do rfl rfl rfl rfl (fun K hK => ?_)
            refine wp_append_at (.tmp 36) (.tmp 39) 39 (by rfl) 3 _ 1 8 Tryd.underlying39 info_int' (by rfl) (by omega) _ 0 _ (by rfl) HR.out.row g 0 c k (icl (xs.take k)) (by rfl) (by simp; have := HN.out; omega) (HE.out.take HR.out.below k) icell_one (by omega) (by omega) ?_
            intro v2 w2 hrow hgrow hblk
            replace HT := Lib.hid ((hgrow.block (wr.heap.size + 1) (lt_of_block HT.out) (by simp [Value.ownBlock])).trans HT.out)
            replace HR := Lib.hid (HR.out.step hrow hgrow hblk)
            rw [Nat.zero_add, List.nil_append] at HR
            clear hrow hgrow hblk
            go_wp2_with fail
            refine cp_do rfl rfl rfl rfl (fun K hK => ?_)
            refine wp_append_at (.tmp 40) (.tmp 42) 39 (by rfl) 3 _ 1 8 Tryd.underlying39 info_int' (by rfl) (by omega) _ k _ (by rfl) HR.out.row (wr.heap.size + 1) 0 1 1 [.int .i64 t] (by rfl) (by rfl) (one_get HT.out) (by simp [Value.oneCell']) (by omega) (by omega) ?_
            intro v3 w3 hrow hgrow hblk
            replace HR := Lib.hid (HR.out.step hrow hgrow hblk)
            clear hrow hgrow hblk HT
            go_wp2_with fail
            refine cp_do rfl rfl rfl rfl (fun K hK => ?_)
            refine wp_append_at (.tmp 43) (.tmp 46) 39 (by rfl) 3 _ 1 8 Tryd.underlying39 info_int' (by rfl) (by omega) _ (k + 1) _ (by rfl) HR.out.row g k (c - k) (n - k) (icl (xs.drop k)) (by rfl) (by simp; have := HN.out; omega) (HE.out.drop HR.out.below k) icell_one (by omega) (by omega) ?_
            intro v4 w4 hrow hgrow hblk
            replace HR := Lib.hid (put_end (HR.out.step hrow hgrow hblk) HRv.out.below HN.out (by omega) He.out)
            clear hrow hgrow hblk
            go_wp2_with fail
            refine cp_do rfl rfl rfl rfl (fun _ _ => ?_)
            go_wp2_with fail
            refine cp_nil ?_
            go_wp2_with fail
            go_ret
            exact ⟨_, rfl, HR.out⟩
        focus
          have HT : Hid ((wr.alloc (.cells #[.int .i64 t] 3)).heap[wr.heap.size]? = some (.cells #[.int .i64 t] 3 (0, 0))) := new_heap _ _ _ rfl
          refine cp_do rfl rfl rfl rfl (fun _ _ => ?_)
          go_wp2_with fail
          refine cp_do rfl rfl rfl rfl (fun _ _ => ?_)
          have HR := Lib.hid ((empty_row wr (wr.alloc (.cells #[.int .i64 t] 3)) ((Below.refl _ _).alloc (Nat.le_refl _) _)).keep ((Below.refl _ _).drew))
          (try simp only [World.size_alloc] at HR)
          go_wp2_with fail
          replace HT : Hid (((wr.alloc (.cells #[.int .i64 t] 3)).alloc (.cells #[] 3)).drew.heap[wr.heap.size]? = some (.cells #[.int .i64 t] 3 (0, 0))) := (Below.heap_alloc _ _ _ (by simp)).trans HT.out
          refine cp_do rfl rfl rfl rfl (fun K hK => ?_)
          refine wp_append_at (.tmp 36) (.tmp 39) 39 (by rfl) 3 _ 1 8 Tryd.underlying39 info_int' (by rfl) (by omega) _ 0 _ (by rfl) HR.out.row g 0 c k (icl (xs.take k)) (by rfl) (by simp; have := HN.out; omega) (HE.out.take HR.out.below k) icell_one (by omega) (by omega) ?_
          intro v2 w2 hrow hgrow hblk
          replace HT := Lib.hid ((hgrow.block wr.heap.size (lt_of_block HT.out) (by simp [Value.ownBlock])).trans HT.out)
          replace HR := Lib.hid (HR.out.step hrow hgrow hblk)
          rw [Nat.zero_add, List.nil_append] at HR
          clear hrow hgrow hblk
          go_wp2_with fail
          refine cp_do rfl rfl rfl rfl (fun K hK => ?_)
          refine wp_append_at (.tmp 40) (.tmp 42) 39 (by rfl) 3 _ 1 8 Tryd.underlying39 info_int' (by rfl) (by omega) _ k _ (by rfl) HR.out.row wr.heap.size 0 1 1 [.int .i64 t] (by rfl) (by rfl) (one_get HT.out) (by simp [Value.oneCell']) (by omega) (by omega) ?_
          intro v3 w3 hrow hgrow hblk
          replace HR := Lib.hid (HR.out.step hrow hgrow hblk)
          clear hrow hgrow hblk HT
          go_wp2_with fail
          refine cp_do rfl rfl rfl rfl (fun K hK => ?_)
          refine wp_append_at (.tmp 43) (.tmp 46) 39 (by rfl) 3 _ 1 8 Tryd.underlying39 info_int' (by rfl) (by omega) _ (k + 1) _ (by rfl) HR.out.row g k (c - k) (n - k) (icl (xs.drop k)) (by rfl) (by simp; have := HN.out; omega) (HE.out.drop HR.out.below k) icell_one (by omega) (by omega) ?_
          intro v4 w4 hrow hgrow hblk
          replace HR := Lib.hid (put_end (HR.out.step hrow hgrow hblk) HRv.out.below HN.out (by omega) He.out)
          clear hrow hgrow hblk
          go_wp2_with fail
          refine cp_do rfl rfl rfl rfl (fun _ _ => ?_)
          go_wp2_with fail
          refine cp_nil ?_
          go_wp2_with fail
          go_ret
          exact ⟨_, rfl, HR.out⟩
end Go.Proofs.YtkcbdlnoobjmbaaDoor

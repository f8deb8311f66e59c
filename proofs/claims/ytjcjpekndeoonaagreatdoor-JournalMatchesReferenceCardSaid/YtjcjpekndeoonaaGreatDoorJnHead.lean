/-
  What 'head' of the journal's laws answers: true.
-/
import Derived.Test.YtjcjpekndeoonaaGreatDoorJnHdL
namespace Go.Proofs.YtjcjpekndeoonaaGreatDoor
open Go.RowKit Go.Cz Go.Cz.Jn
set_option linter.unusedSimpArgs false
set_option linter.unusedVariables false
attribute [local go_sem] bs_size bs_extract bs_append bs_toList
attribute [local irreducible] cList cPlan hm0 hm1 hm2 hm3 hm4 hj0 hj1
theorem open_good {w0 : World} {db : Nat} {m : Dk.Dm} {ps : List Piece} {e : Ending} {w' : World} (h : OpenP w0 db m ps e w') (h0 : (openB m).2.1 = 0) :
    ∃ jb x n c y k d, e = .returned (.tuple #[.pointer (some ⟨jb, 0, none⟩), .slice y k d, .int .i64 0]) ∧
      Owns w0 w' (trow (.slice y k d) (openB m).2.2.recs :: jblk jb db (openB m).2.2.sectors (openB m).2.2.count (.slice x n c) false :: trow (.slice x n c) (openB m).2.2.recs :: disk db (openB m).1 :: ps) := by
  rcases h with ⟨h1, -⟩ | ⟨-, jb, rv, out, he, ho⟩
  · exact absurd h0 h1
  · obtain ⟨y, k, d, rfl, -⟩ := Owns.texts ho
    obtain ⟨x, n, c, rfl, -⟩ := Owns.texts ho.rot
    exact ⟨jb, x, n, c, y, k, d, he, ho⟩
theorem open_bad {w0 : World} {db : Nat} {m : Dk.Dm} {ps : List Piece} {e : Ending} {w' : World} (h : OpenP w0 db m ps e w') {c : Int} (h0 : (openB m).2.1 = c) (hc : c ≠ 0) :
    e = .returned (.tuple #[.pointer none, .slice none 0 0, .int .i64 c]) ∧ Owns w0 w' (disk db (openB m).1 :: ps) := by
  rcases h with ⟨h1, he, ho⟩ | ⟨h1, -⟩
  · rw [h0] at he
    exact ⟨he, ho⟩
  · exact absurd (h0.symm.trans h1) hc
theorem is_of {w0 w : World} {ps : List Piece} {x : Option Addr} {n c : Nat} {l : List Bytes} (h : Owns w0 w (Go.Proofs.YtjcjpekndeoonaaGreatDoor.trow (.slice x n c) l :: ps)) : IsTexts w x n l := by
  obtain ⟨x', n', c', he, ht⟩ := Owns.texts h
  cases he
  exact ht
theorem small_of {w0 w : World} {ps : List Piece} {x : Option Addr} {n c : Nat} {l : List Bytes} (h : Owns w0 w (Go.Proofs.YtjcjpekndeoonaaGreatDoor.trow (.slice x n c) l :: ps)) : l.length = n := (is_of h).len
theorem text_one (n : Nat) (h : n ≤ 100000) : (textB [List.replicate n 0]).length ≤ 1000000 := by
  have h1 := decB_len (k := 5) (n := n) (by omega)
  simp [textB]
  omega
set_option maxRecDepth 100000 in
set_option maxHeartbeats 8000000 in
theorem head_c (w : World) (hs : Std w) : Calls Tryz.prog 5 #[] w fun e w' => e = .returned (.bool true) ∧ Below w.heap.size w w' := by
  have HS := Lib.hid hs
  have HO : Hid (Owns w w []) := Owns.start w
  have HI0 := Lib.hid h_inv0.open
  have HI1 := Lib.hid h_app.2.open
  clear hs
  go_enter Tryz.func5, Tryz.ntmps5
  go_wp2_with fail
  go_at_call 8
  refine (Owns.new 6 HO.out (by decide) (by decide)).mono ?_
  rintro e w1 ⟨db, rfl, ho⟩
  replace HO : Hid (Owns w w1 (disk db hm0 :: [])) := by rw [hm0]; exact Lib.hid ho
  clear ho
  go_wp2_with fail
  go_at_call 7
  refine (Open_c HO.out (by rw [hm0]; decide) HS.out).mono ?_
  intro e w2 ho
  obtain ⟨jb, x, n, c, y, k, d, rfl, ho2⟩ := open_good ho (by rw [HI0.out])
  clear ho
  rw [HI0.out, hj0] at ho2
  have hk := small_of ho2
  obtain rfl : k = 0 := hk.symm
  replace HO : Hid (Owns w w2 (jblk jb db 6 0 (.slice x n c) false :: trow (.slice x n c) [] :: disk db hm0 :: [])) := (ho2.re [0, 1, 2, 3]).pop
  clear ho2 hk
  obtain ⟨g, hg⟩ : ∃ g, g = w2.heap.size := ⟨_, rfl⟩
  obtain ⟨W, hW⟩ : ∃ W, W = w2.alloc (.cells #[.string ⟨#[97]⟩, .string ⟨#[98, 99]⟩] 9) := ⟨_, rfl⟩
  have HM : Hid (Owns w W (jblk jb db 6 0 (.slice x n c) false :: trow (.slice x n c) [] :: disk db hm0 :: trow (.slice (some ⟨g, 0, none⟩) 2 2) hrs :: [])) := by
    rw [hW, hg]
    exact Lib.hid ((Owns.made HO.out hrs (by decide)).re [1, 2, 3, 0])
  clear HO
  go_wp2_with fail
  rw [← hg, ← hW]
  clear hg hW
  go_at_call 13
  refine (Append_c HM.out (fun w' h => is_of h) (by decide) (by decide) (by rw [hm0]; decide) (by decide) (by decide) (by decide) HS.out).mono ?_
  rintro e w3 ⟨rv, he, ho⟩
  have ha := h_app.1
  rw [hj0] at ha
  rw [ha] at he ho
  rw [h_j1.1, h_j1.2.1, h_j1.2.2.1, h_j1.2.2.2] at ho
  subst he
  obtain ⟨x2, n2, c2, rfl, -⟩ := Owns.texts ho.swap
  have HO : Hid (Owns w w3 (jblk jb db 6 1 (.slice x2 n2 c2) false :: trow (.slice x2 n2 c2) hrs :: disk db hm1 :: [])) := (ho.re [3, 0, 1, 2]).pop
  clear ho HM ha
  go_wp2_with fail
  go_at_call 14
  refine (Room_c HO.out (by decide) (by decide)).mono ?_
  rintro e w4 ⟨rfl, hb⟩
  rw [show ((6 : Nat) : Int) - 2 - ((1 : Nat) : Int) = 3 by decide]
  replace HO := Lib.hid (HO.out.below hb)
  clear hb
  have HJ : Hid (hj1 = ⟨6, 1, hrs, false⟩) := by
    show _ = _
    obtain ⟨h1, h2, h3, h4⟩ := h_j1
    generalize hj1 = j at h1 h2 h3 h4
    cases j
    dsimp only at h1 h2 h3 h4
    subst h1 h2 h3 h4
    rfl
  go_wp2_with fail
  go_at_call 31
  refine (text_c 200 _ (by decide)).mono ?_
  rintro e w5 ⟨rfl, hb⟩
  have ht1 := text_one 200 (by decide)
  have ha := h_full
  rw [HJ.out] at ha
  obtain ⟨t, ht⟩ : ∃ t : Bytes, t = List.replicate 200 0 := ⟨_, rfl⟩
  rw [← ht] at ht1 ha ⊢
  obtain ⟨g, hg⟩ : ∃ g, g = w5.heap.size := ⟨_, rfl⟩
  obtain ⟨W, hW⟩ : ∃ W, W = w5.alloc (.cells #[.string (bs t)] 9) := ⟨_, rfl⟩
  have HM : Hid (Owns w W (jblk jb db 6 1 (.slice x2 n2 c2) false :: trow (.slice x2 n2 c2) hrs :: disk db hm1 :: trow (.slice (some ⟨g, 0, none⟩) 1 1) [t] :: [])) := by
    rw [hW, hg]
    exact Lib.hid ((Owns.made (HO.out.below hb) [t] (by simp)).re [1, 2, 3, 0])
  have HA := Lib.hid ha
  have HT1 := Lib.hid ht1
  clear HO hb ht ha ht1
  go_wp2_with fail
  rw [← hg, ← hW]
  clear hg hW
  go_at_call 13
  refine (Append_c HM.out (fun w' h => is_of h) HT1.out (by decide) h_q.1 (by decide) (by decide) (by decide) HS.out).mono ?_
  rintro e w3 ⟨rv, he, ho⟩
  rw [HA.out] at he ho
  subst he
  obtain ⟨x2, n2, c2, rfl, -⟩ := Owns.texts ho.swap
  have HO : Hid (Owns w w3 (jblk jb db 6 1 (.slice x2 n2 c2) false :: trow (.slice x2 n2 c2) hrs :: disk db hm1 :: [])) := (ho.re [3, 0, 1, 2]).pop
  clear ho HM HA HT1
  go_wp2_with fail
  go_at_call 31
  refine (text_c 20001 _ (by decide)).mono ?_
  rintro e w5 ⟨rfl, hb⟩
  have ht1 := text_one 20001 (by decide)
  have ha := h_long
  rw [HJ.out] at ha
  obtain ⟨t, ht⟩ : ∃ t : Bytes, t = List.replicate 20001 0 := ⟨_, rfl⟩
  rw [← ht] at ht1 ha ⊢
  obtain ⟨g, hg⟩ : ∃ g, g = w5.heap.size := ⟨_, rfl⟩
  obtain ⟨W, hW⟩ : ∃ W, W = w5.alloc (.cells #[.string (bs t)] 9) := ⟨_, rfl⟩
  have HM : Hid (Owns w W (jblk jb db 6 1 (.slice x2 n2 c2) false :: trow (.slice x2 n2 c2) hrs :: disk db hm1 :: trow (.slice (some ⟨g, 0, none⟩) 1 1) [t] :: [])) := by
    rw [hW, hg]
    exact Lib.hid ((Owns.made (HO.out.below hb) [t] (by simp)).re [1, 2, 3, 0])
  have HA := Lib.hid ha
  have HT1 := Lib.hid ht1
  clear HO hb ht ha ht1
  go_wp2_with fail
  rw [← hg, ← hW]
  clear hg hW
  go_at_call 13
  refine (Append_c HM.out (fun w' h => is_of h) HT1.out (by decide) h_q.1 (by decide) (by decide) (by decide) HS.out).mono ?_
  rintro e w3 ⟨rv, he, ho⟩
  rw [HA.out] at he ho
  subst he
  obtain ⟨x2, n2, c2, rfl, -⟩ := Owns.texts ho.swap
  have HO : Hid (Owns w w3 (jblk jb db 6 1 (.slice x2 n2 c2) false :: trow (.slice x2 n2 c2) hrs :: disk db hm1 :: [])) := (ho.re [3, 0, 1, 2]).pop
  clear ho HM HA HT1
  replace HO : Hid (Owns w w3 (disk db hm1 :: [])) := HO.out.pop.pop
  go_wp2_with fail
  go_at_call 20
  refine (Owns.fail 0 0 HO.out (by have := h_q.1; omega)).mono ?_
  rintro e w6 ⟨rfl, ho⟩
  replace HO := Lib.hid ho
  clear ho
  go_wp2_with fail
  go_at_call 22
  refine (Owns.st HO.out).mono ?_
  rintro e w7 ⟨rfl, ho⟩
  rw [calm_back h_app.2.calm] at ho
  replace HO := Lib.hid ho
  clear ho
  go_wp2_with fail
  go_at_call 7
  refine (Open_c HO.out h_q.1 HS.out).mono ?_
  intro e w8 ho
  obtain ⟨jk, xk, nk, ck, ym, km, dm, rfl, ho2⟩ := open_good ho (by rw [HI1.out])
  clear ho
  rw [HI1.out, HJ.out] at ho2
  replace HO : Hid (Owns w w8 (disk db hm1 :: trow (.slice ym km dm) hrs :: jblk jk db 6 1 (.slice xk nk ck) false :: trow (.slice xk nk ck) hrs :: [])) := ho2.re [3, 0, 1, 2]
  clear ho2
  go_wp2_with fail
  go_at_call 26
  refine (Owns.rotten 0 5 1 HO.out).mono ?_
  rintro e w9 ⟨rfl, ho⟩
  replace HO : Hid (Owns w w9 (disk db hm2 :: trow (.slice ym km dm) hrs :: jblk jk db 6 1 (.slice xk nk ck) false :: trow (.slice xk nk ck) hrs :: [])) := by rw [hm2]; exact Lib.hid ho
  clear ho
  go_wp2_with fail
  go_at_call 7
  refine (Open_c HO.out h_q.2.1 HS.out).mono ?_
  intro e w10 ho
  obtain ⟨jn, xn, nn, cn, yn, kn, dn, rfl, ho2⟩ := open_good ho h_open2.1
  clear ho
  rw [h_open2.2] at ho2
  replace HO : Hid (Owns w w10 (disk db hm3 :: trow (.slice yn kn dn) hrs :: trow (.slice ym km dm) hrs :: jblk jk db 6 1 (.slice xk nk ck) false :: trow (.slice xk nk ck) hrs :: [])) := by rw [hm3]; exact Lib.hid (ho2.re [1, 2, 3, 0]).pop.pop
  clear ho2
  go_wp2_with fail
  go_at_call 26
  refine (Owns.rotten 2 40 1 HO.out).mono ?_
  rintro e w11 ⟨rfl, ho⟩
  replace HO : Hid (Owns w w11 (disk db hm4 :: trow (.slice yn kn dn) hrs :: trow (.slice ym km dm) hrs :: jblk jk db 6 1 (.slice xk nk ck) false :: trow (.slice xk nk ck) hrs :: [])) := by rw [hm4]; exact Lib.hid ho
  clear ho
  go_wp2_with fail
  go_at_call 7
  refine (Open_c HO.out h_q.2.2 HS.out).mono ?_
  intro e w12 ho
  obtain ⟨rfl, ho2⟩ := open_bad ho h_open4 (by decide)
  replace HO := Lib.hid ho2.pop
  clear ho ho2
  go_wp2_with fail
  go_at_call 8
  refine (Owns.new 2 HO.out (by decide) (by decide)).mono ?_
  rintro e w13 ⟨d2, rfl, ho⟩
  replace HO := Lib.hid ho
  clear ho
  go_wp2_with fail
  go_at_call 7
  refine (Open_c HO.out (by decide) HS.out).mono ?_
  intro e w14 ho
  obtain ⟨rfl, ho2⟩ := open_bad ho h_open6 (by decide)
  replace HO : Hid (Owns w w14 (trow (.slice yn kn dn) hrs :: trow (.slice ym km dm) hrs :: jblk jk db 6 1 (.slice xk nk ck) false :: trow (.slice xk nk ck) hrs :: [])) := ho2.pop
  clear ho ho2
  obtain ⟨g, hg⟩ : ∃ g, g = w14.heap.size := ⟨_, rfl⟩
  obtain ⟨W, hW⟩ : ∃ W, W = w14.alloc (.cells #[.string ⟨#[97]⟩, .string ⟨#[98, 99]⟩] 9) := ⟨_, rfl⟩
  have HM : Hid (Owns w W (trow (.slice (some ⟨g, 0, none⟩) 2 2) hrs :: trow (.slice yn kn dn) hrs :: trow (.slice ym km dm) hrs :: jblk jk db 6 1 (.slice xk nk ck) false :: trow (.slice xk nk ck) hrs :: [])) := by
    rw [hW, hg]
    exact Lib.hid (Owns.made HO.out hrs (by decide))
  have HLm : Hid (km = 2 ∧ kn = 2) := ⟨(small_of HO.out.swap).symm, (small_of HO.out).symm⟩
  clear HO
  go_wp2_with fail
  rw [← hg, ← hW]
  clear hg hW
  go_at_call 15
  refine (Same_c _ _ _ _ _ _ _ _ _ (is_of HM.out.rot) (is_of HM.out) (by have := HLm.out; omega) (by decide)).mono ?_
  rintro e w15 ⟨rfl, hb⟩
  rw [decide_eq_true (rfl : hrs = hrs)]
  have HO : Hid (Owns w w15 (trow (.slice xk nk ck) hrs :: jblk jk db 6 1 (.slice xk nk ck) false :: trow (.slice yn kn dn) hrs :: trow (.slice ym km dm) hrs :: [])) := ((HM.out.below hb).pop).re [3, 2, 0, 1]
  clear hb HM
  go_wp2_with fail
  go_at_call 9
  refine (Records_c HO.out (by decide)).mono ?_
  rintro e w16 ⟨rv, rfl, ho⟩
  obtain ⟨xr, nr, cr, rfl, -⟩ := Owns.texts ho
  replace HO := Lib.hid ho
  have HLr : Hid (nr = 2) := (small_of ho).symm
  clear ho
  go_wp2_with fail
  go_at_call 15
  refine (Same_c _ _ _ _ _ _ _ _ _ (is_of HO.out) (is_of HO.out.pop.pop.pop.pop) (by have := HLr.out; omega) (by have := HLm.out; omega)).mono ?_
  rintro e w17 ⟨rfl, hb⟩
  rw [decide_eq_true (rfl : hrs = hrs)]
  replace HO := Lib.hid (HO.out.below hb)
  clear hb
  go_wp2_with fail
  go_at_call 15
  refine (Same_c _ _ _ _ _ _ _ _ _ (is_of HO.out.pop.pop.pop) (is_of HO.out.pop.pop.pop.pop) (by have := HLm.out; omega) (by have := HLm.out; omega)).mono ?_
  rintro e w18 ⟨rfl, hb⟩
  rw [decide_eq_true (rfl : hrs = hrs)]
  replace HO := Lib.hid (HO.out.below hb)
  clear hb
  go_wp2_with fail
  go_at_call 13
  refine (AppNil_c _ HO.out).mono ?_
  rintro e w19 ⟨rfl, ho⟩
  replace HO := Lib.hid ho
  clear ho
  go_wp2_with fail
  go_ret
  exact ⟨rfl, HO.out.base⟩
end Go.Proofs.YtjcjpekndeoonaaGreatDoor

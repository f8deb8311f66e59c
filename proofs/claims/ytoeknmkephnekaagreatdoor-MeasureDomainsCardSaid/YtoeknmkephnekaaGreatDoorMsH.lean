/-
  The chapter's examples: what the parser and the printer say of them.
  'head' returns true.
-/
import Derived.Test.YtoeknmkephnekaaGreatDoorMsP
import Derived.KernelRfl
import Derived.Test.YtoeknmkephnekaaGreatDoorMsS
import Derived.Test.YtoeknmkephnekaaGreatDoorMsParse
import Derived.Test.YtoeknmkephnekaaGreatDoorMsK
import Derived.Deep.DeepCutAuto
namespace Go.Cz.Vd
open Go.Cz.Lx Go.Cz.Fo
def hA : Bytes := [102, 111, 114, 98, 105, 100, 32, 109, 49, 32, 111, 102, 32, 101, 117, 32, 105, 102, 32, 108, 105, 115, 116, 101, 100, 32, 61, 32, 49, 32, 102, 114, 111, 109, 32, 49, 48, 32, 119, 105, 110, 100, 32, 51, 48, 59]
def hB : Bytes := [101, 120, 101, 109, 112, 116, 32, 109, 49, 32, 120, 49, 32, 111, 102, 32, 101, 117, 32, 102, 114, 111, 109, 32, 49, 48, 32, 117, 110, 116, 105, 108, 32, 50, 48, 59]
def hC : Bytes := [98, 108, 111, 99, 107, 32, 117, 115, 32, 98, 49, 32, 111, 102, 32, 101, 117, 32, 105, 102, 32, 116, 114, 117, 101, 32, 102, 114, 111, 109, 32, 48, 59]
def hS : Bytes := [98, 108, 111, 99, 107, 32, 117, 115, 32, 98, 49, 32, 111, 102, 32, 101, 117, 32, 102, 114, 111, 109, 32, 48, 59]
def hI : Bytes := [101, 120, 101, 109, 112, 116, 32, 109, 49, 32, 120, 49, 32, 111, 102, 32, 101, 117, 32, 102, 114, 111, 109, 32, 49, 48, 32, 119, 105, 110, 100, 32, 53, 59]
def hK : Bytes := [102, 111, 114, 98, 105, 100, 32, 109, 49, 32, 111, 102, 32, 101, 117, 32, 102, 114, 111, 109, 32, 49, 48, 32, 117, 110, 116, 105, 108, 32, 49, 48, 59]
def hD : Bytes := [102, 111, 114, 98, 105, 100, 32, 109, 49, 32, 111, 102, 32, 101, 117, 32, 105, 102, 32, 102, 114, 111, 109, 32, 61, 32, 49, 32, 102, 114, 111, 109, 32, 50, 59]
def mA : Me := ⟨[109, 49], [101, 117], 1, [], .mk 3 [108, 105, 115, 116, 101, 100] 1 1 [], 10, -1, 30⟩
def mB : Me := ⟨[120, 49], [101, 117], 2, [109, 49], trueF, 10, 20, 0⟩
def mC : Me := ⟨[98, 49], [101, 117], 3, [117, 115], trueF, 0, -1, 0⟩
def mD : Me := ⟨[109, 49], [101, 117], 1, [], .mk 3 [102, 114, 111, 109] 1 1 [], 2, -1, 0⟩
theorem hd_A : parseM hA = (mA, 0, 0) := by kernel_rfl
theorem hd_B : parseM hB = (mB, 0, 0) := by kernel_rfl
theorem hd_C : parseM hC = (mC, 0, 0) := by kernel_rfl
theorem hd_I : parseM hI = (zeroM, 5, 27) := by kernel_rfl
theorem hd_K : parseM hK = (zeroM, 10, 30) := by kernel_rfl
theorem hd_D : parseM hD = (mD, 0, 0) := by kernel_rfl
theorem hd_T : textM mC = (hS, 0) := by
  have h1 : wrM mC = true := by decide +kernel
  have h2 : sayM mC = hS := by
    have e : Lib.itoa 0 = [48] := by show Lib.decDigits 0 = _; rw [Lib.decDigits, dif_pos (by decide)]; rfl
    have e2 : wordsM mC = [wBlock, [117, 115], [98, 49], wOf, [101, 117], wFrom, Lib.itoa 0] := by rfl
    rw [sayM, e2, e]
    rfl
  rw [textM, if_pos h1, h2]
end Go.Cz.Vd
namespace Go.Proofs.YtoeknmkephnekaaGreatDoor
open Go.RowKit Go.Cz Go.Cz.Lx Go.Cz.Fo Go.Cz.Vd
set_option linter.unusedSimpArgs false
set_option linter.unusedVariables false
attribute [local go_sem] bs_size bs_extract bs_append bs_toList
attribute [local irreducible] cList cPlan
set_option maxRecDepth 100000 in
set_option maxHeartbeats 8000000 in
theorem head_c (w : World) (hs : Std w) : Calls Tryz.prog 9 #[] w fun e w' => e = .returned (.bool true) ∧ Below w.heap.size w w' := by
  have HS := Lib.hid hs
  clear hs
  have HO : Hid (Owns w w []) := Lib.hid (Owns.start w)
  go_enter Tryz.func9, Tryz.ntmps9
  go_wp2_with fail
  -- hA the text, mA the measure, hd_A what is known, ba the box, w the world, W1 the next world, 2 the next region, go_wp2_with fail the row of kids
  go_at_call 12
  refine (mParse_c hA w (by decide)).mono ?_
  rintro e Wp ⟨kv, he, hf, hb⟩
  rw [hd_A] at he hf
  subst he
  obtain ⟨yk, mk, rfl⟩ := hf.form
  have h1 := (Owns.fmPush HO.out hb hf).box (mobj mA (.slice yk (mA).cond.kids.length mk))
  obtain ⟨ba, hba⟩ : ∃ b, b = Wp.heap.size := ⟨_, rfl⟩
  obtain ⟨W1, hW⟩ : ∃ W, W = Wp.alloc (mobj mA (.slice yk (mA).cond.kids.length mk)) := ⟨_, rfl⟩
  rw [← hW, ← hba] at h1
  dsimp only [mobj] at hW
  replace HO := Lib.hid h1
  clear h1 hf hb
  go_upto_region 2 with fail
  rw [← hba, ← hW]
  clear hba hW
  go_wp2_with fail
  -- hB the text, mB the measure, hd_B what is known, bB the box, W1 the world, W2 the next world, 3 the next region, go_wp2_with fail the row of kids
  go_at_call 12
  refine (mParse_c hB W1 (by decide)).mono ?_
  rintro e Wp ⟨kv, he, hf, hb⟩
  rw [hd_B] at he hf
  subst he
  obtain ⟨yk, mk, rfl⟩ := hf.form
  have h1 := (Owns.fmPush HO.out hb hf).box (mobj mB (.slice yk (mB).cond.kids.length mk))
  obtain ⟨bB, hbB⟩ : ∃ b, b = Wp.heap.size := ⟨_, rfl⟩
  obtain ⟨W2, hW⟩ : ∃ W, W = Wp.alloc (mobj mB (.slice yk (mB).cond.kids.length mk)) := ⟨_, rfl⟩
  rw [← hW, ← hbB] at h1
  dsimp only [mobj] at hW
  replace HO := Lib.hid h1
  clear h1 hf hb
  go_upto_region 3 with fail
  rw [← hbB, ← hW]
  clear hbB hW
  go_wp2_with fail
  -- hC the text, mC the measure, hd_C what is known, bC the box, W2 the world, W3 the next world, 4 the next region, skip the row of kids
  go_at_call 12
  refine (mParse_c hC W2 (by decide)).mono ?_
  rintro e Wp ⟨kv, he, hf, hb⟩
  rw [hd_C] at he hf
  subst he
  obtain ⟨yk, mk, rfl⟩ := hf.form
  have h1 := (Owns.fmPush HO.out hb hf).box (mobj mC (.slice yk (mC).cond.kids.length mk))
  obtain ⟨bC, hbC⟩ : ∃ b, b = Wp.heap.size := ⟨_, rfl⟩
  obtain ⟨W3, hW⟩ : ∃ W, W = Wp.alloc (mobj mC (.slice yk (mC).cond.kids.length mk)) := ⟨_, rfl⟩
  rw [← hW, ← hbC] at h1
  dsimp only [mobj] at hW
  replace HO := Lib.hid h1
  clear h1 hf hb
  go_upto_region 4 with fail
  rw [← hbC, ← hW]
  clear hbC hW
  skip
  focus
    obtain ⟨bk, -⟩ := HO.out.blk
    have hx0 := lt_of_block bk
    have c0 := cell_of_heap bk (i := 0)
    have c1 := cell_of_heap bk (i := 1)
    have c2 := cell_of_heap bk (i := 2)
    have c3 := cell_of_heap bk (i := 3)
    have c4 := cell_of_heap bk (i := 4)
    have c5 := cell_of_heap bk (i := 5)
    have c6 := cell_of_heap bk (i := 6)
    have c7 := cell_of_heap bk (i := 7)
    have c8 := cell_of_heap bk (i := 8)
    have c9 := cell_of_heap bk (i := 9)
    have c10 := cell_of_heap bk (i := 10)
    have c11 := cell_of_heap bk (i := 11)
    simp only [List.getElem?_toArray, List.getElem?_cons_succ, List.getElem?_cons_zero] at c0 c1 c2 c3 c4 c5 c6 c7 c8 c9 c10 c11
    clear bk
    go_wp2_with fail
    clear hx0 c0 c1 c2 c3 c4 c5 c6 c7 c8 c9 c10 c11
  go_at_call 11
  refine (mText_c mC _ W3 (HS.out.below HO.out.base) (Owns.fm HO.out.pop) ⟨by decide, by decide, by decide⟩ ⟨by decide +kernel, by decide +kernel⟩).mono ?_
  rintro e W4 ⟨he, hb⟩
  rw [hd_T] at he
  subst he
  replace HO := Lib.hid (HO.out.below hb)
  clear hb
  go_wp2_with fail
  -- hI the text, zeroM the measure, hd_I what is known, bI the box, W4 the world, W5 the next world, 6 the next region, go_wp2_with fail the row of kids
  go_at_call 12
  refine (mParse_c hI W4 (by decide)).mono ?_
  rintro e Wp ⟨kv, he, hf, hb⟩
  rw [hd_I] at he hf
  subst he
  obtain ⟨yk, mk, rfl⟩ := hf.form
  have h1 := (Owns.fmPush HO.out hb hf).box (mobj zeroM (.slice yk (zeroM).cond.kids.length mk))
  obtain ⟨bI, hbI⟩ : ∃ b, b = Wp.heap.size := ⟨_, rfl⟩
  obtain ⟨W5, hW⟩ : ∃ W, W = Wp.alloc (mobj zeroM (.slice yk (zeroM).cond.kids.length mk)) := ⟨_, rfl⟩
  rw [← hW, ← hbI] at h1
  dsimp only [mobj] at hW
  replace HO := Lib.hid h1
  clear h1 hf hb
  go_upto_region 6 with fail
  rw [← hbI, ← hW]
  clear hbI hW
  go_wp2_with fail
  -- hK the text, zeroM the measure, hd_K what is known, bK the box, W5 the world, W6 the next world, 7 the next region, go_wp2_with fail the row of kids
  go_at_call 12
  refine (mParse_c hK W5 (by decide)).mono ?_
  rintro e Wp ⟨kv, he, hf, hb⟩
  rw [hd_K] at he hf
  subst he
  obtain ⟨yk, mk, rfl⟩ := hf.form
  have h1 := (Owns.fmPush HO.out hb hf).box (mobj zeroM (.slice yk (zeroM).cond.kids.length mk))
  obtain ⟨bK, hbK⟩ : ∃ b, b = Wp.heap.size := ⟨_, rfl⟩
  obtain ⟨W6, hW⟩ : ∃ W, W = Wp.alloc (mobj zeroM (.slice yk (zeroM).cond.kids.length mk)) := ⟨_, rfl⟩
  rw [← hW, ← hbK] at h1
  dsimp only [mobj] at hW
  replace HO := Lib.hid h1
  clear h1 hf hb
  go_upto_region 7 with fail
  rw [← hbK, ← hW]
  clear hbK hW
  go_wp2_with fail
  -- hD the text, mD the measure, hd_D what is known, bD the box, W6 the world, W7 the next world, 8 the next region, skip the row of kids
  go_at_call 12
  refine (mParse_c hD W6 (by decide)).mono ?_
  rintro e Wp ⟨kv, he, hf, hb⟩
  rw [hd_D] at he hf
  subst he
  obtain ⟨yk, mk, rfl⟩ := hf.form
  have h1 := (Owns.fmPush HO.out hb hf).box (mobj mD (.slice yk (mD).cond.kids.length mk))
  obtain ⟨bD, hbD⟩ : ∃ b, b = Wp.heap.size := ⟨_, rfl⟩
  obtain ⟨W7, hW⟩ : ∃ W, W = Wp.alloc (mobj mD (.slice yk (mD).cond.kids.length mk)) := ⟨_, rfl⟩
  rw [← hW, ← hbD] at h1
  dsimp only [mobj] at hW
  replace HO := Lib.hid h1
  clear h1 hf hb
  go_upto_region 8 with fail
  rw [← hbD, ← hW]
  clear hbD hW
  skip
  obtain ⟨kD, -⟩ := HO.out.blk
  obtain ⟨kB, -⟩ := (HO.out.re [8, 0, 1, 2, 3, 4, 5, 6, 7]).blk
  obtain ⟨kA, -⟩ := (HO.out.re [10, 0, 1, 2, 3, 4, 5, 6, 7, 8, 9]).blk
  have lA := lt_of_block kA
  have lB := lt_of_block kB
  have lD := lt_of_block kD
  have a2 : W7.cell? ⟨ba, 2, none⟩ = some (.int .i64 1) := by rw [cell_of_heap kA]; rfl
  have a6 : W7.cell? ⟨ba, 10, none⟩ = some (.int .i64 (-1)) := by rw [cell_of_heap kA]; rfl
  have a7 : W7.cell? ⟨ba, 11, none⟩ = some (.int .i64 30) := by rw [cell_of_heap kA]; rfl
  have b2 : W7.cell? ⟨bB, 2, none⟩ = some (.int .i64 2) := by rw [cell_of_heap kB]; rfl
  have b3 : W7.cell? ⟨bB, 3, none⟩ = some (.string ⟨#[109, 49]⟩) := by rw [cell_of_heap kB]; rfl
  have b4 : W7.cell? ⟨bB, 4, none⟩ = some (.int .i64 1) := by rw [cell_of_heap kB]; rfl
  have d4 : W7.cell? ⟨bD, 4, none⟩ = some (.int .i64 3) := by rw [cell_of_heap kD]; rfl
  have d9 : W7.cell? ⟨bD, 9, none⟩ = some (.int .i64 2) := by rw [cell_of_heap kD]; rfl
  clear kA kB kD
  have hS' : bs hS = ⟨#[98, 108, 111, 99, 107, 32, 117, 115, 32, 98, 49, 32, 111, 102, 32, 101, 117, 32, 102, 114, 111, 109, 32, 48, 59]⟩ := rfl
  simp only [hS']
  clear hS'
  go_wp2_with fail
  go_ret
  exact ⟨rfl, HO.out.base⟩
end Go.Proofs.YtoeknmkephnekaaGreatDoor

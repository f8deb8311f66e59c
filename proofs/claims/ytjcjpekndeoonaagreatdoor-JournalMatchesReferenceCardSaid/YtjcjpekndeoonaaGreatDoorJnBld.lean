/-
  A strings.Builder where its copy check's last branch is refused; sixty-four zeros by strings.Repeat.
-/
import Derived.Test.YtjcjpekndeoonaaGreatDoorJnSeal
import Derived.Shelf.Strings.Repeat
namespace Go.Proofs.YtjcjpekndeoonaaGreatDoor
open Go.RowKit Go.Cz Go.Cz.Jn Go.Shelf
set_option linter.unusedSimpArgs false
set_option linter.unusedVariables false
attribute [local irreducible] cList cPlan
set_option maxHeartbeats 1000000 in
set_option maxRecDepth 100000 in
theorem check_used (b : Nat) (w : World) (h0 : w.cell? ⟨b, 0, none⟩ = some (.pointer (some ⟨b, 0, none⟩))) :
    Calls Tryz.prog 72 #[.pointer (some ⟨b, 0, none⟩)] w fun e w' => e = .returned (.tuple #[]) ∧ w' = w := by
  obtain ⟨j, hj, _⟩ := Option.map_eq_some_iff.1 Tryz.Builder_Extra_165.toX72.sizeBuilder
  go_enter Tryz.func72, Tryz.ntmps72
  go_wp2_with fail
  rw [Lib.run_neq_ptr_same w _ Tryz.underlying55 hj]
  go_wp2_with fail
  go_end0
  exact ⟨rfl, rfl⟩
set_option maxHeartbeats 1000000 in
set_option maxRecDepth 100000 in
theorem check_fresh (b : Nat) (w : World) (h0 : w.cell? ⟨b, 0, none⟩ = some (.pointer none)) (hsh : w.shape? b = some (58, 2)) (hfz : w.frozen? ⟨b, 0, none⟩ = false) :
    Calls Tryz.prog 72 #[.pointer (some ⟨b, 0, none⟩)] w fun e w' => e = .returned (.tuple #[]) ∧ w' = w.setCell ⟨b, 0, none⟩ (.pointer (some ⟨b, 0, none⟩)) := by
  obtain ⟨j, hj, hjs⟩ := Option.map_eq_some_iff.1 Tryz.Builder_Extra_165.toX72.sizeBuilder
  go_enter Tryz.func72, Tryz.ntmps72
  go_wp2_with fail
  rw [Lib.run_to_unsafe w ⟨b, 0, none⟩ Tryz.underlying55 Tryz.underlying116 hj (by rw [hjs]; decide) hsh (Nat.zero_lt_succ 1)]
  simp only [Result.andThen]
  rw [Oper.upon_value]
  go_wp2_with fail
  rw [run_callFunc_extern Tryz.func92 (by kernel_rfl) (by kernel_rfl) (by kernel_rfl) (e := Extern.AbiNoEscape.same) (by kernel_rfl)]
  rw [Lib.run_noEscape]
  simp only [Result.andThen]
  rw [Oper.upon_value]
  go_wp2_with fail
  rw [Lib.run_from_unsafe w ⟨b, 0, none⟩ Tryz.underlying116 Tryz.underlying55 hj hsh Tryz.Builder_Extra_165.toX72.liesBuilder]
  simp only [Result.andThen]
  rw [Oper.upon_value]
  go_wp2_with fail
  go_end0
  exact ⟨rfl, rfl⟩
theorem check_c (B b : Nat) (l : List Value) (w : World) (h : Lib.IsBuilderF 58 5 B b l w) :
    Calls Tryz.prog 72 #[.pointer (some ⟨b, 0, none⟩)] w fun e w' => e = .returned (.tuple #[]) ∧ (Lib.BuilderAtF 58 5 B b (.pointer (some ⟨b, 0, none⟩)) l w' ∧ Below B w w') := by
  rcases h with h | h
  · refine (check_fresh b w h.cell0 h.shape h.frozen0).mono ?_
    rintro e w' ⟨rfl, rfl⟩
    exact ⟨rfl, h.used _, (Below.refl B w).setCell (p := ⟨b, 0, none⟩) h.1 _⟩
  · refine (check_used b w h.cell0).mono ?_
    rintro e w' ⟨rfl, rfl⟩
    exact ⟨rfl, h, Below.refl B _⟩
set_option maxHeartbeats 2000000 in
set_option maxRecDepth 100000 in
theorem writeS_c (B b : Nat) (l : List Value) (s : ByteArray) (w : World) (h : Lib.IsBuilderF 58 5 B b l w) (hlen : l.length + s.size ≤ 140737488355328) (hBw : B ≤ w.heap.size) :
    Calls Tryz.prog 36 #[.pointer (some ⟨b, 0, none⟩), .string s] w fun e w' => e = .returned (.tuple #[.int .i64 s.size, .nilIface]) ∧ (Lib.BuilderAtF 58 5 B b (.pointer (some ⟨b, 0, none⟩)) (l ++ Lib.strCells s) w' ∧ Below B w w') := by
  obtain ⟨i0, hi, hz0, hz1, hz2⟩ := info_parts Tryz.Builder_Extra_165.infoByte
  have HI := Lib.hid (And.intro hi (And.intro hz0 (And.intro hz1 hz2)))
  have HK := Lib.hid (check_c B b l w h)
  clear h hi hz0 hz1 hz2
  go_enter Tryz.func36, Tryz.ntmps36
  go_wp2_with fail
  go_at_call 72
  refine HK.out.mono ?_
  rintro e w1 ⟨rfl, h1, hb1⟩
  clear HK
  obtain ⟨hB, v, hbk, hown, hne⟩ := h1
  have c0 : w1.cell? ⟨b, 0, none⟩ = some (.pointer (some ⟨b, 0, none⟩)) := by rw [Lib.cell_of_heap hbk]; rfl
  have c1 : w1.cell? ⟨b, 1, none⟩ = some v := by rw [Lib.cell_of_heap hbk]; rfl
  go_wp2_with (at_builtin; refine Lib.wpList_append_own_stringF _ rfl _ _ 56 9 rfl B 5 i0 Tryz.underlying56 Tryz.underlying9 HI.out.1 HI.out.2.1 HI.out.2.2.1 HI.out.2.2.2 _ _ _ rfl hown s rfl ?c3 ?c4 ?c5 ?_)
  case c3 => unfold maxLen; omega
  case c4 => omega
  case c5 => have := hb1.size; omega
  intro v' w2 hown' hgrow _
  have hlt : b < w1.heap.size := by
    rcases Nat.lt_or_ge b w1.heap.size with h' | h'
    · exact h'
    · simp [Array.getElem?_eq_none h'] at hbk
  have hb2 : w2.heap[b]? = some (.cells #[.pointer (some ⟨b, 0, none⟩), v] 58 (0, 0)) := by
    rw [hgrow.block b hlt (fun e => hne e.symm)]
    exact hbk
  have d0 : w2.cell? ⟨b, 0, none⟩ = some (.pointer (some ⟨b, 0, none⟩)) := by rw [Lib.cell_of_heap hb2]; rfl
  have d1 : w2.cell? ⟨b, 1, none⟩ = some v := by rw [Lib.cell_of_heap hb2]; rfl
  have f1 : w2.frozen? ⟨b, 1, none⟩ = false := Lib.frozen_of_heap hb2 1
  obtain ⟨ao, n', cap, rfl⟩ : ∃ ao n' cap, v' = .slice ao n' cap := by
    rcases hown'.2 with ⟨hv, _⟩ | ⟨g, cap, cur, fz, hv, _⟩
    · exact ⟨_, _, _, hv⟩
    · exact ⟨_, _, _, hv⟩
  go_wp2_with fail
  go_ret2
  refine ⟨rfl, ?_, ?_⟩
  · exact Lib.BuilderAtF.put (T := 58) (e := 5) hB hb2 (bs' := l ++ Lib.strCells s) (by simpa [Lib.strCells_length] using hown') Tryz.Builder_Extra_165.neB5
  · exact (hb1.grown hgrow (by have := hb1.size; omega) (fun k hk => (hown.lt k hk).1)).setCell (p := ⟨b, 1, none⟩) hB _
theorem lenZ (q : Nat) : (Lib.byteCells (List.replicate q 0)).length = q := by rw [Lib.byteCells_length, List.length_replicate]
set_option maxRecDepth 10000 in
set_option maxHeartbeats 4000000 in
theorem RepeatZ_c (w : World) : Calls Tryz.prog 75 #[.string ⟨#[0]⟩, .int .i64 64] w fun e w' => e = .returned (.string (bs zeroB)) ∧ Below w.heap.size w w' := by
  have HM := Lib.hid fun w => Mul1_c 64 (by decide) w
  have hb : ((ByteArray.mk #[0])[0]'(by decide)).toNat = 0 := by decide
  obtain ⟨g, hg⟩ : ∃ g, g = w.heap.size := ⟨_, rfl⟩
  have b0 : Below w.heap.size w (w.alloc (.cells #[.pointer none, .slice none 0 0] 58)) := (Below.refl _ w).alloc (Nat.le_refl _) _
  have HG := Lib.hid (Tryz.Builder_Grow_fresh w.heap.size w.heap.size 64 (w.alloc (.cells #[.pointer none, .slice none 0 0] 58)) (Nat.le_refl _) (heap_alloc_new w _) b0.size (by omega))
  have HB := Lib.hid b0
  clear b0
  rw [← hg] at HG HB ⊢
  go_enter Tryz.func75, Tryz.ntmps75
  go_wp2_with fail
  go_at_call 95
  refine (HM.out _).mono ?_
  rintro e w1 ⟨rfl, rfl⟩
  clear HM
  go_wp2_with fail
  rw [← hg]
  have HSz : Hid (g ≤ w1.heap.size) := by show _ ≤ _; omega
  clear hg
  go_at_call 97
  refine HG.out.mono ?_
  rintro e W1 ⟨rfl, h1, b1⟩
  have HW := Lib.hid (writeS_c g g [] ⟨#[0]⟩ W1 (Lib.IsBuilderF.of (Or.inr h1)) (by decide) (Nat.le_trans HSz.out (HB.out.trans b1).size))
  replace HB := Lib.hid (HB.out.trans b1)
  clear HG h1 b1
  go_wp2_with fail
  go_at_call 36
  refine HW.out.mono ?_
  rintro e W2 ⟨rfl, h2, b2⟩
  have HF : Hid (Lib.IsBuilderF 58 5 g g (Lib.byteCells (List.replicate 1 0)) W2) := Or.inr h2
  replace HB := Lib.hid (HB.out.trans b2)
  clear HW h2 b2
  go_wp2_with fail
  go_loopg [] 63 (fun gk wx => ∃ q : Nat, 1 ≤ q ∧ q + gk = 64 ∧ Hid (Lib.IsBuilderF 58 5 g g (Lib.byteCells (List.replicate q 0)) wx) ∧ Hid (Below g w1 wx))
  case atStart => exact ⟨1, Nat.le_refl _, rfl, HF, HB⟩
  case round =>
    rename_i J1 K1 hJ1 hK1
    clear HF HB
    obtain ⟨q, hq1, hqg, HF, HB⟩ := hrel
    have HL := Lib.hid (Tryz.Builder_Len_f g g _ wr HF.out)
    rw [lenZ] at HL
    have HT := Lib.hid (Tryz.Builder_String_any_f g g (List.replicate q 0) wr HF.out (Nat.le_trans HSz.out HB.out.size))
    obtain ⟨S, hS⟩ : ∃ S : ByteArray, S = bs (List.replicate q 0) := ⟨_, rfl⟩
    have hSz : S.size = q := by rw [hS, bs_size, List.length_replicate]
    change Hid (Calls _ _ _ _ fun e w' => e = .returned (.string (bs (List.replicate q 0))) ∧ _) at HT
    have HX := Lib.hid hS
    rw [← hS] at HT
    clear hS
    by_cases hlt : q < 64
    · have hmin : ∀ (ts : Array TypeId) (t : TypeId) (W : World), (Builtin.min_ ts t #[.int .i64 (64 - (q : Int)), .int .i64 (q : Int), .int .i64 64]).run Tryz.prog W = .ok (.int .i64 ((min (64 - q) q : Nat) : Int)) W := fun ts t W => by
        rw [run_min_int3]
        congr 2
        omega
      obtain ⟨k, hk⟩ : ∃ k, k = min (64 - q) q := ⟨_, rfl⟩
      rw [← hk] at hmin
      have hk1 : 1 ≤ k := by omega
      have hkq : k ≤ q := by omega
      have hks : q + k ≤ 64 := by omega
      clear hk
      have hqn : (q : Int) < 64 := by omega
      go_wp2_with fail
      go_at_call 98
      refine HL.out.mono ?_
      rintro e w' ⟨rfl, hw⟩
      rw [hw]
      clear hw w'
      go_wp2_with fail
      go_at_call 98
      refine HL.out.mono ?_
      rintro e w' ⟨rfl, hw⟩
      rw [hw]
      clear hw w'
      go_wp2_with fail
      go_at_call 98
      refine HL.out.mono ?_
      rintro e w' ⟨rfl, hw⟩
      rw [hw]
      clear hw w'
      go_wp2_with fail
      go_at_call 38
      refine HT.out.mono ?_
      rintro e W3 ⟨rfl, h3, b3⟩
      have HW := Lib.hid (writeS_c g g _ (S.extract 0 k) W3 h3 (by rw [lenZ, HX.out, bs_extract, bs_size]; simp; omega) (Nat.le_trans HSz.out (HB.out.trans b3).size))
      replace HB := Lib.hid (HB.out.trans b3)
      clear HL HT h3 b3 HF hmin
      go_wp2_with fail
      go_at_call 36
      refine HW.out.mono ?_
      rintro e W4 ⟨rfl, h4, b4⟩
      have HF : Hid (Lib.IsBuilderF 58 5 g g (Lib.byteCells (List.replicate (q + k) 0)) W4) := by
        rw [Lib.strCells_eq, ← Lib.byteCells_append, HX.out, bs_extract, List.drop_zero, Nat.sub_zero, List.take_replicate, Nat.min_eq_left hkq] at h4
        change Lib.BuilderAtF _ _ _ _ _ (Lib.byteCells (List.replicate q 0 ++ List.replicate k 0)) _ at h4
        rw [List.replicate_append_replicate] at h4
        exact Or.inr h4
      replace HB := Lib.hid (HB.out.trans b4)
      clear HW h4 b4 HX
      go_wp2_with fail
      go_roundg (64 - (q + k))
      case measure => omega
      case rel => exact ⟨q + k, by omega, by omega, HF, HB⟩
    · obtain rfl : q = 64 := by omega
      clear hJ1 hK1
      go_wp2_with fail
      go_at_call 98
      refine HL.out.mono ?_
      rintro e w' ⟨rfl, hw⟩
      rw [hw]
      clear hw w'
      go_wp2_with fail
      go_at_call 38
      refine HT.out.mono ?_
      rintro e W3 ⟨rfl, h3, b3⟩
      replace HB := Lib.hid (HB.out.trans b3)
      clear HL HT h3 b3 HF
      go_wp2_with fail
      go_ret
      exact ⟨by rw [HX.out]; rfl, HB.out⟩
theorem zeroJ_c (w : World) : Calls Tryz.prog 40 #[] w fun e w' => e = .returned (.string (bs zeroB)) ∧ Below w.heap.size w w' := by
  go_enter Tryz.func40, Tryz.ntmps40
  go_wp2_with fail
  go_at_call 75
  refine (RepeatZ_c _).mono ?_
  rintro e w1 ⟨rfl, hb⟩
  have HB := Lib.hid hb
  clear hb
  go_wp2_with fail
  go_ret
  exact ⟨rfl, HB.out⟩
end Go.Proofs.YtjcjpekndeoonaaGreatDoor

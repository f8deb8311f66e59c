/-
  'Size' and 'large'.
-/
import Derived.Test.YtoeknmkephnekaaGreatDoorFmMem
import Derived.Test.YtoeknmkephnekaaGreatDoorBase
import Derived.Deep.LoopGhost
import Derived.Laws.EntriesVeiled
namespace Go.Proofs.YtoeknmkephnekaaGreatDoor
open Go.RowKit Go.Cz Go.Cz.Lx Go.Cz.Fo
set_option linter.unusedSimpArgs false
set_option linter.unusedVariables false
attribute [local go_sem] bs_size bs_extract bs_append bs_toList
attribute [local irreducible] cList cPlan
/-- What follows is proved once, for whatever was made. -/
theorem cut1 {Goal : Prop} {Hyp G : World → Prop} (h1 : (∀ W, Hyp W → G W) → Goal) (h2 : ∀ W, Hyp W → G W) : Goal := h1 h2
abbrev visV (bn bd bv : Nat) : Value := .func (.func 116) #[] #[.pointer (some ⟨bn, 0, none⟩), .pointer (some ⟨bd, 0, none⟩), .pointer (some ⟨bv, 0, none⟩)]
abbrev szP (bn bd bv n d : Nat) (ps : List Piece) : List Piece := one bn 3 (.int .i64 (n : Int)) :: one bd 3 (.int .i64 (d : Int)) :: one bv 145 (visV bn bd bv) :: ps
section
variable {w0 : World} {p : Nat → Prop} {bn bd bv : Nat}
theorem Owns.sz3 {w : World} {ps : List Piece} {P : Piece} {n d n' d' : Nat} (h : Owns w0 w (P :: szP bn bd bv n d ps)) : Owns w0 ((w.setCell ⟨bn, 0, none⟩ (.int .i64 (n' : Int))).setCell ⟨bd, 0, none⟩ (.int .i64 (d' : Int))) (P :: szP bn bd bv n' d' ps) :=
  ((h.rot.rot.store (i := 0) (.int .i64 (n' : Int))).swap.store (i := 0) (.int .i64 (d' : Int))).swap.rot
set_option maxHeartbeats 2000000 in
theorem visit_c (f : Fm) : ∀ (ps : List Piece) (w : World) (kv : Value) (n d lv : Nat), IsFm p w0 f kv → Owns w0 w (szP bn bd bv n d ps) → 1 ≤ lv → n + size f ≤ 1000000 → lv + depth f ≤ 1000000 → d ≤ 1000000 →
    Calls Tryz.prog 116 #[fval f kv, .int .i64 (lv : Int), .pointer (some ⟨bn, 0, none⟩), .pointer (some ⟨bd, 0, none⟩), .pointer (some ⟨bv, 0, none⟩)] w (fun e w' => e = .returned (.tuple #[]) ∧ Owns w0 w' (szP bn bd bv (n + size f) (max d (lv + depth f - 1)) ps)) := by
  refine Fm.induct (P := fun f => ∀ (ps : List Piece) (w : World) (kv : Value) (n d lv : Nat), IsFm p w0 f kv → Owns w0 w (szP bn bd bv n d ps) → 1 ≤ lv → n + size f ≤ 1000000 → lv + depth f ≤ 1000000 → d ≤ 1000000 →
    Calls Tryz.prog 116 #[fval f kv, .int .i64 (lv : Int), .pointer (some ⟨bn, 0, none⟩), .pointer (some ⟨bd, 0, none⟩), .pointer (some ⟨bv, 0, none⟩)] w (fun e w' => e = .returned (.tuple #[]) ∧ Owns w0 w' (szP bn bd bv (n + size f) (max d (lv + depth f - 1)) ps))) ?_ f
  clear f
  intro f ih ps w kv n d lv hf ho h1 hn hl hd
  obtain ⟨y, m, rfl⟩ := hf.form
  have HF := Lib.hid hf
  have HI := Lib.hid ih
  have HO := Lib.hid ho
  have HB : Hid (n + 1 + sizes f.kids ≤ 1000000 ∧ lv + 1 + depths f.kids ≤ 1000000) := ⟨by rw [size_kids] at hn; omega, by rw [depth_kids] at hl; omega⟩
  have hn9 : n ≤ 1000000 := by omega
  have hl9 : lv ≤ 1000000 := by omega
  clear hf ih ho hn hl
  obtain ⟨N, hN⟩ : ∃ N, N = f.kids.length := ⟨_, rfl⟩
  have HN := Lib.hid hN
  have hN9 : N ≤ 1000000 := by have := length_sizes f.kids; have := HB.out; omega
  rw [← hN]
  clear hN
  go_enter Tryz.func116, Tryz.ntmps116
  go_wp2_with fail
  obtain ⟨W1, hW1⟩ : ∃ W1, W1 = w.alloc (fobj f (.slice y N m)) := ⟨_, rfl⟩
  obtain ⟨bf, hbf⟩ : ∃ bf, bf = w.heap.size := ⟨_, rfl⟩
  have HO1 : Hid (Owns w0 W1 (blk bf (fobj f (.slice y N m)) :: szP bn bd bv n d ps)) := by
    rw [hW1, hbf]
    exact Lib.hid (HO.out.box _)
  rw [← hW1, ← hbf]
  clear hW1 hbf HO
  obtain ⟨D, hD⟩ : ∃ D, D = max d lv := ⟨_, rfl⟩
  have HDm := Lib.hid hD
  obtain ⟨n1, hn1⟩ : ∃ n1, n1 = n + 1 := ⟨_, rfl⟩
  have HN1 := Lib.hid hn1
  have e1 : (n : Int) + 1 = (n1 : Int) := by omega
  clear hn1
  have e2 : max (d : Int) (lv : Int) = (D : Int) := by rw [hD]; omega
  clear hD
  apply cut1 (Hyp := fun W => Hid (Owns w0 W (blk bf (fobj f (.slice y N m)) :: szP bn bd bv n1 D ps)))
  focus
    intro key
    refine wp_region_plan [] (.step 0 (.step 1 (.step 3 (.fork 2 (.step 4 (.step 5 (.step 6 .done))) 5 (.step 2 (.step 4 (.step 6 .done))))))) (by decide +kernel) (by decide +kernel) ?_
    replace HO1 := Lib.hid HO1.out.drew
    obtain ⟨W2, hW2⟩ : ∃ W2, W2 = W1.drew := ⟨_, rfl⟩
    rw [← hW2] at HO1 ⊢
    clear hW2
    obtain ⟨h2, c2, f2⟩ := Owns.one HO1.out.swap
    obtain ⟨h3, c3, f3⟩ := Owns.one HO1.out.rot
    have hne := Owns.ne HO1.out.pop
    have hne' := hne.symm
    iterate 3 (refine cp_do rfl rfl rfl rfl (fun _ _ => ?_); go_wp2_with fail)
    refine cp_fork ?_ ?_
    focus
      refine cp_do rfl rfl rfl (by first | rfl | simp [okB, lenV, plainV, Act.eval]) (fun _ _ => ?_); go_wp2_with fail
      refine cp_do rfl rfl rfl (by first | rfl | simp [okB, lenV, plainV, Act.eval]) (fun _ _ => ?_); go_wp2_with fail
      refine cp_do rfl rfl rfl (by first | rfl | simp [okB, lenV, plainV, Act.eval]) (fun _ _ => ?_); go_wp2_with fail
      refine cp_do rfl rfl rfl (by first | rfl | simp [okB, lenV, plainV, Act.eval]) (fun _ _ => ?_); go_wp2_with fail
      refine cp_nil ?_
      exact key _ (Lib.hid (Owns.sz3 HO1.out))
    focus
      refine cp_do rfl rfl rfl (by first | rfl | simp [okB, lenV, plainV, Act.eval]) (fun _ _ => ?_); go_wp2_with fail
      refine cp_do rfl rfl rfl (by first | rfl | simp [okB, lenV, plainV, Act.eval]) (fun _ _ => ?_); go_wp2_with fail
      refine cp_do rfl rfl rfl (by first | rfl | simp [okB, lenV, plainV, Act.eval]) (fun _ _ => ?_); go_wp2_with fail
      refine cp_do rfl rfl rfl (by first | rfl | simp [okB, lenV, plainV, Act.eval]) (fun _ _ => ?_); go_wp2_with fail
      refine cp_nil ?_
      exact key _ (Lib.hid (Owns.sz3 HO1.out))
  intro W3 HO
  clear HO1 e1 e2
  have HO3 : Hid (Owns w0 W3 (blk bf (fobj f (.slice y N m)) :: szP bn bd bv (n1 + sizes (f.kids.take 0)) (max D (lv + depths (f.kids.take 0))) ps)) := by
    have h0 : max D (lv + depths (f.kids.take 0)) = D := by rw [HDm.out]; simp [depths]
    rw [h0]
    exact HO
  obtain ⟨bk, -⟩ := HO.out.blk
  have hbf := lt_of_block bk
  have cb4 : W3.cell? ⟨bf, 4, none⟩ = some (.slice y N m) := by rw [cell_of_heap bk]; rfl
  clear bk HO
  go_wp2_with fail
  clear cb4 hbf
  go_loopg [17] N (fun gk i wr => ∃ k : Nat, gk = N - k ∧ k ≤ N ∧ i = .int .i64 (k : Int) ∧ Hid (Owns w0 wr (blk bf (fobj f (.slice y N m)) :: szP bn bd bv (n1 + sizes (f.kids.take k)) (max D (lv + depths (f.kids.take k))) ps)))
  case atStart => exact ⟨0, rfl, Nat.zero_le _, rfl, HO3⟩
  case round =>
    rename_i J1 K1 hJ1 hK1
    obtain ⟨k, rfl, hk, rfl, HO⟩ := hrel
    by_cases hlt : k < N
    · obtain ⟨q, hq⟩ : ∃ q, f.kids[k]? = some q := ⟨_, List.getElem?_eq_getElem (by rw [← HN.out]; exact hlt)⟩
      obtain ⟨g, off, kv, rfl, hg, hkv, c0, c1, c2, c3, c4⟩ := HF.out.old HO.out.base hq
      obtain ⟨y2, m2, rfl⟩ := hkv.form
      have HQ := Lib.hid hq
      have HK := Lib.hid hkv
      clear hq hkv
      obtain ⟨N2, hN2⟩ : ∃ N2, N2 = q.kids.length := ⟨_, rfl⟩
      rw [← hN2] at c4 HK
      clear hN2
      obtain ⟨hv, cv, -⟩ := Owns.one HO.out.rot4
      obtain ⟨l1, hl1⟩ : ∃ l1, l1 = lv + 1 := ⟨_, rfl⟩
      have e3 : (lv : Int) + 1 = (l1 : Int) := by omega
      have hl12 : l1 ≤ 1000001 := by omega
      have HL1 := Lib.hid hl1
      have HLt := Lib.hid hlt
      obtain ⟨W4, hW4⟩ : ∃ W4, W4 = wr.alloc (fobj q (.slice y2 N2 m2)) := ⟨_, rfl⟩
      have HO4 : Hid (Owns w0 W4 (szP bn bd bv (n1 + sizes (f.kids.take k)) (max D (lv + depths (f.kids.take k))) (blk bf (fobj f (.slice (some ⟨g, off, none⟩) N m)) :: ps))) := by
        rw [hW4]
        exact Lib.hid ((HO.out.alloc (fobj q (.slice y2 N2 m2))).re [1, 2, 3, 0])
      clear hl1
      go_wp2_with fail
      rw [← hW4]
      clear hW4 hv cv c0 c1 c2 c3 c4 e3 HO
      go_at_call 116
      have h5 := sizes_take HQ.out
      have h6 := depths_take HQ.out
      have h7 := sizes_le f.kids (k + 1)
      have h8 := depths_le f.kids (k + 1)
      have h9 := HB.out
      have h10 := HN1.out
      have h11 := HL1.out
      have h12 := HDm.out
      refine (HI.out q (List.mem_of_getElem? HQ.out) _ W4 _ _ _ l1 HK.out HO4.out (by omega) (by omega) (by omega) (by omega)).mono ?_
      rintro e W5 ⟨rfl, ho⟩
      rw [show n1 + sizes (f.kids.take k) + size q = n1 + sizes (f.kids.take (k + 1)) by omega, show max (max D (lv + depths (f.kids.take k))) (l1 + depth q - 1) = max D (lv + depths (f.kids.take (k + 1))) by omega] at ho
      have HO5 : Hid (Owns w0 W5 (blk bf (fobj f (.slice (some ⟨g, off, none⟩) N m)) :: szP bn bd bv (n1 + sizes (f.kids.take (k + 1))) (max D (lv + depths (f.kids.take (k + 1)))) ps)) := Lib.hid (ho.re [3, 0, 1, 2])
      clear h5 h6 h7 h8 h9 h10 h11 h12 ho HO4
      go_wp2_with fail
      go_roundg (N - (k + 1))
      case measure => omega
      case rel => exact ⟨k + 1, rfl, by omega, by go_num, HO5⟩
    · obtain rfl : k = N := by omega
      have hS : n1 + sizes (f.kids.take k) = n + size f := by
        rw [HN.out, List.take_length, size_kids, HN1.out]; omega
      have hD : max D (lv + depths (f.kids.take k)) = max d (lv + depth f - 1) := by
        rw [HN.out, List.take_length, depth_kids, HDm.out]; omega
      rw [hS, hD] at HO
      have HE : Hid (Owns w0 wr (szP bn bd bv (n + size f) (max d (lv + depth f - 1)) ps)) := Lib.hid HO.out.pop
      clear hS hD HO hlt hJ1 hK1
      go_wp2_with fail
      go_end0
      exact ⟨rfl, HE.out⟩
set_option maxHeartbeats 2000000 in
theorem Size_c (f : Fm) (w : World) (kv : Value) (hf : IsFm p w f kv) (hn : size f ≤ 900000) : Calls Tryz.prog 83 #[fval f kv] w (fun e w' => e = .returned (.tuple #[.int .i64 (size f : Int), .int .i64 (depth f : Int)]) ∧ Below w.heap.size w w') := by
  obtain ⟨y, m, rfl⟩ := hf.form
  have HF := Lib.hid hf
  have HO : Hid (Owns w ((((w.alloc (fobj f (.slice y f.kids.length m))).alloc (.cells #[.int .i64 0] 3)).alloc (.cells #[.int .i64 0] 3)).alloc (.cells #[visV (w.heap.size + 1) (w.heap.size + 1 + 1) (w.heap.size + 1 + 1 + 1)] 145)) (szP (w.heap.size + 1) (w.heap.size + 1 + 1) (w.heap.size + 1 + 1 + 1) 0 0 [])) := by
    have h := ((((Owns.start w).alloc (fobj f (.slice y f.kids.length m))).box (.cells #[.int .i64 0] 3)).box (.cells #[.int .i64 0] 3)).box (.cells #[visV (w.heap.size + 1) (w.heap.size + 1 + 1) (w.heap.size + 1 + 1 + 1)] 145)
    simp only [World.size_alloc] at h
    exact Lib.hid (h.re [2, 1, 0])
  have hN := Lib.hid hn
  clear hf hn
  obtain ⟨N, hN⟩ : ∃ N, N = f.kids.length := ⟨_, rfl⟩
  rw [← hN] at HO HF ⊢
  clear hN
  go_enter Tryz.func83, Tryz.ntmps83
  go_wp2_with fail
  obtain ⟨b1, hb1⟩ : ∃ b1, b1 = w.heap.size + 1 := ⟨_, rfl⟩
  obtain ⟨b2, hb2⟩ : ∃ b2, b2 = b1 + 1 := ⟨_, rfl⟩
  obtain ⟨b3, hb3⟩ : ∃ b3, b3 = b2 + 1 := ⟨_, rfl⟩
  rw [← hb1, ← hb2, ← hb3] at HO ⊢
  clear hb1 hb2 hb3
  refine (visit_c f [] _ _ 0 0 1 HF.out HO.out (by omega) (by have := hN.out; omega) (by have := hN.out; have := depth_size f; omega) (by omega)).mono ?_
  rintro e W5 ⟨rfl, ho⟩
  rw [show 0 + size f = size f by omega, show max 0 (1 + depth f - 1) = depth f by omega] at ho
  have HO5 := Lib.hid ho.drew
  clear ho HO
  go_wp2_with fail
  refine wp_region_can [] (List.range 4) (by decide +kernel) (by decide +kernel) ?_
  obtain ⟨h2, c2, -⟩ := Owns.one HO5.out
  obtain ⟨h3, c3, -⟩ := Owns.one HO5.out.swap
  go_wp2_with (first | refine cl_do rfl rfl rfl rfl (fun _ _ => ?_) | refine cl_nil ?_)
  go_ret2
  exact ⟨rfl, HO5.out.base⟩
end
end Go.Proofs.YtoeknmkephnekaaGreatDoor

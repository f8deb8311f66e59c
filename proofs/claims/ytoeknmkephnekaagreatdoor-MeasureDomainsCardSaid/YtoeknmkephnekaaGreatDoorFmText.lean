/-
  'Text' and what it calls.
-/
import Derived.Test.YtoeknmkephnekaaGreatDoorFmFirst
import Derived.Test.YtoeknmkephnekaaGreatDoorFmLexes
import Derived.Test.YtoeknmkephnekaaGreatDoorFmPiece
import Derived.Test.YtoeknmkephnekaaGreatDoorShelf2
import Derived.Lib.ItoaMem
import Derived.Lib.ItoaLen
import Derived.Lib.AppendIntMem
import Derived.Lib.Join
import Derived.Handy
namespace Go.Cz.Fo
open Go.Cz.Lx
theorem joinB_cons (sep a : Bytes) : ∀ r : List Bytes, joinB sep (a :: r) = a ++ (r.map (sep ++ ·)).flatten := by
  intro r
  induction r generalizing a with
  | nil => simp [joinB]
  | cons b r ih => rw [joinB, ih b]; simp
theorem join_eq (sep : Bytes) : ∀ l : List Bytes, Lib.join l sep = joinB sep l
  | [] => by rw [Lib.join_nil, joinB]
  | a :: r => by rw [Lib.join_cons, joinB_cons, Lib.joinTail]
theorem joinB_snoc (sep a : Bytes) (l : List Bytes) : joinB sep (l ++ [a]) = if l = [] then a else joinB sep l ++ (sep ++ a) := by
  cases l with
  | nil => simp [joinB]
  | cons b r => rw [List.cons_append, joinB_cons, joinB_cons]; simp
theorem joinB_take (sep : Bytes) : ∀ (l : List Bytes) (k : Nat), (joinB sep (l.take k)).length ≤ (joinB sep l).length
  | [], k => by simp
  | a :: r, 0 => by simp [joinB]
  | a :: r, k + 1 => by
    have h : (r.map (sep ++ ·)).flatten = ((r.take k).map (sep ++ ·)).flatten ++ ((r.drop k).map (sep ++ ·)).flatten := by
      rw [← List.flatten_append, ← List.map_append, List.take_append_drop]
    rw [List.take_succ_cons, joinB_cons, joinB_cons, h]
    simp
    try omega
theorem textF_eq (dec : Int → Bytes) : ∀ f : Fm, textF dec f = if f.op = 1 then wTrue else if f.op = 2 then wFalse else if f.op = 3 then f.name ++ ([32] ++ (symB f.cmp ++ ([32] ++ dec f.num)))
    else if f.op = 4 then [110, 111, 116, 32] ++ joinB [] ((textKids dec f.op f.kids).take 1) else if f.op = 5 then joinB [32, 97, 110, 100, 32] (textKids dec f.op f.kids) else joinB [32, 111, 114, 32] (textKids dec f.op f.kids) | .mk _ _ _ _ _ => by rw [textF]; rfl
theorem textKids_get {dec : Int → Bytes} {op : Int} {ks : List Fm} {k : Nat} {q : Fm} (h : ks[k]? = some q) : (textKids dec op ks).take (k + 1) = (textKids dec op ks).take k ++ [parT (parB op q.op) (textF dec q)] := by
  rw [textKids_eq, List.take_add_one, List.getElem?_map, h]; rfl
theorem textKids_length {dec : Int → Bytes} {op : Int} {ks : List Fm} : (textKids dec op ks).length = ks.length := by rw [textKids_eq, List.length_map]
abbrev tcsF (l : List Bytes) : List Value := l.map fun s => .string (bs s)
end Go.Cz.Fo
namespace Go.Proofs.YtoeknmkephnekaaGreatDoor
open Go.RowKit Go.Cz Go.Cz.Lx Go.Cz.Fo
set_option linter.unusedSimpArgs false
set_option linter.unusedVariables false
attribute [local go_sem] bs_size bs_extract bs_append bs_toList
attribute [local irreducible] cList cPlan
/-- What a law knows of the library's variables. -/
structure Std (W : World) : Prop where
  tab : Lib.TabIs Tryz.prog W "internal/strconv.uint64pow10" .u64 Lib.pow10Tab
theorem var_below {w w' : World} {n : String} {g : Nat} {cs : Array Value} (hg : Tryz.prog.globalNamed n = some g) (h : w.var? Tryz.prog n = some cs) (hb : Below w.heap.size w w') : w'.var? Tryz.prog n = some cs := by
  unfold World.var? at h ⊢
  rw [hg] at h ⊢
  simp only [Option.bind_some] at h ⊢
  have hlt : g < w.heap.size := by
    rcases Nat.lt_or_ge g w.heap.size with h' | h'
    · exact h'
    · rw [Array.getElem?_eq_none h'] at h; cases h
  rw [hb.block g hlt]
  exact h
theorem g_tab : Tryz.prog.globalNamed "internal/strconv.uint64pow10" = some 0 := by kernel_rfl
theorem Std.below {w w' : World} (h : Std w) (hb : Below w.heap.size w w') : Std w' := ⟨var_below g_tab h.tab hb⟩
theorem Itoa_c (n : Int) (w : World) (h0 : 0 ≤ n) (h1 : n ≤ 1000000000000000) (hs : Std w) : Calls Tryz.prog 29 #[.int .i64 n] w fun e w' => e = .returned (.string (bs (Lib.itoa n))) ∧ Below w.heap.size w w' := by
  refine (Tryz.strconv_Itoa n (by omega) (by omega) w hs.tab).mono ?_
  rintro e w' ⟨rfl, k, os, rfl⟩
  exact ⟨rfl, Lib.below_grow _ w (Nat.le_refl _) k os⟩
abbrev symsV : Value := .agg #[.string (bs []), .string (bs [61]), .string (bs [33, 61]), .string (bs [60]), .string (bs [60, 61]), .string (bs [62]), .string (bs [62, 61])]
theorem symbols_c (w : World) : Calls Tryz.prog 101 #[] w fun e w' => e = .returned symsV ∧ Below w.heap.size w w' := by
  go_enter Tryz.func101, Tryz.ntmps101
  go_wp2_with fail
  go_returns
  exact ⟨rfl, by repeat (first | exact Below.refl _ _ | (refine Below.setCell ?_ (by simp) _) | (refine Below.alloc ?_ (by simp) _))⟩
section
variable {p : Nat → Prop}
/-- The closure of 'Text'. -/
theorem Text1_c (f : Fm) (kv : Value) (w : World) (hf : IsFm p w f kv) (hs : f.name.length ≤ 140737488355328) :
    Calls Tryz.prog 66 #[fval f kv] w (fun e w' => e = .returned (.int .i64 (badE f : Nat)) ∧ Below w.heap.size w w') := by
  have HS := Lib.hid hs
  clear hs
  obtain ⟨y, m, rfl⟩ := hf.form
  obtain ⟨N, hN⟩ : ∃ N, N = f.kids.length := ⟨_, rfl⟩
  have HN := Lib.hid hN
  rw [← hN] at hf ⊢
  have HF := Lib.hid hf
  clear hN hf
  obtain ⟨W1, hW1⟩ : ∃ W1, W1 = w.alloc (fobj f (.slice y N m)) := ⟨_, rfl⟩
  obtain ⟨bf, hbf⟩ : ∃ bf, bf = w.heap.size := ⟨_, rfl⟩
  have HO : Hid (Owns w W1 [blk bf (fobj f (.slice y N m))]) := by
    rw [hW1, hbf]
    exact Lib.hid ((Owns.start w).box _)
  have HE : Hid (badE f = if formedB f = false ∨ (f.op = 3 ∧ (f.num < 0 ∨ 1000000 < f.num)) then 1 else 0) := rfl
  go_enter Tryz.func66, Tryz.ntmps66
  go_wp2_with fail
  rw [← hW1, ← hbf]
  clear hW1 hbf
  go_at_call 50
  refine (formed_c f W1 _ (HF.out.later HO.out.base) HS.out).mono ?_
  rintro e W2 ⟨rfl, hb⟩
  replace HO := Lib.hid (HO.out.below hb)
  clear hb
  obtain ⟨F, hF⟩ : ∃ F, F = formedB f := ⟨_, rfl⟩
  have HFo := Lib.hid hF
  rw [← hF] at HE ⊢
  clear hF
  cases F
  · rw [if_pos (.inl rfl)] at HE
    go_wp2_with fail
    go_ret
    exact ⟨by rw [HE.out]; rfl, HO.out.base⟩
  obtain ⟨bk, -⟩ := HO.out.blk
  have hbf := lt_of_block bk
  have cb0 := cell_of_heap bk (i := 0)
  have cb1 := cell_of_heap bk (i := 1)
  have cb2 := cell_of_heap bk (i := 2)
  have cb3 := cell_of_heap bk (i := 3)
  have cb4 := cell_of_heap bk (i := 4)
  simp only [List.getElem?_toArray, List.getElem?_cons_succ, List.getElem?_cons_zero] at cb0 cb1 cb2 cb3 cb4
  clear bk
  by_cases h3 : f.op = 3
  · have h3' : (f.op == 3) = true := by simpa using h3
    by_cases hl : f.num < 0
    · rw [if_pos (.inr ⟨h3, .inl hl⟩)] at HE
      go_wp2_with fail
      go_ret
      exact ⟨by rw [HE.out]; rfl, HO.out.base⟩
    by_cases hh : 1000000 < f.num
    · rw [if_pos (.inr ⟨h3, .inr hh⟩)] at HE
      go_wp2_with fail
      go_ret
      exact ⟨by rw [HE.out]; rfl, HO.out.base⟩
    rw [if_neg (by rintro (h | ⟨-, h⟩); · cases h
                   · omega)] at HE
    have HKe : Hid (keyB f.name = false) := by
      rcases formed_cases HFo.out.symm with h | h
      · exact h.2.2.2.2.2
      · rcases h.2 with h | h | h
        · omega
        · have := h.1; omega
        · omega
    go_wp2_with fail
    go_at_call 67
    refine (key_c f.name W2).mono ?_
    rintro e W3 ⟨rfl, hb⟩
    replace HO := Lib.hid (HO.out.below hb)
    rw [HKe.out]
    clear hb cb0 cb1 cb2 cb3 cb4 hbf
    go_wp2_with fail
    go_ret
    exact ⟨by rw [HE.out]; rfl, HO.out.base⟩
  · have h3' : (f.op == 3) = false := by simpa using h3
    rw [if_neg (by rintro (h | ⟨h, -⟩); · cases h
                   · exact h3 h)] at HE
    go_wp2_with fail
    go_ret
    exact ⟨by rw [HE.out]; rfl, HO.out.base⟩
theorem info_fstr : (Tryz.prog.info? 9).map (fun i => (i.zero, i.size, i.bytes)) = some (some (.string ⟨#[]⟩), 1, 16) := by kernel_rfl
theorem idxS1 (v0 v1 v2 v3 v4 v5 v6 : Value) (w : World) : (Instr.index 76 (.agg #[v0, v1, v2, v3, v4, v5, v6]) (.int .i64 1)).run Tryz.prog w = .ok v1 w := by kernel_rfl
theorem idxS2 (v0 v1 v2 v3 v4 v5 v6 : Value) (w : World) : (Instr.index 76 (.agg #[v0, v1, v2, v3, v4, v5, v6]) (.int .i64 2)).run Tryz.prog w = .ok v2 w := by kernel_rfl
theorem idxS3 (v0 v1 v2 v3 v4 v5 v6 : Value) (w : World) : (Instr.index 76 (.agg #[v0, v1, v2, v3, v4, v5, v6]) (.int .i64 3)).run Tryz.prog w = .ok v3 w := by kernel_rfl
theorem idxS4 (v0 v1 v2 v3 v4 v5 v6 : Value) (w : World) : (Instr.index 76 (.agg #[v0, v1, v2, v3, v4, v5, v6]) (.int .i64 4)).run Tryz.prog w = .ok v4 w := by kernel_rfl
theorem idxS5 (v0 v1 v2 v3 v4 v5 v6 : Value) (w : World) : (Instr.index 76 (.agg #[v0, v1, v2, v3, v4, v5, v6]) (.int .i64 5)).run Tryz.prog w = .ok v5 w := by kernel_rfl
theorem idxS6 (v0 v1 v2 v3 v4 v5 v6 : Value) (w : World) : (Instr.index 76 (.agg #[v0, v1, v2, v3, v4, v5, v6]) (.int .i64 6)).run Tryz.prog w = .ok v6 w := by kernel_rfl
set_option maxRecDepth 100000 in
set_option maxHeartbeats 8000000 in
theorem text_c (w0 : World) (hst : Std w0) (f : Fm) : ∀ (w : World) (kv : Value), Below w0.heap.size w0 w → IsFm p w0 f kv → size f ≤ 900000 → Wr f →
    Calls Tryz.prog 68 #[fval f kv] w (fun e w' => e = .returned (.string (bs (textF Lib.itoa f))) ∧ Below w.heap.size w w') := by
  have HSt := Lib.hid hst
  clear hst
  refine Fm.induct (P := fun f => ∀ (w : World) (kv : Value), Below w0.heap.size w0 w → IsFm p w0 f kv → size f ≤ 900000 → Wr f →
    Calls Tryz.prog 68 #[fval f kv] w (fun e w' => e = .returned (.string (bs (textF Lib.itoa f))) ∧ Below w.heap.size w w')) ?_ f
  clear f
  intro f ih w kv hw hf hz hwr
  have HI := Lib.hid ih
  have HZ := Lib.hid hz
  have HW := Lib.hid hw
  have HWR := Lib.hid hwr
  have hN9 := length_sizes f.kids
  rw [size_kids] at hz
  obtain ⟨y, m, rfl⟩ := hf.form
  obtain ⟨N, hN⟩ : ∃ N, N = f.kids.length := ⟨_, rfl⟩
  have HN := Lib.hid hN
  rw [← hN] at hf ⊢
  have HF := Lib.hid hf
  clear hN hf
  obtain ⟨W1, hW1⟩ : ∃ W1, W1 = w.alloc (fobj f (.slice y N m)) := ⟨_, rfl⟩
  obtain ⟨bf, hbf⟩ : ∃ bf, bf = w.heap.size := ⟨_, rfl⟩
  have HO : Hid (Owns w W1 [blk bf (fobj f (.slice y N m))]) := by
    rw [hW1, hbf]
    exact Lib.hid ((Owns.start w).box _)
  have hN9 : N ≤ 900000 := by have := HN.out; omega
  clear ih hz hw
  have HK : Hid (∀ (q : Fm) (qv : Value) (W : World), q ∈ f.kids → IsFm p w0 q qv → Below w0.heap.size w0 W → Calls Tryz.prog 68 #[fval q qv] W fun e w' => e = .returned (.string (bs (textF Lib.itoa q))) ∧ Below W.heap.size W w') := by
    intro q qv W hm hq hW
    exact HI.out q hm W qv hW hq (by have := HZ.out; rw [size_kids] at this; have := size_mem hm; omega) (HWR.out.kid hm)
  have HKL : Hid (∀ q ∈ f.kids, (textF Lib.itoa q).length ≤ 60000000) := by
    intro q hm
    have h1 := (text_len q (HWR.out.kid hm)).1
    have h2 := HZ.out
    rw [size_kids] at h2
    have := size_mem hm
    omega
  have HFL : Hid ((textF Lib.itoa f).length ≤ 60000000) := by
    have h1 := (text_len f HWR.out).1
    have h2 := HZ.out
    show _ ≤ _
    omega
  have hcase := formed_cases hwr.node.1
  have hnum := hwr.node.2
  have HT := Lib.hid (textF_eq Lib.itoa f)
  clear hwr HI HZ HWR
  obtain ⟨o, ho⟩ : ∃ o, o = f.op := ⟨_, rfl⟩
  obtain ⟨mm, hmm⟩ : ∃ mm, mm = f.cmp := ⟨_, rfl⟩
  obtain ⟨x, hxx⟩ : ∃ x, x = f.num := ⟨_, rfl⟩
  obtain ⟨s, hss⟩ : ∃ s, s = f.name := ⟨_, rfl⟩
  simp only [fobj, fval] at HO hW1 ⊢
  rw [← ho, ← hmm, ← hss, ← hxx] at hcase HO hW1 HT ⊢
  rw [← ho, ← hxx] at hnum
  clear ho hmm hss hxx
  go_enter Tryz.func68, Tryz.ntmps68
  by_cases h1 : o = 1
  · subst h1
    rw [if_pos rfl] at HT
    clear hcase hnum
    go_wp2_with fail
    rw [← hW1]
    clear hW1 hbf
    go_ret
    exact ⟨by rw [HT.out]; rfl, HO.out.base⟩
  have h1' : (o == 1) = false := by simpa using h1
  rw [if_neg h1] at HT
  by_cases h2 : o = 2
  · subst h2
    rw [if_pos rfl] at HT
    clear hcase hnum
    go_wp2_with fail
    rw [← hW1]
    clear hW1 hbf
    go_ret
    exact ⟨by rw [HT.out]; rfl, HO.out.base⟩
  have h2' : (o == 2) = false := by simpa using h2
  rw [if_neg h2] at HT
  by_cases h3 : o = 3
  · subst h3
    rw [if_pos rfl] at HT
    obtain ⟨-, -, hm1, hm6, hnm, -⟩ := hcase.resolve_right (fun h => by omega)
    obtain ⟨hx0, hx1⟩ := hnum rfl
    have hx1 : x ≤ 1000000000000000 := by omega
    have hsl : s.length ≤ 24 := name_le hnm
    obtain ⟨dd, hdd⟩ : ∃ dd, dd = Lib.itoa x := ⟨_, rfl⟩
    have hdl : dd.length ≤ 21 := by rw [hdd]; exact Lib.itoa_length_le x (by omega) (by omega)
    replace hdd := Lib.hid hdd
    have h16 : mm = 1 ∨ mm = 2 ∨ mm = 3 ∨ mm = 4 ∨ mm = 5 ∨ mm = 6 := by omega
    clear hcase hnum hnm hm1 hm6 h1 h2 h1' h2'
    rcases h16 with rfl | rfl | rfl | rfl | rfl | rfl
    · go_wp2_with fail
      rw [← hW1, ← hbf]
      clear hW1 hbf
      refine wp_region_can [3, 11] [0, 1, 2, 4, 5, 9, 10, 3, 6, 7, 8, 11, 12, 13] (by decide +kernel) (by decide +kernel) ?_
      replace HO := Lib.hid HO.out.drew
      obtain ⟨W5, hW5⟩ : ∃ W5, W5 = W1.drew := ⟨_, rfl⟩
      rw [← hW5] at HO ⊢
      clear hW5
      obtain ⟨bk, -⟩ := HO.out.blk
      have hbf := lt_of_block bk
      have cb0 := cell_of_heap bk (i := 0)
      have cb1 := cell_of_heap bk (i := 1)
      have cb2 := cell_of_heap bk (i := 2)
      have cb3 := cell_of_heap bk (i := 3)
      have cb4 := cell_of_heap bk (i := 4)
      simp only [List.getElem?_toArray, List.getElem?_cons_succ, List.getElem?_cons_zero] at cb0 cb1 cb2 cb3 cb4
      clear bk
      iterate 7 (refine cl_do rfl rfl rfl (by first | rfl | simp [okB, lenV, plainV, Act.eval]) (fun _ _ => ?_); go_wp2_with fail)
      refine cl_call (i := 3) rfl rfl rfl (fun K hK => ?_)
      clear cb0 cb1 cb2 cb3 cb4 hbf
      go_wp2_with fail
      go_at_call 101
      refine (symbols_c W5).mono ?_
      rintro e W6 ⟨rfl, hb⟩
      have Hb := Lib.hid hb
      replace HO := Lib.hid (HO.out.below hb)
      clear hb
      have hix := idxS1
      go_wp2_with fail
      refine And.intro Hb.out ?_
      clear Hb
      iterate 3 (refine cl_do rfl rfl rfl (by first | rfl | simp [okB, lenV, plainV, Act.eval]) (fun _ _ => ?_); go_wp2_with fail)
      refine cl_call (i := 11) rfl rfl rfl (fun K hK => ?_)
      go_wp2_with fail
      go_at_call 29
      refine (Itoa_c x W6 hx0 hx1 (HSt.out.below (HW.out.trans (HO.out.base.mono HW.out.size)))).mono ?_
      rintro e W7 ⟨rfl, hb⟩
      have Hb := Lib.hid hb
      replace HO := Lib.hid (HO.out.below hb)
      rw [← hdd.out]
      clear hb hx0 hx1
      go_wp2_with fail
      refine And.intro Hb.out ?_
      clear Hb
      iterate 2 (refine cl_do rfl rfl rfl (by first | rfl | simp [okB, lenV, plainV, Act.eval]) (fun _ _ => ?_); go_wp2_with fail)
      refine cl_nil ?_
      go_wp2_with fail
      go_ret
      exact ⟨by (show Ending.returned (Value.string (bs s ++ bs [32] ++ bs _ ++ bs [32] ++ bs dd)) = _); rw [bs_append, bs_append, bs_append, bs_append, HT.out, ← hdd.out]; simp [symB], HO.out.base⟩
    · go_wp2_with fail
      rw [← hW1, ← hbf]
      clear hW1 hbf
      refine wp_region_can [3, 11] [0, 1, 2, 4, 5, 9, 10, 3, 6, 7, 8, 11, 12, 13] (by decide +kernel) (by decide +kernel) ?_
      replace HO := Lib.hid HO.out.drew
      obtain ⟨W5, hW5⟩ : ∃ W5, W5 = W1.drew := ⟨_, rfl⟩
      rw [← hW5] at HO ⊢
      clear hW5
      obtain ⟨bk, -⟩ := HO.out.blk
      have hbf := lt_of_block bk
      have cb0 := cell_of_heap bk (i := 0)
      have cb1 := cell_of_heap bk (i := 1)
      have cb2 := cell_of_heap bk (i := 2)
      have cb3 := cell_of_heap bk (i := 3)
      have cb4 := cell_of_heap bk (i := 4)
      simp only [List.getElem?_toArray, List.getElem?_cons_succ, List.getElem?_cons_zero] at cb0 cb1 cb2 cb3 cb4
      clear bk
      iterate 7 (refine cl_do rfl rfl rfl (by first | rfl | simp [okB, lenV, plainV, Act.eval]) (fun _ _ => ?_); go_wp2_with fail)
      refine cl_call (i := 3) rfl rfl rfl (fun K hK => ?_)
      clear cb0 cb1 cb2 cb3 cb4 hbf
      go_wp2_with fail
      go_at_call 101
      refine (symbols_c W5).mono ?_
      rintro e W6 ⟨rfl, hb⟩
      have Hb := Lib.hid hb
      replace HO := Lib.hid (HO.out.below hb)
      clear hb
      have hix := idxS2
      go_wp2_with fail
      refine And.intro Hb.out ?_
      clear Hb
      iterate 3 (refine cl_do rfl rfl rfl (by first | rfl | simp [okB, lenV, plainV, Act.eval]) (fun _ _ => ?_); go_wp2_with fail)
      refine cl_call (i := 11) rfl rfl rfl (fun K hK => ?_)
      go_wp2_with fail
      go_at_call 29
      refine (Itoa_c x W6 hx0 hx1 (HSt.out.below (HW.out.trans (HO.out.base.mono HW.out.size)))).mono ?_
      rintro e W7 ⟨rfl, hb⟩
      have Hb := Lib.hid hb
      replace HO := Lib.hid (HO.out.below hb)
      rw [← hdd.out]
      clear hb hx0 hx1
      go_wp2_with fail
      refine And.intro Hb.out ?_
      clear Hb
      iterate 2 (refine cl_do rfl rfl rfl (by first | rfl | simp [okB, lenV, plainV, Act.eval]) (fun _ _ => ?_); go_wp2_with fail)
      refine cl_nil ?_
      go_wp2_with fail
      go_ret
      exact ⟨by (show Ending.returned (Value.string (bs s ++ bs [32] ++ bs _ ++ bs [32] ++ bs dd)) = _); rw [bs_append, bs_append, bs_append, bs_append, HT.out, ← hdd.out]; simp [symB], HO.out.base⟩
    · go_wp2_with fail
      rw [← hW1, ← hbf]
      clear hW1 hbf
      refine wp_region_can [3, 11] [0, 1, 2, 4, 5, 9, 10, 3, 6, 7, 8, 11, 12, 13] (by decide +kernel) (by decide +kernel) ?_
      replace HO := Lib.hid HO.out.drew
      obtain ⟨W5, hW5⟩ : ∃ W5, W5 = W1.drew := ⟨_, rfl⟩
      rw [← hW5] at HO ⊢
      clear hW5
      obtain ⟨bk, -⟩ := HO.out.blk
      have hbf := lt_of_block bk
      have cb0 := cell_of_heap bk (i := 0)
      have cb1 := cell_of_heap bk (i := 1)
      have cb2 := cell_of_heap bk (i := 2)
      have cb3 := cell_of_heap bk (i := 3)
      have cb4 := cell_of_heap bk (i := 4)
      simp only [List.getElem?_toArray, List.getElem?_cons_succ, List.getElem?_cons_zero] at cb0 cb1 cb2 cb3 cb4
      clear bk
      iterate 7 (refine cl_do rfl rfl rfl (by first | rfl | simp [okB, lenV, plainV, Act.eval]) (fun _ _ => ?_); go_wp2_with fail)
      refine cl_call (i := 3) rfl rfl rfl (fun K hK => ?_)
      clear cb0 cb1 cb2 cb3 cb4 hbf
      go_wp2_with fail
      go_at_call 101
      refine (symbols_c W5).mono ?_
      rintro e W6 ⟨rfl, hb⟩
      have Hb := Lib.hid hb
      replace HO := Lib.hid (HO.out.below hb)
      clear hb
      have hix := idxS3
      go_wp2_with fail
      refine And.intro Hb.out ?_
      clear Hb
      iterate 3 (refine cl_do rfl rfl rfl (by first | rfl | simp [okB, lenV, plainV, Act.eval]) (fun _ _ => ?_); go_wp2_with fail)
      refine cl_call (i := 11) rfl rfl rfl (fun K hK => ?_)
      go_wp2_with fail
      go_at_call 29
      refine (Itoa_c x W6 hx0 hx1 (HSt.out.below (HW.out.trans (HO.out.base.mono HW.out.size)))).mono ?_
      rintro e W7 ⟨rfl, hb⟩
      have Hb := Lib.hid hb
      replace HO := Lib.hid (HO.out.below hb)
      rw [← hdd.out]
      clear hb hx0 hx1
      go_wp2_with fail
      refine And.intro Hb.out ?_
      clear Hb
      iterate 2 (refine cl_do rfl rfl rfl (by first | rfl | simp [okB, lenV, plainV, Act.eval]) (fun _ _ => ?_); go_wp2_with fail)
      refine cl_nil ?_
      go_wp2_with fail
      go_ret
      exact ⟨by (show Ending.returned (Value.string (bs s ++ bs [32] ++ bs _ ++ bs [32] ++ bs dd)) = _); rw [bs_append, bs_append, bs_append, bs_append, HT.out, ← hdd.out]; simp [symB], HO.out.base⟩
    · go_wp2_with fail
      rw [← hW1, ← hbf]
      clear hW1 hbf
      refine wp_region_can [3, 11] [0, 1, 2, 4, 5, 9, 10, 3, 6, 7, 8, 11, 12, 13] (by decide +kernel) (by decide +kernel) ?_
      replace HO := Lib.hid HO.out.drew
      obtain ⟨W5, hW5⟩ : ∃ W5, W5 = W1.drew := ⟨_, rfl⟩
      rw [← hW5] at HO ⊢
      clear hW5
      obtain ⟨bk, -⟩ := HO.out.blk
      have hbf := lt_of_block bk
      have cb0 := cell_of_heap bk (i := 0)
      have cb1 := cell_of_heap bk (i := 1)
      have cb2 := cell_of_heap bk (i := 2)
      have cb3 := cell_of_heap bk (i := 3)
      have cb4 := cell_of_heap bk (i := 4)
      simp only [List.getElem?_toArray, List.getElem?_cons_succ, List.getElem?_cons_zero] at cb0 cb1 cb2 cb3 cb4
      clear bk
      iterate 7 (refine cl_do rfl rfl rfl (by first | rfl | simp [okB, lenV, plainV, Act.eval]) (fun _ _ => ?_); go_wp2_with fail)
      refine cl_call (i := 3) rfl rfl rfl (fun K hK => ?_)
      clear cb0 cb1 cb2 cb3 cb4 hbf
      go_wp2_with fail
      go_at_call 101
      refine (symbols_c W5).mono ?_
      rintro e W6 ⟨rfl, hb⟩
      have Hb := Lib.hid hb
      replace HO := Lib.hid (HO.out.below hb)
      clear hb
      have hix := idxS4
      go_wp2_with fail
      refine And.intro Hb.out ?_
      clear Hb
      iterate 3 (refine cl_do rfl rfl rfl (by first | rfl | simp [okB, lenV, plainV, Act.eval]) (fun _ _ => ?_); go_wp2_with fail)
      refine cl_call (i := 11) rfl rfl rfl (fun K hK => ?_)
      go_wp2_with fail
      go_at_call 29
      refine (Itoa_c x W6 hx0 hx1 (HSt.out.below (HW.out.trans (HO.out.base.mono HW.out.size)))).mono ?_
      rintro e W7 ⟨rfl, hb⟩
      have Hb := Lib.hid hb
      replace HO := Lib.hid (HO.out.below hb)
      rw [← hdd.out]
      clear hb hx0 hx1
      go_wp2_with fail
      refine And.intro Hb.out ?_
      clear Hb
      iterate 2 (refine cl_do rfl rfl rfl (by first | rfl | simp [okB, lenV, plainV, Act.eval]) (fun _ _ => ?_); go_wp2_with fail)
      refine cl_nil ?_
      go_wp2_with fail
      go_ret
      exact ⟨by (show Ending.returned (Value.string (bs s ++ bs [32] ++ bs _ ++ bs [32] ++ bs dd)) = _); rw [bs_append, bs_append, bs_append, bs_append, HT.out, ← hdd.out]; simp [symB], HO.out.base⟩
    · go_wp2_with fail
      rw [← hW1, ← hbf]
      clear hW1 hbf
      refine wp_region_can [3, 11] [0, 1, 2, 4, 5, 9, 10, 3, 6, 7, 8, 11, 12, 13] (by decide +kernel) (by decide +kernel) ?_
      replace HO := Lib.hid HO.out.drew
      obtain ⟨W5, hW5⟩ : ∃ W5, W5 = W1.drew := ⟨_, rfl⟩
      rw [← hW5] at HO ⊢
      clear hW5
      obtain ⟨bk, -⟩ := HO.out.blk
      have hbf := lt_of_block bk
      have cb0 := cell_of_heap bk (i := 0)
      have cb1 := cell_of_heap bk (i := 1)
      have cb2 := cell_of_heap bk (i := 2)
      have cb3 := cell_of_heap bk (i := 3)
      have cb4 := cell_of_heap bk (i := 4)
      simp only [List.getElem?_toArray, List.getElem?_cons_succ, List.getElem?_cons_zero] at cb0 cb1 cb2 cb3 cb4
      clear bk
      iterate 7 (refine cl_do rfl rfl rfl (by first | rfl | simp [okB, lenV, plainV, Act.eval]) (fun _ _ => ?_); go_wp2_with fail)
      refine cl_call (i := 3) rfl rfl rfl (fun K hK => ?_)
      clear cb0 cb1 cb2 cb3 cb4 hbf
      go_wp2_with fail
      go_at_call 101
      refine (symbols_c W5).mono ?_
      rintro e W6 ⟨rfl, hb⟩
      have Hb := Lib.hid hb
      replace HO := Lib.hid (HO.out.below hb)
      clear hb
      have hix := idxS5
      go_wp2_with fail
      refine And.intro Hb.out ?_
      clear Hb
      iterate 3 (refine cl_do rfl rfl rfl (by first | rfl | simp [okB, lenV, plainV, Act.eval]) (fun _ _ => ?_); go_wp2_with fail)
      refine cl_call (i := 11) rfl rfl rfl (fun K hK => ?_)
      go_wp2_with fail
      go_at_call 29
      refine (Itoa_c x W6 hx0 hx1 (HSt.out.below (HW.out.trans (HO.out.base.mono HW.out.size)))).mono ?_
      rintro e W7 ⟨rfl, hb⟩
      have Hb := Lib.hid hb
      replace HO := Lib.hid (HO.out.below hb)
      rw [← hdd.out]
      clear hb hx0 hx1
      go_wp2_with fail
      refine And.intro Hb.out ?_
      clear Hb
      iterate 2 (refine cl_do rfl rfl rfl (by first | rfl | simp [okB, lenV, plainV, Act.eval]) (fun _ _ => ?_); go_wp2_with fail)
      refine cl_nil ?_
      go_wp2_with fail
      go_ret
      exact ⟨by (show Ending.returned (Value.string (bs s ++ bs [32] ++ bs _ ++ bs [32] ++ bs dd)) = _); rw [bs_append, bs_append, bs_append, bs_append, HT.out, ← hdd.out]; simp [symB], HO.out.base⟩
    · go_wp2_with fail
      rw [← hW1, ← hbf]
      clear hW1 hbf
      refine wp_region_can [3, 11] [0, 1, 2, 4, 5, 9, 10, 3, 6, 7, 8, 11, 12, 13] (by decide +kernel) (by decide +kernel) ?_
      replace HO := Lib.hid HO.out.drew
      obtain ⟨W5, hW5⟩ : ∃ W5, W5 = W1.drew := ⟨_, rfl⟩
      rw [← hW5] at HO ⊢
      clear hW5
      obtain ⟨bk, -⟩ := HO.out.blk
      have hbf := lt_of_block bk
      have cb0 := cell_of_heap bk (i := 0)
      have cb1 := cell_of_heap bk (i := 1)
      have cb2 := cell_of_heap bk (i := 2)
      have cb3 := cell_of_heap bk (i := 3)
      have cb4 := cell_of_heap bk (i := 4)
      simp only [List.getElem?_toArray, List.getElem?_cons_succ, List.getElem?_cons_zero] at cb0 cb1 cb2 cb3 cb4
      clear bk
      iterate 7 (refine cl_do rfl rfl rfl (by first | rfl | simp [okB, lenV, plainV, Act.eval]) (fun _ _ => ?_); go_wp2_with fail)
      refine cl_call (i := 3) rfl rfl rfl (fun K hK => ?_)
      clear cb0 cb1 cb2 cb3 cb4 hbf
      go_wp2_with fail
      go_at_call 101
      refine (symbols_c W5).mono ?_
      rintro e W6 ⟨rfl, hb⟩
      have Hb := Lib.hid hb
      replace HO := Lib.hid (HO.out.below hb)
      clear hb
      have hix := idxS6
      go_wp2_with fail
      refine And.intro Hb.out ?_
      clear Hb
      iterate 3 (refine cl_do rfl rfl rfl (by first | rfl | simp [okB, lenV, plainV, Act.eval]) (fun _ _ => ?_); go_wp2_with fail)
      refine cl_call (i := 11) rfl rfl rfl (fun K hK => ?_)
      go_wp2_with fail
      go_at_call 29
      refine (Itoa_c x W6 hx0 hx1 (HSt.out.below (HW.out.trans (HO.out.base.mono HW.out.size)))).mono ?_
      rintro e W7 ⟨rfl, hb⟩
      have Hb := Lib.hid hb
      replace HO := Lib.hid (HO.out.below hb)
      rw [← hdd.out]
      clear hb hx0 hx1
      go_wp2_with fail
      refine And.intro Hb.out ?_
      clear Hb
      iterate 2 (refine cl_do rfl rfl rfl (by first | rfl | simp [okB, lenV, plainV, Act.eval]) (fun _ _ => ?_); go_wp2_with fail)
      refine cl_nil ?_
      go_wp2_with fail
      go_ret
      exact ⟨by (show Ending.returned (Value.string (bs s ++ bs [32] ++ bs _ ++ bs [32] ++ bs dd)) = _); rw [bs_append, bs_append, bs_append, bs_append, HT.out, ← hdd.out]; simp [symB], HO.out.base⟩
  have h3' : (o == 3) = false := by simpa using h3
  rw [if_neg h3] at HT
  have hcase2 := (hcase.resolve_left (fun h => h3 h.1)).2
  have h456 : (o = 4 ∧ N = 1) ∨ ((o = 5 ∨ o = 6) ∧ 2 ≤ N) := by
    rw [HN.out]
    rcases hcase2 with h | ⟨h, k, hk⟩ | ⟨h, a, b, r, hk⟩
    · omega
    · exact .inl ⟨h, by rw [hk]; rfl⟩
    · exact .inr ⟨h, by rw [hk]; simp⟩
  have H456 := Lib.hid h456
  clear hcase hcase2 hnum h456
  go_wp2_with fail
  rw [← hW1, ← hbf]
  clear hW1 hbf
  have HR0 : Hid (ORow 9 1 W1 W1 (.slice none 0 0) 0 (tcsF ((textKids Lib.itoa o f.kids).take 0))) := Lib.hid (ORow.nil (Below.refl _ _))
  focus
    obtain ⟨bk, -⟩ := HO.out.blk
    have hbf := lt_of_block bk
    have cb0 := cell_of_heap bk (i := 0)
    have cb1 := cell_of_heap bk (i := 1)
    have cb2 := cell_of_heap bk (i := 2)
    have cb3 := cell_of_heap bk (i := 3)
    have cb4 := cell_of_heap bk (i := 4)
    simp only [List.getElem?_toArray, List.getElem?_cons_succ, List.getElem?_cons_zero] at cb0 cb1 cb2 cb3 cb4
    clear bk
    clear cb0 cb1 cb2 cb3
    go_wp2_with fail
    clear cb4 hbf
  go_loopg [3, 31] N (fun gk l i wr => ∃ (k : Nat) (v : Value), gk = N - k ∧ k ≤ N ∧ i = .int .i64 (k : Int) ∧ v = l ∧ Hid (ORow 9 1 W1 wr v k (tcsF ((textKids Lib.itoa o f.kids).take k))))
  case atStart => exact ⟨0, _, rfl, Nat.zero_le _, rfl, rfl, HR0⟩
  case round =>
    rename_i J1 K1 hJ1 hK1
    clear HR0
    obtain ⟨k, v, rfl, hk, rfl, rfl, HR⟩ := hrel
    replace HO := Lib.hid (HO.out.below HR.out.below)
    have HWr := Lib.hid (HW.out.trans (HO.out.base.mono HW.out.size))
    by_cases hlt : k < N
    · obtain ⟨q, hq⟩ : ∃ q, f.kids[k]? = some q := ⟨_, List.getElem?_eq_getElem (by rw [← HN.out]; exact hlt)⟩
      obtain ⟨g, off, kv, rfl, hg, hkv, c0, c1, c2, c3, c4⟩ := HF.out.old HWr.out hq
      obtain ⟨y2, m2, rfl⟩ := hkv.form
      have HQ := Lib.hid hq
      have HKv := Lib.hid hkv
      clear hq hkv
      obtain ⟨N2, hN2⟩ : ∃ N2, N2 = q.kids.length := ⟨_, rfl⟩
      rw [← hN2] at c4 HKv
      clear hN2
      have hm := List.mem_of_getElem? HQ.out
      obtain ⟨W4, hW4⟩ : ∃ W4, W4 = wr.alloc (fobj q (.slice y2 N2 m2)) := ⟨_, rfl⟩
      obtain ⟨bq, hbq⟩ : ∃ bq, bq = wr.heap.size := ⟨_, rfl⟩
      have HB4 : Hid (Below wr.heap.size wr W4) := by
        rw [hW4]
        exact Lib.hid ((Below.refl _ _).alloc (Nat.le_refl _) _)
      have HQ4 : Hid (W4.heap[bq]? = some (fobj q (.slice y2 N2 m2))) := by
        rw [hW4, hbq]
        exact Lib.hid (new_heap _ _ _ rfl)
      go_wp2_with fail
      try rw [← hW4]
      try rw [← hbq]
      clear hW4 hbq c0 c1 c2 c3 c4 hg
      go_at_call 68
      refine (HK.out q _ W4 hm HKv.out (HWr.out.trans (HB4.out.mono HWr.out.size))).mono ?_
      rintro e W5 ⟨rfl, hb⟩
      have hB5 := HB4.out.trans (hb.mono HB4.out.size)
      replace HR := Lib.hid (HR.out.keep hB5)
      replace HO := Lib.hid (HO.out.below hB5)
      replace HQ4 : Hid (W5.heap[bq]? = some (fobj q (.slice y2 N2 m2))) := Lib.hid ((hb.block _ (lt_of_block HQ4.out)).trans HQ4.out)
      have htl := HKL.out q hm
      obtain ⟨t, ht⟩ : ∃ t, t = textF Lib.itoa q := ⟨_, rfl⟩
      rw [← ht] at htl ⊢
      have HTq := Lib.hid ht
      obtain ⟨oq, hoq⟩ : ∃ oq, oq = q.op := ⟨_, rfl⟩
      have HOq := Lib.hid hoq
      have hbq := lt_of_block HQ4.out
      have cq := cell_of_heap HQ4.out (i := 0)
      simp only [List.getElem?_toArray, List.getElem?_cons_succ, List.getElem?_cons_zero] at cq
      rw [← hoq] at cq
      obtain ⟨bk, -⟩ := HO.out.blk
      have hbf := lt_of_block bk
      have cb0 := cell_of_heap bk (i := 0)
      have cb1 := cell_of_heap bk (i := 1)
      have cb2 := cell_of_heap bk (i := 2)
      have cb3 := cell_of_heap bk (i := 3)
      have cb4 := cell_of_heap bk (i := 4)
      simp only [List.getElem?_toArray, List.getElem?_cons_succ, List.getElem?_cons_zero] at cb0 cb1 cb2 cb3 cb4
      clear bk
      clear ht hb hB5 hoq HB4 HWr hm cb1 cb2 cb3 cb4
      by_cases h6 : oq = 6
      · subst h6
        have HPT : Hid (parT (parB o q.op) (textF Lib.itoa q) = [40] ++ (t ++ [41])) := by
          show _ = _
          rw [← HOq.out, ← HTq.out]; rfl
        go_wp2_with (refine wpList_plain rfl fun K hK => wp_append (.tmp 53) (.tmp 55) 58 (by rfl) 9 _ 1 16 Tryz.underlying58 info_fstr (by rfl) (by omega) _ k _ (by rfl) (HR.out.row.alloc _) W5.heap.size 1 1 [.string (bs ([40] ++ (t ++ [41])))] (by rfl) (by rfl) 9 (by exact new_heap W5 _ _ rfl) (by simp [Value.oneCell']) (by omega) (by omega) ?_; intro v' w2 hrow hgrow hblk; have hp2 := (HR.out.keep ((Below.refl _ W5).alloc (Nat.le_refl _) _)).step hrow hgrow hblk; have Hp := Lib.hid hp2; clear hp2 hrow hgrow hblk)
        go_roundg (N - (k + 1))
        case measure => omega
        case rel =>
          refine ⟨k + 1, _, rfl, by omega, by go_num, rfl, ?_⟩
          have h := Hp.out
          show Hid (ORow _ _ _ _ _ _ _)
          rw [textKids_get HQ.out, HPT.out, tcsF, List.map_append]
          exact Lib.hid h
      have h6' : (oq == 6) = false := by simpa using h6
      by_cases h5 : oq = 5
      · subst h5
        by_cases ho6 : o = 6
        · subst ho6
          have HPT : Hid (parT (parB 6 q.op) (textF Lib.itoa q) = t) := by
            show _ = _
            rw [← HOq.out, ← HTq.out]; rfl
          go_wp2_with (refine wpList_plain rfl fun K hK => wp_append (.tmp 53) (.tmp 55) 58 (by rfl) 9 _ 1 16 Tryz.underlying58 info_fstr (by rfl) (by omega) _ k _ (by rfl) (HR.out.row.alloc _) W5.heap.size 1 1 [.string (bs t)] (by rfl) (by rfl) 9 (by exact new_heap W5 _ _ rfl) (by simp [Value.oneCell']) (by omega) (by omega) ?_; intro v' w2 hrow hgrow hblk; have hp2 := (HR.out.keep ((Below.refl _ W5).alloc (Nat.le_refl _) _)).step hrow hgrow hblk; have Hp := Lib.hid hp2; clear hp2 hrow hgrow hblk)
          go_roundg (N - (k + 1))
          case measure => omega
          case rel =>
            refine ⟨k + 1, _, rfl, by omega, by go_num, rfl, ?_⟩
            have h := Hp.out
            show Hid (ORow _ _ _ _ _ _ _)
            rw [textKids_get HQ.out, HPT.out, tcsF, List.map_append]
            exact Lib.hid h
        · have ho6' : (o != 6) = true := by simpa using ho6
          have HPT : Hid (parT (parB o q.op) (textF Lib.itoa q) = [40] ++ (t ++ [41])) := by
            show _ = _
            rw [← HOq.out, ← HTq.out, parB]
            simp [ho6, parT]
          go_wp2_with (refine wpList_plain rfl fun K hK => wp_append (.tmp 53) (.tmp 55) 58 (by rfl) 9 _ 1 16 Tryz.underlying58 info_fstr (by rfl) (by omega) _ k _ (by rfl) (HR.out.row.alloc _) W5.heap.size 1 1 [.string (bs ([40] ++ (t ++ [41])))] (by rfl) (by rfl) 9 (by exact new_heap W5 _ _ rfl) (by simp [Value.oneCell']) (by omega) (by omega) ?_; intro v' w2 hrow hgrow hblk; have hp2 := (HR.out.keep ((Below.refl _ W5).alloc (Nat.le_refl _) _)).step hrow hgrow hblk; have Hp := Lib.hid hp2; clear hp2 hrow hgrow hblk)
          go_roundg (N - (k + 1))
          case measure => omega
          case rel =>
            refine ⟨k + 1, _, rfl, by omega, by go_num, rfl, ?_⟩
            have h := Hp.out
            show Hid (ORow _ _ _ _ _ _ _)
            rw [textKids_get HQ.out, HPT.out, tcsF, List.map_append]
            exact Lib.hid h
      · have h5' : (oq == 5) = false := by simpa using h5
        have HPT : Hid (parT (parB o q.op) (textF Lib.itoa q) = t) := by
          show _ = _
          rw [← HOq.out, ← HTq.out, parB]
          simp [h5, h6, parT]
        go_wp2_with (refine wpList_plain rfl fun K hK => wp_append (.tmp 53) (.tmp 55) 58 (by rfl) 9 _ 1 16 Tryz.underlying58 info_fstr (by rfl) (by omega) _ k _ (by rfl) (HR.out.row.alloc _) W5.heap.size 1 1 [.string (bs t)] (by rfl) (by rfl) 9 (by exact new_heap W5 _ _ rfl) (by simp [Value.oneCell']) (by omega) (by omega) ?_; intro v' w2 hrow hgrow hblk; have hp2 := (HR.out.keep ((Below.refl _ W5).alloc (Nat.le_refl _) _)).step hrow hgrow hblk; have Hp := Lib.hid hp2; clear hp2 hrow hgrow hblk)
        go_roundg (N - (k + 1))
        case measure => omega
        case rel =>
          refine ⟨k + 1, _, rfl, by omega, by go_num, rfl, ?_⟩
          have h := Hp.out
          show Hid (ORow _ _ _ _ _ _ _)
          rw [textKids_get HQ.out, HPT.out, tcsF, List.map_append]
          exact Lib.hid h
    · obtain rfl : k = N := by omega
      have HR2 : Hid (ORow 9 1 W1 wr v k (tcsF (textKids Lib.itoa o f.kids))) := by
        have h := HR.out
        rw [List.take_of_length_le (by rw [textKids_length, HN.out]; exact Nat.le_refl _)] at h
        exact Lib.hid h
      obtain ⟨L, hL⟩ : ∃ L, L = textKids Lib.itoa o f.kids := ⟨_, rfl⟩
      have hLl : L.length = k := by rw [hL, textKids_length, HN.out]
      rw [← hL] at HR2 HT
      have HLl := Lib.hid hLl
      clear hL hLl HR hJ1 hK1 hlt
      rcases H456.out with ⟨rfl, hN1⟩ | ⟨h56, hN2⟩
      · obtain ⟨t, rfl⟩ : ∃ t, L = [t] := List.length_eq_one_iff.1 (by rw [HLl.out, hN1])
        have htl : t.length ≤ 60000000 := by
          have h := HFL.out
          rw [HT.out] at h
          simp [joinB] at h
          omega
        have HT2 : Hid (textF Lib.itoa f = [110, 111, 116, 32] ++ t) := by
          show _ = _
          rw [HT.out]; simp [joinB]
        rcases HR2.out.at with ⟨-, h⟩ | ⟨g, c, rfl, hc, -, hg, hcell⟩
        · omega
        have c0 := hcell 0 (.string (bs t)) rfl
        subst hN1
        obtain ⟨bk, -⟩ := HO.out.blk
        have hbf := lt_of_block bk
        have cb0 := cell_of_heap bk (i := 0)
        have cb1 := cell_of_heap bk (i := 1)
        have cb2 := cell_of_heap bk (i := 2)
        have cb3 := cell_of_heap bk (i := 3)
        have cb4 := cell_of_heap bk (i := 4)
        simp only [List.getElem?_toArray, List.getElem?_cons_succ, List.getElem?_cons_zero] at cb0 cb1 cb2 cb3 cb4
        clear bk
        clear cb1 cb2 cb3 cb4 hcell
        go_wp2_with fail
        go_ret
        exact ⟨by rw [HT2.out]; try rfl, HO.out.base⟩
      · rcases HR2.out.at with ⟨-, h⟩ | ⟨g, c, rfl, hc, -, hg, hcell⟩
        · omega
        have HJ : Hid (∀ sep : Bytes, (joinB sep L).length ≤ 60000000 → Calls Tryz.prog 30 #[.slice (some ⟨g, 0, none⟩) k c, .string (bs sep)] wr fun e w' => e = .returned (.string (bs (joinB sep L))) ∧ Below wr.heap.size wr w') := by
          intro sep hsep
          have hx : (L.map bs).map (·.data.toList) = L := by rw [List.map_map]; exact List.map_id _
          have h := Tryz.strings_Join g 0 c (L.map bs) (bs sep) wr (fun j x hj => ?_) hg (by rw [List.length_map, HLl.out]; omega) (by rw [List.length_map, HLl.out]; exact hc) (by rw [hx, bs_data, join_eq]; omega)
          · rw [hx, bs_data, join_eq, List.length_map, HLl.out] at h
            exact h
          · rw [Nat.zero_add]
            refine hcell j _ ?_
            rw [List.getElem?_map] at hj ⊢
            cases hLj : L[j]? with
            | none => rw [hLj] at hj; cases hj
            | some s => rw [hLj] at hj; simp at hj; subst hj; rfl
        clear hcell hg hc
        rcases h56 with rfl | rfl
        · have HT2 : Hid (textF Lib.itoa f = joinB [32, 97, 110, 100, 32] L) := HT.out
          obtain ⟨bk, -⟩ := HO.out.blk
          have hbf := lt_of_block bk
          have cb0 := cell_of_heap bk (i := 0)
          have cb1 := cell_of_heap bk (i := 1)
          have cb2 := cell_of_heap bk (i := 2)
          have cb3 := cell_of_heap bk (i := 3)
          have cb4 := cell_of_heap bk (i := 4)
          simp only [List.getElem?_toArray, List.getElem?_cons_succ, List.getElem?_cons_zero] at cb0 cb1 cb2 cb3 cb4
          clear bk
          clear cb1 cb2 cb3 cb4
          go_wp2_with fail
          go_at_call 30
          refine (HJ.out [32, 97, 110, 100, 32] (by rw [← HT2.out]; exact HFL.out)).mono ?_
          rintro e W6 ⟨rfl, hb⟩
          replace HO := Lib.hid (HO.out.below hb)
          clear hb cb0 hbf
          go_wp2_with fail
          go_ret
          exact ⟨by rw [HT2.out]; rfl, HO.out.base⟩
        · have HT2 : Hid (textF Lib.itoa f = joinB [32, 111, 114, 32] L) := HT.out
          obtain ⟨bk, -⟩ := HO.out.blk
          have hbf := lt_of_block bk
          have cb0 := cell_of_heap bk (i := 0)
          have cb1 := cell_of_heap bk (i := 1)
          have cb2 := cell_of_heap bk (i := 2)
          have cb3 := cell_of_heap bk (i := 3)
          have cb4 := cell_of_heap bk (i := 4)
          simp only [List.getElem?_toArray, List.getElem?_cons_succ, List.getElem?_cons_zero] at cb0 cb1 cb2 cb3 cb4
          clear bk
          clear cb1 cb2 cb3 cb4
          go_wp2_with fail
          go_at_call 30
          refine (HJ.out [32, 111, 114, 32] (by rw [← HT2.out]; exact HFL.out)).mono ?_
          rintro e W6 ⟨rfl, hb⟩
          replace HO := Lib.hid (HO.out.below hb)
          clear hb cb0 hbf
          go_wp2_with fail
          go_ret
          exact ⟨by rw [HT2.out]; rfl, HO.out.base⟩
theorem wr_large {f : Fm} (h : textE f = 0) : largeB f = false ∧ Wr f := by
  unfold textE at h
  split at h
  · cases h
  · rename_i h1
    exact ⟨by simpa using fun h => h1 (.inl h), Decidable.byContradiction fun h => h1 (.inr h)⟩
set_option maxHeartbeats 2000000 in
theorem Text_c (f : Fm) (w : World) (kv : Value) (hst : Std w) (hf : IsFm p w f kv) {lim : Nat} (hlim : lim ≤ 140737488355328) (hs : short lim f = true) (hz : size f ≤ 900000) :
    Calls Tryz.prog 25 #[fval f kv] w (fun e w' => e = .returned (.tuple #[.string (bs (if textE f = 0 then textF Lib.itoa f else [])), .int .i64 (textE f : Nat)]) ∧ Below w.heap.size w w') := by
  have HS := Lib.hid hs
  have HLim := Lib.hid hlim
  have HZ := Lib.hid hz
  have HSt := Lib.hid hst
  clear hs hlim hz hst
  obtain ⟨y, m, rfl⟩ := hf.form
  obtain ⟨N, hN⟩ : ∃ N, N = f.kids.length := ⟨_, rfl⟩
  have HN := Lib.hid hN
  rw [← hN] at hf ⊢
  have HF := Lib.hid hf
  clear hN hf
  obtain ⟨W1, hW1⟩ : ∃ W1, W1 = w.alloc (fobj f (.slice y N m)) := ⟨_, rfl⟩
  obtain ⟨bf, hbf⟩ : ∃ bf, bf = w.heap.size := ⟨_, rfl⟩
  have HO : Hid (Owns w W1 [blk bf (fobj f (.slice y N m))]) := by
    rw [hW1, hbf]
    exact Lib.hid ((Owns.start w).box _)
  have HE : Hid (textE f = if largeB f = true ∨ firstF badE f ≠ 0 then 1 else 0) := rfl
  obtain ⟨R, hR⟩ : ∃ R, R = if textE f = 0 then textF Lib.itoa f else [] := ⟨_, rfl⟩
  obtain ⟨Z, hZ⟩ : ∃ Z, Z = textE f := ⟨_, rfl⟩
  rw [← hR, ← hZ]
  rw [← hZ] at HE hR
  replace hR := Lib.hid hR
  clear hZ
  go_enter Tryz.func25, Tryz.ntmps25
  go_wp2_with fail
  rw [← hW1, ← hbf]
  clear hW1 hbf
  go_at_call 47
  refine (large_c f W1 _ (HF.out.later HO.out.base) HZ.out).mono ?_
  rintro e W2 ⟨rfl, hb⟩
  replace HO := Lib.hid (HO.out.below hb)
  clear hb
  obtain ⟨L, hL⟩ : ∃ L, L = largeB f := ⟨_, rfl⟩
  rw [← hL] at HE ⊢
  clear hL
  cases L
  case true =>
    rw [if_pos (.inl rfl)] at HE
    go_wp2_with fail
    go_ret2
    exact ⟨by rw [hR.out, HE.out]; rfl, HO.out.base⟩
  focus
    obtain ⟨bk, -⟩ := HO.out.blk
    have hbf := lt_of_block bk
    have cb0 := cell_of_heap bk (i := 0)
    have cb1 := cell_of_heap bk (i := 1)
    have cb2 := cell_of_heap bk (i := 2)
    have cb3 := cell_of_heap bk (i := 3)
    have cb4 := cell_of_heap bk (i := 4)
    simp only [List.getElem?_toArray, List.getElem?_cons_succ, List.getElem?_cons_zero] at cb0 cb1 cb2 cb3 cb4
    clear bk
    go_wp2_with fail
    clear cb0 cb1 cb2 cb3 cb4 hbf
  go_at_call 48
  refine (firstT_c (p := p) w badE lim (fun q qv W hq hs hW => Text1_c q qv W (hq.later hW) (Nat.le_trans (short_name hs) HLim.out)) f W2 _ HO.out.base HF.out HS.out HZ.out).mono ?_
  rintro e W3 ⟨rfl, hb⟩
  replace HO := Lib.hid (HO.out.below hb)
  clear hb
  obtain ⟨E, hE⟩ : ∃ E, E = firstF badE f := ⟨_, rfl⟩
  have HEE := Lib.hid hE
  rw [← hE] at HE ⊢
  clear hE
  by_cases hE : E = 0
  · subst hE
    rw [if_neg (by simp)] at HE
    obtain ⟨bk, -⟩ := HO.out.blk
    have hbf := lt_of_block bk
    have cb0 := cell_of_heap bk (i := 0)
    have cb1 := cell_of_heap bk (i := 1)
    have cb2 := cell_of_heap bk (i := 2)
    have cb3 := cell_of_heap bk (i := 3)
    have cb4 := cell_of_heap bk (i := 4)
    simp only [List.getElem?_toArray, List.getElem?_cons_succ, List.getElem?_cons_zero] at cb0 cb1 cb2 cb3 cb4
    clear bk
    go_wp2_with fail
    clear cb0 cb1 cb2 cb3 cb4 hbf
    go_at_call 68
    refine (text_c (p := p) w HSt.out f W3 _ HO.out.base HF.out HZ.out HEE.out.symm).mono ?_
    rintro e W4 ⟨rfl, hb⟩
    replace HO := Lib.hid (HO.out.below hb)
    clear hb
    go_wp2_with fail
    go_ret2
    exact ⟨by rw [hR.out, HE.out]; rfl, HO.out.base⟩
  · have hE' : ((E : Int) != 0) = true := by simpa using hE
    rw [if_pos (.inr hE)] at HE
    clear hE
    go_wp2_with fail
    go_ret2
    exact ⟨by rw [hR.out, HE.out]; rfl, HO.out.base⟩
end
end Go.Proofs.YtoeknmkephnekaaGreatDoor

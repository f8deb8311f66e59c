/-
  Texts of this claim, put together by a program: FmText, FmSame, AnyPan, MsS, FmPars, FmList, FmOne, FmSized, AnyOrd, FmParse.
-/
import Derived.Test.YtoeknmkephnekaaGreatDoorPk2
import Derived.Lib.ItoaMem
import Derived.Lib.ItoaLen
import Derived.Lib.AppendIntMem
import Derived.Lib.Join
import Derived.Handy
import Derived.Lib.Hide
import Derived.MapKept
import Derived.Deep.DeepCutAuto
import Derived.Lib.ItoaNum
import Derived.Deep.LoopGhost
import Derived.Laws.EntriesVeiled
import Derived.Lib.SlicesS
set_option linter.unusedSimpArgs false
set_option linter.unusedVariables false
namespace Go.Cz.Fo
open Go.Cz.Lx
theorem joinB_cons (sep a : Bytes) : ∀ r : List Bytes, joinB sep (a :: r) = a ++ (r.map (sep ++ ·)).flatten := by
 intro r
 induction r generalizing a with
 | nil => simp [joinB]
 | cons b r ih => rw [joinB, ih b]; simp
theorem join_eq (sep : Bytes) : ∀ l : List Bytes, Lib.join l sep = joinB sep l
 | [] => by rw [Lib.join_nil, joinB]
 | a :: r => by rw [Lib.join_cons, joinB_cons, Lib.joinTail]
theorem joinB_snoc (sep a : Bytes) (l : List Bytes) : joinB sep (l ++ [a]) = if l = [] then a else joinB sep l ++ (sep ++ a) := by
 cases l with
 | nil => simp [joinB]
 | cons b r => rw [List.cons_append, joinB_cons, joinB_cons]; simp
theorem joinB_take (sep : Bytes) : ∀ (l : List Bytes) (k : Nat), (joinB sep (l.take k)).length <= (joinB sep l).length
 | [], k => by simp
 | a :: r, 0 => by simp [joinB]
 | a :: r, k + 1 => by
  have h : (r.map (sep ++ ·)).flatten = ((r.take k).map (sep ++ ·)).flatten ++ ((r.drop k).map (sep ++ ·)).flatten := by
   rw [<- List.flatten_append, <- List.map_append, List.take_append_drop]
  rw [List.take_succ_cons, joinB_cons, joinB_cons, h]; simp
  try omega
theorem textF_eq (dec : Int -> Bytes) : ∀ f : Fm, textF dec f = if f.op = 1 then wTrue else if f.op = 2 then wFalse else if f.op = 3 then f.name ++ ([32] ++ (symB f.cmp ++ ([32] ++ dec f.num)))
  else if f.op = 4 then [110, 111, 116, 32] ++ joinB [] ((textKids dec f.op f.kids).take 1) else if f.op = 5 then joinB [32, 97, 110, 100, 32] (textKids dec f.op f.kids) else joinB [32, 111, 114, 32] (textKids dec f.op f.kids) | .mk _ _ _ _ _ => by rw [textF]; rfl
theorem textKids_get {dec : Int -> Bytes} {op : Int} {ks : List Fm} {k : Nat} {q : Fm} (h : ks[k]? = some q) : (textKids dec op ks).take (k + 1) = (textKids dec op ks).take k ++ [parT (parB op q.op) (textF dec q)] := by
 rw [textKids_eq, List.take_add_one, List.getElem?_map, h]; rfl
theorem textKids_length {dec : Int -> Bytes} {op : Int} {ks : List Fm} : (textKids dec op ks).length = ks.length := by rw [textKids_eq, List.length_map]
abbrev tcsF (l : List Bytes) : List Value := l.map fun s => .string (bs s)
end Go.Cz.Fo
namespace Go.Proofs.YtoeknmkephnekaaGreatDoor
open Go.RowKit Go.Cz Go.Cz.Lx Go.Cz.Fo
attribute [local go_sem] bs_size bs_extract bs_append bs_toList
attribute [local irreducible] cList cPlan
structure Std (W : World) : Prop where
 tab : Lib.TabIs Tryz.prog W "internal/strconv.uint64pow10" .u64 Lib.pow10Tab
theorem var_below {w w' : World} {n : String} {g : Nat} {cs : Array Value} (hg : Tryz.prog.globalNamed n = some g) (h : w.var? Tryz.prog n = some cs) (hb : Below w.heap.size w w') : w'.var? Tryz.prog n = some cs := by
 unfold World.var? at h ⊢; rw [hg] at h ⊢; simp only [Option.bind_some] at h ⊢; have hlt : g < w.heap.size := by
  rcases Nat.lt_or_ge g w.heap.size with h' | h'
  ·exact h'
  ·rw [Array.getElem?_eq_none h'] at h; cases h
 rw [hb.block g hlt]; exact h
theorem g_tab : Tryz.prog.globalNamed "internal/strconv.uint64pow10" = some 0 := by kernel_rfl
theorem Std.below {w w' : World} (h : Std w) (hb : Below w.heap.size w w') : Std w' := ⟨var_below g_tab h.tab hb⟩
theorem Itoa_c (n : Int) (w : World) (h0 : 0 <= n) (h1 : n <= 1000000000000000) (hs : Std w) : Calls Tryz.prog 29 #[.int .i64 n] w fun e w' => e = .returned (.string (bs (Lib.itoa n))) /\ Below w.heap.size w w' := by
 refine (Tryz.strconv_Itoa n (by omega) (by omega) w hs.tab).mono ?_; rintro e w' ⟨rfl, k, os, rfl⟩; exact ⟨rfl, Lib.below_grow _ w (Nat.le_refl _) k os⟩
abbrev symsV : Value := .agg #[.string (bs []), .string (bs [61]), .string (bs [33, 61]), .string (bs [60]), .string (bs [60, 61]), .string (bs [62]), .string (bs [62, 61])]
theorem symbols_c (w : World) : Calls Tryz.prog 101 #[] w fun e w' => e = .returned symsV /\ Below w.heap.size w w' := by
 go_enter Tryz.func101, Tryz.ntmps101
 go_wp2_with fail
 go_returns
 exact ⟨rfl, by repeat (first | exact Below.refl _ _ | (refine Below.setCell ?_ (by simp) _) | (refine Below.alloc ?_ (by simp) _))⟩
section
variable {p : Nat -> Prop}
theorem Text1_c (f : Fm) (kv : Value) (w : World) (hf : IsFm p w f kv) (hs : f.name.length <= 140737488355328) :
  Calls Tryz.prog 66 #[fval f kv] w (fun e w' => e = .returned (.int .i64 (badE f : Nat)) /\ Below w.heap.size w w') := by
 have HS := Lib.hid hs; clear hs; obtain ⟨y, m, rfl⟩ := hf.form; obtain ⟨N, hN⟩ : ∃ N, N = f.kids.length := ⟨_, rfl⟩; have HN := Lib.hid hN; rw [<- hN] at hf ⊢; have HF := Lib.hid hf; clear hN hf; obtain ⟨W1, hW1⟩ : ∃ W1, W1 = w.alloc (fobj f (.slice y N m)) := ⟨_, rfl⟩; obtain ⟨bf, hbf⟩ : ∃ bf, bf = w.heap.size := ⟨_, rfl⟩; have HO : Hid (Owns w W1 [blk bf (fobj f (.slice y N m))]) := by
  rw [hW1, hbf]; exact Lib.hid ((Owns.start w).box _)
 have HE : Hid (badE f = if formedB f = false ∨ (f.op = 3 /\ (f.num < 0 ∨ 1000000 < f.num)) then 1 else 0) := rfl; go_enter Tryz.func66, Tryz.ntmps66
 go_wp2_with fail
 rw [<- hW1, <- hbf]; clear hW1 hbf; go_at_call 50
 refine (formed_c f W1 _ (HF.out.later HO.out.base) HS.out).mono ?_; rintro e W2 ⟨rfl, hb⟩; replace HO := Lib.hid (HO.out.below hb); clear hb; obtain ⟨F, hF⟩ : ∃ F, F = formedB f := ⟨_, rfl⟩; have HFo := Lib.hid hF; rw [<- hF] at HE ⊢; clear hF; cases F
 ·rw [if_pos (.inl rfl)] at HE; go_wp2_with fail
  go_ret
  exact ⟨by rw [HE.out]; rfl, HO.out.base⟩
 obtain ⟨hbf, -, cb0, cb1, cb2, cb3, cb4⟩ := bx5 HO.out.blk; by_cases h3 : f.op = 3
 ·have h3' : (f.op == 3) = true := by simpa using h3
  by_cases hl : f.num < 0
  ·rw [if_pos (.inr ⟨h3, .inl hl⟩)] at HE; go_wp2_with fail
   go_ret
   exact ⟨by rw [HE.out]; rfl, HO.out.base⟩
  by_cases hh : 1000000 < f.num
  ·rw [if_pos (.inr ⟨h3, .inr hh⟩)] at HE; go_wp2_with fail
   go_ret
   exact ⟨by rw [HE.out]; rfl, HO.out.base⟩
  rw [if_neg (by rintro (h | ⟨-, h⟩) <;> first | (cases h; done) | omega)] at HE; have HKe : Hid (keyB f.name = false) := by
   rcases formed_cases HFo.out.symm with h | h
   ·exact h.2.2.2.2.2
   ·rcases h.2 with h | h | h
    ·omega
    ·have := h.1; omega
    ·omega
  go_wp2_with fail
  go_at_call 67
  refine (key_c f.name W2).mono ?_; rintro e W3 ⟨rfl, hb⟩; replace HO := Lib.hid (HO.out.below hb); rw [HKe.out]; clear hb cb0 cb1 cb2 cb3 cb4 hbf; go_wp2_with fail
  go_ret
  exact ⟨by rw [HE.out]; rfl, HO.out.base⟩
 ·have h3' : (f.op == 3) = false := by simpa using h3
  rw [if_neg (by rintro (h | ⟨h, -⟩) <;> first | (cases h; done) | exact h3 h)] at HE; go_wp2_with fail
  go_ret
  exact ⟨by rw [HE.out]; rfl, HO.out.base⟩
theorem info_fstr : (Tryz.prog.info? 9).map (fun i => (i.zero, i.size, i.bytes)) = some (some (.string ⟨#[]⟩), 1, 16) := by kernel_rfl
theorem idxS1 (v0 v1 v2 v3 v4 v5 v6 : Value) (w : World) : (Instr.index 76 (.agg #[v0, v1, v2, v3, v4, v5, v6]) (.int .i64 1)).run Tryz.prog w = .ok v1 w := by kernel_rfl
theorem idxS2 (v0 v1 v2 v3 v4 v5 v6 : Value) (w : World) : (Instr.index 76 (.agg #[v0, v1, v2, v3, v4, v5, v6]) (.int .i64 2)).run Tryz.prog w = .ok v2 w := by kernel_rfl
theorem idxS3 (v0 v1 v2 v3 v4 v5 v6 : Value) (w : World) : (Instr.index 76 (.agg #[v0, v1, v2, v3, v4, v5, v6]) (.int .i64 3)).run Tryz.prog w = .ok v3 w := by kernel_rfl
theorem idxS4 (v0 v1 v2 v3 v4 v5 v6 : Value) (w : World) : (Instr.index 76 (.agg #[v0, v1, v2, v3, v4, v5, v6]) (.int .i64 4)).run Tryz.prog w = .ok v4 w := by kernel_rfl
theorem idxS5 (v0 v1 v2 v3 v4 v5 v6 : Value) (w : World) : (Instr.index 76 (.agg #[v0, v1, v2, v3, v4, v5, v6]) (.int .i64 5)).run Tryz.prog w = .ok v5 w := by kernel_rfl
theorem idxS6 (v0 v1 v2 v3 v4 v5 v6 : Value) (w : World) : (Instr.index 76 (.agg #[v0, v1, v2, v3, v4, v5, v6]) (.int .i64 6)).run Tryz.prog w = .ok v6 w := by kernel_rfl
set_option maxRecDepth 100000 in
set_option maxHeartbeats 8000000 in
theorem text_c (w0 : World) (hst : Std w0) (f : Fm) : ∀ (w : World) (kv : Value), Below w0.heap.size w0 w -> IsFm p w0 f kv -> size f <= 900000 -> Wr f ->
  Calls Tryz.prog 68 #[fval f kv] w (fun e w' => e = .returned (.string (bs (textF Lib.itoa f))) /\ Below w.heap.size w w') := by
 have HSt := Lib.hid hst; clear hst; refine Fm.induct (P := fun f => ∀ (w : World) (kv : Value), Below w0.heap.size w0 w -> IsFm p w0 f kv -> size f <= 900000 -> Wr f ->
  Calls Tryz.prog 68 #[fval f kv] w (fun e w' => e = .returned (.string (bs (textF Lib.itoa f))) /\ Below w.heap.size w w')) ?_ f
 clear f; intro f ih w kv hw hf hz hwr; have HI := Lib.hid ih; have HZ := Lib.hid hz; have HW := Lib.hid hw; have HWR := Lib.hid hwr; have hN9 := length_sizes f.kids; rw [size_kids] at hz; obtain ⟨y, m, rfl⟩ := hf.form; obtain ⟨N, hN⟩ : ∃ N, N = f.kids.length := ⟨_, rfl⟩; have HN := Lib.hid hN; rw [<- hN] at hf ⊢; have HF := Lib.hid hf; clear hN hf; obtain ⟨W1, hW1⟩ : ∃ W1, W1 = w.alloc (fobj f (.slice y N m)) := ⟨_, rfl⟩; obtain ⟨bf, hbf⟩ : ∃ bf, bf = w.heap.size := ⟨_, rfl⟩; have HO : Hid (Owns w W1 [blk bf (fobj f (.slice y N m))]) := by
  rw [hW1, hbf]; exact Lib.hid ((Owns.start w).box _)
 have hN9 : N <= 900000 := by have := HN.out; omega
 clear ih hz hw; have HK : Hid (∀ (q : Fm) (qv : Value) (W : World), q ∈ f.kids -> IsFm p w0 q qv -> Below w0.heap.size w0 W -> Calls Tryz.prog 68 #[fval q qv] W fun e w' => e = .returned (.string (bs (textF Lib.itoa q))) /\ Below W.heap.size W w') := by
  intro q qv W hm hq hW; exact HI.out q hm W qv hW hq (by have := HZ.out; rw [size_kids] at this; have := size_mem hm; omega) (HWR.out.kid hm)
 have HKL : Hid (∀ q ∈ f.kids, (textF Lib.itoa q).length <= 60000000) := by
  intro q hm; have h1 := (text_len q (HWR.out.kid hm)).1; have h2 := HZ.out; rw [size_kids] at h2; have := size_mem hm; omega
 have HFL : Hid ((textF Lib.itoa f).length <= 60000000) := by
  have h1 := (text_len f HWR.out).1; have h2 := HZ.out; show _ <= _; omega
 have hcase := formed_cases hwr.node.1; have hnum := hwr.node.2; have HT := Lib.hid (textF_eq Lib.itoa f); clear hwr HI HZ HWR; obtain ⟨o, ho⟩ : ∃ o, o = f.op := ⟨_, rfl⟩; obtain ⟨mm, hmm⟩ : ∃ mm, mm = f.cmp := ⟨_, rfl⟩; obtain ⟨x, hxx⟩ : ∃ x, x = f.num := ⟨_, rfl⟩; obtain ⟨s, hss⟩ : ∃ s, s = f.name := ⟨_, rfl⟩; simp only [fobj, fval] at HO hW1 ⊢; rw [<- ho, <- hmm, <- hss, <- hxx] at hcase HO hW1 HT ⊢; rw [<- ho, <- hxx] at hnum; clear ho hmm hss hxx; go_enter Tryz.func68, Tryz.ntmps68
 by_cases h1 : o = 1
 ·subst h1; rw [if_pos rfl] at HT; clear hcase hnum; go_wp2_with fail
  rw [<- hW1]; clear hW1 hbf; go_ret
  exact ⟨by rw [HT.out]; rfl, HO.out.base⟩
 have h1' : (o == 1) = false := by simpa using h1
 rw [if_neg h1] at HT; by_cases h2 : o = 2
 ·subst h2; rw [if_pos rfl] at HT; clear hcase hnum; go_wp2_with fail
  rw [<- hW1]; clear hW1 hbf; go_ret
  exact ⟨by rw [HT.out]; rfl, HO.out.base⟩
 have h2' : (o == 2) = false := by simpa using h2
 rw [if_neg h2] at HT; by_cases h3 : o = 3
 ·subst h3; rw [if_pos rfl] at HT; obtain ⟨-, -, hm1, hm6, hnm, -⟩ := hcase.resolve_right (fun h => by omega); obtain ⟨hx0, hx1⟩ := hnum rfl; have hx1 : x <= 1000000000000000 := by omega
  have hsl : s.length <= 24 := name_le hnm; obtain ⟨dd, hdd⟩ : ∃ dd, dd = Lib.itoa x := ⟨_, rfl⟩; have hdl : dd.length <= 21 := by rw [hdd]; exact Lib.itoa_length_le x (by omega) (by omega)
  replace hdd := Lib.hid hdd; have h16 : mm = 1 ∨ mm = 2 ∨ mm = 3 ∨ mm = 4 ∨ mm = 5 ∨ mm = 6 := by omega
  clear hcase hnum hnm hm1 hm6 h1 h2 h1' h2'; rcases h16 with rfl | rfl | rfl | rfl | rfl | rfl
  ·go_wp2_with fail
   rw [<- hW1, <- hbf]; clear hW1 hbf; refine wp_region_canA [3, 11] [0, 1, 2, 4, 5, 9, 10, 3, 6, 7, 8, 11, 12, 13] ?_; replace HO := Lib.hid HO.out.drew; obtain ⟨W5, hW5⟩ : ∃ W5, W5 = W1.drew := ⟨_, rfl⟩; rw [<- hW5] at HO ⊢; clear hW5; obtain ⟨hbf, -, cb0, cb1, cb2, cb3, cb4⟩ := bx5 HO.out.blk; iterate 7 (refine cl_doA rfl rfl rfl (fun _ _ => ?_); go_wp2_with fail)
   refine cl_call (i := 3) rfl rfl rfl (fun K hK => ?_); clear cb0 cb1 cb2 cb3 cb4 hbf; go_wp2_with fail
   go_at_call 101
   refine (symbols_c W5).mono ?_; rintro e W6 ⟨rfl, hb⟩; have Hb := Lib.hid hb; replace HO := Lib.hid (HO.out.below hb); clear hb; have hix := idxS1; go_wp2_with fail
   refine And.intro Hb.out ?_; clear Hb; iterate 3 (refine cl_doA rfl rfl rfl (fun _ _ => ?_); go_wp2_with fail)
   refine cl_call (i := 11) rfl rfl rfl (fun K hK => ?_); go_wp2_with fail
   go_at_call 29
   refine (Itoa_c x W6 hx0 hx1 (HSt.out.below (HW.out.trans (HO.out.base.mono HW.out.size)))).mono ?_; rintro e W7 ⟨rfl, hb⟩; have Hb := Lib.hid hb; replace HO := Lib.hid (HO.out.below hb); rw [<- hdd.out]; clear hb hx0 hx1; go_wp2_with fail
   refine And.intro Hb.out ?_; clear Hb; iterate 2 (refine cl_doA rfl rfl rfl (fun _ _ => ?_); go_wp2_with fail)
   refine cl_nil ?_; go_wp2_with fail
   go_ret
   exact ⟨by (show Ending.returned (Value.string (bs s ++ bs [32] ++ bs _ ++ bs [32] ++ bs dd)) = _); rw [bs_append, bs_append, bs_append, bs_append, HT.out, <- hdd.out]; simp [symB], HO.out.base⟩
  ·go_wp2_with fail
   rw [<- hW1, <- hbf]; clear hW1 hbf; refine wp_region_canA [3, 11] [0, 1, 2, 4, 5, 9, 10, 3, 6, 7, 8, 11, 12, 13] ?_; replace HO := Lib.hid HO.out.drew; obtain ⟨W5, hW5⟩ : ∃ W5, W5 = W1.drew := ⟨_, rfl⟩; rw [<- hW5] at HO ⊢; clear hW5; obtain ⟨hbf, -, cb0, cb1, cb2, cb3, cb4⟩ := bx5 HO.out.blk; iterate 7 (refine cl_doA rfl rfl rfl (fun _ _ => ?_); go_wp2_with fail)
   refine cl_call (i := 3) rfl rfl rfl (fun K hK => ?_); clear cb0 cb1 cb2 cb3 cb4 hbf; go_wp2_with fail
   go_at_call 101
   refine (symbols_c W5).mono ?_; rintro e W6 ⟨rfl, hb⟩; have Hb := Lib.hid hb; replace HO := Lib.hid (HO.out.below hb); clear hb; have hix := idxS2; go_wp2_with fail
   refine And.intro Hb.out ?_; clear Hb; iterate 3 (refine cl_doA rfl rfl rfl (fun _ _ => ?_); go_wp2_with fail)
   refine cl_call (i := 11) rfl rfl rfl (fun K hK => ?_); go_wp2_with fail
   go_at_call 29
   refine (Itoa_c x W6 hx0 hx1 (HSt.out.below (HW.out.trans (HO.out.base.mono HW.out.size)))).mono ?_; rintro e W7 ⟨rfl, hb⟩; have Hb := Lib.hid hb; replace HO := Lib.hid (HO.out.below hb); rw [<- hdd.out]; clear hb hx0 hx1; go_wp2_with fail
   refine And.intro Hb.out ?_; clear Hb; iterate 2 (refine cl_doA rfl rfl rfl (fun _ _ => ?_); go_wp2_with fail)
   refine cl_nil ?_; go_wp2_with fail
   go_ret
   exact ⟨by (show Ending.returned (Value.string (bs s ++ bs [32] ++ bs _ ++ bs [32] ++ bs dd)) = _); rw [bs_append, bs_append, bs_append, bs_append, HT.out, <- hdd.out]; simp [symB], HO.out.base⟩
  ·go_wp2_with fail
   rw [<- hW1, <- hbf]; clear hW1 hbf; refine wp_region_canA [3, 11] [0, 1, 2, 4, 5, 9, 10, 3, 6, 7, 8, 11, 12, 13] ?_; replace HO := Lib.hid HO.out.drew; obtain ⟨W5, hW5⟩ : ∃ W5, W5 = W1.drew := ⟨_, rfl⟩; rw [<- hW5] at HO ⊢; clear hW5; obtain ⟨hbf, -, cb0, cb1, cb2, cb3, cb4⟩ := bx5 HO.out.blk; iterate 7 (refine cl_doA rfl rfl rfl (fun _ _ => ?_); go_wp2_with fail)
   refine cl_call (i := 3) rfl rfl rfl (fun K hK => ?_); clear cb0 cb1 cb2 cb3 cb4 hbf; go_wp2_with fail
   go_at_call 101
   refine (symbols_c W5).mono ?_; rintro e W6 ⟨rfl, hb⟩; have Hb := Lib.hid hb; replace HO := Lib.hid (HO.out.below hb); clear hb; have hix := idxS3; go_wp2_with fail
   refine And.intro Hb.out ?_; clear Hb; iterate 3 (refine cl_doA rfl rfl rfl (fun _ _ => ?_); go_wp2_with fail)
   refine cl_call (i := 11) rfl rfl rfl (fun K hK => ?_); go_wp2_with fail
   go_at_call 29
   refine (Itoa_c x W6 hx0 hx1 (HSt.out.below (HW.out.trans (HO.out.base.mono HW.out.size)))).mono ?_; rintro e W7 ⟨rfl, hb⟩; have Hb := Lib.hid hb; replace HO := Lib.hid (HO.out.below hb); rw [<- hdd.out]; clear hb hx0 hx1; go_wp2_with fail
   refine And.intro Hb.out ?_; clear Hb; iterate 2 (refine cl_doA rfl rfl rfl (fun _ _ => ?_); go_wp2_with fail)
   refine cl_nil ?_; go_wp2_with fail
   go_ret
   exact ⟨by (show Ending.returned (Value.string (bs s ++ bs [32] ++ bs _ ++ bs [32] ++ bs dd)) = _); rw [bs_append, bs_append, bs_append, bs_append, HT.out, <- hdd.out]; simp [symB], HO.out.base⟩
  ·go_wp2_with fail
   rw [<- hW1, <- hbf]; clear hW1 hbf; refine wp_region_canA [3, 11] [0, 1, 2, 4, 5, 9, 10, 3, 6, 7, 8, 11, 12, 13] ?_; replace HO := Lib.hid HO.out.drew; obtain ⟨W5, hW5⟩ : ∃ W5, W5 = W1.drew := ⟨_, rfl⟩; rw [<- hW5] at HO ⊢; clear hW5; obtain ⟨hbf, -, cb0, cb1, cb2, cb3, cb4⟩ := bx5 HO.out.blk; iterate 7 (refine cl_doA rfl rfl rfl (fun _ _ => ?_); go_wp2_with fail)
   refine cl_call (i := 3) rfl rfl rfl (fun K hK => ?_); clear cb0 cb1 cb2 cb3 cb4 hbf; go_wp2_with fail
   go_at_call 101
   refine (symbols_c W5).mono ?_; rintro e W6 ⟨rfl, hb⟩; have Hb := Lib.hid hb; replace HO := Lib.hid (HO.out.below hb); clear hb; have hix := idxS4; go_wp2_with fail
   refine And.intro Hb.out ?_; clear Hb; iterate 3 (refine cl_doA rfl rfl rfl (fun _ _ => ?_); go_wp2_with fail)
   refine cl_call (i := 11) rfl rfl rfl (fun K hK => ?_); go_wp2_with fail
   go_at_call 29
   refine (Itoa_c x W6 hx0 hx1 (HSt.out.below (HW.out.trans (HO.out.base.mono HW.out.size)))).mono ?_; rintro e W7 ⟨rfl, hb⟩; have Hb := Lib.hid hb; replace HO := Lib.hid (HO.out.below hb); rw [<- hdd.out]; clear hb hx0 hx1; go_wp2_with fail
   refine And.intro Hb.out ?_; clear Hb; iterate 2 (refine cl_doA rfl rfl rfl (fun _ _ => ?_); go_wp2_with fail)
   refine cl_nil ?_; go_wp2_with fail
   go_ret
   exact ⟨by (show Ending.returned (Value.string (bs s ++ bs [32] ++ bs _ ++ bs [32] ++ bs dd)) = _); rw [bs_append, bs_append, bs_append, bs_append, HT.out, <- hdd.out]; simp [symB], HO.out.base⟩
  ·go_wp2_with fail
   rw [<- hW1, <- hbf]; clear hW1 hbf; refine wp_region_canA [3, 11] [0, 1, 2, 4, 5, 9, 10, 3, 6, 7, 8, 11, 12, 13] ?_; replace HO := Lib.hid HO.out.drew; obtain ⟨W5, hW5⟩ : ∃ W5, W5 = W1.drew := ⟨_, rfl⟩; rw [<- hW5] at HO ⊢; clear hW5; obtain ⟨hbf, -, cb0, cb1, cb2, cb3, cb4⟩ := bx5 HO.out.blk; iterate 7 (refine cl_doA rfl rfl rfl (fun _ _ => ?_); go_wp2_with fail)
   refine cl_call (i := 3) rfl rfl rfl (fun K hK => ?_); clear cb0 cb1 cb2 cb3 cb4 hbf; go_wp2_with fail
   go_at_call 101
   refine (symbols_c W5).mono ?_; rintro e W6 ⟨rfl, hb⟩; have Hb := Lib.hid hb; replace HO := Lib.hid (HO.out.below hb); clear hb; have hix := idxS5; go_wp2_with fail
   refine And.intro Hb.out ?_; clear Hb; iterate 3 (refine cl_doA rfl rfl rfl (fun _ _ => ?_); go_wp2_with fail)
   refine cl_call (i := 11) rfl rfl rfl (fun K hK => ?_); go_wp2_with fail
   go_at_call 29
   refine (Itoa_c x W6 hx0 hx1 (HSt.out.below (HW.out.trans (HO.out.base.mono HW.out.size)))).mono ?_; rintro e W7 ⟨rfl, hb⟩; have Hb := Lib.hid hb; replace HO := Lib.hid (HO.out.below hb); rw [<- hdd.out]; clear hb hx0 hx1; go_wp2_with fail
   refine And.intro Hb.out ?_; clear Hb; iterate 2 (refine cl_doA rfl rfl rfl (fun _ _ => ?_); go_wp2_with fail)
   refine cl_nil ?_; go_wp2_with fail
   go_ret
   exact ⟨by (show Ending.returned (Value.string (bs s ++ bs [32] ++ bs _ ++ bs [32] ++ bs dd)) = _); rw [bs_append, bs_append, bs_append, bs_append, HT.out, <- hdd.out]; simp [symB], HO.out.base⟩
  ·go_wp2_with fail
   rw [<- hW1, <- hbf]; clear hW1 hbf; refine wp_region_canA [3, 11] [0, 1, 2, 4, 5, 9, 10, 3, 6, 7, 8, 11, 12, 13] ?_; replace HO := Lib.hid HO.out.drew; obtain ⟨W5, hW5⟩ : ∃ W5, W5 = W1.drew := ⟨_, rfl⟩; rw [<- hW5] at HO ⊢; clear hW5; obtain ⟨hbf, -, cb0, cb1, cb2, cb3, cb4⟩ := bx5 HO.out.blk; iterate 7 (refine cl_doA rfl rfl rfl (fun _ _ => ?_); go_wp2_with fail)
   refine cl_call (i := 3) rfl rfl rfl (fun K hK => ?_); clear cb0 cb1 cb2 cb3 cb4 hbf; go_wp2_with fail
   go_at_call 101
   refine (symbols_c W5).mono ?_; rintro e W6 ⟨rfl, hb⟩; have Hb := Lib.hid hb; replace HO := Lib.hid (HO.out.below hb); clear hb; have hix := idxS6; go_wp2_with fail
   refine And.intro Hb.out ?_; clear Hb; iterate 3 (refine cl_doA rfl rfl rfl (fun _ _ => ?_); go_wp2_with fail)
   refine cl_call (i := 11) rfl rfl rfl (fun K hK => ?_); go_wp2_with fail
   go_at_call 29
   refine (Itoa_c x W6 hx0 hx1 (HSt.out.below (HW.out.trans (HO.out.base.mono HW.out.size)))).mono ?_; rintro e W7 ⟨rfl, hb⟩; have Hb := Lib.hid hb; replace HO := Lib.hid (HO.out.below hb); rw [<- hdd.out]; clear hb hx0 hx1; go_wp2_with fail
   refine And.intro Hb.out ?_; clear Hb; iterate 2 (refine cl_doA rfl rfl rfl (fun _ _ => ?_); go_wp2_with fail)
   refine cl_nil ?_; go_wp2_with fail
   go_ret
   exact ⟨by (show Ending.returned (Value.string (bs s ++ bs [32] ++ bs _ ++ bs [32] ++ bs dd)) = _); rw [bs_append, bs_append, bs_append, bs_append, HT.out, <- hdd.out]; simp [symB], HO.out.base⟩
 have h3' : (o == 3) = false := by simpa using h3
 rw [if_neg h3] at HT; have hcase2 := (hcase.resolve_left (fun h => h3 h.1)).2; have h456 : (o = 4 /\ N = 1) ∨ ((o = 5 ∨ o = 6) /\ 2 <= N) := by
  rw [HN.out]; rcases hcase2 with h | ⟨h, k, hk⟩ | ⟨h, a, b, r, hk⟩
  ·omega
  ·exact .inl ⟨h, by rw [hk]; rfl⟩
  ·exact .inr ⟨h, by rw [hk]; simp⟩
 have H456 := Lib.hid h456; clear hcase hcase2 hnum h456; go_wp2_with fail
 rw [<- hW1, <- hbf]; clear hW1 hbf; have HR0 : Hid (ORow 9 1 W1 W1 (.slice none 0 0) 0 (tcsF ((textKids Lib.itoa o f.kids).take 0))) := Lib.hid (ORow.nil (Below.refl _ _))
 focus
  obtain ⟨hbf, -, cb0, cb1, cb2, cb3, cb4⟩ := bx5 HO.out.blk; clear cb0 cb1 cb2 cb3; go_wp2_with fail
  clear cb4 hbf
 go_loopg [3, 31] N (fun gk l i wr => ∃ (k : Nat) (v : Value), gk = N - k /\ k <= N /\ i = .int .i64 (k : Int) /\ v = l /\ Hid (ORow 9 1 W1 wr v k (tcsF ((textKids Lib.itoa o f.kids).take k))))
 case atStart => exact ⟨0, _, rfl, Nat.zero_le _, rfl, rfl, HR0⟩
 case round =>
  rename_i J1 K1 hJ1 hK1; clear HR0; obtain ⟨k, v, rfl, hk, rfl, rfl, HR⟩ := hrel; replace HO := Lib.hid (HO.out.below HR.out.below); have HWr := Lib.hid (HW.out.trans (HO.out.base.mono HW.out.size)); by_cases hlt : k < N
  ·obtain ⟨q, hq⟩ : ∃ q, f.kids[k]? = some q := ⟨_, List.getElem?_eq_getElem (by rw [<- HN.out]; exact hlt)⟩; obtain ⟨g, off, kv, rfl, hg, hkv, c0, c1, c2, c3, c4⟩ := HF.out.old HWr.out hq; obtain ⟨y2, m2, rfl⟩ := hkv.form; have HQ := Lib.hid hq; have HKv := Lib.hid hkv; clear hq hkv; obtain ⟨N2, hN2⟩ : ∃ N2, N2 = q.kids.length := ⟨_, rfl⟩; rw [<- hN2] at c4 HKv; clear hN2; have hm := List.mem_of_getElem? HQ.out; obtain ⟨W4, hW4⟩ : ∃ W4, W4 = wr.alloc (fobj q (.slice y2 N2 m2)) := ⟨_, rfl⟩; obtain ⟨bq, hbq⟩ : ∃ bq, bq = wr.heap.size := ⟨_, rfl⟩; have HB4 : Hid (Below wr.heap.size wr W4) := by
    rw [hW4]; exact Lib.hid ((Below.refl _ _).alloc (Nat.le_refl _) _)
   have HQ4 : Hid (W4.heap[bq]? = some (fobj q (.slice y2 N2 m2))) := by
    rw [hW4, hbq]; exact Lib.hid (new_heap _ _ _ rfl)
   go_wp2_with fail
   try rw [<- hW4]
   try rw [<- hbq]
   clear hW4 hbq c0 c1 c2 c3 c4 hg; go_at_call 68
   refine (HK.out q _ W4 hm HKv.out (HWr.out.trans (HB4.out.mono HWr.out.size))).mono ?_; rintro e W5 ⟨rfl, hb⟩; have hB5 := HB4.out.trans (hb.mono HB4.out.size); replace HR := Lib.hid (HR.out.keep hB5); replace HO := Lib.hid (HO.out.below hB5); replace HQ4 : Hid (W5.heap[bq]? = some (fobj q (.slice y2 N2 m2))) := Lib.hid ((hb.block _ (lt_of_block HQ4.out)).trans HQ4.out); have htl := HKL.out q hm; obtain ⟨t, ht⟩ : ∃ t, t = textF Lib.itoa q := ⟨_, rfl⟩; rw [<- ht] at htl ⊢; have HTq := Lib.hid ht; obtain ⟨oq, hoq⟩ : ∃ oq, oq = q.op := ⟨_, rfl⟩; have HOq := Lib.hid hoq; have hbq := lt_of_block HQ4.out; have cq := cell_of_heap HQ4.out (i := 0); simp only [List.getElem?_toArray, List.getElem?_cons_succ, List.getElem?_cons_zero] at cq; rw [<- hoq] at cq; obtain ⟨hbf, -, cb0, cb1, cb2, cb3, cb4⟩ := bx5 HO.out.blk; clear ht hb hB5 hoq HB4 HWr hm cb1 cb2 cb3 cb4; by_cases h6 : oq = 6
   ·subst h6; have HPT : Hid (parT (parB o q.op) (textF Lib.itoa q) = [40] ++ (t ++ [41])) := by
     show _ = _; rw [<- HOq.out, <- HTq.out]; rfl
    go_wp2_with (refine wpList_plain rfl fun K hK => wp_append (.tmp 53) (.tmp 55) 58 (by rfl) 9 _ 1 16 Tryz.underlying58 info_fstr (by rfl) (by omega) _ k _ (by rfl) (HR.out.row.alloc _) W5.heap.size 1 1 [.string (bs ([40] ++ (t ++ [41])))] (by rfl) (by rfl) 9 (by exact new_heap W5 _ _ rfl) (by simp [Value.oneCell']) (by omega) (by omega) ?_; intro v' w2 hrow hgrow hblk; have hp2 := (HR.out.keep ((Below.refl _ W5).alloc (Nat.le_refl _) _)).step hrow hgrow hblk; have Hp := Lib.hid hp2; clear hp2 hrow hgrow hblk)
    go_roundg (N - (k + 1))
    case measure => omega
    case rel =>
     refine ⟨k + 1, _, rfl, by omega, by go_num, rfl, ?_⟩; have h := Hp.out; show Hid (ORow _ _ _ _ _ _ _); rw [textKids_get HQ.out, HPT.out, tcsF, List.map_append]; exact Lib.hid h
   have h6' : (oq == 6) = false := by simpa using h6
   by_cases h5 : oq = 5
   ·subst h5; by_cases ho6 : o = 6
    ·subst ho6; have HPT : Hid (parT (parB 6 q.op) (textF Lib.itoa q) = t) := by
      show _ = _; rw [<- HOq.out, <- HTq.out]; rfl
     go_wp2_with (refine wpList_plain rfl fun K hK => wp_append (.tmp 53) (.tmp 55) 58 (by rfl) 9 _ 1 16 Tryz.underlying58 info_fstr (by rfl) (by omega) _ k _ (by rfl) (HR.out.row.alloc _) W5.heap.size 1 1 [.string (bs t)] (by rfl) (by rfl) 9 (by exact new_heap W5 _ _ rfl) (by simp [Value.oneCell']) (by omega) (by omega) ?_; intro v' w2 hrow hgrow hblk; have hp2 := (HR.out.keep ((Below.refl _ W5).alloc (Nat.le_refl _) _)).step hrow hgrow hblk; have Hp := Lib.hid hp2; clear hp2 hrow hgrow hblk)
     go_roundg (N - (k + 1))
     case measure => omega
     case rel =>
      refine ⟨k + 1, _, rfl, by omega, by go_num, rfl, ?_⟩; have h := Hp.out; show Hid (ORow _ _ _ _ _ _ _); rw [textKids_get HQ.out, HPT.out, tcsF, List.map_append]; exact Lib.hid h
    ·have ho6' : (o != 6) = true := by simpa using ho6
     have HPT : Hid (parT (parB o q.op) (textF Lib.itoa q) = [40] ++ (t ++ [41])) := by
      show _ = _; rw [<- HOq.out, <- HTq.out, parB]; simp [ho6, parT]
     go_wp2_with (refine wpList_plain rfl fun K hK => wp_append (.tmp 53) (.tmp 55) 58 (by rfl) 9 _ 1 16 Tryz.underlying58 info_fstr (by rfl) (by omega) _ k _ (by rfl) (HR.out.row.alloc _) W5.heap.size 1 1 [.string (bs ([40] ++ (t ++ [41])))] (by rfl) (by rfl) 9 (by exact new_heap W5 _ _ rfl) (by simp [Value.oneCell']) (by omega) (by omega) ?_; intro v' w2 hrow hgrow hblk; have hp2 := (HR.out.keep ((Below.refl _ W5).alloc (Nat.le_refl _) _)).step hrow hgrow hblk; have Hp := Lib.hid hp2; clear hp2 hrow hgrow hblk)
     go_roundg (N - (k + 1))
     case measure => omega
     case rel =>
      refine ⟨k + 1, _, rfl, by omega, by go_num, rfl, ?_⟩; have h := Hp.out; show Hid (ORow _ _ _ _ _ _ _); rw [textKids_get HQ.out, HPT.out, tcsF, List.map_append]; exact Lib.hid h
   ·have h5' : (oq == 5) = false := by simpa using h5
    have HPT : Hid (parT (parB o q.op) (textF Lib.itoa q) = t) := by
     show _ = _; rw [<- HOq.out, <- HTq.out, parB]; simp [h5, h6, parT]
    go_wp2_with (refine wpList_plain rfl fun K hK => wp_append (.tmp 53) (.tmp 55) 58 (by rfl) 9 _ 1 16 Tryz.underlying58 info_fstr (by rfl) (by omega) _ k _ (by rfl) (HR.out.row.alloc _) W5.heap.size 1 1 [.string (bs t)] (by rfl) (by rfl) 9 (by exact new_heap W5 _ _ rfl) (by simp [Value.oneCell']) (by omega) (by omega) ?_; intro v' w2 hrow hgrow hblk; have hp2 := (HR.out.keep ((Below.refl _ W5).alloc (Nat.le_refl _) _)).step hrow hgrow hblk; have Hp := Lib.hid hp2; clear hp2 hrow hgrow hblk)
    go_roundg (N - (k + 1))
    case measure => omega
    case rel =>
     refine ⟨k + 1, _, rfl, by omega, by go_num, rfl, ?_⟩; have h := Hp.out; show Hid (ORow _ _ _ _ _ _ _); rw [textKids_get HQ.out, HPT.out, tcsF, List.map_append]; exact Lib.hid h
  ·obtain rfl : k = N := by omega
   have HR2 : Hid (ORow 9 1 W1 wr v k (tcsF (textKids Lib.itoa o f.kids))) := by
    have h := HR.out; rw [List.take_of_length_le (by rw [textKids_length, HN.out]; exact Nat.le_refl _)] at h; exact Lib.hid h
   obtain ⟨L, hL⟩ : ∃ L, L = textKids Lib.itoa o f.kids := ⟨_, rfl⟩; have hLl : L.length = k := by rw [hL, textKids_length, HN.out]
   rw [<- hL] at HR2 HT; have HLl := Lib.hid hLl; clear hL hLl HR hJ1 hK1 hlt; rcases H456.out with ⟨rfl, hN1⟩ | ⟨h56, hN2⟩
   ·obtain ⟨t, rfl⟩ : ∃ t, L = [t] := List.length_eq_one_iff.1 (by rw [HLl.out, hN1]); have htl : t.length <= 60000000 := by
     have h := HFL.out; rw [HT.out] at h; simp [joinB] at h
     omega
    have HT2 : Hid (textF Lib.itoa f = [110, 111, 116, 32] ++ t) := by
     show _ = _; rw [HT.out]; simp [joinB]
    rcases HR2.out.at with ⟨-, h⟩ | ⟨g, c, rfl, hc, -, hg, hcell⟩
    ·omega
    have c0 := hcell 0 (.string (bs t)) rfl; subst hN1; obtain ⟨hbf, -, cb0, cb1, cb2, cb3, cb4⟩ := bx5 HO.out.blk; clear cb1 cb2 cb3 cb4 hcell; go_wp2_with fail
    go_ret
    exact ⟨by rw [HT2.out]; try rfl, HO.out.base⟩
   ·rcases HR2.out.at with ⟨-, h⟩ | ⟨g, c, rfl, hc, -, hg, hcell⟩
    ·omega
    have HJ : Hid (∀ sep : Bytes, (joinB sep L).length <= 60000000 -> Calls Tryz.prog 30 #[.slice (some ⟨g, 0, none⟩) k c, .string (bs sep)] wr fun e w' => e = .returned (.string (bs (joinB sep L))) /\ Below wr.heap.size wr w') := by
     intro sep hsep; have hx : (L.map bs).map (·.data.toList) = L := by rw [List.map_map]; exact List.map_id _
     have h := Tryz.strings_Join g 0 c (L.map bs) (bs sep) wr (fun j x hj => ?_) hg (by rw [List.length_map, HLl.out]; omega) (by rw [List.length_map, HLl.out]; exact hc) (by rw [hx, bs_data, join_eq]; omega)
     ·rw [hx, bs_data, join_eq, List.length_map, HLl.out] at h; exact h
     ·rw [Nat.zero_add]; refine hcell j _ ?_; rw [List.getElem?_map] at hj ⊢; cases hLj : L[j]? with
      | none => rw [hLj] at hj; cases hj
      | some s => rw [hLj] at hj; simp at hj; subst hj; rfl
    clear hcell hg hc; rcases h56 with rfl | rfl
    ·have HT2 : Hid (textF Lib.itoa f = joinB [32, 97, 110, 100, 32] L) := HT.out; obtain ⟨hbf, -, cb0, cb1, cb2, cb3, cb4⟩ := bx5 HO.out.blk; clear cb1 cb2 cb3 cb4; go_wp2_with fail
     go_at_call 30
     refine (HJ.out [32, 97, 110, 100, 32] (by rw [<- HT2.out]; exact HFL.out)).mono ?_; rintro e W6 ⟨rfl, hb⟩; replace HO := Lib.hid (HO.out.below hb); clear hb cb0 hbf; go_wp2_with fail
     go_ret
     exact ⟨by rw [HT2.out]; rfl, HO.out.base⟩
    ·have HT2 : Hid (textF Lib.itoa f = joinB [32, 111, 114, 32] L) := HT.out; obtain ⟨hbf, -, cb0, cb1, cb2, cb3, cb4⟩ := bx5 HO.out.blk; clear cb1 cb2 cb3 cb4; go_wp2_with fail
     go_at_call 30
     refine (HJ.out [32, 111, 114, 32] (by rw [<- HT2.out]; exact HFL.out)).mono ?_; rintro e W6 ⟨rfl, hb⟩; replace HO := Lib.hid (HO.out.below hb); clear hb cb0 hbf; go_wp2_with fail
     go_ret
     exact ⟨by rw [HT2.out]; rfl, HO.out.base⟩
theorem wr_large {f : Fm} (h : textE f = 0) : largeB f = false /\ Wr f := by
 unfold textE at h
 split at h
 ·cases h
 ·rename_i h1; exact ⟨by simpa using fun h => h1 (.inl h), Decidable.byContradiction fun h => h1 (.inr h)⟩
set_option maxHeartbeats 2000000 in
theorem Text_c (f : Fm) (w : World) (kv : Value) (hst : Std w) (hf : IsFm p w f kv) {lim : Nat} (hlim : lim <= 140737488355328) (hs : short lim f = true) (hz : size f <= 900000) :
  Calls Tryz.prog 25 #[fval f kv] w (fun e w' => e = .returned (.tuple #[.string (bs (if textE f = 0 then textF Lib.itoa f else [])), .int .i64 (textE f : Nat)]) /\ Below w.heap.size w w') := by
 have HS := Lib.hid hs; have HLim := Lib.hid hlim; have HZ := Lib.hid hz; have HSt := Lib.hid hst; clear hs hlim hz hst; obtain ⟨y, m, rfl⟩ := hf.form; obtain ⟨N, hN⟩ : ∃ N, N = f.kids.length := ⟨_, rfl⟩; have HN := Lib.hid hN; rw [<- hN] at hf ⊢; have HF := Lib.hid hf; clear hN hf; obtain ⟨W1, hW1⟩ : ∃ W1, W1 = w.alloc (fobj f (.slice y N m)) := ⟨_, rfl⟩; obtain ⟨bf, hbf⟩ : ∃ bf, bf = w.heap.size := ⟨_, rfl⟩; have HO : Hid (Owns w W1 [blk bf (fobj f (.slice y N m))]) := by
  rw [hW1, hbf]; exact Lib.hid ((Owns.start w).box _)
 have HE : Hid (textE f = if largeB f = true ∨ firstF badE f ≠ 0 then 1 else 0) := rfl; obtain ⟨R, hR⟩ : ∃ R, R = if textE f = 0 then textF Lib.itoa f else [] := ⟨_, rfl⟩
 obtain ⟨Z, hZ⟩ : ∃ Z, Z = textE f := ⟨_, rfl⟩; rw [<- hR, <- hZ]; rw [<- hZ] at HE hR; replace hR := Lib.hid hR; clear hZ; go_enter Tryz.func25, Tryz.ntmps25
 go_wp2_with fail
 rw [<- hW1, <- hbf]; clear hW1 hbf; go_at_call 47
 refine (large_c f W1 _ (HF.out.later HO.out.base) HZ.out).mono ?_; rintro e W2 ⟨rfl, hb⟩; replace HO := Lib.hid (HO.out.below hb); clear hb; obtain ⟨L, hL⟩ : ∃ L, L = largeB f := ⟨_, rfl⟩; rw [<- hL] at HE ⊢; clear hL; cases L
 case true =>
  rw [if_pos (.inl rfl)] at HE; go_wp2_with fail
  go_ret2
  exact ⟨by rw [hR.out, HE.out]; rfl, HO.out.base⟩
 focus
  obtain ⟨hbf, -, cb0, cb1, cb2, cb3, cb4⟩ := bx5 HO.out.blk; go_wp2_with fail
  clear cb0 cb1 cb2 cb3 cb4 hbf
 go_at_call 48
 refine (firstT_c (p := p) w badE lim (fun q qv W hq hs hW => Text1_c q qv W (hq.later hW) (Nat.le_trans (short_name hs) HLim.out)) f W2 _ HO.out.base HF.out HS.out HZ.out).mono ?_; rintro e W3 ⟨rfl, hb⟩; replace HO := Lib.hid (HO.out.below hb); clear hb; obtain ⟨E, hE⟩ : ∃ E, E = firstF badE f := ⟨_, rfl⟩; have HEE := Lib.hid hE; rw [<- hE] at HE ⊢; clear hE; by_cases hE : E = 0
 ·subst hE; rw [if_neg (by simp)] at HE; obtain ⟨hbf, -, cb0, cb1, cb2, cb3, cb4⟩ := bx5 HO.out.blk; go_wp2_with fail
  clear cb0 cb1 cb2 cb3 cb4 hbf; go_at_call 68
  refine (text_c (p := p) w HSt.out f W3 _ HO.out.base HF.out HZ.out HEE.out.symm).mono ?_; rintro e W4 ⟨rfl, hb⟩; replace HO := Lib.hid (HO.out.below hb); clear hb; go_wp2_with fail
  go_ret2
  exact ⟨by rw [hR.out, HE.out]; rfl, HO.out.base⟩
 ·have hE' : ((E : Int) != 0) = true := by simpa using hE
  rw [if_pos (.inr hE)] at HE; clear hE; go_wp2_with fail
  go_ret2
  exact ⟨by rw [hR.out, HE.out]; rfl, HO.out.base⟩
end
end Go.Proofs.YtoeknmkephnekaaGreatDoor
namespace Go.Proofs.YtoeknmkephnekaaGreatDoor
open Go.RowKit Go.Cz Go.Cz.Lx Go.Cz.Fo
attribute [local go_sem] bs_size bs_extract bs_append bs_toList
attribute [local irreducible] cList cPlan
theorem sameF_eq : ∀ f g : Fm, sameF f g = (decide (f.op = g.op) && (decide (f.name = g.name) && (decide (f.cmp = g.cmp) && (decide (f.num = g.num) && sames f.kids g.kids)))) | .mk _ _ _ _ _, .mk _ _ _ _ _ => by rw [sameF]; rfl
theorem sames_len : ∀ {l m : List Fm}, l.length ≠ m.length -> sames l m = false
 | [], [], h => by simp at h
 | [], _ :: _, _ => by simp [sames]
 | _ :: _, [], _ => by simp [sames]
 | k :: r, k' :: r', h => by rw [sames, sames_len (by simpa using h), Bool.and_false]
theorem sames_take {k : Nat} {q q' : Fm} : ∀ {l m : List Fm}, l[k]? = some q -> m[k]? = some q' -> sames (l.take k) (m.take k) = true -> (sameF q q' = true -> sames (l.take (k + 1)) (m.take (k + 1)) = true) /\ (sameF q q' = false -> sames l m = false)
 | [], _, h, _, _ => by simp at h
 | _ :: _, [], _, h, _ => by simp at h
 | a :: l, b :: m, h, h', hs => by
  cases k with
  | zero =>
   simp at h h'; subst h; subst h'
   exact ⟨fun e => by simp [sames, e], fun e => by rw [sames, e]; rfl⟩
  | succ k =>
   rw [List.take_succ_cons, List.take_succ_cons, sames, Bool.and_eq_true] at hs; have ih := sames_take (k := k) (l := l) (m := m) (by simpa using h) (by simpa using h') hs.2; refine ⟨fun e => ?_, fun e => ?_⟩
   ·rw [List.take_succ_cons, List.take_succ_cons, sames, hs.1, ih.1 e]; rfl
   ·rw [sames, ih.2 e, Bool.and_false]
section
variable {p : Nat -> Prop}
set_option maxHeartbeats 2000000 in
theorem EqualF_c (w0 : World) (f g : Fm) (y y' : Option Addr) (N m N' m' : Nat) (hN : N = f.kids.length) (hN' : N' = g.kids.length) (hN9 : N <= 900000) (hN9' : N' <= 900000) (hf : IsFm p w0 f (.slice y N m)) (hg : IsFm p w0 g (.slice y' N' m'))
  (HL : ∀ (q r : Fm) (qv rv : Value) (W : World), q ∈ f.kids -> r ∈ g.kids -> IsFm p w0 q qv -> IsFm p w0 r rv -> Below w0.heap.size w0 W -> Calls Tryz.prog 15 #[fval q qv, fval r rv] W fun e w' => e = .returned (.bool (sameF q r)) /\ Below W.heap.size W w')
  (w : World) (hw : Below w0.heap.size w0 w) :
  Calls Tryz.prog 45 #[.slice y N m, .slice y' N' m', .func (.func 15) #[] #[]] w (fun e w' => e = .returned (.bool (sames f.kids g.kids)) /\ Below w.heap.size w w') := by
 have HLH := Lib.hid HL; have HN := Lib.hid hN; have HN' := Lib.hid hN'; have HF := Lib.hid hf; have HG := Lib.hid hg; have HW := Lib.hid hw; clear HL hN hN' hf hg hw; go_enter Tryz.func45, Tryz.ntmps45
 by_cases hNN : N = N'
 ·subst hNN; go_wp2_with fail
  have H0 : Hid (sames (f.kids.take 0) (g.kids.take 0) = true) := by show _ = _; simp [sames]
  have HB : Hid (Below w.heap.size w w) := Lib.hid (Below.refl _ _); go_loopg [17] N (fun gk i wr => ∃ k : Nat, gk = N - k /\ k <= N /\ i = .int .i64 (k : Int) /\ Hid (sames (f.kids.take k) (g.kids.take k) = true) /\ Hid (Below w.heap.size w wr))
  case atStart => exact ⟨0, rfl, Nat.zero_le _, rfl, H0, HB⟩
  case round =>
   rename_i J1 K1 hJ1 hK1; clear H0 HB; obtain ⟨k, rfl, hk, rfl, HC, HB⟩ := hrel; have HWr := Lib.hid (HW.out.trans (HB.out.mono HW.out.size)); by_cases hlt : k < N
   ·obtain ⟨q, hq⟩ : ∃ q, f.kids[k]? = some q := ⟨_, List.getElem?_eq_getElem (by rw [<- HN.out]; exact hlt)⟩; obtain ⟨r, hr⟩ : ∃ r, g.kids[k]? = some r := ⟨_, List.getElem?_eq_getElem (by rw [<- HN'.out]; exact hlt)⟩; obtain ⟨gg, off, kv, rfl, hgg, hkv, c0, c1, c2, c3, c4⟩ := HF.out.old HWr.out hq; obtain ⟨y2, m2, rfl⟩ := hkv.form; have HQ := Lib.hid hq; have HK := Lib.hid hkv; clear hq hkv; obtain ⟨N2, hN2⟩ : ∃ N2, N2 = q.kids.length := ⟨_, rfl⟩; rw [<- hN2] at c4 HK; clear hN2; obtain ⟨gg', off', kv', rfl, hgg', hkv', d0, d1, d2, d3, d4⟩ := HG.out.old HWr.out hr; obtain ⟨y3, m3, rfl⟩ := hkv'.form; have HR := Lib.hid hr; have HK' := Lib.hid hkv'; clear hr hkv'; obtain ⟨N3, hN3⟩ : ∃ N3, N3 = r.kids.length := ⟨_, rfl⟩; rw [<- hN3] at d4 HK'; clear hN3; obtain ⟨W4, hW4⟩ : ∃ W4, W4 = (wr.alloc (fobj q (.slice y2 N2 m2))).alloc (fobj r (.slice y3 N3 m3)) := ⟨_, rfl⟩; have HB4 : Hid (Below wr.heap.size wr W4) := by
     rw [hW4]; exact Lib.hid (((Below.refl _ _).alloc (Nat.le_refl _) _).alloc (by simp) _)
    go_wp2_with fail
    try rw [<- hW4]
    clear hW4 c0 c1 c2 c3 c4 d0 d1 d2 d3 d4 hgg hgg'; refine (HLH.out q r _ _ W4 (List.mem_of_getElem? HQ.out) (List.mem_of_getElem? HR.out) HK.out HK'.out (HWr.out.trans (HB4.out.mono HWr.out.size))).mono ?_; rintro e W2 ⟨rfl, hb⟩; have HB2 := Lib.hid (HB.out.trans ((HB4.out.trans (hb.mono HB4.out.size)).mono HB.out.size)); obtain ⟨x, hx⟩ : ∃ x, x = sameF q r := ⟨_, rfl⟩; rw [<- hx]; have HS := sames_take HQ.out HR.out HC.out; rw [<- hx] at HS; replace HS := Lib.hid HS; clear hx hb HB HC HB4 HWr; cases x
    ·have HE := Lib.hid (HS.out.2 rfl); clear hJ1 hK1; go_wp2_with fail
     go_ret
     exact ⟨by rw [HE.out]; rfl, HB2.out⟩
    ·have HC2 := Lib.hid (HS.out.1 rfl); go_wp2_with fail
     go_roundg (N - (k + 1))
     case measure => omega
     case rel => exact ⟨k + 1, rfl, by omega, by go_num, HC2, HB2⟩
   ·obtain rfl : k = N := by omega
    have HE : Hid (sames f.kids g.kids = true) := by
     have := HC.out; rw [HN.out, List.take_length, <- HN.out, HN'.out, List.take_length] at this; exact this
    clear hJ1 hK1 hlt; go_wp2_with fail
    go_ret
    exact ⟨by rw [HE.out]; rfl, HB.out⟩
 ·have HE : Hid (sames f.kids g.kids = false) := Lib.hid (sames_len (by rw [<- HN.out, <- HN'.out]; exact hNN)); have h2 : ((N : Int) != (N' : Int)) = true := by simp; omega
  clear hNN; go_wp2_with fail
  go_ret
  exact ⟨by rw [HE.out]; rfl, Below.refl _ _⟩
set_option maxRecDepth 100000 in
set_option maxHeartbeats 8000000 in
theorem Same_c (w0 : World) (f : Fm) : ∀ (g : Fm) (w : World) (kv gv : Value), Below w0.heap.size w0 w -> IsFm p w0 f kv -> IsFm p w0 g gv -> size f <= 900000 -> size g <= 900000 ->
  Calls Tryz.prog 15 #[fval f kv, fval g gv] w (fun e w' => e = .returned (.bool (sameF f g)) /\ Below w.heap.size w w') := by
 refine Fm.induct (P := fun f => ∀ (g : Fm) (w : World) (kv gv : Value), Below w0.heap.size w0 w -> IsFm p w0 f kv -> IsFm p w0 g gv -> size f <= 900000 -> size g <= 900000 ->
  Calls Tryz.prog 15 #[fval f kv, fval g gv] w (fun e w' => e = .returned (.bool (sameF f g)) /\ Below w.heap.size w w')) ?_ f
 clear f; intro f ih g w kv gv hw hf hg hz hz'; obtain ⟨y, m, rfl⟩ := hf.form; obtain ⟨y', m', rfl⟩ := hg.form; have hk9 := length_sizes f.kids; have hk9' := length_sizes g.kids; have HI := Lib.hid ih; have HZ := Lib.hid hz; have HZ' := Lib.hid hz'; have HW := Lib.hid hw; rw [size_kids] at hz hz'; obtain ⟨N, hN⟩ : ∃ N, N = f.kids.length := ⟨_, rfl⟩; obtain ⟨N', hN'⟩ : ∃ N', N' = g.kids.length := ⟨_, rfl⟩; have hN9 : N <= 900000 := by omega
 have hN9' : N' <= 900000 := by omega
 have HN := Lib.hid hN; have HN' := Lib.hid hN'; rw [<- hN] at hf ⊢; rw [<- hN'] at hg ⊢; have HF := Lib.hid hf; have HG := Lib.hid hg; clear hN hN' hf hg hz hz' hw ih hk9 hk9'; have HK : Hid (∀ (q r : Fm) (qv rv : Value) (W : World), q ∈ f.kids -> r ∈ g.kids -> IsFm p w0 q qv -> IsFm p w0 r rv -> Below w0.heap.size w0 W -> Calls Tryz.prog 15 #[fval q qv, fval r rv] W fun e w' => e = .returned (.bool (sameF q r)) /\ Below W.heap.size W w') := by
  intro q r qv rv W hm hm' hq hr hW; exact HI.out q hm r W qv rv hW hq hr (by have := HZ.out; rw [size_kids] at this; have := size_mem hm; omega) (by have := HZ'.out; rw [size_kids] at this; have := size_mem hm'; omega)
 clear HI HZ HZ'; obtain ⟨W1, hW1⟩ : ∃ W1, W1 = (w.alloc (fobj f (.slice y N m))).alloc (fobj g (.slice y' N' m')) := ⟨_, rfl⟩; obtain ⟨bf, hbf⟩ : ∃ bf, bf = w.heap.size := ⟨_, rfl⟩; obtain ⟨bg, hbg⟩ : ∃ bg, bg = w.heap.size + 1 := ⟨_, rfl⟩; have HO : Hid (Owns w W1 [blk bf (fobj f (.slice y N m)), blk bg (fobj g (.slice y' N' m'))]) := by
  rw [hW1, hbf, hbg]; have := ((Owns.start w).box (fobj f (.slice y N m))).box (fobj g (.slice y' N' m')); rw [World.size_alloc] at this; exact Lib.hid this.swap
 go_enter Tryz.func15, Tryz.ntmps15
 by_cases h1 : f.op = g.op
 case neg =>
  have h1' : (f.op == g.op) = false := by simpa using h1
  have HE : Hid (sameF f g = false) := by show _ = _; rw [sameF_eq]; simp [h1]
  clear h1; go_wp2_with fail
  rw [<- hW1]; clear hW1; go_ret
  exact ⟨by rw [HE.out]; rfl, HO.out.base⟩
 have h1' : (f.op == g.op) = true := by simpa using h1
 replace h1 := Lib.hid h1; by_cases h2 : f.name = g.name
 case neg =>
  have h2' : (f.name == g.name) = false := by simpa using h2
  have HE : Hid (sameF f g = false) := by show _ = _; rw [sameF_eq]; simp [h2]
  clear h2; go_wp2_with fail
  rw [<- hW1]; clear hW1; go_ret
  exact ⟨by rw [HE.out]; rfl, HO.out.base⟩
 have h2' : (f.name == g.name) = true := by simpa using h2
 replace h2 := Lib.hid h2; by_cases h3 : f.cmp = g.cmp
 case neg =>
  have h3' : (f.cmp == g.cmp) = false := by simpa using h3
  have HE : Hid (sameF f g = false) := by show _ = _; rw [sameF_eq]; simp [h3]
  clear h3; go_wp2_with fail
  rw [<- hW1]; clear hW1; go_ret
  exact ⟨by rw [HE.out]; rfl, HO.out.base⟩
 have h3' : (f.cmp == g.cmp) = true := by simpa using h3
 replace h3 := Lib.hid h3; by_cases h4 : f.num = g.num
 case neg =>
  have h4' : (f.num == g.num) = false := by simpa using h4
  have HE : Hid (sameF f g = false) := by show _ = _; rw [sameF_eq]; simp [h4]
  clear h4; go_wp2_with fail
  rw [<- hW1]; clear hW1; go_ret
  exact ⟨by rw [HE.out]; rfl, HO.out.base⟩
 have h4' : (f.num == g.num) = true := by simpa using h4
 replace h4 := Lib.hid h4; have HE : Hid (sameF f g = sames f.kids g.kids) := by show _ = _; rw [sameF_eq]; simp [h1.out, h2.out, h3.out, h4.out]
 clear h1 h2 h3 h4; go_wp2_with fail
 rw [<- hW1]; clear hW1; go_at_call 45
 refine (EqualF_c w0 f g y y' N m N' m' HN.out HN'.out hN9 hN9' HF.out HG.out HK.out W1 (HW.out.trans (HO.out.base.mono HW.out.size))).mono ?_; rintro e W2 ⟨rfl, hb⟩; replace HO := Lib.hid (HO.out.below hb); obtain ⟨x, hx⟩ : ∃ x, x = sames f.kids g.kids := ⟨_, rfl⟩; rw [<- hx] at HE ⊢; clear hx hb; go_wp2_with fail
 go_ret
 exact ⟨by rw [HE.out]; rfl, HO.out.base⟩
set_option maxRecDepth 100000 in
set_option maxHeartbeats 8000000 in
theorem rSame_c (w0 : World) (f : Fm) : ∀ (g : Fm) (w : World) (kv gv : Value), Below w0.heap.size w0 w -> IsFm p w0 f kv -> IsFm p w0 g gv -> size f <= 900000 -> size g <= 900000 ->
  Calls Tryz.prog 64 #[fval f kv, fval g gv] w (fun e w' => e = .returned (.bool (sameF f g)) /\ Below w.heap.size w w') := by
 refine Fm.induct (P := fun f => ∀ (g : Fm) (w : World) (kv gv : Value), Below w0.heap.size w0 w -> IsFm p w0 f kv -> IsFm p w0 g gv -> size f <= 900000 -> size g <= 900000 ->
  Calls Tryz.prog 64 #[fval f kv, fval g gv] w (fun e w' => e = .returned (.bool (sameF f g)) /\ Below w.heap.size w w')) ?_ f
 clear f; intro f ih g w kv gv hw hf hg hz hz'; obtain ⟨y, m, rfl⟩ := hf.form; obtain ⟨y', m', rfl⟩ := hg.form; have hk9 := length_sizes f.kids; have hk9' := length_sizes g.kids; have HI := Lib.hid ih; have HZ := Lib.hid hz; have HZ' := Lib.hid hz'; have HW := Lib.hid hw; rw [size_kids] at hz hz'; obtain ⟨N, hN⟩ : ∃ N, N = f.kids.length := ⟨_, rfl⟩; obtain ⟨N', hN'⟩ : ∃ N', N' = g.kids.length := ⟨_, rfl⟩; have hN9 : N <= 900000 := by omega
 have hN9' : N' <= 900000 := by omega
 have HN := Lib.hid hN; have HN' := Lib.hid hN'; rw [<- hN] at hf ⊢; rw [<- hN'] at hg ⊢; have HF := Lib.hid hf; have HG := Lib.hid hg; clear hN hN' hf hg hz hz' hw ih hk9 hk9'; have HK : Hid (∀ (q r : Fm) (qv rv : Value) (W : World), q ∈ f.kids -> r ∈ g.kids -> IsFm p w0 q qv -> IsFm p w0 r rv -> Below w0.heap.size w0 W -> Calls Tryz.prog 64 #[fval q qv, fval r rv] W fun e w' => e = .returned (.bool (sameF q r)) /\ Below W.heap.size W w') := by
  intro q r qv rv W hm hm' hq hr hW; exact HI.out q hm r W qv rv hW hq hr (by have := HZ.out; rw [size_kids] at this; have := size_mem hm; omega) (by have := HZ'.out; rw [size_kids] at this; have := size_mem hm'; omega)
 clear HI HZ HZ'; obtain ⟨W1, hW1⟩ : ∃ W1, W1 = (w.alloc (fobj f (.slice y N m))).alloc (fobj g (.slice y' N' m')) := ⟨_, rfl⟩; obtain ⟨bf, hbf⟩ : ∃ bf, bf = w.heap.size := ⟨_, rfl⟩; obtain ⟨bg, hbg⟩ : ∃ bg, bg = w.heap.size + 1 := ⟨_, rfl⟩; have HO : Hid (Owns w W1 [blk bf (fobj f (.slice y N m)), blk bg (fobj g (.slice y' N' m'))]) := by
  rw [hW1, hbf, hbg]; have := ((Owns.start w).box (fobj f (.slice y N m))).box (fobj g (.slice y' N' m')); rw [World.size_alloc] at this; exact Lib.hid this.swap
 go_enter Tryz.func64, Tryz.ntmps64
 by_cases h1 : f.op = g.op
 case neg =>
  have h1' : (f.op != g.op) = true := by simpa using h1
  have HE : Hid (sameF f g = false) := by show _ = _; rw [sameF_eq]; simp [h1]
  clear h1; go_wp2_with fail
  rw [<- hW1]; clear hW1; go_ret
  exact ⟨by rw [HE.out]; rfl, HO.out.base⟩
 have h1' : (f.op != g.op) = false := by simpa using h1
 replace h1 := Lib.hid h1; by_cases h2 : f.name = g.name
 case neg =>
  have h2' : (f.name == g.name) = false := by simpa using h2
  have HE : Hid (sameF f g = false) := by show _ = _; rw [sameF_eq]; simp [h2]
  clear h2; go_wp2_with fail
  rw [<- hW1]; clear hW1; go_ret
  exact ⟨by rw [HE.out]; rfl, HO.out.base⟩
 have h2' : (f.name == g.name) = true := by simpa using h2
 replace h2 := Lib.hid h2; by_cases h3 : f.cmp = g.cmp
 case neg =>
  have h3' : (f.cmp != g.cmp) = true := by simpa using h3
  have HE : Hid (sameF f g = false) := by show _ = _; rw [sameF_eq]; simp [h3]
  clear h3; go_wp2_with fail
  rw [<- hW1]; clear hW1; go_ret
  exact ⟨by rw [HE.out]; rfl, HO.out.base⟩
 have h3' : (f.cmp != g.cmp) = false := by simpa using h3
 replace h3 := Lib.hid h3; by_cases h4 : f.num = g.num
 case neg =>
  have h4' : (f.num != g.num) = true := by simpa using h4
  have HE : Hid (sameF f g = false) := by show _ = _; rw [sameF_eq]; simp [h4]
  clear h4; go_wp2_with fail
  rw [<- hW1]; clear hW1; go_ret
  exact ⟨by rw [HE.out]; rfl, HO.out.base⟩
 have h4' : (f.num != g.num) = false := by simpa using h4
 replace h4 := Lib.hid h4; by_cases hNN : N = N'
 case neg =>
  have h5' : ((N : Int) != (N' : Int)) = true := by simp; omega
  have HE : Hid (sameF f g = false) := by show _ = _; rw [sameF_eq, sames_len (by rw [<- HN.out, <- HN'.out]; exact hNN)]; simp
  clear hNN; go_wp2_with fail
  rw [<- hW1]; clear hW1; go_ret
  exact ⟨by rw [HE.out]; rfl, HO.out.base⟩
 subst hNN; have HE : Hid (sameF f g = sames f.kids g.kids) := by show _ = _; rw [sameF_eq]; simp [h1.out, h2.out, h3.out, h4.out]
 clear h1 h2 h3 h4; go_wp2_with fail
 rw [<- hW1, <- hbg, <- hbf]; clear hW1 hbg hbf; have H0 : Hid (sames (f.kids.take 0) (g.kids.take 0) = true) := by show _ = _; simp [sames]
 go_loopg [5] N (fun gk i wr => ∃ k : Nat, gk = N - k /\ k <= N /\ i = .int .i64 (k : Int) /\ Hid (sames (f.kids.take k) (g.kids.take k) = true) /\ Hid (Owns w wr [blk bf (fobj f (.slice y N m)), blk bg (fobj g (.slice y' N m'))]))
 case atStart => exact ⟨0, rfl, Nat.zero_le _, rfl, H0, HO⟩
 case round =>
  rename_i J1 K1 hJ1 hK1; clear H0 HO; obtain ⟨k, rfl, hk, rfl, HC, HO⟩ := hrel; by_cases hlt : k < N
  ·obtain ⟨q, hq⟩ : ∃ q, f.kids[k]? = some q := ⟨_, List.getElem?_eq_getElem (by rw [<- HN.out]; exact hlt)⟩; obtain ⟨r, hr⟩ : ∃ r, g.kids[k]? = some r := ⟨_, List.getElem?_eq_getElem (by rw [<- HN'.out]; exact hlt)⟩
   focus
    obtain ⟨hbf, -, cb0, cb1, cb2, cb3, cb4⟩ := bx5 HO.out.blk; clear cb0 cb1 cb2 cb3; go_wp2_with fail
    clear cb4 hbf
   refine wp_region_canA [10] (List.range 12) ?_; replace HO := Lib.hid HO.out.drew; obtain ⟨W5, hW5⟩ : ∃ W5, W5 = wr.drew := ⟨_, rfl⟩; rw [<- hW5] at HO ⊢; clear hW5; have HWr := Lib.hid (HW.out.trans (HO.out.base.mono HW.out.size)); obtain ⟨gg, off, kv, rfl, hgg, hkv, c0, c1, c2, c3, c4⟩ := HF.out.old HWr.out hq; obtain ⟨y2, m2, rfl⟩ := hkv.form; have HQ := Lib.hid hq; have HK1 := Lib.hid hkv; clear hq hkv; obtain ⟨N2, hN2⟩ : ∃ N2, N2 = q.kids.length := ⟨_, rfl⟩; rw [<- hN2] at c4 HK1; clear hN2; obtain ⟨gg', off', kv', rfl, hgg', hkv', d0, d1, d2, d3, d4⟩ := HG.out.old HWr.out hr; obtain ⟨y3, m3, rfl⟩ := hkv'.form; have HR := Lib.hid hr; have HK2 := Lib.hid hkv'; clear hr hkv'; obtain ⟨N3, hN3⟩ : ∃ N3, N3 = r.kids.length := ⟨_, rfl⟩; rw [<- hN3] at d4 HK2; clear hN3; obtain ⟨hbf, -, cb0, cb1, cb2, cb3, cb4⟩ := bx5 HO.out.blk; obtain ⟨hbg, -, cg0, cg1, cg2, cg3, cg4⟩ := bx5 HO.out.swap.blk; clear cb0 cb1 cb2 cb3 cg0 cg1 cg2 cg3; iterate 10 (refine cl_doA rfl rfl rfl (fun _ _ => ?_); go_wp2_with fail)
   refine cl_call (i := 10) rfl rfl rfl (fun K hK => ?_); clear cb4 cg4 hbf hbg c0 c1 c2 c3 c4 d0 d1 d2 d3 d4 hgg hgg'; go_wp2_with fail
   go_at_call 64
   refine (HK.out q r _ _ W5 (List.mem_of_getElem? HQ.out) (List.mem_of_getElem? HR.out) HK1.out HK2.out HWr.out).mono ?_; rintro e W6 ⟨rfl, hb⟩; have Hb := Lib.hid hb; replace HO := Lib.hid (HO.out.below hb); obtain ⟨x, hx⟩ : ∃ x, x = sameF q r := ⟨_, rfl⟩; rw [<- hx]; have HS := sames_take HQ.out HR.out HC.out; rw [<- hx] at HS; replace HS := Lib.hid HS; clear hx hb HC HWr; go_wp2_with fail
   refine And.intro Hb.out ?_; clear Hb; refine cl_do rfl rfl rfl rfl (fun _ _ => ?_); go_wp2_with fail
   refine cl_nil ?_; cases x
   ·have HE2 := Lib.hid (HS.out.2 rfl); clear hJ1 hK1; go_wp2_with fail
    go_ret
    exact ⟨by rw [HE.out, HE2.out]; rfl, HO.out.base⟩
   ·have HC2 := Lib.hid (HS.out.1 rfl); go_wp2_with fail
    go_roundg (N - (k + 1))
    case measure => omega
    case rel => exact ⟨k + 1, rfl, by omega, by go_num, HC2, HO⟩
  ·obtain rfl : k = N := by omega
   have HE2 : Hid (sames f.kids g.kids = true) := by
    have := HC.out; rw [HN.out, List.take_length, <- HN.out, HN'.out, List.take_length] at this; exact this
   obtain ⟨hbf, -, cb0, cb1, cb2, cb3, cb4⟩ := bx5 HO.out.blk; clear hJ1 hK1 hlt cb0 cb1 cb2 cb3; go_wp2_with fail
   go_ret
   exact ⟨by rw [HE.out, HE2.out]; rfl, HO.out.base⟩
end
end Go.Proofs.YtoeknmkephnekaaGreatDoor
namespace Go.Cz
open Go.RowKit
section
variable {P : Program} {Q : Exit -> Act -> World -> Prop} {f : Nat} {listed : Array Bool} {a : Act} {w : World}
def pAny (P : Program) (l : Array Oper) (Q : Exit -> Act -> World -> Prop) (f : Nat) (listed : Array Bool) (a : Act) (w : World) : Prop := wpAny P .any l Q f listed a w
def pOp (P : Program) (l : Array Oper) (Q : Exit -> Act -> World -> Prop) (i : Nat) (f : Nat) (listed : Array Bool) (a : Act) (w : World) : Prop := wpOp P l Q i (wpAny P .any l Q f listed) a w
theorem wp_region_pan {l : Array Oper} {id : Nat} (n : Nat) (hn : l.size = n) (hm : P.follows .mixedOrders = true)
  (h : pAny P l Q n (Array.replicate n false) a w.drew) : (Code.region id l true).wp P Q a w := by
 subst hn; exact wp_region_any hm h
theorem pw_one {l : Array Oper} (i : Nat) (hr : Region.ready .any l listed = [i]) (h : pOp P l Q i f (listed.setIfInBounds i true) a w) : pAny P l Q (f + 1) listed a w :=
 wpAny_all hr (by simp) fun k hk => by
  simp only [List.mem_cons, List.not_mem_nil, or_false] at hk; subst hk; exact h
theorem pw_two {l : Array Oper} (i j : Nat) (hr : Region.ready .any l listed = [i, j]) (h1 : pOp P l Q i f (listed.setIfInBounds i true) a w) (h2 : pOp P l Q j f (listed.setIfInBounds j true) a w) : pAny P l Q (f + 1) listed a w :=
 wpAny_all hr (by simp) fun k hk => by
  simp only [List.mem_cons, List.not_mem_nil, or_false] at hk; rcases hk with rfl | rfl
  ·exact h1
  ·exact h2
theorem pw_nil {l : Array Oper} (hr : Region.ready .any l listed = []) (h : Q .normal a w) : pAny P l Q f listed a w := wpAny_done hr h f
theorem pw_at {l : Array Oper} (listed' : Array Bool) (hl : listed = listed') (h : pAny P l Q f listed' a w) : pAny P l Q f listed a w := hl ▸ h
theorem pw_do {ls : List Oper} {i : Nat} {o : Oper} (ho : nth ls i = some o) (hg : o.guard = none)
  (h : ∀ K : Act -> World -> Prop, (∀ a w, pAny P ls.toArray Q f listed a w -> K a w) -> o.wp P a w K Q) : pOp P ls.toArray Q i f listed a w := by
 unfold pOp wpOp; simp only [nth_eq, ho, Region.wanted, hg, if_true]; exact .inl (h _ fun a' w' hh => hh)
theorem pw_yes {ls : List Oper} {i j : Nat} {b : Bool} {o : Oper} (ho : nth ls i = some o) (hg : o.guard = some (j, b)) (hy : yielded ls.toArray a.tmps j = some b)
  (h : ∀ K : Act -> World -> Prop, (∀ a w, pAny P ls.toArray Q f listed a w -> K a w) -> o.wp P a w K Q) : pOp P ls.toArray Q i f listed a w := by
 unfold pOp wpOp; simp only [nth_eq, ho, Region.wanted, hg, hy, beq_self_eq_true, if_true]; exact .inl (h _ fun a' w' hh => hh)
theorem pw_take {ls : List Oper} {o : Oper} {v : Value} (i : Nat) (ho : nth ls i = some o) (hs : Region.noSelect ls.toArray = true) (hf : Region.free .any ls.toArray listed i = true) (hr : (Region.ready .any ls.toArray listed).contains i = true)
  (hQ : ∀ c a w, Q (.panic c) (a.put o.dst v) w -> Q (.panic c) a w) (hg : o.guard = none) (hy : ∀ w, (execOp a.eval o).run P w = .ok (.value v) w)
  (h : pAny P ls.toArray Q f (listed.setIfInBounds i true) (a.put o.dst v) w) : pAny P ls.toArray Q (f + 1) listed a w :=
 wpAny_take (by rw [nth_eq]; exact ho) hs hf hr hQ (.inl ⟨by simp [Region.wanted, hg], hy⟩) h
theorem pw_ytake {ls : List Oper} {o : Oper} {v : Value} {j : Nat} {b : Bool} (i : Nat) (ho : nth ls i = some o) (hs : Region.noSelect ls.toArray = true) (hf : Region.free .any ls.toArray listed i = true) (hr : (Region.ready .any ls.toArray listed).contains i = true)
  (hQ : ∀ c a w, Q (.panic c) (a.put o.dst v) w -> Q (.panic c) a w) (hg : o.guard = some (j, b)) (hj : yielded ls.toArray a.tmps j = some b) (hy : ∀ w, (execOp a.eval o).run P w = .ok (.value v) w)
  (h : pAny P ls.toArray Q f (listed.setIfInBounds i true) (a.put o.dst v) w) : pAny P ls.toArray Q (f + 1) listed a w :=
 wpAny_take (by rw [nth_eq]; exact ho) hs hf hr hQ (.inl ⟨by simp [Region.wanted, hg, hj], hy⟩) h
theorem pw_skip {ls : List Oper} {o : Oper} {j : Nat} {b : Bool} (i : Nat) (ho : nth ls i = some o) (hs : Region.noSelect ls.toArray = true) (hf : Region.free .any ls.toArray listed i = true) (hr : (Region.ready .any ls.toArray listed).contains i = true)
  (hQ : ∀ c a w, Q (.panic c) (a.put o.dst undef) w -> Q (.panic c) a w) (hg : o.guard = some (j, b)) (hy : yielded ls.toArray a.tmps j = some (!b))
  (h : pAny P ls.toArray Q f (listed.setIfInBounds i true) (a.put o.dst undef) w) : pAny P ls.toArray Q (f + 1) listed a w :=
 wpAny_take (by rw [nth_eq]; exact ho) hs hf hr hQ (.inr ⟨by simp only [Region.wanted, hg, hy]; cases b <;> rfl, rfl⟩) h
theorem once {A G : Prop} (h : Hid G -> A) (g : G) : A := h (Lib.hid g)
end
end Go.Cz
namespace Go.Proofs.YtoeknmkephnekaaGreatDoor
open Go.RowKit Go.Cz Go.Cz.Lx Go.Cz.Fo Go.Cz.Vd
open Go.Cz.Wn (datedB)
attribute [local go_sem] bs_size bs_extract bs_append bs_toList
attribute [local irreducible] cList cPlan
theorem ItoaAll_c (n : Int) (w : World) (h0 : -9223372036854775808 <= n) (h1 : n <= 9223372036854775807) (hs : Std w) : Calls Tryz.prog 29 #[.int .i64 n] w fun e w' => e = .returned (.string (bs (Lib.itoa n))) /\ Below w.heap.size w w' := by
 refine (Tryz.strconv_Itoa n h0 h1 w hs.tab).mono ?_; rintro e w' ⟨rfl, k, os, rfl⟩; exact ⟨rfl, Lib.below_grow _ w (Nat.le_refl _) k os⟩
section
variable {w0 : World} {b6 : Nat}
set_option maxRecDepth 100000 in
set_option maxHeartbeats 4000000 in
theorem madd_c (ps : List Piece) (c : Bool) (L l : List Bytes) (v : Value) (g n : Nat) (w : World) (hn : l.length = n) (hg : g < w.heap.size) (hc : ∀ (j : Nat) (s : Bytes), l[j]? = some s -> w.cell? ⟨g, j, none⟩ = some (.string (bs s)))
  (h : Owns w0 w (txP v L :: one b6 58 v :: ps)) (hL : L.length <= 1000) (hl : n <= 1000) :
  Calls Tryz.prog 28 #[.bool c, .slice (some ⟨g, 0, none⟩) n n, .pointer (some ⟨b6, 0, none⟩)] w fun e w' => e = .returned (.tuple #[]) /\ ∃ v', Owns w0 w' (txP v' (if c = true then L ++ l else L) :: one b6 58 v' :: ps) := by
 have HO := Lib.hid h; have HC := Lib.hid hc; have HNl := Lib.hid hn; clear h hc hn; obtain ⟨g6, c6, f6⟩ := Owns.one HO.out.pop; go_enter Tryz.func28, Tryz.ntmps28
 cases c
 ·go_wp2_with fail
  go_end0
  exact ⟨rfl, v, HO.out⟩
 go_wp2_with (refine wpList_plain rfl fun K hK => wp_append_at (.tmp 6) (.tmp 7) 58 (by rfl) 9 _ 1 16 Tryz.underlying58 info_txt (by rfl) (by omega) v L.length (txs L) (by rfl) (Owns.txRow HO.out) g 0 n n (txs l) (by rfl) (by simp [txs, HNl.out]) (by intro j u hu; rw [Nat.zero_add]; simp only [txs, List.getElem?_map, Option.map_eq_some_iff] at hu; obtain ⟨s, hs, rfl⟩ := hu; exact HC.out j s hs) (by intro u hu; simp only [txs, List.mem_map] at hu; obtain ⟨s, -, rfl⟩ := hu; rfl) (by omega) (by omega) ?_; intro v' w1 hr hgr hbk; have h2 := Owns.txGrew (l' := L ++ l) HO.out (by simpa [txs, HNl.out] using hr) hgr hbk; obtain ⟨LL, hLL⟩ : ∃ X, X = L ++ l := ⟨_, rfl⟩; rw [<- hLL] at h2; obtain ⟨y', c', hv⟩ := (Owns.txIs h2).form; obtain ⟨N, hN⟩ : ∃ N, N = LL.length := ⟨_, rfl⟩; rw [<- hN] at hv; subst hv; have HO2 := Lib.hid h2; have HL2 := Lib.hid hLL; clear h2 hr hgr hbk g6 c6 f6 HC hLL hN HO; obtain ⟨g6, c6, f6⟩ := Owns.one HO2.out.pop)
 have h3 := Lib.hid (HO2.out.swap.store (i := 0) (.slice y' N c')).swap; go_wp2_with fail
 go_end0
 exact ⟨rfl, .slice y' N c', by rw [<- HL2.out]; exact h3.out⟩
theorem cells_of (W : World) (l : List Bytes) (j : Nat) (s : Bytes) (h : l[j]? = some s) : (W.alloc (.cells (txs l).toArray 9)).cell? ⟨W.heap.size, j, none⟩ = some (.string (bs s)) := by
 rw [cell_of_heap (new_heap W _ _ rfl)]; simp [txs, h]
def tEs : Array MapEntry := #[{ key := .int .i64 1, val := .string ⟨#[102, 111, 114, 98, 105, 100]⟩, born := 0 }, { key := .int .i64 2, val := .string ⟨#[101, 120, 101, 109, 112, 116]⟩, born := 1 }, { key := .int .i64 3, val := .string ⟨#[98, 108, 111, 99, 107]⟩, born := 2 }]
theorem tmapU : Tryz.prog.underlying 60 = some (.map 3 9) := by kernel_rfl
theorem tmapI : Tryz.prog.underlying 3 = some (.int .i64) := by kernel_rfl
set_option maxRecDepth 100000 in
theorem tmap_put (W : World) (es : Array MapEntry) (c : Nat) (k : Int) (v : Value) (hf : Instr.findNow (.int .i64) (.int .i64 k) es.toList 0 = some none) :
  (Instr.mapUpdate 60 (.map (some W.heap.size)) (.int .i64 k) v).run Tryz.prog (W.alloc (.map es c)) = .ok () (W.alloc (.map (es.push { key := .int .i64 k, val := v, born := c }) (c + 1))) := by
 have hb : (W.alloc (.map es c)).heap[W.heap.size]? = some (.map es c) := (MapKept.heap_alloc W _).1; have hc : (Instr.checkKey false 10000 3 (.int .i64 k)).run Tryz.prog (W.alloc (.map es c)) = .ok () (W.alloc (.map es c)) := MapKept.run_checkKey (d := .int .i64) tmapI (by simp [MapKept.IsKey]) false 9999; have h : (Instr.mapUpdate 60 (.map (some W.heap.size)) (.int .i64 k) v).run Tryz.prog (W.alloc (.map es c)) = .ok () { W.alloc (.map es c) with heap := (W.alloc (.map es c)).heap.setIfInBounds W.heap.size (.map (es.push { key := .int .i64 k, val := v, born := c }) (c + 1)) } := by
  simp [Instr.mapUpdate, run_underlying tmapU, MapKept.run_getObj_map hb, hc, MapKept.run_findKey tmapI hf, MapKept.run_setObj_map _ hb, Result.andThen]
 rw [h]
 congr 1
 have e : (W.alloc (.map es c)).heap.setIfInBounds W.heap.size (.map (es.push { key := .int .i64 k, val := v, born := c }) (c + 1)) = (W.alloc (.map (es.push { key := .int .i64 k, val := v, born := c }) (c + 1))).heap := by
  show (W.heap.push (Obj.map es c)).setIfInBounds W.heap.size _ = W.heap.push _
  apply Array.toList_inj.1
  simp [List.set_append]
 rw [e]
 rfl
theorem tmapP0 (W : World) : (Instr.makeMap 60 none).run Tryz.prog W = .ok (.map (some W.heap.size)) (W.alloc (.map #[] 0)) := rfl
theorem tmapP1 (W : World) : (Instr.mapUpdate 60 (.map (some W.heap.size)) (.int .i64 1) (.string ⟨#[102, 111, 114, 98, 105, 100]⟩)).run Tryz.prog (W.alloc (.map #[] 0)) = .ok () (W.alloc (.map (tEs.extract 0 1) 1)) := tmap_put W #[] 0 1 _ rfl
theorem tmapP2 (W : World) : (Instr.mapUpdate 60 (.map (some W.heap.size)) (.int .i64 2) (.string ⟨#[101, 120, 101, 109, 112, 116]⟩)).run Tryz.prog (W.alloc (.map (tEs.extract 0 1) 1)) = .ok () (W.alloc (.map (tEs.extract 0 2) 2)) := tmap_put W (tEs.extract 0 1) 1 2 _ rfl
theorem tmapP3 (W : World) : (Instr.mapUpdate 60 (.map (some W.heap.size)) (.int .i64 3) (.string ⟨#[98, 108, 111, 99, 107]⟩)).run Tryz.prog (W.alloc (.map (tEs.extract 0 2) 2)) = .ok () (W.alloc (.map tEs 3)) := tmap_put W (tEs.extract 0 2) 2 3 _ rfl
theorem tmapGet (W : World) (k : Int) : (Instr.lookup 60 (.map (some W.heap.size)) (.int .i64 k) false).run Tryz.prog (W.alloc (.map tEs 3)) = .ok (.string (bs (wKind k))) (W.alloc (.map tEs 3)) := by
 have hb : (W.alloc (.map tEs 3)).heap[W.heap.size]? = some (.map tEs 3) := (MapKept.heap_alloc W _).1; have hc : (Instr.checkKey false 10000 3 (.int .i64 k)).run Tryz.prog (W.alloc (.map tEs 3)) = .ok () (W.alloc (.map tEs 3)) := MapKept.run_checkKey (d := .int .i64) tmapI (by simp [MapKept.IsKey]) false 9999; have hem : tEs.isEmpty = false := rfl; have hz : ∀ w : World, (zeroValue 9).run Tryz.prog w = .ok (.string ⟨#[]⟩) w := fun w => by kernel_rfl
 have hf : Instr.findNow (.int .i64) (.int .i64 k) tEs.toList 0 = some (if k = 1 then some (0, .string (bs wForbid)) else if k = 2 then some (1, .string (bs wExempt)) else if k = 3 then some (2, .string (bs wBlock)) else none) := by
  simp only [tEs, Instr.findNow, Instr.sameNow]; by_cases h1 : k = 1
  ·subst h1; rfl
  by_cases h2 : k = 2
  ·subst h2; rfl
  by_cases h3 : k = 3
  ·subst h3; rfl
  rw [show (k == 1) = false by simpa using h1, show (k == 2) = false by simpa using h2, show (k == 3) = false by simpa using h3]; simp [h1, h2, h3]
 simp [Instr.lookup, run_underlying tmapU, MapKept.run_getObj_map hb, hc, MapKept.run_findKey tmapI hf, hem, Result.andThen]
 by_cases h1 : k = 1
 ·simp [h1, wKind]
 by_cases h2 : k = 2
 ·simp [h2, wKind]
 by_cases h3 : k = 3
 ·simp [h3, wKind]
 simp [h1, h2, h3, wKind, hz, Result.andThen]
 rfl
set_option maxRecDepth 100000 in
set_option maxHeartbeats 4000000 in
theorem mText_c {p : Nat -> Prop} (m : Me) (kv : Value) (w : World) (hst : Std w) (hf : IsFm p w m.cond kv) (hM : MeLen m) (hC : CoLen m.cond) :
  Calls Tryz.prog 11 #[mval m kv] w fun e w' => e = .returned (.tuple #[.string (bs (textM m).1), .int .i64 (textM m).2]) /\ Below w.heap.size w w' := by
 have HF := Lib.hid hf; have HSt := Lib.hid hst; have HML := Lib.hid hM; have HCL := Lib.hid hC; obtain ⟨y, c, rfl⟩ := hf.form; obtain ⟨n, hn⟩ : ∃ n, n = m.cond.kids.length := ⟨_, rfl⟩; rw [<- hn] at HF ⊢; clear hst hf hM hC hn; obtain ⟨bx, hbx⟩ : ∃ bx, bx = w.heap.size := ⟨_, rfl⟩; obtain ⟨W1, hW1⟩ : ∃ W1, W1 = w.alloc (mobj m (.slice y n c)) := ⟨_, rfl⟩; have HO : Hid (Owns w W1 [blk bx (mobj m (.slice y n c))]) := by
  rw [hW1, hbx]; exact Lib.hid ((Owns.start w).box (mobj m (.slice y n c)))
 go_enter Tryz.func11, Tryz.ntmps11
 go_wp2_with fail
 rw [<- hW1, <- hbx]; clear hW1 hbx
 (try clear hx0 c0 c1 c2 c3 c4 c5 c6 c7 c8 c9 c10 c11)
 obtain ⟨hx0, -, c0, c1, c2, c3, c4, c5, c6, c7, c8, c9, c10, c11⟩ := bx12 HO.out.blk; go_wp2_with fail
 go_at_call 25
 refine (Text_c m.cond W1 _ (HSt.out.below HO.out.base) (HF.out.later HO.out.base) (Nat.le_refl _) HCL.out.names HCL.out.size).mono ?_; rintro e W2 ⟨rfl, hb⟩; replace HO := Lib.hid (HO.out.below hb); clear hb; obtain ⟨S, hS⟩ : ∃ S, S = if textE m.cond = 0 then textF Lib.itoa m.cond else [] := ⟨_, rfl⟩
 obtain ⟨E, hE⟩ : ∃ E, E = textE m.cond := ⟨_, rfl⟩; rw [<- hS, <- hE]; rw [<- hE] at hS; have HS := Lib.hid hS; have HE := Lib.hid hE; clear hS hE
 (try clear hx0 c0 c1 c2 c3 c4 c5 c6 c7 c8 c9 c10 c11)
 obtain ⟨hx0, -, c0, c1, c2, c3, c4, c5, c6, c7, c8, c9, c10, c11⟩ := bx12 HO.out.blk; by_cases hE : E = 0
 rotate_left
 ·have hE' : ((E : Int) != 0) = true := by simpa using hE
  have HE0 : Hid (¬ textE m.cond = 0) := by rw [<- HE.out]; exact hE
  clear hE; have HE : Hid (textM m = ([], 1)) := by
   show _ = _; unfold textM wrM; simp [HE0.out]
  go_wp2_with fail
  go_ret2
  exact ⟨by rw [HE.out]; rfl, HO.out.base⟩
 have hE' : ((E : Int) != 0) = false := by simpa using hE
 rw [if_pos hE] at HS; have HE0 : Hid (textE m.cond = 0) := by rw [<- HE.out]; exact hE
 clear hE; go_wp2_with fail
 go_at_call 26
 refine (named_c m y n c W2 HML.out).mono ?_; rintro e W3 ⟨rfl, hb⟩; replace HO := Lib.hid (HO.out.below hb); clear hb
 (try clear hx0 c0 c1 c2 c3 c4 c5 c6 c7 c8 c9 c10 c11)
 obtain ⟨hx0, -, c0, c1, c2, c3, c4, c5, c6, c7, c8, c9, c10, c11⟩ := bx12 HO.out.blk; obtain ⟨q, hq⟩ : ∃ q, q = namedM m := ⟨_, rfl⟩; rw [<- hq]; have HP := Lib.hid hq; clear hq; cases q
 ·have HE : Hid (textM m = ([], 1)) := by
   show _ = _; unfold textM wrM; rw [<- HP.out]; simp
  go_wp2_with fail
  go_ret2
  exact ⟨by rw [HE.out]; rfl, HO.out.base⟩
 go_wp2_with fail
 go_at_call 27
 refine (datedM_c m y n c W3).mono ?_; rintro e W4 ⟨rfl, hb⟩; replace HO := Lib.hid (HO.out.below hb); clear hb
 (try clear hx0 c0 c1 c2 c3 c4 c5 c6 c7 c8 c9 c10 c11)
 obtain ⟨hx0, -, c0, c1, c2, c3, c4, c5, c6, c7, c8, c9, c10, c11⟩ := bx12 HO.out.blk; obtain ⟨q, hq⟩ : ∃ q, q = datedB m.kind m.fr m.un m.wi := ⟨_, rfl⟩; rw [<- hq]; have HT := Lib.hid hq; clear hq; cases q
 ·have HE : Hid (textM m = ([], 1)) := by
   show _ = _; unfold textM wrM; rw [<- HT.out]; simp
  go_wp2_with fail
  go_ret2
  exact ⟨by rw [HE.out]; rfl, HO.out.base⟩
 have HW : Hid (wrM m = true) := by
  show _ = _; unfold wrM; rw [<- HP.out, <- HT.out, HE0.out]
  rfl
 clear HP HT hE' HE0; go_upto_region 5 with fail
 obtain ⟨b6, hb6⟩ : ∃ x, x = W4.heap.size := ⟨_, rfl⟩; obtain ⟨W5, hW5⟩ : ∃ W, W = W4.alloc (.cells #[.slice none 0 0] 58) := ⟨_, rfl⟩; have h2 := HO.out.box (.cells #[.slice none 0 0] 58 (0, 0)); rw [<- hb6, <- hW5] at h2 ⊢; have h3 : Owns w W5 (txP (.slice none 0 0) [] :: one b6 58 (.slice none 0 0) :: blk bx (mobj m (.slice y n c)) :: []) := h2.txNew; replace HO := Lib.hid (h3.re [2, 0, 1]); clear h2 h3 hb6 hW5
 (try clear hx0 c0 c1 c2 c3 c4 c5 c6 c7 c8 c9 c10 c11)
 obtain ⟨hx0, -, c0, c1, c2, c3, c4, c5, c6, c7, c8, c9, c10, c11⟩ := bx12 HO.out.blk; have mp0 := tmapP0 W5; have mp1 := tmapP1 W5; have mp2 := tmapP2 W5; have mp3 := tmapP3 W5; have mp4 := tmapGet W5 m.kind; go_wp2_with fail
 obtain ⟨Wm, hWm⟩ : ∃ W, W = W5.alloc (.map tEs 3) := ⟨_, rfl⟩; have hsz : Wm.heap.size = W5.heap.size + 1 := by rw [hWm]; simp
 replace HO := Lib.hid (HO.out.alloc (.map tEs 3)); rw [<- hWm] at HO; rw [<- hWm, <- hsz]; clear hWm hsz mp0 mp1 mp2 mp3 mp4; obtain ⟨L0, hL0⟩ : ∃ L : List Bytes, L = [] := ⟨_, rfl⟩; have hlL0 : L0.length <= 0 := by rw [hL0]; simp
 rw [<- hL0] at HO; replace hL0 := Lib.hid hL0; clear hx0 c0 c1 c2 c3 c4 c5 c6 c7 c8 c9 c10 c11; obtain ⟨gs, hgs⟩ : ∃ x, x = (Wm).heap.size := ⟨_, rfl⟩; obtain ⟨Wa, hWa⟩ : ∃ W, W = (Wm).alloc (.cells #[.string (bs (wKind m.kind))] 9) := ⟨_, rfl⟩; have hc1 := cells_of (Wm) [wKind m.kind]; rw [<- hgs] at hc1; have hc2 : ∀ (j : Nat) (s : Bytes), ([wKind m.kind])[j]? = some s -> Wa.cell? ⟨gs, j, none⟩ = some (.string (bs s)) := by rw [hWa]; exact hc1
 have hlt : gs < Wa.heap.size := by rw [hWa, hgs]; simp
 replace HO := Lib.hid (HO.out.alloc (.cells #[.string (bs (wKind m.kind))] 9 (0, 0))); rw [<- hWa] at HO; rw [<- hgs, <- hWa]; clear hWa hgs hc1; have hx := madd_c _ true L0 [wKind m.kind] _ gs 1 Wa rfl hlt hc2 (HO.out.re [1, 2, 0]) (by omega) (by omega); refine hx.mono ?_; clear hx; rintro e W6 ⟨rfl, v, ho⟩; clear hc2 hlt; obtain ⟨L1, hL1⟩ : ∃ X, X = if true = true then L0 ++ [wKind m.kind] else L0 := ⟨_, rfl⟩
 rw [<- hL1] at ho; have hlL1 : (L1).length <= 1 := by rw [hL1]; split <;> first | omega | (simp only [List.length_append, List.length_cons, List.length_nil]; omega)
 replace hL1 := Lib.hid hL1; replace HO := Lib.hid (ho.re [2, 0, 1]); clear ho
 (try clear hx0 c0 c1 c2 c3 c4 c5 c6 c7 c8 c9 c10 c11)
 obtain ⟨hx0, -, c0, c1, c2, c3, c4, c5, c6, c7, c8, c9, c10, c11⟩ := bx12 HO.out.blk; go_wp2_with fail
 obtain ⟨q7, hq7⟩ : ∃ q, q = !List.isEmpty m.target := ⟨_, rfl⟩; rw [<- hq7]; replace hq7 := Lib.hid hq7; clear hx0 c0 c1 c2 c3 c4 c5 c6 c7 c8 c9 c10 c11; obtain ⟨gs, hgs⟩ : ∃ x, x = (W6).heap.size := ⟨_, rfl⟩; obtain ⟨Wa, hWa⟩ : ∃ W, W = (W6).alloc (.cells #[.string (bs m.target)] 9) := ⟨_, rfl⟩; have hc1 := cells_of (W6) [m.target]; rw [<- hgs] at hc1; have hc2 : ∀ (j : Nat) (s : Bytes), ([m.target])[j]? = some s -> Wa.cell? ⟨gs, j, none⟩ = some (.string (bs s)) := by rw [hWa]; exact hc1
 have hlt : gs < Wa.heap.size := by rw [hWa, hgs]; simp
 replace HO := Lib.hid (HO.out.alloc (.cells #[.string (bs m.target)] 9 (0, 0))); rw [<- hWa] at HO; rw [<- hgs, <- hWa]; clear hWa hgs hc1; have hx := madd_c _ q7 L1 [m.target] _ gs 1 Wa rfl hlt hc2 (HO.out.re [1, 2, 0]) (by omega) (by omega); refine hx.mono ?_; clear hx; rintro e W7 ⟨rfl, v, ho⟩; clear hc2 hlt; obtain ⟨L2, hL2⟩ : ∃ X, X = if q7 = true then L1 ++ [m.target] else L1 := ⟨_, rfl⟩
 rw [<- hL2] at ho; have hlL2 : (L2).length <= 2 := by rw [hL2]; split <;> first | omega | (simp only [List.length_append, List.length_cons, List.length_nil]; omega)
 replace hL2 := Lib.hid hL2; replace HO := Lib.hid (ho.re [2, 0, 1]); clear ho
 (try clear hx0 c0 c1 c2 c3 c4 c5 c6 c7 c8 c9 c10 c11)
 obtain ⟨hx0, -, c0, c1, c2, c3, c4, c5, c6, c7, c8, c9, c10, c11⟩ := bx12 HO.out.blk; go_wp2_with fail
 clear hx0 c0 c1 c2 c3 c4 c5 c6 c7 c8 c9 c10 c11; obtain ⟨gs, hgs⟩ : ∃ x, x = (W7).heap.size := ⟨_, rfl⟩; obtain ⟨Wa, hWa⟩ : ∃ W, W = (W7).alloc (.cells #[.string (bs m.id), .string ⟨#[111, 102]⟩, .string (bs m.auth)] 9) := ⟨_, rfl⟩; have hc1 := cells_of (W7) [m.id, wOf, m.auth]; rw [<- hgs] at hc1; have hc2 : ∀ (j : Nat) (s : Bytes), ([m.id, wOf, m.auth])[j]? = some s -> Wa.cell? ⟨gs, j, none⟩ = some (.string (bs s)) := by rw [hWa]; exact hc1
 have hlt : gs < Wa.heap.size := by rw [hWa, hgs]; simp
 replace HO := Lib.hid (HO.out.alloc (.cells #[.string (bs m.id), .string ⟨#[111, 102]⟩, .string (bs m.auth)] 9 (0, 0))); rw [<- hWa] at HO; rw [<- hgs, <- hWa]; clear hWa hgs hc1; have hx := madd_c _ true L2 [m.id, wOf, m.auth] _ gs 3 Wa rfl hlt hc2 (HO.out.re [1, 2, 0]) (by omega) (by omega); refine hx.mono ?_; clear hx; rintro e W8 ⟨rfl, v, ho⟩; clear hc2 hlt; obtain ⟨L3, hL3⟩ : ∃ X, X = if true = true then L2 ++ [m.id, wOf, m.auth] else L2 := ⟨_, rfl⟩
 rw [<- hL3] at ho; have hlL3 : (L3).length <= 5 := by rw [hL3]; split <;> first | omega | (simp only [List.length_append, List.length_cons, List.length_nil]; omega)
 replace hL3 := Lib.hid hL3; replace HO := Lib.hid (ho.re [2, 0, 1]); clear ho
 (try clear hx0 c0 c1 c2 c3 c4 c5 c6 c7 c8 c9 c10 c11)
 obtain ⟨hx0, -, c0, c1, c2, c3, c4, c5, c6, c7, c8, c9, c10, c11⟩ := bx12 HO.out.blk; go_wp2_with fail
 obtain ⟨q9, hq9⟩ : ∃ q, q = (m.cond.op != 1) := ⟨_, rfl⟩; rw [<- hq9]; replace hq9 := Lib.hid hq9; clear hx0 c0 c1 c2 c3 c4 c5 c6 c7 c8 c9 c10 c11; obtain ⟨gs, hgs⟩ : ∃ x, x = (W8).heap.size := ⟨_, rfl⟩; obtain ⟨Wa, hWa⟩ : ∃ W, W = (W8).alloc (.cells #[.string ⟨#[105, 102]⟩, .string (bs S)] 9) := ⟨_, rfl⟩; have hc1 := cells_of (W8) [wIf, S]; rw [<- hgs] at hc1; have hc2 : ∀ (j : Nat) (s : Bytes), ([wIf, S])[j]? = some s -> Wa.cell? ⟨gs, j, none⟩ = some (.string (bs s)) := by rw [hWa]; exact hc1
 have hlt : gs < Wa.heap.size := by rw [hWa, hgs]; simp
 replace HO := Lib.hid (HO.out.alloc (.cells #[.string ⟨#[105, 102]⟩, .string (bs S)] 9 (0, 0))); rw [<- hWa] at HO; rw [<- hgs, <- hWa]; clear hWa hgs hc1; have hx := madd_c _ q9 L3 [wIf, S] _ gs 2 Wa rfl hlt hc2 (HO.out.re [1, 2, 0]) (by omega) (by omega); refine hx.mono ?_; clear hx; rintro e W9 ⟨rfl, v, ho⟩; clear hc2 hlt; obtain ⟨L4, hL4⟩ : ∃ X, X = if q9 = true then L3 ++ [wIf, S] else L3 := ⟨_, rfl⟩
 rw [<- hL4] at ho; have hlL4 : (L4).length <= 7 := by rw [hL4]; split <;> first | omega | (simp only [List.length_append, List.length_cons, List.length_nil]; omega)
 replace hL4 := Lib.hid hL4; replace HO := Lib.hid (ho.re [2, 0, 1]); clear ho
 (try clear hx0 c0 c1 c2 c3 c4 c5 c6 c7 c8 c9 c10 c11)
 obtain ⟨hx0, -, c0, c1, c2, c3, c4, c5, c6, c7, c8, c9, c10, c11⟩ := bx12 HO.out.blk; go_wp2_with fail
 have HB : Hid ((0 <= m.fr /\ m.fr <= 100000) /\ (-1 <= m.un /\ m.un <= 100000) /\ (0 <= m.wi /\ m.wi <= 400)) := by
  have h := wrM_parts HW.out; have h1 := h.fr; have h2 := h.un; have h3 := h.wi; exact Lib.hid ⟨h1, by omega, h3⟩
 go_at_call 29
 refine (ItoaAll_c m.fr W9 (by have := HB.out; omega) (by have := HB.out; omega) (HSt.out.below HO.out.base)).mono ?_; rintro e W10 ⟨rfl, hb⟩; replace HO := Lib.hid (HO.out.below hb); clear hb
 (try clear hx0 c0 c1 c2 c3 c4 c5 c6 c7 c8 c9 c10 c11)
 obtain ⟨hx0, -, c0, c1, c2, c3, c4, c5, c6, c7, c8, c9, c10, c11⟩ := bx12 HO.out.blk; go_wp2_with fail
 clear hx0 c0 c1 c2 c3 c4 c5 c6 c7 c8 c9 c10 c11; obtain ⟨gs, hgs⟩ : ∃ x, x = (W10).heap.size := ⟨_, rfl⟩; obtain ⟨Wa, hWa⟩ : ∃ W, W = (W10).alloc (.cells #[.string ⟨#[102, 114, 111, 109]⟩, .string (bs (Lib.itoa m.fr))] 9) := ⟨_, rfl⟩; have hc1 := cells_of (W10) [wFrom, Lib.itoa m.fr]; rw [<- hgs] at hc1; have hc2 : ∀ (j : Nat) (s : Bytes), ([wFrom, Lib.itoa m.fr])[j]? = some s -> Wa.cell? ⟨gs, j, none⟩ = some (.string (bs s)) := by rw [hWa]; exact hc1
 have hlt : gs < Wa.heap.size := by rw [hWa, hgs]; simp
 replace HO := Lib.hid (HO.out.alloc (.cells #[.string ⟨#[102, 114, 111, 109]⟩, .string (bs (Lib.itoa m.fr))] 9 (0, 0))); rw [<- hWa] at HO; rw [<- hgs, <- hWa]; clear hWa hgs hc1; have hx := madd_c _ true L4 [wFrom, Lib.itoa m.fr] _ gs 2 Wa rfl hlt hc2 (HO.out.re [1, 2, 0]) (by omega) (by omega); refine hx.mono ?_; clear hx; rintro e W11 ⟨rfl, v, ho⟩; clear hc2 hlt; obtain ⟨L5, hL5⟩ : ∃ X, X = if true = true then L4 ++ [wFrom, Lib.itoa m.fr] else L4 := ⟨_, rfl⟩
 rw [<- hL5] at ho; have hlL5 : (L5).length <= 9 := by rw [hL5]; split <;> first | omega | (simp only [List.length_append, List.length_cons, List.length_nil]; omega)
 replace hL5 := Lib.hid hL5; replace HO := Lib.hid (ho.re [2, 0, 1]); clear ho
 (try clear hx0 c0 c1 c2 c3 c4 c5 c6 c7 c8 c9 c10 c11)
 obtain ⟨hx0, -, c0, c1, c2, c3, c4, c5, c6, c7, c8, c9, c10, c11⟩ := bx12 HO.out.blk; go_upto_region 11 with fail
 have ho := HO.out.drew; obtain ⟨W12, hWx⟩ : ∃ W, W = World.drew W11 := ⟨_, rfl⟩; rw [<- hWx] at ho; replace HO := Lib.hid ho; refine wp_region_can [6] (List.range 9) (by kernel_rfl) (by kernel_rfl) ?_; rw [<- hWx]; clear ho hWx
 (try clear hx0 c0 c1 c2 c3 c4 c5 c6 c7 c8 c9 c10 c11)
 obtain ⟨hx0, -, c0, c1, c2, c3, c4, c5, c6, c7, c8, c9, c10, c11⟩ := bx12 HO.out.blk; iterate 6 (refine cl_doA rfl rfl rfl (fun _ _ => ?_); go_wp2_with fail)
 refine cl_call rfl rfl (by first | rfl | simp [okB, lenV, plainV, Act.eval]) (fun _ _ => ?_); go_wp2_with fail
 go_at_call 29
 refine (ItoaAll_c m.un W12 (by have := HB.out; omega) (by have := HB.out; omega) (HSt.out.below HO.out.base)).mono ?_; rintro e W13 ⟨rfl, hb⟩; replace HO := Lib.hid (HO.out.below hb); go_wp2_with fail
 refine ⟨hb, ?_⟩; clear hb
 (try clear hx0 c0 c1 c2 c3 c4 c5 c6 c7 c8 c9 c10 c11)
 obtain ⟨hx0, -, c0, c1, c2, c3, c4, c5, c6, c7, c8, c9, c10, c11⟩ := bx12 HO.out.blk; iterate 2 (refine cl_doA rfl rfl rfl (fun _ _ => ?_); go_wp2_with fail)
 obtain ⟨q11, hq11⟩ : ∃ q, q = decide (0 <= m.un) := ⟨_, rfl⟩; rw [<- hq11]; replace hq11 := Lib.hid hq11; clear hx0 c0 c1 c2 c3 c4 c5 c6 c7 c8 c9 c10 c11; obtain ⟨gs, hgs⟩ : ∃ x, x = (W13).heap.size := ⟨_, rfl⟩; obtain ⟨Wa, hWa⟩ : ∃ W, W = (W13).alloc (.cells #[.string ⟨#[117, 110, 116, 105, 108]⟩, .string (bs (Lib.itoa m.un))] 9) := ⟨_, rfl⟩; have hc1 := cells_of (W13) [wUntil, Lib.itoa m.un]; rw [<- hgs] at hc1; have hc2 : ∀ (j : Nat) (s : Bytes), ([wUntil, Lib.itoa m.un])[j]? = some s -> Wa.cell? ⟨gs, j, none⟩ = some (.string (bs s)) := by rw [hWa]; exact hc1
 have hlt : gs < Wa.heap.size := by rw [hWa, hgs]; simp
 replace HO := Lib.hid (HO.out.alloc (.cells #[.string ⟨#[117, 110, 116, 105, 108]⟩, .string (bs (Lib.itoa m.un))] 9 (0, 0))); rw [<- hWa] at HO; rw [<- hgs, <- hWa]; clear hWa hgs hc1; have hx := madd_c _ q11 L5 [wUntil, Lib.itoa m.un] _ gs 2 Wa rfl hlt hc2 (HO.out.re [1, 2, 0]) (by omega) (by omega); refine hx.mono ?_; clear hx; rintro e W14 ⟨rfl, v, ho⟩; clear hc2 hlt; obtain ⟨L6, hL6⟩ : ∃ X, X = if q11 = true then L5 ++ [wUntil, Lib.itoa m.un] else L5 := ⟨_, rfl⟩
 rw [<- hL6] at ho; have hlL6 : (L6).length <= 11 := by rw [hL6]; split <;> first | omega | (simp only [List.length_append, List.length_cons, List.length_nil]; omega)
 replace hL6 := Lib.hid hL6; replace HO := Lib.hid (ho.re [2, 0, 1]); clear ho
 (try clear hx0 c0 c1 c2 c3 c4 c5 c6 c7 c8 c9 c10 c11)
 obtain ⟨hx0, -, c0, c1, c2, c3, c4, c5, c6, c7, c8, c9, c10, c11⟩ := bx12 HO.out.blk; go_wp2_with fail
 refine cl_nil ?_; go_upto_region 12 with fail
 have ho := HO.out.drew; obtain ⟨W15, hWx⟩ : ∃ W, W = World.drew W14 := ⟨_, rfl⟩; rw [<- hWx] at ho; replace HO := Lib.hid ho; refine wp_region_can [6] (List.range 9) (by kernel_rfl) (by kernel_rfl) ?_; rw [<- hWx]; clear ho hWx
 (try clear hx0 c0 c1 c2 c3 c4 c5 c6 c7 c8 c9 c10 c11)
 obtain ⟨hx0, -, c0, c1, c2, c3, c4, c5, c6, c7, c8, c9, c10, c11⟩ := bx12 HO.out.blk; iterate 6 (refine cl_doA rfl rfl rfl (fun _ _ => ?_); go_wp2_with fail)
 refine cl_call rfl rfl (by first | rfl | simp [okB, lenV, plainV, Act.eval]) (fun _ _ => ?_); go_wp2_with fail
 go_at_call 29
 refine (ItoaAll_c m.wi W15 (by have := HB.out; omega) (by have := HB.out; omega) (HSt.out.below HO.out.base)).mono ?_; rintro e W16 ⟨rfl, hb⟩; replace HO := Lib.hid (HO.out.below hb); go_wp2_with fail
 refine ⟨hb, ?_⟩; clear hb
 (try clear hx0 c0 c1 c2 c3 c4 c5 c6 c7 c8 c9 c10 c11)
 obtain ⟨hx0, -, c0, c1, c2, c3, c4, c5, c6, c7, c8, c9, c10, c11⟩ := bx12 HO.out.blk; iterate 2 (refine cl_doA rfl rfl rfl (fun _ _ => ?_); go_wp2_with fail)
 obtain ⟨q12, hq12⟩ : ∃ q, q = decide (0 < m.wi) := ⟨_, rfl⟩; rw [<- hq12]; replace hq12 := Lib.hid hq12; clear hx0 c0 c1 c2 c3 c4 c5 c6 c7 c8 c9 c10 c11; obtain ⟨gs, hgs⟩ : ∃ x, x = (W16).heap.size := ⟨_, rfl⟩; obtain ⟨Wa, hWa⟩ : ∃ W, W = (W16).alloc (.cells #[.string ⟨#[119, 105, 110, 100]⟩, .string (bs (Lib.itoa m.wi))] 9) := ⟨_, rfl⟩; have hc1 := cells_of (W16) [wWind, Lib.itoa m.wi]; rw [<- hgs] at hc1; have hc2 : ∀ (j : Nat) (s : Bytes), ([wWind, Lib.itoa m.wi])[j]? = some s -> Wa.cell? ⟨gs, j, none⟩ = some (.string (bs s)) := by rw [hWa]; exact hc1
 have hlt : gs < Wa.heap.size := by rw [hWa, hgs]; simp
 replace HO := Lib.hid (HO.out.alloc (.cells #[.string ⟨#[119, 105, 110, 100]⟩, .string (bs (Lib.itoa m.wi))] 9 (0, 0))); rw [<- hWa] at HO; rw [<- hgs, <- hWa]; clear hWa hgs hc1; have hx := madd_c _ q12 L6 [wWind, Lib.itoa m.wi] _ gs 2 Wa rfl hlt hc2 (HO.out.re [1, 2, 0]) (by omega) (by omega); refine hx.mono ?_; clear hx; rintro e W17 ⟨rfl, v, ho⟩; clear hc2 hlt; obtain ⟨L7, hL7⟩ : ∃ X, X = if q12 = true then L6 ++ [wWind, Lib.itoa m.wi] else L6 := ⟨_, rfl⟩
 rw [<- hL7] at ho; have hlL7 : (L7).length <= 13 := by rw [hL7]; split <;> first | omega | (simp only [List.length_append, List.length_cons, List.length_nil]; omega)
 replace hL7 := Lib.hid hL7; replace HO := Lib.hid (ho.re [2, 0, 1]); clear ho
 (try clear hx0 c0 c1 c2 c3 c4 c5 c6 c7 c8 c9 c10 c11)
 obtain ⟨hx0, -, c0, c1, c2, c3, c4, c5, c6, c7, c8, c9, c10, c11⟩ := bx12 HO.out.blk; go_wp2_with fail
 refine cl_nil ?_; have HWd : Hid (L7 = wordsM m) := by
  show _ = _; rw [hL7.out, hL6.out, hL5.out, hL4.out, hL3.out, hL2.out, hL1.out, hL0.out, hq7.out, hq9.out, hq11.out, hq12.out, HS.out]; unfold wordsM; have e1 : (!List.isEmpty m.target) = decide (m.target ≠ []) := by cases m.target <;> simp
  have e2 : (m.cond.op != 1) = decide (m.cond.op ≠ 1) := by by_cases h : m.cond.op = 1 <;> simp [h]
  rw [e1, e2]; by_cases h1 : m.target = [] <;> by_cases h2 : m.cond.op = 1 <;> by_cases h3 : 0 <= m.un <;> by_cases h4 : 0 < m.wi <;> simp [h1, h2, h3, h4]
 clear hL7 hL6 hL5 hL4 hL3 hL2 hL1 hL0 hq7 hq9 hq11 hq12 HS HE HB hlL0 hlL1 hlL2 hlL3 hlL4 hlL5 hlL6; have hL0 : L7.length ≠ 0 := by rw [HWd.out]; simp [wordsM]
 have HSay : Hid (sayM m = joinB [32] L7 ++ [59]) := by show _ = _; rw [HWd.out]; rfl
 have hJl : (joinB [32] L7).length <= 13000 := by
  have h := (say_len (wrM_parts HW.out)).1; rw [HSay.out, List.length_append] at h; omega
 have HTx : Hid (textM m = (sayM m, 0)) := by show _ = _; unfold textM; rw [if_pos HW.out]
 clear c0 c1 c2 c3 c4 c5 c6 c7 c8 c9 c10 c11 hx0 HWd HW; obtain ⟨yv, cv, hv, hr⟩ := Owns.txIs HO.out.pop; rcases hr with hr | ⟨g, off, rfl, hg, hcap, hcell⟩
 ·rw [hr] at hL0; exact absurd rfl hL0
 obtain ⟨N, hN⟩ : ∃ N, N = L7.length := ⟨_, rfl⟩; rw [<- hN] at hv hcap hL0 hlL7; have HNn := Lib.hid hN; have HJ : Hid (Calls Tryz.prog 30 #[.slice (some ⟨g, off, none⟩) N cv, .string (bs [32])] W17 fun e w' => e = .returned (.string (bs (joinB [32] L7))) /\ Below W17.heap.size W17 w') := by
  have hx : (L7.map bs).map (·.data.toList) = L7 := by rw [List.map_map]; exact List.map_id _
  have h := Tryz.strings_Join g off cv (L7.map bs) (bs [32]) W17 (fun j x hj => ?_) hg (by rw [List.length_map, <- HNn.out]; omega) (by rw [List.length_map, <- HNn.out]; exact hcap) (by rw [hx, bs_data, join_eq]; omega)
  ·rw [hx, bs_data, join_eq, List.length_map, <- HNn.out] at h; exact h
  ·refine hcell j _ ?_; rw [List.getElem?_map] at hj; cases hLj : L7[j]? with
   | none => rw [hLj] at hj; cases hj
   | some s => rw [hLj] at hj; simp at hj; subst hj; rfl
 clear hcell hg hcap hN hL0 hlL7; obtain ⟨J, hJ⟩ : ∃ J, J = joinB [32] L7 := ⟨_, rfl⟩; rw [<- hJ] at hJl HSay HJ; clear hJ HNn; subst hv; obtain ⟨g6, q6, f6⟩ := Owns.one HO.out.pop.pop; go_wp2_with fail
 go_at_call 30
 refine HJ.out.mono ?_; rintro e W18 ⟨rfl, hb⟩; replace HO := Lib.hid (HO.out.below hb); clear hb g6 q6 f6 HJ; go_wp2_with fail
 go_ret2
 exact ⟨by rw [HTx.out, HSay.out]; rfl, HO.out.base⟩
end
end Go.Proofs.YtoeknmkephnekaaGreatDoor
namespace Go.Cz.Vd
open Go
theorem dd_ne (u : Nat) : Lib.decDigits u ≠ [] := by
 rw [Lib.decDigits]; split <;> simp
theorem dig_inj {a b : Nat} (ha : a < 10) (hb : b < 10) (h : UInt8.ofNat (48 + a) = UInt8.ofNat (48 + b)) : a = b := by
 have := congrArg UInt8.toNat h; simp at this
 omega
theorem dd_small {u : Nat} (h : u < 10) : Lib.decDigits u = [UInt8.ofNat (48 + u)] := by rw [Lib.decDigits, dif_pos h]
theorem dd_big {u : Nat} (h : ¬ u < 10) : Lib.decDigits u = Lib.decDigits (u / 10) ++ [UInt8.ofNat (48 + u % 10)] := by rw [Lib.decDigits, dif_neg h]
theorem dd_inj : ∀ (u v : Nat), Lib.decDigits u = Lib.decDigits v -> u = v := by
 intro u
 induction u using Nat.strongRecOn with
 | ind u ih =>
  intro v h; by_cases hu : u < 10
  ·by_cases hv : v < 10
   ·rw [dd_small hu, dd_small hv] at h
    injection h with h1
    exact dig_inj hu hv h1
   ·rw [dd_small hu, dd_big hv] at h; have := congrArg List.length h; have h2 := List.length_pos_iff.2 (dd_ne (v / 10)); simp only [List.length_append, List.length_cons, List.length_nil] at this; omega
  ·by_cases hv : v < 10
   ·rw [dd_big hu, dd_small hv] at h; have := congrArg List.length h; have h2 := List.length_pos_iff.2 (dd_ne (u / 10)); simp only [List.length_append, List.length_cons, List.length_nil] at this; omega
   ·rw [dd_big hu, dd_big hv] at h; obtain ⟨h1, h2⟩ := List.append_inj' h rfl; have h3 := ih (u / 10) (by omega) _ h1
    injection h2 with h4
    have h5 := dig_inj (Nat.mod_lt _ (by omega)) (Nat.mod_lt _ (by omega)) h4; omega
theorem dd_head (u : Nat) : ∀ r, Lib.decDigits u ≠ 45 :: r := by
 induction u using Nat.strongRecOn with
 | ind u ih =>
  intro r h; rw [Lib.decDigits] at h; by_cases hu : u < 10
  ·simp only [hu, dite_true] at h
   injection h with h1
   have := congrArg UInt8.toNat h1; simp at this
   omega
  ·simp only [hu, dite_false] at h; rcases hd : Lib.decDigits (u / 10) with _ | ⟨x, q⟩
   ·exact dd_ne _ hd
   ·rw [hd, List.cons_append] at h
    injection h with h1
    subst h1; exact ih (u / 10) (by omega) q hd
theorem itoa_same (a b : Int) : (Lib.itoa a = Lib.itoa b) ↔ a = b := by
 refine ⟨fun h => ?_, fun h => by rw [h]⟩; unfold Lib.itoa at h; by_cases ha : a < 0 <;> by_cases hb : b < 0
 ·simp only [ha, hb, if_true] at h
  injection h with _ h
  have := dd_inj _ _ h; omega
 ·simp only [ha, hb, if_true, if_false] at h; exact absurd h.symm (dd_head _ _)
 ·simp only [ha, hb, if_true, if_false] at h; exact absurd h (dd_head _ _)
 ·simp only [ha, hb, if_false] at h; have := dd_inj _ _ h; omega
end Go.Cz.Vd
namespace Go.Proofs.YtoeknmkephnekaaGreatDoor
open Go.RowKit Go.Cz Go.Cz.Lx Go.Cz.Fo Go.Cz.Vd
attribute [local go_sem] bs_size bs_extract bs_append bs_toList
attribute [local irreducible] cList cPlan pAny pOp
structure MeInt (m : Me) : Prop where
 kind : -9223372036854775808 <= m.kind /\ m.kind <= 9223372036854775807
 fr : -9223372036854775808 <= m.fr /\ m.fr <= 9223372036854775807
 un : -9223372036854775808 <= m.un /\ m.un <= 9223372036854775807
 wi : -9223372036854775808 <= m.wi /\ m.wi <= 9223372036854775807
abbrev seven (m : Me) : Value := .agg #[.string (bs m.id), .string (bs m.auth), .string (bs m.target), .string (bs (Lib.itoa m.kind)), .string (bs (Lib.itoa m.fr)), .string (bs (Lib.itoa m.un)), .string (bs (Lib.itoa m.wi))]
abbrev sevenO : Obj := .cells #[.string ⟨#[]⟩, .string ⟨#[]⟩, .string ⟨#[]⟩, .string ⟨#[]⟩, .string ⟨#[]⟩, .string ⟨#[]⟩, .string ⟨#[]⟩] 76 (0, 0)
theorem seven_res {W : World} {tmps : Array Value} {g : Nat} {v0 v1 v2 v3 v4 v5 v6 : Value} (h4 : tmps.getD 2 undef = .pointer (some ⟨g, 0, none⟩)) (hb : W.heap[g]? = some (.cells #[v0, v1, v2, v3, v4, v5, v6] 76 (0, 0))) :
  (results Tryz.f41 tmps).run Tryz.prog W = .ok (.agg #[v0, v1, v2, v3, v4, v5, v6]) W := by
 have c0 : W.cell? ⟨g, 0, none⟩ = some v0 := by rw [cell_of_heap hb]; rfl
 have c1 : W.cell? ⟨g, 1, none⟩ = some v1 := by rw [cell_of_heap hb]; rfl
 have c2 : W.cell? ⟨g, 2, none⟩ = some v2 := by rw [cell_of_heap hb]; rfl
 have c3 : W.cell? ⟨g, 3, none⟩ = some v3 := by rw [cell_of_heap hb]; rfl
 have c4 : W.cell? ⟨g, 4, none⟩ = some v4 := by rw [cell_of_heap hb]; rfl
 have c5 : W.cell? ⟨g, 5, none⟩ = some v5 := by rw [cell_of_heap hb]; rfl
 have c6 : W.cell? ⟨g, 6, none⟩ = some v6 := by rw [cell_of_heap hb]; rfl
 have h4' : tmps[2]?.getD undef = .pointer (some ⟨g, 0, none⟩) := by simpa using h4
 simp [results, Tryz.results41, go_sem, h4', c0, c1, c2, c3, c4, c5, c6]
set_option maxRecDepth 100000 in
set_option maxHeartbeats 4000000 in
theorem fields_c (m : Me) (y : Option Addr) (n c : Nat) (w : World) (hst : Std w) (hi : MeInt m) : Calls Tryz.prog 41 #[mval m (.slice y n c)] w fun e w' => e = .returned (seven m) /\ Below w.heap.size w w' := by
 have HSt := Lib.hid hst; have HMI := Lib.hid hi; clear hst hi; obtain ⟨bx, hbx⟩ : ∃ bx, bx = w.heap.size := ⟨_, rfl⟩; obtain ⟨b2, hb2⟩ : ∃ b2, b2 = w.heap.size + 1 := ⟨_, rfl⟩; obtain ⟨W1, hW1⟩ : ∃ W1, W1 = (w.alloc (mobj m (.slice y n c))).alloc (.cells #[.string ⟨#[]⟩, .string ⟨#[]⟩, .string ⟨#[]⟩, .string ⟨#[]⟩, .string ⟨#[]⟩, .string ⟨#[]⟩, .string ⟨#[]⟩] 76) := ⟨_, rfl⟩; have HO : Hid (Owns w W1 [blk bx (mobj m (.slice y n c)), blk b2 sevenO]) := by
  have h := ((Owns.start w).box (mobj m (.slice y n c))).box sevenO; rw [World.size_alloc] at h; rw [hW1, hbx, hb2]; exact Lib.hid h.swap
 go_enter Tryz.func41, Tryz.ntmps41
 go_upto_region 1 with fail
 rw [<- hb2, <- hW1, <- hbx]; clear hW1 hbx hb2; replace HO := Lib.hid HO.out.drew; obtain ⟨W2, hW2⟩ : ∃ W, W = World.drew W1 := ⟨_, rfl⟩; refine wp_region_can [8, 11, 14, 17] [0, 1, 2, 3, 4, 5, 6, 7, 9, 10, 12, 13, 15, 16, 8, 11, 14, 17, 18, 19] (by kernel_rfl) (by kernel_rfl) ?_; rw [<- hW2] at HO ⊢; clear hW2
 (try clear hx0 c0 c1 c2 c3 c4 c5 c6 c7 c8 c9 c10 c11)
 obtain ⟨hx0, -, c0, c1, c2, c3, -, -, -, -, -, c9, c10, c11⟩ := bx12 HO.out.blk; iterate 14 (refine cl_doA rfl rfl rfl (fun _ _ => ?_); go_wp2_with fail)
 clear hx0 c0 c1 c2 c3 c9 c10 c11; refine cl_call rfl rfl (by first | rfl | simp [okB, lenV, plainV, Act.eval]) (fun _ _ => ?_); go_wp2_with fail
 go_at_call 29
 refine (ItoaAll_c m.kind W2 HMI.out.kind.1 HMI.out.kind.2 (HSt.out.below HO.out.base)).mono ?_; rintro e W3 ⟨rfl, hb⟩; replace HO := Lib.hid (HO.out.below hb); go_wp2_with fail
 refine ⟨hb, ?_⟩; clear hb; refine cl_call rfl rfl (by first | rfl | simp [okB, lenV, plainV, Act.eval]) (fun _ _ => ?_); go_wp2_with fail
 go_at_call 29
 refine (ItoaAll_c m.fr W3 HMI.out.fr.1 HMI.out.fr.2 (HSt.out.below HO.out.base)).mono ?_; rintro e W4 ⟨rfl, hb⟩; replace HO := Lib.hid (HO.out.below hb); go_wp2_with fail
 refine ⟨hb, ?_⟩; clear hb; refine cl_call rfl rfl (by first | rfl | simp [okB, lenV, plainV, Act.eval]) (fun _ _ => ?_); go_wp2_with fail
 go_at_call 29
 refine (ItoaAll_c m.un W4 HMI.out.un.1 HMI.out.un.2 (HSt.out.below HO.out.base)).mono ?_; rintro e W5 ⟨rfl, hb⟩; replace HO := Lib.hid (HO.out.below hb); go_wp2_with fail
 refine ⟨hb, ?_⟩; clear hb; refine cl_call rfl rfl (by first | rfl | simp [okB, lenV, plainV, Act.eval]) (fun _ _ => ?_); go_wp2_with fail
 go_at_call 29
 refine (ItoaAll_c m.wi W5 HMI.out.wi.1 HMI.out.wi.2 (HSt.out.below HO.out.base)).mono ?_; rintro e W6 ⟨rfl, hb⟩; replace HO := Lib.hid (HO.out.below hb); go_wp2_with fail
 refine ⟨hb, ?_⟩; clear hb; obtain ⟨hx0, ⟨f0, f1, f2, f3, f4, f5, f6⟩, c0, c1, c2, c3, c4, c5, c6⟩ := bx7 HO.out.swap.blk; have h2 := ((st5 HO.out.swap (.string (bs m.id)) (.string (bs m.auth)) (.string (bs m.target)) (.string (bs (Lib.itoa m.kind))) (.string (bs (Lib.itoa m.fr)))).store (i := 5) (.string (bs (Lib.itoa m.un)))).store (i := 6) (.string (bs (Lib.itoa m.wi))); have HF := Lib.hid h2; iterate 2 (refine cl_doA rfl rfl rfl (fun _ _ => ?_); go_wp2_with fail)
 refine cl_nil ?_; repeat (first | go_values | go_skip | go_guarded | go_step | go_upon)
 exact bodyPost_ret (seven_res rfl HF.out.blk.1) (by rfl) ⟨rfl, HF.out.base⟩
theorem u76 : Tryz.prog.underlying 76 = some (.array 7 9) := by kernel_rfl
theorem u9 : Tryz.prog.underlying 9 = some .string := by kernel_rfl
theorem a9 (W : World) : (isAgg 9).run Tryz.prog W = .ok false W := by kernel_rfl
theorem part9 (cs : Array Value) (i : Nat) (s : ByteArray) (h : cs[i]? = some (.string s)) (W : World) : (part 9 cs i).run Tryz.prog W = .ok (.string s) W := by
 unfold part; simp [a9, h, Result.andThen]
theorem eqS (d : Nat) (x y : ByteArray) (W : World) : (Op.equalIn (d + 1) 9 (.string x) (.string y)).run Tryz.prog W = .ok (x == y) W := by
 unfold Op.equalIn; simp [run_underlying u9, Result.andThen]
set_option maxRecDepth 20000 in
set_option maxHeartbeats 1000000 in
theorem eq7 (x0 x1 x2 x3 x4 x5 x6 y0 y1 y2 y3 y4 y5 y6 : ByteArray) (W : World) :
   (Op.equalIn 10000 76 (.agg #[.string x0, .string x1, .string x2, .string x3, .string x4, .string x5, .string x6]) (.agg #[.string y0, .string y1, .string y2, .string y3, .string y4, .string y5, .string y6])).run Tryz.prog W = .ok (x0 == y0 && (x1 == y1 && (x2 == y2 && (x3 == y3 && (x4 == y4 && (x5 == y5 && x6 == y6)))))) W := by
  rw [show (10000 : Nat) = 9998 + 1 + 1 from rfl]
  unfold Op.equalIn
  simp only [run_underlying u76, Result.andThen, Sem.run_bind]
  generalize hx : (#[.string x0, .string x1, .string x2, .string x3, .string x4, .string x5, .string x6] : Array Value) = xs
  generalize hy : (#[.string y0, .string y1, .string y2, .string y3, .string y4, .string y5, .string y6] : Array Value) = ys
  have px0 := part9 xs 0 x0 (by rw [<- hx]; rfl)
  have px1 := part9 xs 1 x1 (by rw [<- hx]; rfl)
  have px2 := part9 xs 2 x2 (by rw [<- hx]; rfl)
  have px3 := part9 xs 3 x3 (by rw [<- hx]; rfl)
  have px4 := part9 xs 4 x4 (by rw [<- hx]; rfl)
  have px5 := part9 xs 5 x5 (by rw [<- hx]; rfl)
  have px6 := part9 xs 6 x6 (by rw [<- hx]; rfl)
  have py0 := part9 ys 0 y0 (by rw [<- hy]; rfl)
  have py1 := part9 ys 1 y1 (by rw [<- hy]; rfl)
  have py2 := part9 ys 2 y2 (by rw [<- hy]; rfl)
  have py3 := part9 ys 3 y3 (by rw [<- hy]; rfl)
  have py4 := part9 ys 4 y4 (by rw [<- hy]; rfl)
  have py5 := part9 ys 5 y5 (by rw [<- hy]; rfl)
  have py6 := part9 ys 6 y6 (by rw [<- hy]; rfl)
  clear hx hy
  have es := eqS 9998
  have hr : List.range' 0 7 = [0, 1, 2, 3, 4, 5, 6] := rfl
  cases h0 : x0 == y0
  · simp [hr, List.forIn_cons, Result.andThen, px0, py0, px1, py1, px2, py2, px3, py3, px4, py4, px5, py5, px6, py6, es, h0]
  cases h1 : x1 == y1
  · simp [hr, List.forIn_cons, Result.andThen, px0, py0, px1, py1, px2, py2, px3, py3, px4, py4, px5, py5, px6, py6, es, h0, h1]
  cases h2 : x2 == y2
  · simp [hr, List.forIn_cons, Result.andThen, px0, py0, px1, py1, px2, py2, px3, py3, px4, py4, px5, py5, px6, py6, es, h0, h1, h2]
  cases h3 : x3 == y3
  · simp [hr, List.forIn_cons, Result.andThen, px0, py0, px1, py1, px2, py2, px3, py3, px4, py4, px5, py5, px6, py6, es, h0, h1, h2, h3]
  cases h4 : x4 == y4
  · simp [hr, List.forIn_cons, Result.andThen, px0, py0, px1, py1, px2, py2, px3, py3, px4, py4, px5, py5, px6, py6, es, h0, h1, h2, h3, h4]
  cases h5 : x5 == y5
  · simp [hr, List.forIn_cons, Result.andThen, px0, py0, px1, py1, px2, py2, px3, py3, px4, py4, px5, py5, px6, py6, es, h0, h1, h2, h3, h4, h5]
  cases h6 : x6 == y6
  · simp [hr, List.forIn_cons, Result.andThen, px0, py0, px1, py1, px2, py2, px3, py3, px4, py4, px5, py5, px6, py6, es, h0, h1, h2, h3, h4, h5, h6]
  simp [hr, List.forIn_cons, Result.andThen, px0, py0, px1, py1, px2, py2, px3, py3, px4, py4, px5, py5, px6, py6, es, h0, h1, h2, h3, h4, h5, h6]
theorem bs_beq (a b : Bytes) : (bs a == bs b) = decide (a = b) := by
 have h : (bs a == bs b) = (a.toArray == b.toArray) := rfl; rw [h]; by_cases h : a = b <;> simp [h]
set_option maxRecDepth 100000 in
set_option maxHeartbeats 4000000 in
theorem mSame_c {p : Nat -> Prop} (a b : Me) (ka kb : Value) (w : World) (hst : Std w) (hfa : IsFm p w a.cond ka) (hfb : IsFm p w b.cond kb) (ha : MeInt a) (hb : MeInt b) (hsa : Go.Cz.Fo.size a.cond <= 900000) (hsb : Go.Cz.Fo.size b.cond <= 900000) :
  Calls Tryz.prog 13 #[mval a ka, mval b kb] w fun e w' => e = .returned (.bool (sameM a b)) /\ Below w.heap.size w w' := by
 have HSt := Lib.hid hst; have HA := Lib.hid ha; have HB := Lib.hid hb; have HFA := Lib.hid hfa; have HFB := Lib.hid hfb; have HSA := Lib.hid hsa; have HSB := Lib.hid hsb; obtain ⟨y, c, rfl⟩ := hfa.form; obtain ⟨y', c', rfl⟩ := hfb.form; obtain ⟨n, hn⟩ : ∃ n, n = a.cond.kids.length := ⟨_, rfl⟩; obtain ⟨n', hn'⟩ : ∃ n, n = b.cond.kids.length := ⟨_, rfl⟩; rw [<- hn] at HFA ⊢; rw [<- hn'] at HFB ⊢; clear hst ha hb hfa hfb hsa hsb hn hn'; obtain ⟨bx, hbx⟩ : ∃ bx, bx = w.heap.size := ⟨_, rfl⟩; obtain ⟨by0, hby⟩ : ∃ b2, b2 = w.heap.size + 1 := ⟨_, rfl⟩; obtain ⟨W1, hW1⟩ : ∃ W1, W1 = (w.alloc (mobj a (.slice y n c))).alloc (mobj b (.slice y' n' c')) := ⟨_, rfl⟩; have HO : Hid (Owns w W1 [blk bx (mobj a (.slice y n c)), blk by0 (mobj b (.slice y' n' c'))]) := by
  have h := ((Owns.start w).box (mobj a (.slice y n c))).box (mobj b (.slice y' n' c')); rw [World.size_alloc] at h; rw [hW1, hbx, hby]; exact Lib.hid h.swap
 go_enter Tryz.func13, Tryz.ntmps13
 go_upto_region 2 with fail
 rw [<- hby, <- hW1, <- hbx]; clear hW1 hbx hby; replace HO := Lib.hid HO.out.drew; obtain ⟨W2, hW2⟩ : ∃ W, W = World.drew W1 := ⟨_, rfl⟩; refine wp_region_pan 15 rfl (by decide +kernel) ?_; rw [<- hW2] at HO ⊢; clear hW2; refine pw_take 0 rfl (by decide +kernel) (by decide +kernel) (by decide +kernel) (fun _ _ _ h => h) rfl (fun _ => rfl) ?_; refine pw_take 3 rfl (by decide +kernel) (by decide +kernel) (by decide +kernel) (fun _ _ _ h => h) rfl (fun _ => rfl) ?_; go_simp
 apply cut1 (Hyp := fun W => Hid (Owns w W [blk bx (mobj a (.slice y n c)), blk by0 (mobj b (.slice y' n' c'))]))
 focus
  intro key
  (try clear hcx c0 c1 c2 c3 c4 c5 c6 c7 c8 c9 ct cu)
  obtain ⟨hcx, -, c0, c1, c2, c3, c4, c5, c6, c7, c8, c9, ct, cu⟩ := bx12 (Owns.blk (HO.out))
  (try clear hdx d0 d1 d2 d3 d4 d5 d6 d7 d8 d9 dt du)
  obtain ⟨hdx, -, d0, d1, d2, d3, d4, d5, d6, d7, d8, d9, dt, du⟩ := bx12 (Owns.blk (HO.out.pop)); refine pw_two 1 4 (by decide +kernel) ?_ ?_
  ·refine pw_do rfl rfl (fun _ _ => ?_); go_wp2_with fail; refine pw_two 2 4 (by decide +kernel) ?_ ?_
   ·refine pw_do rfl rfl (fun _ _ => ?_); go_wp2_with fail; clear hcx c0 c1 c2 c3 c4 c5 c6 c7 c8 c9 ct cu hdx d0 d1 d2 d3 d4 d5 d6 d7 d8 d9 dt du; go_at_call 41
    refine (fields_c a y n c W2 (HSt.out.below HO.out.base) HA.out).mono ?_; rintro e W3 ⟨rfl, hb⟩; have HO3 := Lib.hid (HO.out.below hb); clear hb; replace HO := HO3; clear HO3
    (try clear hcx c0 c1 c2 c3 c4 c5 c6 c7 c8 c9 ct cu)
    obtain ⟨hcx, -, c0, c1, c2, c3, c4, c5, c6, c7, c8, c9, ct, cu⟩ := bx12 (Owns.blk (HO.out))
    (try clear hdx d0 d1 d2 d3 d4 d5 d6 d7 d8 d9 dt du)
    obtain ⟨hdx, -, d0, d1, d2, d3, d4, d5, d6, d7, d8, d9, dt, du⟩ := bx12 (Owns.blk (HO.out.pop)); go_wp2_with fail
    refine pw_one 4 (by decide +kernel) ?_; refine pw_do rfl rfl (fun _ _ => ?_); go_wp2_with fail; refine pw_at #[true, true, true, true, true, false, false, false, false, false, false, false, false, false, false] (by decide +kernel) ?_; exact key _ HO
   ·refine pw_do rfl rfl (fun _ _ => ?_); go_wp2_with fail; refine pw_one 2 (by decide +kernel) ?_; refine pw_do rfl rfl (fun _ _ => ?_); go_wp2_with fail; clear hcx c0 c1 c2 c3 c4 c5 c6 c7 c8 c9 ct cu hdx d0 d1 d2 d3 d4 d5 d6 d7 d8 d9 dt du; go_at_call 41
    refine (fields_c a y n c W2 (HSt.out.below HO.out.base) HA.out).mono ?_; rintro e W3 ⟨rfl, hb⟩; have HO3 := Lib.hid (HO.out.below hb); clear hb; go_wp2_with fail
    refine pw_at #[true, true, true, true, true, false, false, false, false, false, false, false, false, false, false] (by decide +kernel) ?_; exact key _ HO3
  ·refine pw_do rfl rfl (fun _ _ => ?_); go_wp2_with fail; refine pw_one 1 (by decide +kernel) ?_; refine pw_do rfl rfl (fun _ _ => ?_); go_wp2_with fail; refine pw_one 2 (by decide +kernel) ?_; refine pw_do rfl rfl (fun _ _ => ?_); go_wp2_with fail; clear hcx c0 c1 c2 c3 c4 c5 c6 c7 c8 c9 ct cu hdx d0 d1 d2 d3 d4 d5 d6 d7 d8 d9 dt du; go_at_call 41
   refine (fields_c a y n c W2 (HSt.out.below HO.out.base) HA.out).mono ?_; rintro e W3 ⟨rfl, hb⟩; have HO3 := Lib.hid (HO.out.below hb); clear hb; go_wp2_with fail
   refine pw_at #[true, true, true, true, true, false, false, false, false, false, false, false, false, false, false] (by decide +kernel) ?_; exact key _ HO3
 clear HO; intro W3 HO; refine pw_one 5 (by decide +kernel) ?_; refine pw_do rfl rfl (fun _ _ => ?_); go_wp2_with fail; go_at_call 41
 refine (fields_c b y' n' c' W3 (HSt.out.below HO.out.base) HB.out).mono ?_; rintro e W4 ⟨rfl, hb⟩; replace HO := Lib.hid (HO.out.below hb); clear hb; go_wp2_with fail
 refine pw_one 6 (by decide +kernel) ?_; have e7 := eq7 (bs a.id) (bs a.auth) (bs a.target) (bs (Lib.itoa a.kind)) (bs (Lib.itoa a.fr)) (bs (Lib.itoa a.un)) (bs (Lib.itoa a.wi)) (bs b.id) (bs b.auth) (bs b.target) (bs (Lib.itoa b.kind)) (bs (Lib.itoa b.fr)) (bs (Lib.itoa b.un)) (bs (Lib.itoa b.wi)) W4; obtain ⟨q, hq⟩ : ∃ q, q = (bs a.id == bs b.id && (bs a.auth == bs b.auth && (bs a.target == bs b.target && (bs (Lib.itoa a.kind) == bs (Lib.itoa b.kind) && (bs (Lib.itoa a.fr) == bs (Lib.itoa b.fr) && (bs (Lib.itoa a.un) == bs (Lib.itoa b.un) && bs (Lib.itoa a.wi) == bs (Lib.itoa b.wi))))))) := ⟨_, rfl⟩; rw [<- hq] at e7; have HQ : Hid (sameM a b = (q && sameF a.cond b.cond)) := by
  show _ = _; rw [hq, sameM]; simp only [bs_beq, itoa_same]; by_cases h1 : a.id = b.id <;> by_cases h2 : a.auth = b.auth <;> by_cases h3 : a.target = b.target <;> by_cases h4 : a.kind = b.kind <;> by_cases h5 : a.fr = b.fr <;> by_cases h6 : a.un = b.un <;> by_cases h7 : a.wi = b.wi <;> simp [h1, h2, h3, h4, h5, h6, h7]
 clear hq; refine pw_do rfl rfl (fun _ _ => ?_); go_wp2_with fail; clear e7; refine pw_take 7 rfl (by decide +kernel) (by decide +kernel) (by decide +kernel) (fun _ _ _ h => h) rfl (fun _ => rfl) ?_; go_simp
 cases q
 ·have HE : Hid (sameM a b = false) := by show _ = _; rw [HQ.out]; rfl
  refine pw_skip 8 rfl (by decide +kernel) (by decide +kernel) (by decide +kernel) (fun _ _ _ h => h) rfl rfl ?_; refine pw_skip 9 rfl (by decide +kernel) (by decide +kernel) (by decide +kernel) (fun _ _ _ h => h) rfl rfl ?_; refine pw_skip 10 rfl (by decide +kernel) (by decide +kernel) (by decide +kernel) (fun _ _ _ h => h) rfl rfl ?_; refine pw_skip 11 rfl (by decide +kernel) (by decide +kernel) (by decide +kernel) (fun _ _ _ h => h) rfl rfl ?_; refine pw_skip 12 rfl (by decide +kernel) (by decide +kernel) (by decide +kernel) (fun _ _ _ h => h) rfl rfl ?_; go_simp
  refine pw_one 13 (by decide +kernel) ?_; refine pw_do rfl rfl (fun _ _ => ?_); go_wp2_with fail; refine pw_one 14 (by decide +kernel) ?_; refine pw_do rfl rfl (fun _ _ => ?_); go_wp2_with fail; refine pw_nil (by decide +kernel) ?_; go_wp2_with fail
  go_ret
  exact ⟨by rw [HE.out]; rfl, HO.out.base⟩
 refine pw_ytake 8 (v := .pointer (some ⟨bx, 4, none⟩)) rfl (by decide +kernel) (by decide +kernel) (by decide +kernel) (fun _ _ _ h => h) rfl rfl (fun _ => by kernel_rfl) ?_; refine pw_ytake 10 (v := .pointer (some ⟨by0, 4, none⟩)) rfl (by decide +kernel) (by decide +kernel) (by decide +kernel) (fun _ _ _ h => h) rfl rfl (fun _ => by kernel_rfl) ?_; go_simp
 (try clear hcx c0 c1 c2 c3 c4 c5 c6 c7 c8 c9 ct cu)
 obtain ⟨hcx, -, c0, c1, c2, c3, c4, c5, c6, c7, c8, c9, ct, cu⟩ := bx12 (Owns.blk (HO.out))
 (try clear hdx d0 d1 d2 d3 d4 d5 d6 d7 d8 d9 dt du)
 obtain ⟨hdx, -, d0, d1, d2, d3, d4, d5, d6, d7, d8, d9, dt, du⟩ := bx12 (Owns.blk (HO.out.pop))
 apply once
 focus
  intro key; refine pw_two 9 11 (by decide +kernel) ?_ ?_
  ·refine pw_yes rfl rfl rfl (fun _ _ => ?_); go_wp2_with fail; refine pw_one 11 (by decide +kernel) ?_; refine pw_yes rfl rfl rfl (fun _ _ => ?_); go_wp2_with fail; refine pw_at #[true, true, true, true, true, true, true, true, true, true, true, true, false, false, false] (by decide +kernel) ?_; exact key.out
  ·refine pw_yes rfl rfl rfl (fun _ _ => ?_); go_wp2_with fail; refine pw_one 9 (by decide +kernel) ?_; refine pw_yes rfl rfl rfl (fun _ _ => ?_); go_wp2_with fail; refine pw_at #[true, true, true, true, true, true, true, true, true, true, true, true, false, false, false] (by decide +kernel) ?_; exact key.out
 clear hcx c0 c1 c2 c3 c4 c5 c6 c7 c8 c9 ct cu hdx d0 d1 d2 d3 d4 d5 d6 d7 d8 d9 dt du; refine pw_one 12 (by decide +kernel) ?_; refine pw_yes rfl rfl rfl (fun _ _ => ?_); go_wp2_with fail; go_at_call 15
 refine (Same_c w a.cond b.cond W4 _ _ HO.out.base HFA.out HFB.out HSA.out HSB.out).mono ?_; rintro e W5 ⟨rfl, hb⟩; replace HO := Lib.hid (HO.out.below hb); clear hb; go_wp2_with fail
 refine pw_one 13 (by decide +kernel) ?_; refine pw_do rfl rfl (fun _ _ => ?_); go_wp2_with fail; refine pw_one 14 (by decide +kernel) ?_; refine pw_do rfl rfl (fun _ _ => ?_); go_wp2_with fail; refine pw_nil (by decide +kernel) ?_; go_wp2_with fail
 go_ret
 exact ⟨by rw [HQ.out]; rfl, HO.out.base⟩
end Go.Proofs.YtoeknmkephnekaaGreatDoor
namespace Go.Cz.Vd
open Go.Cz.Lx Go.Cz.Fo Go.Proofs.YtoeknmkephnekaaGreatDoor
def capF (t : Nat) (f : Fm) : Nat := if short 100 f = true /\ size f <= t then size f else t + 1
def capK (t : Nat) (ks : List Fm) : Nat := if shorts 100 ks = true /\ 1 + sizes ks <= t then 1 + sizes ks else t + 1
theorem capK_nil (t : Nat) : capK t [] = 1 := by unfold capK; simp only [sizes, shorts, true_and]; split <;> omega
theorem capF_le (t : Nat) (f : Fm) : capF t f <= t + 1 := by unfold capF; split <;> omega
theorem capK_next {t c k : Nat} {ks : List Fm} {q : Fm} (hq : ks[k]? = some q) (hc : capK t (ks.take k) = c) (h : c <= t) : capK t (ks.take (k + 1)) = c + capF (t - c) q := by
 have hg : shorts 100 (ks.take k) = true /\ 1 + sizes (ks.take k) <= t := Decidable.byContradiction fun hn => by
  unfold capK at hc; rw [if_neg hn] at hc; omega
 have hc2 : 1 + sizes (ks.take k) = c := by
  unfold capK at hc; rw [if_pos hg] at hc; exact hc
 unfold capK capF; rw [shorts_take hq, sizes_take hq, hg.1, Bool.true_and]; by_cases h1 : short 100 q = true
 ·by_cases h2 : size q <= t - c
  ·rw [if_pos ⟨h1, by omega⟩, if_pos ⟨h1, h2⟩]; omega
  ·rw [if_neg (fun h => h2 (by omega)), if_neg (fun h => h2 h.2)]; omega
 ·rw [if_neg (fun h => h1 h.1), if_neg (fun h => h1 h.1)]; omega
theorem shorts_part {n : Nat} {ks : List Fm} {j : Nat} (h : shorts n ks = true) : shorts n (ks.take j) = true := by
 by_cases hx : shorts n (ks.take j) = true
 ·exact hx
 ·exfalso
  apply hx
  clear hx
  induction ks generalizing j with
  | nil => simpa using h
  | cons a r ih =>
   rw [shorts, Bool.and_eq_true] at h; cases j with
   | zero => rfl
   | succ j => rw [List.take_succ_cons, shorts, h.1, ih h.2]; rfl
theorem capF_bad {t k : Nat} {f : Fm} (hc : t < capK t (f.kids.take k)) : capF t f = t + 1 := by
 unfold capF; rw [if_neg]; rintro ⟨h1, h2⟩; rw [short_kids, Bool.and_eq_true] at h1; rw [size_kids] at h2; have h3 := sizes_le f.kids k; have h4 : capK t (f.kids.take k) = 1 + sizes (f.kids.take k) := by
  unfold capK; rw [if_pos ⟨shorts_part h1.1, by omega⟩]
 omega
theorem capF_all {t : Nat} {f : Fm} (hn : f.name.length <= 100) : capF t f = capK t f.kids := by
 unfold capF capK; rw [short_kids, size_kids]; simp only [hn, decide_true, Bool.and_true]; have : sizes f.kids + 1 = 1 + sizes f.kids := by omega
 rw [this]
theorem capF_long {t : Nat} {f : Fm} (hn : ¬ f.name.length <= 100) : capF t f = t + 1 := by
 unfold capF; rw [short_kids]; simp [hn]
def smallB (t : Nat) (f : Fm) : Bool := short 100 f && decide (size f <= t)
theorem capF_iff (t : Nat) (f : Fm) : decide (capF t f <= t) = smallB t f := by
 unfold capF smallB; by_cases h1 : short 100 f = true
 ·by_cases h2 : size f <= t
  ·simp [h1, h2]
  ·simp [h1, h2]
 ·simp [h1]
def fewM (t : Nat) (m : Me) : Bool := decide (m.id.length <= 100) && (decide (m.auth.length <= 100) && (decide (m.target.length <= 100) && smallB t m.cond))
end Go.Cz.Vd
namespace Go.Proofs.YtoeknmkephnekaaGreatDoor
open Go.RowKit Go.Cz Go.Cz.Lx Go.Cz.Fo Go.Cz.Vd
attribute [local go_sem] bs_size bs_extract bs_append bs_toList
attribute [local irreducible] cList cPlan
section
variable {p : Nat -> Prop}
set_option maxRecDepth 100000 in
set_option maxHeartbeats 4000000 in
theorem size30_c (f : Fm) : ∀ (w : World) (kv : Value) (t : Nat), IsFm p w f kv -> t <= 100000 -> short 140737488355328 f = true ->
  Calls Tryz.prog 99 #[fval f kv, .int .i64 (t : Int)] w (fun e w' => e = .returned (.int .i64 (capF t f : Nat)) /\ Below w.heap.size w w') := by
 refine Fm.induct (P := fun f => ∀ (w : World) (kv : Value) (t : Nat), IsFm p w f kv -> t <= 100000 -> short 140737488355328 f = true ->
  Calls Tryz.prog 99 #[fval f kv, .int .i64 (t : Int)] w (fun e w' => e = .returned (.int .i64 (capF t f : Nat)) /\ Below w.heap.size w w')) ?_ f
 clear f; intro f ih w kv t hf ht hsh; have HI := Lib.hid ih; have HSh := Lib.hid hsh; have hnl : f.name.length <= 140737488355328 := short_name hsh; clear hsh; obtain ⟨y, m, rfl⟩ := hf.form; obtain ⟨N, hN⟩ : ∃ N, N = f.kids.length := ⟨_, rfl⟩; have HN := Lib.hid hN; rw [<- hN] at hf ⊢; have HF := Lib.hid hf; clear hN hf; obtain ⟨W1, hW1⟩ : ∃ W1, W1 = w.alloc (fobj f (.slice y N m)) := ⟨_, rfl⟩; obtain ⟨bf, hbf⟩ : ∃ bf, bf = w.heap.size := ⟨_, rfl⟩; have HO : Hid (Owns w W1 [blk bf (fobj f (.slice y N m))]) := by
  rw [hW1, hbf]; exact Lib.hid ((Owns.start w).box _)
 clear ih; by_cases hn : f.name.length <= 100
 rotate_left
 ·have HE : Hid (capF t f = t + 1) := capF_long hn; have hn2 : (100 : Int) < (f.name.length : Int) := by omega
  clear hn; go_enter Tryz.func99, Tryz.ntmps99
  go_upto_region 1 with fail
  rw [<- hW1, <- hbf]; clear hW1 hbf; obtain ⟨hbf, -, -, cb1, -, -, cb4⟩ := bx5 HO.out.blk; go_wp2_with fail
  go_ret
  exact ⟨by rw [HE.out]; rfl, HO.out.base⟩
 have HA : Hid (capF t f = capK t f.kids) := capF_all hn; have hn2 : ¬ (100 : Int) < (f.name.length : Int) := by omega
 clear hn; go_enter Tryz.func99, Tryz.ntmps99
 go_upto_region 1 with fail
 rw [<- hW1, <- hbf]; clear hW1 hbf
 focus
  obtain ⟨hbf, -, -, cb1, -, -, cb4⟩ := bx5 HO.out.blk; go_wp2_with fail
  clear hbf cb1 cb4 hn2 hnl
 have H0 : Hid (capK t (f.kids.take 0) = 1) := Lib.hid (by rw [List.take_zero]; exact capK_nil t); go_loopg [5, 6] N (fun gk a i wr => ∃ k c : Nat, gk = N - k /\ k <= N /\ i = .int .i64 (k : Int) /\ a = .int .i64 (c : Int) /\ c <= t + 1 /\ Hid (capK t (f.kids.take k) = c) /\ Hid (Owns w wr [blk bf (fobj f (.slice y N m))]))
 case atStart => exact ⟨0, 1, rfl, Nat.zero_le _, rfl, rfl, by omega, H0, HO⟩
 case round =>
  rename_i J1 K1 hJ1 hK1; clear HO H0; obtain ⟨k, c, rfl, hk, rfl, rfl, hc, HC, HO⟩ := hrel; obtain ⟨hbf, -, -, cb1, -, -, cb4⟩ := bx5 HO.out.blk; by_cases hlt : k < N
  ·by_cases hct : c <= t
   ·have hct' : (c : Int) <= (t : Int) := by omega
    obtain ⟨q, hq⟩ : ∃ q, f.kids[k]? = some q := ⟨_, List.getElem?_eq_getElem (by rw [<- HN.out]; exact hlt)⟩; obtain ⟨g, off, kv, rfl, hg, hkv, c0, c1, c2, c3, c4⟩ := HF.out.old HO.out.base hq; obtain ⟨y2, m2, rfl⟩ := hkv.form; have HQ := Lib.hid hq; have HK := Lib.hid hkv; clear hq hkv; obtain ⟨N2, hN2⟩ : ∃ N2, N2 = q.kids.length := ⟨_, rfl⟩; rw [<- hN2] at c4 HK; clear hN2; have HLt := Lib.hid hlt; obtain ⟨r, hr⟩ : ∃ r, r = t - c := ⟨_, rfl⟩; have er : (t : Int) - (c : Int) = (r : Int) := by omega
    have HNx := Lib.hid (capK_next HQ.out HC.out hct); rw [<- hr] at HNx; have HR := Lib.hid hr; clear hr; have hk9 : k <= 100000 := by
     have h0 := HC.out; unfold capK at h0; have := length_sizes (f.kids.take k); rw [List.length_take] at this; have := HN.out
     split at h0 <;> omega
    go_wp2_with fail
    refine (HI.out q (List.mem_of_getElem? HQ.out) wr _ r (HK.out.later HO.out.base) (by omega) (short_kid HSh.out (List.mem_of_getElem? HQ.out))).mono ?_; rintro e W2 ⟨rfl, hb⟩; have HO2 := Lib.hid (HO.out.below hb); have hxl := capF_le r q; obtain ⟨x, hx⟩ : ∃ x, x = capF r q := ⟨_, rfl⟩; rw [<- hx] at HNx hxl ⊢; obtain ⟨c', hc'⟩ : ∃ c', c' = c + x := ⟨_, rfl⟩; have ec : (c : Int) + (x : Int) = (c' : Int) := by omega
    have hc9 : c' <= t + 1 := by have := HR.out; omega
    rw [<- hc'] at HNx; clear hx hc' hb HO HC c0 c1 c2 c3 c4 cb1 cb4 hbf; go_wp2_with fail
    go_roundg (N - (k + 1))
    case measure => omega
    case rel => exact ⟨k + 1, c', rfl, by omega, by go_num, rfl, hc9, HNx, HO2⟩
   ·have hct' : ¬ (c : Int) <= (t : Int) := by omega
    have HE : Hid (capF t f = c) := by
     show _ = _; rw [capF_bad (k := k) (by rw [HC.out]; omega)]; omega
    clear hJ1 hK1 hct; go_wp2_with fail
    go_ret
    exact ⟨by rw [HE.out]; rfl, HO.out.base⟩
  ·obtain rfl : k = N := by omega
   have HE : Hid (capF t f = c) := by
    show _ = _; have h1 := HC.out; rw [HN.out, List.take_length] at h1; rw [HA.out, h1]
   clear hJ1 hK1 hlt; go_wp2_with fail
   go_ret
   exact ⟨by rw [HE.out]; rfl, HO.out.base⟩
theorem Small30_c (f : Fm) (w : World) (kv : Value) (t : Nat) (hf : IsFm p w f kv) (ht : t <= 100000) (hs : short 140737488355328 f = true) : Calls Tryz.prog 65 #[fval f kv, .int .i64 (t : Int)] w (fun e w' => e = .returned (.bool (smallB t f)) /\ Below w.heap.size w w') := by
 have HS := Lib.hid hs; clear hs; obtain ⟨y, m, rfl⟩ := hf.form; obtain ⟨N, hN⟩ : ∃ N, N = f.kids.length := ⟨_, rfl⟩; have HN := Lib.hid hN; rw [<- hN] at hf ⊢; have HF := Lib.hid hf; clear hN hf; obtain ⟨W1, hW1⟩ : ∃ W1, W1 = w.alloc (fobj f (.slice y N m)) := ⟨_, rfl⟩; obtain ⟨bf, hbf⟩ : ∃ bf, bf = w.heap.size := ⟨_, rfl⟩; have HO : Hid (Owns w W1 [blk bf (fobj f (.slice y N m))]) := by
  rw [hW1, hbf]; exact Lib.hid ((Owns.start w).box _)
 go_enter Tryz.func65, Tryz.ntmps65
 go_wp2_with fail
 rw [<- hW1]; clear hW1 hbf; go_at_call 99
 refine (size30_c f W1 _ t (HF.out.later HO.out.base) ht HS.out).mono ?_; rintro e W2 ⟨rfl, hb⟩; have HB := Lib.hid (HO.out.base.trans (hb.mono HO.out.base.size)); obtain ⟨c, hc⟩ : ∃ c, c = capF t f := ⟨_, rfl⟩; rw [<- hc]; have HC := Lib.hid hc; clear hb HO hc; go_wp2_with fail
 go_ret
 exact ⟨congrArg (fun b => Ending.returned (Value.bool b)) (show decide (c <= t) = smallB t f by rw [HC.out]; exact capF_iff t f), HB.out⟩
set_option maxRecDepth 100000 in
set_option maxHeartbeats 4000000 in
theorem Few30_c (m : Me) (kv : Value) (t : Nat) (w : World) (hf : IsFm p w m.cond kv) (ht : t <= 100000) (hm : MeLen m) (hs : short 140737488355328 m.cond = true) :
  Calls Tryz.prog 24 #[mval m kv, .int .i64 (t : Int)] w fun e w' => e = .returned (.bool (fewM t m)) /\ Below w.heap.size w w' := by
 have HS := Lib.hid hs; have HF := Lib.hid hf; obtain ⟨y, c, rfl⟩ := hf.form; obtain ⟨n, hn⟩ : ∃ n, n = m.cond.kids.length := ⟨_, rfl⟩; rw [<- hn] at HF ⊢; have l0 := hm.id; have l1 := hm.auth; have l2 := hm.target; clear hf hs hn hm; obtain ⟨bx, hbx⟩ : ∃ bx, bx = w.heap.size := ⟨_, rfl⟩; obtain ⟨W1, hW1⟩ : ∃ W1, W1 = w.alloc (mobj m (.slice y n c)) := ⟨_, rfl⟩; have HO : Hid (Owns w W1 [blk bx (mobj m (.slice y n c))]) := by
  rw [hW1, hbx]; exact Lib.hid ((Owns.start w).box (mobj m (.slice y n c)))
 by_cases h0 : m.id.length <= 100
 rotate_left
 ·have h0' : ¬ (m.id.length : Int) <= 100 := by omega
  have HE : Hid (fewM t m = false) := by
   show _ = _; unfold fewM; rw [decide_eq_false h0]; simp
  clear h0; go_enter Tryz.func24, Tryz.ntmps24
  go_upto_region 1 with fail
  rw [<- hW1, <- hbx]; clear hW1 hbx; obtain ⟨hbx, -, c0, c1, -, c3, c4, c5, c6, c7, c8⟩ := bx9 HO.out.blk; go_wp2_with fail
  go_ret
  exact ⟨by rw [HE.out]; rfl, HO.out.base⟩
 have h0' : (m.id.length : Int) <= 100 := by omega
 by_cases h1 : m.auth.length <= 100
 rotate_left
 ·have h1' : ¬ (m.auth.length : Int) <= 100 := by omega
  have HE : Hid (fewM t m = false) := by
   show _ = _; unfold fewM; rw [decide_eq_false h1]; simp
  clear h1; go_enter Tryz.func24, Tryz.ntmps24
  go_upto_region 1 with fail
  rw [<- hW1, <- hbx]; clear hW1 hbx; obtain ⟨hbx, -, c0, c1, -, c3, c4, c5, c6, c7, c8⟩ := bx9 HO.out.blk; go_wp2_with fail
  go_ret
  exact ⟨by rw [HE.out]; rfl, HO.out.base⟩
 have h1' : (m.auth.length : Int) <= 100 := by omega
 by_cases h2 : m.target.length <= 100
 rotate_left
 ·have h2' : ¬ (m.target.length : Int) <= 100 := by omega
  have HE : Hid (fewM t m = false) := by
   show _ = _; unfold fewM; rw [decide_eq_false h2]; simp
  clear h2; go_enter Tryz.func24, Tryz.ntmps24
  go_upto_region 1 with fail
  rw [<- hW1, <- hbx]; clear hW1 hbx; obtain ⟨hbx, -, c0, c1, -, c3, c4, c5, c6, c7, c8⟩ := bx9 HO.out.blk; go_wp2_with fail
  go_ret
  exact ⟨by rw [HE.out]; rfl, HO.out.base⟩
 have h2' : (m.target.length : Int) <= 100 := by omega
 have HE : Hid (fewM t m = smallB t m.cond) := by
  show _ = _; unfold fewM; simp [h0, h1, h2]
 clear h0 h1 h2; go_enter Tryz.func24, Tryz.ntmps24
 go_upto_region 1 with fail
 rw [<- hW1, <- hbx]; clear hW1 hbx; obtain ⟨hbx, -, c0, c1, -, c3, c4, c5, c6, c7, c8⟩ := bx9 HO.out.blk; go_wp2_with fail
 go_at_call 65
 refine (Small30_c m.cond W1 _ t (HF.out.later HO.out.base) ht HS.out).mono ?_; rintro e W2 ⟨rfl, hb⟩; replace HO := Lib.hid (HO.out.below hb); clear hb; go_wp2_with fail
 go_ret
 exact ⟨by rw [HE.out]; rfl, HO.out.base⟩
def fewL (l : List Me) : Bool := l.all (fewM 60)
set_option maxRecDepth 100000 in
set_option maxHeartbeats 4000000 in
theorem fewL_c (l : List Me) (v : Value) (w : World) (hr : IsMeR w l v) (hl : l.length <= 1000) (hm : ∀ m ∈ l, MeLen m /\ short 140737488355328 m.cond = true) :
  Calls Tryz.prog 10 #[v] w fun e w' => e = .returned (.bool (fewL l)) /\ Below w.heap.size w w' := by
 obtain ⟨y, c, rfl⟩ := hr.form; obtain ⟨N, hN⟩ : ∃ N, N = l.length := ⟨_, rfl⟩; rw [<- hN] at hr hl ⊢; have HR := Lib.hid hr; have HM := Lib.hid hm; have HN := Lib.hid hN; clear hr hm hN; go_enter Tryz.func10, Tryz.ntmps10
 go_wp2_with fail
 have H0 : Hid (fewL (l.take 0) = true) := Lib.hid rfl; go_loopg [3] N (fun gk i wr => ∃ k : Nat, gk = N - k /\ k <= N /\ i = .int .i64 (k : Int) /\ Hid (fewL (l.take k) = true) /\ Hid (Below w.heap.size w wr))
 case atStart => exact ⟨0, rfl, Nat.zero_le _, rfl, H0, Lib.hid (Below.refl _ _)⟩
 case round =>
  rename_i J1 K1 hJ1 hK1; clear H0; obtain ⟨k, rfl, hk, rfl, HT, HB⟩ := hrel; by_cases hlt : k < N
  ·obtain ⟨m, hmk⟩ : ∃ m, l[k]? = some m := ⟨_, List.getElem?_eq_getElem (by rw [<- HN.out]; exact hlt)⟩; obtain ⟨g, off, kv, rfl, hg, ha, hf⟩ := HR.out.get HB.out hmk; obtain ⟨y2, m2, rfl⟩ := hf.form; obtain ⟨n2, hn2⟩ : ∃ n, n = m.cond.kids.length := ⟨_, rfl⟩; rw [<- hn2] at ha hf; have HFm := Lib.hid hf; have HK := Lib.hid hmk; obtain ⟨d0, d1, d2, d3, d4, d5, d6, d7, d8, d9, d10, d11⟩ := ha; have HX : Hid (fewL (l.take (k + 1)) = fewM 60 m) := by
    show _ = _; unfold fewL; rw [List.take_add_one, HK.out, List.all_append]; have := HT.out; unfold fewL at this; rw [this]; simp
   clear hf hn2 hmk; go_wp2_with fail
   clear d0 d1 d2 d3 d4 d5 d6 d7 d8 d9 d10 d11 hg; go_at_call 24
   refine (Few30_c m _ 60 wr HFm.out (by omega) (HM.out m (List.mem_of_getElem? HK.out)).1 (HM.out m (List.mem_of_getElem? HK.out)).2).mono ?_; rintro e W2 ⟨rfl, hb⟩; replace HB := Lib.hid (HB.out.trans (hb.mono HB.out.size)); clear hb; obtain ⟨q, hq⟩ : ∃ q, q = fewM 60 m := ⟨_, rfl⟩; rw [<- hq] at HX ⊢; clear hq; cases q
   ·have HE : Hid (fewL l = false) := by
     show _ = _; have h1 := HX.out; unfold fewL at h1 ⊢; rw [<- List.take_append_drop (k + 1) l, List.all_append, h1]
     rfl
    clear hJ1 hK1; go_wp2_with fail
    go_ret
    exact ⟨by rw [HE.out]; rfl, HB.out⟩
   go_wp2_with fail
   go_roundg (N - (k + 1))
   case measure => omega
   case rel => exact ⟨k + 1, rfl, by omega, by go_num, HX, HB⟩
  ·obtain rfl : k = N := by omega
   have HE : Hid (fewL l = true) := by
    show _ = _; have := HT.out; rw [HN.out, List.take_length] at this; exact this
   clear hJ1 hK1 hlt; go_wp2_with fail
   go_ret
   exact ⟨by rw [HE.out]; rfl, HB.out⟩
end
end Go.Proofs.YtoeknmkephnekaaGreatDoor
namespace Go.Cz.Fo
open Go.Cz.Lx
abbrev PSt := Except (Nat × Int) (List Tok)
def toks : PSt -> List Tok | .ok ts => ts | .error _ => []
def code : PSt -> Nat | .ok _ => 0 | .error x => x.1
def pos : PSt -> Int | .ok _ => 0 | .error x => x.2
def failS : PSt -> Nat -> Int -> PSt | .ok _, e, a => .error (e, a) | .error x, _, _ => .error x
def zTok : Tok := ⟨0, 0, 0, []⟩
def nextT : PSt -> Tok | .ok (t :: _) => t | _ => zTok
def nextS (fin : Int) : PSt -> PSt | .ok (_ :: r) => .ok r | .ok [] => .error (6, fin) | .error x => .error x
def PSt.fine : PSt -> Prop | .ok _ => True | .error x => x.1 ≠ 0
theorem next_len (fin : Int) (s : PSt) : (toks (nextS fin s)).length <= (toks s).length := by
 cases s with
 | error x => simp [nextS]
 | ok l => cases l <;> simp [nextS, toks]
def Did (part : List Tok -> Res) (s : PSt) (f : Fm) (s' : PSt) : Prop :=
 PSt.fine s' /\ (toks s').length <= (toks s).length /\ match s with
  | .error x => s' = .error x
  | .ok ts => match part ts with
   | .ok (g, r) => f = g /\ s' = .ok r
   | .error x => s' = .error x
end Go.Cz.Fo
namespace Go.Proofs.YtoeknmkephnekaaGreatDoor
open Go.RowKit Go.Cz Go.Cz.Lx Go.Cz.Fo
attribute [local go_sem] bs_size bs_extract bs_append bs_toList
attribute [local irreducible] cList cPlan
abbrev pobj (v : Value) (fin : Int) (s : PSt) : Obj := .cells #[v, .int .i64 fin, .int .i64 (code s : Nat), .int .i64 (pos s)] 134 (0, 0)
def parP (w0 : World) (bp : Nat) (fin : Int) (s : PSt) : Piece where
 lies w S := S = [bp] /\ PSt.fine s /\ ∃ v, TokL w0 v (toks s) /\ w.heap[bp]? = some (pobj v fin s)
 lt := by rintro w S ⟨rfl, -, v, -, h⟩ k hk; simp at hk; subst hk; exact lt_of_block h
 keep := by rintro w w' S T ⟨rfl, hf, v, hv, h⟩ hm hd; exact ⟨rfl, hf, v, hv, hm.heap h (hd bp (by simp))⟩
abbrev tval (t : Tok) : Value := .agg #[.int .i64 t.kind, .int .i64 t.pos, .int .i64 t.num, .string (bs t.text)]
end Go.Proofs.YtoeknmkephnekaaGreatDoor
namespace Go.Cz
open Go.RowKit Go.Cz.Lx Go.Cz.Fo Go.Proofs.YtoeknmkephnekaaGreatDoor
section
variable {w0 w W : World} {ps : List Piece} {bp : Nat} {fin : Int} {s : PSt} {v : Value}
theorem Owns.par (h : Owns w0 w (parP W bp fin s :: ps)) : PSt.fine s /\ ∃ y m, TokL W (.slice y (toks s).length m) (toks s) /\ Owns w0 w (Cz.blk bp (pobj (.slice y (toks s).length m) fin s) :: ps) := by
 obtain ⟨S, ⟨rfl, hf, v, hv, h1⟩, -⟩ := h.first; obtain ⟨y, m, rfl⟩ := hv.form; refine ⟨hf, y, m, hv, ?_⟩; obtain ⟨S, ⟨rfl, -, v', -, h2⟩, -, hq⟩ := h.open; exact hq w _ [bp] ⟨rfl, h1⟩ (Mod.refl _ _) fun k hk => .inl hk
theorem Owns.asPar (h : Owns w0 w (Cz.blk bp (pobj v fin s) :: ps)) (hf : PSt.fine s) (hv : TokL W v (toks s)) : Owns w0 w (parP W bp fin s :: ps) :=
 h.turn fun S hS => ⟨hS.1, hf, v, hv, hS.2⟩
end
end Go.Cz
namespace Go.Proofs.YtoeknmkephnekaaGreatDoor
open Go.RowKit Go.Cz Go.Cz.Lx Go.Cz.Fo
attribute [local go_sem] bs_size bs_extract bs_append bs_toList
attribute [local irreducible] cList cPlan
section
variable {w0 : World} {bp : Nat} {fin : Int}
theorem fail_c (ps : List Piece) (s : PSt) (e : Nat) (a : Int) (he : e ≠ 0) (he2 : e <= 1000) (w : World) (h : Owns w0 w (parP w0 bp fin s :: ps)) :
  Calls Tryz.prog 106 #[.pointer (some ⟨bp, 0, none⟩), .int .i64 (e : Nat), .int .i64 a] w fun x w' => x = .returned (.tuple #[]) /\ Owns w0 w' (parP w0 bp fin (failS s e a) :: ps) := by
 obtain ⟨hf, y, m, hv, h1⟩ := h.par; have HO := Lib.hid h1; obtain ⟨N, hN⟩ : ∃ N, N = (toks s).length := ⟨_, rfl⟩; rw [<- hN] at HO; cases s with
 | error x =>
  have hx : x.1 ≠ 0 := hf; have hx' : ((x.1 : Int) == 0) = false := by simpa using hx
  have HE : Hid (failS (.error x) e a = .error x) := rfl; have HP := Lib.hid h; obtain ⟨c, hc⟩ : ∃ c, c = x.1 := ⟨_, rfl⟩; simp only [pobj, code, pos] at HO; rw [<- hc] at HO hx'; clear h h1 hv hf hN hx hc; obtain ⟨hbp, ⟨fp0, fp1, fp2, fp3⟩, cp0, cp1, cp2, cp3⟩ := bx4 HO.out.blk; go_enter Tryz.func106, Tryz.ntmps106
  go_wp2_with fail
  go_end0
  exact ⟨rfl, by rw [HE.out]; exact HP.out⟩
 | ok ts =>
  have HE : Hid (failS (.ok ts) e a = .error (e, a)) := rfl; have HEe := Lib.hid he; simp only [pobj, code, pos] at HO; clear h h1 hv hf hN he; obtain ⟨hbp, ⟨fp0, fp1, fp2, fp3⟩, cp0, cp1, cp2, cp3⟩ := bx4 HO.out.blk; go_enter Tryz.func106, Tryz.ntmps106
  go_wp2_with fail
  go_end0
  refine ⟨rfl, ?_⟩; rw [HE.out]; have h2 := ((HO.out.store (i := 2) (.int .i64 (e : Int))).store (i := 3) (.int .i64 a)).store (i := 0) (.slice none 0 0); exact Owns.asPar (v := .slice none 0 0) h2 HEe.out (TokL.nil _ _ _)
abbrev tobj (t : Tok) : Obj := .cells #[.int .i64 t.kind, .int .i64 t.pos, .int .i64 t.num, .string (bs t.text)] 40 (0, 0)
abbrev tobj0 : Obj := .cells #[.int .i64 0, .int .i64 0, .int .i64 0, .string ⟨#[]⟩] 40 (0, 0)
theorem take_res {W : World} {tmps : Array Value} {g : Nat} {v0 v1 v2 v3 : Value} (h4 : tmps.getD 2 undef = .pointer (some ⟨g, 0, none⟩)) (hb : W.heap[g]? = some (.cells #[v0, v1, v2, v3] 40 (0, 0))) :
  (results Tryz.f153 tmps).run Tryz.prog W = .ok (.agg #[v0, v1, v2, v3]) W := by
 have c0 : W.cell? ⟨g, 0, none⟩ = some v0 := by rw [cell_of_heap hb]; rfl
 have c1 : W.cell? ⟨g, 1, none⟩ = some v1 := by rw [cell_of_heap hb]; rfl
 have c2 : W.cell? ⟨g, 2, none⟩ = some v2 := by rw [cell_of_heap hb]; rfl
 have c3 : W.cell? ⟨g, 3, none⟩ = some v3 := by rw [cell_of_heap hb]; rfl
 have h4' : tmps[2]?.getD undef = .pointer (some ⟨g, 0, none⟩) := by simpa using h4
 simp [results, Tryz.results153, go_sem, h4', c0, c1, c2, c3]
set_option maxHeartbeats 2000000 in
theorem take_c (ps : List Piece) (s : PSt) (w : World) (h : Owns w0 w (parP w0 bp fin s :: ps)) (hN9 : (toks s).length <= 1000000) :
  Calls Tryz.prog 153 #[.pointer (some ⟨bp, 0, none⟩)] w fun x w' => x = .returned (tval (nextT s)) /\ Owns w0 w' (parP w0 bp fin (nextS fin s) :: ps) := by
 obtain ⟨hf, y, m, hv, h1⟩ := h.par; have HO := Lib.hid h1; have HP := Lib.hid h; clear h h1; have HPf := Lib.hid fun ps s => fail_c (w0 := w0) (bp := bp) (fin := fin) ps s 6 fin (by omega) (by omega); rcases s with x | (_ | ⟨t, r⟩)
 ·have HE : Hid (nextS fin (.error x) = failS (.error x) 6 fin /\ nextT (.error x) = zTok) := ⟨rfl, rfl⟩; simp only [pobj, code, pos, toks, List.length_nil] at HO; clear hf hv hN9; obtain ⟨W1, hW1⟩ : ∃ W1, W1 = w.alloc (.cells #[.int .i64 0, .int .i64 0, .int .i64 0, .string ⟨#[]⟩] 40) := ⟨_, rfl⟩; obtain ⟨b2, hb2⟩ : ∃ b2, b2 = w.heap.size := ⟨_, rfl⟩; have HO1 : Hid (Owns w0 W1 (parP w0 bp fin (.error x) :: blk b2 tobj0 :: ps)) := by
   rw [hW1, hb2]; exact Lib.hid (HP.out.box tobj0).swap
  obtain ⟨hbp, ⟨fp0, fp1, fp2, fp3⟩, cp0, cp1, cp2, cp3⟩ := bx4 HO.out.blk; go_enter Tryz.func153, Tryz.ntmps153
  go_wp2_with fail
  rw [<- hW1, <- hb2]; clear hW1 hb2 hbp fp0 fp1 fp2 fp3 cp0 cp1 cp2 cp3 HO HP; go_at_call 106
  refine (HPf.out (blk b2 tobj0 :: ps) _ W1 HO1.out).mono ?_; rintro e W2 ⟨rfl, ho⟩; have HO2 := Lib.hid ho.swap; clear ho HO1; obtain ⟨ht, ⟨ft0, ft1, ft2, ft3⟩, ct0, ct1, ct2, ct3⟩ := bx4 HO2.out.blk; go_wp2_with fail
  have h2 := st4 HO2.out (.int .i64 0) (.int .i64 0) (.int .i64 0) (.string ⟨#[]⟩); refine bodyPost_ret (take_res rfl h2.blk.1) (by rfl) ⟨by rw [HE.out.2]; rfl, by rw [HE.out.1]; exact h2.pop⟩
 ·have HE : Hid (nextS fin (.ok []) = failS (.ok []) 6 fin /\ nextT (.ok []) = zTok) := ⟨rfl, rfl⟩; simp only [pobj, code, pos, toks, List.length_nil] at HO; clear hf hv hN9; obtain ⟨W1, hW1⟩ : ∃ W1, W1 = w.alloc (.cells #[.int .i64 0, .int .i64 0, .int .i64 0, .string ⟨#[]⟩] 40) := ⟨_, rfl⟩; obtain ⟨b2, hb2⟩ : ∃ b2, b2 = w.heap.size := ⟨_, rfl⟩; have HO1 : Hid (Owns w0 W1 (parP w0 bp fin (.ok []) :: blk b2 tobj0 :: ps)) := by
   rw [hW1, hb2]; exact Lib.hid (HP.out.box tobj0).swap
  obtain ⟨hbp, ⟨fp0, fp1, fp2, fp3⟩, cp0, cp1, cp2, cp3⟩ := bx4 HO.out.blk; go_enter Tryz.func153, Tryz.ntmps153
  go_wp2_with fail
  rw [<- hW1, <- hb2]; clear hW1 hb2 hbp fp0 fp1 fp2 fp3 cp0 cp1 cp2 cp3 HO HP; go_at_call 106
  refine (HPf.out (blk b2 tobj0 :: ps) _ W1 HO1.out).mono ?_; rintro e W2 ⟨rfl, ho⟩; have HO2 := Lib.hid ho.swap; clear ho HO1; obtain ⟨ht, ⟨ft0, ft1, ft2, ft3⟩, ct0, ct1, ct2, ct3⟩ := bx4 HO2.out.blk; go_wp2_with fail
  have h2 := st4 HO2.out (.int .i64 0) (.int .i64 0) (.int .i64 0) (.string ⟨#[]⟩); refine bodyPost_ret (take_res rfl h2.blk.1) (by rfl) ⟨by rw [HE.out.2]; rfl, by rw [HE.out.1]; exact h2.pop⟩
 ·have HE : Hid (nextS fin (.ok (t :: r)) = .ok r /\ nextT (.ok (t :: r)) = t) := ⟨rfl, rfl⟩; obtain ⟨N, hN⟩ : ∃ N, N = (toks (.ok (t :: r))).length := ⟨_, rfl⟩; have hN0 : 0 < N := by rw [hN]; simp [toks]
  rw [<- hN] at HO hv hN9; have HV := Lib.hid hv; obtain ⟨g, off, rfl, hNm, hg, c0, c1, c2, c3⟩ := hv.get (j := 0) HO.out.base rfl; simp only [pobj, code, pos] at HO; simp only [Nat.zero_mul, Nat.add_zero] at c0 c1 c2 c3; have HT := Lib.hid hv.tail; obtain ⟨W1, hW1⟩ : ∃ W1, W1 = (w.alloc (.cells #[.int .i64 0, .int .i64 0, .int .i64 0, .string ⟨#[]⟩] 40)).alloc (.cells #[.int .i64 t.kind, .int .i64 t.pos, .int .i64 t.num, .string (bs t.text)] 40) := ⟨_, rfl⟩; clear hv hN hf; by_cases hm1 : m = 1
  ·subst hm1; obtain rfl : N = 1 := by omega
   have HT1 := Lib.hid (HT.out.2 rfl); clear HT hN0 hNm hN9; obtain ⟨hbp, ⟨fp0, fp1, fp2, fp3⟩, cp0, cp1, cp2, cp3⟩ := bx4 HO.out.blk; go_enter Tryz.func153, Tryz.ntmps153
   go_wp2_with fail
   have h2 := (((HO.out.store (i := 0) (.slice (some ⟨g, off, none⟩) 0 0)).box (tobj t)).alloc (tobj t)); have h3 := h2.blk.1; rw [World.size_setCell] at h3; refine bodyPost_ret (take_res rfl h3) (by rfl) ⟨by rw [HE.out.2], ?_⟩; rw [HE.out.1]; exact Owns.asPar (v := .slice (some ⟨g, off, none⟩) 0 0) ((HO.out.store (i := 0) (.slice (some ⟨g, off, none⟩) 0 0)).alloc (tobj t) |>.alloc (tobj t)) trivial (HT1.out)
  ·clear hN9; obtain ⟨hbp, ⟨fp0, fp1, fp2, fp3⟩, cp0, cp1, cp2, cp3⟩ := bx4 HO.out.blk; go_enter Tryz.func153, Tryz.ntmps153
   go_wp2_with fail
   have h2 := (((HO.out.store (i := 0) (.slice (some ⟨g, off + 4, none⟩) (N - 1) (m - 1))).box (tobj t)).alloc (tobj t)); have h3 := h2.blk.1; rw [World.size_setCell] at h3; refine bodyPost_ret (take_res rfl h3) (by rfl) ⟨by rw [HE.out.2], ?_⟩; rw [HE.out.1]; exact Owns.asPar (v := .slice (some ⟨g, off + 4, none⟩) (N - 1) (m - 1)) ((HO.out.store (i := 0) (.slice (some ⟨g, off + 4, none⟩) (N - 1) (m - 1))).alloc (tobj t) |>.alloc (tobj t)) trivial (HT.out.1)
end
end Go.Proofs.YtoeknmkephnekaaGreatDoor
namespace Go.Cz.Fo
open Go.Cz.Lx
def mkL (op : Int) : List Fm -> Fm | [k] => k | l => .mk op [] 0 0 l
def PI (op : Int) (word : Bytes) (part : List Tok -> Res) (s0 : PSt) (L : List Fm) (s : PSt) : Prop :=
 L ≠ [] /\ PSt.fine s /\ match s0 with
  | .error x => s = .error x
  | .ok ts0 => match s with
   | .error x => partsF op word part ts0 = .error x
   | .ok ts => ∃ n, ts.length < n /\ partsF op word part ts0 = match moreF word part n ts with
    | .error e => .error e
    | .ok (ks, r) => .ok (mkL op (L ++ ks), r)
section
variable {op : Int} {word : Bytes} {part : List Tok -> Res} {s0 s s2 : PSt} {f : Fm} {L : List Fm} {t : Tok} {r : List Tok}
theorem mkL_eq (k : Fm) (ks : List Fm) : mkL op ([k] ++ ks) = if ks.isEmpty then k else .mk op [] 0 0 (k :: ks) := by cases ks <;> simp [mkL]
theorem PI.start (h : Did part s0 f s) : PI op word part s0 [f] s := by
 obtain ⟨h1, h2, h3⟩ := h; refine ⟨by simp, h1, ?_⟩; cases s0 with
 | error x => exact h3
 | ok ts0 =>
  simp only at h3 ⊢; cases hp : part ts0 with
  | error x =>
   rw [hp] at h3; simp only at h3; subst h3; show partsF op word part ts0 = .error x; unfold partsF; rw [hp]
  | ok z =>
   obtain ⟨g, r⟩ := z; rw [hp] at h3; simp only at h3; obtain ⟨rfl, rfl⟩ := h3; refine ⟨r.length + 1, by omega, ?_⟩; unfold partsF; rw [hp]; simp only [mkL_eq]; cases moreF word part (r.length + 1) r <;> rfl
theorem PI.step (h : PI op word part s0 L (.ok (t :: r))) (ht : t.kind = 1 /\ t.text = word) (hd : Did part (.ok r) f s2) : PI op word part s0 (L ++ [f]) s2 := by
 obtain ⟨h0, h1, h2⟩ := h; obtain ⟨d1, d2, d3⟩ := hd; refine ⟨by simp, d1, ?_⟩; cases s0 with
 | error x => cases h2
 | ok ts0 =>
  simp only at h2 d3 ⊢; obtain ⟨n, hn, he⟩ := h2; obtain ⟨m, rfl⟩ : ∃ m, n = m + 1 := ⟨n - 1, by simp at hn; omega⟩; rw [moreF] at he; simp only [if_pos ht] at he; cases hp : part r with
  | error x =>
   rw [hp] at he d3; simp only at d3 he; subst d3; exact he
  | ok z =>
   obtain ⟨g, r2⟩ := z; rw [hp] at he d3; simp only at d3 he; obtain ⟨rfl, rfl⟩ := d3; refine ⟨m, by simp [toks] at d2 hn ⊢; omega, ?_⟩; rw [he]; cases moreF word part m r2 with
   | error x => rfl
   | ok z => obtain ⟨ks, r3⟩ := z; simp
theorem PI.stop {ts : List Tok} (h : PI op word part s0 L (.ok ts)) (hl : (toks (.ok ts)).length <= (toks s0).length) (ht : ∀ t r, ts = t :: r -> ¬ (t.kind = 1 /\ t.text = word)) : Did (partsF op word part) s0 (mkL op L) (.ok ts) := by
 obtain ⟨h0, h1, h2⟩ := h; refine ⟨h1, hl, ?_⟩; cases s0 with
 | error x => cases h2
 | ok ts0 =>
  simp only at h2 ⊢; obtain ⟨n, hn, he⟩ := h2; obtain ⟨m, rfl⟩ : ∃ m, n = m + 1 := ⟨n - 1, by omega⟩; have : moreF word part (m + 1) ts = .ok ([], ts) := by
   cases ts with
   | nil => rw [moreF]
   | cons t r => rw [moreF]; simp only [if_neg (ht t r rfl)]
  rw [he, this]; simp
theorem PI.err {x : Nat × Int} (h : PI op word part s0 L (.error x)) (g : Fm) : Did (partsF op word part) s0 g (.error x) := by
 obtain ⟨h0, h1, h2⟩ := h; refine ⟨h1, by simp [toks], ?_⟩; cases s0 with
 | error y => exact h2
 | ok ts0 => simp only at h2 ⊢; rw [h2]
end
end Go.Cz.Fo
namespace Go.Proofs.YtoeknmkephnekaaGreatDoor
open Go.RowKit Go.Cz Go.Cz.Lx Go.Cz.Fo
attribute [local go_sem] bs_size bs_extract bs_append bs_toList
attribute [local irreducible] cList cPlan
theorem list_res {W : World} {tmps : Array Value} {g : Nat} {v0 v1 v2 v3 v4 : Value} (h4 : tmps.getD 8 undef = .pointer (some ⟨g, 0, none⟩)) (hb : W.heap[g]? = some (.cells #[v0, v1, v2, v3, v4] 24 (0, 0))) :
  (results Tryz.f133 tmps).run Tryz.prog W = .ok (.agg #[v0, v1, v2, v3, v4]) W := by
 have c0 : W.cell? ⟨g, 0, none⟩ = some v0 := by rw [cell_of_heap hb]; rfl
 have c1 : W.cell? ⟨g, 1, none⟩ = some v1 := by rw [cell_of_heap hb]; rfl
 have c2 : W.cell? ⟨g, 2, none⟩ = some v2 := by rw [cell_of_heap hb]; rfl
 have c3 : W.cell? ⟨g, 3, none⟩ = some v3 := by rw [cell_of_heap hb]; rfl
 have c4 : W.cell? ⟨g, 4, none⟩ = some v4 := by rw [cell_of_heap hb]; rfl
 have h4' : tmps[8]?.getD undef = .pointer (some ⟨g, 0, none⟩) := by simpa using h4
 simp [results, Tryz.results133, go_sem, h4', c0, c1, c2, c3, c4]
theorem all_res {W : World} {tmps : Array Value} {g : Nat} {v0 v1 v2 v3 v4 : Value} (h4 : tmps.getD 2 undef = .pointer (some ⟨g, 0, none⟩)) (hb : W.heap[g]? = some (.cells #[v0, v1, v2, v3, v4] 24 (0, 0))) :
  (results Tryz.f134 tmps).run Tryz.prog W = .ok (.agg #[v0, v1, v2, v3, v4]) W := by
 have c0 : W.cell? ⟨g, 0, none⟩ = some v0 := by rw [cell_of_heap hb]; rfl
 have c1 : W.cell? ⟨g, 1, none⟩ = some v1 := by rw [cell_of_heap hb]; rfl
 have c2 : W.cell? ⟨g, 2, none⟩ = some v2 := by rw [cell_of_heap hb]; rfl
 have c3 : W.cell? ⟨g, 3, none⟩ = some v3 := by rw [cell_of_heap hb]; rfl
 have c4 : W.cell? ⟨g, 4, none⟩ = some v4 := by rw [cell_of_heap hb]; rfl
 have h4' : tmps[2]?.getD undef = .pointer (some ⟨g, 0, none⟩) := by simpa using h4
 simp [results, Tryz.results134, go_sem, h4', c0, c1, c2, c3, c4]
theorem either_res {W : World} {tmps : Array Value} {g : Nat} {v0 v1 v2 v3 v4 : Value} (h4 : tmps.getD 2 undef = .pointer (some ⟨g, 0, none⟩)) (hb : W.heap[g]? = some (.cells #[v0, v1, v2, v3, v4] 24 (0, 0))) :
  (results Tryz.f105 tmps).run Tryz.prog W = .ok (.agg #[v0, v1, v2, v3, v4]) W := by
 have c0 : W.cell? ⟨g, 0, none⟩ = some v0 := by rw [cell_of_heap hb]; rfl
 have c1 : W.cell? ⟨g, 1, none⟩ = some v1 := by rw [cell_of_heap hb]; rfl
 have c2 : W.cell? ⟨g, 2, none⟩ = some v2 := by rw [cell_of_heap hb]; rfl
 have c3 : W.cell? ⟨g, 3, none⟩ = some v3 := by rw [cell_of_heap hb]; rfl
 have c4 : W.cell? ⟨g, 4, none⟩ = some v4 := by rw [cell_of_heap hb]; rfl
 have h4' : tmps[2]?.getD undef = .pointer (some ⟨g, 0, none⟩) := by simpa using h4
 simp [results, Tryz.results105, go_sem, h4', c0, c1, c2, c3, c4]
theorem one_res {W : World} {tmps : Array Value} {g : Nat} {v0 v1 v2 v3 v4 : Value} (h4 : tmps.getD 2 undef = .pointer (some ⟨g, 0, none⟩)) (hb : W.heap[g]? = some (.cells #[v0, v1, v2, v3, v4] 24 (0, 0))) :
  (results Tryz.f154 tmps).run Tryz.prog W = .ok (.agg #[v0, v1, v2, v3, v4]) W := by
 have c0 : W.cell? ⟨g, 0, none⟩ = some v0 := by rw [cell_of_heap hb]; rfl
 have c1 : W.cell? ⟨g, 1, none⟩ = some v1 := by rw [cell_of_heap hb]; rfl
 have c2 : W.cell? ⟨g, 2, none⟩ = some v2 := by rw [cell_of_heap hb]; rfl
 have c3 : W.cell? ⟨g, 3, none⟩ = some v3 := by rw [cell_of_heap hb]; rfl
 have c4 : W.cell? ⟨g, 4, none⟩ = some v4 := by rw [cell_of_heap hb]; rfl
 have h4' : tmps[2]?.getD undef = .pointer (some ⟨g, 0, none⟩) := by simpa using h4
 simp [results, Tryz.results154, go_sem, h4', c0, c1, c2, c3, c4]
abbrev fobj0 : Obj := .cells #[.int .i64 0, .string ⟨#[]⟩, .int .i64 0, .int .i64 0, .slice none 0 0] 24 (0, 0)
theorem info_fm : (Tryz.prog.info? 24).map (fun i => (i.zero, i.size, i.bytes)) = some (some (.agg #[.int .i64 0, .string ⟨#[]⟩, .int .i64 0, .int .i64 0, .slice none 0 0]), 5, 64) := by kernel_rfl
def PartC (w0 : World) (bp : Nat) (fin : Int) (fn : Nat) (part : List Tok -> Res) (B : Nat) : Prop :=
 ∀ (ps : List Piece) (s : PSt) (w : World), (toks s).length <= B -> Owns w0 w (parP w0 bp fin s :: ps) -> Calls Tryz.prog fn #[.pointer (some ⟨bp, 0, none⟩)] w fun e w' => ∃ f kv s', e = .returned (fval f kv) /\ Did part s f s' /\ Owns w0 w' (fmP f kv :: parP w0 bp fin s' :: ps)
section
variable {w0 : World} {bp : Nat} {fin : Int}
set_option maxRecDepth 100000 in
set_option maxHeartbeats 8000000 in
theorem listO_c (part : List Tok -> Res) (B : Nat) (hB : B <= 1000000) (HC : PartC w0 bp fin 154 part B) (ps : List Piece) (op : Int) (word : Bytes) (s0 : PSt) (w : World) (hs : (toks s0).length <= B) (hwl : word.length <= 10) (h : Owns w0 w (parP w0 bp fin s0 :: ps)) :
  Calls Tryz.prog 133 #[.pointer (some ⟨bp, 0, none⟩), .int .i64 op, .string (bs word), .func (.func 154) #[.pointer (some ⟨bp, 0, none⟩)] #[]] w fun e w' => ∃ f kv s', e = .returned (fval f kv) /\ Did (partsF op word part) s0 f s' /\ Owns w0 w' (fmP f kv :: parP w0 bp fin s' :: ps) := by
 have HCh := Lib.hid HC; have HS := Lib.hid hs; have HB := Lib.hid hB; clear HC hs hB; obtain ⟨W1, hW1⟩ : ∃ W1, W1 = w.alloc (.cells #[.int .i64 0, .string ⟨#[]⟩, .int .i64 0, .int .i64 0, .slice none 0 0] 24) := ⟨_, rfl⟩; obtain ⟨b8, hb8⟩ : ∃ b8, b8 = w.heap.size := ⟨_, rfl⟩; have HO : Hid (Owns w0 W1 (parP w0 bp fin s0 :: blk b8 fobj0 :: ps)) := by
  rw [hW1, hb8]; exact Lib.hid (h.box fobj0).swap
 clear h; go_enter Tryz.func133, Tryz.ntmps133
 go_wp2_with fail
 try rw [<- hW1]
 try rw [<- hb8]
 clear hW1 hb8; refine (HCh.out (blk b8 fobj0 :: ps) s0 W1 HS.out HO.out).mono ?_; rintro e W2 ⟨f, kv, s, rfl, hd, ho⟩; have HPI0 : Hid (PI op word part s0 [f] s /\ (toks s).length <= (toks s0).length) := ⟨PI.start hd, hd.2.1⟩; obtain ⟨y2, m2, rfl⟩ := ho.fm.form; obtain ⟨N2, hN2⟩ : ∃ N2, N2 = f.kids.length := ⟨_, rfl⟩; rw [<- hN2] at ho ⊢; replace HO : Hid (Owns w0 (W2.alloc (.cells (fcells f (.slice y2 N2 m2)).toArray 24)) (kidsP [(f, .slice y2 N2 m2)] (.slice (some ⟨W2.heap.size, 0, none⟩) 1 1) :: parP w0 bp fin s :: blk b8 fobj0 :: ps)) := Lib.hid ho.kid1; clear ho hd hN2; go_wp2_with fail
 go_loopg [9] (toks s).length (fun gk v' wr => ∃ (L : List (Fm × Value)) (s : PSt) (v : Value), v = v' /\ gk = (toks s).length /\ L.length + (toks s).length <= 1000001 /\ Hid (Owns w0 wr (kidsP L v :: parP w0 bp fin s :: blk b8 fobj0 :: ps)) /\ Hid (PI op word part s0 (L.map Prod.fst) s /\ (toks s).length <= (toks s0).length))
 case atStart => exact ⟨_, s, _, rfl, rfl, by have := HPI0.out.2; have := HS.out; have := HB.out; simp; omega, HO, HPI0⟩
 case round =>
  rename_i J1 K1 hJ1 hK1; clear HO HPI0; obtain ⟨L, s, v, rfl, rfl, hLl, HO, HPI⟩ := hrel; have HL0 : Hid (L ≠ []) := by have := HPI.out.1.1; exact fun e => this (by rw [e]; rfl)
  rcases s with x | (_ | ⟨t, r⟩)
  ·have HD : Hid (Did (partsF op word part) s0 (mkL op (L.map Prod.fst)) (.error x)) := HPI.out.1.err _; obtain ⟨hf, yp, mp, hv, hp⟩ := HO.out.swap.par; simp only [pobj, code, pos, toks, List.length_nil] at hp; obtain ⟨hbp, -, cp0⟩ := bx1 hp.blk; clear hf hv hp HPI hJ1 hK1; obtain ⟨y, m, rfl⟩ := HO.out.kform; obtain ⟨NL, hNL⟩ : ∃ NL, NL = L.length := ⟨_, rfl⟩; have HNL := Lib.hid hNL; have hNL1 : 1 <= NL := by rw [hNL]; exact List.length_pos_iff.2 HL0.out
   rw [<- hNL] at HO ⊢; clear hNL; by_cases h1 : NL = 1
   ·subst h1; obtain ⟨⟨k, kv⟩, rfl⟩ : ∃ p, L = [p] := List.length_eq_one_iff.1 HNL.out.symm; have HF := Lib.hid HO.out.konly.fm; obtain ⟨y2, m2, rfl⟩ := HF.out.form; obtain ⟨N2, hN2⟩ : ∃ N2, N2 = k.kids.length := ⟨_, rfl⟩; rw [<- hN2] at HO HF; obtain ⟨gk, mk, e1, hgm, hgk, d0, d1, d2, d3, d4⟩ := HO.out.kget (j := 0) rfl; simp only [Value.slice.injEq] at e1; obtain ⟨rfl, -, rfl⟩ := e1; simp only [Nat.zero_mul, Nat.zero_add] at d0 d1 d2 d3 d4; replace HO := Lib.hid (HO.out.konly.re [2, 0, 1]); simp only [fobj0] at HO
    focus
     obtain ⟨hbe, ⟨fe0, fe1, fe2, fe3, fe4⟩, ce0, ce1, ce2, ce3, ce4⟩ := bx5 HO.out.blk; clear hN2 hNL1; go_wp2_with fail
    have h2 := st5 HO.out (.int .i64 k.op) (.string (bs k.name)) (.int .i64 k.cmp) (.int .i64 k.num) (.slice y2 N2 m2); exact bodyPost_ret (list_res rfl h2.blk.1) (by rfl) ⟨k, _, _, rfl, HD.out, h2.pop⟩
   ·have h1' : ((NL : Int) == 1) = false := by simp; omega
    have HM : Hid (mkL op (L.map Prod.fst) = .mk op [] 0 0 (L.map Prod.fst)) := by
     show _ = _; rcases L with _ | ⟨a, _ | ⟨b, L⟩⟩
     ·exact absurd rfl HL0.out
     ·exact absurd HNL.out h1
     ·rfl
    replace HO := Lib.hid ((HO.out.knode op [] 0 0).re [2, 0, 1]); simp only [fobj0] at HO
    focus
     obtain ⟨hbe, ⟨fe0, fe1, fe2, fe3, fe4⟩, ce0, ce1, ce2, ce3, ce4⟩ := bx5 HO.out.blk; clear h1 hNL1; go_wp2_with fail
    have h2 := st5 HO.out (.int .i64 op) (.string ⟨#[]⟩) (.int .i64 0) (.int .i64 0) (.slice y NL m); exact bodyPost_ret (list_res rfl h2.blk.1) (by rfl) ⟨_, _, _, rfl, HM.out ▸ HD.out, h2.pop⟩
  ·have HD : Hid (Did (partsF op word part) s0 (mkL op (L.map Prod.fst)) (.ok [])) := HPI.out.1.stop HPI.out.2 (fun t r e => by cases e); obtain ⟨hf, yp, mp, hv, hp⟩ := HO.out.swap.par; simp only [pobj, code, pos, toks, List.length_nil] at hp; obtain ⟨hbp, -, cp0⟩ := bx1 hp.blk; clear hf hv hp HPI hJ1 hK1; obtain ⟨y, m, rfl⟩ := HO.out.kform; obtain ⟨NL, hNL⟩ : ∃ NL, NL = L.length := ⟨_, rfl⟩; have HNL := Lib.hid hNL; have hNL1 : 1 <= NL := by rw [hNL]; exact List.length_pos_iff.2 HL0.out
   rw [<- hNL] at HO ⊢; clear hNL; by_cases h1 : NL = 1
   ·subst h1; obtain ⟨⟨k, kv⟩, rfl⟩ : ∃ p, L = [p] := List.length_eq_one_iff.1 HNL.out.symm; have HF := Lib.hid HO.out.konly.fm; obtain ⟨y2, m2, rfl⟩ := HF.out.form; obtain ⟨N2, hN2⟩ : ∃ N2, N2 = k.kids.length := ⟨_, rfl⟩; rw [<- hN2] at HO HF; obtain ⟨gk, mk, e1, hgm, hgk, d0, d1, d2, d3, d4⟩ := HO.out.kget (j := 0) rfl; simp only [Value.slice.injEq] at e1; obtain ⟨rfl, -, rfl⟩ := e1; simp only [Nat.zero_mul, Nat.zero_add] at d0 d1 d2 d3 d4; replace HO := Lib.hid (HO.out.konly.re [2, 0, 1]); simp only [fobj0] at HO
    focus
     obtain ⟨hbe, ⟨fe0, fe1, fe2, fe3, fe4⟩, ce0, ce1, ce2, ce3, ce4⟩ := bx5 HO.out.blk; clear hN2 hNL1; go_wp2_with fail
    have h2 := st5 HO.out (.int .i64 k.op) (.string (bs k.name)) (.int .i64 k.cmp) (.int .i64 k.num) (.slice y2 N2 m2); exact bodyPost_ret (list_res rfl h2.blk.1) (by rfl) ⟨k, _, _, rfl, HD.out, h2.pop⟩
   ·have h1' : ((NL : Int) == 1) = false := by simp; omega
    have HM : Hid (mkL op (L.map Prod.fst) = .mk op [] 0 0 (L.map Prod.fst)) := by
     show _ = _; rcases L with _ | ⟨a, _ | ⟨b, L⟩⟩
     ·exact absurd rfl HL0.out
     ·exact absurd HNL.out h1
     ·rfl
    replace HO := Lib.hid ((HO.out.knode op [] 0 0).re [2, 0, 1]); simp only [fobj0] at HO
    focus
     obtain ⟨hbe, ⟨fe0, fe1, fe2, fe3, fe4⟩, ce0, ce1, ce2, ce3, ce4⟩ := bx5 HO.out.blk; clear h1 hNL1; go_wp2_with fail
    have h2 := st5 HO.out (.int .i64 op) (.string ⟨#[]⟩) (.int .i64 0) (.int .i64 0) (.slice y NL m); exact bodyPost_ret (list_res rfl h2.blk.1) (by rfl) ⟨_, _, _, rfl, HM.out ▸ HD.out, h2.pop⟩
  ·obtain ⟨N, hN⟩ : ∃ N, N = (toks (.ok (t :: r))).length := ⟨_, rfl⟩; have HN := Lib.hid hN; have hN0 : 0 < N := by rw [hN]; simp [toks]
   obtain ⟨hf, yp, mp, hv, hp⟩ := HO.out.swap.par; rw [<- hN] at hv hp; obtain ⟨g, off, rfl, hNm, hg, c0, c1, c2, c3⟩ := hv.get (j := 0) HO.out.base rfl; simp only [pobj, code, pos] at hp; simp only [Nat.zero_mul, Nat.add_zero] at c0 c1 c2 c3; obtain ⟨hbp, -, cp0⟩ := bx1 hp.blk; clear hf hv hp hN; by_cases ht : t.kind = 1
   case neg =>
    have ht' : ((t.kind : Int) == 1) = false := by simp; omega
    have HD : Hid (Did (partsF op word part) s0 (mkL op (L.map Prod.fst)) (.ok (t :: r))) := HPI.out.1.stop HPI.out.2 (fun t' r' e h => by cases e; exact ht h.1); clear HPI hJ1 hK1 ht; obtain ⟨y, m, rfl⟩ := HO.out.kform; obtain ⟨NL, hNL⟩ : ∃ NL, NL = L.length := ⟨_, rfl⟩; have HNL := Lib.hid hNL; have hNL1 : 1 <= NL := by rw [hNL]; exact List.length_pos_iff.2 HL0.out
    rw [<- hNL] at HO ⊢; clear hNL; by_cases h1 : NL = 1
    ·subst h1; obtain ⟨⟨k, kv⟩, rfl⟩ : ∃ p, L = [p] := List.length_eq_one_iff.1 HNL.out.symm; have HF := Lib.hid HO.out.konly.fm; obtain ⟨y2, m2, rfl⟩ := HF.out.form; obtain ⟨N2, hN2⟩ : ∃ N2, N2 = k.kids.length := ⟨_, rfl⟩; rw [<- hN2] at HO HF; obtain ⟨gk, mk, e1, hgm, hgk, d0, d1, d2, d3, d4⟩ := HO.out.kget (j := 0) rfl; simp only [Value.slice.injEq] at e1; obtain ⟨rfl, -, rfl⟩ := e1; simp only [Nat.zero_mul, Nat.zero_add] at d0 d1 d2 d3 d4; replace HO := Lib.hid (HO.out.konly.re [2, 0, 1]); simp only [fobj0] at HO
     focus
      obtain ⟨hbe, ⟨fe0, fe1, fe2, fe3, fe4⟩, ce0, ce1, ce2, ce3, ce4⟩ := bx5 HO.out.blk; clear hN2 hNL1; go_wp2_with fail
     have h2 := st5 HO.out (.int .i64 k.op) (.string (bs k.name)) (.int .i64 k.cmp) (.int .i64 k.num) (.slice y2 N2 m2); exact bodyPost_ret (list_res rfl h2.blk.1) (by rfl) ⟨k, _, _, rfl, HD.out, h2.pop⟩
    ·have h1' : ((NL : Int) == 1) = false := by simp; omega
     have HM : Hid (mkL op (L.map Prod.fst) = .mk op [] 0 0 (L.map Prod.fst)) := by
      show _ = _; rcases L with _ | ⟨a, _ | ⟨b, L⟩⟩
      ·exact absurd rfl HL0.out
      ·exact absurd HNL.out h1
      ·rfl
     replace HO := Lib.hid ((HO.out.knode op [] 0 0).re [2, 0, 1]); simp only [fobj0] at HO
     focus
      obtain ⟨hbe, ⟨fe0, fe1, fe2, fe3, fe4⟩, ce0, ce1, ce2, ce3, ce4⟩ := bx5 HO.out.blk; clear h1 hNL1; go_wp2_with fail
     have h2 := st5 HO.out (.int .i64 op) (.string ⟨#[]⟩) (.int .i64 0) (.int .i64 0) (.slice y NL m); exact bodyPost_ret (list_res rfl h2.blk.1) (by rfl) ⟨_, _, _, rfl, HM.out ▸ HD.out, h2.pop⟩
   have ht' : ((t.kind : Int) == 1) = true := by simp; omega
   by_cases hw : t.text = word
   case neg =>
    have hw' : (t.text == word) = false := by simpa using hw
    have HD : Hid (Did (partsF op word part) s0 (mkL op (L.map Prod.fst)) (.ok (t :: r))) := HPI.out.1.stop HPI.out.2 (fun t' r' e h => by cases e; exact hw h.2); clear HPI hJ1 hK1 ht hw; obtain ⟨y, m, rfl⟩ := HO.out.kform; obtain ⟨NL, hNL⟩ : ∃ NL, NL = L.length := ⟨_, rfl⟩; have HNL := Lib.hid hNL; have hNL1 : 1 <= NL := by rw [hNL]; exact List.length_pos_iff.2 HL0.out
    rw [<- hNL] at HO ⊢; clear hNL; by_cases h1 : NL = 1
    ·subst h1; obtain ⟨⟨k, kv⟩, rfl⟩ : ∃ p, L = [p] := List.length_eq_one_iff.1 HNL.out.symm; have HF := Lib.hid HO.out.konly.fm; obtain ⟨y2, m2, rfl⟩ := HF.out.form; obtain ⟨N2, hN2⟩ : ∃ N2, N2 = k.kids.length := ⟨_, rfl⟩; rw [<- hN2] at HO HF; obtain ⟨gk, mk, e1, hgm, hgk, d0, d1, d2, d3, d4⟩ := HO.out.kget (j := 0) rfl; simp only [Value.slice.injEq] at e1; obtain ⟨rfl, -, rfl⟩ := e1; simp only [Nat.zero_mul, Nat.zero_add] at d0 d1 d2 d3 d4; replace HO := Lib.hid (HO.out.konly.re [2, 0, 1]); simp only [fobj0] at HO
     focus
      obtain ⟨hbe, ⟨fe0, fe1, fe2, fe3, fe4⟩, ce0, ce1, ce2, ce3, ce4⟩ := bx5 HO.out.blk; clear hN2 hNL1; go_wp2_with fail
     have h2 := st5 HO.out (.int .i64 k.op) (.string (bs k.name)) (.int .i64 k.cmp) (.int .i64 k.num) (.slice y2 N2 m2); exact bodyPost_ret (list_res rfl h2.blk.1) (by rfl) ⟨k, _, _, rfl, HD.out, h2.pop⟩
    ·have h1' : ((NL : Int) == 1) = false := by simp; omega
     have HM : Hid (mkL op (L.map Prod.fst) = .mk op [] 0 0 (L.map Prod.fst)) := by
      show _ = _; rcases L with _ | ⟨a, _ | ⟨b, L⟩⟩
      ·exact absurd rfl HL0.out
      ·exact absurd HNL.out h1
      ·rfl
     replace HO := Lib.hid ((HO.out.knode op [] 0 0).re [2, 0, 1]); simp only [fobj0] at HO
     focus
      obtain ⟨hbe, ⟨fe0, fe1, fe2, fe3, fe4⟩, ce0, ce1, ce2, ce3, ce4⟩ := bx5 HO.out.blk; clear h1 hNL1; go_wp2_with fail
     have h2 := st5 HO.out (.int .i64 op) (.string ⟨#[]⟩) (.int .i64 0) (.int .i64 0) (.slice y NL m); exact bodyPost_ret (list_res rfl h2.blk.1) (by rfl) ⟨_, _, _, rfl, HM.out ▸ HD.out, h2.pop⟩
   have hw' : (t.text == word) = true := by simpa using hw
   have HT : Hid (t.kind = 1 /\ t.text = word) := ⟨ht, hw⟩; clear ht hw; rw [<- HN.out] at hLl; go_wp2_with fail
   clear hbp cp0 c0 c1 c2 c3 hg ht' hw' hN0 hNm; go_at_call 153
   refine (take_c (w0 := w0) (bp := bp) (fin := fin) (kidsP L v :: blk b8 fobj0 :: ps) (.ok (t :: r)) wr HO.out.swap (by have h1 := HPI.out.2; have h2 := HS.out; have h3 := HB.out; omega)).mono ?_; rintro e W3 ⟨rfl, ho⟩; have HO3 : Hid (Owns w0 W3 (parP w0 bp fin (.ok r) :: kidsP L v :: blk b8 fobj0 :: ps)) := Lib.hid ho; clear ho HO; go_wp2_with fail
   refine (HCh.out (kidsP L v :: blk b8 fobj0 :: ps) (.ok r) W3 (by have h1 := HPI.out.2; have h2 := HS.out; simp [toks] at h1 h2 ⊢; omega) HO3.out).mono ?_; rintro e W4 ⟨f, kv, s2, rfl, hd, ho⟩; have HPI2 : Hid (PI op word part s0 ((L ++ [(f, kv)]).map Prod.fst) s2 /\ (toks s2).length <= (toks s0).length /\ (toks s2).length < N) := by
    refine ⟨by rw [List.map_append]; exact HPI.out.1.step HT.out hd, ?_, ?_⟩
    ·have h1 := HPI.out.2; have h2 := hd.2.1; simp [toks] at h1 h2 ⊢; omega
    ·rw [HN.out]; have h2 := hd.2.1; simp [toks] at h2 ⊢; omega
   obtain ⟨y2, m2, rfl⟩ := ho.fm.form; obtain ⟨N2, hN2⟩ : ∃ N2, N2 = f.kids.length := ⟨_, rfl⟩; rw [<- hN2] at ho HPI2 ⊢; have HO4 : Hid (Owns w0 (W4.alloc (.cells #[.int .i64 f.op, .string (bs f.name), .int .i64 f.cmp, .int .i64 f.num, .slice y2 N2 m2] 24)) (kidsP L v :: fmP f (.slice y2 N2 m2) :: parP w0 bp fin s2 :: blk b8 fobj0 :: ps)) := Lib.hid ((ho.alloc _).re [2, 0, 1]); have hLl2 : L.length <= 1000001 := by omega
   clear ho hd hN2 HO3 HPI; go_wp2_with (refine wpList_plain rfl fun K hK => wp_append (.tmp 42) (.tmp 45) 22 (by rfl) 24 _ 5 64 Tryz.underlying22 info_fm (by rfl) (by omega) v L.length _ (by rfl) HO4.out.krow W4.heap.size 1 1 (fcells f (.slice y2 N2 m2)) (by rfl) (by rfl) 24 (by exact new_heap W4 _ _ rfl) (by simp [fcells, Value.oneCell']) (by omega) (by omega) ?_; intro v' w2 hrow hgrow hblk; have HO5 := Lib.hid (HO4.out.kid hrow hgrow hblk); clear hrow hgrow hblk)
   go_roundg (toks s2).length
   case measure => have := HPI2.out.2.2; rw [HN.out] at this; exact this
   case rel => exact ⟨L ++ [(f, .slice y2 N2 m2)], s2, _, rfl, rfl, by have := HPI2.out.2.2; rw [List.length_append, List.length_singleton]; omega, HO5, Lib.hid ⟨HPI2.out.1, HPI2.out.2.1⟩⟩
set_option maxRecDepth 100000 in
set_option maxHeartbeats 8000000 in
theorem listA_c (part : List Tok -> Res) (B : Nat) (hB : B <= 1000000) (HC : PartC w0 bp fin 134 part B) (ps : List Piece) (op : Int) (word : Bytes) (s0 : PSt) (w : World) (hs : (toks s0).length <= B) (hwl : word.length <= 10) (h : Owns w0 w (parP w0 bp fin s0 :: ps)) :
  Calls Tryz.prog 133 #[.pointer (some ⟨bp, 0, none⟩), .int .i64 op, .string (bs word), .func (.func 134) #[.pointer (some ⟨bp, 0, none⟩)] #[]] w fun e w' => ∃ f kv s', e = .returned (fval f kv) /\ Did (partsF op word part) s0 f s' /\ Owns w0 w' (fmP f kv :: parP w0 bp fin s' :: ps) := by
 have HCh := Lib.hid HC; have HS := Lib.hid hs; have HB := Lib.hid hB; clear HC hs hB; obtain ⟨W1, hW1⟩ : ∃ W1, W1 = w.alloc (.cells #[.int .i64 0, .string ⟨#[]⟩, .int .i64 0, .int .i64 0, .slice none 0 0] 24) := ⟨_, rfl⟩; obtain ⟨b8, hb8⟩ : ∃ b8, b8 = w.heap.size := ⟨_, rfl⟩; have HO : Hid (Owns w0 W1 (parP w0 bp fin s0 :: blk b8 fobj0 :: ps)) := by
  rw [hW1, hb8]; exact Lib.hid (h.box fobj0).swap
 clear h; go_enter Tryz.func133, Tryz.ntmps133
 go_wp2_with fail
 try rw [<- hW1]
 try rw [<- hb8]
 clear hW1 hb8; refine (HCh.out (blk b8 fobj0 :: ps) s0 W1 HS.out HO.out).mono ?_; rintro e W2 ⟨f, kv, s, rfl, hd, ho⟩; have HPI0 : Hid (PI op word part s0 [f] s /\ (toks s).length <= (toks s0).length) := ⟨PI.start hd, hd.2.1⟩; obtain ⟨y2, m2, rfl⟩ := ho.fm.form; obtain ⟨N2, hN2⟩ : ∃ N2, N2 = f.kids.length := ⟨_, rfl⟩; rw [<- hN2] at ho ⊢; replace HO : Hid (Owns w0 (W2.alloc (.cells (fcells f (.slice y2 N2 m2)).toArray 24)) (kidsP [(f, .slice y2 N2 m2)] (.slice (some ⟨W2.heap.size, 0, none⟩) 1 1) :: parP w0 bp fin s :: blk b8 fobj0 :: ps)) := Lib.hid ho.kid1; clear ho hd hN2; go_wp2_with fail
 go_loopg [9] (toks s).length (fun gk v' wr => ∃ (L : List (Fm × Value)) (s : PSt) (v : Value), v = v' /\ gk = (toks s).length /\ L.length + (toks s).length <= 1000001 /\ Hid (Owns w0 wr (kidsP L v :: parP w0 bp fin s :: blk b8 fobj0 :: ps)) /\ Hid (PI op word part s0 (L.map Prod.fst) s /\ (toks s).length <= (toks s0).length))
 case atStart => exact ⟨_, s, _, rfl, rfl, by have := HPI0.out.2; have := HS.out; have := HB.out; simp; omega, HO, HPI0⟩
 case round =>
  rename_i J1 K1 hJ1 hK1; clear HO HPI0; obtain ⟨L, s, v, rfl, rfl, hLl, HO, HPI⟩ := hrel; have HL0 : Hid (L ≠ []) := by have := HPI.out.1.1; exact fun e => this (by rw [e]; rfl)
  rcases s with x | (_ | ⟨t, r⟩)
  ·have HD : Hid (Did (partsF op word part) s0 (mkL op (L.map Prod.fst)) (.error x)) := HPI.out.1.err _; obtain ⟨hf, yp, mp, hv, hp⟩ := HO.out.swap.par; simp only [pobj, code, pos, toks, List.length_nil] at hp; obtain ⟨hbp, -, cp0⟩ := bx1 hp.blk; clear hf hv hp HPI hJ1 hK1; obtain ⟨y, m, rfl⟩ := HO.out.kform; obtain ⟨NL, hNL⟩ : ∃ NL, NL = L.length := ⟨_, rfl⟩; have HNL := Lib.hid hNL; have hNL1 : 1 <= NL := by rw [hNL]; exact List.length_pos_iff.2 HL0.out
   rw [<- hNL] at HO ⊢; clear hNL; by_cases h1 : NL = 1
   ·subst h1; obtain ⟨⟨k, kv⟩, rfl⟩ : ∃ p, L = [p] := List.length_eq_one_iff.1 HNL.out.symm; have HF := Lib.hid HO.out.konly.fm; obtain ⟨y2, m2, rfl⟩ := HF.out.form; obtain ⟨N2, hN2⟩ : ∃ N2, N2 = k.kids.length := ⟨_, rfl⟩; rw [<- hN2] at HO HF; obtain ⟨gk, mk, e1, hgm, hgk, d0, d1, d2, d3, d4⟩ := HO.out.kget (j := 0) rfl; simp only [Value.slice.injEq] at e1; obtain ⟨rfl, -, rfl⟩ := e1; simp only [Nat.zero_mul, Nat.zero_add] at d0 d1 d2 d3 d4; replace HO := Lib.hid (HO.out.konly.re [2, 0, 1]); simp only [fobj0] at HO
    focus
     obtain ⟨hbe, ⟨fe0, fe1, fe2, fe3, fe4⟩, ce0, ce1, ce2, ce3, ce4⟩ := bx5 HO.out.blk; clear hN2 hNL1; go_wp2_with fail
    have h2 := st5 HO.out (.int .i64 k.op) (.string (bs k.name)) (.int .i64 k.cmp) (.int .i64 k.num) (.slice y2 N2 m2); exact bodyPost_ret (list_res rfl h2.blk.1) (by rfl) ⟨k, _, _, rfl, HD.out, h2.pop⟩
   ·have h1' : ((NL : Int) == 1) = false := by simp; omega
    have HM : Hid (mkL op (L.map Prod.fst) = .mk op [] 0 0 (L.map Prod.fst)) := by
     show _ = _; rcases L with _ | ⟨a, _ | ⟨b, L⟩⟩
     ·exact absurd rfl HL0.out
     ·exact absurd HNL.out h1
     ·rfl
    replace HO := Lib.hid ((HO.out.knode op [] 0 0).re [2, 0, 1]); simp only [fobj0] at HO
    focus
     obtain ⟨hbe, ⟨fe0, fe1, fe2, fe3, fe4⟩, ce0, ce1, ce2, ce3, ce4⟩ := bx5 HO.out.blk; clear h1 hNL1; go_wp2_with fail
    have h2 := st5 HO.out (.int .i64 op) (.string ⟨#[]⟩) (.int .i64 0) (.int .i64 0) (.slice y NL m); exact bodyPost_ret (list_res rfl h2.blk.1) (by rfl) ⟨_, _, _, rfl, HM.out ▸ HD.out, h2.pop⟩
  ·have HD : Hid (Did (partsF op word part) s0 (mkL op (L.map Prod.fst)) (.ok [])) := HPI.out.1.stop HPI.out.2 (fun t r e => by cases e); obtain ⟨hf, yp, mp, hv, hp⟩ := HO.out.swap.par; simp only [pobj, code, pos, toks, List.length_nil] at hp; obtain ⟨hbp, -, cp0⟩ := bx1 hp.blk; clear hf hv hp HPI hJ1 hK1; obtain ⟨y, m, rfl⟩ := HO.out.kform; obtain ⟨NL, hNL⟩ : ∃ NL, NL = L.length := ⟨_, rfl⟩; have HNL := Lib.hid hNL; have hNL1 : 1 <= NL := by rw [hNL]; exact List.length_pos_iff.2 HL0.out
   rw [<- hNL] at HO ⊢; clear hNL; by_cases h1 : NL = 1
   ·subst h1; obtain ⟨⟨k, kv⟩, rfl⟩ : ∃ p, L = [p] := List.length_eq_one_iff.1 HNL.out.symm; have HF := Lib.hid HO.out.konly.fm; obtain ⟨y2, m2, rfl⟩ := HF.out.form; obtain ⟨N2, hN2⟩ : ∃ N2, N2 = k.kids.length := ⟨_, rfl⟩; rw [<- hN2] at HO HF; obtain ⟨gk, mk, e1, hgm, hgk, d0, d1, d2, d3, d4⟩ := HO.out.kget (j := 0) rfl; simp only [Value.slice.injEq] at e1; obtain ⟨rfl, -, rfl⟩ := e1; simp only [Nat.zero_mul, Nat.zero_add] at d0 d1 d2 d3 d4; replace HO := Lib.hid (HO.out.konly.re [2, 0, 1]); simp only [fobj0] at HO
    focus
     obtain ⟨hbe, ⟨fe0, fe1, fe2, fe3, fe4⟩, ce0, ce1, ce2, ce3, ce4⟩ := bx5 HO.out.blk; clear hN2 hNL1; go_wp2_with fail
    have h2 := st5 HO.out (.int .i64 k.op) (.string (bs k.name)) (.int .i64 k.cmp) (.int .i64 k.num) (.slice y2 N2 m2); exact bodyPost_ret (list_res rfl h2.blk.1) (by rfl) ⟨k, _, _, rfl, HD.out, h2.pop⟩
   ·have h1' : ((NL : Int) == 1) = false := by simp; omega
    have HM : Hid (mkL op (L.map Prod.fst) = .mk op [] 0 0 (L.map Prod.fst)) := by
     show _ = _; rcases L with _ | ⟨a, _ | ⟨b, L⟩⟩
     ·exact absurd rfl HL0.out
     ·exact absurd HNL.out h1
     ·rfl
    replace HO := Lib.hid ((HO.out.knode op [] 0 0).re [2, 0, 1]); simp only [fobj0] at HO
    focus
     obtain ⟨hbe, ⟨fe0, fe1, fe2, fe3, fe4⟩, ce0, ce1, ce2, ce3, ce4⟩ := bx5 HO.out.blk; clear h1 hNL1; go_wp2_with fail
    have h2 := st5 HO.out (.int .i64 op) (.string ⟨#[]⟩) (.int .i64 0) (.int .i64 0) (.slice y NL m); exact bodyPost_ret (list_res rfl h2.blk.1) (by rfl) ⟨_, _, _, rfl, HM.out ▸ HD.out, h2.pop⟩
  ·obtain ⟨N, hN⟩ : ∃ N, N = (toks (.ok (t :: r))).length := ⟨_, rfl⟩; have HN := Lib.hid hN; have hN0 : 0 < N := by rw [hN]; simp [toks]
   obtain ⟨hf, yp, mp, hv, hp⟩ := HO.out.swap.par; rw [<- hN] at hv hp; obtain ⟨g, off, rfl, hNm, hg, c0, c1, c2, c3⟩ := hv.get (j := 0) HO.out.base rfl; simp only [pobj, code, pos] at hp; simp only [Nat.zero_mul, Nat.add_zero] at c0 c1 c2 c3; obtain ⟨hbp, -, cp0⟩ := bx1 hp.blk; clear hf hv hp hN; by_cases ht : t.kind = 1
   case neg =>
    have ht' : ((t.kind : Int) == 1) = false := by simp; omega
    have HD : Hid (Did (partsF op word part) s0 (mkL op (L.map Prod.fst)) (.ok (t :: r))) := HPI.out.1.stop HPI.out.2 (fun t' r' e h => by cases e; exact ht h.1); clear HPI hJ1 hK1 ht; obtain ⟨y, m, rfl⟩ := HO.out.kform; obtain ⟨NL, hNL⟩ : ∃ NL, NL = L.length := ⟨_, rfl⟩; have HNL := Lib.hid hNL; have hNL1 : 1 <= NL := by rw [hNL]; exact List.length_pos_iff.2 HL0.out
    rw [<- hNL] at HO ⊢; clear hNL; by_cases h1 : NL = 1
    ·subst h1; obtain ⟨⟨k, kv⟩, rfl⟩ : ∃ p, L = [p] := List.length_eq_one_iff.1 HNL.out.symm; have HF := Lib.hid HO.out.konly.fm; obtain ⟨y2, m2, rfl⟩ := HF.out.form; obtain ⟨N2, hN2⟩ : ∃ N2, N2 = k.kids.length := ⟨_, rfl⟩; rw [<- hN2] at HO HF; obtain ⟨gk, mk, e1, hgm, hgk, d0, d1, d2, d3, d4⟩ := HO.out.kget (j := 0) rfl; simp only [Value.slice.injEq] at e1; obtain ⟨rfl, -, rfl⟩ := e1; simp only [Nat.zero_mul, Nat.zero_add] at d0 d1 d2 d3 d4; replace HO := Lib.hid (HO.out.konly.re [2, 0, 1]); simp only [fobj0] at HO
     focus
      obtain ⟨hbe, ⟨fe0, fe1, fe2, fe3, fe4⟩, ce0, ce1, ce2, ce3, ce4⟩ := bx5 HO.out.blk; clear hN2 hNL1; go_wp2_with fail
     have h2 := st5 HO.out (.int .i64 k.op) (.string (bs k.name)) (.int .i64 k.cmp) (.int .i64 k.num) (.slice y2 N2 m2); exact bodyPost_ret (list_res rfl h2.blk.1) (by rfl) ⟨k, _, _, rfl, HD.out, h2.pop⟩
    ·have h1' : ((NL : Int) == 1) = false := by simp; omega
     have HM : Hid (mkL op (L.map Prod.fst) = .mk op [] 0 0 (L.map Prod.fst)) := by
      show _ = _; rcases L with _ | ⟨a, _ | ⟨b, L⟩⟩
      ·exact absurd rfl HL0.out
      ·exact absurd HNL.out h1
      ·rfl
     replace HO := Lib.hid ((HO.out.knode op [] 0 0).re [2, 0, 1]); simp only [fobj0] at HO
     focus
      obtain ⟨hbe, ⟨fe0, fe1, fe2, fe3, fe4⟩, ce0, ce1, ce2, ce3, ce4⟩ := bx5 HO.out.blk; clear h1 hNL1; go_wp2_with fail
     have h2 := st5 HO.out (.int .i64 op) (.string ⟨#[]⟩) (.int .i64 0) (.int .i64 0) (.slice y NL m); exact bodyPost_ret (list_res rfl h2.blk.1) (by rfl) ⟨_, _, _, rfl, HM.out ▸ HD.out, h2.pop⟩
   have ht' : ((t.kind : Int) == 1) = true := by simp; omega
   by_cases hw : t.text = word
   case neg =>
    have hw' : (t.text == word) = false := by simpa using hw
    have HD : Hid (Did (partsF op word part) s0 (mkL op (L.map Prod.fst)) (.ok (t :: r))) := HPI.out.1.stop HPI.out.2 (fun t' r' e h => by cases e; exact hw h.2); clear HPI hJ1 hK1 ht hw; obtain ⟨y, m, rfl⟩ := HO.out.kform; obtain ⟨NL, hNL⟩ : ∃ NL, NL = L.length := ⟨_, rfl⟩; have HNL := Lib.hid hNL; have hNL1 : 1 <= NL := by rw [hNL]; exact List.length_pos_iff.2 HL0.out
    rw [<- hNL] at HO ⊢; clear hNL; by_cases h1 : NL = 1
    ·subst h1; obtain ⟨⟨k, kv⟩, rfl⟩ : ∃ p, L = [p] := List.length_eq_one_iff.1 HNL.out.symm; have HF := Lib.hid HO.out.konly.fm; obtain ⟨y2, m2, rfl⟩ := HF.out.form; obtain ⟨N2, hN2⟩ : ∃ N2, N2 = k.kids.length := ⟨_, rfl⟩; rw [<- hN2] at HO HF; obtain ⟨gk, mk, e1, hgm, hgk, d0, d1, d2, d3, d4⟩ := HO.out.kget (j := 0) rfl; simp only [Value.slice.injEq] at e1; obtain ⟨rfl, -, rfl⟩ := e1; simp only [Nat.zero_mul, Nat.zero_add] at d0 d1 d2 d3 d4; replace HO := Lib.hid (HO.out.konly.re [2, 0, 1]); simp only [fobj0] at HO
     focus
      obtain ⟨hbe, ⟨fe0, fe1, fe2, fe3, fe4⟩, ce0, ce1, ce2, ce3, ce4⟩ := bx5 HO.out.blk; clear hN2 hNL1; go_wp2_with fail
     have h2 := st5 HO.out (.int .i64 k.op) (.string (bs k.name)) (.int .i64 k.cmp) (.int .i64 k.num) (.slice y2 N2 m2); exact bodyPost_ret (list_res rfl h2.blk.1) (by rfl) ⟨k, _, _, rfl, HD.out, h2.pop⟩
    ·have h1' : ((NL : Int) == 1) = false := by simp; omega
     have HM : Hid (mkL op (L.map Prod.fst) = .mk op [] 0 0 (L.map Prod.fst)) := by
      show _ = _; rcases L with _ | ⟨a, _ | ⟨b, L⟩⟩
      ·exact absurd rfl HL0.out
      ·exact absurd HNL.out h1
      ·rfl
     replace HO := Lib.hid ((HO.out.knode op [] 0 0).re [2, 0, 1]); simp only [fobj0] at HO
     focus
      obtain ⟨hbe, ⟨fe0, fe1, fe2, fe3, fe4⟩, ce0, ce1, ce2, ce3, ce4⟩ := bx5 HO.out.blk; clear h1 hNL1; go_wp2_with fail
     have h2 := st5 HO.out (.int .i64 op) (.string ⟨#[]⟩) (.int .i64 0) (.int .i64 0) (.slice y NL m); exact bodyPost_ret (list_res rfl h2.blk.1) (by rfl) ⟨_, _, _, rfl, HM.out ▸ HD.out, h2.pop⟩
   have hw' : (t.text == word) = true := by simpa using hw
   have HT : Hid (t.kind = 1 /\ t.text = word) := ⟨ht, hw⟩; clear ht hw; rw [<- HN.out] at hLl; go_wp2_with fail
   clear hbp cp0 c0 c1 c2 c3 hg ht' hw' hN0 hNm; go_at_call 153
   refine (take_c (w0 := w0) (bp := bp) (fin := fin) (kidsP L v :: blk b8 fobj0 :: ps) (.ok (t :: r)) wr HO.out.swap (by have h1 := HPI.out.2; have h2 := HS.out; have h3 := HB.out; omega)).mono ?_; rintro e W3 ⟨rfl, ho⟩; have HO3 : Hid (Owns w0 W3 (parP w0 bp fin (.ok r) :: kidsP L v :: blk b8 fobj0 :: ps)) := Lib.hid ho; clear ho HO; go_wp2_with fail
   refine (HCh.out (kidsP L v :: blk b8 fobj0 :: ps) (.ok r) W3 (by have h1 := HPI.out.2; have h2 := HS.out; simp [toks] at h1 h2 ⊢; omega) HO3.out).mono ?_; rintro e W4 ⟨f, kv, s2, rfl, hd, ho⟩; have HPI2 : Hid (PI op word part s0 ((L ++ [(f, kv)]).map Prod.fst) s2 /\ (toks s2).length <= (toks s0).length /\ (toks s2).length < N) := by
    refine ⟨by rw [List.map_append]; exact HPI.out.1.step HT.out hd, ?_, ?_⟩
    ·have h1 := HPI.out.2; have h2 := hd.2.1; simp [toks] at h1 h2 ⊢; omega
    ·rw [HN.out]; have h2 := hd.2.1; simp [toks] at h2 ⊢; omega
   obtain ⟨y2, m2, rfl⟩ := ho.fm.form; obtain ⟨N2, hN2⟩ : ∃ N2, N2 = f.kids.length := ⟨_, rfl⟩; rw [<- hN2] at ho HPI2 ⊢; have HO4 : Hid (Owns w0 (W4.alloc (.cells #[.int .i64 f.op, .string (bs f.name), .int .i64 f.cmp, .int .i64 f.num, .slice y2 N2 m2] 24)) (kidsP L v :: fmP f (.slice y2 N2 m2) :: parP w0 bp fin s2 :: blk b8 fobj0 :: ps)) := Lib.hid ((ho.alloc _).re [2, 0, 1]); have hLl2 : L.length <= 1000001 := by omega
   clear ho hd hN2 HO3 HPI; go_wp2_with (refine wpList_plain rfl fun K hK => wp_append (.tmp 42) (.tmp 45) 22 (by rfl) 24 _ 5 64 Tryz.underlying22 info_fm (by rfl) (by omega) v L.length _ (by rfl) HO4.out.krow W4.heap.size 1 1 (fcells f (.slice y2 N2 m2)) (by rfl) (by rfl) 24 (by exact new_heap W4 _ _ rfl) (by simp [fcells, Value.oneCell']) (by omega) (by omega) ?_; intro v' w2 hrow hgrow hblk; have HO5 := Lib.hid (HO4.out.kid hrow hgrow hblk); clear hrow hgrow hblk)
   go_roundg (toks s2).length
   case measure => have := HPI2.out.2.2; rw [HN.out] at this; exact this
   case rel => exact ⟨L ++ [(f, .slice y2 N2 m2)], s2, _, rfl, rfl, by have := HPI2.out.2.2; rw [List.length_append, List.length_singleton]; omega, HO5, Lib.hid ⟨HPI2.out.1, HPI2.out.2.1⟩⟩
end
end Go.Proofs.YtoeknmkephnekaaGreatDoor
namespace Go.Cz.Fo
open Go.Cz.Lx
def symsL : List ByteArray := [bs [], bs [61], bs [33, 61], bs [60], bs [60, 61], bs [62], bs [62, 61]]
def symX (s : Bytes) : Int := Lib.idxOfS (symsL.take 7) (bs s)
theorem symX_eq (s : Bytes) : (symX s < 1 ↔ symI s = 0) /\ (symI s ≠ 0 -> symX s = symI s) := by
 have ne : ∀ {a b : Bytes}, a ≠ b -> bs a ≠ bs b := fun h e => h (bs_inj e); by_cases h1 : s = [61]
 ·subst h1; decide +kernel
 by_cases h2 : s = [33, 61]
 ·subst h2; decide +kernel
 by_cases h3 : s = [60]
 ·subst h3; decide +kernel
 by_cases h4 : s = [60, 61]
 ·subst h4; decide +kernel
 by_cases h5 : s = [62]
 ·subst h5; decide +kernel
 by_cases h6 : s = [62, 61]
 ·subst h6; decide +kernel
 by_cases h0 : s = []
 ·subst h0; decide +kernel
 have hI : symI s = 0 := by unfold symI; rw [if_neg h1, if_neg h2, if_neg h3, if_neg h4, if_neg h5, if_neg h6]
 have hX : symX s = -1 := Lib.idxOfS_miss symsL 7 (bs s) (by
  intro j hj; rcases j with _ | _ | _ | _ | _ | _ | _ | j
  ·exact ne fun e => h0 e.symm
  ·exact ne fun e => h1 e.symm
  ·exact ne fun e => h2 e.symm
  ·exact ne fun e => h3 e.symm
  ·exact ne fun e => h4 e.symm
  ·exact ne fun e => h5 e.symm
  ·exact ne fun e => h6 e.symm
  ·omega)
 rw [hI, hX]
 decide
theorem fail_len (s : PSt) (e : Nat) (a : Int) : (toks (failS s e a)).length <= (toks s).length := by cases s <;> simp [failS, toks]
section
variable {fin : Int} {n : Nat} {t : Tok} {r : List Tok} {s s2 : PSt} {f : Fm}
theorem Did.bad {x : Nat × Int} {part : List Tok -> Res} (h : PSt.fine s) (hs : (∃ y, s = .error y /\ x = y) ∨ (∃ ts, s = .ok ts /\ part ts = .error x /\ x.1 ≠ 0)) (g : Fm) : Did part s g (.error x) := by
 rcases hs with ⟨y, rfl, rfl⟩ | ⟨ts, rfl, h1, h2⟩
 ·exact ⟨h, Nat.le_refl _, rfl⟩
 ·refine ⟨h2, by simp [toks], ?_⟩; simp only; rw [h1]
theorem one_none (g : Fm) (h : PSt.fine s) (hs : ∀ t r, s ≠ .ok (t :: r)) (e : Nat) (a : Int) : Did (oneF fin (n + 1)) s g (failS (nextS fin s) e a) := by
 rcases s with x | (_ | ⟨t, r⟩)
 ·exact Did.bad h (.inl ⟨x, rfl, rfl⟩) g
 ·exact Did.bad h (.inr ⟨[], rfl, by rw [oneF], by simp⟩) g
 ·exact absurd rfl (hs t r)
theorem did_ok {part : List Tok -> Res} {ts : List Tok} {g : Fm} {r : List Tok} (h : part ts = .ok (g, r)) (hl : r.length <= ts.length) : Did part (.ok ts) g (.ok r) := by
 refine ⟨trivial, hl, ?_⟩; simp only; rw [h]; exact ⟨rfl, rfl⟩
theorem did_err {part : List Tok -> Res} {ts : List Tok} {x : Nat × Int} (h : part ts = .error x) (hx : x.1 ≠ 0) (g : Fm) : Did part (.ok ts) g (.error x) := Did.bad (s := .ok ts) trivial (.inr ⟨ts, rfl, h, hx⟩) g
theorem one_not (h : t.kind = 1 /\ t.text = wNot) (hd : Did (oneF fin n) (.ok r) f s2) : Did (oneF fin (n + 1)) (.ok (t :: r)) (.mk 4 [] 0 0 [f]) s2 := by
 obtain ⟨d1, d2, d3⟩ := hd; refine ⟨d1, by simp [toks] at d2 ⊢; omega, ?_⟩; simp only at d3 ⊢; rw [oneF, if_pos h]; cases hp : oneF fin n r with
 | error x => rw [hp] at d3; exact d3
 | ok z => obtain ⟨g, r2⟩ := z; rw [hp] at d3; obtain ⟨rfl, rfl⟩ := d3; exact ⟨rfl, rfl⟩
theorem one_true (h : t.kind = 1 /\ t.text = wTrue) : Did (oneF fin (n + 1)) (.ok (t :: r)) (.mk 1 [] 0 0 []) (.ok r) :=
 did_ok (by rw [oneF, if_neg (by rw [h.2]; rintro ⟨-, h⟩; revert h; decide), if_pos h]) (by simp)
theorem one_false (h : t.kind = 1 /\ t.text = wFalse) : Did (oneF fin (n + 1)) (.ok (t :: r)) (.mk 2 [] 0 0 []) (.ok r) :=
 did_ok (by rw [oneF, if_neg (by rw [h.2]; rintro ⟨-, h⟩; revert h; decide), if_neg (by rw [h.2]; rintro ⟨-, h⟩; revert h; decide), if_pos h]) (by simp)
theorem one_syn (h0 : ¬ (t.kind = 1 /\ (t.text = wNot ∨ t.text = wTrue ∨ t.text = wFalse))) (h1 : ¬ (t.kind = 4 /\ t.text = [40])) (h : t.kind ≠ 1 ∨ t.text = [] ∨ keyB t.text = true) (g : Fm) : Did (oneF fin (n + 1)) (.ok (t :: r)) g (failS (.ok r) 5 t.pos) :=
 did_err (by rw [oneF, if_neg fun e => h0 ⟨e.1, .inl e.2⟩, if_neg fun e => h0 ⟨e.1, .inr (.inl e.2)⟩, if_neg fun e => h0 ⟨e.1, .inr (.inr e.2)⟩, if_neg h1, if_pos h]) (by simp) g
theorem one_paren_did (h : t.kind = 4 /\ t.text = [40]) (hd : Did (partsF 6 wOr (partsF 5 wAnd (oneF fin n))) (.ok r) f s2) :
  ((nextT s2).kind = 4 /\ (nextT s2).text = [41] -> Did (oneF fin (n + 1)) (.ok (t :: r)) f (nextS fin s2)) /\
  (¬ ((nextT s2).kind = 4 /\ (nextT s2).text = [41]) -> Did (oneF fin (n + 1)) (.ok (t :: r)) f (failS (nextS fin s2) 5 (nextT s2).pos)) := by
 obtain ⟨d1, d2, d3⟩ := hd; have hk : t.kind ≠ 1 := by rw [h.1]; decide
 have he : oneF fin (n + 1) (t :: r) = match partsF 6 wOr (partsF 5 wAnd (oneF fin n)) r with
   | .error e => .error e
   | .ok (f, []) => .error (6, fin)
   | .ok (f, u :: r2) => if u.kind = 4 /\ u.text = [41] then .ok (f, r2) else .error (5, u.pos) := by
  rw [oneF, if_neg fun e => hk e.1, if_neg fun e => hk e.1, if_neg fun e => hk e.1, if_pos h]
  rfl
 simp only at d3; cases hp : partsF 6 wOr (partsF 5 wAnd (oneF fin n)) r with
 | error x =>
  rw [hp] at d3 he; simp only at d3; subst d3; exact ⟨fun e => absurd e.1 (show (0 : Nat) ≠ 4 by decide), fun _ => did_err he d1 f⟩
 | ok z =>
  obtain ⟨g, r2⟩ := z; rw [hp] at d3 he; obtain ⟨rfl, rfl⟩ := d3; cases r2 with
  | nil => exact ⟨fun e => absurd e.1 (show (0 : Nat) ≠ 4 by decide), fun _ => did_err he (by simp) f⟩
  | cons u r3 =>
   simp only at he; simp only [nextT, nextS, failS]; refine ⟨fun e => did_ok (by rw [he, if_pos e]) (by simp [toks] at d2 ⊢; omega), fun e => did_err (by rw [he, if_neg e]) (by simp) f⟩
def stB (fin : Int) (s1 : PSt) : PSt := if (nextT s1).kind ≠ 4 ∨ symX (nextT s1).text < 1 then failS (nextS fin s1) 5 (nextT s1).pos else nextS fin s1
def stD (fin : Int) (sB : PSt) : PSt := if (nextT sB).kind ≠ 2 then failS (nextS fin sB) 5 (nextT sB).pos else nextS fin sB
def stE (m : Tok) (sD : PSt) : PSt := if 1000000 < m.num then failS sD 10 m.pos else sD
theorem one_test (hk : t.kind = 1) (hn : t.text ≠ wNot) (ht : t.text ≠ wTrue) (hf : t.text ≠ wFalse) (h0 : t.text ≠ []) (hK : keyB t.text = false) :
  Did (oneF fin (n + 1)) (.ok (t :: r)) (.mk 3 t.text (symX (nextT (.ok r)).text) (nextT (stB fin (.ok r))).num []) (stE (nextT (stB fin (.ok r))) (stD fin (stB fin (.ok r)))) := by
 have he : oneF fin (n + 1) (t :: r) = testF fin t.text r := by
  rw [oneF, if_neg fun e => hn e.2, if_neg fun e => ht e.2, if_neg fun e => hf e.2, if_neg (by rw [hk]; simp), if_neg (by rw [hK]; simp [hk, h0])]
 have hbad : ∀ (x : Nat × Int), x.1 ≠ 0 -> testF fin t.text r = .error x -> stB fin (.ok r) = .error x -> Did (oneF fin (n + 1)) (.ok (t :: r)) (.mk 3 t.text (symX (nextT (.ok r)).text) (nextT (stB fin (.ok r))).num []) (stE (nextT (stB fin (.ok r))) (stD fin (stB fin (.ok r)))) := by
  intro x hx h1 h2; rw [h2]; show Did _ _ _ (stE zTok (stD fin (.error x))); have e : stE zTok (stD fin (.error x)) = .error x := by simp [stE, stD, nextT, nextS, zTok, failS]
  rw [e]; exact did_err (he.trans h1) hx _
 cases r with
 | nil => exact hbad (6, fin) (by simp) rfl (by simp [stB, nextT, nextS, zTok, failS])
 | cons c r2 =>
  have hs := symX_eq c.text; by_cases hc : c.kind ≠ 4 ∨ symI c.text = 0
  ·exact hbad (5, c.pos) (by simp) (by simp only [testF]; rw [if_pos hc]) (by
    unfold stB; rw [if_pos (by
     show c.kind ≠ 4 ∨ symX c.text < 1; exact hc.imp id hs.1.2)]
    rfl)
  ·have hB : stB fin (.ok (c :: r2)) = .ok r2 := by
    unfold stB; rw [if_neg (by
     show ¬ (c.kind ≠ 4 ∨ symX c.text < 1); exact fun h => hc (h.imp id hs.1.1))]
    rfl
   have hx : symX c.text = symI c.text := hs.2 fun h => hc (.inr h); rw [hB]; cases r2 with
   | nil =>
    have he2 : testF fin t.text [c] = .error (6, fin) := by simp only [testF]; rw [if_neg hc]
    have e : stE (nextT (.ok [])) (stD fin (.ok [])) = .error (6, fin) := by simp [stE, stD, nextT, nextS, zTok, failS]
    rw [e]; exact did_err (he.trans he2) (by simp) _
   | cons m r3 =>
    have he2 : testF fin t.text (c :: m :: r3) = if m.kind ≠ 2 then .error (5, m.pos) else if 1000000 < m.num then .error (10, m.pos) else .ok (.mk 3 t.text (symI c.text) m.num [], r3) := by simp only [testF]; rw [if_neg hc]
    show Did _ _ (.mk 3 t.text (symX c.text) m.num []) (stE m (stD fin (.ok (m :: r3)))); by_cases hm : m.kind ≠ 2
    ·have e : stE m (stD fin (.ok (m :: r3))) = .error (5, m.pos) := by
      unfold stD stE; rw [if_pos (show (nextT (.ok (m :: r3))).kind ≠ 2 from hm)]
      split <;> rfl
     rw [e]; exact did_err (by rw [he, he2, if_pos hm]) (by simp) _
    ·have hD : stD fin (.ok (m :: r3)) = .ok r3 := by
      unfold stD; rw [if_neg (show ¬ (nextT (.ok (m :: r3))).kind ≠ 2 from hm)]
      rfl
     rw [hD, hx]; by_cases hb : 1000000 < m.num
     ·have e : stE m (.ok r3) = .error (10, m.pos) := by unfold stE; rw [if_pos hb]; rfl
      rw [e]; exact did_err (by rw [he, he2, if_neg hm, if_pos hb]) (by simp) _
     ·have e : stE m (.ok r3) = .ok r3 := by unfold stE; rw [if_neg hb]
      rw [e]; exact did_ok (by rw [he, he2, if_neg hm, if_neg hb]) (by simp; omega)
end
end Go.Cz.Fo
namespace Go.Cz.Fo
open Go.Cz.Lx
theorem nextT_ok {s : PSt} {t : Tok} (h : t = nextT s) (hk : t.kind ≠ 0) (fin : Int) : ∃ r, s = .ok (t :: r) /\ nextS fin s = .ok r := by
 subst h; rcases s with x | (_ | ⟨t, r⟩)
 ·exact absurd rfl hk
 ·exact absurd rfl hk
 ·exact ⟨r, rfl, rfl⟩
theorem syn_any {fin : Int} {n : Nat} {s : PSt} {t : Tok} (ht : t = nextT s) (hf : PSt.fine s) (h0 : ¬ (t.kind = 1 /\ (t.text = wNot ∨ t.text = wTrue ∨ t.text = wFalse))) (h1 : ¬ (t.kind = 4 /\ t.text = [40])) (h : t.kind ≠ 1 ∨ t.text = [] ∨ keyB t.text = true) (g : Fm) : Did (oneF fin (n + 1)) s g (failS (nextS fin s) 5 t.pos) := by
 rcases s with x | (_ | ⟨t', r⟩)
 ·exact one_none g hf (fun t r e => by cases e) 5 t.pos
 ·exact one_none g hf (fun t r e => by cases e) 5 t.pos
 ·subst ht; exact one_syn h0 h1 h g
end Go.Cz.Fo
namespace Go.Proofs.YtoeknmkephnekaaGreatDoor
open Go.RowKit Go.Cz Go.Cz.Lx Go.Cz.Fo
attribute [local go_sem] bs_size bs_extract bs_append bs_toList
attribute [local irreducible] cList cPlan
section
variable {w0 : World} {bp : Nat} {fin : Int}
theorem all_c (part : List Tok -> Res) (B : Nat) (hB : B <= 1000000) (HC : PartC w0 bp fin 154 part B) : PartC w0 bp fin 134 (partsF 5 wAnd part) B := by
 intro ps s w hs h; have HS := Lib.hid hs; have HCh := Lib.hid HC; clear hs HC; obtain ⟨W1, hW1⟩ : ∃ W1, W1 = w.alloc (.cells #[.int .i64 0, .string ⟨#[]⟩, .int .i64 0, .int .i64 0, .slice none 0 0] 24) := ⟨_, rfl⟩; obtain ⟨b2, hb2⟩ : ∃ b2, b2 = w.heap.size := ⟨_, rfl⟩; have HO : Hid (Owns w0 W1 (parP w0 bp fin s :: blk b2 fobj0 :: ps)) := by
  rw [hW1, hb2]; exact Lib.hid (h.box fobj0).swap
 clear h; go_enter Tryz.func134, Tryz.ntmps134
 go_wp2_with fail
 rw [<- hW1, <- hb2]; clear hW1 hb2; go_at_call 133
 refine (listO_c part B hB HCh.out (blk b2 fobj0 :: ps) 5 wAnd s W1 HS.out (by decide) HO.out).mono ?_; rintro e W2 ⟨f, kv, s', rfl, hd, ho⟩; obtain ⟨y2, m2, rfl⟩ := ho.fm.form; obtain ⟨N2, hN2⟩ : ∃ N2, N2 = f.kids.length := ⟨_, rfl⟩; rw [<- hN2] at ho ⊢; have HD := Lib.hid hd; replace HO := Lib.hid (ho.re [2, 0, 1]); simp only [fobj0] at HO; clear ho hd hN2; obtain ⟨hbe, ⟨fe0, fe1, fe2, fe3, fe4⟩, ce0, ce1, ce2, ce3, ce4⟩ := bx5 HO.out.blk; go_wp2_with fail
 have h2 := st5 HO.out (.int .i64 f.op) (.string (bs f.name)) (.int .i64 f.cmp) (.int .i64 f.num) (.slice y2 N2 m2); exact bodyPost_ret (all_res rfl h2.blk.1) (by rfl) ⟨f, _, _, rfl, HD.out, h2.pop⟩
theorem either_c (part : List Tok -> Res) (B : Nat) (hB : B <= 1000000) (HC : PartC w0 bp fin 134 part B) : PartC w0 bp fin 105 (partsF 6 wOr part) B := by
 intro ps s w hs h; have HS := Lib.hid hs; have HCh := Lib.hid HC; clear hs HC; obtain ⟨W1, hW1⟩ : ∃ W1, W1 = w.alloc (.cells #[.int .i64 0, .string ⟨#[]⟩, .int .i64 0, .int .i64 0, .slice none 0 0] 24) := ⟨_, rfl⟩; obtain ⟨b2, hb2⟩ : ∃ b2, b2 = w.heap.size := ⟨_, rfl⟩; have HO : Hid (Owns w0 W1 (parP w0 bp fin s :: blk b2 fobj0 :: ps)) := by
  rw [hW1, hb2]; exact Lib.hid (h.box fobj0).swap
 clear h; go_enter Tryz.func105, Tryz.ntmps105
 go_wp2_with fail
 rw [<- hW1, <- hb2]; clear hW1 hb2; go_at_call 133
 refine (listA_c part B hB HCh.out (blk b2 fobj0 :: ps) 6 wOr s W1 HS.out (by decide) HO.out).mono ?_; rintro e W2 ⟨f, kv, s', rfl, hd, ho⟩; obtain ⟨y2, m2, rfl⟩ := ho.fm.form; obtain ⟨N2, hN2⟩ : ∃ N2, N2 = f.kids.length := ⟨_, rfl⟩; rw [<- hN2] at ho ⊢; have HD := Lib.hid hd; replace HO := Lib.hid (ho.re [2, 0, 1]); simp only [fobj0] at HO; clear ho hd hN2; obtain ⟨hbe, ⟨fe0, fe1, fe2, fe3, fe4⟩, ce0, ce1, ce2, ce3, ce4⟩ := bx5 HO.out.blk; go_wp2_with fail
 have h2 := st5 HO.out (.int .i64 f.op) (.string (bs f.name)) (.int .i64 f.cmp) (.int .i64 f.num) (.slice y2 N2 m2); exact bodyPost_ret (either_res rfl h2.blk.1) (by rfl) ⟨f, _, _, rfl, HD.out, h2.pop⟩
abbrev f6 (u : Bytes) (x : Int) : Obj := .cells #[.int .i64 3, .string (bs u), .int .i64 x, .int .i64 0, .slice none 0 0] 24 (0, 0)
abbrev symO : Obj := .cells #[.string (bs []), .string (bs [61]), .string (bs [33, 61]), .string (bs [60]), .string (bs [60, 61]), .string (bs [62]), .string (bs [62, 61])] 76 (0, 0)
set_option maxRecDepth 100000 in
set_option maxHeartbeats 8000000 in
theorem one_step (n : Nat) (hn : n <= 1000000) (HI : ∀ n', n = n' + 1 -> PartC w0 bp fin 154 (oneF fin (n' + 1)) n') : PartC w0 bp fin 154 (oneF fin (n + 1)) n := by
 intro ps s w hs h; have HIh := Lib.hid HI; have HS := Lib.hid hs; have HNn := Lib.hid hn; have HFi := Lib.hid h.par.1; clear hs HI; obtain ⟨W1, hW1⟩ : ∃ W1, W1 = w.alloc (.cells #[.int .i64 0, .string ⟨#[]⟩, .int .i64 0, .int .i64 0, .slice none 0 0] 24) := ⟨_, rfl⟩; obtain ⟨b2, hb2⟩ : ∃ b2, b2 = w.heap.size := ⟨_, rfl⟩; have HO : Hid (Owns w0 W1 (parP w0 bp fin s :: blk b2 fobj0 :: ps)) := by
  rw [hW1, hb2]; exact Lib.hid (h.box fobj0).swap
 clear h; go_enter Tryz.func154, Tryz.ntmps154
 go_wp2_with fail
 rw [<- hW1, <- hb2]; clear hW1 hb2; go_at_call 153
 refine (take_c (w0 := w0) (bp := bp) (fin := fin) (blk b2 fobj0 :: ps) s W1 HO.out (by have := HS.out; omega)).mono ?_; rintro e W2 ⟨rfl, ho⟩; obtain ⟨⟨kd, po, nu, u⟩, ht⟩ : ∃ t, t = nextT s := ⟨_, rfl⟩; obtain ⟨s1, hs1⟩ : ∃ s1, s1 = nextS fin s := ⟨_, rfl⟩; rw [<- ht]; rw [<- hs1] at ho; simp only [tval]; have HT := Lib.hid ht; have HS1 := Lib.hid hs1; obtain ⟨W3, hW3⟩ : ∃ W3, W3 = W2.alloc (.cells #[.int .i64 kd, .int .i64 po, .int .i64 nu, .string (bs u)] 40) := ⟨_, rfl⟩; obtain ⟨b3, hb3⟩ : ∃ b3, b3 = W2.heap.size := ⟨_, rfl⟩; replace HO : Hid (Owns w0 W3 (parP w0 bp fin s1 :: blk b3 (tobj ⟨kd, po, nu, u⟩) :: blk b2 fobj0 :: ps)) := by
  rw [hW3, hb3]; exact Lib.hid (ho.box (tobj ⟨kd, po, nu, u⟩)).swap
 clear ho ht hs1; by_cases hk : kd = 1
 case neg =>
  have hk' : ((kd : Int) == 1) = false := by simp; omega
  by_cases h4 : kd = 4 /\ u = [40]
  case neg =>
   have HD : Hid (Did (oneF fin (n + 1)) s zeroF (failS s1 5 po)) := by
    rw [HS1.out]; exact syn_any HT.out HFi.out (fun h => hk h.1) (fun h => h4 h) (.inl hk) zeroF
   by_cases h44 : kd = 4
   ·have h44' : ((kd : Int) == 4) = true := by simp; omega
    have hu' : (u == [40]) = false := by simpa using fun e => h4 ⟨h44, e⟩
    clear h4 h44 hk; go_wp2_with fail
    try rw [<- hW3]
    try rw [<- hb3]
    clear hW3 hb3; go_at_call 106
    refine (fail_c (w0 := w0) (bp := bp) (fin := fin) (blk b3 (tobj ⟨kd, po, nu, u⟩) :: blk b2 fobj0 :: ps) s1 5 po (by omega) (by omega) _ HO.out).mono ?_; rintro e W4 ⟨rfl, ho⟩; replace HO := Lib.hid (ho.re [2, 0, 1]); simp only [fobj0] at HO; clear ho; obtain ⟨hbe, ⟨fe0, fe1, fe2, fe3, fe4⟩, ce0, ce1, ce2, ce3, ce4⟩ := bx5 HO.out.blk; go_wp2_with fail
    have h2 := st5 HO.out (.int .i64 0) (.string ⟨#[]⟩) (.int .i64 0) (.int .i64 0) (.slice none 0 0); exact bodyPost_ret (one_res rfl h2.blk.1) (by rfl) ⟨zeroF, _, _, rfl, HD.out, h2.pop.swap.pop.leaf 0 [] 0 0 none 0⟩
   ·have h44' : ((kd : Int) == 4) = false := by simp; omega
    clear h4 h44 hk; go_wp2_with fail
    try rw [<- hW3]
    try rw [<- hb3]
    clear hW3 hb3; go_at_call 106
    refine (fail_c (w0 := w0) (bp := bp) (fin := fin) (blk b3 (tobj ⟨kd, po, nu, u⟩) :: blk b2 fobj0 :: ps) s1 5 po (by omega) (by omega) _ HO.out).mono ?_; rintro e W4 ⟨rfl, ho⟩; replace HO := Lib.hid (ho.re [2, 0, 1]); simp only [fobj0] at HO; clear ho; obtain ⟨hbe, ⟨fe0, fe1, fe2, fe3, fe4⟩, ce0, ce1, ce2, ce3, ce4⟩ := bx5 HO.out.blk; go_wp2_with fail
    have h2 := st5 HO.out (.int .i64 0) (.string ⟨#[]⟩) (.int .i64 0) (.int .i64 0) (.slice none 0 0); exact bodyPost_ret (one_res rfl h2.blk.1) (by rfl) ⟨zeroF, _, _, rfl, HD.out, h2.pop.swap.pop.leaf 0 [] 0 0 none 0⟩
  obtain ⟨r, e1, e2⟩ := nextT_ok HT.out (by show kd ≠ 0; omega) fin; have h44' : ((kd : Int) == 4) = true := by simp; omega
  have hu' : (u == [40]) = true := by simpa using h4.2
  have HK : Hid (kd = 4 /\ u = [40]) := Lib.hid h4; obtain ⟨n', rfl⟩ : ∃ n', n = n' + 1 := by
   refine ⟨n - 1, ?_⟩; have := HS.out; rw [e1] at this; simp [toks] at this
   omega
  have HE1 : Hid (s = .ok (⟨kd, po, nu, u⟩ :: r) /\ s1 = .ok r /\ r.length <= n') := by
   refine ⟨e1, HS1.out.trans e2, ?_⟩; have := HS.out; rw [e1] at this; simp [toks] at this
   omega
  clear h4 hk e1 e2; go_wp2_with fail
  try rw [<- hW3]
  try rw [<- hb3]
  clear hW3 hb3; go_at_call 105
  have hE := either_c (w0 := w0) (bp := bp) (fin := fin) _ n' (by omega) (all_c _ n' (by omega) (HIh.out n' rfl)); refine (hE (blk b3 (tobj ⟨kd, po, nu, u⟩) :: blk b2 fobj0 :: ps) s1 W3 (by rw [HE1.out.2.1]; exact HE1.out.2.2) HO.out).mono ?_; clear hE; rintro e W4 ⟨f, kv, s2, rfl, hd, ho⟩; obtain ⟨y2, m2, rfl⟩ := ho.fm.form; obtain ⟨N2, hN2⟩ : ∃ N2, N2 = f.kids.length := ⟨_, rfl⟩; rw [<- hN2] at ho ⊢; have HP : Hid (_ /\ _) := Lib.hid (one_paren_did (t := ⟨kd, po, nu, u⟩) HK.out (HE1.out.2.1 ▸ hd)); have hl2 : (toks s2).length <= 1000000 := by have h1 := hd.2.1; rw [HE1.out.2.1] at h1; have := HE1.out.2.2; simp [toks] at h1 ⊢; omega
  obtain ⟨W5, hW5⟩ : ∃ W5, W5 = W4.alloc (.cells #[.int .i64 f.op, .string (bs f.name), .int .i64 f.cmp, .int .i64 f.num, .slice y2 N2 m2] 24) := ⟨_, rfl⟩; obtain ⟨b5, hb5⟩ : ∃ b5, b5 = W4.heap.size := ⟨_, rfl⟩; replace HO : Hid (Owns w0 W5 (parP w0 bp fin s2 :: fmP f (.slice y2 N2 m2) :: blk b5 (fobj f (.slice y2 N2 m2)) :: blk b3 (tobj ⟨kd, po, nu, u⟩) :: blk b2 fobj0 :: ps)) := by
   rw [hW5, hb5]; exact Lib.hid ((ho.box (fobj f (.slice y2 N2 m2))).re [2, 1, 0])
  clear ho hd hN2 h44' hu'; go_wp2_with fail
  rw [<- hW5, <- hb5]; clear hW5 hb5; go_at_call 153
  refine (take_c (w0 := w0) (bp := bp) (fin := fin) (fmP f (.slice y2 N2 m2) :: blk b5 (fobj f (.slice y2 N2 m2)) :: blk b3 (tobj ⟨kd, po, nu, u⟩) :: blk b2 fobj0 :: ps) s2 W5 HO.out hl2).mono ?_; rintro e W6 ⟨rfl, ho⟩; obtain ⟨⟨kd2, po2, nu2, u2⟩, ht⟩ : ∃ t, t = nextT s2 := ⟨_, rfl⟩; obtain ⟨s3, hs3⟩ : ∃ s3, s3 = nextS fin s2 := ⟨_, rfl⟩; rw [<- ht, <- hs3] at HP; rw [<- ht]; rw [<- hs3] at ho; simp only [tval]; have HO3 := Lib.hid (ho.re [3, 0, 1, 2]); obtain ⟨W7, hW7⟩ : ∃ W7, W7 = (((W6.setCell ⟨b3, 0, none⟩ (.int .i64 kd2)).setCell ⟨b3, 1, none⟩ (.int .i64 po2)).setCell ⟨b3, 2, none⟩ (.int .i64 nu2)).setCell ⟨b3, 3, none⟩ (.string (bs u2)) := ⟨_, rfl⟩; replace HO : Hid (Owns w0 W7 (blk b3 (tobj ⟨kd2, po2, nu2, u2⟩) :: parP w0 bp fin s3 :: fmP f (.slice y2 N2 m2) :: blk b5 (fobj f (.slice y2 N2 m2)) :: blk b2 fobj0 :: ps)) := by
   rw [hW7]; exact Lib.hid (st4 HO3.out (.int .i64 kd2) (.int .i64 po2) (.int .i64 nu2) (.string (bs u2)))
  clear ho ht hs3; by_cases h41 : kd2 = 4 /\ u2 = [41]
  ·have hk2 : ((kd2 : Int) != 4) = false := by simp; omega
   have hu2 : (u2 == [41]) = true := by simpa using h41.2
   have HD : Hid (Did (oneF fin (n' + 1 + 1)) s f s3) := by
    rw [HE1.out.1]; exact HP.out.1 h41
   clear h41; subst hW7; have n35 := Owns.ne (HO3.out.re [0, 3, 1, 2]); have n35' := n35.symm; have n32 := Owns.ne (HO3.out.re [0, 4, 1, 2, 3]); have n32' := n32.symm; have n25 := Owns.ne (HO3.out.re [3, 4, 0, 1, 2]); have n25' := n25.symm; have HO5 := Lib.hid (HO.out.re [4, 1, 2, 3, 0]); simp only [fobj0] at HO5; obtain ⟨hbt, ⟨ft0, ft1, ft2, ft3⟩, ct0, ct1, ct2, ct3⟩ := bx4 HO3.out.blk; obtain ⟨hbv, ⟨fv0, fv1, fv2, fv3, fv4⟩, cv0, cv1, cv2, cv3, cv4⟩ := bx5 ((HO3.out.re [3, 4, 0, 1, 2]).blk); obtain ⟨hbe, ⟨fe0, fe1, fe2, fe3, fe4⟩, ce0, ce1, ce2, ce3, ce4⟩ := bx5 ((HO3.out.re [4, 3, 0, 1, 2]).blk); repeat (first | go_values | go_skip | go_guarded | go_step | go_upon)
   have h2 := st5 HO5.out (.int .i64 f.op) (.string (bs f.name)) (.int .i64 f.cmp) (.int .i64 f.num) (.slice y2 N2 m2); exact bodyPost_ret (one_res rfl h2.blk.1) (by rfl) ⟨f, .slice y2 N2 m2, s3, rfl, HD.out, (h2.pop.re [2, 3, 1, 0]).pop.pop⟩
  ·have HD : Hid (Did (oneF fin (n' + 1 + 1)) s f (failS s3 5 po2)) := by
    rw [HE1.out.1]; exact HP.out.2 h41
   by_cases hk2 : kd2 = 4
   ·have hk2' : ((kd2 : Int) != 4) = false := by simp; omega
    have hu2 : (u2 == [41]) = false := by simpa using fun e => h41 ⟨hk2, e⟩
    clear h41 hk2
    focus
     obtain ⟨hbt, ⟨ft0, ft1, ft2, ft3⟩, ct0, ct1, ct2, ct3⟩ := bx4 HO3.out.blk; go_wp2_with fail
     rw [<- hW7]; clear hW7 hbt ft0 ft1 ft2 ft3 ct0 ct1 ct2 ct3
    go_at_call 106
    refine (fail_c (w0 := w0) (bp := bp) (fin := fin) (blk b3 (tobj ⟨kd2, po2, nu2, u2⟩) :: fmP f (.slice y2 N2 m2) :: blk b5 (fobj f (.slice y2 N2 m2)) :: blk b2 fobj0 :: ps) s3 5 po2 (by omega) (by omega) W7 HO.out.swap).mono ?_; rintro e W8 ⟨rfl, ho⟩; have n25 := Owns.ne (ho.re [3, 4, 0, 1, 2]); have n25' := n25.symm; have HO5 := Lib.hid (ho.re [4, 3, 0, 2, 1]); simp only [fobj0] at HO5; clear ho HO
    focus
     obtain ⟨hbe, ⟨fe0, fe1, fe2, fe3, fe4⟩, ce0, ce1, ce2, ce3, ce4⟩ := bx5 HO5.out.blk; obtain ⟨hbv, ⟨fv0, fv1, fv2, fv3, fv4⟩, cv0, cv1, cv2, cv3, cv4⟩ := bx5 ((HO5.out.swap).blk); go_wp2_with fail
    have h2 := st5 HO5.out (.int .i64 f.op) (.string (bs f.name)) (.int .i64 f.cmp) (.int .i64 f.num) (.slice y2 N2 m2); exact bodyPost_ret (one_res rfl h2.blk.1) (by rfl) ⟨f, _, _, rfl, HD.out, (h2.pop.re [0, 3, 2, 1]).pop.pop⟩
   ·have hk2' : ((kd2 : Int) != 4) = true := by simp; omega
    clear h41 hk2
    focus
     obtain ⟨hbt, ⟨ft0, ft1, ft2, ft3⟩, ct0, ct1, ct2, ct3⟩ := bx4 HO3.out.blk; go_wp2_with fail
     rw [<- hW7]; clear hW7 hbt ft0 ft1 ft2 ft3 ct0 ct1 ct2 ct3
    go_at_call 106
    refine (fail_c (w0 := w0) (bp := bp) (fin := fin) (blk b3 (tobj ⟨kd2, po2, nu2, u2⟩) :: fmP f (.slice y2 N2 m2) :: blk b5 (fobj f (.slice y2 N2 m2)) :: blk b2 fobj0 :: ps) s3 5 po2 (by omega) (by omega) W7 HO.out.swap).mono ?_; rintro e W8 ⟨rfl, ho⟩; have n25 := Owns.ne (ho.re [3, 4, 0, 1, 2]); have n25' := n25.symm; have HO5 := Lib.hid (ho.re [4, 3, 0, 2, 1]); simp only [fobj0] at HO5; clear ho HO
    focus
     obtain ⟨hbe, ⟨fe0, fe1, fe2, fe3, fe4⟩, ce0, ce1, ce2, ce3, ce4⟩ := bx5 HO5.out.blk; obtain ⟨hbv, ⟨fv0, fv1, fv2, fv3, fv4⟩, cv0, cv1, cv2, cv3, cv4⟩ := bx5 ((HO5.out.swap).blk); go_wp2_with fail
    have h2 := st5 HO5.out (.int .i64 f.op) (.string (bs f.name)) (.int .i64 f.cmp) (.int .i64 f.num) (.slice y2 N2 m2); exact bodyPost_ret (one_res rfl h2.blk.1) (by rfl) ⟨f, _, _, rfl, HD.out, (h2.pop.re [0, 3, 2, 1]).pop.pop⟩
 have hk' : ((kd : Int) == 1) = true := by simp; omega
 have hk4 : ((kd : Int) == 4) = false := by simp; omega
 obtain ⟨r, e1, e2⟩ := nextT_ok HT.out (by show kd ≠ 0; omega) fin; have HKD : Hid (kd = 1) := hk; clear hk; by_cases hn1 : u = wNot
 ·have hu' : (u == [110, 111, 116]) = true := by simpa [wNot] using hn1
  have HK : Hid (kd = 1 /\ u = wNot) := Lib.hid ⟨HKD.out, hn1⟩; obtain ⟨n', rfl⟩ : ∃ n', n = n' + 1 := by
   refine ⟨n - 1, ?_⟩; have := HS.out; rw [e1] at this; simp [toks] at this
   omega
  have HE1 : Hid (s = .ok (⟨kd, po, nu, u⟩ :: r) /\ s1 = .ok r /\ r.length <= n') := by
   refine ⟨e1, HS1.out.trans e2, ?_⟩; have := HS.out; rw [e1] at this; simp [toks] at this
   omega
  clear hn1 e1 e2; go_wp2_with fail
  try rw [<- hW3]
  try rw [<- hb3]
  clear hW3 hb3; refine (HIh.out n' rfl (blk b3 (tobj ⟨kd, po, nu, u⟩) :: blk b2 fobj0 :: ps) s1 W3 (by rw [HE1.out.2.1]; exact HE1.out.2.2) HO.out).mono ?_; rintro e W4 ⟨f, kv, s2, rfl, hd, ho⟩; obtain ⟨y2, m2, rfl⟩ := ho.fm.form; obtain ⟨N2, hN2⟩ : ∃ N2, N2 = f.kids.length := ⟨_, rfl⟩; rw [<- hN2] at ho ⊢; have HD : Hid (Did (oneF fin (n' + 1 + 1)) s (.mk 4 [] 0 0 [f]) s2) := by
   rw [HE1.out.1]; exact one_not HK.out (HE1.out.2.1 ▸ hd)
  have hk1 := (ho.kid1.knode 4 [] 0 0).re [3, 1, 2, 0]; replace HO : Hid (Owns w0 (W4.alloc (.cells #[.int .i64 f.op, .string (bs f.name), .int .i64 f.cmp, .int .i64 f.num, .slice y2 N2 m2] 24)) (blk b2 fobj0 :: parP w0 bp fin s2 :: blk b3 (tobj ⟨kd, po, nu, u⟩) :: fmP (.mk 4 [] 0 0 [f]) (.slice (some ⟨W4.heap.size, 0, none⟩) 1 1) :: ps)) := Lib.hid hk1; simp only [fobj0] at HO; clear ho hd hN2 hk1; obtain ⟨hbe, ⟨fe0, fe1, fe2, fe3, fe4⟩, ce0, ce1, ce2, ce3, ce4⟩ := bx5 HO.out.blk; go_wp2_with fail
  have h2 := st5 HO.out (.int .i64 4) (.string ⟨#[]⟩) (.int .i64 0) (.int .i64 0) (.slice (some ⟨W4.heap.size, 0, none⟩) 1 1); exact bodyPost_ret (one_res rfl h2.blk.1) (by rfl) ⟨_, _, _, rfl, HD.out, (h2.pop.re [1, 2, 0]).pop⟩
 have hu1 : (u == [110, 111, 116]) = false := by simpa [wNot] using hn1
 by_cases hn2 : u = wTrue
 ·have hu' : (u == [116, 114, 117, 101]) = true := by simpa [wTrue] using hn2
  have HK : Hid (kd = 1 /\ u = wTrue) := Lib.hid ⟨HKD.out, hn2⟩; clear hn1 hn2; have HD : Hid (Did (oneF fin (n + 1)) s (.mk 1 [] 0 0 []) s1) := by
   rw [HS1.out, e2, e1]; exact one_true HK.out
  have HO4 : Hid (Owns w0 W3 (blk b2 fobj0 :: parP w0 bp fin s1 :: blk b3 (tobj ⟨kd, po, nu, u⟩) :: ps)) := Lib.hid (HO.out.re [2, 0, 1]); simp only [fobj0] at HO4; rw [hW3] at HO4; obtain ⟨hbe, ⟨fe0, fe1, fe2, fe3, fe4⟩, ce0, ce1, ce2, ce3, ce4⟩ := bx5 ((HO4.out).blk); go_wp2_with fail
  have h2 := st5 HO4.out (.int .i64 1) (.string ⟨#[]⟩) (.int .i64 0) (.int .i64 0) (.slice none 0 0); exact bodyPost_ret (one_res rfl h2.blk.1) (by rfl) ⟨.mk 1 [] 0 0 [], _, _, rfl, HD.out, h2.pop.swap.pop.leaf 1 [] 0 0 none 0⟩
 have hu2 : (u == [116, 114, 117, 101]) = false := by simpa [wTrue] using hn2
 by_cases hn3 : u = wFalse
 ·have hu' : (u == [102, 97, 108, 115, 101]) = true := by simpa [wFalse] using hn3
  have HK : Hid (kd = 1 /\ u = wFalse) := Lib.hid ⟨HKD.out, hn3⟩; clear hn1 hn2 hn3; have HD : Hid (Did (oneF fin (n + 1)) s (.mk 2 [] 0 0 []) s1) := by
   rw [HS1.out, e2, e1]; exact one_false HK.out
  have HO4 : Hid (Owns w0 W3 (blk b2 fobj0 :: parP w0 bp fin s1 :: blk b3 (tobj ⟨kd, po, nu, u⟩) :: ps)) := Lib.hid (HO.out.re [2, 0, 1]); simp only [fobj0] at HO4; rw [hW3] at HO4; obtain ⟨hbe, ⟨fe0, fe1, fe2, fe3, fe4⟩, ce0, ce1, ce2, ce3, ce4⟩ := bx5 ((HO4.out).blk); go_wp2_with fail
  have h2 := st5 HO4.out (.int .i64 2) (.string ⟨#[]⟩) (.int .i64 0) (.int .i64 0) (.slice none 0 0); exact bodyPost_ret (one_res rfl h2.blk.1) (by rfl) ⟨.mk 2 [] 0 0 [], _, _, rfl, HD.out, h2.pop.swap.pop.leaf 2 [] 0 0 none 0⟩
 have hu3 : (u == [102, 97, 108, 115, 101]) = false := by simpa [wFalse] using hn3
 by_cases hn0 : u = []
 ·have hu' : (u == []) = true := by simpa using hn0
  have HD : Hid (Did (oneF fin (n + 1)) s zeroF (failS s1 5 po)) := by
   rw [HS1.out]; exact syn_any HT.out HFi.out (by rintro ⟨-, h | h | h⟩ <;> first | (exact hn1 h; done) | (exact hn2 h; done) | exact hn3 h) (by rintro ⟨h, -⟩; have h2 : kd = 4 := h; have := HKD.out; omega) (.inr (.inl hn0)) zeroF
  clear hn1 hn2 hn3 hn0 e1 e2; go_wp2_with fail
  try rw [<- hW3]
  try rw [<- hb3]
  clear hW3 hb3; go_at_call 106
  refine (fail_c (w0 := w0) (bp := bp) (fin := fin) (blk b3 (tobj ⟨kd, po, nu, u⟩) :: blk b2 fobj0 :: ps) s1 5 po (by omega) (by omega) _ HO.out).mono ?_; rintro e W4 ⟨rfl, ho⟩; replace HO := Lib.hid (ho.re [2, 0, 1]); simp only [fobj0] at HO; clear ho; obtain ⟨hbe, ⟨fe0, fe1, fe2, fe3, fe4⟩, ce0, ce1, ce2, ce3, ce4⟩ := bx5 HO.out.blk; go_wp2_with fail
  have h2 := st5 HO.out (.int .i64 0) (.string ⟨#[]⟩) (.int .i64 0) (.int .i64 0) (.slice none 0 0); exact bodyPost_ret (one_res rfl h2.blk.1) (by rfl) ⟨zeroF, _, _, rfl, HD.out, h2.pop.swap.pop.leaf 0 [] 0 0 none 0⟩
 have hu0 : (u == []) = false := by simpa using hn0
 obtain ⟨q, hq⟩ : ∃ q, q = keyB u := ⟨_, rfl⟩; have HQ := Lib.hid hq; have HU : Hid (u ≠ wNot /\ u ≠ wTrue /\ u ≠ wFalse /\ u ≠ []) := ⟨hn1, hn2, hn3, hn0⟩; have HE1 : Hid (s = .ok (⟨kd, po, nu, u⟩ :: r) /\ s1 = .ok r) := ⟨e1, HS1.out.trans e2⟩; clear hn1 hn2 hn3 hn0 e1 e2 hq; go_wp2_with fail
 try rw [<- hW3]
 try rw [<- hb3]
 clear hW3 hb3; go_at_call 67
 refine (key_c u W3).mono ?_; rintro e W4 ⟨rfl, hb⟩; rw [<- HQ.out]; replace HO := Lib.hid (HO.out.below hb); clear hb; cases q
 case true =>
  have HD : Hid (Did (oneF fin (n + 1)) s zeroF (failS s1 5 po)) := by
   rw [HS1.out]; exact syn_any HT.out HFi.out (by rintro ⟨-, h | h | h⟩ <;> first | (exact HU.out.1 h; done) | (exact HU.out.2.1 h; done) | exact HU.out.2.2.1 h) (by rintro ⟨h, -⟩; have h2 : kd = 4 := h; have := HKD.out; omega) (.inr (.inr HQ.out.symm)) zeroF
  focus
   obtain ⟨hbt, ⟨ft0, ft1, ft2, ft3⟩, ct0, ct1, ct2, ct3⟩ := bx4 ((HO.out.swap).blk); go_wp2_with fail
   clear hbt ft0 ft1 ft2 ft3 ct0 ct1 ct2 ct3
  go_at_call 106
  refine (fail_c (w0 := w0) (bp := bp) (fin := fin) (blk b3 (tobj ⟨kd, po, nu, u⟩) :: blk b2 fobj0 :: ps) s1 5 po (by omega) (by omega) _ HO.out).mono ?_; rintro e W4 ⟨rfl, ho⟩; replace HO := Lib.hid (ho.re [2, 0, 1]); simp only [fobj0] at HO; clear ho; obtain ⟨hbe, ⟨fe0, fe1, fe2, fe3, fe4⟩, ce0, ce1, ce2, ce3, ce4⟩ := bx5 HO.out.blk; go_wp2_with fail
  have h2 := st5 HO.out (.int .i64 0) (.string ⟨#[]⟩) (.int .i64 0) (.int .i64 0) (.slice none 0 0); exact bodyPost_ret (one_res rfl h2.blk.1) (by rfl) ⟨zeroF, _, _, rfl, HD.out, h2.pop.swap.pop.leaf 0 [] 0 0 none 0⟩
 clear hk' hk4 hu0 hu1 hu2 hu3; obtain ⟨W5, hW5⟩ : ∃ W5, W5 = W4.alloc (.cells #[.int .i64 3, .string (bs u), .int .i64 0, .int .i64 0, .slice none 0 0] 24) := ⟨_, rfl⟩; obtain ⟨b6, hb6⟩ : ∃ b6, b6 = W4.heap.size := ⟨_, rfl⟩; replace HO : Hid (Owns w0 W5 (parP w0 bp fin s1 :: blk b6 (f6 u 0) :: blk b3 (tobj ⟨kd, po, nu, u⟩) :: blk b2 fobj0 :: ps)) := by
  rw [hW5, hb6]; exact Lib.hid (HO.out.box (f6 u 0)).swap
 go_wp2_with fail
 rw [<- hW5, <- hb6]; clear hW5 hb6; go_at_call 153
 refine (take_c (w0 := w0) (bp := bp) (fin := fin) (blk b6 (f6 u 0) :: blk b3 (tobj ⟨kd, po, nu, u⟩) :: blk b2 fobj0 :: ps) s1 W5 HO.out (by rw [HS1.out]; have := next_len fin s; have := HS.out; have := HNn.out; omega)).mono ?_; rintro e W6 ⟨rfl, ho⟩; obtain ⟨⟨k2, p2, n2, u2⟩, ht⟩ : ∃ t, t = nextT s1 := ⟨_, rfl⟩; obtain ⟨s2, hs2⟩ : ∃ s2, s2 = nextS fin s1 := ⟨_, rfl⟩; rw [<- ht]; rw [<- hs2] at ho; simp only [tval]; have HT2 := Lib.hid ht; have HS2 := Lib.hid hs2; have HO3 := Lib.hid (ho.re [2, 0, 1]); obtain ⟨W7, hW7⟩ : ∃ W7, W7 = (((W6.setCell ⟨b3, 0, none⟩ (.int .i64 k2)).setCell ⟨b3, 1, none⟩ (.int .i64 p2)).setCell ⟨b3, 2, none⟩ (.int .i64 n2)).setCell ⟨b3, 3, none⟩ (.string (bs u2)) := ⟨_, rfl⟩; replace HO : Hid (Owns w0 W7 (blk b3 (tobj ⟨k2, p2, n2, u2⟩) :: parP w0 bp fin s2 :: blk b6 (f6 u 0) :: blk b2 fobj0 :: ps)) := by
  rw [hW7]; exact Lib.hid (st4 HO3.out (.int .i64 k2) (.int .i64 p2) (.int .i64 n2) (.string (bs u2)))
 clear ho ht hs2
 focus
  obtain ⟨hbt, ⟨ft0, ft1, ft2, ft3⟩, ct0, ct1, ct2, ct3⟩ := bx4 HO3.out.blk; go_wp2_with fail
  rw [<- hW7]; clear hW7 hbt ft0 ft1 ft2 ft3 ct0 ct1 ct2 ct3
 clear HO3; go_at_call 101
 refine (symbols_c W7).mono ?_; rintro e W8 ⟨rfl, hb⟩; replace HO := Lib.hid (HO.out.below hb); clear hb; obtain ⟨W9, hW9⟩ : ∃ W9, W9 = W8.alloc (.cells #[.string (bs []), .string (bs [61]), .string (bs [33, 61]), .string (bs [60]), .string (bs [60, 61]), .string (bs [62]), .string (bs [62, 61])] 76) := ⟨_, rfl⟩; obtain ⟨b7, hb7⟩ : ∃ b7, b7 = W8.heap.size := ⟨_, rfl⟩; replace HO : Hid (Owns w0 W9 (blk b7 symO :: blk b3 (tobj ⟨k2, p2, n2, u2⟩) :: parP w0 bp fin s2 :: blk b6 (f6 u 0) :: blk b2 fobj0 :: ps)) := by
  rw [hW9, hb7]; exact Lib.hid (HO.out.box symO)
 go_wp2_with fail
 rw [<- hW9, <- hb7]; clear hW9 hb7; refine wp_region_canA [3] (List.range 6) ?_; replace HO := Lib.hid HO.out.drew; obtain ⟨W10, hW10⟩ : ∃ W10, W10 = W9.drew := ⟨_, rfl⟩; rw [<- hW10] at HO ⊢; clear hW10; obtain ⟨hbt, ⟨ft0, ft1, ft2, ft3⟩, ct0, ct1, ct2, ct3⟩ := bx4 ((HO.out.swap).blk); obtain ⟨bk, -⟩ := HO.out.blk; have hb7 := lt_of_block bk; clear bk; iterate 3 (refine cl_doA rfl rfl rfl (fun _ _ => ?_); go_wp2_with fail)
 refine cl_call (i := 3) rfl rfl rfl (fun K hK => ?_); go_wp2_with fail
 go_at_call 126
 have hcell : ∀ j, j < symsL.length -> W10.cell? ⟨b7, 0 + j, none⟩ = some (.string (symsL.getD j ByteArray.empty)) := by
  obtain ⟨bk, -⟩ := HO.out.blk; intro j hj; rw [Nat.zero_add, cell_of_heap bk]; rcases j with _ | _ | _ | _ | _ | _ | _ | j
  iterate 7 rfl
  have : symsL.length = 7 := rfl; omega
 refine (Tryz.slices_Index_string b7 0 7 7 symsL (bs u2) W10 (by decide) (by decide) hcell).mono ?_; clear hcell hbt ft0 ft1 ft2 ft3 ct0 ct1 ct2 ct3 hb7; rintro e w2 ⟨rfl, rfl⟩; obtain ⟨x, hx⟩ : ∃ x, x = symX u2 := ⟨_, rfl⟩; rw [show Lib.idxOfS (symsL.take 7) (bs u2) = x from hx.symm]; have HX := Lib.hid hx; clear hx; go_wp2_with fail
 refine And.intro (Below.refl _ _) ?_; have HO3 := Lib.hid (HO.out.re [3, 1, 2, 0]); obtain ⟨W11, hW11⟩ : ∃ W11, W11 = w2.setCell ⟨b6, 2, none⟩ (.int .i64 x) := ⟨_, rfl⟩; replace HO : Hid (Owns w0 W11 (blk b3 (tobj ⟨k2, p2, n2, u2⟩) :: blk b6 (f6 u x) :: parP w0 bp fin s2 :: blk b2 fobj0 :: ps)) := by
  rw [hW11]; exact Lib.hid ((HO3.out.store (i := 2) (.int .i64 x)).re [3, 1, 0, 2]).pop
 focus
  obtain ⟨hbe, ⟨fe0, fe1, fe2, fe3, fe4⟩, ce0, ce1, ce2, ce3, ce4⟩ := bx5 HO3.out.blk; iterate 2 (refine cl_doA rfl rfl rfl (fun _ _ => ?_); go_wp2_with fail)
  rw [<- hW11]; clear hW11 hbe fe0 fe1 fe2 fe3 fe4 ce0 ce1 ce2 ce3 ce4
 refine cl_nil ?_; clear HO3; have HLen : Hid ((toks s2).length <= 1000000) := by
  show _ <= _; have h1 := next_len fin s1; have h2 := next_len fin s; have h3 := HS.out; have h4 := HNn.out; rw [<- HS2.out] at h1; rw [<- HS1.out] at h2; omega
 have HDt : Hid (∀ (sB : PSt) (m : Tok) (sD sE : PSt), sB = stB fin s1 -> m = nextT sB -> sD = stD fin sB -> sE = stE m sD -> Did (oneF fin (n + 1)) s (.mk 3 u x m.num []) sE) := by
  rintro sB m sD sE rfl rfl rfl rfl; have h := one_test (fin := fin) (n := n) (t := ⟨kd, po, nu, u⟩) (r := r) HKD.out HU.out.1 HU.out.2.1 HU.out.2.2.1 HU.out.2.2.2 HQ.out.symm; rw [<- HE1.out.2, <- HE1.out.1, <- HT2.out] at h; rw [HX.out]; exact h
 by_cases hk2 : k2 = 4
 ·have hk2' : ((k2 : Int) != 4) = false := by simp; omega
  by_cases hx1 : x < 1
  ·have HB : Hid (failS s2 5 p2 = stB fin s1) := by
    show _ = _; rw [stB, <- HT2.out, if_pos (.inr (by rw [<- HX.out]; exact hx1)), <- HS2.out]
   clear hk2
   focus
    obtain ⟨hbt, ⟨ft0, ft1, ft2, ft3⟩, ct0, ct1, ct2, ct3⟩ := bx4 HO.out.blk; obtain ⟨hbe, ⟨fe0, fe1, fe2, fe3, fe4⟩, ce0, ce1, ce2, ce3, ce4⟩ := bx5 HO.out.swap.blk; go_wp2_with fail
    clear hbt ft0 ft1 ft2 ft3 ct0 ct1 ct2 ct3 hbe fe0 fe1 fe2 fe3 fe4 ce0 ce1 ce2 ce3 ce4
   go_at_call 106
   refine (fail_c (w0 := w0) (bp := bp) (fin := fin) (blk b3 (tobj ⟨k2, p2, n2, u2⟩) :: blk b6 (f6 u x) :: blk b2 fobj0 :: ps) s2 5 p2 (by omega) (by omega) W11 (HO.out.re [2, 0, 1])).mono ?_; rintro e W12 ⟨rfl, ho⟩; replace HO := Lib.hid ho; replace HLen : Hid ((toks (failS s2 5 p2)).length <= 1000000) := Lib.hid (Nat.le_trans (fail_len _ _ _) HLen.out); obtain ⟨sB, hsB⟩ : ∃ sB, sB = failS s2 5 p2 := ⟨_, rfl⟩; rw [<- hsB] at HB HO HLen; clear ho hsB; go_wp2_with fail
   go_at_call 153
   refine (take_c (w0 := w0) (bp := bp) (fin := fin) (blk b3 (tobj ⟨k2, p2, n2, u2⟩) :: blk b6 (f6 u x) :: blk b2 fobj0 :: ps) sB _ HO.out HLen.out).mono ?_; rintro e W12 ⟨rfl, ho⟩; obtain ⟨⟨k3, p3, n3, u3⟩, ht⟩ : ∃ t, t = nextT sB := ⟨_, rfl⟩; obtain ⟨s4, hs4⟩ : ∃ s4, s4 = nextS fin sB := ⟨_, rfl⟩; rw [<- ht]; rw [<- hs4] at ho; simp only [tval]; have HT3 := Lib.hid ht; have HS4 := Lib.hid hs4; have HO3 := Lib.hid ho.swap; obtain ⟨W13, hW13⟩ : ∃ W13, W13 = (((W12.setCell ⟨b3, 0, none⟩ (.int .i64 k3)).setCell ⟨b3, 1, none⟩ (.int .i64 p3)).setCell ⟨b3, 2, none⟩ (.int .i64 n3)).setCell ⟨b3, 3, none⟩ (.string (bs u3)) := ⟨_, rfl⟩; replace HO : Hid (Owns w0 W13 (parP w0 bp fin s4 :: blk b3 (tobj ⟨k3, p3, n3, u3⟩) :: blk b6 (f6 u x) :: blk b2 fobj0 :: ps)) := by
    rw [hW13]; exact Lib.hid (st4 HO3.out (.int .i64 k3) (.int .i64 p3) (.int .i64 n3) (.string (bs u3))).swap
   clear ho ht hs4; by_cases hk3 : k3 = 2
   ·have hk3' : ((k3 : Int) != 2) = false := by simp; omega
    have HDD : Hid (s4 = stD fin sB) := by
     show _ = _; rw [stD, <- HT3.out, if_neg (by simpa using hk3), <- HS4.out]
    clear hk3; by_cases hn3 : 1000000 < n3
    ·have hn3' : (1000000 : Int) < (n3 : Int) := by omega
     have HD : Hid (Did (oneF fin (n + 1)) s (.mk 3 u x n3 []) (failS s4 10 p3)) := HDt.out sB ⟨k3, p3, n3, u3⟩ s4 (failS s4 10 p3) HB.out HT3.out HDD.out (by rw [stE, if_pos hn3]); clear hn3
     focus
      obtain ⟨hbt, ⟨ft0, ft1, ft2, ft3⟩, ct0, ct1, ct2, ct3⟩ := bx4 HO3.out.blk; go_wp2_with fail
      rw [<- hW13]; clear hW13 hbt ft0 ft1 ft2 ft3 ct0 ct1 ct2 ct3
     go_at_call 106
     refine (fail_c (w0 := w0) (bp := bp) (fin := fin) (blk b3 (tobj ⟨k3, p3, n3, u3⟩) :: blk b6 (f6 u x) :: blk b2 fobj0 :: ps) s4 10 p3 (by omega) (by omega) _ HO.out).mono ?_; clear HO; rintro e W14 ⟨rfl, ho⟩; have HO := Lib.hid ho; clear ho; simp only []; obtain ⟨hbt, ⟨ft0, ft1, ft2, ft3⟩, ct0, ct1, ct2, ct3⟩ := bx4 HO.out.swap.blk; obtain ⟨hbe, ⟨fe0, fe1, fe2, fe3, fe4⟩, ce0, ce1, ce2, ce3, ce4⟩ := bx5 ((HO.out.re [2, 0, 1]).blk); obtain ⟨hbz, ⟨fz0, fz1, fz2, fz3, fz4⟩, cz0, cz1, cz2, cz3, cz4⟩ := bx5 ((HO.out.re [3, 0, 1, 2]).blk); have m36 := Owns.ne (HO.out.re [1, 2, 0]); have m36' := m36.symm; have m32 := Owns.ne (HO.out.re [1, 3, 0, 2]); have m32' := m32.symm; have m62 := Owns.ne (HO.out.re [2, 3, 0, 1]); have m62' := m62.symm; repeat (first | go_values | go_skip | go_guarded | go_step | go_upon)
     have h1 := ((HO.out.re [2, 0, 1]).store (i := 3) (.int .i64 n3)).re [3, 1, 2, 0]; have h2 := st5 h1 (.int .i64 3) (.string (bs u)) (.int .i64 x) (.int .i64 n3) (.slice none 0 0); have h3 := (h2.pop.re [1, 2, 0]).pop.pop.leaf 3 u x n3 none 0; exact bodyPost_ret (one_res rfl h2.blk.1) (by rfl) (by first | exact ⟨_, _, _, rfl, HD.out, h3⟩ | exact ⟨_, _, rfl, _, HD.out, h3⟩)
    ·have hn3' : ¬ (1000000 : Int) < (n3 : Int) := by omega
     have HD : Hid (Did (oneF fin (n + 1)) s (.mk 3 u x n3 []) s4) := HDt.out sB ⟨k3, p3, n3, u3⟩ s4 s4 HB.out HT3.out HDD.out (by rw [stE, if_neg hn3]); clear hn3; subst hW13; obtain ⟨hbt, ⟨ft0, ft1, ft2, ft3⟩, ct0, ct1, ct2, ct3⟩ := bx4 HO3.out.blk; obtain ⟨hbe, ⟨fe0, fe1, fe2, fe3, fe4⟩, ce0, ce1, ce2, ce3, ce4⟩ := bx5 ((HO3.out.re [2, 0, 1]).blk); obtain ⟨hbz, ⟨fz0, fz1, fz2, fz3, fz4⟩, cz0, cz1, cz2, cz3, cz4⟩ := bx5 ((HO3.out.re [3, 0, 1, 2]).blk); have m36 := Owns.ne (HO3.out.re [0, 2, 1]); have m36' := m36.symm; have m32 := Owns.ne (HO3.out.re [0, 3, 1, 2]); have m32' := m32.symm; have m62 := Owns.ne (HO3.out.re [2, 3, 0, 1]); have m62' := m62.symm; repeat (first | go_values | go_skip | go_guarded | go_step | go_upon)
     have h1 := ((HO.out.re [2, 0, 1]).store (i := 3) (.int .i64 n3)).re [3, 1, 2, 0]; have h2 := st5 h1 (.int .i64 3) (.string (bs u)) (.int .i64 x) (.int .i64 n3) (.slice none 0 0); have h3 := (h2.pop.re [1, 2, 0]).pop.pop.leaf 3 u x n3 none 0; exact bodyPost_ret (one_res rfl h2.blk.1) (by rfl) (by first | exact ⟨_, _, _, rfl, HD.out, h3⟩ | exact ⟨_, _, rfl, _, HD.out, h3⟩)
   ·have hk3' : ((k3 : Int) != 2) = true := by simp; omega
    have HDD : Hid (failS s4 5 p3 = stD fin sB) := by
     show _ = _; rw [stD, <- HT3.out, if_pos (by simpa using hk3), <- HS4.out]
    clear hk3
    focus
     obtain ⟨hbt, ⟨ft0, ft1, ft2, ft3⟩, ct0, ct1, ct2, ct3⟩ := bx4 HO3.out.blk; go_wp2_with fail
     rw [<- hW13]; clear hW13 hbt ft0 ft1 ft2 ft3 ct0 ct1 ct2 ct3
    go_at_call 106
    refine (fail_c (w0 := w0) (bp := bp) (fin := fin) (blk b3 (tobj ⟨k3, p3, n3, u3⟩) :: blk b6 (f6 u x) :: blk b2 fobj0 :: ps) s4 5 p3 (by omega) (by omega) _ HO.out).mono ?_; clear HO; rintro e W14 ⟨rfl, ho⟩; have HO := Lib.hid ho; clear ho; simp only []; by_cases hn3 : 1000000 < n3
    ·have hn3' : (1000000 : Int) < (n3 : Int) := by omega
     have HD : Hid (Did (oneF fin (n + 1)) s (.mk 3 u x n3 []) (failS (failS s4 5 p3) 10 p3)) := HDt.out sB ⟨k3, p3, n3, u3⟩ _ _ HB.out HT3.out HDD.out (by rw [stE, if_pos hn3]); clear hn3
     focus
      obtain ⟨hbt, ⟨ft0, ft1, ft2, ft3⟩, ct0, ct1, ct2, ct3⟩ := bx4 HO.out.swap.blk; go_wp2_with fail
      clear hbt ft0 ft1 ft2 ft3 ct0 ct1 ct2 ct3
     go_at_call 106
     refine (fail_c (w0 := w0) (bp := bp) (fin := fin) (blk b3 (tobj ⟨k3, p3, n3, u3⟩) :: blk b6 (f6 u x) :: blk b2 fobj0 :: ps) (failS s4 5 p3) 10 p3 (by omega) (by omega) _ HO.out).mono ?_; clear HO; rintro e W14 ⟨rfl, ho⟩; have HO := Lib.hid ho; clear ho; simp only []; obtain ⟨hbt, ⟨ft0, ft1, ft2, ft3⟩, ct0, ct1, ct2, ct3⟩ := bx4 HO.out.swap.blk; obtain ⟨hbe, ⟨fe0, fe1, fe2, fe3, fe4⟩, ce0, ce1, ce2, ce3, ce4⟩ := bx5 ((HO.out.re [2, 0, 1]).blk); obtain ⟨hbz, ⟨fz0, fz1, fz2, fz3, fz4⟩, cz0, cz1, cz2, cz3, cz4⟩ := bx5 ((HO.out.re [3, 0, 1, 2]).blk); have m36 := Owns.ne (HO.out.re [1, 2, 0]); have m36' := m36.symm; have m32 := Owns.ne (HO.out.re [1, 3, 0, 2]); have m32' := m32.symm; have m62 := Owns.ne (HO.out.re [2, 3, 0, 1]); have m62' := m62.symm; repeat (first | go_values | go_skip | go_guarded | go_step | go_upon)
     have h1 := ((HO.out.re [2, 0, 1]).store (i := 3) (.int .i64 n3)).re [3, 1, 2, 0]; have h2 := st5 h1 (.int .i64 3) (.string (bs u)) (.int .i64 x) (.int .i64 n3) (.slice none 0 0); have h3 := (h2.pop.re [1, 2, 0]).pop.pop.leaf 3 u x n3 none 0; exact bodyPost_ret (one_res rfl h2.blk.1) (by rfl) (by first | exact ⟨_, _, _, rfl, HD.out, h3⟩ | exact ⟨_, _, rfl, _, HD.out, h3⟩)
    ·have hn3' : ¬ (1000000 : Int) < (n3 : Int) := by omega
     have HD : Hid (Did (oneF fin (n + 1)) s (.mk 3 u x n3 []) (failS s4 5 p3)) := HDt.out sB ⟨k3, p3, n3, u3⟩ _ _ HB.out HT3.out HDD.out (by rw [stE, if_neg hn3]); clear hn3; obtain ⟨hbt, ⟨ft0, ft1, ft2, ft3⟩, ct0, ct1, ct2, ct3⟩ := bx4 HO.out.swap.blk; obtain ⟨hbe, ⟨fe0, fe1, fe2, fe3, fe4⟩, ce0, ce1, ce2, ce3, ce4⟩ := bx5 ((HO.out.re [2, 0, 1]).blk); obtain ⟨hbz, ⟨fz0, fz1, fz2, fz3, fz4⟩, cz0, cz1, cz2, cz3, cz4⟩ := bx5 ((HO.out.re [3, 0, 1, 2]).blk); have m36 := Owns.ne (HO.out.re [1, 2, 0]); have m36' := m36.symm; have m32 := Owns.ne (HO.out.re [1, 3, 0, 2]); have m32' := m32.symm; have m62 := Owns.ne (HO.out.re [2, 3, 0, 1]); have m62' := m62.symm; repeat (first | go_values | go_skip | go_guarded | go_step | go_upon)
     have h1 := ((HO.out.re [2, 0, 1]).store (i := 3) (.int .i64 n3)).re [3, 1, 2, 0]; have h2 := st5 h1 (.int .i64 3) (.string (bs u)) (.int .i64 x) (.int .i64 n3) (.slice none 0 0); have h3 := (h2.pop.re [1, 2, 0]).pop.pop.leaf 3 u x n3 none 0; exact bodyPost_ret (one_res rfl h2.blk.1) (by rfl) (by first | exact ⟨_, _, _, rfl, HD.out, h3⟩ | exact ⟨_, _, rfl, _, HD.out, h3⟩)
  ·have HB : Hid (s2 = stB fin s1) := by
    show _ = _; rw [stB, <- HT2.out, if_neg (by rintro (h | h) <;> first | (exact h hk2; done) | rw [<- HX.out] at h; exact hx1 h), <- HS2.out]
   replace HO := Lib.hid (HO.out.re [2, 0, 1]); obtain ⟨sB, hsB⟩ : ∃ sB, sB = s2 := ⟨_, rfl⟩; rw [<- hsB] at HB HO HLen; clear hk2 hsB
   focus
    obtain ⟨hbt, ⟨ft0, ft1, ft2, ft3⟩, ct0, ct1, ct2, ct3⟩ := bx4 HO.out.swap.blk; obtain ⟨hbe, ⟨fe0, fe1, fe2, fe3, fe4⟩, ce0, ce1, ce2, ce3, ce4⟩ := bx5 ((HO.out.re [2, 0, 1]).blk); go_wp2_with fail
    clear hbt ft0 ft1 ft2 ft3 ct0 ct1 ct2 ct3 hbe fe0 fe1 fe2 fe3 fe4 ce0 ce1 ce2 ce3 ce4
   go_at_call 153
   refine (take_c (w0 := w0) (bp := bp) (fin := fin) (blk b3 (tobj ⟨k2, p2, n2, u2⟩) :: blk b6 (f6 u x) :: blk b2 fobj0 :: ps) sB _ HO.out HLen.out).mono ?_; rintro e W12 ⟨rfl, ho⟩; obtain ⟨⟨k3, p3, n3, u3⟩, ht⟩ : ∃ t, t = nextT sB := ⟨_, rfl⟩; obtain ⟨s4, hs4⟩ : ∃ s4, s4 = nextS fin sB := ⟨_, rfl⟩; rw [<- ht]; rw [<- hs4] at ho; simp only [tval]; have HT3 := Lib.hid ht; have HS4 := Lib.hid hs4; have HO3 := Lib.hid ho.swap; obtain ⟨W13, hW13⟩ : ∃ W13, W13 = (((W12.setCell ⟨b3, 0, none⟩ (.int .i64 k3)).setCell ⟨b3, 1, none⟩ (.int .i64 p3)).setCell ⟨b3, 2, none⟩ (.int .i64 n3)).setCell ⟨b3, 3, none⟩ (.string (bs u3)) := ⟨_, rfl⟩; replace HO : Hid (Owns w0 W13 (parP w0 bp fin s4 :: blk b3 (tobj ⟨k3, p3, n3, u3⟩) :: blk b6 (f6 u x) :: blk b2 fobj0 :: ps)) := by
    rw [hW13]; exact Lib.hid (st4 HO3.out (.int .i64 k3) (.int .i64 p3) (.int .i64 n3) (.string (bs u3))).swap
   clear ho ht hs4; by_cases hk3 : k3 = 2
   ·have hk3' : ((k3 : Int) != 2) = false := by simp; omega
    have HDD : Hid (s4 = stD fin sB) := by
     show _ = _; rw [stD, <- HT3.out, if_neg (by simpa using hk3), <- HS4.out]
    clear hk3; by_cases hn3 : 1000000 < n3
    ·have hn3' : (1000000 : Int) < (n3 : Int) := by omega
     have HD : Hid (Did (oneF fin (n + 1)) s (.mk 3 u x n3 []) (failS s4 10 p3)) := HDt.out sB ⟨k3, p3, n3, u3⟩ s4 (failS s4 10 p3) HB.out HT3.out HDD.out (by rw [stE, if_pos hn3]); clear hn3
     focus
      obtain ⟨hbt, ⟨ft0, ft1, ft2, ft3⟩, ct0, ct1, ct2, ct3⟩ := bx4 HO3.out.blk; go_wp2_with fail
      rw [<- hW13]; clear hW13 hbt ft0 ft1 ft2 ft3 ct0 ct1 ct2 ct3
     go_at_call 106
     refine (fail_c (w0 := w0) (bp := bp) (fin := fin) (blk b3 (tobj ⟨k3, p3, n3, u3⟩) :: blk b6 (f6 u x) :: blk b2 fobj0 :: ps) s4 10 p3 (by omega) (by omega) _ HO.out).mono ?_; clear HO; rintro e W14 ⟨rfl, ho⟩; have HO := Lib.hid ho; clear ho; simp only []; obtain ⟨hbt, ⟨ft0, ft1, ft2, ft3⟩, ct0, ct1, ct2, ct3⟩ := bx4 HO.out.swap.blk; obtain ⟨hbe, ⟨fe0, fe1, fe2, fe3, fe4⟩, ce0, ce1, ce2, ce3, ce4⟩ := bx5 ((HO.out.re [2, 0, 1]).blk); obtain ⟨hbz, ⟨fz0, fz1, fz2, fz3, fz4⟩, cz0, cz1, cz2, cz3, cz4⟩ := bx5 ((HO.out.re [3, 0, 1, 2]).blk); have m36 := Owns.ne (HO.out.re [1, 2, 0]); have m36' := m36.symm; have m32 := Owns.ne (HO.out.re [1, 3, 0, 2]); have m32' := m32.symm; have m62 := Owns.ne (HO.out.re [2, 3, 0, 1]); have m62' := m62.symm; repeat (first | go_values | go_skip | go_guarded | go_step | go_upon)
     have h1 := ((HO.out.re [2, 0, 1]).store (i := 3) (.int .i64 n3)).re [3, 1, 2, 0]; have h2 := st5 h1 (.int .i64 3) (.string (bs u)) (.int .i64 x) (.int .i64 n3) (.slice none 0 0); have h3 := (h2.pop.re [1, 2, 0]).pop.pop.leaf 3 u x n3 none 0; exact bodyPost_ret (one_res rfl h2.blk.1) (by rfl) (by first | exact ⟨_, _, _, rfl, HD.out, h3⟩ | exact ⟨_, _, rfl, _, HD.out, h3⟩)
    ·have hn3' : ¬ (1000000 : Int) < (n3 : Int) := by omega
     have HD : Hid (Did (oneF fin (n + 1)) s (.mk 3 u x n3 []) s4) := HDt.out sB ⟨k3, p3, n3, u3⟩ s4 s4 HB.out HT3.out HDD.out (by rw [stE, if_neg hn3]); clear hn3; subst hW13; obtain ⟨hbt, ⟨ft0, ft1, ft2, ft3⟩, ct0, ct1, ct2, ct3⟩ := bx4 HO3.out.blk; obtain ⟨hbe, ⟨fe0, fe1, fe2, fe3, fe4⟩, ce0, ce1, ce2, ce3, ce4⟩ := bx5 ((HO3.out.re [2, 0, 1]).blk); obtain ⟨hbz, ⟨fz0, fz1, fz2, fz3, fz4⟩, cz0, cz1, cz2, cz3, cz4⟩ := bx5 ((HO3.out.re [3, 0, 1, 2]).blk); have m36 := Owns.ne (HO3.out.re [0, 2, 1]); have m36' := m36.symm; have m32 := Owns.ne (HO3.out.re [0, 3, 1, 2]); have m32' := m32.symm; have m62 := Owns.ne (HO3.out.re [2, 3, 0, 1]); have m62' := m62.symm; repeat (first | go_values | go_skip | go_guarded | go_step | go_upon)
     have h1 := ((HO.out.re [2, 0, 1]).store (i := 3) (.int .i64 n3)).re [3, 1, 2, 0]; have h2 := st5 h1 (.int .i64 3) (.string (bs u)) (.int .i64 x) (.int .i64 n3) (.slice none 0 0); have h3 := (h2.pop.re [1, 2, 0]).pop.pop.leaf 3 u x n3 none 0; exact bodyPost_ret (one_res rfl h2.blk.1) (by rfl) (by first | exact ⟨_, _, _, rfl, HD.out, h3⟩ | exact ⟨_, _, rfl, _, HD.out, h3⟩)
   ·have hk3' : ((k3 : Int) != 2) = true := by simp; omega
    have HDD : Hid (failS s4 5 p3 = stD fin sB) := by
     show _ = _; rw [stD, <- HT3.out, if_pos (by simpa using hk3), <- HS4.out]
    clear hk3
    focus
     obtain ⟨hbt, ⟨ft0, ft1, ft2, ft3⟩, ct0, ct1, ct2, ct3⟩ := bx4 HO3.out.blk; go_wp2_with fail
     rw [<- hW13]; clear hW13 hbt ft0 ft1 ft2 ft3 ct0 ct1 ct2 ct3
    go_at_call 106
    refine (fail_c (w0 := w0) (bp := bp) (fin := fin) (blk b3 (tobj ⟨k3, p3, n3, u3⟩) :: blk b6 (f6 u x) :: blk b2 fobj0 :: ps) s4 5 p3 (by omega) (by omega) _ HO.out).mono ?_; clear HO; rintro e W14 ⟨rfl, ho⟩; have HO := Lib.hid ho; clear ho; simp only []; by_cases hn3 : 1000000 < n3
    ·have hn3' : (1000000 : Int) < (n3 : Int) := by omega
     have HD : Hid (Did (oneF fin (n + 1)) s (.mk 3 u x n3 []) (failS (failS s4 5 p3) 10 p3)) := HDt.out sB ⟨k3, p3, n3, u3⟩ _ _ HB.out HT3.out HDD.out (by rw [stE, if_pos hn3]); clear hn3
     focus
      obtain ⟨hbt, ⟨ft0, ft1, ft2, ft3⟩, ct0, ct1, ct2, ct3⟩ := bx4 HO.out.swap.blk; go_wp2_with fail
      clear hbt ft0 ft1 ft2 ft3 ct0 ct1 ct2 ct3
     go_at_call 106
     refine (fail_c (w0 := w0) (bp := bp) (fin := fin) (blk b3 (tobj ⟨k3, p3, n3, u3⟩) :: blk b6 (f6 u x) :: blk b2 fobj0 :: ps) (failS s4 5 p3) 10 p3 (by omega) (by omega) _ HO.out).mono ?_; clear HO; rintro e W14 ⟨rfl, ho⟩; have HO := Lib.hid ho; clear ho; simp only []; obtain ⟨hbt, ⟨ft0, ft1, ft2, ft3⟩, ct0, ct1, ct2, ct3⟩ := bx4 HO.out.swap.blk; obtain ⟨hbe, ⟨fe0, fe1, fe2, fe3, fe4⟩, ce0, ce1, ce2, ce3, ce4⟩ := bx5 ((HO.out.re [2, 0, 1]).blk); obtain ⟨hbz, ⟨fz0, fz1, fz2, fz3, fz4⟩, cz0, cz1, cz2, cz3, cz4⟩ := bx5 ((HO.out.re [3, 0, 1, 2]).blk); have m36 := Owns.ne (HO.out.re [1, 2, 0]); have m36' := m36.symm; have m32 := Owns.ne (HO.out.re [1, 3, 0, 2]); have m32' := m32.symm; have m62 := Owns.ne (HO.out.re [2, 3, 0, 1]); have m62' := m62.symm; repeat (first | go_values | go_skip | go_guarded | go_step | go_upon)
     have h1 := ((HO.out.re [2, 0, 1]).store (i := 3) (.int .i64 n3)).re [3, 1, 2, 0]; have h2 := st5 h1 (.int .i64 3) (.string (bs u)) (.int .i64 x) (.int .i64 n3) (.slice none 0 0); have h3 := (h2.pop.re [1, 2, 0]).pop.pop.leaf 3 u x n3 none 0; exact bodyPost_ret (one_res rfl h2.blk.1) (by rfl) (by first | exact ⟨_, _, _, rfl, HD.out, h3⟩ | exact ⟨_, _, rfl, _, HD.out, h3⟩)
    ·have hn3' : ¬ (1000000 : Int) < (n3 : Int) := by omega
     have HD : Hid (Did (oneF fin (n + 1)) s (.mk 3 u x n3 []) (failS s4 5 p3)) := HDt.out sB ⟨k3, p3, n3, u3⟩ _ _ HB.out HT3.out HDD.out (by rw [stE, if_neg hn3]); clear hn3; obtain ⟨hbt, ⟨ft0, ft1, ft2, ft3⟩, ct0, ct1, ct2, ct3⟩ := bx4 HO.out.swap.blk; obtain ⟨hbe, ⟨fe0, fe1, fe2, fe3, fe4⟩, ce0, ce1, ce2, ce3, ce4⟩ := bx5 ((HO.out.re [2, 0, 1]).blk); obtain ⟨hbz, ⟨fz0, fz1, fz2, fz3, fz4⟩, cz0, cz1, cz2, cz3, cz4⟩ := bx5 ((HO.out.re [3, 0, 1, 2]).blk); have m36 := Owns.ne (HO.out.re [1, 2, 0]); have m36' := m36.symm; have m32 := Owns.ne (HO.out.re [1, 3, 0, 2]); have m32' := m32.symm; have m62 := Owns.ne (HO.out.re [2, 3, 0, 1]); have m62' := m62.symm; repeat (first | go_values | go_skip | go_guarded | go_step | go_upon)
     have h1 := ((HO.out.re [2, 0, 1]).store (i := 3) (.int .i64 n3)).re [3, 1, 2, 0]; have h2 := st5 h1 (.int .i64 3) (.string (bs u)) (.int .i64 x) (.int .i64 n3) (.slice none 0 0); have h3 := (h2.pop.re [1, 2, 0]).pop.pop.leaf 3 u x n3 none 0; exact bodyPost_ret (one_res rfl h2.blk.1) (by rfl) (by first | exact ⟨_, _, _, rfl, HD.out, h3⟩ | exact ⟨_, _, rfl, _, HD.out, h3⟩)
 ·have hk2' : ((k2 : Int) != 4) = true := by simp; omega
  have HB : Hid (failS s2 5 p2 = stB fin s1) := by
   show _ = _; rw [stB, <- HT2.out, if_pos (.inl hk2), <- HS2.out]
  clear hk2
  focus
   obtain ⟨hbt, ⟨ft0, ft1, ft2, ft3⟩, ct0, ct1, ct2, ct3⟩ := bx4 HO.out.blk; obtain ⟨hbe, ⟨fe0, fe1, fe2, fe3, fe4⟩, ce0, ce1, ce2, ce3, ce4⟩ := bx5 HO.out.swap.blk; go_wp2_with fail
   clear hbt ft0 ft1 ft2 ft3 ct0 ct1 ct2 ct3 hbe fe0 fe1 fe2 fe3 fe4 ce0 ce1 ce2 ce3 ce4
  go_at_call 106
  refine (fail_c (w0 := w0) (bp := bp) (fin := fin) (blk b3 (tobj ⟨k2, p2, n2, u2⟩) :: blk b6 (f6 u x) :: blk b2 fobj0 :: ps) s2 5 p2 (by omega) (by omega) W11 (HO.out.re [2, 0, 1])).mono ?_; rintro e W12 ⟨rfl, ho⟩; replace HO := Lib.hid ho; replace HLen : Hid ((toks (failS s2 5 p2)).length <= 1000000) := Lib.hid (Nat.le_trans (fail_len _ _ _) HLen.out); obtain ⟨sB, hsB⟩ : ∃ sB, sB = failS s2 5 p2 := ⟨_, rfl⟩; rw [<- hsB] at HB HO HLen; clear ho hsB; go_wp2_with fail
  go_at_call 153
  refine (take_c (w0 := w0) (bp := bp) (fin := fin) (blk b3 (tobj ⟨k2, p2, n2, u2⟩) :: blk b6 (f6 u x) :: blk b2 fobj0 :: ps) sB _ HO.out HLen.out).mono ?_; rintro e W12 ⟨rfl, ho⟩; obtain ⟨⟨k3, p3, n3, u3⟩, ht⟩ : ∃ t, t = nextT sB := ⟨_, rfl⟩; obtain ⟨s4, hs4⟩ : ∃ s4, s4 = nextS fin sB := ⟨_, rfl⟩; rw [<- ht]; rw [<- hs4] at ho; simp only [tval]; have HT3 := Lib.hid ht; have HS4 := Lib.hid hs4; have HO3 := Lib.hid ho.swap; obtain ⟨W13, hW13⟩ : ∃ W13, W13 = (((W12.setCell ⟨b3, 0, none⟩ (.int .i64 k3)).setCell ⟨b3, 1, none⟩ (.int .i64 p3)).setCell ⟨b3, 2, none⟩ (.int .i64 n3)).setCell ⟨b3, 3, none⟩ (.string (bs u3)) := ⟨_, rfl⟩; replace HO : Hid (Owns w0 W13 (parP w0 bp fin s4 :: blk b3 (tobj ⟨k3, p3, n3, u3⟩) :: blk b6 (f6 u x) :: blk b2 fobj0 :: ps)) := by
   rw [hW13]; exact Lib.hid (st4 HO3.out (.int .i64 k3) (.int .i64 p3) (.int .i64 n3) (.string (bs u3))).swap
  clear ho ht hs4; by_cases hk3 : k3 = 2
  ·have hk3' : ((k3 : Int) != 2) = false := by simp; omega
   have HDD : Hid (s4 = stD fin sB) := by
    show _ = _; rw [stD, <- HT3.out, if_neg (by simpa using hk3), <- HS4.out]
   clear hk3; by_cases hn3 : 1000000 < n3
   ·have hn3' : (1000000 : Int) < (n3 : Int) := by omega
    have HD : Hid (Did (oneF fin (n + 1)) s (.mk 3 u x n3 []) (failS s4 10 p3)) := HDt.out sB ⟨k3, p3, n3, u3⟩ s4 (failS s4 10 p3) HB.out HT3.out HDD.out (by rw [stE, if_pos hn3]); clear hn3
    focus
     obtain ⟨hbt, ⟨ft0, ft1, ft2, ft3⟩, ct0, ct1, ct2, ct3⟩ := bx4 HO3.out.blk; go_wp2_with fail
     rw [<- hW13]; clear hW13 hbt ft0 ft1 ft2 ft3 ct0 ct1 ct2 ct3
    go_at_call 106
    refine (fail_c (w0 := w0) (bp := bp) (fin := fin) (blk b3 (tobj ⟨k3, p3, n3, u3⟩) :: blk b6 (f6 u x) :: blk b2 fobj0 :: ps) s4 10 p3 (by omega) (by omega) _ HO.out).mono ?_; clear HO; rintro e W14 ⟨rfl, ho⟩; have HO := Lib.hid ho; clear ho; simp only []; obtain ⟨hbt, ⟨ft0, ft1, ft2, ft3⟩, ct0, ct1, ct2, ct3⟩ := bx4 HO.out.swap.blk; obtain ⟨hbe, ⟨fe0, fe1, fe2, fe3, fe4⟩, ce0, ce1, ce2, ce3, ce4⟩ := bx5 ((HO.out.re [2, 0, 1]).blk); obtain ⟨hbz, ⟨fz0, fz1, fz2, fz3, fz4⟩, cz0, cz1, cz2, cz3, cz4⟩ := bx5 ((HO.out.re [3, 0, 1, 2]).blk); have m36 := Owns.ne (HO.out.re [1, 2, 0]); have m36' := m36.symm; have m32 := Owns.ne (HO.out.re [1, 3, 0, 2]); have m32' := m32.symm; have m62 := Owns.ne (HO.out.re [2, 3, 0, 1]); have m62' := m62.symm; repeat (first | go_values | go_skip | go_guarded | go_step | go_upon)
    have h1 := ((HO.out.re [2, 0, 1]).store (i := 3) (.int .i64 n3)).re [3, 1, 2, 0]; have h2 := st5 h1 (.int .i64 3) (.string (bs u)) (.int .i64 x) (.int .i64 n3) (.slice none 0 0); have h3 := (h2.pop.re [1, 2, 0]).pop.pop.leaf 3 u x n3 none 0; exact bodyPost_ret (one_res rfl h2.blk.1) (by rfl) (by first | exact ⟨_, _, _, rfl, HD.out, h3⟩ | exact ⟨_, _, rfl, _, HD.out, h3⟩)
   ·have hn3' : ¬ (1000000 : Int) < (n3 : Int) := by omega
    have HD : Hid (Did (oneF fin (n + 1)) s (.mk 3 u x n3 []) s4) := HDt.out sB ⟨k3, p3, n3, u3⟩ s4 s4 HB.out HT3.out HDD.out (by rw [stE, if_neg hn3]); clear hn3; subst hW13; obtain ⟨hbt, ⟨ft0, ft1, ft2, ft3⟩, ct0, ct1, ct2, ct3⟩ := bx4 HO3.out.blk; obtain ⟨hbe, ⟨fe0, fe1, fe2, fe3, fe4⟩, ce0, ce1, ce2, ce3, ce4⟩ := bx5 ((HO3.out.re [2, 0, 1]).blk); obtain ⟨hbz, ⟨fz0, fz1, fz2, fz3, fz4⟩, cz0, cz1, cz2, cz3, cz4⟩ := bx5 ((HO3.out.re [3, 0, 1, 2]).blk); have m36 := Owns.ne (HO3.out.re [0, 2, 1]); have m36' := m36.symm; have m32 := Owns.ne (HO3.out.re [0, 3, 1, 2]); have m32' := m32.symm; have m62 := Owns.ne (HO3.out.re [2, 3, 0, 1]); have m62' := m62.symm; repeat (first | go_values | go_skip | go_guarded | go_step | go_upon)
    have h1 := ((HO.out.re [2, 0, 1]).store (i := 3) (.int .i64 n3)).re [3, 1, 2, 0]; have h2 := st5 h1 (.int .i64 3) (.string (bs u)) (.int .i64 x) (.int .i64 n3) (.slice none 0 0); have h3 := (h2.pop.re [1, 2, 0]).pop.pop.leaf 3 u x n3 none 0; exact bodyPost_ret (one_res rfl h2.blk.1) (by rfl) (by first | exact ⟨_, _, _, rfl, HD.out, h3⟩ | exact ⟨_, _, rfl, _, HD.out, h3⟩)
  ·have hk3' : ((k3 : Int) != 2) = true := by simp; omega
   have HDD : Hid (failS s4 5 p3 = stD fin sB) := by
    show _ = _; rw [stD, <- HT3.out, if_pos (by simpa using hk3), <- HS4.out]
   clear hk3
   focus
    obtain ⟨hbt, ⟨ft0, ft1, ft2, ft3⟩, ct0, ct1, ct2, ct3⟩ := bx4 HO3.out.blk; go_wp2_with fail
    rw [<- hW13]; clear hW13 hbt ft0 ft1 ft2 ft3 ct0 ct1 ct2 ct3
   go_at_call 106
   refine (fail_c (w0 := w0) (bp := bp) (fin := fin) (blk b3 (tobj ⟨k3, p3, n3, u3⟩) :: blk b6 (f6 u x) :: blk b2 fobj0 :: ps) s4 5 p3 (by omega) (by omega) _ HO.out).mono ?_; clear HO; rintro e W14 ⟨rfl, ho⟩; have HO := Lib.hid ho; clear ho; simp only []; by_cases hn3 : 1000000 < n3
   ·have hn3' : (1000000 : Int) < (n3 : Int) := by omega
    have HD : Hid (Did (oneF fin (n + 1)) s (.mk 3 u x n3 []) (failS (failS s4 5 p3) 10 p3)) := HDt.out sB ⟨k3, p3, n3, u3⟩ _ _ HB.out HT3.out HDD.out (by rw [stE, if_pos hn3]); clear hn3
    focus
     obtain ⟨hbt, ⟨ft0, ft1, ft2, ft3⟩, ct0, ct1, ct2, ct3⟩ := bx4 HO.out.swap.blk; go_wp2_with fail
     clear hbt ft0 ft1 ft2 ft3 ct0 ct1 ct2 ct3
    go_at_call 106
    refine (fail_c (w0 := w0) (bp := bp) (fin := fin) (blk b3 (tobj ⟨k3, p3, n3, u3⟩) :: blk b6 (f6 u x) :: blk b2 fobj0 :: ps) (failS s4 5 p3) 10 p3 (by omega) (by omega) _ HO.out).mono ?_; clear HO; rintro e W14 ⟨rfl, ho⟩; have HO := Lib.hid ho; clear ho; simp only []; obtain ⟨hbt, ⟨ft0, ft1, ft2, ft3⟩, ct0, ct1, ct2, ct3⟩ := bx4 HO.out.swap.blk; obtain ⟨hbe, ⟨fe0, fe1, fe2, fe3, fe4⟩, ce0, ce1, ce2, ce3, ce4⟩ := bx5 ((HO.out.re [2, 0, 1]).blk); obtain ⟨hbz, ⟨fz0, fz1, fz2, fz3, fz4⟩, cz0, cz1, cz2, cz3, cz4⟩ := bx5 ((HO.out.re [3, 0, 1, 2]).blk); have m36 := Owns.ne (HO.out.re [1, 2, 0]); have m36' := m36.symm; have m32 := Owns.ne (HO.out.re [1, 3, 0, 2]); have m32' := m32.symm; have m62 := Owns.ne (HO.out.re [2, 3, 0, 1]); have m62' := m62.symm; repeat (first | go_values | go_skip | go_guarded | go_step | go_upon)
    have h1 := ((HO.out.re [2, 0, 1]).store (i := 3) (.int .i64 n3)).re [3, 1, 2, 0]; have h2 := st5 h1 (.int .i64 3) (.string (bs u)) (.int .i64 x) (.int .i64 n3) (.slice none 0 0); have h3 := (h2.pop.re [1, 2, 0]).pop.pop.leaf 3 u x n3 none 0; exact bodyPost_ret (one_res rfl h2.blk.1) (by rfl) (by first | exact ⟨_, _, _, rfl, HD.out, h3⟩ | exact ⟨_, _, rfl, _, HD.out, h3⟩)
   ·have hn3' : ¬ (1000000 : Int) < (n3 : Int) := by omega
    have HD : Hid (Did (oneF fin (n + 1)) s (.mk 3 u x n3 []) (failS s4 5 p3)) := HDt.out sB ⟨k3, p3, n3, u3⟩ _ _ HB.out HT3.out HDD.out (by rw [stE, if_neg hn3]); clear hn3; obtain ⟨hbt, ⟨ft0, ft1, ft2, ft3⟩, ct0, ct1, ct2, ct3⟩ := bx4 HO.out.swap.blk; obtain ⟨hbe, ⟨fe0, fe1, fe2, fe3, fe4⟩, ce0, ce1, ce2, ce3, ce4⟩ := bx5 ((HO.out.re [2, 0, 1]).blk); obtain ⟨hbz, ⟨fz0, fz1, fz2, fz3, fz4⟩, cz0, cz1, cz2, cz3, cz4⟩ := bx5 ((HO.out.re [3, 0, 1, 2]).blk); have m36 := Owns.ne (HO.out.re [1, 2, 0]); have m36' := m36.symm; have m32 := Owns.ne (HO.out.re [1, 3, 0, 2]); have m32' := m32.symm; have m62 := Owns.ne (HO.out.re [2, 3, 0, 1]); have m62' := m62.symm; repeat (first | go_values | go_skip | go_guarded | go_step | go_upon)
    have h1 := ((HO.out.re [2, 0, 1]).store (i := 3) (.int .i64 n3)).re [3, 1, 2, 0]; have h2 := st5 h1 (.int .i64 3) (.string (bs u)) (.int .i64 x) (.int .i64 n3) (.slice none 0 0); have h3 := (h2.pop.re [1, 2, 0]).pop.pop.leaf 3 u x n3 none 0; exact bodyPost_ret (one_res rfl h2.blk.1) (by rfl) (by first | exact ⟨_, _, _, rfl, HD.out, h3⟩ | exact ⟨_, _, rfl, _, HD.out, h3⟩)
theorem one_c (n : Nat) (hn : n <= 1000000) : PartC w0 bp fin 154 (oneF fin (n + 1)) n := by
 induction n with
 | zero => exact one_step 0 hn fun n' h => by omega
 | succ n ih => exact one_step (n + 1) hn fun n' h => by (obtain rfl : n' = n := by omega); exact ih (by omega)
theorem eitherN_c (n : Nat) (hn : n <= 1000000) : PartC w0 bp fin 105 (eitherF fin (n + 1)) n :=
 either_c _ n hn (all_c _ n hn (one_c n hn))
end
end Go.Proofs.YtoeknmkephnekaaGreatDoor
namespace Go.Cz.Fo
open Go.Cz.Lx
def Sized (part : List Tok -> Res) : Prop := ∀ ts f r, part ts = .ok (f, r) -> size f + 1 + 2 * r.length <= 2 * ts.length
theorem more_sized {w : Bytes} {part : List Tok -> Res} (hp : Sized part) : ∀ (n : Nat) (ts : List Tok) (ks : List Fm) (r : List Tok), moreF w part n ts = .ok (ks, r) -> sizes ks + 3 * ks.length + 2 * r.length <= 2 * ts.length
 | 0, ts, ks, r, h => by
  simp only [moreF, Except.ok.injEq, Prod.mk.injEq] at h; obtain ⟨rfl, rfl⟩ := h; simp [sizes]
 | n + 1, [], ks, r, h => by
  simp only [moreF, Except.ok.injEq, Prod.mk.injEq] at h; obtain ⟨rfl, rfl⟩ := h; simp [sizes]
 | n + 1, t :: ts, ks, r, h => by
  simp only [moreF] at h
  split at h
  ·split at h
   ·cases h
   ·rename_i k r2 h1; have h2 := hp _ _ _ h1
    split at h
    ·cases h
    ·rename_i ks2 r3 h4; have h5 := more_sized hp n _ _ _ h4; simp only [Except.ok.injEq, Prod.mk.injEq] at h; obtain ⟨rfl, rfl⟩ := h; simp only [sizes, List.length_cons]; omega
  ·simp only [Except.ok.injEq, Prod.mk.injEq] at h; obtain ⟨rfl, rfl⟩ := h; simp [sizes]
theorem parts_sized {op : Int} {w : Bytes} {part : List Tok -> Res} (hp : Sized part) : Sized (partsF op w part) := fun ts f r h => by
 unfold partsF at h
 split at h
 ·cases h
 ·rename_i k r2 h1; have h2 := hp _ _ _ h1
  split at h
  ·cases h
  ·rename_i ks r3 h4; have h5 := more_sized hp _ _ _ _ h4; simp only [Except.ok.injEq, Prod.mk.injEq] at h; obtain ⟨rfl, rfl⟩ := h; cases ks with
   | nil => simp [sizes] at h5 ⊢; omega
   | cons k2 ks =>
    simp only [List.isEmpty_cons, Bool.false_eq_true, if_false, size, sizes, List.length_cons] at h5 ⊢; omega
theorem test_sized {fin : Int} {s : Bytes} {ts : List Tok} {f : Fm} {r : List Tok} (h : testF fin s ts = .ok (f, r)) : size f + 1 + 2 * r.length <= 2 * ts.length := by
 unfold testF at h
 split at h
 ·cases h
 ·split at h
  ·cases h
  ·split at h
   ·cases h
   ·split at h
    ·cases h
    ·split at h
     ·cases h
     ·simp only [Except.ok.injEq, Prod.mk.injEq] at h; obtain ⟨rfl, rfl⟩ := h; simp [size, sizes]
      omega
theorem one_sized {fin : Int} : ∀ n : Nat, Sized (oneF fin n)
 | 0 => fun ts f r h => by simp [oneF] at h
 | n + 1 => fun ts f r h => by
  match ts with
  | [] => simp [oneF] at h
  | t :: ts =>
   simp only [oneF] at h
   split at h
   ·split at h
    ·cases h
    ·rename_i k r2 h1; have h2 := one_sized n _ _ _ h1; simp only [Except.ok.injEq, Prod.mk.injEq] at h; obtain ⟨rfl, rfl⟩ := h; simp [size, sizes]
     omega
   split at h
   ·simp only [Except.ok.injEq, Prod.mk.injEq] at h; obtain ⟨rfl, rfl⟩ := h; simp [size, sizes]; omega
   split at h
   ·simp only [Except.ok.injEq, Prod.mk.injEq] at h; obtain ⟨rfl, rfl⟩ := h; simp [size, sizes]; omega
   split at h
   ·split at h
    ·cases h
    ·cases h
    ·rename_i g u r2 h1; have h2 := parts_sized (parts_sized (one_sized n)) _ _ _ h1
     split at h
     ·simp only [Except.ok.injEq, Prod.mk.injEq] at h; obtain ⟨rfl, rfl⟩ := h; simp only [List.length_cons] at h2 ⊢; omega
     ·cases h
   split at h
   ·cases h
   ·have h2 := test_sized h; simp only [List.length_cons]; omega
theorem either_sized {fin : Int} (n : Nat) : Sized (eitherF fin n) := parts_sized (parts_sized (one_sized n))
theorem lexF_len : ∀ (f : Nat) (l : Bytes) (i : Nat) (acc ts : List Tok), acc.length <= 5000 -> lexF l f i acc = .ok ts -> ts.length <= 5000
 | 0, l, i, acc, ts, h0, h => by
  simp only [lexF, Except.ok.injEq] at h; exact h ▸ h0
 | f + 1, l, i, acc, ts, h0, h => by
  simp only [lexF] at h
  split at h
  ·split at h
   ·cases h
   ·split at h
    ·cases h
    ·rename_i h5; exact lexF_len f l _ _ ts (by simp; omega) h
  ·simp only [Except.ok.injEq] at h; exact h ▸ h0
theorem lexAll_len (l : Bytes) : (lexAll l).1.length <= 5000 := by
 unfold lexAll
 split
 ·simp
 ·split
  ·exact Nat.zero_le _
  ·rename_i h; exact lexF_len _ _ _ _ _ (by simp) h
end Go.Cz.Fo
namespace Go.Cz
open Go.RowKit
section
variable {P : Program} {fl : Nat -> Bool} {Q : Act -> World -> Prop} {f : Nat} {listed : Array Bool} {a : Act} {w : World}
def cWalk (P : Program) (l : Array Oper) (fl : Nat -> Bool) (Q : Act -> World -> Prop) (f : Nat) (listed : Array Bool) (a : Act) (w : World) : Prop := Shut .any l listed -> cAny P .any l fl Q f listed a w
theorem wp_region_walk {l : Array Oper} {id : Nat} {Q : Exit -> Act -> World -> Prop} (fl : List Nat) (n : Nat) (hn : l.size = n) (hm : P.follows .mixedOrders = true)
  (h : cWalk P l (fun i => fl.contains i) (fun a w => Q .normal a w) n (Array.replicate n false) a w.drew) : (Code.region id l true).wp P Q a w := by
 subst hn; refine wp_region_any hm ?_; have hs : Shut .any l (Array.replicate l.size false) := fun k o _ hl => by
  exfalso
  rcases Nat.lt_or_ge k l.size with h | h
  ·simp [h] at hl
  ·simp [h] at hl
 exact wpAny_of_cAny (fun _ _ h => h) _ _ _ _ (h hs)
theorem cw_step {l : Array Oper} (i : Nat) (hn : Region.noSelect l = true) (hr : (Region.ready .any l listed).contains i = true) (hf : frB P l fl (masks .any l.toList #[]) listed i = true)
  (h : cOp P l fl i (cWalk P l fl Q f (listed.setIfInBounds i true)) a w) : cWalk P l fl Q (f + 1) listed a w := fun hs => by
 have hms : ∀ i k, ((masks .any l.toList #[]).getD k 0).testBit i = true -> Waits .any l i k := fun i => masks_spec l.toList #[] (fun k => by simp) (fun k hk => by simp at hk); have hr' : i ∈ Region.ready .any l listed := by simpa using hr
 exact cAny_first hn f listed a w hs (frB_spec hms hf) hr' (cOp_mono (fun a w hh => hh (hs.set hr')) h)
theorem cw_stepA {l : Array Oper} (i : Nat) (h : cOp P l fl i (cWalk P l fl Q f (listed.setIfInBounds i true)) a w) (hn : Region.noSelect l = true := by decide +kernel) (hr : (Region.ready .any l listed).contains i = true := by decide +kernel) (hf : frB P l fl (masks .any l.toList #[]) listed i = true := by decide +kernel) : cWalk P l fl Q (f + 1) listed a w := cw_step i hn hr hf h
theorem cw_all {l : Array Oper} {rs : List Nat} (hr : Region.ready .any l listed = rs) (hne : rs ≠ [])
  (h : ∀ i ∈ rs, cOp P l fl i (cWalk P l fl Q f (listed.setIfInBounds i true)) a w) : cWalk P l fl Q (f + 1) listed a w := fun hs => by
 subst hr; exact ⟨fun h0 => absurd h0 hne, fun i hi => cOp_mono (fun a w hh => hh (hs.set hi)) (h i hi)⟩
theorem cw_two {l : Array Oper} (i j : Nat) (hr : Region.ready .any l listed = [i, j])
  (h1 : cOp P l fl i (cWalk P l fl Q f (listed.setIfInBounds i true)) a w) (h2 : cOp P l fl j (cWalk P l fl Q f (listed.setIfInBounds j true)) a w) : cWalk P l fl Q (f + 1) listed a w :=
 cw_all hr (by simp) fun k hk => by
  simp only [List.mem_cons, List.not_mem_nil, or_false] at hk; rcases hk with rfl | rfl
  ·exact h1
  ·exact h2
theorem cw_three {l : Array Oper} (i j m : Nat) (hr : Region.ready .any l listed = [i, j, m])
  (h1 : cOp P l fl i (cWalk P l fl Q f (listed.setIfInBounds i true)) a w) (h2 : cOp P l fl j (cWalk P l fl Q f (listed.setIfInBounds j true)) a w) (h3 : cOp P l fl m (cWalk P l fl Q f (listed.setIfInBounds m true)) a w) : cWalk P l fl Q (f + 1) listed a w :=
 cw_all hr (by simp) fun k hk => by
  simp only [List.mem_cons, List.not_mem_nil, or_false] at hk; rcases hk with rfl | rfl | rfl
  ·exact h1
  ·exact h2
  ·exact h3
theorem cw_nil {l : Array Oper} (hr : Region.ready .any l listed = []) (h : Q a w) : cWalk P l fl Q 0 listed a w := fun _ => ⟨hr, h⟩
end
section
variable {P : Program} {ls : List Oper} {fl : Nat -> Bool} {Q : Act -> World -> Prop} {f : Nat} {listed : Array Bool} {a : Act} {w : World} {i : Nat} {o : Oper}
theorem cw_do (ho : nth ls i = some o) (hg : o.guard = none) (hf : fl i = false) (hk : okB o a.eval = true)
  (h : ∀ K : Act -> World -> Prop, (∀ a w, cWalk P ls.toArray fl Q f listed a w -> K a w) -> o.wp P a w K QF) : cOp P ls.toArray fl i (cWalk P ls.toArray fl Q f listed) a w := by
 unfold cOp; simp only [nth_eq, ho, Region.wanted, hg, if_true]; exact ⟨hk, h _ fun a' w' hh => ⟨(fun hx => by rw [hf] at hx; cases hx), hh⟩⟩
theorem cw_doA (ho : nth ls i = some o) (hg : o.guard = none) (hf : fl i = false) (h : ∀ K : Act -> World -> Prop, (∀ a w, cWalk P ls.toArray fl Q f listed a w -> K a w) -> o.wp P a w K QF) (hk : okB o a.eval = true := by first | rfl | simp [okB, lenV, plainV, Act.eval]) : cOp P ls.toArray fl i (cWalk P ls.toArray fl Q f listed) a w := cw_do ho hg hf hk h
end
end Go.Cz
namespace Go.Proofs.YtoeknmkephnekaaGreatDoor
open Go.RowKit Go.Cz Go.Cz.Lx Go.Cz.Fo
attribute [local go_sem] bs_size bs_extract bs_append bs_toList
attribute [local irreducible] cList cPlan cWalk
theorem parse_res {W : World} {tmps : Array Value} {g : Nat} {v0 v1 v2 v3 v4 : Value} (h4 : tmps.getD 2 undef = .pointer (some ⟨g, 0, none⟩)) (hb : W.heap[g]? = some (.cells #[v0, v1, v2, v3, v4] 24 (0, 0))) :
  (results Tryz.f75 tmps).run Tryz.prog W = .ok (.tuple #[.agg #[v0, v1, v2, v3, v4], tmps.getD 3 undef, tmps.getD 4 undef]) W := by
 have c0 : W.cell? ⟨g, 0, none⟩ = some v0 := by rw [cell_of_heap hb]; rfl
 have c1 : W.cell? ⟨g, 1, none⟩ = some v1 := by rw [cell_of_heap hb]; rfl
 have c2 : W.cell? ⟨g, 2, none⟩ = some v2 := by rw [cell_of_heap hb]; rfl
 have c3 : W.cell? ⟨g, 3, none⟩ = some v3 := by rw [cell_of_heap hb]; rfl
 have c4 : W.cell? ⟨g, 4, none⟩ = some v4 := by rw [cell_of_heap hb]; rfl
 have h4' : tmps[2]?.getD undef = .pointer (some ⟨g, 0, none⟩) := by simpa using h4
 simp [results, Tryz.results75, go_sem, h4', c0, c1, c2, c3, c4]
def ParsePost (w : World) (l : Bytes) (e : Ending) (w' : World) : Prop := ∃ kv, e = .returned (.tuple #[fval (parseF l).1 kv, .int .i64 ((parseF l).2.1 : Nat), .int .i64 (parseF l).2.2]) /\ IsFm (fun g => w.heap.size <= g) w' (parseF l).1 kv /\ Below w.heap.size w w'
def endF (f : Fm) : PSt -> Fm × Nat × Int
 | .error e => (zeroF, e.1, e.2)
 | .ok (t :: _) => (zeroF, 5, t.pos)
 | .ok [] => if largeB f = true then (zeroF, 2, -1) else (f, 0, 0)
theorem parse_end {l : Bytes} {f : Fm} {s : PSt} (h0 : (lexAll l).2.1 = 0) (h : Did (eitherF l.length ((lexAll l).1.length + 1)) (.ok (lexAll l).1) f s) : parseF l = endF f s := by
 obtain ⟨h1, h2, h3⟩ := h; unfold parseF; rw [if_neg (by simpa using h0)]; simp only at h3; cases hp : eitherF l.length ((lexAll l).1.length + 1) (lexAll l).1 with
 | error e => rw [hp] at h3; simp only at h3; subst h3; rfl
 | ok z =>
  obtain ⟨g, r⟩ := z; rw [hp] at h3; obtain ⟨rfl, rfl⟩ := h3; cases r <;> rfl
abbrev set5 (W : World) (b : Nat) (v0 v1 v2 v3 v4 : Value) : World := ((((W.setCell ⟨b, 0, none⟩ v0).setCell ⟨b, 1, none⟩ v1).setCell ⟨b, 2, none⟩ v2).setCell ⟨b, 3, none⟩ v3).setCell ⟨b, 4, none⟩ v4
theorem set5_owns {w W : World} {ps : List Piece} {b : Nat} (h : Owns w W (blk b fobj0 :: ps)) (v0 v1 v2 v3 v4 : Value) : Owns w (set5 W b v0 v1 v2 v3 v4) (blk b (.cells #[v0, v1, v2, v3, v4] 24 (0, 0)) :: ps) :=
 st5 h v0 v1 v2 v3 v4
theorem set5_fm {W : World} {b n : Nat} {f : Fm} {kv v0 v1 v2 v3 v4 : Value} (h : IsFm (fun g => n <= g) W f kv) (hb : b < n) : IsFm (fun g => n <= g) (set5 W b v0 v1 v2 v3 v4) f kv :=
 h.keep fun g hg hl => by
  have hm : Mod [b] W (set5 W b v0 v1 v2 v3 v4) := ((((((Mod.refl [b] W).setCell (.inl (by simp)) v0).setCell (.inl (by simp)) v1).setCell (.inl (by simp)) v2).setCell (.inl (by simp)) v3).setCell (.inl (by simp)) v4); exact hm.block g hl (by simp; omega)
set_option maxRecDepth 100000 in
set_option maxHeartbeats 4000000 in
theorem Parse_c (l : Bytes) (w : World) (hl : l.length <= 140737488355328) : Calls Tryz.prog 75 #[.string (bs l)] w (ParsePost w l) := by
 have hll : (l.length : Int) <= 140737488355328 := by omega
 obtain ⟨W1, hW1⟩ : ∃ W1, W1 = w.alloc (.cells #[.int .i64 0, .string ⟨#[]⟩, .int .i64 0, .int .i64 0, .slice none 0 0] 24) := ⟨_, rfl⟩; obtain ⟨b2, hb2⟩ : ∃ b2, b2 = w.heap.size := ⟨_, rfl⟩; have HO0 : Hid (Owns w W1 [blk b2 fobj0]) := by
  rw [hW1, hb2]; exact Lib.hid ((Owns.start w).box fobj0)
 have HB2 : Hid (w.heap.size <= b2) := by rw [hb2]; exact Nat.le_refl _
 go_enter Tryz.func75, Tryz.ntmps75
 go_wp2_with fail
 rw [<- hW1, <- hb2]; clear hW1 hb2; go_at_call 14
 refine (Lex_c l (fun _ => idxAny) W1 hl).mono ?_; rintro e W2 ⟨v, rfl, htk, hb⟩; replace HO0 := Lib.hid (HO0.out.below hb); have HW2 : Hid (w.heap.size <= W2.heap.size /\ b2 < W2.heap.size) := ⟨HO0.out.base.size, lt_of_block HO0.out.blk.1⟩; have HTk : Hid (TokL W2 v (lexAll l).1) := Lib.hid (TokL.of htk); clear htk hb; obtain ⟨ts, hts⟩ : ∃ ts, ts = (lexAll l).1 := ⟨_, rfl⟩; obtain ⟨ec, hec⟩ : ∃ ec, ec = (lexAll l).2.1 := ⟨_, rfl⟩; obtain ⟨ep, hep⟩ : ∃ ep, ep = (lexAll l).2.2 := ⟨_, rfl⟩; have HTs := Lib.hid hts; have HEc := Lib.hid hec; have HEp := Lib.hid hep; rw [<- hts] at HTk; rw [<- hec, <- hep]; clear hts hec hep; by_cases h0 : ec = 0
 case neg =>
  have h0' : ((ec : Int) != 0) = true := by simpa using h0
  have HR : Hid (parseF l = (zeroF, ec, ep)) := by
   show _ = _; unfold parseF; rw [if_pos (by rw [<- HEc.out]; exact h0), <- HEc.out, <- HEp.out]
  clear h0; have HO := HO0; simp only [fobj0] at HO; obtain ⟨hbe, ⟨fe0, fe1, fe2, fe3, fe4⟩, ce0, ce1, ce2, ce3, ce4⟩ := bx5 HO.out.blk; repeat (first | go_values | go_skip | go_guarded | go_step | go_upon | (simp only [Int.not_lt, Int.not_le] at *; go_simp))
  have h2 := set5_owns HO0.out (.int .i64 0) (.string ⟨#[]⟩) (.int .i64 0) (.int .i64 0) (.slice none 0 0); refine bodyPost_ret (parse_res rfl h2.blk.1) (by rfl) ⟨.slice none 0 0, ?_, ?_, h2.base⟩
  ·rw [HR.out]; rfl
  ·rw [HR.out]; exact .leaf _ _ _ _ _ _
 have h0' : ((ec : Int) != 0) = false := by simpa using h0
 replace h0 : Hid ((lexAll l).2.1 = 0) := by rw [<- HEc.out]; exact Lib.hid h0
 obtain ⟨y, m, rfl⟩ := HTk.out.form; obtain ⟨N, hN⟩ : ∃ N, N = ts.length := ⟨_, rfl⟩; have HN := Lib.hid hN; have hN5 : N <= 5000 := by rw [hN, HTs.out]; exact lexAll_len l
 rw [<- hN] at HTk ⊢; obtain ⟨W3, hW3⟩ : ∃ W3, W3 = W2.alloc (.cells #[.slice y N m, .int .i64 (l.length : Int), .int .i64 0, .int .i64 0] 134) := ⟨_, rfl⟩; obtain ⟨bp, hbp⟩ : ∃ bp, bp = W2.heap.size := ⟨_, rfl⟩; have HO : Hid (Owns W2 W3 [parP W2 bp (l.length : Int) (.ok ts)]) := by
  rw [hW3, hbp]; exact Lib.hid (Owns.asPar (v := .slice y N m) ((Owns.start W2).box _) trivial HTk.out)
 clear hN; go_wp2_with fail
 rw [<- hW3, <- hbp]; clear hW3 hbp h0'; go_at_call 105
 refine ((eitherN_c (w0 := W2) (bp := bp) (fin := (l.length : Int)) N (by omega)) [] (.ok ts) W3 (by rw [HN.out]; exact Nat.le_refl _) HO.out).mono ?_; rintro e W4 ⟨f, kv, s, rfl, hd, ho⟩; have HD := Lib.hid hd; have HE : Hid (parseF l = endF f s) := by
  have h := parse_end (l := l) (f := f) (s := s) h0.out; rw [<- HTs.out, <- HN.out] at h; exact h hd
 obtain ⟨y2, m2, rfl⟩ := ho.fm.form; obtain ⟨N2, hN2⟩ : ∃ N2, N2 = f.kids.length := ⟨_, rfl⟩; have HF := ho.fm; rw [<- hN2] at ho HF ⊢; obtain ⟨W5, hW5⟩ : ∃ W5, W5 = W4.alloc (.cells #[.int .i64 f.op, .string (bs f.name), .int .i64 f.cmp, .int .i64 f.num, .slice y2 N2 m2] 24) := ⟨_, rfl⟩; obtain ⟨b9, hb9⟩ : ∃ b9, b9 = W4.heap.size := ⟨_, rfl⟩; replace HO : Hid (Owns W2 W5 [parP W2 bp (l.length : Int) s, blk b9 (fobj f (.slice y2 N2 m2)), fmP f (.slice y2 N2 m2)]) := by
  rw [hW5, hb9]; exact Lib.hid ((ho.box (fobj f (.slice y2 N2 m2))).re [2, 0, 1])
 clear ho hd hN2 HF; subst hW5 hb9; rcases s with x | (_ | ⟨t, r⟩)
 ·have HR : Hid (parseF l = (zeroF, x.1, x.2)) := HE.out; obtain ⟨hf, yp, mp, hv, hp⟩ := HO.out.par; have hx : ¬ (x).1 = 0 := hf; obtain ⟨c, hc⟩ : ∃ c, c = (x).1 := ⟨_, rfl⟩; obtain ⟨ax, hax⟩ : ∃ ax, ax = (x).2 := ⟨_, rfl⟩; simp only [pobj, code, pos, toks, List.length_nil] at hp; replace HR : Hid (parseF l = (zeroF, c, ax)) := by rw [hc, hax]; exact HR
  rw [<- hc, <- hax] at hp; have hx1 : ((c : Int) == 0) = false := by simp; omega
  have hx2 : ((c : Int) != 0) = true := by simp; omega
  focus
   obtain ⟨hbp, -, cp0, cp1, cp2, cp3⟩ := bx4 hp.blk; clear hf hv hx hc hax; go_wp2_with fail
   clear hbp cp0 cp1 cp2 cp3
  clear hx1 hx2; refine wp_region_walk [] 12 rfl (by decide +kernel) ?_; have ho1 := hp.drew; have ho2 := (HO0.out.below HO.out.base).drew; generalize hWd : World.drew _ = Wd at ho1 ho2 ⊢; clear hWd hp HO; have nb : b2 ≠ bp := by
   have := ho1.blk.2; have := HW2.out.2; omega
  have nb' := nb.symm; have h2 := set5_owns ho2 (.int .i64 0) (.string ⟨#[]⟩) (.int .i64 0) (.int .i64 0) (.slice none 0 0); have HOe := ho2; simp only [fobj0] at HOe; obtain ⟨hbp, -, cp0, cp1, cp2, cp3⟩ := bx4 ho1.blk; obtain ⟨hbe, ⟨fe0, fe1, fe2, fe3, fe4⟩, ce0, ce1, ce2, ce3, ce4⟩ := bx5 HOe.blk; have H2 := Lib.hid h2; clear ho1 ho2 HOe h2 HO0; refine cw_stepA 0 ?_; (refine cw_doA rfl rfl rfl (fun _ _ => ?_); go_wp2_with fail); refine cw_stepA 1 ?_; (refine cw_doA rfl rfl rfl (fun _ _ => ?_); go_wp2_with fail); refine cw_stepA 2 ?_; (refine cw_doA rfl rfl rfl (fun _ _ => ?_); go_wp2_with fail); refine cw_stepA 3 ?_; (refine cw_doA rfl rfl rfl (fun _ _ => ?_); go_wp2_with fail); refine cw_stepA 5 ?_; (refine cw_doA rfl rfl rfl (fun _ _ => ?_); go_wp2_with fail); refine cw_stepA 6 ?_; (refine cw_doA rfl rfl rfl (fun _ _ => ?_); go_wp2_with fail); refine cw_stepA 7 ?_; (refine cw_doA rfl rfl rfl (fun _ _ => ?_); go_wp2_with fail); repeat' (first | (refine cw_stepA 4 ?_; (refine cw_doA rfl rfl rfl (fun _ _ => ?_); go_wp2_with fail)) | (refine cw_stepA 8 ?_; (refine cw_doA rfl rfl rfl (fun _ _ => ?_); go_wp2_with fail)) | (refine cw_stepA 9 ?_; (refine cw_doA rfl rfl rfl (fun _ _ => ?_); go_wp2_with fail)) | (refine cw_stepA 10 ?_; (refine cw_doA rfl rfl rfl (fun _ _ => ?_); go_wp2_with fail)) | (refine cw_stepA 11 ?_; (refine cw_doA rfl rfl rfl (fun _ _ => ?_); go_wp2_with fail)) | (refine cw_three 4 8 9 (by decide +kernel) ?_ ?_ ?_ <;> (refine cw_doA rfl rfl rfl (fun _ _ => ?_); go_wp2_with fail)) | (refine cw_two 4 8 (by decide +kernel) ?_ ?_ <;> (refine cw_doA rfl rfl rfl (fun _ _ => ?_); go_wp2_with fail)) | (refine cw_two 4 9 (by decide +kernel) ?_ ?_ <;> (refine cw_doA rfl rfl rfl (fun _ _ => ?_); go_wp2_with fail)) | (refine cw_two 8 9 (by decide +kernel) ?_ ?_ <;> (refine cw_doA rfl rfl rfl (fun _ _ => ?_); go_wp2_with fail)) | (refine cw_two 8 10 (by decide +kernel) ?_ ?_ <;> (refine cw_doA rfl rfl rfl (fun _ _ => ?_); go_wp2_with fail)) | (refine cw_two 4 10 (by decide +kernel) ?_ ?_ <;> (refine cw_doA rfl rfl rfl (fun _ _ => ?_); go_wp2_with fail)) | (refine cw_nil (by decide +kernel) ?_; repeat (first | go_values | go_skip | go_guarded | go_step | go_upon)))
  all_goals exact bodyPost_ret (parse_res rfl H2.out.blk.1) (by rfl) ⟨.slice none 0 0, by rw [HR.out]; rfl, by rw [HR.out]; exact .leaf _ _ _ _ _ _, H2.out.base⟩
 ·have HR : Hid (parseF l = if largeB f = true then (zeroF, 2, -1) else (f, 0, 0)) := HE.out; have HZ : Hid (size f <= 900000) := by
   obtain ⟨-, -, h3⟩ := HD.out; simp only at h3; cases hp : eitherF (l.length : Int) (N + 1) ts with
   | error e => rw [hp] at h3; cases h3
   | ok z =>
    obtain ⟨g, r⟩ := z; rw [hp] at h3; obtain ⟨rfl, -⟩ := h3; have h4 := either_sized _ _ _ _ hp; have h5 := HN.out; show _ <= _; omega
  obtain ⟨hf, yp, mp, hv, hp⟩ := HO.out.par; simp only [pobj, code, pos, toks, List.length_nil] at hp
  focus
   obtain ⟨hbp, -, cp0, cp1, cp2, cp3⟩ := bx4 hp.blk; clear hf hv hp; obtain ⟨hbv, ⟨fv0, fv1, fv2, fv3, fv4⟩, cv0, cv1, cv2, cv3, cv4⟩ := bx5 HO.out.swap.blk; go_wp2_with fail
   clear hbp cp0 cp1 cp2 cp3 hbv fv0 fv1 fv2 fv3 fv4 cv0 cv1 cv2 cv3 cv4
  go_at_call 47
  refine (large_c f _ _ (HO.out.pop.pop.fm) HZ.out).mono ?_; rintro e W6 ⟨rfl, hb⟩; replace HO := Lib.hid (HO.out.below hb); obtain ⟨L, hL⟩ : ∃ L, L = largeB f := ⟨_, rfl⟩; rw [<- hL] at HR ⊢; clear hL hb; cases L
  ·replace HR : Hid (parseF l = (f, 0, 0)) := HR.out; obtain ⟨hf, yp, mp, hv, hp⟩ := HO.out.par; simp only [pobj, code, pos, toks, List.length_nil] at hp; obtain ⟨hbp, -, cp0, cp1, cp2, cp3⟩ := bx4 hp.blk; clear hf hv hp; have HOv := Lib.hid (HO0.out.below HO.out.base); have HO5 := Lib.hid (HO0.out.below HO.out.base); simp only [fobj0] at HOv; obtain ⟨hbv, ⟨fv0, fv1, fv2, fv3, fv4⟩, cv0, cv1, cv2, cv3, cv4⟩ := bx5 HO.out.swap.blk; obtain ⟨hbe, ⟨fe0, fe1, fe2, fe3, fe4⟩, ce0, ce1, ce2, ce3, ce4⟩ := bx5 HOv.out.blk; repeat (first | go_values | go_skip | go_guarded | go_step | go_upon | (simp only [Int.not_lt, Int.not_le] at *; go_simp))
   have h2 := set5_owns HO5.out (.int .i64 f.op) (.string (bs f.name)) (.int .i64 f.cmp) (.int .i64 f.num) (.slice y2 N2 m2); have hF := (set5_fm (v0 := .int .i64 f.op) (v1 := .string (bs f.name)) (v2 := .int .i64 f.cmp) (v3 := .int .i64 f.num) (v4 := .slice y2 N2 m2) HO.out.pop.pop.fm HW2.out.2).mono (q := fun g => w.heap.size <= g) fun g hg _ => Nat.le_trans HW2.out.1 hg; exact bodyPost_ret (parse_res rfl h2.blk.1) (by rfl) ⟨.slice y2 N2 m2, by rw [HR.out]; rfl, by rw [HR.out]; exact hF, h2.base⟩
  ·replace HR : Hid (parseF l = (zeroF, 2, -1)) := HR.out; go_wp2_with fail
   go_at_call 106
   refine (fail_c (w0 := W2) (bp := bp) (fin := (l.length : Int)) [blk W4.heap.size (fobj f (.slice y2 N2 m2)), fmP f (.slice y2 N2 m2)] (.ok []) 2 (-1) (by omega) (by omega) W6 HO.out).mono ?_; rintro e W7 ⟨rfl, ho⟩; replace HO : Hid (Owns W2 W7 [parP W2 bp (l.length : Int) (.error (2, -1)), blk W4.heap.size (fobj f (.slice y2 N2 m2)), fmP f (.slice y2 N2 m2)]) := Lib.hid ho; obtain ⟨x, hx0⟩ : ∃ x : Nat × Int, x = (2, -1) := ⟨_, rfl⟩; rw [<- hx0] at HO; replace HR : Hid (parseF l = (zeroF, x.1, x.2)) := by rw [hx0]; exact HR
   clear ho hx0; obtain ⟨hf, yp, mp, hv, hp⟩ := HO.out.par; have hx : ¬ (x).1 = 0 := hf; obtain ⟨c, hc⟩ : ∃ c, c = (x).1 := ⟨_, rfl⟩; obtain ⟨ax, hax⟩ : ∃ ax, ax = (x).2 := ⟨_, rfl⟩; simp only [pobj, code, pos, toks, List.length_nil] at hp; replace HR : Hid (parseF l = (zeroF, c, ax)) := by rw [hc, hax]; exact HR
   rw [<- hc, <- hax] at hp; have hx1 : ((c : Int) == 0) = false := by simp; omega
   have hx2 : ((c : Int) != 0) = true := by simp; omega
   focus
    obtain ⟨hbp, -, cp0, cp1, cp2, cp3⟩ := bx4 hp.blk; clear hf hv hx hc hax; go_wp2_with fail
    clear hbp cp0 cp1 cp2 cp3
   clear hx1 hx2; refine wp_region_walk [] 12 rfl (by decide +kernel) ?_; have ho1 := hp.drew; have ho2 := (HO0.out.below HO.out.base).drew; generalize hWd : World.drew _ = Wd at ho1 ho2 ⊢; clear hWd hp HO; have nb : b2 ≠ bp := by
    have := ho1.blk.2; have := HW2.out.2; omega
   have nb' := nb.symm; have h2 := set5_owns ho2 (.int .i64 0) (.string ⟨#[]⟩) (.int .i64 0) (.int .i64 0) (.slice none 0 0); have HOe := ho2; simp only [fobj0] at HOe; obtain ⟨hbp, -, cp0, cp1, cp2, cp3⟩ := bx4 ho1.blk; obtain ⟨hbe, ⟨fe0, fe1, fe2, fe3, fe4⟩, ce0, ce1, ce2, ce3, ce4⟩ := bx5 HOe.blk; have H2 := Lib.hid h2; clear ho1 ho2 HOe h2 HO0; refine cw_stepA 0 ?_; (refine cw_doA rfl rfl rfl (fun _ _ => ?_); go_wp2_with fail); refine cw_stepA 1 ?_; (refine cw_doA rfl rfl rfl (fun _ _ => ?_); go_wp2_with fail); refine cw_stepA 2 ?_; (refine cw_doA rfl rfl rfl (fun _ _ => ?_); go_wp2_with fail); refine cw_stepA 3 ?_; (refine cw_doA rfl rfl rfl (fun _ _ => ?_); go_wp2_with fail); refine cw_stepA 5 ?_; (refine cw_doA rfl rfl rfl (fun _ _ => ?_); go_wp2_with fail); refine cw_stepA 6 ?_; (refine cw_doA rfl rfl rfl (fun _ _ => ?_); go_wp2_with fail); refine cw_stepA 7 ?_; (refine cw_doA rfl rfl rfl (fun _ _ => ?_); go_wp2_with fail); repeat' (first | (refine cw_stepA 4 ?_; (refine cw_doA rfl rfl rfl (fun _ _ => ?_); go_wp2_with fail)) | (refine cw_stepA 8 ?_; (refine cw_doA rfl rfl rfl (fun _ _ => ?_); go_wp2_with fail)) | (refine cw_stepA 9 ?_; (refine cw_doA rfl rfl rfl (fun _ _ => ?_); go_wp2_with fail)) | (refine cw_stepA 10 ?_; (refine cw_doA rfl rfl rfl (fun _ _ => ?_); go_wp2_with fail)) | (refine cw_stepA 11 ?_; (refine cw_doA rfl rfl rfl (fun _ _ => ?_); go_wp2_with fail)) | (refine cw_three 4 8 9 (by decide +kernel) ?_ ?_ ?_ <;> (refine cw_doA rfl rfl rfl (fun _ _ => ?_); go_wp2_with fail)) | (refine cw_two 4 8 (by decide +kernel) ?_ ?_ <;> (refine cw_doA rfl rfl rfl (fun _ _ => ?_); go_wp2_with fail)) | (refine cw_two 4 9 (by decide +kernel) ?_ ?_ <;> (refine cw_doA rfl rfl rfl (fun _ _ => ?_); go_wp2_with fail)) | (refine cw_two 8 9 (by decide +kernel) ?_ ?_ <;> (refine cw_doA rfl rfl rfl (fun _ _ => ?_); go_wp2_with fail)) | (refine cw_two 8 10 (by decide +kernel) ?_ ?_ <;> (refine cw_doA rfl rfl rfl (fun _ _ => ?_); go_wp2_with fail)) | (refine cw_two 4 10 (by decide +kernel) ?_ ?_ <;> (refine cw_doA rfl rfl rfl (fun _ _ => ?_); go_wp2_with fail)) | (refine cw_nil (by decide +kernel) ?_; repeat (first | go_values | go_skip | go_guarded | go_step | go_upon)))
   all_goals exact bodyPost_ret (parse_res rfl H2.out.blk.1) (by rfl) ⟨.slice none 0 0, by rw [HR.out]; rfl, by rw [HR.out]; exact .leaf _ _ _ _ _ _, H2.out.base⟩
 ·have HR : Hid (parseF l = (zeroF, 5, (t.pos : Int))) := HE.out; obtain ⟨N3, hN3⟩ : ∃ N3, N3 = (toks (.ok (t :: r))).length := ⟨_, rfl⟩; have hN30 : 0 < N3 := by rw [hN3]; simp [toks]
  obtain ⟨hf, yp, mp, hv, hp⟩ := HO.out.par; rw [<- hN3] at hv hp; obtain ⟨g, off, rfl, hNm, hg, c0, c1, c2, c3⟩ := hv.get (j := 0) HO.out.base rfl; simp only [pobj, code, pos] at hp; simp only [Nat.zero_mul, Nat.add_zero] at c0 c1 c2 c3
  focus
   obtain ⟨hbp, -, cp0, cp1, cp2, cp3⟩ := bx4 hp.blk; clear hf hv hp hN3; go_wp2_with fail
   clear hbp cp0 cp1 cp2 cp3 c0 c1 c2 c3 hg hNm hN30
  go_at_call 106
  refine (fail_c (w0 := W2) (bp := bp) (fin := (l.length : Int)) [blk W4.heap.size (fobj f (.slice y2 N2 m2)), fmP f (.slice y2 N2 m2)] (.ok (t :: r)) 5 t.pos (by omega) (by omega) _ HO.out).mono ?_; clear HO; rintro e W7 ⟨rfl, ho⟩; have HO : Hid (Owns W2 W7 [parP W2 bp (l.length : Int) (.error (5, (t.pos : Int))), blk W4.heap.size (fobj f (.slice y2 N2 m2)), fmP f (.slice y2 N2 m2)]) := Lib.hid ho; obtain ⟨x, hx0⟩ : ∃ x : Nat × Int, x = (5, (t.pos : Int)) := ⟨_, rfl⟩; rw [<- hx0] at HO; replace HR : Hid (parseF l = (zeroF, x.1, x.2)) := by rw [hx0]; exact HR
  clear ho hx0; obtain ⟨hf, yp, mp, hv, hp⟩ := HO.out.par; have hx : ¬ (x).1 = 0 := hf; obtain ⟨c, hc⟩ : ∃ c, c = (x).1 := ⟨_, rfl⟩; obtain ⟨ax, hax⟩ : ∃ ax, ax = (x).2 := ⟨_, rfl⟩; simp only [pobj, code, pos, toks, List.length_nil] at hp; replace HR : Hid (parseF l = (zeroF, c, ax)) := by rw [hc, hax]; exact HR
  rw [<- hc, <- hax] at hp; have hx1 : ((c : Int) == 0) = false := by simp; omega
  have hx2 : ((c : Int) != 0) = true := by simp; omega
  focus
   obtain ⟨hbp, -, cp0, cp1, cp2, cp3⟩ := bx4 hp.blk; clear hf hv hx hc hax; go_wp2_with fail
   clear hbp cp0 cp1 cp2 cp3
  clear hx1 hx2; refine wp_region_walk [] 12 rfl (by decide +kernel) ?_; have ho1 := hp.drew; have ho2 := (HO0.out.below HO.out.base).drew; generalize hWd : World.drew _ = Wd at ho1 ho2 ⊢; clear hWd hp HO; have nb : b2 ≠ bp := by
   have := ho1.blk.2; have := HW2.out.2; omega
  have nb' := nb.symm; have h2 := set5_owns ho2 (.int .i64 0) (.string ⟨#[]⟩) (.int .i64 0) (.int .i64 0) (.slice none 0 0); have HOe := ho2; simp only [fobj0] at HOe; obtain ⟨hbp, -, cp0, cp1, cp2, cp3⟩ := bx4 ho1.blk; obtain ⟨hbe, ⟨fe0, fe1, fe2, fe3, fe4⟩, ce0, ce1, ce2, ce3, ce4⟩ := bx5 HOe.blk; have H2 := Lib.hid h2; clear ho1 ho2 HOe h2 HO0; refine cw_stepA 0 ?_; (refine cw_doA rfl rfl rfl (fun _ _ => ?_); go_wp2_with fail); refine cw_stepA 1 ?_; (refine cw_doA rfl rfl rfl (fun _ _ => ?_); go_wp2_with fail); refine cw_stepA 2 ?_; (refine cw_doA rfl rfl rfl (fun _ _ => ?_); go_wp2_with fail); refine cw_stepA 3 ?_; (refine cw_doA rfl rfl rfl (fun _ _ => ?_); go_wp2_with fail); refine cw_stepA 5 ?_; (refine cw_doA rfl rfl rfl (fun _ _ => ?_); go_wp2_with fail); refine cw_stepA 6 ?_; (refine cw_doA rfl rfl rfl (fun _ _ => ?_); go_wp2_with fail); refine cw_stepA 7 ?_; (refine cw_doA rfl rfl rfl (fun _ _ => ?_); go_wp2_with fail); repeat' (first | (refine cw_stepA 4 ?_; (refine cw_doA rfl rfl rfl (fun _ _ => ?_); go_wp2_with fail)) | (refine cw_stepA 8 ?_; (refine cw_doA rfl rfl rfl (fun _ _ => ?_); go_wp2_with fail)) | (refine cw_stepA 9 ?_; (refine cw_doA rfl rfl rfl (fun _ _ => ?_); go_wp2_with fail)) | (refine cw_stepA 10 ?_; (refine cw_doA rfl rfl rfl (fun _ _ => ?_); go_wp2_with fail)) | (refine cw_stepA 11 ?_; (refine cw_doA rfl rfl rfl (fun _ _ => ?_); go_wp2_with fail)) | (refine cw_three 4 8 9 (by decide +kernel) ?_ ?_ ?_ <;> (refine cw_doA rfl rfl rfl (fun _ _ => ?_); go_wp2_with fail)) | (refine cw_two 4 8 (by decide +kernel) ?_ ?_ <;> (refine cw_doA rfl rfl rfl (fun _ _ => ?_); go_wp2_with fail)) | (refine cw_two 4 9 (by decide +kernel) ?_ ?_ <;> (refine cw_doA rfl rfl rfl (fun _ _ => ?_); go_wp2_with fail)) | (refine cw_two 8 9 (by decide +kernel) ?_ ?_ <;> (refine cw_doA rfl rfl rfl (fun _ _ => ?_); go_wp2_with fail)) | (refine cw_two 8 10 (by decide +kernel) ?_ ?_ <;> (refine cw_doA rfl rfl rfl (fun _ _ => ?_); go_wp2_with fail)) | (refine cw_two 4 10 (by decide +kernel) ?_ ?_ <;> (refine cw_doA rfl rfl rfl (fun _ _ => ?_); go_wp2_with fail)) | (refine cw_nil (by decide +kernel) ?_; repeat (first | go_values | go_skip | go_guarded | go_step | go_upon)))
  all_goals exact bodyPost_ret (parse_res rfl H2.out.blk.1) (by rfl) ⟨.slice none 0 0, by rw [HR.out]; rfl, by rw [HR.out]; exact .leaf _ _ _ _ _ _, H2.out.base⟩
end Go.Proofs.YtoeknmkephnekaaGreatDoor

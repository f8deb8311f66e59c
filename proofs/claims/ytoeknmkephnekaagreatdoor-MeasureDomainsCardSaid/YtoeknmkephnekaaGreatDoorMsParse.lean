/-
  'Parse' of measures.
-/
import Derived.Test.YtoeknmkephnekaaGreatDoorMsK
import Derived.Deep.DeepCutAuto
import Derived.Test.YtoeknmkephnekaaGreatDoorAnyPan
namespace Go.Proofs.YtoeknmkephnekaaGreatDoor
open Go.RowKit Go.Cz Go.Cz.Lx Go.Cz.Fo Go.Cz.Vd
set_option linter.unusedSimpArgs false
set_option linter.unusedVariables false
attribute [local go_sem] bs_size bs_extract bs_append bs_toList
attribute [local irreducible] cList cPlan cWalk pAny pOp
/-- What 'Parse' leaves. -/
def MParsePost (w : World) (l : Bytes) (e : Ending) (w' : World) : Prop := ∃ kv, e = .returned (.tuple #[mval (parseM l).1 kv, .int .i64 ((parseM l).2.1 : Nat), .int .i64 (parseM l).2.2]) ∧ IsFm (fun g => w.heap.size ≤ g) w' (parseM l).1.cond kv ∧ Below w.heap.size w w'
theorem map_putW {t k e : TypeId} {W : World} {r : Nat} {es : Array MapEntry} {c : Nat} (ht : Tryz.prog.underlying t = some (.map k e)) (hk : Tryz.prog.underlying k = some .string) (hb : W.heap[r]? = some (.map es c)) (s : ByteArray) (v : Value) (hf : Instr.findNow .string (.string s) es.toList 0 = some none) :
    (Instr.mapUpdate t (.map (some r)) (.string s) v).run Tryz.prog W = .ok () { W with heap := W.heap.setIfInBounds r (.map (es.push { key := .string s, val := v, born := c }) (c + 1)) } := by
  have hc : (Instr.checkKey false 10000 k (.string s)).run Tryz.prog W = .ok () W := MapKept.run_checkKey (k := .string s) hk (by simp [MapKept.IsKey]) false 9999
  simp [Instr.mapUpdate, run_underlying ht, MapKept.run_getObj_map hb, hc, MapKept.run_findKey hk hf, MapKept.run_setObj_map _ hb, Result.andThen]
theorem set_last (W : World) (o o' : Obj) : ({ W.alloc o with heap := (W.alloc o).heap.setIfInBounds W.heap.size o' } : World) = W.alloc o' := by
  have e : (W.alloc o).heap.setIfInBounds W.heap.size o' = (W.alloc o').heap := by
    show (W.heap.push o).setIfInBounds W.heap.size o' = W.heap.push o'
    apply Array.toList_inj.1
    simp [List.set_append]
  rw [e]
  rfl
/-- A map of texts gets one entry more. -/
theorem map_put {t k e : TypeId} (ht : Tryz.prog.underlying t = some (.map k e)) (hk : Tryz.prog.underlying k = some .string) (W : World) (es : Array MapEntry) (c : Nat) (s : ByteArray) (v : Value) (hf : Instr.findNow .string (.string s) es.toList 0 = some none) :
    (Instr.mapUpdate t (.map (some W.heap.size)) (.string s) v).run Tryz.prog (W.alloc (.map es c)) = .ok () (W.alloc (.map (es.push { key := .string s, val := v, born := c }) (c + 1))) := by
  rw [map_putW ht hk (MapKept.heap_alloc W _).1 s v hf, set_last]
theorem Owns.tokPush {w0 W1 W2 : World} {ps : List Piece} {v : Value} {ts : List Tok} (h : Owns w0 W1 ps) (hb : Below W1.heap.size W1 W2) (ht : IsToks W2 v ts) (hn : ∀ k, v.ownBlock = some k → W1.heap.size ≤ k) : Owns w0 W2 (tokP ⟨v, ts⟩ :: ps) :=
  h.push (Q := tokP ⟨v, ts⟩) (S := v.ownBlock.toList) ⟨ht, rfl⟩ hb fun k hk => hn k (by simpa [Option.mem_toList] using hk)
abbrev zobjM : Obj := .cells #[.string ⟨#[]⟩, .string ⟨#[]⟩, .int .i64 0, .string ⟨#[]⟩, .int .i64 0, .string ⟨#[]⟩, .int .i64 0, .int .i64 0, .slice none 0 0, .int .i64 0, .int .i64 0, .int .i64 0] 26 (0, 0)
abbrev kF1 (bm bH : Nat) : Value := .func (.func 35) #[] #[.pointer (some ⟨bm, 0, none⟩), .pointer (some ⟨bH, 0, none⟩)]
abbrev kF2 (bR bm bH : Nat) : Value := .func (.func 36) #[] #[.pointer (some ⟨bR, 0, none⟩), .pointer (some ⟨bm, 0, none⟩), .pointer (some ⟨bH, 0, none⟩)]
abbrev kF3 (bR bm bH : Nat) : Value := .func (.func 37) #[] #[.pointer (some ⟨bR, 0, none⟩), .pointer (some ⟨bm, 0, none⟩), .pointer (some ⟨bH, 0, none⟩)]
abbrev kE1 (bm bH : Nat) : MapEntry := { key := .string ⟨#[102, 111, 114, 98, 105, 100]⟩, val := kF1 bm bH, born := 0 }
abbrev kE2 (bR bm bH : Nat) : MapEntry := { key := .string ⟨#[101, 120, 101, 109, 112, 116]⟩, val := kF2 bR bm bH, born := 1 }
abbrev kE3 (bR bm bH : Nat) : MapEntry := { key := .string ⟨#[98, 108, 111, 99, 107]⟩, val := kF3 bR bm bH, born := 2 }
def kindEs (bR bm bH : Nat) : Array MapEntry := #[kE1 bm bH, kE2 bR bm bH, kE3 bR bm bH]
theorem mapU : Tryz.prog.underlying 72 = some (.map 9 1) := by kernel_rfl
theorem mapS : Tryz.prog.underlying 9 = some .string := by kernel_rfl
theorem mapP0 (W : World) : (Instr.makeMap 72 none).run Tryz.prog W = .ok (.map (some W.heap.size)) (W.alloc (.map #[] 0)) := rfl
theorem mapP1 (W : World) (bR bm bH : Nat) : (Instr.mapUpdate 72 (.map (some W.heap.size)) (.string ⟨#[102, 111, 114, 98, 105, 100]⟩) (kF1 bm bH)).run Tryz.prog (W.alloc (.map #[] 0)) = .ok () (W.alloc (.map #[kE1 bm bH] 1)) :=
  map_put mapU mapS W #[] 0 _ _ rfl
theorem mapP2 (W : World) (bR bm bH : Nat) : (Instr.mapUpdate 72 (.map (some W.heap.size)) (.string ⟨#[101, 120, 101, 109, 112, 116]⟩) (kF2 bR bm bH)).run Tryz.prog (W.alloc (.map #[kE1 bm bH] 1)) = .ok () (W.alloc (.map #[kE1 bm bH, kE2 bR bm bH] 2)) :=
  map_put mapU mapS W #[kE1 bm bH] 1 _ _ rfl
theorem mapP3 (W : World) (bR bm bH : Nat) : (Instr.mapUpdate 72 (.map (some W.heap.size)) (.string ⟨#[98, 108, 111, 99, 107]⟩) (kF3 bR bm bH)).run Tryz.prog (W.alloc (.map #[kE1 bm bH, kE2 bR bm bH] 2)) = .ok () (W.alloc (.map (kindEs bR bm bH) 3)) :=
  map_put mapU mapS W #[kE1 bm bH, kE2 bR bm bH] 2 _ _ rfl
def kFn (bR bm bH : Nat) (s : Bytes) : Value := if s = wForbid then kF1 bm bH else if s = wExempt then kF2 bR bm bH else if s = wBlock then kF3 bR bm bH else .nilFunc
theorem mapFind (bR bm bH : Nat) (s : Bytes) : Instr.findNow .string (.string (bs s)) (kindEs bR bm bH).toList 0 = some (if s = wForbid then some (0, kF1 bm bH) else if s = wExempt then some (1, kF2 bR bm bH) else if s = wBlock then some (2, kF3 bR bm bH) else none) := by
  have e1 : (⟨#[102, 111, 114, 98, 105, 100]⟩ : ByteArray) = bs wForbid := rfl
  have e2 : (⟨#[101, 120, 101, 109, 112, 116]⟩ : ByteArray) = bs wExempt := rfl
  have e3 : (⟨#[98, 108, 111, 99, 107]⟩ : ByteArray) = bs wBlock := rfl
  have hi : ∀ a b : Bytes, (bs a == bs b) = decide (a = b) := fun a b => by
    have h : (bs a == bs b) = (a.toArray == b.toArray) := rfl
    rw [h]
    by_cases h : a = b <;> simp [h]
  simp only [kindEs, kE1, kE2, kE3, Instr.findNow, Instr.sameNow, e1, e2, e3, hi]
  by_cases h1 : s = wForbid
  · simp [h1]
  by_cases h2 : s = wExempt
  · simp [h2, show ¬ wExempt = wForbid by decide]
  by_cases h3 : s = wBlock
  · simp [h3, show ¬ wBlock = wForbid by decide, show ¬ wBlock = wExempt by decide]
  simp [h1, h2, h3]
theorem mapGet {W : World} {g bR bm bH c : Nat} (hb : W.heap[g]? = some (.map (kindEs bR bm bH) c)) (s : Bytes) : (Instr.lookup 72 (.map (some g)) (.string (bs s)) true).run Tryz.prog W = .ok (.tuple #[kFn bR bm bH s, .bool (decide (kindM s ≠ 0))]) W := by
  have hc : (Instr.checkKey false 10000 9 (.string (bs s))).run Tryz.prog W = .ok () W := MapKept.run_checkKey (d := .string) mapS (by simp [MapKept.IsKey]) false 9999
  have hf := MapKept.run_findKey (w := W) mapS (mapFind bR bm bH s)
  have hem : (kindEs bR bm bH).isEmpty = false := rfl
  have hz : ∀ w : World, (zeroValue 1).run Tryz.prog w = .ok (.nilFunc) w := fun w => by kernel_rfl
  simp [Instr.lookup, run_underlying mapU, MapKept.run_getObj_map hb, hc, hf, hem, Result.andThen]
  by_cases h1 : s = wForbid
  · simp [h1, kFn, kindM]
  by_cases h2 : s = wExempt
  · simp [h2, kFn, kindM, show ¬ wExempt = wForbid by decide]
  by_cases h3 : s = wBlock
  · simp [h3, kFn, kindM, show ¬ wBlock = wForbid by decide, show ¬ wBlock = wExempt by decide]
  simp [h1, h2, h3, kFn, kindM, hz, Result.andThen]
theorem target_num {fin k : Int} {m : Me} {ts r : List Tok} (hn : NameOk ts) (h : targetM fin k ts = .ok (m, r)) : m.un = -1 ∧ m.wi = 0 := by
  unfold targetM at h
  split at h
  · obtain ⟨x, y, rfl, -⟩ := ids_inv hn h
    exact ⟨rfl, rfl⟩
  · split at h
    · cases h
    rename_i t q h0
    obtain ⟨u, rfl, g1, g2, g3⟩ := name_inv h0
    have hq : NameOk q := fun v hv => hn v (by simp [hv])
    obtain ⟨x, y, rfl, -⟩ := ids_inv hq h
    exact ⟨rfl, rfl⟩
theorem if_bounds {l : Bytes} {ts A B : List Tok} {t : Tok} (hP : LexP l 0 ts) (he : ts = A ++ t :: B) (hk : t.kind = 1) (hl : t.text.length = 2) (n : Nat) : t.pos + 2 ≤ endM l (B.drop n) ∧ endM l (B.drop n) ≤ l.length := by
  subst he
  have h1 := LexP.after hk hP
  have h2 := LexP.word_end hk hP (by simp)
  rw [hl] at h1 h2
  rcases hd : B.drop n with _ | ⟨u, C⟩
  · exact ⟨h2, Nat.le_refl _⟩
  · have h3 : B = B.take n ++ u :: C := by rw [← hd, List.take_append_drop]
    rw [h3] at h1
    have h4 := LexP.ge h1
    exact ⟨h4.1, by simp only [endM]; omega⟩
theorem cellsF {a0 a1 a2 a3 a4 a5 a6 a7 a8 a9 a10 a11 : Value} (f : Fm) (kv : Value) (cs : Array Value) (hc : cs = #[a0, a1, a2, a3, a4, a5, a6, a7, a8, a9, a10, a11]) : (((((cs.setIfInBounds 4 (.int .i64 f.op)).setIfInBounds 5 (.string (bs f.name))).setIfInBounds 6 (.int .i64 f.cmp)).setIfInBounds 7 (.int .i64 f.num)).setIfInBounds 8 kv) = #[a0, a1, a2, a3, .int .i64 f.op, .string (bs f.name), .int .i64 f.cmp, .int .i64 f.num, kv, a9, a10, a11] := by
  subst hc
  simp
abbrev setF (W : World) (b : Nat) (f : Fm) (kv : Value) : World := ((((W.setCell ⟨b, 4, none⟩ (.int .i64 f.op)).setCell ⟨b, 5, none⟩ (.string (bs f.name))).setCell ⟨b, 6, none⟩ (.int .i64 f.cmp)).setCell ⟨b, 7, none⟩ (.int .i64 f.num)).setCell ⟨b, 8, none⟩ kv
theorem setF_owns {w W : World} {ps : List Piece} {b : Nat} {m : Me} {kv' : Value} (h0 : Owns w W (blk b (mobj m kv') :: ps)) (f : Fm) (kv : Value) : Owns w (setF W b f kv) (blk b (mobj { m with cond := f } kv) :: ps) := by
  obtain ⟨cs, hcs⟩ : ∃ cs : Array Value, cs = #[.string (bs m.id), .string (bs m.auth), .int .i64 m.kind, .string (bs m.target), .int .i64 m.cond.op, .string (bs m.cond.name), .int .i64 m.cond.cmp, .int .i64 m.cond.num, kv', .int .i64 m.fr, .int .i64 m.un, .int .i64 m.wi] := ⟨_, rfl⟩
  have h : Owns w W (blk b (.cells cs 26 (0, 0)) :: ps) := by rw [hcs]; exact h0
  have h2 := ((((h.store (i := 4) (.int .i64 f.op)).store (i := 5) (.string (bs f.name))).store (i := 6) (.int .i64 f.cmp)).store (i := 7) (.int .i64 f.num)).store (i := 8) kv
  rw [cellsF f kv cs hcs] at h2
  exact h2
abbrev pcap (bm be ba : Nat) : Array Value := #[.pointer (some ⟨bm, 0, none⟩), .pointer (some ⟨be, 0, none⟩), .pointer (some ⟨ba, 0, none⟩)]
abbrev pdefs (bm be ba : Nat) : List Deferred := [{ target := .fn (.func 31) (pcap bm be ba), args := #[] }]
theorem mparse_res {w W : World} {tmps : Array Value} {bm be ba : Nat} {m : Me} {kv : Value} {e p : Int} {ps : List Piece} (h2 : tmps.getD 2 undef = .pointer (some ⟨bm, 0, none⟩)) (h3 : tmps.getD 3 undef = .pointer (some ⟨be, 0, none⟩)) (h4 : tmps.getD 4 undef = .pointer (some ⟨ba, 0, none⟩)) (h : Owns w W (blk bm (mobj m kv) :: one be 29 (.int .i64 e) :: one ba 3 (.int .i64 p) :: ps)) :
    (results Tryz.f12 tmps).run Tryz.prog W = .ok (.tuple #[mval m kv, .int .i64 e, .int .i64 p]) W := by
  obtain ⟨bk, -⟩ := Owns.blk h
  have cm0 := cell_of_heap bk (i := 0)
  have cm1 := cell_of_heap bk (i := 1)
  have cm2 := cell_of_heap bk (i := 2)
  have cm3 := cell_of_heap bk (i := 3)
  have cm4 := cell_of_heap bk (i := 4)
  have cm5 := cell_of_heap bk (i := 5)
  have cm6 := cell_of_heap bk (i := 6)
  have cm7 := cell_of_heap bk (i := 7)
  have cm8 := cell_of_heap bk (i := 8)
  have cm9 := cell_of_heap bk (i := 9)
  have cm10 := cell_of_heap bk (i := 10)
  have cm11 := cell_of_heap bk (i := 11)
  simp only [List.getElem?_toArray, List.getElem?_cons_succ, List.getElem?_cons_zero] at cm0 cm1 cm2 cm3 cm4 cm5 cm6 cm7 cm8 cm9 cm10 cm11
  obtain ⟨-, k1, -⟩ := Owns.one h.pop
  obtain ⟨-, k2, -⟩ := Owns.one h.pop.pop
  have h2' : tmps[2]?.getD undef = .pointer (some ⟨bm, 0, none⟩) := by simpa using h2
  have h3' : tmps[3]?.getD undef = .pointer (some ⟨be, 0, none⟩) := by simpa using h3
  have h4' : tmps[4]?.getD undef = .pointer (some ⟨ba, 0, none⟩) := by simpa using h4
  simp [results, Tryz.results12, go_sem, h2', h3', h4', k1, k2, cm0, cm1, cm2, cm3, cm4, cm5, cm6, cm7, cm8, cm9, cm10, cm11]
theorem mbad {l : Bytes} {w W : World} {tmps : Array Value} {bm be ba : Nat} {m : Me} {kv v1 v2 : Value} {er : Er} {ps : List Piece} (h2 : tmps.getD 2 undef = .pointer (some ⟨bm, 0, none⟩)) (h3 : tmps.getD 3 undef = .pointer (some ⟨be, 0, none⟩)) (h4 : tmps.getD 4 undef = .pointer (some ⟨ba, 0, none⟩)) (h : Owns w W (blk bm (mobj m kv) :: one be 29 v1 :: one ba 3 v2 :: ps)) (hp : parseM l = (zeroM, er.1, er.2)) :
    bodyPostD Tryz.prog Tryz.f12 (MParsePost w l) (Exit.panic [{ v := .iface 64 (.agg #[.int .i64 (er.1 : Nat), .int .i64 er.2]), recovered := false }]) { tmps := tmps, defers := pdefs bm be ba } W := by
  refine leaves_cons (f := 31) (args := pcap bm be ba) (by simp) (by simp [go_sem]) ?_
  refine (mcatch_c ps m kv v1 v2 er [] W h).mono ?_
  rintro e u' w'' ⟨rfl, rfl, ho⟩
  show Leaves _ _ _ _ [] .returning _
  refine ⟨_, mparse_res h2 h3 h4 ho, ?_⟩
  refine ⟨.slice none 0 0, by rw [hp], ?_, ho.1⟩
  rw [hp]
  exact .leaf 0 [] 0 0 none 0
theorem mgood {l : Bytes} {w W : World} {tmps : Array Value} {bm be ba : Nat} {m : Me} {kv : Value} {ps : List Piece} (h2 : tmps.getD 2 undef = .pointer (some ⟨bm, 0, none⟩)) (h3 : tmps.getD 3 undef = .pointer (some ⟨be, 0, none⟩)) (h4 : tmps.getD 4 undef = .pointer (some ⟨ba, 0, none⟩)) (h : Owns w W (blk bm (mobj m kv) :: one be 29 (.int .i64 0) :: one ba 3 (.int .i64 0) :: fmP m.cond kv :: ps)) (hp : parseM l = (m, 0, 0)) :
    bodyPostD Tryz.prog Tryz.f12 (MParsePost w l) Exit.ret { tmps := tmps, defers := pdefs bm be ba } W := by
  refine leaves_cons (f := 31) (args := pcap bm be ba) (by simp) (by simp [go_sem]) ?_
  refine (midle_c W).mono ?_
  rintro e u' w'' ⟨rfl, rfl, hb⟩
  have ho := h.below hb
  show Leaves _ _ _ _ [] .returning _
  refine ⟨_, mparse_res h2 h3 h4 ho, ?_⟩
  refine ⟨kv, by rw [hp]; rfl, ?_, ho.1⟩
  rw [hp]
  exact ho.pop.pop.pop.fm
theorem parse_bad {l : Bytes} {ts : List Tok} {er : Er} (h1 : ts = (lexAll l).1) (h2 : (lexAll l).2.1 = 0) (h : measureM l ts = .error er) : parseM l = (zeroM, er.1, er.2) := by
  unfold parseM
  rw [if_neg (by simp [h2]), ← h1, h]
theorem parse_ok {l : Bytes} {ts : List Tok} {m : Me} (h1 : ts = (lexAll l).1) (h2 : (lexAll l).2.1 = 0) (h : measureM l ts = .ok m) : parseM l = (m, 0, 0) := by
  unfold parseM
  rw [if_neg (by simp [h2]), ← h1, h]
set_option maxRecDepth 100000 in
set_option maxHeartbeats 40000000 in
theorem mParse_c (l : Bytes) (w : World) (hl : l.length ≤ 20000) : Calls Tryz.prog 12 #[.string (bs l)] w (MParsePost w l) := by
  obtain ⟨bm, hbm⟩ : ∃ b, b = w.heap.size := ⟨_, rfl⟩
  obtain ⟨be, hbe⟩ : ∃ b, b = bm + 1 := ⟨_, rfl⟩
  obtain ⟨ba, hba⟩ : ∃ b, b = be + 1 := ⟨_, rfl⟩
  obtain ⟨W1, hW1⟩ : ∃ W, W = ((w.alloc zobjM).alloc (.cells #[.int .i64 0] 29)).alloc (.cells #[.int .i64 0] 3) := ⟨_, rfl⟩
  have HO : Hid (Owns w W1 (one ba 3 (.int .i64 0) :: one be 29 (.int .i64 0) :: blk bm (mobj zeroM (.slice none 0 0)) :: [])) := by
    rw [hW1, hba, hbe, hbm]
    have := (((Owns.start w).box zobjM).box (.cells #[.int .i64 0] 29 (0, 0))).box (.cells #[.int .i64 0] 3 (0, 0))
    simp only [World.size_alloc] at this
    exact Lib.hid this
  go_enter_defers Tryz.func12, Tryz.ntmps12
  go_wp2_with fail
  rw [← hW1, ← hbm, ← hbe, ← hba]
  clear hW1 hba hbe hbm
  go_at_call 14
  refine (LexN_c l (fun _ => idxAny) W1 (by omega)).mono ?_
  rintro e W2 ⟨v, rfl, htk, hb⟩
  obtain ⟨ts, hts⟩ : ∃ ts, ts = (lexAll l).1 := ⟨_, rfl⟩
  obtain ⟨ec, hec⟩ : ∃ ec, ec = (lexAll l).2.1 := ⟨_, rfl⟩
  obtain ⟨pc, hpc⟩ : ∃ pc, pc = (lexAll l).2.2 := ⟨_, rfl⟩
  rw [← hts] at htk
  rw [← hec, ← hpc]
  have HTs := Lib.hid hts
  have HEc := Lib.hid hec
  have HPc := Lib.hid hpc
  clear hts hec hpc
  obtain ⟨V, hV⟩ : ∃ V : TV, V = ⟨v, ts⟩ := ⟨_, rfl⟩
  have HSuf : Hid (Suf V v ts) := by rw [hV]; exact Lib.hid (Suf.all htk.1)
  replace HO : Hid (Owns w W2 (tokP V :: one ba 3 (.int .i64 0) :: one be 29 (.int .i64 0) :: blk bm (mobj zeroM (.slice none 0 0)) :: [])) := by rw [hV]; exact Lib.hid (Owns.tokPush HO.out hb htk.1 htk.2)
  obtain ⟨yv, cv, rfl⟩ := (TokL.of htk.1).form
  obtain ⟨N, hN⟩ : ∃ N, N = ts.length := ⟨_, rfl⟩
  rw [← hN] at HSuf ⊢
  have HN := Lib.hid hN
  clear htk hb hV hN
  obtain ⟨g1, k1, q1⟩ := Owns.one HO.out.pop
  obtain ⟨g2, k2, q2⟩ := Owns.one HO.out.pop.pop
  have n1 := Owns.ne HO.out.pop
  have n1' := n1.symm
  go_upto_region 2 with fail
  have h1 := (HO.out.re [2, 0, 1]).store (i := 0) (.int .i64 (ec : Int))
  have h2 : Owns w (W2.setCell ⟨be, 0, none⟩ (.int .i64 (ec : Int))) (one ba 3 (.int .i64 0) :: one be 29 (.int .i64 (ec : Int)) :: tokP V :: blk bm (mobj zeroM (.slice none 0 0)) :: []) := h1.re [2, 0, 1]
  have h3 := h2.store (i := 0) (.int .i64 pc)
  obtain ⟨W3, hW3⟩ : ∃ W, W = (W2.setCell ⟨be, 0, none⟩ (.int .i64 (ec : Int))).setCell ⟨ba, 0, none⟩ (.int .i64 pc) := ⟨_, rfl⟩
  rw [← hW3] at h3 ⊢
  replace HO : Hid (Owns w W3 (tokP V :: one ba 3 (.int .i64 pc) :: one be 29 (.int .i64 (ec : Int)) :: blk bm (mobj zeroM (.slice none 0 0)) :: [])) := Lib.hid (h3.re [2, 0, 1])
  clear h1 h2 h3 hW3 g1 k1 q1 g2 k2 q2 n1 n1'
  obtain ⟨g2, k2, q2⟩ := Owns.one HO.out.pop.pop
  by_cases h0 : ec = 0
  rotate_left
  · have h0' : ((ec : Int) != 0) = true := by simp; omega
    clear h0
    go_wp2_with fail
    refine wp_region_walk [] 6 rfl (by decide +kernel) ?_
    have ho1 := (HO.out.re [3, 2, 1, 0]).drew
    generalize hWd : World.drew _ = Wd at ho1 ⊢
    clear hWd HO g2 k2 q2
    obtain ⟨g1, k1, q1⟩ := Owns.one ho1.pop
    obtain ⟨g2, k2, q2⟩ := Owns.one ho1.pop.pop
    obtain ⟨bk, -⟩ := Owns.blk ho1
    have hbm := lt_of_block bk
    have fm0 := free_of_heap bk (i := 0)
    have cm0 := cell_of_heap bk (i := 0)
    have fm1 := free_of_heap bk (i := 1)
    have cm1 := cell_of_heap bk (i := 1)
    have fm2 := free_of_heap bk (i := 2)
    have cm2 := cell_of_heap bk (i := 2)
    have fm3 := free_of_heap bk (i := 3)
    have cm3 := cell_of_heap bk (i := 3)
    have fm4 := free_of_heap bk (i := 4)
    have cm4 := cell_of_heap bk (i := 4)
    have fm5 := free_of_heap bk (i := 5)
    have cm5 := cell_of_heap bk (i := 5)
    have fm6 := free_of_heap bk (i := 6)
    have cm6 := cell_of_heap bk (i := 6)
    have fm7 := free_of_heap bk (i := 7)
    have cm7 := cell_of_heap bk (i := 7)
    have fm8 := free_of_heap bk (i := 8)
    have cm8 := cell_of_heap bk (i := 8)
    have fm9 := free_of_heap bk (i := 9)
    have cm9 := cell_of_heap bk (i := 9)
    have fm10 := free_of_heap bk (i := 10)
    have cm10 := cell_of_heap bk (i := 10)
    have fm11 := free_of_heap bk (i := 11)
    have cm11 := cell_of_heap bk (i := 11)
    simp only [List.getElem?_toArray, List.getElem?_cons_succ, List.getElem?_cons_zero] at cm0 cm1 cm2 cm3 cm4 cm5 cm6 cm7 cm8 cm9 cm10 cm11
    clear bk
    have n1 := Owns.ne ho1
    have n1' := n1.symm
    have n2 := Owns.ne (ho1.re [0, 2, 1])
    have n2' := n2.symm
    have n3 := Owns.ne ho1.pop
    have n3' := n3.symm
    have h3 := set12_owns ho1 zeroM (.slice none 0 0)
    have h4 := h3.swap.store (i := 0) (.int .i64 (ec : Int))
    have h5 : Owns w ((set12 Wd bm zeroM (.slice none 0 0)).setCell ⟨be, 0, none⟩ (.int .i64 (ec : Int))) (one ba 3 (.int .i64 pc) :: blk bm (mobj zeroM (.slice none 0 0)) :: one be 29 (.int .i64 (ec : Int)) :: tokP V :: []) := h4.re [2, 1, 0, 3]
    have h6 := h5.store (i := 0) (.int .i64 pc)
    have HF2 := Lib.hid (h6.re [1, 2, 0, 3])
    have HP : Hid (parseM l = (zeroM, ec, pc)) := by
      show _ = _
      unfold parseM
      rw [if_pos (by rw [← HEc.out]; intro h; simp [h] at h0'), ← HEc.out, ← HPc.out]
    clear ho1 h3 h4 h5 h6
    (refine cw_step 0 (by decide +kernel) (by decide +kernel) (by decide +kernel) ?_; (refine cw_do rfl rfl rfl (by first | rfl | simp [okB, lenV, plainV, Act.eval]) (fun _ _ => ?_); go_wp2_with fail))
    repeat' (first | (refine cw_step 1 (by decide +kernel) (by decide +kernel) (by decide +kernel) ?_; (refine cw_do rfl rfl rfl (by first | rfl | simp [okB, lenV, plainV, Act.eval]) (fun _ _ => ?_); go_wp2_with fail)) | (refine cw_step 2 (by decide +kernel) (by decide +kernel) (by decide +kernel) ?_; (refine cw_do rfl rfl rfl (by first | rfl | simp [okB, lenV, plainV, Act.eval]) (fun _ _ => ?_); go_wp2_with fail)) | (refine cw_step 3 (by decide +kernel) (by decide +kernel) (by decide +kernel) ?_; (refine cw_do rfl rfl rfl (by first | rfl | simp [okB, lenV, plainV, Act.eval]) (fun _ _ => ?_); go_wp2_with fail)) | (refine cw_step 4 (by decide +kernel) (by decide +kernel) (by decide +kernel) ?_; (refine cw_do rfl rfl rfl (by first | rfl | simp [okB, lenV, plainV, Act.eval]) (fun _ _ => ?_); go_wp2_with fail)) | (refine cw_step 5 (by decide +kernel) (by decide +kernel) (by decide +kernel) ?_; (refine cw_do rfl rfl rfl (by first | rfl | simp [okB, lenV, plainV, Act.eval]) (fun _ _ => ?_); go_wp2_with fail)) | (refine cw_three 1 2 3 (by decide +kernel) ?_ ?_ ?_ <;> (refine cw_do rfl rfl rfl (by first | rfl | simp [okB, lenV, plainV, Act.eval]) (fun _ _ => ?_); go_wp2_with fail)) | (refine cw_three 2 3 4 (by decide +kernel) ?_ ?_ ?_ <;> (refine cw_do rfl rfl rfl (by first | rfl | simp [okB, lenV, plainV, Act.eval]) (fun _ _ => ?_); go_wp2_with fail)) | (refine cw_three 1 2 4 (by decide +kernel) ?_ ?_ ?_ <;> (refine cw_do rfl rfl rfl (by first | rfl | simp [okB, lenV, plainV, Act.eval]) (fun _ _ => ?_); go_wp2_with fail)) | (refine cw_two 1 2 (by decide +kernel) ?_ ?_ <;> (refine cw_do rfl rfl rfl (by first | rfl | simp [okB, lenV, plainV, Act.eval]) (fun _ _ => ?_); go_wp2_with fail)) | (refine cw_two 1 3 (by decide +kernel) ?_ ?_ <;> (refine cw_do rfl rfl rfl (by first | rfl | simp [okB, lenV, plainV, Act.eval]) (fun _ _ => ?_); go_wp2_with fail)) | (refine cw_two 1 4 (by decide +kernel) ?_ ?_ <;> (refine cw_do rfl rfl rfl (by first | rfl | simp [okB, lenV, plainV, Act.eval]) (fun _ _ => ?_); go_wp2_with fail)) | (refine cw_two 1 5 (by decide +kernel) ?_ ?_ <;> (refine cw_do rfl rfl rfl (by first | rfl | simp [okB, lenV, plainV, Act.eval]) (fun _ _ => ?_); go_wp2_with fail)) | (refine cw_two 2 3 (by decide +kernel) ?_ ?_ <;> (refine cw_do rfl rfl rfl (by first | rfl | simp [okB, lenV, plainV, Act.eval]) (fun _ _ => ?_); go_wp2_with fail)) | (refine cw_two 2 4 (by decide +kernel) ?_ ?_ <;> (refine cw_do rfl rfl rfl (by first | rfl | simp [okB, lenV, plainV, Act.eval]) (fun _ _ => ?_); go_wp2_with fail)) | (refine cw_two 2 5 (by decide +kernel) ?_ ?_ <;> (refine cw_do rfl rfl rfl (by first | rfl | simp [okB, lenV, plainV, Act.eval]) (fun _ _ => ?_); go_wp2_with fail)) | (refine cw_two 3 4 (by decide +kernel) ?_ ?_ <;> (refine cw_do rfl rfl rfl (by first | rfl | simp [okB, lenV, plainV, Act.eval]) (fun _ _ => ?_); go_wp2_with fail)) | (refine cw_two 3 5 (by decide +kernel) ?_ ?_ <;> (refine cw_do rfl rfl rfl (by first | rfl | simp [okB, lenV, plainV, Act.eval]) (fun _ _ => ?_); go_wp2_with fail)) | (refine cw_two 4 5 (by decide +kernel) ?_ ?_ <;> (refine cw_do rfl rfl rfl (by first | rfl | simp [okB, lenV, plainV, Act.eval]) (fun _ _ => ?_); go_wp2_with fail)) | (refine cw_nil (by decide +kernel) ?_))
    all_goals go_wp2_with fail
    all_goals refine ⟨_, mparse_res rfl rfl rfl HF2.out, ?_⟩
    all_goals exact ⟨.slice none 0 0, by rw [HP.out], by rw [HP.out]; exact .leaf 0 [] 0 0 none 0, HF2.out.1⟩
  have h0' : ((ec : Int) != 0) = false := by simp; omega
  replace HEc : Hid ((lexAll l).2.1 = 0) := by rw [← HEc.out]; exact Lib.hid h0
  clear h0
  go_upto_region 6 with fail
  obtain ⟨b, hb⟩ : ∃ b, b = W3.heap.size := ⟨_, rfl⟩
  obtain ⟨bR, hbR⟩ : ∃ x, x = b + 1 := ⟨_, rfl⟩
  obtain ⟨W4, hW4⟩ : ∃ W, W = (W3.alloc (robj l (.slice yv N cv))).alloc (.cells #[.pointer (some ⟨b, 0, none⟩)] 66) := ⟨_, rfl⟩
  have h5 := (HO.out.box (robj l (.slice yv N cv))).box (.cells #[.pointer (some ⟨W3.heap.size, 0, none⟩)] 66 (0, 0))
  simp only [World.size_alloc] at h5
  rw [← hb] at h5 ⊢
  rw [← hbR] at h5 ⊢
  rw [← hW4] at h5 ⊢
  rw [HN.out] at HSuf h5
  have h6 : Owns w W4 (rdM V b l ts :: one ba 3 (.int .i64 pc) :: one be 29 (.int .i64 (ec : Int)) :: blk bm (mobj zeroM (.slice none 0 0)) :: one bR 66 (.pointer (some ⟨b, 0, none⟩)) :: []) := Owns.asRdm (h5.re [1, 2, 3, 4, 5, 0]) HSuf.out
  replace HO : Hid (Owns w W4 (blk bm (mobj zeroM (.slice none 0 0)) :: rdM V b l ts :: one bR 66 (.pointer (some ⟨b, 0, none⟩)) :: one be 29 (.int .i64 (ec : Int)) :: one ba 3 (.int .i64 pc) :: [])) := Lib.hid (h6.re [3, 0, 4, 2, 1])
  have HN9 : Hid (ts.length ≤ 1000000) := by
    rw [HTs.out]
    have := lexAll_len l
    exact Lib.hid (by omega)
  clear h5 h6 hW4 hbR hb HN HSuf g2 k2 q2 h0'
  obtain ⟨bk, -⟩ := Owns.blk HO.out
  have hbm := lt_of_block bk
  have fm0 := free_of_heap bk (i := 0)
  have fm1 := free_of_heap bk (i := 1)
  have fm2 := free_of_heap bk (i := 2)
  have fm3 := free_of_heap bk (i := 3)
  have fm4 := free_of_heap bk (i := 4)
  have fm5 := free_of_heap bk (i := 5)
  have fm6 := free_of_heap bk (i := 6)
  have fm7 := free_of_heap bk (i := 7)
  have fm8 := free_of_heap bk (i := 8)
  have fm9 := free_of_heap bk (i := 9)
  have fm10 := free_of_heap bk (i := 10)
  have fm11 := free_of_heap bk (i := 11)
  have cm0 := cell_of_heap bk (i := 0)
  have cm1 := cell_of_heap bk (i := 1)
  have cm2 := cell_of_heap bk (i := 2)
  have cm3 := cell_of_heap bk (i := 3)
  have cm4 := cell_of_heap bk (i := 4)
  have cm5 := cell_of_heap bk (i := 5)
  have cm6 := cell_of_heap bk (i := 6)
  have cm7 := cell_of_heap bk (i := 7)
  have cm8 := cell_of_heap bk (i := 8)
  have cm9 := cell_of_heap bk (i := 9)
  have cm10 := cell_of_heap bk (i := 10)
  have cm11 := cell_of_heap bk (i := 11)
  simp only [List.getElem?_toArray, List.getElem?_cons_succ, List.getElem?_cons_zero] at cm0 cm1 cm2 cm3 cm4 cm5 cm6 cm7 cm8 cm9 cm10 cm11
  clear bk
  have h3 := set12_owns HO.out (startM 0) (.slice none 0 0)
  go_upto_region 7 with fail
  obtain ⟨W5, hW5⟩ : ∃ W, W = set12 W4 bm (startM 0) (.slice none 0 0) := ⟨_, rfl⟩
  have hW5' : W5 = ((((((((((((W4.setCell ⟨bm, 0, none⟩ (.string ⟨#[]⟩)).setCell ⟨bm, 1, none⟩ (.string ⟨#[]⟩)).setCell ⟨bm, 2, none⟩ (.int .i64 0)).setCell ⟨bm, 3, none⟩ (.string ⟨#[]⟩)).setCell ⟨bm, 4, none⟩ (.int .i64 1)).setCell ⟨bm, 5, none⟩ (.string ⟨#[]⟩)).setCell ⟨bm, 6, none⟩ (.int .i64 0)).setCell ⟨bm, 7, none⟩ (.int .i64 0)).setCell ⟨bm, 8, none⟩ (.slice none 0 0)).setCell ⟨bm, 9, none⟩ (.int .i64 0)).setCell ⟨bm, 10, none⟩ (.int .i64 (-1))).setCell ⟨bm, 11, none⟩ (.int .i64 0)) := hW5
  rw [← hW5']
  rw [← hW5] at h3
  replace HO := Lib.hid h3
  clear h3 hW5' hW5 hbm fm0 cm0 fm1 cm1 fm2 cm2 fm3 cm3 fm4 cm4 fm5 cm5 fm6 cm6 fm7 cm7 fm8 cm8 fm9 cm9 fm10 cm10 fm11 cm11
  obtain ⟨bH, hbH⟩ : ∃ x, x = W5.heap.size := ⟨_, rfl⟩
  obtain ⟨W6, hW6⟩ : ∃ W, W = W5.alloc (.cells #[.func (.func 32) #[] #[.pointer (some ⟨bR, 0, none⟩), .pointer (some ⟨bm, 0, none⟩)]] 71) := ⟨_, rfl⟩
  go_upto_region 8 with fail
  have h3 := HO.out.box (.cells #[.func (.func 32) #[] #[.pointer (some ⟨bR, 0, none⟩), .pointer (some ⟨bm, 0, none⟩)]] 71 (0, 0))
  rw [← hbH, ← hW6] at h3 ⊢
  replace HO : Hid (Owns w W6 (rdM V b l ts :: blk bm (mobj (startM 0) (.slice none 0 0)) :: one bR 66 (.pointer (some ⟨b, 0, none⟩)) :: headP bH bR bm :: one be 29 (.int .i64 (ec : Int)) :: one ba 3 (.int .i64 pc) :: [])) := Lib.hid (h3.re [2, 1, 3, 0, 4, 5])
  clear h3 hbH hW6
  have mp0 := mapP0 W6
  have mp1 := mapP1 W6 bR bm bH
  have mp2 := mapP2 W6 bR bm bH
  have mp3 := mapP3 W6 bR bm bH
  go_upto_region 9 with fail
  clear mp0 mp1 mp2 mp3
  obtain ⟨g, hg⟩ : ∃ x, x = W6.heap.size := ⟨_, rfl⟩
  obtain ⟨W7, hW7⟩ : ∃ W, W = W6.alloc (.map (kindEs bR bm bH) 3) := ⟨_, rfl⟩
  have h3 := HO.out.box (.map (kindEs bR bm bH) 3)
  rw [← hg, ← hW7] at h3 ⊢
  replace HO : Hid (Owns w W7 (rdM V b l ts :: blk bm (mobj (startM 0) (.slice none 0 0)) :: one bR 66 (.pointer (some ⟨b, 0, none⟩)) :: headP bH bR bm :: one be 29 (.int .i64 (ec : Int)) :: one ba 3 (.int .i64 pc) :: blk g (.map (kindEs bR bm bH) 3) :: [])) := Lib.hid (h3.re [1, 2, 3, 4, 5, 6, 0])
  clear h3 hg hW7
  obtain ⟨bk, -⟩ := Owns.blk (HO.out.pop.pop)
  have hbq := lt_of_block bk
  have cq0 := cell_of_heap bk (i := 0)
  simp only [List.getElem?_toArray, List.getElem?_cons_succ, List.getElem?_cons_zero] at cq0
  clear bk
  go_wp2_with fail
  clear hbq cq0
  go_at_call 34
  refine (mtake_c _ ts 1 [] W7 HO.out (by omega) (by omega) HN9.out).mono ?_
  intro e W8 hg
  rcases hr : takeM l.length 1 [] ts with er | ⟨t, r⟩
  · rw [hr] at hg
    obtain ⟨rfl, q, ho⟩ := hg
    have HE : Hid (measureM l ts = .error er) := by show _ = _; unfold measureM; rw [hr]
    exact mbad rfl rfl rfl (ho.re [1, 4, 5, 0, 2, 3]) (parse_bad HTs.out HEc.out HE.out)
  rw [hr] at hg
  obtain ⟨rfl, ho⟩ := hg
  have HR := Lib.hid hr
  replace HN9 : Hid (r.length ≤ 1000000) := by
    have h1 := (take_inv hr).1
    have := HN9.out
    rw [h1, List.length_cons] at this
    exact Lib.hid (by omega)
  replace HO := Lib.hid ho
  clear ho hr
  go_upto_region 10 with fail
  obtain ⟨bT, hbT⟩ : ∃ x, x = W8.heap.size := ⟨_, rfl⟩
  obtain ⟨W9, hW9⟩ : ∃ W, W = W8.alloc (tkobj t) := ⟨_, rfl⟩
  have h3 := HO.out.box (tkobj t)
  rw [← hbT, ← hW9] at h3 ⊢
  replace HO : Hid (Owns w W9 (blk bT (tkobj t) :: blk g (.map (kindEs bR bm bH) 3) :: rdM V b l r :: blk bm (mobj (startM 0) (.slice none 0 0)) :: one bR 66 (.pointer (some ⟨b, 0, none⟩)) :: headP bH bR bm :: one be 29 (.int .i64 (ec : Int)) :: one ba 3 (.int .i64 pc) :: [])) := Lib.hid (h3.re [0, 7, 1, 2, 3, 4, 5, 6])
  clear h3 hbT hW9
  obtain ⟨bk, -⟩ := Owns.blk HO.out
  have hbt := lt_of_block bk
  have ct1 := cell_of_heap bk (i := 1)
  have ct3 := cell_of_heap bk (i := 3)
  simp only [List.getElem?_toArray, List.getElem?_cons_succ, List.getElem?_cons_zero] at ct1 ct3
  clear bk
  have mg := mapGet (Owns.blk HO.out.pop).1 t.text
  obtain ⟨kf, hkf⟩ : ∃ x, x = kFn bR bm bH t.text := ⟨_, rfl⟩
  rw [← hkf] at mg
  by_cases hk0 : kindM t.text = 0
  · have hk1 : (decide (kindM t.text ≠ 0)) = false := by simp [hk0]
    rw [hk1] at mg
    have HE : Hid (measureM l ts = .error (5, (t.pos : Int))) := by show _ = _; unfold measureM; rw [HR.out]; simp only; rw [if_pos hk0]
    clear hk0 hk1 hkf
    go_wp2_with fail
    exact mbad (er := (5, (t.pos : Int))) rfl rfl rfl (HO.out.re [3, 6, 7, 0, 1, 2, 4, 5]) (parse_bad HTs.out HEc.out HE.out)
  have hk1 : (decide (kindM t.text ≠ 0)) = true := by simp [hk0]
  rw [hk1] at mg
  clear hk1
  replace HO : Hid (Owns w W9 (rdM V b l r :: blk bm (mobj (startM 0) (.slice none 0 0)) :: one bR 66 (.pointer (some ⟨b, 0, none⟩)) :: headP bH bR bm :: one be 29 (.int .i64 (ec : Int)) :: one ba 3 (.int .i64 pc) :: blk bT (tkobj t) :: blk g (.map (kindEs bR bm bH) 3) :: [])) := Lib.hid (HO.out.re [2, 3, 4, 5, 6, 7, 0, 1])
  have HI : Hid (LexP l 0 ts ∧ l.length ≤ 20000 ∧ NameOk ts) := by
    have h1 := lexAll_p HEc.out
    rw [HTs.out]
    exact Lib.hid ⟨h1.1, h1.2.1, lexAll_names l⟩
  have hk4 : kindM t.text = 1 ∨ kindM t.text = 2 ∨ kindM t.text = 3 := by rcases kindM_le t.text with h | h | h | h <;> omega
  have HE0 : Hid (measureM l ts = match targetM l.length (kindM t.text) r with
    | .error e => .error e
    | .ok (m, q) => bodyM l m q) := by show _ = _; unfold measureM; rw [HR.out]; simp only; rw [if_neg hk0]; rcases targetM l.length (kindM t.text) r with e | ⟨m, q⟩ <;> rfl
  have HT1 : Hid (ts = t :: r) := Lib.hid (take_inv HR.out).1
  clear HR hk0
  replace hkf := Lib.hid hkf
  replace hk4 := Lib.hid hk4
  go_upto_region 13 with fail
  clear mg hbt ct1 ct3
  go_cut [] from 13 to 108 (fun wx => ∃ m1 r1 A, Hid (measureM l ts = bodyM l m1 r1) ∧ Hid (m1.cond = trueF ∧ m1.un = -1 ∧ m1.wi = 0) ∧ Hid (ts = (t :: A) ++ r1) ∧ Hid (r1.length ≤ 1000000) ∧ Hid (Owns w wx (rdM V b l r1 :: blk bm (mobj m1 (.slice none 0 0)) :: one bR 66 (.pointer (some ⟨b, 0, none⟩)) :: headP bH bR bm :: one be 29 (.int .i64 (ec : Int)) :: one ba 3 (.int .i64 pc) :: blk bT (tkobj t) :: blk g (.map (kindEs bR bm bH) 3) :: [])))
  case first =>
    as_aux_lemma =>
      rcases hk4.out with hk | hk | hk
      · have hf : t.text = wForbid := by
          unfold kindM at hk
          (repeat' split at hk) <;> first | assumption | omega
        have hkf2 : kf = kF1 bm bH := by rw [hkf.out, kFn, if_pos hf]
        subst hkf2
        rw [hk] at HE0
        clear hkf hf hk hk4
        go_wp2_with fail
        go_at_call 35
        refine (mforbid_c _ r (startM 0) _ W9 rfl HO.out (by omega) HN9.out).mono ?_
        have HKI : Hid ((1 : Int) = 1 ∨ (1 : Int) = 2 ∨ (1 : Int) = 3) := Lib.hid (.inl rfl)
        intro e W10 hg
        rcases hr2 : targetM l.length 1 r with er | ⟨m1, r1⟩
        · rw [hr2] at hg
          obtain ⟨rfl, q, m2, ho⟩ := hg
          have HE := HE0
          rw [hr2] at HE
          exact mbad rfl rfl rfl (ho.re [1, 4, 5, 0, 2, 3, 6, 7]) (parse_bad HTs.out HEc.out HE.out)
        rw [hr2] at hg
        obtain ⟨rfl, ho⟩ := hg
        have HE : Hid (measureM l ts = bodyM l m1 r1) := by have h := HE0.out; rw [hr2] at h; exact Lib.hid h
        have hnr : NameOk r := fun u hu => HI.out.2.2 u (by rw [HT1.out]; simp [hu])
        obtain ⟨hkd, hcd, -, -, -, -, A, hA⟩ := target_inv HKI.out hnr hr2
        have HM : Hid (m1.cond = trueF ∧ m1.un = -1 ∧ m1.wi = 0) := Lib.hid ⟨hcd, target_num hnr hr2⟩
        have HA : Hid (ts = (t :: A) ++ r1) := by rw [HT1.out, hA]; exact Lib.hid rfl
        have HN : Hid (r1.length ≤ 1000000) := by
          have := HN9.out
          rw [hA, List.length_append] at this
          exact Lib.hid (by omega)
        replace HO := Lib.hid ho
        clear ho hr2 hkd hcd hnr hA
        try dsimp only
        go_wp2_with fail
        go_meet
        exact ⟨m1, r1, A, HE, HM, HA, HN, HO⟩
      · have hf : t.text = wExempt := by
          unfold kindM at hk
          (repeat' split at hk) <;> first | assumption | omega
        have hkf2 : kf = kF2 bR bm bH := by rw [hkf.out, kFn, hf, if_neg (by decide), if_pos rfl]
        subst hkf2
        rw [hk] at HE0
        clear hkf hf hk hk4
        go_wp2_with fail
        go_at_call 36
        refine (mexempt_c _ r (startM 0) _ W9 rfl HO.out (by omega) HN9.out).mono ?_
        have HKI : Hid ((2 : Int) = 1 ∨ (2 : Int) = 2 ∨ (2 : Int) = 3) := Lib.hid (by decide)
        intro e W10 hg
        rcases hr2 : targetM l.length 2 r with er | ⟨m1, r1⟩
        · rw [hr2] at hg
          obtain ⟨rfl, q, m2, ho⟩ := hg
          have HE := HE0
          rw [hr2] at HE
          exact mbad rfl rfl rfl (ho.re [1, 4, 5, 0, 2, 3, 6, 7]) (parse_bad HTs.out HEc.out HE.out)
        rw [hr2] at hg
        obtain ⟨rfl, ho⟩ := hg
        have HE : Hid (measureM l ts = bodyM l m1 r1) := by have h := HE0.out; rw [hr2] at h; exact Lib.hid h
        have hnr : NameOk r := fun u hu => HI.out.2.2 u (by rw [HT1.out]; simp [hu])
        obtain ⟨hkd, hcd, -, -, -, -, A, hA⟩ := target_inv HKI.out hnr hr2
        have HM : Hid (m1.cond = trueF ∧ m1.un = -1 ∧ m1.wi = 0) := Lib.hid ⟨hcd, target_num hnr hr2⟩
        have HA : Hid (ts = (t :: A) ++ r1) := by rw [HT1.out, hA]; exact Lib.hid rfl
        have HN : Hid (r1.length ≤ 1000000) := by
          have := HN9.out
          rw [hA, List.length_append] at this
          exact Lib.hid (by omega)
        replace HO := Lib.hid ho
        clear ho hr2 hkd hcd hnr hA
        try dsimp only
        go_wp2_with fail
        go_meet
        exact ⟨m1, r1, A, HE, HM, HA, HN, HO⟩
      · have hf : t.text = wBlock := by
          unfold kindM at hk
          (repeat' split at hk) <;> first | assumption | omega
        have hkf2 : kf = kF3 bR bm bH := by rw [hkf.out, kFn, hf, if_neg (by decide), if_neg (by decide), if_pos rfl]
        subst hkf2
        rw [hk] at HE0
        clear hkf hf hk hk4
        go_wp2_with fail
        go_at_call 37
        refine (mblock_c _ r (startM 0) _ W9 rfl HO.out (by omega) HN9.out).mono ?_
        have HKI : Hid ((3 : Int) = 1 ∨ (3 : Int) = 2 ∨ (3 : Int) = 3) := Lib.hid (by decide)
        intro e W10 hg
        rcases hr2 : targetM l.length 3 r with er | ⟨m1, r1⟩
        · rw [hr2] at hg
          obtain ⟨rfl, q, m2, ho⟩ := hg
          have HE := HE0
          rw [hr2] at HE
          exact mbad rfl rfl rfl (ho.re [1, 4, 5, 0, 2, 3, 6, 7]) (parse_bad HTs.out HEc.out HE.out)
        rw [hr2] at hg
        obtain ⟨rfl, ho⟩ := hg
        have HE : Hid (measureM l ts = bodyM l m1 r1) := by have h := HE0.out; rw [hr2] at h; exact Lib.hid h
        have hnr : NameOk r := fun u hu => HI.out.2.2 u (by rw [HT1.out]; simp [hu])
        obtain ⟨hkd, hcd, -, -, -, -, A, hA⟩ := target_inv HKI.out hnr hr2
        have HM : Hid (m1.cond = trueF ∧ m1.un = -1 ∧ m1.wi = 0) := Lib.hid ⟨hcd, target_num hnr hr2⟩
        have HA : Hid (ts = (t :: A) ++ r1) := by rw [HT1.out, hA]; exact Lib.hid rfl
        have HN : Hid (r1.length ≤ 1000000) := by
          have := HN9.out
          rw [hA, List.length_append] at this
          exact Lib.hid (by omega)
        replace HO := Lib.hid ho
        clear ho hr2 hkd hcd hnr hA
        try dsimp only
        go_wp2_with fail
        go_meet
        exact ⟨m1, r1, A, HE, HM, HA, HN, HO⟩
  obtain ⟨m1, r1, A, HE, HM, HA, HN1, HO1⟩ := hcut
  clear HO HN9 HE0 HT1 hkf hk4
  obtain ⟨W10, hW10⟩ : ∃ W, W = wc := ⟨_, rfl⟩
  rw [← hW10] at HO1 ⊢
  clear hW10
  have HN := HN1
  have HO := HO1
  clear HN1 HO1
  obtain ⟨y, mc, hv, hs, h1⟩ := HO.out.rdm
  obtain ⟨bk, -⟩ := h1.blk
  have hbp := lt_of_block bk
  have fp0 := free_of_heap bk (i := 0)
  have fp1 := free_of_heap bk (i := 1)
  have cp0 := cell_of_heap bk (i := 0)
  have cp1 := cell_of_heap bk (i := 1)
  simp only [List.getElem?_toArray, List.getElem?_cons_succ, List.getElem?_cons_zero] at cp0 cp1
  clear bk
  obtain ⟨bk, -⟩ := Owns.blk (HO.out.pop.pop)
  have hbq := lt_of_block bk
  have cq0 := cell_of_heap bk (i := 0)
  simp only [List.getElem?_toArray, List.getElem?_cons_succ, List.getElem?_cons_zero] at cq0
  clear bk
  have HS1 := Lib.hid hs
  clear hs hv h1
  obtain ⟨bk, -⟩ := Owns.blk (HO.out.pop.pop)
  have hbq := lt_of_block bk
  have cq0 := cell_of_heap bk (i := 0)
  simp only [List.getElem?_toArray, List.getElem?_cons_succ, List.getElem?_cons_zero] at cq0
  clear bk
  go_wp2_with fail
  clear hbp fp0 fp1 cp0 cp1 hbq cq0
  go_at_call 38
  refine (mword_c _ r1 wIf W10 HO.out HN.out).mono ?_
  rintro e W11 ⟨rfl, ho⟩
  obtain ⟨q, hq⟩ : ∃ q, q = seesM wIf r1 := ⟨_, rfl⟩
  rw [← hq]
  have HQ1 := Lib.hid hq
  replace HO := Lib.hid ho
  clear ho hq
  go_upto_if 59 with fail
  go_cut [] from 13 to 108 (fun wx => ∃ mm kv r1, Hid (measureM l ts = datesM l.length mm r1) ∧ Hid (mm.un = -1 ∧ mm.wi = 0) ∧ Hid (r1.length ≤ 1000000) ∧ Hid (Owns w wx (rdM V b l r1 :: blk bm (mobj mm kv) :: one bR 66 (.pointer (some ⟨b, 0, none⟩)) :: headP bH bR bm :: one be 29 (.int .i64 (ec : Int)) :: one ba 3 (.int .i64 pc) :: blk bT (tkobj t) :: blk g (.map (kindEs bR bm bH) 3) :: fmP mm.cond kv :: [])))
  case first =>
    as_aux_lemma =>
      have hs1 := HQ1.out.symm
      have ho := HO.out
      clear HO
      cases q
      · have HEi : Hid (measureM l ts = datesM l.length m1 r1) := by
          show _ = _
          rw [HE.out, bodyM, ifM, if_neg (by simp [hs1])]
          simp only
          rw [← HM.out.1]
        rw [wordM, if_neg (by simp [hs1])] at ho
        have h2 : Owns w W11 (fmP m1.cond (.slice none 0 0) :: rdM V b l r1 :: blk bm (mobj m1 (.slice none 0 0)) :: one bR 66 (.pointer (some ⟨b, 0, none⟩)) :: headP bH bR bm :: one be 29 (.int .i64 (ec : Int)) :: one ba 3 (.int .i64 pc) :: blk bT (tkobj t) :: blk g (.map (kindEs bR bm bH) 3) :: []) := by
          rw [HM.out.1]
          exact ho.leaf 1 [] 0 0 none 0
        replace HO := Lib.hid (h2.re [1, 2, 3, 4, 5, 6, 7, 8, 0])
        clear h2 ho hs1 HQ1
        try dsimp only
        go_wp2_with fail
        go_meet
        exact ⟨m1, .slice none 0 0, r1, HEi, Lib.hid HM.out.2, HN, HO⟩
      have HB1 := Lib.hid hs1
      rw [wordM, if_pos hs1] at ho
      rcases r1 with _ | ⟨t1, r2⟩
      · simp [seesM] at hs1
      simp only [List.tail_cons] at ho
      have hk1 : t1.kind = 1 ∧ t1.text = wIf := by simpa [seesM] using hs1
      obtain ⟨hb1, hb2⟩ := if_bounds HI.out.1 HA.out hk1.1 (by rw [hk1.2]; rfl) (fromM r2)
      have hp1 : t1.pos + 2 ≤ 20000 := by have := HI.out.2.1; omega
      clear hs1 hk1
      obtain ⟨yy, mm1, hv2, hs2, h2⟩ := ho.rdm
      have htk : TokL W11 (.slice y (t1 :: r2).length mc) (t1 :: r2) := Owns.tokAt h2.pop HS1.out
      replace HO := Lib.hid ho
      clear ho hv2 hs2 h2
      obtain ⟨N1, hN1⟩ : ∃ N, N = (t1 :: r2).length := ⟨_, rfl⟩
      have hN0 : 0 < N1 := by rw [hN1]; simp
      rw [← hN1] at htk
      clear hN1
      obtain ⟨g1, o1, rfl, hNm1, hg1, d0, d1, d2, d3⟩ := htk.get (j := 0) (Below.refl _ _) rfl
      simp only [Nat.zero_mul, Nat.add_zero] at d0 d1 d2 d3
      clear htk
      obtain ⟨bk, -⟩ := Owns.blk (HO.out.pop.pop)
      have hbq := lt_of_block bk
      have cq0 := cell_of_heap bk (i := 0)
      simp only [List.getElem?_toArray, List.getElem?_cons_succ, List.getElem?_cons_zero] at cq0
      clear bk
      replace hb1 := Lib.hid hb1
      replace hb2 := Lib.hid hb2
      obtain ⟨k1, hk1⟩ : ∃ k, k = t1.pos := ⟨_, rfl⟩
      rw [← hk1] at d1 hb1 hp1
      replace hk1 := Lib.hid hk1
      go_upto_region 16 with fail
      refine wp_region_pan 9 rfl (by decide +kernel) ?_
      replace HO := Lib.hid HO.out.drew
      obtain ⟨WD, hWD⟩ : ∃ W, W = World.drew W11 := ⟨_, rfl⟩
      rw [← hWD] at HO ⊢
      have d1' : WD.cell? ⟨g1, o1 + 1, none⟩ = some (.int .i64 (k1 : Int)) := by rw [hWD]; exact d1
      have hg1' : g1 < WD.heap.size := by rw [hWD]; exact hg1
      clear d0 d1 d2 d3 hbq cq0 hg1 hWD
      obtain ⟨bk, -⟩ := Owns.blk (HO.out.pop.pop)
      have hbq := lt_of_block bk
      have cq0 := cell_of_heap bk (i := 0)
      simp only [List.getElem?_toArray, List.getElem?_cons_succ, List.getElem?_cons_zero] at cq0
      clear bk
      apply once
      focus
        intro key
        repeat' (first | (refine pw_two 0 1 (by decide +kernel) ?_ ?_ <;> (refine pw_do rfl rfl (fun _ _ => ?_); go_wp2_with fail)) | (refine pw_one 1 (by decide +kernel) ?_; (refine pw_do rfl rfl (fun _ _ => ?_); go_wp2_with fail)) | (refine pw_one 2 (by decide +kernel) ?_; (refine pw_do rfl rfl (fun _ _ => ?_); go_wp2_with fail)) | (refine pw_one 3 (by decide +kernel) ?_; (refine pw_do rfl rfl (fun _ _ => ?_); go_wp2_with fail)) | (refine pw_one 4 (by decide +kernel) ?_; (refine pw_do rfl rfl (fun _ _ => ?_); go_wp2_with fail)) | (refine pw_one 5 (by decide +kernel) ?_; (refine pw_do rfl rfl (fun _ _ => ?_); go_wp2_with fail)) | (refine pw_one 0 (by decide +kernel) ?_; (refine pw_do rfl rfl (fun _ _ => ?_); go_wp2_with fail)) | (refine pw_two 0 2 (by decide +kernel) ?_ ?_ <;> (refine pw_do rfl rfl (fun _ _ => ?_); go_wp2_with fail)) | (refine pw_two 0 3 (by decide +kernel) ?_ ?_ <;> (refine pw_do rfl rfl (fun _ _ => ?_); go_wp2_with fail)) | (refine pw_two 0 4 (by decide +kernel) ?_ ?_ <;> (refine pw_do rfl rfl (fun _ _ => ?_); go_wp2_with fail)) | (refine pw_two 0 5 (by decide +kernel) ?_ ?_ <;> (refine pw_do rfl rfl (fun _ _ => ?_); go_wp2_with fail)) | fail)
      
        all_goals (refine pw_at #[true, true, true, true, true, true, false, false, false] (by decide +kernel) ?_; exact key.out)
      clear hbq cq0
      refine pw_one 6 (by decide +kernel) ?_
      refine pw_do rfl rfl (fun _ _ => ?_)
      go_wp2_with fail
      obtain ⟨kb, hkb⟩ : ∃ kb, kb = k1 + 2 := ⟨_, rfl⟩
      have e1 : (k1 : Int) + 2 = (kb : Int) := by omega
      rw [← hkb] at hb1
      rw [e1]
      replace hkb := Lib.hid hkb
      clear e1
      go_at_call 39
      refine (mformula_c _ r2 kb WD HO.out hl (by have := HN.out; rw [List.length_cons] at this; omega) hb1.out hb2.out).mono ?_
      intro e W12 hg
      have HEc1 : Hid (condM l kb r2 = ifM l (t1 :: r2)) := by
        show _ = _
        rw [ifM, if_pos HB1.out, hkb.out, hk1.out]
        rfl
      rcases hr : condM l kb r2 with er | ⟨f, r3⟩
      · rw [hr] at hg
        obtain ⟨rfl, q, ho⟩ := hg
        have HE3 : Hid (measureM l ts = .error er) := by
          show _ = _
          rw [HE.out, bodyM, ← HEc1.out, hr]
        exact mbad rfl rfl rfl (ho.re [1, 4, 5, 0, 2, 3]) (parse_bad HTs.out HEc.out HE3.out)
      rw [hr] at hg
      obtain ⟨kv0, rfl, ho⟩ := hg
      have HE4 : Hid (measureM l ts = datesM l.length { m1 with cond := f } r3) := by
        show _ = _
        rw [HE.out, bodyM, ← HEc1.out, hr]
      have hn3 : r3.length ≤ 1000000 := by
        obtain ⟨-, h⟩ := cond_inv hr
        have := HN.out
        rw [h, List.length_drop]
        rw [List.length_cons] at this
        omega
      obtain ⟨yk, mk, rfl⟩ := (Owns.fm ho).form
      obtain ⟨nk, hnk⟩ : ∃ n, n = f.kids.length := ⟨_, rfl⟩
      rw [← hnk] at ho ⊢
      clear hnk
      obtain ⟨bk, -⟩ := Owns.blk (ho.re [2, 0, 1])
      have hbm := lt_of_block bk
      have fm4 := free_of_heap bk (i := 4)
      have cm4 := cell_of_heap bk (i := 4)
      have fm5 := free_of_heap bk (i := 5)
      have cm5 := cell_of_heap bk (i := 5)
      have fm6 := free_of_heap bk (i := 6)
      have cm6 := cell_of_heap bk (i := 6)
      have fm7 := free_of_heap bk (i := 7)
      have cm7 := cell_of_heap bk (i := 7)
      have fm8 := free_of_heap bk (i := 8)
      have cm8 := cell_of_heap bk (i := 8)
      simp only [List.getElem?_toArray, List.getElem?_cons_succ, List.getElem?_cons_zero] at cm4 cm5 cm6 cm7 cm8
      clear bk
      have h4 := setF_owns (ho.re [2, 0, 1]) f (.slice yk nk mk)
      go_wp2_with fail
      refine pw_one 7 (by decide +kernel) ?_
      refine pw_do rfl rfl (fun _ _ => ?_)
      go_wp2_with fail
      refine pw_one 8 (by decide +kernel) ?_
      refine pw_do rfl rfl (fun _ _ => ?_)
      go_wp2_with fail
      refine pw_nil (by decide +kernel) ?_
      clear hbm fm4 cm4 fm5 cm5 fm6 cm6 fm7 cm7 fm8 cm8 ho hr HEc1 HB1 HS1 HA hb1 hb2 hk1 hkb hp1
      have e1 : Hid (({ m1 with cond := f } : Me).un = -1 ∧ ({ m1 with cond := f } : Me).wi = 0) := Lib.hid HM.out.2
      replace HO := Lib.hid (h4.re [2, 0, 3, 4, 5, 6, 7, 8, 1])
      try dsimp only
      go_wp2_with fail
      go_meet
      exact ⟨{ m1 with cond := f }, .slice yk nk mk, r3, HE4, e1, Lib.hid hn3, HO⟩
  obtain ⟨mm, kv, r2, HE2, HM2, HN2, HO2⟩ := hcut
  clear HO HN HE HM HA HS1 HQ1
  obtain ⟨r1, hr1⟩ : ∃ x, x = r2 := ⟨_, rfl⟩
  obtain ⟨W10, hW10⟩ : ∃ W, W = wc := ⟨_, rfl⟩
  rw [← hW10, ← hr1] at HO2
  rw [← hW10]
  rw [← hr1] at HE2 HN2
  clear hW10 hr1
  have HE := HE2
  have HM := HM2
  have HN := HN2
  have HO := HO2
  clear HE2 HM2 HN2 HO2
  obtain ⟨bk, -⟩ := Owns.blk (HO.out.pop.pop)
  have hbq := lt_of_block bk
  have cq0 := cell_of_heap bk (i := 0)
  simp only [List.getElem?_toArray, List.getElem?_cons_succ, List.getElem?_cons_zero] at cq0
  clear bk
  go_wp2_with fail
  clear hbq cq0
  go_at_call 34
  refine (mtake_c _ r1 1 wFrom W10 HO.out (by omega) (by omega) HN.out).mono ?_
  intro e W12 hg
  rcases hr3 : takeM l.length 1 wFrom r1 with er | ⟨t3, r3⟩
  · rw [hr3] at hg
    obtain ⟨rfl, q, ho⟩ := hg
    have HE3 : Hid (measureM l ts = .error er) := by show _ = _; rw [HE.out]; unfold datesM; rw [hr3]
    exact mbad rfl rfl rfl (ho.re [1, 4, 5, 0, 2, 3]) (parse_bad HTs.out HEc.out HE3.out)
  rw [hr3] at hg
  obtain ⟨rfl, ho⟩ := hg
  have HR3 := Lib.hid hr3
  replace HN : Hid (r3.length ≤ 1000000) := by
    have h1 := (take_inv hr3).1
    have := HN.out
    rw [h1, List.length_cons] at this
    exact Lib.hid (by omega)
  replace HO := Lib.hid ho
  clear ho hr3
  obtain ⟨bk, -⟩ := Owns.blk (HO.out.pop.pop)
  have hbq := lt_of_block bk
  have cq0 := cell_of_heap bk (i := 0)
  simp only [List.getElem?_toArray, List.getElem?_cons_succ, List.getElem?_cons_zero] at cq0
  clear bk
  go_wp2_with fail
  clear hbq cq0
  go_at_call 40
  refine (mnumber_c _ r3 0 100000 W12 HO.out (by omega) HN.out).mono ?_
  intro e W13 hg
  rcases hr4 : numM l.length 0 100000 r3 with er | ⟨fr, r4⟩
  · rw [hr4] at hg
    obtain ⟨rfl, q, ho⟩ := hg
    have HE3 : Hid (measureM l ts = .error er) := by show _ = _; rw [HE.out]; unfold datesM; rw [HR3.out]; simp only; rw [hr4]
    exact mbad rfl rfl rfl (ho.re [1, 4, 5, 0, 2, 3]) (parse_bad HTs.out HEc.out HE3.out)
  rw [hr4] at hg
  obtain ⟨rfl, ho⟩ := hg
  have HR4 := Lib.hid hr4
  replace HN : Hid (r4.length ≤ 1000000) := by
    obtain ⟨u, h1, -⟩ := num_inv hr4
    have := HN.out
    rw [h1, List.length_cons] at this
    exact Lib.hid (by omega)
  obtain ⟨bk, -⟩ := Owns.blk ho.pop
  have hbm := lt_of_block bk
  have fm9 := free_of_heap bk (i := 9)
  have cm9 := cell_of_heap bk (i := 9)
  simp only [List.getElem?_toArray, List.getElem?_cons_succ, List.getElem?_cons_zero] at cm9
  clear bk
  have h4 : Owns w (W13.setCell ⟨bm, 9, none⟩ (.int .i64 fr)) (rdM V b l r4 :: blk bm (mobj { mm with fr := fr } kv) :: one bR 66 (.pointer (some ⟨b, 0, none⟩)) :: headP bH bR bm :: one be 29 (.int .i64 (ec : Int)) :: one ba 3 (.int .i64 pc) :: blk bT (tkobj t) :: blk g (.map (kindEs bR bm bH) 3) :: fmP mm.cond kv :: []) := (ho.swap.store (i := 9) (.int .i64 fr)).swap
  try dsimp only
  go_upto_region 19 with fail
  obtain ⟨W14, hW14⟩ : ∃ W, W = W13.setCell ⟨bm, 9, none⟩ (.int .i64 fr) := ⟨_, rfl⟩
  rw [← hW14] at h4 ⊢
  replace HO := Lib.hid h4
  clear h4 ho hr4 hW14 hbm fm9 cm9
  obtain ⟨mq, hmq⟩ : ∃ m, m = ({ mm with fr := fr } : Me) := ⟨_, rfl⟩
  have e1 : mm.cond = mq.cond := by rw [hmq]
  rw [← hmq, e1] at HO
  have HF : Hid (0 ≤ fr ∧ fr ≤ 100000) := by
    obtain ⟨u, -, -, h2, h3⟩ := num_inv HR4.out
    exact Lib.hid ⟨h2, h3⟩
  have HMQ := Lib.hid hmq
  clear hmq e1
  obtain ⟨bk, -⟩ := Owns.blk (HO.out.pop.pop)
  have hbq := lt_of_block bk
  have cq0 := cell_of_heap bk (i := 0)
  simp only [List.getElem?_toArray, List.getElem?_cons_succ, List.getElem?_cons_zero] at cq0
  clear bk
  go_wp2_with fail
  clear hbq cq0
  go_at_call 38
  refine (mword_c _ r4 wUntil W14 HO.out HN.out).mono ?_
  rintro e W15 ⟨rfl, ho⟩
  obtain ⟨q, hq⟩ : ∃ q, q = seesM wUntil r4 := ⟨_, rfl⟩
  rw [← hq]
  have HQ1 := Lib.hid hq
  replace HO := Lib.hid ho
  clear ho hq
  go_upto_if 74 with fail
  go_cut [] from 13 to 108 (fun wx => ∃ m3 un r5, Hid (untilM l.length fr r4 = .ok (un, r5)) ∧ Hid (m3 = { mm with fr := fr, un := un }) ∧ Hid (r5.length ≤ 1000000) ∧ Hid (Owns w wx (rdM V b l r5 :: blk bm (mobj m3 kv) :: one bR 66 (.pointer (some ⟨b, 0, none⟩)) :: headP bH bR bm :: one be 29 (.int .i64 (ec : Int)) :: one ba 3 (.int .i64 pc) :: blk bT (tkobj t) :: blk g (.map (kindEs bR bm bH) 3) :: fmP m3.cond kv :: [])))
  case first =>
    as_aux_lemma =>
      have hs2 := HQ1.out.symm
      have ho := HO.out
      clear HO
      cases q
      · have HEu : Hid (untilM l.length fr r4 = .ok (-1, r4)) := by show _ = _; rw [untilM, if_neg (by simp [hs2])]
        rw [wordM, if_neg (by simp [hs2])] at ho
        have HQ : Hid (mq = { mm with fr := fr, un := -1 }) := by show _ = _; rw [HMQ.out, ← HM.out.1]
        replace HO := Lib.hid ho
        clear hs2 ho
        try dsimp only
        go_wp2_with fail
        go_meet
        exact ⟨mq, -1, r4, HEu, HQ, HN, HO⟩
      have HR5 := Lib.hid hs2
      rw [wordM, if_pos hs2] at ho
      have hl4 : r4.tail.length ≤ 1000000 := by have := HN.out; rw [List.length_tail]; omega
      clear hs2
      obtain ⟨bk, -⟩ := Owns.blk ho.pop
      have hbm := lt_of_block bk
      have cm9 := cell_of_heap bk (i := 9)
      simp only [List.getElem?_toArray, List.getElem?_cons_succ, List.getElem?_cons_zero] at cm9
      clear bk
      have e1 : mq.fr = fr := by rw [HMQ.out]
      rw [e1] at cm9
      clear e1
      have hw1 : IntKind.i64.wrap (fr + 1) = fr + 1 := by have := HF.out; exact IntWalk.i64_in _ ⟨by omega, by omega⟩
      obtain ⟨bk, -⟩ := Owns.blk (ho.pop.pop)
      have hbq := lt_of_block bk
      have cq0 := cell_of_heap bk (i := 0)
      simp only [List.getElem?_toArray, List.getElem?_cons_succ, List.getElem?_cons_zero] at cq0
      clear bk
      replace HO := Lib.hid ho
      clear ho
      try dsimp only
      go_wp2_with fail
      clear hbm cm9 hbq cq0
      go_at_call 40
      refine (mnumber_c _ r4.tail (fr + 1) 100000 W15 HO.out (by omega) hl4).mono ?_
      intro e W16 hg
      rcases hr5 : numM l.length (fr + 1) 100000 r4.tail with er | ⟨un, r5⟩
      · rw [hr5] at hg
        obtain ⟨rfl, q, ho⟩ := hg
        have HE3 : Hid (measureM l ts = .error er) := by show _ = _; rw [HE.out]; unfold datesM; rw [HR3.out]; simp only; rw [HR4.out]; simp only; rw [untilM, if_pos HR5.out, hr5]
        exact mbad rfl rfl rfl (ho.re [1, 4, 5, 0, 2, 3]) (parse_bad HTs.out HEc.out HE3.out)
      rw [hr5] at hg
      obtain ⟨rfl, ho⟩ := hg
      have HEu : Hid (untilM l.length fr r4 = .ok (un, r5)) := by show _ = _; rw [untilM, if_pos HR5.out, hr5]
      replace HN : Hid (r5.length ≤ 1000000) := by
        obtain ⟨u, h1, -⟩ := num_inv hr5
        rw [h1, List.length_cons] at hl4
        exact Lib.hid (by omega)
      obtain ⟨bk, -⟩ := Owns.blk ho.pop
      have hbm := lt_of_block bk
      have fm9 := free_of_heap bk (i := 10)
      have cm9 := cell_of_heap bk (i := 10)
      simp only [List.getElem?_toArray, List.getElem?_cons_succ, List.getElem?_cons_zero] at cm9
      clear bk
      have h4 : Owns w (W16.setCell ⟨bm, 10, none⟩ (.int .i64 un)) (rdM V b l r5 :: blk bm (mobj { mq with un := un } kv) :: one bR 66 (.pointer (some ⟨b, 0, none⟩)) :: headP bH bR bm :: one be 29 (.int .i64 (ec : Int)) :: one ba 3 (.int .i64 pc) :: blk bT (tkobj t) :: blk g (.map (kindEs bR bm bH) 3) :: fmP mq.cond kv :: []) := (ho.swap.store (i := 10) (.int .i64 un)).swap
      have HQ : Hid (({ mq with un := un } : Me) = { mm with fr := fr, un := un }) := by show _ = _; rw [HMQ.out]
      replace HO := Lib.hid h4
      clear h4 ho hr5 HR5 hl4 hw1
      try dsimp only
      go_wp2_with fail
      clear hbm fm9 cm9
      go_meet
      exact ⟨{ mq with un := un }, un, r5, HEu, HQ, HN, HO⟩
  obtain ⟨m3, un, r5, HEu, HQ, HN5, HO5⟩ := hcut
  clear HN HO HMQ HF HQ1
  obtain ⟨W17, hW17⟩ : ∃ W, W = wc := ⟨_, rfl⟩
  rw [← hW17] at HO5 ⊢
  clear hW17
  have HN := HN5
  have HO := HO5
  clear HN5 HO5
  go_upto_region 21 with fail
  go_cut [87] from 13 to 108 (fun v wx => ∃ q r7, v = .bool q ∧ Hid ((q = false ∧ r7 = r5 ∧ ¬ (mm.kind = 1 ∧ seesM wWind r5 = true)) ∨ (q = true ∧ r7 = r5.tail ∧ mm.kind = 1 ∧ seesM wWind r5 = true)) ∧ Hid (Owns w wx (rdM V b l r7 :: blk bm (mobj m3 kv) :: one bR 66 (.pointer (some ⟨b, 0, none⟩)) :: headP bH bR bm :: one be 29 (.int .i64 (ec : Int)) :: one ba 3 (.int .i64 pc) :: blk bT (tkobj t) :: blk g (.map (kindEs bR bm bH) 3) :: fmP m3.cond kv :: [])))
  case first =>
    as_aux_lemma =>
      obtain ⟨bk, -⟩ := Owns.blk (HO.out.pop.pop)
      have hbq := lt_of_block bk
      have cq0 := cell_of_heap bk (i := 0)
      simp only [List.getElem?_toArray, List.getElem?_cons_succ, List.getElem?_cons_zero] at cq0
      clear bk
      obtain ⟨bk, -⟩ := Owns.blk HO.out.pop
      have hbm := lt_of_block bk
      have cm2 := cell_of_heap bk (i := 2)
      simp only [List.getElem?_toArray, List.getElem?_cons_succ, List.getElem?_cons_zero] at cm2
      clear bk
      by_cases hk1 : m3.kind = 1
      rotate_left
      · have hk2 : (m3.kind == 1) = false := by simpa using hk1
        have HK1 : Hid (¬ mm.kind = 1) := by rw [HQ.out] at hk1; exact Lib.hid hk1
        clear hk1
        go_wp2_with fail
        clear hk2 hbm cm2 hbq cq0
        go_meet
        exact ⟨false, r5, rfl, Lib.hid (.inl ⟨rfl, rfl, fun h => HK1.out h.1⟩), HO⟩
      have hk2 : (m3.kind == 1) = true := by simpa using hk1
      have HK1 : Hid (mm.kind = 1) := by rw [HQ.out] at hk1; exact Lib.hid hk1
      clear hk1
      go_wp2_with fail
      clear hk2 hbm cm2 hbq cq0
      go_at_call 38
      refine (mword_c _ r5 wWind W17 HO.out HN.out).mono ?_
      rintro e W18 ⟨rfl, ho⟩
      obtain ⟨q, hq⟩ : ∃ q, q = seesM wWind r5 := ⟨_, rfl⟩
      rw [← hq]
      replace hq := Lib.hid hq
      replace HO := Lib.hid ho
      clear ho
      cases q
      · have ho := HO.out
        rw [wordM, if_neg (by simp [← hq.out])] at ho
        replace HO := Lib.hid ho
        clear ho
        try dsimp only
        go_wp2_with fail
        go_meet
        exact ⟨false, r5, rfl, Lib.hid (.inl ⟨rfl, rfl, fun h => by have := hq.out; rw [h.2] at this; cases this⟩), HO⟩
      · have ho := HO.out
        rw [wordM, if_pos hq.out.symm] at ho
        replace HO := Lib.hid ho
        clear ho
        try dsimp only
        go_wp2_with fail
        go_meet
        exact ⟨true, r5.tail, rfl, Lib.hid (.inr ⟨rfl, rfl, HK1.out, hq.out.symm⟩), HO⟩
  obtain ⟨q, r7, rfl, HQ7, HO7⟩ := hcut
  clear HO
  obtain ⟨wr, hwr⟩ : ∃ W, W = wc := ⟨_, rfl⟩
  rw [← hwr] at HO7 ⊢
  clear hwr
  go_upto_if 87 with fail
  go_cut [] from 13 to 108 (fun wx => ∃ m4 wi r6, Hid (windM l.length mm.kind r5 = .ok (wi, r6)) ∧ Hid (m4 = { mm with fr := fr, un := un, wi := wi }) ∧ Hid (r6.length ≤ 1000000) ∧ Hid (Owns w wx (rdM V b l r6 :: blk bm (mobj m4 kv) :: one bR 66 (.pointer (some ⟨b, 0, none⟩)) :: headP bH bR bm :: one be 29 (.int .i64 (ec : Int)) :: one ba 3 (.int .i64 pc) :: blk bT (tkobj t) :: blk g (.map (kindEs bR bm bH) 3) :: fmP m4.cond kv :: [])))
  case first =>
    as_aux_lemma =>
      rcases HQ7.out with ⟨e1, e2, e3⟩ | ⟨e1, e2, e3, e4⟩
      · have HEw : Hid (windM l.length mm.kind r5 = .ok (0, r5)) := by show _ = _; rw [windM, if_neg e3]
        have HQ4 : Hid (m3 = { mm with fr := fr, un := un, wi := 0 }) := by show _ = _; rw [HQ.out, ← HM.out.2]
        rw [e2] at HO7
        subst e1
        clear HQ7 e2 e3
        go_wp2_with fail
        go_meet
        exact ⟨m3, 0, r5, HEw, HQ4, HN, HO7⟩
      have HK1 : Hid (mm.kind = 1) := Lib.hid e3
      have HR6 : Hid (seesM wWind r5 = true) := Lib.hid e4
      have hl5 : r5.tail.length ≤ 1000000 := by have := HN.out; rw [List.length_tail]; omega
      rw [e2] at HO7
      have ho := HO7.out
      subst e1
      clear HQ7 e2 e3 e4 HO7
      obtain ⟨W18, hW18⟩ : ∃ W, W = wr := ⟨_, rfl⟩
      rw [← hW18] at ho ⊢
      clear hW18
      obtain ⟨bk, -⟩ := Owns.blk (ho.pop.pop)
      have hbq := lt_of_block bk
      have cq0 := cell_of_heap bk (i := 0)
      simp only [List.getElem?_toArray, List.getElem?_cons_succ, List.getElem?_cons_zero] at cq0
      clear bk
      have HO := Lib.hid ho
      clear ho
      go_wp2_with fail
      clear hbq cq0
      go_at_call 40
      refine (mnumber_c _ r5.tail 0 400 W18 HO.out (by omega) hl5).mono ?_
      intro e W19 hg
      rcases hr6 : numM l.length 0 400 r5.tail with er | ⟨wi, r6⟩
      · rw [hr6] at hg
        obtain ⟨rfl, q, ho⟩ := hg
        have HE3 : Hid (measureM l ts = .error er) := by show _ = _; rw [HE.out]; unfold datesM; rw [HR3.out]; simp only; rw [HR4.out]; simp only; rw [HEu.out]; simp only; rw [windM, if_pos ⟨HK1.out, HR6.out⟩, hr6]
        exact mbad rfl rfl rfl (ho.re [1, 4, 5, 0, 2, 3]) (parse_bad HTs.out HEc.out HE3.out)
      rw [hr6] at hg
      obtain ⟨rfl, ho⟩ := hg
      have HEw : Hid (windM l.length mm.kind r5 = .ok (wi, r6)) := by show _ = _; rw [windM, if_pos ⟨HK1.out, HR6.out⟩, hr6]
      replace HN : Hid (r6.length ≤ 1000000) := by
        obtain ⟨u, h1, -⟩ := num_inv hr6
        rw [h1, List.length_cons] at hl5
        exact Lib.hid (by omega)
      obtain ⟨bk, -⟩ := Owns.blk ho.pop
      have hbm := lt_of_block bk
      have fm9 := free_of_heap bk (i := 11)
      have cm9 := cell_of_heap bk (i := 11)
      simp only [List.getElem?_toArray, List.getElem?_cons_succ, List.getElem?_cons_zero] at cm9
      clear bk
      have h4 : Owns w (W19.setCell ⟨bm, 11, none⟩ (.int .i64 wi)) (rdM V b l r6 :: blk bm (mobj { m3 with wi := wi } kv) :: one bR 66 (.pointer (some ⟨b, 0, none⟩)) :: headP bH bR bm :: one be 29 (.int .i64 (ec : Int)) :: one ba 3 (.int .i64 pc) :: blk bT (tkobj t) :: blk g (.map (kindEs bR bm bH) 3) :: fmP m3.cond kv :: []) := (ho.swap.store (i := 11) (.int .i64 wi)).swap
      have HQ4 : Hid (({ m3 with wi := wi } : Me) = { mm with fr := fr, un := un, wi := wi }) := by show _ = _; rw [HQ.out]
      replace HO := Lib.hid h4
      clear h4 ho hr6 HR6 hl5
      try dsimp only
      go_wp2_with fail
      clear hbm fm9 cm9
      go_meet
      exact ⟨{ m3 with wi := wi }, wi, r6, HEw, HQ4, HN, HO⟩
  obtain ⟨m4, wi, r6, HEw, HQ4, HN6, HO6⟩ := hcut
  clear HN HO7 HQ7 HQ
  obtain ⟨WA, hWA⟩ : ∃ W, W = wc := ⟨_, rfl⟩
  rw [← hWA] at HO6 ⊢
  clear hWA
  have HN := HN6
  have HO := HO6
  clear HN6 HO6
  obtain ⟨bk, -⟩ := Owns.blk (HO.out.pop.pop)
  have hbq := lt_of_block bk
  have cq0 := cell_of_heap bk (i := 0)
  simp only [List.getElem?_toArray, List.getElem?_cons_succ, List.getElem?_cons_zero] at cq0
  clear bk
  go_wp2_with fail
  clear hbq cq0
  go_at_call 34
  refine (mtake_c _ r6 4 [59] WA HO.out (by omega) (by omega) HN.out).mono ?_
  intro e WB hg
  have HD : Hid (measureM l ts = match closeM l.length r6 with
      | .error e => .error e
      | .ok _ => .ok m4) := by
    show _ = _
    rw [HE.out]
    unfold datesM
    rw [HR3.out]
    simp only
    rw [HR4.out]
    simp only
    rw [HEu.out]
    simp only
    rw [HEw.out]
    simp only
    rw [← HQ4.out]
    rcases closeM l.length r6 with e | u <;> rfl
  rcases hr7 : takeM l.length 4 [59] r6 with er | ⟨t7, r7⟩
  · rw [hr7] at hg
    obtain ⟨rfl, q, ho⟩ := hg
    have HE3 : Hid (measureM l ts = .error er) := by show _ = _; rw [HD.out, closeM, hr7]
    exact mbad rfl rfl rfl (ho.re [1, 4, 5, 0, 2, 3]) (parse_bad HTs.out HEc.out HE3.out)
  rw [hr7] at hg
  obtain ⟨rfl, ho⟩ := hg
  obtain ⟨y7, mc7, hv, hs, h1⟩ := ho.rdm
  clear hs
  rcases r7 with _ | ⟨t8, r8⟩
  · have HE3 : Hid (measureM l ts = .ok m4) := by show _ = _; rw [HD.out, closeM, hr7]
    clear hv HD hr7
    simp only [List.length_nil] at h1
    obtain ⟨bk, -⟩ := h1.blk
    have hbp := lt_of_block bk
    have fp0 := free_of_heap bk (i := 0)
    have fp1 := free_of_heap bk (i := 1)
    have cp0 := cell_of_heap bk (i := 0)
    have cp1 := cell_of_heap bk (i := 1)
    simp only [List.getElem?_toArray, List.getElem?_cons_succ, List.getElem?_cons_zero] at cp0 cp1
    clear bk
    clear h1
    obtain ⟨bk, -⟩ := Owns.blk (ho.pop.pop)
    have hbq := lt_of_block bk
    have cq0 := cell_of_heap bk (i := 0)
    simp only [List.getElem?_toArray, List.getElem?_cons_succ, List.getElem?_cons_zero] at cq0
    clear bk
    obtain ⟨bk, -⟩ := Owns.blk ho.pop
    have hbm := lt_of_block bk
    have fm0 := free_of_heap bk (i := 0)
    have cm0 := cell_of_heap bk (i := 0)
    have fm1 := free_of_heap bk (i := 1)
    have cm1 := cell_of_heap bk (i := 1)
    have fm2 := free_of_heap bk (i := 2)
    have cm2 := cell_of_heap bk (i := 2)
    have fm3 := free_of_heap bk (i := 3)
    have cm3 := cell_of_heap bk (i := 3)
    have fm4 := free_of_heap bk (i := 4)
    have cm4 := cell_of_heap bk (i := 4)
    have fm5 := free_of_heap bk (i := 5)
    have cm5 := cell_of_heap bk (i := 5)
    have fm6 := free_of_heap bk (i := 6)
    have cm6 := cell_of_heap bk (i := 6)
    have fm7 := free_of_heap bk (i := 7)
    have cm7 := cell_of_heap bk (i := 7)
    have fm8 := free_of_heap bk (i := 8)
    have cm8 := cell_of_heap bk (i := 8)
    have fm9 := free_of_heap bk (i := 9)
    have cm9 := cell_of_heap bk (i := 9)
    have fm10 := free_of_heap bk (i := 10)
    have cm10 := cell_of_heap bk (i := 10)
    have fm11 := free_of_heap bk (i := 11)
    have cm11 := cell_of_heap bk (i := 11)
    simp only [List.getElem?_toArray, List.getElem?_cons_succ, List.getElem?_cons_zero] at cm0 cm1 cm2 cm3 cm4 cm5 cm6 cm7 cm8 cm9 cm10 cm11
    clear bk
    have h0 := ho.re [1, 4, 5, 8, 0, 2, 3, 6, 7]
    obtain ⟨yk, mk, rfl⟩ := (Owns.fm h0.pop.pop.pop).form
    obtain ⟨g1, k1, q1⟩ := Owns.one h0.pop
    obtain ⟨g2, k2, q2⟩ := Owns.one h0.pop.pop
    have n1 := Owns.ne h0
    have n1' := n1.symm
    have n2 := Owns.ne (h0.re [0, 2, 1])
    have n2' := n2.symm
    have n3 := Owns.ne h0.pop
    have n3' := n3.symm
    have h3 := set12_owns h0 m4 (.slice yk m4.cond.kids.length mk)
    have h4 := h3.swap.store (i := 0) (.int .i64 0)
    have h5 : Owns w ((set12 WB bm m4 (.slice yk m4.cond.kids.length mk)).setCell ⟨be, 0, none⟩ (.int .i64 0)) (one ba 3 (.int .i64 pc) :: blk bm (mobj m4 (.slice yk m4.cond.kids.length mk)) :: one be 29 (.int .i64 0) :: fmP m4.cond (.slice yk m4.cond.kids.length mk) :: _) := h4.re [2, 1, 0, 3]
    have h6 := h5.store (i := 0) (.int .i64 0)
    have HF2 := Lib.hid (h6.re [1, 2, 0, 3])
    clear h0 h3 h4 h5 h6 ho
    try dsimp only
    go_wp2_with fail
    exact mgood rfl rfl rfl HF2.out (parse_ok HTs.out HEc.out HE3.out)
  have HE3 : Hid (measureM l ts = .error (5, (t8.pos : Int))) := by show _ = _; rw [HD.out, closeM, hr7]
  clear HD hr7
  obtain ⟨N8, hN8⟩ : ∃ N, N = (t8 :: r8).length := ⟨_, rfl⟩
  have hN0 : 0 < N8 := by rw [hN8]; simp
  rw [← hN8] at hv h1
  clear hN8
  obtain ⟨g8, off8, rfl, hNm, hg8, c0, c1, c2, c3⟩ := hv.get (j := 0) (Below.refl _ _) rfl
  simp only [Nat.zero_mul, Nat.add_zero] at c0 c1 c2 c3
  clear hv
  obtain ⟨bk, -⟩ := h1.blk
  have hbp := lt_of_block bk
  have fp0 := free_of_heap bk (i := 0)
  have fp1 := free_of_heap bk (i := 1)
  have cp0 := cell_of_heap bk (i := 0)
  have cp1 := cell_of_heap bk (i := 1)
  simp only [List.getElem?_toArray, List.getElem?_cons_succ, List.getElem?_cons_zero] at cp0 cp1
  clear bk
  clear h1
  obtain ⟨bk, -⟩ := Owns.blk (ho.pop.pop)
  have hbq := lt_of_block bk
  have cq0 := cell_of_heap bk (i := 0)
  simp only [List.getElem?_toArray, List.getElem?_cons_succ, List.getElem?_cons_zero] at cq0
  clear bk
  have HO2 := Lib.hid ho
  clear ho
  try dsimp only
  go_wp2_with fail
  exact mbad (er := (5, (t8.pos : Int))) rfl rfl rfl (HO2.out.re [1, 4, 5, 0, 2, 3]) (parse_bad HTs.out HEc.out HE3.out)
end Go.Proofs.YtoeknmkephnekaaGreatDoor

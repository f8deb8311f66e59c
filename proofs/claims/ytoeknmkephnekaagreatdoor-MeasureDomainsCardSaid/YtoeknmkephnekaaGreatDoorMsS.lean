/-
  'Text' of measures.
  'Same' of measures.
  Measures of a moderate size: 'Small', 'Few', 'few'.
-/
import Derived.Test.YtoeknmkephnekaaGreatDoorVdValid
import Derived.Test.YtoeknmkephnekaaGreatDoorVdTexts
import Derived.Test.YtoeknmkephnekaaGreatDoorMsP
import Derived.Test.YtoeknmkephnekaaGreatDoorFmText
import Derived.MapKept
import Derived.Deep.DeepCutAuto
import Derived.Test.YtoeknmkephnekaaGreatDoorFmSame
import Derived.Test.YtoeknmkephnekaaGreatDoorAnyPan
import Derived.Lib.ItoaNum
import Derived.Lib.ItoaMem
namespace Go.Proofs.YtoeknmkephnekaaGreatDoor
open Go.RowKit Go.Cz Go.Cz.Lx Go.Cz.Fo Go.Cz.Vd
open Go.Cz.Wn (datedB)
set_option linter.unusedSimpArgs false
set_option linter.unusedVariables false
attribute [local go_sem] bs_size bs_extract bs_append bs_toList
attribute [local irreducible] cList cPlan
theorem ItoaAll_c (n : Int) (w : World) (h0 : -9223372036854775808 ≤ n) (h1 : n ≤ 9223372036854775807) (hs : Std w) : Calls Tryz.prog 29 #[.int .i64 n] w fun e w' => e = .returned (.string (bs (Lib.itoa n))) ∧ Below w.heap.size w w' := by
  refine (Tryz.strconv_Itoa n h0 h1 w hs.tab).mono ?_
  rintro e w' ⟨rfl, k, os, rfl⟩
  exact ⟨rfl, Lib.below_grow _ w (Nat.le_refl _) k os⟩
section
variable {w0 : World} {b6 : Nat}
set_option maxRecDepth 100000 in
set_option maxHeartbeats 4000000 in
/-- The closure 'add': words are added, or not. -/
theorem madd_c (ps : List Piece) (c : Bool) (L l : List Bytes) (v : Value) (g n : Nat) (w : World) (hn : l.length = n) (hg : g < w.heap.size) (hc : ∀ (j : Nat) (s : Bytes), l[j]? = some s → w.cell? ⟨g, j, none⟩ = some (.string (bs s)))
    (h : Owns w0 w (txP v L :: one b6 58 v :: ps)) (hL : L.length ≤ 1000) (hl : n ≤ 1000) :
    Calls Tryz.prog 28 #[.bool c, .slice (some ⟨g, 0, none⟩) n n, .pointer (some ⟨b6, 0, none⟩)] w fun e w' => e = .returned (.tuple #[]) ∧ ∃ v', Owns w0 w' (txP v' (if c = true then L ++ l else L) :: one b6 58 v' :: ps) := by
  have HO := Lib.hid h
  have HC := Lib.hid hc
  have HNl := Lib.hid hn
  clear h hc hn
  obtain ⟨g6, c6, f6⟩ := Owns.one HO.out.pop
  go_enter Tryz.func28, Tryz.ntmps28
  cases c
  · go_wp2_with fail
    go_end0
    exact ⟨rfl, v, HO.out⟩
  go_wp2_with (refine wpList_plain rfl fun K hK => wp_append_at (.tmp 6) (.tmp 7) 58 (by rfl) 9 _ 1 16 Tryz.underlying58 info_txt (by rfl) (by omega) v L.length (txs L) (by rfl) (Owns.txRow HO.out) g 0 n n (txs l) (by rfl) (by simp [txs, HNl.out]) (by intro j u hu; rw [Nat.zero_add]; simp only [txs, List.getElem?_map, Option.map_eq_some_iff] at hu; obtain ⟨s, hs, rfl⟩ := hu; exact HC.out j s hs) (by intro u hu; simp only [txs, List.mem_map] at hu; obtain ⟨s, -, rfl⟩ := hu; rfl) (by omega) (by omega) ?_; intro v' w1 hr hgr hbk; have h2 := Owns.txGrew (l' := L ++ l) HO.out (by simpa [txs, HNl.out] using hr) hgr hbk; obtain ⟨LL, hLL⟩ : ∃ X, X = L ++ l := ⟨_, rfl⟩; rw [← hLL] at h2; obtain ⟨y', c', hv⟩ := (Owns.txIs h2).form; obtain ⟨N, hN⟩ : ∃ N, N = LL.length := ⟨_, rfl⟩; rw [← hN] at hv; subst hv; have HO2 := Lib.hid h2; have HL2 := Lib.hid hLL; clear h2 hr hgr hbk g6 c6 f6 HC hLL hN HO; obtain ⟨g6, c6, f6⟩ := Owns.one HO2.out.pop)
  have h3 := Lib.hid (HO2.out.swap.store (i := 0) (.slice y' N c')).swap
  go_wp2_with fail
  go_end0
  exact ⟨rfl, .slice y' N c', by rw [← HL2.out]; exact h3.out⟩
theorem cells_of (W : World) (l : List Bytes) (j : Nat) (s : Bytes) (h : l[j]? = some s) : (W.alloc (.cells (txs l).toArray 9)).cell? ⟨W.heap.size, j, none⟩ = some (.string (bs s)) := by
  rw [cell_of_heap (new_heap W _ _ rfl)]
  simp [txs, h]
def tEs : Array MapEntry := #[{ key := .int .i64 1, val := .string ⟨#[102, 111, 114, 98, 105, 100]⟩, born := 0 }, { key := .int .i64 2, val := .string ⟨#[101, 120, 101, 109, 112, 116]⟩, born := 1 }, { key := .int .i64 3, val := .string ⟨#[98, 108, 111, 99, 107]⟩, born := 2 }]
theorem tmapU : Tryz.prog.underlying 60 = some (.map 3 9) := by kernel_rfl
theorem tmapI : Tryz.prog.underlying 3 = some (.int .i64) := by kernel_rfl
set_option maxRecDepth 100000 in
theorem tmap_put (W : World) (es : Array MapEntry) (c : Nat) (k : Int) (v : Value) (hf : Instr.findNow (.int .i64) (.int .i64 k) es.toList 0 = some none) :
    (Instr.mapUpdate 60 (.map (some W.heap.size)) (.int .i64 k) v).run Tryz.prog (W.alloc (.map es c)) = .ok () (W.alloc (.map (es.push { key := .int .i64 k, val := v, born := c }) (c + 1))) := by
  have hb : (W.alloc (.map es c)).heap[W.heap.size]? = some (.map es c) := (MapKept.heap_alloc W _).1
  have hc : (Instr.checkKey false 10000 3 (.int .i64 k)).run Tryz.prog (W.alloc (.map es c)) = .ok () (W.alloc (.map es c)) := MapKept.run_checkKey (d := .int .i64) tmapI (by simp [MapKept.IsKey]) false 9999
  have h : (Instr.mapUpdate 60 (.map (some W.heap.size)) (.int .i64 k) v).run Tryz.prog (W.alloc (.map es c)) = .ok () { W.alloc (.map es c) with heap := (W.alloc (.map es c)).heap.setIfInBounds W.heap.size (.map (es.push { key := .int .i64 k, val := v, born := c }) (c + 1)) } := by
    simp [Instr.mapUpdate, run_underlying tmapU, MapKept.run_getObj_map hb, hc, MapKept.run_findKey tmapI hf, MapKept.run_setObj_map _ hb, Result.andThen]
  rw [h]
  congr 1
  have e : (W.alloc (.map es c)).heap.setIfInBounds W.heap.size (.map (es.push { key := .int .i64 k, val := v, born := c }) (c + 1)) = (W.alloc (.map (es.push { key := .int .i64 k, val := v, born := c }) (c + 1))).heap := by
    show (W.heap.push (Obj.map es c)).setIfInBounds W.heap.size _ = W.heap.push _
    apply Array.toList_inj.1
    simp [List.set_append]
  rw [e]
  rfl
theorem tmapP0 (W : World) : (Instr.makeMap 60 none).run Tryz.prog W = .ok (.map (some W.heap.size)) (W.alloc (.map #[] 0)) := rfl
theorem tmapP1 (W : World) : (Instr.mapUpdate 60 (.map (some W.heap.size)) (.int .i64 1) (.string ⟨#[102, 111, 114, 98, 105, 100]⟩)).run Tryz.prog (W.alloc (.map #[] 0)) = .ok () (W.alloc (.map (tEs.extract 0 1) 1)) := tmap_put W #[] 0 1 _ rfl
theorem tmapP2 (W : World) : (Instr.mapUpdate 60 (.map (some W.heap.size)) (.int .i64 2) (.string ⟨#[101, 120, 101, 109, 112, 116]⟩)).run Tryz.prog (W.alloc (.map (tEs.extract 0 1) 1)) = .ok () (W.alloc (.map (tEs.extract 0 2) 2)) := tmap_put W (tEs.extract 0 1) 1 2 _ rfl
theorem tmapP3 (W : World) : (Instr.mapUpdate 60 (.map (some W.heap.size)) (.int .i64 3) (.string ⟨#[98, 108, 111, 99, 107]⟩)).run Tryz.prog (W.alloc (.map (tEs.extract 0 2) 2)) = .ok () (W.alloc (.map tEs 3)) := tmap_put W (tEs.extract 0 2) 2 3 _ rfl
theorem tmapGet (W : World) (k : Int) : (Instr.lookup 60 (.map (some W.heap.size)) (.int .i64 k) false).run Tryz.prog (W.alloc (.map tEs 3)) = .ok (.string (bs (wKind k))) (W.alloc (.map tEs 3)) := by
  have hb : (W.alloc (.map tEs 3)).heap[W.heap.size]? = some (.map tEs 3) := (MapKept.heap_alloc W _).1
  have hc : (Instr.checkKey false 10000 3 (.int .i64 k)).run Tryz.prog (W.alloc (.map tEs 3)) = .ok () (W.alloc (.map tEs 3)) := MapKept.run_checkKey (d := .int .i64) tmapI (by simp [MapKept.IsKey]) false 9999
  have hem : tEs.isEmpty = false := rfl
  have hz : ∀ w : World, (zeroValue 9).run Tryz.prog w = .ok (.string ⟨#[]⟩) w := fun w => by kernel_rfl
  have hf : Instr.findNow (.int .i64) (.int .i64 k) tEs.toList 0 = some (if k = 1 then some (0, .string (bs wForbid)) else if k = 2 then some (1, .string (bs wExempt)) else if k = 3 then some (2, .string (bs wBlock)) else none) := by
    simp only [tEs, Instr.findNow, Instr.sameNow]
    by_cases h1 : k = 1
    · subst h1; rfl
    by_cases h2 : k = 2
    · subst h2; rfl
    by_cases h3 : k = 3
    · subst h3; rfl
    rw [show (k == 1) = false by simpa using h1, show (k == 2) = false by simpa using h2, show (k == 3) = false by simpa using h3]
    simp [h1, h2, h3]
  simp [Instr.lookup, run_underlying tmapU, MapKept.run_getObj_map hb, hc, MapKept.run_findKey tmapI hf, hem, Result.andThen]
  by_cases h1 : k = 1
  · simp [h1, wKind]
  by_cases h2 : k = 2
  · simp [h2, wKind]
  by_cases h3 : k = 3
  · simp [h3, wKind]
  simp [h1, h2, h3, wKind, hz, Result.andThen]
  rfl
set_option maxRecDepth 100000 in
set_option maxHeartbeats 4000000 in
theorem mText_c {p : Nat → Prop} (m : Me) (kv : Value) (w : World) (hst : Std w) (hf : IsFm p w m.cond kv) (hM : MeLen m) (hC : CoLen m.cond) :
    Calls Tryz.prog 11 #[mval m kv] w fun e w' => e = .returned (.tuple #[.string (bs (textM m).1), .int .i64 (textM m).2]) ∧ Below w.heap.size w w' := by
  have HF := Lib.hid hf
  have HSt := Lib.hid hst
  have HML := Lib.hid hM
  have HCL := Lib.hid hC
  obtain ⟨y, c, rfl⟩ := hf.form
  obtain ⟨n, hn⟩ : ∃ n, n = m.cond.kids.length := ⟨_, rfl⟩
  rw [← hn] at HF ⊢
  clear hst hf hM hC hn
  obtain ⟨bx, hbx⟩ : ∃ bx, bx = w.heap.size := ⟨_, rfl⟩
  obtain ⟨W1, hW1⟩ : ∃ W1, W1 = w.alloc (mobj m (.slice y n c)) := ⟨_, rfl⟩
  have HO : Hid (Owns w W1 [blk bx (mobj m (.slice y n c))]) := by
    rw [hW1, hbx]
    exact Lib.hid ((Owns.start w).box (mobj m (.slice y n c)))
  go_enter Tryz.func11, Tryz.ntmps11
  go_wp2_with fail
  rw [← hW1, ← hbx]
  clear hW1 hbx
  (try clear hx0 c0 c1 c2 c3 c4 c5 c6 c7 c8 c9 c10 c11)
  obtain ⟨bk, -⟩ := HO.out.blk
  have hx0 := lt_of_block bk
  have c0 : W1.cell? ⟨bx, 0, none⟩ = some (.string (bs m.id)) := by rw [cell_of_heap bk]; rfl
  have c1 : W1.cell? ⟨bx, 1, none⟩ = some (.string (bs m.auth)) := by rw [cell_of_heap bk]; rfl
  have c2 : W1.cell? ⟨bx, 2, none⟩ = some (.int .i64 m.kind) := by rw [cell_of_heap bk]; rfl
  have c3 : W1.cell? ⟨bx, 3, none⟩ = some (.string (bs m.target)) := by rw [cell_of_heap bk]; rfl
  have c4 : W1.cell? ⟨bx, 4, none⟩ = some (.int .i64 m.cond.op) := by rw [cell_of_heap bk]; rfl
  have c5 : W1.cell? ⟨bx, 5, none⟩ = some (.string (bs m.cond.name)) := by rw [cell_of_heap bk]; rfl
  have c6 : W1.cell? ⟨bx, 6, none⟩ = some (.int .i64 m.cond.cmp) := by rw [cell_of_heap bk]; rfl
  have c7 : W1.cell? ⟨bx, 7, none⟩ = some (.int .i64 m.cond.num) := by rw [cell_of_heap bk]; rfl
  have c8 : W1.cell? ⟨bx, 8, none⟩ = some (.slice y n c) := by rw [cell_of_heap bk]; rfl
  have c9 : W1.cell? ⟨bx, 9, none⟩ = some (.int .i64 m.fr) := by rw [cell_of_heap bk]; rfl
  have c10 : W1.cell? ⟨bx, 10, none⟩ = some (.int .i64 m.un) := by rw [cell_of_heap bk]; rfl
  have c11 : W1.cell? ⟨bx, 11, none⟩ = some (.int .i64 m.wi) := by rw [cell_of_heap bk]; rfl
  clear bk
  go_wp2_with fail
  go_at_call 25
  refine (Text_c m.cond W1 _ (HSt.out.below HO.out.base) (HF.out.later HO.out.base) (Nat.le_refl _) HCL.out.names HCL.out.size).mono ?_
  rintro e W2 ⟨rfl, hb⟩
  replace HO := Lib.hid (HO.out.below hb)
  clear hb
  obtain ⟨S, hS⟩ : ∃ S, S = if textE m.cond = 0 then textF Lib.itoa m.cond else [] := ⟨_, rfl⟩
  obtain ⟨E, hE⟩ : ∃ E, E = textE m.cond := ⟨_, rfl⟩
  rw [← hS, ← hE]
  rw [← hE] at hS
  have HS := Lib.hid hS
  have HE := Lib.hid hE
  clear hS hE
  (try clear hx0 c0 c1 c2 c3 c4 c5 c6 c7 c8 c9 c10 c11)
  obtain ⟨bk, -⟩ := HO.out.blk
  have hx0 := lt_of_block bk
  have c0 : W2.cell? ⟨bx, 0, none⟩ = some (.string (bs m.id)) := by rw [cell_of_heap bk]; rfl
  have c1 : W2.cell? ⟨bx, 1, none⟩ = some (.string (bs m.auth)) := by rw [cell_of_heap bk]; rfl
  have c2 : W2.cell? ⟨bx, 2, none⟩ = some (.int .i64 m.kind) := by rw [cell_of_heap bk]; rfl
  have c3 : W2.cell? ⟨bx, 3, none⟩ = some (.string (bs m.target)) := by rw [cell_of_heap bk]; rfl
  have c4 : W2.cell? ⟨bx, 4, none⟩ = some (.int .i64 m.cond.op) := by rw [cell_of_heap bk]; rfl
  have c5 : W2.cell? ⟨bx, 5, none⟩ = some (.string (bs m.cond.name)) := by rw [cell_of_heap bk]; rfl
  have c6 : W2.cell? ⟨bx, 6, none⟩ = some (.int .i64 m.cond.cmp) := by rw [cell_of_heap bk]; rfl
  have c7 : W2.cell? ⟨bx, 7, none⟩ = some (.int .i64 m.cond.num) := by rw [cell_of_heap bk]; rfl
  have c8 : W2.cell? ⟨bx, 8, none⟩ = some (.slice y n c) := by rw [cell_of_heap bk]; rfl
  have c9 : W2.cell? ⟨bx, 9, none⟩ = some (.int .i64 m.fr) := by rw [cell_of_heap bk]; rfl
  have c10 : W2.cell? ⟨bx, 10, none⟩ = some (.int .i64 m.un) := by rw [cell_of_heap bk]; rfl
  have c11 : W2.cell? ⟨bx, 11, none⟩ = some (.int .i64 m.wi) := by rw [cell_of_heap bk]; rfl
  clear bk
  by_cases hE : E = 0
  rotate_left
  · have hE' : ((E : Int) != 0) = true := by simpa using hE
    have HE0 : Hid (¬ textE m.cond = 0) := by rw [← HE.out]; exact hE
    clear hE
    have HE : Hid (textM m = ([], 1)) := by
      show _ = _
      unfold textM wrM
      simp [HE0.out]
    go_wp2_with fail
    go_ret2
    exact ⟨by rw [HE.out]; rfl, HO.out.base⟩
  have hE' : ((E : Int) != 0) = false := by simpa using hE
  rw [if_pos hE] at HS
  have HE0 : Hid (textE m.cond = 0) := by rw [← HE.out]; exact hE
  clear hE
  go_wp2_with fail
  go_at_call 26
  refine (named_c m y n c W2 HML.out).mono ?_
  rintro e W3 ⟨rfl, hb⟩
  replace HO := Lib.hid (HO.out.below hb)
  clear hb
  (try clear hx0 c0 c1 c2 c3 c4 c5 c6 c7 c8 c9 c10 c11)
  obtain ⟨bk, -⟩ := HO.out.blk
  have hx0 := lt_of_block bk
  have c0 : W3.cell? ⟨bx, 0, none⟩ = some (.string (bs m.id)) := by rw [cell_of_heap bk]; rfl
  have c1 : W3.cell? ⟨bx, 1, none⟩ = some (.string (bs m.auth)) := by rw [cell_of_heap bk]; rfl
  have c2 : W3.cell? ⟨bx, 2, none⟩ = some (.int .i64 m.kind) := by rw [cell_of_heap bk]; rfl
  have c3 : W3.cell? ⟨bx, 3, none⟩ = some (.string (bs m.target)) := by rw [cell_of_heap bk]; rfl
  have c4 : W3.cell? ⟨bx, 4, none⟩ = some (.int .i64 m.cond.op) := by rw [cell_of_heap bk]; rfl
  have c5 : W3.cell? ⟨bx, 5, none⟩ = some (.string (bs m.cond.name)) := by rw [cell_of_heap bk]; rfl
  have c6 : W3.cell? ⟨bx, 6, none⟩ = some (.int .i64 m.cond.cmp) := by rw [cell_of_heap bk]; rfl
  have c7 : W3.cell? ⟨bx, 7, none⟩ = some (.int .i64 m.cond.num) := by rw [cell_of_heap bk]; rfl
  have c8 : W3.cell? ⟨bx, 8, none⟩ = some (.slice y n c) := by rw [cell_of_heap bk]; rfl
  have c9 : W3.cell? ⟨bx, 9, none⟩ = some (.int .i64 m.fr) := by rw [cell_of_heap bk]; rfl
  have c10 : W3.cell? ⟨bx, 10, none⟩ = some (.int .i64 m.un) := by rw [cell_of_heap bk]; rfl
  have c11 : W3.cell? ⟨bx, 11, none⟩ = some (.int .i64 m.wi) := by rw [cell_of_heap bk]; rfl
  clear bk
  obtain ⟨q, hq⟩ : ∃ q, q = namedM m := ⟨_, rfl⟩
  rw [← hq]
  have HP := Lib.hid hq
  clear hq
  cases q
  · have HE : Hid (textM m = ([], 1)) := by
      show _ = _
      unfold textM wrM
      rw [← HP.out]; simp
    go_wp2_with fail
    go_ret2
    exact ⟨by rw [HE.out]; rfl, HO.out.base⟩
  go_wp2_with fail
  go_at_call 27
  refine (datedM_c m y n c W3).mono ?_
  rintro e W4 ⟨rfl, hb⟩
  replace HO := Lib.hid (HO.out.below hb)
  clear hb
  (try clear hx0 c0 c1 c2 c3 c4 c5 c6 c7 c8 c9 c10 c11)
  obtain ⟨bk, -⟩ := HO.out.blk
  have hx0 := lt_of_block bk
  have c0 : W4.cell? ⟨bx, 0, none⟩ = some (.string (bs m.id)) := by rw [cell_of_heap bk]; rfl
  have c1 : W4.cell? ⟨bx, 1, none⟩ = some (.string (bs m.auth)) := by rw [cell_of_heap bk]; rfl
  have c2 : W4.cell? ⟨bx, 2, none⟩ = some (.int .i64 m.kind) := by rw [cell_of_heap bk]; rfl
  have c3 : W4.cell? ⟨bx, 3, none⟩ = some (.string (bs m.target)) := by rw [cell_of_heap bk]; rfl
  have c4 : W4.cell? ⟨bx, 4, none⟩ = some (.int .i64 m.cond.op) := by rw [cell_of_heap bk]; rfl
  have c5 : W4.cell? ⟨bx, 5, none⟩ = some (.string (bs m.cond.name)) := by rw [cell_of_heap bk]; rfl
  have c6 : W4.cell? ⟨bx, 6, none⟩ = some (.int .i64 m.cond.cmp) := by rw [cell_of_heap bk]; rfl
  have c7 : W4.cell? ⟨bx, 7, none⟩ = some (.int .i64 m.cond.num) := by rw [cell_of_heap bk]; rfl
  have c8 : W4.cell? ⟨bx, 8, none⟩ = some (.slice y n c) := by rw [cell_of_heap bk]; rfl
  have c9 : W4.cell? ⟨bx, 9, none⟩ = some (.int .i64 m.fr) := by rw [cell_of_heap bk]; rfl
  have c10 : W4.cell? ⟨bx, 10, none⟩ = some (.int .i64 m.un) := by rw [cell_of_heap bk]; rfl
  have c11 : W4.cell? ⟨bx, 11, none⟩ = some (.int .i64 m.wi) := by rw [cell_of_heap bk]; rfl
  clear bk
  obtain ⟨q, hq⟩ : ∃ q, q = datedB m.kind m.fr m.un m.wi := ⟨_, rfl⟩
  rw [← hq]
  have HT := Lib.hid hq
  clear hq
  cases q
  · have HE : Hid (textM m = ([], 1)) := by
      show _ = _
      unfold textM wrM
      rw [← HT.out]; simp
    go_wp2_with fail
    go_ret2
    exact ⟨by rw [HE.out]; rfl, HO.out.base⟩
  have HW : Hid (wrM m = true) := by
    show _ = _
    unfold wrM
    rw [← HP.out, ← HT.out, HE0.out]
    rfl
  clear HP HT hE' HE0
  go_upto_region 5 with fail
  obtain ⟨b6, hb6⟩ : ∃ x, x = W4.heap.size := ⟨_, rfl⟩
  obtain ⟨W5, hW5⟩ : ∃ W, W = W4.alloc (.cells #[.slice none 0 0] 58) := ⟨_, rfl⟩
  have h2 := HO.out.box (.cells #[.slice none 0 0] 58 (0, 0))
  rw [← hb6, ← hW5] at h2 ⊢
  have h3 : Owns w W5 (txP (.slice none 0 0) [] :: one b6 58 (.slice none 0 0) :: blk bx (mobj m (.slice y n c)) :: []) := h2.txNew
  replace HO := Lib.hid (h3.re [2, 0, 1])
  clear h2 h3 hb6 hW5
  (try clear hx0 c0 c1 c2 c3 c4 c5 c6 c7 c8 c9 c10 c11)
  obtain ⟨bk, -⟩ := HO.out.blk
  have hx0 := lt_of_block bk
  have c0 : W5.cell? ⟨bx, 0, none⟩ = some (.string (bs m.id)) := by rw [cell_of_heap bk]; rfl
  have c1 : W5.cell? ⟨bx, 1, none⟩ = some (.string (bs m.auth)) := by rw [cell_of_heap bk]; rfl
  have c2 : W5.cell? ⟨bx, 2, none⟩ = some (.int .i64 m.kind) := by rw [cell_of_heap bk]; rfl
  have c3 : W5.cell? ⟨bx, 3, none⟩ = some (.string (bs m.target)) := by rw [cell_of_heap bk]; rfl
  have c4 : W5.cell? ⟨bx, 4, none⟩ = some (.int .i64 m.cond.op) := by rw [cell_of_heap bk]; rfl
  have c5 : W5.cell? ⟨bx, 5, none⟩ = some (.string (bs m.cond.name)) := by rw [cell_of_heap bk]; rfl
  have c6 : W5.cell? ⟨bx, 6, none⟩ = some (.int .i64 m.cond.cmp) := by rw [cell_of_heap bk]; rfl
  have c7 : W5.cell? ⟨bx, 7, none⟩ = some (.int .i64 m.cond.num) := by rw [cell_of_heap bk]; rfl
  have c8 : W5.cell? ⟨bx, 8, none⟩ = some (.slice y n c) := by rw [cell_of_heap bk]; rfl
  have c9 : W5.cell? ⟨bx, 9, none⟩ = some (.int .i64 m.fr) := by rw [cell_of_heap bk]; rfl
  have c10 : W5.cell? ⟨bx, 10, none⟩ = some (.int .i64 m.un) := by rw [cell_of_heap bk]; rfl
  have c11 : W5.cell? ⟨bx, 11, none⟩ = some (.int .i64 m.wi) := by rw [cell_of_heap bk]; rfl
  clear bk
  have mp0 := tmapP0 W5
  have mp1 := tmapP1 W5
  have mp2 := tmapP2 W5
  have mp3 := tmapP3 W5
  have mp4 := tmapGet W5 m.kind
  go_wp2_with fail
  obtain ⟨Wm, hWm⟩ : ∃ W, W = W5.alloc (.map tEs 3) := ⟨_, rfl⟩
  have hsz : Wm.heap.size = W5.heap.size + 1 := by rw [hWm]; simp
  replace HO := Lib.hid (HO.out.alloc (.map tEs 3))
  rw [← hWm] at HO
  rw [← hWm, ← hsz]
  clear hWm hsz mp0 mp1 mp2 mp3 mp4
  obtain ⟨L0, hL0⟩ : ∃ L : List Bytes, L = [] := ⟨_, rfl⟩
  have hlL0 : L0.length ≤ 0 := by rw [hL0]; simp
  rw [← hL0] at HO
  replace hL0 := Lib.hid hL0
  -- Wm the world, true whether, [wKind m.kind] the words, .string (bs (wKind m.kind)) their cells, 1 how many, W6 the next world, L0 the words so far, L1 the next words, 1 a bound
  clear hx0 c0 c1 c2 c3 c4 c5 c6 c7 c8 c9 c10 c11
  obtain ⟨gs, hgs⟩ : ∃ x, x = (Wm).heap.size := ⟨_, rfl⟩
  obtain ⟨Wa, hWa⟩ : ∃ W, W = (Wm).alloc (.cells #[.string (bs (wKind m.kind))] 9) := ⟨_, rfl⟩
  have hc1 := cells_of (Wm) [wKind m.kind]
  rw [← hgs] at hc1
  have hc2 : ∀ (j : Nat) (s : Bytes), ([wKind m.kind])[j]? = some s → Wa.cell? ⟨gs, j, none⟩ = some (.string (bs s)) := by rw [hWa]; exact hc1
  have hlt : gs < Wa.heap.size := by rw [hWa, hgs]; simp
  replace HO := Lib.hid (HO.out.alloc (.cells #[.string (bs (wKind m.kind))] 9 (0, 0)))
  rw [← hWa] at HO
  rw [← hgs, ← hWa]
  clear hWa hgs hc1
  have hx := madd_c _ true L0 [wKind m.kind] _ gs 1 Wa rfl hlt hc2 (HO.out.re [1, 2, 0]) (by omega) (by omega)
  refine hx.mono ?_
  clear hx
  rintro e W6 ⟨rfl, v, ho⟩
  clear hc2 hlt
  obtain ⟨L1, hL1⟩ : ∃ X, X = if true = true then L0 ++ [wKind m.kind] else L0 := ⟨_, rfl⟩
  rw [← hL1] at ho
  have hlL1 : (L1).length ≤ 1 := by rw [hL1]; split <;> first | omega | (simp only [List.length_append, List.length_cons, List.length_nil]; omega)
  replace hL1 := Lib.hid hL1
  replace HO := Lib.hid (ho.re [2, 0, 1])
  clear ho
  (try clear hx0 c0 c1 c2 c3 c4 c5 c6 c7 c8 c9 c10 c11)
  obtain ⟨bk, -⟩ := HO.out.blk
  have hx0 := lt_of_block bk
  have c0 : W6.cell? ⟨bx, 0, none⟩ = some (.string (bs m.id)) := by rw [cell_of_heap bk]; rfl
  have c1 : W6.cell? ⟨bx, 1, none⟩ = some (.string (bs m.auth)) := by rw [cell_of_heap bk]; rfl
  have c2 : W6.cell? ⟨bx, 2, none⟩ = some (.int .i64 m.kind) := by rw [cell_of_heap bk]; rfl
  have c3 : W6.cell? ⟨bx, 3, none⟩ = some (.string (bs m.target)) := by rw [cell_of_heap bk]; rfl
  have c4 : W6.cell? ⟨bx, 4, none⟩ = some (.int .i64 m.cond.op) := by rw [cell_of_heap bk]; rfl
  have c5 : W6.cell? ⟨bx, 5, none⟩ = some (.string (bs m.cond.name)) := by rw [cell_of_heap bk]; rfl
  have c6 : W6.cell? ⟨bx, 6, none⟩ = some (.int .i64 m.cond.cmp) := by rw [cell_of_heap bk]; rfl
  have c7 : W6.cell? ⟨bx, 7, none⟩ = some (.int .i64 m.cond.num) := by rw [cell_of_heap bk]; rfl
  have c8 : W6.cell? ⟨bx, 8, none⟩ = some (.slice y n c) := by rw [cell_of_heap bk]; rfl
  have c9 : W6.cell? ⟨bx, 9, none⟩ = some (.int .i64 m.fr) := by rw [cell_of_heap bk]; rfl
  have c10 : W6.cell? ⟨bx, 10, none⟩ = some (.int .i64 m.un) := by rw [cell_of_heap bk]; rfl
  have c11 : W6.cell? ⟨bx, 11, none⟩ = some (.int .i64 m.wi) := by rw [cell_of_heap bk]; rfl
  clear bk
  go_wp2_with fail
  obtain ⟨q7, hq7⟩ : ∃ q, q = !List.isEmpty m.target := ⟨_, rfl⟩
  rw [← hq7]
  replace hq7 := Lib.hid hq7
  -- W6 the world, q7 whether, [m.target] the words, .string (bs m.target) their cells, 1 how many, W7 the next world, L1 the words so far, L2 the next words, 2 a bound
  clear hx0 c0 c1 c2 c3 c4 c5 c6 c7 c8 c9 c10 c11
  obtain ⟨gs, hgs⟩ : ∃ x, x = (W6).heap.size := ⟨_, rfl⟩
  obtain ⟨Wa, hWa⟩ : ∃ W, W = (W6).alloc (.cells #[.string (bs m.target)] 9) := ⟨_, rfl⟩
  have hc1 := cells_of (W6) [m.target]
  rw [← hgs] at hc1
  have hc2 : ∀ (j : Nat) (s : Bytes), ([m.target])[j]? = some s → Wa.cell? ⟨gs, j, none⟩ = some (.string (bs s)) := by rw [hWa]; exact hc1
  have hlt : gs < Wa.heap.size := by rw [hWa, hgs]; simp
  replace HO := Lib.hid (HO.out.alloc (.cells #[.string (bs m.target)] 9 (0, 0)))
  rw [← hWa] at HO
  rw [← hgs, ← hWa]
  clear hWa hgs hc1
  have hx := madd_c _ q7 L1 [m.target] _ gs 1 Wa rfl hlt hc2 (HO.out.re [1, 2, 0]) (by omega) (by omega)
  refine hx.mono ?_
  clear hx
  rintro e W7 ⟨rfl, v, ho⟩
  clear hc2 hlt
  obtain ⟨L2, hL2⟩ : ∃ X, X = if q7 = true then L1 ++ [m.target] else L1 := ⟨_, rfl⟩
  rw [← hL2] at ho
  have hlL2 : (L2).length ≤ 2 := by rw [hL2]; split <;> first | omega | (simp only [List.length_append, List.length_cons, List.length_nil]; omega)
  replace hL2 := Lib.hid hL2
  replace HO := Lib.hid (ho.re [2, 0, 1])
  clear ho
  (try clear hx0 c0 c1 c2 c3 c4 c5 c6 c7 c8 c9 c10 c11)
  obtain ⟨bk, -⟩ := HO.out.blk
  have hx0 := lt_of_block bk
  have c0 : W7.cell? ⟨bx, 0, none⟩ = some (.string (bs m.id)) := by rw [cell_of_heap bk]; rfl
  have c1 : W7.cell? ⟨bx, 1, none⟩ = some (.string (bs m.auth)) := by rw [cell_of_heap bk]; rfl
  have c2 : W7.cell? ⟨bx, 2, none⟩ = some (.int .i64 m.kind) := by rw [cell_of_heap bk]; rfl
  have c3 : W7.cell? ⟨bx, 3, none⟩ = some (.string (bs m.target)) := by rw [cell_of_heap bk]; rfl
  have c4 : W7.cell? ⟨bx, 4, none⟩ = some (.int .i64 m.cond.op) := by rw [cell_of_heap bk]; rfl
  have c5 : W7.cell? ⟨bx, 5, none⟩ = some (.string (bs m.cond.name)) := by rw [cell_of_heap bk]; rfl
  have c6 : W7.cell? ⟨bx, 6, none⟩ = some (.int .i64 m.cond.cmp) := by rw [cell_of_heap bk]; rfl
  have c7 : W7.cell? ⟨bx, 7, none⟩ = some (.int .i64 m.cond.num) := by rw [cell_of_heap bk]; rfl
  have c8 : W7.cell? ⟨bx, 8, none⟩ = some (.slice y n c) := by rw [cell_of_heap bk]; rfl
  have c9 : W7.cell? ⟨bx, 9, none⟩ = some (.int .i64 m.fr) := by rw [cell_of_heap bk]; rfl
  have c10 : W7.cell? ⟨bx, 10, none⟩ = some (.int .i64 m.un) := by rw [cell_of_heap bk]; rfl
  have c11 : W7.cell? ⟨bx, 11, none⟩ = some (.int .i64 m.wi) := by rw [cell_of_heap bk]; rfl
  clear bk
  go_wp2_with fail
  -- W7 the world, true whether, [m.id, wOf, m.auth] the words, .string (bs m.id), .string ⟨#[111, 102]⟩, .string (bs m.auth) their cells, 3 how many, W8 the next world, L2 the words so far, L3 the next words, 5 a bound
  clear hx0 c0 c1 c2 c3 c4 c5 c6 c7 c8 c9 c10 c11
  obtain ⟨gs, hgs⟩ : ∃ x, x = (W7).heap.size := ⟨_, rfl⟩
  obtain ⟨Wa, hWa⟩ : ∃ W, W = (W7).alloc (.cells #[.string (bs m.id), .string ⟨#[111, 102]⟩, .string (bs m.auth)] 9) := ⟨_, rfl⟩
  have hc1 := cells_of (W7) [m.id, wOf, m.auth]
  rw [← hgs] at hc1
  have hc2 : ∀ (j : Nat) (s : Bytes), ([m.id, wOf, m.auth])[j]? = some s → Wa.cell? ⟨gs, j, none⟩ = some (.string (bs s)) := by rw [hWa]; exact hc1
  have hlt : gs < Wa.heap.size := by rw [hWa, hgs]; simp
  replace HO := Lib.hid (HO.out.alloc (.cells #[.string (bs m.id), .string ⟨#[111, 102]⟩, .string (bs m.auth)] 9 (0, 0)))
  rw [← hWa] at HO
  rw [← hgs, ← hWa]
  clear hWa hgs hc1
  have hx := madd_c _ true L2 [m.id, wOf, m.auth] _ gs 3 Wa rfl hlt hc2 (HO.out.re [1, 2, 0]) (by omega) (by omega)
  refine hx.mono ?_
  clear hx
  rintro e W8 ⟨rfl, v, ho⟩
  clear hc2 hlt
  obtain ⟨L3, hL3⟩ : ∃ X, X = if true = true then L2 ++ [m.id, wOf, m.auth] else L2 := ⟨_, rfl⟩
  rw [← hL3] at ho
  have hlL3 : (L3).length ≤ 5 := by rw [hL3]; split <;> first | omega | (simp only [List.length_append, List.length_cons, List.length_nil]; omega)
  replace hL3 := Lib.hid hL3
  replace HO := Lib.hid (ho.re [2, 0, 1])
  clear ho
  (try clear hx0 c0 c1 c2 c3 c4 c5 c6 c7 c8 c9 c10 c11)
  obtain ⟨bk, -⟩ := HO.out.blk
  have hx0 := lt_of_block bk
  have c0 : W8.cell? ⟨bx, 0, none⟩ = some (.string (bs m.id)) := by rw [cell_of_heap bk]; rfl
  have c1 : W8.cell? ⟨bx, 1, none⟩ = some (.string (bs m.auth)) := by rw [cell_of_heap bk]; rfl
  have c2 : W8.cell? ⟨bx, 2, none⟩ = some (.int .i64 m.kind) := by rw [cell_of_heap bk]; rfl
  have c3 : W8.cell? ⟨bx, 3, none⟩ = some (.string (bs m.target)) := by rw [cell_of_heap bk]; rfl
  have c4 : W8.cell? ⟨bx, 4, none⟩ = some (.int .i64 m.cond.op) := by rw [cell_of_heap bk]; rfl
  have c5 : W8.cell? ⟨bx, 5, none⟩ = some (.string (bs m.cond.name)) := by rw [cell_of_heap bk]; rfl
  have c6 : W8.cell? ⟨bx, 6, none⟩ = some (.int .i64 m.cond.cmp) := by rw [cell_of_heap bk]; rfl
  have c7 : W8.cell? ⟨bx, 7, none⟩ = some (.int .i64 m.cond.num) := by rw [cell_of_heap bk]; rfl
  have c8 : W8.cell? ⟨bx, 8, none⟩ = some (.slice y n c) := by rw [cell_of_heap bk]; rfl
  have c9 : W8.cell? ⟨bx, 9, none⟩ = some (.int .i64 m.fr) := by rw [cell_of_heap bk]; rfl
  have c10 : W8.cell? ⟨bx, 10, none⟩ = some (.int .i64 m.un) := by rw [cell_of_heap bk]; rfl
  have c11 : W8.cell? ⟨bx, 11, none⟩ = some (.int .i64 m.wi) := by rw [cell_of_heap bk]; rfl
  clear bk
  go_wp2_with fail
  obtain ⟨q9, hq9⟩ : ∃ q, q = (m.cond.op != 1) := ⟨_, rfl⟩
  rw [← hq9]
  replace hq9 := Lib.hid hq9
  -- W8 the world, q9 whether, [wIf, S] the words, .string ⟨#[105, 102]⟩, .string (bs S) their cells, 2 how many, W9 the next world, L3 the words so far, L4 the next words, 7 a bound
  clear hx0 c0 c1 c2 c3 c4 c5 c6 c7 c8 c9 c10 c11
  obtain ⟨gs, hgs⟩ : ∃ x, x = (W8).heap.size := ⟨_, rfl⟩
  obtain ⟨Wa, hWa⟩ : ∃ W, W = (W8).alloc (.cells #[.string ⟨#[105, 102]⟩, .string (bs S)] 9) := ⟨_, rfl⟩
  have hc1 := cells_of (W8) [wIf, S]
  rw [← hgs] at hc1
  have hc2 : ∀ (j : Nat) (s : Bytes), ([wIf, S])[j]? = some s → Wa.cell? ⟨gs, j, none⟩ = some (.string (bs s)) := by rw [hWa]; exact hc1
  have hlt : gs < Wa.heap.size := by rw [hWa, hgs]; simp
  replace HO := Lib.hid (HO.out.alloc (.cells #[.string ⟨#[105, 102]⟩, .string (bs S)] 9 (0, 0)))
  rw [← hWa] at HO
  rw [← hgs, ← hWa]
  clear hWa hgs hc1
  have hx := madd_c _ q9 L3 [wIf, S] _ gs 2 Wa rfl hlt hc2 (HO.out.re [1, 2, 0]) (by omega) (by omega)
  refine hx.mono ?_
  clear hx
  rintro e W9 ⟨rfl, v, ho⟩
  clear hc2 hlt
  obtain ⟨L4, hL4⟩ : ∃ X, X = if q9 = true then L3 ++ [wIf, S] else L3 := ⟨_, rfl⟩
  rw [← hL4] at ho
  have hlL4 : (L4).length ≤ 7 := by rw [hL4]; split <;> first | omega | (simp only [List.length_append, List.length_cons, List.length_nil]; omega)
  replace hL4 := Lib.hid hL4
  replace HO := Lib.hid (ho.re [2, 0, 1])
  clear ho
  (try clear hx0 c0 c1 c2 c3 c4 c5 c6 c7 c8 c9 c10 c11)
  obtain ⟨bk, -⟩ := HO.out.blk
  have hx0 := lt_of_block bk
  have c0 : W9.cell? ⟨bx, 0, none⟩ = some (.string (bs m.id)) := by rw [cell_of_heap bk]; rfl
  have c1 : W9.cell? ⟨bx, 1, none⟩ = some (.string (bs m.auth)) := by rw [cell_of_heap bk]; rfl
  have c2 : W9.cell? ⟨bx, 2, none⟩ = some (.int .i64 m.kind) := by rw [cell_of_heap bk]; rfl
  have c3 : W9.cell? ⟨bx, 3, none⟩ = some (.string (bs m.target)) := by rw [cell_of_heap bk]; rfl
  have c4 : W9.cell? ⟨bx, 4, none⟩ = some (.int .i64 m.cond.op) := by rw [cell_of_heap bk]; rfl
  have c5 : W9.cell? ⟨bx, 5, none⟩ = some (.string (bs m.cond.name)) := by rw [cell_of_heap bk]; rfl
  have c6 : W9.cell? ⟨bx, 6, none⟩ = some (.int .i64 m.cond.cmp) := by rw [cell_of_heap bk]; rfl
  have c7 : W9.cell? ⟨bx, 7, none⟩ = some (.int .i64 m.cond.num) := by rw [cell_of_heap bk]; rfl
  have c8 : W9.cell? ⟨bx, 8, none⟩ = some (.slice y n c) := by rw [cell_of_heap bk]; rfl
  have c9 : W9.cell? ⟨bx, 9, none⟩ = some (.int .i64 m.fr) := by rw [cell_of_heap bk]; rfl
  have c10 : W9.cell? ⟨bx, 10, none⟩ = some (.int .i64 m.un) := by rw [cell_of_heap bk]; rfl
  have c11 : W9.cell? ⟨bx, 11, none⟩ = some (.int .i64 m.wi) := by rw [cell_of_heap bk]; rfl
  clear bk
  go_wp2_with fail
  have HB : Hid ((0 ≤ m.fr ∧ m.fr ≤ 100000) ∧ (-1 ≤ m.un ∧ m.un ≤ 100000) ∧ (0 ≤ m.wi ∧ m.wi ≤ 400)) := by
    have h := wrM_parts HW.out
    have h1 := h.fr
    have h2 := h.un
    have h3 := h.wi
    exact Lib.hid ⟨h1, by omega, h3⟩
  -- fr the number's field, W9 the world, W10 the next one
  go_at_call 29
  refine (ItoaAll_c m.fr W9 (by have := HB.out; omega) (by have := HB.out; omega) (HSt.out.below HO.out.base)).mono ?_
  rintro e W10 ⟨rfl, hb⟩
  replace HO := Lib.hid (HO.out.below hb)
  clear hb
  (try clear hx0 c0 c1 c2 c3 c4 c5 c6 c7 c8 c9 c10 c11)
  obtain ⟨bk, -⟩ := HO.out.blk
  have hx0 := lt_of_block bk
  have c0 : W10.cell? ⟨bx, 0, none⟩ = some (.string (bs m.id)) := by rw [cell_of_heap bk]; rfl
  have c1 : W10.cell? ⟨bx, 1, none⟩ = some (.string (bs m.auth)) := by rw [cell_of_heap bk]; rfl
  have c2 : W10.cell? ⟨bx, 2, none⟩ = some (.int .i64 m.kind) := by rw [cell_of_heap bk]; rfl
  have c3 : W10.cell? ⟨bx, 3, none⟩ = some (.string (bs m.target)) := by rw [cell_of_heap bk]; rfl
  have c4 : W10.cell? ⟨bx, 4, none⟩ = some (.int .i64 m.cond.op) := by rw [cell_of_heap bk]; rfl
  have c5 : W10.cell? ⟨bx, 5, none⟩ = some (.string (bs m.cond.name)) := by rw [cell_of_heap bk]; rfl
  have c6 : W10.cell? ⟨bx, 6, none⟩ = some (.int .i64 m.cond.cmp) := by rw [cell_of_heap bk]; rfl
  have c7 : W10.cell? ⟨bx, 7, none⟩ = some (.int .i64 m.cond.num) := by rw [cell_of_heap bk]; rfl
  have c8 : W10.cell? ⟨bx, 8, none⟩ = some (.slice y n c) := by rw [cell_of_heap bk]; rfl
  have c9 : W10.cell? ⟨bx, 9, none⟩ = some (.int .i64 m.fr) := by rw [cell_of_heap bk]; rfl
  have c10 : W10.cell? ⟨bx, 10, none⟩ = some (.int .i64 m.un) := by rw [cell_of_heap bk]; rfl
  have c11 : W10.cell? ⟨bx, 11, none⟩ = some (.int .i64 m.wi) := by rw [cell_of_heap bk]; rfl
  clear bk
  go_wp2_with fail
  -- W10 the world, true whether, [wFrom, Lib.itoa m.fr] the words, .string ⟨#[102, 114, 111, 109]⟩, .string (bs (Lib.itoa m.fr)) their cells, 2 how many, W11 the next world, L4 the words so far, L5 the next words, 9 a bound
  clear hx0 c0 c1 c2 c3 c4 c5 c6 c7 c8 c9 c10 c11
  obtain ⟨gs, hgs⟩ : ∃ x, x = (W10).heap.size := ⟨_, rfl⟩
  obtain ⟨Wa, hWa⟩ : ∃ W, W = (W10).alloc (.cells #[.string ⟨#[102, 114, 111, 109]⟩, .string (bs (Lib.itoa m.fr))] 9) := ⟨_, rfl⟩
  have hc1 := cells_of (W10) [wFrom, Lib.itoa m.fr]
  rw [← hgs] at hc1
  have hc2 : ∀ (j : Nat) (s : Bytes), ([wFrom, Lib.itoa m.fr])[j]? = some s → Wa.cell? ⟨gs, j, none⟩ = some (.string (bs s)) := by rw [hWa]; exact hc1
  have hlt : gs < Wa.heap.size := by rw [hWa, hgs]; simp
  replace HO := Lib.hid (HO.out.alloc (.cells #[.string ⟨#[102, 114, 111, 109]⟩, .string (bs (Lib.itoa m.fr))] 9 (0, 0)))
  rw [← hWa] at HO
  rw [← hgs, ← hWa]
  clear hWa hgs hc1
  have hx := madd_c _ true L4 [wFrom, Lib.itoa m.fr] _ gs 2 Wa rfl hlt hc2 (HO.out.re [1, 2, 0]) (by omega) (by omega)
  refine hx.mono ?_
  clear hx
  rintro e W11 ⟨rfl, v, ho⟩
  clear hc2 hlt
  obtain ⟨L5, hL5⟩ : ∃ X, X = if true = true then L4 ++ [wFrom, Lib.itoa m.fr] else L4 := ⟨_, rfl⟩
  rw [← hL5] at ho
  have hlL5 : (L5).length ≤ 9 := by rw [hL5]; split <;> first | omega | (simp only [List.length_append, List.length_cons, List.length_nil]; omega)
  replace hL5 := Lib.hid hL5
  replace HO := Lib.hid (ho.re [2, 0, 1])
  clear ho
  (try clear hx0 c0 c1 c2 c3 c4 c5 c6 c7 c8 c9 c10 c11)
  obtain ⟨bk, -⟩ := HO.out.blk
  have hx0 := lt_of_block bk
  have c0 : W11.cell? ⟨bx, 0, none⟩ = some (.string (bs m.id)) := by rw [cell_of_heap bk]; rfl
  have c1 : W11.cell? ⟨bx, 1, none⟩ = some (.string (bs m.auth)) := by rw [cell_of_heap bk]; rfl
  have c2 : W11.cell? ⟨bx, 2, none⟩ = some (.int .i64 m.kind) := by rw [cell_of_heap bk]; rfl
  have c3 : W11.cell? ⟨bx, 3, none⟩ = some (.string (bs m.target)) := by rw [cell_of_heap bk]; rfl
  have c4 : W11.cell? ⟨bx, 4, none⟩ = some (.int .i64 m.cond.op) := by rw [cell_of_heap bk]; rfl
  have c5 : W11.cell? ⟨bx, 5, none⟩ = some (.string (bs m.cond.name)) := by rw [cell_of_heap bk]; rfl
  have c6 : W11.cell? ⟨bx, 6, none⟩ = some (.int .i64 m.cond.cmp) := by rw [cell_of_heap bk]; rfl
  have c7 : W11.cell? ⟨bx, 7, none⟩ = some (.int .i64 m.cond.num) := by rw [cell_of_heap bk]; rfl
  have c8 : W11.cell? ⟨bx, 8, none⟩ = some (.slice y n c) := by rw [cell_of_heap bk]; rfl
  have c9 : W11.cell? ⟨bx, 9, none⟩ = some (.int .i64 m.fr) := by rw [cell_of_heap bk]; rfl
  have c10 : W11.cell? ⟨bx, 10, none⟩ = some (.int .i64 m.un) := by rw [cell_of_heap bk]; rfl
  have c11 : W11.cell? ⟨bx, 11, none⟩ = some (.int .i64 m.wi) := by rw [cell_of_heap bk]; rfl
  clear bk
  go_upto_region 11 with fail
  -- un the field, x its number, x the spelling, x the truth's name, W11 the world, W12 the drawn world, W13 the next one
  have ho := HO.out.drew
  obtain ⟨W12, hWx⟩ : ∃ W, W = World.drew W11 := ⟨_, rfl⟩
  rw [← hWx] at ho
  replace HO := Lib.hid ho
  refine wp_region_can [6] (List.range 9) (by kernel_rfl) (by kernel_rfl) ?_
  rw [← hWx]
  clear ho hWx
  (try clear hx0 c0 c1 c2 c3 c4 c5 c6 c7 c8 c9 c10 c11)
  obtain ⟨bk, -⟩ := HO.out.blk
  have hx0 := lt_of_block bk
  have c0 : W12.cell? ⟨bx, 0, none⟩ = some (.string (bs m.id)) := by rw [cell_of_heap bk]; rfl
  have c1 : W12.cell? ⟨bx, 1, none⟩ = some (.string (bs m.auth)) := by rw [cell_of_heap bk]; rfl
  have c2 : W12.cell? ⟨bx, 2, none⟩ = some (.int .i64 m.kind) := by rw [cell_of_heap bk]; rfl
  have c3 : W12.cell? ⟨bx, 3, none⟩ = some (.string (bs m.target)) := by rw [cell_of_heap bk]; rfl
  have c4 : W12.cell? ⟨bx, 4, none⟩ = some (.int .i64 m.cond.op) := by rw [cell_of_heap bk]; rfl
  have c5 : W12.cell? ⟨bx, 5, none⟩ = some (.string (bs m.cond.name)) := by rw [cell_of_heap bk]; rfl
  have c6 : W12.cell? ⟨bx, 6, none⟩ = some (.int .i64 m.cond.cmp) := by rw [cell_of_heap bk]; rfl
  have c7 : W12.cell? ⟨bx, 7, none⟩ = some (.int .i64 m.cond.num) := by rw [cell_of_heap bk]; rfl
  have c8 : W12.cell? ⟨bx, 8, none⟩ = some (.slice y n c) := by rw [cell_of_heap bk]; rfl
  have c9 : W12.cell? ⟨bx, 9, none⟩ = some (.int .i64 m.fr) := by rw [cell_of_heap bk]; rfl
  have c10 : W12.cell? ⟨bx, 10, none⟩ = some (.int .i64 m.un) := by rw [cell_of_heap bk]; rfl
  have c11 : W12.cell? ⟨bx, 11, none⟩ = some (.int .i64 m.wi) := by rw [cell_of_heap bk]; rfl
  clear bk
  iterate 6 (refine cl_do rfl rfl rfl (by first | rfl | simp [okB, lenV, plainV, Act.eval]) (fun _ _ => ?_); go_wp2_with fail)
  refine cl_call rfl rfl (by first | rfl | simp [okB, lenV, plainV, Act.eval]) (fun _ _ => ?_)
  go_wp2_with fail
  go_at_call 29
  refine (ItoaAll_c m.un W12 (by have := HB.out; omega) (by have := HB.out; omega) (HSt.out.below HO.out.base)).mono ?_
  rintro e W13 ⟨rfl, hb⟩
  replace HO := Lib.hid (HO.out.below hb)
  go_wp2_with fail
  refine ⟨hb, ?_⟩
  clear hb
  (try clear hx0 c0 c1 c2 c3 c4 c5 c6 c7 c8 c9 c10 c11)
  obtain ⟨bk, -⟩ := HO.out.blk
  have hx0 := lt_of_block bk
  have c0 : W13.cell? ⟨bx, 0, none⟩ = some (.string (bs m.id)) := by rw [cell_of_heap bk]; rfl
  have c1 : W13.cell? ⟨bx, 1, none⟩ = some (.string (bs m.auth)) := by rw [cell_of_heap bk]; rfl
  have c2 : W13.cell? ⟨bx, 2, none⟩ = some (.int .i64 m.kind) := by rw [cell_of_heap bk]; rfl
  have c3 : W13.cell? ⟨bx, 3, none⟩ = some (.string (bs m.target)) := by rw [cell_of_heap bk]; rfl
  have c4 : W13.cell? ⟨bx, 4, none⟩ = some (.int .i64 m.cond.op) := by rw [cell_of_heap bk]; rfl
  have c5 : W13.cell? ⟨bx, 5, none⟩ = some (.string (bs m.cond.name)) := by rw [cell_of_heap bk]; rfl
  have c6 : W13.cell? ⟨bx, 6, none⟩ = some (.int .i64 m.cond.cmp) := by rw [cell_of_heap bk]; rfl
  have c7 : W13.cell? ⟨bx, 7, none⟩ = some (.int .i64 m.cond.num) := by rw [cell_of_heap bk]; rfl
  have c8 : W13.cell? ⟨bx, 8, none⟩ = some (.slice y n c) := by rw [cell_of_heap bk]; rfl
  have c9 : W13.cell? ⟨bx, 9, none⟩ = some (.int .i64 m.fr) := by rw [cell_of_heap bk]; rfl
  have c10 : W13.cell? ⟨bx, 10, none⟩ = some (.int .i64 m.un) := by rw [cell_of_heap bk]; rfl
  have c11 : W13.cell? ⟨bx, 11, none⟩ = some (.int .i64 m.wi) := by rw [cell_of_heap bk]; rfl
  clear bk
  iterate 2 (refine cl_do rfl rfl rfl (by first | rfl | simp [okB, lenV, plainV, Act.eval]) (fun _ _ => ?_); go_wp2_with fail)
  obtain ⟨q11, hq11⟩ : ∃ q, q = decide (0 ≤ m.un) := ⟨_, rfl⟩
  rw [← hq11]
  replace hq11 := Lib.hid hq11
  -- W13 the world, q11 whether, [wUntil, Lib.itoa m.un] the words, .string ⟨#[117, 110, 116, 105, 108]⟩, .string (bs (Lib.itoa m.un)) their cells, 2 how many, W14 the next world, L5 the words so far, L6 the next words, 11 a bound
  clear hx0 c0 c1 c2 c3 c4 c5 c6 c7 c8 c9 c10 c11
  obtain ⟨gs, hgs⟩ : ∃ x, x = (W13).heap.size := ⟨_, rfl⟩
  obtain ⟨Wa, hWa⟩ : ∃ W, W = (W13).alloc (.cells #[.string ⟨#[117, 110, 116, 105, 108]⟩, .string (bs (Lib.itoa m.un))] 9) := ⟨_, rfl⟩
  have hc1 := cells_of (W13) [wUntil, Lib.itoa m.un]
  rw [← hgs] at hc1
  have hc2 : ∀ (j : Nat) (s : Bytes), ([wUntil, Lib.itoa m.un])[j]? = some s → Wa.cell? ⟨gs, j, none⟩ = some (.string (bs s)) := by rw [hWa]; exact hc1
  have hlt : gs < Wa.heap.size := by rw [hWa, hgs]; simp
  replace HO := Lib.hid (HO.out.alloc (.cells #[.string ⟨#[117, 110, 116, 105, 108]⟩, .string (bs (Lib.itoa m.un))] 9 (0, 0)))
  rw [← hWa] at HO
  rw [← hgs, ← hWa]
  clear hWa hgs hc1
  have hx := madd_c _ q11 L5 [wUntil, Lib.itoa m.un] _ gs 2 Wa rfl hlt hc2 (HO.out.re [1, 2, 0]) (by omega) (by omega)
  refine hx.mono ?_
  clear hx
  rintro e W14 ⟨rfl, v, ho⟩
  clear hc2 hlt
  obtain ⟨L6, hL6⟩ : ∃ X, X = if q11 = true then L5 ++ [wUntil, Lib.itoa m.un] else L5 := ⟨_, rfl⟩
  rw [← hL6] at ho
  have hlL6 : (L6).length ≤ 11 := by rw [hL6]; split <;> first | omega | (simp only [List.length_append, List.length_cons, List.length_nil]; omega)
  replace hL6 := Lib.hid hL6
  replace HO := Lib.hid (ho.re [2, 0, 1])
  clear ho
  (try clear hx0 c0 c1 c2 c3 c4 c5 c6 c7 c8 c9 c10 c11)
  obtain ⟨bk, -⟩ := HO.out.blk
  have hx0 := lt_of_block bk
  have c0 : W14.cell? ⟨bx, 0, none⟩ = some (.string (bs m.id)) := by rw [cell_of_heap bk]; rfl
  have c1 : W14.cell? ⟨bx, 1, none⟩ = some (.string (bs m.auth)) := by rw [cell_of_heap bk]; rfl
  have c2 : W14.cell? ⟨bx, 2, none⟩ = some (.int .i64 m.kind) := by rw [cell_of_heap bk]; rfl
  have c3 : W14.cell? ⟨bx, 3, none⟩ = some (.string (bs m.target)) := by rw [cell_of_heap bk]; rfl
  have c4 : W14.cell? ⟨bx, 4, none⟩ = some (.int .i64 m.cond.op) := by rw [cell_of_heap bk]; rfl
  have c5 : W14.cell? ⟨bx, 5, none⟩ = some (.string (bs m.cond.name)) := by rw [cell_of_heap bk]; rfl
  have c6 : W14.cell? ⟨bx, 6, none⟩ = some (.int .i64 m.cond.cmp) := by rw [cell_of_heap bk]; rfl
  have c7 : W14.cell? ⟨bx, 7, none⟩ = some (.int .i64 m.cond.num) := by rw [cell_of_heap bk]; rfl
  have c8 : W14.cell? ⟨bx, 8, none⟩ = some (.slice y n c) := by rw [cell_of_heap bk]; rfl
  have c9 : W14.cell? ⟨bx, 9, none⟩ = some (.int .i64 m.fr) := by rw [cell_of_heap bk]; rfl
  have c10 : W14.cell? ⟨bx, 10, none⟩ = some (.int .i64 m.un) := by rw [cell_of_heap bk]; rfl
  have c11 : W14.cell? ⟨bx, 11, none⟩ = some (.int .i64 m.wi) := by rw [cell_of_heap bk]; rfl
  clear bk
  go_wp2_with fail
  refine cl_nil ?_
  go_upto_region 12 with fail
  -- wi the field, x its number, x the spelling, x the truth's name, W14 the world, W15 the drawn world, W16 the next one
  have ho := HO.out.drew
  obtain ⟨W15, hWx⟩ : ∃ W, W = World.drew W14 := ⟨_, rfl⟩
  rw [← hWx] at ho
  replace HO := Lib.hid ho
  refine wp_region_can [6] (List.range 9) (by kernel_rfl) (by kernel_rfl) ?_
  rw [← hWx]
  clear ho hWx
  (try clear hx0 c0 c1 c2 c3 c4 c5 c6 c7 c8 c9 c10 c11)
  obtain ⟨bk, -⟩ := HO.out.blk
  have hx0 := lt_of_block bk
  have c0 : W15.cell? ⟨bx, 0, none⟩ = some (.string (bs m.id)) := by rw [cell_of_heap bk]; rfl
  have c1 : W15.cell? ⟨bx, 1, none⟩ = some (.string (bs m.auth)) := by rw [cell_of_heap bk]; rfl
  have c2 : W15.cell? ⟨bx, 2, none⟩ = some (.int .i64 m.kind) := by rw [cell_of_heap bk]; rfl
  have c3 : W15.cell? ⟨bx, 3, none⟩ = some (.string (bs m.target)) := by rw [cell_of_heap bk]; rfl
  have c4 : W15.cell? ⟨bx, 4, none⟩ = some (.int .i64 m.cond.op) := by rw [cell_of_heap bk]; rfl
  have c5 : W15.cell? ⟨bx, 5, none⟩ = some (.string (bs m.cond.name)) := by rw [cell_of_heap bk]; rfl
  have c6 : W15.cell? ⟨bx, 6, none⟩ = some (.int .i64 m.cond.cmp) := by rw [cell_of_heap bk]; rfl
  have c7 : W15.cell? ⟨bx, 7, none⟩ = some (.int .i64 m.cond.num) := by rw [cell_of_heap bk]; rfl
  have c8 : W15.cell? ⟨bx, 8, none⟩ = some (.slice y n c) := by rw [cell_of_heap bk]; rfl
  have c9 : W15.cell? ⟨bx, 9, none⟩ = some (.int .i64 m.fr) := by rw [cell_of_heap bk]; rfl
  have c10 : W15.cell? ⟨bx, 10, none⟩ = some (.int .i64 m.un) := by rw [cell_of_heap bk]; rfl
  have c11 : W15.cell? ⟨bx, 11, none⟩ = some (.int .i64 m.wi) := by rw [cell_of_heap bk]; rfl
  clear bk
  iterate 6 (refine cl_do rfl rfl rfl (by first | rfl | simp [okB, lenV, plainV, Act.eval]) (fun _ _ => ?_); go_wp2_with fail)
  refine cl_call rfl rfl (by first | rfl | simp [okB, lenV, plainV, Act.eval]) (fun _ _ => ?_)
  go_wp2_with fail
  go_at_call 29
  refine (ItoaAll_c m.wi W15 (by have := HB.out; omega) (by have := HB.out; omega) (HSt.out.below HO.out.base)).mono ?_
  rintro e W16 ⟨rfl, hb⟩
  replace HO := Lib.hid (HO.out.below hb)
  go_wp2_with fail
  refine ⟨hb, ?_⟩
  clear hb
  (try clear hx0 c0 c1 c2 c3 c4 c5 c6 c7 c8 c9 c10 c11)
  obtain ⟨bk, -⟩ := HO.out.blk
  have hx0 := lt_of_block bk
  have c0 : W16.cell? ⟨bx, 0, none⟩ = some (.string (bs m.id)) := by rw [cell_of_heap bk]; rfl
  have c1 : W16.cell? ⟨bx, 1, none⟩ = some (.string (bs m.auth)) := by rw [cell_of_heap bk]; rfl
  have c2 : W16.cell? ⟨bx, 2, none⟩ = some (.int .i64 m.kind) := by rw [cell_of_heap bk]; rfl
  have c3 : W16.cell? ⟨bx, 3, none⟩ = some (.string (bs m.target)) := by rw [cell_of_heap bk]; rfl
  have c4 : W16.cell? ⟨bx, 4, none⟩ = some (.int .i64 m.cond.op) := by rw [cell_of_heap bk]; rfl
  have c5 : W16.cell? ⟨bx, 5, none⟩ = some (.string (bs m.cond.name)) := by rw [cell_of_heap bk]; rfl
  have c6 : W16.cell? ⟨bx, 6, none⟩ = some (.int .i64 m.cond.cmp) := by rw [cell_of_heap bk]; rfl
  have c7 : W16.cell? ⟨bx, 7, none⟩ = some (.int .i64 m.cond.num) := by rw [cell_of_heap bk]; rfl
  have c8 : W16.cell? ⟨bx, 8, none⟩ = some (.slice y n c) := by rw [cell_of_heap bk]; rfl
  have c9 : W16.cell? ⟨bx, 9, none⟩ = some (.int .i64 m.fr) := by rw [cell_of_heap bk]; rfl
  have c10 : W16.cell? ⟨bx, 10, none⟩ = some (.int .i64 m.un) := by rw [cell_of_heap bk]; rfl
  have c11 : W16.cell? ⟨bx, 11, none⟩ = some (.int .i64 m.wi) := by rw [cell_of_heap bk]; rfl
  clear bk
  iterate 2 (refine cl_do rfl rfl rfl (by first | rfl | simp [okB, lenV, plainV, Act.eval]) (fun _ _ => ?_); go_wp2_with fail)
  obtain ⟨q12, hq12⟩ : ∃ q, q = decide (0 < m.wi) := ⟨_, rfl⟩
  rw [← hq12]
  replace hq12 := Lib.hid hq12
  -- W16 the world, q12 whether, [wWind, Lib.itoa m.wi] the words, .string ⟨#[119, 105, 110, 100]⟩, .string (bs (Lib.itoa m.wi)) their cells, 2 how many, W17 the next world, L6 the words so far, L7 the next words, 13 a bound
  clear hx0 c0 c1 c2 c3 c4 c5 c6 c7 c8 c9 c10 c11
  obtain ⟨gs, hgs⟩ : ∃ x, x = (W16).heap.size := ⟨_, rfl⟩
  obtain ⟨Wa, hWa⟩ : ∃ W, W = (W16).alloc (.cells #[.string ⟨#[119, 105, 110, 100]⟩, .string (bs (Lib.itoa m.wi))] 9) := ⟨_, rfl⟩
  have hc1 := cells_of (W16) [wWind, Lib.itoa m.wi]
  rw [← hgs] at hc1
  have hc2 : ∀ (j : Nat) (s : Bytes), ([wWind, Lib.itoa m.wi])[j]? = some s → Wa.cell? ⟨gs, j, none⟩ = some (.string (bs s)) := by rw [hWa]; exact hc1
  have hlt : gs < Wa.heap.size := by rw [hWa, hgs]; simp
  replace HO := Lib.hid (HO.out.alloc (.cells #[.string ⟨#[119, 105, 110, 100]⟩, .string (bs (Lib.itoa m.wi))] 9 (0, 0)))
  rw [← hWa] at HO
  rw [← hgs, ← hWa]
  clear hWa hgs hc1
  have hx := madd_c _ q12 L6 [wWind, Lib.itoa m.wi] _ gs 2 Wa rfl hlt hc2 (HO.out.re [1, 2, 0]) (by omega) (by omega)
  refine hx.mono ?_
  clear hx
  rintro e W17 ⟨rfl, v, ho⟩
  clear hc2 hlt
  obtain ⟨L7, hL7⟩ : ∃ X, X = if q12 = true then L6 ++ [wWind, Lib.itoa m.wi] else L6 := ⟨_, rfl⟩
  rw [← hL7] at ho
  have hlL7 : (L7).length ≤ 13 := by rw [hL7]; split <;> first | omega | (simp only [List.length_append, List.length_cons, List.length_nil]; omega)
  replace hL7 := Lib.hid hL7
  replace HO := Lib.hid (ho.re [2, 0, 1])
  clear ho
  (try clear hx0 c0 c1 c2 c3 c4 c5 c6 c7 c8 c9 c10 c11)
  obtain ⟨bk, -⟩ := HO.out.blk
  have hx0 := lt_of_block bk
  have c0 : W17.cell? ⟨bx, 0, none⟩ = some (.string (bs m.id)) := by rw [cell_of_heap bk]; rfl
  have c1 : W17.cell? ⟨bx, 1, none⟩ = some (.string (bs m.auth)) := by rw [cell_of_heap bk]; rfl
  have c2 : W17.cell? ⟨bx, 2, none⟩ = some (.int .i64 m.kind) := by rw [cell_of_heap bk]; rfl
  have c3 : W17.cell? ⟨bx, 3, none⟩ = some (.string (bs m.target)) := by rw [cell_of_heap bk]; rfl
  have c4 : W17.cell? ⟨bx, 4, none⟩ = some (.int .i64 m.cond.op) := by rw [cell_of_heap bk]; rfl
  have c5 : W17.cell? ⟨bx, 5, none⟩ = some (.string (bs m.cond.name)) := by rw [cell_of_heap bk]; rfl
  have c6 : W17.cell? ⟨bx, 6, none⟩ = some (.int .i64 m.cond.cmp) := by rw [cell_of_heap bk]; rfl
  have c7 : W17.cell? ⟨bx, 7, none⟩ = some (.int .i64 m.cond.num) := by rw [cell_of_heap bk]; rfl
  have c8 : W17.cell? ⟨bx, 8, none⟩ = some (.slice y n c) := by rw [cell_of_heap bk]; rfl
  have c9 : W17.cell? ⟨bx, 9, none⟩ = some (.int .i64 m.fr) := by rw [cell_of_heap bk]; rfl
  have c10 : W17.cell? ⟨bx, 10, none⟩ = some (.int .i64 m.un) := by rw [cell_of_heap bk]; rfl
  have c11 : W17.cell? ⟨bx, 11, none⟩ = some (.int .i64 m.wi) := by rw [cell_of_heap bk]; rfl
  clear bk
  go_wp2_with fail
  refine cl_nil ?_
  have HWd : Hid (L7 = wordsM m) := by
    show _ = _
    rw [hL7.out, hL6.out, hL5.out, hL4.out, hL3.out, hL2.out, hL1.out, hL0.out, hq7.out, hq9.out, hq11.out, hq12.out, HS.out]
    unfold wordsM
    have e1 : (!List.isEmpty m.target) = decide (m.target ≠ []) := by cases m.target <;> simp
    have e2 : (m.cond.op != 1) = decide (m.cond.op ≠ 1) := by by_cases h : m.cond.op = 1 <;> simp [h]
    rw [e1, e2]
    by_cases h1 : m.target = [] <;> by_cases h2 : m.cond.op = 1 <;> by_cases h3 : 0 ≤ m.un <;> by_cases h4 : 0 < m.wi <;> simp [h1, h2, h3, h4]
  clear hL7 hL6 hL5 hL4 hL3 hL2 hL1 hL0 hq7 hq9 hq11 hq12 HS HE HB hlL0 hlL1 hlL2 hlL3 hlL4 hlL5 hlL6
  have hL0 : L7.length ≠ 0 := by rw [HWd.out]; simp [wordsM]
  have HSay : Hid (sayM m = joinB [32] L7 ++ [59]) := by show _ = _; rw [HWd.out]; rfl
  have hJl : (joinB [32] L7).length ≤ 13000 := by
    have h := (say_len (wrM_parts HW.out)).1
    rw [HSay.out, List.length_append] at h
    omega
  have HTx : Hid (textM m = (sayM m, 0)) := by show _ = _; unfold textM; rw [if_pos HW.out]
  clear c0 c1 c2 c3 c4 c5 c6 c7 c8 c9 c10 c11 hx0 HWd HW
  obtain ⟨yv, cv, hv, hr⟩ := Owns.txIs HO.out.pop
  rcases hr with hr | ⟨g, off, rfl, hg, hcap, hcell⟩
  · rw [hr] at hL0; exact absurd rfl hL0
  obtain ⟨N, hN⟩ : ∃ N, N = L7.length := ⟨_, rfl⟩
  rw [← hN] at hv hcap hL0 hlL7
  have HNn := Lib.hid hN
  have HJ : Hid (Calls Tryz.prog 30 #[.slice (some ⟨g, off, none⟩) N cv, .string (bs [32])] W17 fun e w' => e = .returned (.string (bs (joinB [32] L7))) ∧ Below W17.heap.size W17 w') := by
    have hx : (L7.map bs).map (·.data.toList) = L7 := by rw [List.map_map]; exact List.map_id _
    have h := Tryz.strings_Join g off cv (L7.map bs) (bs [32]) W17 (fun j x hj => ?_) hg (by rw [List.length_map, ← HNn.out]; omega) (by rw [List.length_map, ← HNn.out]; exact hcap) (by rw [hx, bs_data, join_eq]; omega)
    · rw [hx, bs_data, join_eq, List.length_map, ← HNn.out] at h
      exact h
    · refine hcell j _ ?_
      rw [List.getElem?_map] at hj
      cases hLj : L7[j]? with
      | none => rw [hLj] at hj; cases hj
      | some s => rw [hLj] at hj; simp at hj; subst hj; rfl
  clear hcell hg hcap hN hL0 hlL7
  obtain ⟨J, hJ⟩ : ∃ J, J = joinB [32] L7 := ⟨_, rfl⟩
  rw [← hJ] at hJl HSay HJ
  clear hJ HNn
  subst hv
  obtain ⟨g6, q6, f6⟩ := Owns.one HO.out.pop.pop
  go_wp2_with fail
  go_at_call 30
  refine HJ.out.mono ?_
  rintro e W18 ⟨rfl, hb⟩
  replace HO := Lib.hid (HO.out.below hb)
  clear hb g6 q6 f6 HJ
  go_wp2_with fail
  go_ret2
  exact ⟨by rw [HTx.out, HSay.out]; rfl, HO.out.base⟩
end
end Go.Proofs.YtoeknmkephnekaaGreatDoor
namespace Go.Cz.Vd
open Go
theorem dd_ne (u : Nat) : Lib.decDigits u ≠ [] := by
  rw [Lib.decDigits]; split <;> simp
theorem dig_inj {a b : Nat} (ha : a < 10) (hb : b < 10) (h : UInt8.ofNat (48 + a) = UInt8.ofNat (48 + b)) : a = b := by
  have := congrArg UInt8.toNat h
  simp at this
  omega
theorem dd_small {u : Nat} (h : u < 10) : Lib.decDigits u = [UInt8.ofNat (48 + u)] := by rw [Lib.decDigits, dif_pos h]
theorem dd_big {u : Nat} (h : ¬ u < 10) : Lib.decDigits u = Lib.decDigits (u / 10) ++ [UInt8.ofNat (48 + u % 10)] := by rw [Lib.decDigits, dif_neg h]
theorem dd_inj : ∀ (u v : Nat), Lib.decDigits u = Lib.decDigits v → u = v := by
  intro u
  induction u using Nat.strongRecOn with
  | ind u ih =>
    intro v h
    by_cases hu : u < 10
    · by_cases hv : v < 10
      · rw [dd_small hu, dd_small hv] at h
        injection h with h1
        exact dig_inj hu hv h1
      · rw [dd_small hu, dd_big hv] at h
        have := congrArg List.length h
        have h2 := List.length_pos_iff.2 (dd_ne (v / 10))
        simp only [List.length_append, List.length_cons, List.length_nil] at this
        omega
    · by_cases hv : v < 10
      · rw [dd_big hu, dd_small hv] at h
        have := congrArg List.length h
        have h2 := List.length_pos_iff.2 (dd_ne (u / 10))
        simp only [List.length_append, List.length_cons, List.length_nil] at this
        omega
      · rw [dd_big hu, dd_big hv] at h
        obtain ⟨h1, h2⟩ := List.append_inj' h rfl
        have h3 := ih (u / 10) (by omega) _ h1
        injection h2 with h4
        have h5 := dig_inj (Nat.mod_lt _ (by omega)) (Nat.mod_lt _ (by omega)) h4
        omega
theorem dd_head (u : Nat) : ∀ r, Lib.decDigits u ≠ 45 :: r := by
  induction u using Nat.strongRecOn with
  | ind u ih =>
    intro r h
    rw [Lib.decDigits] at h
    by_cases hu : u < 10
    · simp only [hu, dite_true] at h
      injection h with h1
      have := congrArg UInt8.toNat h1
      simp at this
      omega
    · simp only [hu, dite_false] at h
      rcases hd : Lib.decDigits (u / 10) with _ | ⟨x, q⟩
      · exact dd_ne _ hd
      · rw [hd, List.cons_append] at h
        injection h with h1
        subst h1
        exact ih (u / 10) (by omega) q hd
theorem itoa_same (a b : Int) : (Lib.itoa a = Lib.itoa b) ↔ a = b := by
  refine ⟨fun h => ?_, fun h => by rw [h]⟩
  unfold Lib.itoa at h
  by_cases ha : a < 0 <;> by_cases hb : b < 0
  · simp only [ha, hb, if_true] at h
    injection h with _ h
    have := dd_inj _ _ h
    omega
  · simp only [ha, hb, if_true, if_false] at h
    exact absurd h.symm (dd_head _ _)
  · simp only [ha, hb, if_true, if_false] at h
    exact absurd h (dd_head _ _)
  · simp only [ha, hb, if_false] at h
    have := dd_inj _ _ h
    omega
end Go.Cz.Vd
namespace Go.Proofs.YtoeknmkephnekaaGreatDoor
open Go.RowKit Go.Cz Go.Cz.Lx Go.Cz.Fo Go.Cz.Vd
set_option linter.unusedSimpArgs false
set_option linter.unusedVariables false
attribute [local go_sem] bs_size bs_extract bs_append bs_toList
attribute [local irreducible] cList cPlan pAny pOp
/-- The numbers of a measure are ints. -/
structure MeInt (m : Me) : Prop where
  kind : -9223372036854775808 ≤ m.kind ∧ m.kind ≤ 9223372036854775807
  fr : -9223372036854775808 ≤ m.fr ∧ m.fr ≤ 9223372036854775807
  un : -9223372036854775808 ≤ m.un ∧ m.un ≤ 9223372036854775807
  wi : -9223372036854775808 ≤ m.wi ∧ m.wi ≤ 9223372036854775807
abbrev seven (m : Me) : Value := .agg #[.string (bs m.id), .string (bs m.auth), .string (bs m.target), .string (bs (Lib.itoa m.kind)), .string (bs (Lib.itoa m.fr)), .string (bs (Lib.itoa m.un)), .string (bs (Lib.itoa m.wi))]
abbrev sevenO : Obj := .cells #[.string ⟨#[]⟩, .string ⟨#[]⟩, .string ⟨#[]⟩, .string ⟨#[]⟩, .string ⟨#[]⟩, .string ⟨#[]⟩, .string ⟨#[]⟩] 76 (0, 0)
theorem seven_res {W : World} {tmps : Array Value} {g : Nat} {v0 v1 v2 v3 v4 v5 v6 : Value} (h4 : tmps.getD 2 undef = .pointer (some ⟨g, 0, none⟩)) (hb : W.heap[g]? = some (.cells #[v0, v1, v2, v3, v4, v5, v6] 76 (0, 0))) :
    (results Tryz.f41 tmps).run Tryz.prog W = .ok (.agg #[v0, v1, v2, v3, v4, v5, v6]) W := by
  have c0 : W.cell? ⟨g, 0, none⟩ = some v0 := by rw [cell_of_heap hb]; rfl
  have c1 : W.cell? ⟨g, 1, none⟩ = some v1 := by rw [cell_of_heap hb]; rfl
  have c2 : W.cell? ⟨g, 2, none⟩ = some v2 := by rw [cell_of_heap hb]; rfl
  have c3 : W.cell? ⟨g, 3, none⟩ = some v3 := by rw [cell_of_heap hb]; rfl
  have c4 : W.cell? ⟨g, 4, none⟩ = some v4 := by rw [cell_of_heap hb]; rfl
  have c5 : W.cell? ⟨g, 5, none⟩ = some v5 := by rw [cell_of_heap hb]; rfl
  have c6 : W.cell? ⟨g, 6, none⟩ = some v6 := by rw [cell_of_heap hb]; rfl
  have h4' : tmps[2]?.getD undef = .pointer (some ⟨g, 0, none⟩) := by simpa using h4
  simp [results, Tryz.results41, go_sem, h4', c0, c1, c2, c3, c4, c5, c6]
set_option maxRecDepth 100000 in
set_option maxHeartbeats 4000000 in
theorem fields_c (m : Me) (y : Option Addr) (n c : Nat) (w : World) (hst : Std w) (hi : MeInt m) : Calls Tryz.prog 41 #[mval m (.slice y n c)] w fun e w' => e = .returned (seven m) ∧ Below w.heap.size w w' := by
  have HSt := Lib.hid hst
  have HMI := Lib.hid hi
  clear hst hi
  obtain ⟨bx, hbx⟩ : ∃ bx, bx = w.heap.size := ⟨_, rfl⟩
  obtain ⟨b2, hb2⟩ : ∃ b2, b2 = w.heap.size + 1 := ⟨_, rfl⟩
  obtain ⟨W1, hW1⟩ : ∃ W1, W1 = (w.alloc (mobj m (.slice y n c))).alloc (.cells #[.string ⟨#[]⟩, .string ⟨#[]⟩, .string ⟨#[]⟩, .string ⟨#[]⟩, .string ⟨#[]⟩, .string ⟨#[]⟩, .string ⟨#[]⟩] 76) := ⟨_, rfl⟩
  have HO : Hid (Owns w W1 [blk bx (mobj m (.slice y n c)), blk b2 sevenO]) := by
    have h := ((Owns.start w).box (mobj m (.slice y n c))).box sevenO
    rw [World.size_alloc] at h
    rw [hW1, hbx, hb2]
    exact Lib.hid h.swap
  go_enter Tryz.func41, Tryz.ntmps41
  go_upto_region 1 with fail
  rw [← hb2, ← hW1, ← hbx]
  clear hW1 hbx hb2
  replace HO := Lib.hid HO.out.drew
  obtain ⟨W2, hW2⟩ : ∃ W, W = World.drew W1 := ⟨_, rfl⟩
  refine wp_region_can [8, 11, 14, 17] [0, 1, 2, 3, 4, 5, 6, 7, 9, 10, 12, 13, 15, 16, 8, 11, 14, 17, 18, 19] (by kernel_rfl) (by kernel_rfl) ?_
  rw [← hW2] at HO ⊢
  clear hW2
  (try clear hx0 c0 c1 c2 c3 c4 c5 c6 c7 c8 c9 c10 c11)
  obtain ⟨bk, -⟩ := HO.out.blk
  have hx0 := lt_of_block bk
  have c0 : W2.cell? ⟨bx, 0, none⟩ = some (.string (bs m.id)) := by rw [cell_of_heap bk]; rfl
  have c1 : W2.cell? ⟨bx, 1, none⟩ = some (.string (bs m.auth)) := by rw [cell_of_heap bk]; rfl
  have c2 : W2.cell? ⟨bx, 2, none⟩ = some (.int .i64 m.kind) := by rw [cell_of_heap bk]; rfl
  have c3 : W2.cell? ⟨bx, 3, none⟩ = some (.string (bs m.target)) := by rw [cell_of_heap bk]; rfl
  have c9 : W2.cell? ⟨bx, 9, none⟩ = some (.int .i64 m.fr) := by rw [cell_of_heap bk]; rfl
  have c10 : W2.cell? ⟨bx, 10, none⟩ = some (.int .i64 m.un) := by rw [cell_of_heap bk]; rfl
  have c11 : W2.cell? ⟨bx, 11, none⟩ = some (.int .i64 m.wi) := by rw [cell_of_heap bk]; rfl
  clear bk
  iterate 14 (refine cl_do rfl rfl rfl (by first | rfl | simp [okB, lenV, plainV, Act.eval]) (fun _ _ => ?_); go_wp2_with fail)
  clear hx0 c0 c1 c2 c3 c9 c10 c11
  refine cl_call rfl rfl (by first | rfl | simp [okB, lenV, plainV, Act.eval]) (fun _ _ => ?_)
  go_wp2_with fail
  go_at_call 29
  refine (ItoaAll_c m.kind W2 HMI.out.kind.1 HMI.out.kind.2 (HSt.out.below HO.out.base)).mono ?_
  rintro e W3 ⟨rfl, hb⟩
  replace HO := Lib.hid (HO.out.below hb)
  go_wp2_with fail
  refine ⟨hb, ?_⟩
  clear hb
  refine cl_call rfl rfl (by first | rfl | simp [okB, lenV, plainV, Act.eval]) (fun _ _ => ?_)
  go_wp2_with fail
  go_at_call 29
  refine (ItoaAll_c m.fr W3 HMI.out.fr.1 HMI.out.fr.2 (HSt.out.below HO.out.base)).mono ?_
  rintro e W4 ⟨rfl, hb⟩
  replace HO := Lib.hid (HO.out.below hb)
  go_wp2_with fail
  refine ⟨hb, ?_⟩
  clear hb
  refine cl_call rfl rfl (by first | rfl | simp [okB, lenV, plainV, Act.eval]) (fun _ _ => ?_)
  go_wp2_with fail
  go_at_call 29
  refine (ItoaAll_c m.un W4 HMI.out.un.1 HMI.out.un.2 (HSt.out.below HO.out.base)).mono ?_
  rintro e W5 ⟨rfl, hb⟩
  replace HO := Lib.hid (HO.out.below hb)
  go_wp2_with fail
  refine ⟨hb, ?_⟩
  clear hb
  refine cl_call rfl rfl (by first | rfl | simp [okB, lenV, plainV, Act.eval]) (fun _ _ => ?_)
  go_wp2_with fail
  go_at_call 29
  refine (ItoaAll_c m.wi W5 HMI.out.wi.1 HMI.out.wi.2 (HSt.out.below HO.out.base)).mono ?_
  rintro e W6 ⟨rfl, hb⟩
  replace HO := Lib.hid (HO.out.below hb)
  go_wp2_with fail
  refine ⟨hb, ?_⟩
  clear hb
  obtain ⟨bk, -⟩ := HO.out.swap.blk
  have hx0 := lt_of_block bk
  have f0 := free_of_heap bk (i := 0)
  have f1 := free_of_heap bk (i := 1)
  have f2 := free_of_heap bk (i := 2)
  have f3 := free_of_heap bk (i := 3)
  have f4 := free_of_heap bk (i := 4)
  have f5 := free_of_heap bk (i := 5)
  have f6 := free_of_heap bk (i := 6)
  have c0 := cell_of_heap bk (i := 0)
  have c1 := cell_of_heap bk (i := 1)
  have c2 := cell_of_heap bk (i := 2)
  have c3 := cell_of_heap bk (i := 3)
  have c4 := cell_of_heap bk (i := 4)
  have c5 := cell_of_heap bk (i := 5)
  have c6 := cell_of_heap bk (i := 6)
  simp only [List.getElem?_toArray, List.getElem?_cons_succ, List.getElem?_cons_zero] at c0 c1 c2 c3 c4 c5 c6
  clear bk
  have h2 := ((((((HO.out.swap.store (i := 0) (.string (bs m.id))).store (i := 1) (.string (bs m.auth))).store (i := 2) (.string (bs m.target))).store (i := 3) (.string (bs (Lib.itoa m.kind)))).store (i := 4) (.string (bs (Lib.itoa m.fr)))).store (i := 5) (.string (bs (Lib.itoa m.un)))).store (i := 6) (.string (bs (Lib.itoa m.wi)))
  have HF := Lib.hid h2
  iterate 2 (refine cl_do rfl rfl rfl (by first | rfl | simp [okB, lenV, plainV, Act.eval]) (fun _ _ => ?_); go_wp2_with fail)
  refine cl_nil ?_
  repeat (first | go_values | go_skip | go_guarded | go_step | go_upon)
  exact bodyPost_ret (seven_res rfl HF.out.blk.1) (by rfl) ⟨rfl, HF.out.base⟩
theorem u76 : Tryz.prog.underlying 76 = some (.array 7 9) := by kernel_rfl
theorem u9 : Tryz.prog.underlying 9 = some .string := by kernel_rfl
theorem a9 (W : World) : (isAgg 9).run Tryz.prog W = .ok false W := by kernel_rfl
theorem part9 (cs : Array Value) (i : Nat) (s : ByteArray) (h : cs[i]? = some (.string s)) (W : World) : (part 9 cs i).run Tryz.prog W = .ok (.string s) W := by
  unfold part
  simp [a9, h, Result.andThen]
theorem eqS (d : Nat) (x y : ByteArray) (W : World) : (Op.equalIn (d + 1) 9 (.string x) (.string y)).run Tryz.prog W = .ok (x == y) W := by
  unfold Op.equalIn
  simp [run_underlying u9, Result.andThen]
set_option maxRecDepth 20000 in
set_option maxHeartbeats 1000000 in
theorem eq7 (x0 x1 x2 x3 x4 x5 x6 y0 y1 y2 y3 y4 y5 y6 : ByteArray) (W : World) :
   (Op.equalIn 10000 76 (.agg #[.string x0, .string x1, .string x2, .string x3, .string x4, .string x5, .string x6]) (.agg #[.string y0, .string y1, .string y2, .string y3, .string y4, .string y5, .string y6])).run Tryz.prog W = .ok (x0 == y0 && (x1 == y1 && (x2 == y2 && (x3 == y3 && (x4 == y4 && (x5 == y5 && x6 == y6)))))) W := by
  rw [show (10000 : Nat) = 9998 + 1 + 1 from rfl]
  unfold Op.equalIn
  simp only [run_underlying u76, Result.andThen, Sem.run_bind]
  generalize hx : (#[.string x0, .string x1, .string x2, .string x3, .string x4, .string x5, .string x6] : Array Value) = xs
  generalize hy : (#[.string y0, .string y1, .string y2, .string y3, .string y4, .string y5, .string y6] : Array Value) = ys
  have px0 := part9 xs 0 x0 (by rw [← hx]; rfl)
  have px1 := part9 xs 1 x1 (by rw [← hx]; rfl)
  have px2 := part9 xs 2 x2 (by rw [← hx]; rfl)
  have px3 := part9 xs 3 x3 (by rw [← hx]; rfl)
  have px4 := part9 xs 4 x4 (by rw [← hx]; rfl)
  have px5 := part9 xs 5 x5 (by rw [← hx]; rfl)
  have px6 := part9 xs 6 x6 (by rw [← hx]; rfl)
  have py0 := part9 ys 0 y0 (by rw [← hy]; rfl)
  have py1 := part9 ys 1 y1 (by rw [← hy]; rfl)
  have py2 := part9 ys 2 y2 (by rw [← hy]; rfl)
  have py3 := part9 ys 3 y3 (by rw [← hy]; rfl)
  have py4 := part9 ys 4 y4 (by rw [← hy]; rfl)
  have py5 := part9 ys 5 y5 (by rw [← hy]; rfl)
  have py6 := part9 ys 6 y6 (by rw [← hy]; rfl)
  clear hx hy
  have es := eqS 9998
  have hr : List.range' 0 7 = [0, 1, 2, 3, 4, 5, 6] := rfl
  cases h0 : x0 == y0
  · simp [hr, List.forIn_cons, Result.andThen, px0, py0, px1, py1, px2, py2, px3, py3, px4, py4, px5, py5, px6, py6, es, h0]
  cases h1 : x1 == y1
  · simp [hr, List.forIn_cons, Result.andThen, px0, py0, px1, py1, px2, py2, px3, py3, px4, py4, px5, py5, px6, py6, es, h0, h1]
  cases h2 : x2 == y2
  · simp [hr, List.forIn_cons, Result.andThen, px0, py0, px1, py1, px2, py2, px3, py3, px4, py4, px5, py5, px6, py6, es, h0, h1, h2]
  cases h3 : x3 == y3
  · simp [hr, List.forIn_cons, Result.andThen, px0, py0, px1, py1, px2, py2, px3, py3, px4, py4, px5, py5, px6, py6, es, h0, h1, h2, h3]
  cases h4 : x4 == y4
  · simp [hr, List.forIn_cons, Result.andThen, px0, py0, px1, py1, px2, py2, px3, py3, px4, py4, px5, py5, px6, py6, es, h0, h1, h2, h3, h4]
  cases h5 : x5 == y5
  · simp [hr, List.forIn_cons, Result.andThen, px0, py0, px1, py1, px2, py2, px3, py3, px4, py4, px5, py5, px6, py6, es, h0, h1, h2, h3, h4, h5]
  cases h6 : x6 == y6
  · simp [hr, List.forIn_cons, Result.andThen, px0, py0, px1, py1, px2, py2, px3, py3, px4, py4, px5, py5, px6, py6, es, h0, h1, h2, h3, h4, h5, h6]
  simp [hr, List.forIn_cons, Result.andThen, px0, py0, px1, py1, px2, py2, px3, py3, px4, py4, px5, py5, px6, py6, es, h0, h1, h2, h3, h4, h5, h6]
theorem bs_beq (a b : Bytes) : (bs a == bs b) = decide (a = b) := by
  have h : (bs a == bs b) = (a.toArray == b.toArray) := rfl
  rw [h]
  by_cases h : a = b <;> simp [h]
set_option maxRecDepth 100000 in
set_option maxHeartbeats 4000000 in
theorem mSame_c {p : Nat → Prop} (a b : Me) (ka kb : Value) (w : World) (hst : Std w) (hfa : IsFm p w a.cond ka) (hfb : IsFm p w b.cond kb) (ha : MeInt a) (hb : MeInt b) (hsa : Go.Cz.Fo.size a.cond ≤ 900000) (hsb : Go.Cz.Fo.size b.cond ≤ 900000) :
    Calls Tryz.prog 13 #[mval a ka, mval b kb] w fun e w' => e = .returned (.bool (sameM a b)) ∧ Below w.heap.size w w' := by
  have HSt := Lib.hid hst
  have HA := Lib.hid ha
  have HB := Lib.hid hb
  have HFA := Lib.hid hfa
  have HFB := Lib.hid hfb
  have HSA := Lib.hid hsa
  have HSB := Lib.hid hsb
  obtain ⟨y, c, rfl⟩ := hfa.form
  obtain ⟨y', c', rfl⟩ := hfb.form
  obtain ⟨n, hn⟩ : ∃ n, n = a.cond.kids.length := ⟨_, rfl⟩
  obtain ⟨n', hn'⟩ : ∃ n, n = b.cond.kids.length := ⟨_, rfl⟩
  rw [← hn] at HFA ⊢
  rw [← hn'] at HFB ⊢
  clear hst ha hb hfa hfb hsa hsb hn hn'
  obtain ⟨bx, hbx⟩ : ∃ bx, bx = w.heap.size := ⟨_, rfl⟩
  obtain ⟨by0, hby⟩ : ∃ b2, b2 = w.heap.size + 1 := ⟨_, rfl⟩
  obtain ⟨W1, hW1⟩ : ∃ W1, W1 = (w.alloc (mobj a (.slice y n c))).alloc (mobj b (.slice y' n' c')) := ⟨_, rfl⟩
  have HO : Hid (Owns w W1 [blk bx (mobj a (.slice y n c)), blk by0 (mobj b (.slice y' n' c'))]) := by
    have h := ((Owns.start w).box (mobj a (.slice y n c))).box (mobj b (.slice y' n' c'))
    rw [World.size_alloc] at h
    rw [hW1, hbx, hby]
    exact Lib.hid h.swap
  go_enter Tryz.func13, Tryz.ntmps13
  go_upto_region 2 with fail
  rw [← hby, ← hW1, ← hbx]
  clear hW1 hbx hby
  replace HO := Lib.hid HO.out.drew
  obtain ⟨W2, hW2⟩ : ∃ W, W = World.drew W1 := ⟨_, rfl⟩
  refine wp_region_pan 15 rfl (by decide +kernel) ?_
  rw [← hW2] at HO ⊢
  clear hW2
  refine pw_take 0 rfl (by decide +kernel) (by decide +kernel) (by decide +kernel) (fun _ _ _ h => h) rfl (fun _ => rfl) ?_
  refine pw_take 3 rfl (by decide +kernel) (by decide +kernel) (by decide +kernel) (fun _ _ _ h => h) rfl (fun _ => rfl) ?_
  go_simp
  apply cut1 (Hyp := fun W => Hid (Owns w W [blk bx (mobj a (.slice y n c)), blk by0 (mobj b (.slice y' n' c'))]))
  focus
    intro key
    (try clear hcx c0 c1 c2 c3 c4 c5 c6 c7 c8 c9 ct cu)
    obtain ⟨bk, -⟩ := Owns.blk (HO.out)
    have hcx := lt_of_block bk
    have c0 : W2.cell? ⟨bx, 0, none⟩ = some (.string (bs a.id)) := by rw [cell_of_heap bk]; rfl
    have c1 : W2.cell? ⟨bx, 1, none⟩ = some (.string (bs a.auth)) := by rw [cell_of_heap bk]; rfl
    have c2 : W2.cell? ⟨bx, 2, none⟩ = some (.int .i64 a.kind) := by rw [cell_of_heap bk]; rfl
    have c3 : W2.cell? ⟨bx, 3, none⟩ = some (.string (bs a.target)) := by rw [cell_of_heap bk]; rfl
    have c4 : W2.cell? ⟨bx, 4, none⟩ = some (.int .i64 a.cond.op) := by rw [cell_of_heap bk]; rfl
    have c5 : W2.cell? ⟨bx, 5, none⟩ = some (.string (bs a.cond.name)) := by rw [cell_of_heap bk]; rfl
    have c6 : W2.cell? ⟨bx, 6, none⟩ = some (.int .i64 a.cond.cmp) := by rw [cell_of_heap bk]; rfl
    have c7 : W2.cell? ⟨bx, 7, none⟩ = some (.int .i64 a.cond.num) := by rw [cell_of_heap bk]; rfl
    have c8 : W2.cell? ⟨bx, 8, none⟩ = some (.slice y n c) := by rw [cell_of_heap bk]; rfl
    have c9 : W2.cell? ⟨bx, 9, none⟩ = some (.int .i64 a.fr) := by rw [cell_of_heap bk]; rfl
    have ct : W2.cell? ⟨bx, 10, none⟩ = some (.int .i64 a.un) := by rw [cell_of_heap bk]; rfl
    have cu : W2.cell? ⟨bx, 11, none⟩ = some (.int .i64 a.wi) := by rw [cell_of_heap bk]; rfl
    clear bk
    (try clear hdx d0 d1 d2 d3 d4 d5 d6 d7 d8 d9 dt du)
    obtain ⟨bk, -⟩ := Owns.blk (HO.out.pop)
    have hdx := lt_of_block bk
    have d0 : W2.cell? ⟨by0, 0, none⟩ = some (.string (bs b.id)) := by rw [cell_of_heap bk]; rfl
    have d1 : W2.cell? ⟨by0, 1, none⟩ = some (.string (bs b.auth)) := by rw [cell_of_heap bk]; rfl
    have d2 : W2.cell? ⟨by0, 2, none⟩ = some (.int .i64 b.kind) := by rw [cell_of_heap bk]; rfl
    have d3 : W2.cell? ⟨by0, 3, none⟩ = some (.string (bs b.target)) := by rw [cell_of_heap bk]; rfl
    have d4 : W2.cell? ⟨by0, 4, none⟩ = some (.int .i64 b.cond.op) := by rw [cell_of_heap bk]; rfl
    have d5 : W2.cell? ⟨by0, 5, none⟩ = some (.string (bs b.cond.name)) := by rw [cell_of_heap bk]; rfl
    have d6 : W2.cell? ⟨by0, 6, none⟩ = some (.int .i64 b.cond.cmp) := by rw [cell_of_heap bk]; rfl
    have d7 : W2.cell? ⟨by0, 7, none⟩ = some (.int .i64 b.cond.num) := by rw [cell_of_heap bk]; rfl
    have d8 : W2.cell? ⟨by0, 8, none⟩ = some (.slice y' n' c') := by rw [cell_of_heap bk]; rfl
    have d9 : W2.cell? ⟨by0, 9, none⟩ = some (.int .i64 b.fr) := by rw [cell_of_heap bk]; rfl
    have dt : W2.cell? ⟨by0, 10, none⟩ = some (.int .i64 b.un) := by rw [cell_of_heap bk]; rfl
    have du : W2.cell? ⟨by0, 11, none⟩ = some (.int .i64 b.wi) := by rw [cell_of_heap bk]; rfl
    clear bk
    refine pw_two 1 4 (by decide +kernel) ?_ ?_
    · refine pw_do rfl rfl (fun _ _ => ?_); go_wp2_with fail
      refine pw_two 2 4 (by decide +kernel) ?_ ?_
      · refine pw_do rfl rfl (fun _ _ => ?_); go_wp2_with fail
        clear hcx c0 c1 c2 c3 c4 c5 c6 c7 c8 c9 ct cu hdx d0 d1 d2 d3 d4 d5 d6 d7 d8 d9 dt du
        go_at_call 41
        refine (fields_c a y n c W2 (HSt.out.below HO.out.base) HA.out).mono ?_
        rintro e W3 ⟨rfl, hb⟩
        have HO3 := Lib.hid (HO.out.below hb)
        clear hb
        replace HO := HO3
        clear HO3
        (try clear hcx c0 c1 c2 c3 c4 c5 c6 c7 c8 c9 ct cu)
        obtain ⟨bk, -⟩ := Owns.blk (HO.out)
        have hcx := lt_of_block bk
        have c0 : W3.cell? ⟨bx, 0, none⟩ = some (.string (bs a.id)) := by rw [cell_of_heap bk]; rfl
        have c1 : W3.cell? ⟨bx, 1, none⟩ = some (.string (bs a.auth)) := by rw [cell_of_heap bk]; rfl
        have c2 : W3.cell? ⟨bx, 2, none⟩ = some (.int .i64 a.kind) := by rw [cell_of_heap bk]; rfl
        have c3 : W3.cell? ⟨bx, 3, none⟩ = some (.string (bs a.target)) := by rw [cell_of_heap bk]; rfl
        have c4 : W3.cell? ⟨bx, 4, none⟩ = some (.int .i64 a.cond.op) := by rw [cell_of_heap bk]; rfl
        have c5 : W3.cell? ⟨bx, 5, none⟩ = some (.string (bs a.cond.name)) := by rw [cell_of_heap bk]; rfl
        have c6 : W3.cell? ⟨bx, 6, none⟩ = some (.int .i64 a.cond.cmp) := by rw [cell_of_heap bk]; rfl
        have c7 : W3.cell? ⟨bx, 7, none⟩ = some (.int .i64 a.cond.num) := by rw [cell_of_heap bk]; rfl
        have c8 : W3.cell? ⟨bx, 8, none⟩ = some (.slice y n c) := by rw [cell_of_heap bk]; rfl
        have c9 : W3.cell? ⟨bx, 9, none⟩ = some (.int .i64 a.fr) := by rw [cell_of_heap bk]; rfl
        have ct : W3.cell? ⟨bx, 10, none⟩ = some (.int .i64 a.un) := by rw [cell_of_heap bk]; rfl
        have cu : W3.cell? ⟨bx, 11, none⟩ = some (.int .i64 a.wi) := by rw [cell_of_heap bk]; rfl
        clear bk
        (try clear hdx d0 d1 d2 d3 d4 d5 d6 d7 d8 d9 dt du)
        obtain ⟨bk, -⟩ := Owns.blk (HO.out.pop)
        have hdx := lt_of_block bk
        have d0 : W3.cell? ⟨by0, 0, none⟩ = some (.string (bs b.id)) := by rw [cell_of_heap bk]; rfl
        have d1 : W3.cell? ⟨by0, 1, none⟩ = some (.string (bs b.auth)) := by rw [cell_of_heap bk]; rfl
        have d2 : W3.cell? ⟨by0, 2, none⟩ = some (.int .i64 b.kind) := by rw [cell_of_heap bk]; rfl
        have d3 : W3.cell? ⟨by0, 3, none⟩ = some (.string (bs b.target)) := by rw [cell_of_heap bk]; rfl
        have d4 : W3.cell? ⟨by0, 4, none⟩ = some (.int .i64 b.cond.op) := by rw [cell_of_heap bk]; rfl
        have d5 : W3.cell? ⟨by0, 5, none⟩ = some (.string (bs b.cond.name)) := by rw [cell_of_heap bk]; rfl
        have d6 : W3.cell? ⟨by0, 6, none⟩ = some (.int .i64 b.cond.cmp) := by rw [cell_of_heap bk]; rfl
        have d7 : W3.cell? ⟨by0, 7, none⟩ = some (.int .i64 b.cond.num) := by rw [cell_of_heap bk]; rfl
        have d8 : W3.cell? ⟨by0, 8, none⟩ = some (.slice y' n' c') := by rw [cell_of_heap bk]; rfl
        have d9 : W3.cell? ⟨by0, 9, none⟩ = some (.int .i64 b.fr) := by rw [cell_of_heap bk]; rfl
        have dt : W3.cell? ⟨by0, 10, none⟩ = some (.int .i64 b.un) := by rw [cell_of_heap bk]; rfl
        have du : W3.cell? ⟨by0, 11, none⟩ = some (.int .i64 b.wi) := by rw [cell_of_heap bk]; rfl
        clear bk
        go_wp2_with fail
        refine pw_one 4 (by decide +kernel) ?_
        refine pw_do rfl rfl (fun _ _ => ?_); go_wp2_with fail
        refine pw_at #[true, true, true, true, true, false, false, false, false, false, false, false, false, false, false] (by decide +kernel) ?_
        exact key _ HO
      · refine pw_do rfl rfl (fun _ _ => ?_); go_wp2_with fail
        refine pw_one 2 (by decide +kernel) ?_
        refine pw_do rfl rfl (fun _ _ => ?_); go_wp2_with fail
        clear hcx c0 c1 c2 c3 c4 c5 c6 c7 c8 c9 ct cu hdx d0 d1 d2 d3 d4 d5 d6 d7 d8 d9 dt du
        go_at_call 41
        refine (fields_c a y n c W2 (HSt.out.below HO.out.base) HA.out).mono ?_
        rintro e W3 ⟨rfl, hb⟩
        have HO3 := Lib.hid (HO.out.below hb)
        clear hb
        go_wp2_with fail
        refine pw_at #[true, true, true, true, true, false, false, false, false, false, false, false, false, false, false] (by decide +kernel) ?_
        exact key _ HO3
    · refine pw_do rfl rfl (fun _ _ => ?_); go_wp2_with fail
      refine pw_one 1 (by decide +kernel) ?_
      refine pw_do rfl rfl (fun _ _ => ?_); go_wp2_with fail
      refine pw_one 2 (by decide +kernel) ?_
      refine pw_do rfl rfl (fun _ _ => ?_); go_wp2_with fail
      clear hcx c0 c1 c2 c3 c4 c5 c6 c7 c8 c9 ct cu hdx d0 d1 d2 d3 d4 d5 d6 d7 d8 d9 dt du
      go_at_call 41
      refine (fields_c a y n c W2 (HSt.out.below HO.out.base) HA.out).mono ?_
      rintro e W3 ⟨rfl, hb⟩
      have HO3 := Lib.hid (HO.out.below hb)
      clear hb
      go_wp2_with fail
      refine pw_at #[true, true, true, true, true, false, false, false, false, false, false, false, false, false, false] (by decide +kernel) ?_
      exact key _ HO3
  clear HO
  intro W3 HO
  refine pw_one 5 (by decide +kernel) ?_
  refine pw_do rfl rfl (fun _ _ => ?_); go_wp2_with fail
  go_at_call 41
  refine (fields_c b y' n' c' W3 (HSt.out.below HO.out.base) HB.out).mono ?_
  rintro e W4 ⟨rfl, hb⟩
  replace HO := Lib.hid (HO.out.below hb)
  clear hb
  go_wp2_with fail
  refine pw_one 6 (by decide +kernel) ?_
  have e7 := eq7 (bs a.id) (bs a.auth) (bs a.target) (bs (Lib.itoa a.kind)) (bs (Lib.itoa a.fr)) (bs (Lib.itoa a.un)) (bs (Lib.itoa a.wi)) (bs b.id) (bs b.auth) (bs b.target) (bs (Lib.itoa b.kind)) (bs (Lib.itoa b.fr)) (bs (Lib.itoa b.un)) (bs (Lib.itoa b.wi)) W4
  obtain ⟨q, hq⟩ : ∃ q, q = (bs a.id == bs b.id && (bs a.auth == bs b.auth && (bs a.target == bs b.target && (bs (Lib.itoa a.kind) == bs (Lib.itoa b.kind) && (bs (Lib.itoa a.fr) == bs (Lib.itoa b.fr) && (bs (Lib.itoa a.un) == bs (Lib.itoa b.un) && bs (Lib.itoa a.wi) == bs (Lib.itoa b.wi))))))) := ⟨_, rfl⟩
  rw [← hq] at e7
  have HQ : Hid (sameM a b = (q && sameF a.cond b.cond)) := by
    show _ = _
    rw [hq, sameM]
    simp only [bs_beq, itoa_same]
    by_cases h1 : a.id = b.id <;> by_cases h2 : a.auth = b.auth <;> by_cases h3 : a.target = b.target <;> by_cases h4 : a.kind = b.kind <;> by_cases h5 : a.fr = b.fr <;> by_cases h6 : a.un = b.un <;> by_cases h7 : a.wi = b.wi <;> simp [h1, h2, h3, h4, h5, h6, h7]
  clear hq
  refine pw_do rfl rfl (fun _ _ => ?_); go_wp2_with fail
  clear e7
  refine pw_take 7 rfl (by decide +kernel) (by decide +kernel) (by decide +kernel) (fun _ _ _ h => h) rfl (fun _ => rfl) ?_
  go_simp
  cases q
  · have HE : Hid (sameM a b = false) := by show _ = _; rw [HQ.out]; rfl
    refine pw_skip 8 rfl (by decide +kernel) (by decide +kernel) (by decide +kernel) (fun _ _ _ h => h) rfl rfl ?_
    refine pw_skip 9 rfl (by decide +kernel) (by decide +kernel) (by decide +kernel) (fun _ _ _ h => h) rfl rfl ?_
    refine pw_skip 10 rfl (by decide +kernel) (by decide +kernel) (by decide +kernel) (fun _ _ _ h => h) rfl rfl ?_
    refine pw_skip 11 rfl (by decide +kernel) (by decide +kernel) (by decide +kernel) (fun _ _ _ h => h) rfl rfl ?_
    refine pw_skip 12 rfl (by decide +kernel) (by decide +kernel) (by decide +kernel) (fun _ _ _ h => h) rfl rfl ?_
    go_simp
    refine pw_one 13 (by decide +kernel) ?_
    refine pw_do rfl rfl (fun _ _ => ?_); go_wp2_with fail
    refine pw_one 14 (by decide +kernel) ?_
    refine pw_do rfl rfl (fun _ _ => ?_); go_wp2_with fail
    refine pw_nil (by decide +kernel) ?_
    go_wp2_with fail
    go_ret
    exact ⟨by rw [HE.out]; rfl, HO.out.base⟩
  refine pw_ytake 8 (v := .pointer (some ⟨bx, 4, none⟩)) rfl (by decide +kernel) (by decide +kernel) (by decide +kernel) (fun _ _ _ h => h) rfl rfl (fun _ => by kernel_rfl) ?_
  refine pw_ytake 10 (v := .pointer (some ⟨by0, 4, none⟩)) rfl (by decide +kernel) (by decide +kernel) (by decide +kernel) (fun _ _ _ h => h) rfl rfl (fun _ => by kernel_rfl) ?_
  go_simp
  (try clear hcx c0 c1 c2 c3 c4 c5 c6 c7 c8 c9 ct cu)
  obtain ⟨bk, -⟩ := Owns.blk (HO.out)
  have hcx := lt_of_block bk
  have c0 : W4.cell? ⟨bx, 0, none⟩ = some (.string (bs a.id)) := by rw [cell_of_heap bk]; rfl
  have c1 : W4.cell? ⟨bx, 1, none⟩ = some (.string (bs a.auth)) := by rw [cell_of_heap bk]; rfl
  have c2 : W4.cell? ⟨bx, 2, none⟩ = some (.int .i64 a.kind) := by rw [cell_of_heap bk]; rfl
  have c3 : W4.cell? ⟨bx, 3, none⟩ = some (.string (bs a.target)) := by rw [cell_of_heap bk]; rfl
  have c4 : W4.cell? ⟨bx, 4, none⟩ = some (.int .i64 a.cond.op) := by rw [cell_of_heap bk]; rfl
  have c5 : W4.cell? ⟨bx, 5, none⟩ = some (.string (bs a.cond.name)) := by rw [cell_of_heap bk]; rfl
  have c6 : W4.cell? ⟨bx, 6, none⟩ = some (.int .i64 a.cond.cmp) := by rw [cell_of_heap bk]; rfl
  have c7 : W4.cell? ⟨bx, 7, none⟩ = some (.int .i64 a.cond.num) := by rw [cell_of_heap bk]; rfl
  have c8 : W4.cell? ⟨bx, 8, none⟩ = some (.slice y n c) := by rw [cell_of_heap bk]; rfl
  have c9 : W4.cell? ⟨bx, 9, none⟩ = some (.int .i64 a.fr) := by rw [cell_of_heap bk]; rfl
  have ct : W4.cell? ⟨bx, 10, none⟩ = some (.int .i64 a.un) := by rw [cell_of_heap bk]; rfl
  have cu : W4.cell? ⟨bx, 11, none⟩ = some (.int .i64 a.wi) := by rw [cell_of_heap bk]; rfl
  clear bk
  (try clear hdx d0 d1 d2 d3 d4 d5 d6 d7 d8 d9 dt du)
  obtain ⟨bk, -⟩ := Owns.blk (HO.out.pop)
  have hdx := lt_of_block bk
  have d0 : W4.cell? ⟨by0, 0, none⟩ = some (.string (bs b.id)) := by rw [cell_of_heap bk]; rfl
  have d1 : W4.cell? ⟨by0, 1, none⟩ = some (.string (bs b.auth)) := by rw [cell_of_heap bk]; rfl
  have d2 : W4.cell? ⟨by0, 2, none⟩ = some (.int .i64 b.kind) := by rw [cell_of_heap bk]; rfl
  have d3 : W4.cell? ⟨by0, 3, none⟩ = some (.string (bs b.target)) := by rw [cell_of_heap bk]; rfl
  have d4 : W4.cell? ⟨by0, 4, none⟩ = some (.int .i64 b.cond.op) := by rw [cell_of_heap bk]; rfl
  have d5 : W4.cell? ⟨by0, 5, none⟩ = some (.string (bs b.cond.name)) := by rw [cell_of_heap bk]; rfl
  have d6 : W4.cell? ⟨by0, 6, none⟩ = some (.int .i64 b.cond.cmp) := by rw [cell_of_heap bk]; rfl
  have d7 : W4.cell? ⟨by0, 7, none⟩ = some (.int .i64 b.cond.num) := by rw [cell_of_heap bk]; rfl
  have d8 : W4.cell? ⟨by0, 8, none⟩ = some (.slice y' n' c') := by rw [cell_of_heap bk]; rfl
  have d9 : W4.cell? ⟨by0, 9, none⟩ = some (.int .i64 b.fr) := by rw [cell_of_heap bk]; rfl
  have dt : W4.cell? ⟨by0, 10, none⟩ = some (.int .i64 b.un) := by rw [cell_of_heap bk]; rfl
  have du : W4.cell? ⟨by0, 11, none⟩ = some (.int .i64 b.wi) := by rw [cell_of_heap bk]; rfl
  clear bk
  apply once
  focus
    intro key
    refine pw_two 9 11 (by decide +kernel) ?_ ?_
    · refine pw_yes rfl rfl rfl (fun _ _ => ?_); go_wp2_with fail
      refine pw_one 11 (by decide +kernel) ?_
      refine pw_yes rfl rfl rfl (fun _ _ => ?_); go_wp2_with fail
      refine pw_at #[true, true, true, true, true, true, true, true, true, true, true, true, false, false, false] (by decide +kernel) ?_
      exact key.out
    · refine pw_yes rfl rfl rfl (fun _ _ => ?_); go_wp2_with fail
      refine pw_one 9 (by decide +kernel) ?_
      refine pw_yes rfl rfl rfl (fun _ _ => ?_); go_wp2_with fail
      refine pw_at #[true, true, true, true, true, true, true, true, true, true, true, true, false, false, false] (by decide +kernel) ?_
      exact key.out
  clear hcx c0 c1 c2 c3 c4 c5 c6 c7 c8 c9 ct cu hdx d0 d1 d2 d3 d4 d5 d6 d7 d8 d9 dt du
  refine pw_one 12 (by decide +kernel) ?_
  refine pw_yes rfl rfl rfl (fun _ _ => ?_); go_wp2_with fail
  go_at_call 15
  refine (Same_c w a.cond b.cond W4 _ _ HO.out.base HFA.out HFB.out HSA.out HSB.out).mono ?_
  rintro e W5 ⟨rfl, hb⟩
  replace HO := Lib.hid (HO.out.below hb)
  clear hb
  go_wp2_with fail
  refine pw_one 13 (by decide +kernel) ?_
  refine pw_do rfl rfl (fun _ _ => ?_); go_wp2_with fail
  refine pw_one 14 (by decide +kernel) ?_
  refine pw_do rfl rfl (fun _ _ => ?_); go_wp2_with fail
  refine pw_nil (by decide +kernel) ?_
  go_wp2_with fail
  go_ret
  exact ⟨by rw [HQ.out]; rfl, HO.out.base⟩
end Go.Proofs.YtoeknmkephnekaaGreatDoor
namespace Go.Cz.Vd
open Go.Cz.Lx Go.Cz.Fo Go.Proofs.YtoeknmkephnekaaGreatDoor
/-- What is counted: the nodes, or one more than a number. -/
def capF (t : Nat) (f : Fm) : Nat := if short 100 f = true ∧ size f ≤ t then size f else t + 1
def capK (t : Nat) (ks : List Fm) : Nat := if shorts 100 ks = true ∧ 1 + sizes ks ≤ t then 1 + sizes ks else t + 1
theorem capK_le (t : Nat) (ks : List Fm) : capK t ks ≤ t + 1 := by unfold capK; split <;> omega
theorem capK_nil (t : Nat) : capK t [] = 1 := by unfold capK; simp only [sizes, shorts, true_and]; split <;> omega
theorem capF_le (t : Nat) (f : Fm) : capF t f ≤ t + 1 := by unfold capF; split <;> omega
theorem capK_next {t c k : Nat} {ks : List Fm} {q : Fm} (hq : ks[k]? = some q) (hc : capK t (ks.take k) = c) (h : c ≤ t) : capK t (ks.take (k + 1)) = c + capF (t - c) q := by
  have hg : shorts 100 (ks.take k) = true ∧ 1 + sizes (ks.take k) ≤ t := Decidable.byContradiction fun hn => by
    unfold capK at hc
    rw [if_neg hn] at hc
    omega
  have hc2 : 1 + sizes (ks.take k) = c := by
    unfold capK at hc
    rw [if_pos hg] at hc
    exact hc
  unfold capK capF
  rw [shorts_take hq, sizes_take hq, hg.1, Bool.true_and]
  by_cases h1 : short 100 q = true
  · by_cases h2 : size q ≤ t - c
    · rw [if_pos ⟨h1, by omega⟩, if_pos ⟨h1, h2⟩]; omega
    · rw [if_neg (fun h => h2 (by omega)), if_neg (fun h => h2 h.2)]; omega
  · rw [if_neg (fun h => h1 h.1), if_neg (fun h => h1 h.1)]; omega
theorem sizes_split : ∀ (ks : List Fm) (j : Nat), sizes (ks.take j) ≤ sizes ks := sizes_le
theorem shorts_part {n : Nat} {ks : List Fm} {j : Nat} (h : shorts n ks = true) : shorts n (ks.take j) = true := by
  by_cases hx : shorts n (ks.take j) = true
  · exact hx
  · exfalso
    apply hx
    clear hx
    induction ks generalizing j with
    | nil => simpa using h
    | cons a r ih =>
      rw [shorts, Bool.and_eq_true] at h
      cases j with
      | zero => rfl
      | succ j => rw [List.take_succ_cons, shorts, h.1, ih h.2]; rfl
theorem capF_bad {t k : Nat} {f : Fm} (hc : t < capK t (f.kids.take k)) : capF t f = t + 1 := by
  unfold capF
  rw [if_neg]
  rintro ⟨h1, h2⟩
  rw [short_kids, Bool.and_eq_true] at h1
  rw [size_kids] at h2
  have h3 := sizes_le f.kids k
  have h4 : capK t (f.kids.take k) = 1 + sizes (f.kids.take k) := by
    unfold capK
    rw [if_pos ⟨shorts_part h1.1, by omega⟩]
  omega
theorem capF_all {t : Nat} {f : Fm} (hn : f.name.length ≤ 100) : capF t f = capK t f.kids := by
  unfold capF capK
  rw [short_kids, size_kids]
  simp only [hn, decide_true, Bool.and_true]
  have : sizes f.kids + 1 = 1 + sizes f.kids := by omega
  rw [this]
theorem capF_long {t : Nat} {f : Fm} (hn : ¬ f.name.length ≤ 100) : capF t f = t + 1 := by
  unfold capF
  rw [short_kids]
  simp [hn]
def smallB (t : Nat) (f : Fm) : Bool := short 100 f && decide (size f ≤ t)
theorem capF_iff (t : Nat) (f : Fm) : decide (capF t f ≤ t) = smallB t f := by
  unfold capF smallB
  by_cases h1 : short 100 f = true
  · by_cases h2 : size f ≤ t
    · simp [h1, h2]
    · simp [h1, h2]
  · simp [h1]
def fewM (t : Nat) (m : Me) : Bool := decide (m.id.length ≤ 100) && (decide (m.auth.length ≤ 100) && (decide (m.target.length ≤ 100) && smallB t m.cond))
end Go.Cz.Vd
namespace Go.Proofs.YtoeknmkephnekaaGreatDoor
open Go.RowKit Go.Cz Go.Cz.Lx Go.Cz.Fo Go.Cz.Vd
set_option linter.unusedSimpArgs false
set_option linter.unusedVariables false
attribute [local go_sem] bs_size bs_extract bs_append bs_toList
attribute [local irreducible] cList cPlan
section
variable {p : Nat → Prop}
set_option maxRecDepth 100000 in
set_option maxHeartbeats 4000000 in
theorem size30_c (f : Fm) : ∀ (w : World) (kv : Value) (t : Nat), IsFm p w f kv → t ≤ 100000 → short 140737488355328 f = true →
    Calls Tryz.prog 99 #[fval f kv, .int .i64 (t : Int)] w (fun e w' => e = .returned (.int .i64 (capF t f : Nat)) ∧ Below w.heap.size w w') := by
  refine Fm.induct (P := fun f => ∀ (w : World) (kv : Value) (t : Nat), IsFm p w f kv → t ≤ 100000 → short 140737488355328 f = true →
    Calls Tryz.prog 99 #[fval f kv, .int .i64 (t : Int)] w (fun e w' => e = .returned (.int .i64 (capF t f : Nat)) ∧ Below w.heap.size w w')) ?_ f
  clear f
  intro f ih w kv t hf ht hsh
  have HI := Lib.hid ih
  have HSh := Lib.hid hsh
  have hnl : f.name.length ≤ 140737488355328 := short_name hsh
  clear hsh
  obtain ⟨y, m, rfl⟩ := hf.form
  obtain ⟨N, hN⟩ : ∃ N, N = f.kids.length := ⟨_, rfl⟩
  have HN := Lib.hid hN
  rw [← hN] at hf ⊢
  have HF := Lib.hid hf
  clear hN hf
  obtain ⟨W1, hW1⟩ : ∃ W1, W1 = w.alloc (fobj f (.slice y N m)) := ⟨_, rfl⟩
  obtain ⟨bf, hbf⟩ : ∃ bf, bf = w.heap.size := ⟨_, rfl⟩
  have HO : Hid (Owns w W1 [blk bf (fobj f (.slice y N m))]) := by
    rw [hW1, hbf]
    exact Lib.hid ((Owns.start w).box _)
  clear ih
  by_cases hn : f.name.length ≤ 100
  rotate_left
  · have HE : Hid (capF t f = t + 1) := capF_long hn
    have hn2 : (100 : Int) < (f.name.length : Int) := by omega
    clear hn
    go_enter Tryz.func99, Tryz.ntmps99
    go_upto_region 1 with fail
    rw [← hW1, ← hbf]
    clear hW1 hbf
    obtain ⟨bk, -⟩ := HO.out.blk
    have hbf := lt_of_block bk
    have cb1 := cell_of_heap bk (i := 1)
    have cb4 := cell_of_heap bk (i := 4)
    simp only [List.getElem?_toArray, List.getElem?_cons_succ, List.getElem?_cons_zero] at cb1 cb4
    clear bk
    go_wp2_with fail
    go_ret
    exact ⟨by rw [HE.out]; rfl, HO.out.base⟩
  have HA : Hid (capF t f = capK t f.kids) := capF_all hn
  have hn2 : ¬ (100 : Int) < (f.name.length : Int) := by omega
  clear hn
  go_enter Tryz.func99, Tryz.ntmps99
  go_upto_region 1 with fail
  rw [← hW1, ← hbf]
  clear hW1 hbf
  focus
    obtain ⟨bk, -⟩ := HO.out.blk
    have hbf := lt_of_block bk
    have cb1 := cell_of_heap bk (i := 1)
    have cb4 := cell_of_heap bk (i := 4)
    simp only [List.getElem?_toArray, List.getElem?_cons_succ, List.getElem?_cons_zero] at cb1 cb4
    clear bk
    go_wp2_with fail
    clear hbf cb1 cb4 hn2 hnl
  have H0 : Hid (capK t (f.kids.take 0) = 1) := Lib.hid (by rw [List.take_zero]; exact capK_nil t)
  go_loopg [5, 6] N (fun gk a i wr => ∃ k c : Nat, gk = N - k ∧ k ≤ N ∧ i = .int .i64 (k : Int) ∧ a = .int .i64 (c : Int) ∧ c ≤ t + 1 ∧ Hid (capK t (f.kids.take k) = c) ∧ Hid (Owns w wr [blk bf (fobj f (.slice y N m))]))
  case atStart => exact ⟨0, 1, rfl, Nat.zero_le _, rfl, rfl, by omega, H0, HO⟩
  case round =>
    rename_i J1 K1 hJ1 hK1
    clear HO H0
    obtain ⟨k, c, rfl, hk, rfl, rfl, hc, HC, HO⟩ := hrel
    obtain ⟨bk, -⟩ := HO.out.blk
    have hbf := lt_of_block bk
    have cb1 := cell_of_heap bk (i := 1)
    have cb4 := cell_of_heap bk (i := 4)
    simp only [List.getElem?_toArray, List.getElem?_cons_succ, List.getElem?_cons_zero] at cb1 cb4
    clear bk
    by_cases hlt : k < N
    · by_cases hct : c ≤ t
      · have hct' : (c : Int) ≤ (t : Int) := by omega
        obtain ⟨q, hq⟩ : ∃ q, f.kids[k]? = some q := ⟨_, List.getElem?_eq_getElem (by rw [← HN.out]; exact hlt)⟩
        obtain ⟨g, off, kv, rfl, hg, hkv, c0, c1, c2, c3, c4⟩ := HF.out.old HO.out.base hq
        obtain ⟨y2, m2, rfl⟩ := hkv.form
        have HQ := Lib.hid hq
        have HK := Lib.hid hkv
        clear hq hkv
        obtain ⟨N2, hN2⟩ : ∃ N2, N2 = q.kids.length := ⟨_, rfl⟩
        rw [← hN2] at c4 HK
        clear hN2
        have HLt := Lib.hid hlt
        obtain ⟨r, hr⟩ : ∃ r, r = t - c := ⟨_, rfl⟩
        have er : (t : Int) - (c : Int) = (r : Int) := by omega
        have HNx := Lib.hid (capK_next HQ.out HC.out hct)
        rw [← hr] at HNx
        have HR := Lib.hid hr
        clear hr
        have hk9 : k ≤ 100000 := by
          have h0 := HC.out
          unfold capK at h0
          have := length_sizes (f.kids.take k); rw [List.length_take] at this; have := HN.out
          split at h0 <;> omega
        go_wp2_with fail
        refine (HI.out q (List.mem_of_getElem? HQ.out) wr _ r (HK.out.later HO.out.base) (by omega) (short_kid HSh.out (List.mem_of_getElem? HQ.out))).mono ?_
        rintro e W2 ⟨rfl, hb⟩
        have HO2 := Lib.hid (HO.out.below hb)
        have hxl := capF_le r q
        obtain ⟨x, hx⟩ : ∃ x, x = capF r q := ⟨_, rfl⟩
        rw [← hx] at HNx hxl ⊢
        obtain ⟨c', hc'⟩ : ∃ c', c' = c + x := ⟨_, rfl⟩
        have ec : (c : Int) + (x : Int) = (c' : Int) := by omega
        have hc9 : c' ≤ t + 1 := by have := HR.out; omega
        rw [← hc'] at HNx
        clear hx hc' hb HO HC c0 c1 c2 c3 c4 cb1 cb4 hbf
        go_wp2_with fail
        go_roundg (N - (k + 1))
        case measure => omega
        case rel => exact ⟨k + 1, c', rfl, by omega, by go_num, rfl, hc9, HNx, HO2⟩
      · have hct' : ¬ (c : Int) ≤ (t : Int) := by omega
        have HE : Hid (capF t f = c) := by
          show _ = _
          rw [capF_bad (k := k) (by rw [HC.out]; omega)]
          omega
        clear hJ1 hK1 hct
        go_wp2_with fail
        go_ret
        exact ⟨by rw [HE.out]; rfl, HO.out.base⟩
    · obtain rfl : k = N := by omega
      have HE : Hid (capF t f = c) := by
        show _ = _
        have h1 := HC.out
        rw [HN.out, List.take_length] at h1
        rw [HA.out, h1]
      clear hJ1 hK1 hlt
      go_wp2_with fail
      go_ret
      exact ⟨by rw [HE.out]; rfl, HO.out.base⟩
theorem Small30_c (f : Fm) (w : World) (kv : Value) (t : Nat) (hf : IsFm p w f kv) (ht : t ≤ 100000) (hs : short 140737488355328 f = true) : Calls Tryz.prog 65 #[fval f kv, .int .i64 (t : Int)] w (fun e w' => e = .returned (.bool (smallB t f)) ∧ Below w.heap.size w w') := by
  have HS := Lib.hid hs
  clear hs
  obtain ⟨y, m, rfl⟩ := hf.form
  obtain ⟨N, hN⟩ : ∃ N, N = f.kids.length := ⟨_, rfl⟩
  have HN := Lib.hid hN
  rw [← hN] at hf ⊢
  have HF := Lib.hid hf
  clear hN hf
  obtain ⟨W1, hW1⟩ : ∃ W1, W1 = w.alloc (fobj f (.slice y N m)) := ⟨_, rfl⟩
  obtain ⟨bf, hbf⟩ : ∃ bf, bf = w.heap.size := ⟨_, rfl⟩
  have HO : Hid (Owns w W1 [blk bf (fobj f (.slice y N m))]) := by
    rw [hW1, hbf]
    exact Lib.hid ((Owns.start w).box _)
  go_enter Tryz.func65, Tryz.ntmps65
  go_wp2_with fail
  rw [← hW1]
  clear hW1 hbf
  go_at_call 99
  refine (size30_c f W1 _ t (HF.out.later HO.out.base) ht HS.out).mono ?_
  rintro e W2 ⟨rfl, hb⟩
  have HB := Lib.hid (HO.out.base.trans (hb.mono HO.out.base.size))
  obtain ⟨c, hc⟩ : ∃ c, c = capF t f := ⟨_, rfl⟩
  rw [← hc]
  have HC := Lib.hid hc
  clear hb HO hc
  go_wp2_with fail
  go_ret
  exact ⟨congrArg (fun b => Ending.returned (Value.bool b)) (show decide (c ≤ t) = smallB t f by rw [HC.out]; exact capF_iff t f), HB.out⟩
set_option maxRecDepth 100000 in
set_option maxHeartbeats 4000000 in
theorem Few30_c (m : Me) (kv : Value) (t : Nat) (w : World) (hf : IsFm p w m.cond kv) (ht : t ≤ 100000) (hm : MeLen m) (hs : short 140737488355328 m.cond = true) :
    Calls Tryz.prog 24 #[mval m kv, .int .i64 (t : Int)] w fun e w' => e = .returned (.bool (fewM t m)) ∧ Below w.heap.size w w' := by
  have HS := Lib.hid hs
  have HF := Lib.hid hf
  obtain ⟨y, c, rfl⟩ := hf.form
  obtain ⟨n, hn⟩ : ∃ n, n = m.cond.kids.length := ⟨_, rfl⟩
  rw [← hn] at HF ⊢
  have l0 := hm.id
  have l1 := hm.auth
  have l2 := hm.target
  clear hf hs hn hm
  obtain ⟨bx, hbx⟩ : ∃ bx, bx = w.heap.size := ⟨_, rfl⟩
  obtain ⟨W1, hW1⟩ : ∃ W1, W1 = w.alloc (mobj m (.slice y n c)) := ⟨_, rfl⟩
  have HO : Hid (Owns w W1 [blk bx (mobj m (.slice y n c))]) := by
    rw [hW1, hbx]
    exact Lib.hid ((Owns.start w).box (mobj m (.slice y n c)))
  by_cases h0 : m.id.length ≤ 100
  rotate_left
  · have h0' : ¬ (m.id.length : Int) ≤ 100 := by omega
    have HE : Hid (fewM t m = false) := by
      show _ = _
      unfold fewM
      rw [decide_eq_false h0]
      simp
    clear h0
    go_enter Tryz.func24, Tryz.ntmps24
    go_upto_region 1 with fail
    rw [← hW1, ← hbx]
    clear hW1 hbx
    obtain ⟨bk, -⟩ := HO.out.blk
    have hbx := lt_of_block bk
    have c0 := cell_of_heap bk (i := 0)
    have c1 := cell_of_heap bk (i := 1)
    have c3 := cell_of_heap bk (i := 3)
    have c4 := cell_of_heap bk (i := 4)
    have c5 := cell_of_heap bk (i := 5)
    have c6 := cell_of_heap bk (i := 6)
    have c7 := cell_of_heap bk (i := 7)
    have c8 := cell_of_heap bk (i := 8)
    simp only [List.getElem?_toArray, List.getElem?_cons_succ, List.getElem?_cons_zero] at c0 c1 c3 c4 c5 c6 c7 c8
    clear bk
    go_wp2_with fail
    go_ret
    exact ⟨by rw [HE.out]; rfl, HO.out.base⟩
  have h0' : (m.id.length : Int) ≤ 100 := by omega
  by_cases h1 : m.auth.length ≤ 100
  rotate_left
  · have h1' : ¬ (m.auth.length : Int) ≤ 100 := by omega
    have HE : Hid (fewM t m = false) := by
      show _ = _
      unfold fewM
      rw [decide_eq_false h1]
      simp
    clear h1
    go_enter Tryz.func24, Tryz.ntmps24
    go_upto_region 1 with fail
    rw [← hW1, ← hbx]
    clear hW1 hbx
    obtain ⟨bk, -⟩ := HO.out.blk
    have hbx := lt_of_block bk
    have c0 := cell_of_heap bk (i := 0)
    have c1 := cell_of_heap bk (i := 1)
    have c3 := cell_of_heap bk (i := 3)
    have c4 := cell_of_heap bk (i := 4)
    have c5 := cell_of_heap bk (i := 5)
    have c6 := cell_of_heap bk (i := 6)
    have c7 := cell_of_heap bk (i := 7)
    have c8 := cell_of_heap bk (i := 8)
    simp only [List.getElem?_toArray, List.getElem?_cons_succ, List.getElem?_cons_zero] at c0 c1 c3 c4 c5 c6 c7 c8
    clear bk
    go_wp2_with fail
    go_ret
    exact ⟨by rw [HE.out]; rfl, HO.out.base⟩
  have h1' : (m.auth.length : Int) ≤ 100 := by omega
  by_cases h2 : m.target.length ≤ 100
  rotate_left
  · have h2' : ¬ (m.target.length : Int) ≤ 100 := by omega
    have HE : Hid (fewM t m = false) := by
      show _ = _
      unfold fewM
      rw [decide_eq_false h2]
      simp
    clear h2
    go_enter Tryz.func24, Tryz.ntmps24
    go_upto_region 1 with fail
    rw [← hW1, ← hbx]
    clear hW1 hbx
    obtain ⟨bk, -⟩ := HO.out.blk
    have hbx := lt_of_block bk
    have c0 := cell_of_heap bk (i := 0)
    have c1 := cell_of_heap bk (i := 1)
    have c3 := cell_of_heap bk (i := 3)
    have c4 := cell_of_heap bk (i := 4)
    have c5 := cell_of_heap bk (i := 5)
    have c6 := cell_of_heap bk (i := 6)
    have c7 := cell_of_heap bk (i := 7)
    have c8 := cell_of_heap bk (i := 8)
    simp only [List.getElem?_toArray, List.getElem?_cons_succ, List.getElem?_cons_zero] at c0 c1 c3 c4 c5 c6 c7 c8
    clear bk
    go_wp2_with fail
    go_ret
    exact ⟨by rw [HE.out]; rfl, HO.out.base⟩
  have h2' : (m.target.length : Int) ≤ 100 := by omega
  have HE : Hid (fewM t m = smallB t m.cond) := by
    show _ = _
    unfold fewM
    simp [h0, h1, h2]
  clear h0 h1 h2
  go_enter Tryz.func24, Tryz.ntmps24
  go_upto_region 1 with fail
  rw [← hW1, ← hbx]
  clear hW1 hbx
  obtain ⟨bk, -⟩ := HO.out.blk
  have hbx := lt_of_block bk
  have c0 := cell_of_heap bk (i := 0)
  have c1 := cell_of_heap bk (i := 1)
  have c3 := cell_of_heap bk (i := 3)
  have c4 := cell_of_heap bk (i := 4)
  have c5 := cell_of_heap bk (i := 5)
  have c6 := cell_of_heap bk (i := 6)
  have c7 := cell_of_heap bk (i := 7)
  have c8 := cell_of_heap bk (i := 8)
  simp only [List.getElem?_toArray, List.getElem?_cons_succ, List.getElem?_cons_zero] at c0 c1 c3 c4 c5 c6 c7 c8
  clear bk
  go_wp2_with fail
  go_at_call 65
  refine (Small30_c m.cond W1 _ t (HF.out.later HO.out.base) ht HS.out).mono ?_
  rintro e W2 ⟨rfl, hb⟩
  replace HO := Lib.hid (HO.out.below hb)
  clear hb
  go_wp2_with fail
  go_ret
  exact ⟨by rw [HE.out]; rfl, HO.out.base⟩
def fewL (l : List Me) : Bool := l.all (fewM 60)
set_option maxRecDepth 100000 in
set_option maxHeartbeats 4000000 in
theorem fewL_c (l : List Me) (v : Value) (w : World) (hr : IsMeR w l v) (hl : l.length ≤ 1000) (hm : ∀ m ∈ l, MeLen m ∧ short 140737488355328 m.cond = true) :
    Calls Tryz.prog 10 #[v] w fun e w' => e = .returned (.bool (fewL l)) ∧ Below w.heap.size w w' := by
  obtain ⟨y, c, rfl⟩ := hr.form
  obtain ⟨N, hN⟩ : ∃ N, N = l.length := ⟨_, rfl⟩
  rw [← hN] at hr hl ⊢
  have HR := Lib.hid hr
  have HM := Lib.hid hm
  have HN := Lib.hid hN
  clear hr hm hN
  go_enter Tryz.func10, Tryz.ntmps10
  go_wp2_with fail
  have H0 : Hid (fewL (l.take 0) = true) := Lib.hid rfl
  go_loopg [3] N (fun gk i wr => ∃ k : Nat, gk = N - k ∧ k ≤ N ∧ i = .int .i64 (k : Int) ∧ Hid (fewL (l.take k) = true) ∧ Hid (Below w.heap.size w wr))
  case atStart => exact ⟨0, rfl, Nat.zero_le _, rfl, H0, Lib.hid (Below.refl _ _)⟩
  case round =>
    rename_i J1 K1 hJ1 hK1
    clear H0
    obtain ⟨k, rfl, hk, rfl, HT, HB⟩ := hrel
    by_cases hlt : k < N
    · obtain ⟨m, hmk⟩ : ∃ m, l[k]? = some m := ⟨_, List.getElem?_eq_getElem (by rw [← HN.out]; exact hlt)⟩
      obtain ⟨g, off, kv, rfl, hg, ha, hf⟩ := HR.out.get HB.out hmk
      obtain ⟨y2, m2, rfl⟩ := hf.form
      obtain ⟨n2, hn2⟩ : ∃ n, n = m.cond.kids.length := ⟨_, rfl⟩
      rw [← hn2] at ha hf
      have HFm := Lib.hid hf
      have HK := Lib.hid hmk
      obtain ⟨d0, d1, d2, d3, d4, d5, d6, d7, d8, d9, d10, d11⟩ := ha
      have HX : Hid (fewL (l.take (k + 1)) = fewM 60 m) := by
        show _ = _
        unfold fewL
        rw [List.take_add_one, HK.out, List.all_append]
        have := HT.out
        unfold fewL at this
        rw [this]
        simp
      clear hf hn2 hmk
      go_wp2_with fail
      clear d0 d1 d2 d3 d4 d5 d6 d7 d8 d9 d10 d11 hg
      go_at_call 24
      refine (Few30_c m _ 60 wr HFm.out (by omega) (HM.out m (List.mem_of_getElem? HK.out)).1 (HM.out m (List.mem_of_getElem? HK.out)).2).mono ?_
      rintro e W2 ⟨rfl, hb⟩
      replace HB := Lib.hid (HB.out.trans (hb.mono HB.out.size))
      clear hb
      obtain ⟨q, hq⟩ : ∃ q, q = fewM 60 m := ⟨_, rfl⟩
      rw [← hq] at HX ⊢
      clear hq
      cases q
      · have HE : Hid (fewL l = false) := by
          show _ = _
          have h1 := HX.out
          unfold fewL at h1 ⊢
          rw [← List.take_append_drop (k + 1) l, List.all_append, h1]
          rfl
        clear hJ1 hK1
        go_wp2_with fail
        go_ret
        exact ⟨by rw [HE.out]; rfl, HB.out⟩
      go_wp2_with fail
      go_roundg (N - (k + 1))
      case measure => omega
      case rel => exact ⟨k + 1, rfl, by omega, by go_num, HX, HB⟩
    · obtain rfl : k = N := by omega
      have HE : Hid (fewL l = true) := by
        show _ = _
        have := HT.out
        rw [HN.out, List.take_length] at this
        exact this
      clear hJ1 hK1 hlt
      go_wp2_with fail
      go_ret
      exact ⟨by rw [HE.out]; rfl, HB.out⟩
end
end Go.Proofs.YtoeknmkephnekaaGreatDoor

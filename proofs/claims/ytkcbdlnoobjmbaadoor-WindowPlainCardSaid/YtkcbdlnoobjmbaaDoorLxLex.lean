/-
  The lexer's 'Lex'.
-/
import Derived.Test.YtkcbdlnoobjmbaaDoorLxNext
import Derived.Test.YtkcbdlnoobjmbaaDoorORow
import Derived.Test.YtkcbdlnoobjmbaaDoorLxScan
namespace Go.Proofs.YtkcbdlnoobjmbaaDoor
open Go.RowKit Go.Cz Go.Cz.Lx
set_option linter.unusedSimpArgs false
set_option linter.unusedVariables false
attribute [local go_sem] bs_size bs_extract bs_append bs_toList
attribute [local irreducible] cList
def tcells (t : Tok) : List Value := [.int .i64 t.kind, .int .i64 t.pos, .int .i64 t.num, .string (bs t.text)]
/-- Tokens in a row. -/
def IsToks (W : World) (v : Value) (ts : List Tok) : Prop := (ts = [] ∧ v = .slice none 0 0) ∨ ∃ g c, v = .slice (some ⟨g, 0, none⟩) ts.length c ∧ ts.length ≤ c ∧ g < W.heap.size ∧ ∀ (j : Nat) (t : Tok), ts[j]? = some t →
    W.cell? ⟨g, j * 4, none⟩ = some (.int .i64 t.kind) ∧ W.cell? ⟨g, j * 4 + 1, none⟩ = some (.int .i64 t.pos) ∧ W.cell? ⟨g, j * 4 + 2, none⟩ = some (.int .i64 t.num) ∧ W.cell? ⟨g, j * 4 + 3, none⟩ = some (.string (bs t.text))
theorem flat_tcells : ∀ (ts : List Tok) (j k : Nat) (t : Tok), ts[j]? = some t → k < 4 → (ts.flatMap tcells)[j * 4 + k]? = (tcells t)[k]?
  | [], j, k, t, h, _ => by simp at h
  | a :: r, 0, k, t, h, hk => by
    simp at h; subst h
    rw [List.flatMap_cons, Nat.zero_mul, Nat.zero_add, List.getElem?_append_left (by simp [tcells]; exact hk)]
  | a :: r, j + 1, k, t, h, hk => by
    rw [List.flatMap_cons, List.getElem?_append_right (by simp [tcells]; omega)]
    have : (j + 1) * 4 + k - (tcells a).length = j * 4 + k := by simp [tcells]; omega
    rw [this]
    exact flat_tcells r j k t (by simpa using h) hk
theorem toks_of_row {V W : World} {v : Value} {ts : List Tok} (h : ORow 75 4 V W v ts.length (ts.flatMap tcells)) : IsToks W v ts := by
  rcases h.at with ⟨h1, h2⟩ | ⟨g, c, h1, h2, h3, h4, h5⟩
  · exact .inl ⟨List.length_eq_zero_iff.1 h2, h1⟩
  · refine .inr ⟨g, c, h1, h2, h4, fun j t ht => ⟨h5 _ _ ?_, h5 _ _ ?_, h5 _ _ ?_, h5 _ _ ?_⟩⟩
    · exact (flat_tcells ts j 0 t ht (by omega)).trans rfl
    · exact (flat_tcells ts j 1 t ht (by omega)).trans rfl
    · exact (flat_tcells ts j 2 t ht (by omega)).trans rfl
    · exact (flat_tcells ts j 3 t ht (by omega)).trans rfl
theorem info_tok : (Tryd.prog.info? 75).map (fun i => (i.zero, i.size, i.bytes)) = some (some (.agg #[.int .i64 0, .int .i64 0, .int .i64 0, .string ⟨#[]⟩]), 4, 40) := by kernel_rfl
def LexPost (w : World) (l : List UInt8) (e : Ending) (w' : World) : Prop := ∃ v, e = .returned (.tuple #[v, .int .i64 (lexAll l).2.1, .int .i64 (lexAll l).2.2]) ∧ IsToks w' v (lexAll l).1 ∧ Below w.heap.size w w'
theorem TokStep {V W4 w2 : World} {v v' : Value} {acc : List Tok} {t : Tok} {o1 o2 : Obj} (h : ORow 75 4 V W4 v acc.length (acc.flatMap tcells)) (hrow : w2.ownsRow 0 75 4 v' (acc.length + 1) (acc.flatMap tcells ++ tcells t))
    (hgrow : ((W4.alloc o1).alloc o2).grownBy w2 v.ownBlock) (hblk : v'.ownBlock = v.ownBlock ∨ v'.ownBlock = some ((W4.alloc o1).alloc o2).heap.size) : ORow 75 4 V w2 v' (acc ++ [t]).length ((acc ++ [t]).flatMap tcells) := by
  have hb : Below W4.heap.size W4 ((W4.alloc o1).alloc o2) := ((Below.refl _ _).alloc (Nat.le_refl _) _).alloc (by simp) _
  have := (h.keep hb).step hrow hgrow hblk
  simpa using this
set_option maxRecDepth 100000 in
set_option maxHeartbeats 400000 in
theorem Lex_c (l : List UInt8) (HI : 34 ∈ l → IdxAny) (w : World) (hl : l.length ≤ 140737488355328) : Calls Tryd.prog 42 #[.string (bs l)] w (LexPost w l) := by
  by_cases h2 : 20000 < l.length
  · have He : Hid (lexAll l = ([], 2, -1)) := if_pos h2
    go_enter Tryd.func42, Tryd.ntmps42
    go_wp2_with fail
    refine bodyPost_ret (results_tmp3 rfl _ _ _) (by rfl) ⟨.slice none 0 0, ?_, ?_, Below.refl _ _⟩
    · rw [He.out]; rfl
    · rw [He.out]; exact .inl ⟨rfl, rfl⟩
  have hl2 : l.length ≤ 20000 := by omega
  have HL := Lib.hid hl2
  have HI2 := Lib.hid HI
  clear HI
  go_enter Tryd.func42, Tryd.ntmps42
  go_wp2_with fail
  go_at_call 48
  refine (classes_c w).mono ?_
  rintro e W1 ⟨rfl, hb⟩
  have Hb := Lib.hid hb
  clear hb
  obtain ⟨ct, hct⟩ : ∃ ct, ct = clsTab := ⟨_, rfl⟩
  obtain ⟨cs, hcs, hbt⟩ : ∃ cs, ScanCells (bs l) cs ∧ Tryd.prog.built 85 [(0, .string (bs l)), (1, .agg ct)] = some cs := ⟨_, scanCells (bs l), by rw [hct]; exact built_scan (bs l)⟩
  rw [← hct]
  have Hcs := Lib.hid hcs
  have Hbt := Lib.hid hbt
  clear hct hcs hbt
  rename_i hnext
  refine hnext _ _ ?_
  refine wpList_build_to rfl 85 #[(0, .tmp 14), (1, .tmp 15)] (by rfl) cs _ (by simp [Act.eval]; rfl) (by exact Hbt.out) ?_
  have hc1 : cs.size = 257 := Hcs.out.1
  go_wp2_with fail
  rw [storeCells_row (P := Tryd.prog) _ W1.heap.size 85 _ cs (new_heap W1 _ _ rfl) (by rw [hc1]; exact zero_scan) Hcs.out.2.1]
  simp only [Result.andThen_ok]
  go_wp2_with fail
  obtain ⟨b, hb⟩ : ∃ b, b = W1.heap.size := ⟨_, rfl⟩
  obtain ⟨W2, hW2⟩ : ∃ W2, W2 = (W1.alloc (.cells Tryd.zeroCells85 85)).setRow W1.heap.size cs := ⟨_, rfl⟩
  have HE : Hid (LxE w W2 b l ∧ w.heap.size ≤ b) := by
    have h1 : (W1.alloc (.cells Tryd.zeroCells85 85)).heap[W1.heap.size]? = some (.cells Tryd.zeroCells85 85 (0, 0)) := new_heap W1 _ _ rfl
    have hbb := Hb.out
    have hm : Mod [W1.heap.size] W1 W2 := by
      rw [hW2]
      exact ((Mod.refl [W1.heap.size] W1).alloc _).trans ⟨rfl, rfl, rfl, by simp, fun k _ hk => setRow_other _ _ _ _ (by simpa using hk)⟩
    refine ⟨⟨hbb.trans ⟨hm.os, hm.tape, hm.output, hm.size, fun k hk => hm.block k (Nat.lt_of_lt_of_le hk hbb.size) (by simp; have := hbb.size; omega)⟩, ?_⟩, by rw [hb]; exact hbb.size⟩
    rw [hb, hW2]
    exact scan_of_cells (setRow_heap _ _ _ _ _ _ h1) Hcs.out
  rw [← hW2, ← hb]
  clear hb hW2 hc1 Hbt Hcs Hb
  go_at_call 49
  refine (gap_c b l 0 W2 HL.out (by omega) HE.out.1.scan).mono ?_
  rintro e W3 ⟨rfl, hb⟩
  have HE2 : Hid (LxE w W2 b l) := HE.out.1
  have HB3 := Lib.hid hb
  clear hb HE
  have hg0 := gapE_le l 0 (by omega)
  have H0 := Lib.hid (lexI_start l)
  go_wp2_with fail
  go_loopg [6, 7] (l.length - gapE l 0) (fun gk v i wr => ∃ (k : Nat) (acc : List Tok), gk = l.length - k ∧ k ≤ l.length ∧ i = .int .i64 (k : Int) ∧ acc.length ≤ 5000 ∧ Hid (LexI l k acc) ∧ Hid (ORow 75 4 W2 wr v acc.length (acc.flatMap tcells)))
  case atStart => exact ⟨gapE l 0, [], rfl, hg0, rfl, by simp, H0, ORow.nil HB3.out⟩
  case round =>
    rename_i J1 K1 hJ1 hK1
    clear HB3 H0 hnext hg0
    obtain ⟨k, acc, rfl, hk, rfl, h5, hL, hR⟩ := hrel
    have hw := HE2.out.next hR.out.below
    obtain ⟨sa, sc, rfl⟩ := hR.out.form
    by_cases hlt : k < l.length
    · go_wp2_with fail
      go_at_call 50
      refine (next_c b l HI2.out k wr HL.out hlt hw.out.scan).mono ?_
      rintro e W4 ⟨rfl, hb⟩
      have HE := hw.out.next hb
      have HR := Lib.hid (hR.out.keep hb)
      clear hb hw hR
      rcases hn : nextL l k with e | ⟨t, m⟩
      · have he0 : ((e : Int) == 0) = false := by have := nextL_err hn; simp; omega
        have he1 : ((e : Int) != 0) = true := by have := nextL_err hn; simp; omega
        have He := Lib.hid (lexI_err hL.out hlt HL.out hn)
        clear hn hL
        simp only [nextV]
        go_wp2_with fail
        refine bodyPost_ret (results_tmp3 rfl _ _ _) (by rfl) ⟨.slice none 0 0, ?_, ?_, ?_⟩
        · rw [He.out]; rfl
        · rw [He.out]; exact .inl ⟨rfl, rfl⟩
        · exact HE.out.below.trans (Below.mono ((Below.refl _ _).alloc (Nat.le_refl _) _) HE.out.below.size)
      · obtain ⟨n1, n2⟩ := nextL_width hn hlt
        simp only [nextV, tokV]
        by_cases hf : acc.length = 5000
        · have hf1 : ((acc.length : Int) == 5000) = true := by simp; omega
          have He := Lib.hid (lexI_full hL.out hlt HL.out hn hf)
          clear hn hL hf h5
          go_wp2_with fail
          refine bodyPost_ret (results_tmp3 rfl _ _ _) (by rfl) ⟨.slice none 0 0, ?_, ?_, ?_⟩
          · rw [He.out]; rfl
          · rw [He.out]; exact .inl ⟨rfl, rfl⟩
          · exact HE.out.below.trans (Below.mono ((Below.refl _ _).alloc (Nat.le_refl _) _) HE.out.below.size)
        · have hf1 : ((acc.length : Int) == 5000) = false := by simp; omega
          have HN := Lib.hid (lexI_next hL.out hlt hn hf)
          have hlen : acc.length ≤ 4999 := by omega
          clear hn hL hf h5
          go_wp2_with (refine wpList_plain rfl fun K hK => wp_append (.tmp 41) (.tmp 43) 71 (by rfl) 75 _ 4 40 Tryd.underlying71 info_tok (by rfl) (by omega) _ acc.length _ (by rfl) ((HR.out.row.alloc _).alloc _) (W4.heap.size + 1) 1 1 (tcells t) (by rfl) (by rfl) 75 (by exact new_heap (W4.alloc _) _ _ (by simp)) (by simp [tcells, Value.oneCell']) (by omega) (by omega) ?_; intro v' w2 hrow hgrow hblk; have HR2 := Lib.hid (TokStep HR.out hrow hgrow hblk); clear hrow hgrow hblk)
          rw [show (k : Int) + (m : Int) = ((k + m : Nat) : Int) from rfl]
          have HE4 := HE2.out.next HR2.out.below
          go_at_call 49
          refine (gap_c b l (k + m) w2 HL.out n2 HE4.out.scan).mono ?_
          rintro e W5 ⟨rfl, hb⟩
          have HR5 := Lib.hid (HR2.out.keep hb)
          clear hb HR2 HE4
          have hge := gapE_le l (k + m) n2
          have hgk : k < gapE l (k + m) := by unfold gapE; omega
          go_wp2_with fail
          go_roundg (l.length - gapE l (k + m))
          case measure => omega
          case rel => exact ⟨gapE l (k + m), acc ++ [t], rfl, hge, rfl, by simp; omega, HN, HR5⟩
    · have He := Lib.hid (lexI_end hL.out (by omega) HL.out)
      clear hL hJ1 hK1
      go_wp2_with fail
      refine bodyPost_ret (results_tmp3 rfl _ _ _) (by rfl) ⟨.slice sa acc.length sc, ?_, ?_, hw.out.below⟩
      · rw [He.out]; rfl
      · rw [He.out]; exact toks_of_row hR.out
end Go.Proofs.YtkcbdlnoobjmbaaDoor

/-
  'text': records as one text.
-/
import Derived.Test.YtjcjpekndeoonaaGreatDoorJnSplit
namespace Go.Proofs.YtjcjpekndeoonaaGreatDoor
open Go.RowKit Go.Cz Go.Cz.Jn Go.Shelf
set_option linter.unusedSimpArgs false
set_option linter.unusedVariables false
attribute [local go_sem] bs_size bs_extract bs_append bs_toList
attribute [local irreducible] cList cPlan
/-- Texts that lie in a row somewhere. -/
structure IsTexts (w : World) (x : Option Addr) (n : Nat) (l : List Bytes) : Prop where
  len : l.length = n
  at' : n = 0 ∨ ∃ g off, x = some ⟨g, off, none⟩ ∧ g < w.heap.size ∧ ∀ (j : Nat) (s : Bytes), l[j]? = some s → w.cell? ⟨g, off + j, none⟩ = some (.string (bs s))
theorem IsTexts.below {w w' : World} {x : Option Addr} {n : Nat} {l : List Bytes} (h : IsTexts w x n l) (hb : Below w.heap.size w w') : IsTexts w' x n l := by
  refine ⟨h.len, ?_⟩
  rcases h.at' with h0 | ⟨g, off, hx, hg, hc⟩
  · exact .inl h0
  · exact .inr ⟨g, off, hx, Nat.lt_of_lt_of_le hg hb.size, fun j s hj => by rw [hb.cell (p := ⟨g, off + j, none⟩) hg]; exact hc j s hj⟩
theorem IsTexts.get {w : World} {x : Option Addr} {n : Nat} {l : List Bytes} (h : IsTexts w x n l) {k : Nat} (hk : k < n) : ∃ g off s, x = some ⟨g, off, none⟩ ∧ l[k]? = some s ∧ g < w.heap.size ∧ w.cell? ⟨g, off + k, none⟩ = some (.string (bs s)) := by
  rcases h.at' with h0 | ⟨g, off, hx, hg, hc⟩
  · omega
  · have hl := h.len
    exact ⟨g, off, l[k], hx, List.getElem?_eq_getElem (by omega), hg, hc k _ (List.getElem?_eq_getElem (by omega))⟩
theorem textB_take {l : List Bytes} {k : Nat} {s : Bytes} (h : l[k]? = some s) : textB (l.take (k + 1)) = textB (l.take k) ++ (decB s.length ++ 58 :: s) := by
  obtain ⟨hk, rfl⟩ := List.getElem?_eq_some_iff.1 h
  rw [List.take_succ_eq_append_getElem hk, textB_append]
  simp [textB]
theorem textB_le {l : List Bytes} (k : Nat) : (textB (l.take k)).length ≤ (textB l).length := by
  have : textB l = textB (l.take k) ++ textB (l.drop k) := by rw [← textB_append, List.take_append_drop]
  rw [this, List.length_append]
  omega
theorem bldF_keep {B b : Nat} {xs : List Value} {w w' : World} (h : Lib.IsBuilderF 58 5 B b xs w) (hb : Below w.heap.size w w') : Lib.IsBuilderF 58 5 B b xs w' := by
  have key : ∀ p, Lib.BuilderAtF 58 5 B b p xs w → Lib.BuilderAtF 58 5 B b p xs w' := by
    rintro p ⟨h1, v, h2, h3, h4⟩
    refine ⟨h1, v, (hb.block b (lt_of_block h2)).trans h2, h3.kept (row := none) ⟨hb.os, hb.tape, hb.output, hb.size, fun i hi _ => hb.block i hi⟩ ?_, h4⟩
    cases v.ownBlock <;> simp
  exact h.imp (key _) (key _)
set_option maxRecDepth 10000 in
set_option maxHeartbeats 4000000 in
theorem textJ_c (x : Option Addr) (n c : Nat) (l : List Bytes) (w : World) (h : IsTexts w x n l) (hl : (textB l).length ≤ 1000000000) (hn : n ≤ 1000000000) (hs : Std w) :
    Calls Tryz.prog 47 #[.slice x n c] w fun e w' => e = .returned (.string (bs (textB l))) ∧ Below w.heap.size w w' := by
  obtain ⟨g, hg⟩ : ∃ g, g = w.heap.size := ⟨_, rfl⟩
  obtain ⟨W1, hW1⟩ : ∃ W1, W1 = w.alloc (.cells #[.pointer none, .slice none 0 0] 58) := ⟨_, rfl⟩
  have hb0 : Below w.heap.size w W1 := by rw [hW1]; exact (Below.refl _ w).alloc (Nat.le_refl _) _
  have HF : Hid (Lib.IsBuilderF 58 5 g g (Lib.byteCells (textB (l.take 0))) W1) := by
    refine Or.inl (Lib.BuilderAtF.of ⟨Nat.le_refl _, _, by rw [hg, hW1]; exact heap_alloc_new w _, World.ownsRow_nil _ _ _ _, by simp [Value.ownBlock]⟩)
  have HB : Hid (Below w.heap.size w W1) := hb0
  have HG : Hid (g = w.heap.size) := hg
  have HI := Lib.hid h
  have HS := Lib.hid hs
  have HL := Lib.hid hl
  have hlen := h.len
  clear h hs hl hb0
  go_enter Tryz.func47, Tryz.ntmps47
  go_wp2_with fail
  rw [← hg, ← hW1]
  clear hg hW1
  go_loopg [8] n (fun gk i wr => ∃ k : Nat, gk = n - k ∧ k ≤ n ∧ i = .int .i64 (k : Int) ∧ Hid (Lib.IsBuilderF 58 5 g g (Lib.byteCells (textB (l.take k))) wr) ∧ Hid (Below w.heap.size w wr))
  case atStart => exact ⟨0, rfl, Nat.zero_le _, rfl, HF, HB⟩
  case round =>
    rename_i J1 K1 hJ1 hK1
    clear HF HB
    obtain ⟨k, rfl, hk, rfl, HF, HB⟩ := hrel
    by_cases hlt : k < n
    · obtain ⟨b, off, s, rfl, hs, hb, cs⟩ := (HI.out.below HB.out).get hlt
      have HT := Lib.hid (textB_take hs)
      have hsl : s.length ≤ 1000000000 := by
        have h1 := congrArg List.length HT.out
        have h2 := textB_le (l := l) (k + 1)
        have h3 := HL.out
        rw [List.length_append, List.length_append, List.length_cons] at h1
        omega
      obtain ⟨d, hd⟩ : ∃ d, d = decB s.length := ⟨_, rfl⟩
      have hdl : d.length ≤ 20 := by rw [hd]; exact dec20 _ hsl
      have HD : Hid (Lib.decDigits s.length = d) := by show _ = _; rw [hd, decB_eq]
      rw [← hd] at HT
      clear hd hs
      have h58 : (bs d ++ ⟨#[58]⟩ ++ bs s : ByteArray) = bs (d ++ 58 :: s) := by
        rw [show (⟨#[58]⟩ : ByteArray) = bs [58] from rfl, bs_append, bs_append, List.append_assoc]
        rfl
      have H58 := Lib.hid h58
      clear h58
      go_wp2_with fail
      go_at_call 74
      refine (Itoa_c s.length _ hsl (HS.out.below HB.out)).mono ?_
      rintro e w2 ⟨rfl, hb2⟩
      rw [HD.out]
      replace HF := Lib.hid (bldF_keep HF.out hb2)
      replace HB := Lib.hid (HB.out.trans (hb2.mono HB.out.size))
      clear hb2 HD cs hb
      go_wp2_with fail
      rw [H58.out]
      have HW := Lib.hid (writeS_c g g _ (bs (d ++ 58 :: s)) w2 HF.out (by
        have h1 := textB_le (l := l) k
        have h2 := HL.out
        rw [Lib.byteCells_length, bs_size, List.length_append, List.length_cons]; omega) (by have := HB.out.size; have := HG.out; omega))
      clear H58 HF
      go_at_call 36
      refine HW.out.mono ?_
      rintro e W4 ⟨rfl, h4, b4⟩
      have HF : Hid (Lib.IsBuilderF 58 5 g g (Lib.byteCells (textB (l.take (k + 1)))) W4) := by
        rw [Lib.strCells_eq, ← Lib.byteCells_append] at h4
        rw [HT.out]
        exact Or.inr h4
      replace HB := Lib.hid (HB.out.trans (b4.mono (Nat.le_of_eq HG.out.symm)))
      clear HW h4 b4 HT
      go_wp2_with fail
      go_roundg (n - (k + 1))
      case measure => omega
      case rel => exact ⟨k + 1, rfl, by omega, by go_num, HF, HB⟩
    · obtain rfl : k = n := by omega
      have HE : Hid (l.take k = l) := by show _ = _; rw [List.take_of_length_le (by omega)]
      rw [HE.out] at HF
      have HT := Lib.hid (Tryz.Builder_String_any_f g g (textB l) wr HF.out (by have := HB.out.size; have := HG.out; omega))
      change Hid (Calls _ _ _ _ fun e w' => e = .returned (.string (bs (textB l))) ∧ _) at HT
      clear hJ1 hK1 HF HE
      go_wp2_with fail
      go_at_call 38
      refine HT.out.mono ?_
      rintro e W3 ⟨rfl, h3, b3⟩
      replace HB := Lib.hid (HB.out.trans (b3.mono (Nat.le_of_eq HG.out.symm)))
      clear HT h3 b3
      go_wp2_with fail
      go_ret
      exact ⟨rfl, HB.out⟩
end Go.Proofs.YtjcjpekndeoonaaGreatDoor

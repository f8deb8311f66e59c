/-
  Pieces that are joined; maps whose keys are texts.
-/
import Derived.Test.YtckocgkndbdhcaaGreatDoorNwPc
import Derived.Maps.RangeWalk
namespace Go.Cz
open Go.RowKit Go.ChangeMaps
set_option linter.unusedSimpArgs false
set_option linter.unusedVariables false
/-- One of some pieces. -/
def exP {ι : Type} (f : ι → Piece) : Piece where
  lies w S := ∃ i, (f i).lies w S
  lt := fun ⟨i, h⟩ => (f i).lt h
  keep := fun ⟨i, h⟩ hm hd => ⟨i, (f i).keep h hm hd⟩
/-- Two pieces, apart. -/
def pairP (P Q : Piece) : Piece where
  lies w S := ∃ S1 S2, P.lies w S1 ∧ Q.lies w S2 ∧ S = S1 ++ S2 ∧ ∀ k ∈ S2, k ∉ S1
  lt := by
    rintro w S ⟨S1, S2, h1, h2, rfl, -⟩ k hk
    rcases List.mem_append.1 hk with h | h
    · exact P.lt h1 k h
    · exact Q.lt h2 k h
  keep := by
    rintro w w' S T ⟨S1, S2, h1, h2, rfl, h3⟩ hm hd
    exact ⟨S1, S2, P.keep h1 hm fun k hk => hd k (List.mem_append.2 (.inl hk)), Q.keep h2 hm fun k hk => hd k (List.mem_append.2 (.inr hk)), rfl, h3⟩
def nilP : Piece where
  lies _ S := S = []
  lt := by rintro w S rfl k hk; simp at hk
  keep := fun h _ _ => h
section
variable {w0 w : World} {ps : List Piece} {P Q : Piece}
theorem Owns.ex {ι : Type} {f : ι → Piece} (h : Owns w0 w (exP f :: ps)) : ∃ i, Owns w0 w (f i :: ps) := by
  obtain ⟨hb, S, ⟨i, hi⟩, h⟩ := h
  exact ⟨i, hb, S, hi, h⟩
theorem Owns.asEx {ι : Type} {f : ι → Piece} {i : ι} (h : Owns w0 w (f i :: ps)) : Owns w0 w (exP f :: ps) := by
  obtain ⟨hb, S, hi, h⟩ := h
  exact ⟨hb, S, ⟨i, hi⟩, h⟩
theorem Owns.pair (h : Owns w0 w (pairP P Q :: ps)) : Owns w0 w (P :: Q :: ps) := by
  obtain ⟨S, ⟨S1, S2, h1, h2, rfl, h3⟩, hf⟩ := h.open2
  exact hf P Q S1 S2 h1 h2 (fun k hk => List.mem_append.2 (.inl hk)) (fun k hk => List.mem_append.2 (.inr hk)) h3
theorem Owns.asPair (h : Owns w0 w (P :: Q :: ps)) : Owns w0 w (pairP P Q :: ps) := h.merge fun S T h1 h2 h3 => ⟨S, T, h1, h2, rfl, h3⟩
theorem Owns.nilPush (h : Owns w0 w ps) : Owns w0 w (nilP :: ps) := h.push (S := []) rfl (Below.refl _ _) (by simp)
def joinP : List Piece → Piece
  | [] => nilP
  | q :: qs => pairP q (joinP qs)
theorem Owns.split : ∀ {qs ps : List Piece}, Owns w0 w (joinP qs :: ps) → Owns w0 w (qs ++ ps)
  | [], ps, h => h.pop
  | q :: qs, ps, h => by
    have h1 : Owns w0 w (q :: joinP qs :: ps) := Owns.pair h
    exact (Owns.split h1.swap).perm List.perm_middle
theorem Owns.join : ∀ {qs ps : List Piece}, Owns w0 w (qs ++ ps) → Owns w0 w (joinP qs :: ps)
  | [], ps, h => Owns.nilPush h
  | q :: qs, ps, h => by
    have h1 : Owns w0 w (qs ++ q :: ps) := Owns.perm h List.perm_middle.symm
    exact Owns.asPair (P := q) (Q := joinP qs) (Owns.join h1).swap
theorem Owns.rowNil (h : Owns w0 w ps) (e : TypeId) (size : Nat) : Owns w0 w (rowP e size (.slice none 0 0) 0 [] :: ps) := h.push (S := []) ⟨World.ownsRow_nil _ _ _ _, by simp [Value.ownBlock]⟩ (Below.refl _ _) (by simp)
theorem setBlock_mod (w : World) (g : Nat) (o : Obj) : Mod [g] w (setBlock w g o) := by
  refine ⟨rfl, rfl, rfl, by simp [setBlock], fun k hk hn => ?_⟩
  simp only [setBlock]
  rw [Array.getElem?_setIfInBounds_ne (by intro e; exact hn (by simp [e]))]
theorem setBlock_at {w : World} {g : Nat} {o : Obj} (h : w.heap[g]? = some o) (o' : Obj) : (setBlock w g o').heap[g]? = some o' := by
  have := lt_of_block h
  simp [setBlock, this]
theorem Owns.turn {g : Nat} {o : Obj} (h : Owns w0 w (Cz.blk g o :: ps)) (o' : Obj) : Owns w0 (setBlock w g o') (Cz.blk g o' :: ps) := by
  obtain ⟨S, ⟨rfl, h1⟩, -, hf⟩ := h.open
  exact hf _ _ [g] ⟨rfl, setBlock_at h1 o'⟩ (setBlock_mod w g o') fun k hk => .inl hk
end
/-! Maps whose keys are texts. -/
theorem bs_beq (a b : List UInt8) : (bs a == bs b) = decide (a = b) := by
  have h : (bs a == bs b) = (a.toArray == b.toArray) := rfl
  rw [h]
  by_cases h : a = b <;> simp [h]
abbrev mE (k : List UInt8) (v : Value) (c : Nat) : MapEntry := { key := .string (bs k), val := v, born := c }
theorem find_none (s : List UInt8) : ∀ (es : List MapEntry) (ks : List (List UInt8)) (i : Nat), es.map (·.key) = ks.map (fun k => .string (bs k)) → s ∉ ks → Instr.findNow .string (.string (bs s)) es i = some none
  | [], _, i, _, _ => rfl
  | e :: es, [], i, h, _ => by simp at h
  | e :: es, k :: ks, i, h, hs => by
    simp only [List.map_cons, List.cons.injEq] at h
    simp only [List.mem_cons, not_or] at hs
    rw [Instr.findNow, h.1]
    simp only [Instr.sameNow, bs_beq, hs.1, decide_false]
    exact find_none s es ks (i + 1) h.2 hs.2
section
variable {P : Program} {t k e : TypeId} {W : World} {r c : Nat} {es : Array MapEntry}
theorem map_look (ht : P.underlying t = some (.map k e)) (hk : P.underlying k = some .string) (hb : W.heap[r]? = some (.map es c)) (s : List UInt8) {j : Nat} {v : Value} (co : Bool) (hf : Instr.findNow .string (.string (bs s)) es.toList 0 = some (some (j, v))) :
    (Instr.lookup t (.map (some r)) (.string (bs s)) co).run P W = .ok (if co then .tuple #[v, .bool true] else v) W := by
  have hc : (Instr.checkKey es.isEmpty 10000 k (.string (bs s))).run P W = .ok () W := MapKept.run_checkKey (d := .string) hk (by simp [MapKept.IsKey]) _ 9999
  simp [Instr.lookup, run_underlying ht, MapKept.run_getObj_map hb, hc, MapKept.run_findKey hk hf, Result.andThen]
theorem map_miss (ht : P.underlying t = some (.map k e)) (hk : P.underlying k = some .string) (hb : W.heap[r]? = some (.map es c)) (s : List UInt8) {z : Value} (hz : (zeroValue e).run P W = .ok z W) (co : Bool) (hf : Instr.findNow .string (.string (bs s)) es.toList 0 = some none) :
    (Instr.lookup t (.map (some r)) (.string (bs s)) co).run P W = .ok (if co then .tuple #[z, .bool false] else z) W := by
  have hc : (Instr.checkKey es.isEmpty 10000 k (.string (bs s))).run P W = .ok () W := MapKept.run_checkKey (d := .string) hk (by simp [MapKept.IsKey]) _ 9999
  simp [Instr.lookup, run_underlying ht, MapKept.run_getObj_map hb, hc, MapKept.run_findKey hk hf, Result.andThen, hz]
theorem map_new (ht : P.underlying t = some (.map k e)) (hk : P.underlying k = some .string) (hb : W.heap[r]? = some (.map es c)) (s : List UInt8) (v : Value) (hf : Instr.findNow .string (.string (bs s)) es.toList 0 = some none) :
    (Instr.mapUpdate t (.map (some r)) (.string (bs s)) v).run P W = .ok () (setBlock W r (.map (es.push (mE s v c)) (c + 1))) := by
  have hc : (Instr.checkKey false 10000 k (.string (bs s))).run P W = .ok () W := MapKept.run_checkKey (d := .string) hk (by simp [MapKept.IsKey]) false 9999
  simp [Instr.mapUpdate, run_underlying ht, MapKept.run_getObj_map hb, hc, MapKept.run_findKey hk hf, MapKept.run_setObj_map _ hb, Result.andThen, setBlock]
theorem map_over (ht : P.underlying t = some (.map k e)) (hk : P.underlying k = some .string) (hb : W.heap[r]? = some (.map es c)) (s : List UInt8) (v : Value) {j : Nat} {v0 : Value} (hf : Instr.findNow .string (.string (bs s)) es.toList 0 = some (some (j, v0))) {x : MapEntry} (hj : es[j]? = some x) (hx : x.key = .string (bs s)) :
    (Instr.mapUpdate t (.map (some r)) (.string (bs s)) v).run P W = .ok () (setBlock W r (.map (es.modify j fun e => { e with key := .string (bs s), val := v }) c)) := by
  have hc : (Instr.checkKey false 10000 k (.string (bs s))).run P W = .ok () W := MapKept.run_checkKey (d := .string) hk (by simp [MapKept.IsKey]) false 9999
  have hs : (Instr.keyThatStays (.string (bs s)) (.string (bs s))).run P W = .ok (.string (bs s)) W := MapKept.run_keyThatStays (d := .string) (by simp [MapKept.IsKey])
  simp [Instr.mapUpdate, run_underlying ht, MapKept.run_getObj_map hb, hc, MapKept.run_findKey hk hf, hj, hx, hs, MapKept.run_setObj_map _ hb, Result.andThen, setBlock]
theorem map_clear (ht : P.underlying t = some (.map k e)) (hb : W.heap[r]? = some (.map es c)) (ty : TypeId) : (Builtin.clear_ #[t] ty #[.map (some r)]).run P W = .ok (.tuple #[]) (setBlock W r (.map #[] c)) := by
  simp [Builtin.clear_, run_underlying ht, MapKept.run_getObj_map hb, MapKept.run_setObj_map _ hb, Result.andThen, setBlock]
/-! A range over a map of two entries. -/
variable {g : Nat} {E0 E1 : MapEntry}
abbrev two (E0 E1 : MapEntry) (i : Bool) : MapEntry := if i then E0 else E1
theorem two_t : two E0 E1 true = E0 := rfl
theorem two_f : two E0 E1 false = E1 := rfl
theorem next_one (ty : TypeId) (hr : W.heap[r]? = some (.mapIter (some g) c #[] c)) (hb : W.heap[g]? = some (.map #[E0, E1] c)) (h0 : E0.born < c) (h1 : E1.born < c) :
    ∃ (i : Bool) (W1 : World), (W1 = W ∨ W1 = W.drew) ∧ (Instr.next (.pointer (some ⟨r, 0, none⟩)) false ty).run P W = .ok (.tuple #[.bool true, (two E0 E1 i).key, (two E0 E1 i).val]) (setBlock W1 r (.mapIter (some g) c #[(two E0 E1 i).born] c)) := by
  rcases run_next_at (P := P) W ty r g c c #[] #[E0, E1] c hr hb (by simp [h0, h1]) (Nat.le_refl _) with ⟨h, -⟩ | ⟨e, he, W1, hw, hrun⟩
  · simp [leftOf] at h
  · have : e = E0 ∨ e = E1 := by simpa [leftOf] using he
    rcases this with rfl | rfl
    · exact ⟨true, W1, hw, by simpa [two_t] using hrun⟩
    · exact ⟨false, W1, hw, by simpa [two_f] using hrun⟩
theorem next_two (ty : TypeId) (i : Bool) (hr : W.heap[r]? = some (.mapIter (some g) c #[(two E0 E1 i).born] c)) (hb : W.heap[g]? = some (.map #[E0, E1] c)) (h0 : E0.born < c) (h1 : E1.born < c) (hne : E0.born ≠ E1.born) :
    ∃ (W1 : World), (W1 = W ∨ W1 = W.drew) ∧ (Instr.next (.pointer (some ⟨r, 0, none⟩)) false ty).run P W = .ok (.tuple #[.bool true, (two E0 E1 !i).key, (two E0 E1 !i).val]) (setBlock W1 r (.mapIter (some g) c #[(two E0 E1 i).born, (two E0 E1 !i).born] c)) := by
  rcases run_next_at (P := P) W ty r g c c #[(two E0 E1 i).born] #[E0, E1] c hr hb (by simp [h0, h1]) (Nat.le_refl _) with ⟨h, -⟩ | ⟨e, he, W1, hw, hrun⟩
  · exfalso
    cases i <;> simp [leftOf, hne, hne.symm, two_t, two_f] at h
  · have : e = two E0 E1 !i := by
      cases i <;> simp [leftOf, two_t, two_f] at he <;> rcases he with ⟨rfl | rfl, h⟩ <;> simp_all [two_t, two_f]
    subst this
    exact ⟨W1, hw, by simpa using hrun⟩
theorem next_end (ty : TypeId) (i : Bool) (hr : W.heap[r]? = some (.mapIter (some g) c #[(two E0 E1 i).born, (two E0 E1 !i).born] c)) (hb : W.heap[g]? = some (.map #[E0, E1] c)) (h0 : E0.born < c) (h1 : E1.born < c) :
    (Instr.next (.pointer (some ⟨r, 0, none⟩)) false ty).run P W = .ok (.tuple #[.bool false]) W := by
  rcases run_next_at (P := P) W ty r g c c #[(two E0 E1 i).born, (two E0 E1 !i).born] #[E0, E1] c hr hb (by simp [h0, h1]) (Nat.le_refl _) with ⟨-, h⟩ | ⟨e, he, W1, hw, hrun⟩
  · exact h
  · exfalso
    cases i <;> simp [leftOf, two_t, two_f] at he <;> rcases he with ⟨rfl | rfl, h⟩ <;> simp_all [two_t, two_f]
theorem entry_is (i : Bool) {seen : Array Nat} (hr : W.heap[r]? = some (.mapIter (some g) c (seen.push (two E0 E1 i).born) c)) (hb : W.heap[g]? = some (.map #[E0, E1] c)) (hne : E0.born ≠ E1.born) :
    (Instr.entry (.pointer (some ⟨r, 0, none⟩))).run P W = .ok (.tuple #[(two E0 E1 i).key, (two E0 E1 i).val]) W :=
  run_entry_at W r g c seen #[E0, E1] c _ hr hb (by cases i <;> simp [two_t, two_f]) (by simp [hne])
end
end Go.Cz

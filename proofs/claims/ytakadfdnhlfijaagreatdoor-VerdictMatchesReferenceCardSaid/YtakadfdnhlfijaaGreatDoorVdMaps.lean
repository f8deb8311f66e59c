/-
  Maps of the call's own as pieces; what is exempt; where an authority stands.
-/
import Derived.Test.YtakadfdnhlfijaaGreatDoorFmFact
import Derived.Test.YtakadfdnhlfijaaGreatDoorVdModel
import Derived.DeepKeys4
import Derived.Maps.OwnSet
namespace Go.Proofs.YtakadfdnhlfijaaGreatDoor
open Go.RowKit Go.Cz Go.Cz.Lx Go.Cz.Fo Go.Cz.Vd
open Go.WideMaps (keyOf_string_mk)
set_option linter.unusedSimpArgs false
set_option linter.unusedVariables false
/-- A map of the call's own. -/
def mapP (k e : TypeId) (b n : Nat) (D : DataW Unit) : Piece where
  lies w S := S = [b] ∧ w.ownsMap Tryz.prog k (plainElem Tryz.prog e) b n D
  lt := by rintro w S ⟨rfl, h⟩ j hj; simp at hj; subst hj; exact h.lt
  keep := by
    rintro w w' S T ⟨rfl, h⟩ hm hd
    obtain ⟨es, clock, hb, r⟩ := h
    exact ⟨rfl, es, clock, hm.heap hb (hd b (by simp)), r⟩
section
variable {w0 w w' : World} {ps : List Piece} {k e : TypeId} {b n n' : Nat} {D D' : DataW Unit}
theorem Owns.mapNew (h : Owns w0 w ps) (k e : TypeId) : Owns w0 (w.alloc (.map #[] 0)) (mapP k e w.heap.size 0 (.map []) :: ps) :=
  h.push (S := [w.heap.size]) ⟨rfl, World.ownsMap_made w Tryz.prog k (plainElem (H := Unit) Tryz.prog e)⟩ ((Below.refl _ _).alloc (Nat.le_refl _) _) (by simp)
theorem Owns.mapAt (h : Owns w0 w (mapP k e b n D :: ps)) : w.ownsMap Tryz.prog k (plainElem Tryz.prog e) b n D ∧ w0.heap.size ≤ b := by
  obtain ⟨S, ⟨rfl, h1⟩, h2⟩ := h.first
  exact ⟨h1, h2 b (by simp)⟩
theorem Owns.mapSet (h : Owns w0 w (mapP k e b n D :: ps)) (hm : w'.ownsMap Tryz.prog k (plainElem Tryz.prog e) b n' D') (hg : w.grownBy w' (some b)) : Owns w0 w' (mapP k e b n' D' :: ps) := by
  obtain ⟨S, ⟨rfl, h1⟩, _, hf⟩ := h.open
  exact hf w' _ [b] ⟨rfl, hm⟩ ((Mod.refl [b] w).grown hg (by rintro j hj; cases hj; exact .inl (by simp))) fun j hj => .inl hj
end
/-! What is exempt. -/
def tk (a b : Bytes) : Lit := .string (keyBytes [.string a, .string b])
theorem tk_inj {a b c d : Bytes} (ha : a.length ≤ maxLen) (hb : b.length ≤ maxLen) (hc : c.length ≤ maxLen) (hd : d.length ≤ maxLen) (h : tk a b = tk c d) : a = c ∧ b = d := by
  have h1 : keyBytes [.string a, .string b] = keyBytes [.string c, .string d] := by simpa [tk] using h
  have h2 := keyBytes_inj (l := [.string a, .string b]) (l' := [.string c, .string d]) (by simp [Alike, Lit.sameKind]) (by simp [Lit.keyWf, ha, hb]) (by simp [Lit.keyWf, hc, hd]) h1
  simpa using h2
def exD : List (Bytes × Bytes) → DataW Unit
  | [] => .map []
  | p :: r => (exD r).put (tk p.1 p.2) (.lit (.bool true))
theorem ex_map : ∀ l, Go.Maps.IsMap (exD l)
  | [] => Go.Maps.isMap_empty
  | _ :: r => (ex_map r).put _ _
def TkLen (l : List (Bytes × Bytes)) : Prop := ∀ p ∈ l, p.1.length ≤ maxLen ∧ p.2.length ≤ maxLen
theorem ex_at {a b : Bytes} (ha : a.length ≤ maxLen) (hb : b.length ≤ maxLen) : ∀ l, TkLen l → (exD l).atKey (tk a b) (.lit (.bool false)) = .lit (.bool (l.contains (a, b)))
  | [], _ => rfl
  | p :: r, hl => by
    show ((exD r).put (tk p.1 p.2) (.lit (.bool true))).atKey (tk a b) (.lit (.bool false)) = _
    by_cases h : (a, b) = p
    · subst h
      rw [Go.Maps.atKey_put_same (ex_map r) (by trivial)]
      simp
    · have hp := hl p (by simp)
      rw [Go.Maps.atKey_put_other (fun e => h (by obtain ⟨rfl, rfl⟩ := tk_inj ha hb hp.1 hp.2 e; rfl)), ex_at ha hb r fun q hq => hl q (by simp [hq])]
      simp [h]
theorem laid_out : laidOutB Tryz.prog = true := by kernel_rfl
theorem wide_target : (match Tryz.prog.underlying 72 with | some (.array _ _) | some (.struct _) => true | _ => false) = true := by rw [Tryz.underlying72]
theorem row_target : (72 : TypeId) < Tryz.prog.types.size := by decide +kernel
theorem law_target : Tryz.prog.keyTypeAt 2 72 = true := by kernel_rfl
set_option maxRecDepth 100000 in
theorem key_target : Go.Maps.Keyed Tryz.prog 72 := .of_law (deep_law_laid laid_out (m := 2) (by omega) row_target law_target wide_target)
theorem target_type : Tryz.prog.keyType 72 = true := by kernel_rfl
theorem target_cells : Tryz.prog.cellsOf 72 = 2 := by kernel_rfl
theorem string_cells : Tryz.prog.cellsOf 9 = 1 := by kernel_rfl
theorem target_formed (a b : Value) : (Value.agg #[a, b]).formed Tryz.prog 72 = true := by simp [Value.formed, Tryz.underlying72, target_cells]
theorem keyOf_target {a b : Bytes} (ha : a.length ≤ maxLen) (hb : b.length ≤ maxLen) : keyOf Tryz.prog 72 (.agg #[.string (bs a), .string (bs b)]) = some (tk a b) := by
  have ea : (bs a).data.toList = a := by simp [bs]
  have eb : (bs b).data.toList = b := by simp [bs]
  obtain ⟨n, hn⟩ : ∃ n, n = Tryz.prog.types.size := ⟨_, rfl⟩
  have hpos : 0 < n := by rw [hn]; exact Nat.lt_of_le_of_lt (Nat.zero_le _) row_target
  obtain ⟨k, rfl⟩ : ∃ k, n = k + 1 := ⟨n - 1, by omega⟩
  have h1 : ∀ x : Bytes, x.length ≤ maxLen → Tryz.prog.keyLits (k + 1) 9 [.string (bs x)] = some [.string x] := fun x hx => by
    unfold Program.keyLits
    rw [Tryz.underlying9]
    have ex : (bs x).data.toList = x := by simp [bs]
    show (if (bs x).size ≤ maxLen then some [Lit.string (bs x).data.toList] else none) = _
    rw [if_pos (by rw [bs_size]; exact hx), ex]
  have h2 : Tryz.prog.keyLits (k + 1 + 1) 72 [.string (bs a), .string (bs b)] = some [.string a, .string b] := by
    unfold Program.keyLits
    rw [Tryz.underlying72]
    simp [target_cells, string_cells, h1 a ha, h1 b hb]
  unfold keyOf
  rw [Tryz.underlying72]
  show (if (Tryz.prog.keyType 72 && (Value.agg #[.string (bs a), .string (bs b)]).formed Tryz.prog 72) = true then (Tryz.prog.keyLits (Tryz.prog.types.size + 1) 72 [.string (bs a), .string (bs b)]).map _ else none) = _
  rw [target_type, target_formed, ← hn, h2]
  rfl
/-- A look into a map of yes and no. -/
theorem look_bool {w : World} {t k : TypeId} {b n : Nat} {D : DataW Unit} {key : Value} {kl : Lit} {q : Bool} (h : w.ownsMap Tryz.prog k (plainElem Tryz.prog 4) b n D) (K : Go.Maps.Keyed Tryz.prog k) (ht : Tryz.prog.underlying t = some (.map k 4)) (hkey : keyOf Tryz.prog k key = some kl) (hD : D.atKey kl (.lit (.bool false)) = .lit (.bool q)) :
    (Instr.lookup t (.map (some b)) key false).run Tryz.prog w = .ok (.bool q) w := by
  obtain ⟨v, ps, hrun, hv⟩ := h.lookup K ht (zero_bool w) (plainElem_bool Tryz.underlying4 false) hkey
  rw [hD] at hv
  obtain ⟨x, rfl, e2⟩ := plainElem_bool_inv Tryz.underlying4 hv
  simp only [Prod.mk.injEq, DataW.lit.injEq, Lit.bool.injEq] at e2
  rw [hrun, e2.1]
/-! Where an authority stands. -/
def atD : List Bytes → DataW Unit
  | [] => .map []
  | a :: r => (atD r).put (.string a) (.lit (.int .i64 r.length))
theorem at_map : ∀ l, Go.Maps.IsMap (atD l)
  | [] => Go.Maps.isMap_empty
  | _ :: r => (at_map r).put _ _
def posA (a : Bytes) : List Bytes → Option Nat
  | [] => none
  | b :: r => if b = a then some r.length else posA a r
theorem at_at (s : Bytes) : ∀ l, (atD l).atKey (.string s) (.lit (.int .i64 0)) = .lit (.int .i64 ((posA s l).getD 0 : Nat)) ∧ Go.Maps.has (atD l) (.string s) = (posA s l).isSome
  | [] => ⟨rfl, rfl⟩
  | t :: r => by
    obtain ⟨h1, h2⟩ := at_at s r
    show ((atD r).put (.string t) (.lit (.int .i64 r.length))).atKey (.string s) (.lit (.int .i64 0)) = _ ∧ Go.Maps.has ((atD r).put (.string t) (.lit (.int .i64 r.length))) (.string s) = _
    by_cases h : t = s
    · subst h
      rw [Go.Maps.atKey_put_same (at_map r) (by trivial), Go.Maps.has_put_same (at_map r) (by trivial)]
      simp [posA]
    · have h' : Lit.string s ≠ Lit.string t := by simpa using fun e => h e.symm
      rw [Go.Maps.atKey_put_other h', Go.Maps.has_put_other h', h1, h2]
      simp [posA, h]
theorem posA_none {a : Bytes} : ∀ {l : List Bytes}, a ∉ l → posA a l = none
  | [], _ => rfl
  | b :: r, h => by
    have h1 : ¬ b = a := fun e => h (by simp [e])
    rw [posA, if_neg h1]
    exact posA_none fun e => h (by simp [e])
theorem idxA_none {a : Bytes} : ∀ {l : List Bytes}, a ∉ l → idxA a l = none
  | [], _ => rfl
  | b :: r, h => by
    have h1 : ¬ b = a := fun e => h (by simp [e])
    rw [idxA, if_neg h1, idxA_none fun e => h (by simp [e])]
    rfl
theorem idxA_append {a : Bytes} : ∀ (l m : List Bytes), idxA a (l ++ m) = match idxA a l with | some i => some i | none => (idxA a m).map (· + l.length)
  | [], m => by simp [idxA]
  | b :: r, m => by
    show (if b = a then some 0 else (idxA a (r ++ m)).map (· + 1)) = _
    rw [idxA]
    by_cases h : b = a
    · rw [if_pos h, if_pos h]
    · rw [if_neg h, if_neg h, idxA_append r m]
      cases idxA a r with
      | some i => rfl
      | none => cases idxA a m <;> simp [Nat.add_assoc]
theorem posA_idx {a : Bytes} : ∀ {r : List Bytes}, r.Nodup → posA a r = idxA a r.reverse
  | [], _ => rfl
  | b :: r, hn => by
    rw [List.nodup_cons] at hn
    rw [List.reverse_cons, idxA_append, posA, ← posA_idx hn.2]
    by_cases h : b = a
    · subst h
      rw [if_pos rfl, posA_none hn.1]
      simp [idxA]
    · rw [if_neg h]
      cases posA a r <;> simp [idxA, h]
theorem idxA_some {a : Bytes} : ∀ {l : List Bytes} {i : Nat}, idxA a l = some i → l[i]? = some a
  | [], i, h => by cases h
  | b :: r, i, h => by
    rw [idxA] at h
    split at h
    · rename_i e
      cases h
      simp [e]
    · cases hr : idxA a r with
      | none => rw [hr] at h; cases h
      | some j =>
        rw [hr] at h
        cases h
        simpa using idxA_some hr
end Go.Proofs.YtakadfdnhlfijaaGreatDoor

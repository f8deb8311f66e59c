/-
  Texts of this claim, put together by a program: MsRModel, MsRRd, MsRNum, FmRd, FmRList, FmRNot, FmRGap, FmRLex.
-/
import Derived.Test.YtoeknmkephnekaaGreatDoorPk4
import Derived.Deep.DeepCutAuto
import Derived.Deep.LoopGhost
set_option linter.unusedSimpArgs false
set_option linter.unusedVariables false
namespace Go.Cz.Vd
open Go.Cz.Lx Go.Cz.Fo
abbrev SM := PSt × Me
def seesR (k : Nat) (u : Bytes) : PSt -> Bool
 | .ok (t :: _) => decide (t.kind = k) && (decide (u = []) || decide (t.text = u))
 | _ => false
def takeR (fin : Int) (k : Nat) (u : Bytes) : PSt -> Tok × PSt
 | .ok (t :: r) => if seesR k u (.ok (t :: r)) = true then (t, .ok r) else (zTok, .error (5, t.pos))
 | .ok [] => (zTok, .error (6, fin))
 | .error e => (zTok, .error e)
def skipR : PSt -> PSt
 | .ok (_ :: r) => .ok r
 | s => s
def okR : PSt -> Bool | .ok _ => true | .error _ => false
def numR (fin least most : Int) (s : PSt) : Int × PSt :=
 let p := takeR fin 2 [] s
 (p.1.num, if okR p.2 = true /\ ((p.1.num : Int) < least ∨ most < (p.1.num : Int)) then failS p.2 10 p.1.pos else p.2)
def condR (l : Bytes) (begin : Nat) (ts : List Tok) : Fm × PSt :=
 let p := parseF ((l.take (endM l (ts.drop (fromM ts)))).drop begin)
 (p.1, match condE begin (endM l (ts.drop (fromM ts))) (decide (fromM ts < ts.length)) p with
  | some e => .error e
  | none => .ok (ts.drop (fromM ts)))
def stK (fin : Int) (x : SM) : SM :=
 if seesR 1 wExempt x.1 = true ∨ seesR 1 wBlock x.1 = true then
  (let p := takeR fin 1 [] (skipR x.1); (p.2, { x.2 with kind := if seesR 1 wBlock x.1 = true then 3 else 2, target := p.1.text }))
 else ((takeR fin 1 wForbid x.1).2, x.2)
def stI (fin : Int) (x : SM) : SM :=
 let p := takeR fin 1 [] x.1
 (if okR p.2 = true /\ x.2.kind = 2 /\ p.1.text = x.2.target then failS p.2 1 p.1.pos else p.2, { x.2 with id := p.1.text })
def stO (fin : Int) (x : SM) : SM := ((takeR fin 1 wOf x.1).2, x.2)
def stA (fin : Int) (x : SM) : SM :=
 let p := takeR fin 1 [] x.1
 (if okR p.2 = true /\ x.2.kind = 3 /\ p.1.text = x.2.target then failS p.2 1 p.1.pos else p.2, { x.2 with auth := p.1.text })
def stC (l : Bytes) (x : SM) : SM :=
 if seesR 1 wIf x.1 = true then
  (let p := condR l (endM l (toks x.1) + 2) (toks x.1).tail; (p.2, { x.2 with cond := p.1 }))
 else x
def stF (fin : Int) (x : SM) : SM :=
 let p := numR fin 0 100000 (takeR fin 1 wFrom x.1).2
 (p.2, { x.2 with fr := p.1 })
def stU (fin : Int) (x : SM) : SM :=
 if seesR 1 wUntil x.1 = true then (let p := numR fin (x.2.fr + 1) 100000 (skipR x.1); (p.2, { x.2 with un := p.1 })) else x
def stW (fin : Int) (x : SM) : SM :=
 if x.2.kind = 1 /\ seesR 1 wWind x.1 = true then (let p := numR fin 0 400 (skipR x.1); (p.2, { x.2 with wi := p.1 })) else x
def stE (fin : Int) (x : SM) : SM :=
 (match (takeR fin 4 [59] x.1).2 with
  | .ok (t :: r) => .error (5, t.pos)
  | s => s, x.2)
def finR (x : SM) : Me × Nat × Int := match x.1 with
 | .error e => (zeroM, e.1, e.2)
 | .ok _ => (x.2, 0, 0)
def refM (l : Bytes) (ts : List Tok) : SM :=
 stE l.length (stW l.length (stU l.length (stF l.length (stC l (stA l.length (stO l.length (stI l.length (stK l.length (.ok ts, startM 1)))))))))
section
variable {fin : Int} {l : Bytes}
theorem takeR_ok {k : Nat} {u : Bytes} {ts : List Tok} : takeR fin k u (.ok ts) = match takeM fin k u ts with
  | .error e => (zTok, .error e)
  | .ok (t, r) => (t, .ok r) := by
 rcases ts with _ | ⟨t, r⟩
 ·rfl
 ·simp only [takeR, takeM, seesR]; by_cases h1 : t.kind = k
  ·by_cases h2 : u = []
   ·simp [h1, h2]
   ·by_cases h3 : t.text = u
    ·simp [h1, h3]
    ·simp [h1, h2, h3]
  ·simp [h1]
theorem takeR_err {k : Nat} {u : Bytes} {e : Er} : takeR fin k u (.error e) = (zTok, .error e) := rfl
theorem numR_ok {a b : Int} {ts : List Tok} : numR fin a b (.ok ts) = match takeM fin 2 [] ts with
  | .error e => ((zTok.num : Int), .error e)
  | .ok (t, r) => if (t.num : Int) < a ∨ b < (t.num : Int) then ((t.num : Int), .error (10, t.pos)) else ((t.num : Int), .ok r) := by
 simp only [numR, takeR_ok]; rcases takeM fin 2 [] ts with e | ⟨t, r⟩
 ·simp [okR]
 ·simp only [okR, true_and, failS]
  split <;> rfl
theorem numR_err {a b : Int} {e : Er} : numR fin a b (.error e) = ((zTok.num : Int), .error e) := by simp [numR, takeR_err, okR]
theorem stI_err {e : Er} {m : Me} : (stI fin (.error e, m)).1 = .error e := by simp [stI, takeR_err, okR]
theorem stO_err {e : Er} {m : Me} : (stO fin (.error e, m)).1 = .error e := by simp [stO, takeR_err]
theorem stA_err {e : Er} {m : Me} : (stA fin (.error e, m)).1 = .error e := by simp [stA, takeR_err, okR]
theorem stC_err {e : Er} {m : Me} : (stC l (.error e, m)).1 = .error e := by simp [stC, seesR]
theorem stF_err {e : Er} {m : Me} : (stF fin (.error e, m)).1 = .error e := by simp [stF, takeR_err, numR_err]
theorem stU_err {e : Er} {m : Me} : (stU fin (.error e, m)).1 = .error e := by simp [stU, seesR]
theorem stW_err {e : Er} {m : Me} : (stW fin (.error e, m)).1 = .error e := by simp [stW, seesR]
theorem stE_err {e : Er} {m : Me} : (stE fin (.error e, m)).1 = .error e := by simp [stE, takeR_err]
theorem target_num' {fin k : Int} {m : Me} {ts r : List Tok} (hn : NameOk ts) (h : targetM fin k ts = .ok (m, r)) : m.un = -1 /\ m.wi = 0 := by
 unfold targetM at h
 split at h
 ·obtain ⟨x, y, rfl, -⟩ := ids_inv hn h; exact ⟨rfl, rfl⟩
 ·split at h
  ·cases h
  rename_i t q h0; obtain ⟨u, rfl, g1, g2, g3⟩ := name_inv h0; have hq : NameOk q := fun v hv => hn v (by simp [hv]); obtain ⟨x, y, rfl, -⟩ := ids_inv hq h; exact ⟨rfl, rfl⟩
def Sim (x : SM) : Except Er (Me × List Tok) -> Prop
 | .error e => x.1 = .error e
 | .ok (m, r) => x = (.ok r, m)
theorem sim_name {k : Int} {f : Me -> Bytes -> Me} {ts : List Tok} {m : Me} (hn : NameOk ts) (hk : k = 2 ∨ k = 3) :
  Sim (let p := takeR fin 1 [] (.ok ts); (if okR p.2 = true /\ m.kind = k /\ p.1.text = m.target then failS p.2 1 p.1.pos else p.2, f m p.1.text))
   (match nameM fin (if m.kind = k then m.target else []) ts with
    | .error e => .error e
    | .ok (s, r) => .ok (f m s, r)) := by
 simp only [takeR_ok, nameM]; rcases h : takeM fin 1 [] ts with e | ⟨t, r⟩
 ·simp [okR, Sim]
 ·obtain ⟨rfl, h1, -⟩ := take_inv h; have h2 := hn t (by simp) h1; have h3 : t.text ≠ [] := fun h => by rw [h] at h2; revert h2; decide
  simp only [okR, true_and, failS]; by_cases hk2 : m.kind = k
  ·by_cases ht : t.text = m.target
   ·simp [hk2, ht, Sim]
   ·simp [hk2, ht, Sim]
  ·simp [hk2, h3, Sim]
theorem sim_I {ts : List Tok} {m : Me} (hn : NameOk ts) : Sim (stI fin (.ok ts, m)) (match nameM fin (if m.kind = 2 then m.target else []) ts with
  | .error e => .error e
  | .ok (s, r) => .ok ({ m with id := s }, r)) := sim_name (f := fun m s => { m with id := s }) hn (.inl rfl)
theorem sim_A {ts : List Tok} {m : Me} (hn : NameOk ts) : Sim (stA fin (.ok ts, m)) (match nameM fin (if m.kind = 3 then m.target else []) ts with
  | .error e => .error e
  | .ok (s, r) => .ok ({ m with auth := s }, r)) := sim_name (f := fun m s => { m with auth := s }) hn (.inr rfl)
theorem sim_O {ts : List Tok} {m : Me} : Sim (stO fin (.ok ts, m)) (match takeM fin 1 wOf ts with
  | .error e => .error e
  | .ok (t, r) => .ok (m, r)) := by
 simp only [stO, takeR_ok]; rcases takeM fin 1 wOf ts with e | ⟨t, r⟩ <;> simp [Sim]
theorem sim_ids {ts : List Tok} {m : Me} (hn : NameOk ts) : Sim (stA fin (stO fin (stI fin (.ok ts, m)))) (idsM fin (if m.kind = 2 then m.target else []) (if m.kind = 3 then m.target else []) m ts) := by
 have h1 := sim_I (fin := fin) (m := m) hn; rcases hr1 : nameM fin (if m.kind = 2 then m.target else []) ts with e | ⟨a, r⟩
 ·rw [hr1] at h1; simp only [idsM, hr1]; have h1' : (stI fin (.ok ts, m)).1 = .error e := h1; have h2 : stI fin (.ok ts, m) = (.error e, (stI fin (.ok ts, m)).2) := Prod.ext h1' rfl; rw [h2]; have h3 : stO fin (.error e, (stI fin (.ok ts, m)).2) = (.error e, (stO fin (.error e, (stI fin (.ok ts, m)).2)).2) := Prod.ext stO_err rfl; rw [h3]; exact stA_err
 rw [hr1] at h1; have h1' : stI fin (.ok ts, m) = (.ok r, { m with id := a }) := h1; obtain ⟨t, rfl, -⟩ := name_inv hr1; have hn2 : NameOk r := fun u hu => hn u (by simp [hu]); rw [h1']; simp only [idsM, hr1]; have h2 := sim_O (fin := fin) (ts := r) (m := { m with id := a }); rcases hr2 : takeM fin 1 wOf r with e | ⟨t2, r2⟩
 ·rw [hr2] at h2; have h2' : (stO fin (.ok r, { m with id := a })).1 = .error e := h2; have h3 : stO fin (.ok r, { m with id := a }) = (.error e, (stO fin (.ok r, { m with id := a })).2) := Prod.ext h2' rfl; rw [h3]; exact stA_err
 rw [hr2] at h2; have h2' : stO fin (.ok r, { m with id := a }) = (.ok r2, { m with id := a }) := h2; rw [h2']; have hn3 : NameOk r2 := fun u hu => hn2 u (by rw [(take_inv hr2).1]; simp [hu]); have h3 := sim_A (fin := fin) (m := { m with id := a }) hn3; simp only at h3 ⊢; rcases hr3 : nameM fin (if m.kind = 3 then m.target else []) r2 with e | ⟨b, r3⟩
 ·rw [hr3] at h3; exact h3
 ·rw [hr3] at h3; exact h3
theorem sim_K {ts : List Tok} (hn : NameOk ts) : Sim (stA fin (stO fin (stI fin (stK fin (.ok ts, startM 1))))) (match takeM fin 1 [] ts with
  | .error e => .error e
  | .ok (t, r) => if kindM t.text = 0 then .error (5, t.pos) else targetM fin (kindM t.text) r) := by
 have bad : ∀ {e : Er} {m : Me}, Sim (stA fin (stO fin (stI fin (.error e, m)))) (.error e) := by
  intro e m; show _ = _; have h2 : stI fin (.error e, m) = (.error e, (stI fin (.error e, m)).2) := Prod.ext stI_err rfl; rw [h2]; have h3 : stO fin (.error e, (stI fin (.error e, m)).2) = (.error e, (stO fin (.error e, (stI fin (.error e, m)).2)).2) := Prod.ext stO_err rfl; rw [h3]; exact stA_err
 rcases ts with _ | ⟨t, r⟩
 ·simp only [takeM]; have h : stK fin (.ok [], startM 1) = (.error (6, fin), startM 1) := by simp [stK, seesR, takeR]
  rw [h]; exact bad
 by_cases h1 : t.kind = 1
 rotate_left
 ·have h : stK fin (.ok (t :: r), startM 1) = (.error (5, (t.pos : Int)), startM 1) := by simp [stK, seesR, takeR, h1]
  rw [h]; simp only [takeM, h1, ne_eq, not_false_eq_true, true_or, if_true]; exact bad
 have hn2 : NameOk r := fun u hu => hn u (by simp [hu]); have ht : takeM fin 1 [] (t :: r) = .ok (t, r) := by simp [takeM, h1]
 rw [ht]; simp only; by_cases hf : t.text = wForbid
 ·have h : stK fin (.ok (t :: r), startM 1) = (.ok r, startM 1) := by simp [stK, seesR, takeR, h1, hf, show ¬ wForbid = wExempt by decide, show ¬ wForbid = wBlock by decide, show ¬ wExempt = [] by decide, show ¬ wBlock = [] by decide]
  rw [h]; have hk : kindM t.text = 1 := by simp [kindM, hf]
  rw [hk, if_neg (by decide)]; simp only [targetM, if_true]; exact sim_ids hn2
 have two : ∀ k : Int, (k = 2 ∨ k = 3) -> kindM t.text = k -> stK fin (.ok (t :: r), startM 1) = (let p := takeR fin 1 [] (.ok r); (p.2, { startM 1 with kind := k, target := p.1.text })) -> Sim (stA fin (stO fin (stI fin (stK fin (.ok (t :: r), startM 1))))) (if kindM t.text = 0 then .error (5, (t.pos : Int)) else targetM fin (kindM t.text) r) := by
  intro k hk hkm h; rw [h, hkm, if_neg (by rcases hk with rfl | rfl <;> decide)]; simp only [takeR_ok]; have hk1 : k ≠ 1 := by rcases hk with rfl | rfl <;> decide
  simp only [targetM, if_neg hk1, nameM]; rcases hr : takeM fin 1 [] r with e | ⟨u, q⟩
  ·exact bad
  ·obtain ⟨rfl, h4, -⟩ := take_inv hr; have h5 := hn2 u (by simp) h4; have h6 : u.text ≠ [] := fun h => by rw [h] at h5; revert h5; decide
   simp only [if_neg h6]; have hn3 : NameOk q := fun v hv => hn2 v (by simp [hv]); have := sim_ids (fin := fin) (m := { startM k with target := u.text }) hn3; exact this
 by_cases he : t.text = wExempt
 ·refine two 2 (.inl rfl) (by simp [kindM, he, show ¬ wExempt = wForbid by decide]) ?_; have h7 : seesR 1 wExempt (.ok (t :: r)) = true := by simp [seesR, h1, he]
  have h8 : seesR 1 wBlock (.ok (t :: r)) = false := by simp [seesR, h1, he, show ¬ wExempt = wBlock by decide, show ¬ wBlock = [] by decide]
  simp [stK, h7, h8, skipR]
 by_cases hb : t.text = wBlock
 ·refine two 3 (.inr rfl) (by simp [kindM, hb, show ¬ wBlock = wForbid by decide, show ¬ wBlock = wExempt by decide]) ?_; have h8 : seesR 1 wBlock (.ok (t :: r)) = true := by simp [seesR, h1, hb]
  simp [stK, h8, skipR]
 ·have h : stK fin (.ok (t :: r), startM 1) = (.error (5, (t.pos : Int)), startM 1) := by simp [stK, seesR, takeR, h1, he, hb, hf, show ¬ wExempt = [] by decide, show ¬ wBlock = [] by decide, show ¬ wForbid = [] by decide]
  rw [h]; have hk : kindM t.text = 0 := by simp [kindM, he, hb, hf]
  rw [if_pos hk]; exact bad
theorem sees_M {w : Bytes} {ts : List Tok} (hw : w ≠ []) : seesR 1 w (.ok ts) = seesM w ts := by
 rcases ts with _ | ⟨t, r⟩
 ·rfl
 ·simp [seesR, seesM, hw]
theorem sim_C {ts : List Tok} {m : Me} (hc : m.cond = trueF) : Sim (stC l (.ok ts, m)) (match ifM l ts with
  | .error e => .error e
  | .ok (f, q) => .ok ({ m with cond := f }, q)) := by
 simp only [stC, ifM, sees_M (show wIf ≠ [] by decide), toks]; by_cases h : seesM wIf ts = true
 ·rw [if_pos h, if_pos h]; simp only [condR, condM]; rcases condE (endM l ts + 2) (endM l (ts.tail.drop (fromM ts.tail))) (decide (fromM ts.tail < ts.tail.length)) (parseF ((l.take (endM l (ts.tail.drop (fromM ts.tail)))).drop (endM l ts + 2))) with _ | e
  ·exact rfl
  ·exact rfl
 ·rw [if_neg h, if_neg h]; show _ = _; rw [<- hc]
theorem sim_num {a b : Int} {ts : List Tok} {f : Int -> Me} : Sim ((numR fin a b (.ok ts)).2, f (numR fin a b (.ok ts)).1) (match numM fin a b ts with
  | .error e => .error e
  | .ok (n, q) => .ok (f n, q)) := by
 rw [numR_ok, numM]; rcases takeM fin 2 [] ts with e | ⟨t, r⟩
 ·exact rfl
 ·simp only
  split <;> exact rfl
theorem sim_F {ts : List Tok} {m : Me} : Sim (stF fin (.ok ts, m)) (match takeM fin 1 wFrom ts with
  | .error e => .error e
  | .ok (_, ts) => match numM fin 0 100000 ts with
   | .error e => .error e
   | .ok (n, q) => .ok ({ m with fr := n }, q)) := by
 simp only [stF, takeR_ok]; rcases takeM fin 1 wFrom ts with e | ⟨t, r⟩
 ·show _ = _; simp [numR_err]
 ·exact sim_num (f := fun n => { m with fr := n })
theorem skipR_tail {ts : List Tok} : skipR (.ok ts) = .ok ts.tail := by cases ts <;> rfl
theorem sim_U {ts : List Tok} {m : Me} (hu : m.un = -1) : Sim (stU fin (.ok ts, m)) (match untilM fin m.fr ts with
  | .error e => .error e
  | .ok (n, q) => .ok ({ m with un := n }, q)) := by
 simp only [stU, untilM, sees_M (show wUntil ≠ [] by decide)]; by_cases h : seesM wUntil ts = true
 ·rw [if_pos h, if_pos h, skipR_tail]; exact sim_num (f := fun n => { m with un := n })
 ·rw [if_neg h, if_neg h]; show _ = _; rw [<- hu]
theorem sim_W {ts : List Tok} {m : Me} (hu : m.wi = 0) : Sim (stW fin (.ok ts, m)) (match windM fin m.kind ts with
  | .error e => .error e
  | .ok (n, q) => .ok ({ m with wi := n }, q)) := by
 simp only [stW, windM, sees_M (show wWind ≠ [] by decide)]; by_cases h : m.kind = 1 /\ seesM wWind ts = true
 ·rw [if_pos h, if_pos h, skipR_tail]; exact sim_num (f := fun n => { m with wi := n })
 ·rw [if_neg h, if_neg h]; show _ = _; rw [<- hu]
theorem sim_E {ts : List Tok} {m : Me} : Sim (stE fin (.ok ts, m)) (match closeM fin ts with
  | .error e => .error e
  | .ok _ => .ok (m, [])) := by
 simp only [stE, closeM, takeR_ok]; rcases takeM fin 4 [59] ts with e | ⟨t, _ | ⟨u, r⟩⟩ <;> exact rfl
def outE : Except Er (Me × List Tok) -> Me × Nat × Int
 | .error e => (zeroM, e.1, e.2)
 | .ok (m, _) => (m, 0, 0)
theorem sim_fin {x : SM} {y : Except Er (Me × List Tok)} (h : Sim x y) : finR x = outE y := by
 rcases y with e | ⟨m, r⟩
 ·have h' : x.1 = .error e := h; simp [finR, h', outE]
 ·have h' : x = (.ok r, m) := h; simp [finR, h', outE]
def thenE {α β : Type} (y : Except Er α) (k : α -> Except Er β) : Except Er β := match y with
 | .error e => .error e
 | .ok p => k p
theorem thenE_ok {α β : Type} {y : Except Er α} {k : α -> Except Er β} {p : β} (h : thenE y k = .ok p) : ∃ q, y = .ok q /\ k q = .ok p := by
 rcases y with e | q
 ·cases h
 ·exact ⟨q, rfl, h⟩
theorem sim_next {x : SM} {y : Except Er (Me × List Tok)} {g : SM -> SM} {k : Me × List Tok -> Except Er (Me × List Tok)} (h : Sim x y) (he : ∀ e m, (g (.error e, m)).1 = .error e)
  (hk : ∀ m r, y = .ok (m, r) -> Sim (g (.ok r, m)) (k (m, r))) : Sim (g x) (thenE y k) := by
 rcases y with e | ⟨m, r⟩
 ·have h' : x.1 = .error e := h; have h2 : x = (.error e, x.2) := Prod.ext h' rfl; rw [h2]; exact he e _
 ·have h' : x = (.ok r, m) := h; rw [h']; exact hk m r rfl
def pC (l : Bytes) (p : Me × List Tok) : Except Er (Me × List Tok) := match ifM l p.2 with
 | .error e => .error e
 | .ok (f, q) => .ok ({ p.1 with cond := f }, q)
def pF (fin : Int) (p : Me × List Tok) : Except Er (Me × List Tok) := match takeM fin 1 wFrom p.2 with
 | .error e => .error e
 | .ok (_, ts) => match numM fin 0 100000 ts with
  | .error e => .error e
  | .ok (n, q) => .ok ({ p.1 with fr := n }, q)
def pU (fin : Int) (p : Me × List Tok) : Except Er (Me × List Tok) := match untilM fin p.1.fr p.2 with
 | .error e => .error e
 | .ok (n, q) => .ok ({ p.1 with un := n }, q)
def pW (fin : Int) (p : Me × List Tok) : Except Er (Me × List Tok) := match windM fin p.1.kind p.2 with
 | .error e => .error e
 | .ok (n, q) => .ok ({ p.1 with wi := n }, q)
def pE (fin : Int) (p : Me × List Tok) : Except Er (Me × List Tok) := match closeM fin p.2 with
 | .error e => .error e
 | .ok _ => .ok (p.1, [])
theorem pC_keep {p q : Me × List Tok} (h : pC l p = .ok q) : q.1.un = p.1.un /\ q.1.wi = p.1.wi := by
 unfold pC at h
 split at h
 ·cases h
 ·cases h; exact ⟨rfl, rfl⟩
theorem pF_keep {p q : Me × List Tok} (h : pF fin p = .ok q) : q.1.un = p.1.un /\ q.1.wi = p.1.wi := by
 unfold pF at h
 split at h
 ·cases h
 ·split at h
  ·cases h
  ·cases h; exact ⟨rfl, rfl⟩
theorem pU_keep {p q : Me × List Tok} (h : pU fin p = .ok q) : q.1.wi = p.1.wi := by
 unfold pU at h
 split at h
 ·cases h
 ·cases h; rfl
theorem body_sim {ts : List Tok} {m : Me} (hc : m.cond = trueF) (hu : m.un = -1) (hw : m.wi = 0) : Sim (stE l.length (stW l.length (stU l.length (stF l.length (stC l (.ok ts, m)))))) (thenE (thenE (thenE (thenE (pC l (m, ts)) (pF l.length)) (pU l.length)) (pW l.length)) (pE l.length)) := by
 refine sim_next (sim_next (sim_next (sim_next (sim_C hc) (fun e m => stF_err) fun m r _ => sim_F) (fun e m => stU_err) fun m' r h => ?_) (fun e m => stW_err) fun m' r h => ?_) (fun e m => stE_err) fun m' r _ => sim_E
 ·obtain ⟨q, h1, h2⟩ := thenE_ok h; exact sim_U (by have := (pF_keep h2).1; have := (pC_keep h1).1; simp_all)
 ·obtain ⟨q, h1, h2⟩ := thenE_ok h; obtain ⟨q3, h3, h4⟩ := thenE_ok h1; exact sim_W (by have := (pF_keep h4).2; have := (pC_keep h3).2; have := pU_keep h2; simp_all)
theorem body_eq {ts : List Tok} {m : Me} (hc : m.cond = trueF) (hu : m.un = -1) (hw : m.wi = 0) : finR (stE l.length (stW l.length (stU l.length (stF l.length (stC l (.ok ts, m)))))) = match bodyM l m ts with
  | .error e => (zeroM, e.1, e.2)
  | .ok m => (m, 0, 0) := by
 rw [sim_fin (body_sim hc hu hw)]; simp only [bodyM, datesM, pC]; rcases ifM l ts with e | ⟨f, q1⟩
 ·rfl
 simp only [thenE, pF]; rcases takeM (l.length : Int) 1 wFrom q1 with e | ⟨t, q2⟩
 ·rfl
 simp only; rcases numM (l.length : Int) 0 100000 q2 with e | ⟨fr, q3⟩
 ·rfl
 simp only [pU]; rcases untilM (l.length : Int) fr q3 with e | ⟨un, q4⟩
 ·rfl
 simp only [pW]; rcases windM (l.length : Int) m.kind q4 with e | ⟨wi, q5⟩
 ·rfl
 simp only [pE]; rcases closeM (l.length : Int) q5 with e | ⟨⟩
 ·rfl
 ·rfl
theorem tail_err {x : SM} {e : Er} (h : x.1 = .error e) : (stE l.length (stW l.length (stU l.length (stF l.length (stC l x))))).1 = .error e := by
 have h0 : x = (.error e, x.2) := Prod.ext h rfl; rw [h0]; have h1 : stC l (.error e, x.2) = (.error e, (stC l (.error e, x.2)).2) := Prod.ext stC_err rfl; rw [h1]; have h2 : ∀ m, stF (l.length : Int) (.error e, m) = (.error e, (stF (l.length : Int) (.error e, m)).2) := fun m => Prod.ext stF_err rfl; rw [h2]; have h3 : ∀ m, stU (l.length : Int) (.error e, m) = (.error e, (stU (l.length : Int) (.error e, m)).2) := fun m => Prod.ext stU_err rfl; rw [h3]; have h4 : ∀ m, stW (l.length : Int) (.error e, m) = (.error e, (stW (l.length : Int) (.error e, m)).2) := fun m => Prod.ext stW_err rfl; rw [h4]; exact stE_err
theorem refM_eq {ts : List Tok} (hn : NameOk ts) : finR (refM l ts) = match measureM l ts with
  | .error e => (zeroM, e.1, e.2)
  | .ok m => (m, 0, 0) := by
 have h := sim_K (fin := (l.length : Int)) hn; unfold refM; obtain ⟨x, hx⟩ : ∃ x, x = stA (l.length : Int) (stO (l.length : Int) (stI (l.length : Int) (stK (l.length : Int) (.ok ts, startM 1)))) := ⟨_, rfl⟩; rw [<- hx] at h ⊢; have bad : ∀ {e : Er}, x.1 = .error e -> finR (stE l.length (stW l.length (stU l.length (stF l.length (stC l x))))) = (zeroM, e.1, e.2) := by
  intro e he; have h1 := tail_err (l := l) he; unfold finR; rw [h1]
 unfold measureM; rcases hr : takeM (l.length : Int) 1 [] ts with e | ⟨t, r⟩
 ·rw [hr] at h; exact bad h
 rw [hr] at h; simp only at h ⊢; by_cases hk : kindM t.text = 0
 ·rw [if_pos hk] at h ⊢; exact bad h
 rw [if_neg hk] at h ⊢; rcases hr2 : targetM (l.length : Int) (kindM t.text) r with e | ⟨m, q⟩
 ·rw [hr2] at h; exact bad h
 rw [hr2] at h; have hxe : x = (.ok q, m) := h; have hn2 : NameOk r := fun u hu => hn u (by rw [(take_inv hr).1]; simp [hu]); have hkk : kindM t.text = 1 ∨ kindM t.text = 2 ∨ kindM t.text = 3 := by rcases kindM_le t.text with h | h | h | h <;> omega
 obtain ⟨-, hcd, -⟩ := target_inv hkk hn2 hr2; obtain ⟨hu, hw⟩ := target_num' hn2 hr2; rw [hxe]; exact body_eq hcd hu hw
end
end Go.Cz.Vd
namespace Go.Proofs.YtoeknmkephnekaaGreatDoor
open Go.RowKit Go.Cz Go.Cz.Lx Go.Cz.Fo Go.Cz.Vd
attribute [local go_sem] bs_size bs_extract bs_append bs_toList
attribute [local irreducible] cList cPlan
abbrev r3obj (l : Bytes) (v : Value) (i : Nat) (s : PSt) : Obj := .cells #[.string (bs l), v, .int .i64 (i : Nat), .int .i64 (code s : Nat), .int .i64 (pos s)] 93 (0, 0)
def r3P (w0 : World) (bp : Nat) (l : Bytes) (all : List Tok) (v : Value) (s : PSt) : Piece where
 lies w S := S = [bp] /\ PSt.fine s /\ TokL w0 v all /\ ∃ i : Nat, i <= all.length /\ (∀ ts, s = .ok ts -> all.drop i = ts) /\ w.heap[bp]? = some (r3obj l v i s)
 lt := by rintro w S ⟨rfl, -, -, i, -, -, h⟩ k hk; simp at hk; subst hk; exact lt_of_block h
 keep := by rintro w w' S T ⟨rfl, hf, hv, i, hi, hd, h⟩ hm hx; exact ⟨rfl, hf, hv, i, hi, hd, hm.heap h (hx bp (by simp))⟩
end Go.Proofs.YtoeknmkephnekaaGreatDoor
namespace Go.Cz
open Go.RowKit Go.Cz.Lx Go.Cz.Fo Go.Proofs.YtoeknmkephnekaaGreatDoor
section
variable {w0 w W : World} {ps : List Piece} {bp i : Nat} {l : Bytes} {s : PSt} {v : Value} {all : List Tok}
theorem Owns.r3 (h : Owns w0 w (r3P W bp l all v s :: ps)) : PSt.fine s /\ TokL W v all /\ ∃ i, i <= all.length /\ (∀ ts, s = .ok ts -> all.drop i = ts) /\ Owns w0 w (Cz.blk bp (r3obj l v i s) :: ps) := by
 obtain ⟨S, ⟨rfl, hf, hv, i, hi, hd, h1⟩, -⟩ := h.first; refine ⟨hf, hv, i, hi, hd, ?_⟩; obtain ⟨S, ⟨rfl, -⟩, -, hq⟩ := h.open; exact hq w _ [bp] ⟨rfl, h1⟩ (Mod.refl _ _) fun k hk => .inl hk
theorem Owns.asR3 (h : Owns w0 w (Cz.blk bp (r3obj l v i s) :: ps)) (hf : PSt.fine s) (hv : TokL W v all) (hi : i <= all.length) (hd : ∀ ts, s = .ok ts -> all.drop i = ts) : Owns w0 w (r3P W bp l all v s :: ps) := by
 obtain ⟨S, ⟨rfl, h1⟩, -, hq⟩ := h.open; exact hq w _ [bp] ⟨rfl, hf, hv, i, hi, hd, h1⟩ (Mod.refl _ _) fun k hk => .inl hk
end
end Go.Cz
namespace Go.Cz.Vd
open Go.Cz.Lx Go.Cz.Fo
theorem dropT_cons {all : List Tok} {i : Nat} {t : Tok} {r : List Tok} (h : all.drop i = t :: r) : i < all.length /\ all[i]? = some t /\ all.drop (i + 1) = r := by
 have hi : i < all.length := Decidable.byContradiction fun hx => by
  rw [List.drop_of_length_le (by omega)] at h; cases h
 rw [List.drop_eq_getElem_cons hi] at h
 injection h with h1 h2
 exact ⟨hi, by rw [List.getElem?_eq_getElem hi, h1], h2⟩
theorem dropT_nil {all : List Tok} {i : Nat} (h : all.drop i = []) (hi : i <= all.length) : i = all.length := by
 have := congrArg List.length h; rw [List.length_drop, List.length_nil] at this; omega
end Go.Cz.Vd
namespace Go.Proofs.YtoeknmkephnekaaGreatDoor
open Go.RowKit Go.Cz Go.Cz.Lx Go.Cz.Fo Go.Cz.Vd
attribute [local go_sem] bs_size bs_extract bs_append bs_toList
attribute [local irreducible] cList cPlan
section
variable {w0 W0 : World} {bp : Nat} {l : Bytes} {all : List Tok} {v : Value}
theorem fault30_c (ps : List Piece) (s : PSt) (e : Nat) (a : Int) (he : e ≠ 0) (w : World) (h : Owns w0 w (r3P W0 bp l all v s :: ps)) :
  Calls Tryz.prog 59 #[.pointer (some ⟨bp, 0, none⟩), .int .i64 (e : Nat), .int .i64 a] w fun x w' => x = .returned (.tuple #[]) /\ Owns w0 w' (r3P W0 bp l all v (failS s e a) :: ps) := by
 obtain ⟨hf, hv, i, hi, hd, h1⟩ := h.r3; have HO := Lib.hid h1; have HV := Lib.hid hv; have HI := Lib.hid hi; cases s with
 | error x =>
  have hx : x.1 ≠ 0 := hf; have hx' : ((x.1 : Int) == 0) = false := by simpa using hx
  have HE : Hid (failS (.error x) e a = .error x) := rfl; have HP := Lib.hid h; obtain ⟨c, hc⟩ : ∃ c, c = x.1 := ⟨_, rfl⟩; simp only [r3obj, code, pos] at HO; rw [<- hc] at HO hx'; clear h h1 hv hf hx hc hi hd; obtain ⟨hbp, ⟨fp0, fp1, fp2, fp3, fp4⟩, cp0, cp1, cp2, cp3, cp4⟩ := bx5 HO.out.blk; go_enter Tryz.func59, Tryz.ntmps59
  go_wp2_with fail
  go_end0
  exact ⟨rfl, by rw [HE.out]; exact HP.out⟩
 | ok ts =>
  have HE : Hid (failS (.ok ts) e a = .error (e, a)) := rfl; have HEe := Lib.hid he; simp only [r3obj, code, pos] at HO; clear h h1 hv hf he hi hd; obtain ⟨hbp, ⟨fp0, fp1, fp2, fp3, fp4⟩, cp0, cp1, cp2, cp3, cp4⟩ := bx5 HO.out.blk; go_enter Tryz.func59, Tryz.ntmps59
  go_wp2_with fail
  go_end0
  refine ⟨rfl, ?_⟩; rw [HE.out]; have h2 := (HO.out.store (i := 3) (.int .i64 (e : Int))).store (i := 4) (.int .i64 a); exact Owns.asR3 h2 HEe.out HV.out HI.out (fun ts h => by cases h)
set_option maxRecDepth 100000 in
set_option maxHeartbeats 8000000 in
theorem sees30_c (ps : List Piece) (s : PSt) (k : Nat) (u : Bytes) (w : World) (hW : Below W0.heap.size W0 w) (hN9 : all.length <= 1000000) (hu9 : u.length <= 10) (h : Owns w0 w (r3P W0 bp l all v s :: ps)) :
  Calls Tryz.prog 57 #[.pointer (some ⟨bp, 0, none⟩), .int .i64 (k : Nat), .string (bs u)] w fun x w' => x = .returned (.bool (seesR k u s)) /\ Owns w0 w' (r3P W0 bp l all v s :: ps) := by
 obtain ⟨hf, hv, i, hi, hd, h1⟩ := h.r3; have HP := Lib.hid h; have HW0 := Lib.hid hW; obtain ⟨y, m, rfl⟩ := hv.form; obtain ⟨N, hN⟩ : ∃ N, N = all.length := ⟨_, rfl⟩; rw [<- hN] at hv h1 hN9 HP; have HO := Lib.hid h1; have HV := Lib.hid hv; have HI := Lib.hid hi; have HD := Lib.hid hd; have HNl := Lib.hid hN; have hiN : i <= N := by omega
 simp only [<- hN]; clear h h1 hv hi hd hN hW; rcases s with ⟨c, a⟩ | (_ | ⟨t, r⟩)
 ·have hx' : ((c : Int) == 0) = false := by have h0 : c ≠ 0 := hf; simpa using h0
  have HE : Hid (seesR k u (.error (c, a)) = false) := rfl; simp only [r3obj, code, pos] at HO; clear hf; go_enter Tryz.func57, Tryz.ntmps57
  go_wp2_with fail
  refine wp_region_canA [] (List.range 52) ?_; replace HO := Lib.hid HO.out.drew; replace HP := Lib.hid HP.out.drew; replace HW0 := Lib.hid HW0.out.drew; generalize hWd : World.drew _ = W2 at HO HP HW0 ⊢; clear hWd; obtain ⟨hbp, ⟨fp0, fp1, fp2, fp3, fp4⟩, cp0, cp1, cp2, cp3, cp4⟩ := bx5 HO.out.blk; iterate 52 (first | (refine cl_doA rfl rfl rfl (fun _ _ => ?_); go_wp2_with fail) | (refine cl_yesA rfl rfl rfl rfl (fun _ _ => ?_); go_wp2_with fail) | (refine cl_no rfl rfl rfl ?_; go_simp) | (refine cl_skip rfl rfl ?_; go_simp))
  refine cl_nil ?_; go_wp2_with fail
  go_ret
  exact ⟨by rw [HE.out]; rfl, HP.out⟩
 ·have HE : Hid (seesR k u (.ok []) = false) := rfl; obtain rfl : N = i := by rw [HNl.out]; exact (dropT_nil (HD.out [] rfl) (by have := HI.out; omega)).symm
  simp only [r3obj, code, pos] at HO; clear hf; go_enter Tryz.func57, Tryz.ntmps57
  go_wp2_with fail
  refine wp_region_canA [] (List.range 52) ?_; replace HO := Lib.hid HO.out.drew; replace HP := Lib.hid HP.out.drew; replace HW0 := Lib.hid HW0.out.drew; generalize hWd : World.drew _ = W2 at HO HP HW0 ⊢; clear hWd; obtain ⟨hbp, ⟨fp0, fp1, fp2, fp3, fp4⟩, cp0, cp1, cp2, cp3, cp4⟩ := bx5 HO.out.blk; iterate 52 (first | (refine cl_doA rfl rfl rfl (fun _ _ => ?_); go_wp2_with fail) | (refine cl_yesA rfl rfl rfl rfl (fun _ _ => ?_); go_wp2_with fail) | (refine cl_no rfl rfl rfl ?_; go_simp) | (refine cl_skip rfl rfl ?_; go_simp))
  refine cl_nil ?_; go_wp2_with fail
  go_ret
  exact ⟨by rw [HE.out]; rfl, HP.out⟩
 ·obtain ⟨hlt, hit, hdr⟩ := dropT_cons (HD.out _ rfl); rw [<- HNl.out] at hlt; have HIt := Lib.hid hit; have HE0 : Hid (seesR k u (.ok (t :: r)) = (decide (t.kind = k) && (decide (u = []) || decide (t.text = u)))) := rfl; simp only [r3obj, code, pos] at HO; clear hf hit hdr; by_cases hk : t.kind = k
  ·have hk' : ((t.kind : Int) == (k : Int)) = true := by simp; omega
   by_cases hu0 : u = []
   ·have HE : Hid (seesR k u (.ok (t :: r)) = true) := by show _ = _; rw [HE0.out, decide_eq_true hk, decide_eq_true hu0]; rfl
    clear hk HE0; subst hu0; go_enter Tryz.func57, Tryz.ntmps57
    go_wp2_with fail
    refine wp_region_canA [] (List.range 52) ?_; replace HO := Lib.hid HO.out.drew; replace HP := Lib.hid HP.out.drew; replace HW0 := Lib.hid HW0.out.drew; generalize hWd : World.drew _ = W2 at HO HP HW0 ⊢; clear hWd; obtain ⟨g, off, rfl, hNm, hg, c0, c1, c2, c3⟩ := HV.out.get HW0.out HIt.out; obtain ⟨hbp, ⟨fp0, fp1, fp2, fp3, fp4⟩, cp0, cp1, cp2, cp3, cp4⟩ := bx5 HO.out.blk; iterate 52 (first | (refine cl_doA rfl rfl rfl (fun _ _ => ?_); go_wp2_with fail) | (refine cl_yesA rfl rfl rfl rfl (fun _ _ => ?_); go_wp2_with fail) | (refine cl_no rfl rfl rfl ?_; go_simp) | (refine cl_skip rfl rfl ?_; go_simp))
    refine cl_nil ?_; go_wp2_with fail
    go_ret
    exact ⟨by rw [HE.out]; rfl, HP.out⟩
   ·have hu1 : List.isEmpty u = false := by cases u <;> simp_all
    by_cases hu : t.text = u
    ·have hu' : (t.text == u) = true := by simpa using hu
     have HE : Hid (seesR k u (.ok (t :: r)) = true) := by show _ = _; rw [HE0.out, decide_eq_true hk, decide_eq_true hu, decide_eq_false hu0]; rfl
     clear hk hu hu0 HE0; go_enter Tryz.func57, Tryz.ntmps57
     go_wp2_with fail
     refine wp_region_canA [] (List.range 52) ?_; replace HO := Lib.hid HO.out.drew; replace HP := Lib.hid HP.out.drew; replace HW0 := Lib.hid HW0.out.drew; generalize hWd : World.drew _ = W2 at HO HP HW0 ⊢; clear hWd; obtain ⟨g, off, rfl, hNm, hg, c0, c1, c2, c3⟩ := HV.out.get HW0.out HIt.out; obtain ⟨hbp, ⟨fp0, fp1, fp2, fp3, fp4⟩, cp0, cp1, cp2, cp3, cp4⟩ := bx5 HO.out.blk; iterate 52 (first | (refine cl_doA rfl rfl rfl (fun _ _ => ?_); go_wp2_with fail) | (refine cl_yesA rfl rfl rfl rfl (fun _ _ => ?_); go_wp2_with fail) | (refine cl_no rfl rfl rfl ?_; go_simp) | (refine cl_skip rfl rfl ?_; go_simp))
     refine cl_nil ?_; go_wp2_with fail
     go_ret
     exact ⟨by rw [HE.out]; rfl, HP.out⟩
    ·have hu' : (t.text == u) = false := by simpa using hu
     have HE : Hid (seesR k u (.ok (t :: r)) = false) := by show _ = _; rw [HE0.out, decide_eq_false hu, decide_eq_false hu0]; simp
     clear hk hu hu0 HE0; go_enter Tryz.func57, Tryz.ntmps57
     go_wp2_with fail
     refine wp_region_canA [] (List.range 52) ?_; replace HO := Lib.hid HO.out.drew; replace HP := Lib.hid HP.out.drew; replace HW0 := Lib.hid HW0.out.drew; generalize hWd : World.drew _ = W2 at HO HP HW0 ⊢; clear hWd; obtain ⟨g, off, rfl, hNm, hg, c0, c1, c2, c3⟩ := HV.out.get HW0.out HIt.out; obtain ⟨hbp, ⟨fp0, fp1, fp2, fp3, fp4⟩, cp0, cp1, cp2, cp3, cp4⟩ := bx5 HO.out.blk; iterate 52 (first | (refine cl_doA rfl rfl rfl (fun _ _ => ?_); go_wp2_with fail) | (refine cl_yesA rfl rfl rfl rfl (fun _ _ => ?_); go_wp2_with fail) | (refine cl_no rfl rfl rfl ?_; go_simp) | (refine cl_skip rfl rfl ?_; go_simp))
     refine cl_nil ?_; go_wp2_with fail
     go_ret
     exact ⟨by rw [HE.out]; rfl, HP.out⟩
  ·have hk' : ((t.kind : Int) == (k : Int)) = false := by simp; omega
   have HE : Hid (seesR k u (.ok (t :: r)) = false) := by show _ = _; rw [HE0.out, decide_eq_false hk]; rfl
   clear hk HE0; go_enter Tryz.func57, Tryz.ntmps57
   go_wp2_with fail
   refine wp_region_canA [] (List.range 52) ?_; replace HO := Lib.hid HO.out.drew; replace HP := Lib.hid HP.out.drew; replace HW0 := Lib.hid HW0.out.drew; generalize hWd : World.drew _ = W2 at HO HP HW0 ⊢; clear hWd; obtain ⟨g, off, rfl, hNm, hg, c0, c1, c2, c3⟩ := HV.out.get HW0.out HIt.out; obtain ⟨hbp, ⟨fp0, fp1, fp2, fp3, fp4⟩, cp0, cp1, cp2, cp3, cp4⟩ := bx5 HO.out.blk; iterate 52 (first | (refine cl_doA rfl rfl rfl (fun _ _ => ?_); go_wp2_with fail) | (refine cl_yesA rfl rfl rfl rfl (fun _ _ => ?_); go_wp2_with fail) | (refine cl_no rfl rfl rfl ?_; go_simp) | (refine cl_skip rfl rfl ?_; go_simp))
   refine cl_nil ?_; go_wp2_with fail
   go_ret
   exact ⟨by rw [HE.out]; rfl, HP.out⟩
theorem take30_res {W : World} {tmps : Array Value} {g : Nat} {v0 v1 v2 v3 : Value} (h4 : tmps.getD 6 undef = .pointer (some ⟨g, 0, none⟩)) (hb : W.heap[g]? = some (.cells #[v0, v1, v2, v3] 40 (0, 0))) :
  (results Tryz.f58 tmps).run Tryz.prog W = .ok (.agg #[v0, v1, v2, v3]) W := by
 have c0 : W.cell? ⟨g, 0, none⟩ = some v0 := by rw [cell_of_heap hb]; rfl
 have c1 : W.cell? ⟨g, 1, none⟩ = some v1 := by rw [cell_of_heap hb]; rfl
 have c2 : W.cell? ⟨g, 2, none⟩ = some v2 := by rw [cell_of_heap hb]; rfl
 have c3 : W.cell? ⟨g, 3, none⟩ = some v3 := by rw [cell_of_heap hb]; rfl
 have h4' : tmps[6]?.getD undef = .pointer (some ⟨g, 0, none⟩) := by simpa using h4
 simp [results, Tryz.results58, go_sem, h4', c0, c1, c2, c3]
abbrev tobjZ : Obj := .cells #[.int .i64 0, .int .i64 0, .int .i64 0, .string ⟨#[]⟩] 40 (0, 0)
set_option maxRecDepth 100000 in
set_option maxHeartbeats 8000000 in
theorem take30_c (ps : List Piece) (s : PSt) (k : Nat) (u : Bytes) (w : World) (hN9 : all.length <= 1000000) (hu9 : u.length <= 10) (hl : l.length <= 20000) (h : Owns w0 w (r3P w0 bp l all v s :: ps)) :
  Calls Tryz.prog 58 #[.pointer (some ⟨bp, 0, none⟩), .int .i64 (k : Nat), .string (bs u)] w fun x w' => x = .returned (tkval (takeR l.length k u s).1) /\ Owns w0 w' (r3P w0 bp l all v (takeR l.length k u s).2 :: ps) := by
 have HPf := Lib.hid fun ps s e a w => fault30_c (w0 := w0) (W0 := w0) (bp := bp) (l := l) (all := all) (v := v) ps s e a (w := w); obtain ⟨W1, hW1⟩ : ∃ W1, W1 = w.alloc (.cells #[.int .i64 0, .int .i64 0, .int .i64 0, .string ⟨#[]⟩] 40) := ⟨_, rfl⟩; obtain ⟨b6, hb6⟩ : ∃ b, b = w.heap.size := ⟨_, rfl⟩; have HO : Hid (Owns w0 W1 (r3P w0 bp l all v s :: blk b6 tobjZ :: ps)) := by
  rw [hW1, hb6]; exact Lib.hid (h.box tobjZ).swap
 clear h; go_enter Tryz.func58, Tryz.ntmps58
 go_wp2_with fail
 rw [<- hW1, <- hb6]; clear hW1 hb6; go_at_call 57
 refine (sees30_c (blk b6 tobjZ :: ps) s k u W1 HO.out.base hN9 hu9 HO.out).mono ?_; rintro e W2 ⟨rfl, ho⟩; replace HO := Lib.hid ho; clear ho; rcases s with ⟨c, a⟩ | (_ | ⟨t, r⟩)
 ·have HE : Hid (takeR l.length k u (.error (c, a)) = (zTok, .error (c, a))) := rfl; rw [show seesR k u (.error (c, a)) = false from rfl]; obtain ⟨hf, hv, i, hi, hd, h1⟩ := HO.out.r3; obtain ⟨y, m, rfl⟩ := hv.form; obtain ⟨N, hN⟩ : ∃ N, N = all.length := ⟨_, rfl⟩; rw [<- hN] at hv h1 hN9 HPf; have HF := Lib.hid hf; have HV := Lib.hid hv; have HI := Lib.hid hi; have HD := Lib.hid hd; have HNl := Lib.hid hN; have hiN : i <= N := by omega
  simp only [<- hN]; replace HO := Lib.hid h1; clear hf hv h1 hi hd hN; simp only [r3obj, code, pos] at HO; by_cases hlt : i < N
  ·have HIt : Hid (all[i]? = some all[i]) := Lib.hid (List.getElem?_eq_getElem (by rw [<- HNl.out]; exact hlt)); generalize all[i]'(by rw [<- HNl.out]; exact hlt) = t at HIt
   focus
    obtain ⟨hbp, ⟨fp0, fp1, fp2, fp3, fp4⟩, cp0, cp1, cp2, cp3, cp4⟩ := bx5 HO.out.blk; go_wp2_with fail
    clear hbp fp0 fp1 fp2 fp3 fp4 cp0 cp1 cp2 cp3 cp4
   refine wp_region_canA [] (List.range 10) ?_; replace HO := Lib.hid HO.out.drew; generalize hWd : World.drew _ = W3 at HO ⊢; clear hWd
   focus
    obtain ⟨hbp, ⟨fp0, fp1, fp2, fp3, fp4⟩, cp0, cp1, cp2, cp3, cp4⟩ := bx5 HO.out.blk; iterate 10 (refine cl_doA rfl rfl rfl (fun _ _ => ?_); go_wp2_with fail)
    clear hbp fp0 fp1 fp2 fp3 fp4 cp0 cp1 cp2 cp3 cp4
   refine cl_nil ?_
   focus
    obtain ⟨hbp, ⟨fp0, fp1, fp2, fp3, fp4⟩, cp0, cp1, cp2, cp3, cp4⟩ := bx5 HO.out.blk; go_wp2_with fail
    clear hbp fp0 fp1 fp2 fp3 fp4 cp0 cp1 cp2 cp3 cp4
   refine wp_region_canA [] (List.range 13) ?_; replace HO := Lib.hid HO.out.drew; generalize hWd : World.drew _ = W4 at HO ⊢; clear hWd; obtain ⟨g, off, rfl, hNm, hg, c0, c1, c2, c3⟩ := HV.out.get HO.out.base HIt.out
   focus
    obtain ⟨hbp, ⟨fp0, fp1, fp2, fp3, fp4⟩, cp0, cp1, cp2, cp3, cp4⟩ := bx5 HO.out.blk; iterate 12 (refine cl_doA rfl rfl rfl (fun _ _ => ?_); go_wp2_with fail)
    clear hbp fp0 fp1 fp2 fp3 fp4 cp0 cp1 cp2 cp3 cp4
   refine cl_do (i := 12) rfl rfl rfl (by first | rfl | simp [okB, lenV, plainV, Act.eval]) (fun K hK => ?_); clear c0 c1 c2 c3 hg; go_wp2_with fail
   refine (HPf.out (blk b6 tobjZ :: ps) (.error (c, a)) 5 t.pos W4 (by omega) (Owns.asR3 (i := i) (s := .error (c, a)) HO.out HF.out HV.out HI.out HD.out)).mono ?_; rintro e W5 ⟨rfl, ho⟩; replace HO := Lib.hid ho; clear ho; go_wp2_with fail
   refine cl_nil ?_; rw [show failS (.error (c, a)) 5 t.pos = .error (c, a) from rfl] at HO; have HO4 := Lib.hid HO.out.swap; obtain ⟨ht6, ⟨ft0, ft1, ft2, ft3⟩, ct0, ct1, ct2, ct3⟩ := bx4 HO4.out.blk; go_wp2_with fail
   have h2 := st4 HO4.out (.int .i64 0) (.int .i64 0) (.int .i64 0) (.string ⟨#[]⟩); refine bodyPost_ret (take30_res rfl h2.blk.1) (by rfl) ⟨by rw [HE.out]; rfl, ?_⟩; rw [HE.out]; have h3 := h2.pop; rw [HNl.out] at h3; exact h3
  ·obtain rfl : N = i := by omega
   clear hlt
   focus
    obtain ⟨hbp, ⟨fp0, fp1, fp2, fp3, fp4⟩, cp0, cp1, cp2, cp3, cp4⟩ := bx5 HO.out.blk; go_wp2_with fail
    clear hbp fp0 fp1 fp2 fp3 fp4 cp0 cp1 cp2 cp3 cp4
   refine wp_region_canA [] (List.range 10) ?_; replace HO := Lib.hid HO.out.drew; generalize hWd : World.drew _ = W3 at HO ⊢; clear hWd
   focus
    obtain ⟨hbp, ⟨fp0, fp1, fp2, fp3, fp4⟩, cp0, cp1, cp2, cp3, cp4⟩ := bx5 HO.out.blk; iterate 10 (refine cl_doA rfl rfl rfl (fun _ _ => ?_); go_wp2_with fail)
    clear hbp fp0 fp1 fp2 fp3 fp4 cp0 cp1 cp2 cp3 cp4
   refine cl_nil ?_
   focus
    obtain ⟨hbp, ⟨fp0, fp1, fp2, fp3, fp4⟩, cp0, cp1, cp2, cp3, cp4⟩ := bx5 HO.out.blk; go_wp2_with fail
    clear hbp fp0 fp1 fp2 fp3 fp4 cp0 cp1 cp2 cp3 cp4
   refine (HPf.out (blk b6 tobjZ :: ps) (.error (c, a)) 6 l.length W3 (by omega) (Owns.asR3 (i := N) (s := .error (c, a)) HO.out HF.out HV.out HI.out HD.out)).mono ?_; rintro e W5 ⟨rfl, ho⟩; replace HO := Lib.hid ho; clear ho; rw [show failS (.error (c, a)) 6 l.length = .error (c, a) from rfl] at HO; have HO4 := Lib.hid HO.out.swap; obtain ⟨ht6, ⟨ft0, ft1, ft2, ft3⟩, ct0, ct1, ct2, ct3⟩ := bx4 HO4.out.blk; go_wp2_with fail
   have h2 := st4 HO4.out (.int .i64 0) (.int .i64 0) (.int .i64 0) (.string ⟨#[]⟩); refine bodyPost_ret (take30_res rfl h2.blk.1) (by rfl) ⟨by rw [HE.out]; rfl, ?_⟩; rw [HE.out]; have h3 := h2.pop; rw [HNl.out] at h3; exact h3
 ·have HE : Hid (takeR l.length k u (.ok []) = (zTok, .error (6, (l.length : Int)))) := rfl; rw [show seesR k u (.ok []) = false from rfl]; obtain ⟨hf, hv, i, hi, hd, h1⟩ := HO.out.r3; obtain ⟨y, m, rfl⟩ := hv.form; obtain ⟨N, hN⟩ : ∃ N, N = all.length := ⟨_, rfl⟩; rw [<- hN] at hv h1 hN9 HPf; have HF := Lib.hid hf; have HV := Lib.hid hv; have HI := Lib.hid hi; have HD := Lib.hid hd; have HNl := Lib.hid hN; have hiN : i <= N := by omega
  simp only [<- hN]; replace HO := Lib.hid h1; clear hf hv h1 hi hd hN; simp only [r3obj, code, pos] at HO; obtain rfl : N = i := by rw [HNl.out]; exact (dropT_nil (HD.out [] rfl) (by have := HI.out; omega)).symm
  focus
   obtain ⟨hbp, ⟨fp0, fp1, fp2, fp3, fp4⟩, cp0, cp1, cp2, cp3, cp4⟩ := bx5 HO.out.blk; go_wp2_with fail
   clear hbp fp0 fp1 fp2 fp3 fp4 cp0 cp1 cp2 cp3 cp4
  refine wp_region_canA [] (List.range 10) ?_; replace HO := Lib.hid HO.out.drew; generalize hWd : World.drew _ = W3 at HO ⊢; clear hWd
  focus
   obtain ⟨hbp, ⟨fp0, fp1, fp2, fp3, fp4⟩, cp0, cp1, cp2, cp3, cp4⟩ := bx5 HO.out.blk; iterate 10 (refine cl_doA rfl rfl rfl (fun _ _ => ?_); go_wp2_with fail)
   clear hbp fp0 fp1 fp2 fp3 fp4 cp0 cp1 cp2 cp3 cp4
  refine cl_nil ?_
  focus
   obtain ⟨hbp, ⟨fp0, fp1, fp2, fp3, fp4⟩, cp0, cp1, cp2, cp3, cp4⟩ := bx5 HO.out.blk; go_wp2_with fail
   clear hbp fp0 fp1 fp2 fp3 fp4 cp0 cp1 cp2 cp3 cp4
  refine (HPf.out (blk b6 tobjZ :: ps) (.ok []) 6 l.length W3 (by omega) (Owns.asR3 (i := N) (s := .ok []) HO.out HF.out HV.out HI.out HD.out)).mono ?_; rintro e W5 ⟨rfl, ho⟩; replace HO := Lib.hid ho; clear ho; rw [show failS (.ok []) 6 l.length = .error (6, (l.length : Int)) from rfl] at HO; have HO4 := Lib.hid HO.out.swap; obtain ⟨ht6, ⟨ft0, ft1, ft2, ft3⟩, ct0, ct1, ct2, ct3⟩ := bx4 HO4.out.blk; go_wp2_with fail
  have h2 := st4 HO4.out (.int .i64 0) (.int .i64 0) (.int .i64 0) (.string ⟨#[]⟩); refine bodyPost_ret (take30_res rfl h2.blk.1) (by rfl) ⟨by rw [HE.out]; rfl, ?_⟩; rw [HE.out]; have h3 := h2.pop; rw [HNl.out] at h3; exact h3
 ·by_cases hs : seesR k u (.ok (t :: r)) = true
  ·have HE : Hid (takeR l.length k u (.ok (t :: r)) = (t, .ok r)) := by show _ = _; unfold takeR; simp only [hs, if_true]
   rw [hs]; clear hs; obtain ⟨hf, hv, i, hi, hd, h1⟩ := HO.out.r3; obtain ⟨y, m, rfl⟩ := hv.form; obtain ⟨N, hN⟩ : ∃ N, N = all.length := ⟨_, rfl⟩; rw [<- hN] at hv h1 hN9 HPf; have HF := Lib.hid hf; have HV := Lib.hid hv; have HI := Lib.hid hi; have HD := Lib.hid hd; have HNl := Lib.hid hN; have hiN : i <= N := by omega
   simp only [<- hN]; replace HO := Lib.hid h1; clear hf hv h1 hi hd hN; simp only [r3obj, code, pos] at HO; obtain ⟨hlt, hit, hdr⟩ := dropT_cons (HD.out _ rfl); rw [<- HNl.out] at hlt; have HIt := Lib.hid hit; have HDr := Lib.hid hdr; clear hit hdr; have HO3 := Lib.hid (HO.out.store (i := 2) (.int .i64 ((i : Int) + 1)))
   focus
    obtain ⟨hbp, ⟨fp0, fp1, fp2, fp3, fp4⟩, cp0, cp1, cp2, cp3, cp4⟩ := bx5 HO.out.blk; go_wp2_with fail
    clear hbp fp0 fp1 fp2 fp3 fp4 cp0 cp1 cp2 cp3 cp4
   replace HO := HO3; clear HO3; refine wp_region_canA [] (List.range 12) ?_; replace HO := Lib.hid HO.out.drew; generalize hWd : World.drew _ = W3 at HO ⊢; clear hWd; obtain ⟨g, off, rfl, hNm, hg, c0, c1, c2, c3⟩ := HV.out.get HO.out.base HIt.out; simp only [List.setIfInBounds_toArray, List.set_cons_succ, List.set_cons_zero] at HO; have HO4 := Lib.hid HO.out.swap; obtain ⟨hbp, ⟨fp0, fp1, fp2, fp3, fp4⟩, cp0, cp1, cp2, cp3, cp4⟩ := bx5 HO.out.blk; obtain ⟨ht6, ⟨ft0, ft1, ft2, ft3⟩, ct0, ct1, ct2, ct3⟩ := bx4 HO4.out.blk; iterate 12 (refine cl_doA rfl rfl rfl (fun _ _ => ?_); go_wp2_with fail)
   refine cl_nil ?_; go_wp2_with fail
   have h2 := st4 HO4.out (.int .i64 t.kind) (.int .i64 t.pos) (.int .i64 t.num) (.string (bs t.text)); refine bodyPost_ret (take30_res rfl h2.blk.1) (by rfl) ⟨by rw [HE.out], ?_⟩; rw [HE.out]; have h3 := h2.pop; have hv := HV.out; rw [show ((i : Int) + 1) = ((i + 1 : Nat) : Int) by omega, HNl.out] at h3; rw [HNl.out] at hv; exact Owns.asR3 (s := .ok r) (i := i + 1) h3 trivial hv (by have := HNl.out; omega) (fun ts h => by cases h; exact HDr.out)
  ·have HE : Hid (takeR l.length k u (.ok (t :: r)) = (zTok, .error (5, t.pos))) := by show _ = _; unfold takeR; exact if_neg hs
   rw [show seesR k u (.ok (t :: r)) = false from by simpa using hs]; clear hs; obtain ⟨hf, hv, i, hi, hd, h1⟩ := HO.out.r3; obtain ⟨y, m, rfl⟩ := hv.form; obtain ⟨N, hN⟩ : ∃ N, N = all.length := ⟨_, rfl⟩; rw [<- hN] at hv h1 hN9 HPf; have HF := Lib.hid hf; have HV := Lib.hid hv; have HI := Lib.hid hi; have HD := Lib.hid hd; have HNl := Lib.hid hN; have hiN : i <= N := by omega
   simp only [<- hN]; replace HO := Lib.hid h1; clear hf hv h1 hi hd hN; simp only [r3obj, code, pos] at HO; obtain ⟨hlt, hit, hdr⟩ := dropT_cons (HD.out _ rfl); rw [<- HNl.out] at hlt; have HIt := Lib.hid hit; clear hit hdr
   focus
    obtain ⟨hbp, ⟨fp0, fp1, fp2, fp3, fp4⟩, cp0, cp1, cp2, cp3, cp4⟩ := bx5 HO.out.blk; go_wp2_with fail
    clear hbp fp0 fp1 fp2 fp3 fp4 cp0 cp1 cp2 cp3 cp4
   refine wp_region_canA [] (List.range 10) ?_; replace HO := Lib.hid HO.out.drew; generalize hWd : World.drew _ = W3 at HO ⊢; clear hWd
   focus
    obtain ⟨hbp, ⟨fp0, fp1, fp2, fp3, fp4⟩, cp0, cp1, cp2, cp3, cp4⟩ := bx5 HO.out.blk; iterate 10 (refine cl_doA rfl rfl rfl (fun _ _ => ?_); go_wp2_with fail)
    clear hbp fp0 fp1 fp2 fp3 fp4 cp0 cp1 cp2 cp3 cp4
   refine cl_nil ?_
   focus
    obtain ⟨hbp, ⟨fp0, fp1, fp2, fp3, fp4⟩, cp0, cp1, cp2, cp3, cp4⟩ := bx5 HO.out.blk; go_wp2_with fail
    clear hbp fp0 fp1 fp2 fp3 fp4 cp0 cp1 cp2 cp3 cp4
   refine wp_region_canA [] (List.range 13) ?_; replace HO := Lib.hid HO.out.drew; generalize hWd : World.drew _ = W4 at HO ⊢; clear hWd; obtain ⟨g, off, rfl, hNm, hg, c0, c1, c2, c3⟩ := HV.out.get HO.out.base HIt.out
   focus
    obtain ⟨hbp, ⟨fp0, fp1, fp2, fp3, fp4⟩, cp0, cp1, cp2, cp3, cp4⟩ := bx5 HO.out.blk; iterate 12 (refine cl_doA rfl rfl rfl (fun _ _ => ?_); go_wp2_with fail)
    clear hbp fp0 fp1 fp2 fp3 fp4 cp0 cp1 cp2 cp3 cp4
   refine cl_do (i := 12) rfl rfl rfl (by first | rfl | simp [okB, lenV, plainV, Act.eval]) (fun K hK => ?_); clear c0 c1 c2 c3 hg; go_wp2_with fail
   refine (HPf.out (blk b6 tobjZ :: ps) (.ok (t :: r)) 5 t.pos W4 (by omega) (Owns.asR3 (i := i) (s := .ok (t :: r)) HO.out HF.out HV.out HI.out HD.out)).mono ?_; rintro e W5 ⟨rfl, ho⟩; replace HO := Lib.hid ho; clear ho; go_wp2_with fail
   refine cl_nil ?_; rw [show failS (.ok (t :: r)) 5 t.pos = .error (5, t.pos) from rfl] at HO; have HO4 := Lib.hid HO.out.swap; obtain ⟨ht6, ⟨ft0, ft1, ft2, ft3⟩, ct0, ct1, ct2, ct3⟩ := bx4 HO4.out.blk; go_wp2_with fail
   have h2 := st4 HO4.out (.int .i64 0) (.int .i64 0) (.int .i64 0) (.string ⟨#[]⟩); refine bodyPost_ret (take30_res rfl h2.blk.1) (by rfl) ⟨by rw [HE.out]; rfl, ?_⟩; rw [HE.out]; have h3 := h2.pop; rw [HNl.out] at h3; exact h3
end
end Go.Proofs.YtoeknmkephnekaaGreatDoor
namespace Go.Proofs.YtoeknmkephnekaaGreatDoor
open Go.RowKit Go.Cz Go.Cz.Lx Go.Cz.Fo Go.Cz.Vd
attribute [local go_sem] bs_size bs_extract bs_append bs_toList
attribute [local irreducible] cList cPlan
section
variable {w0 W0 : World} {bp : Nat} {l : Bytes} {all : List Tok} {v : Value}
abbrev t3obj (k p n : Nat) (u : Bytes) : Obj := .cells #[.int .i64 k, .int .i64 p, .int .i64 n, .string (bs u)] 40 (0, 0)
set_option maxHeartbeats 4000000 in
theorem number30_c (ps : List Piece) (s : PSt) (a c : Int) (w : World) (hN9 : all.length <= 1000000) (hl : l.length <= 20000) (h : Owns w0 w (r3P w0 bp l all v s :: ps)) :
  Calls Tryz.prog 61 #[.pointer (some ⟨bp, 0, none⟩), .int .i64 a, .int .i64 c] w fun x w' => x = .returned (.int .i64 (numR l.length a c s).1) /\ Owns w0 w' (r3P w0 bp l all v (numR l.length a c s).2 :: ps) := by
 have HT := Lib.hid (take30_c ps s 2 [] w hN9 (by simp) hl h); clear h; go_enter Tryz.func61, Tryz.ntmps61
 go_wp2_with fail
 go_at_call 58
 refine HT.out.mono ?_; clear HT; rintro e W1 ⟨rfl, ho⟩; obtain ⟨t, ht⟩ : ∃ t, t = (takeR l.length 2 [] s).1 := ⟨_, rfl⟩; obtain ⟨s1, hs⟩ : ∃ s1, s1 = (takeR l.length 2 [] s).2 := ⟨_, rfl⟩; have HN : Hid (numR l.length a c s = ((t.num : Int), if okR s1 = true /\ ((t.num : Int) < a ∨ c < (t.num : Int)) then failS s1 10 t.pos else s1)) := by rw [ht, hs]; exact Lib.hid rfl
 rw [<- ht]; rw [<- hs] at ho; clear ht hs; obtain ⟨k7, p7, n7, u7⟩ := t; simp only [tkval] at HN ⊢; obtain ⟨W3, hW3⟩ : ∃ W3, W3 = W1.alloc (t3obj k7 p7 n7 u7) := ⟨_, rfl⟩; obtain ⟨b7, hb7⟩ : ∃ b7, b7 = W1.heap.size := ⟨_, rfl⟩; have HO : Hid (Owns w0 W3 (r3P w0 bp l all v s1 :: blk b7 (t3obj k7 p7 n7 u7) :: ps)) := by
  rw [hW3, hb7]; exact Lib.hid (ho.box (t3obj k7 p7 n7 u7)).swap
 clear ho; go_upto_region 2 with fail
 rw [<- hW3, <- hb7]; clear hW3 hb7; rcases s1 with ⟨x, y⟩ | ts
 ·replace HN : Hid (numR l.length a c s = ((n7 : Int), .error (x, y))) := by show _ = _; rw [HN.out, if_neg (by simp [okR])]
  obtain ⟨hf, -, i, -, -, h1⟩ := HO.out.r3; have hO := Lib.hid h1; clear h1; simp only [r3obj, code, pos] at hO; have hO2 := Lib.hid HO.out.swap; obtain ⟨hbp, ⟨fp0, fp1, fp2, fp3, fp4⟩, cp0, cp1, cp2, cp3, cp4⟩ := bx5 hO.out.blk; obtain ⟨ht6, ⟨ft0, ft1, ft2, ft3⟩, ct0, ct1, ct2, ct3⟩ := bx4 hO2.out.blk; have hx' : ((x : Int) == 0) = false := by have h0 : x ≠ 0 := hf; simpa using h0
  clear hf; go_wp2_with fail
  go_ret
  rw [HN.out]; exact ⟨rfl, hO2.out.pop⟩
 ·by_cases h1 : (n7 : Int) < a
  ·replace HN : Hid (numR l.length a c s = ((n7 : Int), failS (.ok ts) 10 p7)) := by show _ = _; rw [HN.out, if_pos ⟨rfl, by omega⟩]
   obtain ⟨hf, -, i, -, -, h1⟩ := HO.out.r3; have hO := Lib.hid h1; clear h1; simp only [r3obj, code, pos] at hO; have hO2 := Lib.hid HO.out.swap; obtain ⟨hbp, ⟨fp0, fp1, fp2, fp3, fp4⟩, cp0, cp1, cp2, cp3, cp4⟩ := bx5 hO.out.blk; obtain ⟨ht6, ⟨ft0, ft1, ft2, ft3⟩, ct0, ct1, ct2, ct3⟩ := bx4 hO2.out.blk; go_wp2_with fail
   clear hbp fp0 fp1 fp2 fp3 fp4 cp0 cp1 cp2 cp3 cp4 ht6 ft0 ft1 ft2 ft3 ct0 ct1 ct2 ct3; refine (fault30_c (blk b7 (t3obj k7 p7 n7 u7) :: ps) (.ok ts) 10 p7 (by omega) W3 HO.out).mono ?_; rintro e W4 ⟨rfl, ho⟩; clear hO2; have hO2 := Lib.hid ho.swap; clear ho; obtain ⟨ht6, ⟨ft0, ft1, ft2, ft3⟩, ct0, ct1, ct2, ct3⟩ := bx4 hO2.out.blk; go_wp2_with fail
   go_ret
   rw [HN.out]; exact ⟨rfl, hO2.out.pop⟩
  by_cases h2 : c < (n7 : Int)
  ·replace HN : Hid (numR l.length a c s = ((n7 : Int), failS (.ok ts) 10 p7)) := by show _ = _; rw [HN.out, if_pos ⟨rfl, by omega⟩]
   obtain ⟨hf, -, i, -, -, h1⟩ := HO.out.r3; have hO := Lib.hid h1; clear h1; simp only [r3obj, code, pos] at hO; have hO2 := Lib.hid HO.out.swap; obtain ⟨hbp, ⟨fp0, fp1, fp2, fp3, fp4⟩, cp0, cp1, cp2, cp3, cp4⟩ := bx5 hO.out.blk; obtain ⟨ht6, ⟨ft0, ft1, ft2, ft3⟩, ct0, ct1, ct2, ct3⟩ := bx4 hO2.out.blk; go_wp2_with fail
   clear hbp fp0 fp1 fp2 fp3 fp4 cp0 cp1 cp2 cp3 cp4 ht6 ft0 ft1 ft2 ft3 ct0 ct1 ct2 ct3; refine (fault30_c (blk b7 (t3obj k7 p7 n7 u7) :: ps) (.ok ts) 10 p7 (by omega) W3 HO.out).mono ?_; rintro e W4 ⟨rfl, ho⟩; clear hO2; have hO2 := Lib.hid ho.swap; clear ho; obtain ⟨ht6, ⟨ft0, ft1, ft2, ft3⟩, ct0, ct1, ct2, ct3⟩ := bx4 hO2.out.blk; go_wp2_with fail
   go_ret
   rw [HN.out]; exact ⟨rfl, hO2.out.pop⟩
  ·replace HN : Hid (numR l.length a c s = ((n7 : Int), .ok ts)) := by show _ = _; rw [HN.out, if_neg (by omega)]
   obtain ⟨hf, -, i, -, -, h1⟩ := HO.out.r3; have hO := Lib.hid h1; clear h1; simp only [r3obj, code, pos] at hO; have hO2 := Lib.hid HO.out.swap; obtain ⟨hbp, ⟨fp0, fp1, fp2, fp3, fp4⟩, cp0, cp1, cp2, cp3, cp4⟩ := bx5 hO.out.blk; obtain ⟨ht6, ⟨ft0, ft1, ft2, ft3⟩, ct0, ct1, ct2, ct3⟩ := bx4 hO2.out.blk; go_wp2_with fail
   go_ret
   rw [HN.out]; exact ⟨rfl, hO2.out.pop⟩
end
end Go.Proofs.YtoeknmkephnekaaGreatDoor
namespace Go.Proofs.YtoeknmkephnekaaGreatDoor
open Go.RowKit Go.Cz Go.Cz.Lx Go.Cz.Fo
attribute [local go_sem] bs_size bs_extract bs_append bs_toList
attribute [local irreducible] cList cPlan
abbrev rdobj (v : Value) (i : Nat) (fin : Int) (s : PSt) : Obj := .cells #[v, .int .i64 (i : Nat), .int .i64 fin, .int .i64 (code s : Nat), .int .i64 (pos s)] 150 (0, 0)
def rdP (w0 : World) (bp : Nat) (fin : Int) (all : List Tok) (v : Value) (s : PSt) : Piece where
 lies w S := S = [bp] /\ PSt.fine s /\ TokL w0 v all /\ ∃ i : Nat, i <= all.length /\ (∀ ts, s = .ok ts -> all.drop i = ts) /\ w.heap[bp]? = some (rdobj v i fin s)
 lt := by rintro w S ⟨rfl, -, -, i, -, -, h⟩ k hk; simp at hk; subst hk; exact lt_of_block h
 keep := by rintro w w' S T ⟨rfl, hf, hv, i, hi, hd, h⟩ hm hx; exact ⟨rfl, hf, hv, i, hi, hd, hm.heap h (hx bp (by simp))⟩
end Go.Proofs.YtoeknmkephnekaaGreatDoor
namespace Go.Cz
open Go.RowKit Go.Cz.Lx Go.Cz.Fo Go.Proofs.YtoeknmkephnekaaGreatDoor
section
variable {w0 w W : World} {ps : List Piece} {bp i : Nat} {fin : Int} {s : PSt} {v : Value} {all : List Tok}
theorem Owns.rd (h : Owns w0 w (rdP W bp fin all v s :: ps)) : PSt.fine s /\ TokL W v all /\ ∃ i, i <= all.length /\ (∀ ts, s = .ok ts -> all.drop i = ts) /\ Owns w0 w (Cz.blk bp (rdobj v i fin s) :: ps) := by
 obtain ⟨S, ⟨rfl, hf, hv, i, hi, hd, h1⟩, -⟩ := h.first; refine ⟨hf, hv, i, hi, hd, ?_⟩; obtain ⟨S, ⟨rfl, -⟩, -, hq⟩ := h.open; exact hq w _ [bp] ⟨rfl, h1⟩ (Mod.refl _ _) fun k hk => .inl hk
theorem Owns.asRd (h : Owns w0 w (Cz.blk bp (rdobj v i fin s) :: ps)) (hf : PSt.fine s) (hv : TokL W v all) (hi : i <= all.length) (hd : ∀ ts, s = .ok ts -> all.drop i = ts) : Owns w0 w (rdP W bp fin all v s :: ps) :=
 h.turn fun S hS => ⟨hS.1, hf, hv, i, hi, hd, hS.2⟩
end
end Go.Cz
namespace Go.Cz.Fo
open Go.Cz.Lx
theorem drop_cons {all : List Tok} {i : Nat} {t : Tok} {r : List Tok} (h : all.drop i = t :: r) : i < all.length /\ all[i]? = some t /\ all.drop (i + 1) = r := by
 have hi : i < all.length := Decidable.byContradiction fun hx => by
  rw [List.drop_of_length_le (by omega)] at h; cases h
 rw [List.drop_eq_getElem_cons hi] at h
 injection h with h1 h2
 exact ⟨hi, by rw [List.getElem?_eq_getElem hi, h1], h2⟩
theorem drop_nil {all : List Tok} {i : Nat} (h : all.drop i = []) (hi : i <= all.length) : i = all.length := by
 have := congrArg List.length h; rw [List.length_drop, List.length_nil] at this; omega
def seesB (s : PSt) (k : Nat) (u : Bytes) : Bool := match s with | .ok (t :: _) => decide (t.kind = k) && decide (t.text = u) | _ => false
end Go.Cz.Fo
namespace Go.Proofs.YtoeknmkephnekaaGreatDoor
open Go.RowKit Go.Cz Go.Cz.Lx Go.Cz.Fo
attribute [local go_sem] bs_size bs_extract bs_append bs_toList
attribute [local irreducible] cList cPlan
section
variable {w0 : World} {bp : Nat} {fin : Int} {all : List Tok} {v : Value}
theorem rfail_c (ps : List Piece) (s : PSt) (e : Nat) (a : Int) (he : e ≠ 0) (he2 : e <= 1000) (w : World) (h : Owns w0 w (rdP w0 bp fin all v s :: ps)) :
  Calls Tryz.prog 125 #[.pointer (some ⟨bp, 0, none⟩), .int .i64 (e : Nat), .int .i64 a] w fun x w' => x = .returned (.tuple #[]) /\ Owns w0 w' (rdP w0 bp fin all v (failS s e a) :: ps) := by
 obtain ⟨hf, hv, i, hi, hd, h1⟩ := h.rd; have HO := Lib.hid h1; have HV := Lib.hid hv; have HI := Lib.hid hi; cases s with
 | error x =>
  have hx : x.1 ≠ 0 := hf; have hx' : ((x.1 : Int) == 0) = false := by simpa using hx
  have HE : Hid (failS (.error x) e a = .error x) := rfl; have HP := Lib.hid h; obtain ⟨c, hc⟩ : ∃ c, c = x.1 := ⟨_, rfl⟩; simp only [rdobj, code, pos] at HO; rw [<- hc] at HO hx'; clear h h1 hv hf hx hc hi hd; obtain ⟨hbp, ⟨fp0, fp1, fp2, fp3, fp4⟩, cp0, cp1, cp2, cp3, cp4⟩ := bx5 HO.out.blk; go_enter Tryz.func125, Tryz.ntmps125
  go_wp2_with fail
  go_end0
  exact ⟨rfl, by rw [HE.out]; exact HP.out⟩
 | ok ts =>
  have HE : Hid (failS (.ok ts) e a = .error (e, a)) := rfl; have HEe := Lib.hid he; simp only [rdobj, code, pos] at HO; clear h h1 hv hf he hi hd; obtain ⟨hbp, ⟨fp0, fp1, fp2, fp3, fp4⟩, cp0, cp1, cp2, cp3, cp4⟩ := bx5 HO.out.blk; go_enter Tryz.func125, Tryz.ntmps125
  go_wp2_with fail
  go_end0
  refine ⟨rfl, ?_⟩; rw [HE.out]; have h2 := (HO.out.store (i := 3) (.int .i64 (e : Int))).store (i := 4) (.int .i64 a); exact Owns.asRd h2 HEe.out HV.out HI.out (fun ts h => by cases h)
theorem rtoken_res {W : World} {tmps : Array Value} {g : Nat} {v0 v1 v2 v3 : Value} (h4 : tmps.getD 2 undef = .pointer (some ⟨g, 0, none⟩)) (hb : W.heap[g]? = some (.cells #[v0, v1, v2, v3] 40 (0, 0))) :
  (results Tryz.f163 tmps).run Tryz.prog W = .ok (.agg #[v0, v1, v2, v3]) W := by
 have c0 : W.cell? ⟨g, 0, none⟩ = some v0 := by rw [cell_of_heap hb]; rfl
 have c1 : W.cell? ⟨g, 1, none⟩ = some v1 := by rw [cell_of_heap hb]; rfl
 have c2 : W.cell? ⟨g, 2, none⟩ = some v2 := by rw [cell_of_heap hb]; rfl
 have c3 : W.cell? ⟨g, 3, none⟩ = some v3 := by rw [cell_of_heap hb]; rfl
 have h4' : tmps[2]?.getD undef = .pointer (some ⟨g, 0, none⟩) := by simpa using h4
 simp [results, Tryz.results163, go_sem, h4', c0, c1, c2, c3]
set_option maxHeartbeats 4000000 in
theorem rtoken_c (ps : List Piece) (s : PSt) (w : World) (hN9 : all.length <= 1000000) (h : Owns w0 w (rdP w0 bp fin all v s :: ps)) :
  Calls Tryz.prog 163 #[.pointer (some ⟨bp, 0, none⟩)] w fun x w' => x = .returned (tval (nextT s)) /\ Owns w0 w' (rdP w0 bp fin all v (nextS fin s) :: ps) := by
 obtain ⟨hf, hv, i, hi, hd, h1⟩ := h.rd; have HPf := Lib.hid fun ps s => rfail_c (w0 := w0) (bp := bp) (fin := fin) (all := all) (v := v) ps s 6 fin (by omega) (by omega); obtain ⟨y, m, rfl⟩ := hv.form; obtain ⟨N, hN⟩ : ∃ N, N = all.length := ⟨_, rfl⟩; rw [<- hN] at hv h1 hN9 HPf; have HO := Lib.hid h1; have HV := Lib.hid hv; have HI := Lib.hid hi; have HD := Lib.hid hd; have HFi := Lib.hid hf; have HNl := Lib.hid hN; have hiN : i <= N := by omega
 simp only [<- hN]; clear h h1 hv hi hd hf hN; rcases s with ⟨c, a⟩ | (_ | ⟨t, r⟩)
 ·have HE : Hid (nextS fin (.error (c, a)) = .error (c, a) /\ nextT (.error (c, a)) = zTok) := ⟨rfl, rfl⟩; have hx0 : c ≠ 0 := HFi.out; have hx' : ((c : Int) != 0) = true := by simpa using hx0
  clear hx0; by_cases hlt : i < N
  ·
   obtain ⟨W1, hW1⟩ : ∃ W1, W1 = w.alloc (.cells #[.int .i64 0, .int .i64 0, .int .i64 0, .string ⟨#[]⟩] 40) := ⟨_, rfl⟩; obtain ⟨b2, hb2⟩ : ∃ b2, b2 = w.heap.size := ⟨_, rfl⟩; replace HO : Hid (Owns w0 W1 (blk bp (rdobj (.slice y N m) i fin (.error (c, a))) :: blk b2 tobj0 :: ps)) := by
    rw [hW1, hb2]; exact Lib.hid (HO.out.box tobj0).swap
   simp only [rdobj, code, pos] at HO; go_enter Tryz.func163, Tryz.ntmps163
   go_wp2_with fail
   rw [<- hW1, <- hb2]; clear hW1 hb2; refine wp_region_canA [] (List.range 10) ?_; replace HO := Lib.hid HO.out.drew; generalize hWd : World.drew _ = W2 at HO ⊢; clear hWd
   focus
    obtain ⟨hbp, ⟨fp0, fp1, fp2, fp3, fp4⟩, cp0, cp1, cp2, cp3, cp4⟩ := bx5 HO.out.blk; iterate 10 (refine cl_doA rfl rfl rfl (fun _ _ => ?_); go_wp2_with fail)
    clear hbp fp0 fp1 fp2 fp3 fp4 cp0 cp1 cp2 cp3 cp4
   refine cl_nil ?_; have HO4 := Lib.hid HO.out.swap; obtain ⟨hbp, ⟨fp0, fp1, fp2, fp3, fp4⟩, cp0, cp1, cp2, cp3, cp4⟩ := bx5 HO.out.blk; obtain ⟨ht, ⟨ft0, ft1, ft2, ft3⟩, ct0, ct1, ct2, ct3⟩ := bx4 HO4.out.blk; go_wp2_with fail
   have h2 := st4 HO4.out (.int .i64 0) (.int .i64 0) (.int .i64 0) (.string ⟨#[]⟩); refine bodyPost_ret (rtoken_res rfl h2.blk.1) (by rfl) ⟨by rw [HE.out.2]; rfl, ?_⟩; rw [HE.out.1]; exact Owns.asRd h2.pop (HFi.out) HV.out HI.out (fun ts h => by cases h)
  ·obtain rfl : N = i := by omega
   clear hlt; obtain ⟨W1, hW1⟩ : ∃ W1, W1 = w.alloc (.cells #[.int .i64 0, .int .i64 0, .int .i64 0, .string ⟨#[]⟩] 40) := ⟨_, rfl⟩; obtain ⟨b2, hb2⟩ : ∃ b2, b2 = w.heap.size := ⟨_, rfl⟩; replace HO : Hid (Owns w0 W1 (blk bp (rdobj (.slice y N m) N fin (.error (c, a))) :: blk b2 tobj0 :: ps)) := by
    rw [hW1, hb2]; exact Lib.hid (HO.out.box tobj0).swap
   simp only [rdobj, code, pos] at HO; go_enter Tryz.func163, Tryz.ntmps163
   go_wp2_with fail
   rw [<- hW1, <- hb2]; clear hW1 hb2; refine wp_region_canA [] (List.range 10) ?_; replace HO := Lib.hid HO.out.drew; generalize hWd : World.drew _ = W2 at HO ⊢; clear hWd
   focus
    obtain ⟨hbp, ⟨fp0, fp1, fp2, fp3, fp4⟩, cp0, cp1, cp2, cp3, cp4⟩ := bx5 HO.out.blk; iterate 10 (refine cl_doA rfl rfl rfl (fun _ _ => ?_); go_wp2_with fail)
    clear hbp fp0 fp1 fp2 fp3 fp4 cp0 cp1 cp2 cp3 cp4
   refine cl_nil ?_
   focus
    obtain ⟨hbp, ⟨fp0, fp1, fp2, fp3, fp4⟩, cp0, cp1, cp2, cp3, cp4⟩ := bx5 HO.out.blk; go_wp2_with fail
    clear hbp fp0 fp1 fp2 fp3 fp4 cp0 cp1 cp2 cp3 cp4
   refine (HPf.out (blk b2 tobj0 :: ps) (.error (c, a)) W2 (Owns.asRd (s := .error (c, a)) HO.out HFi.out HV.out HI.out HD.out)).mono ?_; rintro e W3 ⟨rfl, ho⟩; replace HO := Lib.hid ho; clear ho; rw [show failS (.error (c, a)) 6 fin = .error (c, a) from rfl] at HO; obtain ⟨hf, hv, i2, hi2, hd2, h1⟩ := HO.out.rd; replace HO := Lib.hid h1; replace HI := Lib.hid hi2; replace HD := Lib.hid hd2; clear hf hv hd2 h1 hi2; simp only [rdobj, code, pos] at HO; have HO4 := Lib.hid HO.out.swap; obtain ⟨hbp, ⟨fp0, fp1, fp2, fp3, fp4⟩, cp0, cp1, cp2, cp3, cp4⟩ := bx5 HO.out.blk; obtain ⟨ht, ⟨ft0, ft1, ft2, ft3⟩, ct0, ct1, ct2, ct3⟩ := bx4 HO4.out.blk; go_wp2_with fail
   have h2 := st4 HO4.out (.int .i64 0) (.int .i64 0) (.int .i64 0) (.string ⟨#[]⟩); refine bodyPost_ret (rtoken_res rfl h2.blk.1) (by rfl) ⟨by rw [HE.out.2]; rfl, ?_⟩; rw [HE.out.1]; exact Owns.asRd h2.pop (HFi.out) HV.out HI.out (fun ts h => by cases h)
 ·have HE : Hid (nextS fin (.ok []) = .error (6, fin) /\ nextT (.ok []) = zTok) := ⟨rfl, rfl⟩; obtain rfl : N = i := by rw [HNl.out]; exact (drop_nil (HD.out [] rfl) (by have := HI.out; omega)).symm
  obtain ⟨W1, hW1⟩ : ∃ W1, W1 = w.alloc (.cells #[.int .i64 0, .int .i64 0, .int .i64 0, .string ⟨#[]⟩] 40) := ⟨_, rfl⟩; obtain ⟨b2, hb2⟩ : ∃ b2, b2 = w.heap.size := ⟨_, rfl⟩; replace HO : Hid (Owns w0 W1 (blk bp (rdobj (.slice y N m) N fin (.ok [])) :: blk b2 tobj0 :: ps)) := by
   rw [hW1, hb2]; exact Lib.hid (HO.out.box tobj0).swap
  simp only [rdobj, code, pos] at HO; go_enter Tryz.func163, Tryz.ntmps163
  go_wp2_with fail
  rw [<- hW1, <- hb2]; clear hW1 hb2; refine wp_region_canA [] (List.range 10) ?_; replace HO := Lib.hid HO.out.drew; generalize hWd : World.drew _ = W2 at HO ⊢; clear hWd
  focus
   obtain ⟨hbp, ⟨fp0, fp1, fp2, fp3, fp4⟩, cp0, cp1, cp2, cp3, cp4⟩ := bx5 HO.out.blk; iterate 10 (refine cl_doA rfl rfl rfl (fun _ _ => ?_); go_wp2_with fail)
   clear hbp fp0 fp1 fp2 fp3 fp4 cp0 cp1 cp2 cp3 cp4
  refine cl_nil ?_
  focus
   obtain ⟨hbp, ⟨fp0, fp1, fp2, fp3, fp4⟩, cp0, cp1, cp2, cp3, cp4⟩ := bx5 HO.out.blk; go_wp2_with fail
   clear hbp fp0 fp1 fp2 fp3 fp4 cp0 cp1 cp2 cp3 cp4
  refine (HPf.out (blk b2 tobj0 :: ps) (.ok []) W2 (Owns.asRd (s := .ok []) HO.out HFi.out HV.out HI.out HD.out)).mono ?_; rintro e W3 ⟨rfl, ho⟩; replace HO := Lib.hid ho; clear ho; rw [show failS (.ok []) 6 fin = .error (6, fin) from rfl] at HO; obtain ⟨hf, hv, i2, hi2, hd2, h1⟩ := HO.out.rd; replace HO := Lib.hid h1; replace HI := Lib.hid hi2; replace HD := Lib.hid hd2; clear hf hv hd2 h1 hi2; simp only [rdobj, code, pos] at HO; have hx' : (((6 : Nat) : Int) != 0) = true := by decide
  have HO4 := Lib.hid HO.out.swap; obtain ⟨hbp, ⟨fp0, fp1, fp2, fp3, fp4⟩, cp0, cp1, cp2, cp3, cp4⟩ := bx5 HO.out.blk; obtain ⟨ht, ⟨ft0, ft1, ft2, ft3⟩, ct0, ct1, ct2, ct3⟩ := bx4 HO4.out.blk; go_wp2_with fail
  have h2 := st4 HO4.out (.int .i64 0) (.int .i64 0) (.int .i64 0) (.string ⟨#[]⟩); refine bodyPost_ret (rtoken_res rfl h2.blk.1) (by rfl) ⟨by rw [HE.out.2]; rfl, ?_⟩; rw [HE.out.1]; exact Owns.asRd h2.pop ((show PSt.fine (.error (6, fin)) from by simp [PSt.fine])) HV.out HI.out (fun ts h => by cases h)
 ·have HE : Hid (nextS fin (.ok (t :: r)) = .ok r /\ nextT (.ok (t :: r)) = t) := ⟨rfl, rfl⟩; obtain ⟨hlt, hit, hdr⟩ := drop_cons (HD.out _ rfl); rw [<- HNl.out] at hlt; have HIt := Lib.hid hit; have HDr := Lib.hid hdr; clear hit hdr; obtain ⟨W1, hW1⟩ : ∃ W1, W1 = w.alloc (.cells #[.int .i64 0, .int .i64 0, .int .i64 0, .string ⟨#[]⟩] 40) := ⟨_, rfl⟩; obtain ⟨b2, hb2⟩ : ∃ b2, b2 = w.heap.size := ⟨_, rfl⟩; replace HO : Hid (Owns w0 W1 (blk bp (rdobj (.slice y N m) i fin (.ok (t :: r))) :: blk b2 tobj0 :: ps)) := by
   rw [hW1, hb2]; exact Lib.hid (HO.out.box tobj0).swap
  simp only [rdobj, code, pos] at HO; go_enter Tryz.func163, Tryz.ntmps163
  go_wp2_with fail
  rw [<- hW1, <- hb2]; clear hW1 hb2; refine wp_region_canA [] (List.range 10) ?_; replace HO := Lib.hid HO.out.drew; generalize hWd : World.drew _ = W2 at HO ⊢; clear hWd
  focus
   obtain ⟨hbp, ⟨fp0, fp1, fp2, fp3, fp4⟩, cp0, cp1, cp2, cp3, cp4⟩ := bx5 HO.out.blk; iterate 10 (refine cl_doA rfl rfl rfl (fun _ _ => ?_); go_wp2_with fail)
   clear hbp fp0 fp1 fp2 fp3 fp4 cp0 cp1 cp2 cp3 cp4
  refine cl_nil ?_; obtain ⟨g, off, rfl, hNm, -, -, -, -, -⟩ := HV.out.get HO.out.base HIt.out; have HO3 := Lib.hid (HO.out.store (i := 1) (.int .i64 ((i : Int) + 1)))
  focus
   obtain ⟨hbp, ⟨fp0, fp1, fp2, fp3, fp4⟩, cp0, cp1, cp2, cp3, cp4⟩ := bx5 HO.out.blk; go_wp2_with fail
   clear hbp fp0 fp1 fp2 fp3 fp4 cp0 cp1 cp2 cp3 cp4
  replace HO := HO3; clear HO3; refine wp_region_canA [] (List.range 12) ?_; replace HO := Lib.hid HO.out.drew; generalize hWd : World.drew _ = W3 at HO ⊢; clear hWd; obtain ⟨g', off', e, hNm', hg, c0, c1, c2, c3⟩ := HV.out.get HO.out.base HIt.out; simp only [Option.some.injEq, Addr.mk.injEq, and_true] at e; obtain ⟨rfl, rfl⟩ := e; simp only [List.setIfInBounds_toArray, List.set_cons_succ, List.set_cons_zero] at HO; have HO4 := Lib.hid HO.out.swap; obtain ⟨hbp, ⟨fp0, fp1, fp2, fp3, fp4⟩, cp0, cp1, cp2, cp3, cp4⟩ := bx5 HO.out.blk; obtain ⟨ht, ⟨ft0, ft1, ft2, ft3⟩, ct0, ct1, ct2, ct3⟩ := bx4 HO4.out.blk; iterate 12 (refine cl_doA rfl rfl rfl (fun _ _ => ?_); go_wp2_with fail)
  refine cl_nil ?_; go_wp2_with fail
  have h2 := st4 HO4.out (.int .i64 t.kind) (.int .i64 t.pos) (.int .i64 t.num) (.string (bs t.text)); refine bodyPost_ret (rtoken_res rfl h2.blk.1) (by rfl) ⟨by rw [HE.out.2], ?_⟩; rw [HE.out.1]; have h3 := h2.pop; rw [show ((i : Int) + 1) = ((i + 1 : Nat) : Int) by omega] at h3; exact Owns.asRd (s := .ok r) (i := i + 1) h3 trivial HV.out (by have := HNl.out; omega) (fun ts h => by cases h; exact HDr.out)
set_option maxRecDepth 100000 in
set_option maxHeartbeats 8000000 in
theorem rsees_c (ps : List Piece) (s : PSt) (k : Nat) (u : Bytes) (w : World) (hN9 : all.length <= 1000000) (hu9 : u.length <= 10) (h : Owns w0 w (rdP w0 bp fin all v s :: ps)) :
  Calls Tryz.prog 147 #[.pointer (some ⟨bp, 0, none⟩), .int .i64 (k : Nat), .string (bs u)] w fun x w' => x = .returned (.bool (seesB s k u)) /\ Owns w0 w' (rdP w0 bp fin all v s :: ps) := by
 obtain ⟨hf, hv, i, hi, hd, h1⟩ := h.rd; have HP := Lib.hid h; obtain ⟨y, m, rfl⟩ := hv.form; obtain ⟨N, hN⟩ : ∃ N, N = all.length := ⟨_, rfl⟩; rw [<- hN] at hv h1 hN9 HP; have HO := Lib.hid h1; have HV := Lib.hid hv; have HI := Lib.hid hi; have HD := Lib.hid hd; have HNl := Lib.hid hN; have hiN : i <= N := by omega
 simp only [<- hN]; clear h h1 hv hi hd hN; rcases s with ⟨c, a⟩ | (_ | ⟨t, r⟩)
 ·have hx' : ((c : Int) == 0) = false := by have h0 : c ≠ 0 := hf; simpa using h0
  have HE : Hid (seesB (.error (c, a)) k u = false) := rfl; simp only [rdobj, code, pos] at HO; clear hf; go_enter Tryz.func147, Tryz.ntmps147
  go_wp2_with fail
  refine wp_region_canA [] (List.range 48) ?_; replace HO := Lib.hid HO.out.drew; replace HP := Lib.hid HP.out.drew; generalize hWd : World.drew _ = W2 at HO HP ⊢; clear hWd; obtain ⟨hbp, ⟨fp0, fp1, fp2, fp3, fp4⟩, cp0, cp1, cp2, cp3, cp4⟩ := bx5 HO.out.blk; iterate 48 (first | (refine cl_doA rfl rfl rfl (fun _ _ => ?_); go_wp2_with fail) | (refine cl_yesA rfl rfl rfl rfl (fun _ _ => ?_); go_wp2_with fail) | (refine cl_no rfl rfl rfl ?_; go_simp))
  refine cl_nil ?_; go_wp2_with fail
  go_ret
  exact ⟨by rw [HE.out]; rfl, HP.out⟩
 ·have HE : Hid (seesB (.ok []) k u = false) := rfl; obtain rfl : N = i := by rw [HNl.out]; exact (drop_nil (HD.out [] rfl) (by have := HI.out; omega)).symm
  simp only [rdobj, code, pos] at HO; clear hf; go_enter Tryz.func147, Tryz.ntmps147
  go_wp2_with fail
  refine wp_region_canA [] (List.range 48) ?_; replace HO := Lib.hid HO.out.drew; replace HP := Lib.hid HP.out.drew; generalize hWd : World.drew _ = W2 at HO HP ⊢; clear hWd; obtain ⟨hbp, ⟨fp0, fp1, fp2, fp3, fp4⟩, cp0, cp1, cp2, cp3, cp4⟩ := bx5 HO.out.blk; iterate 48 (first | (refine cl_doA rfl rfl rfl (fun _ _ => ?_); go_wp2_with fail) | (refine cl_yesA rfl rfl rfl rfl (fun _ _ => ?_); go_wp2_with fail) | (refine cl_no rfl rfl rfl ?_; go_simp))
  refine cl_nil ?_; go_wp2_with fail
  go_ret
  exact ⟨by rw [HE.out]; rfl, HP.out⟩
 ·obtain ⟨hlt, hit, hdr⟩ := drop_cons (HD.out _ rfl); rw [<- HNl.out] at hlt; have HIt := Lib.hid hit; have HE0 : Hid (seesB (.ok (t :: r)) k u = (decide (t.kind = k) && decide (t.text = u))) := rfl; simp only [rdobj, code, pos] at HO; clear hf hit hdr; by_cases hk : t.kind = k
  ·have hk' : ((t.kind : Int) == (k : Int)) = true := by simp; omega
   by_cases hu : t.text = u
   ·have hu' : (t.text == u) = true := by simpa using hu
    have HE : Hid (seesB (.ok (t :: r)) k u = true) := by show _ = _; rw [HE0.out, decide_eq_true hk, decide_eq_true hu]; rfl
    clear hk hu HE0; go_enter Tryz.func147, Tryz.ntmps147
    go_wp2_with fail
    refine wp_region_canA [] (List.range 48) ?_; replace HO := Lib.hid HO.out.drew; replace HP := Lib.hid HP.out.drew; generalize hWd : World.drew _ = W2 at HO HP ⊢; clear hWd; obtain ⟨g, off, rfl, hNm, hg, c0, c1, c2, c3⟩ := HV.out.get HO.out.base HIt.out; obtain ⟨hbp, ⟨fp0, fp1, fp2, fp3, fp4⟩, cp0, cp1, cp2, cp3, cp4⟩ := bx5 HO.out.blk; iterate 48 (first | (refine cl_doA rfl rfl rfl (fun _ _ => ?_); go_wp2_with fail) | (refine cl_yesA rfl rfl rfl rfl (fun _ _ => ?_); go_wp2_with fail) | (refine cl_no rfl rfl rfl ?_; go_simp))
    refine cl_nil ?_; go_wp2_with fail
    go_ret
    exact ⟨by rw [HE.out]; rfl, HP.out⟩
   ·have hu' : (t.text == u) = false := by simpa using hu
    have HE : Hid (seesB (.ok (t :: r)) k u = false) := by show _ = _; rw [HE0.out, decide_eq_false hu]; simp
    clear hk hu HE0; go_enter Tryz.func147, Tryz.ntmps147
    go_wp2_with fail
    refine wp_region_canA [] (List.range 48) ?_; replace HO := Lib.hid HO.out.drew; replace HP := Lib.hid HP.out.drew; generalize hWd : World.drew _ = W2 at HO HP ⊢; clear hWd; obtain ⟨g, off, rfl, hNm, hg, c0, c1, c2, c3⟩ := HV.out.get HO.out.base HIt.out; obtain ⟨hbp, ⟨fp0, fp1, fp2, fp3, fp4⟩, cp0, cp1, cp2, cp3, cp4⟩ := bx5 HO.out.blk; iterate 48 (first | (refine cl_doA rfl rfl rfl (fun _ _ => ?_); go_wp2_with fail) | (refine cl_yesA rfl rfl rfl rfl (fun _ _ => ?_); go_wp2_with fail) | (refine cl_no rfl rfl rfl ?_; go_simp))
    refine cl_nil ?_; go_wp2_with fail
    go_ret
    exact ⟨by rw [HE.out]; rfl, HP.out⟩
  ·have hk' : ((t.kind : Int) == (k : Int)) = false := by simp; omega
   have HE : Hid (seesB (.ok (t :: r)) k u = false) := by show _ = _; rw [HE0.out, decide_eq_false hk]; rfl
   clear hk HE0; go_enter Tryz.func147, Tryz.ntmps147
   go_wp2_with fail
   refine wp_region_canA [] (List.range 48) ?_; replace HO := Lib.hid HO.out.drew; replace HP := Lib.hid HP.out.drew; generalize hWd : World.drew _ = W2 at HO HP ⊢; clear hWd; obtain ⟨g, off, rfl, hNm, hg, c0, c1, c2, c3⟩ := HV.out.get HO.out.base HIt.out; obtain ⟨hbp, ⟨fp0, fp1, fp2, fp3, fp4⟩, cp0, cp1, cp2, cp3, cp4⟩ := bx5 HO.out.blk; iterate 48 (first | (refine cl_doA rfl rfl rfl (fun _ _ => ?_); go_wp2_with fail) | (refine cl_yesA rfl rfl rfl rfl (fun _ _ => ?_); go_wp2_with fail) | (refine cl_no rfl rfl rfl ?_; go_simp))
   refine cl_nil ?_; go_wp2_with fail
   go_ret
   exact ⟨by rw [HE.out]; rfl, HP.out⟩
end
end Go.Proofs.YtoeknmkephnekaaGreatDoor
namespace Go.Cz.Fo
open Go.Cz.Lx
theorem sees_true {s : PSt} {k : Nat} {u : Bytes} (h : seesB s k u = true) : ∃ t r, s = .ok (t :: r) /\ t.kind = k /\ t.text = u := by
 rcases s with x | (_ | ⟨t, r⟩)
 ·cases h
 ·cases h
 ·unfold seesB at h; simp only [Bool.and_eq_true, decide_eq_true_eq] at h; exact ⟨t, r, rfl, h.1, h.2⟩
theorem PI.over {op : Int} {word : Bytes} {part : List Tok -> Res} {s0 s : PSt} {L : List Fm} (h : PI op word part s0 L s) (hl : (toks s).length <= (toks s0).length) (hs : seesB s 1 word = false) : Did (partsF op word part) s0 (mkL op L) s := by
 cases s with
 | error x => exact h.err _
 | ok ts =>
  refine h.stop hl fun t r e hx => ?_; subst e; unfold seesB at hs; simp [hx.1, hx.2] at hs
end Go.Cz.Fo
namespace Go.Proofs.YtoeknmkephnekaaGreatDoor
open Go.RowKit Go.Cz Go.Cz.Lx Go.Cz.Fo
attribute [local go_sem] bs_size bs_extract bs_append bs_toList
attribute [local irreducible] cList cPlan
theorem rand_res {W : World} {tmps : Array Value} {g : Nat} {v0 v1 v2 v3 v4 : Value} (h4 : tmps.getD 2 undef = .pointer (some ⟨g, 0, none⟩)) (hb : W.heap[g]? = some (.cells #[v0, v1, v2, v3, v4] 24 (0, 0))) :
  (results Tryz.f146 tmps).run Tryz.prog W = .ok (.agg #[v0, v1, v2, v3, v4]) W := by
 have c0 : W.cell? ⟨g, 0, none⟩ = some v0 := by rw [cell_of_heap hb]; rfl
 have c1 : W.cell? ⟨g, 1, none⟩ = some v1 := by rw [cell_of_heap hb]; rfl
 have c2 : W.cell? ⟨g, 2, none⟩ = some v2 := by rw [cell_of_heap hb]; rfl
 have c3 : W.cell? ⟨g, 3, none⟩ = some v3 := by rw [cell_of_heap hb]; rfl
 have c4 : W.cell? ⟨g, 4, none⟩ = some v4 := by rw [cell_of_heap hb]; rfl
 have h4' : tmps[2]?.getD undef = .pointer (some ⟨g, 0, none⟩) := by simpa using h4
 simp [results, Tryz.results146, go_sem, h4', c0, c1, c2, c3, c4]
theorem rform_res {W : World} {tmps : Array Value} {g : Nat} {v0 v1 v2 v3 v4 : Value} (h4 : tmps.getD 2 undef = .pointer (some ⟨g, 0, none⟩)) (hb : W.heap[g]? = some (.cells #[v0, v1, v2, v3, v4] 24 (0, 0))) :
  (results Tryz.f124 tmps).run Tryz.prog W = .ok (.agg #[v0, v1, v2, v3, v4]) W := by
 have c0 : W.cell? ⟨g, 0, none⟩ = some v0 := by rw [cell_of_heap hb]; rfl
 have c1 : W.cell? ⟨g, 1, none⟩ = some v1 := by rw [cell_of_heap hb]; rfl
 have c2 : W.cell? ⟨g, 2, none⟩ = some v2 := by rw [cell_of_heap hb]; rfl
 have c3 : W.cell? ⟨g, 3, none⟩ = some v3 := by rw [cell_of_heap hb]; rfl
 have c4 : W.cell? ⟨g, 4, none⟩ = some v4 := by rw [cell_of_heap hb]; rfl
 have h4' : tmps[2]?.getD undef = .pointer (some ⟨g, 0, none⟩) := by simpa using h4
 simp [results, Tryz.results124, go_sem, h4', c0, c1, c2, c3, c4]
theorem rnot_res {W : World} {tmps : Array Value} {g : Nat} {v0 v1 v2 v3 v4 : Value} (h4 : tmps.getD 2 undef = .pointer (some ⟨g, 0, none⟩)) (hb : W.heap[g]? = some (.cells #[v0, v1, v2, v3, v4] 24 (0, 0))) :
  (results Tryz.f158 tmps).run Tryz.prog W = .ok (.agg #[v0, v1, v2, v3, v4]) W := by
 have c0 : W.cell? ⟨g, 0, none⟩ = some v0 := by rw [cell_of_heap hb]; rfl
 have c1 : W.cell? ⟨g, 1, none⟩ = some v1 := by rw [cell_of_heap hb]; rfl
 have c2 : W.cell? ⟨g, 2, none⟩ = some v2 := by rw [cell_of_heap hb]; rfl
 have c3 : W.cell? ⟨g, 3, none⟩ = some v3 := by rw [cell_of_heap hb]; rfl
 have c4 : W.cell? ⟨g, 4, none⟩ = some v4 := by rw [cell_of_heap hb]; rfl
 have h4' : tmps[2]?.getD undef = .pointer (some ⟨g, 0, none⟩) := by simpa using h4
 simp [results, Tryz.results158, go_sem, h4', c0, c1, c2, c3, c4]
def RPartC (w0 : World) (bp : Nat) (fin : Int) (all : List Tok) (v : Value) (fn : Nat) (part : List Tok -> Res) (B : Nat) : Prop :=
 ∀ (ps : List Piece) (s : PSt) (w : World), (toks s).length <= B -> Owns w0 w (rdP w0 bp fin all v s :: ps) -> Calls Tryz.prog fn #[.pointer (some ⟨bp, 0, none⟩)] w fun e w' => ∃ f kv s', e = .returned (fval f kv) /\ Did part s f s' /\ Owns w0 w' (fmP f kv :: rdP w0 bp fin all v s' :: ps)
section
variable {w0 : World} {bp : Nat} {fin : Int} {all : List Tok} {v : Value}
set_option maxRecDepth 100000 in
set_option maxHeartbeats 8000000 in
theorem rand_c (part : List Tok -> Res) (B : Nat) (hB : B <= 1000000) (hN9 : all.length <= 1000000) (HC : RPartC w0 bp fin all v 158 part B) : RPartC w0 bp fin all v 146 (partsF 5 wAnd part) B := by
 intro ps s0 w hs h; have HCh := Lib.hid HC; have HS := Lib.hid hs; have HB := Lib.hid hB; have HN := Lib.hid hN9; clear HC hs hB hN9; obtain ⟨W1, hW1⟩ : ∃ W1, W1 = w.alloc (.cells #[.int .i64 0, .string ⟨#[]⟩, .int .i64 0, .int .i64 0, .slice none 0 0] 24) := ⟨_, rfl⟩; obtain ⟨b8, hb8⟩ : ∃ b8, b8 = w.heap.size := ⟨_, rfl⟩; have HO : Hid (Owns w0 W1 (rdP w0 bp fin all v s0 :: blk b8 fobj0 :: ps)) := by
  rw [hW1, hb8]; exact Lib.hid (h.box fobj0).swap
 clear h; go_enter Tryz.func146, Tryz.ntmps146
 go_wp2_with fail
 try rw [<- hW1]
 try rw [<- hb8]
 clear hW1 hb8
 try go_at_call 158
 refine (HCh.out (blk b8 fobj0 :: ps) s0 W1 HS.out HO.out).mono ?_; rintro e W2 ⟨f, kv, s, rfl, hd, ho⟩; have HPI0 : Hid (PI 5 wAnd part s0 [f] s /\ (toks s).length <= (toks s0).length) := ⟨PI.start hd, hd.2.1⟩; obtain ⟨y2, m2, rfl⟩ := ho.fm.form; obtain ⟨N2, hN2⟩ : ∃ N2, N2 = f.kids.length := ⟨_, rfl⟩; rw [<- hN2] at ho ⊢; replace HO : Hid (Owns w0 (W2.alloc (.cells (fcells f (.slice y2 N2 m2)).toArray 24)) (kidsP [(f, .slice y2 N2 m2)] (.slice (some ⟨W2.heap.size, 0, none⟩) 1 1) :: rdP w0 bp fin all v s :: blk b8 fobj0 :: ps)) := Lib.hid ho.kid1; clear ho hd hN2; go_wp2_with fail
 go_loopg [3] (toks s).length (fun gk v' wr => ∃ (L : List (Fm × Value)) (s : PSt) (vv : Value), vv = v' /\ gk = (toks s).length /\ L.length + (toks s).length <= 1000001 /\ Hid (Owns w0 wr (kidsP L vv :: rdP w0 bp fin all v s :: blk b8 fobj0 :: ps)) /\ Hid (PI 5 wAnd part s0 (L.map Prod.fst) s /\ (toks s).length <= (toks s0).length))
 case atStart => exact ⟨_, s, _, rfl, rfl, by have := HPI0.out.2; have := HS.out; have := HB.out; simp; omega, HO, HPI0⟩
 case round =>
  rename_i J1 K1 hJ1 hK1; clear HO HPI0; obtain ⟨L, s, vv, rfl, rfl, hLl, HO, HPI⟩ := hrel; have HL0 : Hid (L ≠ []) := by have := HPI.out.1.1; exact fun e => this (by rw [e]; rfl)
  go_wp2_with fail
  try go_at_call 147
  refine (rsees_c (kidsP L vv :: blk b8 fobj0 :: ps) s 1 wAnd wr HN.out (by decide) HO.out.swap).mono ?_; rintro e W3 ⟨rfl, ho⟩; replace HO := Lib.hid ho.swap; obtain ⟨q, hq⟩ : ∃ q, q = seesB s 1 wAnd := ⟨_, rfl⟩; have HQ := Lib.hid hq; rw [<- hq]; clear ho hq; cases q
  ·have HD : Hid (Did (partsF 5 wAnd part) s0 (mkL 5 (L.map Prod.fst)) s) := Lib.hid (HPI.out.1.over HPI.out.2 HQ.out.symm); clear HPI hJ1 hK1 hLl; obtain ⟨y, m, rfl⟩ := HO.out.kform; obtain ⟨NL, hNL⟩ : ∃ NL, NL = L.length := ⟨_, rfl⟩; have HNL := Lib.hid hNL; have hNL1 : 1 <= NL := by rw [hNL]; exact List.length_pos_iff.2 HL0.out
   rw [<- hNL] at HO ⊢; clear hNL; by_cases h1 : NL = 1
   ·subst h1; obtain ⟨⟨k, kv⟩, rfl⟩ : ∃ p, L = [p] := List.length_eq_one_iff.1 HNL.out.symm; have HF := Lib.hid HO.out.konly.fm; obtain ⟨y2, m2, rfl⟩ := HF.out.form; obtain ⟨N2, hN2⟩ : ∃ N2, N2 = k.kids.length := ⟨_, rfl⟩; rw [<- hN2] at HO HF; obtain ⟨gk, mk, e1, hgm, hgk, d0, d1, d2, d3, d4⟩ := HO.out.kget (j := 0) rfl; simp only [Value.slice.injEq] at e1; obtain ⟨rfl, -, rfl⟩ := e1; simp only [Nat.zero_mul, Nat.zero_add] at d0 d1 d2 d3 d4; replace HO := Lib.hid (HO.out.konly.re [2, 0, 1]); simp only [fobj0] at HO
    focus
     obtain ⟨hbe, ⟨fe0, fe1, fe2, fe3, fe4⟩, ce0, ce1, ce2, ce3, ce4⟩ := bx5 HO.out.blk; clear hN2 hNL1; go_wp2_with fail
    have h2 := st5 HO.out (.int .i64 k.op) (.string (bs k.name)) (.int .i64 k.cmp) (.int .i64 k.num) (.slice y2 N2 m2); exact bodyPost_ret (rand_res rfl h2.blk.1) (by rfl) ⟨k, _, _, rfl, HD.out, h2.pop⟩
   ·have h1' : ((NL : Int) == 1) = false := by simp; omega
    have HM : Hid (mkL 5 (L.map Prod.fst) = .mk 5 [] 0 0 (L.map Prod.fst)) := by
     show _ = _; rcases L with _ | ⟨a, _ | ⟨b, L⟩⟩
     ·exact absurd rfl HL0.out
     ·exact absurd HNL.out h1
     ·rfl
    replace HO := Lib.hid ((HO.out.knode 5 [] 0 0).re [2, 0, 1]); simp only [fobj0] at HO
    focus
     obtain ⟨hbe, ⟨fe0, fe1, fe2, fe3, fe4⟩, ce0, ce1, ce2, ce3, ce4⟩ := bx5 HO.out.blk; clear h1 hNL1; go_wp2_with fail
    have h2 := st5 HO.out (.int .i64 5) (.string ⟨#[]⟩) (.int .i64 0) (.int .i64 0) (.slice y NL m); exact bodyPost_ret (rand_res rfl h2.blk.1) (by rfl) ⟨_, _, _, rfl, HM.out ▸ HD.out, h2.pop⟩
  ·obtain ⟨t, r, rfl, ht⟩ := sees_true HQ.out.symm; have HT : Hid (t.kind = 1 /\ t.text = wAnd) := Lib.hid ht; clear ht; obtain ⟨NT, hNT⟩ : ∃ NT, NT = (toks (.ok (t :: r))).length := ⟨_, rfl⟩; have HNT := Lib.hid hNT; rw [<- hNT] at hLl; clear hNT; obtain ⟨hf, hv, i, hi, hd, h1⟩ := HO.out.swap.rd; obtain ⟨hlt, -, hdr⟩ := drop_cons (hd _ rfl); have HV := Lib.hid hv; have HDr := Lib.hid hdr; have hi9 : i <= 1000000 := by have := HN.out; omega
   have HLt := Lib.hid hlt; have HO2 := Lib.hid h1; clear hf hv hi hd h1 hlt hdr; simp only [rdobj, code, pos] at HO2; have HO3 := Lib.hid (HO2.out.store (i := 1) (.int .i64 ((i : Int) + 1))); obtain ⟨W4, hW4⟩ : ∃ W4, W4 = W3.setCell ⟨bp, 1, none⟩ (.int .i64 ((i : Int) + 1)) := ⟨_, rfl⟩; rw [<- hW4] at HO3; have HO4 : Hid (Owns w0 W4 (rdP w0 bp fin all v (.ok r) :: kidsP L vv :: blk b8 fobj0 :: ps)) := by
    have h3 := HO3.out; rw [show ((i : Int) + 1) = ((i + 1 : Nat) : Int) by omega] at h3; exact Lib.hid (Owns.asRd (s := .ok r) (i := i + 1) h3 trivial HV.out (by have := HLt.out; omega) (fun ts h => by cases h; exact HDr.out))
   focus
    obtain ⟨hbp, ⟨-, fp1⟩, -, cp1⟩ := bx2 HO2.out.blk; go_wp2_with fail
    rw [<- hW4]; clear hbp fp1 cp1
   clear hW4 HO HO2 HO3 hi9
   try go_at_call 158
   refine (HCh.out (kidsP L vv :: blk b8 fobj0 :: ps) (.ok r) W4 (by have h1 := HPI.out.2; have h2 := HS.out; simp [toks] at h1 h2 ⊢; omega) HO4.out).mono ?_; rintro e W5 ⟨f, kv, s2, rfl, hd, ho⟩; have HPI2 : Hid (PI 5 wAnd part s0 ((L ++ [(f, kv)]).map Prod.fst) s2 /\ (toks s2).length <= (toks s0).length /\ (toks s2).length < NT) := by
    refine ⟨by rw [List.map_append]; exact HPI.out.1.step HT.out hd, ?_, ?_⟩
    ·have h1 := HPI.out.2; have h2 := hd.2.1; simp [toks] at h1 h2 ⊢; omega
    ·rw [HNT.out]; have h2 := hd.2.1; simp [toks] at h2 ⊢; omega
   obtain ⟨y2, m2, rfl⟩ := ho.fm.form; obtain ⟨N2, hN2⟩ : ∃ N2, N2 = f.kids.length := ⟨_, rfl⟩; rw [<- hN2] at ho HPI2 ⊢; have HO5 : Hid (Owns w0 (W5.alloc (.cells #[.int .i64 f.op, .string (bs f.name), .int .i64 f.cmp, .int .i64 f.num, .slice y2 N2 m2] 24)) (kidsP L vv :: fmP f (.slice y2 N2 m2) :: rdP w0 bp fin all v s2 :: blk b8 fobj0 :: ps)) := Lib.hid ((ho.alloc _).re [2, 0, 1]); have hLl2 : L.length <= 1000001 := by omega
   clear ho hd hN2 HO4 HPI HV HDr HLt; go_wp2_with (refine wpList_plain rfl fun K hK => wp_append (.tmp 16) (.tmp 19) 22 (by rfl) 24 _ 5 64 Tryz.underlying22 info_fm (by rfl) (by omega) vv L.length _ (by rfl) HO5.out.krow W5.heap.size 1 1 (fcells f (.slice y2 N2 m2)) (by rfl) (by rfl) 24 (by exact new_heap W5 _ _ rfl) (by simp [fcells, Value.oneCell']) (by omega) (by omega) ?_; intro v' w2 hrow hgrow hblk; have HO6 := Lib.hid (HO5.out.kid hrow hgrow hblk); clear hrow hgrow hblk)
   go_roundg (toks s2).length
   case measure => have := HPI2.out.2.2; rw [HNT.out] at this; exact this
   case rel => exact ⟨L ++ [(f, .slice y2 N2 m2)], s2, _, rfl, rfl, by have := HPI2.out.2.2; rw [List.length_append, List.length_singleton]; omega, HO6, Lib.hid ⟨HPI2.out.1, HPI2.out.2.1⟩⟩
set_option maxRecDepth 100000 in
set_option maxHeartbeats 8000000 in
theorem rform_c (part : List Tok -> Res) (B : Nat) (hB : B <= 1000000) (hN9 : all.length <= 1000000) (HC : RPartC w0 bp fin all v 146 part B) : RPartC w0 bp fin all v 124 (partsF 6 wOr part) B := by
 intro ps s0 w hs h; have HCh := Lib.hid HC; have HS := Lib.hid hs; have HB := Lib.hid hB; have HN := Lib.hid hN9; clear HC hs hB hN9; obtain ⟨W1, hW1⟩ : ∃ W1, W1 = w.alloc (.cells #[.int .i64 0, .string ⟨#[]⟩, .int .i64 0, .int .i64 0, .slice none 0 0] 24) := ⟨_, rfl⟩; obtain ⟨b8, hb8⟩ : ∃ b8, b8 = w.heap.size := ⟨_, rfl⟩; have HO : Hid (Owns w0 W1 (rdP w0 bp fin all v s0 :: blk b8 fobj0 :: ps)) := by
  rw [hW1, hb8]; exact Lib.hid (h.box fobj0).swap
 clear h; go_enter Tryz.func124, Tryz.ntmps124
 go_wp2_with fail
 try rw [<- hW1]
 try rw [<- hb8]
 clear hW1 hb8
 try go_at_call 146
 refine (HCh.out (blk b8 fobj0 :: ps) s0 W1 HS.out HO.out).mono ?_; rintro e W2 ⟨f, kv, s, rfl, hd, ho⟩; have HPI0 : Hid (PI 6 wOr part s0 [f] s /\ (toks s).length <= (toks s0).length) := ⟨PI.start hd, hd.2.1⟩; obtain ⟨y2, m2, rfl⟩ := ho.fm.form; obtain ⟨N2, hN2⟩ : ∃ N2, N2 = f.kids.length := ⟨_, rfl⟩; rw [<- hN2] at ho ⊢; replace HO : Hid (Owns w0 (W2.alloc (.cells (fcells f (.slice y2 N2 m2)).toArray 24)) (kidsP [(f, .slice y2 N2 m2)] (.slice (some ⟨W2.heap.size, 0, none⟩) 1 1) :: rdP w0 bp fin all v s :: blk b8 fobj0 :: ps)) := Lib.hid ho.kid1; clear ho hd hN2; go_wp2_with fail
 go_loopg [3] (toks s).length (fun gk v' wr => ∃ (L : List (Fm × Value)) (s : PSt) (vv : Value), vv = v' /\ gk = (toks s).length /\ L.length + (toks s).length <= 1000001 /\ Hid (Owns w0 wr (kidsP L vv :: rdP w0 bp fin all v s :: blk b8 fobj0 :: ps)) /\ Hid (PI 6 wOr part s0 (L.map Prod.fst) s /\ (toks s).length <= (toks s0).length))
 case atStart => exact ⟨_, s, _, rfl, rfl, by have := HPI0.out.2; have := HS.out; have := HB.out; simp; omega, HO, HPI0⟩
 case round =>
  rename_i J1 K1 hJ1 hK1; clear HO HPI0; obtain ⟨L, s, vv, rfl, rfl, hLl, HO, HPI⟩ := hrel; have HL0 : Hid (L ≠ []) := by have := HPI.out.1.1; exact fun e => this (by rw [e]; rfl)
  go_wp2_with fail
  try go_at_call 147
  refine (rsees_c (kidsP L vv :: blk b8 fobj0 :: ps) s 1 wOr wr HN.out (by decide) HO.out.swap).mono ?_; rintro e W3 ⟨rfl, ho⟩; replace HO := Lib.hid ho.swap; obtain ⟨q, hq⟩ : ∃ q, q = seesB s 1 wOr := ⟨_, rfl⟩; have HQ := Lib.hid hq; rw [<- hq]; clear ho hq; cases q
  ·have HD : Hid (Did (partsF 6 wOr part) s0 (mkL 6 (L.map Prod.fst)) s) := Lib.hid (HPI.out.1.over HPI.out.2 HQ.out.symm); clear HPI hJ1 hK1 hLl; obtain ⟨y, m, rfl⟩ := HO.out.kform; obtain ⟨NL, hNL⟩ : ∃ NL, NL = L.length := ⟨_, rfl⟩; have HNL := Lib.hid hNL; have hNL1 : 1 <= NL := by rw [hNL]; exact List.length_pos_iff.2 HL0.out
   rw [<- hNL] at HO ⊢; clear hNL; by_cases h1 : NL = 1
   ·subst h1; obtain ⟨⟨k, kv⟩, rfl⟩ : ∃ p, L = [p] := List.length_eq_one_iff.1 HNL.out.symm; have HF := Lib.hid HO.out.konly.fm; obtain ⟨y2, m2, rfl⟩ := HF.out.form; obtain ⟨N2, hN2⟩ : ∃ N2, N2 = k.kids.length := ⟨_, rfl⟩; rw [<- hN2] at HO HF; obtain ⟨gk, mk, e1, hgm, hgk, d0, d1, d2, d3, d4⟩ := HO.out.kget (j := 0) rfl; simp only [Value.slice.injEq] at e1; obtain ⟨rfl, -, rfl⟩ := e1; simp only [Nat.zero_mul, Nat.zero_add] at d0 d1 d2 d3 d4; replace HO := Lib.hid (HO.out.konly.re [2, 0, 1]); simp only [fobj0] at HO
    focus
     obtain ⟨hbe, ⟨fe0, fe1, fe2, fe3, fe4⟩, ce0, ce1, ce2, ce3, ce4⟩ := bx5 HO.out.blk; clear hN2 hNL1; go_wp2_with fail
    have h2 := st5 HO.out (.int .i64 k.op) (.string (bs k.name)) (.int .i64 k.cmp) (.int .i64 k.num) (.slice y2 N2 m2); exact bodyPost_ret (rform_res rfl h2.blk.1) (by rfl) ⟨k, _, _, rfl, HD.out, h2.pop⟩
   ·have h1' : ((NL : Int) == 1) = false := by simp; omega
    have HM : Hid (mkL 6 (L.map Prod.fst) = .mk 6 [] 0 0 (L.map Prod.fst)) := by
     show _ = _; rcases L with _ | ⟨a, _ | ⟨b, L⟩⟩
     ·exact absurd rfl HL0.out
     ·exact absurd HNL.out h1
     ·rfl
    replace HO := Lib.hid ((HO.out.knode 6 [] 0 0).re [2, 0, 1]); simp only [fobj0] at HO
    focus
     obtain ⟨hbe, ⟨fe0, fe1, fe2, fe3, fe4⟩, ce0, ce1, ce2, ce3, ce4⟩ := bx5 HO.out.blk; clear h1 hNL1; go_wp2_with fail
    have h2 := st5 HO.out (.int .i64 6) (.string ⟨#[]⟩) (.int .i64 0) (.int .i64 0) (.slice y NL m); exact bodyPost_ret (rform_res rfl h2.blk.1) (by rfl) ⟨_, _, _, rfl, HM.out ▸ HD.out, h2.pop⟩
  ·obtain ⟨t, r, rfl, ht⟩ := sees_true HQ.out.symm; have HT : Hid (t.kind = 1 /\ t.text = wOr) := Lib.hid ht; clear ht; obtain ⟨NT, hNT⟩ : ∃ NT, NT = (toks (.ok (t :: r))).length := ⟨_, rfl⟩; have HNT := Lib.hid hNT; rw [<- hNT] at hLl; clear hNT; obtain ⟨hf, hv, i, hi, hd, h1⟩ := HO.out.swap.rd; obtain ⟨hlt, -, hdr⟩ := drop_cons (hd _ rfl); have HV := Lib.hid hv; have HDr := Lib.hid hdr; have hi9 : i <= 1000000 := by have := HN.out; omega
   have HLt := Lib.hid hlt; have HO2 := Lib.hid h1; clear hf hv hi hd h1 hlt hdr; simp only [rdobj, code, pos] at HO2; have HO3 := Lib.hid (HO2.out.store (i := 1) (.int .i64 ((i : Int) + 1))); obtain ⟨W4, hW4⟩ : ∃ W4, W4 = W3.setCell ⟨bp, 1, none⟩ (.int .i64 ((i : Int) + 1)) := ⟨_, rfl⟩; rw [<- hW4] at HO3; have HO4 : Hid (Owns w0 W4 (rdP w0 bp fin all v (.ok r) :: kidsP L vv :: blk b8 fobj0 :: ps)) := by
    have h3 := HO3.out; rw [show ((i : Int) + 1) = ((i + 1 : Nat) : Int) by omega] at h3; exact Lib.hid (Owns.asRd (s := .ok r) (i := i + 1) h3 trivial HV.out (by have := HLt.out; omega) (fun ts h => by cases h; exact HDr.out))
   focus
    obtain ⟨hbp, ⟨-, fp1⟩, -, cp1⟩ := bx2 HO2.out.blk; go_wp2_with fail
    rw [<- hW4]; clear hbp fp1 cp1
   clear hW4 HO HO2 HO3 hi9
   try go_at_call 146
   refine (HCh.out (kidsP L vv :: blk b8 fobj0 :: ps) (.ok r) W4 (by have h1 := HPI.out.2; have h2 := HS.out; simp [toks] at h1 h2 ⊢; omega) HO4.out).mono ?_; rintro e W5 ⟨f, kv, s2, rfl, hd, ho⟩; have HPI2 : Hid (PI 6 wOr part s0 ((L ++ [(f, kv)]).map Prod.fst) s2 /\ (toks s2).length <= (toks s0).length /\ (toks s2).length < NT) := by
    refine ⟨by rw [List.map_append]; exact HPI.out.1.step HT.out hd, ?_, ?_⟩
    ·have h1 := HPI.out.2; have h2 := hd.2.1; simp [toks] at h1 h2 ⊢; omega
    ·rw [HNT.out]; have h2 := hd.2.1; simp [toks] at h2 ⊢; omega
   obtain ⟨y2, m2, rfl⟩ := ho.fm.form; obtain ⟨N2, hN2⟩ : ∃ N2, N2 = f.kids.length := ⟨_, rfl⟩; rw [<- hN2] at ho HPI2 ⊢; have HO5 : Hid (Owns w0 (W5.alloc (.cells #[.int .i64 f.op, .string (bs f.name), .int .i64 f.cmp, .int .i64 f.num, .slice y2 N2 m2] 24)) (kidsP L vv :: fmP f (.slice y2 N2 m2) :: rdP w0 bp fin all v s2 :: blk b8 fobj0 :: ps)) := Lib.hid ((ho.alloc _).re [2, 0, 1]); have hLl2 : L.length <= 1000001 := by omega
   clear ho hd hN2 HO4 HPI HV HDr HLt; go_wp2_with (refine wpList_plain rfl fun K hK => wp_append (.tmp 16) (.tmp 19) 22 (by rfl) 24 _ 5 64 Tryz.underlying22 info_fm (by rfl) (by omega) vv L.length _ (by rfl) HO5.out.krow W5.heap.size 1 1 (fcells f (.slice y2 N2 m2)) (by rfl) (by rfl) 24 (by exact new_heap W5 _ _ rfl) (by simp [fcells, Value.oneCell']) (by omega) (by omega) ?_; intro v' w2 hrow hgrow hblk; have HO6 := Lib.hid (HO5.out.kid hrow hgrow hblk); clear hrow hgrow hblk)
   go_roundg (toks s2).length
   case measure => have := HPI2.out.2.2; rw [HNT.out] at this; exact this
   case rel => exact ⟨L ++ [(f, .slice y2 N2 m2)], s2, _, rfl, rfl, by have := HPI2.out.2.2; rw [List.length_append, List.length_singleton]; omega, HO6, Lib.hid ⟨HPI2.out.1, HPI2.out.2.1⟩⟩
end
end Go.Proofs.YtoeknmkephnekaaGreatDoor
namespace Go.Cz.Fo
open Go.Cz.Lx
def xT (t : Tok) : Nat := if t.kind = 4 then symI t.text else 0
def xK (t : Tok) (k : Nat) : Nat := if t.kind = 4 /\ symI t.text < k then symI t.text else 0
theorem xT_le (t : Tok) : xT t <= 6 := by
 unfold xT
 split
 ·exact symI_le _
 ·omega
theorem xK_last (t : Tok) : xK t 7 = xT t := by
 have := symI_le t.text; unfold xK xT; by_cases h : t.kind = 4
 ·rw [if_pos ⟨h, by omega⟩, if_pos h]
 ·rw [if_neg (fun e => h e.1), if_neg h]
theorem xK_one (t : Tok) : xK t 1 = 0 := by
 unfold xK
 split
 ·omega
 ·rfl
theorem sym_iff {s : Bytes} {k : Nat} (h1 : 1 <= k) (h6 : k <= 6) : s = symB (k : Int) ↔ symI s = k := by
 constructor
 ·intro h; have := (sym_back (m := (k : Int)) (by omega) (by omega)).1; rw [<- h] at this; omega
 ·intro h; unfold symI at h; have hk : k = 1 ∨ k = 2 ∨ k = 3 ∨ k = 4 ∨ k = 5 ∨ k = 6 := by omega
  rcases hk with rfl | rfl | rfl | rfl | rfl | rfl
  all_goals
   repeat' split at h
   all_goals first | (rename_i e; rw [e]; rfl) | omega
theorem xK_hit {t : Tok} {k : Nat} (h4 : t.kind = 4) (h : symI t.text = k) : xK t (k + 1) = k := by
 unfold xK; rw [if_pos ⟨h4, by omega⟩, h]
theorem xK_miss {t : Tok} {k : Nat} (h : ¬ (t.kind = 4 /\ symI t.text = k)) : xK t (k + 1) = xK t k := by
 unfold xK; by_cases h4 : t.kind = 4
 ·have : symI t.text ≠ k := fun e => h ⟨h4, e⟩; by_cases hl : symI t.text < k
  ·rw [if_pos ⟨h4, by omega⟩, if_pos ⟨h4, hl⟩]
  ·rw [if_neg (by rintro ⟨-, h⟩; omega), if_neg (by rintro ⟨-, h⟩; omega)]
 ·rw [if_neg (fun e => h4 e.1), if_neg (fun e => h4 e.1)]
theorem stR_eq {fin : Int} {s : PSt} : stB fin s = if xT (nextT s) = 0 then failS (nextS fin s) 5 (nextT s).pos else nextS fin s := by
 unfold stB xT; have h := (symX_eq (nextT s).text).1; by_cases h4 : (nextT s).kind = 4
 ·rw [if_pos h4]; by_cases h0 : symI (nextT s).text = 0
  ·rw [if_pos (.inr (h.2 h0)), if_pos h0]
  ·rw [if_neg (by rintro (e | e) <;> first | (exact e h4; done) | exact h0 (h.1 e)), if_neg h0]
 ·rw [if_pos (.inl h4), if_neg h4, if_pos rfl]
theorem did_any {part : List Tok -> Res} {s : PSt} {f : Fm} {y : Nat × Int} (h : Did part s f (.error y)) (g : Fm) : Did part s g (.error y) := by
 obtain ⟨h1, h2, h3⟩ := h; refine ⟨h1, h2, ?_⟩; cases s with
 | error x => exact h3
 | ok ts =>
  simp only at h3 ⊢; cases hp : part ts with
  | ok z => rw [hp] at h3; exact absurd h3.2 (by simp)
  | error x => rw [hp] at h3; exact h3
theorem st_err {fin : Int} (y : Nat × Int) : stE (nextT (.error y)) (stD fin (.error y)) = .error y := by simp [stE, stD, nextT, nextS, zTok, failS]
theorem stB_err {fin : Int} (y : Nat × Int) : stB fin (.error y) = .error y := by simp [stB, nextT, nextS, zTok, failS]
theorem fail_err (s : PSt) (e : Nat) (a : Int) : ∃ y, failS s e a = .error y := by
 cases s with
 | error x => exact ⟨x, rfl⟩
 | ok ts => exact ⟨_, rfl⟩
section
variable {fin : Int} {n : Nat} {t : Tok} {r : List Tok} {s s1 : PSt}
theorem rest_good (hk : t.kind = 1) (hn : t.text ≠ wNot) (ht : t.text ≠ wTrue) (hf : t.text ≠ wFalse) (h0 : t.text ≠ []) (hK : keyB t.text = false) :
  ∀ (sB : PSt) (m : Tok) (sD sE : PSt), sB = stB fin (.ok r) -> m = nextT sB -> sD = stD fin sB -> sE = stE m sD -> Did (oneF fin (n + 1)) (.ok (t :: r)) (.mk 3 t.text (xT (nextT (.ok r)) : Nat) m.num []) sE := by
 rintro sB m sD sE rfl rfl rfl rfl; have h := one_test (fin := fin) (n := n) (t := t) (r := r) hk hn ht hf h0 hK; by_cases hx : xT (nextT (.ok r)) = 0
 ·obtain ⟨y, hy⟩ : ∃ y, stB fin (.ok r) = .error y := by
   rw [stR_eq, if_pos hx]; exact fail_err _ _ _
  rw [hy, st_err] at h ⊢; exact did_any h _
 ·have e : symX (nextT (.ok r)).text = (xT (nextT (.ok r)) : Nat) := by
   unfold xT at hx ⊢; by_cases h4 : (nextT (.ok r)).kind = 4
   ·rw [if_pos h4] at hx ⊢; exact (symX_eq _).2 hx
   ·rw [if_neg h4] at hx; exact absurd rfl hx
  rw [e] at h; exact h
theorem rest_bad (u : Bytes) (h : ∀ g, Did (oneF fin (n + 1)) s g (failS s1 5 (t.pos : Int))) :
  ∀ (sB : PSt) (m : Tok) (sD sE : PSt), sB = stB fin (failS s1 5 (t.pos : Int)) -> m = nextT sB -> sD = stD fin sB -> sE = stE m sD -> Did (oneF fin (n + 1)) s (.mk 3 u (xT (nextT (failS s1 5 (t.pos : Int))) : Nat) m.num []) sE := by
 rintro sB m sD sE rfl rfl rfl rfl; obtain ⟨y, hy⟩ := fail_err s1 5 (t.pos : Int); rw [hy] at h ⊢; rw [stB_err, st_err]; exact h _
end
end Go.Cz.Fo
namespace Go.Proofs.YtoeknmkephnekaaGreatDoor
open Go.RowKit Go.Cz Go.Cz.Lx Go.Cz.Fo
attribute [local go_sem] bs_size bs_extract bs_append bs_toList
attribute [local irreducible] cList cPlan
theorem sym_cell {W : World} {g k : Nat} (bk : W.heap[g]? = some symObj) (h1 : 1 <= k) (h6 : k <= 6) : W.cell? ⟨g, k, none⟩ = some (.string (bs (symB (k : Int)))) := by
 have hk : k = 1 ∨ k = 2 ∨ k = 3 ∨ k = 4 ∨ k = 5 ∨ k = 6 := by omega
 rcases hk with rfl | rfl | rfl | rfl | rfl | rfl <;> rw [cell_of_heap bk] <;> rfl
section
variable {w0 : World} {bp : Nat} {fin : Int} {all : List Tok} {v : Value}
abbrev f7 (u : Bytes) (x : Int) : Obj := .cells #[.int .i64 3, .string (bs u), .int .i64 x, .int .i64 0, .slice none 0 0] 24 (0, 0)
set_option maxRecDepth 100000 in
set_option maxHeartbeats 8000000 in
theorem rnot_step (n : Nat) (hn : n <= 1000000) (hN9 : all.length <= 1000000) (hNm : NameOk all) (HI : ∀ n', n = n' + 1 -> RPartC w0 bp fin all v 158 (oneF fin (n' + 1)) n') : RPartC w0 bp fin all v 158 (oneF fin (n + 1)) n := by
 intro ps s w hs h; have HIh := Lib.hid HI; have HS := Lib.hid hs; have HNn := Lib.hid hn; have HN := Lib.hid hN9; have HFi := Lib.hid h.rd.1; have HNe : Hid (∀ t r, s = .ok (t :: r) -> t.kind = 1 -> t.text ≠ []) := Lib.hid fun t r e hk => by
  obtain ⟨-, -, i, -, hd, -⟩ := h.rd; have h1 := (drop_cons (hd _ e)).2.1; exact name_some (hNm t (List.mem_of_getElem? h1) hk)
 clear hs HI hN9 hNm; obtain ⟨W1, hW1⟩ : ∃ W1, W1 = w.alloc (.cells #[.int .i64 0, .string ⟨#[]⟩, .int .i64 0, .int .i64 0, .slice none 0 0] 24) := ⟨_, rfl⟩; obtain ⟨b2, hb2⟩ : ∃ b2, b2 = w.heap.size := ⟨_, rfl⟩; have HO : Hid (Owns w0 W1 (rdP w0 bp fin all v s :: blk b2 fobj0 :: ps)) := by
  rw [hW1, hb2]; exact Lib.hid (h.box fobj0).swap
 clear h; go_enter Tryz.func158, Tryz.ntmps158
 go_wp2_with fail
 rw [<- hW1, <- hb2]; clear hW1 hb2
 try go_at_call 163
 refine (rtoken_c (w0 := w0) (bp := bp) (fin := fin) (all := all) (v := v) (blk b2 fobj0 :: ps) s W1 HN.out HO.out).mono ?_; rintro e W2 ⟨rfl, ho⟩; obtain ⟨⟨kd, po, nu, u⟩, ht⟩ : ∃ t, t = nextT s := ⟨_, rfl⟩; obtain ⟨s1, hs1⟩ : ∃ s1, s1 = nextS fin s := ⟨_, rfl⟩; rw [<- ht]; rw [<- hs1] at ho; simp only [tval]; have HT := Lib.hid ht; have HS1 := Lib.hid hs1; obtain ⟨W3, hW3⟩ : ∃ W3, W3 = W2.alloc (.cells #[.int .i64 kd, .int .i64 po, .int .i64 nu, .string (bs u)] 40) := ⟨_, rfl⟩; obtain ⟨b3, hb3⟩ : ∃ b3, b3 = W2.heap.size := ⟨_, rfl⟩; replace HO : Hid (Owns w0 W3 (rdP w0 bp fin all v s1 :: blk b3 (tobj ⟨kd, po, nu, u⟩) :: blk b2 fobj0 :: ps)) := by
  rw [hW3, hb3]; exact Lib.hid (ho.box (tobj ⟨kd, po, nu, u⟩)).swap
 clear ho ht hs1; by_cases hk : kd = 1
 case neg =>
  have hk' : ((kd : Int) == 1) = false := by simp; omega
  have hkn : ((kd : Int) != 1) = true := by simp; omega
  by_cases h4 : kd = 4 /\ u = [40]
  case neg =>
   have HDt := Lib.hid (rest_bad (fin := fin) (n := n) (s := s) (s1 := s1) (t := ⟨kd, po, nu, u⟩) u (fun g => by
    rw [HS1.out]; exact syn_any HT.out HFi.out (fun h => hk h.1) (fun h => h4 h) (.inl hk) g))
   simp only [] at HDt; by_cases h44 : kd = 4
   ·have h44' : ((kd : Int) == 4) = true := by simp; omega
    have hu' : (u == [40]) = false := by simpa using fun e => h4 ⟨h44, e⟩
    clear h4 h44 hk; go_wp2_with fail
    try rw [<- hW3]
    try rw [<- hb3]
    clear hW3 hb3
    focus
     obtain ⟨hbt, ⟨ft0, ft1, ft2, ft3⟩, ct0, ct1, ct2, ct3⟩ := bx4 HO.out.swap.blk; go_wp2_with fail
     clear hbt ft0 ft1 ft2 ft3 ct0 ct1 ct2 ct3
    try go_at_call 125
    refine (rfail_c (w0 := w0) (bp := bp) (fin := fin) (all := all) (v := v) (blk b3 (tobj ⟨kd, po, nu, u⟩) :: blk b2 fobj0 :: ps) s1 5 po (by omega) (by omega) _ HO.out).mono ?_; rintro e Wc ⟨rfl, ho⟩; replace HO := Lib.hid ho; obtain ⟨sR, hsR⟩ : ∃ sR, sR = failS s1 5 po := ⟨_, rfl⟩; rw [<- hsR] at HO HDt; clear ho hsR; obtain ⟨W5, hW5⟩ : ∃ W5, W5 = Wc.alloc (.cells #[.int .i64 3, .string (bs u), .int .i64 0, .int .i64 0, .slice none 0 0] 24) := ⟨_, rfl⟩; obtain ⟨b6, hb6⟩ : ∃ b6, b6 = Wc.heap.size := ⟨_, rfl⟩; have HO5 : Hid (Owns w0 W5 (rdP w0 bp fin all v sR :: blk b6 (f7 u 0) :: blk b3 (tobj ⟨kd, po, nu, u⟩) :: blk b2 fobj0 :: ps)) := by
     rw [hW5, hb6]; exact Lib.hid (HO.out.box (f7 u 0)).swap
    focus
     obtain ⟨hbt, ⟨ft0, ft1, ft2, ft3⟩, ct0, ct1, ct2, ct3⟩ := bx4 HO.out.swap.blk; go_wp2_with fail
     rw [<- hW5, <- hb6]; clear hW5 hb6; clear hbt ft0 ft1 ft2 ft3 ct0 ct1 ct2 ct3
    replace HO := HO5; clear HO5
    try go_at_call 163
    refine (rtoken_c (w0 := w0) (bp := bp) (fin := fin) (all := all) (v := v) (blk b6 (f7 u 0) :: blk b3 (tobj ⟨kd, po, nu, u⟩) :: blk b2 fobj0 :: ps) sR W5 HN.out HO.out).mono ?_; rintro e W6 ⟨rfl, ho⟩; obtain ⟨⟨k2, p2, n2, u2⟩, ht⟩ : ∃ t, t = nextT sR := ⟨_, rfl⟩; obtain ⟨s2, hs2⟩ : ∃ s2, s2 = nextS fin sR := ⟨_, rfl⟩; rw [<- ht]; rw [<- hs2] at ho; simp only [tval]; have HT2 := Lib.hid ht; have HS2 := Lib.hid hs2; have HO3 := Lib.hid (ho.re [2, 0, 1]); obtain ⟨W7, hW7⟩ : ∃ W7, W7 = (((W6.setCell ⟨b3, 0, none⟩ (.int .i64 k2)).setCell ⟨b3, 1, none⟩ (.int .i64 p2)).setCell ⟨b3, 2, none⟩ (.int .i64 n2)).setCell ⟨b3, 3, none⟩ (.string (bs u2)) := ⟨_, rfl⟩; replace HO : Hid (Owns w0 W7 (blk b3 (tobj ⟨k2, p2, n2, u2⟩) :: rdP w0 bp fin all v s2 :: blk b6 (f7 u 0) :: blk b2 fobj0 :: ps)) := by
     rw [hW7]; exact Lib.hid (st4 HO3.out (.int .i64 k2) (.int .i64 p2) (.int .i64 n2) (.string (bs u2)))
    clear ho ht hs2
    focus
     obtain ⟨hbt, ⟨ft0, ft1, ft2, ft3⟩, ct0, ct1, ct2, ct3⟩ := bx4 HO3.out.blk; go_wp2_with fail
     rw [<- hW7]; clear hW7; clear hbt ft0 ft1 ft2 ft3 ct0 ct1 ct2 ct3
    clear HO3; have H0 : Hid (Owns w0 W7 (blk b3 (tobj ⟨k2, p2, n2, u2⟩) :: rdP w0 bp fin all v s2 :: blk b6 (f7 u ((xK ⟨k2, p2, n2, u2⟩ 1 : Nat) : Int)) :: blk b2 fobj0 :: ps)) := by
     rw [xK_one]; exact HO
    go_loopg [6] 6 (fun gk kv wr => ∃ k : Nat, gk = 7 - k /\ 1 <= k /\ k <= 7 /\ kv = .int .i64 (k : Int) /\ Hid (Owns w0 wr (blk b3 (tobj ⟨k2, p2, n2, u2⟩) :: rdP w0 bp fin all v s2 :: blk b6 (f7 u ((xK ⟨k2, p2, n2, u2⟩ k : Nat) : Int)) :: blk b2 fobj0 :: ps)))
    case atStart => exact ⟨1, rfl, by omega, by omega, rfl, H0⟩
    case round =>
     rename_i J1 K1 hJ1 hK1; clear HO H0; obtain ⟨k, rfl, hk1, hk7, rfl, HO⟩ := hrel; go_wp2_with fail
     try go_at_call 119
     refine (comparisons_c wr).mono ?_; rintro e W8 ⟨gs, rfl, hgs, hW8⟩; have hb8 : Below wr.heap.size wr W8 := by rw [hW8]; exact (Below.refl _ _).alloc (Nat.le_refl _) _
     replace HO := Lib.hid (HO.out.below hb8); clear hW8 hgs hb8; by_cases hlt : k < 7
     ·have hk6 : k <= 6 := by omega
      go_wp2_with fail
      refine wp_region_canA [6] (List.range 12) ?_; replace HO := Lib.hid HO.out.drew; generalize hWd : World.drew _ = W9 at HO ⊢; clear hWd; by_cases h24 : k2 = 4
      ·have h24' : ((k2 : Int) == 4) = true := by simp; omega
       have H24 := Lib.hid h24; clear h24
       focus
        obtain ⟨hbt, ⟨ft0, ft1, ft2, ft3⟩, ct0, ct1, ct2, ct3⟩ := bx4 HO.out.blk; iterate 6 (first | (refine cl_doA rfl rfl rfl (fun _ _ => ?_); go_wp2_with fail) | (refine cl_yesA rfl rfl rfl rfl (fun _ _ => ?_); go_wp2_with fail))
        clear hbt ft0 ft1 ft2 ft3 ct0 ct1 ct2 ct3
       refine cl_ycall (i := 6) rfl rfl rfl (by first | rfl | simp [okB, lenV, plainV, Act.eval]) (fun K hK => ?_); go_wp2_with fail
       try go_at_call 119
       refine (comparisons_c W9).mono ?_; rintro e W10 ⟨g2, rfl, hg2, hW10⟩; have hb10 : Below W9.heap.size W9 W10 := by rw [hW10]; exact (Below.refl _ _).alloc (Nat.le_refl _) _
       have bks : W10.heap[g2]? = some symObj := by rw [hW10]; exact new_heap _ _ _ hg2
       have hg2l := lt_of_block bks; have cs := sym_cell bks hk1 hk6; have Hb := Lib.hid hb10; replace HO := Lib.hid (HO.out.below hb10); clear hW10 hg2 hb10 bks; go_wp2_with fail
       refine And.intro Hb.out ?_; clear Hb; by_cases hm : u2 = symB (k : Int)
       ·have hm' : (u2 == symB (k : Int)) = true := by simpa using hm
        have HX : Hid (xK ⟨k2, p2, n2, u2⟩ (k + 1) = k) := Lib.hid (xK_hit H24.out ((sym_iff hk1 hk6).1 hm)); clear hm; iterate 5 (first | (refine cl_doA rfl rfl rfl (fun _ _ => ?_); go_wp2_with fail) | (refine cl_yesA rfl rfl rfl rfl (fun _ _ => ?_); go_wp2_with fail))
        refine cl_nil ?_; have HO6 := Lib.hid (HO.out.re [2, 0, 1]); have HO7 : Hid (Owns w0 (W10.setCell ⟨b6, 2, none⟩ (.int .i64 (k : Int))) (blk b3 (tobj ⟨k2, p2, n2, u2⟩) :: rdP w0 bp fin all v s2 :: blk b6 (f7 u ((xK ⟨k2, p2, n2, u2⟩ (k + 1) : Nat) : Int)) :: blk b2 fobj0 :: ps)) := by
         rw [HX.out]; exact Lib.hid ((HO6.out.store (i := 2) (.int .i64 (k : Int))).re [1, 2, 0])
        focus
         obtain ⟨hbe, ⟨fe0, fe1, fe2, fe3, fe4⟩, ce0, ce1, ce2, ce3, ce4⟩ := bx5 HO6.out.blk; clear HO; go_wp2_with fail
         go_roundg (7 - (k + 1))
         case measure => omega
         case rel => exact ⟨k + 1, rfl, by omega, by omega, by go_num, HO7⟩
       ·have hm' : (u2 == symB (k : Int)) = false := by simpa using hm
        have HX : Hid (xK ⟨k2, p2, n2, u2⟩ (k + 1) = xK ⟨k2, p2, n2, u2⟩ k) := Lib.hid (xK_miss fun h => hm ((sym_iff hk1 hk6).2 h.2)); clear hm; iterate 5 (first | (refine cl_doA rfl rfl rfl (fun _ _ => ?_); go_wp2_with fail) | (refine cl_yesA rfl rfl rfl rfl (fun _ _ => ?_); go_wp2_with fail))
        refine cl_nil ?_; rw [<- HX.out] at HO; go_wp2_with fail
        go_roundg (7 - (k + 1))
        case measure => omega
        case rel => exact ⟨k + 1, rfl, by omega, by omega, by go_num, HO⟩
      ·have h24' : ((k2 : Int) == 4) = false := by simp; omega
       have HX : Hid (xK ⟨k2, p2, n2, u2⟩ (k + 1) = xK ⟨k2, p2, n2, u2⟩ k) := Lib.hid (xK_miss fun h => h24 h.1); clear h24
       focus
        obtain ⟨hbt, ⟨ft0, ft1, ft2, ft3⟩, ct0, ct1, ct2, ct3⟩ := bx4 HO.out.blk; iterate 12 (first | (refine cl_doA rfl rfl rfl (fun _ _ => ?_); go_wp2_with fail) | (refine cl_no rfl rfl rfl ?_; go_simp))
        clear hbt ft0 ft1 ft2 ft3 ct0 ct1 ct2 ct3
       refine cl_nil ?_; rw [<- HX.out] at HO; go_wp2_with fail
       go_roundg (7 - (k + 1))
       case measure => omega
       case rel => exact ⟨k + 1, rfl, by omega, by omega, by go_num, HO⟩
     ·obtain rfl : k = 7 := by omega
      obtain ⟨x, hx⟩ : ∃ x, x = xT ⟨k2, p2, n2, u2⟩ := ⟨_, rfl⟩; rw [xK_last, <- hx] at HO; have hx6 : x <= 6 := by rw [hx]; exact xT_le _
      have HX := Lib.hid hx; rw [HT2.out] at HX; rw [<- HX.out] at HDt; clear hx hJ1 hK1 hlt hk1 hk7; by_cases hx0 : x = 0
      ·have hx0' : ((x : Int) == 0) = true := by simpa using hx0
       have HB0 : Hid (failS s2 5 p2 = stB fin sR) := by
        show _ = _; rw [stR_eq, <- HX.out, if_pos hx0, <- HT2.out, <- HS2.out]
       clear hx0
       focus
        obtain ⟨hbt, ⟨ft0, ft1, ft2, ft3⟩, ct0, ct1, ct2, ct3⟩ := bx4 HO.out.blk; obtain ⟨hbe, ⟨fe0, fe1, fe2, fe3, fe4⟩, ce0, ce1, ce2, ce3, ce4⟩ := bx5 ((HO.out.re [2, 0, 1]).blk); go_wp2_with fail
        clear hbt ft0 ft1 ft2 ft3 ct0 ct1 ct2 ct3; clear hbe fe0 fe1 fe2 fe3 fe4 ce0 ce1 ce2 ce3 ce4
       try go_at_call 125
       refine (rfail_c (w0 := w0) (bp := bp) (fin := fin) (all := all) (v := v) (blk b3 (tobj ⟨k2, p2, n2, u2⟩) :: blk b6 (f7 u (x : Int)) :: blk b2 fobj0 :: ps) s2 5 p2 (by omega) (by omega) _ (HO.out.re [1, 0, 2])).mono ?_; rintro e W11 ⟨rfl, ho⟩; replace HO := Lib.hid ho; obtain ⟨sB, hsB⟩ : ∃ sB, sB = failS s2 5 p2 := ⟨_, rfl⟩; have HB : Hid (sB = stB fin sR) := by show _ = _; rw [hsB]; exact HB0.out
       rw [<- hsB] at HO; clear ho hsB HB0; go_wp2_with fail
       try go_at_call 163
       refine (rtoken_c (w0 := w0) (bp := bp) (fin := fin) (all := all) (v := v) (blk b3 (tobj ⟨k2, p2, n2, u2⟩) :: blk b6 (f7 u x) :: blk b2 fobj0 :: ps) sB _ HN.out HO.out).mono ?_; rintro e W12 ⟨rfl, ho⟩; obtain ⟨⟨k3, p3, n3, u3⟩, ht⟩ : ∃ t, t = nextT sB := ⟨_, rfl⟩; obtain ⟨s4, hs4⟩ : ∃ s4, s4 = nextS fin sB := ⟨_, rfl⟩; rw [<- ht]; rw [<- hs4] at ho; simp only [tval]; have HT3 := Lib.hid ht; have HS4 := Lib.hid hs4; have HO3 := Lib.hid ho.swap; obtain ⟨W13, hW13⟩ : ∃ W13, W13 = (((W12.setCell ⟨b3, 0, none⟩ (.int .i64 k3)).setCell ⟨b3, 1, none⟩ (.int .i64 p3)).setCell ⟨b3, 2, none⟩ (.int .i64 n3)).setCell ⟨b3, 3, none⟩ (.string (bs u3)) := ⟨_, rfl⟩; replace HO : Hid (Owns w0 W13 (rdP w0 bp fin all v s4 :: blk b3 (tobj ⟨k3, p3, n3, u3⟩) :: blk b6 (f7 u x) :: blk b2 fobj0 :: ps)) := by
        rw [hW13]; exact Lib.hid (st4 HO3.out (.int .i64 k3) (.int .i64 p3) (.int .i64 n3) (.string (bs u3))).swap
       clear ho ht hs4; by_cases hk3 : k3 = 2
       ·have hk3' : ((k3 : Int) != 2) = false := by simp; omega
        have HDD : Hid (s4 = stD fin sB) := by
         show _ = _; rw [stD, <- HT3.out, if_neg (by simpa using hk3), <- HS4.out]
        clear hk3; by_cases hn3 : 1000000 < n3
        ·have hn3' : (1000000 : Int) < (n3 : Int) := by omega
         have HD : Hid (Did (oneF fin (n + 1)) s (.mk 3 u x n3 []) (failS s4 10 p3)) := HDt.out sB ⟨k3, p3, n3, u3⟩ s4 (failS s4 10 p3) HB.out HT3.out HDD.out (by rw [stE, if_pos hn3]); clear hn3
         focus
          obtain ⟨hbt, ⟨ft0, ft1, ft2, ft3⟩, ct0, ct1, ct2, ct3⟩ := bx4 HO3.out.blk; go_wp2_with fail
          rw [<- hW13]; clear hW13; clear hbt ft0 ft1 ft2 ft3 ct0 ct1 ct2 ct3
         try go_at_call 125
         refine (rfail_c (w0 := w0) (bp := bp) (fin := fin) (all := all) (v := v) (blk b3 (tobj ⟨k3, p3, n3, u3⟩) :: blk b6 (f7 u x) :: blk b2 fobj0 :: ps) s4 10 p3 (by omega) (by omega) _ HO.out).mono ?_; clear HO; rintro e W14 ⟨rfl, ho⟩; have HO := Lib.hid ho; clear ho; simp only []; obtain ⟨hbt, ⟨ft0, ft1, ft2, ft3⟩, ct0, ct1, ct2, ct3⟩ := bx4 HO.out.swap.blk; obtain ⟨hbe, ⟨fe0, fe1, fe2, fe3, fe4⟩, ce0, ce1, ce2, ce3, ce4⟩ := bx5 ((HO.out.re [2, 0, 1]).blk); obtain ⟨hbz, ⟨fz0, fz1, fz2, fz3, fz4⟩, cz0, cz1, cz2, cz3, cz4⟩ := bx5 ((HO.out.re [3, 0, 1, 2]).blk); have m36 := Owns.ne (HO.out.re [1, 2, 0]); have m36' := m36.symm; have m32 := Owns.ne (HO.out.re [1, 3, 0, 2]); have m32' := m32.symm; have m62 := Owns.ne (HO.out.re [2, 3, 0, 1]); have m62' := m62.symm; repeat (first | go_values | go_skip | go_guarded | go_step | go_upon)
         have h1 := ((HO.out.re [2, 0, 1]).store (i := 3) (.int .i64 n3)).re [3, 1, 2, 0]; have h2 := st5 h1 (.int .i64 3) (.string (bs u)) (.int .i64 x) (.int .i64 n3) (.slice none 0 0); have h3 := (h2.pop.re [1, 2, 0]).pop.pop.leaf 3 u x n3 none 0; exact bodyPost_ret (rnot_res rfl h2.blk.1) (by rfl) (by first | exact ⟨_, _, _, rfl, HD.out, h3⟩ | exact ⟨_, _, rfl, _, HD.out, h3⟩)
        ·have hn3' : ¬ (1000000 : Int) < (n3 : Int) := by omega
         have HD : Hid (Did (oneF fin (n + 1)) s (.mk 3 u x n3 []) s4) := HDt.out sB ⟨k3, p3, n3, u3⟩ s4 s4 HB.out HT3.out HDD.out (by rw [stE, if_neg hn3]); clear hn3; subst hW13; obtain ⟨hbt, ⟨ft0, ft1, ft2, ft3⟩, ct0, ct1, ct2, ct3⟩ := bx4 HO3.out.blk; obtain ⟨hbe, ⟨fe0, fe1, fe2, fe3, fe4⟩, ce0, ce1, ce2, ce3, ce4⟩ := bx5 ((HO3.out.re [2, 0, 1]).blk); obtain ⟨hbz, ⟨fz0, fz1, fz2, fz3, fz4⟩, cz0, cz1, cz2, cz3, cz4⟩ := bx5 ((HO3.out.re [3, 0, 1, 2]).blk); have m36 := Owns.ne (HO3.out.re [0, 2, 1]); have m36' := m36.symm; have m32 := Owns.ne (HO3.out.re [0, 3, 1, 2]); have m32' := m32.symm; have m62 := Owns.ne (HO3.out.re [2, 3, 0, 1]); have m62' := m62.symm; repeat (first | go_values | go_skip | go_guarded | go_step | go_upon)
         have h1 := ((HO.out.re [2, 0, 1]).store (i := 3) (.int .i64 n3)).re [3, 1, 2, 0]; have h2 := st5 h1 (.int .i64 3) (.string (bs u)) (.int .i64 x) (.int .i64 n3) (.slice none 0 0); have h3 := (h2.pop.re [1, 2, 0]).pop.pop.leaf 3 u x n3 none 0; exact bodyPost_ret (rnot_res rfl h2.blk.1) (by rfl) (by first | exact ⟨_, _, _, rfl, HD.out, h3⟩ | exact ⟨_, _, rfl, _, HD.out, h3⟩)
       ·have hk3' : ((k3 : Int) != 2) = true := by simp; omega
        have HDD : Hid (failS s4 5 p3 = stD fin sB) := by
         show _ = _; rw [stD, <- HT3.out, if_pos (by simpa using hk3), <- HS4.out]
        clear hk3
        focus
         obtain ⟨hbt, ⟨ft0, ft1, ft2, ft3⟩, ct0, ct1, ct2, ct3⟩ := bx4 HO3.out.blk; go_wp2_with fail
         rw [<- hW13]; clear hW13; clear hbt ft0 ft1 ft2 ft3 ct0 ct1 ct2 ct3
        try go_at_call 125
        refine (rfail_c (w0 := w0) (bp := bp) (fin := fin) (all := all) (v := v) (blk b3 (tobj ⟨k3, p3, n3, u3⟩) :: blk b6 (f7 u x) :: blk b2 fobj0 :: ps) s4 5 p3 (by omega) (by omega) _ HO.out).mono ?_; clear HO; rintro e W14 ⟨rfl, ho⟩; have HO := Lib.hid ho; clear ho; simp only []; by_cases hn3 : 1000000 < n3
        ·have hn3' : (1000000 : Int) < (n3 : Int) := by omega
         have HD : Hid (Did (oneF fin (n + 1)) s (.mk 3 u x n3 []) (failS (failS s4 5 p3) 10 p3)) := HDt.out sB ⟨k3, p3, n3, u3⟩ _ _ HB.out HT3.out HDD.out (by rw [stE, if_pos hn3]); clear hn3
         focus
          obtain ⟨hbt, ⟨ft0, ft1, ft2, ft3⟩, ct0, ct1, ct2, ct3⟩ := bx4 HO.out.swap.blk; go_wp2_with fail
          clear hbt ft0 ft1 ft2 ft3 ct0 ct1 ct2 ct3
         try go_at_call 125
         refine (rfail_c (w0 := w0) (bp := bp) (fin := fin) (all := all) (v := v) (blk b3 (tobj ⟨k3, p3, n3, u3⟩) :: blk b6 (f7 u x) :: blk b2 fobj0 :: ps) (failS s4 5 p3) 10 p3 (by omega) (by omega) _ HO.out).mono ?_; clear HO; rintro e W14 ⟨rfl, ho⟩; have HO := Lib.hid ho; clear ho; simp only []; obtain ⟨hbt, ⟨ft0, ft1, ft2, ft3⟩, ct0, ct1, ct2, ct3⟩ := bx4 HO.out.swap.blk; obtain ⟨hbe, ⟨fe0, fe1, fe2, fe3, fe4⟩, ce0, ce1, ce2, ce3, ce4⟩ := bx5 ((HO.out.re [2, 0, 1]).blk); obtain ⟨hbz, ⟨fz0, fz1, fz2, fz3, fz4⟩, cz0, cz1, cz2, cz3, cz4⟩ := bx5 ((HO.out.re [3, 0, 1, 2]).blk); have m36 := Owns.ne (HO.out.re [1, 2, 0]); have m36' := m36.symm; have m32 := Owns.ne (HO.out.re [1, 3, 0, 2]); have m32' := m32.symm; have m62 := Owns.ne (HO.out.re [2, 3, 0, 1]); have m62' := m62.symm; repeat (first | go_values | go_skip | go_guarded | go_step | go_upon)
         have h1 := ((HO.out.re [2, 0, 1]).store (i := 3) (.int .i64 n3)).re [3, 1, 2, 0]; have h2 := st5 h1 (.int .i64 3) (.string (bs u)) (.int .i64 x) (.int .i64 n3) (.slice none 0 0); have h3 := (h2.pop.re [1, 2, 0]).pop.pop.leaf 3 u x n3 none 0; exact bodyPost_ret (rnot_res rfl h2.blk.1) (by rfl) (by first | exact ⟨_, _, _, rfl, HD.out, h3⟩ | exact ⟨_, _, rfl, _, HD.out, h3⟩)
        ·have hn3' : ¬ (1000000 : Int) < (n3 : Int) := by omega
         have HD : Hid (Did (oneF fin (n + 1)) s (.mk 3 u x n3 []) (failS s4 5 p3)) := HDt.out sB ⟨k3, p3, n3, u3⟩ _ _ HB.out HT3.out HDD.out (by rw [stE, if_neg hn3]); clear hn3; obtain ⟨hbt, ⟨ft0, ft1, ft2, ft3⟩, ct0, ct1, ct2, ct3⟩ := bx4 HO.out.swap.blk; obtain ⟨hbe, ⟨fe0, fe1, fe2, fe3, fe4⟩, ce0, ce1, ce2, ce3, ce4⟩ := bx5 ((HO.out.re [2, 0, 1]).blk); obtain ⟨hbz, ⟨fz0, fz1, fz2, fz3, fz4⟩, cz0, cz1, cz2, cz3, cz4⟩ := bx5 ((HO.out.re [3, 0, 1, 2]).blk); have m36 := Owns.ne (HO.out.re [1, 2, 0]); have m36' := m36.symm; have m32 := Owns.ne (HO.out.re [1, 3, 0, 2]); have m32' := m32.symm; have m62 := Owns.ne (HO.out.re [2, 3, 0, 1]); have m62' := m62.symm; repeat (first | go_values | go_skip | go_guarded | go_step | go_upon)
         have h1 := ((HO.out.re [2, 0, 1]).store (i := 3) (.int .i64 n3)).re [3, 1, 2, 0]; have h2 := st5 h1 (.int .i64 3) (.string (bs u)) (.int .i64 x) (.int .i64 n3) (.slice none 0 0); have h3 := (h2.pop.re [1, 2, 0]).pop.pop.leaf 3 u x n3 none 0; exact bodyPost_ret (rnot_res rfl h2.blk.1) (by rfl) (by first | exact ⟨_, _, _, rfl, HD.out, h3⟩ | exact ⟨_, _, rfl, _, HD.out, h3⟩)
      ·have hx0' : ((x : Int) == 0) = false := by simpa using hx0
       have HB0 : Hid (s2 = stB fin sR) := by
        show _ = _; rw [stR_eq, <- HX.out, if_neg hx0, <- HS2.out]
       clear hx0
       focus
        obtain ⟨hbe, ⟨fe0, fe1, fe2, fe3, fe4⟩, ce0, ce1, ce2, ce3, ce4⟩ := bx5 ((HO.out.re [2, 0, 1]).blk); go_wp2_with fail
        clear hbe fe0 fe1 fe2 fe3 fe4 ce0 ce1 ce2 ce3 ce4
       replace HO := Lib.hid (HO.out.re [1, 0, 2]); obtain ⟨sB, hsB⟩ : ∃ sB, sB = s2 := ⟨_, rfl⟩; have HB : Hid (sB = stB fin sR) := by show _ = _; rw [hsB]; exact HB0.out
       rw [<- hsB] at HO; clear hsB HB0
       try go_at_call 163
       refine (rtoken_c (w0 := w0) (bp := bp) (fin := fin) (all := all) (v := v) (blk b3 (tobj ⟨k2, p2, n2, u2⟩) :: blk b6 (f7 u x) :: blk b2 fobj0 :: ps) sB _ HN.out HO.out).mono ?_; rintro e W12 ⟨rfl, ho⟩; obtain ⟨⟨k3, p3, n3, u3⟩, ht⟩ : ∃ t, t = nextT sB := ⟨_, rfl⟩; obtain ⟨s4, hs4⟩ : ∃ s4, s4 = nextS fin sB := ⟨_, rfl⟩; rw [<- ht]; rw [<- hs4] at ho; simp only [tval]; have HT3 := Lib.hid ht; have HS4 := Lib.hid hs4; have HO3 := Lib.hid ho.swap; obtain ⟨W13, hW13⟩ : ∃ W13, W13 = (((W12.setCell ⟨b3, 0, none⟩ (.int .i64 k3)).setCell ⟨b3, 1, none⟩ (.int .i64 p3)).setCell ⟨b3, 2, none⟩ (.int .i64 n3)).setCell ⟨b3, 3, none⟩ (.string (bs u3)) := ⟨_, rfl⟩; replace HO : Hid (Owns w0 W13 (rdP w0 bp fin all v s4 :: blk b3 (tobj ⟨k3, p3, n3, u3⟩) :: blk b6 (f7 u x) :: blk b2 fobj0 :: ps)) := by
        rw [hW13]; exact Lib.hid (st4 HO3.out (.int .i64 k3) (.int .i64 p3) (.int .i64 n3) (.string (bs u3))).swap
       clear ho ht hs4; by_cases hk3 : k3 = 2
       ·have hk3' : ((k3 : Int) != 2) = false := by simp; omega
        have HDD : Hid (s4 = stD fin sB) := by
         show _ = _; rw [stD, <- HT3.out, if_neg (by simpa using hk3), <- HS4.out]
        clear hk3; by_cases hn3 : 1000000 < n3
        ·have hn3' : (1000000 : Int) < (n3 : Int) := by omega
         have HD : Hid (Did (oneF fin (n + 1)) s (.mk 3 u x n3 []) (failS s4 10 p3)) := HDt.out sB ⟨k3, p3, n3, u3⟩ s4 (failS s4 10 p3) HB.out HT3.out HDD.out (by rw [stE, if_pos hn3]); clear hn3
         focus
          obtain ⟨hbt, ⟨ft0, ft1, ft2, ft3⟩, ct0, ct1, ct2, ct3⟩ := bx4 HO3.out.blk; go_wp2_with fail
          rw [<- hW13]; clear hW13; clear hbt ft0 ft1 ft2 ft3 ct0 ct1 ct2 ct3
         try go_at_call 125
         refine (rfail_c (w0 := w0) (bp := bp) (fin := fin) (all := all) (v := v) (blk b3 (tobj ⟨k3, p3, n3, u3⟩) :: blk b6 (f7 u x) :: blk b2 fobj0 :: ps) s4 10 p3 (by omega) (by omega) _ HO.out).mono ?_; clear HO; rintro e W14 ⟨rfl, ho⟩; have HO := Lib.hid ho; clear ho; simp only []; obtain ⟨hbt, ⟨ft0, ft1, ft2, ft3⟩, ct0, ct1, ct2, ct3⟩ := bx4 HO.out.swap.blk; obtain ⟨hbe, ⟨fe0, fe1, fe2, fe3, fe4⟩, ce0, ce1, ce2, ce3, ce4⟩ := bx5 ((HO.out.re [2, 0, 1]).blk); obtain ⟨hbz, ⟨fz0, fz1, fz2, fz3, fz4⟩, cz0, cz1, cz2, cz3, cz4⟩ := bx5 ((HO.out.re [3, 0, 1, 2]).blk); have m36 := Owns.ne (HO.out.re [1, 2, 0]); have m36' := m36.symm; have m32 := Owns.ne (HO.out.re [1, 3, 0, 2]); have m32' := m32.symm; have m62 := Owns.ne (HO.out.re [2, 3, 0, 1]); have m62' := m62.symm; repeat (first | go_values | go_skip | go_guarded | go_step | go_upon)
         have h1 := ((HO.out.re [2, 0, 1]).store (i := 3) (.int .i64 n3)).re [3, 1, 2, 0]; have h2 := st5 h1 (.int .i64 3) (.string (bs u)) (.int .i64 x) (.int .i64 n3) (.slice none 0 0); have h3 := (h2.pop.re [1, 2, 0]).pop.pop.leaf 3 u x n3 none 0; exact bodyPost_ret (rnot_res rfl h2.blk.1) (by rfl) (by first | exact ⟨_, _, _, rfl, HD.out, h3⟩ | exact ⟨_, _, rfl, _, HD.out, h3⟩)
        ·have hn3' : ¬ (1000000 : Int) < (n3 : Int) := by omega
         have HD : Hid (Did (oneF fin (n + 1)) s (.mk 3 u x n3 []) s4) := HDt.out sB ⟨k3, p3, n3, u3⟩ s4 s4 HB.out HT3.out HDD.out (by rw [stE, if_neg hn3]); clear hn3; subst hW13; obtain ⟨hbt, ⟨ft0, ft1, ft2, ft3⟩, ct0, ct1, ct2, ct3⟩ := bx4 HO3.out.blk; obtain ⟨hbe, ⟨fe0, fe1, fe2, fe3, fe4⟩, ce0, ce1, ce2, ce3, ce4⟩ := bx5 ((HO3.out.re [2, 0, 1]).blk); obtain ⟨hbz, ⟨fz0, fz1, fz2, fz3, fz4⟩, cz0, cz1, cz2, cz3, cz4⟩ := bx5 ((HO3.out.re [3, 0, 1, 2]).blk); have m36 := Owns.ne (HO3.out.re [0, 2, 1]); have m36' := m36.symm; have m32 := Owns.ne (HO3.out.re [0, 3, 1, 2]); have m32' := m32.symm; have m62 := Owns.ne (HO3.out.re [2, 3, 0, 1]); have m62' := m62.symm; repeat (first | go_values | go_skip | go_guarded | go_step | go_upon)
         have h1 := ((HO.out.re [2, 0, 1]).store (i := 3) (.int .i64 n3)).re [3, 1, 2, 0]; have h2 := st5 h1 (.int .i64 3) (.string (bs u)) (.int .i64 x) (.int .i64 n3) (.slice none 0 0); have h3 := (h2.pop.re [1, 2, 0]).pop.pop.leaf 3 u x n3 none 0; exact bodyPost_ret (rnot_res rfl h2.blk.1) (by rfl) (by first | exact ⟨_, _, _, rfl, HD.out, h3⟩ | exact ⟨_, _, rfl, _, HD.out, h3⟩)
       ·have hk3' : ((k3 : Int) != 2) = true := by simp; omega
        have HDD : Hid (failS s4 5 p3 = stD fin sB) := by
         show _ = _; rw [stD, <- HT3.out, if_pos (by simpa using hk3), <- HS4.out]
        clear hk3
        focus
         obtain ⟨hbt, ⟨ft0, ft1, ft2, ft3⟩, ct0, ct1, ct2, ct3⟩ := bx4 HO3.out.blk; go_wp2_with fail
         rw [<- hW13]; clear hW13; clear hbt ft0 ft1 ft2 ft3 ct0 ct1 ct2 ct3
        try go_at_call 125
        refine (rfail_c (w0 := w0) (bp := bp) (fin := fin) (all := all) (v := v) (blk b3 (tobj ⟨k3, p3, n3, u3⟩) :: blk b6 (f7 u x) :: blk b2 fobj0 :: ps) s4 5 p3 (by omega) (by omega) _ HO.out).mono ?_; clear HO; rintro e W14 ⟨rfl, ho⟩; have HO := Lib.hid ho; clear ho; simp only []; by_cases hn3 : 1000000 < n3
        ·have hn3' : (1000000 : Int) < (n3 : Int) := by omega
         have HD : Hid (Did (oneF fin (n + 1)) s (.mk 3 u x n3 []) (failS (failS s4 5 p3) 10 p3)) := HDt.out sB ⟨k3, p3, n3, u3⟩ _ _ HB.out HT3.out HDD.out (by rw [stE, if_pos hn3]); clear hn3
         focus
          obtain ⟨hbt, ⟨ft0, ft1, ft2, ft3⟩, ct0, ct1, ct2, ct3⟩ := bx4 HO.out.swap.blk; go_wp2_with fail
          clear hbt ft0 ft1 ft2 ft3 ct0 ct1 ct2 ct3
         try go_at_call 125
         refine (rfail_c (w0 := w0) (bp := bp) (fin := fin) (all := all) (v := v) (blk b3 (tobj ⟨k3, p3, n3, u3⟩) :: blk b6 (f7 u x) :: blk b2 fobj0 :: ps) (failS s4 5 p3) 10 p3 (by omega) (by omega) _ HO.out).mono ?_; clear HO; rintro e W14 ⟨rfl, ho⟩; have HO := Lib.hid ho; clear ho; simp only []; obtain ⟨hbt, ⟨ft0, ft1, ft2, ft3⟩, ct0, ct1, ct2, ct3⟩ := bx4 HO.out.swap.blk; obtain ⟨hbe, ⟨fe0, fe1, fe2, fe3, fe4⟩, ce0, ce1, ce2, ce3, ce4⟩ := bx5 ((HO.out.re [2, 0, 1]).blk); obtain ⟨hbz, ⟨fz0, fz1, fz2, fz3, fz4⟩, cz0, cz1, cz2, cz3, cz4⟩ := bx5 ((HO.out.re [3, 0, 1, 2]).blk); have m36 := Owns.ne (HO.out.re [1, 2, 0]); have m36' := m36.symm; have m32 := Owns.ne (HO.out.re [1, 3, 0, 2]); have m32' := m32.symm; have m62 := Owns.ne (HO.out.re [2, 3, 0, 1]); have m62' := m62.symm; repeat (first | go_values | go_skip | go_guarded | go_step | go_upon)
         have h1 := ((HO.out.re [2, 0, 1]).store (i := 3) (.int .i64 n3)).re [3, 1, 2, 0]; have h2 := st5 h1 (.int .i64 3) (.string (bs u)) (.int .i64 x) (.int .i64 n3) (.slice none 0 0); have h3 := (h2.pop.re [1, 2, 0]).pop.pop.leaf 3 u x n3 none 0; exact bodyPost_ret (rnot_res rfl h2.blk.1) (by rfl) (by first | exact ⟨_, _, _, rfl, HD.out, h3⟩ | exact ⟨_, _, rfl, _, HD.out, h3⟩)
        ·have hn3' : ¬ (1000000 : Int) < (n3 : Int) := by omega
         have HD : Hid (Did (oneF fin (n + 1)) s (.mk 3 u x n3 []) (failS s4 5 p3)) := HDt.out sB ⟨k3, p3, n3, u3⟩ _ _ HB.out HT3.out HDD.out (by rw [stE, if_neg hn3]); clear hn3; obtain ⟨hbt, ⟨ft0, ft1, ft2, ft3⟩, ct0, ct1, ct2, ct3⟩ := bx4 HO.out.swap.blk; obtain ⟨hbe, ⟨fe0, fe1, fe2, fe3, fe4⟩, ce0, ce1, ce2, ce3, ce4⟩ := bx5 ((HO.out.re [2, 0, 1]).blk); obtain ⟨hbz, ⟨fz0, fz1, fz2, fz3, fz4⟩, cz0, cz1, cz2, cz3, cz4⟩ := bx5 ((HO.out.re [3, 0, 1, 2]).blk); have m36 := Owns.ne (HO.out.re [1, 2, 0]); have m36' := m36.symm; have m32 := Owns.ne (HO.out.re [1, 3, 0, 2]); have m32' := m32.symm; have m62 := Owns.ne (HO.out.re [2, 3, 0, 1]); have m62' := m62.symm; repeat (first | go_values | go_skip | go_guarded | go_step | go_upon)
         have h1 := ((HO.out.re [2, 0, 1]).store (i := 3) (.int .i64 n3)).re [3, 1, 2, 0]; have h2 := st5 h1 (.int .i64 3) (.string (bs u)) (.int .i64 x) (.int .i64 n3) (.slice none 0 0); have h3 := (h2.pop.re [1, 2, 0]).pop.pop.leaf 3 u x n3 none 0; exact bodyPost_ret (rnot_res rfl h2.blk.1) (by rfl) (by first | exact ⟨_, _, _, rfl, HD.out, h3⟩ | exact ⟨_, _, rfl, _, HD.out, h3⟩)
   ·have h44' : ((kd : Int) == 4) = false := by simp; omega
    clear h4 h44 hk; go_wp2_with fail
    try rw [<- hW3]
    try rw [<- hb3]
    clear hW3 hb3
    focus
     obtain ⟨hbt, ⟨ft0, ft1, ft2, ft3⟩, ct0, ct1, ct2, ct3⟩ := bx4 HO.out.swap.blk; go_wp2_with fail
     clear hbt ft0 ft1 ft2 ft3 ct0 ct1 ct2 ct3
    try go_at_call 125
    refine (rfail_c (w0 := w0) (bp := bp) (fin := fin) (all := all) (v := v) (blk b3 (tobj ⟨kd, po, nu, u⟩) :: blk b2 fobj0 :: ps) s1 5 po (by omega) (by omega) _ HO.out).mono ?_; rintro e Wc ⟨rfl, ho⟩; replace HO := Lib.hid ho; obtain ⟨sR, hsR⟩ : ∃ sR, sR = failS s1 5 po := ⟨_, rfl⟩; rw [<- hsR] at HO HDt; clear ho hsR; obtain ⟨W5, hW5⟩ : ∃ W5, W5 = Wc.alloc (.cells #[.int .i64 3, .string (bs u), .int .i64 0, .int .i64 0, .slice none 0 0] 24) := ⟨_, rfl⟩; obtain ⟨b6, hb6⟩ : ∃ b6, b6 = Wc.heap.size := ⟨_, rfl⟩; have HO5 : Hid (Owns w0 W5 (rdP w0 bp fin all v sR :: blk b6 (f7 u 0) :: blk b3 (tobj ⟨kd, po, nu, u⟩) :: blk b2 fobj0 :: ps)) := by
     rw [hW5, hb6]; exact Lib.hid (HO.out.box (f7 u 0)).swap
    focus
     obtain ⟨hbt, ⟨ft0, ft1, ft2, ft3⟩, ct0, ct1, ct2, ct3⟩ := bx4 HO.out.swap.blk; go_wp2_with fail
     rw [<- hW5, <- hb6]; clear hW5 hb6; clear hbt ft0 ft1 ft2 ft3 ct0 ct1 ct2 ct3
    replace HO := HO5; clear HO5
    try go_at_call 163
    refine (rtoken_c (w0 := w0) (bp := bp) (fin := fin) (all := all) (v := v) (blk b6 (f7 u 0) :: blk b3 (tobj ⟨kd, po, nu, u⟩) :: blk b2 fobj0 :: ps) sR W5 HN.out HO.out).mono ?_; rintro e W6 ⟨rfl, ho⟩; obtain ⟨⟨k2, p2, n2, u2⟩, ht⟩ : ∃ t, t = nextT sR := ⟨_, rfl⟩; obtain ⟨s2, hs2⟩ : ∃ s2, s2 = nextS fin sR := ⟨_, rfl⟩; rw [<- ht]; rw [<- hs2] at ho; simp only [tval]; have HT2 := Lib.hid ht; have HS2 := Lib.hid hs2; have HO3 := Lib.hid (ho.re [2, 0, 1]); obtain ⟨W7, hW7⟩ : ∃ W7, W7 = (((W6.setCell ⟨b3, 0, none⟩ (.int .i64 k2)).setCell ⟨b3, 1, none⟩ (.int .i64 p2)).setCell ⟨b3, 2, none⟩ (.int .i64 n2)).setCell ⟨b3, 3, none⟩ (.string (bs u2)) := ⟨_, rfl⟩; replace HO : Hid (Owns w0 W7 (blk b3 (tobj ⟨k2, p2, n2, u2⟩) :: rdP w0 bp fin all v s2 :: blk b6 (f7 u 0) :: blk b2 fobj0 :: ps)) := by
     rw [hW7]; exact Lib.hid (st4 HO3.out (.int .i64 k2) (.int .i64 p2) (.int .i64 n2) (.string (bs u2)))
    clear ho ht hs2
    focus
     obtain ⟨hbt, ⟨ft0, ft1, ft2, ft3⟩, ct0, ct1, ct2, ct3⟩ := bx4 HO3.out.blk; go_wp2_with fail
     rw [<- hW7]; clear hW7; clear hbt ft0 ft1 ft2 ft3 ct0 ct1 ct2 ct3
    clear HO3; have H0 : Hid (Owns w0 W7 (blk b3 (tobj ⟨k2, p2, n2, u2⟩) :: rdP w0 bp fin all v s2 :: blk b6 (f7 u ((xK ⟨k2, p2, n2, u2⟩ 1 : Nat) : Int)) :: blk b2 fobj0 :: ps)) := by
     rw [xK_one]; exact HO
    go_loopg [6] 6 (fun gk kv wr => ∃ k : Nat, gk = 7 - k /\ 1 <= k /\ k <= 7 /\ kv = .int .i64 (k : Int) /\ Hid (Owns w0 wr (blk b3 (tobj ⟨k2, p2, n2, u2⟩) :: rdP w0 bp fin all v s2 :: blk b6 (f7 u ((xK ⟨k2, p2, n2, u2⟩ k : Nat) : Int)) :: blk b2 fobj0 :: ps)))
    case atStart => exact ⟨1, rfl, by omega, by omega, rfl, H0⟩
    case round =>
     rename_i J1 K1 hJ1 hK1; clear HO H0; obtain ⟨k, rfl, hk1, hk7, rfl, HO⟩ := hrel; go_wp2_with fail
     try go_at_call 119
     refine (comparisons_c wr).mono ?_; rintro e W8 ⟨gs, rfl, hgs, hW8⟩; have hb8 : Below wr.heap.size wr W8 := by rw [hW8]; exact (Below.refl _ _).alloc (Nat.le_refl _) _
     replace HO := Lib.hid (HO.out.below hb8); clear hW8 hgs hb8; by_cases hlt : k < 7
     ·have hk6 : k <= 6 := by omega
      go_wp2_with fail
      refine wp_region_canA [6] (List.range 12) ?_; replace HO := Lib.hid HO.out.drew; generalize hWd : World.drew _ = W9 at HO ⊢; clear hWd; by_cases h24 : k2 = 4
      ·have h24' : ((k2 : Int) == 4) = true := by simp; omega
       have H24 := Lib.hid h24; clear h24
       focus
        obtain ⟨hbt, ⟨ft0, ft1, ft2, ft3⟩, ct0, ct1, ct2, ct3⟩ := bx4 HO.out.blk; iterate 6 (first | (refine cl_doA rfl rfl rfl (fun _ _ => ?_); go_wp2_with fail) | (refine cl_yesA rfl rfl rfl rfl (fun _ _ => ?_); go_wp2_with fail))
        clear hbt ft0 ft1 ft2 ft3 ct0 ct1 ct2 ct3
       refine cl_ycall (i := 6) rfl rfl rfl (by first | rfl | simp [okB, lenV, plainV, Act.eval]) (fun K hK => ?_); go_wp2_with fail
       try go_at_call 119
       refine (comparisons_c W9).mono ?_; rintro e W10 ⟨g2, rfl, hg2, hW10⟩; have hb10 : Below W9.heap.size W9 W10 := by rw [hW10]; exact (Below.refl _ _).alloc (Nat.le_refl _) _
       have bks : W10.heap[g2]? = some symObj := by rw [hW10]; exact new_heap _ _ _ hg2
       have hg2l := lt_of_block bks; have cs := sym_cell bks hk1 hk6; have Hb := Lib.hid hb10; replace HO := Lib.hid (HO.out.below hb10); clear hW10 hg2 hb10 bks; go_wp2_with fail
       refine And.intro Hb.out ?_; clear Hb; by_cases hm : u2 = symB (k : Int)
       ·have hm' : (u2 == symB (k : Int)) = true := by simpa using hm
        have HX : Hid (xK ⟨k2, p2, n2, u2⟩ (k + 1) = k) := Lib.hid (xK_hit H24.out ((sym_iff hk1 hk6).1 hm)); clear hm; iterate 5 (first | (refine cl_doA rfl rfl rfl (fun _ _ => ?_); go_wp2_with fail) | (refine cl_yesA rfl rfl rfl rfl (fun _ _ => ?_); go_wp2_with fail))
        refine cl_nil ?_; have HO6 := Lib.hid (HO.out.re [2, 0, 1]); have HO7 : Hid (Owns w0 (W10.setCell ⟨b6, 2, none⟩ (.int .i64 (k : Int))) (blk b3 (tobj ⟨k2, p2, n2, u2⟩) :: rdP w0 bp fin all v s2 :: blk b6 (f7 u ((xK ⟨k2, p2, n2, u2⟩ (k + 1) : Nat) : Int)) :: blk b2 fobj0 :: ps)) := by
         rw [HX.out]; exact Lib.hid ((HO6.out.store (i := 2) (.int .i64 (k : Int))).re [1, 2, 0])
        focus
         obtain ⟨hbe, ⟨fe0, fe1, fe2, fe3, fe4⟩, ce0, ce1, ce2, ce3, ce4⟩ := bx5 HO6.out.blk; clear HO; go_wp2_with fail
         go_roundg (7 - (k + 1))
         case measure => omega
         case rel => exact ⟨k + 1, rfl, by omega, by omega, by go_num, HO7⟩
       ·have hm' : (u2 == symB (k : Int)) = false := by simpa using hm
        have HX : Hid (xK ⟨k2, p2, n2, u2⟩ (k + 1) = xK ⟨k2, p2, n2, u2⟩ k) := Lib.hid (xK_miss fun h => hm ((sym_iff hk1 hk6).2 h.2)); clear hm; iterate 5 (first | (refine cl_doA rfl rfl rfl (fun _ _ => ?_); go_wp2_with fail) | (refine cl_yesA rfl rfl rfl rfl (fun _ _ => ?_); go_wp2_with fail))
        refine cl_nil ?_; rw [<- HX.out] at HO; go_wp2_with fail
        go_roundg (7 - (k + 1))
        case measure => omega
        case rel => exact ⟨k + 1, rfl, by omega, by omega, by go_num, HO⟩
      ·have h24' : ((k2 : Int) == 4) = false := by simp; omega
       have HX : Hid (xK ⟨k2, p2, n2, u2⟩ (k + 1) = xK ⟨k2, p2, n2, u2⟩ k) := Lib.hid (xK_miss fun h => h24 h.1); clear h24
       focus
        obtain ⟨hbt, ⟨ft0, ft1, ft2, ft3⟩, ct0, ct1, ct2, ct3⟩ := bx4 HO.out.blk; iterate 12 (first | (refine cl_doA rfl rfl rfl (fun _ _ => ?_); go_wp2_with fail) | (refine cl_no rfl rfl rfl ?_; go_simp))
        clear hbt ft0 ft1 ft2 ft3 ct0 ct1 ct2 ct3
       refine cl_nil ?_; rw [<- HX.out] at HO; go_wp2_with fail
       go_roundg (7 - (k + 1))
       case measure => omega
       case rel => exact ⟨k + 1, rfl, by omega, by omega, by go_num, HO⟩
     ·obtain rfl : k = 7 := by omega
      obtain ⟨x, hx⟩ : ∃ x, x = xT ⟨k2, p2, n2, u2⟩ := ⟨_, rfl⟩; rw [xK_last, <- hx] at HO; have hx6 : x <= 6 := by rw [hx]; exact xT_le _
      have HX := Lib.hid hx; rw [HT2.out] at HX; rw [<- HX.out] at HDt; clear hx hJ1 hK1 hlt hk1 hk7; by_cases hx0 : x = 0
      ·have hx0' : ((x : Int) == 0) = true := by simpa using hx0
       have HB0 : Hid (failS s2 5 p2 = stB fin sR) := by
        show _ = _; rw [stR_eq, <- HX.out, if_pos hx0, <- HT2.out, <- HS2.out]
       clear hx0
       focus
        obtain ⟨hbt, ⟨ft0, ft1, ft2, ft3⟩, ct0, ct1, ct2, ct3⟩ := bx4 HO.out.blk; obtain ⟨hbe, ⟨fe0, fe1, fe2, fe3, fe4⟩, ce0, ce1, ce2, ce3, ce4⟩ := bx5 ((HO.out.re [2, 0, 1]).blk); go_wp2_with fail
        clear hbt ft0 ft1 ft2 ft3 ct0 ct1 ct2 ct3; clear hbe fe0 fe1 fe2 fe3 fe4 ce0 ce1 ce2 ce3 ce4
       try go_at_call 125
       refine (rfail_c (w0 := w0) (bp := bp) (fin := fin) (all := all) (v := v) (blk b3 (tobj ⟨k2, p2, n2, u2⟩) :: blk b6 (f7 u (x : Int)) :: blk b2 fobj0 :: ps) s2 5 p2 (by omega) (by omega) _ (HO.out.re [1, 0, 2])).mono ?_; rintro e W11 ⟨rfl, ho⟩; replace HO := Lib.hid ho; obtain ⟨sB, hsB⟩ : ∃ sB, sB = failS s2 5 p2 := ⟨_, rfl⟩; have HB : Hid (sB = stB fin sR) := by show _ = _; rw [hsB]; exact HB0.out
       rw [<- hsB] at HO; clear ho hsB HB0; go_wp2_with fail
       try go_at_call 163
       refine (rtoken_c (w0 := w0) (bp := bp) (fin := fin) (all := all) (v := v) (blk b3 (tobj ⟨k2, p2, n2, u2⟩) :: blk b6 (f7 u x) :: blk b2 fobj0 :: ps) sB _ HN.out HO.out).mono ?_; rintro e W12 ⟨rfl, ho⟩; obtain ⟨⟨k3, p3, n3, u3⟩, ht⟩ : ∃ t, t = nextT sB := ⟨_, rfl⟩; obtain ⟨s4, hs4⟩ : ∃ s4, s4 = nextS fin sB := ⟨_, rfl⟩; rw [<- ht]; rw [<- hs4] at ho; simp only [tval]; have HT3 := Lib.hid ht; have HS4 := Lib.hid hs4; have HO3 := Lib.hid ho.swap; obtain ⟨W13, hW13⟩ : ∃ W13, W13 = (((W12.setCell ⟨b3, 0, none⟩ (.int .i64 k3)).setCell ⟨b3, 1, none⟩ (.int .i64 p3)).setCell ⟨b3, 2, none⟩ (.int .i64 n3)).setCell ⟨b3, 3, none⟩ (.string (bs u3)) := ⟨_, rfl⟩; replace HO : Hid (Owns w0 W13 (rdP w0 bp fin all v s4 :: blk b3 (tobj ⟨k3, p3, n3, u3⟩) :: blk b6 (f7 u x) :: blk b2 fobj0 :: ps)) := by
        rw [hW13]; exact Lib.hid (st4 HO3.out (.int .i64 k3) (.int .i64 p3) (.int .i64 n3) (.string (bs u3))).swap
       clear ho ht hs4; by_cases hk3 : k3 = 2
       ·have hk3' : ((k3 : Int) != 2) = false := by simp; omega
        have HDD : Hid (s4 = stD fin sB) := by
         show _ = _; rw [stD, <- HT3.out, if_neg (by simpa using hk3), <- HS4.out]
        clear hk3; by_cases hn3 : 1000000 < n3
        ·have hn3' : (1000000 : Int) < (n3 : Int) := by omega
         have HD : Hid (Did (oneF fin (n + 1)) s (.mk 3 u x n3 []) (failS s4 10 p3)) := HDt.out sB ⟨k3, p3, n3, u3⟩ s4 (failS s4 10 p3) HB.out HT3.out HDD.out (by rw [stE, if_pos hn3]); clear hn3
         focus
          obtain ⟨hbt, ⟨ft0, ft1, ft2, ft3⟩, ct0, ct1, ct2, ct3⟩ := bx4 HO3.out.blk; go_wp2_with fail
          rw [<- hW13]; clear hW13; clear hbt ft0 ft1 ft2 ft3 ct0 ct1 ct2 ct3
         try go_at_call 125
         refine (rfail_c (w0 := w0) (bp := bp) (fin := fin) (all := all) (v := v) (blk b3 (tobj ⟨k3, p3, n3, u3⟩) :: blk b6 (f7 u x) :: blk b2 fobj0 :: ps) s4 10 p3 (by omega) (by omega) _ HO.out).mono ?_; clear HO; rintro e W14 ⟨rfl, ho⟩; have HO := Lib.hid ho; clear ho; simp only []; obtain ⟨hbt, ⟨ft0, ft1, ft2, ft3⟩, ct0, ct1, ct2, ct3⟩ := bx4 HO.out.swap.blk; obtain ⟨hbe, ⟨fe0, fe1, fe2, fe3, fe4⟩, ce0, ce1, ce2, ce3, ce4⟩ := bx5 ((HO.out.re [2, 0, 1]).blk); obtain ⟨hbz, ⟨fz0, fz1, fz2, fz3, fz4⟩, cz0, cz1, cz2, cz3, cz4⟩ := bx5 ((HO.out.re [3, 0, 1, 2]).blk); have m36 := Owns.ne (HO.out.re [1, 2, 0]); have m36' := m36.symm; have m32 := Owns.ne (HO.out.re [1, 3, 0, 2]); have m32' := m32.symm; have m62 := Owns.ne (HO.out.re [2, 3, 0, 1]); have m62' := m62.symm; repeat (first | go_values | go_skip | go_guarded | go_step | go_upon)
         have h1 := ((HO.out.re [2, 0, 1]).store (i := 3) (.int .i64 n3)).re [3, 1, 2, 0]; have h2 := st5 h1 (.int .i64 3) (.string (bs u)) (.int .i64 x) (.int .i64 n3) (.slice none 0 0); have h3 := (h2.pop.re [1, 2, 0]).pop.pop.leaf 3 u x n3 none 0; exact bodyPost_ret (rnot_res rfl h2.blk.1) (by rfl) (by first | exact ⟨_, _, _, rfl, HD.out, h3⟩ | exact ⟨_, _, rfl, _, HD.out, h3⟩)
        ·have hn3' : ¬ (1000000 : Int) < (n3 : Int) := by omega
         have HD : Hid (Did (oneF fin (n + 1)) s (.mk 3 u x n3 []) s4) := HDt.out sB ⟨k3, p3, n3, u3⟩ s4 s4 HB.out HT3.out HDD.out (by rw [stE, if_neg hn3]); clear hn3; subst hW13; obtain ⟨hbt, ⟨ft0, ft1, ft2, ft3⟩, ct0, ct1, ct2, ct3⟩ := bx4 HO3.out.blk; obtain ⟨hbe, ⟨fe0, fe1, fe2, fe3, fe4⟩, ce0, ce1, ce2, ce3, ce4⟩ := bx5 ((HO3.out.re [2, 0, 1]).blk); obtain ⟨hbz, ⟨fz0, fz1, fz2, fz3, fz4⟩, cz0, cz1, cz2, cz3, cz4⟩ := bx5 ((HO3.out.re [3, 0, 1, 2]).blk); have m36 := Owns.ne (HO3.out.re [0, 2, 1]); have m36' := m36.symm; have m32 := Owns.ne (HO3.out.re [0, 3, 1, 2]); have m32' := m32.symm; have m62 := Owns.ne (HO3.out.re [2, 3, 0, 1]); have m62' := m62.symm; repeat (first | go_values | go_skip | go_guarded | go_step | go_upon)
         have h1 := ((HO.out.re [2, 0, 1]).store (i := 3) (.int .i64 n3)).re [3, 1, 2, 0]; have h2 := st5 h1 (.int .i64 3) (.string (bs u)) (.int .i64 x) (.int .i64 n3) (.slice none 0 0); have h3 := (h2.pop.re [1, 2, 0]).pop.pop.leaf 3 u x n3 none 0; exact bodyPost_ret (rnot_res rfl h2.blk.1) (by rfl) (by first | exact ⟨_, _, _, rfl, HD.out, h3⟩ | exact ⟨_, _, rfl, _, HD.out, h3⟩)
       ·have hk3' : ((k3 : Int) != 2) = true := by simp; omega
        have HDD : Hid (failS s4 5 p3 = stD fin sB) := by
         show _ = _; rw [stD, <- HT3.out, if_pos (by simpa using hk3), <- HS4.out]
        clear hk3
        focus
         obtain ⟨hbt, ⟨ft0, ft1, ft2, ft3⟩, ct0, ct1, ct2, ct3⟩ := bx4 HO3.out.blk; go_wp2_with fail
         rw [<- hW13]; clear hW13; clear hbt ft0 ft1 ft2 ft3 ct0 ct1 ct2 ct3
        try go_at_call 125
        refine (rfail_c (w0 := w0) (bp := bp) (fin := fin) (all := all) (v := v) (blk b3 (tobj ⟨k3, p3, n3, u3⟩) :: blk b6 (f7 u x) :: blk b2 fobj0 :: ps) s4 5 p3 (by omega) (by omega) _ HO.out).mono ?_; clear HO; rintro e W14 ⟨rfl, ho⟩; have HO := Lib.hid ho; clear ho; simp only []; by_cases hn3 : 1000000 < n3
        ·have hn3' : (1000000 : Int) < (n3 : Int) := by omega
         have HD : Hid (Did (oneF fin (n + 1)) s (.mk 3 u x n3 []) (failS (failS s4 5 p3) 10 p3)) := HDt.out sB ⟨k3, p3, n3, u3⟩ _ _ HB.out HT3.out HDD.out (by rw [stE, if_pos hn3]); clear hn3
         focus
          obtain ⟨hbt, ⟨ft0, ft1, ft2, ft3⟩, ct0, ct1, ct2, ct3⟩ := bx4 HO.out.swap.blk; go_wp2_with fail
          clear hbt ft0 ft1 ft2 ft3 ct0 ct1 ct2 ct3
         try go_at_call 125
         refine (rfail_c (w0 := w0) (bp := bp) (fin := fin) (all := all) (v := v) (blk b3 (tobj ⟨k3, p3, n3, u3⟩) :: blk b6 (f7 u x) :: blk b2 fobj0 :: ps) (failS s4 5 p3) 10 p3 (by omega) (by omega) _ HO.out).mono ?_; clear HO; rintro e W14 ⟨rfl, ho⟩; have HO := Lib.hid ho; clear ho; simp only []; obtain ⟨hbt, ⟨ft0, ft1, ft2, ft3⟩, ct0, ct1, ct2, ct3⟩ := bx4 HO.out.swap.blk; obtain ⟨hbe, ⟨fe0, fe1, fe2, fe3, fe4⟩, ce0, ce1, ce2, ce3, ce4⟩ := bx5 ((HO.out.re [2, 0, 1]).blk); obtain ⟨hbz, ⟨fz0, fz1, fz2, fz3, fz4⟩, cz0, cz1, cz2, cz3, cz4⟩ := bx5 ((HO.out.re [3, 0, 1, 2]).blk); have m36 := Owns.ne (HO.out.re [1, 2, 0]); have m36' := m36.symm; have m32 := Owns.ne (HO.out.re [1, 3, 0, 2]); have m32' := m32.symm; have m62 := Owns.ne (HO.out.re [2, 3, 0, 1]); have m62' := m62.symm; repeat (first | go_values | go_skip | go_guarded | go_step | go_upon)
         have h1 := ((HO.out.re [2, 0, 1]).store (i := 3) (.int .i64 n3)).re [3, 1, 2, 0]; have h2 := st5 h1 (.int .i64 3) (.string (bs u)) (.int .i64 x) (.int .i64 n3) (.slice none 0 0); have h3 := (h2.pop.re [1, 2, 0]).pop.pop.leaf 3 u x n3 none 0; exact bodyPost_ret (rnot_res rfl h2.blk.1) (by rfl) (by first | exact ⟨_, _, _, rfl, HD.out, h3⟩ | exact ⟨_, _, rfl, _, HD.out, h3⟩)
        ·have hn3' : ¬ (1000000 : Int) < (n3 : Int) := by omega
         have HD : Hid (Did (oneF fin (n + 1)) s (.mk 3 u x n3 []) (failS s4 5 p3)) := HDt.out sB ⟨k3, p3, n3, u3⟩ _ _ HB.out HT3.out HDD.out (by rw [stE, if_neg hn3]); clear hn3; obtain ⟨hbt, ⟨ft0, ft1, ft2, ft3⟩, ct0, ct1, ct2, ct3⟩ := bx4 HO.out.swap.blk; obtain ⟨hbe, ⟨fe0, fe1, fe2, fe3, fe4⟩, ce0, ce1, ce2, ce3, ce4⟩ := bx5 ((HO.out.re [2, 0, 1]).blk); obtain ⟨hbz, ⟨fz0, fz1, fz2, fz3, fz4⟩, cz0, cz1, cz2, cz3, cz4⟩ := bx5 ((HO.out.re [3, 0, 1, 2]).blk); have m36 := Owns.ne (HO.out.re [1, 2, 0]); have m36' := m36.symm; have m32 := Owns.ne (HO.out.re [1, 3, 0, 2]); have m32' := m32.symm; have m62 := Owns.ne (HO.out.re [2, 3, 0, 1]); have m62' := m62.symm; repeat (first | go_values | go_skip | go_guarded | go_step | go_upon)
         have h1 := ((HO.out.re [2, 0, 1]).store (i := 3) (.int .i64 n3)).re [3, 1, 2, 0]; have h2 := st5 h1 (.int .i64 3) (.string (bs u)) (.int .i64 x) (.int .i64 n3) (.slice none 0 0); have h3 := (h2.pop.re [1, 2, 0]).pop.pop.leaf 3 u x n3 none 0; exact bodyPost_ret (rnot_res rfl h2.blk.1) (by rfl) (by first | exact ⟨_, _, _, rfl, HD.out, h3⟩ | exact ⟨_, _, rfl, _, HD.out, h3⟩)
      ·have hx0' : ((x : Int) == 0) = false := by simpa using hx0
       have HB0 : Hid (s2 = stB fin sR) := by
        show _ = _; rw [stR_eq, <- HX.out, if_neg hx0, <- HS2.out]
       clear hx0
       focus
        obtain ⟨hbe, ⟨fe0, fe1, fe2, fe3, fe4⟩, ce0, ce1, ce2, ce3, ce4⟩ := bx5 ((HO.out.re [2, 0, 1]).blk); go_wp2_with fail
        clear hbe fe0 fe1 fe2 fe3 fe4 ce0 ce1 ce2 ce3 ce4
       replace HO := Lib.hid (HO.out.re [1, 0, 2]); obtain ⟨sB, hsB⟩ : ∃ sB, sB = s2 := ⟨_, rfl⟩; have HB : Hid (sB = stB fin sR) := by show _ = _; rw [hsB]; exact HB0.out
       rw [<- hsB] at HO; clear hsB HB0
       try go_at_call 163
       refine (rtoken_c (w0 := w0) (bp := bp) (fin := fin) (all := all) (v := v) (blk b3 (tobj ⟨k2, p2, n2, u2⟩) :: blk b6 (f7 u x) :: blk b2 fobj0 :: ps) sB _ HN.out HO.out).mono ?_; rintro e W12 ⟨rfl, ho⟩; obtain ⟨⟨k3, p3, n3, u3⟩, ht⟩ : ∃ t, t = nextT sB := ⟨_, rfl⟩; obtain ⟨s4, hs4⟩ : ∃ s4, s4 = nextS fin sB := ⟨_, rfl⟩; rw [<- ht]; rw [<- hs4] at ho; simp only [tval]; have HT3 := Lib.hid ht; have HS4 := Lib.hid hs4; have HO3 := Lib.hid ho.swap; obtain ⟨W13, hW13⟩ : ∃ W13, W13 = (((W12.setCell ⟨b3, 0, none⟩ (.int .i64 k3)).setCell ⟨b3, 1, none⟩ (.int .i64 p3)).setCell ⟨b3, 2, none⟩ (.int .i64 n3)).setCell ⟨b3, 3, none⟩ (.string (bs u3)) := ⟨_, rfl⟩; replace HO : Hid (Owns w0 W13 (rdP w0 bp fin all v s4 :: blk b3 (tobj ⟨k3, p3, n3, u3⟩) :: blk b6 (f7 u x) :: blk b2 fobj0 :: ps)) := by
        rw [hW13]; exact Lib.hid (st4 HO3.out (.int .i64 k3) (.int .i64 p3) (.int .i64 n3) (.string (bs u3))).swap
       clear ho ht hs4; by_cases hk3 : k3 = 2
       ·have hk3' : ((k3 : Int) != 2) = false := by simp; omega
        have HDD : Hid (s4 = stD fin sB) := by
         show _ = _; rw [stD, <- HT3.out, if_neg (by simpa using hk3), <- HS4.out]
        clear hk3; by_cases hn3 : 1000000 < n3
        ·have hn3' : (1000000 : Int) < (n3 : Int) := by omega
         have HD : Hid (Did (oneF fin (n + 1)) s (.mk 3 u x n3 []) (failS s4 10 p3)) := HDt.out sB ⟨k3, p3, n3, u3⟩ s4 (failS s4 10 p3) HB.out HT3.out HDD.out (by rw [stE, if_pos hn3]); clear hn3
         focus
          obtain ⟨hbt, ⟨ft0, ft1, ft2, ft3⟩, ct0, ct1, ct2, ct3⟩ := bx4 HO3.out.blk; go_wp2_with fail
          rw [<- hW13]; clear hW13; clear hbt ft0 ft1 ft2 ft3 ct0 ct1 ct2 ct3
         try go_at_call 125
         refine (rfail_c (w0 := w0) (bp := bp) (fin := fin) (all := all) (v := v) (blk b3 (tobj ⟨k3, p3, n3, u3⟩) :: blk b6 (f7 u x) :: blk b2 fobj0 :: ps) s4 10 p3 (by omega) (by omega) _ HO.out).mono ?_; clear HO; rintro e W14 ⟨rfl, ho⟩; have HO := Lib.hid ho; clear ho; simp only []; obtain ⟨hbt, ⟨ft0, ft1, ft2, ft3⟩, ct0, ct1, ct2, ct3⟩ := bx4 HO.out.swap.blk; obtain ⟨hbe, ⟨fe0, fe1, fe2, fe3, fe4⟩, ce0, ce1, ce2, ce3, ce4⟩ := bx5 ((HO.out.re [2, 0, 1]).blk); obtain ⟨hbz, ⟨fz0, fz1, fz2, fz3, fz4⟩, cz0, cz1, cz2, cz3, cz4⟩ := bx5 ((HO.out.re [3, 0, 1, 2]).blk); have m36 := Owns.ne (HO.out.re [1, 2, 0]); have m36' := m36.symm; have m32 := Owns.ne (HO.out.re [1, 3, 0, 2]); have m32' := m32.symm; have m62 := Owns.ne (HO.out.re [2, 3, 0, 1]); have m62' := m62.symm; repeat (first | go_values | go_skip | go_guarded | go_step | go_upon)
         have h1 := ((HO.out.re [2, 0, 1]).store (i := 3) (.int .i64 n3)).re [3, 1, 2, 0]; have h2 := st5 h1 (.int .i64 3) (.string (bs u)) (.int .i64 x) (.int .i64 n3) (.slice none 0 0); have h3 := (h2.pop.re [1, 2, 0]).pop.pop.leaf 3 u x n3 none 0; exact bodyPost_ret (rnot_res rfl h2.blk.1) (by rfl) (by first | exact ⟨_, _, _, rfl, HD.out, h3⟩ | exact ⟨_, _, rfl, _, HD.out, h3⟩)
        ·have hn3' : ¬ (1000000 : Int) < (n3 : Int) := by omega
         have HD : Hid (Did (oneF fin (n + 1)) s (.mk 3 u x n3 []) s4) := HDt.out sB ⟨k3, p3, n3, u3⟩ s4 s4 HB.out HT3.out HDD.out (by rw [stE, if_neg hn3]); clear hn3; subst hW13; obtain ⟨hbt, ⟨ft0, ft1, ft2, ft3⟩, ct0, ct1, ct2, ct3⟩ := bx4 HO3.out.blk; obtain ⟨hbe, ⟨fe0, fe1, fe2, fe3, fe4⟩, ce0, ce1, ce2, ce3, ce4⟩ := bx5 ((HO3.out.re [2, 0, 1]).blk); obtain ⟨hbz, ⟨fz0, fz1, fz2, fz3, fz4⟩, cz0, cz1, cz2, cz3, cz4⟩ := bx5 ((HO3.out.re [3, 0, 1, 2]).blk); have m36 := Owns.ne (HO3.out.re [0, 2, 1]); have m36' := m36.symm; have m32 := Owns.ne (HO3.out.re [0, 3, 1, 2]); have m32' := m32.symm; have m62 := Owns.ne (HO3.out.re [2, 3, 0, 1]); have m62' := m62.symm; repeat (first | go_values | go_skip | go_guarded | go_step | go_upon)
         have h1 := ((HO.out.re [2, 0, 1]).store (i := 3) (.int .i64 n3)).re [3, 1, 2, 0]; have h2 := st5 h1 (.int .i64 3) (.string (bs u)) (.int .i64 x) (.int .i64 n3) (.slice none 0 0); have h3 := (h2.pop.re [1, 2, 0]).pop.pop.leaf 3 u x n3 none 0; exact bodyPost_ret (rnot_res rfl h2.blk.1) (by rfl) (by first | exact ⟨_, _, _, rfl, HD.out, h3⟩ | exact ⟨_, _, rfl, _, HD.out, h3⟩)
       ·have hk3' : ((k3 : Int) != 2) = true := by simp; omega
        have HDD : Hid (failS s4 5 p3 = stD fin sB) := by
         show _ = _; rw [stD, <- HT3.out, if_pos (by simpa using hk3), <- HS4.out]
        clear hk3
        focus
         obtain ⟨hbt, ⟨ft0, ft1, ft2, ft3⟩, ct0, ct1, ct2, ct3⟩ := bx4 HO3.out.blk; go_wp2_with fail
         rw [<- hW13]; clear hW13; clear hbt ft0 ft1 ft2 ft3 ct0 ct1 ct2 ct3
        try go_at_call 125
        refine (rfail_c (w0 := w0) (bp := bp) (fin := fin) (all := all) (v := v) (blk b3 (tobj ⟨k3, p3, n3, u3⟩) :: blk b6 (f7 u x) :: blk b2 fobj0 :: ps) s4 5 p3 (by omega) (by omega) _ HO.out).mono ?_; clear HO; rintro e W14 ⟨rfl, ho⟩; have HO := Lib.hid ho; clear ho; simp only []; by_cases hn3 : 1000000 < n3
        ·have hn3' : (1000000 : Int) < (n3 : Int) := by omega
         have HD : Hid (Did (oneF fin (n + 1)) s (.mk 3 u x n3 []) (failS (failS s4 5 p3) 10 p3)) := HDt.out sB ⟨k3, p3, n3, u3⟩ _ _ HB.out HT3.out HDD.out (by rw [stE, if_pos hn3]); clear hn3
         focus
          obtain ⟨hbt, ⟨ft0, ft1, ft2, ft3⟩, ct0, ct1, ct2, ct3⟩ := bx4 HO.out.swap.blk; go_wp2_with fail
          clear hbt ft0 ft1 ft2 ft3 ct0 ct1 ct2 ct3
         try go_at_call 125
         refine (rfail_c (w0 := w0) (bp := bp) (fin := fin) (all := all) (v := v) (blk b3 (tobj ⟨k3, p3, n3, u3⟩) :: blk b6 (f7 u x) :: blk b2 fobj0 :: ps) (failS s4 5 p3) 10 p3 (by omega) (by omega) _ HO.out).mono ?_; clear HO; rintro e W14 ⟨rfl, ho⟩; have HO := Lib.hid ho; clear ho; simp only []; obtain ⟨hbt, ⟨ft0, ft1, ft2, ft3⟩, ct0, ct1, ct2, ct3⟩ := bx4 HO.out.swap.blk; obtain ⟨hbe, ⟨fe0, fe1, fe2, fe3, fe4⟩, ce0, ce1, ce2, ce3, ce4⟩ := bx5 ((HO.out.re [2, 0, 1]).blk); obtain ⟨hbz, ⟨fz0, fz1, fz2, fz3, fz4⟩, cz0, cz1, cz2, cz3, cz4⟩ := bx5 ((HO.out.re [3, 0, 1, 2]).blk); have m36 := Owns.ne (HO.out.re [1, 2, 0]); have m36' := m36.symm; have m32 := Owns.ne (HO.out.re [1, 3, 0, 2]); have m32' := m32.symm; have m62 := Owns.ne (HO.out.re [2, 3, 0, 1]); have m62' := m62.symm; repeat (first | go_values | go_skip | go_guarded | go_step | go_upon)
         have h1 := ((HO.out.re [2, 0, 1]).store (i := 3) (.int .i64 n3)).re [3, 1, 2, 0]; have h2 := st5 h1 (.int .i64 3) (.string (bs u)) (.int .i64 x) (.int .i64 n3) (.slice none 0 0); have h3 := (h2.pop.re [1, 2, 0]).pop.pop.leaf 3 u x n3 none 0; exact bodyPost_ret (rnot_res rfl h2.blk.1) (by rfl) (by first | exact ⟨_, _, _, rfl, HD.out, h3⟩ | exact ⟨_, _, rfl, _, HD.out, h3⟩)
        ·have hn3' : ¬ (1000000 : Int) < (n3 : Int) := by omega
         have HD : Hid (Did (oneF fin (n + 1)) s (.mk 3 u x n3 []) (failS s4 5 p3)) := HDt.out sB ⟨k3, p3, n3, u3⟩ _ _ HB.out HT3.out HDD.out (by rw [stE, if_neg hn3]); clear hn3; obtain ⟨hbt, ⟨ft0, ft1, ft2, ft3⟩, ct0, ct1, ct2, ct3⟩ := bx4 HO.out.swap.blk; obtain ⟨hbe, ⟨fe0, fe1, fe2, fe3, fe4⟩, ce0, ce1, ce2, ce3, ce4⟩ := bx5 ((HO.out.re [2, 0, 1]).blk); obtain ⟨hbz, ⟨fz0, fz1, fz2, fz3, fz4⟩, cz0, cz1, cz2, cz3, cz4⟩ := bx5 ((HO.out.re [3, 0, 1, 2]).blk); have m36 := Owns.ne (HO.out.re [1, 2, 0]); have m36' := m36.symm; have m32 := Owns.ne (HO.out.re [1, 3, 0, 2]); have m32' := m32.symm; have m62 := Owns.ne (HO.out.re [2, 3, 0, 1]); have m62' := m62.symm; repeat (first | go_values | go_skip | go_guarded | go_step | go_upon)
         have h1 := ((HO.out.re [2, 0, 1]).store (i := 3) (.int .i64 n3)).re [3, 1, 2, 0]; have h2 := st5 h1 (.int .i64 3) (.string (bs u)) (.int .i64 x) (.int .i64 n3) (.slice none 0 0); have h3 := (h2.pop.re [1, 2, 0]).pop.pop.leaf 3 u x n3 none 0; exact bodyPost_ret (rnot_res rfl h2.blk.1) (by rfl) (by first | exact ⟨_, _, _, rfl, HD.out, h3⟩ | exact ⟨_, _, rfl, _, HD.out, h3⟩)
  obtain ⟨r, e1, e2⟩ := nextT_ok HT.out (by show kd ≠ 0; omega) fin; have h44' : ((kd : Int) == 4) = true := by simp; omega
  have hu' : (u == [40]) = true := by simpa using h4.2
  have HK : Hid (kd = 4 /\ u = [40]) := Lib.hid h4; obtain ⟨n', rfl⟩ : ∃ n', n = n' + 1 := by
   refine ⟨n - 1, ?_⟩; have := HS.out; rw [e1] at this; simp [toks] at this
   omega
  have HE1 : Hid (s = .ok (⟨kd, po, nu, u⟩ :: r) /\ s1 = .ok r /\ r.length <= n') := by
   refine ⟨e1, HS1.out.trans e2, ?_⟩; have := HS.out; rw [e1] at this; simp [toks] at this
   omega
  clear h4 hk e1 e2; go_wp2_with fail
  try rw [<- hW3]
  try rw [<- hb3]
  clear hW3 hb3
  focus
   obtain ⟨hbt, ⟨ft0, ft1, ft2, ft3⟩, ct0, ct1, ct2, ct3⟩ := bx4 HO.out.swap.blk; go_wp2_with fail
   clear hbt ft0 ft1 ft2 ft3 ct0 ct1 ct2 ct3
  try go_at_call 124
  have hE := rform_c (w0 := w0) (bp := bp) (fin := fin) (all := all) (v := v) _ n' (by omega) HN.out (rand_c _ n' (by omega) HN.out (HIh.out n' rfl)); refine (hE (blk b3 (tobj ⟨kd, po, nu, u⟩) :: blk b2 fobj0 :: ps) s1 W3 (by rw [HE1.out.2.1]; exact HE1.out.2.2) HO.out).mono ?_; clear hE; rintro e W4 ⟨f, kv, s2, rfl, hd, ho⟩; obtain ⟨y2, m2, rfl⟩ := ho.fm.form; obtain ⟨N2, hN2⟩ : ∃ N2, N2 = f.kids.length := ⟨_, rfl⟩; rw [<- hN2] at ho ⊢; have HP : Hid (_ /\ _) := Lib.hid (one_paren_did (t := ⟨kd, po, nu, u⟩) HK.out (HE1.out.2.1 ▸ hd)); obtain ⟨W5, hW5⟩ : ∃ W5, W5 = W4.alloc (.cells #[.int .i64 f.op, .string (bs f.name), .int .i64 f.cmp, .int .i64 f.num, .slice y2 N2 m2] 24) := ⟨_, rfl⟩; obtain ⟨b5, hb5⟩ : ∃ b5, b5 = W4.heap.size := ⟨_, rfl⟩; replace HO : Hid (Owns w0 W5 (rdP w0 bp fin all v s2 :: fmP f (.slice y2 N2 m2) :: blk b5 (fobj f (.slice y2 N2 m2)) :: blk b3 (tobj ⟨kd, po, nu, u⟩) :: blk b2 fobj0 :: ps)) := by
   rw [hW5, hb5]; exact Lib.hid ((ho.box (fobj f (.slice y2 N2 m2))).re [2, 1, 0])
  clear ho hd hN2 h44' hu'; go_wp2_with fail
  rw [<- hW5, <- hb5]; clear hW5 hb5
  try go_at_call 163
  refine (rtoken_c (w0 := w0) (bp := bp) (fin := fin) (all := all) (v := v) (fmP f (.slice y2 N2 m2) :: blk b5 (fobj f (.slice y2 N2 m2)) :: blk b3 (tobj ⟨kd, po, nu, u⟩) :: blk b2 fobj0 :: ps) s2 W5 HN.out HO.out).mono ?_; rintro e W6 ⟨rfl, ho⟩; obtain ⟨⟨kd2, po2, nu2, u2⟩, ht⟩ : ∃ t, t = nextT s2 := ⟨_, rfl⟩; obtain ⟨s3, hs3⟩ : ∃ s3, s3 = nextS fin s2 := ⟨_, rfl⟩; rw [<- ht, <- hs3] at HP; rw [<- ht]; rw [<- hs3] at ho; simp only [tval]; have HO3 := Lib.hid (ho.re [3, 0, 1, 2]); obtain ⟨W7, hW7⟩ : ∃ W7, W7 = (((W6.setCell ⟨b3, 0, none⟩ (.int .i64 kd2)).setCell ⟨b3, 1, none⟩ (.int .i64 po2)).setCell ⟨b3, 2, none⟩ (.int .i64 nu2)).setCell ⟨b3, 3, none⟩ (.string (bs u2)) := ⟨_, rfl⟩; replace HO : Hid (Owns w0 W7 (blk b3 (tobj ⟨kd2, po2, nu2, u2⟩) :: rdP w0 bp fin all v s3 :: fmP f (.slice y2 N2 m2) :: blk b5 (fobj f (.slice y2 N2 m2)) :: blk b2 fobj0 :: ps)) := by
   rw [hW7]; exact Lib.hid (st4 HO3.out (.int .i64 kd2) (.int .i64 po2) (.int .i64 nu2) (.string (bs u2)))
  clear ho ht hs3; by_cases h41 : kd2 = 4 /\ u2 = [41]
  ·have hk2 : ((kd2 : Int) != 4) = false := by simp; omega
   have hu2 : (u2 == [41]) = true := by simpa using h41.2
   have hu2n : (u2 != [41]) = false := by simpa using h41.2
   have HD : Hid (Did (oneF fin (n' + 1 + 1)) s f s3) := by
    rw [HE1.out.1]; exact HP.out.1 h41
   clear h41; subst hW7; have n35 := Owns.ne (HO3.out.re [0, 3, 1, 2]); have n35' := n35.symm; have n32 := Owns.ne (HO3.out.re [0, 4, 1, 2, 3]); have n32' := n32.symm; have n25 := Owns.ne (HO3.out.re [3, 4, 0, 1, 2]); have n25' := n25.symm; have HO5 := Lib.hid (HO.out.re [4, 1, 2, 3, 0]); simp only [fobj0] at HO5; obtain ⟨hbt, ⟨ft0, ft1, ft2, ft3⟩, ct0, ct1, ct2, ct3⟩ := bx4 HO3.out.blk; obtain ⟨hbv, ⟨fv0, fv1, fv2, fv3, fv4⟩, cv0, cv1, cv2, cv3, cv4⟩ := bx5 ((HO3.out.re [3, 4, 0, 1, 2]).blk); obtain ⟨hbe, ⟨fe0, fe1, fe2, fe3, fe4⟩, ce0, ce1, ce2, ce3, ce4⟩ := bx5 ((HO3.out.re [4, 3, 0, 1, 2]).blk); repeat (first | go_values | go_skip | go_guarded | go_step | go_upon)
   have h2 := st5 HO5.out (.int .i64 f.op) (.string (bs f.name)) (.int .i64 f.cmp) (.int .i64 f.num) (.slice y2 N2 m2); exact bodyPost_ret (rnot_res rfl h2.blk.1) (by rfl) ⟨f, .slice y2 N2 m2, s3, rfl, HD.out, (h2.pop.re [2, 3, 1, 0]).pop.pop⟩
  ·have HD : Hid (Did (oneF fin (n' + 1 + 1)) s f (failS s3 5 po2)) := by
    rw [HE1.out.1]; exact HP.out.2 h41
   by_cases hk2 : kd2 = 4
   ·have hk2' : ((kd2 : Int) != 4) = false := by simp; omega
    have hu2 : (u2 == [41]) = false := by simpa using fun e => h41 ⟨hk2, e⟩
    have hu2n : (u2 != [41]) = true := by simpa using fun e => h41 ⟨hk2, e⟩
    clear h41 hk2
    focus
     obtain ⟨hbt, ⟨ft0, ft1, ft2, ft3⟩, ct0, ct1, ct2, ct3⟩ := bx4 HO3.out.blk; go_wp2_with fail
     rw [<- hW7]; clear hW7; clear hbt ft0 ft1 ft2 ft3 ct0 ct1 ct2 ct3
    try go_at_call 125
    refine (rfail_c (w0 := w0) (bp := bp) (fin := fin) (all := all) (v := v) (blk b3 (tobj ⟨kd2, po2, nu2, u2⟩) :: fmP f (.slice y2 N2 m2) :: blk b5 (fobj f (.slice y2 N2 m2)) :: blk b2 fobj0 :: ps) s3 5 po2 (by omega) (by omega) W7 HO.out.swap).mono ?_; rintro e W8 ⟨rfl, ho⟩; have n25 := Owns.ne (ho.re [3, 4, 0, 1, 2]); have n25' := n25.symm; have HO5 := Lib.hid (ho.re [4, 3, 0, 2, 1]); simp only [fobj0] at HO5; clear ho HO
    focus
     obtain ⟨hbe, ⟨fe0, fe1, fe2, fe3, fe4⟩, ce0, ce1, ce2, ce3, ce4⟩ := bx5 HO5.out.blk; obtain ⟨hbv, ⟨fv0, fv1, fv2, fv3, fv4⟩, cv0, cv1, cv2, cv3, cv4⟩ := bx5 ((HO5.out.swap).blk); go_wp2_with fail
    have h2 := st5 HO5.out (.int .i64 f.op) (.string (bs f.name)) (.int .i64 f.cmp) (.int .i64 f.num) (.slice y2 N2 m2); exact bodyPost_ret (rnot_res rfl h2.blk.1) (by rfl) ⟨f, _, _, rfl, HD.out, (h2.pop.re [0, 3, 2, 1]).pop.pop⟩
   ·have hk2' : ((kd2 : Int) != 4) = true := by simp; omega
    clear h41 hk2
    focus
     obtain ⟨hbt, ⟨ft0, ft1, ft2, ft3⟩, ct0, ct1, ct2, ct3⟩ := bx4 HO3.out.blk; go_wp2_with fail
     rw [<- hW7]; clear hW7; clear hbt ft0 ft1 ft2 ft3 ct0 ct1 ct2 ct3
    try go_at_call 125
    refine (rfail_c (w0 := w0) (bp := bp) (fin := fin) (all := all) (v := v) (blk b3 (tobj ⟨kd2, po2, nu2, u2⟩) :: fmP f (.slice y2 N2 m2) :: blk b5 (fobj f (.slice y2 N2 m2)) :: blk b2 fobj0 :: ps) s3 5 po2 (by omega) (by omega) W7 HO.out.swap).mono ?_; rintro e W8 ⟨rfl, ho⟩; have n25 := Owns.ne (ho.re [3, 4, 0, 1, 2]); have n25' := n25.symm; have HO5 := Lib.hid (ho.re [4, 3, 0, 2, 1]); simp only [fobj0] at HO5; clear ho HO
    focus
     obtain ⟨hbe, ⟨fe0, fe1, fe2, fe3, fe4⟩, ce0, ce1, ce2, ce3, ce4⟩ := bx5 HO5.out.blk; obtain ⟨hbv, ⟨fv0, fv1, fv2, fv3, fv4⟩, cv0, cv1, cv2, cv3, cv4⟩ := bx5 ((HO5.out.swap).blk); go_wp2_with fail
    have h2 := st5 HO5.out (.int .i64 f.op) (.string (bs f.name)) (.int .i64 f.cmp) (.int .i64 f.num) (.slice y2 N2 m2); exact bodyPost_ret (rnot_res rfl h2.blk.1) (by rfl) ⟨f, _, _, rfl, HD.out, (h2.pop.re [0, 3, 2, 1]).pop.pop⟩
 have hk' : ((kd : Int) == 1) = true := by simp; omega
 have hkn : ((kd : Int) != 1) = false := by simp; omega
 have hk4 : ((kd : Int) == 4) = false := by simp; omega
 obtain ⟨r, e1, e2⟩ := nextT_ok HT.out (by show kd ≠ 0; omega) fin; have HKD : Hid (kd = 1) := hk; clear hk; by_cases hn1 : u = wNot
 ·have hu' : (u == [110, 111, 116]) = true := by simpa [wNot] using hn1
  have HK : Hid (kd = 1 /\ u = wNot) := Lib.hid ⟨HKD.out, hn1⟩; obtain ⟨n', rfl⟩ : ∃ n', n = n' + 1 := by
   refine ⟨n - 1, ?_⟩; have := HS.out; rw [e1] at this; simp [toks] at this
   omega
  have HE1 : Hid (s = .ok (⟨kd, po, nu, u⟩ :: r) /\ s1 = .ok r /\ r.length <= n') := by
   refine ⟨e1, HS1.out.trans e2, ?_⟩; have := HS.out; rw [e1] at this; simp [toks] at this
   omega
  clear hn1 e1 e2; go_wp2_with fail
  try rw [<- hW3]
  try rw [<- hb3]
  clear hW3 hb3
  focus
   obtain ⟨hbt, ⟨ft0, ft1, ft2, ft3⟩, ct0, ct1, ct2, ct3⟩ := bx4 HO.out.swap.blk; go_wp2_with fail
   clear hbt ft0 ft1 ft2 ft3 ct0 ct1 ct2 ct3
  refine (HIh.out n' rfl (blk b3 (tobj ⟨kd, po, nu, u⟩) :: blk b2 fobj0 :: ps) s1 W3 (by rw [HE1.out.2.1]; exact HE1.out.2.2) HO.out).mono ?_; rintro e W4 ⟨f, kv, s2, rfl, hd, ho⟩; obtain ⟨y2, m2, rfl⟩ := ho.fm.form; obtain ⟨N2, hN2⟩ : ∃ N2, N2 = f.kids.length := ⟨_, rfl⟩; rw [<- hN2] at ho ⊢; have HD : Hid (Did (oneF fin (n' + 1 + 1)) s (.mk 4 [] 0 0 [f]) s2) := by
   rw [HE1.out.1]; exact one_not HK.out (HE1.out.2.1 ▸ hd)
  have hk1 := (ho.kid1.knode 4 [] 0 0).re [3, 1, 2, 0]; replace HO : Hid (Owns w0 (W4.alloc (.cells #[.int .i64 f.op, .string (bs f.name), .int .i64 f.cmp, .int .i64 f.num, .slice y2 N2 m2] 24)) (blk b2 fobj0 :: rdP w0 bp fin all v s2 :: blk b3 (tobj ⟨kd, po, nu, u⟩) :: fmP (.mk 4 [] 0 0 [f]) (.slice (some ⟨W4.heap.size, 0, none⟩) 1 1) :: ps)) := Lib.hid hk1; simp only [fobj0] at HO; clear ho hd hN2 hk1; obtain ⟨hbe, ⟨fe0, fe1, fe2, fe3, fe4⟩, ce0, ce1, ce2, ce3, ce4⟩ := bx5 HO.out.blk; go_wp2_with fail
  have h2 := st5 HO.out (.int .i64 4) (.string ⟨#[]⟩) (.int .i64 0) (.int .i64 0) (.slice (some ⟨W4.heap.size, 0, none⟩) 1 1); exact bodyPost_ret (rnot_res rfl h2.blk.1) (by rfl) ⟨_, _, _, rfl, HD.out, (h2.pop.re [1, 2, 0]).pop⟩
 have hu1 : (u == [110, 111, 116]) = false := by simpa [wNot] using hn1
 by_cases hn2 : u = wTrue
 ·have hu' : (u == [116, 114, 117, 101]) = true := by simpa [wTrue] using hn2
  have HK : Hid (kd = 1 /\ u = wTrue) := Lib.hid ⟨HKD.out, hn2⟩; clear hn1 hn2; have HD : Hid (Did (oneF fin (n + 1)) s (.mk 1 [] 0 0 []) s1) := by
   rw [HS1.out, e2, e1]; exact one_true HK.out
  have HO4 : Hid (Owns w0 W3 (blk b2 fobj0 :: rdP w0 bp fin all v s1 :: blk b3 (tobj ⟨kd, po, nu, u⟩) :: ps)) := Lib.hid (HO.out.re [2, 0, 1]); simp only [fobj0] at HO4; rw [hW3] at HO4; obtain ⟨hbe, ⟨fe0, fe1, fe2, fe3, fe4⟩, ce0, ce1, ce2, ce3, ce4⟩ := bx5 ((HO4.out).blk); go_wp2_with fail
  have h2 := st5 HO4.out (.int .i64 1) (.string ⟨#[]⟩) (.int .i64 0) (.int .i64 0) (.slice none 0 0); exact bodyPost_ret (rnot_res rfl h2.blk.1) (by rfl) ⟨.mk 1 [] 0 0 [], _, _, rfl, HD.out, h2.pop.swap.pop.leaf 1 [] 0 0 none 0⟩
 have hu2 : (u == [116, 114, 117, 101]) = false := by simpa [wTrue] using hn2
 by_cases hn3 : u = wFalse
 ·have hu' : (u == [102, 97, 108, 115, 101]) = true := by simpa [wFalse] using hn3
  have HK : Hid (kd = 1 /\ u = wFalse) := Lib.hid ⟨HKD.out, hn3⟩; clear hn1 hn2 hn3; have HD : Hid (Did (oneF fin (n + 1)) s (.mk 2 [] 0 0 []) s1) := by
   rw [HS1.out, e2, e1]; exact one_false HK.out
  have HO4 : Hid (Owns w0 W3 (blk b2 fobj0 :: rdP w0 bp fin all v s1 :: blk b3 (tobj ⟨kd, po, nu, u⟩) :: ps)) := Lib.hid (HO.out.re [2, 0, 1]); simp only [fobj0] at HO4; rw [hW3] at HO4; obtain ⟨hbe, ⟨fe0, fe1, fe2, fe3, fe4⟩, ce0, ce1, ce2, ce3, ce4⟩ := bx5 ((HO4.out).blk); go_wp2_with fail
  have h2 := st5 HO4.out (.int .i64 2) (.string ⟨#[]⟩) (.int .i64 0) (.int .i64 0) (.slice none 0 0); exact bodyPost_ret (rnot_res rfl h2.blk.1) (by rfl) ⟨.mk 2 [] 0 0 [], _, _, rfl, HD.out, h2.pop.swap.pop.leaf 2 [] 0 0 none 0⟩
 have hu3 : (u == [102, 97, 108, 115, 101]) = false := by simpa [wFalse] using hn3
 have HE1 : Hid (s = .ok (⟨kd, po, nu, u⟩ :: r) /\ s1 = .ok r) := ⟨e1, HS1.out.trans e2⟩; have HU : Hid (u ≠ wNot /\ u ≠ wTrue /\ u ≠ wFalse /\ u ≠ []) := ⟨hn1, hn2, hn3, HNe.out _ _ e1 HKD.out⟩; clear hn1 hn2 hn3 e1 e2; go_wp2_with fail
 try rw [<- hW3]
 try rw [<- hb3]
 clear hW3 hb3
 focus
  obtain ⟨hbt, ⟨ft0, ft1, ft2, ft3⟩, ct0, ct1, ct2, ct3⟩ := bx4 HO.out.swap.blk; go_wp2_with fail
  clear hbt ft0 ft1 ft2 ft3 ct0 ct1 ct2 ct3
 try go_at_call 145
 refine (rKey_c u W3).mono ?_; rintro e Wc ⟨rfl, hw⟩; subst hw; obtain ⟨q, hq⟩ : ∃ q, q = keyB u := ⟨_, rfl⟩; have HQ := Lib.hid hq; rw [<- hq]; clear hq; cases q
 case true =>
  have HDt := Lib.hid (rest_bad (fin := fin) (n := n) (s := s) (s1 := s1) (t := ⟨kd, po, nu, u⟩) u (fun g => by
   rw [HS1.out]; exact syn_any HT.out HFi.out (by rintro ⟨-, h | h | h⟩ <;> first | (exact HU.out.1 h; done) | (exact HU.out.2.1 h; done) | exact HU.out.2.2.1 h) (by rintro ⟨h, -⟩; have h2 : kd = 4 := h; have := HKD.out; omega) (.inr (.inr HQ.out.symm)) g))
  simp only [] at HDt
  focus
   obtain ⟨hbt, ⟨ft0, ft1, ft2, ft3⟩, ct0, ct1, ct2, ct3⟩ := bx4 HO.out.swap.blk; go_wp2_with fail
   clear hbt ft0 ft1 ft2 ft3 ct0 ct1 ct2 ct3
  try go_at_call 125
  refine (rfail_c (w0 := w0) (bp := bp) (fin := fin) (all := all) (v := v) (blk b3 (tobj ⟨kd, po, nu, u⟩) :: blk b2 fobj0 :: ps) s1 5 po (by omega) (by omega) _ HO.out).mono ?_; rintro e Wc ⟨rfl, ho⟩; replace HO := Lib.hid ho; obtain ⟨sR, hsR⟩ : ∃ sR, sR = failS s1 5 po := ⟨_, rfl⟩; rw [<- hsR] at HO HDt; clear ho hsR; obtain ⟨W5, hW5⟩ : ∃ W5, W5 = Wc.alloc (.cells #[.int .i64 3, .string (bs u), .int .i64 0, .int .i64 0, .slice none 0 0] 24) := ⟨_, rfl⟩; obtain ⟨b6, hb6⟩ : ∃ b6, b6 = Wc.heap.size := ⟨_, rfl⟩; have HO5 : Hid (Owns w0 W5 (rdP w0 bp fin all v sR :: blk b6 (f7 u 0) :: blk b3 (tobj ⟨kd, po, nu, u⟩) :: blk b2 fobj0 :: ps)) := by
   rw [hW5, hb6]; exact Lib.hid (HO.out.box (f7 u 0)).swap
  focus
   obtain ⟨hbt, ⟨ft0, ft1, ft2, ft3⟩, ct0, ct1, ct2, ct3⟩ := bx4 HO.out.swap.blk; go_wp2_with fail
   rw [<- hW5, <- hb6]; clear hW5 hb6; clear hbt ft0 ft1 ft2 ft3 ct0 ct1 ct2 ct3
  replace HO := HO5; clear HO5
  try go_at_call 163
  refine (rtoken_c (w0 := w0) (bp := bp) (fin := fin) (all := all) (v := v) (blk b6 (f7 u 0) :: blk b3 (tobj ⟨kd, po, nu, u⟩) :: blk b2 fobj0 :: ps) sR W5 HN.out HO.out).mono ?_; rintro e W6 ⟨rfl, ho⟩; obtain ⟨⟨k2, p2, n2, u2⟩, ht⟩ : ∃ t, t = nextT sR := ⟨_, rfl⟩; obtain ⟨s2, hs2⟩ : ∃ s2, s2 = nextS fin sR := ⟨_, rfl⟩; rw [<- ht]; rw [<- hs2] at ho; simp only [tval]; have HT2 := Lib.hid ht; have HS2 := Lib.hid hs2; have HO3 := Lib.hid (ho.re [2, 0, 1]); obtain ⟨W7, hW7⟩ : ∃ W7, W7 = (((W6.setCell ⟨b3, 0, none⟩ (.int .i64 k2)).setCell ⟨b3, 1, none⟩ (.int .i64 p2)).setCell ⟨b3, 2, none⟩ (.int .i64 n2)).setCell ⟨b3, 3, none⟩ (.string (bs u2)) := ⟨_, rfl⟩; replace HO : Hid (Owns w0 W7 (blk b3 (tobj ⟨k2, p2, n2, u2⟩) :: rdP w0 bp fin all v s2 :: blk b6 (f7 u 0) :: blk b2 fobj0 :: ps)) := by
   rw [hW7]; exact Lib.hid (st4 HO3.out (.int .i64 k2) (.int .i64 p2) (.int .i64 n2) (.string (bs u2)))
  clear ho ht hs2
  focus
   obtain ⟨hbt, ⟨ft0, ft1, ft2, ft3⟩, ct0, ct1, ct2, ct3⟩ := bx4 HO3.out.blk; go_wp2_with fail
   rw [<- hW7]; clear hW7; clear hbt ft0 ft1 ft2 ft3 ct0 ct1 ct2 ct3
  clear HO3; have H0 : Hid (Owns w0 W7 (blk b3 (tobj ⟨k2, p2, n2, u2⟩) :: rdP w0 bp fin all v s2 :: blk b6 (f7 u ((xK ⟨k2, p2, n2, u2⟩ 1 : Nat) : Int)) :: blk b2 fobj0 :: ps)) := by
   rw [xK_one]; exact HO
  go_loopg [6] 6 (fun gk kv wr => ∃ k : Nat, gk = 7 - k /\ 1 <= k /\ k <= 7 /\ kv = .int .i64 (k : Int) /\ Hid (Owns w0 wr (blk b3 (tobj ⟨k2, p2, n2, u2⟩) :: rdP w0 bp fin all v s2 :: blk b6 (f7 u ((xK ⟨k2, p2, n2, u2⟩ k : Nat) : Int)) :: blk b2 fobj0 :: ps)))
  case atStart => exact ⟨1, rfl, by omega, by omega, rfl, H0⟩
  case round =>
   rename_i J1 K1 hJ1 hK1; clear HO H0; obtain ⟨k, rfl, hk1, hk7, rfl, HO⟩ := hrel; go_wp2_with fail
   try go_at_call 119
   refine (comparisons_c wr).mono ?_; rintro e W8 ⟨gs, rfl, hgs, hW8⟩; have hb8 : Below wr.heap.size wr W8 := by rw [hW8]; exact (Below.refl _ _).alloc (Nat.le_refl _) _
   replace HO := Lib.hid (HO.out.below hb8); clear hW8 hgs hb8; by_cases hlt : k < 7
   ·have hk6 : k <= 6 := by omega
    go_wp2_with fail
    refine wp_region_canA [6] (List.range 12) ?_; replace HO := Lib.hid HO.out.drew; generalize hWd : World.drew _ = W9 at HO ⊢; clear hWd; by_cases h24 : k2 = 4
    ·have h24' : ((k2 : Int) == 4) = true := by simp; omega
     have H24 := Lib.hid h24; clear h24
     focus
      obtain ⟨hbt, ⟨ft0, ft1, ft2, ft3⟩, ct0, ct1, ct2, ct3⟩ := bx4 HO.out.blk; iterate 6 (first | (refine cl_doA rfl rfl rfl (fun _ _ => ?_); go_wp2_with fail) | (refine cl_yesA rfl rfl rfl rfl (fun _ _ => ?_); go_wp2_with fail))
      clear hbt ft0 ft1 ft2 ft3 ct0 ct1 ct2 ct3
     refine cl_ycall (i := 6) rfl rfl rfl (by first | rfl | simp [okB, lenV, plainV, Act.eval]) (fun K hK => ?_); go_wp2_with fail
     try go_at_call 119
     refine (comparisons_c W9).mono ?_; rintro e W10 ⟨g2, rfl, hg2, hW10⟩; have hb10 : Below W9.heap.size W9 W10 := by rw [hW10]; exact (Below.refl _ _).alloc (Nat.le_refl _) _
     have bks : W10.heap[g2]? = some symObj := by rw [hW10]; exact new_heap _ _ _ hg2
     have hg2l := lt_of_block bks; have cs := sym_cell bks hk1 hk6; have Hb := Lib.hid hb10; replace HO := Lib.hid (HO.out.below hb10); clear hW10 hg2 hb10 bks; go_wp2_with fail
     refine And.intro Hb.out ?_; clear Hb; by_cases hm : u2 = symB (k : Int)
     ·have hm' : (u2 == symB (k : Int)) = true := by simpa using hm
      have HX : Hid (xK ⟨k2, p2, n2, u2⟩ (k + 1) = k) := Lib.hid (xK_hit H24.out ((sym_iff hk1 hk6).1 hm)); clear hm; iterate 5 (first | (refine cl_doA rfl rfl rfl (fun _ _ => ?_); go_wp2_with fail) | (refine cl_yesA rfl rfl rfl rfl (fun _ _ => ?_); go_wp2_with fail))
      refine cl_nil ?_; have HO6 := Lib.hid (HO.out.re [2, 0, 1]); have HO7 : Hid (Owns w0 (W10.setCell ⟨b6, 2, none⟩ (.int .i64 (k : Int))) (blk b3 (tobj ⟨k2, p2, n2, u2⟩) :: rdP w0 bp fin all v s2 :: blk b6 (f7 u ((xK ⟨k2, p2, n2, u2⟩ (k + 1) : Nat) : Int)) :: blk b2 fobj0 :: ps)) := by
       rw [HX.out]; exact Lib.hid ((HO6.out.store (i := 2) (.int .i64 (k : Int))).re [1, 2, 0])
      focus
       obtain ⟨hbe, ⟨fe0, fe1, fe2, fe3, fe4⟩, ce0, ce1, ce2, ce3, ce4⟩ := bx5 HO6.out.blk; clear HO; go_wp2_with fail
       go_roundg (7 - (k + 1))
       case measure => omega
       case rel => exact ⟨k + 1, rfl, by omega, by omega, by go_num, HO7⟩
     ·have hm' : (u2 == symB (k : Int)) = false := by simpa using hm
      have HX : Hid (xK ⟨k2, p2, n2, u2⟩ (k + 1) = xK ⟨k2, p2, n2, u2⟩ k) := Lib.hid (xK_miss fun h => hm ((sym_iff hk1 hk6).2 h.2)); clear hm; iterate 5 (first | (refine cl_doA rfl rfl rfl (fun _ _ => ?_); go_wp2_with fail) | (refine cl_yesA rfl rfl rfl rfl (fun _ _ => ?_); go_wp2_with fail))
      refine cl_nil ?_; rw [<- HX.out] at HO; go_wp2_with fail
      go_roundg (7 - (k + 1))
      case measure => omega
      case rel => exact ⟨k + 1, rfl, by omega, by omega, by go_num, HO⟩
    ·have h24' : ((k2 : Int) == 4) = false := by simp; omega
     have HX : Hid (xK ⟨k2, p2, n2, u2⟩ (k + 1) = xK ⟨k2, p2, n2, u2⟩ k) := Lib.hid (xK_miss fun h => h24 h.1); clear h24
     focus
      obtain ⟨hbt, ⟨ft0, ft1, ft2, ft3⟩, ct0, ct1, ct2, ct3⟩ := bx4 HO.out.blk; iterate 12 (first | (refine cl_doA rfl rfl rfl (fun _ _ => ?_); go_wp2_with fail) | (refine cl_no rfl rfl rfl ?_; go_simp))
      clear hbt ft0 ft1 ft2 ft3 ct0 ct1 ct2 ct3
     refine cl_nil ?_; rw [<- HX.out] at HO; go_wp2_with fail
     go_roundg (7 - (k + 1))
     case measure => omega
     case rel => exact ⟨k + 1, rfl, by omega, by omega, by go_num, HO⟩
   ·obtain rfl : k = 7 := by omega
    obtain ⟨x, hx⟩ : ∃ x, x = xT ⟨k2, p2, n2, u2⟩ := ⟨_, rfl⟩; rw [xK_last, <- hx] at HO; have hx6 : x <= 6 := by rw [hx]; exact xT_le _
    have HX := Lib.hid hx; rw [HT2.out] at HX; rw [<- HX.out] at HDt; clear hx hJ1 hK1 hlt hk1 hk7; by_cases hx0 : x = 0
    ·have hx0' : ((x : Int) == 0) = true := by simpa using hx0
     have HB0 : Hid (failS s2 5 p2 = stB fin sR) := by
      show _ = _; rw [stR_eq, <- HX.out, if_pos hx0, <- HT2.out, <- HS2.out]
     clear hx0
     focus
      obtain ⟨hbt, ⟨ft0, ft1, ft2, ft3⟩, ct0, ct1, ct2, ct3⟩ := bx4 HO.out.blk; obtain ⟨hbe, ⟨fe0, fe1, fe2, fe3, fe4⟩, ce0, ce1, ce2, ce3, ce4⟩ := bx5 ((HO.out.re [2, 0, 1]).blk); go_wp2_with fail
      clear hbt ft0 ft1 ft2 ft3 ct0 ct1 ct2 ct3; clear hbe fe0 fe1 fe2 fe3 fe4 ce0 ce1 ce2 ce3 ce4
     try go_at_call 125
     refine (rfail_c (w0 := w0) (bp := bp) (fin := fin) (all := all) (v := v) (blk b3 (tobj ⟨k2, p2, n2, u2⟩) :: blk b6 (f7 u (x : Int)) :: blk b2 fobj0 :: ps) s2 5 p2 (by omega) (by omega) _ (HO.out.re [1, 0, 2])).mono ?_; rintro e W11 ⟨rfl, ho⟩; replace HO := Lib.hid ho; obtain ⟨sB, hsB⟩ : ∃ sB, sB = failS s2 5 p2 := ⟨_, rfl⟩; have HB : Hid (sB = stB fin sR) := by show _ = _; rw [hsB]; exact HB0.out
     rw [<- hsB] at HO; clear ho hsB HB0; go_wp2_with fail
     try go_at_call 163
     refine (rtoken_c (w0 := w0) (bp := bp) (fin := fin) (all := all) (v := v) (blk b3 (tobj ⟨k2, p2, n2, u2⟩) :: blk b6 (f7 u x) :: blk b2 fobj0 :: ps) sB _ HN.out HO.out).mono ?_; rintro e W12 ⟨rfl, ho⟩; obtain ⟨⟨k3, p3, n3, u3⟩, ht⟩ : ∃ t, t = nextT sB := ⟨_, rfl⟩; obtain ⟨s4, hs4⟩ : ∃ s4, s4 = nextS fin sB := ⟨_, rfl⟩; rw [<- ht]; rw [<- hs4] at ho; simp only [tval]; have HT3 := Lib.hid ht; have HS4 := Lib.hid hs4; have HO3 := Lib.hid ho.swap; obtain ⟨W13, hW13⟩ : ∃ W13, W13 = (((W12.setCell ⟨b3, 0, none⟩ (.int .i64 k3)).setCell ⟨b3, 1, none⟩ (.int .i64 p3)).setCell ⟨b3, 2, none⟩ (.int .i64 n3)).setCell ⟨b3, 3, none⟩ (.string (bs u3)) := ⟨_, rfl⟩; replace HO : Hid (Owns w0 W13 (rdP w0 bp fin all v s4 :: blk b3 (tobj ⟨k3, p3, n3, u3⟩) :: blk b6 (f7 u x) :: blk b2 fobj0 :: ps)) := by
      rw [hW13]; exact Lib.hid (st4 HO3.out (.int .i64 k3) (.int .i64 p3) (.int .i64 n3) (.string (bs u3))).swap
     clear ho ht hs4; by_cases hk3 : k3 = 2
     ·have hk3' : ((k3 : Int) != 2) = false := by simp; omega
      have HDD : Hid (s4 = stD fin sB) := by
       show _ = _; rw [stD, <- HT3.out, if_neg (by simpa using hk3), <- HS4.out]
      clear hk3; by_cases hn3 : 1000000 < n3
      ·have hn3' : (1000000 : Int) < (n3 : Int) := by omega
       have HD : Hid (Did (oneF fin (n + 1)) s (.mk 3 u x n3 []) (failS s4 10 p3)) := HDt.out sB ⟨k3, p3, n3, u3⟩ s4 (failS s4 10 p3) HB.out HT3.out HDD.out (by rw [stE, if_pos hn3]); clear hn3
       focus
        obtain ⟨hbt, ⟨ft0, ft1, ft2, ft3⟩, ct0, ct1, ct2, ct3⟩ := bx4 HO3.out.blk; go_wp2_with fail
        rw [<- hW13]; clear hW13; clear hbt ft0 ft1 ft2 ft3 ct0 ct1 ct2 ct3
       try go_at_call 125
       refine (rfail_c (w0 := w0) (bp := bp) (fin := fin) (all := all) (v := v) (blk b3 (tobj ⟨k3, p3, n3, u3⟩) :: blk b6 (f7 u x) :: blk b2 fobj0 :: ps) s4 10 p3 (by omega) (by omega) _ HO.out).mono ?_; clear HO; rintro e W14 ⟨rfl, ho⟩; have HO := Lib.hid ho; clear ho; simp only []; obtain ⟨hbt, ⟨ft0, ft1, ft2, ft3⟩, ct0, ct1, ct2, ct3⟩ := bx4 HO.out.swap.blk; obtain ⟨hbe, ⟨fe0, fe1, fe2, fe3, fe4⟩, ce0, ce1, ce2, ce3, ce4⟩ := bx5 ((HO.out.re [2, 0, 1]).blk); obtain ⟨hbz, ⟨fz0, fz1, fz2, fz3, fz4⟩, cz0, cz1, cz2, cz3, cz4⟩ := bx5 ((HO.out.re [3, 0, 1, 2]).blk); have m36 := Owns.ne (HO.out.re [1, 2, 0]); have m36' := m36.symm; have m32 := Owns.ne (HO.out.re [1, 3, 0, 2]); have m32' := m32.symm; have m62 := Owns.ne (HO.out.re [2, 3, 0, 1]); have m62' := m62.symm; repeat (first | go_values | go_skip | go_guarded | go_step | go_upon)
       have h1 := ((HO.out.re [2, 0, 1]).store (i := 3) (.int .i64 n3)).re [3, 1, 2, 0]; have h2 := st5 h1 (.int .i64 3) (.string (bs u)) (.int .i64 x) (.int .i64 n3) (.slice none 0 0); have h3 := (h2.pop.re [1, 2, 0]).pop.pop.leaf 3 u x n3 none 0; exact bodyPost_ret (rnot_res rfl h2.blk.1) (by rfl) (by first | exact ⟨_, _, _, rfl, HD.out, h3⟩ | exact ⟨_, _, rfl, _, HD.out, h3⟩)
      ·have hn3' : ¬ (1000000 : Int) < (n3 : Int) := by omega
       have HD : Hid (Did (oneF fin (n + 1)) s (.mk 3 u x n3 []) s4) := HDt.out sB ⟨k3, p3, n3, u3⟩ s4 s4 HB.out HT3.out HDD.out (by rw [stE, if_neg hn3]); clear hn3; subst hW13; obtain ⟨hbt, ⟨ft0, ft1, ft2, ft3⟩, ct0, ct1, ct2, ct3⟩ := bx4 HO3.out.blk; obtain ⟨hbe, ⟨fe0, fe1, fe2, fe3, fe4⟩, ce0, ce1, ce2, ce3, ce4⟩ := bx5 ((HO3.out.re [2, 0, 1]).blk); obtain ⟨hbz, ⟨fz0, fz1, fz2, fz3, fz4⟩, cz0, cz1, cz2, cz3, cz4⟩ := bx5 ((HO3.out.re [3, 0, 1, 2]).blk); have m36 := Owns.ne (HO3.out.re [0, 2, 1]); have m36' := m36.symm; have m32 := Owns.ne (HO3.out.re [0, 3, 1, 2]); have m32' := m32.symm; have m62 := Owns.ne (HO3.out.re [2, 3, 0, 1]); have m62' := m62.symm; repeat (first | go_values | go_skip | go_guarded | go_step | go_upon)
       have h1 := ((HO.out.re [2, 0, 1]).store (i := 3) (.int .i64 n3)).re [3, 1, 2, 0]; have h2 := st5 h1 (.int .i64 3) (.string (bs u)) (.int .i64 x) (.int .i64 n3) (.slice none 0 0); have h3 := (h2.pop.re [1, 2, 0]).pop.pop.leaf 3 u x n3 none 0; exact bodyPost_ret (rnot_res rfl h2.blk.1) (by rfl) (by first | exact ⟨_, _, _, rfl, HD.out, h3⟩ | exact ⟨_, _, rfl, _, HD.out, h3⟩)
     ·have hk3' : ((k3 : Int) != 2) = true := by simp; omega
      have HDD : Hid (failS s4 5 p3 = stD fin sB) := by
       show _ = _; rw [stD, <- HT3.out, if_pos (by simpa using hk3), <- HS4.out]
      clear hk3
      focus
       obtain ⟨hbt, ⟨ft0, ft1, ft2, ft3⟩, ct0, ct1, ct2, ct3⟩ := bx4 HO3.out.blk; go_wp2_with fail
       rw [<- hW13]; clear hW13; clear hbt ft0 ft1 ft2 ft3 ct0 ct1 ct2 ct3
      try go_at_call 125
      refine (rfail_c (w0 := w0) (bp := bp) (fin := fin) (all := all) (v := v) (blk b3 (tobj ⟨k3, p3, n3, u3⟩) :: blk b6 (f7 u x) :: blk b2 fobj0 :: ps) s4 5 p3 (by omega) (by omega) _ HO.out).mono ?_; clear HO; rintro e W14 ⟨rfl, ho⟩; have HO := Lib.hid ho; clear ho; simp only []; by_cases hn3 : 1000000 < n3
      ·have hn3' : (1000000 : Int) < (n3 : Int) := by omega
       have HD : Hid (Did (oneF fin (n + 1)) s (.mk 3 u x n3 []) (failS (failS s4 5 p3) 10 p3)) := HDt.out sB ⟨k3, p3, n3, u3⟩ _ _ HB.out HT3.out HDD.out (by rw [stE, if_pos hn3]); clear hn3
       focus
        obtain ⟨hbt, ⟨ft0, ft1, ft2, ft3⟩, ct0, ct1, ct2, ct3⟩ := bx4 HO.out.swap.blk; go_wp2_with fail
        clear hbt ft0 ft1 ft2 ft3 ct0 ct1 ct2 ct3
       try go_at_call 125
       refine (rfail_c (w0 := w0) (bp := bp) (fin := fin) (all := all) (v := v) (blk b3 (tobj ⟨k3, p3, n3, u3⟩) :: blk b6 (f7 u x) :: blk b2 fobj0 :: ps) (failS s4 5 p3) 10 p3 (by omega) (by omega) _ HO.out).mono ?_; clear HO; rintro e W14 ⟨rfl, ho⟩; have HO := Lib.hid ho; clear ho; simp only []; obtain ⟨hbt, ⟨ft0, ft1, ft2, ft3⟩, ct0, ct1, ct2, ct3⟩ := bx4 HO.out.swap.blk; obtain ⟨hbe, ⟨fe0, fe1, fe2, fe3, fe4⟩, ce0, ce1, ce2, ce3, ce4⟩ := bx5 ((HO.out.re [2, 0, 1]).blk); obtain ⟨hbz, ⟨fz0, fz1, fz2, fz3, fz4⟩, cz0, cz1, cz2, cz3, cz4⟩ := bx5 ((HO.out.re [3, 0, 1, 2]).blk); have m36 := Owns.ne (HO.out.re [1, 2, 0]); have m36' := m36.symm; have m32 := Owns.ne (HO.out.re [1, 3, 0, 2]); have m32' := m32.symm; have m62 := Owns.ne (HO.out.re [2, 3, 0, 1]); have m62' := m62.symm; repeat (first | go_values | go_skip | go_guarded | go_step | go_upon)
       have h1 := ((HO.out.re [2, 0, 1]).store (i := 3) (.int .i64 n3)).re [3, 1, 2, 0]; have h2 := st5 h1 (.int .i64 3) (.string (bs u)) (.int .i64 x) (.int .i64 n3) (.slice none 0 0); have h3 := (h2.pop.re [1, 2, 0]).pop.pop.leaf 3 u x n3 none 0; exact bodyPost_ret (rnot_res rfl h2.blk.1) (by rfl) (by first | exact ⟨_, _, _, rfl, HD.out, h3⟩ | exact ⟨_, _, rfl, _, HD.out, h3⟩)
      ·have hn3' : ¬ (1000000 : Int) < (n3 : Int) := by omega
       have HD : Hid (Did (oneF fin (n + 1)) s (.mk 3 u x n3 []) (failS s4 5 p3)) := HDt.out sB ⟨k3, p3, n3, u3⟩ _ _ HB.out HT3.out HDD.out (by rw [stE, if_neg hn3]); clear hn3; obtain ⟨hbt, ⟨ft0, ft1, ft2, ft3⟩, ct0, ct1, ct2, ct3⟩ := bx4 HO.out.swap.blk; obtain ⟨hbe, ⟨fe0, fe1, fe2, fe3, fe4⟩, ce0, ce1, ce2, ce3, ce4⟩ := bx5 ((HO.out.re [2, 0, 1]).blk); obtain ⟨hbz, ⟨fz0, fz1, fz2, fz3, fz4⟩, cz0, cz1, cz2, cz3, cz4⟩ := bx5 ((HO.out.re [3, 0, 1, 2]).blk); have m36 := Owns.ne (HO.out.re [1, 2, 0]); have m36' := m36.symm; have m32 := Owns.ne (HO.out.re [1, 3, 0, 2]); have m32' := m32.symm; have m62 := Owns.ne (HO.out.re [2, 3, 0, 1]); have m62' := m62.symm; repeat (first | go_values | go_skip | go_guarded | go_step | go_upon)
       have h1 := ((HO.out.re [2, 0, 1]).store (i := 3) (.int .i64 n3)).re [3, 1, 2, 0]; have h2 := st5 h1 (.int .i64 3) (.string (bs u)) (.int .i64 x) (.int .i64 n3) (.slice none 0 0); have h3 := (h2.pop.re [1, 2, 0]).pop.pop.leaf 3 u x n3 none 0; exact bodyPost_ret (rnot_res rfl h2.blk.1) (by rfl) (by first | exact ⟨_, _, _, rfl, HD.out, h3⟩ | exact ⟨_, _, rfl, _, HD.out, h3⟩)
    ·have hx0' : ((x : Int) == 0) = false := by simpa using hx0
     have HB0 : Hid (s2 = stB fin sR) := by
      show _ = _; rw [stR_eq, <- HX.out, if_neg hx0, <- HS2.out]
     clear hx0
     focus
      obtain ⟨hbe, ⟨fe0, fe1, fe2, fe3, fe4⟩, ce0, ce1, ce2, ce3, ce4⟩ := bx5 ((HO.out.re [2, 0, 1]).blk); go_wp2_with fail
      clear hbe fe0 fe1 fe2 fe3 fe4 ce0 ce1 ce2 ce3 ce4
     replace HO := Lib.hid (HO.out.re [1, 0, 2]); obtain ⟨sB, hsB⟩ : ∃ sB, sB = s2 := ⟨_, rfl⟩; have HB : Hid (sB = stB fin sR) := by show _ = _; rw [hsB]; exact HB0.out
     rw [<- hsB] at HO; clear hsB HB0
     try go_at_call 163
     refine (rtoken_c (w0 := w0) (bp := bp) (fin := fin) (all := all) (v := v) (blk b3 (tobj ⟨k2, p2, n2, u2⟩) :: blk b6 (f7 u x) :: blk b2 fobj0 :: ps) sB _ HN.out HO.out).mono ?_; rintro e W12 ⟨rfl, ho⟩; obtain ⟨⟨k3, p3, n3, u3⟩, ht⟩ : ∃ t, t = nextT sB := ⟨_, rfl⟩; obtain ⟨s4, hs4⟩ : ∃ s4, s4 = nextS fin sB := ⟨_, rfl⟩; rw [<- ht]; rw [<- hs4] at ho; simp only [tval]; have HT3 := Lib.hid ht; have HS4 := Lib.hid hs4; have HO3 := Lib.hid ho.swap; obtain ⟨W13, hW13⟩ : ∃ W13, W13 = (((W12.setCell ⟨b3, 0, none⟩ (.int .i64 k3)).setCell ⟨b3, 1, none⟩ (.int .i64 p3)).setCell ⟨b3, 2, none⟩ (.int .i64 n3)).setCell ⟨b3, 3, none⟩ (.string (bs u3)) := ⟨_, rfl⟩; replace HO : Hid (Owns w0 W13 (rdP w0 bp fin all v s4 :: blk b3 (tobj ⟨k3, p3, n3, u3⟩) :: blk b6 (f7 u x) :: blk b2 fobj0 :: ps)) := by
      rw [hW13]; exact Lib.hid (st4 HO3.out (.int .i64 k3) (.int .i64 p3) (.int .i64 n3) (.string (bs u3))).swap
     clear ho ht hs4; by_cases hk3 : k3 = 2
     ·have hk3' : ((k3 : Int) != 2) = false := by simp; omega
      have HDD : Hid (s4 = stD fin sB) := by
       show _ = _; rw [stD, <- HT3.out, if_neg (by simpa using hk3), <- HS4.out]
      clear hk3; by_cases hn3 : 1000000 < n3
      ·have hn3' : (1000000 : Int) < (n3 : Int) := by omega
       have HD : Hid (Did (oneF fin (n + 1)) s (.mk 3 u x n3 []) (failS s4 10 p3)) := HDt.out sB ⟨k3, p3, n3, u3⟩ s4 (failS s4 10 p3) HB.out HT3.out HDD.out (by rw [stE, if_pos hn3]); clear hn3
       focus
        obtain ⟨hbt, ⟨ft0, ft1, ft2, ft3⟩, ct0, ct1, ct2, ct3⟩ := bx4 HO3.out.blk; go_wp2_with fail
        rw [<- hW13]; clear hW13; clear hbt ft0 ft1 ft2 ft3 ct0 ct1 ct2 ct3
       try go_at_call 125
       refine (rfail_c (w0 := w0) (bp := bp) (fin := fin) (all := all) (v := v) (blk b3 (tobj ⟨k3, p3, n3, u3⟩) :: blk b6 (f7 u x) :: blk b2 fobj0 :: ps) s4 10 p3 (by omega) (by omega) _ HO.out).mono ?_; clear HO; rintro e W14 ⟨rfl, ho⟩; have HO := Lib.hid ho; clear ho; simp only []; obtain ⟨hbt, ⟨ft0, ft1, ft2, ft3⟩, ct0, ct1, ct2, ct3⟩ := bx4 HO.out.swap.blk; obtain ⟨hbe, ⟨fe0, fe1, fe2, fe3, fe4⟩, ce0, ce1, ce2, ce3, ce4⟩ := bx5 ((HO.out.re [2, 0, 1]).blk); obtain ⟨hbz, ⟨fz0, fz1, fz2, fz3, fz4⟩, cz0, cz1, cz2, cz3, cz4⟩ := bx5 ((HO.out.re [3, 0, 1, 2]).blk); have m36 := Owns.ne (HO.out.re [1, 2, 0]); have m36' := m36.symm; have m32 := Owns.ne (HO.out.re [1, 3, 0, 2]); have m32' := m32.symm; have m62 := Owns.ne (HO.out.re [2, 3, 0, 1]); have m62' := m62.symm; repeat (first | go_values | go_skip | go_guarded | go_step | go_upon)
       have h1 := ((HO.out.re [2, 0, 1]).store (i := 3) (.int .i64 n3)).re [3, 1, 2, 0]; have h2 := st5 h1 (.int .i64 3) (.string (bs u)) (.int .i64 x) (.int .i64 n3) (.slice none 0 0); have h3 := (h2.pop.re [1, 2, 0]).pop.pop.leaf 3 u x n3 none 0; exact bodyPost_ret (rnot_res rfl h2.blk.1) (by rfl) (by first | exact ⟨_, _, _, rfl, HD.out, h3⟩ | exact ⟨_, _, rfl, _, HD.out, h3⟩)
      ·have hn3' : ¬ (1000000 : Int) < (n3 : Int) := by omega
       have HD : Hid (Did (oneF fin (n + 1)) s (.mk 3 u x n3 []) s4) := HDt.out sB ⟨k3, p3, n3, u3⟩ s4 s4 HB.out HT3.out HDD.out (by rw [stE, if_neg hn3]); clear hn3; subst hW13; obtain ⟨hbt, ⟨ft0, ft1, ft2, ft3⟩, ct0, ct1, ct2, ct3⟩ := bx4 HO3.out.blk; obtain ⟨hbe, ⟨fe0, fe1, fe2, fe3, fe4⟩, ce0, ce1, ce2, ce3, ce4⟩ := bx5 ((HO3.out.re [2, 0, 1]).blk); obtain ⟨hbz, ⟨fz0, fz1, fz2, fz3, fz4⟩, cz0, cz1, cz2, cz3, cz4⟩ := bx5 ((HO3.out.re [3, 0, 1, 2]).blk); have m36 := Owns.ne (HO3.out.re [0, 2, 1]); have m36' := m36.symm; have m32 := Owns.ne (HO3.out.re [0, 3, 1, 2]); have m32' := m32.symm; have m62 := Owns.ne (HO3.out.re [2, 3, 0, 1]); have m62' := m62.symm; repeat (first | go_values | go_skip | go_guarded | go_step | go_upon)
       have h1 := ((HO.out.re [2, 0, 1]).store (i := 3) (.int .i64 n3)).re [3, 1, 2, 0]; have h2 := st5 h1 (.int .i64 3) (.string (bs u)) (.int .i64 x) (.int .i64 n3) (.slice none 0 0); have h3 := (h2.pop.re [1, 2, 0]).pop.pop.leaf 3 u x n3 none 0; exact bodyPost_ret (rnot_res rfl h2.blk.1) (by rfl) (by first | exact ⟨_, _, _, rfl, HD.out, h3⟩ | exact ⟨_, _, rfl, _, HD.out, h3⟩)
     ·have hk3' : ((k3 : Int) != 2) = true := by simp; omega
      have HDD : Hid (failS s4 5 p3 = stD fin sB) := by
       show _ = _; rw [stD, <- HT3.out, if_pos (by simpa using hk3), <- HS4.out]
      clear hk3
      focus
       obtain ⟨hbt, ⟨ft0, ft1, ft2, ft3⟩, ct0, ct1, ct2, ct3⟩ := bx4 HO3.out.blk; go_wp2_with fail
       rw [<- hW13]; clear hW13; clear hbt ft0 ft1 ft2 ft3 ct0 ct1 ct2 ct3
      try go_at_call 125
      refine (rfail_c (w0 := w0) (bp := bp) (fin := fin) (all := all) (v := v) (blk b3 (tobj ⟨k3, p3, n3, u3⟩) :: blk b6 (f7 u x) :: blk b2 fobj0 :: ps) s4 5 p3 (by omega) (by omega) _ HO.out).mono ?_; clear HO; rintro e W14 ⟨rfl, ho⟩; have HO := Lib.hid ho; clear ho; simp only []; by_cases hn3 : 1000000 < n3
      ·have hn3' : (1000000 : Int) < (n3 : Int) := by omega
       have HD : Hid (Did (oneF fin (n + 1)) s (.mk 3 u x n3 []) (failS (failS s4 5 p3) 10 p3)) := HDt.out sB ⟨k3, p3, n3, u3⟩ _ _ HB.out HT3.out HDD.out (by rw [stE, if_pos hn3]); clear hn3
       focus
        obtain ⟨hbt, ⟨ft0, ft1, ft2, ft3⟩, ct0, ct1, ct2, ct3⟩ := bx4 HO.out.swap.blk; go_wp2_with fail
        clear hbt ft0 ft1 ft2 ft3 ct0 ct1 ct2 ct3
       try go_at_call 125
       refine (rfail_c (w0 := w0) (bp := bp) (fin := fin) (all := all) (v := v) (blk b3 (tobj ⟨k3, p3, n3, u3⟩) :: blk b6 (f7 u x) :: blk b2 fobj0 :: ps) (failS s4 5 p3) 10 p3 (by omega) (by omega) _ HO.out).mono ?_; clear HO; rintro e W14 ⟨rfl, ho⟩; have HO := Lib.hid ho; clear ho; simp only []; obtain ⟨hbt, ⟨ft0, ft1, ft2, ft3⟩, ct0, ct1, ct2, ct3⟩ := bx4 HO.out.swap.blk; obtain ⟨hbe, ⟨fe0, fe1, fe2, fe3, fe4⟩, ce0, ce1, ce2, ce3, ce4⟩ := bx5 ((HO.out.re [2, 0, 1]).blk); obtain ⟨hbz, ⟨fz0, fz1, fz2, fz3, fz4⟩, cz0, cz1, cz2, cz3, cz4⟩ := bx5 ((HO.out.re [3, 0, 1, 2]).blk); have m36 := Owns.ne (HO.out.re [1, 2, 0]); have m36' := m36.symm; have m32 := Owns.ne (HO.out.re [1, 3, 0, 2]); have m32' := m32.symm; have m62 := Owns.ne (HO.out.re [2, 3, 0, 1]); have m62' := m62.symm; repeat (first | go_values | go_skip | go_guarded | go_step | go_upon)
       have h1 := ((HO.out.re [2, 0, 1]).store (i := 3) (.int .i64 n3)).re [3, 1, 2, 0]; have h2 := st5 h1 (.int .i64 3) (.string (bs u)) (.int .i64 x) (.int .i64 n3) (.slice none 0 0); have h3 := (h2.pop.re [1, 2, 0]).pop.pop.leaf 3 u x n3 none 0; exact bodyPost_ret (rnot_res rfl h2.blk.1) (by rfl) (by first | exact ⟨_, _, _, rfl, HD.out, h3⟩ | exact ⟨_, _, rfl, _, HD.out, h3⟩)
      ·have hn3' : ¬ (1000000 : Int) < (n3 : Int) := by omega
       have HD : Hid (Did (oneF fin (n + 1)) s (.mk 3 u x n3 []) (failS s4 5 p3)) := HDt.out sB ⟨k3, p3, n3, u3⟩ _ _ HB.out HT3.out HDD.out (by rw [stE, if_neg hn3]); clear hn3; obtain ⟨hbt, ⟨ft0, ft1, ft2, ft3⟩, ct0, ct1, ct2, ct3⟩ := bx4 HO.out.swap.blk; obtain ⟨hbe, ⟨fe0, fe1, fe2, fe3, fe4⟩, ce0, ce1, ce2, ce3, ce4⟩ := bx5 ((HO.out.re [2, 0, 1]).blk); obtain ⟨hbz, ⟨fz0, fz1, fz2, fz3, fz4⟩, cz0, cz1, cz2, cz3, cz4⟩ := bx5 ((HO.out.re [3, 0, 1, 2]).blk); have m36 := Owns.ne (HO.out.re [1, 2, 0]); have m36' := m36.symm; have m32 := Owns.ne (HO.out.re [1, 3, 0, 2]); have m32' := m32.symm; have m62 := Owns.ne (HO.out.re [2, 3, 0, 1]); have m62' := m62.symm; repeat (first | go_values | go_skip | go_guarded | go_step | go_upon)
       have h1 := ((HO.out.re [2, 0, 1]).store (i := 3) (.int .i64 n3)).re [3, 1, 2, 0]; have h2 := st5 h1 (.int .i64 3) (.string (bs u)) (.int .i64 x) (.int .i64 n3) (.slice none 0 0); have h3 := (h2.pop.re [1, 2, 0]).pop.pop.leaf 3 u x n3 none 0; exact bodyPost_ret (rnot_res rfl h2.blk.1) (by rfl) (by first | exact ⟨_, _, _, rfl, HD.out, h3⟩ | exact ⟨_, _, rfl, _, HD.out, h3⟩)
 have HDt : Hid (∀ (sB : PSt) (m : Tok) (sD sE : PSt), sB = stB fin s1 -> m = nextT sB -> sD = stD fin sB -> sE = stE m sD -> Did (oneF fin (n + 1)) s (.mk 3 u (xT (nextT s1) : Nat) m.num []) sE) := by
  have h := rest_good (fin := fin) (n := n) (t := ⟨kd, po, nu, u⟩) (r := r) HKD.out HU.out.1 HU.out.2.1 HU.out.2.2.1 HU.out.2.2.2 HQ.out.symm; rw [<- HE1.out.2, <- HE1.out.1] at h; exact Lib.hid h
 obtain ⟨sR, hsR⟩ : ∃ sR, sR = s1 := ⟨_, rfl⟩; rw [<- hsR] at HO HDt; clear hsR; obtain ⟨Wd, hWd⟩ : ∃ Wd, Wd = Wc := ⟨_, rfl⟩; clear hWd; obtain ⟨W5, hW5⟩ : ∃ W5, W5 = Wc.alloc (.cells #[.int .i64 3, .string (bs u), .int .i64 0, .int .i64 0, .slice none 0 0] 24) := ⟨_, rfl⟩; obtain ⟨b6, hb6⟩ : ∃ b6, b6 = Wc.heap.size := ⟨_, rfl⟩; have HO5 : Hid (Owns w0 W5 (rdP w0 bp fin all v sR :: blk b6 (f7 u 0) :: blk b3 (tobj ⟨kd, po, nu, u⟩) :: blk b2 fobj0 :: ps)) := by
  rw [hW5, hb6]; exact Lib.hid (HO.out.box (f7 u 0)).swap
 focus
  obtain ⟨hbt, ⟨ft0, ft1, ft2, ft3⟩, ct0, ct1, ct2, ct3⟩ := bx4 HO.out.swap.blk; go_wp2_with fail
  rw [<- hW5, <- hb6]; clear hW5 hb6; clear hbt ft0 ft1 ft2 ft3 ct0 ct1 ct2 ct3
 replace HO := HO5; clear HO5
 try go_at_call 163
 refine (rtoken_c (w0 := w0) (bp := bp) (fin := fin) (all := all) (v := v) (blk b6 (f7 u 0) :: blk b3 (tobj ⟨kd, po, nu, u⟩) :: blk b2 fobj0 :: ps) sR W5 HN.out HO.out).mono ?_; rintro e W6 ⟨rfl, ho⟩; obtain ⟨⟨k2, p2, n2, u2⟩, ht⟩ : ∃ t, t = nextT sR := ⟨_, rfl⟩; obtain ⟨s2, hs2⟩ : ∃ s2, s2 = nextS fin sR := ⟨_, rfl⟩; rw [<- ht]; rw [<- hs2] at ho; simp only [tval]; have HT2 := Lib.hid ht; have HS2 := Lib.hid hs2; have HO3 := Lib.hid (ho.re [2, 0, 1]); obtain ⟨W7, hW7⟩ : ∃ W7, W7 = (((W6.setCell ⟨b3, 0, none⟩ (.int .i64 k2)).setCell ⟨b3, 1, none⟩ (.int .i64 p2)).setCell ⟨b3, 2, none⟩ (.int .i64 n2)).setCell ⟨b3, 3, none⟩ (.string (bs u2)) := ⟨_, rfl⟩; replace HO : Hid (Owns w0 W7 (blk b3 (tobj ⟨k2, p2, n2, u2⟩) :: rdP w0 bp fin all v s2 :: blk b6 (f7 u 0) :: blk b2 fobj0 :: ps)) := by
  rw [hW7]; exact Lib.hid (st4 HO3.out (.int .i64 k2) (.int .i64 p2) (.int .i64 n2) (.string (bs u2)))
 clear ho ht hs2
 focus
  obtain ⟨hbt, ⟨ft0, ft1, ft2, ft3⟩, ct0, ct1, ct2, ct3⟩ := bx4 HO3.out.blk; go_wp2_with fail
  rw [<- hW7]; clear hW7; clear hbt ft0 ft1 ft2 ft3 ct0 ct1 ct2 ct3
 clear HO3; have H0 : Hid (Owns w0 W7 (blk b3 (tobj ⟨k2, p2, n2, u2⟩) :: rdP w0 bp fin all v s2 :: blk b6 (f7 u ((xK ⟨k2, p2, n2, u2⟩ 1 : Nat) : Int)) :: blk b2 fobj0 :: ps)) := by
  rw [xK_one]; exact HO
 go_loopg [6] 6 (fun gk kv wr => ∃ k : Nat, gk = 7 - k /\ 1 <= k /\ k <= 7 /\ kv = .int .i64 (k : Int) /\ Hid (Owns w0 wr (blk b3 (tobj ⟨k2, p2, n2, u2⟩) :: rdP w0 bp fin all v s2 :: blk b6 (f7 u ((xK ⟨k2, p2, n2, u2⟩ k : Nat) : Int)) :: blk b2 fobj0 :: ps)))
 case atStart => exact ⟨1, rfl, by omega, by omega, rfl, H0⟩
 case round =>
  rename_i J1 K1 hJ1 hK1; clear HO H0; obtain ⟨k, rfl, hk1, hk7, rfl, HO⟩ := hrel; go_wp2_with fail
  try go_at_call 119
  refine (comparisons_c wr).mono ?_; rintro e W8 ⟨gs, rfl, hgs, hW8⟩; have hb8 : Below wr.heap.size wr W8 := by rw [hW8]; exact (Below.refl _ _).alloc (Nat.le_refl _) _
  replace HO := Lib.hid (HO.out.below hb8); clear hW8 hgs hb8; by_cases hlt : k < 7
  ·have hk6 : k <= 6 := by omega
   go_wp2_with fail
   refine wp_region_canA [6] (List.range 12) ?_; replace HO := Lib.hid HO.out.drew; generalize hWd : World.drew _ = W9 at HO ⊢; clear hWd; by_cases h24 : k2 = 4
   ·have h24' : ((k2 : Int) == 4) = true := by simp; omega
    have H24 := Lib.hid h24; clear h24
    focus
     obtain ⟨hbt, ⟨ft0, ft1, ft2, ft3⟩, ct0, ct1, ct2, ct3⟩ := bx4 HO.out.blk; iterate 6 (first | (refine cl_doA rfl rfl rfl (fun _ _ => ?_); go_wp2_with fail) | (refine cl_yesA rfl rfl rfl rfl (fun _ _ => ?_); go_wp2_with fail))
     clear hbt ft0 ft1 ft2 ft3 ct0 ct1 ct2 ct3
    refine cl_ycall (i := 6) rfl rfl rfl (by first | rfl | simp [okB, lenV, plainV, Act.eval]) (fun K hK => ?_); go_wp2_with fail
    try go_at_call 119
    refine (comparisons_c W9).mono ?_; rintro e W10 ⟨g2, rfl, hg2, hW10⟩; have hb10 : Below W9.heap.size W9 W10 := by rw [hW10]; exact (Below.refl _ _).alloc (Nat.le_refl _) _
    have bks : W10.heap[g2]? = some symObj := by rw [hW10]; exact new_heap _ _ _ hg2
    have hg2l := lt_of_block bks; have cs := sym_cell bks hk1 hk6; have Hb := Lib.hid hb10; replace HO := Lib.hid (HO.out.below hb10); clear hW10 hg2 hb10 bks; go_wp2_with fail
    refine And.intro Hb.out ?_; clear Hb; by_cases hm : u2 = symB (k : Int)
    ·have hm' : (u2 == symB (k : Int)) = true := by simpa using hm
     have HX : Hid (xK ⟨k2, p2, n2, u2⟩ (k + 1) = k) := Lib.hid (xK_hit H24.out ((sym_iff hk1 hk6).1 hm)); clear hm; iterate 5 (first | (refine cl_doA rfl rfl rfl (fun _ _ => ?_); go_wp2_with fail) | (refine cl_yesA rfl rfl rfl rfl (fun _ _ => ?_); go_wp2_with fail))
     refine cl_nil ?_; have HO6 := Lib.hid (HO.out.re [2, 0, 1]); have HO7 : Hid (Owns w0 (W10.setCell ⟨b6, 2, none⟩ (.int .i64 (k : Int))) (blk b3 (tobj ⟨k2, p2, n2, u2⟩) :: rdP w0 bp fin all v s2 :: blk b6 (f7 u ((xK ⟨k2, p2, n2, u2⟩ (k + 1) : Nat) : Int)) :: blk b2 fobj0 :: ps)) := by
      rw [HX.out]; exact Lib.hid ((HO6.out.store (i := 2) (.int .i64 (k : Int))).re [1, 2, 0])
     focus
      obtain ⟨hbe, ⟨fe0, fe1, fe2, fe3, fe4⟩, ce0, ce1, ce2, ce3, ce4⟩ := bx5 HO6.out.blk; clear HO; go_wp2_with fail
      go_roundg (7 - (k + 1))
      case measure => omega
      case rel => exact ⟨k + 1, rfl, by omega, by omega, by go_num, HO7⟩
    ·have hm' : (u2 == symB (k : Int)) = false := by simpa using hm
     have HX : Hid (xK ⟨k2, p2, n2, u2⟩ (k + 1) = xK ⟨k2, p2, n2, u2⟩ k) := Lib.hid (xK_miss fun h => hm ((sym_iff hk1 hk6).2 h.2)); clear hm; iterate 5 (first | (refine cl_doA rfl rfl rfl (fun _ _ => ?_); go_wp2_with fail) | (refine cl_yesA rfl rfl rfl rfl (fun _ _ => ?_); go_wp2_with fail))
     refine cl_nil ?_; rw [<- HX.out] at HO; go_wp2_with fail
     go_roundg (7 - (k + 1))
     case measure => omega
     case rel => exact ⟨k + 1, rfl, by omega, by omega, by go_num, HO⟩
   ·have h24' : ((k2 : Int) == 4) = false := by simp; omega
    have HX : Hid (xK ⟨k2, p2, n2, u2⟩ (k + 1) = xK ⟨k2, p2, n2, u2⟩ k) := Lib.hid (xK_miss fun h => h24 h.1); clear h24
    focus
     obtain ⟨hbt, ⟨ft0, ft1, ft2, ft3⟩, ct0, ct1, ct2, ct3⟩ := bx4 HO.out.blk; iterate 12 (first | (refine cl_doA rfl rfl rfl (fun _ _ => ?_); go_wp2_with fail) | (refine cl_no rfl rfl rfl ?_; go_simp))
     clear hbt ft0 ft1 ft2 ft3 ct0 ct1 ct2 ct3
    refine cl_nil ?_; rw [<- HX.out] at HO; go_wp2_with fail
    go_roundg (7 - (k + 1))
    case measure => omega
    case rel => exact ⟨k + 1, rfl, by omega, by omega, by go_num, HO⟩
  ·obtain rfl : k = 7 := by omega
   obtain ⟨x, hx⟩ : ∃ x, x = xT ⟨k2, p2, n2, u2⟩ := ⟨_, rfl⟩; rw [xK_last, <- hx] at HO; have hx6 : x <= 6 := by rw [hx]; exact xT_le _
   have HX := Lib.hid hx; rw [HT2.out] at HX; rw [<- HX.out] at HDt; clear hx hJ1 hK1 hlt hk1 hk7; by_cases hx0 : x = 0
   ·have hx0' : ((x : Int) == 0) = true := by simpa using hx0
    have HB0 : Hid (failS s2 5 p2 = stB fin sR) := by
     show _ = _; rw [stR_eq, <- HX.out, if_pos hx0, <- HT2.out, <- HS2.out]
    clear hx0
    focus
     obtain ⟨hbt, ⟨ft0, ft1, ft2, ft3⟩, ct0, ct1, ct2, ct3⟩ := bx4 HO.out.blk; obtain ⟨hbe, ⟨fe0, fe1, fe2, fe3, fe4⟩, ce0, ce1, ce2, ce3, ce4⟩ := bx5 ((HO.out.re [2, 0, 1]).blk); go_wp2_with fail
     clear hbt ft0 ft1 ft2 ft3 ct0 ct1 ct2 ct3; clear hbe fe0 fe1 fe2 fe3 fe4 ce0 ce1 ce2 ce3 ce4
    try go_at_call 125
    refine (rfail_c (w0 := w0) (bp := bp) (fin := fin) (all := all) (v := v) (blk b3 (tobj ⟨k2, p2, n2, u2⟩) :: blk b6 (f7 u (x : Int)) :: blk b2 fobj0 :: ps) s2 5 p2 (by omega) (by omega) _ (HO.out.re [1, 0, 2])).mono ?_; rintro e W11 ⟨rfl, ho⟩; replace HO := Lib.hid ho; obtain ⟨sB, hsB⟩ : ∃ sB, sB = failS s2 5 p2 := ⟨_, rfl⟩; have HB : Hid (sB = stB fin sR) := by show _ = _; rw [hsB]; exact HB0.out
    rw [<- hsB] at HO; clear ho hsB HB0; go_wp2_with fail
    try go_at_call 163
    refine (rtoken_c (w0 := w0) (bp := bp) (fin := fin) (all := all) (v := v) (blk b3 (tobj ⟨k2, p2, n2, u2⟩) :: blk b6 (f7 u x) :: blk b2 fobj0 :: ps) sB _ HN.out HO.out).mono ?_; rintro e W12 ⟨rfl, ho⟩; obtain ⟨⟨k3, p3, n3, u3⟩, ht⟩ : ∃ t, t = nextT sB := ⟨_, rfl⟩; obtain ⟨s4, hs4⟩ : ∃ s4, s4 = nextS fin sB := ⟨_, rfl⟩; rw [<- ht]; rw [<- hs4] at ho; simp only [tval]; have HT3 := Lib.hid ht; have HS4 := Lib.hid hs4; have HO3 := Lib.hid ho.swap; obtain ⟨W13, hW13⟩ : ∃ W13, W13 = (((W12.setCell ⟨b3, 0, none⟩ (.int .i64 k3)).setCell ⟨b3, 1, none⟩ (.int .i64 p3)).setCell ⟨b3, 2, none⟩ (.int .i64 n3)).setCell ⟨b3, 3, none⟩ (.string (bs u3)) := ⟨_, rfl⟩; replace HO : Hid (Owns w0 W13 (rdP w0 bp fin all v s4 :: blk b3 (tobj ⟨k3, p3, n3, u3⟩) :: blk b6 (f7 u x) :: blk b2 fobj0 :: ps)) := by
     rw [hW13]; exact Lib.hid (st4 HO3.out (.int .i64 k3) (.int .i64 p3) (.int .i64 n3) (.string (bs u3))).swap
    clear ho ht hs4; by_cases hk3 : k3 = 2
    ·have hk3' : ((k3 : Int) != 2) = false := by simp; omega
     have HDD : Hid (s4 = stD fin sB) := by
      show _ = _; rw [stD, <- HT3.out, if_neg (by simpa using hk3), <- HS4.out]
     clear hk3; by_cases hn3 : 1000000 < n3
     ·have hn3' : (1000000 : Int) < (n3 : Int) := by omega
      have HD : Hid (Did (oneF fin (n + 1)) s (.mk 3 u x n3 []) (failS s4 10 p3)) := HDt.out sB ⟨k3, p3, n3, u3⟩ s4 (failS s4 10 p3) HB.out HT3.out HDD.out (by rw [stE, if_pos hn3]); clear hn3
      focus
       obtain ⟨hbt, ⟨ft0, ft1, ft2, ft3⟩, ct0, ct1, ct2, ct3⟩ := bx4 HO3.out.blk; go_wp2_with fail
       rw [<- hW13]; clear hW13; clear hbt ft0 ft1 ft2 ft3 ct0 ct1 ct2 ct3
      try go_at_call 125
      refine (rfail_c (w0 := w0) (bp := bp) (fin := fin) (all := all) (v := v) (blk b3 (tobj ⟨k3, p3, n3, u3⟩) :: blk b6 (f7 u x) :: blk b2 fobj0 :: ps) s4 10 p3 (by omega) (by omega) _ HO.out).mono ?_; clear HO; rintro e W14 ⟨rfl, ho⟩; have HO := Lib.hid ho; clear ho; simp only []; obtain ⟨hbt, ⟨ft0, ft1, ft2, ft3⟩, ct0, ct1, ct2, ct3⟩ := bx4 HO.out.swap.blk; obtain ⟨hbe, ⟨fe0, fe1, fe2, fe3, fe4⟩, ce0, ce1, ce2, ce3, ce4⟩ := bx5 ((HO.out.re [2, 0, 1]).blk); obtain ⟨hbz, ⟨fz0, fz1, fz2, fz3, fz4⟩, cz0, cz1, cz2, cz3, cz4⟩ := bx5 ((HO.out.re [3, 0, 1, 2]).blk); have m36 := Owns.ne (HO.out.re [1, 2, 0]); have m36' := m36.symm; have m32 := Owns.ne (HO.out.re [1, 3, 0, 2]); have m32' := m32.symm; have m62 := Owns.ne (HO.out.re [2, 3, 0, 1]); have m62' := m62.symm; repeat (first | go_values | go_skip | go_guarded | go_step | go_upon)
      have h1 := ((HO.out.re [2, 0, 1]).store (i := 3) (.int .i64 n3)).re [3, 1, 2, 0]; have h2 := st5 h1 (.int .i64 3) (.string (bs u)) (.int .i64 x) (.int .i64 n3) (.slice none 0 0); have h3 := (h2.pop.re [1, 2, 0]).pop.pop.leaf 3 u x n3 none 0; exact bodyPost_ret (rnot_res rfl h2.blk.1) (by rfl) (by first | exact ⟨_, _, _, rfl, HD.out, h3⟩ | exact ⟨_, _, rfl, _, HD.out, h3⟩)
     ·have hn3' : ¬ (1000000 : Int) < (n3 : Int) := by omega
      have HD : Hid (Did (oneF fin (n + 1)) s (.mk 3 u x n3 []) s4) := HDt.out sB ⟨k3, p3, n3, u3⟩ s4 s4 HB.out HT3.out HDD.out (by rw [stE, if_neg hn3]); clear hn3; subst hW13; obtain ⟨hbt, ⟨ft0, ft1, ft2, ft3⟩, ct0, ct1, ct2, ct3⟩ := bx4 HO3.out.blk; obtain ⟨hbe, ⟨fe0, fe1, fe2, fe3, fe4⟩, ce0, ce1, ce2, ce3, ce4⟩ := bx5 ((HO3.out.re [2, 0, 1]).blk); obtain ⟨hbz, ⟨fz0, fz1, fz2, fz3, fz4⟩, cz0, cz1, cz2, cz3, cz4⟩ := bx5 ((HO3.out.re [3, 0, 1, 2]).blk); have m36 := Owns.ne (HO3.out.re [0, 2, 1]); have m36' := m36.symm; have m32 := Owns.ne (HO3.out.re [0, 3, 1, 2]); have m32' := m32.symm; have m62 := Owns.ne (HO3.out.re [2, 3, 0, 1]); have m62' := m62.symm; repeat (first | go_values | go_skip | go_guarded | go_step | go_upon)
      have h1 := ((HO.out.re [2, 0, 1]).store (i := 3) (.int .i64 n3)).re [3, 1, 2, 0]; have h2 := st5 h1 (.int .i64 3) (.string (bs u)) (.int .i64 x) (.int .i64 n3) (.slice none 0 0); have h3 := (h2.pop.re [1, 2, 0]).pop.pop.leaf 3 u x n3 none 0; exact bodyPost_ret (rnot_res rfl h2.blk.1) (by rfl) (by first | exact ⟨_, _, _, rfl, HD.out, h3⟩ | exact ⟨_, _, rfl, _, HD.out, h3⟩)
    ·have hk3' : ((k3 : Int) != 2) = true := by simp; omega
     have HDD : Hid (failS s4 5 p3 = stD fin sB) := by
      show _ = _; rw [stD, <- HT3.out, if_pos (by simpa using hk3), <- HS4.out]
     clear hk3
     focus
      obtain ⟨hbt, ⟨ft0, ft1, ft2, ft3⟩, ct0, ct1, ct2, ct3⟩ := bx4 HO3.out.blk; go_wp2_with fail
      rw [<- hW13]; clear hW13; clear hbt ft0 ft1 ft2 ft3 ct0 ct1 ct2 ct3
     try go_at_call 125
     refine (rfail_c (w0 := w0) (bp := bp) (fin := fin) (all := all) (v := v) (blk b3 (tobj ⟨k3, p3, n3, u3⟩) :: blk b6 (f7 u x) :: blk b2 fobj0 :: ps) s4 5 p3 (by omega) (by omega) _ HO.out).mono ?_; clear HO; rintro e W14 ⟨rfl, ho⟩; have HO := Lib.hid ho; clear ho; simp only []; by_cases hn3 : 1000000 < n3
     ·have hn3' : (1000000 : Int) < (n3 : Int) := by omega
      have HD : Hid (Did (oneF fin (n + 1)) s (.mk 3 u x n3 []) (failS (failS s4 5 p3) 10 p3)) := HDt.out sB ⟨k3, p3, n3, u3⟩ _ _ HB.out HT3.out HDD.out (by rw [stE, if_pos hn3]); clear hn3
      focus
       obtain ⟨hbt, ⟨ft0, ft1, ft2, ft3⟩, ct0, ct1, ct2, ct3⟩ := bx4 HO.out.swap.blk; go_wp2_with fail
       clear hbt ft0 ft1 ft2 ft3 ct0 ct1 ct2 ct3
      try go_at_call 125
      refine (rfail_c (w0 := w0) (bp := bp) (fin := fin) (all := all) (v := v) (blk b3 (tobj ⟨k3, p3, n3, u3⟩) :: blk b6 (f7 u x) :: blk b2 fobj0 :: ps) (failS s4 5 p3) 10 p3 (by omega) (by omega) _ HO.out).mono ?_; clear HO; rintro e W14 ⟨rfl, ho⟩; have HO := Lib.hid ho; clear ho; simp only []; obtain ⟨hbt, ⟨ft0, ft1, ft2, ft3⟩, ct0, ct1, ct2, ct3⟩ := bx4 HO.out.swap.blk; obtain ⟨hbe, ⟨fe0, fe1, fe2, fe3, fe4⟩, ce0, ce1, ce2, ce3, ce4⟩ := bx5 ((HO.out.re [2, 0, 1]).blk); obtain ⟨hbz, ⟨fz0, fz1, fz2, fz3, fz4⟩, cz0, cz1, cz2, cz3, cz4⟩ := bx5 ((HO.out.re [3, 0, 1, 2]).blk); have m36 := Owns.ne (HO.out.re [1, 2, 0]); have m36' := m36.symm; have m32 := Owns.ne (HO.out.re [1, 3, 0, 2]); have m32' := m32.symm; have m62 := Owns.ne (HO.out.re [2, 3, 0, 1]); have m62' := m62.symm; repeat (first | go_values | go_skip | go_guarded | go_step | go_upon)
      have h1 := ((HO.out.re [2, 0, 1]).store (i := 3) (.int .i64 n3)).re [3, 1, 2, 0]; have h2 := st5 h1 (.int .i64 3) (.string (bs u)) (.int .i64 x) (.int .i64 n3) (.slice none 0 0); have h3 := (h2.pop.re [1, 2, 0]).pop.pop.leaf 3 u x n3 none 0; exact bodyPost_ret (rnot_res rfl h2.blk.1) (by rfl) (by first | exact ⟨_, _, _, rfl, HD.out, h3⟩ | exact ⟨_, _, rfl, _, HD.out, h3⟩)
     ·have hn3' : ¬ (1000000 : Int) < (n3 : Int) := by omega
      have HD : Hid (Did (oneF fin (n + 1)) s (.mk 3 u x n3 []) (failS s4 5 p3)) := HDt.out sB ⟨k3, p3, n3, u3⟩ _ _ HB.out HT3.out HDD.out (by rw [stE, if_neg hn3]); clear hn3; obtain ⟨hbt, ⟨ft0, ft1, ft2, ft3⟩, ct0, ct1, ct2, ct3⟩ := bx4 HO.out.swap.blk; obtain ⟨hbe, ⟨fe0, fe1, fe2, fe3, fe4⟩, ce0, ce1, ce2, ce3, ce4⟩ := bx5 ((HO.out.re [2, 0, 1]).blk); obtain ⟨hbz, ⟨fz0, fz1, fz2, fz3, fz4⟩, cz0, cz1, cz2, cz3, cz4⟩ := bx5 ((HO.out.re [3, 0, 1, 2]).blk); have m36 := Owns.ne (HO.out.re [1, 2, 0]); have m36' := m36.symm; have m32 := Owns.ne (HO.out.re [1, 3, 0, 2]); have m32' := m32.symm; have m62 := Owns.ne (HO.out.re [2, 3, 0, 1]); have m62' := m62.symm; repeat (first | go_values | go_skip | go_guarded | go_step | go_upon)
      have h1 := ((HO.out.re [2, 0, 1]).store (i := 3) (.int .i64 n3)).re [3, 1, 2, 0]; have h2 := st5 h1 (.int .i64 3) (.string (bs u)) (.int .i64 x) (.int .i64 n3) (.slice none 0 0); have h3 := (h2.pop.re [1, 2, 0]).pop.pop.leaf 3 u x n3 none 0; exact bodyPost_ret (rnot_res rfl h2.blk.1) (by rfl) (by first | exact ⟨_, _, _, rfl, HD.out, h3⟩ | exact ⟨_, _, rfl, _, HD.out, h3⟩)
   ·have hx0' : ((x : Int) == 0) = false := by simpa using hx0
    have HB0 : Hid (s2 = stB fin sR) := by
     show _ = _; rw [stR_eq, <- HX.out, if_neg hx0, <- HS2.out]
    clear hx0
    focus
     obtain ⟨hbe, ⟨fe0, fe1, fe2, fe3, fe4⟩, ce0, ce1, ce2, ce3, ce4⟩ := bx5 ((HO.out.re [2, 0, 1]).blk); go_wp2_with fail
     clear hbe fe0 fe1 fe2 fe3 fe4 ce0 ce1 ce2 ce3 ce4
    replace HO := Lib.hid (HO.out.re [1, 0, 2]); obtain ⟨sB, hsB⟩ : ∃ sB, sB = s2 := ⟨_, rfl⟩; have HB : Hid (sB = stB fin sR) := by show _ = _; rw [hsB]; exact HB0.out
    rw [<- hsB] at HO; clear hsB HB0
    try go_at_call 163
    refine (rtoken_c (w0 := w0) (bp := bp) (fin := fin) (all := all) (v := v) (blk b3 (tobj ⟨k2, p2, n2, u2⟩) :: blk b6 (f7 u x) :: blk b2 fobj0 :: ps) sB _ HN.out HO.out).mono ?_; rintro e W12 ⟨rfl, ho⟩; obtain ⟨⟨k3, p3, n3, u3⟩, ht⟩ : ∃ t, t = nextT sB := ⟨_, rfl⟩; obtain ⟨s4, hs4⟩ : ∃ s4, s4 = nextS fin sB := ⟨_, rfl⟩; rw [<- ht]; rw [<- hs4] at ho; simp only [tval]; have HT3 := Lib.hid ht; have HS4 := Lib.hid hs4; have HO3 := Lib.hid ho.swap; obtain ⟨W13, hW13⟩ : ∃ W13, W13 = (((W12.setCell ⟨b3, 0, none⟩ (.int .i64 k3)).setCell ⟨b3, 1, none⟩ (.int .i64 p3)).setCell ⟨b3, 2, none⟩ (.int .i64 n3)).setCell ⟨b3, 3, none⟩ (.string (bs u3)) := ⟨_, rfl⟩; replace HO : Hid (Owns w0 W13 (rdP w0 bp fin all v s4 :: blk b3 (tobj ⟨k3, p3, n3, u3⟩) :: blk b6 (f7 u x) :: blk b2 fobj0 :: ps)) := by
     rw [hW13]; exact Lib.hid (st4 HO3.out (.int .i64 k3) (.int .i64 p3) (.int .i64 n3) (.string (bs u3))).swap
    clear ho ht hs4; by_cases hk3 : k3 = 2
    ·have hk3' : ((k3 : Int) != 2) = false := by simp; omega
     have HDD : Hid (s4 = stD fin sB) := by
      show _ = _; rw [stD, <- HT3.out, if_neg (by simpa using hk3), <- HS4.out]
     clear hk3; by_cases hn3 : 1000000 < n3
     ·have hn3' : (1000000 : Int) < (n3 : Int) := by omega
      have HD : Hid (Did (oneF fin (n + 1)) s (.mk 3 u x n3 []) (failS s4 10 p3)) := HDt.out sB ⟨k3, p3, n3, u3⟩ s4 (failS s4 10 p3) HB.out HT3.out HDD.out (by rw [stE, if_pos hn3]); clear hn3
      focus
       obtain ⟨hbt, ⟨ft0, ft1, ft2, ft3⟩, ct0, ct1, ct2, ct3⟩ := bx4 HO3.out.blk; go_wp2_with fail
       rw [<- hW13]; clear hW13; clear hbt ft0 ft1 ft2 ft3 ct0 ct1 ct2 ct3
      try go_at_call 125
      refine (rfail_c (w0 := w0) (bp := bp) (fin := fin) (all := all) (v := v) (blk b3 (tobj ⟨k3, p3, n3, u3⟩) :: blk b6 (f7 u x) :: blk b2 fobj0 :: ps) s4 10 p3 (by omega) (by omega) _ HO.out).mono ?_; clear HO; rintro e W14 ⟨rfl, ho⟩; have HO := Lib.hid ho; clear ho; simp only []; obtain ⟨hbt, ⟨ft0, ft1, ft2, ft3⟩, ct0, ct1, ct2, ct3⟩ := bx4 HO.out.swap.blk; obtain ⟨hbe, ⟨fe0, fe1, fe2, fe3, fe4⟩, ce0, ce1, ce2, ce3, ce4⟩ := bx5 ((HO.out.re [2, 0, 1]).blk); obtain ⟨hbz, ⟨fz0, fz1, fz2, fz3, fz4⟩, cz0, cz1, cz2, cz3, cz4⟩ := bx5 ((HO.out.re [3, 0, 1, 2]).blk); have m36 := Owns.ne (HO.out.re [1, 2, 0]); have m36' := m36.symm; have m32 := Owns.ne (HO.out.re [1, 3, 0, 2]); have m32' := m32.symm; have m62 := Owns.ne (HO.out.re [2, 3, 0, 1]); have m62' := m62.symm; repeat (first | go_values | go_skip | go_guarded | go_step | go_upon)
      have h1 := ((HO.out.re [2, 0, 1]).store (i := 3) (.int .i64 n3)).re [3, 1, 2, 0]; have h2 := st5 h1 (.int .i64 3) (.string (bs u)) (.int .i64 x) (.int .i64 n3) (.slice none 0 0); have h3 := (h2.pop.re [1, 2, 0]).pop.pop.leaf 3 u x n3 none 0; exact bodyPost_ret (rnot_res rfl h2.blk.1) (by rfl) (by first | exact ⟨_, _, _, rfl, HD.out, h3⟩ | exact ⟨_, _, rfl, _, HD.out, h3⟩)
     ·have hn3' : ¬ (1000000 : Int) < (n3 : Int) := by omega
      have HD : Hid (Did (oneF fin (n + 1)) s (.mk 3 u x n3 []) s4) := HDt.out sB ⟨k3, p3, n3, u3⟩ s4 s4 HB.out HT3.out HDD.out (by rw [stE, if_neg hn3]); clear hn3; subst hW13; obtain ⟨hbt, ⟨ft0, ft1, ft2, ft3⟩, ct0, ct1, ct2, ct3⟩ := bx4 HO3.out.blk; obtain ⟨hbe, ⟨fe0, fe1, fe2, fe3, fe4⟩, ce0, ce1, ce2, ce3, ce4⟩ := bx5 ((HO3.out.re [2, 0, 1]).blk); obtain ⟨hbz, ⟨fz0, fz1, fz2, fz3, fz4⟩, cz0, cz1, cz2, cz3, cz4⟩ := bx5 ((HO3.out.re [3, 0, 1, 2]).blk); have m36 := Owns.ne (HO3.out.re [0, 2, 1]); have m36' := m36.symm; have m32 := Owns.ne (HO3.out.re [0, 3, 1, 2]); have m32' := m32.symm; have m62 := Owns.ne (HO3.out.re [2, 3, 0, 1]); have m62' := m62.symm; repeat (first | go_values | go_skip | go_guarded | go_step | go_upon)
      have h1 := ((HO.out.re [2, 0, 1]).store (i := 3) (.int .i64 n3)).re [3, 1, 2, 0]; have h2 := st5 h1 (.int .i64 3) (.string (bs u)) (.int .i64 x) (.int .i64 n3) (.slice none 0 0); have h3 := (h2.pop.re [1, 2, 0]).pop.pop.leaf 3 u x n3 none 0; exact bodyPost_ret (rnot_res rfl h2.blk.1) (by rfl) (by first | exact ⟨_, _, _, rfl, HD.out, h3⟩ | exact ⟨_, _, rfl, _, HD.out, h3⟩)
    ·have hk3' : ((k3 : Int) != 2) = true := by simp; omega
     have HDD : Hid (failS s4 5 p3 = stD fin sB) := by
      show _ = _; rw [stD, <- HT3.out, if_pos (by simpa using hk3), <- HS4.out]
     clear hk3
     focus
      obtain ⟨hbt, ⟨ft0, ft1, ft2, ft3⟩, ct0, ct1, ct2, ct3⟩ := bx4 HO3.out.blk; go_wp2_with fail
      rw [<- hW13]; clear hW13; clear hbt ft0 ft1 ft2 ft3 ct0 ct1 ct2 ct3
     try go_at_call 125
     refine (rfail_c (w0 := w0) (bp := bp) (fin := fin) (all := all) (v := v) (blk b3 (tobj ⟨k3, p3, n3, u3⟩) :: blk b6 (f7 u x) :: blk b2 fobj0 :: ps) s4 5 p3 (by omega) (by omega) _ HO.out).mono ?_; clear HO; rintro e W14 ⟨rfl, ho⟩; have HO := Lib.hid ho; clear ho; simp only []; by_cases hn3 : 1000000 < n3
     ·have hn3' : (1000000 : Int) < (n3 : Int) := by omega
      have HD : Hid (Did (oneF fin (n + 1)) s (.mk 3 u x n3 []) (failS (failS s4 5 p3) 10 p3)) := HDt.out sB ⟨k3, p3, n3, u3⟩ _ _ HB.out HT3.out HDD.out (by rw [stE, if_pos hn3]); clear hn3
      focus
       obtain ⟨hbt, ⟨ft0, ft1, ft2, ft3⟩, ct0, ct1, ct2, ct3⟩ := bx4 HO.out.swap.blk; go_wp2_with fail
       clear hbt ft0 ft1 ft2 ft3 ct0 ct1 ct2 ct3
      try go_at_call 125
      refine (rfail_c (w0 := w0) (bp := bp) (fin := fin) (all := all) (v := v) (blk b3 (tobj ⟨k3, p3, n3, u3⟩) :: blk b6 (f7 u x) :: blk b2 fobj0 :: ps) (failS s4 5 p3) 10 p3 (by omega) (by omega) _ HO.out).mono ?_; clear HO; rintro e W14 ⟨rfl, ho⟩; have HO := Lib.hid ho; clear ho; simp only []; obtain ⟨hbt, ⟨ft0, ft1, ft2, ft3⟩, ct0, ct1, ct2, ct3⟩ := bx4 HO.out.swap.blk; obtain ⟨hbe, ⟨fe0, fe1, fe2, fe3, fe4⟩, ce0, ce1, ce2, ce3, ce4⟩ := bx5 ((HO.out.re [2, 0, 1]).blk); obtain ⟨hbz, ⟨fz0, fz1, fz2, fz3, fz4⟩, cz0, cz1, cz2, cz3, cz4⟩ := bx5 ((HO.out.re [3, 0, 1, 2]).blk); have m36 := Owns.ne (HO.out.re [1, 2, 0]); have m36' := m36.symm; have m32 := Owns.ne (HO.out.re [1, 3, 0, 2]); have m32' := m32.symm; have m62 := Owns.ne (HO.out.re [2, 3, 0, 1]); have m62' := m62.symm; repeat (first | go_values | go_skip | go_guarded | go_step | go_upon)
      have h1 := ((HO.out.re [2, 0, 1]).store (i := 3) (.int .i64 n3)).re [3, 1, 2, 0]; have h2 := st5 h1 (.int .i64 3) (.string (bs u)) (.int .i64 x) (.int .i64 n3) (.slice none 0 0); have h3 := (h2.pop.re [1, 2, 0]).pop.pop.leaf 3 u x n3 none 0; exact bodyPost_ret (rnot_res rfl h2.blk.1) (by rfl) (by first | exact ⟨_, _, _, rfl, HD.out, h3⟩ | exact ⟨_, _, rfl, _, HD.out, h3⟩)
     ·have hn3' : ¬ (1000000 : Int) < (n3 : Int) := by omega
      have HD : Hid (Did (oneF fin (n + 1)) s (.mk 3 u x n3 []) (failS s4 5 p3)) := HDt.out sB ⟨k3, p3, n3, u3⟩ _ _ HB.out HT3.out HDD.out (by rw [stE, if_neg hn3]); clear hn3; obtain ⟨hbt, ⟨ft0, ft1, ft2, ft3⟩, ct0, ct1, ct2, ct3⟩ := bx4 HO.out.swap.blk; obtain ⟨hbe, ⟨fe0, fe1, fe2, fe3, fe4⟩, ce0, ce1, ce2, ce3, ce4⟩ := bx5 ((HO.out.re [2, 0, 1]).blk); obtain ⟨hbz, ⟨fz0, fz1, fz2, fz3, fz4⟩, cz0, cz1, cz2, cz3, cz4⟩ := bx5 ((HO.out.re [3, 0, 1, 2]).blk); have m36 := Owns.ne (HO.out.re [1, 2, 0]); have m36' := m36.symm; have m32 := Owns.ne (HO.out.re [1, 3, 0, 2]); have m32' := m32.symm; have m62 := Owns.ne (HO.out.re [2, 3, 0, 1]); have m62' := m62.symm; repeat (first | go_values | go_skip | go_guarded | go_step | go_upon)
      have h1 := ((HO.out.re [2, 0, 1]).store (i := 3) (.int .i64 n3)).re [3, 1, 2, 0]; have h2 := st5 h1 (.int .i64 3) (.string (bs u)) (.int .i64 x) (.int .i64 n3) (.slice none 0 0); have h3 := (h2.pop.re [1, 2, 0]).pop.pop.leaf 3 u x n3 none 0; exact bodyPost_ret (rnot_res rfl h2.blk.1) (by rfl) (by first | exact ⟨_, _, _, rfl, HD.out, h3⟩ | exact ⟨_, _, rfl, _, HD.out, h3⟩)
theorem rnot_c (n : Nat) (hn : n <= 1000000) (hN9 : all.length <= 1000000) (hNm : NameOk all) : RPartC w0 bp fin all v 158 (oneF fin (n + 1)) n := by
 induction n with
 | zero => exact rnot_step 0 hn hN9 hNm fun n' h => by omega
 | succ n ih => exact rnot_step (n + 1) hn hN9 hNm fun n' h => by (obtain rfl : n' = n := by omega); exact ih (by omega)
theorem rformN_c (n : Nat) (hn : n <= 1000000) (hN9 : all.length <= 1000000) (hNm : NameOk all) : RPartC w0 bp fin all v 124 (eitherF fin (n + 1)) n :=
 rform_c _ n hn hN9 (rand_c _ n hn hN9 (rnot_c n hn hN9 hNm))
end
end Go.Proofs.YtoeknmkephnekaaGreatDoor
namespace Go.Proofs.YtoeknmkephnekaaGreatDoor
open Go.RowKit Go.Cz Go.Cz.Lx
attribute [local go_sem] bs_size bs_extract bs_append bs_toList
attribute [local irreducible] cList
set_option maxHeartbeats 2000000 in
theorem rhas_c (l : List UInt8) (c : UInt8) (w : World) (hl : l.length <= 1000000) : Calls Tryz.prog 122 #[.string (bs l), .int .u8 (c.toNat : Int)] w fun e w' => e = .returned (.bool (l.contains c)) /\ w' = w := by
 obtain ⟨u, hu⟩ : ∃ u, u = bs l := ⟨_, rfl⟩; have hus : u.size = l.length := by rw [hu, bs_size]
 have hget : ∀ (i : Nat) (h : i < u.size) (h2 : i < l.length), u[i]'h = l[i]'h2 := by
  subst hu; intro i h h2; rfl
 have HU := Lib.hid hget; rw [<- hu]; clear hget hu; obtain ⟨N, hN⟩ : ∃ N, N = l.length := ⟨_, rfl⟩; rw [<- hN] at hus hl; have HN := Lib.hid hN; clear hN; go_enter Tryz.func122, Tryz.ntmps122
 go_wp2_with fail
 go_loopg [5] N (fun gk i wr => ∃ k : Nat, gk = N - k /\ k <= N /\ i = .int .i64 (k : Int) /\ wr = w /\ Hid (c ∉ l.take k))
 case atStart => exact ⟨0, rfl, Nat.zero_le _, rfl, rfl, Lib.hid (by simp)⟩
 case round =>
  rename_i J1 K1 hJ1 hK1; obtain ⟨k, rfl, hk, rfl, rfl, hv⟩ := hrel; by_cases hlt : k < N
  ·have kl : k < u.size := by omega
   have hkl : k < l.length := by have := HN.out; omega
   obtain ⟨d, hd⟩ : ∃ d, d = l[k] := ⟨_, rfl⟩; have hcu : u[k] = d := by rw [HU.out k kl hkl, hd]
   have Hd : Hid (l[k]? = some d) := by show _ = _; rw [List.getElem?_eq_getElem hkl, hd]
   clear hd hkl; by_cases he : d = c
   ·have he' : ((d.toNat : Int) == (c.toNat : Int)) = true := by simp [he]
    have HE : Hid (l.contains c = true) := by
     show _ = _; rw [List.contains_iff_mem, <- he]; exact List.mem_of_getElem? Hd.out
    clear he; go_wp2_with fail
    go_ret
    exact ⟨by rw [HE.out]; rfl, rfl⟩
   ·have he' : ((d.toNat : Int) == (c.toNat : Int)) = false := by
     have : d.toNat ≠ c.toNat := fun h => he (UInt8.toNat_inj.1 h); simp; omega
    have HV : Hid (c ∉ l.take (k + 1)) := Lib.hid fun h => by
     rw [List.take_add_one, Hd.out] at h; rcases List.mem_append.1 h with h | h
     ·exact hv.out h
     ·have : c = d := by simpa using h
      exact he this.symm
    clear he hv; go_wp2_with fail
    go_roundg (N - (k + 1))
    case measure => omega
    case rel => exact ⟨k + 1, rfl, by omega, by go_num, rfl, HV⟩
  ·have HE : Hid (l.contains c = false) := by
    show _ = _; have h := hv.out; rw [List.take_of_length_le (by have := HN.out; omega)] at h; rw [<- Bool.not_eq_true, List.contains_iff_mem]; exact h
   clear hJ1 hK1 hv; go_wp2_with fail
   go_ret
   exact ⟨by rw [HE.out]; rfl, rfl⟩
theorem blank_cls (c : UInt8) : [32, 9, 10].contains c = (cls c == 1) := all_bytes (p := fun c => [32, 9, 10].contains c = (cls c == 1)) (by decide +kernel) c
theorem hash_cls (c : UInt8) : ((c.toNat : Int) == 35) = (cls c == 2) := all_bytes (p := fun c => ((c.toNat : Int) == 35) = (cls c == 2)) (by decide +kernel) c
theorem feed_iff (c : UInt8) : ((c.toNat : Int) != 10) = !(c == 10) := all_bytes (p := fun c => ((c.toNat : Int) != 10) = !(c == 10)) (by decide +kernel) c
set_option maxHeartbeats 4000000 in
theorem rgap_c (l : List UInt8) (i0 : Nat) (w : World) (hl : l.length <= 1000000) (hi0 : i0 <= l.length) : Calls Tryz.prog 92 #[.string (bs l), .int .i64 (i0 : Int)] w fun e w' => e = .returned (.int .i64 (gapE l i0 : Int)) /\ w' = w := by
 obtain ⟨u, hu⟩ : ∃ u, u = bs l := ⟨_, rfl⟩; have hus : u.size = l.length := by rw [hu, bs_size]
 have hget : ∀ (i : Nat) (h : i < u.size) (h2 : i < l.length), u[i]'h = l[i]'h2 := by
  subst hu; intro i h h2; rfl
 have HU := Lib.hid hget; rw [<- hu]; clear hget hu; obtain ⟨N, hN⟩ : ∃ N, N = l.length := ⟨_, rfl⟩; rw [<- hN] at hus hl hi0; have HN := Lib.hid hN; clear hN; have HG : Hid (gapE l i0 = i0 + gapL false (l.drop i0)) := rfl; go_enter Tryz.func92, Tryz.ntmps92
 go_wp2_with fail
 go_loopg [1] (N - i0) (fun gk i wr => ∃ k : Nat, gk = N - k /\ k <= N /\ i = .int .i64 (k : Int) /\ wr = w /\ Hid (gapE l i0 = k + gapL false (l.drop k)))
 case atStart => exact ⟨i0, rfl, hi0, rfl, rfl, HG⟩
 case round =>
  rename_i J1 K1 hJ1 hK1; obtain ⟨k, rfl, hk, rfl, rfl, hv⟩ := hrel; clear HG; by_cases hlt : k < N
  ·have kl : k < u.size := by omega
   have hkl : k < l.length := by have := HN.out; omega
   obtain ⟨c, hc⟩ : ∃ c, c = l[k] := ⟨_, rfl⟩; have hcu : u[k] = c := by rw [HU.out k kl hkl, hc]
   have HD : Hid (l.drop k = c :: l.drop (k + 1)) := by show _ = _; rw [hc, <- List.drop_eq_getElem_cons hkl]
   clear hc hkl; go_wp2_with fail
   go_at_call 122
   refine (rhas_c [32, 9, 10] c wr (by simp)).mono ?_; rintro e w1 ⟨rfl, hw⟩; subst hw; rw [blank_cls]; by_cases h1 : cls c = 1
   ·have h1' : (cls c == 1) = true := by simpa using h1
    have HV : Hid (gapE l i0 = k + 1 + gapL false (l.drop (k + 1))) := by
     show _ = _; rw [hv.out, HD.out]; simp only [gapL]; rw [if_pos h1]; omega
    rw [h1']; clear h1 h1' hv; go_wp2_with fail
    go_roundg (N - (k + 1))
    case measure => omega
    case rel => exact ⟨k + 1, rfl, by omega, by go_num, rfl, HV⟩
   have h1' : (cls c == 1) = false := by simpa using h1
   rw [h1']; have hh := hash_cls c; by_cases h2 : cls c = 2
   ·have h2' : (cls c == 2) = true := by simpa using h2
    rw [h2'] at hh; have HC : Hid (gapE l i0 = k + gapL true (l.drop k)) := by
     show _ = _; rw [hv.out, HD.out]; have hc35 := cls_hash h2; subst hc35; simp only [gapL]; rw [if_neg (by decide), if_pos (by decide), if_neg (by decide)]
    have H35 : Hid (l[k]? = some 35) := by
     have h := congrArg (fun x => x[0]?) HD.out; simp only [List.getElem?_drop, Nat.add_zero] at h; show _ = _; rw [h, cls_hash h2]; rfl
    clear h1 h1' h2 h2' hv; go_wp2_with fail
    clear hh hcu kl HD; have HC2 : Hid (gapE l i0 = k + gapL true (l.drop k) /\ (k = k -> l[k]? = some 35)) := ⟨HC.out, fun _ => H35.out⟩; clear HC H35; go_loopg [1] (N - k) (fun gk i wq => ∃ j : Nat, gk = N - j /\ j <= N /\ k <= j /\ i = .int .i64 (j : Int) /\ wq = w1 /\ Hid (gapE l i0 = j + gapL true (l.drop j) /\ (j = k -> l[j]? = some 35)))
    case atStart => exact ⟨k, rfl, hk, Nat.le_refl _, rfl, rfl, HC2⟩
    case round =>
     rename_i J2 K2 hJ2 hK2; obtain ⟨j, rfl, hj, hkj, rfl, rfl, hv⟩ := hrel; clear HC2; by_cases hjt : j < N
     ·have kl : j < u.size := by omega
      have hkl : j < l.length := by have := HN.out; omega
      obtain ⟨c, hc⟩ : ∃ c, c = l[j] := ⟨_, rfl⟩; have hcu : u[j] = c := by rw [HU.out j kl hkl, hc]
      have HD : Hid (l.drop j = c :: l.drop (j + 1) /\ l[j]? = some c) := ⟨by rw [hc, <- List.drop_eq_getElem_cons hkl], by rw [List.getElem?_eq_getElem hkl, hc]⟩; clear hc hkl; have hf := feed_iff c; by_cases h10 : c = 10
      ·have hf' : ((c.toNat : Int) != 10) = false := by rw [hf, h10]; rfl
       have hkj2 : k < j := by
        rcases Nat.lt_or_ge k j with h | h
        ·exact h
        ·have h1 := hv.out.2 (by omega); rw [HD.out.2, h10] at h1; cases h1
       have HV : Hid (gapE l i0 = j + gapL false (l.drop j)) := by
        show _ = _; rw [hv.out.1, HD.out.1, h10]; simp [gapL, show cls 10 = 1 by decide]
       clear hf h10 hv HD hJ2 hK2; go_wp2_with fail
       go_roundg (N - j)
       case measure => omega
       case rel => exact ⟨j, rfl, hj, rfl, rfl, HV⟩
      ·have hf' : ((c.toNat : Int) != 10) = true := by rw [hf]; simpa using h10
       have HV : Hid (gapE l i0 = j + 1 + gapL true (l.drop (j + 1)) /\ (j + 1 = k -> l[j + 1]? = some 35)) := ⟨by
        rw [hv.out.1, HD.out.1]; simp only [gapL]; rw [if_neg h10]; omega, fun h => by omega⟩
       clear hf h10 hv HD; go_wp2_with fail
       go_roundg (N - (j + 1))
       case measure => omega
       case rel => exact ⟨j + 1, rfl, by omega, by omega, by go_num, rfl, HV⟩
     ·have HV : Hid (gapE l i0 = j + gapL false (l.drop j)) := by
       show _ = _; rw [hv.out.1, List.drop_of_length_le (by have := HN.out; omega)]
       rfl
      clear hv hJ2 hK2; go_wp2_with fail
      go_roundg (N - j)
      case measure => omega
      case rel => exact ⟨j, rfl, hj, rfl, rfl, HV⟩
   ·have h2' : (cls c == 2) = false := by simpa using h2
    rw [h2'] at hh; have HE : Hid (gapE l i0 = k) := by
     show _ = _; rw [hv.out, HD.out]; simp only [gapL]; rw [if_neg h1, if_neg h2]
     rfl
    clear h1 h1' h2 h2' hv hJ1 hK1; go_wp2_with fail
    go_ret
    exact ⟨by rw [HE.out]; rfl, rfl⟩
  ·have HE : Hid (gapE l i0 = k) := by
    show _ = _; rw [hv.out, List.drop_of_length_le (by have := HN.out; omega)]
    rfl
   clear hJ1 hK1 hv; go_wp2_with fail
   go_ret
   exact ⟨by rw [HE.out]; rfl, rfl⟩
end Go.Proofs.YtoeknmkephnekaaGreatDoor
namespace Go.Cz.Lx
theorem while_step {C : List Nat} {l : List UInt8} {i e : Nat} {c : UInt8} (h : whileN C (l.drop i) = (e - i) + whileN C (l.drop e)) (hi : i <= e) (hc : l[e]? = some c) :
  (C.contains (cls c) = true -> whileN C (l.drop i) = (e + 1 - i) + whileN C (l.drop (e + 1))) /\ (C.contains (cls c) = false -> whileN C (l.drop i) = e - i) := by
 obtain ⟨he, rfl⟩ := List.getElem?_eq_some_iff.1 hc; rw [whileN_drop he] at h
 constructor
 ·intro hC; rw [if_pos hC] at h; omega
 ·intro hC; rw [if_neg (by rw [hC]; simp)] at h; omega
theorem word_C (c : UInt8) : wordB c = [3, 4, 5].contains (cls c) := rfl
theorem digit_C (c : UInt8) : (cls c == 4) = [4].contains (cls c) := by
 rw [Bool.eq_iff_iff]; simp
theorem word_mid {c : UInt8} (h : (cls c == 4) = false) : wordB c = (decide (cls c = 3) || decide (cls c = 5)) := by
 have : cls c ≠ 4 := by simpa using h
 rw [word_C, Bool.eq_iff_iff]; simp
 omega
theorem quote_cls (c : UInt8) : ((c.toNat : Int) == 34) = (cls c == 6) := all_bytes (p := fun c => ((c.toNat : Int) == 34) = (cls c == 6)) (by decide +kernel) c
theorem bang_cls (c : UInt8) : [33, 60, 62].contains c = ((cls c == 7) || (cls c == 8)) := all_bytes (p := fun c => [33, 60, 62].contains c = ((cls c == 7) || (cls c == 8))) (by decide +kernel) c
theorem symb_cls (c : UInt8) : [59, 44, 46, 58, 40, 41, 91, 93, 123, 125, 61, 60, 62, 43, 45].contains c = ((cls c == 8) || (cls c == 9)) := all_bytes (p := fun c => [59, 44, 46, 58, 40, 41, 91, 93, 123, 125, 61, 60, 62, 43, 45].contains c = ((cls c == 8) || (cls c == 9))) (by decide +kernel) c
theorem idxQ_step {l : List UInt8} {e : Nat} {c : UInt8} (hc : l[e]? = some c) : idxQ (l.drop e) = if c = 34 ∨ c = 10 then some 0 else (idxQ (l.drop (e + 1))).map (· + 1) := by
 obtain ⟨he, rfl⟩ := List.getElem?_eq_some_iff.1 hc; rw [List.drop_eq_getElem_cons he]
 rfl
end Go.Cz.Lx
namespace Go.Proofs.YtoeknmkephnekaaGreatDoor
open Go.RowKit Go.Cz Go.Cz.Lx Go.Cz.Fo
attribute [local go_sem] bs_size bs_extract bs_append bs_toList
attribute [local irreducible] cList cPlan
def rnextV : Except Nat (Tok × Nat) -> Value
 | .ok (t, _) => .tuple #[tval t, .int .i64 0]
 | .error e => .tuple #[.agg #[.int .i64 0, .int .i64 0, .int .i64 0, .string ⟨#[]⟩], .int .i64 (e : Int)]
theorem rnext_res {W : World} {tmps : Array Value} {g : Nat} {v0 v1 v2 v3 : Value} (h4 : tmps.getD 4 undef = .pointer (some ⟨g, 0, none⟩)) (hb : W.heap[g]? = some (.cells #[v0, v1, v2, v3] 40 (0, 0))) :
  (results Tryz.f93 tmps).run Tryz.prog W = .ok (.tuple #[.agg #[v0, v1, v2, v3], tmps.getD 5 undef]) W := by
 have c0 : W.cell? ⟨g, 0, none⟩ = some v0 := by rw [cell_of_heap hb]; rfl
 have c1 : W.cell? ⟨g, 1, none⟩ = some v1 := by rw [cell_of_heap hb]; rfl
 have c2 : W.cell? ⟨g, 2, none⟩ = some v2 := by rw [cell_of_heap hb]; rfl
 have c3 : W.cell? ⟨g, 3, none⟩ = some v3 := by rw [cell_of_heap hb]; rfl
 have h4' : tmps[4]?.getD undef = .pointer (some ⟨g, 0, none⟩) := by simpa using h4
 simp [results, Tryz.results93, go_sem, h4', c0, c1, c2, c3]
theorem numV_snoc' (l : List UInt8) (c : UInt8) : numV (l ++ [c]) = 10 * numV l + (c.toNat - 48) := by simp [numV]
abbrev tokO (k i n : Nat) : Obj := .cells #[.int .i64 (k : Nat), .int .i64 (i : Nat), .int .i64 (n : Nat), .string ⟨#[]⟩] 40 (0, 0)
set_option maxRecDepth 100000 in
set_option maxHeartbeats 8000000 in
theorem rnext_c (l : List UInt8) (i : Nat) (w : World) (hl : l.length <= 20000) (hi : i < l.length) :
  Calls Tryz.prog 93 #[.string (bs l), .int .i64 (i : Int)] w fun e w' => e = .returned (rnextV (nextL l i)) /\ Below w.heap.size w w' := by
 obtain ⟨u, hu⟩ : ∃ u, u = bs l := ⟨_, rfl⟩; have hus : u.size = l.length := by rw [hu, bs_size]
 have hget : ∀ (i : Nat) (h : i < u.size) (h2 : i < l.length), u[i]'h = l[i]'h2 := by
  subst hu; intro i h h2; rfl
 have HU := Lib.hid hget; have HX : Hid (∀ a b, u.extract a b = bs ((l.drop a).take (b - a))) := Lib.hid fun a b => by rw [hu]; exact bs_extract l a b
 rw [<- hu]; clear hget hu; obtain ⟨N, hN⟩ : ∃ N, N = l.length := ⟨_, rfl⟩; rw [<- hN] at hus hl hi; have HN := Lib.hid hN; clear hN; obtain ⟨bR, hbR⟩ : ∃ b, b = w.heap.size := ⟨_, rfl⟩; obtain ⟨bT, hbT⟩ : ∃ b, b = w.heap.size + 1 := ⟨_, rfl⟩; obtain ⟨W1, hW1⟩ : ∃ W1, W1 = (w.alloc (.cells #[.int .i64 0, .int .i64 0, .int .i64 0, .string ⟨#[]⟩] 40)).alloc (.cells #[.int .i64 0, .int .i64 (i : Int), .int .i64 0, .string ⟨#[]⟩] 40) := ⟨_, rfl⟩; have HO : Hid (Owns w W1 [blk bT (tokO 0 i 0), blk bR tobj0]) := by
  rw [hW1, hbR, hbT]; have h := ((Owns.start w).box tobj0).box (tokO 0 i 0); simp only [World.size_alloc] at h; exact Lib.hid h
 obtain ⟨ci, hci⟩ : ∃ c, c = l[i]'(by have := HN.out; omega) := ⟨_, rfl⟩; have kli : i < u.size := by omega
 have hcui : u[i] = ci := by rw [HU.out i kli (by have := HN.out; omega), hci]
 have Hci : Hid (l[i]? = some ci) := by show _ = _; rw [List.getElem?_eq_getElem (by have := HN.out; omega), hci]
 clear hci; have hAt : atL l i = cls ci := by unfold atL; rw [Hci.out]
 obtain ⟨A, hA⟩ : ∃ A, A = cls ci := ⟨_, rfl⟩; have HA : Hid (atL l i = A /\ cls ci = A) := ⟨by rw [hAt, hA], hA.symm⟩; clear hAt; go_enter Tryz.func93, Tryz.ntmps93
 go_wp2_with fail
 try rw [<- hW1]
 try rw [<- hbT]
 try rw [<- hbR]
 clear hW1 hbT hbR
 try go_at_call 121
 refine (rletter_c ci W1).mono ?_; rintro e w1 ⟨rfl, hw⟩; subst hw; rw [<- hA]; clear hA; by_cases h3 : A = 3
 ·subst h3; have H0 : Hid (whileN [3, 4, 5] (l.drop i) = (i + 1 - i) + whileN [3, 4, 5] (l.drop (i + 1))) := Lib.hid ((while_step (by omega) (Nat.le_refl i) Hci.out).1 (by rw [HA.out.2]; rfl)); go_wp2_with fail
  clear hcui kli; go_loopg [6] (N - (i + 1)) (fun gk x wr => ∃ e : Nat, gk = N - e /\ i + 1 <= e /\ e <= N /\ x = .int .i64 (e : Int) /\ wr = w1 /\ Hid (whileN [3, 4, 5] (l.drop i) = (e - i) + whileN [3, 4, 5] (l.drop e)))
  case atStart => exact ⟨i + 1, rfl, Nat.le_refl _, by omega, by go_num, rfl, H0⟩
  case round =>
   rename_i J1 K1 hJ1 hK1; clear H0; obtain ⟨e, rfl, hie, heN, rfl, rfl, hv⟩ := hrel; by_cases hlt : e < N
   ·obtain ⟨ce, hce⟩ : ∃ c, c = l[e]'(by have := HN.out; omega) := ⟨_, rfl⟩; have kle : e < u.size := by omega
    have hcue : u[e] = ce := by rw [HU.out e kle (by have := HN.out; omega), hce]
    have Hce : Hid (l[e]? = some ce) := by show _ = _; rw [List.getElem?_eq_getElem (by have := HN.out; omega), hce]
    clear hce; go_wp2_with fail
    try go_at_call 120
    refine (rword_c ce wr).mono ?_; rintro x w2 ⟨rfl, hw⟩; subst hw; cases hb : wordB ce
    ·have HW : Hid (whileN [3, 4, 5] (l.drop i) = e - i) := Lib.hid ((while_step hv.out (by omega) Hce.out).2 (by rw [<- word_C]; exact hb)); clear hb hv hcue kle hJ1 hK1; by_cases h24 : 24 < e - i
     ·have h24' : (24 : Int) < (e : Int) - (i : Int) := by omega
      have He : Hid (nextL l i = .error 2) := by
       show _ = _; unfold nextL; rw [HA.out.1, HW.out]; simp [h24]
      clear h24; obtain ⟨ht, ⟨ft0, ft1, ft2, ft3⟩, ct0, ct1, ct2, ct3⟩ := bx4 HO.out.blk; obtain ⟨hr, ⟨fr0, fr1, fr2, fr3⟩, cr0, cr1, cr2, cr3⟩ := bx4 HO.out.swap.blk; have ntr := Owns.ne HO.out; have ntr' := ntr.symm
      try simp only []
      repeat (first | go_values | go_skip | go_guarded | go_step | go_upon)
      have h1 := (Owns.store HO.out (i := 0) (.int .i64 1)).swap; have h2 := st4 h1 (.int .i64 0) (.int .i64 0) (.int .i64 0) (.string ⟨#[]⟩); exact bodyPost_ret (rnext_res rfl h2.blk.1) (by rfl) ⟨by rw [He.out]; rfl, h2.base⟩
     ·have h24' : ¬ (24 : Int) < (e : Int) - (i : Int) := by omega
      have He : Hid (nextL l i = .ok (⟨1, i, 0, (l.drop i).take (e - i)⟩, e - i)) := by
       show _ = _; unfold nextL; rw [HA.out.1, HW.out]; simp [h24]
      clear h24; obtain ⟨ht, ⟨ft0, ft1, ft2, ft3⟩, ct0, ct1, ct2, ct3⟩ := bx4 HO.out.blk; obtain ⟨hr, ⟨fr0, fr1, fr2, fr3⟩, cr0, cr1, cr2, cr3⟩ := bx4 HO.out.swap.blk; have ntr := Owns.ne HO.out; have ntr' := ntr.symm
      try simp only []
      repeat (first | go_values | go_skip | go_guarded | go_step | go_upon)
      have h1 := (Owns.store (Owns.store HO.out (i := 0) (.int .i64 1)) (i := 3) (.string (u.extract i e))).swap; have h2 := st4 h1 (.int .i64 (1 : Nat)) (.int .i64 (i : Nat)) (.int .i64 (0 : Nat)) (.string (u.extract i e)); exact bodyPost_ret (rnext_res rfl h2.blk.1) (by rfl) ⟨by rw [He.out, HX.out]; rfl, h2.base⟩
    ·have HV : Hid (whileN [3, 4, 5] (l.drop i) = (e + 1 - i) + whileN [3, 4, 5] (l.drop (e + 1))) := Lib.hid ((while_step hv.out (by omega) Hce.out).1 (by rw [<- word_C]; exact hb)); clear hb hv; go_wp2_with fail
     go_roundg (N - (e + 1))
     case measure => omega
     case rel => exact ⟨e + 1, rfl, by omega, by omega, by go_num, rfl, HV⟩
   ·have HW : Hid (whileN [3, 4, 5] (l.drop i) = e - i) := by
     show _ = _; rw [hv.out, whileN_end (by have := HN.out; omega)]; omega
    clear hv hJ1 hK1; by_cases h24 : 24 < e - i
    ·have h24' : (24 : Int) < (e : Int) - (i : Int) := by omega
     have He : Hid (nextL l i = .error 2) := by
      show _ = _; unfold nextL; rw [HA.out.1, HW.out]; simp [h24]
     clear h24; obtain ⟨ht, ⟨ft0, ft1, ft2, ft3⟩, ct0, ct1, ct2, ct3⟩ := bx4 HO.out.blk; obtain ⟨hr, ⟨fr0, fr1, fr2, fr3⟩, cr0, cr1, cr2, cr3⟩ := bx4 HO.out.swap.blk; have ntr := Owns.ne HO.out; have ntr' := ntr.symm
     try simp only []
     repeat (first | go_values | go_skip | go_guarded | go_step | go_upon)
     have h1 := (Owns.store HO.out (i := 0) (.int .i64 1)).swap; have h2 := st4 h1 (.int .i64 0) (.int .i64 0) (.int .i64 0) (.string ⟨#[]⟩); exact bodyPost_ret (rnext_res rfl h2.blk.1) (by rfl) ⟨by rw [He.out]; rfl, h2.base⟩
    ·have h24' : ¬ (24 : Int) < (e : Int) - (i : Int) := by omega
     have He : Hid (nextL l i = .ok (⟨1, i, 0, (l.drop i).take (e - i)⟩, e - i)) := by
      show _ = _; unfold nextL; rw [HA.out.1, HW.out]; simp [h24]
     clear h24; obtain ⟨ht, ⟨ft0, ft1, ft2, ft3⟩, ct0, ct1, ct2, ct3⟩ := bx4 HO.out.blk; obtain ⟨hr, ⟨fr0, fr1, fr2, fr3⟩, cr0, cr1, cr2, cr3⟩ := bx4 HO.out.swap.blk; have ntr := Owns.ne HO.out; have ntr' := ntr.symm
     try simp only []
     repeat (first | go_values | go_skip | go_guarded | go_step | go_upon)
     have h1 := (Owns.store (Owns.store HO.out (i := 0) (.int .i64 1)) (i := 3) (.string (u.extract i e))).swap; have h2 := st4 h1 (.int .i64 (1 : Nat)) (.int .i64 (i : Nat)) (.int .i64 (0 : Nat)) (.string (u.extract i e)); exact bodyPost_ret (rnext_res rfl h2.blk.1) (by rfl) ⟨by rw [He.out, HX.out]; rfl, h2.base⟩
 have q3 : (A == 3) = false := by simpa using h3
 by_cases h4 : A = 4
 ·subst h4; have H0 : Hid (whileN [4] (l.drop i) = (i + 1 - i) + whileN [4] (l.drop (i + 1))) := Lib.hid ((while_step (by omega) (Nat.le_refl i) Hci.out).1 (by rw [HA.out.2]; rfl)); clear h3; go_wp2_with fail
  try go_at_call 123
  refine (rdigit_c ci w1).mono ?_; rintro e w2 ⟨rfl, hw⟩; subst hw; rw [HA.out.2]; go_wp2_with fail
  clear hcui kli q3; go_loopg [6] (N - (i + 1)) (fun gk x wr => ∃ e : Nat, gk = N - e /\ i + 1 <= e /\ e <= N /\ x = .int .i64 (e : Int) /\ wr = w2 /\ Hid (whileN [4] (l.drop i) = (e - i) + whileN [4] (l.drop e)))
  case atStart => exact ⟨i + 1, rfl, Nat.le_refl _, by omega, by go_num, rfl, H0⟩
  case round =>
   rename_i J1 K1 hJ1 hK1; clear H0; obtain ⟨e, rfl, hie, heN, rfl, rfl, hv⟩ := hrel; by_cases hlt : e < N
   ·obtain ⟨ce, hce⟩ : ∃ c, c = l[e]'(by have := HN.out; omega) := ⟨_, rfl⟩; have kle : e < u.size := by omega
    have hcue : u[e] = ce := by rw [HU.out e kle (by have := HN.out; omega), hce]
    have Hce : Hid (l[e]? = some ce) := by show _ = _; rw [List.getElem?_eq_getElem (by have := HN.out; omega), hce]
    clear hce; go_wp2_with fail
    try go_at_call 123
    refine (rdigit_c ce wr).mono ?_; rintro x w2 ⟨rfl, hw⟩; subst hw; cases hb : (cls ce == 4)
    ·have HW : Hid (whileN [4] (l.drop i) = e - i) := Lib.hid ((while_step hv.out (by omega) Hce.out).2 (by rw [<- digit_C]; exact hb)); have HB : Hid (atL l (i + (e - i)) = cls ce /\ wordB ce = (decide (cls ce = 3) || decide (cls ce = 5))) := ⟨by rw [show i + (e - i) = e by omega]; unfold atL; rw [Hce.out], word_mid hb⟩; clear hb hv hJ1 hK1; by_cases h13 : 13 < e - i
     ·have h13' : (13 : Int) < (e : Int) - (i : Int) := by omega
      have He : Hid (nextL l i = .error 4) := by
       show _ = _; unfold nextL; rw [HA.out.1, HW.out]; simp [h13]
      clear h13; obtain ⟨ht, ⟨ft0, ft1, ft2, ft3⟩, ct0, ct1, ct2, ct3⟩ := bx4 HO.out.blk; obtain ⟨hr, ⟨fr0, fr1, fr2, fr3⟩, cr0, cr1, cr2, cr3⟩ := bx4 HO.out.swap.blk; have ntr := Owns.ne HO.out; have ntr' := ntr.symm
      try simp only []
      repeat (first | go_values | go_skip | go_guarded | go_step | go_upon)
      have h1 := (Owns.store HO.out (i := 0) (.int .i64 2)).swap; have h2 := st4 h1 (.int .i64 0) (.int .i64 0) (.int .i64 0) (.string ⟨#[]⟩); exact bodyPost_ret (rnext_res rfl h2.blk.1) (by rfl) ⟨by rw [He.out]; rfl, h2.base⟩
     ·have h13' : ¬ (13 : Int) < (e : Int) - (i : Int) := by omega
      have He0 : Hid (∀ B, cls ce = B -> nextL l i = if B = 3 ∨ B = 5 then .error 4 else .ok (⟨2, i, numV ((l.drop i).take (e - i)), (l.drop i).take (e - i)⟩, e - i)) := Lib.hid fun B hB => by
       unfold nextL; rw [HA.out.1, HW.out, HB.out.1, hB]; simp [h13]
      have HK13 := Lib.hid h13; clear h13
      focus
       obtain ⟨ht, ⟨ft0, ft1, ft2, ft3⟩, ct0, ct1, ct2, ct3⟩ := bx4 HO.out.blk; obtain ⟨hr, ⟨fr0, fr1, fr2, fr3⟩, cr0, cr1, cr2, cr3⟩ := bx4 HO.out.swap.blk; have ntr := Owns.ne HO.out; have ntr' := ntr.symm; go_wp2_with fail
       clear ht ft0 ft1 ft2 ft3 ct0 ct1 ct2 ct3 hr fr0 fr1 fr2 fr3 cr0 cr1 cr2 cr3 ntr ntr'
      try go_at_call 120
      refine (rword_c ce _).mono ?_; rintro x w3 ⟨rfl, hw⟩; rw [HB.out.2]; by_cases hB : cls ce = 3 ∨ cls ce = 5
      ·have He : Hid (nextL l i = .error 4) := by show _ = _; rw [He0.out _ rfl, if_pos hB]
       have hq : (decide (cls ce = 3) || decide (cls ce = 5)) = true := by simpa using hB
       rw [hq]; have HO4 : Hid (Owns w w3 [blk bT (tokO 2 i 0), blk bR tobj0]) := by
        rw [hw]; exact Lib.hid (HO.out.store (i := 0) (.int .i64 2))
       replace HO := HO4; clear HO4 hB hq hw; obtain ⟨ht, ⟨ft0, ft1, ft2, ft3⟩, ct0, ct1, ct2, ct3⟩ := bx4 HO.out.blk; obtain ⟨hr, ⟨fr0, fr1, fr2, fr3⟩, cr0, cr1, cr2, cr3⟩ := bx4 HO.out.swap.blk; have ntr := Owns.ne HO.out; have ntr' := ntr.symm
       try simp only []
       repeat (first | go_values | go_skip | go_guarded | go_step | go_upon)
       have h1 := (HO.out).swap; have h2 := st4 h1 (.int .i64 0) (.int .i64 0) (.int .i64 0) (.string ⟨#[]⟩); exact bodyPost_ret (rnext_res rfl h2.blk.1) (by rfl) ⟨by rw [He.out]; rfl, h2.base⟩
      ·have He : Hid (nextL l i = .ok (⟨2, i, numV ((l.drop i).take (e - i)), (l.drop i).take (e - i)⟩, e - i)) := by show _ = _; rw [He0.out _ rfl, if_neg hB]
       have hq : (decide (cls ce = 3) || decide (cls ce = 5)) = false := by simpa using hB
       rw [hq]; have HO4 : Hid (Owns w w3 [blk bT (tokO 2 i 0), blk bR tobj0]) := by
        rw [hw]; exact Lib.hid (HO.out.store (i := 0) (.int .i64 2))
       clear hB hq hw He0 HB HO; go_wp2_with fail
       have HDg : Hid (∀ (j : Nat) (c : UInt8), i <= j -> j < e -> l[j]? = some c -> 48 <= c.toNat /\ c.toNat <= 57) := Lib.hid fun j c h1 h2 h3 => by
        have hm : c ∈ (l.drop i).take (whileN [4] (l.drop i)) := by
         rw [HW.out]; refine List.mem_of_getElem? (i := j - i) ?_; rw [List.getElem?_take, if_pos (by omega), List.getElem?_drop, show i + (j - i) = j by omega]; exact h3
        have := whileN_mem hm; exact cls_digit (by simpa using this)
       have HNv : Hid (∀ j, i <= j -> j <= e -> numV ((l.drop i).take (j - i)) < 10000000000000) := Lib.hid fun j h1 h2 => by
        by_cases h0 : j = i
        ·rw [h0, Nat.sub_self, List.take_zero]; decide
        ·refine (atoi_num (fun c hc => ?_) ?_ ?_).2
         ·obtain ⟨q, hq⟩ := List.getElem?_of_mem hc; rw [List.getElem?_take] at hq
          split at hq
          ·rw [List.getElem?_drop] at hq; exact HDg.out (i + q) c (by omega) (by omega) hq
          ·cases hq
         ·rw [List.length_take, List.length_drop]; have := HN.out; omega
         ·rw [List.length_take, List.length_drop]; have := HK13.out; omega
       have H0 : Hid (Owns w w3 [blk bT (tokO 2 i (numV ((l.drop i).take (i - i)))), blk bR tobj0]) := by
        rw [Nat.sub_self]; exact HO4
       clear HO4; go_loopg [9] (e - i) (fun gk x wr => ∃ j : Nat, gk = e - j /\ i <= j /\ j <= e /\ x = .int .i64 (j : Int) /\ Hid (Owns w wr [blk bT (tokO 2 i (numV ((l.drop i).take (j - i)))), blk bR tobj0]))
       case atStart => exact ⟨i, rfl, Nat.le_refl _, by omega, rfl, H0⟩
       case round =>
        rename_i J2 K2 hJ2 hK2; clear H0; obtain ⟨j, rfl, hij, hje, rfl, HO⟩ := hrel; have hnv := HNv.out j hij hje; obtain ⟨n, hn⟩ : ∃ n, n = numV ((l.drop i).take (j - i)) := ⟨_, rfl⟩; rw [<- hn] at HO hnv; by_cases hlt : j < e
        ·obtain ⟨cj, hcj⟩ : ∃ c, c = l[j]'(by have := HN.out; omega) := ⟨_, rfl⟩; have klj : j < u.size := by omega
         have hcuj : u[j] = cj := by rw [HU.out j klj (by have := HN.out; omega), hcj]
         have Hcj : Hid (l[j]? = some cj) := by show _ = _; rw [List.getElem?_eq_getElem (by have := HN.out; omega), hcj]
         clear hcj; obtain ⟨hd1, hd2⟩ := HDg.out j cj hij hlt Hcj.out; have HNn : Hid (numV ((l.drop i).take (j + 1 - i)) = 10 * n + (cj.toNat - 48)) := by
          show _ = _; rw [show j + 1 - i = (j - i) + 1 by omega, List.take_add_one, List.getElem?_drop, show i + (j - i) = j by omega, Hcj.out]; simp only [Option.toList_some]; rw [numV_snoc', <- hn]
         clear hn; go_wp2_with fail
         refine wp_region_canA [] (List.range 11) ?_; replace HO := Lib.hid HO.out.drew; generalize hWd : World.drew _ = w5 at HO ⊢; clear hWd; have HO5 : Hid (Owns w (w5.setCell ⟨bT, 2, none⟩ (.int .i64 (10 * (n : Int) + ((cj.toNat : Int) - 48)))) [blk bT (tokO 2 i (numV ((l.drop i).take (j + 1 - i)))), blk bR tobj0]) := by
          have h := HO.out.store (i := 2) (.int .i64 (10 * (n : Int) + ((cj.toNat : Int) - 48))); rw [show (10 * (n : Int) + ((cj.toNat : Int) - 48)) = ((numV ((l.drop i).take (j + 1 - i)) : Nat) : Int) by rw [HNn.out]; omega] at h ⊢; exact Lib.hid h
         focus
          obtain ⟨ht, ⟨ft0, ft1, ft2, ft3⟩, ct0, ct1, ct2, ct3⟩ := bx4 HO.out.blk; iterate 11 (refine cl_doA rfl rfl rfl (fun _ _ => ?_); go_wp2_with fail)
          refine cl_nil ?_; go_wp2_with fail
          go_roundg (e - (j + 1))
          case measure => omega
          case rel => exact ⟨j + 1, rfl, by omega, by omega, by go_num, HO5⟩
        ·obtain rfl : j = e := by omega
         rw [<- hn] at He; clear hn hJ2 hK2 hlt; obtain ⟨ht, ⟨ft0, ft1, ft2, ft3⟩, ct0, ct1, ct2, ct3⟩ := bx4 HO.out.blk; obtain ⟨hr, ⟨fr0, fr1, fr2, fr3⟩, cr0, cr1, cr2, cr3⟩ := bx4 HO.out.swap.blk; have ntr := Owns.ne HO.out; have ntr' := ntr.symm
         try simp only []
         repeat (first | go_values | go_skip | go_guarded | go_step | go_upon)
         have h1 := (Owns.store (HO.out) (i := 3) (.string (u.extract i j))).swap; have h2 := st4 h1 (.int .i64 (2 : Nat)) (.int .i64 (i : Nat)) (.int .i64 (n : Nat)) (.string (u.extract i j)); exact bodyPost_ret (rnext_res rfl h2.blk.1) (by rfl) ⟨by rw [He.out, HX.out]; rfl, h2.base⟩
    ·have HV : Hid (whileN [4] (l.drop i) = (e + 1 - i) + whileN [4] (l.drop (e + 1))) := Lib.hid ((while_step hv.out (by omega) Hce.out).1 (by rw [<- digit_C]; exact hb)); clear hb hv; go_wp2_with fail
     go_roundg (N - (e + 1))
     case measure => omega
     case rel => exact ⟨e + 1, rfl, by omega, by omega, by go_num, rfl, HV⟩
   ·have HW : Hid (whileN [4] (l.drop i) = e - i) := by
     show _ = _; rw [hv.out, whileN_end (by have := HN.out; omega)]; omega
    have HB : Hid (atL l (i + (e - i)) = 0) := Lib.hid (atL_none (by have := HN.out; omega)); clear hv hJ1 hK1; by_cases h13 : 13 < e - i
    ·have h13' : (13 : Int) < (e : Int) - (i : Int) := by omega
     have He : Hid (nextL l i = .error 4) := by
      show _ = _; unfold nextL; rw [HA.out.1, HW.out]; simp [h13]
     clear h13; obtain ⟨ht, ⟨ft0, ft1, ft2, ft3⟩, ct0, ct1, ct2, ct3⟩ := bx4 HO.out.blk; obtain ⟨hr, ⟨fr0, fr1, fr2, fr3⟩, cr0, cr1, cr2, cr3⟩ := bx4 HO.out.swap.blk; have ntr := Owns.ne HO.out; have ntr' := ntr.symm
     try simp only []
     repeat (first | go_values | go_skip | go_guarded | go_step | go_upon)
     have h1 := (Owns.store HO.out (i := 0) (.int .i64 2)).swap; have h2 := st4 h1 (.int .i64 0) (.int .i64 0) (.int .i64 0) (.string ⟨#[]⟩); exact bodyPost_ret (rnext_res rfl h2.blk.1) (by rfl) ⟨by rw [He.out]; rfl, h2.base⟩
    ·have h13' : ¬ (13 : Int) < (e : Int) - (i : Int) := by omega
     have He : Hid (nextL l i = .ok (⟨2, i, numV ((l.drop i).take (e - i)), (l.drop i).take (e - i)⟩, e - i)) := by
      show _ = _; unfold nextL; rw [HA.out.1, HW.out, HB.out]; simp [h13]
     have HK13 := Lib.hid h13; clear h13; obtain ⟨w3, hw3⟩ : ∃ w3, w3 = wr.setCell ⟨bT, 0, none⟩ (.int .i64 2) := ⟨_, rfl⟩; have HO4 : Hid (Owns w w3 [blk bT (tokO 2 i 0), blk bR tobj0]) := by
      rw [hw3]; exact Lib.hid (HO.out.store (i := 0) (.int .i64 2))
     focus
      obtain ⟨ht, ⟨ft0, ft1, ft2, ft3⟩, ct0, ct1, ct2, ct3⟩ := bx4 HO.out.blk; obtain ⟨hr, ⟨fr0, fr1, fr2, fr3⟩, cr0, cr1, cr2, cr3⟩ := bx4 HO.out.swap.blk; have ntr := Owns.ne HO.out; have ntr' := ntr.symm; go_wp2_with fail
      rw [<- hw3]; clear hw3; clear ht ft0 ft1 ft2 ft3 ct0 ct1 ct2 ct3 hr fr0 fr1 fr2 fr3 cr0 cr1 cr2 cr3 ntr ntr'
     clear HO HB; have HDg : Hid (∀ (j : Nat) (c : UInt8), i <= j -> j < e -> l[j]? = some c -> 48 <= c.toNat /\ c.toNat <= 57) := Lib.hid fun j c h1 h2 h3 => by
      have hm : c ∈ (l.drop i).take (whileN [4] (l.drop i)) := by
       rw [HW.out]; refine List.mem_of_getElem? (i := j - i) ?_; rw [List.getElem?_take, if_pos (by omega), List.getElem?_drop, show i + (j - i) = j by omega]; exact h3
      have := whileN_mem hm; exact cls_digit (by simpa using this)
     have HNv : Hid (∀ j, i <= j -> j <= e -> numV ((l.drop i).take (j - i)) < 10000000000000) := Lib.hid fun j h1 h2 => by
      by_cases h0 : j = i
      ·rw [h0, Nat.sub_self, List.take_zero]; decide
      ·refine (atoi_num (fun c hc => ?_) ?_ ?_).2
       ·obtain ⟨q, hq⟩ := List.getElem?_of_mem hc; rw [List.getElem?_take] at hq
        split at hq
        ·rw [List.getElem?_drop] at hq; exact HDg.out (i + q) c (by omega) (by omega) hq
        ·cases hq
       ·rw [List.length_take, List.length_drop]; have := HN.out; omega
       ·rw [List.length_take, List.length_drop]; have := HK13.out; omega
     have H0 : Hid (Owns w w3 [blk bT (tokO 2 i (numV ((l.drop i).take (i - i)))), blk bR tobj0]) := by
      rw [Nat.sub_self]; exact HO4
     clear HO4; go_loopg [9] (e - i) (fun gk x wr => ∃ j : Nat, gk = e - j /\ i <= j /\ j <= e /\ x = .int .i64 (j : Int) /\ Hid (Owns w wr [blk bT (tokO 2 i (numV ((l.drop i).take (j - i)))), blk bR tobj0]))
     case atStart => exact ⟨i, rfl, Nat.le_refl _, by omega, rfl, H0⟩
     case round =>
      rename_i J2 K2 hJ2 hK2; clear H0; obtain ⟨j, rfl, hij, hje, rfl, HO⟩ := hrel; have hnv := HNv.out j hij hje; obtain ⟨n, hn⟩ : ∃ n, n = numV ((l.drop i).take (j - i)) := ⟨_, rfl⟩; rw [<- hn] at HO hnv; by_cases hlt : j < e
      ·obtain ⟨cj, hcj⟩ : ∃ c, c = l[j]'(by have := HN.out; omega) := ⟨_, rfl⟩; have klj : j < u.size := by omega
       have hcuj : u[j] = cj := by rw [HU.out j klj (by have := HN.out; omega), hcj]
       have Hcj : Hid (l[j]? = some cj) := by show _ = _; rw [List.getElem?_eq_getElem (by have := HN.out; omega), hcj]
       clear hcj; obtain ⟨hd1, hd2⟩ := HDg.out j cj hij hlt Hcj.out; have HNn : Hid (numV ((l.drop i).take (j + 1 - i)) = 10 * n + (cj.toNat - 48)) := by
        show _ = _; rw [show j + 1 - i = (j - i) + 1 by omega, List.take_add_one, List.getElem?_drop, show i + (j - i) = j by omega, Hcj.out]; simp only [Option.toList_some]; rw [numV_snoc', <- hn]
       clear hn; go_wp2_with fail
       refine wp_region_canA [] (List.range 11) ?_; replace HO := Lib.hid HO.out.drew; generalize hWd : World.drew _ = w5 at HO ⊢; clear hWd; have HO5 : Hid (Owns w (w5.setCell ⟨bT, 2, none⟩ (.int .i64 (10 * (n : Int) + ((cj.toNat : Int) - 48)))) [blk bT (tokO 2 i (numV ((l.drop i).take (j + 1 - i)))), blk bR tobj0]) := by
        have h := HO.out.store (i := 2) (.int .i64 (10 * (n : Int) + ((cj.toNat : Int) - 48))); rw [show (10 * (n : Int) + ((cj.toNat : Int) - 48)) = ((numV ((l.drop i).take (j + 1 - i)) : Nat) : Int) by rw [HNn.out]; omega] at h ⊢; exact Lib.hid h
       focus
        obtain ⟨ht, ⟨ft0, ft1, ft2, ft3⟩, ct0, ct1, ct2, ct3⟩ := bx4 HO.out.blk; iterate 11 (refine cl_doA rfl rfl rfl (fun _ _ => ?_); go_wp2_with fail)
        refine cl_nil ?_; go_wp2_with fail
        go_roundg (e - (j + 1))
        case measure => omega
        case rel => exact ⟨j + 1, rfl, by omega, by omega, by go_num, HO5⟩
      ·obtain rfl : j = e := by omega
       rw [<- hn] at He; clear hn hJ2 hK2 hlt; obtain ⟨ht, ⟨ft0, ft1, ft2, ft3⟩, ct0, ct1, ct2, ct3⟩ := bx4 HO.out.blk; obtain ⟨hr, ⟨fr0, fr1, fr2, fr3⟩, cr0, cr1, cr2, cr3⟩ := bx4 HO.out.swap.blk; have ntr := Owns.ne HO.out; have ntr' := ntr.symm
       try simp only []
       repeat (first | go_values | go_skip | go_guarded | go_step | go_upon)
       have h1 := (Owns.store (HO.out) (i := 3) (.string (u.extract i j))).swap; have h2 := st4 h1 (.int .i64 (2 : Nat)) (.int .i64 (i : Nat)) (.int .i64 (n : Nat)) (.string (u.extract i j)); exact bodyPost_ret (rnext_res rfl h2.blk.1) (by rfl) ⟨by rw [He.out, HX.out]; rfl, h2.base⟩
 have q4 : (A == 4) = false := by simpa using h4
 go_wp2_with fail
 try go_at_call 123
 refine (rdigit_c ci w1).mono ?_; rintro e w2 ⟨rfl, hw⟩; subst hw; rw [HA.out.2]; have hq := quote_cls ci; rw [HA.out.2] at hq; by_cases h6 : A = 6
 ·subst h6; have hq' : ((ci.toNat : Int) == 34) = true := hq; have H0 : Hid (idxQ (l.drop (i + 1)) = (idxQ (l.drop (i + 1))).map (· + (i + 1 - (i + 1)))) := by
   show _ = _; rw [Nat.sub_self]; cases idxQ (l.drop (i + 1)) <;> rfl
  have Hn : Hid (nextL l i = match idxQ (l.drop (i + 1)) with | none => .error 6 | some n => if (l.drop (i + 1))[n]? = some 10 then .error 6 else if 400 < n then .error 2 else .ok (⟨3, i, 0, (l.drop (i + 1)).take n⟩, n + 2)) := by
   show _ = _; unfold nextL; rw [HA.out.1]
   rfl
  clear h3 h4 hq; go_wp2_with fail
  clear hcui kli q3 q4 hq'; go_loopg [6] (N - (i + 1)) (fun gk x wr => ∃ e : Nat, gk = N - e /\ i + 1 <= e /\ e <= N /\ x = .int .i64 (e : Int) /\ wr = w2 /\ Hid (idxQ (l.drop (i + 1)) = (idxQ (l.drop e)).map (· + (e - (i + 1)))))
  case atStart => exact ⟨i + 1, rfl, Nat.le_refl _, by omega, by go_num, rfl, H0⟩
  case round =>
   rename_i J1 K1 hJ1 hK1; clear H0; obtain ⟨e, rfl, hie, heN, rfl, rfl, hv⟩ := hrel; by_cases hlt : e < N
   ·obtain ⟨ce, hce⟩ : ∃ c, c = l[e]'(by have := HN.out; omega) := ⟨_, rfl⟩; have kle : e < u.size := by omega
    have hcue : u[e] = ce := by rw [HU.out e kle (by have := HN.out; omega), hce]
    have Hce : Hid (l[e]? = some ce) := by show _ = _; rw [List.getElem?_eq_getElem (by have := HN.out; omega), hce]
    clear hce; by_cases he34 : ce = 34
    ·have hx34 : ((ce.toNat : Int) != 34) = false := by rw [he34]; rfl
     have hx10 : ((ce.toNat : Int) == 10) = false := by rw [he34]; rfl
     have hne : ((e : Int) == (N : Int)) = false := by simp; omega
     have HI : Hid (nextL l i = if 400 < e - (i + 1) then .error 2 else .ok (⟨3, i, 0, (l.drop (i + 1)).take (e - (i + 1))⟩, e - (i + 1) + 2)) := by
      show _ = _; rw [Hn.out, hv.out, idxQ_step Hce.out, if_pos (.inl he34)]; simp only [Option.map_some, Nat.zero_add]; rw [if_neg (by rw [List.getElem?_drop, show i + 1 + (e - (i + 1)) = e by omega, Hce.out, he34]; decide)]
     clear he34 hv hJ1 hK1; by_cases h400 : 400 < e - (i + 1)
     ·have h400' : (400 : Int) < (e : Int) - (i : Int) - 1 := by omega
      have He : Hid (nextL l i = .error 2) := by show _ = _; rw [HI.out, if_pos h400]
      clear h400; obtain ⟨ht, ⟨ft0, ft1, ft2, ft3⟩, ct0, ct1, ct2, ct3⟩ := bx4 HO.out.blk; obtain ⟨hr, ⟨fr0, fr1, fr2, fr3⟩, cr0, cr1, cr2, cr3⟩ := bx4 HO.out.swap.blk; have ntr := Owns.ne HO.out; have ntr' := ntr.symm
      try simp only []
      repeat (first | go_values | go_skip | go_guarded | go_step | go_upon)
      have h1 := (HO.out).swap; have h2 := st4 h1 (.int .i64 0) (.int .i64 0) (.int .i64 0) (.string ⟨#[]⟩); exact bodyPost_ret (rnext_res rfl h2.blk.1) (by rfl) ⟨by rw [He.out]; rfl, h2.base⟩
     ·have h400' : ¬ (400 : Int) < (e : Int) - (i : Int) - 1 := by omega
      have He : Hid (nextL l i = .ok (⟨3, i, 0, (l.drop (i + 1)).take (e - (i + 1))⟩, e - (i + 1) + 2)) := by show _ = _; rw [HI.out, if_neg h400]
      clear h400; obtain ⟨ht, ⟨ft0, ft1, ft2, ft3⟩, ct0, ct1, ct2, ct3⟩ := bx4 HO.out.blk; obtain ⟨hr, ⟨fr0, fr1, fr2, fr3⟩, cr0, cr1, cr2, cr3⟩ := bx4 HO.out.swap.blk; have ntr := Owns.ne HO.out; have ntr' := ntr.symm
      try simp only []
      repeat (first | go_values | go_skip | go_guarded | go_step | go_upon)
      have h2 := st4 HO.out.swap (.int .i64 (3 : Nat)) (.int .i64 (i : Nat)) (.int .i64 (0 : Nat)) (.string (u.extract (i + 1) e)); exact bodyPost_ret (rnext_res rfl h2.blk.1) (by rfl) ⟨by rw [He.out, HX.out]; rfl, h2.base⟩
    ·have hx34 : ((ce.toNat : Int) != 34) = true := by
      have : ce.toNat ≠ 34 := fun h => he34 (UInt8.toNat_inj.1 h); simp; omega
     by_cases he10 : ce = 10
     ·have hx10 : ((ce.toNat : Int) != 10) = false := by rw [he10]; rfl
      have hx10' : ((ce.toNat : Int) == 10) = true := by rw [he10]; rfl
      have hne : ((e : Int) == (N : Int)) = false := by simp; omega
      have He : Hid (nextL l i = .error 6) := by
       show _ = _; rw [Hn.out, hv.out, idxQ_step Hce.out, if_pos (.inr he10)]; simp only [Option.map_some, Nat.zero_add]; rw [if_pos (by rw [List.getElem?_drop, show i + 1 + (e - (i + 1)) = e by omega, Hce.out, he10])]
      clear he34 he10 hv hJ1 hK1; obtain ⟨ht, ⟨ft0, ft1, ft2, ft3⟩, ct0, ct1, ct2, ct3⟩ := bx4 HO.out.blk; obtain ⟨hr, ⟨fr0, fr1, fr2, fr3⟩, cr0, cr1, cr2, cr3⟩ := bx4 HO.out.swap.blk; have ntr := Owns.ne HO.out; have ntr' := ntr.symm
      try simp only []
      repeat (first | go_values | go_skip | go_guarded | go_step | go_upon)
      have h1 := (HO.out).swap; have h2 := st4 h1 (.int .i64 0) (.int .i64 0) (.int .i64 0) (.string ⟨#[]⟩); exact bodyPost_ret (rnext_res rfl h2.blk.1) (by rfl) ⟨by rw [He.out]; rfl, h2.base⟩
     ·have hx10 : ((ce.toNat : Int) != 10) = true := by
       have : ce.toNat ≠ 10 := fun h => he10 (UInt8.toNat_inj.1 h); simp; omega
      have HV : Hid (idxQ (l.drop (i + 1)) = (idxQ (l.drop (e + 1))).map (· + (e + 1 - (i + 1)))) := by
       show _ = _; rw [hv.out, idxQ_step Hce.out, if_neg (by rintro (h | h) <;> first | (exact he34 h; done) | exact he10 h)]; cases idxQ (l.drop (e + 1)) with
       | none => rfl
       | some n => simp; omega
      clear he34 he10 hv; go_wp2_with fail
      go_roundg (N - (e + 1))
      case measure => omega
      case rel => exact ⟨e + 1, rfl, by omega, by omega, by go_num, rfl, HV⟩
   ·obtain rfl : e = N := by omega
    have He : Hid (nextL l i = .error 6) := by
     show _ = _; rw [Hn.out, hv.out, List.drop_of_length_le (by have := HN.out; omega)]
     rfl
    clear hv hJ1 hK1 hlt; obtain ⟨ht, ⟨ft0, ft1, ft2, ft3⟩, ct0, ct1, ct2, ct3⟩ := bx4 HO.out.blk; obtain ⟨hr, ⟨fr0, fr1, fr2, fr3⟩, cr0, cr1, cr2, cr3⟩ := bx4 HO.out.swap.blk; have ntr := Owns.ne HO.out; have ntr' := ntr.symm
    try simp only []
    repeat (first | go_values | go_skip | go_guarded | go_step | go_upon)
    have h1 := (HO.out).swap; have h2 := st4 h1 (.int .i64 0) (.int .i64 0) (.int .i64 0) (.string ⟨#[]⟩); exact bodyPost_ret (rnext_res rfl h2.blk.1) (by rfl) ⟨by rw [He.out]; rfl, h2.base⟩
 have hq' : ((ci.toNat : Int) == 34) = false := by rw [hq]; simpa using h6
 clear hq
 focus
  obtain ⟨ht, ⟨ft0, ft1, ft2, ft3⟩, ct0, ct1, ct2, ct3⟩ := bx4 HO.out.blk; obtain ⟨hr, ⟨fr0, fr1, fr2, fr3⟩, cr0, cr1, cr2, cr3⟩ := bx4 HO.out.swap.blk; have ntr := Owns.ne HO.out; have ntr' := ntr.symm; go_wp2_with fail
  clear ht ft0 ft1 ft2 ft3 ct0 ct1 ct2 ct3 hr fr0 fr1 fr2 fr3 cr0 cr1 cr2 cr3 ntr ntr'
 replace HO : Hid (Owns w (w2.setCell ⟨bT, 0, none⟩ (.int .i64 4)) [blk bT (tokO 4 i 0), blk bR tobj0]) := Lib.hid (HO.out.store (i := 0) (.int .i64 4)); obtain ⟨w3, hw3⟩ : ∃ w3, w3 = w2.setCell ⟨bT, 0, none⟩ (.int .i64 4) := ⟨_, rfl⟩; rw [<- hw3] at HO ⊢; clear hw3
 try go_at_call 122
 refine (rhas_c [33, 60, 62] ci w3 (by simp)).mono ?_; rintro e w4 ⟨rfl, hw⟩; subst hw; rw [bang_cls, HA.out.2]; have HNx : Hid (nextL l i = if (A = 7 ∨ A = 8) /\ l[i + 1]? = some 61 then .ok (⟨4, i, 0, (l.drop i).take 2⟩, 2) else if A = 8 ∨ A = 9 then .ok (⟨4, i, 0, (l.drop i).take 1⟩, 1) else .error 3) := by
  show _ = _; unfold nextL; rw [HA.out.1, if_neg h3, if_neg h4, if_neg h6]
 clear h3 h4 h6; by_cases h78 : A = 7 ∨ A = 8
 ·have hq1 : ((A == 7) || (A == 8)) = true := by simpa using h78
  rw [hq1]; clear hq1; by_cases hlt : i + 1 < N
  ·obtain ⟨d, hd⟩ : ∃ d, d = l[i + 1]'(by have := HN.out; omega) := ⟨_, rfl⟩; have kld : i + 1 < u.size := by omega
   have hcud : u[i + 1] = d := by rw [HU.out (i + 1) kld (by have := HN.out; omega), hd]
   have Hd : Hid (l[i + 1]? = some d) := by show _ = _; rw [List.getElem?_eq_getElem (by have := HN.out; omega), hd]
   clear hd; by_cases h61 : d = 61
   ·have hx61 : ((d.toNat : Int) == 61) = true := by rw [h61]; rfl
    have He : Hid (nextL l i = .ok (⟨4, i, 0, (l.drop i).take 2⟩, 2)) := by show _ = _; rw [HNx.out, if_pos ⟨h78, by rw [Hd.out, h61]⟩]
    clear h61 h78; obtain ⟨ht, ⟨ft0, ft1, ft2, ft3⟩, ct0, ct1, ct2, ct3⟩ := bx4 HO.out.blk; obtain ⟨hr, ⟨fr0, fr1, fr2, fr3⟩, cr0, cr1, cr2, cr3⟩ := bx4 HO.out.swap.blk; have ntr := Owns.ne HO.out; have ntr' := ntr.symm
    try simp only []
    repeat (first | go_values | go_skip | go_guarded | go_step | go_upon)
    have h1 := (Owns.store (HO.out) (i := 3) (.string (u.extract i (i + 2)))).swap; have h2 := st4 h1 (.int .i64 (4 : Nat)) (.int .i64 (i : Nat)) (.int .i64 (0 : Nat)) (.string (u.extract i (i + 2))); exact bodyPost_ret (rnext_res rfl h2.blk.1) (by rfl) ⟨by rw [He.out, HX.out, show i + 2 - i = 2 by omega]; rfl, h2.base⟩
   ·have hx61 : ((d.toNat : Int) == 61) = false := by
     have : d.toNat ≠ 61 := fun h => h61 (UInt8.toNat_inj.1 h); simp; omega
    have HNy : Hid (nextL l i = if A = 8 ∨ A = 9 then .ok (⟨4, i, 0, (l.drop i).take 1⟩, 1) else .error 3) := by
     show _ = _; rw [HNx.out, if_neg (by rintro ⟨-, h⟩; rw [Hd.out] at h; exact h61 (by simpa using h))]
    clear h61 h78; go_wp2_with fail
    try go_at_call 122
    refine (rhas_c [59, 44, 46, 58, 40, 41, 91, 93, 123, 125, 61, 60, 62, 43, 45] ci _ (by simp)).mono ?_; rintro x w5 ⟨rfl, hw⟩; subst hw; rw [symb_cls, HA.out.2]; by_cases h89 : A = 8 ∨ A = 9
    ·have hq2 : ((A == 8) || (A == 9)) = true := by simpa using h89
     have He : Hid (nextL l i = .ok (⟨4, i, 0, (l.drop i).take 1⟩, 1)) := by show _ = _; rw [HNy.out, if_pos h89]
     rw [hq2]; clear h89 hq2; obtain ⟨ht, ⟨ft0, ft1, ft2, ft3⟩, ct0, ct1, ct2, ct3⟩ := bx4 HO.out.blk; obtain ⟨hr, ⟨fr0, fr1, fr2, fr3⟩, cr0, cr1, cr2, cr3⟩ := bx4 HO.out.swap.blk; have ntr := Owns.ne HO.out; have ntr' := ntr.symm
     try simp only []
     repeat (first | go_values | go_skip | go_guarded | go_step | go_upon)
     have h1 := (Owns.store (HO.out) (i := 3) (.string (u.extract i (i + 1)))).swap; have h2 := st4 h1 (.int .i64 (4 : Nat)) (.int .i64 (i : Nat)) (.int .i64 (0 : Nat)) (.string (u.extract i (i + 1))); exact bodyPost_ret (rnext_res rfl h2.blk.1) (by rfl) ⟨by rw [He.out, HX.out, show i + 1 - i = 1 by omega]; rfl, h2.base⟩
    ·have hq2 : ((A == 8) || (A == 9)) = false := by simpa using h89
     have He : Hid (nextL l i = .error 3) := by show _ = _; rw [HNy.out, if_neg h89]
     rw [hq2]; clear h89 hq2; obtain ⟨ht, ⟨ft0, ft1, ft2, ft3⟩, ct0, ct1, ct2, ct3⟩ := bx4 HO.out.blk; obtain ⟨hr, ⟨fr0, fr1, fr2, fr3⟩, cr0, cr1, cr2, cr3⟩ := bx4 HO.out.swap.blk; have ntr := Owns.ne HO.out; have ntr' := ntr.symm
     try simp only []
     repeat (first | go_values | go_skip | go_guarded | go_step | go_upon)
     have h1 := (HO.out).swap; have h2 := st4 h1 (.int .i64 0) (.int .i64 0) (.int .i64 0) (.string ⟨#[]⟩); exact bodyPost_ret (rnext_res rfl h2.blk.1) (by rfl) ⟨by rw [He.out]; rfl, h2.base⟩
  ·have HNy : Hid (nextL l i = if A = 8 ∨ A = 9 then .ok (⟨4, i, 0, (l.drop i).take 1⟩, 1) else .error 3) := by
    show _ = _; rw [HNx.out, if_neg (by rintro ⟨-, h⟩; rw [List.getElem?_eq_none (by have := HN.out; omega)] at h; cases h)]
   clear h78; go_wp2_with fail
   try go_at_call 122
   refine (rhas_c [59, 44, 46, 58, 40, 41, 91, 93, 123, 125, 61, 60, 62, 43, 45] ci _ (by simp)).mono ?_; rintro x w5 ⟨rfl, hw⟩; subst hw; rw [symb_cls, HA.out.2]; by_cases h89 : A = 8 ∨ A = 9
   ·have hq2 : ((A == 8) || (A == 9)) = true := by simpa using h89
    have He : Hid (nextL l i = .ok (⟨4, i, 0, (l.drop i).take 1⟩, 1)) := by show _ = _; rw [HNy.out, if_pos h89]
    rw [hq2]; clear h89 hq2; obtain ⟨ht, ⟨ft0, ft1, ft2, ft3⟩, ct0, ct1, ct2, ct3⟩ := bx4 HO.out.blk; obtain ⟨hr, ⟨fr0, fr1, fr2, fr3⟩, cr0, cr1, cr2, cr3⟩ := bx4 HO.out.swap.blk; have ntr := Owns.ne HO.out; have ntr' := ntr.symm
    try simp only []
    repeat (first | go_values | go_skip | go_guarded | go_step | go_upon)
    have h1 := (Owns.store (HO.out) (i := 3) (.string (u.extract i (i + 1)))).swap; have h2 := st4 h1 (.int .i64 (4 : Nat)) (.int .i64 (i : Nat)) (.int .i64 (0 : Nat)) (.string (u.extract i (i + 1))); exact bodyPost_ret (rnext_res rfl h2.blk.1) (by rfl) ⟨by rw [He.out, HX.out, show i + 1 - i = 1 by omega]; rfl, h2.base⟩
   ·have hq2 : ((A == 8) || (A == 9)) = false := by simpa using h89
    have He : Hid (nextL l i = .error 3) := by show _ = _; rw [HNy.out, if_neg h89]
    rw [hq2]; clear h89 hq2; obtain ⟨ht, ⟨ft0, ft1, ft2, ft3⟩, ct0, ct1, ct2, ct3⟩ := bx4 HO.out.blk; obtain ⟨hr, ⟨fr0, fr1, fr2, fr3⟩, cr0, cr1, cr2, cr3⟩ := bx4 HO.out.swap.blk; have ntr := Owns.ne HO.out; have ntr' := ntr.symm
    try simp only []
    repeat (first | go_values | go_skip | go_guarded | go_step | go_upon)
    have h1 := (HO.out).swap; have h2 := st4 h1 (.int .i64 0) (.int .i64 0) (.int .i64 0) (.string ⟨#[]⟩); exact bodyPost_ret (rnext_res rfl h2.blk.1) (by rfl) ⟨by rw [He.out]; rfl, h2.base⟩
 ·have hq1 : ((A == 7) || (A == 8)) = false := by simpa using h78
  rw [hq1]; have HNy : Hid (nextL l i = if A = 8 ∨ A = 9 then .ok (⟨4, i, 0, (l.drop i).take 1⟩, 1) else .error 3) := by
   show _ = _; rw [HNx.out, if_neg (fun h => h78 h.1)]
  clear h78 hq1; go_wp2_with fail
  try go_at_call 122
  refine (rhas_c [59, 44, 46, 58, 40, 41, 91, 93, 123, 125, 61, 60, 62, 43, 45] ci _ (by simp)).mono ?_; rintro x w5 ⟨rfl, hw⟩; subst hw; rw [symb_cls, HA.out.2]; by_cases h89 : A = 8 ∨ A = 9
  ·have hq2 : ((A == 8) || (A == 9)) = true := by simpa using h89
   have He : Hid (nextL l i = .ok (⟨4, i, 0, (l.drop i).take 1⟩, 1)) := by show _ = _; rw [HNy.out, if_pos h89]
   rw [hq2]; clear h89 hq2; obtain ⟨ht, ⟨ft0, ft1, ft2, ft3⟩, ct0, ct1, ct2, ct3⟩ := bx4 HO.out.blk; obtain ⟨hr, ⟨fr0, fr1, fr2, fr3⟩, cr0, cr1, cr2, cr3⟩ := bx4 HO.out.swap.blk; have ntr := Owns.ne HO.out; have ntr' := ntr.symm
   try simp only []
   repeat (first | go_values | go_skip | go_guarded | go_step | go_upon)
   have h1 := (Owns.store (HO.out) (i := 3) (.string (u.extract i (i + 1)))).swap; have h2 := st4 h1 (.int .i64 (4 : Nat)) (.int .i64 (i : Nat)) (.int .i64 (0 : Nat)) (.string (u.extract i (i + 1))); exact bodyPost_ret (rnext_res rfl h2.blk.1) (by rfl) ⟨by rw [He.out, HX.out, show i + 1 - i = 1 by omega]; rfl, h2.base⟩
  ·have hq2 : ((A == 8) || (A == 9)) = false := by simpa using h89
   have He : Hid (nextL l i = .error 3) := by show _ = _; rw [HNy.out, if_neg h89]
   rw [hq2]; clear h89 hq2; obtain ⟨ht, ⟨ft0, ft1, ft2, ft3⟩, ct0, ct1, ct2, ct3⟩ := bx4 HO.out.blk; obtain ⟨hr, ⟨fr0, fr1, fr2, fr3⟩, cr0, cr1, cr2, cr3⟩ := bx4 HO.out.swap.blk; have ntr := Owns.ne HO.out; have ntr' := ntr.symm
   try simp only []
   repeat (first | go_values | go_skip | go_guarded | go_step | go_upon)
   have h1 := (HO.out).swap; have h2 := st4 h1 (.int .i64 0) (.int .i64 0) (.int .i64 0) (.string ⟨#[]⟩); exact bodyPost_ret (rnext_res rfl h2.blk.1) (by rfl) ⟨by rw [He.out]; rfl, h2.base⟩
def widthT (t : Tok) : Nat := if t.kind = 3 then t.text.length + 2 else t.text.length
theorem next_width {l : List UInt8} {i : Nat} {t : Tok} {k : Nat} (h : nextL l i = .ok (t, k)) : widthT t = k := by
 have hw (C : List Nat) : ((l.drop i).take (whileN C (l.drop i))).length = whileN C (l.drop i) := by
  rw [List.length_take]; have := whileN_le C (l.drop i); omega
 unfold widthT; unfold nextL at h
 split at h
 ·split at h
  ·cases h
  ·injection h with h; injection h with h1 h2; subst h1; subst h2; simp only; rw [if_neg (by decide), hw]
 split at h
 ·split at h
  ·cases h
  ·injection h with h; injection h with h1 h2; subst h1; subst h2; simp only; rw [if_neg (by decide), hw]
 split at h
 ·split at h
  ·cases h
  ·rename_i n hn; have hn := idxQ_lt hn
   split at h
   ·cases h
   split at h
   ·cases h
   ·injection h with h; injection h with h1 h2; subst h1; subst h2; simp only [if_true, List.length_take]; omega
 split at h
 ·rename_i h0; have := (List.getElem?_eq_some_iff.1 h0.2).1
  injection h with h; injection h with h1 h2; subst h1; subst h2; simp only; rw [if_neg (by decide), List.length_take, List.length_drop]; omega
 split at h
 ·rename_i h0; have hi : i < l.length := Decidable.byContradiction fun hx => by
   rw [atL_none (by omega)] at h0; omega
  injection h with h; injection h with h1 h2; subst h1; subst h2; simp only; rw [if_neg (by decide), List.length_take, List.length_drop]; omega
 ·cases h
theorem rWidth_c (t : Tok) (w : World) (hl : t.text.length <= 20000) : Calls Tryz.prog 94 #[tval t] w fun e w' => e = .returned (.int .i64 (widthT t : Nat)) /\ Below w.heap.size w w' := by
 have HW : Hid (widthT t = if t.kind = 3 then t.text.length + 2 else t.text.length) := rfl; obtain ⟨K, hK⟩ : ∃ K, K = widthT t := ⟨_, rfl⟩; rw [<- hK] at HW ⊢; clear hK; obtain ⟨kd, po, nu, u⟩ := t; simp only at hl HW; go_enter Tryz.func94, Tryz.ntmps94
 by_cases h3 : kd = 3
 ·have h3' : ((kd : Int) == 3) = true := by simp; omega
  rw [if_pos h3] at HW; clear h3; go_wp2_with fail
  go_ret
  exact ⟨by rw [HW.out]; rfl, (Below.refl _ _).alloc (Nat.le_refl _) _⟩
 ·have h3' : ((kd : Int) == 3) = false := by simp; omega
  rw [if_neg h3] at HW; clear h3; go_wp2_with fail
  go_ret
  exact ⟨by rw [HW.out]; rfl, (Below.refl _ _).alloc (Nat.le_refl _) _⟩
theorem TokStep1 {V W4 w2 : World} {v v' : Value} {acc : List Tok} {t : Tok} {o1 o2 : Obj} (h : ORow 40 4 V W4 v acc.length (acc.flatMap tcells)) (hrow : w2.ownsRow 0 40 4 v' (acc.length + 1) (acc.flatMap tcells ++ tcells t))
  (hgrow : ((W4.alloc o1).alloc o2).grownBy w2 v.ownBlock) (hblk : v'.ownBlock = v.ownBlock ∨ v'.ownBlock = some ((W4.alloc o1).alloc o2).heap.size) : ORow 40 4 V w2 v' (acc ++ [t]).length ((acc ++ [t]).flatMap tcells) := TokStep h hrow hgrow hblk
theorem tok_kept {V W4 w2 : World} {v : Value} {n : Nat} {xs : List Value} {o1 o2 : Obj} (h : ORow 40 4 V W4 v n xs) (hgrow : ((W4.alloc o1).alloc o2).grownBy w2 v.ownBlock) : w2.heap[W4.heap.size]? = some o1 := by
 have h1 : ((W4.alloc o1).alloc o2).heap[W4.heap.size]? = some o1 := by
  have h0 := new_heap W4 o1 W4.heap.size rfl; rw [((Below.refl (W4.alloc o1).heap.size (W4.alloc o1)).alloc (Nat.le_refl _) o2).block W4.heap.size (by simp)]; exact h0
 rw [hgrow.block W4.heap.size (by simp; omega) (fun e => ?_)]
 ·exact h1
 ·first
   | exact absurd (h.row.lt W4.heap.size e).2 (Nat.lt_irrefl _)
   | exact absurd (h.row.lt W4.heap.size e.symm).2 (Nat.lt_irrefl _)
theorem tok_text {l : List UInt8} {i : Nat} {t : Tok} {k : Nat} (h : nextL l i = .ok (t, k)) (hl : l.length <= 20000) : t.text.length <= 20000 := by
 have h1 := next_width h; have h2 := nextL_width h (Decidable.byContradiction fun hx => by
  unfold nextL at h; rw [atL_none (by omega)] at h; simp at h)
 unfold widthT at h1
 split at h1 <;> omega
set_option maxRecDepth 100000 in
set_option maxHeartbeats 4000000 in
theorem rLex_c (l : List UInt8) (w : World) (hl : l.length <= 140737488355328) : Calls Tryz.prog 56 #[.string (bs l)] w (LexPost w l) := by
 by_cases h2 : 20000 < l.length
 ·have He : Hid (lexAll l = ([], 2, -1)) := if_pos h2; go_enter Tryz.func56, Tryz.ntmps56
  go_wp2_with fail
  refine bodyPost_ret (results_tmp3 rfl _ _ _) (by rfl) ⟨.slice none 0 0, ?_, ?_, Below.refl _ _⟩
  ·rw [He.out]; rfl
  ·rw [He.out]; exact .inl ⟨rfl, rfl⟩
 have hl2 : l.length <= 20000 := by omega
 have HL := Lib.hid hl2; go_enter Tryz.func56, Tryz.ntmps56
 go_wp2_with fail
 try go_at_call 92
 refine (rgap_c l 0 w (by omega) (by omega)).mono ?_; rintro e W2 ⟨rfl, hw⟩; subst hw; have hg0 := gapE_le l 0 (by omega); have H0 := Lib.hid (lexI_start l); go_wp2_with fail
 go_loopg [5, 6] (l.length - gapE l 0) (fun gk v i wr => ∃ (k : Nat) (acc : List Tok), gk = l.length - k /\ k <= l.length /\ i = .int .i64 (k : Int) /\ acc.length <= 5000 /\ Hid (LexI l k acc) /\ Hid (ORow 40 4 W2 wr v acc.length (acc.flatMap tcells)))
 case atStart => exact ⟨gapE l 0, [], rfl, hg0, rfl, by simp, H0, ORow.nil (Below.refl _ _)⟩
 case round =>
  rename_i J1 K1 hJ1 hK1; clear H0 hg0; obtain ⟨k, acc, rfl, hk, rfl, h5, hL, hR⟩ := hrel; obtain ⟨sa, sc, rfl⟩ := hR.out.form; by_cases hlt : k < l.length
  ·go_wp2_with fail
   try go_at_call 93
   refine (rnext_c l k wr HL.out hlt).mono ?_; rintro e W4 ⟨rfl, hb⟩; have HR := Lib.hid (hR.out.keep hb); clear hb hR; rcases hn : nextL l k with e | ⟨t, m⟩
   ·have he1 : ((e : Int) != 0) = true := by have := nextL_err hn; simp; omega
    have He := Lib.hid (lexI_err hL.out hlt HL.out hn); clear hn hL; simp only [rnextV]; go_wp2_with fail
    refine bodyPost_ret (results_tmp3 rfl _ _ _) (by rfl) ⟨.slice none 0 0, ?_, ?_, ?_⟩
    ·rw [He.out]; rfl
    ·rw [He.out]; exact .inl ⟨rfl, rfl⟩
    ·exact HR.out.below.trans (Below.mono ((Below.refl _ _).alloc (Nat.le_refl _) _) HR.out.below.size)
   ·obtain ⟨n1, n2⟩ := nextL_width hn hlt; have HWd := Lib.hid (next_width hn); have HTl := Lib.hid (tok_text hn HL.out); simp only [rnextV, tval]; by_cases hf : acc.length = 5000
    ·have hf1 : ((acc.length : Int) == 5000) = true := by simp; omega
     have He := Lib.hid (lexI_full hL.out hlt HL.out hn hf); clear hn hL hf h5; go_wp2_with fail
     refine bodyPost_ret (results_tmp3 rfl _ _ _) (by rfl) ⟨.slice none 0 0, ?_, ?_, ?_⟩
     ·rw [He.out]; rfl
     ·rw [He.out]; exact .inl ⟨rfl, rfl⟩
     ·exact HR.out.below.trans (Below.mono ((Below.refl _ _).alloc (Nat.le_refl _) _) HR.out.below.size)
    ·have hf1 : ((acc.length : Int) == 5000) = false := by simp; omega
     have HN := Lib.hid (lexI_next hL.out hlt hn hf); have hlen : acc.length <= 4999 := by omega
     clear hn hL hf h5; go_wp2_with (refine wpList_plain rfl fun K hK => wp_append (.tmp 35) (.tmp 37) 36 (by rfl) 40 _ 4 40 Tryz.underlying36 info_tok (by rfl) (by omega) _ acc.length _ (by rfl) ((HR.out.row.alloc _).alloc _) (W4.heap.size + 1) 1 1 (tcells t) (by rfl) (by rfl) 40 (by exact new_heap (W4.alloc _) _ _ (by simp)) (by simp [tcells, Value.oneCell']) (by omega) (by omega) ?_; intro v' w2 hrow hgrow hblk; have HR2 := Lib.hid (TokStep1 HR.out hrow hgrow hblk); have bkt : w2.heap[W4.heap.size]? = some (tobj t) := (tok_kept HR.out hgrow); have hbt := lt_of_block bkt; have ct0 := cell_of_heap bkt (i := 0); have ct1 := cell_of_heap bkt (i := 1); have ct2 := cell_of_heap bkt (i := 2); have ct3 := cell_of_heap bkt (i := 3); simp only [List.getElem?_toArray, List.getElem?_cons_succ, List.getElem?_cons_zero] at ct0 ct1 ct2 ct3; clear hrow hgrow hblk bkt)
     clear ct0 ct1 ct2 ct3 hbt
     try go_at_call 94
     refine (rWidth_c t w2 HTl.out).mono ?_; rintro e w3 ⟨rfl, hb⟩; rw [HWd.out]; have HR3 := Lib.hid (HR2.out.keep hb); clear hb HR2 HR; go_wp2_with fail
     rw [show (k : Int) + (m : Int) = ((k + m : Nat) : Int) from rfl]
     try go_at_call 92
     refine (rgap_c l (k + m) w3 (by have := HL.out; omega) n2).mono ?_; rintro e w4 ⟨rfl, hw⟩; subst hw; have hge := gapE_le l (k + m) n2; have hgk : k < gapE l (k + m) := by unfold gapE; omega
     go_wp2_with fail
     go_roundg (l.length - gapE l (k + m))
     case measure => omega
     case rel => exact ⟨gapE l (k + m), acc ++ [t], rfl, hge, rfl, by simp; omega, HN, HR3⟩
  ·have He := Lib.hid (lexI_end hL.out (by omega) HL.out); clear hL hJ1 hK1; go_wp2_with fail
   refine bodyPost_ret (results_tmp3 rfl _ _ _) (by rfl) ⟨.slice sa acc.length sc, ?_, ?_, hR.out.below⟩
   ·rw [He.out]; rfl
   ·rw [He.out]; exact toks_of_row hR.out
end Go.Proofs.YtoeknmkephnekaaGreatDoor

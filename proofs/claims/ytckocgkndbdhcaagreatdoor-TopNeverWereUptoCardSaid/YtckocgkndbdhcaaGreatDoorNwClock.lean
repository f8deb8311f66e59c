/-
  Instants: clock's 'instant', 'two' and 'Text'.
-/
import Derived.Test.YtckocgkndbdhcaaGreatDoorShelf
import Derived.Test.YtckocgkndbdhcaaGreatDoorLxA
import Derived.Lib.ItoaMem
import Derived.Lib.ItoaLen
import Derived.Deep.QuietTactic
import Derived.BigQuiet
import Derived.Lib.AppendIntMem
namespace Go.Cz.Nw
def instB (t : Int) : Bool := decide (0 ≤ t) && decide (t ≤ 144001439)
theorem instB_true {t : Int} : instB t = true ↔ 0 ≤ t ∧ t ≤ 144001439 := by simp [instB]
theorem instB_false {t : Int} : instB t = false ↔ t < 0 ∨ 144001439 < t := by
  cases h : instB t with
  | true => have := instB_true.1 h; simp; omega
  | false => simp; have : ¬ (0 ≤ t ∧ t ≤ 144001439) := fun h' => by rw [instB_true.2 h'] at h; cases h
             omega
end Go.Cz.Nw
namespace Go.Proofs.YtckocgkndbdhcaaGreatDoor
open Go.RowKit Go.Cz Go.Cz.Nw
set_option linter.unusedSimpArgs false
set_option linter.unusedVariables false
attribute [local go_sem] bs_size bs_extract bs_append bs_toList
attribute [local irreducible] cList
theorem instant_c (t : Int) (w : World) : Calls Tryz.prog 51 #[.int .i64 t] w fun e w' => e = .returned (.bool (instB t)) ∧ w' = w := by
  by_cases h0 : 0 ≤ t
  · by_cases h1 : t ≤ 144001439
    · have He : Hid (instB t = true) := instB_true.2 ⟨h0, h1⟩
      go_enter Tryz.func51, Tryz.ntmps51
      go_wp2
      go_ret
      exact ⟨by rw [He.out]; rfl, rfl⟩
    · have He : Hid (instB t = false) := instB_false.2 (by omega)
      go_enter Tryz.func51, Tryz.ntmps51
      go_wp2
      go_ret
      exact ⟨by rw [He.out]; rfl, rfl⟩
  · have He : Hid (instB t = false) := instB_false.2 (by omega)
    go_enter Tryz.func51, Tryz.ntmps51
    go_wp2
    go_ret
    exact ⟨by rw [He.out]; rfl, rfl⟩
/-- What the law knows of the library's variables. -/
structure Std (W : World) : Prop where
  tab : Lib.TabIs Tryz.prog W "internal/strconv.uint64pow10" .u64 Lib.pow10Tab
  cas : Lib.CaseVar 8 Lib.caseA W
  utf : Lib.Utf8Tabs 1 2 W
theorem var_below {w w' : World} {n : String} {g : Nat} {cs : Array Value} (hg : Tryz.prog.globalNamed n = some g) (h : w.var? Tryz.prog n = some cs) (hb : Below w.heap.size w w') : w'.var? Tryz.prog n = some cs := by
  unfold World.var? at h ⊢
  rw [hg] at h ⊢
  simp only [Option.bind_some] at h ⊢
  have hlt : g < w.heap.size := by
    rcases Nat.lt_or_ge g w.heap.size with h' | h'
    · exact h'
    · rw [Array.getElem?_eq_none h'] at h; cases h
  rw [hb.block g hlt]
  exact h
theorem g_tab : Tryz.prog.globalNamed "internal/strconv.uint64pow10" = some 0 := by kernel_rfl
theorem Itoa_c (n : Nat) (w : World) (hn : n ≤ 1000000000) (hs : Std w) : Calls Tryz.prog 52 #[.int .i64 (n : Int)] w fun e w' => e = .returned (.string (bs (Lib.decDigits n))) ∧ Below w.heap.size w w' := by
  refine (Tryz.strconv_Itoa (n : Int) (by omega) (by omega) w hs.tab).mono ?_
  rintro e w' ⟨rfl, k, os, rfl⟩
  exact ⟨by rw [Lib.itoa_nonneg]; rfl, Lib.below_grow _ w (Nat.le_refl _) k os⟩
def twoL (n : Nat) : List UInt8 := Lib.decDigits (n / 10) ++ Lib.decDigits (n % 10)
theorem len_dec (n : Nat) (h : n < 18446744073709551616) : (Lib.decDigits n).length ≤ 20 := by rw [Lib.decDigits_length]; exact Lib.nDigits_le20 n h
theorem len_two (n : Nat) (h : n < 100) : (twoL n).length ≤ 40 := by
  have h1 := len_dec (n / 10) (by omega)
  have h2 := len_dec (n % 10) (by omega)
  unfold twoL
  rw [List.length_append]
  omega
set_option maxHeartbeats 1000000 in
theorem two_c (n : Nat) (w : World) (hn : n < 100) : Calls Tryz.prog 53 #[.int .i64 (n : Int)] w fun e w' => e = .returned (.string (bs (twoL n))) ∧ w' = w := by
  have h1 := len_dec (n / 10) (by omega)
  have h2 := len_dec (n % 10) (by omega)
  have H1 := Lib.hid fun w => Tryz.strconv_Itoa_small (n / 10) (by omega) w
  have H2 := Lib.hid fun w => Tryz.strconv_Itoa_small (n % 10) (by omega) w
  have e1 : ((n / 10 : Nat) : Int) = (n : Int) / 10 := by omega
  have e2 : ((n % 10 : Nat) : Int) = (n : Int) % 10 := by omega
  have E := Lib.hid (And.intro e1 e2)
  clear e1 e2
  go_enter Tryz.func53, Tryz.ntmps53
  go_wp2_with fail
  go_at_call 52
  rw [← E.out.1]
  refine (H1.out _).mono ?_
  rintro e w1 ⟨rfl, rfl⟩
  go_wp2_with fail
  go_at_call 52
  rw [← E.out.2]
  refine (H2.out _).mono ?_
  rintro e w1 ⟨rfl, rfl⟩
  go_wp2_with fail
  go_ret
  refine ⟨?_, rfl⟩
  show Ending.returned (.string (bs _ ++ bs _)) = _
  rw [bs_append]
  rfl
def textL (n : Nat) : List UInt8 := Lib.decDigits (n / 1440) ++ [47] ++ twoL (n % 1440 / 60) ++ [58] ++ twoL (n % 60)
/-- What 'Text' answers. -/
def textF (t : Int) : List UInt8 × Int := if instB t then (textL t.toNat, 0) else ([], 1)
set_option maxHeartbeats 1000000 in
theorem Text_bad (t : Int) (w : World) (ht : instB t = false) : Calls Tryz.prog 32 #[.int .i64 t] w fun e w' => e = .returned (.tuple #[.string (bs []), .int .i64 1]) ∧ w' = w := by
  have HI := Lib.hid fun w => ht ▸ instant_c t w
  clear ht
  go_enter Tryz.func32, Tryz.ntmps32
  go_wp2_with fail
  go_at_call 51
  refine (HI.out _).mono ?_
  rintro e w1 ⟨rfl, rfl⟩
  go_wp2_with fail
  go_ret2
  exact ⟨rfl, rfl⟩
set_option maxHeartbeats 2000000 in
theorem Text_ok (n : Nat) (w : World) (hn : n ≤ 144001439) (hs : Std w) : Calls Tryz.prog 32 #[.int .i64 (n : Int)] w fun e w' => e = .returned (.tuple #[.string (bs (textL n)), .int .i64 0]) ∧ Below w.heap.size w w' := by
  have hi : instB (n : Int) = true := instB_true.2 ⟨by omega, by omega⟩
  have HI := Lib.hid fun w => hi ▸ instant_c (n : Int) w
  clear hi
  have HT := Lib.hid (Itoa_c (n / 1440) w (by omega) hs)
  have H1 := Lib.hid fun w => two_c (n % 1440 / 60) w (by omega)
  have H2 := Lib.hid fun w => two_c (n % 60) w (by omega)
  have l0 := len_dec (n / 1440) (by omega)
  have l1 := len_two (n % 1440 / 60) (by omega)
  have l2 := len_two (n % 60) (by omega)
  have e0 : ((n / 1440 : Nat) : Int) = (n : Int) / 1440 := by omega
  have e1 : ((n % 1440 / 60 : Nat) : Int) = (n : Int) % 1440 / 60 := by omega
  have e2 : ((n % 60 : Nat) : Int) = (n : Int) % 60 := by omega
  have E := Lib.hid (And.intro e0 (And.intro e1 e2))
  have HL : Hid (bs (Lib.decDigits (n / 1440)) ++ { data := #[47] } ++ bs (twoL (n % 1440 / 60)) ++ { data := #[58] } ++ bs (twoL (n % 60)) = bs (textL n)) := by
    show _ = _
    rw [show ({ data := #[47] } : ByteArray) = bs [47] from rfl, show ({ data := #[58] } : ByteArray) = bs [58] from rfl, bs_append, bs_append, bs_append, bs_append]
    rfl
  clear hs e0 e1 e2
  generalize Lib.decDigits (n / 1440) = d0 at *
  generalize twoL (n % 1440 / 60) = d1 at *
  generalize twoL (n % 60) = d2 at *
  go_enter Tryz.func32, Tryz.ntmps32
  go_wp2_with fail
  go_at_call 51
  refine (HI.out _).mono ?_
  rintro e w1 ⟨rfl, rfl⟩
  go_wp2_with fail
  go_at_call 52
  rw [← E.out.1]
  refine HT.out.mono ?_
  rintro e w2 ⟨rfl, hb⟩
  have Hb := Lib.hid hb
  clear hb
  go_wp2_with fail
  go_at_call 53
  rw [← E.out.2.1]
  refine (H1.out _).mono ?_
  rintro e w3 ⟨rfl, rfl⟩
  go_wp2_with fail
  go_at_call 53
  rw [← E.out.2.2]
  refine (H2.out _).mono ?_
  rintro e w4 ⟨rfl, rfl⟩
  go_wp2_with fail
  go_ret2
  refine ⟨?_, Hb.out⟩
  rw [← HL.out]
  rfl
theorem Text_c (t : Int) (w : World) (hs : Std w) : Calls Tryz.prog 32 #[.int .i64 t] w fun e w' => e = .returned (.tuple #[.string (bs (textF t).1), .int .i64 (textF t).2]) ∧ Below w.heap.size w w' := by
  cases h : instB t with
  | true =>
    obtain ⟨h0, h1⟩ := instB_true.1 h
    obtain ⟨n, rfl⟩ : ∃ n : Nat, t = n := ⟨t.toNat, by omega⟩
    unfold textF
    rw [if_pos h]
    exact Text_ok n w (by omega) hs
  | false =>
    refine (Text_bad t w h).mono ?_
    rintro e w' ⟨rfl, rfl⟩
    refine ⟨by unfold textF; rw [if_neg (by simp [h])], Below.refl _ _⟩
end Go.Proofs.YtckocgkndbdhcaaGreatDoor

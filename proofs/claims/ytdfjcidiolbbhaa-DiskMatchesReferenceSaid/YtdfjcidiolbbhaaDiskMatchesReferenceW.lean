/-
  'DiskMatchesReference': the walk.
-/
import Derived.Test.YtdfjcidiolbbhaaRfWant
namespace Go.Proofs.Ytdfjcidiolbbhaa
open Go.RowKit Go.Cz Go.Cz.Dk
set_option linter.unusedSimpArgs false
set_option linter.unusedVariables false
attribute [local go_sem] bs_size bs_extract bs_append bs_toList
attribute [local irreducible] cList

theorem RefAt.lt' {w : World} {b : Nat} {m : Dm} {S : List Nat} (h : RefAt w b m S) : ∀ k ∈ S, k < w.heap.size := by
  obtain ⟨sb, cap, pv, ar, x, y, z, h⟩ := h
  exact h.lt
theorem RefAt.mod' {w w' : World} {b : Nat} {m : Dm} {S S0 : List Nat} (h : RefAt w b m S) (hm : Mod S0 w w') (hd : ∀ k ∈ S, k ∉ S0) : RefAt w' b m S := by
  obtain ⟨sb, cap, pv, ar, x, y, z, h⟩ := h
  exact ⟨sb, cap, pv, ar, x, y, z, h.mod hm hd⟩
def rdisk (b : Nat) (m : Dm) : Piece where
  lies w S := RefAt w b m S
  lt h := h.lt'
  keep h hm hd := h.mod' hm hd
section
variable {w0 w : World} {ps : List Piece} {b : Nat} {m : Dm}
theorem Owns.rk {m' : Dm} {v : Value} {f : FuncId} {args : Array Value} (h : Owns w0 w (rdisk b m :: ps)) (hc : ∀ S, RefAt w b m S → Calls Try.prog f args w (RfPost b m' v S w)) :
    Calls Try.prog f args w (Back w0 v (rdisk b m' :: ps)) := by
  obtain ⟨S, h1, _, hf⟩ := h.open
  refine (hc S h1).mono ?_
  rintro e w' ⟨rfl, S', hd', hu⟩
  exact ⟨rfl, hf _ _ S' hd' hu.1 hu.2⟩
theorem Owns.rnew (n : Nat) (h : Owns w0 w ps) (h0 : 0 < n) (h1 : n ≤ 4000) : Calls Try.prog 15 #[.int .i64 (n : Int)] w fun e w' => ∃ b, e = .returned (.pointer (some ⟨b, 0, none⟩)) ∧ Owns w0 w' (rdisk b (Dk.fresh n) :: ps) := by
  refine (rNew_c n w h0 h1).mono ?_
  rintro e w' ⟨b, S, rfl, hd, hb1, hS⟩
  exact ⟨b, rfl, h.push (Q := rdisk b (Dk.fresh n)) hd hb1 hS⟩
theorem Owns.want (a : AAct) (h : Owns w0 w (rdisk b m :: ps)) (hq : m.q.length ≤ 1000) (hpos : 0 < m.st.length) (hl : a.text.length ≤ 100) (ha : a.after ≤ 9223372036854775807) :
    Calls Try.prog 17 #[.pointer (some ⟨b, 0, none⟩), .agg (AAct.cells a)] w (Back w0 (.tuple #[.string (bs (Dk.act m a).2.1), .int .i64 (Dk.act m a).2.2]) (rdisk b (Dk.act m a).1 :: ps)) :=
  Owns.rk h fun S hd => rwant_c b a m S w hd hq hpos hl ha
theorem Owns.rread (s : Int) (h : Owns w0 w (rdisk b m :: ps)) (hq : m.q.length ≤ 1000) : Calls Try.prog 19 #[.pointer (some ⟨b, 0, none⟩), .int .i64 s] w fun e w' => e = .returned (.tuple #[.string (bs (Dk.read m s).1), .int .i64 (Dk.read m s).2]) ∧ w' = w := by
  obtain ⟨S, hd, _⟩ := h.first
  exact rRead_c b s m S w hd (by omega)
end
theorem new_any (k : Nat) (w0 w : World) (hb : Below w0.heap.size w0 w) (h0 : 0 < k) (h1 : k ≤ 4000) : Calls Try.prog 13 #[.int .i64 (k : Int)] w fun e w' => ∃ b, e = .returned (.pointer (some ⟨b, 0, none⟩)) ∧ Below w0.heap.size w0 w' :=
  (Owns.new k ((Owns.start w0).below hb) h0 h1).mono fun e w' ⟨b, he, h⟩ => ⟨b, he, h.base⟩
set_option maxRecDepth 10000 in
set_option maxHeartbeats 4000000 in
theorem DiskMatchesReference_walk (w : World) (r : Int) (hr : (Lit.int .u8 r).wf = true) (k : Int) (wk : (Lit.int .i64 k).wf = true) (x : Option Addr) (n c : Nat) (l : List AAct) (hx : IsActs w x n l) (hl : ∀ y ∈ l, AAct.fine y) :
    Calls Try.prog 3 #[.int .u8 r, .int .i64 k, .slice x n c] w fun e w' => e = .returned (.bool true) ∧ Below w.heap.size w w' := by
  obtain ⟨N, hN0, hN, HSize⟩ := size_n hr
  have HHead := Lib.hid head_c
  clear hr wk
  by_cases hok : okB l = true
  · have L := lawIn w x n c l hx hl hok
    have hn := L.few
    have HP : Hid (∀ j, 0 < (runs (Dk.fresh N) (l.take j)).st.length) := fun j => by rw [length_runs]; simpa [Dk.fresh] using hN0
    have hsec : (∃ m : Nat, k = m ∧ 0 < m ∧ m ≤ 4000) ∨ k < 1 ∨ 4000 < k := by
      by_cases h1 : k < 1
      · exact .inr (.inl h1)
      · by_cases h2 : 4000 < k
        · exact .inr (.inr h2)
        · exact .inl ⟨k.toNat, by omega, by omega, by omega⟩
    clear hok hx hl
    rcases hsec with ⟨m, rfl, hm0, hm1⟩ | hk | hk
    · have q1 : ¬ (m : Int) < 1 := by omega
      have q2 : ¬ 4000 < (m : Int) := by omega
      go_enter Try.func3, Try.ntmps3
      go_wp2_with fail; go_at_call 11; refine (HHead.out _).mono ?_; rintro e w1 ⟨rfl, hb⟩
      go_wp2_with fail; go_at_call 12; refine (L.ok _ hb).mono ?_; rintro e w2 ⟨rfl, rfl⟩
      go_wp2_with fail; go_at_call 13; refine (new_any m w _ hb hm0 hm1).mono ?_; rintro e w3 ⟨b0, rfl, hb3⟩
      clear hb
      go_wp2_with fail; go_at_call 14; refine (HSize.out _).mono ?_; rintro e w4 ⟨rfl, rfl⟩
      go_wp2_with fail; go_at_call 13; refine (Owns.new N ((Owns.start w).below hb3) hN0 (by omega)).mono ?_; rintro e w5 ⟨b1, rfl, h1⟩
      go_wp2_with fail; go_at_call 14; refine (HSize.out _).mono ?_; rintro e w6 ⟨rfl, rfl⟩
      go_wp2_with fail; go_at_call 15; refine (Owns.rnew N h1 hN0 (by omega)).mono ?_; rintro e w7 ⟨b2, rfl, h0⟩
      clear hb3 h1
      go_wp2_with fail
      go_loopg [10] n (fun gk i wr => ∃ j : Nat, gk = n - j ∧ j ≤ n ∧ i = .int .i64 j ∧ Owns w wr [rdisk b2 (runs (Dk.fresh N) (l.take j)), disk b1 (runs (Dk.fresh N) (l.take j))])
      case atStart => exact ⟨0, rfl, Nat.zero_le _, rfl, h0⟩
      case round =>
        rename_i J1 K1 hJ1 hK1
        clear h0
        obtain ⟨j, rfl, hj, rfl, h⟩ := hrel
        by_cases hlt : j < n
        · obtain ⟨g, off, x', rfl, ha, hg, e0, e1, e2, e3, e4, e5⟩ := (L.acts _ h.base).at hlt
          have Ha := Lib.hid ha; clear ha
          have HSt := Lib.hid (L.step N j x' Ha.out)
          have hq := L.q N j
          go_wp2_with fail; go_at_call 16; refine (Owns.act x' h.swap (L.q N j) (L.fine j x' Ha.out).1 (L.fine j x' Ha.out).2).mono ?_; rintro e w8 ⟨rfl, h8⟩
          clear e0 e1 e2 e3 e4 e5 hg h
          obtain ⟨hg, e0, e1, e2, e3, e4, e5⟩ := (L.acts _ h8.base).cells Ha.out
          go_wp2_with fail; go_at_call 17; refine (Owns.want x' h8.swap hq (HP.out j) (L.fine j x' Ha.out).1 (L.fine j x' Ha.out).2).mono ?_; rintro e w9 ⟨rfl, h9⟩
          clear e0 e1 e2 e3 e4 e5 hg h8
          rw [← HSt.out] at h9
          generalize (Dk.act (runs (Dk.fresh N) (l.take j)) x').2.1 = s1 at *
          generalize (Dk.act (runs (Dk.fresh N) (l.take j)) x').2.2 = r1 at *
          go_wp2_with fail
          go_roundg (n - (j + 1))
          case measure => omega
          case rel => exact ⟨j + 1, rfl, by omega, by go_num, h9⟩
        · obtain rfl : j = n := by omega
          clear hJ1 hK1
          rw [L.all N] at h
          have hM := L.ran N
          have hq : (runs (Dk.fresh N) l).q.length ≤ 1000 := by have := hM.2.2; omega
          clear hM
          generalize runs (Dk.fresh N) l = M at *
          go_wp2_with fail
          go_loopg [15] N (fun gk i wr => ∃ j : Nat, gk = N - j ∧ j ≤ N ∧ i = .int .i64 j ∧ Owns w wr [rdisk b2 M, disk b1 M])
          case atStart => exact ⟨0, rfl, Nat.zero_le _, rfl, h⟩
          case round =>
            rename_i J2 K2 hJ2 hK2
            clear h
            obtain ⟨i, rfl, hi, rfl, h⟩ := hrel
            go_wp2_with fail; go_at_call 14; refine (HSize.out _).mono ?_; rintro e w10 ⟨rfl, rfl⟩
            by_cases hlt2 : i < N
            · go_wp2_with fail; go_at_call 18; refine (Owns.read i h.swap hq).mono ?_; rintro e w11 ⟨rfl, h11⟩
              go_wp2_with fail; go_at_call 19; refine (Owns.rread i h11.swap hq).mono ?_; rintro e w12 ⟨rfl, rfl⟩
              clear h
              generalize (Dk.read M i).1 = s1 at *
              generalize (Dk.read M i).2 = r1 at *
              go_wp2_with fail
              go_roundg (N - (i + 1))
              case measure => omega
              case rel => exact ⟨i + 1, rfl, by omega, by go_num, h11.swap⟩
            · obtain rfl : i = N := by omega
              clear hJ2 hK2
              go_wp2_with fail
              go_ret
              exact ⟨rfl, h.base⟩
    · have HB := Lib.hid fun w => New_bad k w (.inl hk)
      go_enter Try.func3, Try.ntmps3
      go_wp2_with fail; go_at_call 11; refine (HHead.out _).mono ?_; rintro e w1 ⟨rfl, hb3⟩
      go_wp2_with fail; go_at_call 12; refine (L.ok _ hb3).mono ?_; rintro e w2 ⟨rfl, rfl⟩
      go_wp2_with fail; go_at_call 13; refine (HB.out _).mono ?_; rintro e w3 ⟨rfl, rfl⟩
      go_wp2_with fail; go_at_call 14; refine (HSize.out _).mono ?_; rintro e w4 ⟨rfl, rfl⟩
      go_wp2_with fail; go_at_call 13; refine (Owns.new N ((Owns.start w).below hb3) hN0 (by omega)).mono ?_; rintro e w5 ⟨b1, rfl, h1⟩
      go_wp2_with fail; go_at_call 14; refine (HSize.out _).mono ?_; rintro e w6 ⟨rfl, rfl⟩
      go_wp2_with fail; go_at_call 15; refine (Owns.rnew N h1 hN0 (by omega)).mono ?_; rintro e w7 ⟨b2, rfl, h0⟩
      clear hb3 h1
      go_wp2_with fail
      go_loopg [10] n (fun gk i wr => ∃ j : Nat, gk = n - j ∧ j ≤ n ∧ i = .int .i64 j ∧ Owns w wr [rdisk b2 (runs (Dk.fresh N) (l.take j)), disk b1 (runs (Dk.fresh N) (l.take j))])
      case atStart => exact ⟨0, rfl, Nat.zero_le _, rfl, h0⟩
      case round =>
        rename_i J1 K1 hJ1 hK1
        clear h0
        obtain ⟨j, rfl, hj, rfl, h⟩ := hrel
        by_cases hlt : j < n
        · obtain ⟨g, off, x', rfl, ha, hg, e0, e1, e2, e3, e4, e5⟩ := (L.acts _ h.base).at hlt
          have Ha := Lib.hid ha; clear ha
          have HSt := Lib.hid (L.step N j x' Ha.out)
          have hq := L.q N j
          go_wp2_with fail; go_at_call 16; refine (Owns.act x' h.swap (L.q N j) (L.fine j x' Ha.out).1 (L.fine j x' Ha.out).2).mono ?_; rintro e w8 ⟨rfl, h8⟩
          clear e0 e1 e2 e3 e4 e5 hg h
          obtain ⟨hg, e0, e1, e2, e3, e4, e5⟩ := (L.acts _ h8.base).cells Ha.out
          go_wp2_with fail; go_at_call 17; refine (Owns.want x' h8.swap hq (HP.out j) (L.fine j x' Ha.out).1 (L.fine j x' Ha.out).2).mono ?_; rintro e w9 ⟨rfl, h9⟩
          clear e0 e1 e2 e3 e4 e5 hg h8
          rw [← HSt.out] at h9
          generalize (Dk.act (runs (Dk.fresh N) (l.take j)) x').2.1 = s1 at *
          generalize (Dk.act (runs (Dk.fresh N) (l.take j)) x').2.2 = r1 at *
          go_wp2_with fail
          go_roundg (n - (j + 1))
          case measure => omega
          case rel => exact ⟨j + 1, rfl, by omega, by go_num, h9⟩
        · obtain rfl : j = n := by omega
          clear hJ1 hK1
          rw [L.all N] at h
          have hM := L.ran N
          have hq : (runs (Dk.fresh N) l).q.length ≤ 1000 := by have := hM.2.2; omega
          clear hM
          generalize runs (Dk.fresh N) l = M at *
          go_wp2_with fail
          go_loopg [15] N (fun gk i wr => ∃ j : Nat, gk = N - j ∧ j ≤ N ∧ i = .int .i64 j ∧ Owns w wr [rdisk b2 M, disk b1 M])
          case atStart => exact ⟨0, rfl, Nat.zero_le _, rfl, h⟩
          case round =>
            rename_i J2 K2 hJ2 hK2
            clear h
            obtain ⟨i, rfl, hi, rfl, h⟩ := hrel
            go_wp2_with fail; go_at_call 14; refine (HSize.out _).mono ?_; rintro e w10 ⟨rfl, rfl⟩
            by_cases hlt2 : i < N
            · go_wp2_with fail; go_at_call 18; refine (Owns.read i h.swap hq).mono ?_; rintro e w11 ⟨rfl, h11⟩
              go_wp2_with fail; go_at_call 19; refine (Owns.rread i h11.swap hq).mono ?_; rintro e w12 ⟨rfl, rfl⟩
              clear h
              generalize (Dk.read M i).1 = s1 at *
              generalize (Dk.read M i).2 = r1 at *
              go_wp2_with fail
              go_roundg (N - (i + 1))
              case measure => omega
              case rel => exact ⟨i + 1, rfl, by omega, by go_num, h11.swap⟩
            · obtain rfl : i = N := by omega
              clear hJ2 hK2
              go_wp2_with fail
              go_ret
              exact ⟨rfl, h.base⟩
    · have HB := Lib.hid fun w => New_bad k w (.inr hk)
      have hk1 : ¬ k < 1 := by omega
      go_enter Try.func3, Try.ntmps3
      go_wp2_with fail; go_at_call 11; refine (HHead.out _).mono ?_; rintro e w1 ⟨rfl, hb3⟩
      go_wp2_with fail; go_at_call 12; refine (L.ok _ hb3).mono ?_; rintro e w2 ⟨rfl, rfl⟩
      go_wp2_with fail; go_at_call 13; refine (HB.out _).mono ?_; rintro e w3 ⟨rfl, rfl⟩
      go_wp2_with fail; go_at_call 14; refine (HSize.out _).mono ?_; rintro e w4 ⟨rfl, rfl⟩
      go_wp2_with fail; go_at_call 13; refine (Owns.new N ((Owns.start w).below hb3) hN0 (by omega)).mono ?_; rintro e w5 ⟨b1, rfl, h1⟩
      go_wp2_with fail; go_at_call 14; refine (HSize.out _).mono ?_; rintro e w6 ⟨rfl, rfl⟩
      go_wp2_with fail; go_at_call 15; refine (Owns.rnew N h1 hN0 (by omega)).mono ?_; rintro e w7 ⟨b2, rfl, h0⟩
      clear hb3 h1
      go_wp2_with fail
      go_loopg [10] n (fun gk i wr => ∃ j : Nat, gk = n - j ∧ j ≤ n ∧ i = .int .i64 j ∧ Owns w wr [rdisk b2 (runs (Dk.fresh N) (l.take j)), disk b1 (runs (Dk.fresh N) (l.take j))])
      case atStart => exact ⟨0, rfl, Nat.zero_le _, rfl, h0⟩
      case round =>
        rename_i J1 K1 hJ1 hK1
        clear h0
        obtain ⟨j, rfl, hj, rfl, h⟩ := hrel
        by_cases hlt : j < n
        · obtain ⟨g, off, x', rfl, ha, hg, e0, e1, e2, e3, e4, e5⟩ := (L.acts _ h.base).at hlt
          have Ha := Lib.hid ha; clear ha
          have HSt := Lib.hid (L.step N j x' Ha.out)
          have hq := L.q N j
          go_wp2_with fail; go_at_call 16; refine (Owns.act x' h.swap (L.q N j) (L.fine j x' Ha.out).1 (L.fine j x' Ha.out).2).mono ?_; rintro e w8 ⟨rfl, h8⟩
          clear e0 e1 e2 e3 e4 e5 hg h
          obtain ⟨hg, e0, e1, e2, e3, e4, e5⟩ := (L.acts _ h8.base).cells Ha.out
          go_wp2_with fail; go_at_call 17; refine (Owns.want x' h8.swap hq (HP.out j) (L.fine j x' Ha.out).1 (L.fine j x' Ha.out).2).mono ?_; rintro e w9 ⟨rfl, h9⟩
          clear e0 e1 e2 e3 e4 e5 hg h8
          rw [← HSt.out] at h9
          generalize (Dk.act (runs (Dk.fresh N) (l.take j)) x').2.1 = s1 at *
          generalize (Dk.act (runs (Dk.fresh N) (l.take j)) x').2.2 = r1 at *
          go_wp2_with fail
          go_roundg (n - (j + 1))
          case measure => omega
          case rel => exact ⟨j + 1, rfl, by omega, by go_num, h9⟩
        · obtain rfl : j = n := by omega
          clear hJ1 hK1
          rw [L.all N] at h
          have hM := L.ran N
          have hq : (runs (Dk.fresh N) l).q.length ≤ 1000 := by have := hM.2.2; omega
          clear hM
          generalize runs (Dk.fresh N) l = M at *
          go_wp2_with fail
          go_loopg [15] N (fun gk i wr => ∃ j : Nat, gk = N - j ∧ j ≤ N ∧ i = .int .i64 j ∧ Owns w wr [rdisk b2 M, disk b1 M])
          case atStart => exact ⟨0, rfl, Nat.zero_le _, rfl, h⟩
          case round =>
            rename_i J2 K2 hJ2 hK2
            clear h
            obtain ⟨i, rfl, hi, rfl, h⟩ := hrel
            go_wp2_with fail; go_at_call 14; refine (HSize.out _).mono ?_; rintro e w10 ⟨rfl, rfl⟩
            by_cases hlt2 : i < N
            · go_wp2_with fail; go_at_call 18; refine (Owns.read i h.swap hq).mono ?_; rintro e w11 ⟨rfl, h11⟩
              go_wp2_with fail; go_at_call 19; refine (Owns.rread i h11.swap hq).mono ?_; rintro e w12 ⟨rfl, rfl⟩
              clear h
              generalize (Dk.read M i).1 = s1 at *
              generalize (Dk.read M i).2 = r1 at *
              go_wp2_with fail
              go_roundg (N - (i + 1))
              case measure => omega
              case rel => exact ⟨i + 1, rfl, by omega, by go_num, h11.swap⟩
            · obtain rfl : i = N := by omega
              clear hJ2 hK2
              go_wp2_with fail
              go_ret
              exact ⟨rfl, h.base⟩
  · have HOk := lawNot w x n c l hx (by simpa using hok)
    clear hok hx hl
    go_enter Try.func3, Try.ntmps3
    go_wp2_with fail; go_at_call 11; refine (HHead.out _).mono ?_; rintro e w1 ⟨rfl, hb⟩
    go_wp2_with fail; go_at_call 12; refine (HOk.out _ hb).mono ?_; rintro e w2 ⟨rfl, rfl⟩
    go_wp2_with fail
    go_ret
    exact ⟨by first | rfl | simp [go_sem], hb⟩
end Go.Proofs.Ytdfjcidiolbbhaa

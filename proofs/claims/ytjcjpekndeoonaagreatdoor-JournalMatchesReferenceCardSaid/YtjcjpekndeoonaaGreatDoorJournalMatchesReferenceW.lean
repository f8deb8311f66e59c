/-
  'JournalMatchesReference': the walk.
-/
import Derived.Test.YtjcjpekndeoonaaGreatDoorRjB
import Derived.Test.YtjcjpekndeoonaaGreatDoorDkRaw
namespace Go.Proofs.YtjcjpekndeoonaaGreatDoor
open Go.RowKit Go.Cz Go.Cz.Jn
set_option linter.unusedSimpArgs false
set_option linter.unusedVariables false
attribute [local go_sem] bs_size bs_extract bs_append bs_toList
attribute [local irreducible] cList cPlan
/-- Both journals, and what both last opened: none, or two that agree. -/
def JNo (W wr : World) (db rb N : Nat) (jv xv kv yv : Value) (er : Int) : Prop :=
  ∃ (m : Dk.Dm) (X : List Bytes), Idle m N ∧ X.length ≤ 10000 ∧ jv = .pointer none ∧ kv = .pointer none ∧ Owns W wr (disk db m :: rdisk rb m :: trow xv X :: trow yv X :: [])
def JYes (W wr : World) (db rb N i : Nat) (jv xv kv yv : Value) (er : Int) : Prop :=
  ∃ (m : Dk.Dm) (X : List Bytes) (jb kb cnt : Nat) (recs : List Bytes) (br : Bool) (r1 r2 : Value), Idle m N ∧ X.length ≤ 10000 ∧ cnt + 2 ≤ N ∧ recs.length ≤ 2000 + 20 * i ∧ jv = .pointer (some ⟨jb, 0, none⟩) ∧ kv = .pointer (some ⟨kb, 0, none⟩) ∧
    Owns W wr (disk db m :: rdisk rb m :: trow xv X :: trow yv X :: jblk jb db N cnt r1 br :: trow r1 recs :: rjblk kb rb N cnt r2 br :: trow r2 recs :: [])
def JSt (W wr : World) (db rb N i : Nat) (jv xv kv yv : Value) (er : Int) : Prop := JNo W wr db rb N jv xv kv yv er ∨ JYes W wr db rb N i jv xv kv yv er
def Half (db N : Nat) (m : Dk.Dm) (jv xv : Value) (R : List Piece) : Prop :=
  ((openB m).2.1 ≠ 0 ∧ jv = .pointer none ∧ xv = .slice none 0 0 ∧ R = []) ∨
  ((openB m).2.1 = 0 ∧ ∃ (jb cn : Nat) (rs : List Bytes) (rv : Value), (openB m).2.2 = ⟨N, cn, rs, false⟩ ∧ cn + 2 ≤ N ∧ rs.length ≤ 46 * cn ∧ jv = .pointer (some ⟨jb, 0, none⟩) ∧ R = [trow xv rs, jblk jb db N cn rv false, trow rv rs])
def HalfR (db N : Nat) (m : Dk.Dm) (jv xv : Value) (R : List Piece) : Prop :=
  ((openB m).2.1 ≠ 0 ∧ jv = .pointer none ∧ xv = .slice none 0 0 ∧ R = []) ∨
  ((openB m).2.1 = 0 ∧ ∃ (jb cn : Nat) (rs : List Bytes) (rv : Value), (openB m).2.2 = ⟨N, cn, rs, false⟩ ∧ jv = .pointer (some ⟨jb, 0, none⟩) ∧ R = [trow xv rs, rjblk jb db N cn rv false, trow rv rs])
theorem open_half {w0 w' : World} {db N : Nat} {m : Dk.Dm} {ps : List Piece} {e : Ending} (hn : m.st.length = N) (h : OpenP w0 db m ps e w') :
    ∃ jv xv R, e = .returned (.tuple #[jv, xv, .int .i64 (openB m).2.1]) ∧ Owns w0 w' (R ++ disk db (openB m).1 :: ps) ∧ Half db N m jv xv R := by
  by_cases h0 : (openB m).2.1 = 0
  · obtain ⟨jb, x1, n1, c1, yo, ko, dd, he, ho2⟩ := open_good h h0
    obtain ⟨cn, rs, hj, hcn, hrl⟩ := open_bounds hn h0
    rw [hj] at ho2
    exact ⟨_, _, _, by rw [h0]; exact he, ho2, .inr ⟨h0, jb, cn, rs, _, hj, hcn, hrl, rfl, rfl⟩⟩
  · obtain ⟨he, ho2⟩ := open_bad2 h h0
    exact ⟨_, _, [], he, ho2, .inl ⟨h0, rfl, rfl, rfl⟩⟩
theorem ropen_half {w0 w' : World} {db N : Nat} {m : Dk.Dm} {ps : List Piece} {e : Ending} (hn : m.st.length = N) (h : ROpenP w0 db m ps e w') :
    ∃ jv xv R, e = .returned (.tuple #[jv, xv, .int .i64 (openB m).2.1]) ∧ Owns w0 w' (R ++ rdisk db (openB m).1 :: ps) ∧ HalfR db N m jv xv R := by
  by_cases h0 : (openB m).2.1 = 0
  · obtain ⟨jb, rv, out, he, ho2⟩ := ropen_good h h0
    obtain ⟨cn, rs, hj, hcn, hrl⟩ := open_bounds hn h0
    rw [hj] at ho2
    exact ⟨_, _, _, by rw [h0]; exact he, ho2, .inr ⟨h0, jb, cn, rs, _, hj, rfl, rfl⟩⟩
  · obtain ⟨he, ho2⟩ := ropen_bad h h0
    exact ⟨_, _, [], he, ho2, .inl ⟨h0, rfl, rfl, rfl⟩⟩
theorem both {w0 w : World} {db rb N i : Nat} {m : Dk.Dm} {jv xv kv yv : Value} {R R2 : List Piece} (hid : Idle m N) (hN : N ≤ 40) (h1 : Half db N m jv xv R) (h2 : HalfR rb N m kv yv R2) (ho : Owns w0 w (R2 ++ rdisk rb (openB m).1 :: (disk db (openB m).1 :: R))) :
    JSt w0 w db rb N i jv xv kv yv (openB m).2.1 := by
  rcases h1 with ⟨a0, rfl, rfl, rfl⟩ | ⟨a0, jb, cn, rs, rv, hj, hcn, hrl, rfl, rfl⟩
  · rcases h2 with ⟨b0, rfl, rfl, rfl⟩ | ⟨b0, -⟩
    · refine .inl ⟨(openB m).1, [], hid.open, by simp, rfl, rfl, ?_⟩
      have h3 := trow_base (v := .slice none 0 0) (l := []) (trow_base (v := .slice none 0 0) (l := []) ho (World.ownsRow_nil _ _ _ _) (Below.refl _ _)) (World.ownsRow_nil _ _ _ _) (Below.refl _ _)
      exact h3.re [3, 2, 0, 1]
    · exact absurd b0 a0
  · rcases h2 with ⟨b0, -⟩ | ⟨b0, kb, cn2, rs2, rv2, hj2, rfl, rfl⟩
    · exact absurd a0 b0
    · rw [hj] at hj2
      simp only [Jm.mk.injEq] at hj2
      obtain ⟨-, rfl, rfl, -⟩ := hj2
      exact .inr ⟨(openB m).1, rs, jb, kb, cn, rs, false, _, _, hid.open, by omega, hcn, by omega, rfl, rfl, ho.re [4, 3, 5, 0, 6, 7, 1, 2]⟩
theorem Owns.second2 {w0 w : World} {R : List Piece} {P Q : Piece} (h : Owns w0 w (R ++ P :: Q :: [])) : Owns w0 w (Q :: P :: R) := by
  refine h.perm ?_
  have h1 : (R ++ [P, Q]).Perm ([P, Q] ++ R) := List.perm_append_comm
  exact h1.trans (List.Perm.swap _ _ _)
theorem Owns.raw {w0 w : World} {ps : List Piece} {b : Nat} {m : Dk.Dm} (h : Owns w0 w (disk b m :: ps)) : Calls Tryz.prog 29 #[.pointer (some ⟨b, 0, none⟩)] w fun e w' => e = .returned (.string (bs (Dk.raw m))) ∧ w' = w := by
  obtain ⟨S, hd, _⟩ := h.first
  exact Raw_c b m S w hd
set_option maxRecDepth 10000 in
set_option maxHeartbeats 32000000 in
theorem JournalMatchesReference_walk (W : World) (hs : Std W) (s : Int) (x : Option Addr) (n c : Nat) (l : List JOp) (hi : IsOps W x n l ∧ ∀ o ∈ l, o.pos ≤ 9223372036854775807) :
    Calls Tryz.prog 4 #[.int .i64 s, .slice x n c] W fun e W' => e = .returned (.bool true) ∧ Below W.heap.size W W' := by
  have HS := Lib.hid hs
  have HI := Lib.hid hi.1
  have HRg := Lib.hid hi.2
  have HO : Hid (Owns W W []) := Owns.start W
  clear hs hi
  go_enter Tryz.func4, Tryz.ntmps4
  go_wp2_with fail
  go_at_call 5
  refine (head_c _ HS.out).mono ?_
  rintro e w1 ⟨rfl, hb⟩
  replace HO := Lib.hid (HO.out.below hb)
  clear hb
  go_wp2_with fail
  go_at_call 6
  refine (light_c s x n c l _ (HI.out.below HO.out.base)).mono ?_
  rintro e w2 ⟨b, rfl, hsm, hw⟩
  rw [hw]
  clear hw w2
  have HSm := Lib.hid hsm
  clear hsm
  cases b
  case «false» =>
    go_wp2_with fail
    go_ret
    exact ⟨rfl, HO.out.base⟩
  case «true» =>
    replace HSm := Lib.hid (HSm.out rfl)
    go_wp2_with fail
    go_at_call 8
    by_cases h1 : s < 1
    · refine (New_bad s _ (.inl h1)).mono ?_
      rintro e w1 ⟨rfl, hw⟩
      rw [hw]
      clear hw w1
      go_wp2_with fail
      go_at_call 16
      refine (rNew_bad s _ (.inl h1)).mono ?_
      rintro e w1 ⟨rfl, hw⟩
      rw [hw]
      clear hw w1
      go_wp2_with fail
      go_at_call 7
      refine (OpenNil_c _).mono ?_
      rintro e w2 ⟨rfl, hw⟩
      rw [hw]
      clear hw w2
      go_wp2_with fail
      go_ret
      exact ⟨rfl, HO.out.base⟩
    · obtain ⟨N, rfl⟩ : ∃ m : Nat, s = (m : Int) := ⟨s.toNat, by omega⟩
      refine (Owns.new N HO.out (by omega) (by have := HSm.out.sec; omega)).mono ?_
      rintro e w1 ⟨db, rfl, ho⟩
      replace HO := Lib.hid ho
      clear ho
      go_wp2_with fail
      go_at_call 16
      refine (Owns.rnew N HO.out (by omega) (by have := HSm.out.sec; omega)).mono ?_
      rintro e w2 ⟨rb, rfl, ho⟩
      replace HO : Hid (Owns W w2 (disk db (Dk.fresh N) :: rdisk rb (Dk.fresh N) :: [])) := ho.swap
      have HN40 : Hid (1 ≤ N ∧ N ≤ 40) := ⟨by omega, by have := HSm.out.sec; omega⟩
      have hn16 : n ≤ 16 := by rw [← HI.out.len]; exact HSm.out.ops
      obtain ⟨m, hm⟩ : ∃ m, m = Dk.fresh N := ⟨_, rfl⟩
      have HId : Hid (Idle m N) := by rw [hm]; exact idle_fresh N
      rw [← hm] at HO
      clear ho h1 hm
      go_wp2_with fail
      go_at_call 7
      refine (Open_c HO.out (by rw [HId.out.q]; simp) HS.out).mono ?_
      intro e v1 ho
      obtain ⟨jv, xv, R1, rfl, ho2, hf1⟩ := open_half HId.out.num ho
      have HOo : Hid (Owns W v1 (rdisk rb m :: disk db (openB m).1 :: R1)) := Owns.second2 ho2
      have HF1 := Lib.hid hf1
      clear ho ho2 hf1
      go_wp2_with fail
      go_at_call 17
      refine (ROpen_c HOo.out (by rw [HId.out.q]; simp)).mono ?_
      intro e v2 ho
      obtain ⟨kv, yv, R2, rfl, ho2, hf2⟩ := ropen_half HId.out.num ho
      have HJs : Hid (JSt W v2 db rb N 0 jv xv kv yv (openB m).2.1) := both HId.out HN40.out.2 HF1.out hf2 ho2
      obtain ⟨er, her⟩ : ∃ er : Int, er = (openB m).2.1 := ⟨_, rfl⟩
      rw [← her] at HJs ⊢
      clear ho ho2 hf2 HF1 HOo HO HId her
      go_wp2_with fail
      go_loopg [11, 12, 13, 14, 15, 16, 17] (n + 1) (fun gk jv xv ev kv yv fv iv wr => ∃ (i : Nat) (er : Int), gk = n + 1 - i ∧ i ≤ n ∧ iv = .int .i64 (i : Int) ∧ ev = .int .i64 er ∧ fv = .int .i64 er ∧ Hid (JSt W wr db rb N i jv xv kv yv er))
      case atStart => exact ⟨0, er, rfl, Nat.zero_le _, rfl, rfl, rfl, HJs⟩
      case round =>
        rename_i J1 K1 hJ1 hK1
        clear HJs
        obtain ⟨i, er, rfl, hi, rfl, rfl, rfl, HJ⟩ := hrel
        have hee : (er == er) = true := by simp
        rcases HJ.out with hN | hY
        focus
          obtain ⟨m, X, hid, hX, rfl, rfl, ho⟩ := hN
          obtain ⟨xo, xn, xc, rfl, -⟩ := Owns.texts (ho.re [2, 0, 1])
          obtain ⟨yo, yn, yc, rfl, -⟩ := Owns.texts (ho.re [3, 0, 1, 2])
          have HO := Lib.hid ho
          have HId := Lib.hid hid
          have HX := Lib.hid hX
          have HXn : Hid (xn ≤ 10000 ∧ yn ≤ 10000) := ⟨by rw [← small_of (ho.re [2, 0, 1])]; exact hX, by rw [← small_of (ho.re [3, 0, 1, 2])]; exact hX⟩
          clear ho hid hX HJ
          go_wp2_with fail
          go_at_call 15
          refine (Same_c _ _ _ _ _ _ _ _ _ (is_of (HO.out.re [2, 0, 1])) (is_of (HO.out.re [3, 0, 1, 2])) (by have := HXn.out; omega) (by have := HXn.out; omega)).mono ?_
          rintro e v1 ⟨rfl, hb⟩
          rw [decide_eq_true (rfl : X = X)]
          replace HO := Lib.hid (HO.out.below hb)
          clear hb
          go_wp2_with fail
          go_at_call 9
          refine (RecNil_c _).mono ?_
          rintro e v2 ⟨rfl, hw⟩
          rw [hw]
          clear hw v2
          go_wp2_with fail
          go_at_call 18
          refine (RNil_c _).mono ?_
          rintro e v2 ⟨rfl, hw⟩
          rw [hw]
          clear hw v2
          go_wp2_with fail
          go_at_call 15
          refine (Same_c none none 0 0 0 0 [] [] _ ⟨rfl, .inl rfl⟩ ⟨rfl, .inl rfl⟩ (by omega) (by omega)).mono ?_
          rintro e v2 ⟨rfl, hb⟩
          rw [decide_eq_true (rfl : ([] : List Bytes) = [])]
          replace HO := Lib.hid (HO.out.below hb)
          clear hb
          go_wp2_with fail
          go_at_call 14
          refine (RoomNil_c _).mono ?_
          rintro e v3 ⟨rfl, hw⟩
          rw [hw]
          clear hw v3
          go_wp2_with fail
          go_at_call 19
          refine (RNilRoom_c _).mono ?_
          rintro e v3 ⟨rfl, hw⟩
          rw [hw]
          clear hw v3
          replace HO : Hid (Owns W v2 (disk db m :: rdisk rb m :: [])) := (HO.out.re [2, 3, 0, 1]).pop.pop
          by_cases hlt : i < n
          focus
            obtain ⟨g, off, o, y, q, cc, rfl, hoj, hg, ht, hsl, k0, k1, k2, k3, k4⟩ := HI.out.get hlt
            rw [Nat.add_zero] at k0
            have HT : Hid (∀ w', Below W.heap.size W w' → IsTexts w' y q o.list) := fun w' hb => ht.below hb
            have HCl : Hid (∀ w', Below W.heap.size W w' → g < w'.heap.size ∧ w'.cell? ⟨g, off + i * 5, none⟩ = some (.int .i64 o.kind) ∧ w'.cell? ⟨g, off + i * 5 + 1, none⟩ = some (.slice y q cc) ∧ w'.cell? ⟨g, off + i * 5 + 2, none⟩ = some (.int .i64 o.pos) ∧ w'.cell? ⟨g, off + i * 5 + 3, none⟩ = some (.int .i64 o.writes) ∧ w'.cell? ⟨g, off + i * 5 + 4, none⟩ = some (.int .i64 o.bytes)) := fun w' hb => by
              have e : ∀ i, w'.cell? ⟨g, i, none⟩ = W.cell? ⟨g, i, none⟩ := fun i => hb.cell (p := ⟨g, i, none⟩) hg
              exact ⟨Nat.lt_of_lt_of_le hg hb.size, by rw [e]; exact k0, by rw [e]; exact k1, by rw [e]; exact k2, by rw [e]; exact k3, by rw [e]; exact k4⟩
            have HMem := Lib.hid (List.mem_of_getElem? hoj)
            have HY := Lib.hid hsl.1
            have HPs := Lib.hid (HRg.out o HMem.out)
            have HLt := Lib.hid hlt
            have HQ : Hid (q ≤ 20) := by
              show _ ≤ _
              have h1 := HSm.out.rows o HMem.out
              have h2 := ht.len
              omega
            obtain ⟨kd, hkd⟩ : ∃ kd, kd = o.kind := ⟨_, rfl⟩
            have hin2 : ¬ (i : Int) = (n : Int) := by omega
            have hin3 : ((i : Int) == (n : Int)) = false := by simpa using hin2
            rw [← hkd] at HCl
            clear hoj hg ht hsl k0 k1 k2 k3 k4 hkd
            obtain ⟨hg, d0, d1, d2, d3, d4⟩ := HCl.out _ HO.out.base
            by_cases hk1 : kd = 1
            focus
              subst hk1
              go_wp2_with fail
              clear hg d0 d1 d2 d3 d4
              obtain ⟨g0, hg0⟩ : ∃ g0, g0 = v2.heap.size := ⟨_, rfl⟩
              obtain ⟨Wo, hWo⟩ : ∃ Wo, Wo = v2.alloc (.cells #[.int .i64 1, .slice y q cc, .int .i64 o.pos, .int .i64 o.writes, .int .i64 o.bytes] 36) := ⟨_, rfl⟩
              have HOo : Hid (Owns W Wo (blk g0 (.cells #[.int .i64 1, .slice y q cc, .int .i64 o.pos, .int .i64 o.writes, .int .i64 o.bytes] 36 (0, 0)) :: disk db m :: rdisk rb m :: [])) := by
                rw [hWo, hg0]
                exact Lib.hid (HO.out.box _)
              rw [← hg0, ← hWo]
              clear hg0 hWo HO
              go_at_call 20
              refine (Owns.fail o.writes o.bytes HOo.out.swap (by rw [HId.out.q]; simp)).mono ?_
              rintro e z1 ⟨rfl, ho⟩
              replace HO : Hid (Owns W z1 (blk g0 (.cells #[.int .i64 1, .slice y q cc, .int .i64 o.pos, .int .i64 o.writes, .int .i64 o.bytes] 36 (0, 0)) :: rdisk rb m :: disk db (Dk.fail m o.writes o.bytes) :: [])) := ho.re [1, 2, 0]
              clear ho HOo
              obtain ⟨bk, -⟩ := HO.out.blk
              have hb1 := lt_of_block bk
              have u1 : World.cell? z1 ⟨g0, 1, none⟩ = some (.slice y q cc) := by rw [cell_of_heap bk]; rfl
              have u2 : World.cell? z1 ⟨g0, 2, none⟩ = some (.int .i64 o.pos) := by rw [cell_of_heap bk]; rfl
              have u3 : World.cell? z1 ⟨g0, 3, none⟩ = some (.int .i64 o.writes) := by rw [cell_of_heap bk]; rfl
              have u4 : World.cell? z1 ⟨g0, 4, none⟩ = some (.int .i64 o.bytes) := by rw [cell_of_heap bk]; rfl
              clear bk
              go_wp2_with fail
              clear hb1 u1 u2 u3 u4
              go_at_call 21
              refine (Owns.rfl' o.writes o.bytes HO.out.pop (by rw [HId.out.q]; simp)).mono ?_
              rintro e z2 ⟨rfl, ho⟩
              replace HO := Lib.hid ho.swap
              clear ho
              go_wp2_with fail
              go_at_call 22
              refine (Owns.st HO.out).mono ?_
              rintro e z3 ⟨rfl, ho⟩
              replace HO := Lib.hid ho.swap
              clear ho
              go_wp2_with fail
              go_at_call 23
              refine (Owns.rst HO.out).mono ?_
              rintro e z4 ⟨rfl, ho⟩
              replace HO := Lib.hid ho.swap
              clear ho
              replace HId := Lib.hid ((HId.out.fail o.writes o.bytes).start)
              obtain ⟨m2, hm2⟩ : ∃ m2, m2 = Dk.start (Dk.fail m o.writes o.bytes) := ⟨_, rfl⟩
              rw [← hm2] at HO HId
              clear hm2
              go_wp2_with fail
              go_at_call 7
              refine (Open_c HO.out (by rw [HId.out.q]; simp) HS.out).mono ?_
              intro e v1 ho
              obtain ⟨jv, xv, R1, rfl, ho2, hf1⟩ := open_half HId.out.num ho
              have HOo : Hid (Owns W v1 (rdisk rb m2 :: disk db (openB m2).1 :: R1)) := Owns.second2 ho2
              have HF1 := Lib.hid hf1
              clear ho ho2 hf1
              go_wp2_with fail
              go_at_call 17
              refine (ROpen_c HOo.out (by rw [HId.out.q]; simp)).mono ?_
              intro e v2 ho
              obtain ⟨kv, yv, R2, rfl, ho2, hf2⟩ := ropen_half HId.out.num ho
              have HJs : Hid (JSt W v2 db rb N (i + 1) jv xv kv yv (openB m2).2.1) := both HId.out HN40.out.2 HF1.out hf2 ho2
              obtain ⟨er, her⟩ : ∃ er : Int, er = (openB m2).2.1 := ⟨_, rfl⟩
              rw [← her] at HJs ⊢
              clear ho ho2 hf2 HF1 HOo HO HId her
              go_wp2_with fail
              go_roundg (n + 1 - (i + 1))
              case measure => have := HLt.out; omega
              case rel => exact ⟨i + 1, er, rfl, by have := HLt.out; omega, by go_num, rfl, rfl, HJs⟩
            focus
              by_cases hk2 : kd = 2
              focus
                subst hk2
                go_wp2_with fail
                clear hg d0 d1 d2 d3 d4
                obtain ⟨g0, hg0⟩ : ∃ g0, g0 = v2.heap.size := ⟨_, rfl⟩
                obtain ⟨Wo, hWo⟩ : ∃ Wo, Wo = v2.alloc (.cells #[.int .i64 2, .slice y q cc, .int .i64 o.pos, .int .i64 o.writes, .int .i64 o.bytes] 36) := ⟨_, rfl⟩
                have HOo : Hid (Owns W Wo (blk g0 (.cells #[.int .i64 2, .slice y q cc, .int .i64 o.pos, .int .i64 o.writes, .int .i64 o.bytes] 36 (0, 0)) :: disk db m :: rdisk rb m :: [])) := by
                  rw [hWo, hg0]
                  exact Lib.hid (HO.out.box _)
                rw [← hg0, ← hWo]
                clear hg0 hWo HO
                go_at_call 24
                refine (Owns.arm o.pos o.writes o.bytes HOo.out.swap HPs.out).mono ?_
                rintro e z1 ⟨rfl, ho⟩
                replace HO : Hid (Owns W z1 (blk g0 (.cells #[.int .i64 2, .slice y q cc, .int .i64 o.pos, .int .i64 o.writes, .int .i64 o.bytes] 36 (0, 0)) :: rdisk rb m :: disk db (Dk.arm m o.pos o.writes o.bytes) :: [])) := ho.re [1, 2, 0]
                clear ho HOo
                obtain ⟨bk, -⟩ := HO.out.blk
                have hb1 := lt_of_block bk
                have u1 : World.cell? z1 ⟨g0, 1, none⟩ = some (.slice y q cc) := by rw [cell_of_heap bk]; rfl
                have u2 : World.cell? z1 ⟨g0, 2, none⟩ = some (.int .i64 o.pos) := by rw [cell_of_heap bk]; rfl
                have u3 : World.cell? z1 ⟨g0, 3, none⟩ = some (.int .i64 o.writes) := by rw [cell_of_heap bk]; rfl
                have u4 : World.cell? z1 ⟨g0, 4, none⟩ = some (.int .i64 o.bytes) := by rw [cell_of_heap bk]; rfl
                clear bk
                go_wp2_with fail
                clear hb1 u1 u2 u3 u4
                go_at_call 25
                refine (Owns.rar o.pos o.writes o.bytes HO.out.pop HPs.out).mono ?_
                rintro e z2 ⟨rfl, ho⟩
                replace HO := Lib.hid ho.swap
                clear ho
                replace HId := Lib.hid (HId.out.arm o.pos o.writes o.bytes HPs.out)
                obtain ⟨m2, hm2⟩ : ∃ m2, m2 = Dk.arm m o.pos o.writes o.bytes := ⟨_, rfl⟩
                rw [← hm2] at HO HId
                clear hm2
                have HJs : Hid (JSt W z2 db rb N (i + 1) (.pointer none) (.slice none 0 0) (.pointer none) (.slice none 0 0) er) := by
                  refine .inl ⟨m2, [], HId.out, by simp, rfl, rfl, ?_⟩
                  have h3 := trow_base (v := .slice none 0 0) (l := []) (trow_base (v := .slice none 0 0) (l := []) HO.out (World.ownsRow_nil _ _ _ _) (Below.refl _ _)) (World.ownsRow_nil _ _ _ _) (Below.refl _ _)
                  exact h3.re [2, 3, 0, 1]
                clear HO HId
                go_wp2_with fail
                go_roundg (n + 1 - (i + 1))
                case measure => have := HLt.out; omega
                case rel => exact ⟨i + 1, er, rfl, by have := HLt.out; omega, by go_num, rfl, rfl, HJs⟩
              focus
                by_cases hk3 : kd = 3
                focus
                  subst hk3
                  go_wp2_with fail
                  clear hg d0 d1 d2 d3 d4
                  obtain ⟨g0, hg0⟩ : ∃ g0, g0 = v2.heap.size := ⟨_, rfl⟩
                  obtain ⟨Wo, hWo⟩ : ∃ Wo, Wo = v2.alloc (.cells #[.int .i64 3, .slice y q cc, .int .i64 o.pos, .int .i64 o.writes, .int .i64 o.bytes] 36) := ⟨_, rfl⟩
                  have HOo : Hid (Owns W Wo (blk g0 (.cells #[.int .i64 3, .slice y q cc, .int .i64 o.pos, .int .i64 o.writes, .int .i64 o.bytes] 36 (0, 0)) :: disk db m :: rdisk rb m :: [])) := by
                    rw [hWo, hg0]
                    exact Lib.hid (HO.out.box _)
                  rw [← hg0, ← hWo]
                  clear hg0 hWo HO
                  go_at_call 26
                  refine (Owns.rotten o.pos o.writes o.bytes HOo.out.swap).mono ?_
                  rintro e z1 ⟨rfl, ho⟩
                  replace HO : Hid (Owns W z1 (blk g0 (.cells #[.int .i64 3, .slice y q cc, .int .i64 o.pos, .int .i64 o.writes, .int .i64 o.bytes] 36 (0, 0)) :: rdisk rb m :: disk db (Dk.rot m o.pos o.writes o.bytes) :: [])) := ho.re [1, 2, 0]
                  clear ho HOo
                  obtain ⟨bk, -⟩ := HO.out.blk
                  have hb1 := lt_of_block bk
                  have u1 : World.cell? z1 ⟨g0, 1, none⟩ = some (.slice y q cc) := by rw [cell_of_heap bk]; rfl
                  have u2 : World.cell? z1 ⟨g0, 2, none⟩ = some (.int .i64 o.pos) := by rw [cell_of_heap bk]; rfl
                  have u3 : World.cell? z1 ⟨g0, 3, none⟩ = some (.int .i64 o.writes) := by rw [cell_of_heap bk]; rfl
                  have u4 : World.cell? z1 ⟨g0, 4, none⟩ = some (.int .i64 o.bytes) := by rw [cell_of_heap bk]; rfl
                  clear bk
                  go_wp2_with fail
                  clear hb1 u1 u2 u3 u4
                  go_at_call 27
                  refine (Owns.rro o.pos o.writes o.bytes HO.out.pop).mono ?_
                  rintro e z2 ⟨rfl, ho⟩
                  replace HO := Lib.hid ho.swap
                  clear ho
                  replace HId := Lib.hid (HId.out.rot o.pos o.writes o.bytes)
                  obtain ⟨m2, hm2⟩ : ∃ m2, m2 = Dk.rot m o.pos o.writes o.bytes := ⟨_, rfl⟩
                  rw [← hm2] at HO HId
                  clear hm2
                  go_wp2_with fail
                  go_at_call 7
                  refine (Open_c HO.out (by rw [HId.out.q]; simp) HS.out).mono ?_
                  intro e v1 ho
                  obtain ⟨jv, xv, R1, rfl, ho2, hf1⟩ := open_half HId.out.num ho
                  have HOo : Hid (Owns W v1 (rdisk rb m2 :: disk db (openB m2).1 :: R1)) := Owns.second2 ho2
                  have HF1 := Lib.hid hf1
                  clear ho ho2 hf1
                  go_wp2_with fail
                  go_at_call 17
                  refine (ROpen_c HOo.out (by rw [HId.out.q]; simp)).mono ?_
                  intro e v2 ho
                  obtain ⟨kv, yv, R2, rfl, ho2, hf2⟩ := ropen_half HId.out.num ho
                  have HJs : Hid (JSt W v2 db rb N (i + 1) jv xv kv yv (openB m2).2.1) := both HId.out HN40.out.2 HF1.out hf2 ho2
                  obtain ⟨er, her⟩ : ∃ er : Int, er = (openB m2).2.1 := ⟨_, rfl⟩
                  rw [← her] at HJs ⊢
                  clear ho ho2 hf2 HF1 HOo HO HId her
                  go_wp2_with fail
                  go_roundg (n + 1 - (i + 1))
                  case measure => have := HLt.out; omega
                  case rel => exact ⟨i + 1, er, rfl, by have := HLt.out; omega, by go_num, rfl, rfl, HJs⟩
                focus
                  go_wp2_with fail
                  clear hg d0 d1 d2 d3 d4
                  obtain ⟨g0, hg0⟩ : ∃ g0, g0 = v2.heap.size := ⟨_, rfl⟩
                  obtain ⟨Wo, hWo⟩ : ∃ Wo, Wo = v2.alloc (.cells #[.int .i64 kd, .slice y q cc, .int .i64 o.pos, .int .i64 o.writes, .int .i64 o.bytes] 36) := ⟨_, rfl⟩
                  have HOo : Hid (Owns W Wo (blk g0 (.cells #[.int .i64 kd, .slice y q cc, .int .i64 o.pos, .int .i64 o.writes, .int .i64 o.bytes] 36 (0, 0)) :: disk db m :: rdisk rb m :: [])) := by
                    rw [hWo, hg0]
                    exact Lib.hid (HO.out.box _)
                  rw [← hg0, ← hWo]
                  clear hg0 hWo HO
                  go_at_call 13
                  refine (AppNil_c _ HOo.out).mono ?_
                  rintro e z1 ⟨rfl, ho⟩
                  replace HO := Lib.hid ho
                  clear ho HOo
                  obtain ⟨bk, -⟩ := HO.out.blk
                  have hb1 := lt_of_block bk
                  have u1 : World.cell? z1 ⟨g0, 1, none⟩ = some (.slice y q cc) := by rw [cell_of_heap bk]; rfl
                  have u2 : World.cell? z1 ⟨g0, 2, none⟩ = some (.int .i64 o.pos) := by rw [cell_of_heap bk]; rfl
                  have u3 : World.cell? z1 ⟨g0, 3, none⟩ = some (.int .i64 o.writes) := by rw [cell_of_heap bk]; rfl
                  have u4 : World.cell? z1 ⟨g0, 4, none⟩ = some (.int .i64 o.bytes) := by rw [cell_of_heap bk]; rfl
                  clear bk
                  go_wp2_with fail
                  clear hb1 u1 u2 u3 u4
                  go_at_call 28
                  refine (RNilApp_c _ _).mono ?_
                  rintro e z2 ⟨rfl, hw⟩
                  rw [hw]
                  clear hw z2
                  replace HO := Lib.hid HO.out.pop
                  have HJs : Hid (JSt W z1 db rb N (i + 1) (.pointer none) (.slice none 0 0) (.pointer none) (.slice none 0 0) 1) := by
                    refine .inl ⟨m, [], HId.out, by simp, rfl, rfl, ?_⟩
                    have h3 := trow_base (v := .slice none 0 0) (l := []) (trow_base (v := .slice none 0 0) (l := []) HO.out (World.ownsRow_nil _ _ _ _) (Below.refl _ _)) (World.ownsRow_nil _ _ _ _) (Below.refl _ _)
                    exact h3.re [2, 3, 0, 1]
                  clear HO HId
                  go_wp2_with fail
                  go_roundg (n + 1 - (i + 1))
                  case measure => have := HLt.out; omega
                  case rel => exact ⟨i + 1, 1, rfl, by have := HLt.out; omega, by go_num, rfl, rfl, HJs⟩
          focus
            have hin2 : i = n := by omega
            subst hin2
            clear hJ1 hK1 hlt
            go_wp2_with fail
            go_at_call 20
            refine (Owns.fail 0 0 HO.out (by rw [HId.out.q]; simp)).mono ?_
            rintro e z1 ⟨rfl, ho⟩
            replace HO := Lib.hid ho.swap
            clear ho
            go_wp2_with fail
            go_at_call 21
            refine (Owns.rfl' 0 0 HO.out (by rw [HId.out.q]; simp)).mono ?_
            rintro e z2 ⟨rfl, ho⟩
            replace HO := Lib.hid ho.swap
            clear ho
            go_wp2_with fail
            go_at_call 22
            refine (Owns.st HO.out).mono ?_
            rintro e z3 ⟨rfl, ho⟩
            replace HO := Lib.hid ho.swap
            clear ho
            go_wp2_with fail
            go_at_call 23
            refine (Owns.rst HO.out).mono ?_
            rintro e z4 ⟨rfl, ho⟩
            replace HO := Lib.hid ho.swap
            clear ho
            have HIe := Lib.hid ((HId.out.fail 0 0).start)
            obtain ⟨me, hme⟩ : ∃ me, me = Dk.start (Dk.fail m 0 0) := ⟨_, rfl⟩
            rw [← hme] at HO HIe
            clear hme
            go_wp2_with fail
            go_at_call 29
            refine (Owns.raw HO.out).mono ?_
            rintro e z5 ⟨rfl, hw⟩
            rw [hw]
            clear hw z5
            obtain ⟨rw1, hrw⟩ : ∃ rw1, rw1 = Dk.raw me := ⟨_, rfl⟩
            rw [← hrw]
            have Hrw := Lib.hid hrw
            clear hrw
            go_wp2_with fail
            go_at_call 30
            refine (Owns.rra HO.out.swap (by rw [HIe.out.num]; have := HN40.out; omega)).mono ?_
            rintro e z6 ⟨rfl, ho⟩
            rw [← Hrw.out]
            have hrr : (rw1 == rw1) = true := by simp
            replace HO := Lib.hid ho
            clear ho
            go_wp2_with fail
            go_ret
            exact ⟨rfl, HO.out.base⟩
        focus
          obtain ⟨m, X, jb, kb, cnt, recs, br, r1, r2, hid, hX, hcn, hrl, rfl, rfl, ho⟩ := hY
          obtain ⟨xo, xn, xc, rfl, -⟩ := Owns.texts (ho.re [2, 0, 1])
          obtain ⟨yo, yn, yc, rfl, -⟩ := Owns.texts (ho.re [3, 0, 1, 2])
          obtain ⟨a1, n1, c1, rfl, -⟩ := Owns.texts (ho.re [5, 0, 1, 2, 3, 4])
          obtain ⟨a2, n2, c2, rfl, -⟩ := Owns.texts (ho.re [7, 0, 1, 2, 3, 4, 5, 6])
          have HO := Lib.hid ho
          have HId := Lib.hid hid
          have HXn : Hid (xn ≤ 10000 ∧ yn ≤ 10000) := ⟨by rw [← small_of (ho.re [2, 0, 1])]; exact hX, by rw [← small_of (ho.re [3, 0, 1, 2])]; exact hX⟩
          have HRl : Hid (recs.length ≤ 2000 + 20 * i) := hrl
          have HCn : Hid (cnt + 2 ≤ N) := hcn
          have HN2 : Hid (n2 ≤ 3000) := by show _ ≤ _; rw [← small_of (ho.re [7, 0, 1, 2, 3, 4, 5, 6])]; omega
          clear ho hid hX HJ hrl hcn
          go_wp2_with fail
          go_at_call 15
          refine (Same_c _ _ _ _ _ _ _ _ _ (is_of (HO.out.re [2, 0, 1])) (is_of (HO.out.re [3, 0, 1, 2])) (by have := HXn.out; omega) (by have := HXn.out; omega)).mono ?_
          rintro e v1 ⟨rfl, hb⟩
          rw [decide_eq_true (rfl : X = X)]
          replace HO := Lib.hid ((HO.out.below hb).re [5, 4, 0, 1, 2, 3])
          clear hb
          go_wp2_with fail
          go_at_call 9
          refine (Records_c HO.out (by have := HRl.out; omega)).mono ?_
          rintro e v2 ⟨rv, rfl, ho⟩
          obtain ⟨a3, n3, c3, rfl, -⟩ := Owns.texts ho
          have HN3 : Hid (n3 ≤ 3000) := by show _ ≤ _; rw [← small_of ho]; have := HRl.out; omega
          replace HO := Lib.hid ho
          clear ho
          go_wp2_with fail
          go_at_call 18
          refine (RRecords_c (HO.out.re [7, 0, 1, 2, 3, 4, 5, 6])).mono ?_
          rintro e v3 ⟨rfl, hw⟩
          rw [hw]
          clear hw v3
          go_wp2_with fail
          go_at_call 15
          refine (Same_c _ _ _ _ _ _ _ _ _ (is_of HO.out) (is_of (HO.out.re [8, 0, 1, 2, 3, 4, 5, 6, 7])) (by have := HN3.out; omega) (by have := HN2.out; omega)).mono ?_
          rintro e v3 ⟨rfl, hb⟩
          rw [decide_eq_true (rfl : recs = recs)]
          replace HO := Lib.hid (HO.out.below hb)
          clear hb
          go_wp2_with fail
          go_at_call 14
          refine (Room_c (HO.out.re [2, 0, 1]) (by have := HN40.out; omega) (by have := HN40.out; have := HCn.out; omega)).mono ?_
          rintro e v4 ⟨rfl, hb⟩
          replace HO := Lib.hid (HO.out.below hb)
          clear hb
          obtain ⟨rm, hrm⟩ : ∃ rm : Int, rm = (N : Int) - 2 - (cnt : Int) := ⟨_, rfl⟩
          rw [← hrm]
          have HRm := Lib.hid hrm
          clear hrm
          go_wp2_with fail
          go_at_call 19
          refine (RRoom_c (HO.out.re [7, 0, 1, 2, 3, 4, 5, 6]) (by have := HN40.out; omega) (by have := HN40.out; have := HCn.out; omega)).mono ?_
          rintro e v5 ⟨rfl, hb⟩
          rw [← HRm.out]
          have hrmm : (rm == rm) = true := by simp
          replace HO : Hid (Owns W v5 (disk db m :: rdisk rb m :: (jblk jb db N cnt (.slice a1 n1 c1) br :: trow (.slice a1 n1 c1) recs :: rjblk kb rb N cnt (.slice a2 n2 c2) br :: trow (.slice a2 n2 c2) recs :: []))) := ((HO.out.below hb).re [0, 5, 6, 3, 4, 2, 1, 7, 8]).pop.pop.pop
          clear hb
          by_cases hlt : i < n
          focus
            obtain ⟨g, off, o, y, q, cc, rfl, hoj, hg, ht, hsl, k0, k1, k2, k3, k4⟩ := HI.out.get hlt
            rw [Nat.add_zero] at k0
            have HT : Hid (∀ w', Below W.heap.size W w' → IsTexts w' y q o.list) := fun w' hb => ht.below hb
            have HCl : Hid (∀ w', Below W.heap.size W w' → g < w'.heap.size ∧ w'.cell? ⟨g, off + i * 5, none⟩ = some (.int .i64 o.kind) ∧ w'.cell? ⟨g, off + i * 5 + 1, none⟩ = some (.slice y q cc) ∧ w'.cell? ⟨g, off + i * 5 + 2, none⟩ = some (.int .i64 o.pos) ∧ w'.cell? ⟨g, off + i * 5 + 3, none⟩ = some (.int .i64 o.writes) ∧ w'.cell? ⟨g, off + i * 5 + 4, none⟩ = some (.int .i64 o.bytes)) := fun w' hb => by
              have e : ∀ i, w'.cell? ⟨g, i, none⟩ = W.cell? ⟨g, i, none⟩ := fun i => hb.cell (p := ⟨g, i, none⟩) hg
              exact ⟨Nat.lt_of_lt_of_le hg hb.size, by rw [e]; exact k0, by rw [e]; exact k1, by rw [e]; exact k2, by rw [e]; exact k3, by rw [e]; exact k4⟩
            have HMem := Lib.hid (List.mem_of_getElem? hoj)
            have HY := Lib.hid hsl.1
            have HPs := Lib.hid (HRg.out o HMem.out)
            have HLt := Lib.hid hlt
            have HQ : Hid (q ≤ 20) := by
              show _ ≤ _
              have h1 := HSm.out.rows o HMem.out
              have h2 := ht.len
              omega
            obtain ⟨kd, hkd⟩ : ∃ kd, kd = o.kind := ⟨_, rfl⟩
            have hin2 : ¬ (i : Int) = (n : Int) := by omega
            have hin3 : ((i : Int) == (n : Int)) = false := by simpa using hin2
            rw [← hkd] at HCl
            clear hoj hg ht hsl k0 k1 k2 k3 k4 hkd
            obtain ⟨hg, d0, d1, d2, d3, d4⟩ := HCl.out _ HO.out.base
            by_cases hk1 : kd = 1
            focus
              subst hk1
              replace HO : Hid (Owns W v5 (disk db m :: rdisk rb m :: [])) := (HO.out.re [2, 3, 4, 5, 0, 1]).pop.pop.pop.pop
              go_wp2_with fail
              clear hg d0 d1 d2 d3 d4
              obtain ⟨g0, hg0⟩ : ∃ g0, g0 = v5.heap.size := ⟨_, rfl⟩
              obtain ⟨Wo, hWo⟩ : ∃ Wo, Wo = v5.alloc (.cells #[.int .i64 1, .slice y q cc, .int .i64 o.pos, .int .i64 o.writes, .int .i64 o.bytes] 36) := ⟨_, rfl⟩
              have HOo : Hid (Owns W Wo (blk g0 (.cells #[.int .i64 1, .slice y q cc, .int .i64 o.pos, .int .i64 o.writes, .int .i64 o.bytes] 36 (0, 0)) :: disk db m :: rdisk rb m :: [])) := by
                rw [hWo, hg0]
                exact Lib.hid (HO.out.box _)
              rw [← hg0, ← hWo]
              clear hg0 hWo HO
              go_at_call 20
              refine (Owns.fail o.writes o.bytes HOo.out.swap (by rw [HId.out.q]; simp)).mono ?_
              rintro e z1 ⟨rfl, ho⟩
              replace HO : Hid (Owns W z1 (blk g0 (.cells #[.int .i64 1, .slice y q cc, .int .i64 o.pos, .int .i64 o.writes, .int .i64 o.bytes] 36 (0, 0)) :: rdisk rb m :: disk db (Dk.fail m o.writes o.bytes) :: [])) := ho.re [1, 2, 0]
              clear ho HOo
              obtain ⟨bk, -⟩ := HO.out.blk
              have hb1 := lt_of_block bk
              have u1 : World.cell? z1 ⟨g0, 1, none⟩ = some (.slice y q cc) := by rw [cell_of_heap bk]; rfl
              have u2 : World.cell? z1 ⟨g0, 2, none⟩ = some (.int .i64 o.pos) := by rw [cell_of_heap bk]; rfl
              have u3 : World.cell? z1 ⟨g0, 3, none⟩ = some (.int .i64 o.writes) := by rw [cell_of_heap bk]; rfl
              have u4 : World.cell? z1 ⟨g0, 4, none⟩ = some (.int .i64 o.bytes) := by rw [cell_of_heap bk]; rfl
              clear bk
              go_wp2_with fail
              clear hb1 u1 u2 u3 u4
              go_at_call 21
              refine (Owns.rfl' o.writes o.bytes HO.out.pop (by rw [HId.out.q]; simp)).mono ?_
              rintro e z2 ⟨rfl, ho⟩
              replace HO := Lib.hid ho.swap
              clear ho
              go_wp2_with fail
              go_at_call 22
              refine (Owns.st HO.out).mono ?_
              rintro e z3 ⟨rfl, ho⟩
              replace HO := Lib.hid ho.swap
              clear ho
              go_wp2_with fail
              go_at_call 23
              refine (Owns.rst HO.out).mono ?_
              rintro e z4 ⟨rfl, ho⟩
              replace HO := Lib.hid ho.swap
              clear ho
              replace HId := Lib.hid ((HId.out.fail o.writes o.bytes).start)
              obtain ⟨m2, hm2⟩ : ∃ m2, m2 = Dk.start (Dk.fail m o.writes o.bytes) := ⟨_, rfl⟩
              rw [← hm2] at HO HId
              clear hm2
              go_wp2_with fail
              go_at_call 7
              refine (Open_c HO.out (by rw [HId.out.q]; simp) HS.out).mono ?_
              intro e v1 ho
              obtain ⟨jv, xv, R1, rfl, ho2, hf1⟩ := open_half HId.out.num ho
              have HOo : Hid (Owns W v1 (rdisk rb m2 :: disk db (openB m2).1 :: R1)) := Owns.second2 ho2
              have HF1 := Lib.hid hf1
              clear ho ho2 hf1
              go_wp2_with fail
              go_at_call 17
              refine (ROpen_c HOo.out (by rw [HId.out.q]; simp)).mono ?_
              intro e v2 ho
              obtain ⟨kv, yv, R2, rfl, ho2, hf2⟩ := ropen_half HId.out.num ho
              have HJs : Hid (JSt W v2 db rb N (i + 1) jv xv kv yv (openB m2).2.1) := both HId.out HN40.out.2 HF1.out hf2 ho2
              obtain ⟨er, her⟩ : ∃ er : Int, er = (openB m2).2.1 := ⟨_, rfl⟩
              rw [← her] at HJs ⊢
              clear ho ho2 hf2 HF1 HOo HO HId her
              go_wp2_with fail
              go_roundg (n + 1 - (i + 1))
              case measure => have := HLt.out; omega
              case rel => exact ⟨i + 1, er, rfl, by have := HLt.out; omega, by go_num, rfl, rfl, HJs⟩
            focus
              by_cases hk2 : kd = 2
              focus
                subst hk2
                go_wp2_with fail
                clear hg d0 d1 d2 d3 d4
                obtain ⟨g0, hg0⟩ : ∃ g0, g0 = v5.heap.size := ⟨_, rfl⟩
                obtain ⟨Wo, hWo⟩ : ∃ Wo, Wo = v5.alloc (.cells #[.int .i64 2, .slice y q cc, .int .i64 o.pos, .int .i64 o.writes, .int .i64 o.bytes] 36) := ⟨_, rfl⟩
                have HOo : Hid (Owns W Wo (blk g0 (.cells #[.int .i64 2, .slice y q cc, .int .i64 o.pos, .int .i64 o.writes, .int .i64 o.bytes] 36 (0, 0)) :: disk db m :: rdisk rb m :: (jblk jb db N cnt (.slice a1 n1 c1) br :: trow (.slice a1 n1 c1) recs :: rjblk kb rb N cnt (.slice a2 n2 c2) br :: trow (.slice a2 n2 c2) recs :: []))) := by
                  rw [hWo, hg0]
                  exact Lib.hid (HO.out.box _)
                rw [← hg0, ← hWo]
                clear hg0 hWo HO
                go_at_call 24
                refine (Owns.arm o.pos o.writes o.bytes HOo.out.swap HPs.out).mono ?_
                rintro e z1 ⟨rfl, ho⟩
                replace HO : Hid (Owns W z1 (blk g0 (.cells #[.int .i64 2, .slice y q cc, .int .i64 o.pos, .int .i64 o.writes, .int .i64 o.bytes] 36 (0, 0)) :: rdisk rb m :: disk db (Dk.arm m o.pos o.writes o.bytes) :: (jblk jb db N cnt (.slice a1 n1 c1) br :: trow (.slice a1 n1 c1) recs :: rjblk kb rb N cnt (.slice a2 n2 c2) br :: trow (.slice a2 n2 c2) recs :: []))) := ho.re [1, 2, 0]
                clear ho HOo
                obtain ⟨bk, -⟩ := HO.out.blk
                have hb1 := lt_of_block bk
                have u1 : World.cell? z1 ⟨g0, 1, none⟩ = some (.slice y q cc) := by rw [cell_of_heap bk]; rfl
                have u2 : World.cell? z1 ⟨g0, 2, none⟩ = some (.int .i64 o.pos) := by rw [cell_of_heap bk]; rfl
                have u3 : World.cell? z1 ⟨g0, 3, none⟩ = some (.int .i64 o.writes) := by rw [cell_of_heap bk]; rfl
                have u4 : World.cell? z1 ⟨g0, 4, none⟩ = some (.int .i64 o.bytes) := by rw [cell_of_heap bk]; rfl
                clear bk
                go_wp2_with fail
                clear hb1 u1 u2 u3 u4
                go_at_call 25
                refine (Owns.rar o.pos o.writes o.bytes HO.out.pop HPs.out).mono ?_
                rintro e z2 ⟨rfl, ho⟩
                replace HO := Lib.hid ho.swap
                clear ho
                replace HId := Lib.hid (HId.out.arm o.pos o.writes o.bytes HPs.out)
                obtain ⟨m2, hm2⟩ : ∃ m2, m2 = Dk.arm m o.pos o.writes o.bytes := ⟨_, rfl⟩
                rw [← hm2] at HO HId
                clear hm2
                have HJs : Hid (JSt W z2 db rb N (i + 1) (.pointer (some ⟨jb, 0, none⟩)) (.slice none 0 0) (.pointer (some ⟨kb, 0, none⟩)) (.slice none 0 0) er) := by
                  refine .inr ⟨m2, [], jb, kb, cnt, recs, br, .slice a1 n1 c1, .slice a2 n2 c2, HId.out, by simp, HCn.out, by have := HRl.out; omega, rfl, rfl, ?_⟩
                  have h3 := trow_base (v := .slice none 0 0) (l := []) (trow_base (v := .slice none 0 0) (l := []) HO.out (World.ownsRow_nil _ _ _ _) (Below.refl _ _)) (World.ownsRow_nil _ _ _ _) (Below.refl _ _)
                  exact h3.re [2, 3, 0, 1]
                clear HO HId
                go_wp2_with fail
                go_roundg (n + 1 - (i + 1))
                case measure => have := HLt.out; omega
                case rel => exact ⟨i + 1, er, rfl, by have := HLt.out; omega, by go_num, rfl, rfl, HJs⟩
              focus
                by_cases hk3 : kd = 3
                focus
                  subst hk3
                  replace HO : Hid (Owns W v5 (disk db m :: rdisk rb m :: [])) := (HO.out.re [2, 3, 4, 5, 0, 1]).pop.pop.pop.pop
                  go_wp2_with fail
                  clear hg d0 d1 d2 d3 d4
                  obtain ⟨g0, hg0⟩ : ∃ g0, g0 = v5.heap.size := ⟨_, rfl⟩
                  obtain ⟨Wo, hWo⟩ : ∃ Wo, Wo = v5.alloc (.cells #[.int .i64 3, .slice y q cc, .int .i64 o.pos, .int .i64 o.writes, .int .i64 o.bytes] 36) := ⟨_, rfl⟩
                  have HOo : Hid (Owns W Wo (blk g0 (.cells #[.int .i64 3, .slice y q cc, .int .i64 o.pos, .int .i64 o.writes, .int .i64 o.bytes] 36 (0, 0)) :: disk db m :: rdisk rb m :: [])) := by
                    rw [hWo, hg0]
                    exact Lib.hid (HO.out.box _)
                  rw [← hg0, ← hWo]
                  clear hg0 hWo HO
                  go_at_call 26
                  refine (Owns.rotten o.pos o.writes o.bytes HOo.out.swap).mono ?_
                  rintro e z1 ⟨rfl, ho⟩
                  replace HO : Hid (Owns W z1 (blk g0 (.cells #[.int .i64 3, .slice y q cc, .int .i64 o.pos, .int .i64 o.writes, .int .i64 o.bytes] 36 (0, 0)) :: rdisk rb m :: disk db (Dk.rot m o.pos o.writes o.bytes) :: [])) := ho.re [1, 2, 0]
                  clear ho HOo
                  obtain ⟨bk, -⟩ := HO.out.blk
                  have hb1 := lt_of_block bk
                  have u1 : World.cell? z1 ⟨g0, 1, none⟩ = some (.slice y q cc) := by rw [cell_of_heap bk]; rfl
                  have u2 : World.cell? z1 ⟨g0, 2, none⟩ = some (.int .i64 o.pos) := by rw [cell_of_heap bk]; rfl
                  have u3 : World.cell? z1 ⟨g0, 3, none⟩ = some (.int .i64 o.writes) := by rw [cell_of_heap bk]; rfl
                  have u4 : World.cell? z1 ⟨g0, 4, none⟩ = some (.int .i64 o.bytes) := by rw [cell_of_heap bk]; rfl
                  clear bk
                  go_wp2_with fail
                  clear hb1 u1 u2 u3 u4
                  go_at_call 27
                  refine (Owns.rro o.pos o.writes o.bytes HO.out.pop).mono ?_
                  rintro e z2 ⟨rfl, ho⟩
                  replace HO := Lib.hid ho.swap
                  clear ho
                  replace HId := Lib.hid (HId.out.rot o.pos o.writes o.bytes)
                  obtain ⟨m2, hm2⟩ : ∃ m2, m2 = Dk.rot m o.pos o.writes o.bytes := ⟨_, rfl⟩
                  rw [← hm2] at HO HId
                  clear hm2
                  go_wp2_with fail
                  go_at_call 7
                  refine (Open_c HO.out (by rw [HId.out.q]; simp) HS.out).mono ?_
                  intro e v1 ho
                  obtain ⟨jv, xv, R1, rfl, ho2, hf1⟩ := open_half HId.out.num ho
                  have HOo : Hid (Owns W v1 (rdisk rb m2 :: disk db (openB m2).1 :: R1)) := Owns.second2 ho2
                  have HF1 := Lib.hid hf1
                  clear ho ho2 hf1
                  go_wp2_with fail
                  go_at_call 17
                  refine (ROpen_c HOo.out (by rw [HId.out.q]; simp)).mono ?_
                  intro e v2 ho
                  obtain ⟨kv, yv, R2, rfl, ho2, hf2⟩ := ropen_half HId.out.num ho
                  have HJs : Hid (JSt W v2 db rb N (i + 1) jv xv kv yv (openB m2).2.1) := both HId.out HN40.out.2 HF1.out hf2 ho2
                  obtain ⟨er, her⟩ : ∃ er : Int, er = (openB m2).2.1 := ⟨_, rfl⟩
                  rw [← her] at HJs ⊢
                  clear ho ho2 hf2 HF1 HOo HO HId her
                  go_wp2_with fail
                  go_roundg (n + 1 - (i + 1))
                  case measure => have := HLt.out; omega
                  case rel => exact ⟨i + 1, er, rfl, by have := HLt.out; omega, by go_num, rfl, rfl, HJs⟩
                focus
                  go_wp2_with fail
                  clear hg d0 d1 d2 d3 d4
                  obtain ⟨g0, hg0⟩ : ∃ g0, g0 = v5.heap.size := ⟨_, rfl⟩
                  obtain ⟨Wo, hWo⟩ : ∃ Wo, Wo = v5.alloc (.cells #[.int .i64 kd, .slice y q cc, .int .i64 o.pos, .int .i64 o.writes, .int .i64 o.bytes] 36) := ⟨_, rfl⟩
                  have HOo : Hid (Owns W Wo (blk g0 (.cells #[.int .i64 kd, .slice y q cc, .int .i64 o.pos, .int .i64 o.writes, .int .i64 o.bytes] 36 (0, 0)) :: disk db m :: rdisk rb m :: (jblk jb db N cnt (.slice a1 n1 c1) br :: trow (.slice a1 n1 c1) recs :: rjblk kb rb N cnt (.slice a2 n2 c2) br :: trow (.slice a2 n2 c2) recs :: []))) := by
                    rw [hWo, hg0]
                    exact Lib.hid (HO.out.box _)
                  rw [← hg0, ← hWo]
                  clear hg0 hWo HO
                  go_at_call 13
                  refine (Append_c (HOo.out.re [3, 4, 1, 0, 2]) (fun w' h => HT.out w' h.base) (HSm.out.text HMem.out) (by have := HQ.out; omega) (by rw [HId.out.q]; simp) HCn.out (by have := HN40.out; omega) (by have := HRl.out; omega) HS.out).mono ?_
                  rintro e z1 ⟨rv, rfl, ho⟩
                  obtain ⟨cb, rsb, bb, hj, hcb, hrb⟩ := append_bounds m o.list (recs := recs) (br := br) HCn.out
                  have HJe := Lib.hid hj
                  rw [hj] at ho
                  replace HO : Hid (Owns W z1 (blk g0 (.cells #[.int .i64 kd, .slice y q cc, .int .i64 o.pos, .int .i64 o.writes, .int .i64 o.bytes] 36 (0, 0)) :: rjblk kb rb N cnt (.slice a2 n2 c2) br :: trow (.slice a2 n2 c2) recs :: rdisk rb m :: jblk jb db N cb rv bb :: trow rv rsb :: disk db (appendB m ⟨N, cnt, recs, br⟩ o.list).1 :: [])) := ho.re [3, 5, 6, 4, 0, 1, 2]
                  have HCb := Lib.hid (And.intro hcb hrb)
                  clear ho HOo hj hcb hrb
                  obtain ⟨bk, -⟩ := HO.out.blk
                  have hb1 := lt_of_block bk
                  have u1 : World.cell? z1 ⟨g0, 1, none⟩ = some (.slice y q cc) := by rw [cell_of_heap bk]; rfl
                  have u2 : World.cell? z1 ⟨g0, 2, none⟩ = some (.int .i64 o.pos) := by rw [cell_of_heap bk]; rfl
                  have u3 : World.cell? z1 ⟨g0, 3, none⟩ = some (.int .i64 o.writes) := by rw [cell_of_heap bk]; rfl
                  have u4 : World.cell? z1 ⟨g0, 4, none⟩ = some (.int .i64 o.bytes) := by rw [cell_of_heap bk]; rfl
                  clear bk
                  go_wp2_with fail
                  clear hb1 u1 u2 u3 u4
                  go_at_call 28
                  refine (RAppend_c HO.out.pop (fun w' h => HT.out w' h.base) HY.out (HSm.out.text HMem.out) (by have := HQ.out; omega) (by rw [HId.out.q]; simp) HCn.out (by have := HN40.out; omega) (by have := HRl.out; omega)).mono ?_
                  rintro e z2 ⟨rv2, rfl, ho⟩
                  rw [HJe.out] at ho
                  obtain ⟨er2, her2⟩ : ∃ er2, er2 = (appendB m ⟨N, cnt, recs, br⟩ o.list).2.1 := ⟨_, rfl⟩
                  rw [← her2]
                  have HJs : Hid (JSt W z2 db rb N (i + 1) (.pointer (some ⟨jb, 0, none⟩)) (.slice none 0 0) (.pointer (some ⟨kb, 0, none⟩)) (.slice none 0 0) er2) := by
                    refine .inr ⟨(appendB m ⟨N, cnt, recs, br⟩ o.list).1, [], jb, kb, cb, rsb, bb, rv, rv2, HId.out.append o.list, by simp, HCb.out.1, ?_, rfl, rfl, ?_⟩
                    · have h1 := HCb.out.2
                      have h2 := HRl.out
                      have h3 := (HT.out _ ho.base).len
                      have h4 := HQ.out
                      omega
                    · have h3 := trow_base (v := .slice none 0 0) (l := []) (trow_base (v := .slice none 0 0) (l := []) ho (World.ownsRow_nil _ _ _ _) (Below.refl _ _)) (World.ownsRow_nil _ _ _ _) (Below.refl _ _)
                      exact h3.re [7, 4, 0, 1, 5, 6, 2, 3]
                  clear HO HId ho her2 HJe
                  go_wp2_with fail
                  go_roundg (n + 1 - (i + 1))
                  case measure => have := HLt.out; omega
                  case rel => exact ⟨i + 1, er2, rfl, by have := HLt.out; omega, by go_num, rfl, rfl, HJs⟩
          focus
            replace HO : Hid (Owns W v5 (disk db m :: rdisk rb m :: [])) := (HO.out.re [2, 3, 4, 5, 0, 1]).pop.pop.pop.pop
            have hin2 : i = n := by omega
            subst hin2
            clear hJ1 hK1 hlt
            go_wp2_with fail
            go_at_call 20
            refine (Owns.fail 0 0 HO.out (by rw [HId.out.q]; simp)).mono ?_
            rintro e z1 ⟨rfl, ho⟩
            replace HO := Lib.hid ho.swap
            clear ho
            go_wp2_with fail
            go_at_call 21
            refine (Owns.rfl' 0 0 HO.out (by rw [HId.out.q]; simp)).mono ?_
            rintro e z2 ⟨rfl, ho⟩
            replace HO := Lib.hid ho.swap
            clear ho
            go_wp2_with fail
            go_at_call 22
            refine (Owns.st HO.out).mono ?_
            rintro e z3 ⟨rfl, ho⟩
            replace HO := Lib.hid ho.swap
            clear ho
            go_wp2_with fail
            go_at_call 23
            refine (Owns.rst HO.out).mono ?_
            rintro e z4 ⟨rfl, ho⟩
            replace HO := Lib.hid ho.swap
            clear ho
            have HIe := Lib.hid ((HId.out.fail 0 0).start)
            obtain ⟨me, hme⟩ : ∃ me, me = Dk.start (Dk.fail m 0 0) := ⟨_, rfl⟩
            rw [← hme] at HO HIe
            clear hme
            go_wp2_with fail
            go_at_call 29
            refine (Owns.raw HO.out).mono ?_
            rintro e z5 ⟨rfl, hw⟩
            rw [hw]
            clear hw z5
            obtain ⟨rw1, hrw⟩ : ∃ rw1, rw1 = Dk.raw me := ⟨_, rfl⟩
            rw [← hrw]
            have Hrw := Lib.hid hrw
            clear hrw
            go_wp2_with fail
            go_at_call 30
            refine (Owns.rra HO.out.swap (by rw [HIe.out.num]; have := HN40.out; omega)).mono ?_
            rintro e z6 ⟨rfl, ho⟩
            rw [← Hrw.out]
            have hrr : (rw1 == rw1) = true := by simp
            replace HO := Lib.hid ho
            clear ho
            go_wp2_with fail
            go_ret
            exact ⟨rfl, HO.out.base⟩
end Go.Proofs.YtjcjpekndeoonaaGreatDoor

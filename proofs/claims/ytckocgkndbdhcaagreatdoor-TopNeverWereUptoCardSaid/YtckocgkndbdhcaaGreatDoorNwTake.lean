/-
  The digest's 'take' and 'blocks'.
-/
import Derived.Test.YtckocgkndbdhcaaGreatDoorNwHash
import Derived.Test.YtckocgkndbdhcaaGreatDoorNwHex
import Derived.Deep.LoopGhost
import Derived.Laws.BitsAllLaws
import Derived.Laws.Bits64
namespace Go.Cz.Jn
theorem or_byte {a c : Nat} (hc : c < 256) : a * 256 ||| c = a * 256 + c := by
  have := Nat.shiftLeft_add_eq_or_of_lt (i := 8) (b := c) (by simpa using hc) a
  rw [Nat.shiftLeft_eq] at this
  exact this.symm
/-- The number of the first k bytes. -/
def preN : Nat → Bytes → Nat → Nat
  | 0, _, a => a
  | _ + 1, [], a => a
  | k + 1, c :: r, a => preN k r (a * 256 + c.toNat)
theorem preN_succ : ∀ (k : Nat) (l : Bytes) (a : Nat) (c : UInt8), l[k]? = some c → preN (k + 1) l a = preN k l a * 256 + c.toNat
  | 0, [], a, c, h => by simp at h
  | 0, d :: r, a, c, h => by
    have : d = c := by simpa using h
    subst this
    cases r <;> rfl
  | k + 1, [], a, c, h => by simp at h
  | k + 1, d :: r, a, c, h => by
    have := preN_succ k r (a * 256 + d.toNat) c (by simpa using h)
    exact this
theorem preN_lt : ∀ (k : Nat) (l : Bytes) (a j : Nat), a < 256 ^ j → preN k l a < 256 ^ (j + k)
  | 0, _, a, j, h => by simpa [preN] using h
  | k + 1, [], a, j, h => by
    have : (256 : Nat) ^ j ≤ 256 ^ (j + (k + 1)) := Nat.pow_le_pow_right (by decide) (by omega)
    simp only [preN]
    omega
  | k + 1, c :: r, a, j, h => by
    have hc := c.toNat_lt
    have := preN_lt k r (a * 256 + c.toNat) (j + 1) (by rw [Nat.pow_succ]; omega)
    rw [show j + (k + 1) = j + 1 + k by omega]
    exact this
theorem preN_full : ∀ (k : Nat) (l : Bytes) (a : Nat), l.length = k → preN k l a = blkN k l a
  | 0, [], a, _ => rfl
  | 0, _ :: _, a, h => by simp at h
  | k + 1, [], a, h => by simp at h
  | k + 1, c :: r, a, h => preN_full k r _ (by simpa using h)
/-- Eight bytes, with zeros behind. -/
def pad8 (l : Bytes) : Bytes := l.take 8 ++ List.replicate (8 - l.length) 0
theorem pad8_len (l : Bytes) : (pad8 l).length = 8 := by unfold pad8; simp; omega
theorem blkN_nil : ∀ (k a : Nat), blkN k (List.replicate k 0) a = blkN k [] a
  | 0, _ => rfl
  | k + 1, a => by
    have h := blkN_nil k (a * 256)
    rw [List.replicate_succ]
    simp only [blkN]
    rw [show (0 : UInt8).toNat = 0 from rfl, Nat.add_zero]
    exact h
theorem blkN_pad : ∀ (k : Nat) (l : Bytes) (a : Nat), blkN k (l.take k ++ List.replicate (k - l.length) 0) a = blkN k l a
  | 0, l, a => rfl
  | k + 1, [], a => by
    rw [List.take_nil, List.nil_append, List.length_nil, Nat.sub_zero]
    exact blkN_nil (k + 1) a
  | k + 1, c :: r, a => by
    have h := blkN_pad k r (a * 256 + c.toNat)
    rw [List.take_succ_cons, List.cons_append, List.length_cons, Nat.add_sub_add_right]
    simp only [blkN]
    exact h
theorem blk_pad8 (l : Bytes) : blkN 8 (pad8 l) 0 = blkN 8 l 0 := blkN_pad 8 l 0
theorem splice_pad (n : Nat) (l : Bytes) : splice (List.replicate n (Value.int .u8 0)) 0 (bcells (l.take n)) = bcells (l.take n ++ List.replicate (n - l.length) 0) := by
  unfold splice bcells
  rw [List.take_zero, List.nil_append, Nat.zero_add, List.length_map, List.length_take, List.drop_replicate, List.map_append, List.map_replicate]
  congr 2
  omega
theorem splice_pad8 (l : Bytes) : splice (List.replicate 8 (Value.int .u8 0)) 0 (bcells (l.take 8)) = bcells (pad8 l) := splice_pad 8 l
theorem len8' {α : Type _} {l : List α} (h : l.length = 8) : ∃ a0 a1 a2 a3 a4 a5 a6 a7, l = [a0, a1, a2, a3, a4, a5, a6, a7] := by
  match l, h with
  | [a0, a1, a2, a3, a4, a5, a6, a7], _ => exact ⟨a0, a1, a2, a3, a4, a5, a6, a7, rfl⟩
end Go.Cz.Jn
namespace Go.Proofs.YtckocgkndbdhcaaGreatDoor
open Go.RowKit Go.Cz Go.Cz.Jn
set_option linter.unusedSimpArgs false
set_option linter.unusedVariables false
attribute [local go_sem] bs_size bs_extract bs_append bs_toList
attribute [local irreducible] cList cPlan
/-- The digest's state. -/
abbrev stP (b s : Nat) : Piece := blk b (.cells #[.int .u64 (s : Int)] 61 (0, 0))
set_option maxRecDepth 10000 in
set_option maxHeartbeats 4000000 in
theorem take_c {w0 w : World} {ps : List Piece} {b s : Nat} (l : Bytes) (h : Owns w0 w (stP b s :: ps)) (hl : l.length = 8) (hs : s < M64) :
    Calls Tryz.prog 22 #[.pointer (some ⟨b, 0, none⟩), .agg (bcells l).toArray] w fun e w' => e = .returned (.tuple #[]) ∧ Owns w0 w' (stP b (mixN (s ^^^ blkN 8 l 0)) :: ps) := by
  obtain ⟨g, hg⟩ : ∃ g, g = w.heap.size := ⟨_, rfl⟩
  have HO : Hid (Owns w0 (w.alloc (.cells (bcells l).toArray 99)) (blk g (.cells (bcells l).toArray 99 (0, 0)) :: stP b s :: ps)) := by rw [hg]; exact h.box _
  obtain ⟨cs, hcs⟩ : ∃ cs, cs = (bcells l).toArray := ⟨_, rfl⟩
  have hcl : cs.size = 8 := by rw [hcs]; simp [length_bcells, hl]
  have hcg : ∀ (k : Nat) (c : UInt8), l[k]? = some c → cs[k]? = some (.int .u8 (c.toNat : Int)) := fun k c hc => by
    rw [hcs]
    simp [bcells, hc]
  rw [← hcs] at HO ⊢
  have HC := Lib.hid hcg
  clear hcg hcs h
  go_enter Tryz.func22, Tryz.ntmps22
  go_wp2_with fail
  rw [← hg] at *
  obtain ⟨W1, hW1⟩ : ∃ W1, W1 = w.alloc (.cells cs 99) := ⟨_, rfl⟩
  rw [← hW1] at HO ⊢
  clear hW1 hg
  have hg1 : g < W1.heap.size := lt_of_block HO.out.blk.1
  have HB : Hid (W1.heap[g]? = some (.cells cs 99 (0, 0))) := HO.out.blk.1
  go_loopg [4, 7] 8 (fun gk n i wr => ∃ k : Nat, gk = 8 - k ∧ k ≤ 8 ∧ n = .int .u64 (preN k l 0 : Nat) ∧ i = .int .i64 (k : Int) ∧ wr = W1)
  case atStart => exact ⟨0, rfl, Nat.zero_le _, rfl, rfl, rfl⟩
  case round =>
    rename_i J1 K1 hJ1 hK1
    obtain ⟨k, rfl, hk, rfl, rfl, rfl⟩ := hrel
    by_cases hlt : k < 8
    · obtain ⟨c, hc⟩ : ∃ c, l[k]? = some c := ⟨_, List.getElem?_eq_getElem (by omega)⟩
      have ck : wr.cell? ⟨g, k, none⟩ = some (.int .u8 (c.toNat : Int)) := by rw [cell_of_heap HB.out]; exact HC.out k c hc
      have hn := preN_lt k l 0 0 (by decide)
      have hn2 : preN k l 0 < 72057594037927936 := by
        have : 256 ^ (0 + k) ≤ 256 ^ 7 := Nat.pow_le_pow_right (by decide) (by omega)
        omega
      have hs1 := preN_succ k l 0 c hc
      obtain ⟨n, hn3⟩ : ∃ n, n = preN k l 0 := ⟨_, rfl⟩
      have hc2 := c.toNat_lt
      rw [← hn3] at hn2 hs1 ⊢
      obtain ⟨d, hd⟩ : ∃ d, d = c.toNat := ⟨_, rfl⟩
      rw [← hd] at ck hc2 hs1
      have hor : bits .or .u64 ((n : Int) * 256) (d : Int) = ((n * 256 + d : Nat) : Int) := by
        have := u64_or_nat (n * 256) d (by omega) (by omega)
        rw [or_byte (by omega)] at this
        exact this
      have Hs1 := Lib.hid hs1
      clear hn hn3 hd hc hs1
      go_wp2_with fail
      go_roundg (8 - (k + 1))
      case measure => omega
      case rel => exact ⟨k + 1, rfl, by omega, by rw [Hs1.out]; go_num, by go_num, rfl⟩
    · obtain rfl : k = 8 := by omega
      have HN : Hid (preN 8 l 0 = blkN 8 l 0) := preN_full 8 l 0 hl
      rw [HN.out]
      have hnl := blk8_lt l
      obtain ⟨n, hn⟩ : ∃ n, n = blkN 8 l 0 := ⟨_, rfl⟩
      rw [← hn] at hnl ⊢
      obtain ⟨X0, h0⟩ : ∃ X0, X0 = s ^^^ n := ⟨_, rfl⟩
      have l0 : X0 < M64 := by rw [h0]; exact xor_lt hs hnl
      have e0 : bits .xor .u64 (s : Int) (n : Int) = (X0 : Int) := by rw [h0]; exact u64_xor_nat s n hs hnl
      obtain ⟨X1, h1⟩ : ∃ X1, X1 = X0 * 2862933555777941757 % M64 := ⟨_, rfl⟩
      have l1 : X1 < M64 := by rw [h1]; exact Nat.mod_lt _ (by decide)
      have e1 : IntKind.u64.wrap ((X0 : Int) * 2862933555777941757) = (X1 : Int) := by rw [IntKind.wrap_u64]; have h := h1; simp only [M64] at h; omega
      obtain ⟨X2, h2⟩ : ∃ X2, X2 = xs 4294967296 X1 := ⟨_, rfl⟩
      have l2 : X2 < M64 := by rw [h2]; exact xs_lt (j := 32) l1
      have e2 : bits .xor .u64 (X1 : Int) ((X1 : Int) / 4294967296) = (X2 : Int) := by rw [h2]; exact xorShift_u64 X1 4294967296 l1
      obtain ⟨X3, h3⟩ : ∃ X3, X3 = X2 * 3935559000370003845 % M64 := ⟨_, rfl⟩
      have l3 : X3 < M64 := by rw [h3]; exact Nat.mod_lt _ (by decide)
      have e3 : IntKind.u64.wrap ((X2 : Int) * 3935559000370003845) = (X3 : Int) := by rw [IntKind.wrap_u64]; have h := h3; simp only [M64] at h; omega
      obtain ⟨X4, h4⟩ : ∃ X4, X4 = xs 536870912 X3 := ⟨_, rfl⟩
      have e4 : bits .xor .u64 (X3 : Int) ((X3 : Int) / 536870912) = (X4 : Int) := by rw [h4]; exact xorShift_u64 X3 536870912 l3
      have HX : Hid (mixN (s ^^^ n) = X4) := by show _ = _; rw [h4, h3, h2, h1, h0]; rfl
      obtain ⟨bk, -⟩ := HO.out.swap.blk
      have hb1 := lt_of_block bk
      have b0 : wr.cell? ⟨b, 0, none⟩ = some (.int .u64 (s : Int)) := by rw [cell_of_heap bk]; rfl
      have f0 : wr.frozen? ⟨b, 0, none⟩ = false := free_of_heap bk
      have HE : Hid (Owns w0 (wr.setCell ⟨b, 0, none⟩ (.int .u64 (X4 : Int))) (stP b X4 :: ps)) := HO.out.swap.store (.int .u64 (X4 : Int)) |>.swap.pop
      clear hJ1 hK1 h0 h1 h2 h3 h4 bk l0 l1 l2 l3 HN
      have HQ : Hid (mixN (s ^^^ blkN 8 l 0) = X4) := by rw [hn] at HX; exact HX
      clear hn HX
      go_wp2_with fail
      go_end0
      exact ⟨rfl, by rw [HQ.out]; exact HE.out⟩
set_option maxRecDepth 10000 in
set_option maxHeartbeats 4000000 in
theorem blocks_c {w0 w : World} {ps : List Piece} {b s : Nat} (t : Bytes) (h : Owns w0 w (stP b s :: ps)) (hl : t.length ≤ 1000000) (hs : s < M64) :
    Calls Tryz.prog 21 #[.string (bs t), .func (.func 22) #[.pointer (some ⟨b, 0, none⟩)] #[]] w fun e w' => e = .returned (.tuple #[]) ∧ Owns w0 w' (stP b (sumGo (t.length / 8 + 1) s t) :: ps) := by
  have HO := Lib.hid h
  have HL := Lib.hid hs
  clear h hs
  go_enter Tryz.func21, Tryz.ntmps21
  go_wp2_with fail
  obtain ⟨N, hN⟩ : ∃ N, N = t.length / 8 + 1 := ⟨_, rfl⟩
  have hN1 : 8 * N ≤ t.length + 8 := by omega
  have hN2 : t.length < 8 * N := by omega
  have HN := Lib.hid hN
  clear hN
  go_loopg [4] N (fun gk i wr => ∃ (k s' : Nat), gk = N - k ∧ k ≤ N ∧ i = .int .i64 ((8 * k : Nat) : Int) ∧ Hid (s' < M64 ∧ sumGo N s t = sumGo (N - k) s' (t.drop (8 * k))) ∧ Hid (Owns w0 wr (stP b s' :: ps)))
  case atStart => exact ⟨0, s, rfl, Nat.zero_le _, rfl, Lib.hid ⟨HL.out, rfl⟩, HO⟩
  case round =>
    rename_i J1 K1 hJ1 hK1
    clear HO
    obtain ⟨k, s', rfl, hk, rfl, hv, hw⟩ := hrel
    by_cases hlt : k < N
    · have hle : 8 * k ≤ t.length := by omega
      obtain ⟨g, hg⟩ : ∃ g, g = wr.heap.size := ⟨_, rfl⟩
      have HO : Hid (Owns w0 (wr.alloc (.cells (List.replicate 8 (Value.int .u8 0)).toArray 99)).drew (blk g (.cells (List.replicate 8 (Value.int .u8 0)).toArray 99 (0, 0)) :: stP b s' :: ps)) := by rw [hg]; exact (hw.out.box _).drew
      obtain ⟨l, hld⟩ : ∃ l, l = (t.drop (8 * k)).take (t.length - 8 * k) := ⟨_, rfl⟩
      have hll : l = t.drop (8 * k) := by rw [hld, ← List.length_drop, List.take_length]
      have HLd := Lib.hid hll
      have HSt : Hid (mixN (s' ^^^ blkN 8 l 0) < M64 ∧ sumGo N s t = sumGo (N - (k + 1)) (mixN (s' ^^^ blkN 8 l 0)) (t.drop (8 * (k + 1)))) := by
        refine ⟨mixN_lt _, ?_⟩
        rw [hv.out.2, show N - k = (N - (k + 1)) + 1 by omega, hll]
        rw [show 8 * (k + 1) = 8 * k + 8 by omega, ← List.drop_drop]
        rfl
      have hv1 := hv.out.1
      clear hv
      go_wp2_with fail
      rw [← hg]
      clear hg
      refine wp_region_can [] (List.range 5) (by kernel_rfl) (by kernel_rfl) ?_
      iterate 4 (refine cl_do rfl rfl rfl rfl (fun _ _ => ?_); go_wp2_with fail)
      rw [← hld]
      clear hld
      refine cl_do rfl rfl rfl rfl (fun K hK => ?_)
      refine wp_copy_text (.tmp 12) (.tmp 15) 100 9 (by rfl) 5 Tryz.underlying100 (by kernel_rfl) g 0 8 8 l (by rfl) (by rfl) (List.replicate 8 (Value.int .u8 0)) 99 HO.out.blk.1 (by simp; omega) ?_
      intro w2 h2 hm2
      have HO2 : Hid (Owns w0 w2 (blk g (.cells (bcells (pad8 l)).toArray 99 (0, 0)) :: stP b s' :: ps)) := by
        obtain ⟨S, ⟨rfl, -⟩, -, hf⟩ := HO.out.open
        refine hf _ _ [g] ⟨rfl, ?_⟩ hm2 fun k hk => .inl hk
        rw [h2]
        congr 3
        exact splice_pad8 l
      clear h2 hm2
      go_wp2_with fail
      refine cl_nil ?_
      obtain ⟨x0, x1, x2, x3, x4, x5, x6, x7, hx⟩ := len8' (pad8_len l)
      have hbk := HO2.out.blk.1
      rw [hx] at hbk
      have hgz := lt_of_block hbk
      have c0 : w2.cell? ⟨g, 0, none⟩ = some (.int .u8 (x0.toNat : Int)) := by rw [cell_of_heap hbk]; rfl
      have c1 : w2.cell? ⟨g, 1, none⟩ = some (.int .u8 (x1.toNat : Int)) := by rw [cell_of_heap hbk]; rfl
      have c2 : w2.cell? ⟨g, 2, none⟩ = some (.int .u8 (x2.toNat : Int)) := by rw [cell_of_heap hbk]; rfl
      have c3 : w2.cell? ⟨g, 3, none⟩ = some (.int .u8 (x3.toNat : Int)) := by rw [cell_of_heap hbk]; rfl
      have c4 : w2.cell? ⟨g, 4, none⟩ = some (.int .u8 (x4.toNat : Int)) := by rw [cell_of_heap hbk]; rfl
      have c5 : w2.cell? ⟨g, 5, none⟩ = some (.int .u8 (x5.toNat : Int)) := by rw [cell_of_heap hbk]; rfl
      have c6 : w2.cell? ⟨g, 6, none⟩ = some (.int .u8 (x6.toNat : Int)) := by rw [cell_of_heap hbk]; rfl
      have c7 : w2.cell? ⟨g, 7, none⟩ = some (.int .u8 (x7.toNat : Int)) := by rw [cell_of_heap hbk]; rfl
      have HX := Lib.hid hx
      clear hx hbk
      go_wp2_with fail
      go_at_call 22
      refine (take_c [x0, x1, x2, x3, x4, x5, x6, x7] HO2.out.swap rfl hv1).mono ?_
      rintro e w3 ⟨rfl, ho⟩
      have HO3 : Hid (Owns w0 w3 (stP b (mixN (s' ^^^ blkN 8 l 0)) :: ps)) := by
        have h3 := ho.swap.pop
        rw [← HX.out, blk_pad8] at h3
        exact h3
      clear ho HO2 c0 c1 c2 c3 c4 c5 c6 c7 hgz hll HLd
      go_wp2_with fail
      go_roundg (N - (k + 1))
      case measure => omega
      case rel => exact ⟨k + 1, _, rfl, by omega, by go_num, HSt, HO3⟩
    · have He : Hid (sumGo (t.length / 8 + 1) s t = s') := by
        show _ = _
        rw [← HN.out, hv.out.2, show N - k = 0 by omega]
        rfl
      clear hJ1 hK1 hv
      go_wp2_with fail
      go_end0
      exact ⟨rfl, by rw [He.out]; exact hw.out⟩
end Go.Proofs.YtckocgkndbdhcaaGreatDoor

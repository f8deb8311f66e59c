/-
  What a law of the verdicts is handed, and what 'few' says of it.
-/
import Derived.Test.YtakadfdnhlfijaaGreatDoorVdHead
namespace Go.Cz.Vd
open Go.Cz.Lx Go.Cz.Fo
theorem mem_left {s : Sc} {l : List Me} {cov : List Bytes} {m : Me} (h : m ∈ leftM s l cov) : m ∈ forbs s l := (List.mem_filter.1 h).1
theorem mem_blocks {s : Sc} {l : List Me} {cov : List Bytes} {m : Me} (h : m ∈ blocksM s l cov) : m ∈ l := (mem_counting.1 (List.mem_filter.1 h).1).1
end Go.Cz.Vd
namespace Go.Proofs.YtakadfdnhlfijaaGreatDoor
open Go.RowKit Go.Cz Go.Cz.Lx Go.Cz.Fo Go.Cz.Vd
set_option linter.unusedSimpArgs false
set_option linter.unusedVariables false
structure MeIn (w : World) (l : List Me) (v : Value) : Prop where
  row : IsMeR w l v
  len : l.length ≤ 9223372036854775807
  each : ∀ m ∈ l, m.id.length ≤ 140737488355328 ∧ m.auth.length ≤ 140737488355328 ∧ m.target.length ≤ 140737488355328 ∧ short 140737488355328 m.cond = true
structure ScIn (w : World) (s : Sc) (vd va vz vc : Value) : Prop where
  sc : IsSc w s vd va vz vc
  dom : s.dom.length ≤ 9223372036854775807
  names : ∀ f ∈ s.dom, f.name.length ≤ 140737488355328
  auths : s.auths.length ≤ 9223372036854775807
  texts : ∀ a ∈ s.auths, a.length ≤ 140737488355328
  zones : s.zones.length ≤ 9223372036854775807
  cases : s.cases.length ≤ 9223372036854775807
structure TxIn (w : World) (l : List Bytes) (v : Value) : Prop where
  row : IsTxR w l v
  len : l.length ≤ 9223372036854775807
  each : ∀ a ∈ l, a.length ≤ 140737488355328
/-- What is known of few measures in a small scene. -/
structure FewIn (l : List Me) (s : Sc) : Prop where
  ms : MsLen l
  ms8 : l.length ≤ 8
  sc : ScLen s
  a : s.auths.length ≤ 1000000
  z : s.zones.length ≤ 1000000
  c : s.cases.length ≤ 1000000
theorem few_in {w : World} {l : List Me} {s : Sc} {v vd va vz vc : Value} (hf : fewV l s = true) (hl : MeIn w l v) (hs : ScIn w s vd va vz vc) : FewIn l s := by
  obtain ⟨⟨h1, h2⟩, h3, h4, h5, h6, h7⟩ := fewV_parts hf
  refine ⟨⟨by omega, fun m hm => ?_⟩, h1, ⟨⟨by omega, hs.names⟩, hs.texts, fun c hc => by have := h7 c hc; omega⟩, by omega, by omega, by omega⟩
  obtain ⟨k1, k2, k3, k4⟩ := h2 m hm
  exact ⟨⟨by omega, by omega, by omega⟩, ⟨(hl.each m hm).2.2.2, by omega⟩⟩
theorem few_c2 {w : World} {l : List Me} {s : Sc} {v vd va vz vc : Value} (hl : MeIn w l v) (hs : ScIn w s vd va vz vc) (W : World) (hb : Below w.heap.size w W) :
    Calls Tryz.prog 10 #[v, sval s vd va vz vc] W fun e w' => e = .returned (.bool (fewV l s)) ∧ Below W.heap.size W w' :=
  fewV_c l s v vd va vz vc W (hl.row.later hb) (hs.sc.later hb) hl.len (fun m hm => ⟨(hl.each m hm).1, (hl.each m hm).2.1, (hl.each m hm).2.2.1⟩) hs.dom hs.auths hs.zones hs.cases
theorem ids_tx {l L : List Me} (hm : MsLen l) (hl : L.length ≤ l.length) (h : ∀ m ∈ L, m ∈ l) : TxLen (L.map Me.id) :=
  ⟨by rw [List.length_map]; have := hm.len; omega, fun x hx => by
    obtain ⟨m, h1, rfl⟩ := List.mem_map.1 hx
    exact (hm.each m (h m h1)).1.id⟩
theorem no_tx : TxLen [] := ⟨by simp, by simp⟩
theorem forbs_len (s : Sc) (l : List Me) : (forbs s l).length ≤ l.length := Nat.le_trans (List.length_filter_le _ _) (List.length_filter_le _ _)
theorem ve_tx {l : List Me} {s : Sc} {cov : List Bytes} (hm : MsLen l) : TxLen (licensedV l s cov).1.forbids ∧ TxLen (licensedV l s cov).1.blocks := by
  have h1 : TxLen ((forbs s l).map Me.id) := ids_tx hm (forbs_len s l) fun m h => (mem_forbs.1 h).1
  have h2 : TxLen ((leftM s l cov).map Me.id) := ids_tx hm (Nat.le_trans (List.length_filter_le _ _) (forbs_len s l)) fun m h => (mem_forbs.1 (Go.Cz.Vd.mem_left h)).1
  have h3 : TxLen ((blocksM s l cov).map Me.id) := ids_tx hm (Nat.le_trans (List.length_filter_le _ _) (List.length_filter_le _ _)) fun m h => mem_blocks h
  unfold licensedV verdictOf
  split
  · exact ⟨no_tx, no_tx⟩
  · split
    · exact ⟨no_tx, no_tx⟩
    · split
      · exact ⟨h1, no_tx⟩
      · split
        · exact ⟨h2, no_tx⟩
        · exact ⟨h2, h3⟩
theorem TxLen.rev {l : List Bytes} (h : TxLen l) : TxLen l.reverse := ⟨by rw [List.length_reverse]; exact h.len, fun x hx => h.each x (List.mem_reverse.1 hx)⟩
theorem Owns.meIs {w0 w : World} {ps : List Piece} {v : Value} {L : List (Me × Value)} (h : Owns w0 w (meP v L :: ps)) (hf : ∀ p ∈ L, IsFm (fun _ => True) w p.1.cond p.2) : IsMeR w (L.map Prod.fst) v := by
  obtain ⟨S, ⟨hr, rfl⟩, h2⟩ := h.first
  exact me_of_row (V := w0) ⟨hr, fun k hk => h2 k (by rw [hk]; simp), h.base⟩ hf
theorem Owns.meRow {w0 w : World} {ps : List Piece} {v : Value} {L : List (Me × Value)} (h : Owns w0 w (meP v L :: ps)) : w.ownsRow 0 46 12 v L.length (L.flatMap mcl) := by
  obtain ⟨S, ⟨hr, rfl⟩, h2⟩ := h.first
  exact hr
theorem Owns.meNew {w0 w : World} {ps : List Piece} (h : Owns w0 w ps) : Owns w0 w (meP (.slice none 0 0) [] :: ps) :=
  h.push (Q := meP (.slice none 0 0) []) (S := []) ⟨⟨by simp, .inl ⟨rfl, rfl⟩⟩, rfl⟩ (Below.refl _ _) (by simp)
theorem Owns.meGrew {w0 w w' : World} {ps : List Piece} {v v' : Value} {L L' : List (Me × Value)} (h : Owns w0 w (meP v L :: ps)) (hr : w'.ownsRow 0 46 12 v' L'.length (L'.flatMap mcl)) (hg : w.grownBy w' v.ownBlock) (hb : v'.ownBlock = v.ownBlock ∨ v'.ownBlock = some w.heap.size) : Owns w0 w' (meP v' L' :: ps) := by
  obtain ⟨S, ⟨h1, rfl⟩, -, hf⟩ := h.open
  refine hf w' _ v'.ownBlock.toList ⟨hr, rfl⟩ ⟨hg.os, hg.tape, hg.output, hg.size, fun k hk hn => hg.block k hk fun e => hn (by rw [← e]; simp)⟩ fun k hk => ?_
  rcases hb with hb | hb
  · exact .inl (by rw [← hb]; exact hk)
  · rw [hb] at hk
    simp at hk
    exact .inr (by omega)
end Go.Proofs.YtakadfdnhlfijaaGreatDoor

/-
  Disks and rows of texts as pieces of memory; the calls on them.
-/
import Derived.Test.YtjcjpekndeoonaaGreatDoorBase
import Derived.Test.YtjcjpekndeoonaaGreatDoorDkMore
namespace Go.Proofs.YtjcjpekndeoonaaGreatDoor
open Go.RowKit Go.Cz Go.Cz.Dk
set_option linter.unusedSimpArgs false
set_option linter.unusedVariables false
attribute [local go_sem] bs_size bs_extract bs_append bs_toList
def disk (b : Nat) (m : Dm) : Piece where
  lies w S := DiskAt w b m S
  lt h := h.lt
  keep h hm hd := h.mod hm hd
abbrev Back (w0 : World) (v : Value) (ps : List Piece) (e : Ending) (w' : World) : Prop := e = .returned v ∧ Owns w0 w' ps
section
variable {w0 w : World} {ps : List Piece} {b : Nat} {m : Dm}
theorem Owns.dk {m' : Dm} {v : Value} {f : FuncId} {args : Array Value} (h : Owns w0 w (disk b m :: ps)) (hc : ∀ S, DiskAt w b m S → Calls Tryz.prog f args w (DkPost b m' v S w)) :
    Calls Tryz.prog f args w (Back w0 v (disk b m' :: ps)) := by
  obtain ⟨S, h1, _, hf⟩ := h.open
  refine (hc S h1).mono ?_
  rintro e w' ⟨S', rfl, hd', hu⟩
  exact ⟨rfl, hf _ _ S' hd' hu.1 hu.2⟩
theorem Owns.ok (h : Owns w0 w (disk b m :: ps)) : m.ok ∧ m.st.length ≤ 4000 := by
  obtain ⟨S, ⟨_, _, _, _, h⟩, _⟩ := h.first
  exact ⟨h.ok, h.few⟩
theorem Owns.new (n : Nat) (h : Owns w0 w ps) (h0 : 0 < n) (h1 : n ≤ 4000) : Calls Tryz.prog 8 #[.int .i64 (n : Int)] w fun e w' => ∃ b, e = .returned (.pointer (some ⟨b, 0, none⟩)) ∧ Owns w0 w' (disk b (Dk.fresh n) :: ps) := by
  refine (New_c n w h0 h1).mono ?_
  rintro e w' ⟨b, S, rfl, hd, hb1, hS⟩
  exact ⟨b, rfl, h.push (Q := disk b (Dk.fresh n)) hd hb1 hS⟩
theorem Owns.write (s : Int) (t : Bytes) (h : Owns w0 w (disk b m :: ps)) (hq : m.q.length ≤ 100000) : Calls Tryz.prog 76 #[.pointer (some ⟨b, 0, none⟩), .int .i64 s, .string (bs t)] w (Back w0 (.int .i64 (Dk.write m s t).2) (disk b (Dk.write m s t).1 :: ps)) :=
  Owns.dk h fun S hd => Write_c b s t m S w hd hq
theorem Owns.sync (h : Owns w0 w (disk b m :: ps)) (hq : m.q.length ≤ 100000) : Calls Tryz.prog 77 #[.pointer (some ⟨b, 0, none⟩)] w (Back w0 (.int .i64 (Dk.sync m).2) (disk b (Dk.sync m).1 :: ps)) :=
  Owns.dk h fun S hd => Sync_c b m S w hd hq
theorem Owns.fail (x y : Int) (h : Owns w0 w (disk b m :: ps)) (hq : m.q.length ≤ 100000) : Calls Tryz.prog 20 #[.pointer (some ⟨b, 0, none⟩), .int .i64 x, .int .i64 y] w (Back w0 (.tuple #[]) (disk b (Dk.fail m x y) :: ps)) :=
  Owns.dk h fun S hd => Fail_c b x y m S w hd (by omega)
theorem Owns.st (h : Owns w0 w (disk b m :: ps)) : Calls Tryz.prog 22 #[.pointer (some ⟨b, 0, none⟩)] w (Back w0 (.tuple #[]) (disk b (Dk.start m) :: ps)) :=
  Owns.dk h fun S hd => Start_c b m S w hd
theorem Owns.arm (a x y : Int) (h : Owns w0 w (disk b m :: ps)) (ha : a ≤ 9223372036854775807) : Calls Tryz.prog 24 #[.pointer (some ⟨b, 0, none⟩), .int .i64 a, .int .i64 x, .int .i64 y] w (Back w0 (.tuple #[]) (disk b (Dk.arm m a x y) :: ps)) :=
  Owns.dk h fun S hd => Arm_c b a x y m S w hd ha
theorem Owns.rotten (s a k : Int) (h : Owns w0 w (disk b m :: ps)) : Calls Tryz.prog 26 #[.pointer (some ⟨b, 0, none⟩), .int .i64 s, .int .i64 a, .int .i64 k] w (Back w0 (.tuple #[]) (disk b (Dk.rot m s a k) :: ps)) :=
  Owns.dk h fun S hd => Rot_c b s a k m S w hd
theorem Owns.read (s : Int) (h : Owns w0 w (disk b m :: ps)) (hq : m.q.length ≤ 100000) : Calls Tryz.prog 32 #[.pointer (some ⟨b, 0, none⟩), .int .i64 s] w (Back w0 (.tuple #[.string (bs (Dk.read m s).1), .int .i64 (Dk.read m s).2]) (disk b m :: ps)) := by
  obtain ⟨S, hd, _⟩ := h.first
  exact (Read_c b s m S w hd (by omega)).mono fun e w' ⟨h1, h2⟩ => ⟨h1, h.below h2⟩
end
end Go.Proofs.YtjcjpekndeoonaaGreatDoor

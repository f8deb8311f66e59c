/-
  The program's disk: 'Raw'.
-/
import Derived.Test.YtjcjpekndeoonaaGreatDoorDkWrite
namespace Go.Proofs.YtjcjpekndeoonaaGreatDoor
open Go.RowKit Go.Cz Go.Cz.Dk
set_option linter.unusedSimpArgs false
set_option linter.unusedVariables false
attribute [local go_sem] bs_size bs_extract bs_append bs_toList

set_option maxRecDepth 10000 in
set_option maxHeartbeats 1000000 in
theorem Raw_c (b : Nat) (m : Dm) (S : List Nat) (w : World) (h : DiskAt w b m S) :
    Calls Tryz.prog 29 #[.pointer (some ⟨b, 0, none⟩)] w fun e w' => e = .returned (.string (bs (Dk.raw m))) ∧ w' = w := by
  obtain ⟨sb, qv, av, ab, h⟩ := h
  obtain ⟨hb, c0, _, _, _, _⟩ := h.cells
  have hlen := length_flatten_of h.ok.1
  have htake : m.st.flatten.take (m.st.length * 64) = Dk.raw m := by rw [List.take_of_length_le (by omega)]; rfl
  have Hlen := Lib.hid hlen
  have Hs := Lib.hid h.stab
  have Ht := Lib.hid htake
  clear h hlen htake
  go_enter Tryz.func29, Tryz.ntmps29
  go_wp2_with (refine wpList_plain rfl fun K hK => wp_convert_text (.tmp 8) 56 9 (by rfl) 5 Tryz.underlying56 Tryz.underlying5 Tryz.underlying9 sb 0 (m.st.length * 64) (m.st.length * 64) m.st.flatten 5 (0, 0) (by rfl) (by exact Hs.out) (by rw [Hlen.out]; omega) ?_)
  go_ret
  exact ⟨by rw [← Ht.out]; rfl, rfl⟩
set_option maxRecDepth 10000 in
set_option maxHeartbeats 1000000 in
theorem Raw_nil (w : World) : Calls Tryz.prog 29 #[.pointer none] w fun e w' => e = .returned (.string (bs [])) ∧ w' = w := by
  go_enter Tryz.func29, Tryz.ntmps29
  go_wp2
  go_ret
  exact ⟨rfl, rfl⟩
end Go.Proofs.YtjcjpekndeoonaaGreatDoor

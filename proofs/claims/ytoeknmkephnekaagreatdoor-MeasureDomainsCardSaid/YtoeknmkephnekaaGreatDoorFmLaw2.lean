/-
  What the laws need of texts: what is parsed is small, with short names; an error leaves the zero formula.
-/
import Derived.Test.YtoeknmkephnekaaGreatDoorFmLexes
import Derived.Test.YtoeknmkephnekaaGreatDoorFmSized
import Derived.Test.YtoeknmkephnekaaGreatDoorFmText
namespace Go.Cz.Fo
open Go.Cz.Lx
theorem wr_short (f : Fm) : Wr f → short 24 f = true := by
  refine Fm.induct (P := fun f => Wr f → short 24 f = true) ?_ f
  clear f
  intro f ih hw
  have hk : ∀ (ks : List Fm), (∀ k ∈ ks, short 24 k = true) → shorts 24 ks = true := by
    intro ks
    induction ks with
    | nil => intro _; rfl
    | cons a r ihr =>
      intro h
      rw [shorts, h a (by simp), ihr fun k hk => h k (by simp [hk])]
      rfl
  have short_kids : ∀ f : Fm, short 24 f = (shorts 24 f.kids && decide (f.name.length ≤ 24)) | .mk _ _ _ _ ks => by rw [short]; rfl
  rw [short_kids, hk f.kids fun k hk => ih k hk (hw.kid hk), Bool.true_and, decide_eq_true_eq]
  rcases formed_cases hw.node.1 with h | h
  · exact name_le h.2.2.2.2.1
  · rw [h.1.1]; exact Nat.zero_le _
theorem parse_zero {l : Bytes} (h : (parseF l).2.1 ≠ 0) : (parseF l).1 = zeroF := by
  unfold parseF at h ⊢
  split
  · rfl
  · rename_i h0
    rw [if_neg h0] at h
    split
    · rfl
    · rfl
    · rename_i f hf
      rw [hf] at h
      simp only at h ⊢
      split
      · rfl
      · rename_i h1
        rw [if_neg h1] at h
        exact absurd rfl h
theorem text_small {f : Fm} (h : textE f = 0) : size f ≤ 200 ∧ short 24 f = true ∧ (textF Lib.itoa f).length ≤ 12000 := by
  obtain ⟨h1, h2⟩ := Go.Proofs.YtoeknmkephnekaaGreatDoor.wr_large h
  unfold largeB at h1
  have h3 : size f ≤ 200 := by simp at h1; omega
  have := (text_len f h2).1
  exact ⟨h3, wr_short f h2, by omega⟩
theorem texts_same {f g : Fm} (hf : textE f = 0) (hg : textE g = 0) : (textF Lib.itoa f == textF Lib.itoa g) = sameF f g := by
  rw [Bool.eq_iff_iff, sameF_iff, beq_iff_eq]
  exact textF_inj hf hg
theorem same_refl (f : Fm) : sameF f f = true := sameF_iff.2 rfl
end Go.Cz.Fo

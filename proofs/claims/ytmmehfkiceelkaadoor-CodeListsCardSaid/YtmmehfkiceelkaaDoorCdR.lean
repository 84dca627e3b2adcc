/-
  PLAIN LAWS OF LAYER 23: the reference's way to decode.
-/
import Derived.Test.YtmmehfkiceelkaaDoorCdQ
namespace Go.Proofs.YtmmehfkiceelkaaDoor.Cd
open Go.Lib Go.RowKit Go.Proofs.YtmmehfkiceelkaaDoor.Dec

/-- The number that the reference tries behind a word. -/
def tryA (k : Nat) (s : List UInt8) : Int := if (word k).length < s.length then valV (s.drop (word k).length) else 0
theorem okA_val (s : List UInt8) : okA (valV s) := by
  unfold valV
  split
  · exact Num.wrap_bounds _
  · exact Num.wrap_bounds _
theorem okA_try (k : Nat) (s : List UInt8) : okA (tryA k s) := by
  unfold tryA
  split
  · exact okA_val _
  · exact ⟨by decide, by decide⟩
theorem try_hit {k : Nat} {s : List UInt8} (h : text (k : Int) (tryA k s) = some s) : pread s = some ((k : Int), tryA k s) := pread_of (okA_try k s) h
theorem try_all {s : List UInt8} (h : ∀ k : Nat, 1 ≤ k → k < 18 → text (k : Int) (tryA k s) ≠ some s) : pread s = none := by
  cases e : pread s with
  | none => rfl
  | some p =>
    obtain ⟨op, a⟩ := p
    obtain ⟨ha, ht⟩ := pread_iff.1 e
    obtain ⟨⟨k1, k2⟩, c1⟩ := text_some ht
    have hop : op = ((op.toNat : Nat) : Int) := by omega
    have hA : tryA op.toNat s = a := by
      rcases c1 with ⟨_, a1, hs⟩ | ⟨_, hs⟩
      · unfold tryA
        rw [if_neg (by rw [hs]; omega), a1]
      · unfold tryA
        rw [if_pos (by rw [hs, List.length_append, List.length_cons]; omega), hs, List.drop_left' rfl, valV_itoa ha]
    exact absurd (by rw [hA, ← hop]; exact ht) (h op.toNat (by omega) (by omega))
end Go.Proofs.YtmmehfkiceelkaaDoor.Cd

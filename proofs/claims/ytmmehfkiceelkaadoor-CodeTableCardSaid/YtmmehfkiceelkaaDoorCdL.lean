/-
  PLAIN LAWS OF LAYER 23: an instruction on its own, lists, more slots and callees.
-/
import Derived.Test.YtmmehfkiceelkaaDoorCdW
namespace Go.Proofs.YtmmehfkiceelkaaDoor
open Go.ChangeShapes Go.WideShapes Go.ChangeAt Go.RowKit

theorem right_more {op a n s c m : Int} (hm : 0 ≤ m) (h : Cd.right op a n s c = true) : Cd.right op a n (s + m) (c + m) = true := by
  unfold Cd.right at h ⊢
  repeat' split at h
  all_goals first
    | (simp_all; done)
    | (simp_all; omega)
/-- An instruction, and as many returns behind it that there are n. -/
def oneL (op a : Int) (n : Nat) : List (Int × Int) := (op, a) :: List.replicate (n - 1) (16, 0)
theorem oneL_len {op a : Int} {n : Nat} (hn : 0 < n) : (oneL op a n).length = n := by
  unfold oneL
  rw [List.length_cons, List.length_replicate]
  omega
theorem one_plain (op a s c : Int) (n : Nat) (hn : 0 < n) (hs : 0 ≤ s) (hc : 0 ≤ c) : chE (oneL op a n) s c = if Cd.right op a n s c = true then 0 else 2 := by
  have hl := oneL_len (op := op) (a := a) hn
  unfold chE
  rw [if_neg (by omega)]
  have hf : chF (oneL op a n) s c = if Cd.right op a n s c = true then none else some 0 := by
    unfold chF
    rw [hl]
    unfold oneL
    rw [List.findIdx?_cons]
    cases hr : Cd.right op a n s c
    · simp
    · have hz : List.findIdx? (fun x : Int × Int => !Cd.right x.1 x.2 n s c) (List.replicate (n - 1) (16, 0)) = none := by
        rw [List.findIdx?_eq_none_iff]
        intro x hx
        rw [List.eq_of_mem_replicate hx]
        rfl
      simp [hz]
  rw [hf]
  split <;> simp_all
theorem right_known {op a n s c : Int} (h : Cd.right op a n s c = true) : Cd.known op := by
  apply Decidable.byContradiction
  intro hk
  rw [right_none a n s c hk] at h
  cases h
theorem right_jump {op a n s c : Int} (h : Cd.right op a n s c = true) (hj : op = 6 ∨ op = 7) : 0 ≤ a ∧ a < n := by
  rcases hj with rfl | rfl <;> exact of_decide_eq_true h
theorem chF_none {l : List (Int × Int)} {s c : Int} : chF l s c = none ↔ ∀ x ∈ l, Cd.right x.1 x.2 l.length s c = true := by
  unfold chF
  rw [List.findIdx?_eq_none_iff]
  simp
theorem chF_more {l : List (Int × Int)} {s c m : Int} (hm : 0 ≤ m) (h : chF l s c = none) : chF l (s + m) (c + m) = none :=
  chF_none.2 fun x hx => right_more hm (chF_none.1 h x hx)
end Go.Proofs.YtmmehfkiceelkaaDoor

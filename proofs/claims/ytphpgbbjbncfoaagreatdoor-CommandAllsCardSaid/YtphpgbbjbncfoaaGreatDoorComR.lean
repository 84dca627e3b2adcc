/-
  PLAIN LAWS OF LAYER 42: commands with one field that is not allowed.
-/
import Derived.Test.YtphpgbbjbncfoaaGreatDoorComN
namespace Go.Proofs.YtphpgbbjbncfoaaGreatDoor.Cmd
open Go.Lib Go.Proofs.YtphpgbbjbncfoaaGreatDoor.Dec Go.Proofs.YtphpgbbjbncfoaaGreatDoor

theorem bad_kind {c : C} (h : c.kind < 1 ∨ 15 < c.kind) : okB c = false := by
  unfold okB
  rw [decide_eq_false (by omega)]
  rfl
theorem bad_neg {c : C} (h : c.a < 0) : okB c = false := by
  unfold okB
  rw [decide_eq_false (by omega)]
  rfl
theorem most_le (k : Nat) : most k ≤ 1000000000 := by unfold most; repeat' split
                                                      all_goals omega
theorem bad_most {c : C} (h : most c.kind.toNat < c.a) : okB c = false := by
  unfold okB
  rw [decide_eq_false (by omega)]
  rfl
theorem bad_great {c : C} (h : 1000000001 ≤ c.a) : okB c = false := bad_most (by have := most_le c.kind.toNat; omega)
theorem bad_valid {c : C} (h : valid (cls c.kind.toNat) c = false) : okB c = false := by
  unfold okB
  rw [h, Bool.and_false, Bool.false_and]
theorem name_one : nameB [49] = false := by decide +kernel
theorem name_none : nameB [] = false := by decide +kernel
theorem name_while : nameB [119, 104, 105, 108, 101] = false := by decide +kernel
theorem list_x : listB [120] = false := by decide +kernel
theorem bad_name1 (k a : Int) (v : List UInt8) : okB ⟨k, a, [49], v⟩ = false := by
  refine bad_valid ?_
  simp only
  rcases cls_ways k.toNat with e | e | e | e | e <;> rw [e] <;> simp [valid, name_one]
theorem bad_name0 (a : Int) (v : List UInt8) : okB ⟨7, a, [], v⟩ = false := by
  refine bad_valid ?_
  show valid 3 _ = false
  simp [valid, name_none]
theorem cls_3 {m : Nat} (h : cls m = 3) : m = 7 := by
  unfold cls at h
  repeat' split at h
  all_goals omega
theorem cls_2 {m : Nat} (h : cls m = 2) : m = 2 ∨ m = 15 := by
  unfold cls at h
  repeat' split at h
  all_goals omega
theorem bad_namef {m : Nat} (h : m ≠ 7) (a : Int) (v : List UInt8) : okB ⟨m, a, [102], v⟩ = false := by
  refine bad_valid ?_
  simp only [Int.toNat_natCast]
  rcases cls_ways m with e | e | e | e | e
  · rw [e]; simp [valid]
  · rw [e]; simp [valid]
  · rw [e]; simp [valid]
  · exact absurd (cls_3 e) h
  · rw [e]; simp [valid]
theorem bad_valx {m : Nat} (h1 : m ≠ 2) (h2 : m ≠ 15) (a : Int) (n : List UInt8) : okB ⟨m, a, n, [120]⟩ = false := by
  refine bad_valid ?_
  simp only [Int.toNat_natCast]
  rcases cls_ways m with e | e | e | e | e
  · rw [e]; simp [valid]
  · rw [e]; simp [valid, list_x]
  · exact absurd (cls_2 e) (by omega)
  · rw [e]; simp [valid]
  · rw [e]; simp [valid]
theorem bad_a1 {m : Nat} (h : m = 2 ∨ m = 15) (n v : List UInt8) : okB ⟨m, 1, n, v⟩ = false := by
  refine bad_most ?_
  rcases h with rfl | rfl
  · show (0 : Int) < 1; decide
  · show (0 : Int) < 1; decide
/-- 1 and k times ,0 -/
def noughts : Nat → List UInt8
  | 0 => [49]
  | k + 1 => noughts k ++ [44, 48]
theorem noughts_len : ∀ k, (noughts k).length = 1 + 2 * k
  | 0 => rfl
  | k + 1 => by
    have := noughts_len k
    rw [noughts, List.length_append, this]
    simp
    omega
theorem noughts_is : ∀ k, noughts k = Num.joined ((1 :: List.replicate k (0 : Int)).map itoa)
  | 0 => by decide +kernel
  | k + 1 => by
    rw [noughts, noughts_is k, List.replicate_succ', ← List.cons_append, List.map_append, show ([(0 : Int)].map itoa) = [[48]] by decide +kernel, Num.joined_snoc _ _ (by simp)]
theorem noughts_list (k : Nat) : Num.list (noughts k) = some (1 :: List.replicate k 0) := by
  rw [noughts_is]
  refine Num.list_back fun n hn => ?_
  rcases List.mem_cons.1 hn with rfl | hn
  · decide
  · rw [List.eq_of_mem_replicate hn]; decide
theorem bad_noughts {k : Nat} (h : 200 ≤ k) (n : List UInt8) (a : Int) : okB ⟨1, a, n, noughts k⟩ = false := by
  refine bad_valid ?_
  show valid 1 _ = false
  have : listB (noughts k) = false := by
    unfold listB
    rw [noughts_list]
    simp
    omega
  simp only [valid, this, Bool.false_and]
theorem bad_while (a : Int) (v : List UInt8) : okB ⟨7, a, [119, 104, 105, 108, 101], v⟩ = false := by
  refine bad_valid ?_
  show valid 3 _ = false
  simp [valid, name_while]
end Go.Proofs.YtphpgbbjbncfoaaGreatDoor.Cmd

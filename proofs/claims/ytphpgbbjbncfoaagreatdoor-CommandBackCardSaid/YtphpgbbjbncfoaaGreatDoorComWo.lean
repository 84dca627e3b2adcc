/-
  LAYER 42: the words of kinds: the statement's walk.
-/
import Derived.Test.YtphpgbbjbncfoaaGreatDoorCom16
namespace Go.Proofs.YtphpgbbjbncfoaaGreatDoor
open Go.ChangeShapes Go.WideShapes Go.ChangeAt Go.RowKit

theorem eq_no {a b : List UInt8} (h : a ≠ b) : (a == b) = false := by simpa using h
theorem eq_yes {a b : List UInt8} (h : a = b) : (a == b) = true := by simpa using h
theorem word_nat (k : Nat) : Cmd.word' (k : Int) = (Cmd.words[k]?).getD [] := by
  unfold Cmd.word'
  rw [if_pos (by omega), Int.toNat_natCast]
theorem word_some (k : Nat) (h1 : 1 ≤ k) (h2 : k ≤ 15) : (Cmd.word' (k : Int)).isEmpty = false := by
  rw [word_nat]
  have key : ∀ i : Fin 16, 1 ≤ i.val → ((Cmd.words[i.val]?).getD []).isEmpty = false := by decide
  exact key ⟨k, by omega⟩ h1
theorem word_out (k : Int) (h : k < 1 ∨ 15 < k) : Cmd.word' k = [] := by
  unfold Cmd.word'
  split
  · by_cases h0 : k = 0
    · subst h0; rfl
    · rw [List.getElem?_eq_none (by show 16 ≤ k.toNat; omega)]
      rfl
  · rfl

set_option maxHeartbeats 4000000 in
set_option maxRecDepth 20000 in
theorem commandWords_walk (kind : Int) (h0 : -9223372036854775808 ≤ kind) (h1 : kind ≤ 9223372036854775807) (w : World) (hG : Good w) :
    Calls Tryz.prog 8 #[.int .i64 kind] w fun e w' => e = .returned (.bool true) ∧ Below w.heap.size w w' := by
  have HI : Hid (FInv w w) := Lib.hid ⟨hG, Below.refl _ _⟩
  clear hG
  go_enter Tryz.func8, Tryz.ntmps8
  go_wp2_with fail
  go_loopw [3] (fun i wr => ∃ k : Nat, 1 ≤ k ∧ k ≤ 16 ∧ i = .int .i64 k ∧ Hid (FInv w wr)) (fun i _ => 16 - (intOf i).toNat)
  case atStart => exact ⟨1, Nat.le_refl _, by decide, rfl, HI⟩
  case round =>
    obtain ⟨k, hk1, hk, rfl, HI⟩ := hrel
    by_cases hlt : k ≤ 15
    · have l1 : (k : Int) ≤ 15 := by omega
      have hw := word_some k hk1 hlt
      have HW : Hid (∀ W, Calls Tryz.prog 28 #[.int .i64 (k : Int)] W fun e w' => e = .returned (.string ⟨(Cmd.word' (k : Int)).toArray⟩) ∧ Below W.heap.size W w') := Lib.hid fun W => word_any (k : Int) W
      obtain ⟨A, hA⟩ : ∃ A, Cmd.word' (k : Int) = A := ⟨_, rfl⟩
      rw [hA] at hw HW
      have HA := Lib.hid hA
      clear hA
      go_wp2_with fail
      refine (HW.out _).mono ?_
      rintro e w1 ⟨rfl, b⟩
      have HI := FInv.call HI b
      clear b
      go_wp2_with fail
      go_loopw [4] (fun j wr => ∃ m : Nat, 1 ≤ m ∧ m ≤ k ∧ j = .int .i64 m ∧ Hid (FInv w wr)) (fun j _ => 16 - (intOf j).toNat)
      case atStart => exact ⟨1, Nat.le_refl _, hk1, rfl, HI⟩
      case round =>
        obtain ⟨m, hm1, hm, rfl, HI⟩ := hrel
        by_cases hml : m < k
        · have l2 : (m : Int) < (k : Int) := by omega
          have hne := eq_no (a := A) (b := Cmd.word' (m : Int)) (fun e => by
            rw [← HA.out, word_nat, word_nat] at e
            have := words_differ (by omega) (by omega) e
            omega)
          have HM : Hid (∀ W, Calls Tryz.prog 28 #[.int .i64 (m : Int)] W fun e w' => e = .returned (.string ⟨(Cmd.word' (m : Int)).toArray⟩) ∧ Below W.heap.size W w') := Lib.hid fun W => word_any (m : Int) W
          obtain ⟨B, hB⟩ : ∃ B, Cmd.word' (m : Int) = B := ⟨_, rfl⟩
          rw [hB] at hne HM
          clear hB
          go_wp2_with fail
          refine (HW.out _).mono ?_
          rintro e w2 ⟨rfl, b⟩
          have HI := FInv.call HI b
          clear b
          go_wp2_with fail
          refine (HM.out _).mono ?_
          rintro e w3 ⟨rfl, b⟩
          have HI := FInv.call HI b
          clear b
          go_wp2_with fail
          go_roundw
          case rel => exact ⟨m + 1, by omega, by omega, by go_num, HI⟩
          case measure => simp [intOf]; omega
        · obtain rfl : m = k := by omega
          go_wp2_with fail
          go_roundw
          case rel => exact ⟨m + 1, by omega, by omega, by go_num, HI⟩
          case measure => simp [intOf]; omega
    · obtain rfl : k = 16 := by omega
      rw [show ((16 : Nat) : Int) = 16 from rfl]
      rcases (show kind < 1 ∨ (¬ kind < 1 ∧ 15 < kind) ∨ (1 ≤ kind ∧ kind ≤ 15) by omega) with h | ⟨h, h2⟩ | ⟨h, h2⟩
      · have HW := Lib.hid (word_out kind (.inl h))
        go_wp2_with fail
        refine (word_any kind _).mono ?_
        rintro e w1 ⟨rfl, b⟩
        rw [HW.out]
        have HI := FInv.call HI b
        clear b
        go_wp2_with fail
        refine (works_any _ (FInv.good HI)).mono ?_
        rintro e w2 ⟨rfl, b⟩
        have HI := FInv.call HI b
        clear b
        go_wp2_with fail
        go_ret
        exact ⟨rfl, HI.out.2⟩
      · have HW := Lib.hid (word_out kind (.inr h2))
        go_wp2_with fail
        refine (word_any kind _).mono ?_
        rintro e w1 ⟨rfl, b⟩
        rw [HW.out]
        have HI := FInv.call HI b
        clear b
        go_wp2_with fail
        refine (works_any _ (FInv.good HI)).mono ?_
        rintro e w2 ⟨rfl, b⟩
        have HI := FInv.call HI b
        clear b
        go_wp2_with fail
        go_ret
        exact ⟨rfl, HI.out.2⟩
      · obtain ⟨n, rfl⟩ : ∃ n : Nat, kind = n := ⟨kind.toNat, by omega⟩
        have hw := word_some n (by omega) (by omega)
        have k1 : ¬ (n : Int) < 1 := by omega
        have k2 : ¬ (15 : Int) < (n : Int) := by omega
        have k3 : decide ((n : Int) < 1) = false := decide_eq_false k1
        have k4 : decide ((15 : Int) < (n : Int)) = false := decide_eq_false k2
        have HWd : Hid (∀ W, Calls Tryz.prog 28 #[.int .i64 (n : Int)] W fun e w' => e = .returned (.string ⟨(Cmd.word' (n : Int)).toArray⟩) ∧ Below W.heap.size W w') := Lib.hid fun W => word_any (n : Int) W
        obtain ⟨A, hA⟩ : ∃ A, Cmd.word' (n : Int) = A := ⟨_, rfl⟩
        rw [hA] at hw HWd
        clear hA
        go_wp2_with fail
        refine (HWd.out _).mono ?_
        rintro e w1 ⟨rfl, b⟩
        have HI := FInv.call HI b
        clear b
        go_wp2_with fail
        refine (works_any _ (FInv.good HI)).mono ?_
        rintro e w2 ⟨rfl, b⟩
        have HI := FInv.call HI b
        clear b
        go_wp2_with fail
        go_ret
        exact ⟨rfl, HI.out.2⟩
end Go.Proofs.YtphpgbbjbncfoaaGreatDoor

/-
  LAYER 16, THE FIRST CONTRACTS: what the listed variables give; what is checked of a value, in the program and in the reference.
-/
import Derived.Test.YtfghigioofaidaaDoorRows
import Derived.Test.YtfghigioofaidaaDoorGen
import Derived.Test.YtfghigioofaidaaDoorValPlain
namespace Go.Proofs.YtfghigioofaidaaDoor
open Go.ChangeShapes Go.WideShapes Go.ChangeAt Go.RowKit

theorem own : ownKnob Tryd.prog.godebug = none := by kernel_rfl
theorem laidOut : laidOutB Tryd.prog = true := by kernel_rfl
theorem laid_witness (os : Os) (args : Array Value) : laidMetH Tryd.prog Rows.valueOnesRow.laid ((World.laidAll Tryd.prog os Rows.valueOnesRow.laid).forCall (fun _ _ => 0) ⟨#[], args, []⟩).memory := by
  rw [MakeChecks.laidMetH_plain _ _ _ (by kernel_rfl)]
  exact laidMet_laidAll _ (by kernel_rfl) (by kernel_rfl)

/-- value.Check: the error of a value. -/
theorem check_any (t n : Int) (w : World) :
    Calls Tryd.prog 14 #[.agg #[.int .i64 t, .int .i64 n]] w fun e w' => e = .returned (.int .i64 (Val.chk t n)) ∧ Below w.heap.size w w' := by
  obtain ⟨c, hc⟩ : ∃ c, Val.chk t n = c := ⟨_, rfl⟩
  rw [hc]
  have H := Lib.hid hc
  clear hc
  rcases (show t = 1 ∨ (t = 2 ∧ n < 0) ∨ (t = 2 ∧ 0 ≤ n ∧ n < 2) ∨ (t = 2 ∧ 2 ≤ n) ∨ (t = 3 ∧ n < 0) ∨ (t = 3 ∧ 0 ≤ n) ∨ (t ≠ 1 ∧ t ≠ 2 ∧ t ≠ 3) by omega) with rfl | ⟨rfl, h1⟩ | ⟨rfl, h1, h2⟩ | ⟨rfl, h1⟩ | ⟨rfl, h1⟩ | ⟨rfl, h1⟩ | ⟨h1, h2, h3⟩
  all_goals go_enter Tryd.func14, Tryd.ntmps14
  all_goals go_wp2
  all_goals go_ret
  all_goals exact ⟨ret_int (by rw [← H.out]; unfold Val.chk; (repeat' split) <;> first | omega | (simp at *; omega)), by go_grown⟩

/-- The reference's Check: the same. -/
theorem rcheck_any (t n : Int) (w : World) :
    Calls Tryd.prog 15 #[.agg #[.int .i64 t, .int .i64 n]] w fun e w' => e = .returned (.int .i64 (Val.chk t n)) ∧ Below w.heap.size w w' := by
  obtain ⟨c, hc⟩ : ∃ c, Val.chk t n = c := ⟨_, rfl⟩
  rw [hc]
  have H := Lib.hid hc
  clear hc
  rcases (show t = 1 ∨ (t = 2 ∧ n < 0) ∨ (t = 2 ∧ 0 ≤ n ∧ n < 2) ∨ (t = 2 ∧ 2 ≤ n) ∨ (t = 3 ∧ n < 0) ∨ (t = 3 ∧ 0 ≤ n) ∨ (t ≠ 1 ∧ t ≠ 2 ∧ t ≠ 3) by omega) with rfl | ⟨rfl, h1⟩ | ⟨rfl, h1, h2⟩ | ⟨rfl, h1⟩ | ⟨rfl, h1⟩ | ⟨rfl, h1⟩ | ⟨h1, h2, h3⟩
  all_goals go_enter Tryd.func15, Tryd.ntmps15
  all_goals go_wp2
  all_goals go_ret
  all_goals exact ⟨ret_int (by rw [← H.out]; unfold Val.chk; (repeat' split) <;> first | omega | (simp at *; omega)), by go_grown⟩

theorem digit_piece (n : Int) (h0 : 0 ≤ n) (h1 : n ≤ 9) : ({ data := #[48, 49, 50, 51, 52, 53, 54, 55, 56, 57] } : ByteArray).extract n.toNat (n + 1).toNat = ⟨(Lib.decDigits n.toNat).toArray⟩ := by
  rw [Dec.dec_small (by omega)]
  rcases (show n = 0 ∨ n = 1 ∨ n = 2 ∨ n = 3 ∨ n = 4 ∨ n = 5 ∨ n = 6 ∨ n = 7 ∨ n = 8 ∨ n = 9 by omega) with rfl | rfl | rfl | rfl | rfl | rfl | rfl | rfl | rfl | rfl <;> decide

/-- The reference's digits: the numeral. -/
theorem digits_any (k : Nat) : ∀ (n : Int) (w : World), n.toNat ≤ k → 0 ≤ n → n ≤ 18446744073709551615 →
    Calls Tryd.prog 22 #[.int .u64 n] w fun e w' => e = .returned (.string ⟨(Lib.decDigits n.toNat).toArray⟩) ∧ w = w' := by
  induction k with
  | zero =>
    intro n w hk h0 h1
    obtain rfl : n = 0 := by omega
    go_enter Tryd.func22, Tryd.ntmps22
    go_wp2_with fail
    go_ret
    exact ⟨ret_str (digit_piece 0 (by decide) (by decide)), rfl⟩
  | succ k ih =>
    intro n w hk h0 h1
    by_cases hn : n ≤ 9
    · clear ih
      go_enter Tryd.func22, Tryd.ntmps22
      go_wp2_with fail
      go_ret
      exact ⟨ret_str (digit_piece n h0 hn), rfl⟩
    · have hI := Lib.hid ih
      clear ih
      have s1 : (Lib.decDigits (n / 10).toNat).length ≤ 20 := Dec.dec_length_le (by omega)
      have s2 : (Lib.decDigits (n % 10).toNat).length ≤ 20 := Dec.dec_length_le (by omega)
      go_enter Tryd.func22, Tryd.ntmps22
      go_wp2_with fail
      refine (hI.out (n / 10) _ (by omega) (by omega) (by omega)).mono ?_
      rintro e w' ⟨rfl, rfl⟩
      go_wp2_with fail
      refine (hI.out (n % 10) _ (by omega) (by omega) (by omega)).mono ?_
      rintro e w' ⟨rfl, rfl⟩
      go_wp2_with fail
      go_ret
      refine ⟨ret_str ?_, rfl⟩
      rw [ByteArray.mk_append_mk, mk_inj, Dec.dec_big (u := n.toNat) (by omega), Dec.dec_small (u := (n % 10).toNat) (by omega), show (n / 10).toNat = n.toNat / 10 by omega, show (n % 10).toNat = n.toNat % 10 by omega]

end Go.Proofs.YtfghigioofaidaaDoor

/-
  LAYER 23: the reference: words, operands, numbers, effects.
-/
import Derived.Test.YtmmehfkiceelkaaDoorCdW
import Derived.Test.YtmmehfkiceelkaaDoorCdR
import Derived.IntWalk
namespace Go.Proofs.YtmmehfkiceelkaaDoor
open Go.ChangeShapes Go.WideShapes Go.ChangeAt Go.RowKit

/-- The word of an instruction; empty: there is none. -/
def wdOf (op : Int) : List UInt8 := if Cd.known op then Cd.word op.toNat else []
def wdC : Array Value := #[.string ⟨#[]⟩, .string ⟨#[67, 111, 110, 115, 116]⟩, .string ⟨#[76, 111, 97, 100]⟩, .string ⟨#[83, 116, 111, 114, 101]⟩, .string ⟨#[85, 110, 97, 114, 121]⟩, .string ⟨#[66, 105, 110, 97, 114, 121]⟩, .string ⟨#[74, 117, 109, 112]⟩, .string ⟨#[74, 117, 109, 112, 70, 97, 108, 115, 101]⟩, .string ⟨#[73, 110, 100, 101, 120]⟩, .string ⟨#[76, 101, 110]⟩, .string ⟨#[83, 116, 111, 114, 101, 73, 110, 100, 101, 120]⟩, .string ⟨#[78, 101, 119]⟩, .string ⟨#[82, 101, 97, 100]⟩, .string ⟨#[80, 114, 105, 110, 116]⟩, .string ⟨#[67, 97, 108, 108]⟩, .string ⟨#[68, 114, 111, 112]⟩, .string ⟨#[82, 101, 116, 117, 114, 110]⟩, .string ⟨#[68, 101, 102, 97, 117, 108, 116]⟩]
theorem ret_b {x x' : Bool} (h : x = x') : Ending.returned (.bool x) = .returned (.bool x') := by rw [h]

set_option maxRecDepth 100000 in
set_option maxHeartbeats 4000000 in
theorem rword_any (op : Int) (w : World) : Calls Tryd.prog 33 #[.int .i64 op] w fun e w' => e = .returned (.string ⟨(wdOf op).toArray⟩) ∧ Below w.heap.size w w' := by
  have HB := Lib.hid (below_new (Below.refl w.heap.size w) (.cells #[.string ⟨#[]⟩, .string ⟨#[67, 111, 110, 115, 116]⟩, .string ⟨#[76, 111, 97, 100]⟩, .string ⟨#[83, 116, 111, 114, 101]⟩, .string ⟨#[85, 110, 97, 114, 121]⟩, .string ⟨#[66, 105, 110, 97, 114, 121]⟩, .string ⟨#[74, 117, 109, 112]⟩, .string ⟨#[74, 117, 109, 112, 70, 97, 108, 115, 101]⟩, .string ⟨#[73, 110, 100, 101, 120]⟩, .string ⟨#[76, 101, 110]⟩, .string ⟨#[83, 116, 111, 114, 101, 73, 110, 100, 101, 120]⟩, .string ⟨#[78, 101, 119]⟩, .string ⟨#[82, 101, 97, 100]⟩, .string ⟨#[80, 114, 105, 110, 116]⟩, .string ⟨#[67, 97, 108, 108]⟩, .string ⟨#[68, 114, 111, 112]⟩, .string ⟨#[82, 101, 116, 117, 114, 110]⟩, .string ⟨#[68, 101, 102, 97, 117, 108, 116]⟩] 9))
  have HC := Lib.hid (Blk.new w 9 #[.string ⟨#[]⟩, .string ⟨#[67, 111, 110, 115, 116]⟩, .string ⟨#[76, 111, 97, 100]⟩, .string ⟨#[83, 116, 111, 114, 101]⟩, .string ⟨#[85, 110, 97, 114, 121]⟩, .string ⟨#[66, 105, 110, 97, 114, 121]⟩, .string ⟨#[74, 117, 109, 112]⟩, .string ⟨#[74, 117, 109, 112, 70, 97, 108, 115, 101]⟩, .string ⟨#[73, 110, 100, 101, 120]⟩, .string ⟨#[76, 101, 110]⟩, .string ⟨#[83, 116, 111, 114, 101, 73, 110, 100, 101, 120]⟩, .string ⟨#[78, 101, 119]⟩, .string ⟨#[82, 101, 97, 100]⟩, .string ⟨#[80, 114, 105, 110, 116]⟩, .string ⟨#[67, 97, 108, 108]⟩, .string ⟨#[68, 114, 111, 112]⟩, .string ⟨#[82, 101, 116, 117, 114, 110]⟩, .string ⟨#[68, 101, 102, 97, 117, 108, 116]⟩])
  rcases (show op < 0 ∨ 18 ≤ op ∨ op = 0 ∨ op = 1 ∨ op = 2 ∨ op = 3 ∨ op = 4 ∨ op = 5 ∨ op = 6 ∨ op = 7 ∨ op = 8 ∨ op = 9 ∨ op = 10 ∨ op = 11 ∨ op = 12 ∨ op = 13 ∨ op = 14 ∨ op = 15 ∨ op = 16 ∨ op = 17 by omega) with h | h | rfl | rfl | rfl | rfl | rfl | rfl | rfl | rfl | rfl | rfl | rfl | rfl | rfl | rfl | rfl | rfl | rfl | rfl
  · have e1 : wdOf op = [] := by unfold wdOf; rw [if_neg (by unfold Cd.known; omega)]
    rw [e1]
    clear e1
    go_enter Tryd.func33, Tryd.ntmps33
    go_wp2_with fail
    go_ret
    exact ⟨rfl, HB.out⟩
  · have e1 : wdOf op = [] := by unfold wdOf; rw [if_neg (by unfold Cd.known; omega)]
    rw [e1]
    have h2 : ¬ op < 0 := by omega
    have h3 : ¬ op < 18 := by omega
    clear e1
    go_enter Tryd.func33, Tryd.ntmps33
    go_wp2_with fail
    go_ret
    exact ⟨rfl, HB.out⟩
  · have c := HC.out.cell 0
    rw [show wdOf 0 = [] from rfl]
    go_enter Tryd.func33, Tryd.ntmps33
    go_wp2_with fail
    go_ret
    exact ⟨rfl, HB.out⟩
  · have c := HC.out.cell 1
    rw [show wdOf 1 = [67, 111, 110, 115, 116] from rfl]
    go_enter Tryd.func33, Tryd.ntmps33
    go_wp2_with fail
    go_ret
    exact ⟨rfl, HB.out⟩
  · have c := HC.out.cell 2
    rw [show wdOf 2 = [76, 111, 97, 100] from rfl]
    go_enter Tryd.func33, Tryd.ntmps33
    go_wp2_with fail
    go_ret
    exact ⟨rfl, HB.out⟩
  · have c := HC.out.cell 3
    rw [show wdOf 3 = [83, 116, 111, 114, 101] from rfl]
    go_enter Tryd.func33, Tryd.ntmps33
    go_wp2_with fail
    go_ret
    exact ⟨rfl, HB.out⟩
  · have c := HC.out.cell 4
    rw [show wdOf 4 = [85, 110, 97, 114, 121] from rfl]
    go_enter Tryd.func33, Tryd.ntmps33
    go_wp2_with fail
    go_ret
    exact ⟨rfl, HB.out⟩
  · have c := HC.out.cell 5
    rw [show wdOf 5 = [66, 105, 110, 97, 114, 121] from rfl]
    go_enter Tryd.func33, Tryd.ntmps33
    go_wp2_with fail
    go_ret
    exact ⟨rfl, HB.out⟩
  · have c := HC.out.cell 6
    rw [show wdOf 6 = [74, 117, 109, 112] from rfl]
    go_enter Tryd.func33, Tryd.ntmps33
    go_wp2_with fail
    go_ret
    exact ⟨rfl, HB.out⟩
  · have c := HC.out.cell 7
    rw [show wdOf 7 = [74, 117, 109, 112, 70, 97, 108, 115, 101] from rfl]
    go_enter Tryd.func33, Tryd.ntmps33
    go_wp2_with fail
    go_ret
    exact ⟨rfl, HB.out⟩
  · have c := HC.out.cell 8
    rw [show wdOf 8 = [73, 110, 100, 101, 120] from rfl]
    go_enter Tryd.func33, Tryd.ntmps33
    go_wp2_with fail
    go_ret
    exact ⟨rfl, HB.out⟩
  · have c := HC.out.cell 9
    rw [show wdOf 9 = [76, 101, 110] from rfl]
    go_enter Tryd.func33, Tryd.ntmps33
    go_wp2_with fail
    go_ret
    exact ⟨rfl, HB.out⟩
  · have c := HC.out.cell 10
    rw [show wdOf 10 = [83, 116, 111, 114, 101, 73, 110, 100, 101, 120] from rfl]
    go_enter Tryd.func33, Tryd.ntmps33
    go_wp2_with fail
    go_ret
    exact ⟨rfl, HB.out⟩
  · have c := HC.out.cell 11
    rw [show wdOf 11 = [78, 101, 119] from rfl]
    go_enter Tryd.func33, Tryd.ntmps33
    go_wp2_with fail
    go_ret
    exact ⟨rfl, HB.out⟩
  · have c := HC.out.cell 12
    rw [show wdOf 12 = [82, 101, 97, 100] from rfl]
    go_enter Tryd.func33, Tryd.ntmps33
    go_wp2_with fail
    go_ret
    exact ⟨rfl, HB.out⟩
  · have c := HC.out.cell 13
    rw [show wdOf 13 = [80, 114, 105, 110, 116] from rfl]
    go_enter Tryd.func33, Tryd.ntmps33
    go_wp2_with fail
    go_ret
    exact ⟨rfl, HB.out⟩
  · have c := HC.out.cell 14
    rw [show wdOf 14 = [67, 97, 108, 108] from rfl]
    go_enter Tryd.func33, Tryd.ntmps33
    go_wp2_with fail
    go_ret
    exact ⟨rfl, HB.out⟩
  · have c := HC.out.cell 15
    rw [show wdOf 15 = [68, 114, 111, 112] from rfl]
    go_enter Tryd.func33, Tryd.ntmps33
    go_wp2_with fail
    go_ret
    exact ⟨rfl, HB.out⟩
  · have c := HC.out.cell 16
    rw [show wdOf 16 = [82, 101, 116, 117, 114, 110] from rfl]
    go_enter Tryd.func33, Tryd.ntmps33
    go_wp2_with fail
    go_ret
    exact ⟨rfl, HB.out⟩
  · have c := HC.out.cell 17
    rw [show wdOf 17 = [68, 101, 102, 97, 117, 108, 116] from rfl]
    go_enter Tryd.func33, Tryd.ntmps33
    go_wp2_with fail
    go_ret
    exact ⟨rfl, HB.out⟩

theorem roperand_any (op : Int) (hk : Cd.known op) (w : World) : Calls Tryd.prog 34 #[.int .i64 op] w fun e w' => e = .returned (.bool (!Cd.bare op.toNat)) ∧ w = w' := by
  obtain ⟨h1, h2⟩ := hk
  rcases (show op = 1 ∨ op = 2 ∨ op = 3 ∨ op = 4 ∨ op = 5 ∨ op = 6 ∨ op = 7 ∨ op = 8 ∨ op = 9 ∨ op = 10 ∨ op = 11 ∨ op = 12 ∨ op = 13 ∨ op = 14 ∨ op = 15 ∨ op = 16 ∨ op = 17 by omega) with rfl | rfl | rfl | rfl | rfl | rfl | rfl | rfl | rfl | rfl | rfl | rfl | rfl | rfl | rfl | rfl | rfl
  · rw [show Cd.bare (Int.toNat 1) = false from rfl]
    go_enter Tryd.func34, Tryd.ntmps34
    go_wp2_with fail
    go_ret
    exact ⟨rfl, rfl⟩
  · rw [show Cd.bare (Int.toNat 2) = false from rfl]
    go_enter Tryd.func34, Tryd.ntmps34
    go_wp2_with fail
    go_ret
    exact ⟨rfl, rfl⟩
  · rw [show Cd.bare (Int.toNat 3) = false from rfl]
    go_enter Tryd.func34, Tryd.ntmps34
    go_wp2_with fail
    go_ret
    exact ⟨rfl, rfl⟩
  · rw [show Cd.bare (Int.toNat 4) = false from rfl]
    go_enter Tryd.func34, Tryd.ntmps34
    go_wp2_with fail
    go_ret
    exact ⟨rfl, rfl⟩
  · rw [show Cd.bare (Int.toNat 5) = false from rfl]
    go_enter Tryd.func34, Tryd.ntmps34
    go_wp2_with fail
    go_ret
    exact ⟨rfl, rfl⟩
  · rw [show Cd.bare (Int.toNat 6) = false from rfl]
    go_enter Tryd.func34, Tryd.ntmps34
    go_wp2_with fail
    go_ret
    exact ⟨rfl, rfl⟩
  · rw [show Cd.bare (Int.toNat 7) = false from rfl]
    go_enter Tryd.func34, Tryd.ntmps34
    go_wp2_with fail
    go_ret
    exact ⟨rfl, rfl⟩
  · rw [show Cd.bare (Int.toNat 8) = false from rfl]
    go_enter Tryd.func34, Tryd.ntmps34
    go_wp2_with fail
    go_ret
    exact ⟨rfl, rfl⟩
  · rw [show Cd.bare (Int.toNat 9) = false from rfl]
    go_enter Tryd.func34, Tryd.ntmps34
    go_wp2_with fail
    go_ret
    exact ⟨rfl, rfl⟩
  · rw [show Cd.bare (Int.toNat 10) = false from rfl]
    go_enter Tryd.func34, Tryd.ntmps34
    go_wp2_with fail
    go_ret
    exact ⟨rfl, rfl⟩
  · rw [show Cd.bare (Int.toNat 11) = true from rfl]
    go_enter Tryd.func34, Tryd.ntmps34
    go_wp2_with fail
    go_ret
    exact ⟨rfl, rfl⟩
  · rw [show Cd.bare (Int.toNat 12) = true from rfl]
    go_enter Tryd.func34, Tryd.ntmps34
    go_wp2_with fail
    go_ret
    exact ⟨rfl, rfl⟩
  · rw [show Cd.bare (Int.toNat 13) = false from rfl]
    go_enter Tryd.func34, Tryd.ntmps34
    go_wp2_with fail
    go_ret
    exact ⟨rfl, rfl⟩
  · rw [show Cd.bare (Int.toNat 14) = false from rfl]
    go_enter Tryd.func34, Tryd.ntmps34
    go_wp2_with fail
    go_ret
    exact ⟨rfl, rfl⟩
  · rw [show Cd.bare (Int.toNat 15) = true from rfl]
    go_enter Tryd.func34, Tryd.ntmps34
    go_wp2_with fail
    go_ret
    exact ⟨rfl, rfl⟩
  · rw [show Cd.bare (Int.toNat 16) = false from rfl]
    go_enter Tryd.func34, Tryd.ntmps34
    go_wp2_with fail
    go_ret
    exact ⟨rfl, rfl⟩
  · rw [show Cd.bare (Int.toNat 17) = false from rfl]
    go_enter Tryd.func34, Tryd.ntmps34
    go_wp2_with fail
    go_ret
    exact ⟨rfl, rfl⟩

set_option maxRecDepth 100000 in
set_option maxHeartbeats 4000000 in
theorem rright_any (op a n s c : Int) (w : World) : Calls Tryd.prog 44 #[iV op a, .int .i64 n, .int .i64 s, .int .i64 c] w fun e w' => e = .returned (.bool (Cd.right op a n s c)) ∧ Below w.heap.size w w' := by
  unfold iV
  have HB := Lib.hid (below_new (Below.refl w.heap.size w) (.cells #[.int .i64 op, .int .i64 a] 29))
  have HC := Lib.hid (Blk.new w 29 #[.int .i64 op, .int .i64 a])
  rcases (show (op < 1 ∨ 17 < op) ∨ op = 1 ∨ op = 2 ∨ op = 3 ∨ op = 4 ∨ op = 5 ∨ op = 6 ∨ op = 7 ∨ op = 8 ∨ op = 9 ∨ op = 10 ∨ op = 11 ∨ op = 12 ∨ op = 13 ∨ op = 14 ∨ op = 15 ∨ op = 16 ∨ op = 17 by omega) with h | rfl | rfl | rfl | rfl | rfl | rfl | rfl | rfl | rfl | rfl | rfl | rfl | rfl | rfl | rfl | rfl | rfl
  · rw [right_none a n s c (by unfold Cd.known; omega)]
    have h1 : (op == 1) = false := by simp; omega
    have h2 : (op == 2) = false := by simp; omega
    have h3 : (op == 3) = false := by simp; omega
    have h4 : (op == 4) = false := by simp; omega
    have h5 : (op == 5) = false := by simp; omega
    have h6 : (op == 6) = false := by simp; omega
    have h7 : (op == 7) = false := by simp; omega
    have h8 : (op == 8) = false := by simp; omega
    have h9 : (op == 9) = false := by simp; omega
    have h10 : (op == 10) = false := by simp; omega
    have h11 : (op == 11) = false := by simp; omega
    have h12 : (op == 12) = false := by simp; omega
    have h13 : (op == 13) = false := by simp; omega
    have h14 : (op == 14) = false := by simp; omega
    have h15 : (op == 15) = false := by simp; omega
    have h16 : (op == 16) = false := by simp; omega
    have h17 : (op == 17) = false := by simp; omega
    clear h
    have c0 := HC.out.cell 0
    have c1 := HC.out.cell 1
    go_enter Tryd.func44, Tryd.ntmps44
    go_wp2_with fail
    go_ret
    exact ⟨rfl, HB.out⟩
  · skip
    have e : Hid (Cd.right 1 a n s c = true) := Lib.hid (by unfold Cd.right; first | rfl | (simp; try omega))
    have c0 := HC.out.cell 0
    have c1 := HC.out.cell 1
    go_enter Tryd.func44, Tryd.ntmps44
    go_wp2_with fail
    go_ret
    exact ⟨ret_b e.out.symm, HB.out⟩
  · rcases (show a < 0 ∨ (0 ≤ a ∧ a < s) ∨ (0 ≤ a ∧ s ≤ a) by omega) with h | ⟨h, h2⟩ | ⟨h, h2⟩
    · skip
      have e : Hid (Cd.right 2 a n s c = false) := Lib.hid (by unfold Cd.right; first | rfl | (simp; try omega))
      have h3 : ¬ 0 ≤ a := by omega
      have c0 := HC.out.cell 0
      have c1 := HC.out.cell 1
      go_enter Tryd.func44, Tryd.ntmps44
      go_wp2_with fail
      go_ret
      exact ⟨ret_b e.out.symm, HB.out⟩
    · skip
      have e : Hid (Cd.right 2 a n s c = true) := Lib.hid (by unfold Cd.right; first | rfl | (simp; try omega))
      have c0 := HC.out.cell 0
      have c1 := HC.out.cell 1
      go_enter Tryd.func44, Tryd.ntmps44
      go_wp2_with fail
      go_ret
      exact ⟨ret_b e.out.symm, HB.out⟩
    · skip
      have e : Hid (Cd.right 2 a n s c = false) := Lib.hid (by unfold Cd.right; first | rfl | (simp; try omega))
      have h3 : ¬ a < s := by omega
      have c0 := HC.out.cell 0
      have c1 := HC.out.cell 1
      go_enter Tryd.func44, Tryd.ntmps44
      go_wp2_with fail
      go_ret
      exact ⟨ret_b e.out.symm, HB.out⟩
  · rcases (show a < 0 ∨ (0 ≤ a ∧ a < s) ∨ (0 ≤ a ∧ s ≤ a) by omega) with h | ⟨h, h2⟩ | ⟨h, h2⟩
    · skip
      have e : Hid (Cd.right 3 a n s c = false) := Lib.hid (by unfold Cd.right; first | rfl | (simp; try omega))
      have h3 : ¬ 0 ≤ a := by omega
      have c0 := HC.out.cell 0
      have c1 := HC.out.cell 1
      go_enter Tryd.func44, Tryd.ntmps44
      go_wp2_with fail
      go_ret
      exact ⟨ret_b e.out.symm, HB.out⟩
    · skip
      have e : Hid (Cd.right 3 a n s c = true) := Lib.hid (by unfold Cd.right; first | rfl | (simp; try omega))
      have c0 := HC.out.cell 0
      have c1 := HC.out.cell 1
      go_enter Tryd.func44, Tryd.ntmps44
      go_wp2_with fail
      go_ret
      exact ⟨ret_b e.out.symm, HB.out⟩
    · skip
      have e : Hid (Cd.right 3 a n s c = false) := Lib.hid (by unfold Cd.right; first | rfl | (simp; try omega))
      have h3 : ¬ a < s := by omega
      have c0 := HC.out.cell 0
      have c1 := HC.out.cell 1
      go_enter Tryd.func44, Tryd.ntmps44
      go_wp2_with fail
      go_ret
      exact ⟨ret_b e.out.symm, HB.out⟩
  · rcases (show a = 14 ∨ a = 15 ∨ (a ≠ 14 ∧ a ≠ 15) by omega) with rfl | rfl | ⟨h, h2⟩
    · have e : Cd.right 4 14 n s c = true := rfl
      have c0 := HC.out.cell 0
      have c1 := HC.out.cell 1
      replace e := Lib.hid e
      go_enter Tryd.func44, Tryd.ntmps44
      go_wp2_with fail
      go_ret
      exact ⟨ret_b e.out.symm, HB.out⟩
    · have e : Cd.right 4 15 n s c = true := rfl
      have c0 := HC.out.cell 0
      have c1 := HC.out.cell 1
      replace e := Lib.hid e
      go_enter Tryd.func44, Tryd.ntmps44
      go_wp2_with fail
      go_ret
      exact ⟨ret_b e.out.symm, HB.out⟩
    · have e : Hid (Cd.right 4 a n s c = false) := Lib.hid (by unfold Cd.right; simp; omega)
      have h3 : (a == 14) = false := by simpa using h
      have h4 : (a == 15) = false := by simpa using h2
      have c0 := HC.out.cell 0
      have c1 := HC.out.cell 1
      go_enter Tryd.func44, Tryd.ntmps44
      go_wp2_with fail
      go_ret
      exact ⟨ret_b e.out.symm, HB.out⟩
  · rcases (show a < 1 ∨ (1 ≤ a ∧ a ≤ 11) ∨ (1 ≤ a ∧ 11 < a) by omega) with h | ⟨h, h2⟩ | ⟨h, h2⟩
    · skip
      have e : Hid (Cd.right 5 a n s c = false) := Lib.hid (by unfold Cd.right; first | rfl | (simp; try omega))
      have h3 : ¬ 1 ≤ a := by omega
      have c0 := HC.out.cell 0
      have c1 := HC.out.cell 1
      go_enter Tryd.func44, Tryd.ntmps44
      go_wp2_with fail
      go_ret
      exact ⟨ret_b e.out.symm, HB.out⟩
    · skip
      have e : Hid (Cd.right 5 a n s c = true) := Lib.hid (by unfold Cd.right; first | rfl | (simp; try omega))
      have c0 := HC.out.cell 0
      have c1 := HC.out.cell 1
      go_enter Tryd.func44, Tryd.ntmps44
      go_wp2_with fail
      go_ret
      exact ⟨ret_b e.out.symm, HB.out⟩
    · skip
      have e : Hid (Cd.right 5 a n s c = false) := Lib.hid (by unfold Cd.right; first | rfl | (simp; try omega))
      have h3 : ¬ a ≤ 11 := by omega
      have c0 := HC.out.cell 0
      have c1 := HC.out.cell 1
      go_enter Tryd.func44, Tryd.ntmps44
      go_wp2_with fail
      go_ret
      exact ⟨ret_b e.out.symm, HB.out⟩
  · rcases (show a < 0 ∨ (0 ≤ a ∧ a < n) ∨ (0 ≤ a ∧ n ≤ a) by omega) with h | ⟨h, h2⟩ | ⟨h, h2⟩
    · skip
      have e : Hid (Cd.right 6 a n s c = false) := Lib.hid (by unfold Cd.right; first | rfl | (simp; try omega))
      have h3 : ¬ 0 ≤ a := by omega
      have c0 := HC.out.cell 0
      have c1 := HC.out.cell 1
      go_enter Tryd.func44, Tryd.ntmps44
      go_wp2_with fail
      go_ret
      exact ⟨ret_b e.out.symm, HB.out⟩
    · skip
      have e : Hid (Cd.right 6 a n s c = true) := Lib.hid (by unfold Cd.right; first | rfl | (simp; try omega))
      have c0 := HC.out.cell 0
      have c1 := HC.out.cell 1
      go_enter Tryd.func44, Tryd.ntmps44
      go_wp2_with fail
      go_ret
      exact ⟨ret_b e.out.symm, HB.out⟩
    · skip
      have e : Hid (Cd.right 6 a n s c = false) := Lib.hid (by unfold Cd.right; first | rfl | (simp; try omega))
      have h3 : ¬ a < n := by omega
      have c0 := HC.out.cell 0
      have c1 := HC.out.cell 1
      go_enter Tryd.func44, Tryd.ntmps44
      go_wp2_with fail
      go_ret
      exact ⟨ret_b e.out.symm, HB.out⟩
  · rcases (show a < 0 ∨ (0 ≤ a ∧ a < n) ∨ (0 ≤ a ∧ n ≤ a) by omega) with h | ⟨h, h2⟩ | ⟨h, h2⟩
    · skip
      have e : Hid (Cd.right 7 a n s c = false) := Lib.hid (by unfold Cd.right; first | rfl | (simp; try omega))
      have h3 : ¬ 0 ≤ a := by omega
      have c0 := HC.out.cell 0
      have c1 := HC.out.cell 1
      go_enter Tryd.func44, Tryd.ntmps44
      go_wp2_with fail
      go_ret
      exact ⟨ret_b e.out.symm, HB.out⟩
    · skip
      have e : Hid (Cd.right 7 a n s c = true) := Lib.hid (by unfold Cd.right; first | rfl | (simp; try omega))
      have c0 := HC.out.cell 0
      have c1 := HC.out.cell 1
      go_enter Tryd.func44, Tryd.ntmps44
      go_wp2_with fail
      go_ret
      exact ⟨ret_b e.out.symm, HB.out⟩
    · skip
      have e : Hid (Cd.right 7 a n s c = false) := Lib.hid (by unfold Cd.right; first | rfl | (simp; try omega))
      have h3 : ¬ a < n := by omega
      have c0 := HC.out.cell 0
      have c1 := HC.out.cell 1
      go_enter Tryd.func44, Tryd.ntmps44
      go_wp2_with fail
      go_ret
      exact ⟨ret_b e.out.symm, HB.out⟩
  · rcases (show a < 0 ∨ (0 ≤ a ∧ a < s) ∨ (0 ≤ a ∧ s ≤ a) by omega) with h | ⟨h, h2⟩ | ⟨h, h2⟩
    · skip
      have e : Hid (Cd.right 8 a n s c = false) := Lib.hid (by unfold Cd.right; first | rfl | (simp; try omega))
      have h3 : ¬ 0 ≤ a := by omega
      have c0 := HC.out.cell 0
      have c1 := HC.out.cell 1
      go_enter Tryd.func44, Tryd.ntmps44
      go_wp2_with fail
      go_ret
      exact ⟨ret_b e.out.symm, HB.out⟩
    · skip
      have e : Hid (Cd.right 8 a n s c = true) := Lib.hid (by unfold Cd.right; first | rfl | (simp; try omega))
      have c0 := HC.out.cell 0
      have c1 := HC.out.cell 1
      go_enter Tryd.func44, Tryd.ntmps44
      go_wp2_with fail
      go_ret
      exact ⟨ret_b e.out.symm, HB.out⟩
    · skip
      have e : Hid (Cd.right 8 a n s c = false) := Lib.hid (by unfold Cd.right; first | rfl | (simp; try omega))
      have h3 : ¬ a < s := by omega
      have c0 := HC.out.cell 0
      have c1 := HC.out.cell 1
      go_enter Tryd.func44, Tryd.ntmps44
      go_wp2_with fail
      go_ret
      exact ⟨ret_b e.out.symm, HB.out⟩
  · rcases (show a < 0 ∨ (0 ≤ a ∧ a < s) ∨ (0 ≤ a ∧ s ≤ a) by omega) with h | ⟨h, h2⟩ | ⟨h, h2⟩
    · skip
      have e : Hid (Cd.right 9 a n s c = false) := Lib.hid (by unfold Cd.right; first | rfl | (simp; try omega))
      have h3 : ¬ 0 ≤ a := by omega
      have c0 := HC.out.cell 0
      have c1 := HC.out.cell 1
      go_enter Tryd.func44, Tryd.ntmps44
      go_wp2_with fail
      go_ret
      exact ⟨ret_b e.out.symm, HB.out⟩
    · skip
      have e : Hid (Cd.right 9 a n s c = true) := Lib.hid (by unfold Cd.right; first | rfl | (simp; try omega))
      have c0 := HC.out.cell 0
      have c1 := HC.out.cell 1
      go_enter Tryd.func44, Tryd.ntmps44
      go_wp2_with fail
      go_ret
      exact ⟨ret_b e.out.symm, HB.out⟩
    · skip
      have e : Hid (Cd.right 9 a n s c = false) := Lib.hid (by unfold Cd.right; first | rfl | (simp; try omega))
      have h3 : ¬ a < s := by omega
      have c0 := HC.out.cell 0
      have c1 := HC.out.cell 1
      go_enter Tryd.func44, Tryd.ntmps44
      go_wp2_with fail
      go_ret
      exact ⟨ret_b e.out.symm, HB.out⟩
  · rcases (show a < 0 ∨ (0 ≤ a ∧ a < s) ∨ (0 ≤ a ∧ s ≤ a) by omega) with h | ⟨h, h2⟩ | ⟨h, h2⟩
    · skip
      have e : Hid (Cd.right 10 a n s c = false) := Lib.hid (by unfold Cd.right; first | rfl | (simp; try omega))
      have h3 : ¬ 0 ≤ a := by omega
      have c0 := HC.out.cell 0
      have c1 := HC.out.cell 1
      go_enter Tryd.func44, Tryd.ntmps44
      go_wp2_with fail
      go_ret
      exact ⟨ret_b e.out.symm, HB.out⟩
    · skip
      have e : Hid (Cd.right 10 a n s c = true) := Lib.hid (by unfold Cd.right; first | rfl | (simp; try omega))
      have c0 := HC.out.cell 0
      have c1 := HC.out.cell 1
      go_enter Tryd.func44, Tryd.ntmps44
      go_wp2_with fail
      go_ret
      exact ⟨ret_b e.out.symm, HB.out⟩
    · skip
      have e : Hid (Cd.right 10 a n s c = false) := Lib.hid (by unfold Cd.right; first | rfl | (simp; try omega))
      have h3 : ¬ a < s := by omega
      have c0 := HC.out.cell 0
      have c1 := HC.out.cell 1
      go_enter Tryd.func44, Tryd.ntmps44
      go_wp2_with fail
      go_ret
      exact ⟨ret_b e.out.symm, HB.out⟩
  · by_cases h : a = 0
    · subst h
      have e : Cd.right 11 0 n s c = true := rfl
      have c0 := HC.out.cell 0
      have c1 := HC.out.cell 1
      replace e := Lib.hid e
      go_enter Tryd.func44, Tryd.ntmps44
      go_wp2_with fail
      go_ret
      exact ⟨ret_b e.out.symm, HB.out⟩
    · have e : Hid (Cd.right 11 a n s c = false) := Lib.hid (by unfold Cd.right; simp; omega)
      have h3 : (a == 0) = false := by simpa using h
      have c0 := HC.out.cell 0
      have c1 := HC.out.cell 1
      go_enter Tryd.func44, Tryd.ntmps44
      go_wp2_with fail
      go_ret
      exact ⟨ret_b e.out.symm, HB.out⟩
  · by_cases h : a = 0
    · subst h
      have e : Cd.right 12 0 n s c = true := rfl
      have c0 := HC.out.cell 0
      have c1 := HC.out.cell 1
      replace e := Lib.hid e
      go_enter Tryd.func44, Tryd.ntmps44
      go_wp2_with fail
      go_ret
      exact ⟨ret_b e.out.symm, HB.out⟩
    · have e : Hid (Cd.right 12 a n s c = false) := Lib.hid (by unfold Cd.right; simp; omega)
      have h3 : (a == 0) = false := by simpa using h
      have c0 := HC.out.cell 0
      have c1 := HC.out.cell 1
      go_enter Tryd.func44, Tryd.ntmps44
      go_wp2_with fail
      go_ret
      exact ⟨ret_b e.out.symm, HB.out⟩
  · rcases (show a = 1 ∨ a = 2 ∨ (a ≠ 1 ∧ a ≠ 2) by omega) with rfl | rfl | ⟨h, h2⟩
    · have e : Cd.right 13 1 n s c = true := rfl
      have c0 := HC.out.cell 0
      have c1 := HC.out.cell 1
      replace e := Lib.hid e
      go_enter Tryd.func44, Tryd.ntmps44
      go_wp2_with fail
      go_ret
      exact ⟨ret_b e.out.symm, HB.out⟩
    · have e : Cd.right 13 2 n s c = true := rfl
      have c0 := HC.out.cell 0
      have c1 := HC.out.cell 1
      replace e := Lib.hid e
      go_enter Tryd.func44, Tryd.ntmps44
      go_wp2_with fail
      go_ret
      exact ⟨ret_b e.out.symm, HB.out⟩
    · have e : Hid (Cd.right 13 a n s c = false) := Lib.hid (by unfold Cd.right; simp; omega)
      have h3 : (a == 1) = false := by simpa using h
      have h4 : (a == 2) = false := by simpa using h2
      have c0 := HC.out.cell 0
      have c1 := HC.out.cell 1
      go_enter Tryd.func44, Tryd.ntmps44
      go_wp2_with fail
      go_ret
      exact ⟨ret_b e.out.symm, HB.out⟩
  · rcases (show a < 0 ∨ (0 ≤ a ∧ a < c) ∨ (0 ≤ a ∧ c ≤ a) by omega) with h | ⟨h, h2⟩ | ⟨h, h2⟩
    · skip
      have e : Hid (Cd.right 14 a n s c = false) := Lib.hid (by unfold Cd.right; first | rfl | (simp; try omega))
      have h3 : ¬ 0 ≤ a := by omega
      have c0 := HC.out.cell 0
      have c1 := HC.out.cell 1
      go_enter Tryd.func44, Tryd.ntmps44
      go_wp2_with fail
      go_ret
      exact ⟨ret_b e.out.symm, HB.out⟩
    · skip
      have e : Hid (Cd.right 14 a n s c = true) := Lib.hid (by unfold Cd.right; first | rfl | (simp; try omega))
      have c0 := HC.out.cell 0
      have c1 := HC.out.cell 1
      go_enter Tryd.func44, Tryd.ntmps44
      go_wp2_with fail
      go_ret
      exact ⟨ret_b e.out.symm, HB.out⟩
    · skip
      have e : Hid (Cd.right 14 a n s c = false) := Lib.hid (by unfold Cd.right; first | rfl | (simp; try omega))
      have h3 : ¬ a < c := by omega
      have c0 := HC.out.cell 0
      have c1 := HC.out.cell 1
      go_enter Tryd.func44, Tryd.ntmps44
      go_wp2_with fail
      go_ret
      exact ⟨ret_b e.out.symm, HB.out⟩
  · by_cases h : a = 0
    · subst h
      have e : Cd.right 15 0 n s c = true := rfl
      have c0 := HC.out.cell 0
      have c1 := HC.out.cell 1
      replace e := Lib.hid e
      go_enter Tryd.func44, Tryd.ntmps44
      go_wp2_with fail
      go_ret
      exact ⟨ret_b e.out.symm, HB.out⟩
    · have e : Hid (Cd.right 15 a n s c = false) := Lib.hid (by unfold Cd.right; simp; omega)
      have h3 : (a == 0) = false := by simpa using h
      have c0 := HC.out.cell 0
      have c1 := HC.out.cell 1
      go_enter Tryd.func44, Tryd.ntmps44
      go_wp2_with fail
      go_ret
      exact ⟨ret_b e.out.symm, HB.out⟩
  · rcases (show a = 0 ∨ a = 1 ∨ (a ≠ 0 ∧ a ≠ 1) by omega) with rfl | rfl | ⟨h, h2⟩
    · have e : Cd.right 16 0 n s c = true := rfl
      have c0 := HC.out.cell 0
      have c1 := HC.out.cell 1
      replace e := Lib.hid e
      go_enter Tryd.func44, Tryd.ntmps44
      go_wp2_with fail
      go_ret
      exact ⟨ret_b e.out.symm, HB.out⟩
    · have e : Cd.right 16 1 n s c = true := rfl
      have c0 := HC.out.cell 0
      have c1 := HC.out.cell 1
      replace e := Lib.hid e
      go_enter Tryd.func44, Tryd.ntmps44
      go_wp2_with fail
      go_ret
      exact ⟨ret_b e.out.symm, HB.out⟩
    · have e : Hid (Cd.right 16 a n s c = false) := Lib.hid (by unfold Cd.right; simp; omega)
      have h3 : (a == 0) = false := by simpa using h
      have h4 : (a == 1) = false := by simpa using h2
      have c0 := HC.out.cell 0
      have c1 := HC.out.cell 1
      go_enter Tryd.func44, Tryd.ntmps44
      go_wp2_with fail
      go_ret
      exact ⟨ret_b e.out.symm, HB.out⟩
  · rcases (show a < 0 ∨ (0 ≤ a ∧ a < s) ∨ (0 ≤ a ∧ s ≤ a) by omega) with h | ⟨h, h2⟩ | ⟨h, h2⟩
    · skip
      have e : Hid (Cd.right 17 a n s c = false) := Lib.hid (by unfold Cd.right; first | rfl | (simp; try omega))
      have h3 : ¬ 0 ≤ a := by omega
      have c0 := HC.out.cell 0
      have c1 := HC.out.cell 1
      go_enter Tryd.func44, Tryd.ntmps44
      go_wp2_with fail
      go_ret
      exact ⟨ret_b e.out.symm, HB.out⟩
    · skip
      have e : Hid (Cd.right 17 a n s c = true) := Lib.hid (by unfold Cd.right; first | rfl | (simp; try omega))
      have c0 := HC.out.cell 0
      have c1 := HC.out.cell 1
      go_enter Tryd.func44, Tryd.ntmps44
      go_wp2_with fail
      go_ret
      exact ⟨ret_b e.out.symm, HB.out⟩
    · skip
      have e : Hid (Cd.right 17 a n s c = false) := Lib.hid (by unfold Cd.right; first | rfl | (simp; try omega))
      have h3 : ¬ a < s := by omega
      have c0 := HC.out.cell 0
      have c1 := HC.out.cell 1
      go_enter Tryd.func44, Tryd.ntmps44
      go_wp2_with fail
      go_ret
      exact ⟨ret_b e.out.symm, HB.out⟩

theorem udigit_piece (n : Int) (h0 : 0 ≤ n) (h1 : n ≤ 9) : ({ data := #[48, 49, 50, 51, 52, 53, 54, 55, 56, 57] } : ByteArray).extract n.toNat (n + 1).toNat = ⟨(Lib.decDigits n.toNat).toArray⟩ := by
  rw [Dec.dec_small (by omega)]
  rcases (show n = 0 ∨ n = 1 ∨ n = 2 ∨ n = 3 ∨ n = 4 ∨ n = 5 ∨ n = 6 ∨ n = 7 ∨ n = 8 ∨ n = 9 by omega) with rfl | rfl | rfl | rfl | rfl | rfl | rfl | rfl | rfl | rfl <;> decide
/-- The reference's digits: the numeral. -/
theorem rdigits_any (k : Nat) : ∀ (n : Int) (w : World), n.toNat ≤ k → 0 ≤ n → n ≤ 18446744073709551615 →
    Calls Tryd.prog 48 #[.int .u64 n] w fun e w' => e = .returned (.string ⟨(Lib.decDigits n.toNat).toArray⟩) ∧ w = w' := by
  induction k with
  | zero =>
    intro n w hk h0 h1
    obtain rfl : n = 0 := by omega
    go_enter Tryd.func48, Tryd.ntmps48
    go_wp2_with fail
    go_ret
    exact ⟨ret_str (udigit_piece 0 (by decide) (by decide)), rfl⟩
  | succ k ih =>
    intro n w hk h0 h1
    by_cases hn : n < 10
    · clear ih
      have hp := Lib.hid (udigit_piece n h0 (by omega))
      go_enter Tryd.func48, Tryd.ntmps48
      go_wp2_with fail
      go_ret
      exact ⟨ret_str hp.out, rfl⟩
    · have hI := Lib.hid ih
      clear ih
      have s1 : (Lib.decDigits (n / 10).toNat).length ≤ 20 := Dec.dec_length_le (by omega)
      have s2 : (Lib.decDigits (n % 10).toNat).length ≤ 20 := Dec.dec_length_le (by omega)
      have t1 : n.tdiv 10 = n / 10 := Int.tdiv_eq_ediv_of_nonneg h0
      have t2 : n.tmod 10 = n % 10 := Int.tmod_eq_emod_of_nonneg h0
      obtain ⟨Q, hQ⟩ : ∃ Q, n / 10 = Q := ⟨_, rfl⟩
      obtain ⟨R, hR⟩ : ∃ R, n % 10 = R := ⟨_, rfl⟩
      have q0 : 0 ≤ Q := by omega
      have q1 : Q ≤ 1844674407370955161 := by omega
      have hm : Hid (Q.toNat ≤ k ∧ 0 ≤ R ∧ R ≤ 9 ∧ n.toNat / 10 = Q.toNat ∧ n.toNat % 10 = R.toNat) := Lib.hid (by omega)
      have hk2 := Lib.hid hk
      rw [hQ] at s1 t1
      rw [hR] at s2 t2
      clear hQ hR hk
      go_enter Tryd.func48, Tryd.ntmps48
      go_wp2_with fail
      refine (hI.out Q _ hm.out.1 (by omega) (by omega)).mono ?_
      rintro e w' ⟨rfl, rfl⟩
      go_wp2_with fail
      refine (hI.out R _ (by have := hm.out; have := hk2.out; omega) (by have := hm.out; omega) (by have := hm.out; omega)).mono ?_
      rintro e w' ⟨rfl, rfl⟩
      go_wp2_with fail
      go_ret
      refine ⟨ret_str ?_, rfl⟩
      obtain ⟨_, _, _, e1, e2⟩ := hm.out
      rw [ByteArray.mk_append_mk, mk_inj, Dec.dec_big (u := n.toNat) (by omega), Dec.dec_small (u := R.toNat) (by omega), e1, e2]

theorem rnumber_any (a : Int) (a0 : -9223372036854775808 ≤ a) (a1 : a ≤ 9223372036854775807) (w : World) :
    Calls Tryd.prog 35 #[.int .i64 a] w fun e w' => e = .returned (.string ⟨(Lib.itoa a).toArray⟩) ∧ w = w' := by
  by_cases h : a < 0
  · have e1 : Lib.itoa a = 45 :: Lib.decDigits (-a).toNat := by rw [Dec.itoa_neg h, show a.natAbs = (-a).toNat by omega]
    have e2 : IntKind.u64.wrap (-IntKind.u64.wrap a) = -a := by show (-(a % 18446744073709551616)) % 18446744073709551616 = -a; omega
    have e3 : IntKind.u64.wrap (-(a + 18446744073709551616)) = -a := by show (-(a + 18446744073709551616)) % 18446744073709551616 = -a; omega
    have s1 : (Lib.decDigits (-a).toNat).length ≤ 20 := Dec.dec_length_le (by omega)
    have HD := Lib.hid fun W => rdigits_any (-a).toNat (-a) W (Nat.le_refl _) (by omega) (by omega)
    obtain ⟨D, hD⟩ : ∃ D, Lib.decDigits (-a).toNat = D := ⟨_, rfl⟩
    rw [hD] at e1 s1 HD
    have HE := Lib.hid e1
    have k1 : ¬ 9223372036854775807 < 1 + D.length := by omega
    clear e1 hD
    go_enter Tryd.func35, Tryd.ntmps35
    go_wp2_with fail
    refine (HD.out _).mono ?_
    rintro e w2 ⟨rfl, rfl⟩
    go_wp2_with fail
    go_ret
    refine ⟨ret_str ?_, rfl⟩
    rw [HE.out, ByteArray.mk_append_mk, mk_inj]
    rfl
  · have e1 : Lib.itoa a = Lib.decDigits a.toNat := Dec.itoa_nn (by omega)
    rw [e1]
    have e2 : IntKind.u64.wrap a = a := by show a % 18446744073709551616 = a; omega
    have HD := Lib.hid fun W => rdigits_any a.toNat a W (Nat.le_refl _) (by omega) (by omega)
    clear e1
    go_enter Tryd.func35, Tryd.ntmps35
    go_wp2_with fail
    refine (HD.out _).mono ?_
    rintro e w2 ⟨rfl, rfl⟩
    go_wp2_with fail
    go_ret
    exact ⟨rfl, rfl⟩

set_option maxRecDepth 100000 in
set_option maxHeartbeats 4000000 in
theorem reffect_any (op a : Int) (w : World) :
    Calls Tryd.prog 16 #[iV op a] w fun e w' => e = .returned (.tuple #[.int .i64 (efP op), .int .i64 (efQ op), .int .i64 (efE op)]) ∧ Below w.heap.size w w' := by
  unfold iV
  have HB := Lib.hid (below_new (Below.refl w.heap.size w) (.cells #[.int .i64 op, .int .i64 a] 29))
  have HC := Lib.hid (Blk.new w 29 #[.int .i64 op, .int .i64 a])
  rcases (show (op < 1 ∨ 17 < op) ∨ op = 1 ∨ op = 2 ∨ op = 3 ∨ op = 4 ∨ op = 5 ∨ op = 6 ∨ op = 7 ∨ op = 8 ∨ op = 9 ∨ op = 10 ∨ op = 11 ∨ op = 12 ∨ op = 13 ∨ op = 14 ∨ op = 15 ∨ op = 16 ∨ op = 17 by omega) with h | rfl | rfl | rfl | rfl | rfl | rfl | rfl | rfl | rfl | rfl | rfl | rfl | rfl | rfl | rfl | rfl | rfl
  · have e1 : efP op = 0 := by unfold efP; rw [if_neg (by unfold Cd.hasEff Cd.known; omega)]
    have e2 : efQ op = 0 := by unfold efQ; rw [if_neg (by unfold Cd.hasEff Cd.known; omega)]
    have e3 : efE op = 2 := by unfold efE; rw [if_neg (by unfold Cd.hasEff Cd.known; omega)]
    rw [e1, e2, e3]
    clear e1 e2 e3
    have h1 : (op == 1) = false := by simp; omega
    have h2 : (op == 2) = false := by simp; omega
    have h3 : (op == 3) = false := by simp; omega
    have h4 : (op == 4) = false := by simp; omega
    have h5 : (op == 5) = false := by simp; omega
    have h6 : (op == 6) = false := by simp; omega
    have h7 : (op == 7) = false := by simp; omega
    have h8 : (op == 8) = false := by simp; omega
    have h9 : (op == 9) = false := by simp; omega
    have h10 : (op == 10) = false := by simp; omega
    have h11 : (op == 11) = false := by simp; omega
    have h12 : (op == 12) = false := by simp; omega
    have h13 : (op == 13) = false := by simp; omega
    have h14 : (op == 14) = false := by simp; omega
    have h15 : (op == 15) = false := by simp; omega
    have h16 : (op == 16) = false := by simp; omega
    have h17 : (op == 17) = false := by simp; omega
    clear h
    have c0 := HC.out.cell 0
    have c1 := HC.out.cell 1
    go_enter Tryd.func16, Tryd.ntmps16
    go_wp2_with fail
    go_ret3
    exact ⟨rfl, HB.out⟩
  · rw [show efP 1 = 0 from rfl, show efQ 1 = 1 from rfl, show efE 1 = 0 from rfl]
    have c0 := HC.out.cell 0
    have c1 := HC.out.cell 1
    go_enter Tryd.func16, Tryd.ntmps16
    go_wp2_with fail
    go_ret3
    exact ⟨rfl, HB.out⟩
  · rw [show efP 2 = 0 from rfl, show efQ 2 = 1 from rfl, show efE 2 = 0 from rfl]
    have c0 := HC.out.cell 0
    have c1 := HC.out.cell 1
    go_enter Tryd.func16, Tryd.ntmps16
    go_wp2_with fail
    go_ret3
    exact ⟨rfl, HB.out⟩
  · rw [show efP 3 = 1 from rfl, show efQ 3 = 0 from rfl, show efE 3 = 0 from rfl]
    have c0 := HC.out.cell 0
    have c1 := HC.out.cell 1
    go_enter Tryd.func16, Tryd.ntmps16
    go_wp2_with fail
    go_ret3
    exact ⟨rfl, HB.out⟩
  · rw [show efP 4 = 1 from rfl, show efQ 4 = 1 from rfl, show efE 4 = 0 from rfl]
    have c0 := HC.out.cell 0
    have c1 := HC.out.cell 1
    go_enter Tryd.func16, Tryd.ntmps16
    go_wp2_with fail
    go_ret3
    exact ⟨rfl, HB.out⟩
  · rw [show efP 5 = 2 from rfl, show efQ 5 = 1 from rfl, show efE 5 = 0 from rfl]
    have c0 := HC.out.cell 0
    have c1 := HC.out.cell 1
    go_enter Tryd.func16, Tryd.ntmps16
    go_wp2_with fail
    go_ret3
    exact ⟨rfl, HB.out⟩
  · rw [show efP 6 = 0 from rfl, show efQ 6 = 0 from rfl, show efE 6 = 0 from rfl]
    have c0 := HC.out.cell 0
    have c1 := HC.out.cell 1
    go_enter Tryd.func16, Tryd.ntmps16
    go_wp2_with fail
    go_ret3
    exact ⟨rfl, HB.out⟩
  · rw [show efP 7 = 1 from rfl, show efQ 7 = 0 from rfl, show efE 7 = 0 from rfl]
    have c0 := HC.out.cell 0
    have c1 := HC.out.cell 1
    go_enter Tryd.func16, Tryd.ntmps16
    go_wp2_with fail
    go_ret3
    exact ⟨rfl, HB.out⟩
  · rw [show efP 8 = 1 from rfl, show efQ 8 = 1 from rfl, show efE 8 = 0 from rfl]
    have c0 := HC.out.cell 0
    have c1 := HC.out.cell 1
    go_enter Tryd.func16, Tryd.ntmps16
    go_wp2_with fail
    go_ret3
    exact ⟨rfl, HB.out⟩
  · rw [show efP 9 = 0 from rfl, show efQ 9 = 1 from rfl, show efE 9 = 0 from rfl]
    have c0 := HC.out.cell 0
    have c1 := HC.out.cell 1
    go_enter Tryd.func16, Tryd.ntmps16
    go_wp2_with fail
    go_ret3
    exact ⟨rfl, HB.out⟩
  · rw [show efP 10 = 2 from rfl, show efQ 10 = 0 from rfl, show efE 10 = 0 from rfl]
    have c0 := HC.out.cell 0
    have c1 := HC.out.cell 1
    go_enter Tryd.func16, Tryd.ntmps16
    go_wp2_with fail
    go_ret3
    exact ⟨rfl, HB.out⟩
  · rw [show efP 11 = 1 from rfl, show efQ 11 = 1 from rfl, show efE 11 = 0 from rfl]
    have c0 := HC.out.cell 0
    have c1 := HC.out.cell 1
    go_enter Tryd.func16, Tryd.ntmps16
    go_wp2_with fail
    go_ret3
    exact ⟨rfl, HB.out⟩
  · rw [show efP 12 = 0 from rfl, show efQ 12 = 1 from rfl, show efE 12 = 0 from rfl]
    have c0 := HC.out.cell 0
    have c1 := HC.out.cell 1
    go_enter Tryd.func16, Tryd.ntmps16
    go_wp2_with fail
    go_ret3
    exact ⟨rfl, HB.out⟩
  · rw [show efP 13 = 1 from rfl, show efQ 13 = 0 from rfl, show efE 13 = 0 from rfl]
    have c0 := HC.out.cell 0
    have c1 := HC.out.cell 1
    go_enter Tryd.func16, Tryd.ntmps16
    go_wp2_with fail
    go_ret3
    exact ⟨rfl, HB.out⟩
  · rw [show efP 14 = 0 from rfl, show efQ 14 = 0 from rfl, show efE 14 = 2 from rfl]
    have c0 := HC.out.cell 0
    have c1 := HC.out.cell 1
    go_enter Tryd.func16, Tryd.ntmps16
    go_wp2_with fail
    go_ret3
    exact ⟨rfl, HB.out⟩
  · rw [show efP 15 = 1 from rfl, show efQ 15 = 0 from rfl, show efE 15 = 0 from rfl]
    have c0 := HC.out.cell 0
    have c1 := HC.out.cell 1
    go_enter Tryd.func16, Tryd.ntmps16
    go_wp2_with fail
    go_ret3
    exact ⟨rfl, HB.out⟩
  · rw [show efP 16 = 0 from rfl, show efQ 16 = 0 from rfl, show efE 16 = 2 from rfl]
    have c0 := HC.out.cell 0
    have c1 := HC.out.cell 1
    go_enter Tryd.func16, Tryd.ntmps16
    go_wp2_with fail
    go_ret3
    exact ⟨rfl, HB.out⟩
  · rw [show efP 17 = 0 from rfl, show efQ 17 = 0 from rfl, show efE 17 = 0 from rfl]
    have c0 := HC.out.cell 0
    have c1 := HC.out.cell 1
    go_enter Tryd.func16, Tryd.ntmps16
    go_wp2_with fail
    go_ret3
    exact ⟨rfl, HB.out⟩
end Go.Proofs.YtmmehfkiceelkaaDoor

/-
  LAYER 23, THE LAWS' HELPERS: examples of the chapter.
-/
import Derived.Test.YtmmehfkiceelkaaDoorCdG
namespace Go.Proofs.YtmmehfkiceelkaaDoor
open Go.ChangeShapes Go.WideShapes Go.ChangeAt Go.RowKit

theorem wch0 : chI [(2, 0), (1, 5), (5, 1), (3, 1), (16, 0)] (2) 0 = 0 ∧ chE [(2, 0), (1, 5), (5, 1), (3, 1), (16, 0)] (2) 0 = 0 := by decide +kernel
theorem wch1 : chI [(2, 0), (1, 5), (5, 1), (3, 1), (16, 0)] (1) 0 = 3 ∧ chE [(2, 0), (1, 5), (5, 1), (3, 1), (16, 0)] (1) 0 = 2 := by decide +kernel
theorem wch2 : chI [(6, 1)] (0) 0 = 0 ∧ chE [(6, 1)] (0) 0 = 2 := by decide +kernel
theorem wch3 : chI [(6, 0)] (0) 0 = 0 ∧ chE [(6, 0)] (0) 0 = 0 := by decide +kernel
theorem wch4 : chI [(5, 12)] (0) 0 = 0 ∧ chE [(5, 12)] (0) 0 = 2 := by decide +kernel
theorem wch5 : chI [] (-1) 0 = 0 ∧ chE [] (-1) 0 = 3 := by decide +kernel
theorem wtx0 : txS 1 (-5) = [67, 111, 110, 115, 116, 32, 45, 53] ∧ txE 1 (-5) = 0 := by decide +kernel
theorem wtx1 : txS 15 1 = [] ∧ txE 15 1 = 2 := by decide +kernel
theorem wpr0 : prO [76, 111, 97, 100, 32, 51] = 2 ∧ prA [76, 111, 97, 100, 32, 51] = 3 ∧ prE [76, 111, 97, 100, 32, 51] = 0 := by decide +kernel
theorem wpr1 : prO [76, 111, 97, 100, 32, 48, 51] = 0 ∧ prA [76, 111, 97, 100, 32, 48, 51] = 0 ∧ prE [76, 111, 97, 100, 32, 48, 51] = 7 := by decide +kernel
theorem wef0 : efP 10 = 2 ∧ efQ 10 = 0 ∧ efE 10 = 0 := by decide +kernel
theorem wef1 : efP 14 = 0 ∧ efQ 14 = 0 ∧ efE 14 = 2 := by decide +kernel
theorem wtg : Cd.tgtL 7 7 3 = [4, 7] ∧ Cd.tgtE 7 7 3 = 0 := by decide +kernel

set_option maxHeartbeats 8000000 in
set_option maxRecDepth 100000 in
/-- rewindlaw23.works. -/
theorem works_any (w : World) (hG : Good w) : Calls Tryd.prog 10 #[] w fun e w' => e = .returned (.bool true) ∧ Below w.heap.size w w' := by
  have HI0 : Hid (FInv w w) := Lib.hid ⟨hG, Below.refl _ _⟩
  have HI := FInv.alloc HI0 (.cells #[.int .i64 2, .int .i64 0, .int .i64 1, .int .i64 5, .int .i64 5, .int .i64 1, .int .i64 3, .int .i64 1, .int .i64 16, .int .i64 0] 23)
  have HR : Hid (Rd (w.alloc (.cells #[.int .i64 2, .int .i64 0, .int .i64 1, .int .i64 5, .int .i64 5, .int .i64 1, .int .i64 3, .int .i64 1, .int .i64 16, .int .i64 0] 23)) (w.alloc (.cells #[.int .i64 2, .int .i64 0, .int .i64 1, .int .i64 5, .int .i64 5, .int .i64 1, .int .i64 3, .int .i64 1, .int .i64 16, .int .i64 0] 23)).heap.size (some ⟨w.heap.size, 0, none⟩) ([(2, 0), (1, 5), (5, 1), (3, 1), (16, 0)].flatMap iC)) := Lib.hid (rd_lit w 23 [.int .i64 2, .int .i64 0, .int .i64 1, .int .i64 5, .int .i64 5, .int .i64 1, .int .i64 3, .int .i64 1, .int .i64 16, .int .i64 0])
  clear hG HI0
  go_enter Tryd.func10, Tryd.ntmps10
  go_wp2_with fail
  refine (check_any [(2, 0), (1, 5), (5, 1), (3, 1), (16, 0)] _ 5 (2) 0 (by decide) _ HR.out).mono ?_
  rintro e u0 ⟨rfl, b⟩
  rw [wch0.1, wch0.2]
  try unfold iV
  replace HI := FInv.call HI b
  replace HR := Lib.hid (rd_call HR.out b)
  clear b
  go_wp2_with fail
  refine (check_any [(2, 0), (1, 5), (5, 1), (3, 1), (16, 0)] _ 5 (1) 0 (by decide) _ HR.out).mono ?_
  rintro e u1 ⟨rfl, b⟩
  rw [wch1.1, wch1.2]
  try unfold iV
  replace HI := FInv.call HI b
  clear b
  clear HR
  replace HI := FInv.alloc HI (.cells #[.int .i64 6, .int .i64 1] 23)
  go_wp2_with fail
  refine (check_any [(6, 1)] _ 1 (0) 0 (by decide) _ (rd_lit u1 23 [.int .i64 6, .int .i64 1])).mono ?_
  rintro e u2 ⟨rfl, b⟩
  rw [wch2.1, wch2.2]
  try unfold iV
  replace HI := FInv.call HI b
  clear b
  replace HI := FInv.alloc HI (.cells #[.int .i64 6, .int .i64 0] 23)
  go_wp2_with fail
  refine (check_any [(6, 0)] _ 1 (0) 0 (by decide) _ (rd_lit u2 23 [.int .i64 6, .int .i64 0])).mono ?_
  rintro e u3 ⟨rfl, b⟩
  rw [wch3.1, wch3.2]
  try unfold iV
  replace HI := FInv.call HI b
  clear b
  replace HI := FInv.alloc HI (.cells #[.int .i64 5, .int .i64 12] 23)
  go_wp2_with fail
  refine (check_any [(5, 12)] _ 1 (0) 0 (by decide) _ (rd_lit u3 23 [.int .i64 5, .int .i64 12])).mono ?_
  rintro e u4 ⟨rfl, b⟩
  rw [wch4.1, wch4.2]
  try unfold iV
  replace HI := FInv.call HI b
  clear b
  go_wp2_with fail
  refine (check_any [] _ 0 (-1) 0 (by decide) _ (Rd.nil _ _ _)).mono ?_
  rintro e u5 ⟨rfl, b⟩
  rw [wch5.1, wch5.2]
  try unfold iV
  replace HI := FInv.call HI b
  clear b
  go_wp2_with fail
  refine (text_any 1 (-5) (by decide) (by decide) _ (FInv.good HI)).mono ?_
  rintro e u6 ⟨rfl, b⟩
  rw [wtx0.1, wtx0.2]
  try unfold iV
  replace HI := FInv.call HI b
  clear b
  go_wp2_with fail
  refine (text_any 15 1 (by decide) (by decide) _ (FInv.good HI)).mono ?_
  rintro e u7 ⟨rfl, b⟩
  rw [wtx1.1, wtx1.2]
  try unfold iV
  replace HI := FInv.call HI b
  clear b
  go_wp2_with fail
  refine (parse_any [76, 111, 97, 100, 32, 51] (by decide) _ (FInv.good HI)).mono ?_
  rintro e u8 ⟨rfl, b⟩
  rw [wpr0.1, wpr0.2.1, wpr0.2.2]
  try unfold iV
  replace HI := FInv.call HI b
  clear b
  have HP : Hid (Blk (u8.alloc (.cells #[.int .i64 2, .int .i64 3] 23)) u8.heap.size 23 #[.int .i64 2, .int .i64 3]) := Lib.hid (Blk.new _ _ _)
  replace HI := FInv.alloc HI (.cells #[.int .i64 2, .int .i64 3] 23)
  go_wp2_with fail
  refine (parse_any [76, 111, 97, 100, 32, 48, 51] (by decide) _ (FInv.good HI)).mono ?_
  rintro e u9 ⟨rfl, b⟩
  rw [wpr1.1, wpr1.2.1, wpr1.2.2]
  try unfold iV
  replace HI := FInv.call HI b
  replace HP := Lib.hid (HP.out.call b)
  clear b
  replace HP := Lib.hid (HP.out.alloc (.cells #[.int .i64 0, .int .i64 0] 23))
  replace HI := FInv.alloc HI (.cells #[.int .i64 0, .int .i64 0] 23)
  go_wp2_with fail
  refine (effect_any 10 0 _).mono ?_
  rintro e u10 ⟨rfl, b⟩
  rw [wef0.1, wef0.2.1, wef0.2.2]
  try unfold iV
  replace HI := FInv.call HI b
  replace HP := Lib.hid (HP.out.call b)
  clear b
  go_wp2_with fail
  refine (effect_any 14 0 _).mono ?_
  rintro e u11 ⟨rfl, b⟩
  rw [wef1.1, wef1.2.1, wef1.2.2]
  try unfold iV
  replace HI := FInv.call HI b
  replace HP := Lib.hid (HP.out.call b)
  clear b
  go_wp2_with fail
  refine (targets_any 7 7 3 _).mono ?_
  rintro e u12 ⟨A, cap, rfl, _, _, hRd, b⟩
  rw [wtg.1] at hRd ⊢
  rw [wtg.2]
  replace HI := FInv.call HI b
  replace HP := Lib.hid (HP.out.call b)
  have HT := Lib.hid hRd
  clear b hRd
  have c0 := HP.out.cell 0
  have c1 := HP.out.cell 1
  go_wp2_with fail
  refine (eq_ints [4, 7] [4, 7] A cap _ 2 _ (rd_alloc HT.out (.cells #[.int .i64 4, .int .i64 7] 3)) (rd_lit u12 3 (intsV [4, 7])) (by decide) (by decide)).mono ?_
  rintro e u13 ⟨rfl, b⟩
  replace HI := FInv.call (FInv.alloc HI (.cells #[.int .i64 4, .int .i64 7] 3)) b
  clear b c0 c1 HP HT
  rw [show (([4, 7] : List Int) == [4, 7]) = true from rfl]
  go_wp2_with fail
  go_ret
  exact ⟨rfl, HI.out.2⟩
end Go.Proofs.YtmmehfkiceelkaaDoor

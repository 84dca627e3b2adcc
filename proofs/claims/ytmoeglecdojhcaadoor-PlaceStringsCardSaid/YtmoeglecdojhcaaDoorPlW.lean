/-
  LAYER 1, THE LAWS' HELPERS: examples of the chapter.
-/
import Derived.Test.YtmoeglecdojhcaaDoorPl5
import Derived.Test.YtmoeglecdojhcaaDoorPl9
namespace Go.Proofs.YtmoeglecdojhcaaDoor
open Go.ChangeShapes Go.WideShapes Go.ChangeAt Go.RowKit

theorem wof0 : ofL [97, 98, 10, 10, 99] 0 = 1 ∧ ofC [97, 98, 10, 10, 99] 0 = 1 ∧ ofE [97, 98, 10, 10, 99] 0 = 0 := by decide +kernel
theorem wos0 : ofsV [97, 98, 10, 10, 99] 1 1 = 0 ∧ ofsE [97, 98, 10, 10, 99] 1 1 = 0 := by decide +kernel
theorem wof1 : ofL [97, 98, 10, 10, 99] 1 = 1 ∧ ofC [97, 98, 10, 10, 99] 1 = 2 ∧ ofE [97, 98, 10, 10, 99] 1 = 0 := by decide +kernel
theorem wos1 : ofsV [97, 98, 10, 10, 99] 1 2 = 1 ∧ ofsE [97, 98, 10, 10, 99] 1 2 = 0 := by decide +kernel
theorem wof2 : ofL [97, 98, 10, 10, 99] 2 = 1 ∧ ofC [97, 98, 10, 10, 99] 2 = 3 ∧ ofE [97, 98, 10, 10, 99] 2 = 0 := by decide +kernel
theorem wos2 : ofsV [97, 98, 10, 10, 99] 1 3 = 2 ∧ ofsE [97, 98, 10, 10, 99] 1 3 = 0 := by decide +kernel
theorem wof3 : ofL [97, 98, 10, 10, 99] 3 = 2 ∧ ofC [97, 98, 10, 10, 99] 3 = 1 ∧ ofE [97, 98, 10, 10, 99] 3 = 0 := by decide +kernel
theorem wos3 : ofsV [97, 98, 10, 10, 99] 2 1 = 3 ∧ ofsE [97, 98, 10, 10, 99] 2 1 = 0 := by decide +kernel
theorem wof4 : ofL [97, 98, 10, 10, 99] 4 = 3 ∧ ofC [97, 98, 10, 10, 99] 4 = 1 ∧ ofE [97, 98, 10, 10, 99] 4 = 0 := by decide +kernel
theorem wos4 : ofsV [97, 98, 10, 10, 99] 3 1 = 4 ∧ ofsE [97, 98, 10, 10, 99] 3 1 = 0 := by decide +kernel
theorem wof5 : ofL [97, 98, 10, 10, 99] 5 = 3 ∧ ofC [97, 98, 10, 10, 99] 5 = 2 ∧ ofE [97, 98, 10, 10, 99] 5 = 0 := by decide +kernel
theorem wos5 : ofsV [97, 98, 10, 10, 99] 3 2 = 5 ∧ ofsE [97, 98, 10, 10, 99] 3 2 = 0 := by decide +kernel
theorem wof6 : ofL [97, 98, 10, 10, 99] 6 = 0 ∧ ofC [97, 98, 10, 10, 99] 6 = 0 ∧ ofE [97, 98, 10, 10, 99] 6 = 3 := by decide +kernel
theorem wos6 : ofsV [97, 98, 10, 10, 99] 1 4 = 0 ∧ ofsE [97, 98, 10, 10, 99] 1 4 = 3 := by decide +kernel
theorem wli3 : liS [97, 98, 10, 10, 99] 3 = [99] ∧ liE [97, 98, 10, 10, 99] 3 = 0 := by decide +kernel
theorem wli4 : liS [97, 98, 10, 10, 99] 4 = [] ∧ liE [97, 98, 10, 10, 99] 4 = 3 := by decide +kernel
theorem wof7 : ofL [] 0 = 1 ∧ ofC [] 0 = 1 ∧ ofE [] 0 = 0 := by decide +kernel
theorem wtx1 : txS 3 2 = [51, 58, 50] ∧ txE 3 2 = 0 := by decide +kernel
theorem wtx2 : txS 0 1 = [] ∧ txE 0 1 = 2 := by decide +kernel
theorem wpr1 : prL [51, 58, 48, 50] = 0 ∧ prC [51, 58, 48, 50] = 0 ∧ prE [51, 58, 48, 50] = 7 := by decide +kernel
theorem wpr2 : prL [51] = 0 ∧ prC [51] = 0 ∧ prE [51] = 7 := by decide +kernel

set_option maxHeartbeats 8000000 in
set_option maxRecDepth 100000 in
/-- rewindlaw01.works. -/
theorem works_any (w : World) (hG : Good w) : Calls Tryd.prog 11 #[] w fun e w' => e = .returned (.bool true) ∧ Below w.heap.size w w' := by
  have HI0 : Hid (FInv w w) := Lib.hid ⟨hG, Below.refl _ _⟩
  have HI := FInv.alloc HI0 (.cells #[.int .i64 1, .int .i64 1, .int .i64 1, .int .i64 2, .int .i64 1, .int .i64 3, .int .i64 2, .int .i64 1, .int .i64 3, .int .i64 1, .int .i64 3, .int .i64 2] 24)
  have HL : Hid (Blk (w.alloc (.cells #[.int .i64 1, .int .i64 1, .int .i64 1, .int .i64 2, .int .i64 1, .int .i64 3, .int .i64 2, .int .i64 1, .int .i64 3, .int .i64 1, .int .i64 3, .int .i64 2] 24)) w.heap.size 24 #[.int .i64 1, .int .i64 1, .int .i64 1, .int .i64 2, .int .i64 1, .int .i64 3, .int .i64 2, .int .i64 1, .int .i64 3, .int .i64 1, .int .i64 3, .int .i64 2]) := Lib.hid (Blk.new _ _ _)
  clear hG HI0
  go_enter Tryd.func11, Tryd.ntmps11
  go_wp2_with fail
  go_loopw [33] (fun i wr => ∃ j : Nat, j ≤ 6 ∧ i = .int .i64 j ∧ Hid (FInv w wr) ∧ Hid (Blk wr w.heap.size 24 #[.int .i64 1, .int .i64 1, .int .i64 1, .int .i64 2, .int .i64 1, .int .i64 3, .int .i64 2, .int .i64 1, .int .i64 3, .int .i64 1, .int .i64 3, .int .i64 2])) (fun i _ => 6 - (intOf i).toNat)
  case atStart => exact ⟨0, by omega, rfl, HI, HL⟩
  case round =>
    clear HI HL
    obtain ⟨j, hj, rfl, HI, HL⟩ := hrel
    rcases (show j = 0 ∨ j = 1 ∨ j = 2 ∨ j = 3 ∨ j = 4 ∨ j = 5 ∨ j = 6 by omega) with rfl | rfl | rfl | rfl | rfl | rfl | rfl
    · have c0 := HL.out.cell 0
      have c1 := HL.out.cell 1
      have HW : Hid (Blk (wr.alloc (.cells #[.int .i64 1, .int .i64 1] 24)) wr.heap.size 24 #[.int .i64 1, .int .i64 1]) := Lib.hid (Blk.new _ _ _)
      replace HI := FInv.alloc HI (.cells #[.int .i64 1, .int .i64 1] 24)
      replace HL := Lib.hid (HL.out.alloc (.cells #[.int .i64 1, .int .i64 1] 24))
      go_wp2_with fail
      refine (of_any [97, 98, 10, 10, 99] (by decide) 0 (by decide) (by decide) _).mono ?_
      rintro e v1 ⟨rfl, b⟩
      rw [wof0.1, wof0.2.1, wof0.2.2]
      unfold pV
      clear c0 c1
      replace HI := FInv.alloc (FInv.call HI b) (.cells #[.int .i64 1, .int .i64 1] 24)
      replace HL := Lib.hid ((HL.out.call b).alloc (.cells #[.int .i64 1, .int .i64 1] 24))
      replace HW := Lib.hid ((HW.out.call b).alloc (.cells #[.int .i64 1, .int .i64 1] 24))
      have HV : Hid (Blk (v1.alloc (.cells #[.int .i64 1, .int .i64 1] 24)) v1.heap.size 24 #[.int .i64 1, .int .i64 1]) := Lib.hid (Blk.new _ _ _)
      clear b
      have c0 := HW.out.cell 0
      have c1 := HW.out.cell 1
      go_wp2_with fail
      refine (offset_any [97, 98, 10, 10, 99] (by decide) 1 1 _ (FInv.good HI)).mono ?_
      rintro e v2 ⟨rfl, b⟩
      rw [wos0.1, wos0.2]
      clear c0 c1
      replace HI := FInv.call HI b
      replace HL := Lib.hid (HL.out.call b)
      replace HW := Lib.hid (HW.out.call b)
      replace HV := Lib.hid (HV.out.call b)
      clear b
      have c0 := HW.out.cell 0
      have c1 := HW.out.cell 1
      have c2 := HV.out.cell 0
      have c3 := HV.out.cell 1
      go_wp2_with fail
      go_roundw
      case rel => exact ⟨1, by omega, by first | rfl | trivial, HI, HL⟩
      case measure => simp [intOf]
    · have c0 := HL.out.cell 2
      have c1 := HL.out.cell 3
      have HW : Hid (Blk (wr.alloc (.cells #[.int .i64 1, .int .i64 2] 24)) wr.heap.size 24 #[.int .i64 1, .int .i64 2]) := Lib.hid (Blk.new _ _ _)
      replace HI := FInv.alloc HI (.cells #[.int .i64 1, .int .i64 2] 24)
      replace HL := Lib.hid (HL.out.alloc (.cells #[.int .i64 1, .int .i64 2] 24))
      go_wp2_with fail
      refine (of_any [97, 98, 10, 10, 99] (by decide) 1 (by decide) (by decide) _).mono ?_
      rintro e v1 ⟨rfl, b⟩
      rw [wof1.1, wof1.2.1, wof1.2.2]
      unfold pV
      clear c0 c1
      replace HI := FInv.alloc (FInv.call HI b) (.cells #[.int .i64 1, .int .i64 2] 24)
      replace HL := Lib.hid ((HL.out.call b).alloc (.cells #[.int .i64 1, .int .i64 2] 24))
      replace HW := Lib.hid ((HW.out.call b).alloc (.cells #[.int .i64 1, .int .i64 2] 24))
      have HV : Hid (Blk (v1.alloc (.cells #[.int .i64 1, .int .i64 2] 24)) v1.heap.size 24 #[.int .i64 1, .int .i64 2]) := Lib.hid (Blk.new _ _ _)
      clear b
      have c0 := HW.out.cell 0
      have c1 := HW.out.cell 1
      go_wp2_with fail
      refine (offset_any [97, 98, 10, 10, 99] (by decide) 1 2 _ (FInv.good HI)).mono ?_
      rintro e v2 ⟨rfl, b⟩
      rw [wos1.1, wos1.2]
      clear c0 c1
      replace HI := FInv.call HI b
      replace HL := Lib.hid (HL.out.call b)
      replace HW := Lib.hid (HW.out.call b)
      replace HV := Lib.hid (HV.out.call b)
      clear b
      have c0 := HW.out.cell 0
      have c1 := HW.out.cell 1
      have c2 := HV.out.cell 0
      have c3 := HV.out.cell 1
      go_wp2_with fail
      go_roundw
      case rel => exact ⟨2, by omega, by first | rfl | trivial, HI, HL⟩
      case measure => simp [intOf]
    · have c0 := HL.out.cell 4
      have c1 := HL.out.cell 5
      have HW : Hid (Blk (wr.alloc (.cells #[.int .i64 1, .int .i64 3] 24)) wr.heap.size 24 #[.int .i64 1, .int .i64 3]) := Lib.hid (Blk.new _ _ _)
      replace HI := FInv.alloc HI (.cells #[.int .i64 1, .int .i64 3] 24)
      replace HL := Lib.hid (HL.out.alloc (.cells #[.int .i64 1, .int .i64 3] 24))
      go_wp2_with fail
      refine (of_any [97, 98, 10, 10, 99] (by decide) 2 (by decide) (by decide) _).mono ?_
      rintro e v1 ⟨rfl, b⟩
      rw [wof2.1, wof2.2.1, wof2.2.2]
      unfold pV
      clear c0 c1
      replace HI := FInv.alloc (FInv.call HI b) (.cells #[.int .i64 1, .int .i64 3] 24)
      replace HL := Lib.hid ((HL.out.call b).alloc (.cells #[.int .i64 1, .int .i64 3] 24))
      replace HW := Lib.hid ((HW.out.call b).alloc (.cells #[.int .i64 1, .int .i64 3] 24))
      have HV : Hid (Blk (v1.alloc (.cells #[.int .i64 1, .int .i64 3] 24)) v1.heap.size 24 #[.int .i64 1, .int .i64 3]) := Lib.hid (Blk.new _ _ _)
      clear b
      have c0 := HW.out.cell 0
      have c1 := HW.out.cell 1
      go_wp2_with fail
      refine (offset_any [97, 98, 10, 10, 99] (by decide) 1 3 _ (FInv.good HI)).mono ?_
      rintro e v2 ⟨rfl, b⟩
      rw [wos2.1, wos2.2]
      clear c0 c1
      replace HI := FInv.call HI b
      replace HL := Lib.hid (HL.out.call b)
      replace HW := Lib.hid (HW.out.call b)
      replace HV := Lib.hid (HV.out.call b)
      clear b
      have c0 := HW.out.cell 0
      have c1 := HW.out.cell 1
      have c2 := HV.out.cell 0
      have c3 := HV.out.cell 1
      go_wp2_with fail
      go_roundw
      case rel => exact ⟨3, by omega, by first | rfl | trivial, HI, HL⟩
      case measure => simp [intOf]
    · have c0 := HL.out.cell 6
      have c1 := HL.out.cell 7
      have HW : Hid (Blk (wr.alloc (.cells #[.int .i64 2, .int .i64 1] 24)) wr.heap.size 24 #[.int .i64 2, .int .i64 1]) := Lib.hid (Blk.new _ _ _)
      replace HI := FInv.alloc HI (.cells #[.int .i64 2, .int .i64 1] 24)
      replace HL := Lib.hid (HL.out.alloc (.cells #[.int .i64 2, .int .i64 1] 24))
      go_wp2_with fail
      refine (of_any [97, 98, 10, 10, 99] (by decide) 3 (by decide) (by decide) _).mono ?_
      rintro e v1 ⟨rfl, b⟩
      rw [wof3.1, wof3.2.1, wof3.2.2]
      unfold pV
      clear c0 c1
      replace HI := FInv.alloc (FInv.call HI b) (.cells #[.int .i64 2, .int .i64 1] 24)
      replace HL := Lib.hid ((HL.out.call b).alloc (.cells #[.int .i64 2, .int .i64 1] 24))
      replace HW := Lib.hid ((HW.out.call b).alloc (.cells #[.int .i64 2, .int .i64 1] 24))
      have HV : Hid (Blk (v1.alloc (.cells #[.int .i64 2, .int .i64 1] 24)) v1.heap.size 24 #[.int .i64 2, .int .i64 1]) := Lib.hid (Blk.new _ _ _)
      clear b
      have c0 := HW.out.cell 0
      have c1 := HW.out.cell 1
      go_wp2_with fail
      refine (offset_any [97, 98, 10, 10, 99] (by decide) 2 1 _ (FInv.good HI)).mono ?_
      rintro e v2 ⟨rfl, b⟩
      rw [wos3.1, wos3.2]
      clear c0 c1
      replace HI := FInv.call HI b
      replace HL := Lib.hid (HL.out.call b)
      replace HW := Lib.hid (HW.out.call b)
      replace HV := Lib.hid (HV.out.call b)
      clear b
      have c0 := HW.out.cell 0
      have c1 := HW.out.cell 1
      have c2 := HV.out.cell 0
      have c3 := HV.out.cell 1
      go_wp2_with fail
      go_roundw
      case rel => exact ⟨4, by omega, by first | rfl | trivial, HI, HL⟩
      case measure => simp [intOf]
    · have c0 := HL.out.cell 8
      have c1 := HL.out.cell 9
      have HW : Hid (Blk (wr.alloc (.cells #[.int .i64 3, .int .i64 1] 24)) wr.heap.size 24 #[.int .i64 3, .int .i64 1]) := Lib.hid (Blk.new _ _ _)
      replace HI := FInv.alloc HI (.cells #[.int .i64 3, .int .i64 1] 24)
      replace HL := Lib.hid (HL.out.alloc (.cells #[.int .i64 3, .int .i64 1] 24))
      go_wp2_with fail
      refine (of_any [97, 98, 10, 10, 99] (by decide) 4 (by decide) (by decide) _).mono ?_
      rintro e v1 ⟨rfl, b⟩
      rw [wof4.1, wof4.2.1, wof4.2.2]
      unfold pV
      clear c0 c1
      replace HI := FInv.alloc (FInv.call HI b) (.cells #[.int .i64 3, .int .i64 1] 24)
      replace HL := Lib.hid ((HL.out.call b).alloc (.cells #[.int .i64 3, .int .i64 1] 24))
      replace HW := Lib.hid ((HW.out.call b).alloc (.cells #[.int .i64 3, .int .i64 1] 24))
      have HV : Hid (Blk (v1.alloc (.cells #[.int .i64 3, .int .i64 1] 24)) v1.heap.size 24 #[.int .i64 3, .int .i64 1]) := Lib.hid (Blk.new _ _ _)
      clear b
      have c0 := HW.out.cell 0
      have c1 := HW.out.cell 1
      go_wp2_with fail
      refine (offset_any [97, 98, 10, 10, 99] (by decide) 3 1 _ (FInv.good HI)).mono ?_
      rintro e v2 ⟨rfl, b⟩
      rw [wos4.1, wos4.2]
      clear c0 c1
      replace HI := FInv.call HI b
      replace HL := Lib.hid (HL.out.call b)
      replace HW := Lib.hid (HW.out.call b)
      replace HV := Lib.hid (HV.out.call b)
      clear b
      have c0 := HW.out.cell 0
      have c1 := HW.out.cell 1
      have c2 := HV.out.cell 0
      have c3 := HV.out.cell 1
      go_wp2_with fail
      go_roundw
      case rel => exact ⟨5, by omega, by first | rfl | trivial, HI, HL⟩
      case measure => simp [intOf]
    · have c0 := HL.out.cell 10
      have c1 := HL.out.cell 11
      have HW : Hid (Blk (wr.alloc (.cells #[.int .i64 3, .int .i64 2] 24)) wr.heap.size 24 #[.int .i64 3, .int .i64 2]) := Lib.hid (Blk.new _ _ _)
      replace HI := FInv.alloc HI (.cells #[.int .i64 3, .int .i64 2] 24)
      replace HL := Lib.hid (HL.out.alloc (.cells #[.int .i64 3, .int .i64 2] 24))
      go_wp2_with fail
      refine (of_any [97, 98, 10, 10, 99] (by decide) 5 (by decide) (by decide) _).mono ?_
      rintro e v1 ⟨rfl, b⟩
      rw [wof5.1, wof5.2.1, wof5.2.2]
      unfold pV
      clear c0 c1
      replace HI := FInv.alloc (FInv.call HI b) (.cells #[.int .i64 3, .int .i64 2] 24)
      replace HL := Lib.hid ((HL.out.call b).alloc (.cells #[.int .i64 3, .int .i64 2] 24))
      replace HW := Lib.hid ((HW.out.call b).alloc (.cells #[.int .i64 3, .int .i64 2] 24))
      have HV : Hid (Blk (v1.alloc (.cells #[.int .i64 3, .int .i64 2] 24)) v1.heap.size 24 #[.int .i64 3, .int .i64 2]) := Lib.hid (Blk.new _ _ _)
      clear b
      have c0 := HW.out.cell 0
      have c1 := HW.out.cell 1
      go_wp2_with fail
      refine (offset_any [97, 98, 10, 10, 99] (by decide) 3 2 _ (FInv.good HI)).mono ?_
      rintro e v2 ⟨rfl, b⟩
      rw [wos5.1, wos5.2]
      clear c0 c1
      replace HI := FInv.call HI b
      replace HL := Lib.hid (HL.out.call b)
      replace HW := Lib.hid (HW.out.call b)
      replace HV := Lib.hid (HV.out.call b)
      clear b
      have c0 := HW.out.cell 0
      have c1 := HW.out.cell 1
      have c2 := HV.out.cell 0
      have c3 := HV.out.cell 1
      go_wp2_with fail
      go_roundw
      case rel => exact ⟨6, by omega, by first | rfl | trivial, HI, HL⟩
      case measure => simp [intOf]
    · clear HL
      go_wp2_with fail
      refine (of_any [97, 98, 10, 10, 99] (by decide) 6 (by decide) (by decide) _).mono ?_
      rintro e u1 ⟨rfl, b⟩
      rw [wof6.1, wof6.2.1, wof6.2.2]
      try unfold pV
      replace HI := FInv.call HI b
      clear b
      replace HI := FInv.alloc HI (.cells #[.int .i64 0, .int .i64 0] 24)
      go_wp2_with fail
      refine (offset_any [97, 98, 10, 10, 99] (by decide) 1 4 _ (FInv.good HI)).mono ?_
      rintro e u2 ⟨rfl, b⟩
      rw [wos6.1, wos6.2]
      try unfold pV
      replace HI := FInv.call HI b
      clear b
      go_wp2_with fail
      refine (line_any [97, 98, 10, 10, 99] (by decide) 3 _ (FInv.good HI)).mono ?_
      rintro e u3 ⟨rfl, b⟩
      rw [wli3.1, wli3.2]
      try unfold pV
      replace HI := FInv.call HI b
      clear b
      go_wp2_with fail
      refine (line_any [97, 98, 10, 10, 99] (by decide) 4 _ (FInv.good HI)).mono ?_
      rintro e u4 ⟨rfl, b⟩
      rw [wli4.1, wli4.2]
      try unfold pV
      replace HI := FInv.call HI b
      clear b
      go_wp2_with fail
      refine (of_any [] (by decide) 0 (by decide) (by decide) _).mono ?_
      rintro e u5 ⟨rfl, b⟩
      rw [wof7.1, wof7.2.1, wof7.2.2]
      try unfold pV
      replace HI := FInv.call HI b
      clear b
      have HP : Hid (Blk (u5.alloc (.cells #[.int .i64 1, .int .i64 1] 24)) u5.heap.size 24 #[.int .i64 1, .int .i64 1]) := Lib.hid (Blk.new _ _ _)
      replace HI := FInv.alloc HI (.cells #[.int .i64 1, .int .i64 1] 24)
      go_wp2_with fail
      refine (text_any 3 2 (by decide) (by decide) (by decide) (by decide) _ (FInv.good HI)).mono ?_
      rintro e u6 ⟨rfl, b⟩
      rw [wtx1.1, wtx1.2]
      try unfold pV
      replace HI := FInv.call HI b
      replace HP := Lib.hid (HP.out.call b)
      clear b
      go_wp2_with fail
      refine (text_any 0 1 (by decide) (by decide) (by decide) (by decide) _ (FInv.good HI)).mono ?_
      rintro e u7 ⟨rfl, b⟩
      rw [wtx2.1, wtx2.2]
      try unfold pV
      replace HI := FInv.call HI b
      replace HP := Lib.hid (HP.out.call b)
      clear b
      go_wp2_with fail
      refine (pparse_any [51, 58, 48, 50] (by decide) _ (FInv.good HI)).mono ?_
      rintro e u8 ⟨rfl, b⟩
      rw [wpr1.1, wpr1.2.1, wpr1.2.2]
      try unfold pV
      replace HI := FInv.call HI b
      replace HP := Lib.hid (HP.out.call b)
      clear b
      replace HI := FInv.alloc HI (.cells #[.int .i64 0, .int .i64 0] 24)
      replace HP := Lib.hid (HP.out.alloc (.cells #[.int .i64 0, .int .i64 0] 24))
      go_wp2_with fail
      refine (pparse_any [51] (by decide) _ (FInv.good HI)).mono ?_
      rintro e u9 ⟨rfl, b⟩
      rw [wpr2.1, wpr2.2.1, wpr2.2.2]
      try unfold pV
      replace HI := FInv.call HI b
      replace HP := Lib.hid (HP.out.call b)
      clear b
      replace HI := FInv.alloc HI (.cells #[.int .i64 0, .int .i64 0] 24)
      replace HP := Lib.hid (HP.out.alloc (.cells #[.int .i64 0, .int .i64 0] 24))
      go_wp2_with fail
      refine (count_any [97, 98, 10, 10, 99] (by decide) _).mono ?_
      rintro e u10 ⟨rfl, b⟩
      try unfold pV
      replace HI := FInv.call HI b
      replace HP := Lib.hid (HP.out.call b)
      clear b
      go_wp2_with fail
      refine (count_any [] (by decide) _).mono ?_
      rintro e u11 ⟨rfl, b⟩
      try unfold pV
      replace HI := FInv.call HI b
      replace HP := Lib.hid (HP.out.call b)
      clear b
      have c0 := HP.out.cell 0
      have c1 := HP.out.cell 1
      go_wp2_with fail
      go_ret
      exact ⟨rfl, HI.out.2⟩
end Go.Proofs.YtmoeglecdojhcaaDoor

/-
  LAYER 4, THE LAWS' HELPERS: examples of the chapter.
-/
import Derived.Test.YtkjpnciimabclaaDoorLexL1
namespace Go.Proofs.YtkjpnciimabclaaDoor
open Go.ChangeShapes Go.WideShapes Go.ChangeAt Go.RowKit

theorem works0 : hasB [120, 60, 61, 49, 48, 59] [⟨1, [120], 0⟩, ⟨4, [60, 61], 1⟩, ⟨2, [49, 48], 3⟩, ⟨4, [59], 5⟩] = true := by decide +kernel
theorem works1 : hasB [102, 117, 110, 99, 32, 47, 47, 32, 97, 10, 97, 47, 98] [⟨3, [102, 117, 110, 99], 0⟩, ⟨1, [97], 10⟩, ⟨4, [47], 11⟩, ⟨1, [98], 12⟩] = true := by decide +kernel
theorem works2 : hasB [57, 50, 50, 51, 51, 55, 50, 48, 51, 54, 56, 53, 52, 55, 55, 53, 56, 48, 55] [⟨2, [57, 50, 50, 51, 51, 55, 50, 48, 51, 54, 56, 53, 52, 55, 55, 53, 56, 48, 55], 0⟩] = true := by decide +kernel
theorem works3 : hasB [] [] = true := by decide +kernel
theorem works4 : wrongB [49, 50, 97] 0 = true := by decide +kernel
theorem works5 : wrongB [48, 49] 0 = true := by decide +kernel
theorem works6 : wrongB [97, 32, 57, 50, 50, 51, 51, 55, 50, 48, 51, 54, 56, 53, 52, 55, 55, 53, 56, 48, 56] 2 = true := by decide +kernel
theorem works7 : wrongB [97, 32, 36] 2 = true := by decide +kernel
theorem works8 : wrongB [97, 32, 38, 32, 98] 2 = true := by decide +kernel
theorem works9 : wrongB [97, 98, 99, 100, 101, 102, 103, 104, 105, 106, 107, 108, 109, 110, 111, 112, 113] 0 = true := by decide +kernel
theorem works10 : decide ([119, 104, 105, 108, 101] ∈ Lex.keywords) = true := by decide +kernel
theorem works11 : decide ([87, 104, 105, 108, 101] ∈ Lex.keywords) = false := by decide +kernel

/-- rewindlaw04.works. -/
theorem works_any (w : World) (hG : Good w) : Calls Tryd.prog 9 #[] w fun e w' => e = .returned (.bool true) ∧ Below w.heap.size w w' := by
  have HI : Hid (FInv w w) := Lib.hid ⟨hG, Below.refl _ _⟩
  clear hG
  go_enter Tryd.func9, Tryd.ntmps9
  go_wp2_with fail
  have HI := FInv.alloc HI (.cells (List.toArray (α := Value) [.int .i64 1, .string ⟨#[120]⟩, .int .i64 0, .int .i64 4, .string ⟨#[60, 61]⟩, .int .i64 1, .int .i64 2, .string ⟨#[49, 48]⟩, .int .i64 3, .int .i64 4, .string ⟨#[59]⟩, .int .i64 5]) 32)
  refine (has_any [120, 60, 61, 49, 48, 59] (by decide) _ _ [⟨1, [120], 0⟩, ⟨4, [60, 61], 1⟩, ⟨2, [49, 48], 3⟩, ⟨4, [59], 5⟩] _ (rd_lit _ 32 [.int .i64 1, .string ⟨#[120]⟩, .int .i64 0, .int .i64 4, .string ⟨#[60, 61]⟩, .int .i64 1, .int .i64 2, .string ⟨#[49, 48]⟩, .int .i64 3, .int .i64 4, .string ⟨#[59]⟩, .int .i64 5]) (FInv.good HI)).mono ?_
  rintro e v0 ⟨rfl, b⟩
  rw [works0]
  have HI := FInv.call HI b
  clear b
  go_wp2_with fail
  have HI := FInv.alloc HI (.cells (List.toArray (α := Value) [.int .i64 3, .string ⟨#[102, 117, 110, 99]⟩, .int .i64 0, .int .i64 1, .string ⟨#[97]⟩, .int .i64 10, .int .i64 4, .string ⟨#[47]⟩, .int .i64 11, .int .i64 1, .string ⟨#[98]⟩, .int .i64 12]) 32)
  refine (has_any [102, 117, 110, 99, 32, 47, 47, 32, 97, 10, 97, 47, 98] (by decide) _ _ [⟨3, [102, 117, 110, 99], 0⟩, ⟨1, [97], 10⟩, ⟨4, [47], 11⟩, ⟨1, [98], 12⟩] _ (rd_lit _ 32 [.int .i64 3, .string ⟨#[102, 117, 110, 99]⟩, .int .i64 0, .int .i64 1, .string ⟨#[97]⟩, .int .i64 10, .int .i64 4, .string ⟨#[47]⟩, .int .i64 11, .int .i64 1, .string ⟨#[98]⟩, .int .i64 12]) (FInv.good HI)).mono ?_
  rintro e v1 ⟨rfl, b⟩
  rw [works1]
  have HI := FInv.call HI b
  clear b
  go_wp2_with fail
  have HI := FInv.alloc HI (.cells (List.toArray (α := Value) [.int .i64 2, .string ⟨#[57, 50, 50, 51, 51, 55, 50, 48, 51, 54, 56, 53, 52, 55, 55, 53, 56, 48, 55]⟩, .int .i64 0]) 32)
  refine (has_any [57, 50, 50, 51, 51, 55, 50, 48, 51, 54, 56, 53, 52, 55, 55, 53, 56, 48, 55] (by decide) _ _ [⟨2, [57, 50, 50, 51, 51, 55, 50, 48, 51, 54, 56, 53, 52, 55, 55, 53, 56, 48, 55], 0⟩] _ (rd_lit _ 32 [.int .i64 2, .string ⟨#[57, 50, 50, 51, 51, 55, 50, 48, 51, 54, 56, 53, 52, 55, 55, 53, 56, 48, 55]⟩, .int .i64 0]) (FInv.good HI)).mono ?_
  rintro e v2 ⟨rfl, b⟩
  rw [works2]
  have HI := FInv.call HI b
  clear b
  go_wp2_with fail
  refine (has_any [] (by decide) none 0 [] _ (Rd.nil _ _ _) (FInv.good HI)).mono ?_
  rintro e v3 ⟨rfl, b⟩
  rw [works3]
  have HI := FInv.call HI b
  clear b
  go_wp2_with fail
  refine (wrong_any [49, 50, 97] 0 (by decide) _ (FInv.good HI)).mono ?_
  rintro e v4 ⟨rfl, b⟩
  rw [works4]
  have HI := FInv.call HI b
  clear b
  go_wp2_with fail
  refine (wrong_any [48, 49] 0 (by decide) _ (FInv.good HI)).mono ?_
  rintro e v5 ⟨rfl, b⟩
  rw [works5]
  have HI := FInv.call HI b
  clear b
  go_wp2_with fail
  refine (wrong_any [97, 32, 57, 50, 50, 51, 51, 55, 50, 48, 51, 54, 56, 53, 52, 55, 55, 53, 56, 48, 56] 2 (by decide) _ (FInv.good HI)).mono ?_
  rintro e v6 ⟨rfl, b⟩
  rw [works6]
  have HI := FInv.call HI b
  clear b
  go_wp2_with fail
  refine (wrong_any [97, 32, 36] 2 (by decide) _ (FInv.good HI)).mono ?_
  rintro e v7 ⟨rfl, b⟩
  rw [works7]
  have HI := FInv.call HI b
  clear b
  go_wp2_with fail
  refine (wrong_any [97, 32, 38, 32, 98] 2 (by decide) _ (FInv.good HI)).mono ?_
  rintro e v8 ⟨rfl, b⟩
  rw [works8]
  have HI := FInv.call HI b
  clear b
  go_wp2_with fail
  refine (wrong_any [97, 98, 99, 100, 101, 102, 103, 104, 105, 106, 107, 108, 109, 110, 111, 112, 113] 0 (by decide) _ (FInv.good HI)).mono ?_
  rintro e v9 ⟨rfl, b⟩
  rw [works9]
  have HI := FInv.call HI b
  clear b
  go_wp2_with fail
  refine (reserved_any [119, 104, 105, 108, 101] _ (FInv.good HI)).mono ?_
  rintro e v10 ⟨rfl, rfl⟩
  rw [works10]
  go_wp2_with fail
  refine (reserved_any [87, 104, 105, 108, 101] _ (FInv.good HI)).mono ?_
  rintro e v11 ⟨rfl, rfl⟩
  rw [works11]
  go_wp2_with fail
  go_ret
  exact ⟨rfl, HI.out.2⟩
end Go.Proofs.YtkjpnciimabclaaDoor


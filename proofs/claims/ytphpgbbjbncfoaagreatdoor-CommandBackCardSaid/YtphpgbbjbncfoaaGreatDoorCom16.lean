/-
  LAYER 42, THE LAWS' HELPERS: examples of the chapter.
-/
import Derived.Test.YtphpgbbjbncfoaaGreatDoorComX
import Derived.Test.YtphpgbbjbncfoaaGreatDoorCom14
import Derived.Test.YtphpgbbjbncfoaaGreatDoorCom15
namespace Go.Proofs.YtphpgbbjbncfoaaGreatDoor
open Go.ChangeShapes Go.WideShapes Go.ChangeAt Go.RowKit

set_option maxHeartbeats 8000000 in
set_option maxRecDepth 100000 in
/-- rewindlaw42.works. -/
theorem works_any (w : World) (hG : Good w) : Calls Tryz.prog 17 #[] w fun e w' => e = .returned (.bool true) ∧ Below w.heap.size w w' := by
  have HI : Hid (FInv w w) := Lib.hid ⟨hG, Below.refl _ _⟩
  clear hG
  go_enter Tryz.func17, Tryz.ntmps17
  go_wp2_with fail
  refine (print_any ⟨1, 0, [], [49, 44, 45, 50]⟩ (by decide) (by decide) (by decide) _ (FInv.good HI)).mono ?_
  rintro e v0 ⟨rfl, b⟩
  rw [works0.1, works0.2]
  have HI := FInv.call HI b
  clear b
  go_wp2_with fail
  refine (print_any ⟨7, 3, [102], []⟩ (by decide) (by decide) (by decide) _ (FInv.good HI)).mono ?_
  rintro e v1 ⟨rfl, b⟩
  rw [works1.1, works1.2]
  have HI := FInv.call HI b
  clear b
  go_wp2_with fail
  refine (print_any ⟨2, 0, [], [97, 10, 98]⟩ (by decide) (by decide) (by decide) _ (FInv.good HI)).mono ?_
  rintro e v2 ⟨rfl, b⟩
  rw [works2.1, works2.2]
  have HI := FInv.call HI b
  clear b
  go_wp2_with fail
  refine (parse_any [108, 111, 97, 100, 32, 97, 92, 110, 98] (by decide) _ (FInv.good HI)).mono ?_
  rintro e v3 ⟨rfl, b⟩
  rw [works3.1, works3.2]
  unfold cV
  have HI := FInv.call HI b
  clear b
  have HB3 : Hid (Blk (v3.alloc (.cells #[.int .i64 2, .int .i64 0, .string ⟨#[]⟩, .string ⟨#[97, 10, 98]⟩] 24)) v3.heap.size 24 #[.int .i64 2, .int .i64 0, .string ⟨#[]⟩, .string ⟨#[97, 10, 98]⟩]) := Lib.hid (Blk.new _ _ _)
  have HI := FInv.alloc HI (.cells #[.int .i64 2, .int .i64 0, .string ⟨#[]⟩, .string ⟨#[97, 10, 98]⟩] 24)
  go_wp2_with fail
  refine (parse_any [103, 111, 116, 111, 32, 49, 55] (by decide) _ (FInv.good HI)).mono ?_
  rintro e v4 ⟨rfl, b⟩
  rw [works4.1, works4.2]
  unfold cV
  have HI := FInv.call HI b
  have HB3 := Lib.hid (HB3.out.call b)
  clear b
  have HB3 := Lib.hid (HB3.out.alloc (.cells #[.int .i64 10, .int .i64 17, .string ⟨#[]⟩, .string ⟨#[]⟩] 24))
  have HB4 : Hid (Blk (v4.alloc (.cells #[.int .i64 10, .int .i64 17, .string ⟨#[]⟩, .string ⟨#[]⟩] 24)) v4.heap.size 24 #[.int .i64 10, .int .i64 17, .string ⟨#[]⟩, .string ⟨#[]⟩]) := Lib.hid (Blk.new _ _ _)
  have HI := FInv.alloc HI (.cells #[.int .i64 10, .int .i64 17, .string ⟨#[]⟩, .string ⟨#[]⟩] 24)
  go_wp2_with fail
  refine (parse_any [103, 111, 116, 111, 32, 48, 49, 55] (by decide) _ (FInv.good HI)).mono ?_
  rintro e v5 ⟨rfl, b⟩
  rw [works5.1, works5.2]
  unfold cV
  have HI := FInv.call HI b
  have HB3 := Lib.hid (HB3.out.call b)
  have HB4 := Lib.hid (HB4.out.call b)
  clear b
  have HB3 := Lib.hid (HB3.out.alloc (.cells #[.int .i64 0, .int .i64 0, .string ⟨#[]⟩, .string ⟨#[]⟩] 24))
  have HB4 := Lib.hid (HB4.out.alloc (.cells #[.int .i64 0, .int .i64 0, .string ⟨#[]⟩, .string ⟨#[]⟩] 24))
  have HI := FInv.alloc HI (.cells #[.int .i64 0, .int .i64 0, .string ⟨#[]⟩, .string ⟨#[]⟩] 24)
  go_wp2_with fail
  refine (parse_any [115, 116, 101, 112, 32] (by decide) _ (FInv.good HI)).mono ?_
  rintro e v6 ⟨rfl, b⟩
  rw [works6.1, works6.2]
  unfold cV
  have HI := FInv.call HI b
  have HB3 := Lib.hid (HB3.out.call b)
  have HB4 := Lib.hid (HB4.out.call b)
  clear b
  have HB3 := Lib.hid (HB3.out.alloc (.cells #[.int .i64 0, .int .i64 0, .string ⟨#[]⟩, .string ⟨#[]⟩] 24))
  have HB4 := Lib.hid (HB4.out.alloc (.cells #[.int .i64 0, .int .i64 0, .string ⟨#[]⟩, .string ⟨#[]⟩] 24))
  have HI := FInv.alloc HI (.cells #[.int .i64 0, .int .i64 0, .string ⟨#[]⟩, .string ⟨#[]⟩] 24)
  go_wp2_with fail
  refine (parse_any [98, 114, 101, 97, 107, 32, 108, 101, 110, 32, 49] (by decide) _ (FInv.good HI)).mono ?_
  rintro e v7 ⟨rfl, b⟩
  rw [works7.1, works7.2]
  unfold cV
  have HI := FInv.call HI b
  have HB3 := Lib.hid (HB3.out.call b)
  have HB4 := Lib.hid (HB4.out.call b)
  clear b
  have HB3 := Lib.hid (HB3.out.alloc (.cells #[.int .i64 0, .int .i64 0, .string ⟨#[]⟩, .string ⟨#[]⟩] 24))
  have HB4 := Lib.hid (HB4.out.alloc (.cells #[.int .i64 0, .int .i64 0, .string ⟨#[]⟩, .string ⟨#[]⟩] 24))
  have HI := FInv.alloc HI (.cells #[.int .i64 0, .int .i64 0, .string ⟨#[]⟩, .string ⟨#[]⟩] 24)
  go_wp2_with fail
  refine (unquote_any [92, 120, 52, 49] (by decide) _ (FInv.good HI)).mono ?_
  rintro e v8 ⟨rfl, b⟩
  rw [works8.1, works8.2]
  have HI := FInv.call HI b
  have HB3 := Lib.hid (HB3.out.call b)
  have HB4 := Lib.hid (HB4.out.call b)
  clear b
  go_wp2_with fail
  refine (parseAll_any [35, 32, 97, 10, 115, 116, 101, 112, 10, 10, 98, 97, 99, 107, 10] (by decide) _ (FInv.good HI)).mono ?_
  rintro e v9 ⟨x9, rfl, o9, b⟩
  rw [works9] at o9 ⊢
  have HI := FInv.call HI b
  have HB3 := Lib.hid (HB3.out.call b)
  have HB4 := Lib.hid (HB4.out.call b)
  obtain ⟨A9, k9, rfl, r9⟩ := own_slice o9
  have R9 := Lib.hid r9
  clear b o9 r9
  go_wp2_with fail
  refine (parseAll_any [115, 116, 101, 112, 10, 115, 116, 101] (by decide) _ (FInv.good HI)).mono ?_
  rintro e v10 ⟨x10, rfl, o10, b⟩
  rw [works10] at o10 ⊢
  have HI := FInv.call HI b
  have HB3 := Lib.hid (HB3.out.call b)
  have HB4 := Lib.hid (HB4.out.call b)
  have R9 := Lib.hid ((R9.out.below b).more b.size)
  clear b o10
  have c30 := HB3.out.cell 0
  have c31 := HB3.out.cell 1
  have c32 := HB3.out.cell 2
  have c33 := HB3.out.cell 3
  have c40 := HB4.out.cell 0
  have c41 := HB4.out.cell 1
  have c42 := HB4.out.cell 2
  have c43 := HB4.out.cell 3
  go_wp2_with fail
  have hs := same_any A9 (some ⟨v10.heap.size, 0, none⟩) k9 2 [⟨3, 0, [], []⟩, ⟨8, 0, [], []⟩] [⟨3, 0, [], []⟩, ⟨8, 0, [], []⟩] (by decide) (v10.alloc (.cells #[.int .i64 3, .int .i64 0, .string ⟨#[]⟩, .string ⟨#[]⟩, .int .i64 8, .int .i64 0, .string ⟨#[]⟩, .string ⟨#[]⟩] 24)) ((R9.out.alloc (Nat.le_refl _) _).more (by simp)) (rd_lit v10 24 [.int .i64 3, .int .i64 0, .string ⟨#[]⟩, .string ⟨#[]⟩, .int .i64 8, .int .i64 0, .string ⟨#[]⟩, .string ⟨#[]⟩])
  rw [decide_eq_true (rfl : ([⟨3, 0, [], []⟩, ⟨8, 0, [], []⟩] : List Cmd.C) = [⟨3, 0, [], []⟩, ⟨8, 0, [], []⟩])] at hs
  have HI := FInv.alloc HI (.cells #[.int .i64 3, .int .i64 0, .string ⟨#[]⟩, .string ⟨#[]⟩, .int .i64 8, .int .i64 0, .string ⟨#[]⟩, .string ⟨#[]⟩] 24)
  refine hs.mono ?_
  rintro e v11 ⟨rfl, b⟩
  have HI := FInv.call HI b
  clear b hs c30 c31 c32 c33 c40 c41 c42 c43 HB3 HB4 R9
  go_wp2_with fail
  refine (quote_any [0, 9, 92, 255] (by decide) _).mono ?_
  rintro e v12 ⟨rfl, b⟩
  rw [works11]
  have HI := FInv.call HI b
  clear b
  go_wp2_with fail
  go_ret
  exact ⟨rfl, HI.out.2⟩

end Go.Proofs.YtphpgbbjbncfoaaGreatDoor

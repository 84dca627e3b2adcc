/-
  LAYER 16: the chapter's examples hold ('works').
-/
import Derived.Test.YtfghigioofaidaaDoorVal5
namespace Go.Proofs.YtfghigioofaidaaDoor
open Go.ChangeShapes Go.WideShapes Go.ChangeAt Go.RowKit

set_option maxHeartbeats 2000000 in
theorem works_any (w : World) (hG : Good w) : Calls Tryd.prog 16 #[] w fun e w' => e = .returned (.bool true) ∧ Below w.heap.size w w' := by
  have K0 := Lib.hid (Below.refl w.heap.size w)
  go_enter Tryd.func16, Tryd.ntmps16
  go_wp2_with fail
  refine (default_any 3 _).mono ?_
  rintro e w1 ⟨rfl, b1⟩
  rw [show Val.ofT 3 0 = 3 by decide, show Val.ofN 3 0 = 0 by decide, show Val.chk 3 0 = 0 by decide]
  have G1 := (hG.call b1).alloc (.cells #[.int .i64 3, .int .i64 0] 23)
  have K1 := Lib.hid (below_new (below_call K0.out b1) (.cells #[.int .i64 3, .int .i64 0] 23))
  have A1 := Lib.hid (Blk.new w1 23 #[.int .i64 3, .int .i64 0])
  clear b1 hG
  go_wp2_with fail
  refine (default_any 0 _).mono ?_
  rintro e w2 ⟨rfl, b2⟩
  rw [show Val.ofT 0 0 = 0 by decide, show Val.ofN 0 0 = 0 by decide, show Val.chk 0 0 = 2 by decide]
  have G2 := (G1.call b2).alloc (.cells #[.int .i64 0, .int .i64 0] 23)
  have K2 := Lib.hid (below_new (below_call K1.out b2) (.cells #[.int .i64 0, .int .i64 0] 23))
  have A2 := Lib.hid (Blk.new w2 23 #[.int .i64 0, .int .i64 0])
  have A1 := Lib.hid ((A1.out.call b2).alloc (.cells #[.int .i64 0, .int .i64 0] 23))
  clear b2 G1
  go_wp2_with fail
  refine (of_any 1 (-5) _).mono ?_
  rintro e w3 ⟨rfl, b3⟩
  rw [show Val.ofT 1 (-5) = 1 by decide, show Val.ofN 1 (-5) = (-5) by decide, show Val.chk 1 (-5) = 0 by decide]
  have G3 := (G2.call b3).alloc (.cells #[.int .i64 1, .int .i64 (-5)] 23)
  have K3 := Lib.hid (below_new (below_call K2.out b3) (.cells #[.int .i64 1, .int .i64 (-5)] 23))
  have A3 := Lib.hid (Blk.new w3 23 #[.int .i64 1, .int .i64 (-5)])
  have A1 := Lib.hid ((A1.out.call b3).alloc (.cells #[.int .i64 1, .int .i64 (-5)] 23))
  have A2 := Lib.hid ((A2.out.call b3).alloc (.cells #[.int .i64 1, .int .i64 (-5)] 23))
  clear b3 G2
  go_wp2_with fail
  refine (of_any 2 2 _).mono ?_
  rintro e w4 ⟨rfl, b4⟩
  rw [show Val.ofT 2 2 = 0 by decide, show Val.ofN 2 2 = 0 by decide, show Val.chk 2 2 = 2 by decide]
  have G4 := (G3.call b4).alloc (.cells #[.int .i64 0, .int .i64 0] 23)
  have K4 := Lib.hid (below_new (below_call K3.out b4) (.cells #[.int .i64 0, .int .i64 0] 23))
  have A4 := Lib.hid (Blk.new w4 23 #[.int .i64 0, .int .i64 0])
  have A1 := Lib.hid ((A1.out.call b4).alloc (.cells #[.int .i64 0, .int .i64 0] 23))
  have A2 := Lib.hid ((A2.out.call b4).alloc (.cells #[.int .i64 0, .int .i64 0] 23))
  have A3 := Lib.hid ((A3.out.call b4).alloc (.cells #[.int .i64 0, .int .i64 0] 23))
  clear b4 G3
  go_wp2_with fail
  refine (text_any 1 (-9223372036854775808) (by decide) (by decide) _ G4).mono ?_
  rintro e w5 ⟨rfl, b5⟩
  rw [show Val.txt 1 (-9223372036854775808) = [45, 57, 50, 50, 51, 51, 55, 50, 48, 51, 54, 56, 53, 52, 55, 55, 53, 56, 48, 56] by decide +kernel, show Val.chk 1 (-9223372036854775808) = 0 by decide]
  have G5 := G4.call b5
  have K5 := Lib.hid (below_call K4.out b5)
  have A1 := Lib.hid (A1.out.call b5)
  have A2 := Lib.hid (A2.out.call b5)
  have A3 := Lib.hid (A3.out.call b5)
  have A4 := Lib.hid (A4.out.call b5)
  clear b5 G4
  go_wp2_with fail
  refine (text_any 2 1 (by decide) (by decide) _ G5).mono ?_
  rintro e w6 ⟨rfl, b6⟩
  rw [show Val.txt 2 1 = [116, 114, 117, 101] by decide +kernel, show Val.chk 2 1 = 0 by decide]
  have G6 := G5.call b6
  have K6 := Lib.hid (below_call K5.out b6)
  have A1 := Lib.hid (A1.out.call b6)
  have A2 := Lib.hid (A2.out.call b6)
  have A3 := Lib.hid (A3.out.call b6)
  have A4 := Lib.hid (A4.out.call b6)
  clear b6 G5
  go_wp2_with fail
  refine (list_any (some ⟨w6.heap.size, 0, none⟩) 3 [(1, 1), (2, 0), (3, 2)] (by decide) (by decide) _ (G6.alloc _) (rd_lit w6 23 [.int .i64 1, .int .i64 1, .int .i64 2, .int .i64 0, .int .i64 3, .int .i64 2])).mono ?_
  rintro e w7 ⟨rfl, b7⟩
  rw [show Val.lst [(1, 1), (2, 0), (3, 2)] = [49, 32, 102, 97, 108, 115, 101, 32, 35, 50] by decide +kernel, show Val.lstE [(1, 1), (2, 0), (3, 2)] = 0 by decide]
  have G7 := (G6.alloc (.cells #[.int .i64 1, .int .i64 1, .int .i64 2, .int .i64 0, .int .i64 3, .int .i64 2] 23)).call b7
  have K7 := Lib.hid (below_call (below_new K6.out (.cells #[.int .i64 1, .int .i64 1, .int .i64 2, .int .i64 0, .int .i64 3, .int .i64 2] 23)) b7)
  have A1 := Lib.hid ((A1.out.alloc (.cells #[.int .i64 1, .int .i64 1, .int .i64 2, .int .i64 0, .int .i64 3, .int .i64 2] 23)).call b7)
  have A2 := Lib.hid ((A2.out.alloc (.cells #[.int .i64 1, .int .i64 1, .int .i64 2, .int .i64 0, .int .i64 3, .int .i64 2] 23)).call b7)
  have A3 := Lib.hid ((A3.out.alloc (.cells #[.int .i64 1, .int .i64 1, .int .i64 2, .int .i64 0, .int .i64 3, .int .i64 2] 23)).call b7)
  have A4 := Lib.hid ((A4.out.alloc (.cells #[.int .i64 1, .int .i64 1, .int .i64 2, .int .i64 0, .int .i64 3, .int .i64 2] 23)).call b7)
  clear b7 G6
  go_wp2_with fail
  refine (list_any none 0 [] (by decide) (by decide) _ G7 (Rd.nil _ _ _)).mono ?_
  rintro e w8 ⟨rfl, b8⟩
  rw [show Val.lst [] = [] by decide +kernel, show Val.lstE [] = 0 by decide]
  have K8 := Lib.hid (below_call K7.out b8)
  have c0 : w8.cell? ⟨w1.heap.size, 0, none⟩ = some (.int .i64 3) := (A1.out.call b8).cell 0
  have c1 : w8.cell? ⟨w1.heap.size, 1, none⟩ = some (.int .i64 0) := (A1.out.call b8).cell 1
  have d0 : w8.cell? ⟨w3.heap.size, 0, none⟩ = some (.int .i64 1) := (A3.out.call b8).cell 0
  have d1 : w8.cell? ⟨w3.heap.size, 1, none⟩ = some (.int .i64 (-5)) := (A3.out.call b8).cell 1
  clear b8 G7
  go_wp2_with fail
  go_ret
  exact ⟨rfl, K8.out⟩
end Go.Proofs.YtfghigioofaidaaDoor

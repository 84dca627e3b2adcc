/-
  LAYER 23: strings of instructions, and instructions of strings: the statement's walk.
-/
import Derived.Test.YtmmehfkiceelkaaDoorCdR3
namespace Go.Proofs.YtmmehfkiceelkaaDoor
open Go.ChangeShapes Go.WideShapes Go.ChangeAt Go.RowKit

set_option maxHeartbeats 4000000 in
set_option maxRecDepth 20000 in
theorem codeTexts_walk (op : Int) (_ : -9223372036854775808 ≤ op) (_ : op ≤ 9223372036854775807) (a : Int) (a0 : -9223372036854775808 ≤ a) (a1 : a ≤ 9223372036854775807) (s : ByteArray) (_ : s.size ≤ maxLen) (w : World) (hG : Good w) :
    Calls Tryd.prog 3 #[.agg #[.int .i64 op, .int .i64 a], .string s] w fun e w' => e = .returned (.bool true) ∧ Below w.heap.size w w' := by
  obtain ⟨s, rfl⟩ : ∃ l : List UInt8, s = ⟨l.toArray⟩ := ⟨s.data.toList, rfl⟩
  have HI0 : Hid (FInv w w) := Lib.hid ⟨hG, Below.refl _ _⟩
  have HI := FInv.alloc HI0 (.cells #[.int .i64 op, .int .i64 a] 23)
  have HX := Lib.hid (Blk.new w 23 #[.int .i64 op, .int .i64 a])
  clear hG HI0
  by_cases hs : 500 < s.length
  · have k1 : (500 : Int) < (s.length : Int) := by omega
    go_enter Tryd.func3, Tryd.ntmps3
    go_wp2_with fail
    refine (works_any _ (FInv.good HI)).mono ?_
    rintro e w2 ⟨rfl, b⟩
    have HI := FInv.call HI b
    clear b
    go_wp2_with fail
    go_ret
    exact ⟨rfl, HI.out.2⟩
  have k1 : ¬ (500 : Int) < (s.length : Int) := by omega
  have HP := Lib.hid fun W hG => parse_any s (by omega) W hG
  have HPr := Lib.hid fun W => rparse_any s (by omega) W
  have HT := Lib.hid fun W hG => text_any op a a0 a1 W hG
  have HTr := Lib.hid fun W => rtext_any op a a0 a1 W
  obtain ⟨q, hq⟩ : ∃ c, prO s = c := ⟨_, rfl⟩
  obtain ⟨x, hx⟩ : ∃ c, prA s = c := ⟨_, rfl⟩
  obtain ⟨E, hE⟩ : ∃ c, prE s = c := ⟨_, rfl⟩
  obtain ⟨TS, hTS⟩ : ∃ c, txS op a = c := ⟨_, rfl⟩
  obtain ⟨TE, hTE⟩ : ∃ c, txE op a = c := ⟨_, rfl⟩
  rw [hq, hx, hE] at HP HPr
  rw [hTS, hTE] at HT HTr
  unfold iV at HP HPr HT HTr
  clear hq hx hE hTS hTE hs a0 a1
  go_enter Tryd.func3, Tryd.ntmps3
  go_wp2_with fail
  refine (HT.out _ (FInv.good HI)).mono ?_
  rintro e w2 ⟨rfl, b⟩
  replace HI := FInv.call HI b
  replace HX := Lib.hid (HX.out.call b)
  have z0 := HX.out.cell 0
  have z1 := HX.out.cell 1
  clear b
  go_wp2_with fail
  clear z0 z1
  refine (HTr.out _).mono ?_
  rintro e w3 ⟨rfl, b⟩
  replace HI := FInv.call HI b
  clear b
  go_wp2_with fail
  refine (HP.out _ (FInv.good HI)).mono ?_
  rintro e w4 ⟨rfl, b⟩
  replace HI := FInv.alloc (FInv.call HI b) (.cells #[.int .i64 q, .int .i64 x] 23)
  have HK := Lib.hid (Blk.new w4 23 #[.int .i64 q, .int .i64 x])
  clear b
  go_wp2_with fail
  refine (HPr.out _).mono ?_
  rintro e w5 ⟨rfl, b⟩
  replace HI := FInv.alloc (FInv.call HI b) (.cells #[.int .i64 q, .int .i64 x] 29)
  have HK := Lib.hid ((HK.out.call b).alloc (.cells #[.int .i64 q, .int .i64 x] 29))
  have HL := Lib.hid (Blk.new w5 29 #[.int .i64 q, .int .i64 x])
  clear b
  have c0 := HK.out.cell 0
  have c1 := HK.out.cell 1
  have d0 := HL.out.cell 0
  have d1 := HL.out.cell 1
  go_wp2_with fail
  clear c0 c1 d0 d1
  refine (works_any _ (FInv.good HI)).mono ?_
  rintro e w8 ⟨rfl, b⟩
  have HI := FInv.call HI b
  clear b
  go_wp2_with fail
  go_ret
  exact ⟨rfl, HI.out.2⟩
end Go.Proofs.YtmmehfkiceelkaaDoor

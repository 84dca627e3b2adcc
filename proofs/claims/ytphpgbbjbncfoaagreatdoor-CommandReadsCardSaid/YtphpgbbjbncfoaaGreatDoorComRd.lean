/-
  LAYER 42: what is read of any text: the statement's walk.
-/
import Derived.Test.YtphpgbbjbncfoaaGreatDoorCom16
import Derived.Test.YtphpgbbjbncfoaaGreatDoorComW1
import Derived.Test.YtphpgbbjbncfoaaGreatDoorRef8
namespace Go.Proofs.YtphpgbbjbncfoaaGreatDoor
open Go.ChangeShapes Go.WideShapes Go.ChangeAt Go.RowKit

set_option maxHeartbeats 4000000 in
set_option maxRecDepth 20000 in
theorem commandReads_walk (s : ByteArray) (_ : s.size ≤ maxLen) (w : World) (hG : Good w) :
    Calls Tryz.prog 5 #[.string s] w fun e w' => e = .returned (.bool true) ∧ Below w.heap.size w w' := by
  obtain ⟨s, rfl⟩ : ∃ l : List UInt8, s = ⟨l.toArray⟩ := ⟨s.data.toList, rfl⟩
  have HI : Hid (FInv w w) := Lib.hid ⟨hG, Below.refl _ _⟩
  clear hG
  by_cases hs : 1000 < s.length
  · have k1 : (1000 : Int) < (s.length : Int) := by omega
    go_enter Tryz.func5, Tryz.ntmps5
    go_wp2_with fail
    refine (works_any _ (FInv.good HI)).mono ?_
    rintro e w2 ⟨rfl, b⟩
    have HI := FInv.call HI b
    clear b
    go_wp2_with fail
    go_ret
    exact ⟨rfl, HI.out.2⟩
  have k1 : ¬ (1000 : Int) < (s.length : Int) := by omega
  have HP : Hid (∀ W, Good W → Calls Tryz.prog 20 #[.string ⟨s.toArray⟩] W fun e w' => e = .returned (.tuple #[cV (parseS s), .int .i64 (parseE s)]) ∧ Below W.heap.size W w') := Lib.hid fun W hG => parse_any s (by omega) W hG
  have HPr : Hid (∀ W, Calls Tryz.prog 21 #[.string ⟨s.toArray⟩] W fun e w' => e = .returned (.tuple #[cV (parseS s), .int .i64 (parseE s)]) ∧ Below W.heap.size W w') := Lib.hid fun W => rcparse_any s (by omega) W
  have HU : Hid (∀ W, Good W → Calls Tryz.prog 22 #[.string ⟨s.toArray⟩] W fun e w' => e = .returned (.tuple #[.string ⟨(unqS s).toArray⟩, .int .i64 (unqE s)]) ∧ Below W.heap.size W w') := Lib.hid fun W hG => unquote_any s (by omega) W hG
  have HUr : Hid (∀ W, Calls Tryz.prog 23 #[.string ⟨s.toArray⟩] W fun e w' => e = .returned (.tuple #[.string ⟨(unqS s).toArray⟩, .int .i64 (unqE s)]) ∧ Below W.heap.size W w') := Lib.hid fun W => runquote_any s (by omega) W
  have HQ : Hid (∀ W, Calls Tryz.prog 24 #[.string ⟨s.toArray⟩] W fun e w' => e = .returned (.string ⟨(Cmd.quote s).toArray⟩) ∧ Below W.heap.size W w') := Lib.hid fun W => quote_any s (by omega) W
  have HQr : Hid (∀ W, Calls Tryz.prog 25 #[.string ⟨s.toArray⟩] W fun e w' => e = .returned (.string ⟨(Cmd.quote s).toArray⟩) ∧ Below W.heap.size W w') := Lib.hid fun W => rquote_any s (by omega) W
  obtain ⟨⟨q, a, n, v⟩, hC⟩ : ∃ c, parseS s = c := ⟨_, rfl⟩
  obtain ⟨E, hE⟩ : ∃ c, parseE s = c := ⟨_, rfl⟩
  obtain ⟨U, hU⟩ : ∃ c, unqS s = c := ⟨_, rfl⟩
  obtain ⟨UE, hUE⟩ : ∃ c, unqE s = c := ⟨_, rfl⟩
  obtain ⟨X, hX⟩ : ∃ c, Cmd.quote s = c := ⟨_, rfl⟩
  rw [hC, hE] at HP HPr
  rw [hU, hUE] at HU HUr
  rw [hX] at HQ HQr
  unfold cV at HP HPr
  clear hC hE hU hUE hX hs
  go_enter Tryz.func5, Tryz.ntmps5
  go_wp2_with fail
  refine (HP.out _ (FInv.good HI)).mono ?_
  rintro e w2 ⟨rfl, b⟩
  have HI := FInv.call HI b
  clear b
  have HI := FInv.alloc HI (.cells #[.int .i64 q, .int .i64 a, .string ⟨n.toArray⟩, .string ⟨v.toArray⟩] 24)
  have HK := Lib.hid (Blk.new w2 24 #[.int .i64 q, .int .i64 a, .string ⟨n.toArray⟩, .string ⟨v.toArray⟩])
  go_wp2_with fail
  refine (HPr.out _).mono ?_
  rintro e w3 ⟨rfl, b⟩
  have HI := FInv.call HI b
  have HK := Lib.hid (HK.out.call b)
  have hne : w2.heap.size ≠ w3.heap.size := by have := b.size; rw [World.size_alloc] at this; omega
  clear b
  have HI := FInv.alloc HI (.cells #[.int .i64 q, .int .i64 a, .string ⟨n.toArray⟩, .string ⟨v.toArray⟩] 24)
  have HK := Lib.hid (HK.out.alloc (.cells #[.int .i64 q, .int .i64 a, .string ⟨n.toArray⟩, .string ⟨v.toArray⟩] 24))
  have HL := Lib.hid (Blk.new w3 24 #[.int .i64 q, .int .i64 a, .string ⟨n.toArray⟩, .string ⟨v.toArray⟩])
  go_wp2_with fail
  refine (HU.out _ (FInv.good HI)).mono ?_
  rintro e w4 ⟨rfl, b⟩
  have HI := FInv.call HI b
  have HK := Lib.hid (HK.out.call b)
  have HL := Lib.hid (HL.out.call b)
  clear b
  go_wp2_with fail
  refine (HUr.out _).mono ?_
  rintro e w5 ⟨rfl, b⟩
  have HI := FInv.call HI b
  have HK := Lib.hid (HK.out.call b)
  have HL := Lib.hid (HL.out.call b)
  clear b
  have c0 := HK.out.cell 0
  have c1 := HK.out.cell 1
  have c2 := HK.out.cell 2
  have c3 := HK.out.cell 3
  have d0 := HL.out.cell 0
  have d1 := HL.out.cell 1
  have d2 := HL.out.cell 2
  have d3 := HL.out.cell 3
  go_wp2_with fail
  clear c0 c1 c2 c3 d0 d1 d2 d3
  refine (HQ.out _).mono ?_
  rintro e w6 ⟨rfl, b⟩
  have HI := FInv.call HI b
  clear b
  go_wp2_with fail
  refine (HQr.out _).mono ?_
  rintro e w7 ⟨rfl, b⟩
  have HI := FInv.call HI b
  clear b
  go_wp2_with fail
  refine (works_any _ (FInv.good HI)).mono ?_
  rintro e w8 ⟨rfl, b⟩
  have HI := FInv.call HI b
  clear b
  go_wp2_with fail
  go_ret
  exact ⟨rfl, HI.out.2⟩
end Go.Proofs.YtphpgbbjbncfoaaGreatDoor

/-
  LAYER 1: what is refused: the statement's walk.
-/
import Derived.Test.YtmoeglecdojhcaaDoorPlW
namespace Go.Proofs.YtmoeglecdojhcaaDoor
open Go.ChangeShapes Go.WideShapes Go.ChangeAt Go.RowKit

theorem line_none {s : List UInt8} {n : Int} (h : n < 1 ∨ 1 + (s.count 10 : Nat) < n) : Pl.line s n = none := by
  unfold Pl.line
  split
  · rw [List.getElem?_eq_none]
    rw [Lin.pieces_len]
    omega
  · rfl
theorem off_none {s : List UInt8} {n c : Int} (h : Pl.line s n = none) : Pl.off s n c = none := by
  cases e : Pl.off s n c with
  | none => rfl
  | some o =>
    obtain ⟨q, hq, _⟩ := (Pl.off_line s n c).1 (by rw [e]; rfl)
    rw [h] at hq
    cases hq
set_option maxHeartbeats 8000000 in
set_option maxRecDepth 100000 in
theorem refuses_main (s : List UInt8) (m K : Int) (hs : (s.length : Int) ≤ 100) (m0 : 0 ≤ m) (m1 : m ≤ 65535) (K0 : 1 ≤ K) (K1 : K ≤ 101) (w : World) (hG : Good w)
    (HOF : Hid (∀ e W, (e < 0 ∨ (s.length : Int) < e) → -9223372036854775808 ≤ e → e ≤ 9223372036854775807 → Calls Tryd.prog 12 #[.string ⟨s.toArray⟩, .int .i64 e] W fun r w' => r = .returned (.tuple #[.agg #[.int .i64 0, .int .i64 0], .int .i64 3]) ∧ Below W.heap.size W w'))
    (HCO : Hid (∀ W, Calls Tryd.prog 18 #[.string ⟨s.toArray⟩] W fun r w' => r = .returned (.int .i64 K) ∧ Below W.heap.size W w'))
    (HLI : Hid (∀ e W, Good W → (e < 1 ∨ K < e) → Calls Tryd.prog 16 #[.string ⟨s.toArray⟩, .int .i64 e] W fun r w' => r = .returned (.tuple #[.string ⟨#[]⟩, .int .i64 3]) ∧ Below W.heap.size W w'))
    (HOS : Hid (∀ e W, Good W → (e < 1 ∨ K < e) → Calls Tryd.prog 14 #[.string ⟨s.toArray⟩, .agg #[.int .i64 e, .int .i64 1]] W fun r w' => r = .returned (.tuple #[.int .i64 0, .int .i64 3]) ∧ Below W.heap.size W w'))
    (HTX : Hid (∀ l c W, Good W → (l < 1 ∨ c < 1) → -9223372036854775808 ≤ l → l ≤ 9223372036854775807 → -9223372036854775808 ≤ c → c ≤ 9223372036854775807 → Calls Tryd.prog 20 #[.agg #[.int .i64 l, .int .i64 c]] W fun r w' => r = .returned (.tuple #[.string ⟨#[]⟩, .int .i64 2]) ∧ Below W.heap.size W w')) :
    Calls Tryd.prog 5 #[.string ⟨s.toArray⟩, .int .u16 m] w fun e w' => e = .returned (.bool true) ∧ Below w.heap.size w w' := by
  have HI0 : Hid (FInv w w) := Lib.hid ⟨hG, Below.refl _ _⟩
  have HI := FInv.alloc HI0 (.cells #[.int .i64 (-1 - m), .int .i64 ((s.length : Int) + 1 + m), .int .i64 9223372036854775807, .int .i64 (-9223372036854775808)] 3)
  have HL : Hid (Blk (w.alloc (.cells #[.int .i64 (-1 - m), .int .i64 ((s.length : Int) + 1 + m), .int .i64 9223372036854775807, .int .i64 (-9223372036854775808)] 3)) w.heap.size 3 #[.int .i64 (-1 - m), .int .i64 ((s.length : Int) + 1 + m), .int .i64 9223372036854775807, .int .i64 (-9223372036854775808)]) := Lib.hid (Blk.new _ _ _)
  clear hG HI0
  go_enter Tryd.func5, Tryd.ntmps5
  go_wp2_with fail
  go_loopw [35] (fun i wr => ∃ j : Nat, j ≤ 4 ∧ i = .int .i64 j ∧ Hid (FInv w wr) ∧ Hid (Blk wr w.heap.size 3 #[.int .i64 (-1 - m), .int .i64 ((s.length : Int) + 1 + m), .int .i64 9223372036854775807, .int .i64 (-9223372036854775808)])) (fun i _ => 4 - (intOf i).toNat)
  case atStart => exact ⟨0, by omega, rfl, HI, HL⟩
  case round =>
    clear HI HL
    obtain ⟨j, hj, rfl, HI, HL⟩ := hrel
    rcases (show j = 0 ∨ j = 1 ∨ j = 2 ∨ j = 3 ∨ j = 4 by omega) with rfl | rfl | rfl | rfl | rfl
    · clear hj
      have c0 := HL.out.cell 0
      go_wp2_with fail
      refine (HOF.out (-1 - m) _ (by omega) (by omega) (by omega)).mono ?_
      rintro e v1 ⟨rfl, b⟩
      replace HI := FInv.alloc (FInv.call HI b) (.cells #[.int .i64 0, .int .i64 0] 24)
      replace HL := Lib.hid ((HL.out.call b).alloc (.cells #[.int .i64 0, .int .i64 0] 24))
      clear b c0
      go_wp2_with fail
      go_roundw
      case rel => first | exact ⟨1, by omega, by first | rfl | trivial, HI, HL⟩ | ((repeat apply Exists.intro); exact ⟨⟨1, by omega, by first | rfl | trivial, HI, HL⟩, rfl⟩)
      case measure => simp [intOf]
    · clear hj
      have c0 := HL.out.cell 1
      go_wp2_with fail
      refine (HOF.out ((s.length : Int) + 1 + m) _ (by omega) (by omega) (by omega)).mono ?_
      rintro e v1 ⟨rfl, b⟩
      replace HI := FInv.alloc (FInv.call HI b) (.cells #[.int .i64 0, .int .i64 0] 24)
      replace HL := Lib.hid ((HL.out.call b).alloc (.cells #[.int .i64 0, .int .i64 0] 24))
      clear b c0
      go_wp2_with fail
      go_roundw
      case rel => first | exact ⟨2, by omega, by first | rfl | trivial, HI, HL⟩ | ((repeat apply Exists.intro); exact ⟨⟨2, by omega, by first | rfl | trivial, HI, HL⟩, rfl⟩)
      case measure => simp [intOf]
    · clear hj
      have c0 := HL.out.cell 2
      go_wp2_with fail
      refine (HOF.out 9223372036854775807 _ (by omega) (by omega) (by omega)).mono ?_
      rintro e v1 ⟨rfl, b⟩
      replace HI := FInv.alloc (FInv.call HI b) (.cells #[.int .i64 0, .int .i64 0] 24)
      replace HL := Lib.hid ((HL.out.call b).alloc (.cells #[.int .i64 0, .int .i64 0] 24))
      clear b c0
      go_wp2_with fail
      go_roundw
      case rel => first | exact ⟨3, by omega, by first | rfl | trivial, HI, HL⟩ | ((repeat apply Exists.intro); exact ⟨⟨3, by omega, by first | rfl | trivial, HI, HL⟩, rfl⟩)
      case measure => simp [intOf]
    · clear hj
      have c0 := HL.out.cell 3
      go_wp2_with fail
      refine (HOF.out (-9223372036854775808) _ (by omega) (by omega) (by omega)).mono ?_
      rintro e v1 ⟨rfl, b⟩
      replace HI := FInv.alloc (FInv.call HI b) (.cells #[.int .i64 0, .int .i64 0] 24)
      replace HL := Lib.hid ((HL.out.call b).alloc (.cells #[.int .i64 0, .int .i64 0] 24))
      clear b c0
      go_wp2_with fail
      go_roundw
      case rel => first | exact ⟨4, by omega, by first | rfl | trivial, HI, HL⟩ | ((repeat apply Exists.intro); exact ⟨⟨4, by omega, by first | rfl | trivial, HI, HL⟩, rfl⟩)
      case measure => simp [intOf]
    · clear hj
      clear HL
      go_wp2_with fail
      refine (HCO.out _).mono ?_
      rintro e u1 ⟨rfl, b⟩
      replace HI := FInv.call HI b
      clear b
      have HL : Hid (Blk (u1.alloc (.cells #[.int .i64 (-m), .int .i64 (K + 1 + m), .int .i64 9223372036854775807, .int .i64 (-9223372036854775808)] 3)) u1.heap.size 3 #[.int .i64 (-m), .int .i64 (K + 1 + m), .int .i64 9223372036854775807, .int .i64 (-9223372036854775808)]) := Lib.hid (Blk.new _ _ _)
      replace HI := FInv.alloc HI (.cells #[.int .i64 (-m), .int .i64 (K + 1 + m), .int .i64 9223372036854775807, .int .i64 (-9223372036854775808)] 3)
      go_wp2_with fail
      go_loopw [62] (fun i wr => ∃ j : Nat, j ≤ 4 ∧ i = .int .i64 j ∧ Hid (FInv w wr) ∧ Hid (Blk wr u1.heap.size 3 #[.int .i64 (-m), .int .i64 (K + 1 + m), .int .i64 9223372036854775807, .int .i64 (-9223372036854775808)])) (fun i _ => 4 - (intOf i).toNat)
      case atStart => exact ⟨0, by omega, rfl, HI, HL⟩
      case round =>
        clear HI HL
        obtain ⟨j, hj, rfl, HI, HL⟩ := hrel
        rcases (show j = 0 ∨ j = 1 ∨ j = 2 ∨ j = 3 ∨ j = 4 by omega) with rfl | rfl | rfl | rfl | rfl
        · clear hj
          have c0 := HL.out.cell 0
          go_wp2_with fail
          refine (HLI.out (-m) _ (FInv.good HI) (by omega)).mono ?_
          rintro e v1 ⟨rfl, b⟩
          replace HI := FInv.call HI b
          replace HL := Lib.hid (HL.out.call b)
          clear b c0
          go_wp2_with fail
          refine (HOS.out (-m) _ (FInv.good HI) (by omega)).mono ?_
          rintro e v2 ⟨rfl, b⟩
          replace HI := FInv.call HI b
          replace HL := Lib.hid (HL.out.call b)
          clear b
          go_wp2_with fail
          go_roundw
          case rel => first | exact ⟨1, by omega, by first | rfl | trivial, HI, HL⟩ | ((repeat apply Exists.intro); exact ⟨⟨1, by omega, by first | rfl | trivial, HI, HL⟩, rfl⟩)
          case measure => simp [intOf]
        · clear hj
          have c0 := HL.out.cell 1
          go_wp2_with fail
          refine (HLI.out (K + 1 + m) _ (FInv.good HI) (by omega)).mono ?_
          rintro e v1 ⟨rfl, b⟩
          replace HI := FInv.call HI b
          replace HL := Lib.hid (HL.out.call b)
          clear b c0
          go_wp2_with fail
          refine (HOS.out (K + 1 + m) _ (FInv.good HI) (by omega)).mono ?_
          rintro e v2 ⟨rfl, b⟩
          replace HI := FInv.call HI b
          replace HL := Lib.hid (HL.out.call b)
          clear b
          go_wp2_with fail
          go_roundw
          case rel => first | exact ⟨2, by omega, by first | rfl | trivial, HI, HL⟩ | ((repeat apply Exists.intro); exact ⟨⟨2, by omega, by first | rfl | trivial, HI, HL⟩, rfl⟩)
          case measure => simp [intOf]
        · clear hj
          have c0 := HL.out.cell 2
          go_wp2_with fail
          refine (HLI.out 9223372036854775807 _ (FInv.good HI) (by omega)).mono ?_
          rintro e v1 ⟨rfl, b⟩
          replace HI := FInv.call HI b
          replace HL := Lib.hid (HL.out.call b)
          clear b c0
          go_wp2_with fail
          refine (HOS.out 9223372036854775807 _ (FInv.good HI) (by omega)).mono ?_
          rintro e v2 ⟨rfl, b⟩
          replace HI := FInv.call HI b
          replace HL := Lib.hid (HL.out.call b)
          clear b
          go_wp2_with fail
          go_roundw
          case rel => first | exact ⟨3, by omega, by first | rfl | trivial, HI, HL⟩ | ((repeat apply Exists.intro); exact ⟨⟨3, by omega, by first | rfl | trivial, HI, HL⟩, rfl⟩)
          case measure => simp [intOf]
        · clear hj
          have c0 := HL.out.cell 3
          go_wp2_with fail
          refine (HLI.out (-9223372036854775808) _ (FInv.good HI) (by omega)).mono ?_
          rintro e v1 ⟨rfl, b⟩
          replace HI := FInv.call HI b
          replace HL := Lib.hid (HL.out.call b)
          clear b c0
          go_wp2_with fail
          refine (HOS.out (-9223372036854775808) _ (FInv.good HI) (by omega)).mono ?_
          rintro e v2 ⟨rfl, b⟩
          replace HI := FInv.call HI b
          replace HL := Lib.hid (HL.out.call b)
          clear b
          go_wp2_with fail
          go_roundw
          case rel => first | exact ⟨4, by omega, by first | rfl | trivial, HI, HL⟩ | ((repeat apply Exists.intro); exact ⟨⟨4, by omega, by first | rfl | trivial, HI, HL⟩, rfl⟩)
          case measure => simp [intOf]
        · clear hj
          clear HL
          have HL : Hid (Blk (wr.alloc (.cells #[.int .i64 (-m), .int .i64 1, .int .i64 1, .int .i64 (-m), .int .i64 0, .int .i64 0] 24)) wr.heap.size 24 #[.int .i64 (-m), .int .i64 1, .int .i64 1, .int .i64 (-m), .int .i64 0, .int .i64 0]) := Lib.hid (Blk.new _ _ _)
          replace HI := FInv.alloc HI (.cells #[.int .i64 (-m), .int .i64 1, .int .i64 1, .int .i64 (-m), .int .i64 0, .int .i64 0] 24)
          obtain ⟨u2, hu2⟩ : ∃ V, wr = V := ⟨_, rfl⟩
          rw [hu2] at HI HL ⊢
          clear hu2
          go_wp2_with fail
          go_loopw [103] (fun i wr => ∃ j : Nat, j ≤ 3 ∧ i = .int .i64 j ∧ Hid (FInv w wr) ∧ Hid (Blk wr u2.heap.size 24 #[.int .i64 (-m), .int .i64 1, .int .i64 1, .int .i64 (-m), .int .i64 0, .int .i64 0])) (fun i _ => 3 - (intOf i).toNat)
          case atStart => exact ⟨0, by omega, rfl, HI, HL⟩
          case round =>
            clear HI HL
            obtain ⟨j, hj, rfl, HI, HL⟩ := hrel
            rcases (show j = 0 ∨ j = 1 ∨ j = 2 ∨ j = 3 by omega) with rfl | rfl | rfl | rfl
            · clear hj
              have c0 := HL.out.cell 0
              have c1 := HL.out.cell 1
              replace HI := FInv.alloc HI (.cells #[.int .i64 (-m), .int .i64 1] 24)
              replace HL := Lib.hid (HL.out.alloc (.cells #[.int .i64 (-m), .int .i64 1] 24))
              go_wp2_with fail
              refine (HTX.out (-m) 1 _ (FInv.good HI) (by omega) (by omega) (by omega) (by omega) (by omega)).mono ?_
              rintro e v1 ⟨rfl, b⟩
              replace HI := FInv.call HI b
              replace HL := Lib.hid (HL.out.call b)
              clear b c0 c1
              go_wp2_with fail
              go_roundw
              case rel => first | exact ⟨1, by omega, by first | rfl | trivial, HI, HL⟩ | ((repeat apply Exists.intro); exact ⟨⟨1, by omega, by first | rfl | trivial, HI, HL⟩, rfl⟩)
              case measure => simp [intOf]
            · clear hj
              have c0 := HL.out.cell 2
              have c1 := HL.out.cell 3
              replace HI := FInv.alloc HI (.cells #[.int .i64 1, .int .i64 (-m)] 24)
              replace HL := Lib.hid (HL.out.alloc (.cells #[.int .i64 1, .int .i64 (-m)] 24))
              go_wp2_with fail
              refine (HTX.out 1 (-m) _ (FInv.good HI) (by omega) (by omega) (by omega) (by omega) (by omega)).mono ?_
              rintro e v1 ⟨rfl, b⟩
              replace HI := FInv.call HI b
              replace HL := Lib.hid (HL.out.call b)
              clear b c0 c1
              go_wp2_with fail
              go_roundw
              case rel => first | exact ⟨2, by omega, by first | rfl | trivial, HI, HL⟩ | ((repeat apply Exists.intro); exact ⟨⟨2, by omega, by first | rfl | trivial, HI, HL⟩, rfl⟩)
              case measure => simp [intOf]
            · clear hj
              have c0 := HL.out.cell 4
              have c1 := HL.out.cell 5
              replace HI := FInv.alloc HI (.cells #[.int .i64 0, .int .i64 0] 24)
              replace HL := Lib.hid (HL.out.alloc (.cells #[.int .i64 0, .int .i64 0] 24))
              go_wp2_with fail
              refine (HTX.out 0 0 _ (FInv.good HI) (by omega) (by omega) (by omega) (by omega) (by omega)).mono ?_
              rintro e v1 ⟨rfl, b⟩
              replace HI := FInv.call HI b
              replace HL := Lib.hid (HL.out.call b)
              clear b c0 c1
              go_wp2_with fail
              go_roundw
              case rel => first | exact ⟨3, by omega, by first | rfl | trivial, HI, HL⟩ | ((repeat apply Exists.intro); exact ⟨⟨3, by omega, by first | rfl | trivial, HI, HL⟩, rfl⟩)
              case measure => simp [intOf]
            · clear hj
              clear HL
              go_wp2_with fail
              refine (works_any _ (FInv.good HI)).mono ?_
              rintro e v5 ⟨rfl, b⟩
              replace HI := FInv.call HI b
              clear b
              go_wp2_with fail
              go_ret
              exact ⟨rfl, HI.out.2⟩

set_option maxRecDepth 100000 in
theorem placeRefuses_walk (s : ByteArray) (_ : s.size ≤ maxLen) (m : Int) (m0 : 0 ≤ m) (m1 : m ≤ 65535) (w : World) (hG : Good w) :
    Calls Tryd.prog 5 #[.string s, .int .u16 m] w fun e w' => e = .returned (.bool true) ∧ Below w.heap.size w w' := by
  obtain ⟨s, rfl⟩ : ∃ t : List UInt8, s = ⟨t.toArray⟩ := ⟨s.data.toList, rfl⟩
  by_cases hs : 100 < s.length
  · have HI : Hid (FInv w w) := Lib.hid ⟨hG, Below.refl _ _⟩
    have k1 : (100 : Int) < (s.length : Int) := by omega
    clear hG
    go_enter Tryd.func5, Tryd.ntmps5
    go_wp2_with fail
    refine (works_any _ (FInv.good HI)).mono ?_
    rintro e w2 ⟨rfl, b⟩
    replace HI := FInv.call HI b
    clear b
    go_wp2_with fail
    go_ret
    exact ⟨rfl, HI.out.2⟩
  have hc : s.count 10 ≤ s.length := List.count_le_length
  refine refuses_main s m (1 + (s.count 10 : Nat)) (by omega) m0 m1 (by omega) (by omega) w hG (Lib.hid fun e W h1 h2 h3 => ?_) (Lib.hid fun W => count_any s (by omega) W) (Lib.hid fun e W hG h => ?_) (Lib.hid fun e W hG h => ?_) (Lib.hid fun l c W hG h h1 h2 h3 h4 => ?_)
  · have := of_any s (by omega) e h2 h3 W
    have n1 : ¬ (0 ≤ e ∧ e ≤ s.length) := by omega
    unfold ofL ofC ofE at this
    rw [if_neg n1, if_neg n1, if_neg n1] at this
    exact this
  · have := line_any s (by omega) e W hG
    have n1 := line_none (s := s) (n := e) (by omega)
    unfold liS liE at this
    rw [n1] at this
    exact this
  · have := offset_any s (by omega) e 1 W hG
    have n1 := off_none (s := s) (n := e) (c := 1) (line_none (by omega))
    unfold ofsV ofsE at this
    rw [n1] at this
    exact this
  · have := text_any l c h1 h2 h3 h4 W hG
    have n1 : ¬ (1 ≤ l ∧ 1 ≤ c) := by omega
    unfold txS txE at this
    rw [if_neg n1, if_neg n1] at this
    exact this
end Go.Proofs.YtmoeglecdojhcaaDoor

/-
  LAYER 1: places are decoded from their strings: the statement's walk.
-/
import Derived.Test.YtmoeglecdojhcaaDoorPlW
import Derived.Lib.SplitLaws
namespace Go.Proofs.YtmoeglecdojhcaaDoor
open Go.ChangeShapes Go.WideShapes Go.ChangeAt Go.RowKit

set_option maxHeartbeats 8000000 in
set_option maxRecDepth 100000 in
theorem decoded_main (lu cu : Int) (d : UInt8) (S M X0 X1 X2 X3 X4 X5 X6 X7 : List UInt8) (c' e' lm : Int) (w : World) (hG : Good w)
    (l0 : 0 ≤ lu) (l1 : lu ≤ 4294967295) (c0 : 0 ≤ cu) (c1 : cu ≤ 4294967295) (hS : S.length ≤ 1000)
    (HT : Hid (∀ W, Good W → Calls Tryd.prog 20 #[.agg #[.int .i64 (1 + lu), .int .i64 (1 + cu)]] W fun e w' => e = .returned (.tuple #[.string ⟨S.toArray⟩, .int .i64 0]) ∧ Below W.heap.size W w'))
    (HPS : Hid (∀ W, Good W → Calls Tryd.prog 22 #[.string ⟨S.toArray⟩] W fun e w' => e = .returned (.tuple #[.agg #[.int .i64 (1 + lu), .int .i64 (1 + cu)], .int .i64 0]) ∧ Below W.heap.size W w'))
    (HM : Hid (∀ W, Good W → Calls Tryd.prog 22 #[.string ⟨M.toArray⟩] W fun e w' => e = .returned (.tuple #[.agg #[.int .i64 lm, .int .i64 c'], .int .i64 e']) ∧ Below W.heap.size W w'))
    (hcat : (⟨S.toArray⟩ : ByteArray) ++ ⟨[d].toArray⟩ = ⟨M.toArray⟩)
    (HCase : Hid ((48 ≤ (d.toNat : Int) ∧ (d.toNat : Int) ≤ 57 ∧ e' = 0 ∧ lm = 1 + lu ∧ c' = 10 * (1 + cu) + ((d.toNat : Int) - 48)) ∨ (((d.toNat : Int) < 48 ∨ 57 < (d.toNat : Int)) ∧ e' = 7 ∧ lm = 0 ∧ c' = 0)))
    (HX0 : Hid ((⟨#[48]⟩ : ByteArray) ++ ⟨S.toArray⟩ = ⟨X0.toArray⟩ ∧ (⟨#[43]⟩ : ByteArray) ++ ⟨S.toArray⟩ = ⟨X1.toArray⟩ ∧ (⟨#[32]⟩ : ByteArray) ++ ⟨S.toArray⟩ = ⟨X2.toArray⟩ ∧ (⟨S.toArray⟩ : ByteArray) ++ ⟨#[58, 49]⟩ = ⟨X3.toArray⟩ ∧ (⟨#[58]⟩ : ByteArray) ++ ⟨S.toArray⟩ = ⟨X4.toArray⟩))
    (HR5 : Hid (∀ W, Good W → Calls Tryd.prog 30 #[.string ⟨S.toArray⟩, .string ⟨#[58]⟩, .string ⟨#[]⟩, .int .i64 1] W fun e w' => e = .returned (.string ⟨X5.toArray⟩) ∧ Below W.heap.size W w'))
    (HR6 : Hid (∀ W, Good W → Calls Tryd.prog 30 #[.string ⟨S.toArray⟩, .string ⟨#[58]⟩, .string ⟨#[58, 48]⟩, .int .i64 1] W fun e w' => e = .returned (.string ⟨X6.toArray⟩) ∧ Below W.heap.size W w'))
    (HR7 : Hid (∀ W, Good W → Calls Tryd.prog 30 #[.string ⟨S.toArray⟩, .string ⟨#[58]⟩, .string ⟨#[59]⟩, .int .i64 1] W fun e w' => e = .returned (.string ⟨X7.toArray⟩) ∧ Below W.heap.size W w'))
    (HB : Hid (∀ x W, Good W → x ∈ [X0, X1, X2, X3, X4, X5, X6, X7] → Calls Tryd.prog 22 #[.string ⟨x.toArray⟩] W fun e w' => e = .returned (.tuple #[.agg #[.int .i64 0, .int .i64 0], .int .i64 7]) ∧ Below W.heap.size W w')) :
    Calls Tryd.prog 10 #[.int .u32 lu, .int .u32 cu, .int .u8 (d.toNat : Int)] w fun e w' => e = .returned (.bool true) ∧ Below w.heap.size w w' := by
  have HI0 : Hid (FInv w w) := Lib.hid ⟨hG, Below.refl _ _⟩
  have HI := FInv.alloc HI0 (.cells #[.int .i64 (1 + lu), .int .i64 (1 + cu)] 24)
  have HBl : Hid (Blk (w.alloc (.cells #[.int .i64 (1 + lu), .int .i64 (1 + cu)] 24)) w.heap.size 24 #[.int .i64 (1 + lu), .int .i64 (1 + cu)]) := Lib.hid (Blk.new _ _ _)
  clear hG HI0
  go_enter Tryd.func10, Tryd.ntmps10
  go_wp2_with fail
  refine (HT.out _ (FInv.good HI)).mono ?_
  rintro e w2 ⟨rfl, hb⟩
  replace HI := FInv.call HI hb
  replace HBl := Lib.hid (HBl.out.call hb)
  clear hb
  go_wp2_with fail
  refine (HPS.out _ (FInv.good HI)).mono ?_
  rintro e w3 ⟨rfl, hb⟩
  replace HI := FInv.alloc (FInv.call HI hb) (.cells #[.int .i64 (1 + lu), .int .i64 (1 + cu)] 24)
  replace HBl := Lib.hid ((HBl.out.call hb).alloc (.cells #[.int .i64 (1 + lu), .int .i64 (1 + cu)] 24))
  clear hb
  have d0 := HBl.out.cell 0
  have d1 := HBl.out.cell 1
  have hcv := run_convert_bytes_back (P := Tryd.prog) ((w3.alloc (.cells #[.int .i64 (1 + lu), .int .i64 (1 + cu)] 24)).alloc (.cells #[.int .u8 (d.toNat : Int)] 5)) 51 9 5 ⟨(w3.alloc (.cells #[.int .i64 (1 + lu), .int .i64 (1 + cu)] 24)).heap.size, 0, none⟩ 1 [d] Tryd.underlying51 Tryd.underlying5 Tryd.underlying9 (fun j hj => by
    have hj0 : j = 0 := by simp at hj; exact hj
    subst hj0
    exact (Blk.new (w3.alloc (.cells #[.int .i64 (1 + lu), .int .i64 (1 + cu)] 24)) 5 #[.int .u8 (d.toNat : Int)]).cell 0)
  rw [show [d].length = 1 from rfl, World.size_alloc] at hcv
  replace HI := FInv.alloc HI (.cells #[.int .u8 (d.toNat : Int)] 5)
  replace HBl := Lib.hid (HBl.out.alloc (.cells #[.int .u8 (d.toNat : Int)] 5))
  have k1 : ¬ 9223372036854775807 < S.length + 1 := by omega
  go_wp2_with fail
  clear hcv
  refine (HM.out _ (FInv.good HI)).mono ?_
  rintro e w4 ⟨rfl, hb⟩
  replace HI := FInv.alloc (FInv.call HI hb) (.cells #[.int .i64 lm, .int .i64 c'] 24)
  replace HBl := Lib.hid ((HBl.out.call hb).alloc (.cells #[.int .i64 lm, .int .i64 c'] 24))
  clear hb d0 d1
  have d0 := HBl.out.cell 0
  have d1 := HBl.out.cell 1
  obtain ⟨x0, x1, x2, x3, x4⟩ := HX0.out
  have k3 : ¬ 9223372036854775807 < S.length + 2 := by omega
  have k4 : ¬ 9223372036854775807 < 1 + S.length := by omega
  clear HX0 HM HT HPS hcat
  rcases HCase.out with ⟨q1, q2, rfl, rfl, rfl⟩ | ⟨q, rfl, rfl, rfl⟩
  · go_wp2_with fail
    refine (HR5.out _ (FInv.good HI)).mono ?_
    rintro e w8 ⟨rfl, hb⟩
    replace HI := FInv.call HI hb
    clear hb
    go_wp2_with fail
    refine (HR6.out _ (FInv.good HI)).mono ?_
    rintro e w8 ⟨rfl, hb⟩
    replace HI := FInv.call HI hb
    clear hb
    go_wp2_with fail
    refine (HR7.out _ (FInv.good HI)).mono ?_
    rintro e w8 ⟨rfl, hb⟩
    replace HI := FInv.call HI hb
    clear hb
    obtain ⟨w9, hw9⟩ : ∃ V, w8 = V := ⟨_, rfl⟩
    rw [hw9] at HI ⊢
    clear hw9
    have HL : Hid (Blk (w9.alloc (.cells #[.string ⟨X0.toArray⟩, .string ⟨X1.toArray⟩, .string ⟨X2.toArray⟩, .string ⟨X3.toArray⟩, .string ⟨X4.toArray⟩, .string ⟨X5.toArray⟩, .string ⟨X6.toArray⟩, .string ⟨X7.toArray⟩] 9)) w9.heap.size 9 #[.string ⟨X0.toArray⟩, .string ⟨X1.toArray⟩, .string ⟨X2.toArray⟩, .string ⟨X3.toArray⟩, .string ⟨X4.toArray⟩, .string ⟨X5.toArray⟩, .string ⟨X6.toArray⟩, .string ⟨X7.toArray⟩]) := Lib.hid (Blk.new _ _ _)
    replace HI := FInv.alloc HI (.cells #[.string ⟨X0.toArray⟩, .string ⟨X1.toArray⟩, .string ⟨X2.toArray⟩, .string ⟨X3.toArray⟩, .string ⟨X4.toArray⟩, .string ⟨X5.toArray⟩, .string ⟨X6.toArray⟩, .string ⟨X7.toArray⟩] 9)
    go_wp2_with fail
    go_loopw [109] (fun i wr => ∃ j : Nat, j ≤ 8 ∧ i = .int .i64 j ∧ Hid (FInv w wr) ∧ Hid (Blk wr w9.heap.size 9 #[.string ⟨X0.toArray⟩, .string ⟨X1.toArray⟩, .string ⟨X2.toArray⟩, .string ⟨X3.toArray⟩, .string ⟨X4.toArray⟩, .string ⟨X5.toArray⟩, .string ⟨X6.toArray⟩, .string ⟨X7.toArray⟩])) (fun i _ => 8 - (intOf i).toNat)
    case atStart => exact ⟨0, by omega, rfl, HI, HL⟩
    case round =>
      clear HI HL
      obtain ⟨j, hj, rfl, HI, HL⟩ := hrel
      rcases (show j = 0 ∨ j = 1 ∨ j = 2 ∨ j = 3 ∨ j = 4 ∨ j = 5 ∨ j = 6 ∨ j = 7 ∨ j = 8 by omega) with rfl | rfl | rfl | rfl | rfl | rfl | rfl | rfl | rfl
      · clear hj
        have c0 := HL.out.cell 0
        go_wp2_with fail
        refine (HB.out X0 _ (FInv.good HI) (by simp)).mono ?_
        rintro e v1 ⟨rfl, hb⟩
        replace HI := FInv.alloc (FInv.call HI hb) (.cells #[.int .i64 0, .int .i64 0] 24)
        replace HL := Lib.hid ((HL.out.call hb).alloc (.cells #[.int .i64 0, .int .i64 0] 24))
        clear hb c0
        go_wp2_with fail
        go_roundw
        case rel => first | exact ⟨1, by omega, by first | rfl | trivial, HI, HL⟩ | ((repeat apply Exists.intro); exact ⟨⟨1, by omega, by first | rfl | trivial, HI, HL⟩, rfl⟩)
        case measure => simp [intOf]
      · clear hj
        have c0 := HL.out.cell 1
        go_wp2_with fail
        refine (HB.out X1 _ (FInv.good HI) (by simp)).mono ?_
        rintro e v1 ⟨rfl, hb⟩
        replace HI := FInv.alloc (FInv.call HI hb) (.cells #[.int .i64 0, .int .i64 0] 24)
        replace HL := Lib.hid ((HL.out.call hb).alloc (.cells #[.int .i64 0, .int .i64 0] 24))
        clear hb c0
        go_wp2_with fail
        go_roundw
        case rel => first | exact ⟨2, by omega, by first | rfl | trivial, HI, HL⟩ | ((repeat apply Exists.intro); exact ⟨⟨2, by omega, by first | rfl | trivial, HI, HL⟩, rfl⟩)
        case measure => simp [intOf]
      · clear hj
        have c0 := HL.out.cell 2
        go_wp2_with fail
        refine (HB.out X2 _ (FInv.good HI) (by simp)).mono ?_
        rintro e v1 ⟨rfl, hb⟩
        replace HI := FInv.alloc (FInv.call HI hb) (.cells #[.int .i64 0, .int .i64 0] 24)
        replace HL := Lib.hid ((HL.out.call hb).alloc (.cells #[.int .i64 0, .int .i64 0] 24))
        clear hb c0
        go_wp2_with fail
        go_roundw
        case rel => first | exact ⟨3, by omega, by first | rfl | trivial, HI, HL⟩ | ((repeat apply Exists.intro); exact ⟨⟨3, by omega, by first | rfl | trivial, HI, HL⟩, rfl⟩)
        case measure => simp [intOf]
      · clear hj
        have c0 := HL.out.cell 3
        go_wp2_with fail
        refine (HB.out X3 _ (FInv.good HI) (by simp)).mono ?_
        rintro e v1 ⟨rfl, hb⟩
        replace HI := FInv.alloc (FInv.call HI hb) (.cells #[.int .i64 0, .int .i64 0] 24)
        replace HL := Lib.hid ((HL.out.call hb).alloc (.cells #[.int .i64 0, .int .i64 0] 24))
        clear hb c0
        go_wp2_with fail
        go_roundw
        case rel => first | exact ⟨4, by omega, by first | rfl | trivial, HI, HL⟩ | ((repeat apply Exists.intro); exact ⟨⟨4, by omega, by first | rfl | trivial, HI, HL⟩, rfl⟩)
        case measure => simp [intOf]
      · clear hj
        have c0 := HL.out.cell 4
        go_wp2_with fail
        refine (HB.out X4 _ (FInv.good HI) (by simp)).mono ?_
        rintro e v1 ⟨rfl, hb⟩
        replace HI := FInv.alloc (FInv.call HI hb) (.cells #[.int .i64 0, .int .i64 0] 24)
        replace HL := Lib.hid ((HL.out.call hb).alloc (.cells #[.int .i64 0, .int .i64 0] 24))
        clear hb c0
        go_wp2_with fail
        go_roundw
        case rel => first | exact ⟨5, by omega, by first | rfl | trivial, HI, HL⟩ | ((repeat apply Exists.intro); exact ⟨⟨5, by omega, by first | rfl | trivial, HI, HL⟩, rfl⟩)
        case measure => simp [intOf]
      · clear hj
        have c0 := HL.out.cell 5
        go_wp2_with fail
        refine (HB.out X5 _ (FInv.good HI) (by simp)).mono ?_
        rintro e v1 ⟨rfl, hb⟩
        replace HI := FInv.alloc (FInv.call HI hb) (.cells #[.int .i64 0, .int .i64 0] 24)
        replace HL := Lib.hid ((HL.out.call hb).alloc (.cells #[.int .i64 0, .int .i64 0] 24))
        clear hb c0
        go_wp2_with fail
        go_roundw
        case rel => first | exact ⟨6, by omega, by first | rfl | trivial, HI, HL⟩ | ((repeat apply Exists.intro); exact ⟨⟨6, by omega, by first | rfl | trivial, HI, HL⟩, rfl⟩)
        case measure => simp [intOf]
      · clear hj
        have c0 := HL.out.cell 6
        go_wp2_with fail
        refine (HB.out X6 _ (FInv.good HI) (by simp)).mono ?_
        rintro e v1 ⟨rfl, hb⟩
        replace HI := FInv.alloc (FInv.call HI hb) (.cells #[.int .i64 0, .int .i64 0] 24)
        replace HL := Lib.hid ((HL.out.call hb).alloc (.cells #[.int .i64 0, .int .i64 0] 24))
        clear hb c0
        go_wp2_with fail
        go_roundw
        case rel => first | exact ⟨7, by omega, by first | rfl | trivial, HI, HL⟩ | ((repeat apply Exists.intro); exact ⟨⟨7, by omega, by first | rfl | trivial, HI, HL⟩, rfl⟩)
        case measure => simp [intOf]
      · clear hj
        have c0 := HL.out.cell 7
        go_wp2_with fail
        refine (HB.out X7 _ (FInv.good HI) (by simp)).mono ?_
        rintro e v1 ⟨rfl, hb⟩
        replace HI := FInv.alloc (FInv.call HI hb) (.cells #[.int .i64 0, .int .i64 0] 24)
        replace HL := Lib.hid ((HL.out.call hb).alloc (.cells #[.int .i64 0, .int .i64 0] 24))
        clear hb c0
        go_wp2_with fail
        go_roundw
        case rel => first | exact ⟨8, by omega, by first | rfl | trivial, HI, HL⟩ | ((repeat apply Exists.intro); exact ⟨⟨8, by omega, by first | rfl | trivial, HI, HL⟩, rfl⟩)
        case measure => simp [intOf]
      · clear hj HL
        go_wp2_with fail
        refine (works_any _ (FInv.good HI)).mono ?_
        rintro e v5 ⟨rfl, hb⟩
        replace HI := FInv.call HI hb
        go_wp2_with fail
        go_ret
        exact ⟨rfl, HI.out.2⟩
  · rcases q with q | q
    · go_wp2_with fail
      refine (HR5.out _ (FInv.good HI)).mono ?_
      rintro e w8 ⟨rfl, hb⟩
      replace HI := FInv.call HI hb
      clear hb
      go_wp2_with fail
      refine (HR6.out _ (FInv.good HI)).mono ?_
      rintro e w8 ⟨rfl, hb⟩
      replace HI := FInv.call HI hb
      clear hb
      go_wp2_with fail
      refine (HR7.out _ (FInv.good HI)).mono ?_
      rintro e w8 ⟨rfl, hb⟩
      replace HI := FInv.call HI hb
      clear hb
      obtain ⟨w9, hw9⟩ : ∃ V, w8 = V := ⟨_, rfl⟩
      rw [hw9] at HI ⊢
      clear hw9
      have HL : Hid (Blk (w9.alloc (.cells #[.string ⟨X0.toArray⟩, .string ⟨X1.toArray⟩, .string ⟨X2.toArray⟩, .string ⟨X3.toArray⟩, .string ⟨X4.toArray⟩, .string ⟨X5.toArray⟩, .string ⟨X6.toArray⟩, .string ⟨X7.toArray⟩] 9)) w9.heap.size 9 #[.string ⟨X0.toArray⟩, .string ⟨X1.toArray⟩, .string ⟨X2.toArray⟩, .string ⟨X3.toArray⟩, .string ⟨X4.toArray⟩, .string ⟨X5.toArray⟩, .string ⟨X6.toArray⟩, .string ⟨X7.toArray⟩]) := Lib.hid (Blk.new _ _ _)
      replace HI := FInv.alloc HI (.cells #[.string ⟨X0.toArray⟩, .string ⟨X1.toArray⟩, .string ⟨X2.toArray⟩, .string ⟨X3.toArray⟩, .string ⟨X4.toArray⟩, .string ⟨X5.toArray⟩, .string ⟨X6.toArray⟩, .string ⟨X7.toArray⟩] 9)
      go_wp2_with fail
      go_loopw [109] (fun i wr => ∃ j : Nat, j ≤ 8 ∧ i = .int .i64 j ∧ Hid (FInv w wr) ∧ Hid (Blk wr w9.heap.size 9 #[.string ⟨X0.toArray⟩, .string ⟨X1.toArray⟩, .string ⟨X2.toArray⟩, .string ⟨X3.toArray⟩, .string ⟨X4.toArray⟩, .string ⟨X5.toArray⟩, .string ⟨X6.toArray⟩, .string ⟨X7.toArray⟩])) (fun i _ => 8 - (intOf i).toNat)
      case atStart => exact ⟨0, by omega, rfl, HI, HL⟩
      case round =>
        clear HI HL
        obtain ⟨j, hj, rfl, HI, HL⟩ := hrel
        rcases (show j = 0 ∨ j = 1 ∨ j = 2 ∨ j = 3 ∨ j = 4 ∨ j = 5 ∨ j = 6 ∨ j = 7 ∨ j = 8 by omega) with rfl | rfl | rfl | rfl | rfl | rfl | rfl | rfl | rfl
        · clear hj
          have c0 := HL.out.cell 0
          go_wp2_with fail
          refine (HB.out X0 _ (FInv.good HI) (by simp)).mono ?_
          rintro e v1 ⟨rfl, hb⟩
          replace HI := FInv.alloc (FInv.call HI hb) (.cells #[.int .i64 0, .int .i64 0] 24)
          replace HL := Lib.hid ((HL.out.call hb).alloc (.cells #[.int .i64 0, .int .i64 0] 24))
          clear hb c0
          go_wp2_with fail
          go_roundw
          case rel => first | exact ⟨1, by omega, by first | rfl | trivial, HI, HL⟩ | ((repeat apply Exists.intro); exact ⟨⟨1, by omega, by first | rfl | trivial, HI, HL⟩, rfl⟩)
          case measure => simp [intOf]
        · clear hj
          have c0 := HL.out.cell 1
          go_wp2_with fail
          refine (HB.out X1 _ (FInv.good HI) (by simp)).mono ?_
          rintro e v1 ⟨rfl, hb⟩
          replace HI := FInv.alloc (FInv.call HI hb) (.cells #[.int .i64 0, .int .i64 0] 24)
          replace HL := Lib.hid ((HL.out.call hb).alloc (.cells #[.int .i64 0, .int .i64 0] 24))
          clear hb c0
          go_wp2_with fail
          go_roundw
          case rel => first | exact ⟨2, by omega, by first | rfl | trivial, HI, HL⟩ | ((repeat apply Exists.intro); exact ⟨⟨2, by omega, by first | rfl | trivial, HI, HL⟩, rfl⟩)
          case measure => simp [intOf]
        · clear hj
          have c0 := HL.out.cell 2
          go_wp2_with fail
          refine (HB.out X2 _ (FInv.good HI) (by simp)).mono ?_
          rintro e v1 ⟨rfl, hb⟩
          replace HI := FInv.alloc (FInv.call HI hb) (.cells #[.int .i64 0, .int .i64 0] 24)
          replace HL := Lib.hid ((HL.out.call hb).alloc (.cells #[.int .i64 0, .int .i64 0] 24))
          clear hb c0
          go_wp2_with fail
          go_roundw
          case rel => first | exact ⟨3, by omega, by first | rfl | trivial, HI, HL⟩ | ((repeat apply Exists.intro); exact ⟨⟨3, by omega, by first | rfl | trivial, HI, HL⟩, rfl⟩)
          case measure => simp [intOf]
        · clear hj
          have c0 := HL.out.cell 3
          go_wp2_with fail
          refine (HB.out X3 _ (FInv.good HI) (by simp)).mono ?_
          rintro e v1 ⟨rfl, hb⟩
          replace HI := FInv.alloc (FInv.call HI hb) (.cells #[.int .i64 0, .int .i64 0] 24)
          replace HL := Lib.hid ((HL.out.call hb).alloc (.cells #[.int .i64 0, .int .i64 0] 24))
          clear hb c0
          go_wp2_with fail
          go_roundw
          case rel => first | exact ⟨4, by omega, by first | rfl | trivial, HI, HL⟩ | ((repeat apply Exists.intro); exact ⟨⟨4, by omega, by first | rfl | trivial, HI, HL⟩, rfl⟩)
          case measure => simp [intOf]
        · clear hj
          have c0 := HL.out.cell 4
          go_wp2_with fail
          refine (HB.out X4 _ (FInv.good HI) (by simp)).mono ?_
          rintro e v1 ⟨rfl, hb⟩
          replace HI := FInv.alloc (FInv.call HI hb) (.cells #[.int .i64 0, .int .i64 0] 24)
          replace HL := Lib.hid ((HL.out.call hb).alloc (.cells #[.int .i64 0, .int .i64 0] 24))
          clear hb c0
          go_wp2_with fail
          go_roundw
          case rel => first | exact ⟨5, by omega, by first | rfl | trivial, HI, HL⟩ | ((repeat apply Exists.intro); exact ⟨⟨5, by omega, by first | rfl | trivial, HI, HL⟩, rfl⟩)
          case measure => simp [intOf]
        · clear hj
          have c0 := HL.out.cell 5
          go_wp2_with fail
          refine (HB.out X5 _ (FInv.good HI) (by simp)).mono ?_
          rintro e v1 ⟨rfl, hb⟩
          replace HI := FInv.alloc (FInv.call HI hb) (.cells #[.int .i64 0, .int .i64 0] 24)
          replace HL := Lib.hid ((HL.out.call hb).alloc (.cells #[.int .i64 0, .int .i64 0] 24))
          clear hb c0
          go_wp2_with fail
          go_roundw
          case rel => first | exact ⟨6, by omega, by first | rfl | trivial, HI, HL⟩ | ((repeat apply Exists.intro); exact ⟨⟨6, by omega, by first | rfl | trivial, HI, HL⟩, rfl⟩)
          case measure => simp [intOf]
        · clear hj
          have c0 := HL.out.cell 6
          go_wp2_with fail
          refine (HB.out X6 _ (FInv.good HI) (by simp)).mono ?_
          rintro e v1 ⟨rfl, hb⟩
          replace HI := FInv.alloc (FInv.call HI hb) (.cells #[.int .i64 0, .int .i64 0] 24)
          replace HL := Lib.hid ((HL.out.call hb).alloc (.cells #[.int .i64 0, .int .i64 0] 24))
          clear hb c0
          go_wp2_with fail
          go_roundw
          case rel => first | exact ⟨7, by omega, by first | rfl | trivial, HI, HL⟩ | ((repeat apply Exists.intro); exact ⟨⟨7, by omega, by first | rfl | trivial, HI, HL⟩, rfl⟩)
          case measure => simp [intOf]
        · clear hj
          have c0 := HL.out.cell 7
          go_wp2_with fail
          refine (HB.out X7 _ (FInv.good HI) (by simp)).mono ?_
          rintro e v1 ⟨rfl, hb⟩
          replace HI := FInv.alloc (FInv.call HI hb) (.cells #[.int .i64 0, .int .i64 0] 24)
          replace HL := Lib.hid ((HL.out.call hb).alloc (.cells #[.int .i64 0, .int .i64 0] 24))
          clear hb c0
          go_wp2_with fail
          go_roundw
          case rel => first | exact ⟨8, by omega, by first | rfl | trivial, HI, HL⟩ | ((repeat apply Exists.intro); exact ⟨⟨8, by omega, by first | rfl | trivial, HI, HL⟩, rfl⟩)
          case measure => simp [intOf]
        · clear hj HL
          go_wp2_with fail
          refine (works_any _ (FInv.good HI)).mono ?_
          rintro e v5 ⟨rfl, hb⟩
          replace HI := FInv.call HI hb
          go_wp2_with fail
          go_ret
          exact ⟨rfl, HI.out.2⟩
    · go_wp2_with fail
      refine (HR5.out _ (FInv.good HI)).mono ?_
      rintro e w8 ⟨rfl, hb⟩
      replace HI := FInv.call HI hb
      clear hb
      go_wp2_with fail
      refine (HR6.out _ (FInv.good HI)).mono ?_
      rintro e w8 ⟨rfl, hb⟩
      replace HI := FInv.call HI hb
      clear hb
      go_wp2_with fail
      refine (HR7.out _ (FInv.good HI)).mono ?_
      rintro e w8 ⟨rfl, hb⟩
      replace HI := FInv.call HI hb
      clear hb
      obtain ⟨w9, hw9⟩ : ∃ V, w8 = V := ⟨_, rfl⟩
      rw [hw9] at HI ⊢
      clear hw9
      have HL : Hid (Blk (w9.alloc (.cells #[.string ⟨X0.toArray⟩, .string ⟨X1.toArray⟩, .string ⟨X2.toArray⟩, .string ⟨X3.toArray⟩, .string ⟨X4.toArray⟩, .string ⟨X5.toArray⟩, .string ⟨X6.toArray⟩, .string ⟨X7.toArray⟩] 9)) w9.heap.size 9 #[.string ⟨X0.toArray⟩, .string ⟨X1.toArray⟩, .string ⟨X2.toArray⟩, .string ⟨X3.toArray⟩, .string ⟨X4.toArray⟩, .string ⟨X5.toArray⟩, .string ⟨X6.toArray⟩, .string ⟨X7.toArray⟩]) := Lib.hid (Blk.new _ _ _)
      replace HI := FInv.alloc HI (.cells #[.string ⟨X0.toArray⟩, .string ⟨X1.toArray⟩, .string ⟨X2.toArray⟩, .string ⟨X3.toArray⟩, .string ⟨X4.toArray⟩, .string ⟨X5.toArray⟩, .string ⟨X6.toArray⟩, .string ⟨X7.toArray⟩] 9)
      go_wp2_with fail
      go_loopw [109] (fun i wr => ∃ j : Nat, j ≤ 8 ∧ i = .int .i64 j ∧ Hid (FInv w wr) ∧ Hid (Blk wr w9.heap.size 9 #[.string ⟨X0.toArray⟩, .string ⟨X1.toArray⟩, .string ⟨X2.toArray⟩, .string ⟨X3.toArray⟩, .string ⟨X4.toArray⟩, .string ⟨X5.toArray⟩, .string ⟨X6.toArray⟩, .string ⟨X7.toArray⟩])) (fun i _ => 8 - (intOf i).toNat)
      case atStart => exact ⟨0, by omega, rfl, HI, HL⟩
      case round =>
        clear HI HL
        obtain ⟨j, hj, rfl, HI, HL⟩ := hrel
        rcases (show j = 0 ∨ j = 1 ∨ j = 2 ∨ j = 3 ∨ j = 4 ∨ j = 5 ∨ j = 6 ∨ j = 7 ∨ j = 8 by omega) with rfl | rfl | rfl | rfl | rfl | rfl | rfl | rfl | rfl
        · clear hj
          have c0 := HL.out.cell 0
          go_wp2_with fail
          refine (HB.out X0 _ (FInv.good HI) (by simp)).mono ?_
          rintro e v1 ⟨rfl, hb⟩
          replace HI := FInv.alloc (FInv.call HI hb) (.cells #[.int .i64 0, .int .i64 0] 24)
          replace HL := Lib.hid ((HL.out.call hb).alloc (.cells #[.int .i64 0, .int .i64 0] 24))
          clear hb c0
          go_wp2_with fail
          go_roundw
          case rel => first | exact ⟨1, by omega, by first | rfl | trivial, HI, HL⟩ | ((repeat apply Exists.intro); exact ⟨⟨1, by omega, by first | rfl | trivial, HI, HL⟩, rfl⟩)
          case measure => simp [intOf]
        · clear hj
          have c0 := HL.out.cell 1
          go_wp2_with fail
          refine (HB.out X1 _ (FInv.good HI) (by simp)).mono ?_
          rintro e v1 ⟨rfl, hb⟩
          replace HI := FInv.alloc (FInv.call HI hb) (.cells #[.int .i64 0, .int .i64 0] 24)
          replace HL := Lib.hid ((HL.out.call hb).alloc (.cells #[.int .i64 0, .int .i64 0] 24))
          clear hb c0
          go_wp2_with fail
          go_roundw
          case rel => first | exact ⟨2, by omega, by first | rfl | trivial, HI, HL⟩ | ((repeat apply Exists.intro); exact ⟨⟨2, by omega, by first | rfl | trivial, HI, HL⟩, rfl⟩)
          case measure => simp [intOf]
        · clear hj
          have c0 := HL.out.cell 2
          go_wp2_with fail
          refine (HB.out X2 _ (FInv.good HI) (by simp)).mono ?_
          rintro e v1 ⟨rfl, hb⟩
          replace HI := FInv.alloc (FInv.call HI hb) (.cells #[.int .i64 0, .int .i64 0] 24)
          replace HL := Lib.hid ((HL.out.call hb).alloc (.cells #[.int .i64 0, .int .i64 0] 24))
          clear hb c0
          go_wp2_with fail
          go_roundw
          case rel => first | exact ⟨3, by omega, by first | rfl | trivial, HI, HL⟩ | ((repeat apply Exists.intro); exact ⟨⟨3, by omega, by first | rfl | trivial, HI, HL⟩, rfl⟩)
          case measure => simp [intOf]
        · clear hj
          have c0 := HL.out.cell 3
          go_wp2_with fail
          refine (HB.out X3 _ (FInv.good HI) (by simp)).mono ?_
          rintro e v1 ⟨rfl, hb⟩
          replace HI := FInv.alloc (FInv.call HI hb) (.cells #[.int .i64 0, .int .i64 0] 24)
          replace HL := Lib.hid ((HL.out.call hb).alloc (.cells #[.int .i64 0, .int .i64 0] 24))
          clear hb c0
          go_wp2_with fail
          go_roundw
          case rel => first | exact ⟨4, by omega, by first | rfl | trivial, HI, HL⟩ | ((repeat apply Exists.intro); exact ⟨⟨4, by omega, by first | rfl | trivial, HI, HL⟩, rfl⟩)
          case measure => simp [intOf]
        · clear hj
          have c0 := HL.out.cell 4
          go_wp2_with fail
          refine (HB.out X4 _ (FInv.good HI) (by simp)).mono ?_
          rintro e v1 ⟨rfl, hb⟩
          replace HI := FInv.alloc (FInv.call HI hb) (.cells #[.int .i64 0, .int .i64 0] 24)
          replace HL := Lib.hid ((HL.out.call hb).alloc (.cells #[.int .i64 0, .int .i64 0] 24))
          clear hb c0
          go_wp2_with fail
          go_roundw
          case rel => first | exact ⟨5, by omega, by first | rfl | trivial, HI, HL⟩ | ((repeat apply Exists.intro); exact ⟨⟨5, by omega, by first | rfl | trivial, HI, HL⟩, rfl⟩)
          case measure => simp [intOf]
        · clear hj
          have c0 := HL.out.cell 5
          go_wp2_with fail
          refine (HB.out X5 _ (FInv.good HI) (by simp)).mono ?_
          rintro e v1 ⟨rfl, hb⟩
          replace HI := FInv.alloc (FInv.call HI hb) (.cells #[.int .i64 0, .int .i64 0] 24)
          replace HL := Lib.hid ((HL.out.call hb).alloc (.cells #[.int .i64 0, .int .i64 0] 24))
          clear hb c0
          go_wp2_with fail
          go_roundw
          case rel => first | exact ⟨6, by omega, by first | rfl | trivial, HI, HL⟩ | ((repeat apply Exists.intro); exact ⟨⟨6, by omega, by first | rfl | trivial, HI, HL⟩, rfl⟩)
          case measure => simp [intOf]
        · clear hj
          have c0 := HL.out.cell 6
          go_wp2_with fail
          refine (HB.out X6 _ (FInv.good HI) (by simp)).mono ?_
          rintro e v1 ⟨rfl, hb⟩
          replace HI := FInv.alloc (FInv.call HI hb) (.cells #[.int .i64 0, .int .i64 0] 24)
          replace HL := Lib.hid ((HL.out.call hb).alloc (.cells #[.int .i64 0, .int .i64 0] 24))
          clear hb c0
          go_wp2_with fail
          go_roundw
          case rel => first | exact ⟨7, by omega, by first | rfl | trivial, HI, HL⟩ | ((repeat apply Exists.intro); exact ⟨⟨7, by omega, by first | rfl | trivial, HI, HL⟩, rfl⟩)
          case measure => simp [intOf]
        · clear hj
          have c0 := HL.out.cell 7
          go_wp2_with fail
          refine (HB.out X7 _ (FInv.good HI) (by simp)).mono ?_
          rintro e v1 ⟨rfl, hb⟩
          replace HI := FInv.alloc (FInv.call HI hb) (.cells #[.int .i64 0, .int .i64 0] 24)
          replace HL := Lib.hid ((HL.out.call hb).alloc (.cells #[.int .i64 0, .int .i64 0] 24))
          clear hb c0
          go_wp2_with fail
          go_roundw
          case rel => first | exact ⟨8, by omega, by first | rfl | trivial, HI, HL⟩ | ((repeat apply Exists.intro); exact ⟨⟨8, by omega, by first | rfl | trivial, HI, HL⟩, rfl⟩)
          case measure => simp [intOf]
        · clear hj HL
          go_wp2_with fail
          refine (works_any _ (FInv.good HI)).mono ?_
          rintro e v5 ⟨rfl, hb⟩
          replace HI := FInv.call HI hb
          go_wp2_with fail
          go_ret
          exact ⟨rfl, HI.out.2⟩

theorem repl_any (l c : Int) (hl : (Pl.text l c).length ≤ 1000) (new : List UInt8) (hn : new ≠ [58]) (hk : new.length ≤ 5) (w : World) (hG : Good w) :
    Calls Tryd.prog 30 #[.string ⟨(Pl.text l c).toArray⟩, .string ⟨#[58]⟩, .string ⟨new.toArray⟩, .int .i64 1] w fun e w' => e = .returned (.string ⟨(Lib.itoa l ++ (new ++ Lib.itoa c)).toArray⟩) ∧ Below w.heap.size w w' := by
  obtain ⟨m, hm⟩ := hG.ml
  have hc := Lib.countB_le ⟨#[58]⟩ (by decide) 1000 ⟨(Pl.text l c).toArray⟩ (by rw [mk_size]; exact hl)
  rw [mk_size] at hc
  have hle : Lib.countB ⟨(Pl.text l c).toArray⟩ ⟨#[58]⟩ * new.length ≤ 1000 * 5 := Nat.mul_le_mul (by omega) hk
  have := Tryd.strings_Replace ⟨(Pl.text l c).toArray⟩ ⟨#[58]⟩ ⟨new.toArray⟩ 1 m w (by rw [mk_size]; omega) hm (by decide) (by rw [mk_size, mk_size]; omega)
  have e : Lib.replace (⟨(Pl.text l c).toArray⟩ : ByteArray).data.toList (⟨#[58]⟩ : ByteArray).data.toList (⟨new.toArray⟩ : ByteArray).data.toList 1 = Lib.itoa l ++ (new ++ Lib.itoa c) := Pl.replace_colon l c new hn
  rw [e] at this
  exact this
theorem parse_some (s : List UInt8) (hs : s.length ≤ 1000000) (l c : Int) (h : Pl.pread s = some (l, c)) (w : World) (hG : Good w) :
    Calls Tryd.prog 22 #[.string ⟨s.toArray⟩] w fun e w' => e = .returned (.tuple #[.agg #[.int .i64 l, .int .i64 c], .int .i64 0]) ∧ Below w.heap.size w w' := by
  have := pparse_any s hs w hG
  unfold prL prC prE at this
  rw [h] at this
  exact this
theorem parse_none (s : List UInt8) (hs : s.length ≤ 1000000) (h : Pl.pread s = none) (w : World) (hG : Good w) :
    Calls Tryd.prog 22 #[.string ⟨s.toArray⟩] w fun e w' => e = .returned (.tuple #[.agg #[.int .i64 0, .int .i64 0], .int .i64 7]) ∧ Below w.heap.size w w' := by
  have := pparse_any s hs w hG
  unfold prL prC prE at this
  rw [h] at this
  exact this
set_option maxRecDepth 100000 in
theorem placeDecoded_walk (lu : Int) (l0 : 0 ≤ lu) (l1 : lu ≤ 4294967295) (cu : Int) (c0 : 0 ≤ cu) (c1 : cu ≤ 4294967295) (d : Int) (d0 : 0 ≤ d) (d1 : d ≤ 255) (w : World) (hG : Good w) :
    Calls Tryd.prog 10 #[.int .u32 lu, .int .u32 cu, .int .u8 d] w fun e w' => e = .returned (.bool true) ∧ Below w.heap.size w w' := by
  obtain ⟨d, rfl⟩ : ∃ b : UInt8, d = (b.toNat : Int) := ⟨UInt8.ofNat d.toNat, by
    have : (UInt8.ofNat d.toNat).toNat = d.toNat := by rw [UInt8.toNat_ofNat']; exact Nat.mod_eq_of_lt (by omega)
    omega⟩
  have hok : Pl.okP (1 + lu) (1 + cu) := ⟨by omega, by omega, by omega, by omega⟩
  have n1 := itoa_len (n := 1 + lu) (by omega) (by omega)
  have n2 := itoa_len (n := 1 + cu) (by omega) (by omega)
  have hS : (Pl.text (1 + lu) (1 + cu)).length ≤ 41 := by unfold Pl.text; rw [List.length_append, List.length_cons]; omega
  have hp : Pl.pread (Pl.text (1 + lu) (1 + cu)) = some (1 + lu, 1 + cu) := Pl.pread_iff.2 ⟨hok, rfl⟩
  have hbl : ∀ x ∈ Pl.bads (1 + lu) (1 + cu), x.length ≤ 100 := by
    intro x hx
    unfold Pl.bads at hx
    simp only [List.mem_cons, List.not_mem_nil, or_false] at hx
    rcases hx with rfl | rfl | rfl | rfl | rfl | rfl | rfl | rfl <;> simp only [List.length_cons, List.length_append, List.length_nil] <;> omega
  have HT : ∀ W, Good W → Calls Tryd.prog 20 #[.agg #[.int .i64 (1 + lu), .int .i64 (1 + cu)]] W fun e w' => e = .returned (.tuple #[.string ⟨(Pl.text (1 + lu) (1 + cu)).toArray⟩, .int .i64 0]) ∧ Below W.heap.size W w' := fun W hG => by
    have := text_any (1 + lu) (1 + cu) (by omega) (by omega) (by omega) (by omega) W hG
    unfold txS txE at this
    rw [if_pos ⟨by omega, by omega⟩, if_pos ⟨by omega, by omega⟩] at this
    exact this
  have hM : ∃ lm c' e', (∀ W, Good W → Calls Tryd.prog 22 #[.string ⟨(Pl.text (1 + lu) (1 + cu) ++ [d]).toArray⟩] W fun e w' => e = .returned (.tuple #[.agg #[.int .i64 lm, .int .i64 c'], .int .i64 e']) ∧ Below W.heap.size W w') ∧
      ((48 ≤ (d.toNat : Int) ∧ (d.toNat : Int) ≤ 57 ∧ e' = 0 ∧ lm = 1 + lu ∧ c' = 10 * (1 + cu) + ((d.toNat : Int) - 48)) ∨ (((d.toNat : Int) < 48 ∨ 57 < (d.toNat : Int)) ∧ e' = 7 ∧ lm = 0 ∧ c' = 0)) := by
    by_cases hd : Dec.isDig d
    · have hd2 := hd
      unfold Dec.isDig at hd2
      exact ⟨_, _, _, fun W hG => parse_some _ (by rw [List.length_append, List.length_singleton]; omega) _ _ (Pl.read_more hok hd (by omega)) W hG, .inl ⟨by omega, by omega, rfl, rfl, rfl⟩⟩
    · have hd2 := hd
      unfold Dec.isDig at hd2
      exact ⟨_, _, _, fun W hG => parse_none _ (by rw [List.length_append, List.length_singleton]; omega) (Pl.read_wrong hd) W hG, .inr ⟨by omega, rfl, rfl, rfl⟩⟩
  obtain ⟨lm, c', e', hM1, hM2⟩ := hM
  refine decoded_main lu cu d (Pl.text (1 + lu) (1 + cu)) (Pl.text (1 + lu) (1 + cu) ++ [d]) (48 :: (Pl.text (1 + lu) (1 + cu))) (43 :: (Pl.text (1 + lu) (1 + cu))) (32 :: (Pl.text (1 + lu) (1 + cu))) ((Pl.text (1 + lu) (1 + cu)) ++ [58, 49]) (58 :: (Pl.text (1 + lu) (1 + cu))) (Lib.itoa (1 + lu) ++ Lib.itoa (1 + cu)) (Lib.itoa (1 + lu) ++ 58 :: 48 :: Lib.itoa (1 + cu)) (Lib.itoa (1 + lu) ++ 59 :: Lib.itoa (1 + cu)) c' e' lm w hG l0 l1 c0 c1 (by omega) (Lib.hid HT) (Lib.hid fun W hG => parse_some _ (by omega) _ _ hp W hG) (Lib.hid hM1) (by rw [ByteArray.mk_append_mk]) (Lib.hid hM2)
    (Lib.hid ⟨by rw [show (⟨#[48]⟩ : ByteArray) = ⟨[48].toArray⟩ from rfl, ByteArray.mk_append_mk]; rfl, by rw [show (⟨#[43]⟩ : ByteArray) = ⟨[43].toArray⟩ from rfl, ByteArray.mk_append_mk]; rfl, by rw [show (⟨#[32]⟩ : ByteArray) = ⟨[32].toArray⟩ from rfl, ByteArray.mk_append_mk]; rfl, by rw [show (⟨#[58, 49]⟩ : ByteArray) = ⟨[58, 49].toArray⟩ from rfl, ByteArray.mk_append_mk], by rw [show (⟨#[58]⟩ : ByteArray) = ⟨[58].toArray⟩ from rfl, ByteArray.mk_append_mk]; rfl⟩)
    (Lib.hid fun W hG => repl_any _ _ (by omega) [] (by simp) (by simp) W hG) (Lib.hid fun W hG => repl_any _ _ (by omega) [58, 48] (by simp) (by simp) W hG) (Lib.hid fun W hG => repl_any _ _ (by omega) [59] (by simp) (by simp) W hG)
    (Lib.hid fun x W hG hx => parse_none x (by have := hbl x hx; omega) (Pl.bads_none x hx) W hG)
end Go.Proofs.YtmoeglecdojhcaaDoor

/-
  LAYER 23: instructions are decoded from their strings: the statement's walk.
-/
import Derived.Test.YtmmehfkiceelkaaGreatDoorCdW
import Derived.Test.YtmmehfkiceelkaaGreatDoorCdB
import Derived.Deep.CutBlock
import Derived.Deep.DeepCutAuto
namespace Go.Proofs.YtmmehfkiceelkaaGreatDoor
open Go.ChangeShapes Go.WideShapes Go.ChangeAt Go.RowKit

/-- The arguments' blocks. -/
def BK (w : World) (x0 x1 y0 y1 : Int) (W : World) : Prop := (Good W ∧ Below w.heap.size w W) ∧ Blk W w.heap.size 23 #[.int .i64 x0, .int .i64 x1] ∧ Blk W (w.heap.size + 1) 23 #[.int .i64 y0, .int .i64 y1]
section
variable {w W W' : World} {x0 x1 y0 y1 : Int}
theorem BK.new (hG : Good w) : Hid (BK w x0 x1 y0 y1 ((w.alloc (.cells #[.int .i64 x0, .int .i64 x1] 23)).alloc (.cells #[.int .i64 y0, .int .i64 y1] 23))) := Lib.hid (by
  refine ⟨⟨(hG.alloc _).alloc _, below_new (below_new (Below.refl _ _) _) _⟩, (Blk.new _ _ _).alloc _, ?_⟩
  have h := Blk.new (w.alloc (.cells #[.int .i64 x0, .int .i64 x1] 23)) 23 #[.int .i64 y0, .int .i64 y1]
  rw [World.size_alloc] at h
  exact h)
theorem BK.call (h : Hid (BK w x0 x1 y0 y1 W)) (hb : Below W.heap.size W W') : Hid (BK w x0 x1 y0 y1 W') := Lib.hid ⟨⟨h.out.1.1.call hb, below_call h.out.1.2 hb⟩, h.out.2.1.call hb, h.out.2.2.call hb⟩
theorem BK.alloc (h : Hid (BK w x0 x1 y0 y1 W)) (o : Obj) : Hid (BK w x0 x1 y0 y1 (W.alloc o)) := Lib.hid ⟨⟨h.out.1.1.alloc _, below_new h.out.1.2 _⟩, h.out.2.1.alloc _, h.out.2.2.alloc _⟩
theorem BK.good (h : Hid (BK w x0 x1 y0 y1 W)) : Good W := h.out.1.1
theorem BK.inv (h : Hid (BK w x0 x1 y0 y1 W)) : Hid (FInv w W) := Lib.hid h.out.1
end
theorem lower_any (s : List UInt8) (hs : s.length ≤ 1000) (ha : ∀ b ∈ s, b.toNat < 128) (w : World) :
    Calls Tryz.prog 9 #[.string ⟨s.toArray⟩] w fun e w' => e = .returned (.string ⟨(Lib.toLowerA s).toArray⟩) ∧ Below w.heap.size w w' := by
  refine Tryz.strings_ToLower_ascii ⟨s.toArray⟩ w ?_ ?_
  · show s.toArray.size ≤ 140737488355328
    rw [List.size_toArray]
    omega
  · intro j b hb
    exact ha b (List.mem_of_getElem? hb)

set_option maxHeartbeats 4000000 in
set_option maxRecDepth 100000 in
theorem back_none (op a op' a' : Int) (ht : Cd.text op a = none) (TY : List UInt8) (EY : Int) (w : World) (hG : Good w)
    (HX : Hid (∀ W, Good W → Calls Tryz.prog 4 #[.agg #[.int .i64 op, .int .i64 a]] W fun e w' => e = .returned (.tuple #[.string ⟨#[]⟩, .int .i64 2]) ∧ Below W.heap.size W w'))
    (HY : Hid (∀ W, Good W → Calls Tryz.prog 4 #[.agg #[.int .i64 op', .int .i64 a']] W fun e w' => e = .returned (.tuple #[.string ⟨TY.toArray⟩, .int .i64 EY]) ∧ Below W.heap.size W w')) :
    Calls Tryz.prog 3 #[.agg #[.int .i64 op, .int .i64 a], .agg #[.int .i64 op', .int .i64 a']] w fun e w' => e = .returned (.bool true) ∧ Below w.heap.size w w' := by
  have HB := BK.new (x0 := op) (x1 := a) (y0 := op') (y1 := a') hG
  clear hG
  have HC : (op < 1 ∨ (1 ≤ op ∧ 17 < op)) ∨ ((op = 11 ∨ op = 12 ∨ op = 15) ∧ a ≠ 0) := by
    unfold Cd.text at ht
    split at ht
    · rename_i hk
      split at ht
      · rename_i hb
        refine .inr ⟨?_, ?_⟩
        · unfold Cd.bare at hb
          have h : op.toNat = 11 ∨ op.toNat = 12 ∨ op.toNat = 15 := by simpa [or_assoc] using hb
          have := hk.1
          omega
        · rintro rfl
          rw [if_pos rfl] at ht
          cases ht
      · cases ht
    · rename_i hk
      unfold Cd.known at hk
      exact .inl (by omega)
  clear ht
  rcases HC with (h | ⟨h, h2⟩) | ⟨rfl | rfl | rfl, ha⟩
  · skip
    have b11 : (op == 11) = false := by simp; omega
    have b12 : (op == 12) = false := by simp; omega
    have b15 : (op == 15) = false := by simp; omega
    go_enter Tryz.func3, Tryz.ntmps3
    go_wp2_with fail
    refine (HX.out _ (BK.good HB)).mono ?_
    rintro e w2 ⟨rfl, b⟩
    replace HB := BK.call HB b
    clear b
    have y0 := HB.out.2.2.cell 0
    have y1 := HB.out.2.2.cell 1
    go_wp2_with fail
    clear y0 y1
    refine (HY.out _ (BK.good HB)).mono ?_
    rintro e w3 ⟨rfl, b⟩
    replace HB := BK.call HB b
    clear b
    have x0 := HB.out.2.1.cell 0
    have x1 := HB.out.2.1.cell 1
    go_wp2_with fail
    clear x0 x1
    refine (works_any _ (BK.good HB)).mono ?_
    rintro e w4 ⟨rfl, b⟩
    replace HB := BK.call HB b
    clear b
    go_wp2_with fail
    go_ret
    exact ⟨rfl, HB.out.1.2⟩
  · skip
    have b11 : (op == 11) = false := by simp; omega
    have b12 : (op == 12) = false := by simp; omega
    have b15 : (op == 15) = false := by simp; omega
    have h3 : ¬ op ≤ 17 := by omega
    go_enter Tryz.func3, Tryz.ntmps3
    go_wp2_with fail
    refine (HX.out _ (BK.good HB)).mono ?_
    rintro e w2 ⟨rfl, b⟩
    replace HB := BK.call HB b
    clear b
    have y0 := HB.out.2.2.cell 0
    have y1 := HB.out.2.2.cell 1
    go_wp2_with fail
    clear y0 y1
    refine (HY.out _ (BK.good HB)).mono ?_
    rintro e w3 ⟨rfl, b⟩
    replace HB := BK.call HB b
    clear b
    have x0 := HB.out.2.1.cell 0
    have x1 := HB.out.2.1.cell 1
    go_wp2_with fail
    clear x0 x1
    refine (works_any _ (BK.good HB)).mono ?_
    rintro e w4 ⟨rfl, b⟩
    replace HB := BK.call HB b
    clear b
    go_wp2_with fail
    go_ret
    exact ⟨rfl, HB.out.1.2⟩
  · skip
    have ha2 : (a != 0) = true := by simpa using ha
    go_enter Tryz.func3, Tryz.ntmps3
    go_wp2_with fail
    refine (HX.out _ (BK.good HB)).mono ?_
    rintro e w2 ⟨rfl, b⟩
    replace HB := BK.call HB b
    clear b
    have y0 := HB.out.2.2.cell 0
    have y1 := HB.out.2.2.cell 1
    go_wp2_with fail
    clear y0 y1
    refine (HY.out _ (BK.good HB)).mono ?_
    rintro e w3 ⟨rfl, b⟩
    replace HB := BK.call HB b
    clear b
    have x0 := HB.out.2.1.cell 0
    have x1 := HB.out.2.1.cell 1
    go_wp2_with fail
    clear x0 x1
    refine (works_any _ (BK.good HB)).mono ?_
    rintro e w4 ⟨rfl, b⟩
    replace HB := BK.call HB b
    clear b
    go_wp2_with fail
    go_ret
    exact ⟨rfl, HB.out.1.2⟩
  · skip
    have ha2 : (a != 0) = true := by simpa using ha
    go_enter Tryz.func3, Tryz.ntmps3
    go_wp2_with fail
    refine (HX.out _ (BK.good HB)).mono ?_
    rintro e w2 ⟨rfl, b⟩
    replace HB := BK.call HB b
    clear b
    have y0 := HB.out.2.2.cell 0
    have y1 := HB.out.2.2.cell 1
    go_wp2_with fail
    clear y0 y1
    refine (HY.out _ (BK.good HB)).mono ?_
    rintro e w3 ⟨rfl, b⟩
    replace HB := BK.call HB b
    clear b
    have x0 := HB.out.2.1.cell 0
    have x1 := HB.out.2.1.cell 1
    go_wp2_with fail
    clear x0 x1
    refine (works_any _ (BK.good HB)).mono ?_
    rintro e w4 ⟨rfl, b⟩
    replace HB := BK.call HB b
    clear b
    go_wp2_with fail
    go_ret
    exact ⟨rfl, HB.out.1.2⟩
  · skip
    have ha2 : (a != 0) = true := by simpa using ha
    go_enter Tryz.func3, Tryz.ntmps3
    go_wp2_with fail
    refine (HX.out _ (BK.good HB)).mono ?_
    rintro e w2 ⟨rfl, b⟩
    replace HB := BK.call HB b
    clear b
    have y0 := HB.out.2.2.cell 0
    have y1 := HB.out.2.2.cell 1
    go_wp2_with fail
    clear y0 y1
    refine (HY.out _ (BK.good HB)).mono ?_
    rintro e w3 ⟨rfl, b⟩
    replace HB := BK.call HB b
    clear b
    have x0 := HB.out.2.1.cell 0
    have x1 := HB.out.2.1.cell 1
    go_wp2_with fail
    clear x0 x1
    refine (works_any _ (BK.good HB)).mono ?_
    rintro e w4 ⟨rfl, b⟩
    replace HB := BK.call HB b
    clear b
    go_wp2_with fail
    go_ret
    exact ⟨rfl, HB.out.1.2⟩

set_option maxHeartbeats 8000000 in
set_option maxRecDepth 100000 in
theorem back_some (op a op' a' : Int) (S TY WD NB Y4 Y5 Y6 X0 X1 X2 X3 X4 X5 X6 : List UInt8) (EY : Int) (MR : Bool) (a0 : -9223372036854775808 ≤ a) (a1 : a ≤ 9223372036854775807) (w : World) (hG : Good w)
    (HX : Hid (∀ W, Good W → Calls Tryz.prog 4 #[.agg #[.int .i64 op, .int .i64 a]] W fun e w' => e = .returned (.tuple #[.string ⟨S.toArray⟩, .int .i64 0]) ∧ Below W.heap.size W w'))
    (HY : Hid (∀ W, Good W → Calls Tryz.prog 4 #[.agg #[.int .i64 op', .int .i64 a']] W fun e w' => e = .returned (.tuple #[.string ⟨TY.toArray⟩, .int .i64 EY]) ∧ Below W.heap.size W w'))
    (HP : Hid (∀ W, Good W → Calls Tryz.prog 6 #[.string ⟨S.toArray⟩] W fun e w' => e = .returned (.tuple #[.agg #[.int .i64 op, .int .i64 a], .int .i64 0]) ∧ Below W.heap.size W w'))
    (HC : Hid (∀ W, Good W → Calls Tryz.prog 7 #[.string ⟨S.toArray⟩, .string ⟨#[32]⟩] W fun e w' => e = .returned (.tuple #[.string ⟨WD.toArray⟩, .string ⟨NB.toArray⟩, .bool MR]) ∧ Below W.heap.size W w'))
    (HL : Hid (∀ W, Calls Tryz.prog 9 #[.string ⟨S.toArray⟩] W fun e w' => e = .returned (.string ⟨X3.toArray⟩) ∧ Below W.heap.size W w'))
    (HE : Hid ((EY = 2) ∨ (EY = 0 ∧ S = TY ∧ op = op' ∧ a = a') ∨ (EY = 0 ∧ S ≠ TY ∧ op ≠ op') ∨ (EY = 0 ∧ S ≠ TY ∧ op = op' ∧ a ≠ a')))
    (HM : Hid (WD ≠ [] ∧ ((MR = false ∧ NB = []) ∨ (MR = true ∧ NB = Lib.itoa a ∧ NB ≠ []))))
    (hl : S.length ≤ 1000) (hw : WD.length ≤ 1000) (h4 : Y4.length ≤ 1000) (h5 : Y5.length ≤ 1000) (h6 : Y6.length ≤ 1000) (hn : NB.length ≤ 1000)
    (HX0 : Hid ((⟨#[32]⟩ : ByteArray) ++ ⟨S.toArray⟩ = ⟨X0.toArray⟩ ∧ (⟨S.toArray⟩ : ByteArray) ++ ⟨#[32]⟩ = ⟨X1.toArray⟩ ∧ (⟨S.toArray⟩ : ByteArray) ++ ⟨#[32, 48]⟩ = ⟨X2.toArray⟩ ∧ (⟨WD.toArray⟩ : ByteArray) ++ ⟨#[32, 32]⟩ = ⟨Y4.toArray⟩ ∧ (⟨WD.toArray⟩ : ByteArray) ++ ⟨#[32, 48]⟩ = ⟨Y5.toArray⟩ ∧ (⟨WD.toArray⟩ : ByteArray) ++ ⟨#[32, 43]⟩ = ⟨Y6.toArray⟩ ∧ (⟨Y4.toArray⟩ : ByteArray) ++ ⟨NB.toArray⟩ = ⟨X4.toArray⟩ ∧ (⟨Y5.toArray⟩ : ByteArray) ++ ⟨NB.toArray⟩ = ⟨X5.toArray⟩ ∧ (⟨Y6.toArray⟩ : ByteArray) ++ ⟨NB.toArray⟩ = ⟨X6.toArray⟩))
    (HN : Hid (∀ x W, Good W → x ∈ [X0, X1, X2, X3, X4, X5, X6] → Calls Tryz.prog 6 #[.string ⟨x.toArray⟩] W fun e w' => e = .returned (.tuple #[.agg #[.int .i64 0, .int .i64 0], .int .i64 7]) ∧ Below W.heap.size W w')) :
    Calls Tryz.prog 3 #[.agg #[.int .i64 op, .int .i64 a], .agg #[.int .i64 op', .int .i64 a']] w fun e w' => e = .returned (.bool true) ∧ Below w.heap.size w w' := by
  have HB := BK.new (x0 := op) (x1 := a) (y0 := op') (y1 := a') hG
  clear hG
  go_enter Tryz.func3, Tryz.ntmps3
  go_wp2_with fail
  refine (HX.out _ (BK.good HB)).mono ?_
  rintro e w2 ⟨rfl, b⟩
  replace HB := BK.call HB b
  clear b
  have y0 := HB.out.2.2.cell 0
  have y1 := HB.out.2.2.cell 1
  go_wp2_with fail
  clear y0 y1
  refine (HY.out _ (BK.good HB)).mono ?_
  rintro e w3 ⟨rfl, b⟩
  replace HB := BK.call HB b
  clear b
  go_wp2_with fail
  refine (HP.out _ (BK.good HB)).mono ?_
  rintro e w4 ⟨rfl, b⟩
  replace HB := BK.alloc (BK.call HB b) (.cells #[.int .i64 op, .int .i64 a] 23)
  have HK := Lib.hid (Blk.new w4 23 #[.int .i64 op, .int .i64 a])
  clear b HX HY HP
  have x0 := HB.out.2.1.cell 0
  have x1 := HB.out.2.1.cell 1
  have y0 := HB.out.2.2.cell 0
  have y1 := HB.out.2.2.cell 1
  have z0 := HK.out.cell 0
  have z1 := HK.out.cell 1
  go_upto_region 8 with fail
  go_cut [98] (fun s wx => s = .bool false ∧ w4.alloc (.cells #[.int .i64 op, .int .i64 a] 23) = wx)
  case first =>
    rcases HE.out with rfl | ⟨rfl, rfl, rfl, rfl⟩ | ⟨rfl, hS, ho⟩ | ⟨rfl, hS, rfl, ha⟩
    · go_wp2_with fail
      go_meet
      exact ⟨rfl, rfl⟩
    · go_wp2_with fail
      go_meet
      exact ⟨rfl, rfl⟩
    · have hS2 : (S == TY) = false := by simpa using hS
      have ho2 : (op == op') = false := by simpa using ho
      go_wp2_with fail
      go_meet
      exact ⟨rfl, rfl⟩
    · have hS2 : (S == TY) = false := by simpa using hS
      have ha2 : (a == a') = false := by simpa using ha
      go_wp2_with fail
      go_meet
      exact ⟨rfl, rfl⟩
  case rest =>
    obtain ⟨rfl, rfl⟩ := hcut
    clear x0 x1 y0 y1 z0 z1 HK HE
    go_wp2_with fail
    refine (HC.out _ (BK.good HB)).mono ?_
    rintro e w5 ⟨rfl, b⟩
    replace HB := BK.call HB b
    clear b HC
    have x0 := HB.out.2.1.cell 0
    have x1 := HB.out.2.1.cell 1
    go_upto_region 11 with fail
    go_cut [122] (fun s wx => s = .bool false ∧ Hid (BK w op a op' a' wx))
    case first =>
      obtain ⟨hWD, hcase⟩ := HM.out
      have hW2 : WD.isEmpty = false := by simpa using hWD
      rcases hcase with ⟨rfl, rfl⟩ | ⟨rfl, rfl, hNB⟩
      · go_wp2_with fail
        go_meet
        exact ⟨rfl, HB⟩
      · have hN2 : (Lib.itoa a).isEmpty = false := by simpa using hNB
        have HF := Lib.hid fun W hG => itoa_any a a0 a1 W hG
        clear hWD hNB
        go_wp2_with fail
        refine (HF.out _ (BK.good HB)).mono ?_
        rintro e w6 ⟨rfl, b⟩
        replace HB := BK.call HB b
        clear b
        go_wp2_with fail
        go_meet
        exact ⟨rfl, HB⟩
    case rest =>
      clear HB x0 x1
      obtain ⟨rfl, HB⟩ := hcut
      obtain ⟨e0, e1, e2, e4, e5, e6, f4, f5, f6⟩ := HX0.out
      have k1 : ¬ 9223372036854775807 < 1 + S.length := by omega
      have k2 : ¬ 9223372036854775807 < S.length + 1 := by omega
      have k3 : ¬ 9223372036854775807 < S.length + 2 := by omega
      have k4 : ¬ 9223372036854775807 < WD.length + 2 := by omega
      have k5 : ¬ 9223372036854775807 < Y4.length + NB.length := by omega
      have k6 : ¬ 9223372036854775807 < Y5.length + NB.length := by omega
      have k7 : ¬ 9223372036854775807 < Y6.length + NB.length := by omega
      have HI := BK.inv HB
      clear HB HM HX0 hl hw h4 h5 h6 hn a0 a1
      go_wp2_with fail
      refine (HL.out _).mono ?_
      rintro e w7 ⟨rfl, b⟩
      replace HI := FInv.call HI b
      clear b HL
      have HLs : Hid (Blk (w7.alloc (.cells #[.string ⟨X0.toArray⟩, .string ⟨X1.toArray⟩, .string ⟨X2.toArray⟩, .string ⟨X3.toArray⟩, .string ⟨X4.toArray⟩, .string ⟨X5.toArray⟩, .string ⟨X6.toArray⟩] 9)) w7.heap.size 9 #[.string ⟨X0.toArray⟩, .string ⟨X1.toArray⟩, .string ⟨X2.toArray⟩, .string ⟨X3.toArray⟩, .string ⟨X4.toArray⟩, .string ⟨X5.toArray⟩, .string ⟨X6.toArray⟩]) := Lib.hid (Blk.new _ _ _)
      replace HI := FInv.alloc HI (.cells #[.string ⟨X0.toArray⟩, .string ⟨X1.toArray⟩, .string ⟨X2.toArray⟩, .string ⟨X3.toArray⟩, .string ⟨X4.toArray⟩, .string ⟨X5.toArray⟩, .string ⟨X6.toArray⟩] 9)
      go_wp2_with fail
      clear e0 e1 e2 e4 e5 e6 f4 f5 f6 k1 k2 k3 k4 k5 k6 k7
      go_loopw [145] (fun i wr => ∃ j : Nat, j ≤ 7 ∧ i = .int .i64 j ∧ Hid (FInv w wr) ∧ Hid (Blk wr w7.heap.size 9 #[.string ⟨X0.toArray⟩, .string ⟨X1.toArray⟩, .string ⟨X2.toArray⟩, .string ⟨X3.toArray⟩, .string ⟨X4.toArray⟩, .string ⟨X5.toArray⟩, .string ⟨X6.toArray⟩])) (fun i _ => 7 - (intOf i).toNat)
      case atStart => exact ⟨0, by omega, rfl, HI, HLs⟩
      case round =>
        clear HI HLs
        obtain ⟨j, hj, rfl, HI, HLs⟩ := hrel
        rcases (show j = 0 ∨ j = 1 ∨ j = 2 ∨ j = 3 ∨ j = 4 ∨ j = 5 ∨ j = 6 ∨ j = 7 by omega) with rfl | rfl | rfl | rfl | rfl | rfl | rfl | rfl
        · clear hj
          have c0 := HLs.out.cell 0
          go_wp2_with fail
          refine (HN.out X0 _ (FInv.good HI) (by simp)).mono ?_
          rintro e v1 ⟨rfl, b⟩
          replace HI := FInv.alloc (FInv.call HI b) (.cells #[.int .i64 0, .int .i64 0] 23)
          replace HLs := Lib.hid ((HLs.out.call b).alloc (.cells #[.int .i64 0, .int .i64 0] 23))
          clear b c0
          go_wp2_with fail
          go_roundw
          case rel => first | exact ⟨1, by omega, by first | rfl | trivial, HI, HLs⟩ | ((repeat apply Exists.intro); exact ⟨⟨1, by omega, by first | rfl | trivial, HI, HLs⟩, rfl⟩)
          case measure => simp [intOf]
        · clear hj
          have c0 := HLs.out.cell 1
          go_wp2_with fail
          refine (HN.out X1 _ (FInv.good HI) (by simp)).mono ?_
          rintro e v1 ⟨rfl, b⟩
          replace HI := FInv.alloc (FInv.call HI b) (.cells #[.int .i64 0, .int .i64 0] 23)
          replace HLs := Lib.hid ((HLs.out.call b).alloc (.cells #[.int .i64 0, .int .i64 0] 23))
          clear b c0
          go_wp2_with fail
          go_roundw
          case rel => first | exact ⟨2, by omega, by first | rfl | trivial, HI, HLs⟩ | ((repeat apply Exists.intro); exact ⟨⟨2, by omega, by first | rfl | trivial, HI, HLs⟩, rfl⟩)
          case measure => simp [intOf]
        · clear hj
          have c0 := HLs.out.cell 2
          go_wp2_with fail
          refine (HN.out X2 _ (FInv.good HI) (by simp)).mono ?_
          rintro e v1 ⟨rfl, b⟩
          replace HI := FInv.alloc (FInv.call HI b) (.cells #[.int .i64 0, .int .i64 0] 23)
          replace HLs := Lib.hid ((HLs.out.call b).alloc (.cells #[.int .i64 0, .int .i64 0] 23))
          clear b c0
          go_wp2_with fail
          go_roundw
          case rel => first | exact ⟨3, by omega, by first | rfl | trivial, HI, HLs⟩ | ((repeat apply Exists.intro); exact ⟨⟨3, by omega, by first | rfl | trivial, HI, HLs⟩, rfl⟩)
          case measure => simp [intOf]
        · clear hj
          have c0 := HLs.out.cell 3
          go_wp2_with fail
          refine (HN.out X3 _ (FInv.good HI) (by simp)).mono ?_
          rintro e v1 ⟨rfl, b⟩
          replace HI := FInv.alloc (FInv.call HI b) (.cells #[.int .i64 0, .int .i64 0] 23)
          replace HLs := Lib.hid ((HLs.out.call b).alloc (.cells #[.int .i64 0, .int .i64 0] 23))
          clear b c0
          go_wp2_with fail
          go_roundw
          case rel => first | exact ⟨4, by omega, by first | rfl | trivial, HI, HLs⟩ | ((repeat apply Exists.intro); exact ⟨⟨4, by omega, by first | rfl | trivial, HI, HLs⟩, rfl⟩)
          case measure => simp [intOf]
        · clear hj
          have c0 := HLs.out.cell 4
          go_wp2_with fail
          refine (HN.out X4 _ (FInv.good HI) (by simp)).mono ?_
          rintro e v1 ⟨rfl, b⟩
          replace HI := FInv.alloc (FInv.call HI b) (.cells #[.int .i64 0, .int .i64 0] 23)
          replace HLs := Lib.hid ((HLs.out.call b).alloc (.cells #[.int .i64 0, .int .i64 0] 23))
          clear b c0
          go_wp2_with fail
          go_roundw
          case rel => first | exact ⟨5, by omega, by first | rfl | trivial, HI, HLs⟩ | ((repeat apply Exists.intro); exact ⟨⟨5, by omega, by first | rfl | trivial, HI, HLs⟩, rfl⟩)
          case measure => simp [intOf]
        · clear hj
          have c0 := HLs.out.cell 5
          go_wp2_with fail
          refine (HN.out X5 _ (FInv.good HI) (by simp)).mono ?_
          rintro e v1 ⟨rfl, b⟩
          replace HI := FInv.alloc (FInv.call HI b) (.cells #[.int .i64 0, .int .i64 0] 23)
          replace HLs := Lib.hid ((HLs.out.call b).alloc (.cells #[.int .i64 0, .int .i64 0] 23))
          clear b c0
          go_wp2_with fail
          go_roundw
          case rel => first | exact ⟨6, by omega, by first | rfl | trivial, HI, HLs⟩ | ((repeat apply Exists.intro); exact ⟨⟨6, by omega, by first | rfl | trivial, HI, HLs⟩, rfl⟩)
          case measure => simp [intOf]
        · clear hj
          have c0 := HLs.out.cell 6
          go_wp2_with fail
          refine (HN.out X6 _ (FInv.good HI) (by simp)).mono ?_
          rintro e v1 ⟨rfl, b⟩
          replace HI := FInv.alloc (FInv.call HI b) (.cells #[.int .i64 0, .int .i64 0] 23)
          replace HLs := Lib.hid ((HLs.out.call b).alloc (.cells #[.int .i64 0, .int .i64 0] 23))
          clear b c0
          go_wp2_with fail
          go_roundw
          case rel => first | exact ⟨7, by omega, by first | rfl | trivial, HI, HLs⟩ | ((repeat apply Exists.intro); exact ⟨⟨7, by omega, by first | rfl | trivial, HI, HLs⟩, rfl⟩)
          case measure => simp [intOf]
        · clear hj
          rw [show ((7 : Nat) : Int) = 7 from rfl]
          go_wp2_with fail
          refine (works_any _ (FInv.good HI)).mono ?_
          rintro e v1 ⟨rfl, b⟩
          replace HI := FInv.call HI b
          clear b
          go_wp2_with fail
          go_ret
          exact ⟨rfl, HI.out.2⟩

theorem pr_none {X : List UInt8} (h : Cd.pread X = none) : prO X = 0 ∧ prA X = 0 ∧ prE X = 7 := by
  unfold prO prA prE
  rw [h]
  exact ⟨rfl, rfl, rfl⟩
theorem no_parse {X : List UInt8} (h : Cd.pread X = none) (hl : X.length ≤ 1000000) (W : World) (hG : Good W) :
    Calls Tryz.prog 6 #[.string ⟨X.toArray⟩] W fun e w' => e = .returned (.tuple #[.agg #[.int .i64 0, .int .i64 0], .int .i64 7]) ∧ Below W.heap.size W w' := by
  have := parse_any X hl W hG
  rw [(pr_none h).1, (pr_none h).2.1, (pr_none h).2.2] at this
  exact this
theorem codeBack_walk (op : Int) (_ : -9223372036854775808 ≤ op) (_ : op ≤ 9223372036854775807) (a : Int) (a0 : -9223372036854775808 ≤ a) (a1 : a ≤ 9223372036854775807) (op' : Int) (_ : -9223372036854775808 ≤ op') (_ : op' ≤ 9223372036854775807) (a' : Int) (b0 : -9223372036854775808 ≤ a') (b1 : a' ≤ 9223372036854775807) (w : World) (hG : Good w) :
    Calls Tryz.prog 3 #[.agg #[.int .i64 op, .int .i64 a], .agg #[.int .i64 op', .int .i64 a']] w fun e w' => e = .returned (.bool true) ∧ Below w.heap.size w w' := by
  have HX := Lib.hid fun W hG => text_any op a a0 a1 W hG
  have HY := Lib.hid fun W hG => text_any op' a' b0 b1 W hG
  unfold iV at HX HY
  rcases ht : Cd.text op a with _ | s
  · have e1 : txS op a = [] := by unfold txS; rw [ht]; rfl
    have e2 : txE op a = 2 := by unfold txE; rw [ht]; rfl
    rw [e1, e2] at HX
    exact back_none op a op' a' ht (txS op' a') (txE op' a') w hG HX HY
  · have e1 : txS op a = s := by unfold txS; rw [ht]; rfl
    have e2 : txE op a = 0 := by unfold txE; rw [ht]; rfl
    rw [e1, e2] at HX
    have hr : Cd.pread s = some (op, a) := Cd.pread_of ⟨a0, a1⟩ ht
    have hc := Cd.cut_text ht
    obtain ⟨⟨k1, k2⟩, c1⟩ := Cd.text_some ht
    have hwl := word_len op.toNat
    have hil := Dec.itoa_length a0 a1
    have hsl : s.length ≤ 100 := by
      rcases c1 with ⟨_, _, hs⟩ | ⟨_, hs⟩
      · rw [hs]; omega
      · rw [hs, List.length_append, List.length_cons]; omega
    obtain ⟨n0, n1, n2, n3, n4, n5, n6⟩ := Cd.near ht
    have hcl := cut_len s
    have hmk : ∀ x y : List UInt8, (⟨x.toArray⟩ : ByteArray) ++ ⟨y.toArray⟩ = ⟨(x ++ y).toArray⟩ := fun x y => ByteArray.mk_append_mk _ _
    refine back_some op a op' a' s (txS op' a') (Cd.cut s).1 (Cd.cut s).2.1 ((Cd.cut s).1 ++ [32, 32]) ((Cd.cut s).1 ++ [32, 48]) ((Cd.cut s).1 ++ [32, 43]) (32 :: s) (s ++ [32]) (s ++ [32, 48]) (Lib.toLowerA s) ((Cd.cut s).1 ++ 32 :: 32 :: (Cd.cut s).2.1) ((Cd.cut s).1 ++ 32 :: 48 :: (Cd.cut s).2.1) ((Cd.cut s).1 ++ 32 :: 43 :: (Cd.cut s).2.1) (txE op' a') (Cd.cut s).2.2 a0 a1 w hG HX HY ?_ ?_ ?_ ?_ ?_ (by omega) (by omega) (by simp; omega) (by simp; omega) (by simp; omega) (by omega) ?_ ?_
    · refine Lib.hid fun W hG => ?_
      have := parse_any s (by omega) W hG
      unfold prO prA prE at this
      rw [hr] at this
      exact this
    · exact Lib.hid fun W hG => cut_any s (by omega) W hG
    · exact Lib.hid fun W => lower_any s (by omega) (Cd.text_ascii ht) W
    · refine Lib.hid ?_
      rcases ht' : Cd.text op' a' with _ | t
      · exact .inl (by unfold txE; rw [ht']; rfl)
      · have f1 : txS op' a' = t := by unfold txS; rw [ht']; rfl
        have f2 : txE op' a' = 0 := by unfold txE; rw [ht']; rfl
        rw [f1, f2]
        by_cases hst : s = t
        · obtain ⟨g1, g2⟩ := Cd.text_inj ht (by rw [hst]; exact ht')
          exact .inr (.inl ⟨rfl, hst, g1, g2⟩)
        · by_cases ho : op = op'
          · refine .inr (.inr (.inr ⟨rfl, hst, ho, fun ha => hst ?_⟩))
            rw [ho, ha, ht'] at ht
            exact (Option.some.inj ht).symm
          · exact .inr (.inr (.inl ⟨rfl, hst, ho⟩))
    · refine Lib.hid ⟨by rw [hc.1]; exact Cd.word_ne (by omega) (by omega), ?_⟩
      rcases c1 with ⟨hb, _, hs⟩ | ⟨hb, hs⟩
      · refine .inl ⟨by rw [hc.2.2, hb]; rfl, ?_⟩
        rw [hs, Cd.cut_none _ (Cd.word_space _)]
      · exact .inr ⟨by rw [hc.2.2, hb]; rfl, hc.2.1 hb, by rw [hc.2.1 hb]; exact Dec.itoa_ne a⟩
    · refine Lib.hid ⟨hmk [32] s, hmk s [32], hmk s [32, 48], hmk _ [32, 32], hmk _ [32, 48], hmk _ [32, 43], ?_, ?_, ?_⟩
      all_goals
        rw [hmk, List.append_assoc]
        rfl
    · refine Lib.hid fun x W hG hx => ?_
      have hxs : Cd.pread x = none ∧ x.length ≤ 1000000 := by
        simp only [List.mem_cons, List.not_mem_nil, or_false] at hx
        rcases hx with rfl | rfl | rfl | rfl | rfl | rfl | rfl
        · exact ⟨n0, by simp; omega⟩
        · exact ⟨n1, by simp; omega⟩
        · exact ⟨n2, by simp; omega⟩
        · exact ⟨n3, by unfold Lib.toLowerA; rw [List.length_map]; omega⟩
        · exact ⟨n4, by simp; omega⟩
        · exact ⟨n5, by simp; omega⟩
        · exact ⟨n6, by simp; omega⟩
      exact no_parse hxs.1 hxs.2 W hG
end Go.Proofs.YtmmehfkiceelkaaGreatDoor

/-
  LAYER 2: comparisons: just one of three holds, in the same way for both directions: the statement's walk.
-/
import Derived.Test.YtdogdpjgkhcndaaDoorNum5
namespace Go.Proofs.YtdogdpjgkhcndaaDoor
open Go.ChangeShapes Go.WideShapes Go.ChangeAt Go.RowKit

def Arr (a b : Int) (k : Nat) (w : World) (g1 g2 : Nat) (T : TypeId) : Prop := ∃ A B : Array Value, Blk w g1 T A ∧ Blk w g2 T B ∧ A.size = 16 ∧ B.size = 16 ∧ (∀ j : Nat, 6 ≤ j → j < k → A[j]? = some (.bool (cmpB j a b))) ∧ (∀ j : Nat, 6 ≤ j → j < k → B[j]? = some (.bool (cmpB j b a)))
theorem Arr.cells {a b : Int} {k : Nat} {w : World} {g1 g2 : Nat} {T : TypeId} (h : Arr a b k w g1 g2 T) (j : Nat) (hj : 6 ≤ j) (hk : j < k) : w.cell? ⟨g1, j, none⟩ = some (.bool (cmpB j a b)) ∧ w.cell? ⟨g2, j, none⟩ = some (.bool (cmpB j b a)) := by
  obtain ⟨A, B, b1, b2, _, _, h1, h2⟩ := h
  exact ⟨(b1.cell j).trans (h1 j hj hk), (b2.cell j).trans (h2 j hj hk)⟩
theorem Arr.there {a b : Int} {k : Nat} {w : World} {g1 g2 : Nat} {T : TypeId} (h : Arr a b k w g1 g2 T) (j : Nat) (hj : j < 16) : (∃ v, w.cell? ⟨g1, j, none⟩ = some v) ∧ (∃ v, w.cell? ⟨g2, j, none⟩ = some v) ∧ w.frozen? ⟨g1, j, none⟩ = false ∧ w.frozen? ⟨g2, j, none⟩ = false := by
  obtain ⟨A, B, b1, b2, s1, s2, _, _⟩ := h
  exact ⟨⟨_, (b1.cell j).trans (Array.getElem?_eq_getElem (by omega))⟩, ⟨_, (b2.cell j).trans (Array.getElem?_eq_getElem (by omega))⟩, b1.frozen j, b2.frozen j⟩
theorem Arr.more {a b : Int} {k : Nat} {w : World} {g1 g2 : Nat} {T : TypeId} (h : Arr a b k w g1 g2 T) (hk : 6 ≤ k) (hk2 : k < 16) (hne : g1 ≠ g2) :
    Arr a b (k + 1) ((w.setCell ⟨g1, k, none⟩ (.bool (cmpB k a b))).setCell ⟨g2, k, none⟩ (.bool (cmpB k b a))) g1 g2 T := by
  obtain ⟨A, B, b1, b2, s1, s2, h1, h2⟩ := h
  refine ⟨_, _, (b1.set k (.bool (cmpB k a b))).far hne _, (b2.far (Ne.symm hne) _).set k _, by simp [s1], by simp [s2], fun j hj hk3 => ?_, fun j hj hk3 => ?_⟩
  · by_cases e : j = k
    · subst e
      rw [Array.getElem?_setIfInBounds_self_of_lt (by omega)]
    · rw [Array.getElem?_setIfInBounds_ne (by omega)]
      exact h1 j hj (by omega)
  · by_cases e : j = k
    · subst e
      rw [Array.getElem?_setIfInBounds_self_of_lt (by omega)]
    · rw [Array.getElem?_setIfInBounds_ne (by omega)]
      exact h2 j hj (by omega)
theorem Arr.call {a b : Int} {k : Nat} {w w' : World} {g1 g2 : Nat} {T : TypeId} (h : Arr a b k w g1 g2 T) (hb : Below w.heap.size w w') : Arr a b k w' g1 g2 T := by
  obtain ⟨A, B, b1, b2, h⟩ := h
  exact ⟨A, B, b1.call hb, b2.call hb, h⟩
theorem Arr.start (a b : Int) (w : World) (T : TypeId) (A : Array Value) (h : A.size = 16) : Arr a b 6 ((w.alloc (.cells A T)).alloc (.cells A T)) w.heap.size (w.heap.size + 1) T := by
  refine ⟨A, A, (Blk.new w T A).alloc _, ?_, h, h, fun j h1 h2 => by omega, fun j h1 h2 => by omega⟩
  have := Blk.new (w.alloc (.cells A T)) T A
  rwa [World.size_alloc] at this

theorem cmp_lt {a b : Int} (h : a < b) : cmpB 6 a b = false ∧ cmpB 7 a b = true ∧ cmpB 8 a b = true ∧ cmpB 9 a b = true ∧ cmpB 10 a b = false ∧ cmpB 11 a b = false ∧ cmpB 6 b a = false ∧ cmpB 8 b a = false ∧ cmpB 10 b a = true := by
  unfold cmpB
  simp
  omega
theorem cmp_eq {a b : Int} (h : a = b) : cmpB 6 a b = true ∧ cmpB 7 a b = false ∧ cmpB 8 a b = false ∧ cmpB 9 a b = true ∧ cmpB 10 a b = false ∧ cmpB 11 a b = true ∧ cmpB 6 b a = true ∧ cmpB 8 b a = false ∧ cmpB 10 b a = false := by
  unfold cmpB
  simp
  omega
theorem cmp_gt {a b : Int} (h : b < a) : cmpB 6 a b = false ∧ cmpB 7 a b = true ∧ cmpB 8 a b = false ∧ cmpB 9 a b = false ∧ cmpB 10 a b = true ∧ cmpB 11 a b = true ∧ cmpB 6 b a = false ∧ cmpB 8 b a = true ∧ cmpB 10 b a = false := by
  unfold cmpB
  simp
  omega

set_option maxHeartbeats 2000000 in
set_option maxRecDepth 100000 in
theorem order_lt (a b : Int) (hc : a < b) (w : World) (hG : Good w) :
    Calls Tryd.prog 6 #[.int .i64 a, .int .i64 b] w fun e w' => e = .returned (.bool true) ∧ Below w.heap.size w w' := by
  have HI : Hid (FInv w w) := Lib.hid ⟨hG, Below.refl _ _⟩
  have HG := Lib.hid hG
  clear hG
  have HF := Lib.hid (cmp_lt hc)
  have q1 : (a == b) = false := by simp; omega
  have q2 : decide (a < b) = true := by simp; omega
  have HA := Lib.hid (Arr.start a b w 35 #[.bool false, .bool false, .bool false, .bool false, .bool false, .bool false, .bool false, .bool false, .bool false, .bool false, .bool false, .bool false, .bool false, .bool false, .bool false, .bool false] rfl)
  have HI := FInv.alloc (FInv.alloc HI (.cells #[.bool false, .bool false, .bool false, .bool false, .bool false, .bool false, .bool false, .bool false, .bool false, .bool false, .bool false, .bool false, .bool false, .bool false, .bool false, .bool false] 35)) (.cells #[.bool false, .bool false, .bool false, .bool false, .bool false, .bool false, .bool false, .bool false, .bool false, .bool false, .bool false, .bool false, .bool false, .bool false, .bool false, .bool false] 35)
  have HC := Lib.hid hc
  clear hc
  go_enter Tryd.func6, Tryd.ntmps6
  go_wp2_with fail
  go_loopw [7] (fun i wr => ∃ k : Nat, 6 ≤ k ∧ k ≤ 12 ∧ i = .int .i64 k ∧ Hid (FInv w wr) ∧ Hid (Arr a b k wr w.heap.size (w.heap.size + 1) 35)) (fun i _ => 12 - (intOf i).toNat)
  case atStart => exact ⟨6, by omega, by omega, rfl, HI, HA⟩
  case round =>
    obtain ⟨k, hk0, hk, rfl, HI, HA⟩ := hrel
    by_cases hlt : k < 12
    · have HE : Hid (cmpE (k : Int) = 0) := Lib.hid (by unfold cmpE; rw [if_pos (by omega)])
      obtain ⟨⟨v1, e1⟩, ⟨v2, e2⟩, f1, f2⟩ := HA.out.there k (by omega)
      have k0 : (0 : Int) ≤ (k : Int) := by omega
      have k1 : (k : Int) < 16 := by omega
      have HN := Lib.hid (HA.out.more hk0 (by omega) (Nat.ne_of_lt (Nat.lt_succ_self _)))
      have HI2 := FInv.of HG.out (((HI.out.2).setCell (p := ⟨w.heap.size, k, none⟩) (Nat.le_refl _) (.bool (cmpB k a b))).setCell (p := ⟨w.heap.size + 1, k, none⟩) (Nat.le_succ _) (.bool (cmpB k b a)))
      go_wp2_with fail
      refine (compare_any k a b _ (FInv.good HI)).mono ?_
      rintro e w1 ⟨rfl, rfl⟩
      rw [HE.out]
      go_wp2_with fail
      refine (compare_any k b a _ (FInv.good HI)).mono ?_
      rintro e w1 ⟨rfl, rfl⟩
      rw [HE.out]
      go_wp2_with fail
      go_roundw
      case rel => exact ⟨k + 1, by omega, by omega, by go_num, HI2, HN⟩
      case measure => simp [intOf]; omega
    · obtain rfl : k = 12 := by omega
      rw [show ((12 : Nat) : Int) = 12 from rfl]
      clear hlt hk hk0
      go_wp2_with fail
      have HS : Hid (Blk (wr.alloc (.cells #[.int .i64 8, .int .i64 6, .int .i64 10] 3)) wr.heap.size 3 #[.int .i64 8, .int .i64 6, .int .i64 10]) := Lib.hid (Blk.new _ _ _)
      have HI := FInv.alloc HI (.cells #[.int .i64 8, .int .i64 6, .int .i64 10] 3)
      have HA := Lib.hid (HA.out.call (below_new (Below.refl _ _) (.cells #[.int .i64 8, .int .i64 6, .int .i64 10] 3)))
      obtain ⟨wo, how⟩ : ∃ x : Nat, wr.heap.size = x := ⟨_, rfl⟩
      rw [how] at HS ⊢
      clear how
      go_loopw [12, 47] (fun n i wr => ∃ (k : Nat) (N : Int), ((k = 0 ∧ N = 0) ∨ (k = 1 ∧ N = 1) ∨ (k = 2 ∧ N = 1) ∨ (k = 3 ∧ N = 1)) ∧ n = .int .i64 N ∧ i = .int .i64 k ∧ Hid (FInv w wr) ∧ Hid (Arr a b 12 wr w.heap.size (w.heap.size + 1) 35) ∧ Hid (Blk wr wo 3 #[.int .i64 8, .int .i64 6, .int .i64 10])) (fun _ i _ => 3 - (intOf i).toNat)
      case atStart => exact ⟨0, 0, .inl ⟨rfl, rfl⟩, rfl, rfl, HI, HA, HS⟩
      case round =>
        obtain ⟨k, N, hkN, rfl, rfl, HI, HA, HS⟩ := hrel
        rcases hkN with ⟨rfl, rfl⟩ | ⟨rfl, rfl⟩ | ⟨rfl, rfl⟩ | ⟨rfl, rfl⟩
        · have s0 : wr.cell? ⟨wo, 0, none⟩ = some (.int .i64 8) := HS.out.cell 0
          have c0 := (HA.out.cells 8 (by omega) (by omega)).1
          rw [show cmpB ((8 : Nat) : Int) a b = true from HF.out.2.2.1] at c0
          go_wp2_with fail
          go_roundw
          case rel => exact ⟨1, 1, .inr (.inl ⟨rfl, rfl⟩), rfl, rfl, HI, HA, HS⟩
          case measure => simp [intOf]
        · have s0 : wr.cell? ⟨wo, 1, none⟩ = some (.int .i64 6) := HS.out.cell 1
          have c0 := (HA.out.cells 6 (by omega) (by omega)).1
          rw [show cmpB ((6 : Nat) : Int) a b = false from HF.out.1] at c0
          go_wp2_with fail
          go_roundw
          case rel => exact ⟨2, 1, .inr (.inr (.inl ⟨rfl, rfl⟩)), rfl, rfl, HI, HA, HS⟩
          case measure => simp [intOf]
        · have s0 : wr.cell? ⟨wo, 2, none⟩ = some (.int .i64 10) := HS.out.cell 2
          have c0 := (HA.out.cells 10 (by omega) (by omega)).1
          rw [show cmpB ((10 : Nat) : Int) a b = false from HF.out.2.2.2.2.1] at c0
          go_wp2_with fail
          go_roundw
          case rel => exact ⟨3, 1, .inr (.inr (.inr ⟨rfl, rfl⟩)), rfl, rfl, HI, HA, HS⟩
          case measure => simp [intOf]
        · rw [show ((3 : Nat) : Int) = 3 from rfl]
          have c6 := (HA.out.cells 6 (by omega) (by omega)).1
          rw [show cmpB ((6 : Nat) : Int) a b = false from HF.out.1] at c6
          have c7 := (HA.out.cells 7 (by omega) (by omega)).1
          rw [show cmpB ((7 : Nat) : Int) a b = true from HF.out.2.1] at c7
          have c8 := (HA.out.cells 8 (by omega) (by omega)).1
          rw [show cmpB ((8 : Nat) : Int) a b = true from HF.out.2.2.1] at c8
          have c9 := (HA.out.cells 9 (by omega) (by omega)).1
          rw [show cmpB ((9 : Nat) : Int) a b = true from HF.out.2.2.2.1] at c9
          have c10 := (HA.out.cells 10 (by omega) (by omega)).1
          rw [show cmpB ((10 : Nat) : Int) a b = false from HF.out.2.2.2.2.1] at c10
          have c11 := (HA.out.cells 11 (by omega) (by omega)).1
          rw [show cmpB ((11 : Nat) : Int) a b = false from HF.out.2.2.2.2.2.1] at c11
          have d6 := (HA.out.cells 6 (by omega) (by omega)).2
          rw [show cmpB ((6 : Nat) : Int) b a = false from HF.out.2.2.2.2.2.2.1] at d6
          have d8 := (HA.out.cells 8 (by omega) (by omega)).2
          rw [show cmpB ((8 : Nat) : Int) b a = false from HF.out.2.2.2.2.2.2.2.1] at d8
          have d10 := (HA.out.cells 10 (by omega) (by omega)).2
          rw [show cmpB ((10 : Nat) : Int) b a = true from HF.out.2.2.2.2.2.2.2.2] at d10
          go_wp2_with fail
          refine (works_any _ (FInv.good HI)).mono ?_
          rintro e w1 ⟨rfl, b⟩
          have HI := FInv.call HI b
          clear b
          go_wp2_with fail
          go_ret
          exact ⟨rfl, HI.out.2⟩

set_option maxHeartbeats 2000000 in
set_option maxRecDepth 100000 in
theorem order_eq (a b : Int) (hc : a = b) (w : World) (hG : Good w) :
    Calls Tryd.prog 6 #[.int .i64 a, .int .i64 b] w fun e w' => e = .returned (.bool true) ∧ Below w.heap.size w w' := by
  have HI : Hid (FInv w w) := Lib.hid ⟨hG, Below.refl _ _⟩
  have HG := Lib.hid hG
  clear hG
  have HF := Lib.hid (cmp_eq hc)
  have q1 : (a == b) = true := by simp; omega
  have q2 : decide (a < b) = false := by simp; omega
  have HA := Lib.hid (Arr.start a b w 35 #[.bool false, .bool false, .bool false, .bool false, .bool false, .bool false, .bool false, .bool false, .bool false, .bool false, .bool false, .bool false, .bool false, .bool false, .bool false, .bool false] rfl)
  have HI := FInv.alloc (FInv.alloc HI (.cells #[.bool false, .bool false, .bool false, .bool false, .bool false, .bool false, .bool false, .bool false, .bool false, .bool false, .bool false, .bool false, .bool false, .bool false, .bool false, .bool false] 35)) (.cells #[.bool false, .bool false, .bool false, .bool false, .bool false, .bool false, .bool false, .bool false, .bool false, .bool false, .bool false, .bool false, .bool false, .bool false, .bool false, .bool false] 35)
  have HC := Lib.hid hc
  clear hc
  go_enter Tryd.func6, Tryd.ntmps6
  go_wp2_with fail
  go_loopw [7] (fun i wr => ∃ k : Nat, 6 ≤ k ∧ k ≤ 12 ∧ i = .int .i64 k ∧ Hid (FInv w wr) ∧ Hid (Arr a b k wr w.heap.size (w.heap.size + 1) 35)) (fun i _ => 12 - (intOf i).toNat)
  case atStart => exact ⟨6, by omega, by omega, rfl, HI, HA⟩
  case round =>
    obtain ⟨k, hk0, hk, rfl, HI, HA⟩ := hrel
    by_cases hlt : k < 12
    · have HE : Hid (cmpE (k : Int) = 0) := Lib.hid (by unfold cmpE; rw [if_pos (by omega)])
      obtain ⟨⟨v1, e1⟩, ⟨v2, e2⟩, f1, f2⟩ := HA.out.there k (by omega)
      have k0 : (0 : Int) ≤ (k : Int) := by omega
      have k1 : (k : Int) < 16 := by omega
      have HN := Lib.hid (HA.out.more hk0 (by omega) (Nat.ne_of_lt (Nat.lt_succ_self _)))
      have HI2 := FInv.of HG.out (((HI.out.2).setCell (p := ⟨w.heap.size, k, none⟩) (Nat.le_refl _) (.bool (cmpB k a b))).setCell (p := ⟨w.heap.size + 1, k, none⟩) (Nat.le_succ _) (.bool (cmpB k b a)))
      go_wp2_with fail
      refine (compare_any k a b _ (FInv.good HI)).mono ?_
      rintro e w1 ⟨rfl, rfl⟩
      rw [HE.out]
      go_wp2_with fail
      refine (compare_any k b a _ (FInv.good HI)).mono ?_
      rintro e w1 ⟨rfl, rfl⟩
      rw [HE.out]
      go_wp2_with fail
      go_roundw
      case rel => exact ⟨k + 1, by omega, by omega, by go_num, HI2, HN⟩
      case measure => simp [intOf]; omega
    · obtain rfl : k = 12 := by omega
      rw [show ((12 : Nat) : Int) = 12 from rfl]
      clear hlt hk hk0
      go_wp2_with fail
      have HS : Hid (Blk (wr.alloc (.cells #[.int .i64 8, .int .i64 6, .int .i64 10] 3)) wr.heap.size 3 #[.int .i64 8, .int .i64 6, .int .i64 10]) := Lib.hid (Blk.new _ _ _)
      have HI := FInv.alloc HI (.cells #[.int .i64 8, .int .i64 6, .int .i64 10] 3)
      have HA := Lib.hid (HA.out.call (below_new (Below.refl _ _) (.cells #[.int .i64 8, .int .i64 6, .int .i64 10] 3)))
      obtain ⟨wo, how⟩ : ∃ x : Nat, wr.heap.size = x := ⟨_, rfl⟩
      rw [how] at HS ⊢
      clear how
      go_loopw [12, 47] (fun n i wr => ∃ (k : Nat) (N : Int), ((k = 0 ∧ N = 0) ∨ (k = 1 ∧ N = 0) ∨ (k = 2 ∧ N = 1) ∨ (k = 3 ∧ N = 1)) ∧ n = .int .i64 N ∧ i = .int .i64 k ∧ Hid (FInv w wr) ∧ Hid (Arr a b 12 wr w.heap.size (w.heap.size + 1) 35) ∧ Hid (Blk wr wo 3 #[.int .i64 8, .int .i64 6, .int .i64 10])) (fun _ i _ => 3 - (intOf i).toNat)
      case atStart => exact ⟨0, 0, .inl ⟨rfl, rfl⟩, rfl, rfl, HI, HA, HS⟩
      case round =>
        obtain ⟨k, N, hkN, rfl, rfl, HI, HA, HS⟩ := hrel
        rcases hkN with ⟨rfl, rfl⟩ | ⟨rfl, rfl⟩ | ⟨rfl, rfl⟩ | ⟨rfl, rfl⟩
        · have s0 : wr.cell? ⟨wo, 0, none⟩ = some (.int .i64 8) := HS.out.cell 0
          have c0 := (HA.out.cells 8 (by omega) (by omega)).1
          rw [show cmpB ((8 : Nat) : Int) a b = false from HF.out.2.2.1] at c0
          go_wp2_with fail
          go_roundw
          case rel => exact ⟨1, 0, .inr (.inl ⟨rfl, rfl⟩), rfl, rfl, HI, HA, HS⟩
          case measure => simp [intOf]
        · have s0 : wr.cell? ⟨wo, 1, none⟩ = some (.int .i64 6) := HS.out.cell 1
          have c0 := (HA.out.cells 6 (by omega) (by omega)).1
          rw [show cmpB ((6 : Nat) : Int) a b = true from HF.out.1] at c0
          go_wp2_with fail
          go_roundw
          case rel => exact ⟨2, 1, .inr (.inr (.inl ⟨rfl, rfl⟩)), rfl, rfl, HI, HA, HS⟩
          case measure => simp [intOf]
        · have s0 : wr.cell? ⟨wo, 2, none⟩ = some (.int .i64 10) := HS.out.cell 2
          have c0 := (HA.out.cells 10 (by omega) (by omega)).1
          rw [show cmpB ((10 : Nat) : Int) a b = false from HF.out.2.2.2.2.1] at c0
          go_wp2_with fail
          go_roundw
          case rel => exact ⟨3, 1, .inr (.inr (.inr ⟨rfl, rfl⟩)), rfl, rfl, HI, HA, HS⟩
          case measure => simp [intOf]
        · rw [show ((3 : Nat) : Int) = 3 from rfl]
          have c6 := (HA.out.cells 6 (by omega) (by omega)).1
          rw [show cmpB ((6 : Nat) : Int) a b = true from HF.out.1] at c6
          have c7 := (HA.out.cells 7 (by omega) (by omega)).1
          rw [show cmpB ((7 : Nat) : Int) a b = false from HF.out.2.1] at c7
          have c8 := (HA.out.cells 8 (by omega) (by omega)).1
          rw [show cmpB ((8 : Nat) : Int) a b = false from HF.out.2.2.1] at c8
          have c9 := (HA.out.cells 9 (by omega) (by omega)).1
          rw [show cmpB ((9 : Nat) : Int) a b = true from HF.out.2.2.2.1] at c9
          have c10 := (HA.out.cells 10 (by omega) (by omega)).1
          rw [show cmpB ((10 : Nat) : Int) a b = false from HF.out.2.2.2.2.1] at c10
          have c11 := (HA.out.cells 11 (by omega) (by omega)).1
          rw [show cmpB ((11 : Nat) : Int) a b = true from HF.out.2.2.2.2.2.1] at c11
          have d6 := (HA.out.cells 6 (by omega) (by omega)).2
          rw [show cmpB ((6 : Nat) : Int) b a = true from HF.out.2.2.2.2.2.2.1] at d6
          have d8 := (HA.out.cells 8 (by omega) (by omega)).2
          rw [show cmpB ((8 : Nat) : Int) b a = false from HF.out.2.2.2.2.2.2.2.1] at d8
          have d10 := (HA.out.cells 10 (by omega) (by omega)).2
          rw [show cmpB ((10 : Nat) : Int) b a = false from HF.out.2.2.2.2.2.2.2.2] at d10
          go_wp2_with fail
          refine (works_any _ (FInv.good HI)).mono ?_
          rintro e w1 ⟨rfl, b⟩
          have HI := FInv.call HI b
          clear b
          go_wp2_with fail
          go_ret
          exact ⟨rfl, HI.out.2⟩

set_option maxHeartbeats 2000000 in
set_option maxRecDepth 100000 in
theorem order_gt (a b : Int) (hc : b < a) (w : World) (hG : Good w) :
    Calls Tryd.prog 6 #[.int .i64 a, .int .i64 b] w fun e w' => e = .returned (.bool true) ∧ Below w.heap.size w w' := by
  have HI : Hid (FInv w w) := Lib.hid ⟨hG, Below.refl _ _⟩
  have HG := Lib.hid hG
  clear hG
  have HF := Lib.hid (cmp_gt hc)
  have q1 : (a == b) = false := by simp; omega
  have q2 : decide (a < b) = false := by simp; omega
  have HA := Lib.hid (Arr.start a b w 35 #[.bool false, .bool false, .bool false, .bool false, .bool false, .bool false, .bool false, .bool false, .bool false, .bool false, .bool false, .bool false, .bool false, .bool false, .bool false, .bool false] rfl)
  have HI := FInv.alloc (FInv.alloc HI (.cells #[.bool false, .bool false, .bool false, .bool false, .bool false, .bool false, .bool false, .bool false, .bool false, .bool false, .bool false, .bool false, .bool false, .bool false, .bool false, .bool false] 35)) (.cells #[.bool false, .bool false, .bool false, .bool false, .bool false, .bool false, .bool false, .bool false, .bool false, .bool false, .bool false, .bool false, .bool false, .bool false, .bool false, .bool false] 35)
  have HC := Lib.hid hc
  clear hc
  go_enter Tryd.func6, Tryd.ntmps6
  go_wp2_with fail
  go_loopw [7] (fun i wr => ∃ k : Nat, 6 ≤ k ∧ k ≤ 12 ∧ i = .int .i64 k ∧ Hid (FInv w wr) ∧ Hid (Arr a b k wr w.heap.size (w.heap.size + 1) 35)) (fun i _ => 12 - (intOf i).toNat)
  case atStart => exact ⟨6, by omega, by omega, rfl, HI, HA⟩
  case round =>
    obtain ⟨k, hk0, hk, rfl, HI, HA⟩ := hrel
    by_cases hlt : k < 12
    · have HE : Hid (cmpE (k : Int) = 0) := Lib.hid (by unfold cmpE; rw [if_pos (by omega)])
      obtain ⟨⟨v1, e1⟩, ⟨v2, e2⟩, f1, f2⟩ := HA.out.there k (by omega)
      have k0 : (0 : Int) ≤ (k : Int) := by omega
      have k1 : (k : Int) < 16 := by omega
      have HN := Lib.hid (HA.out.more hk0 (by omega) (Nat.ne_of_lt (Nat.lt_succ_self _)))
      have HI2 := FInv.of HG.out (((HI.out.2).setCell (p := ⟨w.heap.size, k, none⟩) (Nat.le_refl _) (.bool (cmpB k a b))).setCell (p := ⟨w.heap.size + 1, k, none⟩) (Nat.le_succ _) (.bool (cmpB k b a)))
      go_wp2_with fail
      refine (compare_any k a b _ (FInv.good HI)).mono ?_
      rintro e w1 ⟨rfl, rfl⟩
      rw [HE.out]
      go_wp2_with fail
      refine (compare_any k b a _ (FInv.good HI)).mono ?_
      rintro e w1 ⟨rfl, rfl⟩
      rw [HE.out]
      go_wp2_with fail
      go_roundw
      case rel => exact ⟨k + 1, by omega, by omega, by go_num, HI2, HN⟩
      case measure => simp [intOf]; omega
    · obtain rfl : k = 12 := by omega
      rw [show ((12 : Nat) : Int) = 12 from rfl]
      clear hlt hk hk0
      go_wp2_with fail
      have HS : Hid (Blk (wr.alloc (.cells #[.int .i64 8, .int .i64 6, .int .i64 10] 3)) wr.heap.size 3 #[.int .i64 8, .int .i64 6, .int .i64 10]) := Lib.hid (Blk.new _ _ _)
      have HI := FInv.alloc HI (.cells #[.int .i64 8, .int .i64 6, .int .i64 10] 3)
      have HA := Lib.hid (HA.out.call (below_new (Below.refl _ _) (.cells #[.int .i64 8, .int .i64 6, .int .i64 10] 3)))
      obtain ⟨wo, how⟩ : ∃ x : Nat, wr.heap.size = x := ⟨_, rfl⟩
      rw [how] at HS ⊢
      clear how
      go_loopw [12, 47] (fun n i wr => ∃ (k : Nat) (N : Int), ((k = 0 ∧ N = 0) ∨ (k = 1 ∧ N = 0) ∨ (k = 2 ∧ N = 0) ∨ (k = 3 ∧ N = 1)) ∧ n = .int .i64 N ∧ i = .int .i64 k ∧ Hid (FInv w wr) ∧ Hid (Arr a b 12 wr w.heap.size (w.heap.size + 1) 35) ∧ Hid (Blk wr wo 3 #[.int .i64 8, .int .i64 6, .int .i64 10])) (fun _ i _ => 3 - (intOf i).toNat)
      case atStart => exact ⟨0, 0, .inl ⟨rfl, rfl⟩, rfl, rfl, HI, HA, HS⟩
      case round =>
        obtain ⟨k, N, hkN, rfl, rfl, HI, HA, HS⟩ := hrel
        rcases hkN with ⟨rfl, rfl⟩ | ⟨rfl, rfl⟩ | ⟨rfl, rfl⟩ | ⟨rfl, rfl⟩
        · have s0 : wr.cell? ⟨wo, 0, none⟩ = some (.int .i64 8) := HS.out.cell 0
          have c0 := (HA.out.cells 8 (by omega) (by omega)).1
          rw [show cmpB ((8 : Nat) : Int) a b = false from HF.out.2.2.1] at c0
          go_wp2_with fail
          go_roundw
          case rel => exact ⟨1, 0, .inr (.inl ⟨rfl, rfl⟩), rfl, rfl, HI, HA, HS⟩
          case measure => simp [intOf]
        · have s0 : wr.cell? ⟨wo, 1, none⟩ = some (.int .i64 6) := HS.out.cell 1
          have c0 := (HA.out.cells 6 (by omega) (by omega)).1
          rw [show cmpB ((6 : Nat) : Int) a b = false from HF.out.1] at c0
          go_wp2_with fail
          go_roundw
          case rel => exact ⟨2, 0, .inr (.inr (.inl ⟨rfl, rfl⟩)), rfl, rfl, HI, HA, HS⟩
          case measure => simp [intOf]
        · have s0 : wr.cell? ⟨wo, 2, none⟩ = some (.int .i64 10) := HS.out.cell 2
          have c0 := (HA.out.cells 10 (by omega) (by omega)).1
          rw [show cmpB ((10 : Nat) : Int) a b = true from HF.out.2.2.2.2.1] at c0
          go_wp2_with fail
          go_roundw
          case rel => exact ⟨3, 1, .inr (.inr (.inr ⟨rfl, rfl⟩)), rfl, rfl, HI, HA, HS⟩
          case measure => simp [intOf]
        · rw [show ((3 : Nat) : Int) = 3 from rfl]
          have c6 := (HA.out.cells 6 (by omega) (by omega)).1
          rw [show cmpB ((6 : Nat) : Int) a b = false from HF.out.1] at c6
          have c7 := (HA.out.cells 7 (by omega) (by omega)).1
          rw [show cmpB ((7 : Nat) : Int) a b = true from HF.out.2.1] at c7
          have c8 := (HA.out.cells 8 (by omega) (by omega)).1
          rw [show cmpB ((8 : Nat) : Int) a b = false from HF.out.2.2.1] at c8
          have c9 := (HA.out.cells 9 (by omega) (by omega)).1
          rw [show cmpB ((9 : Nat) : Int) a b = false from HF.out.2.2.2.1] at c9
          have c10 := (HA.out.cells 10 (by omega) (by omega)).1
          rw [show cmpB ((10 : Nat) : Int) a b = true from HF.out.2.2.2.2.1] at c10
          have c11 := (HA.out.cells 11 (by omega) (by omega)).1
          rw [show cmpB ((11 : Nat) : Int) a b = true from HF.out.2.2.2.2.2.1] at c11
          have d6 := (HA.out.cells 6 (by omega) (by omega)).2
          rw [show cmpB ((6 : Nat) : Int) b a = false from HF.out.2.2.2.2.2.2.1] at d6
          have d8 := (HA.out.cells 8 (by omega) (by omega)).2
          rw [show cmpB ((8 : Nat) : Int) b a = true from HF.out.2.2.2.2.2.2.2.1] at d8
          have d10 := (HA.out.cells 10 (by omega) (by omega)).2
          rw [show cmpB ((10 : Nat) : Int) b a = false from HF.out.2.2.2.2.2.2.2.2] at d10
          go_wp2_with fail
          refine (works_any _ (FInv.good HI)).mono ?_
          rintro e w1 ⟨rfl, b⟩
          have HI := FInv.call HI b
          clear b
          go_wp2_with fail
          go_ret
          exact ⟨rfl, HI.out.2⟩
theorem numberOrder_walk (a : Int) (_ : -9223372036854775808 ≤ a) (_ : a ≤ 9223372036854775807) (b : Int) (_ : -9223372036854775808 ≤ b) (_ : b ≤ 9223372036854775807) (w : World) (hG : Good w) :
    Calls Tryd.prog 6 #[.int .i64 a, .int .i64 b] w fun e w' => e = .returned (.bool true) ∧ Below w.heap.size w w' := by
  rcases Int.lt_trichotomy a b with h | h | h
  · exact order_lt a b h w hG
  · exact order_eq a b h w hG
  · exact order_gt a b h w hG
end Go.Proofs.YtdogdpjgkhcndaaDoor

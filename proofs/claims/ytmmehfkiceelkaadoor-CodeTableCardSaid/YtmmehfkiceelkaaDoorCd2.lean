/-
  LAYER 23: the table's functions.
-/
import Derived.Test.YtmmehfkiceelkaaDoorCd1
import Derived.Deep.RegionHeld3
import Derived.Laws.ResultCell
import Derived.Laws.Rows
import Derived.Shelf.Abstract
namespace Go.Proofs.YtmmehfkiceelkaaDoor
open Go.ChangeShapes Go.WideShapes Go.ChangeAt Go.RowKit Go.Shelf

/-- From 0 to n - 1? -/
def bel (a n : Int) : Bool := decide (0 ≤ a ∧ a < n)
/-- From x to y? -/
def spn (x a y : Int) : Bool := decide (x ≤ a ∧ a ≤ y)
def szV (n s c : Int) : Value := .agg #[.int .i64 n, .int .i64 s, .int .i64 c]
theorem below_any (a n : Int) (w : World) : Calls Tryd.prog 42 #[.int .i64 a, .int .i64 n] w fun e w' => e = .returned (.bool (bel a n)) ∧ w = w' := by
  rcases (show a < 0 ∨ (0 ≤ a ∧ a < n) ∨ (0 ≤ a ∧ n ≤ a) by omega) with h | ⟨h, h2⟩ | ⟨h, h2⟩
  · have e : Hid (bel a n = false) := Lib.hid (decide_eq_false (by omega))
    go_enter Tryd.func42, Tryd.ntmps42
    go_wp2_with fail
    go_ret
    exact ⟨by rw [e.out]; rfl, rfl⟩
  · have e : Hid (bel a n = true) := Lib.hid (decide_eq_true ⟨h, h2⟩)
    go_enter Tryd.func42, Tryd.ntmps42
    go_wp2_with fail
    go_ret
    exact ⟨by rw [e.out]; rfl, rfl⟩
  · have e : Hid (bel a n = false) := Lib.hid (decide_eq_false (by omega))
    have h3 : ¬ a < n := by omega
    go_enter Tryd.func42, Tryd.ntmps42
    go_wp2_with fail
    go_ret
    exact ⟨by rw [e.out]; rfl, rfl⟩
theorem slot_any (a n s c : Int) (w : World) : Calls Tryd.prog 51 #[.int .i64 a, szV n s c] w fun e w' => e = .returned (.bool (bel a s)) ∧ Below w.heap.size w w' := by
  unfold szV
  have H := Lib.hid (fun W => below_any a s W)
  go_enter Tryd.func51, Tryd.ntmps51
  go_wp2_with fail
  refine (H.out _).mono ?_
  rintro e w2 ⟨rfl, rfl⟩
  go_wp2_with fail
  go_ret
  exact ⟨rfl, below_new (Below.refl _ _) _⟩
theorem target_any (a n s c : Int) (w : World) : Calls Tryd.prog 53 #[.int .i64 a, szV n s c] w fun e w' => e = .returned (.bool (bel a n)) ∧ Below w.heap.size w w' := by
  unfold szV
  have H := Lib.hid (fun W => below_any a n W)
  go_enter Tryd.func53, Tryd.ntmps53
  go_wp2_with fail
  refine (H.out _).mono ?_
  rintro e w2 ⟨rfl, rfl⟩
  go_wp2_with fail
  go_ret
  exact ⟨rfl, below_new (Below.refl _ _) _⟩
theorem callee_any (a n s c : Int) (w : World) : Calls Tryd.prog 54 #[.int .i64 a, szV n s c] w fun e w' => e = .returned (.bool (bel a c)) ∧ Below w.heap.size w w' := by
  unfold szV
  have H := Lib.hid (fun W => below_any a c W)
  go_enter Tryd.func54, Tryd.ntmps54
  go_wp2_with fail
  refine (H.out _).mono ?_
  rintro e w2 ⟨rfl, rfl⟩
  go_wp2_with fail
  go_ret
  exact ⟨rfl, below_new (Below.refl _ _) _⟩
theorem const_any (a n s c : Int) (w : World) : Calls Tryd.prog 50 #[.int .i64 a, szV n s c] w fun e w' => e = .returned (.bool true) ∧ Below w.heap.size w w' := by
  unfold szV
  go_enter Tryd.func50, Tryd.ntmps50
  go_wp2_with fail
  go_ret
  exact ⟨rfl, by first | exact below_new (below_new (Below.refl _ _) _) _ | exact below_new (Below.refl _ _) _ | exact Below.refl _ _⟩
theorem span_any (x y : Int) (w : World) : Calls Tryd.prog 52 #[.int .i64 x, .int .i64 y] w fun e w' => e = .returned (.func (.func 65) #[] #[.pointer (some ⟨w.heap.size, 0, none⟩), .pointer (some ⟨w.heap.size + 1, 0, none⟩)]) ∧ w' = (w.alloc (.cells #[.int .i64 x] 2)).alloc (.cells #[.int .i64 y] 2) := by
  go_enter Tryd.func52, Tryd.ntmps52
  go_wp2_with fail
  go_ret
  exact ⟨rfl, rfl⟩
theorem span1_any (a n s c x y : Int) (b1 b2 : Nat) (w : World) (h1 : Blk w b1 2 #[.int .i64 x]) (h2 : Blk w b2 2 #[.int .i64 y]) :
    Calls Tryd.prog 65 #[.int .i64 a, szV n s c, .pointer (some ⟨b1, 0, none⟩), .pointer (some ⟨b2, 0, none⟩)] w fun e w' => e = .returned (.bool (spn x a y)) ∧ Below w.heap.size w w' := by
  unfold szV
  have c1 := (h1.alloc (.cells #[.int .i64 n, .int .i64 s, .int .i64 c] 88)).cell 0
  have c2 := (h2.alloc (.cells #[.int .i64 n, .int .i64 s, .int .i64 c] 88)).cell 0
  clear h1 h2
  rcases (show a < x ∨ (x ≤ a ∧ a ≤ y) ∨ (x ≤ a ∧ y < a) by omega) with h | ⟨h, h2⟩ | ⟨h, h2⟩
  · have e : Hid (spn x a y = false) := Lib.hid (decide_eq_false (by omega))
    go_enter Tryd.func65, Tryd.ntmps65
    go_wp2_with fail
    go_ret
    exact ⟨by rw [e.out]; rfl, below_new (Below.refl _ _) _⟩
  · have e : Hid (spn x a y = true) := Lib.hid (decide_eq_true ⟨h, h2⟩)
    go_enter Tryd.func65, Tryd.ntmps65
    go_wp2_with fail
    go_ret
    exact ⟨by rw [e.out]; rfl, below_new (Below.refl _ _) _⟩
  · have e : Hid (spn x a y = false) := Lib.hid (decide_eq_false (by omega))
    have h3 : ¬ a ≤ y := by omega
    clear h2
    go_enter Tryd.func65, Tryd.ntmps65
    go_wp2_with fail
    go_ret
    exact ⟨by rw [e.out]; rfl, below_new (Below.refl _ _) _⟩
end Go.Proofs.YtmmehfkiceelkaaDoor

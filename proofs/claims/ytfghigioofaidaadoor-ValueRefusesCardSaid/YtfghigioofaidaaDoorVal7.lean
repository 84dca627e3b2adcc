/-
  LAYER 16: the laws ValueOnes and ValueLists.
-/
import Derived.Test.YtfghigioofaidaaDoorVal6
import Derived.Deep.RegionHeld3
namespace Go.Proofs.YtfghigioofaidaaDoor
open Go.ChangeShapes Go.WideShapes Go.ChangeAt Go.RowKit

/-- What the last statement of ValueOnes reads, and what it keeps. -/
def OnesInv (w0 : World) (g0 g1 g2 g3 g4 : Nat) (t n a b x y : Int) (W : World) : Prop :=
  Good W ∧ Below w0.heap.size w0 W ∧ Blk W g0 23 #[.int .i64 t, .int .i64 n] ∧ Blk W g1 23 #[.int .i64 a, .int .i64 b] ∧ Blk W g2 23 #[.int .i64 a, .int .i64 b] ∧ Blk W g3 23 #[.int .i64 x, .int .i64 y] ∧ Blk W g4 23 #[.int .i64 x, .int .i64 y]
theorem OnesInv.good {w0 : World} {g0 g1 g2 g3 g4 : Nat} {t n a b x y : Int} {W : World} (h : Hid (OnesInv w0 g0 g1 g2 g3 g4 t n a b x y W)) : Good W := h.out.1
theorem OnesInv.limb {p0 p1 p2 p3 p4 p5 p6 p7 p8 p9 q : Prop} (h : p0 ∧ p1 ∧ p2 ∧ p3 ∧ p4 ∧ p5 ∧ p6 ∧ p7 ∧ p8 ∧ p9 ∧ q) : q := h.2.2.2.2.2.2.2.2.2.2
theorem OnesInv.call {w0 : World} {g0 g1 g2 g3 g4 : Nat} {t n a b x y : Int} {W W' : World} (h : Hid (OnesInv w0 g0 g1 g2 g3 g4 t n a b x y W)) (hb : Below W.heap.size W W') : Hid (OnesInv w0 g0 g1 g2 g3 g4 t n a b x y W') := by
  obtain ⟨h1, h2, h3, h4, h5, h6, h7⟩ := h.out
  exact Lib.hid ⟨h1.call hb, below_call h2 hb, h3.call hb, h4.call hb, h5.call hb, h6.call hb, h7.call hb⟩
theorem OnesInv.drew {w0 : World} {g0 g1 g2 g3 g4 : Nat} {t n a b x y : Int} {W : World} (h : Hid (OnesInv w0 g0 g1 g2 g3 g4 t n a b x y W)) : Hid (OnesInv w0 g0 g1 g2 g3 g4 t n a b x y W.drew) := by
  obtain ⟨h1, h2, h3, h4, h5, h6, h7⟩ := h.out
  exact Lib.hid ⟨h1.drew, h2.drew, h3.drew, h4.drew, h5.drew, h6.drew, h7.drew⟩
theorem OnesInv.cells {w0 : World} {g0 g1 g2 g3 g4 : Nat} {t n a b x y : Int} {W : World} (h : Hid (OnesInv w0 g0 g1 g2 g3 g4 t n a b x y W)) :
    W.cell? ⟨g0, 0, none⟩ = some (.int .i64 t) ∧ W.cell? ⟨g0, 1, none⟩ = some (.int .i64 n) ∧ W.cell? ⟨g1, 0, none⟩ = some (.int .i64 a) ∧ W.cell? ⟨g1, 1, none⟩ = some (.int .i64 b) ∧ W.cell? ⟨g2, 0, none⟩ = some (.int .i64 a) ∧ W.cell? ⟨g2, 1, none⟩ = some (.int .i64 b) ∧
      W.cell? ⟨g3, 0, none⟩ = some (.int .i64 x) ∧ W.cell? ⟨g3, 1, none⟩ = some (.int .i64 y) ∧ W.cell? ⟨g4, 0, none⟩ = some (.int .i64 x) ∧ W.cell? ⟨g4, 1, none⟩ = some (.int .i64 y) ∧ Hid (OnesInv w0 g0 g1 g2 g3 g4 t n a b x y W) := by
  obtain ⟨_, _, h3, h4, h5, h6, h7⟩ := h.out
  exact ⟨h3.cell 0, h3.cell 1, h4.cell 0, h4.cell 1, h5.cell 0, h5.cell 1, h6.cell 0, h6.cell 1, h7.cell 0, h7.cell 1, h⟩

set_option maxHeartbeats 4000000 in
theorem valueOnes_walk (t : Int) (_ : -9223372036854775808 ≤ t) (_ : t ≤ 9223372036854775807) (n : Int) (n0 : -9223372036854775808 ≤ n) (n1 : n ≤ 9223372036854775807) (s : Int) (_ : -9223372036854775808 ≤ s) (_ : s ≤ 9223372036854775807) (m : Int) (_ : -9223372036854775808 ≤ m) (_ : m ≤ 9223372036854775807)
    (w : World) (hG : Good w) : Calls Tryd.prog 3 #[.agg #[.int .i64 t, .int .i64 n], .int .i64 s, .int .i64 m] w fun e w' => e = .returned (.bool true) ∧ Below w.heap.size w w' := by
  have K0 := Lib.hid (below_new (Below.refl w.heap.size w) (.cells #[.int .i64 t, .int .i64 n] 23))
  have G0 := hG.alloc (.cells #[.int .i64 t, .int .i64 n] 23)
  have A0 := Lib.hid (Blk.new w 23 #[.int .i64 t, .int .i64 n])
  clear hG
  go_enter Tryd.func3, Tryd.ntmps3
  go_wp2_with fail
  refine (text_any t n n0 n1 _ G0).mono ?_
  rintro e w1 ⟨rfl, b1⟩
  have G1 := G0.call b1
  have K1 := Lib.hid (below_call K0.out b1)
  have A0 := Lib.hid (A0.out.call b1)
  have c0 : w1.cell? ⟨w.heap.size, 0, none⟩ = some (.int .i64 t) := A0.out.cell 0
  have c1 : w1.cell? ⟨w.heap.size, 1, none⟩ = some (.int .i64 n) := A0.out.cell 1
  clear b1 G0
  go_wp2_with fail
  refine (rtext_any t n n0 n1 _).mono ?_
  rintro e w2 ⟨rfl, b2⟩
  have G2 := G1.call b2
  have K2 := Lib.hid (below_call K1.out b2)
  have A0 := Lib.hid (A0.out.call b2)
  have c0 : w2.cell? ⟨w.heap.size, 0, none⟩ = some (.int .i64 t) := A0.out.cell 0
  have c1 : w2.cell? ⟨w.heap.size, 1, none⟩ = some (.int .i64 n) := A0.out.cell 1
  clear b2 G1
  go_wp2_with fail
  refine (of_any s m _).mono ?_
  rintro e w3 ⟨rfl, b3⟩
  have G3 := (G2.call b3).alloc (.cells #[.int .i64 (Val.ofT s m), .int .i64 (Val.ofN s m)] 23)
  have K3 := Lib.hid (below_new (below_call K2.out b3) (.cells #[.int .i64 (Val.ofT s m), .int .i64 (Val.ofN s m)] 23))
  have A0 := Lib.hid ((A0.out.call b3).alloc (.cells #[.int .i64 (Val.ofT s m), .int .i64 (Val.ofN s m)] 23))
  have A3 := Lib.hid (Blk.new w3 23 #[.int .i64 (Val.ofT s m), .int .i64 (Val.ofN s m)])
  clear b3 G2
  go_wp2_with fail
  refine (rof_any s m _).mono ?_
  rintro e w4 ⟨rfl, b4⟩
  have G4 := (G3.call b4).alloc (.cells #[.int .i64 (Val.ofT s m), .int .i64 (Val.ofN s m)] 23)
  have K4 := Lib.hid (below_new (below_call K3.out b4) (.cells #[.int .i64 (Val.ofT s m), .int .i64 (Val.ofN s m)] 23))
  have A0 := Lib.hid ((A0.out.call b4).alloc (.cells #[.int .i64 (Val.ofT s m), .int .i64 (Val.ofN s m)] 23))
  have A3 := Lib.hid ((A3.out.call b4).alloc (.cells #[.int .i64 (Val.ofT s m), .int .i64 (Val.ofN s m)] 23))
  have A4 := Lib.hid (Blk.new w4 23 #[.int .i64 (Val.ofT s m), .int .i64 (Val.ofN s m)])
  clear b4 G3
  go_wp2_with fail
  refine (default_any s _).mono ?_
  rintro e w5 ⟨rfl, b5⟩
  have G5 := (G4.call b5).alloc (.cells #[.int .i64 (Val.ofT s 0), .int .i64 (Val.ofN s 0)] 23)
  have K5 := Lib.hid (below_new (below_call K4.out b5) (.cells #[.int .i64 (Val.ofT s 0), .int .i64 (Val.ofN s 0)] 23))
  have A0 := Lib.hid ((A0.out.call b5).alloc (.cells #[.int .i64 (Val.ofT s 0), .int .i64 (Val.ofN s 0)] 23))
  have A3 := Lib.hid ((A3.out.call b5).alloc (.cells #[.int .i64 (Val.ofT s 0), .int .i64 (Val.ofN s 0)] 23))
  have A4 := Lib.hid ((A4.out.call b5).alloc (.cells #[.int .i64 (Val.ofT s 0), .int .i64 (Val.ofN s 0)] 23))
  have A5 := Lib.hid (Blk.new w5 23 #[.int .i64 (Val.ofT s 0), .int .i64 (Val.ofN s 0)])
  clear b5 G4
  go_wp2_with fail
  refine (rdefault_any s _).mono ?_
  rintro e w6 ⟨rfl, b6⟩
  have G6 := (G5.call b6).alloc (.cells #[.int .i64 (Val.ofT s 0), .int .i64 (Val.ofN s 0)] 23)
  have K6 := Lib.hid (below_new (below_call K5.out b6) (.cells #[.int .i64 (Val.ofT s 0), .int .i64 (Val.ofN s 0)] 23))
  have A0 := Lib.hid ((A0.out.call b6).alloc (.cells #[.int .i64 (Val.ofT s 0), .int .i64 (Val.ofN s 0)] 23))
  have A3 := Lib.hid ((A3.out.call b6).alloc (.cells #[.int .i64 (Val.ofT s 0), .int .i64 (Val.ofN s 0)] 23))
  have A4 := Lib.hid ((A4.out.call b6).alloc (.cells #[.int .i64 (Val.ofT s 0), .int .i64 (Val.ofN s 0)] 23))
  have A5 := Lib.hid ((A5.out.call b6).alloc (.cells #[.int .i64 (Val.ofT s 0), .int .i64 (Val.ofN s 0)] 23))
  have A6 := Lib.hid (Blk.new w6 23 #[.int .i64 (Val.ofT s 0), .int .i64 (Val.ofN s 0)])
  clear b6 G5
  have HI : Hid (OnesInv w w.heap.size w3.heap.size w4.heap.size w5.heap.size w6.heap.size t n (Val.ofT s m) (Val.ofN s m) (Val.ofT s 0) (Val.ofN s 0) (w6.alloc (.cells #[.int .i64 (Val.ofT s 0), .int .i64 (Val.ofN s 0)] 23))) := Lib.hid ⟨G6, K6.out, A0.out, A3.out, A4.out, A5.out, A6.out⟩
  clear G6 K6 A0 A3 A4 A5 A6
  go_wp2_with fail
  generalize w6.alloc (.cells #[.int .i64 (Val.ofT s 0), .int .i64 (Val.ofN s 0)] 23) = W at HI ⊢
  go_region_held3 (fun W => W.cell? ⟨w.heap.size, 0, none⟩ = some (.int .i64 t) ∧ W.cell? ⟨w.heap.size, 1, none⟩ = some (.int .i64 n) ∧ W.cell? ⟨w3.heap.size, 0, none⟩ = some (.int .i64 (Val.ofT s m)) ∧ W.cell? ⟨w3.heap.size, 1, none⟩ = some (.int .i64 (Val.ofN s m)) ∧ W.cell? ⟨w4.heap.size, 0, none⟩ = some (.int .i64 (Val.ofT s m)) ∧ W.cell? ⟨w4.heap.size, 1, none⟩ = some (.int .i64 (Val.ofN s m)) ∧ W.cell? ⟨w5.heap.size, 0, none⟩ = some (.int .i64 (Val.ofT s 0)) ∧ W.cell? ⟨w5.heap.size, 1, none⟩ = some (.int .i64 (Val.ofN s 0)) ∧ W.cell? ⟨w6.heap.size, 0, none⟩ = some (.int .i64 (Val.ofT s 0)) ∧ W.cell? ⟨w6.heap.size, 1, none⟩ = some (.int .i64 (Val.ofN s 0)) ∧ Hid (OnesInv w w.heap.size w3.heap.size w4.heap.size w5.heap.size w6.heap.size t n (Val.ofT s m) (Val.ofN s m) (Val.ofT s 0) (Val.ofN s 0) W)) (first | exact OnesInv.cells (OnesInv.drew (by assumption)) | exact OnesInv.cells (OnesInv.call (by assumption) (by assumption)) | exact OnesInv.cells (OnesInv.call (OnesInv.limb (by assumption)) (by assumption))) (first | (go_at_call 14; refine (check_any t n _).mono ?_; rintro e w' ⟨rfl, hb⟩) | (go_at_call 15; refine (rcheck_any t n _).mono ?_; rintro e w' ⟨rfl, hb⟩) | (go_at_call 16; refine (works_any _ ?_).mono ?_; (first | exact OnesInv.good (by assumption) | exact OnesInv.good (OnesInv.limb (by assumption))); rintro e w' ⟨rfl, hb⟩))
  go_wp2_with fail
  have KF := OnesInv.limb (by assumption)
  go_ret
  exact ⟨rfl, KF.out.2.1⟩
end Go.Proofs.YtfghigioofaidaaDoor

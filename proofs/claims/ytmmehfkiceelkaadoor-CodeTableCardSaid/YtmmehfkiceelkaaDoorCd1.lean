/-
  LAYER 23, THE FIRST CONTRACTS: what the listed variables give ('Good').
-/
import Derived.Test.YtmmehfkiceelkaaDoorRows
import Derived.Test.YtmmehfkiceelkaaDoorGen3
import Derived.Test.YtmmehfkiceelkaaDoorNum
import Derived.Test.YtmmehfkiceelkaaDoorCdQ
import Derived.Test.YtmmehfkiceelkaaDoorShelf
import Derived.LaidLaws
namespace Go.Proofs.YtmmehfkiceelkaaDoor
open Go.ChangeShapes Go.WideShapes Go.ChangeAt Go.RowKit

theorem own : ownKnob Tryd.prog.godebug = none := by kernel_rfl
theorem laidOut : laidOutB Tryd.prog = true := by kernel_rfl
theorem laid_witness (os : Os) (args : Array Value) : laidMetH Tryd.prog Rows.codeTextsRow.laid ((World.laidAll Tryd.prog os Rows.codeTextsRow.laid).forCall (fun _ _ => 0) ⟨#[], args, []⟩).memory := by
  rw [MakeChecks.laidMetH_plain _ _ _ (by kernel_rfl)]
  exact laidMet_laidAll _ (by kernel_rfl) (by kernel_rfl)

/-- What the walks ask of a world: the library's tables and errors. -/
structure Good (w : World) : Prop where
  sz : 4 ≤ w.heap.size
  pow : Lib.TabIs Tryd.prog w "internal/strconv.uint64pow10" .u64 Lib.pow10Tab
  es : ∃ tp p, w.var? Tryd.prog "strconv.ErrSyntax" = some #[.iface tp p]
  er : ∃ tp p, w.var? Tryd.prog "strconv.ErrRange" = some #[.iface tp p]
  ml : ∃ m, w.cell? ⟨1, 0, none⟩ = some (.int .i64 m)

theorem gPow : Tryd.prog.globalNamed "internal/strconv.uint64pow10" = some 0 := by kernel_rfl
theorem gPowT : (Tryd.prog.globals[0]?).map (·.type) = some 124 := by kernel_rfl
theorem gEs : Tryd.prog.globalNamed "strconv.ErrSyntax" = some 2 := by kernel_rfl
theorem gEsT : (Tryd.prog.globals[2]?).map (·.type) = some 81 := by kernel_rfl
theorem gEr : Tryd.prog.globalNamed "strconv.ErrRange" = some 3 := by kernel_rfl
theorem gErT : (Tryd.prog.globals[3]?).map (·.type) = some 81 := by kernel_rfl

theorem Good.below {w w' : World} {B : Nat} (h : Good w) (hb : Below B w w') (hB : w.heap.size ≤ B) : Good w' := by
  have := h.sz
  have := hb.size
  obtain ⟨t1, p1, h1⟩ := h.es
  obtain ⟨t2, p2, h2⟩ := h.er
  obtain ⟨m, h3⟩ := h.ml
  exact ⟨by omega, var?_below hb gPow (by omega) h.pow, ⟨t1, p1, var?_below hb gEs (by omega) h1⟩, ⟨t2, p2, var?_below hb gEr (by omega) h2⟩,
    ⟨m, (hb.cell (p := ⟨1, 0, none⟩) (by show 1 < B; omega)).trans h3⟩⟩
theorem Good.alloc {w : World} (h : Good w) (o : Obj) : Good (w.alloc o) := h.below ((Below.refl _ _).alloc (Nat.le_refl _) o) (Nat.le_refl _)
theorem Good.call {w w' : World} (h : Good w) (hb : Below w.heap.size w w') : Good w' := h.below hb (Nat.le_refl _)
theorem Good.drew {w : World} (h : Good w) : Good w.drew := h.below ((Below.refl w.heap.size _).drew) (Nat.le_refl _)

theorem good_of {w : World} (h : laidMetH Tryd.prog Rows.codeTextsRow.laid w) (hs : w.ShapedOpen Tryd.prog) : Good w := by
  rw [MakeChecks.laidMetH_plain _ _ _ (by kernel_rfl)] at h
  have h2 := h.tail.tail
  have e2 : (Rows.laid_internal_strconv_uint64pow10 : DataW Unit) = Lib.tabData .u64 Lib.pow10Tab := by kernel_rfl
  rw [e2] at h2
  have h3 := h2.tail
  have h4 := h3.tail
  have hpow := Lib.tabIs_of_head gPow gPowT Tryd.underlying124 Tryd.underlying94 (show Tryd.prog.cellsOf 94 = 1 by kernel_rfl) (show Tryd.prog.cellsOf 124 = 20 by kernel_rfl) h2
  obtain ⟨c3, f3, p3, v3, d3⟩ := laidHead gEr gErT h3
  obtain ⟨_, u3, x3, k3, _⟩ := iface_of_trod Tryd.underlying81 d3
  obtain ⟨c4, f4, p4, v4, d4⟩ := laidHead gEs gEsT h4
  obtain ⟨_, u4, x4, k4, _⟩ := iface_of_trod Tryd.underlying81 d4
  obtain ⟨m, hm⟩ := Tryd.laysM145.s1_3 w hs
  refine ⟨by have := lt_of_cell (World.var?_cell gEr v3 0 |>.trans (by rw [show c3 = #[.iface u3 x3] from Array.toList_inj.1 k3]; rfl)); exact this, hpow, ⟨u4, x4, ?_⟩, ⟨u3, x3, ?_⟩, ⟨m, hm⟩⟩
  · rw [v4, show c4 = #[.iface u4 x4] from Array.toList_inj.1 k4]
  · rw [v3, show c3 = #[.iface u3 x3] from Array.toList_inj.1 k3]

theorem Good.drewN {w : World} (h : Good w) (n : Nat) : Good (w.drewN n) := h.below (⟨rfl, rfl, rfl, Nat.le_refl _, fun _ _ => rfl⟩ : Below w.heap.size w (w.drewN n)) (Nat.le_refl _)
theorem ret_int3 {k1 k2 k3 : IntKind} {x y z x' y' z' : Int} (h1 : x = x') (h2 : y = y') (h3 : z = z') : Ending.returned (.tuple #[.int k1 x, .int k2 y, .int k3 z]) = .returned (.tuple #[.int k1 x', .int k2 y', .int k3 z']) := by rw [h1, h2, h3]
theorem ret_bi {k : IntKind} {x x' : Bool} {y y' : Int} (h1 : x = x') (h2 : y = y') : Ending.returned (.tuple #[.bool x, .int k y]) = .returned (.tuple #[.bool x', .int k y']) := by rw [h1, h2]
/-! ### What is kept, hidden -/
def FInv (w0 W : World) : Prop := Good W ∧ Below w0.heap.size w0 W
theorem FInv.good {w0 W : World} (h : Hid (FInv w0 W)) : Good W := h.out.1
theorem FInv.drew {w0 W : World} (h : Hid (FInv w0 W)) : Hid (FInv w0 W.drew) := Lib.hid ⟨h.out.1.drew, h.out.2.drew⟩
theorem FInv.alloc {w0 W : World} (h : Hid (FInv w0 W)) (o : Obj) : Hid (FInv w0 (W.alloc o)) := Lib.hid ⟨h.out.1.alloc o, below_new h.out.2 o⟩
theorem FInv.drewN {w0 W : World} (h : Hid (FInv w0 W)) (n : Nat) : Hid (FInv w0 (W.drewN n)) := Lib.hid ⟨h.out.1.below ⟨rfl, rfl, rfl, Nat.le_refl _, fun _ _ => rfl⟩ (Nat.le_refl _), ⟨h.out.2.os, h.out.2.tape, h.out.2.output, h.out.2.size, h.out.2.block⟩⟩
theorem FInv.call {w0 W W' : World} (h : Hid (FInv w0 W)) (hb : Below W.heap.size W W') : Hid (FInv w0 W') := Lib.hid ⟨h.out.1.call hb, below_call h.out.2 hb⟩
theorem FInv.of {w0 W : World} (h : Good w0) (hb : Below w0.heap.size w0 W) : Hid (FInv w0 W) := Lib.hid ⟨h.below hb (Nat.le_refl _), hb⟩
end Go.Proofs.YtmmehfkiceelkaaDoor

/-
  LAYER 1: strings and comparisons are the document's: the statement's walk.
-/
import Derived.Test.YtmoeglecdojhcaaDoorPlT
import Derived.Test.YtmoeglecdojhcaaDoorPlO
namespace Go.Proofs.YtmoeglecdojhcaaDoor
open Go.ChangeShapes Go.WideShapes Go.ChangeAt Go.RowKit

/-- The arguments' blocks, and two places laid later. -/
def UB (w : World) (l1 c1 l2 c2 : Int) (W : World) : Prop := Good W ∧ Below w.heap.size w W ∧ Blk W w.heap.size 24 #[.int .i64 l1, .int .i64 c1] ∧ Blk W (w.heap.size + 1) 24 #[.int .i64 l2, .int .i64 c2]
def VB (w : World) (g1 g2 : Nat) (l1 c1 l2 c2 x y : Int) (W : World) : Prop := UB w l1 c1 l2 c2 W ∧ Blk W g1 24 #[.int .i64 x, .int .i64 y] ∧ Blk W g2 24 #[.int .i64 x, .int .i64 y]
section
variable {w W W' : World} {g1 g2 : Nat} {l1 c1 l2 c2 x y : Int}
theorem UB.new (hG : Good w) : Hid (UB w l1 c1 l2 c2 ((w.alloc (.cells #[.int .i64 l1, .int .i64 c1] 24)).alloc (.cells #[.int .i64 l2, .int .i64 c2] 24))) := by
  have h2 := Blk.new (w.alloc (.cells #[.int .i64 l1, .int .i64 c1] 24)) 24 #[.int .i64 l2, .int .i64 c2]
  rw [World.size_alloc] at h2
  exact Lib.hid ⟨(hG.alloc _).alloc _, below_new (below_new (Below.refl _ _) _) _, (Blk.new _ _ _).alloc _, h2⟩
theorem UB.call (h : Hid (UB w l1 c1 l2 c2 W)) (hb : Below W.heap.size W W') : Hid (UB w l1 c1 l2 c2 W') := Lib.hid ⟨h.out.1.call hb, below_call h.out.2.1 hb, h.out.2.2.1.call hb, h.out.2.2.2.call hb⟩
theorem UB.alloc (h : Hid (UB w l1 c1 l2 c2 W)) (o : Obj) : Hid (UB w l1 c1 l2 c2 (W.alloc o)) := Lib.hid ⟨h.out.1.alloc _, below_new h.out.2.1 _, h.out.2.2.1.alloc _, h.out.2.2.2.alloc _⟩
theorem UB.good (h : Hid (UB w l1 c1 l2 c2 W)) : Good W := h.out.1
theorem VB.call (h : Hid (VB w g1 g2 l1 c1 l2 c2 x y W)) (hb : Below W.heap.size W W') : Hid (VB w g1 g2 l1 c1 l2 c2 x y W') := Lib.hid ⟨(UB.call (Lib.hid h.out.1) hb).out, h.out.2.1.call hb, h.out.2.2.call hb⟩
theorem VB.drew (h : Hid (VB w g1 g2 l1 c1 l2 c2 x y W)) : Hid (VB w g1 g2 l1 c1 l2 c2 x y W.drew) := Lib.hid ⟨⟨h.out.1.1.drew, h.out.1.2.1.drew, h.out.1.2.2.1.drew, h.out.1.2.2.2.drew⟩, h.out.2.1.drew, h.out.2.2.drew⟩
theorem VB.cells (h : Hid (VB w g1 g2 l1 c1 l2 c2 x y W)) : W.cell? ⟨w.heap.size, 0, none⟩ = some (.int .i64 l1) ∧ W.cell? ⟨w.heap.size, 1, none⟩ = some (.int .i64 c1) ∧ W.cell? ⟨w.heap.size + 1, 0, none⟩ = some (.int .i64 l2) ∧ W.cell? ⟨w.heap.size + 1, 1, none⟩ = some (.int .i64 c2) ∧ W.cell? ⟨g1, 0, none⟩ = some (.int .i64 x) ∧ W.cell? ⟨g1, 1, none⟩ = some (.int .i64 y) ∧ W.cell? ⟨g2, 0, none⟩ = some (.int .i64 x) ∧ W.cell? ⟨g2, 1, none⟩ = some (.int .i64 y) ∧ Hid (VB w g1 g2 l1 c1 l2 c2 x y W) := ⟨h.out.1.2.2.1.cell 0, h.out.1.2.2.1.cell 1, h.out.1.2.2.2.cell 0, h.out.1.2.2.2.cell 1, h.out.2.1.cell 0, h.out.2.1.cell 1, h.out.2.2.cell 0, h.out.2.2.cell 1, h⟩
theorem VB.limb {p0 p1 p2 p3 p4 p5 p6 p7 q : Prop} (h : p0 ∧ p1 ∧ p2 ∧ p3 ∧ p4 ∧ p5 ∧ p6 ∧ p7 ∧ q) : q := h.2.2.2.2.2.2.2.2
theorem VB.good (h : Hid (VB w g1 g2 l1 c1 l2 c2 x y W)) : Good W := h.out.1.1
end
set_option maxHeartbeats 8000000 in
set_option maxRecDepth 100000 in
theorem strings_main (l1 c1 l2 c2 x y tE pE O : Int) (s tS : List UInt8) (hs : ¬ (100 : Int) < (s.length : Int)) (w : World) (hG : Good w)
    (HT : Hid (∀ W, Good W → Calls Tryd.prog 20 #[.agg #[.int .i64 l1, .int .i64 c1]] W fun e w' => e = .returned (.tuple #[.string ⟨tS.toArray⟩, .int .i64 tE]) ∧ Below W.heap.size W w'))
    (HRT : Hid (∀ W, Calls Tryd.prog 21 #[.agg #[.int .i64 l1, .int .i64 c1]] W fun e w' => e = .returned (.tuple #[.string ⟨tS.toArray⟩, .int .i64 tE]) ∧ Below W.heap.size W w'))
    (HP : Hid (∀ W, Good W → Calls Tryd.prog 22 #[.string ⟨s.toArray⟩] W fun e w' => e = .returned (.tuple #[.agg #[.int .i64 x, .int .i64 y], .int .i64 pE]) ∧ Below W.heap.size W w'))
    (HRP : Hid (∀ W, Good W → Calls Tryd.prog 23 #[.string ⟨s.toArray⟩] W fun e w' => e = .returned (.tuple #[.agg #[.int .i64 x, .int .i64 y], .int .i64 pE]) ∧ Below W.heap.size W w'))
    (HC : Hid (∀ W, Calls Tryd.prog 24 #[.agg #[.int .i64 l1, .int .i64 c1], .agg #[.int .i64 l2, .int .i64 c2]] W fun e w' => e = .returned (.int .i64 O) ∧ Below W.heap.size W w'))
    (HRC : Hid (∀ W, Calls Tryd.prog 25 #[.agg #[.int .i64 l1, .int .i64 c1], .agg #[.int .i64 l2, .int .i64 c2]] W fun e w' => e = .returned (.int .i64 O) ∧ Below W.heap.size W w')) :
    Calls Tryd.prog 6 #[.agg #[.int .i64 l1, .int .i64 c1], .agg #[.int .i64 l2, .int .i64 c2], .string ⟨s.toArray⟩] w fun e w' => e = .returned (.bool true) ∧ Below w.heap.size w w' := by
  have HU := UB.new (l1 := l1) (c1 := c1) (l2 := l2) (c2 := c2) hG
  clear hG
  go_enter Tryd.func6, Tryd.ntmps6
  go_wp2_with fail
  refine (HT.out _ (UB.good HU)).mono ?_
  rintro e w2 ⟨rfl, hb⟩
  replace HU := UB.call HU hb
  clear hb
  have d0 := HU.out.2.2.1.cell 0
  have d1 := HU.out.2.2.1.cell 1
  go_wp2_with fail
  refine (HRT.out _).mono ?_
  rintro e w3 ⟨rfl, hb⟩
  replace HU := UB.call HU hb
  clear hb d0 d1
  go_wp2_with fail
  refine (HP.out _ (UB.good HU)).mono ?_
  rintro e w4 ⟨rfl, hb⟩
  replace HU := UB.alloc (UB.call HU hb) (.cells #[.int .i64 x, .int .i64 y] 24)
  have H1 : Hid (Blk (w4.alloc (.cells #[.int .i64 x, .int .i64 y] 24)) w4.heap.size 24 #[.int .i64 x, .int .i64 y]) := Lib.hid (Blk.new _ _ _)
  clear hb
  go_wp2_with fail
  refine (HRP.out _ (UB.good HU)).mono ?_
  rintro e w5 ⟨rfl, hb⟩
  replace HU := UB.alloc (UB.call HU hb) (.cells #[.int .i64 x, .int .i64 y] 24)
  have H2 : Hid (Blk (w5.alloc (.cells #[.int .i64 x, .int .i64 y] 24)) w5.heap.size 24 #[.int .i64 x, .int .i64 y]) := Lib.hid (Blk.new _ _ _)
  replace H1 := Lib.hid ((H1.out.call hb).alloc (.cells #[.int .i64 x, .int .i64 y] 24))
  clear hb
  obtain ⟨g1, hg1⟩ : ∃ k, w4.heap.size = k := ⟨_, rfl⟩
  rw [hg1] at H1 ⊢
  clear hg1
  go_upto_region 7 with fail
  obtain ⟨w6, hw6⟩ : ∃ V, w5.alloc (.cells #[.int .i64 x, .int .i64 y] 24) = V := ⟨_, rfl⟩
  obtain ⟨g2, hg2⟩ : ∃ k, w5.heap.size = k := ⟨_, rfl⟩
  rw [hw6] at HU H1 H2 ⊢
  rw [hg2] at H2 ⊢
  clear hw6 hg2
  have HI : Hid (VB w g1 g2 l1 c1 l2 c2 x y w6) := Lib.hid ⟨HU.out, H1.out, H2.out⟩
  clear HU H1 H2 HT HRT HP HRP
  refine wp_region_held_drew (S := fun W => W.cell? ⟨w.heap.size, 0, none⟩ = some (.int .i64 l1) ∧ W.cell? ⟨w.heap.size, 1, none⟩ = some (.int .i64 c1) ∧ W.cell? ⟨w.heap.size + 1, 0, none⟩ = some (.int .i64 l2) ∧ W.cell? ⟨w.heap.size + 1, 1, none⟩ = some (.int .i64 c2) ∧ W.cell? ⟨g1, 0, none⟩ = some (.int .i64 x) ∧ W.cell? ⟨g1, 1, none⟩ = some (.int .i64 y) ∧ W.cell? ⟨g2, 0, none⟩ = some (.int .i64 x) ∧ W.cell? ⟨g2, 1, none⟩ = some (.int .i64 y) ∧ Hid (VB w g1 g2 l1 c1 l2 c2 x y W)) (by kernel_rfl) ?_ (fun hHeld0 => ?_)
  · exact VB.cells (VB.drew HI)
  refine wpAnyH_take (i := 0) (oi := ⟨some 39, _, _, _, _, _⟩) (v := ?_) rfl (by kernel_rfl) (by kernel_rfl) (by kernel_rfl) (fun _ _ _ h => h) (Or.inl ⟨rfl, ?_⟩) (by assumption) ?_
  rotate_left
  · (intro w hSw; (try dsimp only at hSw); go_simp; (try with_reducible rfl))
  (try simp only [Act.put, List.setIfInBounds_toArray, List.set_cons_zero, List.set_cons_succ])
  refine wpAnyH_take (i := 1) (oi := ⟨some 40, _, _, _, _, _⟩) (v := ?_) rfl (by kernel_rfl) (by kernel_rfl) (by kernel_rfl) (fun _ _ _ h => h) (Or.inl ⟨rfl, ?_⟩) (by assumption) ?_
  rotate_left
  · (intro w hSw; (try dsimp only at hSw); go_simp; (try with_reducible rfl))
  (try simp only [Act.put, List.setIfInBounds_toArray, List.set_cons_zero, List.set_cons_succ])
  refine wpAnyH_take (i := 2) (oi := ⟨some 41, _, _, _, _, _⟩) (v := ?_) rfl (by kernel_rfl) (by kernel_rfl) (by kernel_rfl) (fun _ _ _ h => h) (Or.inl ⟨rfl, ?_⟩) (by assumption) ?_
  rotate_left
  · (intro w hSw; (try dsimp only at hSw); go_simp; (try with_reducible rfl))
  (try simp only [Act.put, List.setIfInBounds_toArray, List.set_cons_zero, List.set_cons_succ])
  refine wpAnyH_take (i := 3) (oi := ⟨some 42, _, _, _, _, _⟩) (v := ?_) rfl (by kernel_rfl) (by kernel_rfl) (by kernel_rfl) (fun _ _ _ h => h) (Or.inl ⟨rfl, ?_⟩) (by assumption) ?_
  rotate_left
  · (intro w hSw; (try dsimp only at hSw); go_simp; (try with_reducible rfl))
  (try simp only [Act.put, List.setIfInBounds_toArray, List.set_cons_zero, List.set_cons_succ])
  refine wpAnyH_take (i := 4) (oi := ⟨some 43, _, _, _, _, _⟩) (v := ?_) rfl (by kernel_rfl) (by kernel_rfl) (by kernel_rfl) (fun _ _ _ h => h) (Or.inl ⟨rfl, ?_⟩) (by assumption) ?_
  rotate_left
  · (intro w hSw; (try dsimp only at hSw); go_simp; (try with_reducible rfl))
  (try simp only [Act.put, List.setIfInBounds_toArray, List.set_cons_zero, List.set_cons_succ])
  refine wpAnyH_take (i := 5) (oi := ⟨some 44, _, _, _, _, _⟩) (v := ?_) rfl (by kernel_rfl) (by kernel_rfl) (by kernel_rfl) (fun _ _ _ h => h) (Or.inl ⟨rfl, ?_⟩) (by assumption) ?_
  rotate_left
  · (intro w hSw; (try dsimp only at hSw); go_simp; (try with_reducible rfl))
  (try simp only [Act.put, List.setIfInBounds_toArray, List.set_cons_zero, List.set_cons_succ])
  refine wpAnyH_take (i := 6) (oi := ⟨some 45, _, _, _, _, _⟩) (v := ?_) rfl (by kernel_rfl) (by kernel_rfl) (by kernel_rfl) (fun _ _ _ h => h) (Or.inl ⟨rfl, ?_⟩) (by assumption) ?_
  rotate_left
  · (intro w hSw; (try dsimp only at hSw); go_simp; (try with_reducible rfl))
  (try simp only [Act.put, List.setIfInBounds_toArray, List.set_cons_zero, List.set_cons_succ])
  refine wpAnyH_take (i := 7) (oi := ⟨some 46, _, _, _, _, _⟩) (v := ?_) rfl (by kernel_rfl) (by kernel_rfl) (by kernel_rfl) (fun _ _ _ h => h) (Or.inl ⟨rfl, ?_⟩) (by assumption) ?_
  rotate_left
  · (intro w hSw; (try dsimp only at hSw); go_simp; (try with_reducible rfl))
  (try simp only [Act.put, List.setIfInBounds_toArray, List.set_cons_zero, List.set_cons_succ])
  refine wpAnyH_take (i := 8) (oi := ⟨some 47, _, _, _, _, _⟩) (v := ?_) rfl (by kernel_rfl) (by kernel_rfl) (by kernel_rfl) (fun _ _ _ h => h) (Or.inl ⟨rfl, ?_⟩) (by assumption) ?_
  rotate_left
  · (intro w hSw; (try dsimp only at hSw); go_simp; (try with_reducible rfl))
  (try simp only [Act.put, List.setIfInBounds_toArray, List.set_cons_zero, List.set_cons_succ])
  refine wpAnyH_take (i := 9) (oi := ⟨some 48, _, _, _, _, _⟩) (v := ?_) rfl (by kernel_rfl) (by kernel_rfl) (by kernel_rfl) (fun _ _ _ h => h) (Or.inl ⟨rfl, ?_⟩) (by assumption) ?_
  rotate_left
  · (intro w hSw; (try dsimp only at hSw); go_simp; (try with_reducible rfl))
  (try simp only [Act.put, List.setIfInBounds_toArray, List.set_cons_zero, List.set_cons_succ])
  refine wpAnyH_take (i := 10) (oi := ⟨some 49, _, _, _, _, _⟩) (v := ?_) rfl (by kernel_rfl) (by kernel_rfl) (by kernel_rfl) (fun _ _ _ h => h) (Or.inl ⟨rfl, ?_⟩) (by assumption) ?_
  rotate_left
  · (intro w hSw; (try dsimp only at hSw); go_simp; (try with_reducible rfl))
  (try simp only [Act.put, List.setIfInBounds_toArray, List.set_cons_zero, List.set_cons_succ])
  refine wpAnyH_take (i := 11) (oi := ⟨some 50, _, _, _, _, _⟩) (v := ?_) rfl (by kernel_rfl) (by kernel_rfl) (by kernel_rfl) (fun _ _ _ h => h) (Or.inl ⟨rfl, ?_⟩) (by assumption) ?_
  rotate_left
  · (intro w hSw; (try dsimp only at hSw); go_simp; (try with_reducible rfl))
  (try simp only [Act.put, List.setIfInBounds_toArray, List.set_cons_zero, List.set_cons_succ])
  refine wpAnyH_take (i := 12) (oi := ⟨some 51, _, _, _, _, _⟩) (v := ?_) rfl (by kernel_rfl) (by kernel_rfl) (by kernel_rfl) (fun _ _ _ h => h) (Or.inl ⟨rfl, ?_⟩) (by assumption) ?_
  rotate_left
  · (intro w hSw; (try dsimp only at hSw); go_simp; (try with_reducible rfl))
  (try simp only [Act.put, List.setIfInBounds_toArray, List.set_cons_zero, List.set_cons_succ])
  refine wpAnyH_take (i := 13) (oi := ⟨some 52, _, _, _, _, _⟩) (v := ?_) rfl (by kernel_rfl) (by kernel_rfl) (by kernel_rfl) (fun _ _ _ h => h) (Or.inl ⟨rfl, ?_⟩) (by assumption) ?_
  rotate_left
  · (intro w hSw; (try dsimp only at hSw); go_simp; (try with_reducible rfl))
  (try simp only [Act.put, List.setIfInBounds_toArray, List.set_cons_zero, List.set_cons_succ])
  refine wpAnyH_take (i := 14) (oi := ⟨some 53, _, _, _, _, _⟩) (v := ?_) rfl (by kernel_rfl) (by kernel_rfl) (by kernel_rfl) (fun _ _ _ h => h) (Or.inl ⟨rfl, ?_⟩) (by assumption) ?_
  rotate_left
  · (intro w hSw; (try dsimp only at hSw); go_simp; (try with_reducible rfl))
  (try simp only [Act.put, List.setIfInBounds_toArray, List.set_cons_zero, List.set_cons_succ])
  refine wpAnyH_take (i := 15) (oi := ⟨some 54, _, _, _, _, _⟩) (v := ?_) rfl (by kernel_rfl) (by kernel_rfl) (by kernel_rfl) (fun _ _ _ h => h) (Or.inl ⟨rfl, ?_⟩) (by assumption) ?_
  rotate_left
  · (intro w hSw; (try dsimp only at hSw); go_simp; (try with_reducible rfl))
  (try simp only [Act.put, List.setIfInBounds_toArray, List.set_cons_zero, List.set_cons_succ])
  refine wpAnyH_take (i := 16) (oi := ⟨some 55, _, _, _, _, _⟩) (v := ?_) rfl (by kernel_rfl) (by kernel_rfl) (by kernel_rfl) (fun _ _ _ h => h) (Or.inl ⟨rfl, ?_⟩) (by assumption) ?_
  rotate_left
  · (intro w hSw; (try dsimp only at hSw); go_simp; (try with_reducible rfl))
  (try simp only [Act.put, List.setIfInBounds_toArray, List.set_cons_zero, List.set_cons_succ])
  refine wpAnyH_take (i := 17) (oi := ⟨some 56, _, _, _, _, _⟩) (v := ?_) rfl (by kernel_rfl) (by kernel_rfl) (by kernel_rfl) (fun _ _ _ h => h) (Or.inl ⟨rfl, ?_⟩) (by assumption) ?_
  rotate_left
  · (intro w hSw; (try dsimp only at hSw); go_simp; (try with_reducible rfl))
  (try simp only [Act.put, List.setIfInBounds_toArray, List.set_cons_zero, List.set_cons_succ])
  refine wpAnyH_take (i := 18) (oi := ⟨some 57, _, _, _, _, _⟩) (v := ?_) rfl (by kernel_rfl) (by kernel_rfl) (by kernel_rfl) (fun _ _ _ h => h) (Or.inl ⟨rfl, ?_⟩) (by assumption) ?_
  rotate_left
  · (intro w hSw; (try dsimp only at hSw); go_simp; (try with_reducible rfl))
  (try simp only [Act.put, List.setIfInBounds_toArray, List.set_cons_zero, List.set_cons_succ])
  refine wpAnyH_take (i := 19) (oi := ⟨some 58, _, _, _, _, _⟩) (v := ?_) rfl (by kernel_rfl) (by kernel_rfl) (by kernel_rfl) (fun _ _ _ h => h) (Or.inl ⟨rfl, ?_⟩) (by assumption) ?_
  rotate_left
  · (intro w hSw; (try dsimp only at hSw); go_simp; (try with_reducible rfl))
  (try simp only [Act.put, List.setIfInBounds_toArray, List.set_cons_zero, List.set_cons_succ])
  refine wpAnyH_take (i := 20) (oi := ⟨some 59, _, _, _, _, _⟩) (v := ?_) rfl (by kernel_rfl) (by kernel_rfl) (by kernel_rfl) (fun _ _ _ h => h) (Or.inl ⟨rfl, ?_⟩) (by assumption) ?_
  rotate_left
  · (intro w hSw; (try dsimp only at hSw); go_simp; (try with_reducible rfl))
  (try simp only [Act.put, List.setIfInBounds_toArray, List.set_cons_zero, List.set_cons_succ])
  refine wpAnyH_take (i := 22) (oi := ⟨some 61, _, _, _, _, _⟩) (v := ?_) rfl (by kernel_rfl) (by kernel_rfl) (by kernel_rfl) (fun _ _ _ h => h) (Or.inl ⟨rfl, ?_⟩) (by assumption) ?_
  rotate_left
  · (intro w hSw; (try dsimp only at hSw); go_simp; (try with_reducible rfl))
  (try simp only [Act.put, List.setIfInBounds_toArray, List.set_cons_zero, List.set_cons_succ])
  refine wpAnyH_take (i := 23) (oi := ⟨some 62, _, _, _, _, _⟩) (v := ?_) rfl (by kernel_rfl) (by kernel_rfl) (by kernel_rfl) (fun _ _ _ h => h) (Or.inl ⟨rfl, ?_⟩) (by assumption) ?_
  rotate_left
  · (intro w hSw; (try dsimp only at hSw); go_simp; (try with_reducible rfl))
  (try simp only [Act.put, List.setIfInBounds_toArray, List.set_cons_zero, List.set_cons_succ])
  refine wpAnyH_ready (rs := [21]) (by kernel_rfl) (by simp) ?_
  refine AllReadyH.cons (o := ⟨some 60, _, _, _, _, _⟩) rfl (fun K hK => ?_) AllReadyH.nil
  have hCur := VB.limb hHeld0
  go_simp
  refine (HC.out _).mono ?_
  rintro e w' ⟨rfl, hb⟩
  have hNew := VB.call hCur hb
  clear hb hCur
  go_wp2_with fail
  refine hK.out _ _ ?_ (fun hHeld1 => ?_)
  · exact VB.cells hNew
  clear hK K hHeld0
  (try simp only [Act.put, List.setIfInBounds_toArray, List.set_cons_zero, List.set_cons_succ])
  refine wpAnyH_ready (rs := [24]) (by kernel_rfl) (by simp) ?_
  refine AllReadyH.cons (o := ⟨some 63, _, _, _, _, _⟩) rfl (fun K hK => ?_) AllReadyH.nil
  have hCur := VB.limb hHeld1
  go_simp
  refine (HRC.out _).mono ?_
  rintro e w' ⟨rfl, hb⟩
  have hNew := VB.call hCur hb
  clear hb hCur
  go_wp2_with fail
  refine hK.out _ _ ?_ (fun hHeld2 => ?_)
  · exact VB.cells hNew
  clear hK K hHeld1
  (try simp only [Act.put, List.setIfInBounds_toArray, List.set_cons_zero, List.set_cons_succ])
  refine wpAnyH_take (i := 25) (oi := ⟨some 64, _, _, _, _, _⟩) (v := ?_) rfl (by kernel_rfl) (by kernel_rfl) (by kernel_rfl) (fun _ _ _ h => h) (Or.inl ⟨rfl, ?_⟩) (by assumption) ?_
  rotate_left
  · (intro w hSw; (try dsimp only at hSw); go_simp; (try with_reducible rfl))
  (try simp only [Act.put, List.setIfInBounds_toArray, List.set_cons_zero, List.set_cons_succ])
  refine wpAnyH_take (i := 26) (oi := ⟨some 65, _, _, _, _, _⟩) (v := ?_) rfl (by kernel_rfl) (by kernel_rfl) (by kernel_rfl) (fun _ _ _ h => h) (Or.inl ⟨rfl, ?_⟩) (by assumption) ?_
  rotate_left
  · (intro w hSw; (try dsimp only at hSw); go_simp; (try with_reducible rfl))
  (try simp only [Act.put, List.setIfInBounds_toArray, List.set_cons_zero, List.set_cons_succ])
  refine wpAnyH_take (i := 27) (oi := ⟨some 66, _, _, _, _, _⟩) (v := ?_) rfl (by kernel_rfl) (by kernel_rfl) (by kernel_rfl) (fun _ _ _ h => h) (Or.inl ⟨rfl, ?_⟩) (by assumption) ?_
  rotate_left
  · (intro w hSw; (try dsimp only at hSw); go_simp; (try with_reducible rfl))
  (try simp only [Act.put, List.setIfInBounds_toArray, List.set_cons_zero, List.set_cons_succ])
  refine wpAnyH_ready (rs := [28]) (by kernel_rfl) (by simp) ?_
  refine AllReadyH.cons (o := ⟨some 67, _, _, _, _, _⟩) rfl (fun K hK => ?_) AllReadyH.nil
  have hCur := VB.limb hHeld2
  go_simp
  refine (works_any _ (VB.good hCur)).mono ?_
  rintro e w' ⟨rfl, hb⟩
  have hNew := VB.call hCur hb
  clear hb hCur
  go_wp2_with fail
  refine hK.out _ _ ?_ (fun hHeld3 => ?_)
  · exact VB.cells hNew
  clear hK K hHeld2
  (try simp only [Act.put, List.setIfInBounds_toArray, List.set_cons_zero, List.set_cons_succ])
  refine wpAnyH_take (i := 29) (oi := ⟨some 68, _, _, _, _, _⟩) (v := ?_) rfl (by kernel_rfl) (by kernel_rfl) (by kernel_rfl) (fun _ _ _ h => h) (Or.inl ⟨rfl, ?_⟩) (by assumption) ?_
  rotate_left
  · (intro w hSw; (try dsimp only at hSw); go_simp; (try with_reducible rfl))
  (try simp only [Act.put, List.setIfInBounds_toArray, List.set_cons_zero, List.set_cons_succ])
  refine wpAnyH_take (i := 30) (oi := ⟨some 6, _, _, _, _, _⟩) (v := ?_) rfl (by kernel_rfl) (by kernel_rfl) (by kernel_rfl) (fun _ _ _ h => h) (Or.inl ⟨rfl, ?_⟩) (by assumption) ?_
  rotate_left
  · (intro w hSw; (try dsimp only at hSw); go_simp; (try with_reducible rfl))
  (try simp only [Act.put, List.setIfInBounds_toArray, List.set_cons_zero, List.set_cons_succ])
  refine wpAnyH_done (by kernel_rfl) ?_ _
  have HQ := VB.limb hHeld3
  clear hHeld3
  go_wp2_with fail
  go_ret
  exact ⟨rfl, HQ.out.1.2.1⟩
set_option maxRecDepth 100000 in
theorem placeStrings_walk (l1 : Int) (a1 : -9223372036854775808 ≤ l1) (a2 : l1 ≤ 9223372036854775807) (c1 : Int) (a3 : -9223372036854775808 ≤ c1) (a4 : c1 ≤ 9223372036854775807) (l2 : Int) (_ : -9223372036854775808 ≤ l2) (_ : l2 ≤ 9223372036854775807) (c2 : Int) (_ : -9223372036854775808 ≤ c2) (_ : c2 ≤ 9223372036854775807) (s : ByteArray) (_ : s.size ≤ maxLen) (w : World) (hG : Good w) :
    Calls Tryd.prog 6 #[.agg #[.int .i64 l1, .int .i64 c1], .agg #[.int .i64 l2, .int .i64 c2], .string s] w fun e w' => e = .returned (.bool true) ∧ Below w.heap.size w w' := by
  obtain ⟨s, rfl⟩ : ∃ t : List UInt8, s = ⟨t.toArray⟩ := ⟨s.data.toList, rfl⟩
  by_cases hs : 100 < s.length
  · have HU := UB.new (l1 := l1) (c1 := c1) (l2 := l2) (c2 := c2) hG
    have k1 : (100 : Int) < (s.length : Int) := by omega
    clear hG
    go_enter Tryd.func6, Tryd.ntmps6
    go_wp2_with fail
    refine (works_any _ (UB.good HU)).mono ?_
    rintro e w2 ⟨rfl, b⟩
    replace HU := UB.call HU b
    clear b
    go_wp2_with fail
    go_ret
    exact ⟨rfl, HU.out.2.1⟩
  exact strings_main l1 c1 l2 c2 (prL s) (prC s) (txE l1 c1) (prE s) (Pl.cmpP l1 c1 l2 c2) s (txS l1 c1) (by omega) w hG (Lib.hid fun W hG => text_any l1 c1 a1 a2 a3 a4 W hG) (Lib.hid fun W => rtext_any l1 c1 a1 a2 a3 a4 W) (Lib.hid fun W hG => pparse_any s (by omega) W hG) (Lib.hid fun W hG => rpparse_any s (by omega) W hG) (Lib.hid fun W => compare_any _ _ _ _ W) (Lib.hid fun W => rcompare_any _ _ _ _ W)

end Go.Proofs.YtmoeglecdojhcaaDoor

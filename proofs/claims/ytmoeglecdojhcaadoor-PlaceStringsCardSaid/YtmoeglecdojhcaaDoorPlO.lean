/-
  LAYER 1: places are ordered: the statement's walk.
-/
import Derived.Test.YtmoeglecdojhcaaDoorPlW
namespace Go.Proofs.YtmoeglecdojhcaaDoor
open Go.ChangeShapes Go.WideShapes Go.ChangeAt Go.RowKit

theorem cmp_is (l c l' c' : Int) : (Pl.cmpP l c l' c' = -1 ∧ (l < l' ∨ (l = l' ∧ c < c'))) ∨ (Pl.cmpP l c l' c' = 0 ∧ l = l' ∧ c = c') ∨ (Pl.cmpP l c l' c' = 1 ∧ (l' < l ∨ (l = l' ∧ c' < c))) := by
  unfold Pl.cmpP
  repeat' split
  all_goals omega
/-- Three places' blocks, in a good world. -/
def TB (w : World) (l1 c1 l2 c2 l3 c3 : Int) (W : World) : Prop := Good W ∧ Below w.heap.size w W ∧ Blk W w.heap.size 24 #[.int .i64 l1, .int .i64 c1] ∧ Blk W (w.heap.size + 1) 24 #[.int .i64 l2, .int .i64 c2] ∧ Blk W (w.heap.size + 1 + 1) 24 #[.int .i64 l3, .int .i64 c3]
section
variable {w W W' : World} {l1 c1 l2 c2 l3 c3 : Int}
theorem TB.new (hG : Good w) : Hid (TB w l1 c1 l2 c2 l3 c3 (((w.alloc (.cells #[.int .i64 l1, .int .i64 c1] 24)).alloc (.cells #[.int .i64 l2, .int .i64 c2] 24)).alloc (.cells #[.int .i64 l3, .int .i64 c3] 24))) := by
  have h2 := Blk.new (w.alloc (.cells #[.int .i64 l1, .int .i64 c1] 24)) 24 #[.int .i64 l2, .int .i64 c2]
  have h3 := Blk.new ((w.alloc (.cells #[.int .i64 l1, .int .i64 c1] 24)).alloc (.cells #[.int .i64 l2, .int .i64 c2] 24)) 24 #[.int .i64 l3, .int .i64 c3]
  simp only [World.size_alloc] at h2 h3
  exact Lib.hid ⟨((hG.alloc _).alloc _).alloc _, below_new (below_new (below_new (Below.refl _ _) _) _) _, ((Blk.new _ _ _).alloc _).alloc _, h2.alloc _, h3⟩
theorem TB.call (h : Hid (TB w l1 c1 l2 c2 l3 c3 W)) (hb : Below W.heap.size W W') : Hid (TB w l1 c1 l2 c2 l3 c3 W') := Lib.hid ⟨h.out.1.call hb, below_call h.out.2.1 hb, h.out.2.2.1.call hb, h.out.2.2.2.1.call hb, h.out.2.2.2.2.call hb⟩
theorem TB.drew (h : Hid (TB w l1 c1 l2 c2 l3 c3 W)) : Hid (TB w l1 c1 l2 c2 l3 c3 W.drew) := Lib.hid ⟨h.out.1.drew, h.out.2.1.drew, h.out.2.2.1.drew, h.out.2.2.2.1.drew, h.out.2.2.2.2.drew⟩
theorem TB.cells (h : Hid (TB w l1 c1 l2 c2 l3 c3 W)) : W.cell? ⟨w.heap.size, 0, none⟩ = some (.int .i64 l1) ∧ W.cell? ⟨w.heap.size, 1, none⟩ = some (.int .i64 c1) ∧ W.cell? ⟨w.heap.size + 1, 0, none⟩ = some (.int .i64 l2) ∧ W.cell? ⟨w.heap.size + 1, 1, none⟩ = some (.int .i64 c2) ∧ W.cell? ⟨w.heap.size + 1 + 1, 0, none⟩ = some (.int .i64 l3) ∧ W.cell? ⟨w.heap.size + 1 + 1, 1, none⟩ = some (.int .i64 c3) ∧ Hid (TB w l1 c1 l2 c2 l3 c3 W) := ⟨h.out.2.2.1.cell 0, h.out.2.2.1.cell 1, h.out.2.2.2.1.cell 0, h.out.2.2.2.1.cell 1, h.out.2.2.2.2.cell 0, h.out.2.2.2.2.cell 1, h⟩
theorem TB.limb {p0 p1 p2 p3 p4 p5 q : Prop} (h : p0 ∧ p1 ∧ p2 ∧ p3 ∧ p4 ∧ p5 ∧ q) : q := h.2.2.2.2.2.2
theorem TB.good (h : Hid (TB w l1 c1 l2 c2 l3 c3 W)) : Good W := h.out.1
end
set_option maxHeartbeats 4000000 in
set_option maxRecDepth 100000 in
theorem orders_main (l1 c1 l2 c2 l3 c3 X Y Z X' : Int) (w : World) (hG : Good w)
    (HAB : Hid (∀ W, Calls Tryd.prog 24 #[.agg #[.int .i64 l1, .int .i64 c1], .agg #[.int .i64 l2, .int .i64 c2]] W fun e w' => e = .returned (.int .i64 X) ∧ Below W.heap.size W w')) (HBC : Hid (∀ W, Calls Tryd.prog 24 #[.agg #[.int .i64 l2, .int .i64 c2], .agg #[.int .i64 l3, .int .i64 c3]] W fun e w' => e = .returned (.int .i64 Y) ∧ Below W.heap.size W w')) (HAC : Hid (∀ W, Calls Tryd.prog 24 #[.agg #[.int .i64 l1, .int .i64 c1], .agg #[.int .i64 l3, .int .i64 c3]] W fun e w' => e = .returned (.int .i64 Z) ∧ Below W.heap.size W w')) (HBA : Hid (∀ W, Calls Tryd.prog 24 #[.agg #[.int .i64 l2, .int .i64 c2], .agg #[.int .i64 l1, .int .i64 c1]] W fun e w' => e = .returned (.int .i64 X') ∧ Below W.heap.size W w'))
    (HF : Hid (((X = -1 ∧ X' = 1 ∧ (l1 < l2 ∨ (l1 = l2 ∧ c1 < c2))) ∨ (X = 0 ∧ X' = 0 ∧ l1 = l2 ∧ c1 = c2) ∨ (X = 1 ∧ X' = -1 ∧ (l2 < l1 ∨ (l1 = l2 ∧ c2 < c1)))) ∧ (X ≤ 0 → Y ≤ 0 → Z ≤ 0))) :
    Calls Tryd.prog 7 #[.agg #[.int .i64 l1, .int .i64 c1], .agg #[.int .i64 l2, .int .i64 c2], .agg #[.int .i64 l3, .int .i64 c3]] w fun e w' => e = .returned (.bool true) ∧ Below w.heap.size w w' := by
  have HP := TB.new (l1 := l1) (c1 := c1) (l2 := l2) (c2 := c2) (l3 := l3) (c3 := c3) hG
  clear hG
  go_enter Tryd.func7, Tryd.ntmps7
  go_upto_region 1 with fail
  refine wp_region_held_drew (S := fun W => W.cell? ⟨w.heap.size, 0, none⟩ = some (.int .i64 l1) ∧ W.cell? ⟨w.heap.size, 1, none⟩ = some (.int .i64 c1) ∧ W.cell? ⟨w.heap.size + 1, 0, none⟩ = some (.int .i64 l2) ∧ W.cell? ⟨w.heap.size + 1, 1, none⟩ = some (.int .i64 c2) ∧ W.cell? ⟨w.heap.size + 1 + 1, 0, none⟩ = some (.int .i64 l3) ∧ W.cell? ⟨w.heap.size + 1 + 1, 1, none⟩ = some (.int .i64 c3) ∧ Hid (TB w l1 c1 l2 c2 l3 c3 W)) (by kernel_rfl) ?_ (fun hHeld0 => ?_)
  · exact TB.cells (TB.drew HP)
  refine wpAnyH_take (i := 0) (oi := ⟨some 10, _, _, _, _, _⟩) (v := ?_) rfl (by kernel_rfl) (by kernel_rfl) (by kernel_rfl) (fun _ _ _ h => h) (Or.inl ⟨rfl, ?_⟩) (by assumption) ?_
  rotate_left
  · (intro w hSw; (try dsimp only at hSw); go_simp; (try with_reducible rfl))
  (try simp only [Act.put, List.setIfInBounds_toArray, List.set_cons_zero, List.set_cons_succ])
  refine wpAnyH_take (i := 1) (oi := ⟨some 11, _, _, _, _, _⟩) (v := ?_) rfl (by kernel_rfl) (by kernel_rfl) (by kernel_rfl) (fun _ _ _ h => h) (Or.inl ⟨rfl, ?_⟩) (by assumption) ?_
  rotate_left
  · (intro w hSw; (try dsimp only at hSw); go_simp; (try with_reducible rfl))
  (try simp only [Act.put, List.setIfInBounds_toArray, List.set_cons_zero, List.set_cons_succ])
  refine wpAnyH_take (i := 3) (oi := ⟨some 13, _, _, _, _, _⟩) (v := ?_) rfl (by kernel_rfl) (by kernel_rfl) (by kernel_rfl) (fun _ _ _ h => h) (Or.inl ⟨rfl, ?_⟩) (by assumption) ?_
  rotate_left
  · (intro w hSw; (try dsimp only at hSw); go_simp; (try with_reducible rfl))
  (try simp only [Act.put, List.setIfInBounds_toArray, List.set_cons_zero, List.set_cons_succ])
  refine wpAnyH_take (i := 4) (oi := ⟨some 14, _, _, _, _, _⟩) (v := ?_) rfl (by kernel_rfl) (by kernel_rfl) (by kernel_rfl) (fun _ _ _ h => h) (Or.inl ⟨rfl, ?_⟩) (by assumption) ?_
  rotate_left
  · (intro w hSw; (try dsimp only at hSw); go_simp; (try with_reducible rfl))
  (try simp only [Act.put, List.setIfInBounds_toArray, List.set_cons_zero, List.set_cons_succ])
  refine wpAnyH_take (i := 6) (oi := ⟨some 16, _, _, _, _, _⟩) (v := ?_) rfl (by kernel_rfl) (by kernel_rfl) (by kernel_rfl) (fun _ _ _ h => h) (Or.inl ⟨rfl, ?_⟩) (by assumption) ?_
  rotate_left
  · (intro w hSw; (try dsimp only at hSw); go_simp; (try with_reducible rfl))
  (try simp only [Act.put, List.setIfInBounds_toArray, List.set_cons_zero, List.set_cons_succ])
  refine wpAnyH_take (i := 7) (oi := ⟨some 17, _, _, _, _, _⟩) (v := ?_) rfl (by kernel_rfl) (by kernel_rfl) (by kernel_rfl) (fun _ _ _ h => h) (Or.inl ⟨rfl, ?_⟩) (by assumption) ?_
  rotate_left
  · (intro w hSw; (try dsimp only at hSw); go_simp; (try with_reducible rfl))
  (try simp only [Act.put, List.setIfInBounds_toArray, List.set_cons_zero, List.set_cons_succ])
  refine wpAnyH_ready (rs := [2]) (by kernel_rfl) (by simp) ?_
  refine AllReadyH.cons (o := ⟨some 12, _, _, _, _, _⟩) rfl (fun K hK => ?_) AllReadyH.nil
  have hCur := TB.limb hHeld0
  go_simp
  refine (HAB.out _).mono ?_
  rintro e w' ⟨rfl, hb⟩
  have hNew := TB.call hCur hb
  clear hb hCur
  go_wp2_with fail
  refine hK.out _ _ ?_ (fun hHeld1 => ?_)
  · exact TB.cells hNew
  clear hK K hHeld0
  (try simp only [Act.put, List.setIfInBounds_toArray, List.set_cons_zero, List.set_cons_succ])
  refine wpAnyH_ready (rs := [5]) (by kernel_rfl) (by simp) ?_
  refine AllReadyH.cons (o := ⟨some 15, _, _, _, _, _⟩) rfl (fun K hK => ?_) AllReadyH.nil
  have hCur := TB.limb hHeld1
  go_simp
  refine (HBC.out _).mono ?_
  rintro e w' ⟨rfl, hb⟩
  have hNew := TB.call hCur hb
  clear hb hCur
  go_wp2_with fail
  refine hK.out _ _ ?_ (fun hHeld2 => ?_)
  · exact TB.cells hNew
  clear hK K hHeld1
  (try simp only [Act.put, List.setIfInBounds_toArray, List.set_cons_zero, List.set_cons_succ])
  refine wpAnyH_ready (rs := [8]) (by kernel_rfl) (by simp) ?_
  refine AllReadyH.cons (o := ⟨some 18, _, _, _, _, _⟩) rfl (fun K hK => ?_) AllReadyH.nil
  have hCur := TB.limb hHeld2
  go_simp
  refine (HAC.out _).mono ?_
  rintro e w' ⟨rfl, hb⟩
  have hNew := TB.call hCur hb
  clear hb hCur
  go_wp2_with fail
  refine hK.out _ _ ?_ (fun hHeld3 => ?_)
  · exact TB.cells hNew
  clear hK K hHeld2
  (try simp only [Act.put, List.setIfInBounds_toArray, List.set_cons_zero, List.set_cons_succ])
  refine wpAnyH_take (i := 9) (oi := ⟨some 7, _, _, _, _, _⟩) (v := ?_) rfl (by kernel_rfl) (by kernel_rfl) (by kernel_rfl) (fun _ _ _ h => h) (Or.inl ⟨rfl, ?_⟩) (by assumption) ?_
  rotate_left
  · (intro w hSw; (try dsimp only at hSw); go_simp; (try with_reducible rfl))
  (try simp only [Act.put, List.setIfInBounds_toArray, List.set_cons_zero, List.set_cons_succ])
  refine wpAnyH_take (i := 10) (oi := ⟨some 8, _, _, _, _, _⟩) (v := ?_) rfl (by kernel_rfl) (by kernel_rfl) (by kernel_rfl) (fun _ _ _ h => h) (Or.inl ⟨rfl, ?_⟩) (by assumption) ?_
  rotate_left
  · (intro w hSw; (try dsimp only at hSw); go_simp; (try with_reducible rfl))
  (try simp only [Act.put, List.setIfInBounds_toArray, List.set_cons_zero, List.set_cons_succ])
  refine wpAnyH_take (i := 11) (oi := ⟨some 9, _, _, _, _, _⟩) (v := ?_) rfl (by kernel_rfl) (by kernel_rfl) (by kernel_rfl) (fun _ _ _ h => h) (Or.inl ⟨rfl, ?_⟩) (by assumption) ?_
  rotate_left
  · (intro w hSw; (try dsimp only at hSw); go_simp; (try with_reducible rfl))
  (try simp only [Act.put, List.setIfInBounds_toArray, List.set_cons_zero, List.set_cons_succ])
  refine wpAnyH_done (by kernel_rfl) ?_ _
  have HQ := TB.limb hHeld3
  clear hHeld3 HP HAB HBC HAC
  obtain ⟨h1, h2⟩ := HF.out
  clear HF
  rcases h1 with ⟨rfl, rfl, h | ⟨rfl, h⟩⟩ | ⟨rfl, rfl, rfl, rfl⟩ | ⟨rfl, rfl, h | ⟨rfl, h⟩⟩
  · have hne : (l1 == l2) = false := by simp; omega
    by_cases hY : Y ≤ 0
    · have hZ := h2 (by omega) hY
      clear h2
      have d0 := (TB.cells HQ).1
      have d1 := (TB.cells HQ).2.1
      have d2 := (TB.cells HQ).2.2.1
      have d3 := (TB.cells HQ).2.2.2.1
      go_wp2_with fail
      refine (HBA.out _).mono ?_
      rintro e w5 ⟨rfl, hb⟩
      replace HQ := TB.call HQ hb
      clear hb d0 d1 d2 d3 HBA
      have d0 := (TB.cells HQ).1
      have d1 := (TB.cells HQ).2.1
      have d2 := (TB.cells HQ).2.2.1
      have d3 := (TB.cells HQ).2.2.2.1
      go_wp2_with fail
      refine (works_any _ (TB.good HQ)).mono ?_
      rintro e w6 ⟨rfl, hb⟩
      replace HQ := TB.call HQ hb
      go_wp2_with fail
      go_ret
      exact ⟨rfl, HQ.out.2.1⟩
    · clear h2
      have d0 := (TB.cells HQ).1
      have d1 := (TB.cells HQ).2.1
      have d2 := (TB.cells HQ).2.2.1
      have d3 := (TB.cells HQ).2.2.2.1
      go_wp2_with fail
      refine (HBA.out _).mono ?_
      rintro e w5 ⟨rfl, hb⟩
      replace HQ := TB.call HQ hb
      clear hb d0 d1 d2 d3 HBA
      have d0 := (TB.cells HQ).1
      have d1 := (TB.cells HQ).2.1
      have d2 := (TB.cells HQ).2.2.1
      have d3 := (TB.cells HQ).2.2.2.1
      go_wp2_with fail
      refine (works_any _ (TB.good HQ)).mono ?_
      rintro e w6 ⟨rfl, hb⟩
      replace HQ := TB.call HQ hb
      go_wp2_with fail
      go_ret
      exact ⟨rfl, HQ.out.2.1⟩
  · have hne : (c1 == c2) = false := by simp; omega
    have hnl : ¬ l1 < l1 := by omega
    by_cases hY : Y ≤ 0
    · have hZ := h2 (by omega) hY
      clear h2
      have d0 := (TB.cells HQ).1
      have d1 := (TB.cells HQ).2.1
      have d2 := (TB.cells HQ).2.2.1
      have d3 := (TB.cells HQ).2.2.2.1
      go_wp2_with fail
      refine (HBA.out _).mono ?_
      rintro e w5 ⟨rfl, hb⟩
      replace HQ := TB.call HQ hb
      clear hb d0 d1 d2 d3 HBA
      have d0 := (TB.cells HQ).1
      have d1 := (TB.cells HQ).2.1
      have d2 := (TB.cells HQ).2.2.1
      have d3 := (TB.cells HQ).2.2.2.1
      go_wp2_with fail
      refine (works_any _ (TB.good HQ)).mono ?_
      rintro e w6 ⟨rfl, hb⟩
      replace HQ := TB.call HQ hb
      go_wp2_with fail
      go_ret
      exact ⟨rfl, HQ.out.2.1⟩
    · clear h2
      have d0 := (TB.cells HQ).1
      have d1 := (TB.cells HQ).2.1
      have d2 := (TB.cells HQ).2.2.1
      have d3 := (TB.cells HQ).2.2.2.1
      go_wp2_with fail
      refine (HBA.out _).mono ?_
      rintro e w5 ⟨rfl, hb⟩
      replace HQ := TB.call HQ hb
      clear hb d0 d1 d2 d3 HBA
      have d0 := (TB.cells HQ).1
      have d1 := (TB.cells HQ).2.1
      have d2 := (TB.cells HQ).2.2.1
      have d3 := (TB.cells HQ).2.2.2.1
      go_wp2_with fail
      refine (works_any _ (TB.good HQ)).mono ?_
      rintro e w6 ⟨rfl, hb⟩
      replace HQ := TB.call HQ hb
      go_wp2_with fail
      go_ret
      exact ⟨rfl, HQ.out.2.1⟩
  · have hnl : ¬ l1 < l1 := by omega
    by_cases hY : Y ≤ 0
    · have hZ := h2 (by omega) hY
      clear h2
      have d0 := (TB.cells HQ).1
      have d1 := (TB.cells HQ).2.1
      have d2 := (TB.cells HQ).2.2.1
      have d3 := (TB.cells HQ).2.2.2.1
      go_wp2_with fail
      refine (HBA.out _).mono ?_
      rintro e w5 ⟨rfl, hb⟩
      replace HQ := TB.call HQ hb
      clear hb d0 d1 d2 d3 HBA
      have d0 := (TB.cells HQ).1
      have d1 := (TB.cells HQ).2.1
      have d2 := (TB.cells HQ).2.2.1
      have d3 := (TB.cells HQ).2.2.2.1
      go_wp2_with fail
      refine (works_any _ (TB.good HQ)).mono ?_
      rintro e w6 ⟨rfl, hb⟩
      replace HQ := TB.call HQ hb
      go_wp2_with fail
      go_ret
      exact ⟨rfl, HQ.out.2.1⟩
    · clear h2
      have d0 := (TB.cells HQ).1
      have d1 := (TB.cells HQ).2.1
      have d2 := (TB.cells HQ).2.2.1
      have d3 := (TB.cells HQ).2.2.2.1
      go_wp2_with fail
      refine (HBA.out _).mono ?_
      rintro e w5 ⟨rfl, hb⟩
      replace HQ := TB.call HQ hb
      clear hb d0 d1 d2 d3 HBA
      have d0 := (TB.cells HQ).1
      have d1 := (TB.cells HQ).2.1
      have d2 := (TB.cells HQ).2.2.1
      have d3 := (TB.cells HQ).2.2.2.1
      go_wp2_with fail
      refine (works_any _ (TB.good HQ)).mono ?_
      rintro e w6 ⟨rfl, hb⟩
      replace HQ := TB.call HQ hb
      go_wp2_with fail
      go_ret
      exact ⟨rfl, HQ.out.2.1⟩
  · have hne : (l1 == l2) = false := by simp; omega
    have hnl : ¬ l1 < l2 := by omega
    clear h2
    have d0 := (TB.cells HQ).1
    have d1 := (TB.cells HQ).2.1
    have d2 := (TB.cells HQ).2.2.1
    have d3 := (TB.cells HQ).2.2.2.1
    go_wp2_with fail
    refine (HBA.out _).mono ?_
    rintro e w5 ⟨rfl, hb⟩
    replace HQ := TB.call HQ hb
    clear hb d0 d1 d2 d3 HBA
    have d0 := (TB.cells HQ).1
    have d1 := (TB.cells HQ).2.1
    have d2 := (TB.cells HQ).2.2.1
    have d3 := (TB.cells HQ).2.2.2.1
    go_wp2_with fail
    refine (works_any _ (TB.good HQ)).mono ?_
    rintro e w6 ⟨rfl, hb⟩
    replace HQ := TB.call HQ hb
    go_wp2_with fail
    go_ret
    exact ⟨rfl, HQ.out.2.1⟩
  · have hne : (c1 == c2) = false := by simp; omega
    have hnl : ¬ l1 < l1 := by omega
    clear h2
    have d0 := (TB.cells HQ).1
    have d1 := (TB.cells HQ).2.1
    have d2 := (TB.cells HQ).2.2.1
    have d3 := (TB.cells HQ).2.2.2.1
    go_wp2_with fail
    refine (HBA.out _).mono ?_
    rintro e w5 ⟨rfl, hb⟩
    replace HQ := TB.call HQ hb
    clear hb d0 d1 d2 d3 HBA
    have d0 := (TB.cells HQ).1
    have d1 := (TB.cells HQ).2.1
    have d2 := (TB.cells HQ).2.2.1
    have d3 := (TB.cells HQ).2.2.2.1
    go_wp2_with fail
    refine (works_any _ (TB.good HQ)).mono ?_
    rintro e w6 ⟨rfl, hb⟩
    replace HQ := TB.call HQ hb
    go_wp2_with fail
    go_ret
    exact ⟨rfl, HQ.out.2.1⟩
set_option maxRecDepth 100000 in
theorem placeOrders_walk (l1 : Int) (_ : -9223372036854775808 ≤ l1) (_ : l1 ≤ 9223372036854775807) (c1 : Int) (_ : -9223372036854775808 ≤ c1) (_ : c1 ≤ 9223372036854775807) (l2 : Int) (_ : -9223372036854775808 ≤ l2) (_ : l2 ≤ 9223372036854775807) (c2 : Int) (_ : -9223372036854775808 ≤ c2) (_ : c2 ≤ 9223372036854775807) (l3 : Int) (_ : -9223372036854775808 ≤ l3) (_ : l3 ≤ 9223372036854775807) (c3 : Int) (_ : -9223372036854775808 ≤ c3) (_ : c3 ≤ 9223372036854775807) (w : World) (hG : Good w) :
    Calls Tryd.prog 7 #[.agg #[.int .i64 l1, .int .i64 c1], .agg #[.int .i64 l2, .int .i64 c2], .agg #[.int .i64 l3, .int .i64 c3]] w fun e w' => e = .returned (.bool true) ∧ Below w.heap.size w w' := by
  refine orders_main l1 c1 l2 c2 l3 c3 (Pl.cmpP l1 c1 l2 c2) (Pl.cmpP l2 c2 l3 c3) (Pl.cmpP l1 c1 l3 c3) (Pl.cmpP l2 c2 l1 c1) w hG (Lib.hid fun W => compare_any _ _ _ _ W) (Lib.hid fun W => compare_any _ _ _ _ W) (Lib.hid fun W => compare_any _ _ _ _ W) (Lib.hid fun W => compare_any _ _ _ _ W) (Lib.hid ?_)
  have h1 := cmp_is l1 c1 l2 c2
  have h2 := cmp_is l2 c2 l3 c3
  have h3 := cmp_is l1 c1 l3 c3
  have h4 := cmp_is l2 c2 l1 c1
  generalize Pl.cmpP l1 c1 l2 c2 = X at *
  generalize Pl.cmpP l2 c2 l3 c3 = Y at *
  generalize Pl.cmpP l1 c1 l3 c3 = Z at *
  generalize Pl.cmpP l2 c2 l1 c1 = X' at *
  omega

end Go.Proofs.YtmoeglecdojhcaaDoor

/-
  LAYER 1: places compared.
-/
import Derived.Test.YtmoeglecdojhcaaDoorPl4
namespace Go.Proofs.YtmoeglecdojhcaaDoor
open Go.ChangeShapes Go.WideShapes Go.ChangeAt Go.RowKit

/-- Two places' blocks, in a good world. -/
def CB (w : World) (l c l' c' : Int) (W : World) : Prop := Below w.heap.size w W ∧ Blk W w.heap.size 24 #[.int .i64 l, .int .i64 c] ∧ Blk W (w.heap.size + 1) 24 #[.int .i64 l', .int .i64 c']
section
variable {w W W' : World} {l c l' c' : Int}
theorem CB.new : Hid (CB w l c l' c' ((w.alloc (.cells #[.int .i64 l, .int .i64 c] 24)).alloc (.cells #[.int .i64 l', .int .i64 c'] 24))) := Lib.hid ⟨below_new (below_new (Below.refl _ _) _) _, (Blk.new _ _ _).alloc _, by
  have := Blk.new (w.alloc (.cells #[.int .i64 l, .int .i64 c] 24)) 24 #[.int .i64 l', .int .i64 c']
  rwa [World.size_alloc] at this⟩
theorem CB.drew (h : Hid (CB w l c l' c' W)) : Hid (CB w l c l' c' W.drew) := Lib.hid ⟨h.out.1.drew, h.out.2.1.drew, h.out.2.2.drew⟩
theorem CB.alloc (h : Hid (CB w l c l' c' W)) (o : Obj) : Hid (CB w l c l' c' (W.alloc o)) := Lib.hid ⟨below_new h.out.1 _, h.out.2.1.alloc _, h.out.2.2.alloc _⟩
theorem CB.cells (h : Hid (CB w l c l' c' W)) : W.cell? ⟨w.heap.size, 0, none⟩ = some (.int .i64 l) ∧ W.cell? ⟨w.heap.size, 1, none⟩ = some (.int .i64 c) ∧ W.cell? ⟨w.heap.size + 1, 0, none⟩ = some (.int .i64 l') ∧ W.cell? ⟨w.heap.size + 1, 1, none⟩ = some (.int .i64 c') ∧ Hid (CB w l c l' c' W) := ⟨h.out.2.1.cell 0, h.out.2.1.cell 1, h.out.2.2.cell 0, h.out.2.2.cell 1, h⟩
theorem CB.limb {p q r s t : Prop} (h : p ∧ q ∧ r ∧ s ∧ t) : t := h.2.2.2.2
theorem CB.box (_ : Hid (CB w l c l' c' W)) (x y : Int) : Blk (W.alloc (.cells #[.int .i64 x, .int .i64 y] 3)) W.heap.size 3 #[.int .i64 x, .int .i64 y] := Blk.new _ _ _
end
set_option maxHeartbeats 1000000 in
/-- cmp.Or at two ints: the first that is not 0. -/
theorem or_any (g : Nat) (x y : Int) (w : World) (hb : Blk w g 3 #[.int .i64 x, .int .i64 y]) :
    Calls Tryd.prog 39 #[.slice (some ⟨g, 0, none⟩) 2 2] w fun e w' => e = .returned (.int .i64 (if x ≠ 0 then x else y)) ∧ w = w' := by
  have c0 := hb.cell 0
  have c1 := hb.cell 1
  obtain ⟨R, hR⟩ : ∃ R, (if x ≠ 0 then x else y) = R := ⟨_, rfl⟩
  rw [hR]
  have HR := Lib.hid hR
  clear hR hb
  go_enter Tryd.func39, Tryd.ntmps39
  go_wp2_with fail
  go_loopw [8] (fun i wr => ∃ k : Nat, i = .int .i64 k ∧ k ≤ 2 ∧ wr = w ∧ Hid ((1 ≤ k → x = 0) ∧ (2 ≤ k → y = 0))) (fun i _ => 2 - (intOf i).toNat)
  case atStart => exact ⟨0, rfl, by omega, rfl, Lib.hid ⟨fun h => by omega, fun h => by omega⟩⟩
  case round =>
    obtain ⟨k, rfl, hk, rfl, HK⟩ := hrel
    rcases (show k = 0 ∨ k = 1 ∨ k = 2 by omega) with rfl | rfl | rfl
    · by_cases hx : x = 0
      · have HX := Lib.hid hx
        subst hx
        go_wp2_with fail
        go_roundw
        case rel => exact ⟨1, by first | rfl | trivial, by omega, by first | rfl | trivial, Lib.hid ⟨fun _ => by first | rfl | trivial, fun h => by omega⟩⟩
        case measure => simp [intOf]
      · have hF : Hid (x = R) := Lib.hid (by rw [← HR.out, if_pos hx])
        go_wp2_with fail
        go_ret
        exact ⟨ret_int hF.out, rfl⟩
    · have hx := HK.out.1 (by omega)
      by_cases hy : y = 0
      · subst hy
        clear hx
        have hx0 := Lib.hid (HK.out.1 (by omega))
        go_wp2_with fail
        go_roundw
        case rel => exact ⟨2, by first | rfl | trivial, by omega, by first | rfl | trivial, Lib.hid ⟨fun _ => hx0.out, fun _ => by first | rfl | trivial⟩⟩
        case measure => simp [intOf]
      · have hF : Hid (y = R) := Lib.hid (by rw [← HR.out, if_neg (by simpa using hx)])
        clear hx
        go_wp2_with fail
        go_ret
        exact ⟨ret_int hF.out, rfl⟩
    · have hF : Hid (0 = R) := Lib.hid (by rw [← HR.out, if_neg (by simpa using HK.out.1 (by omega)), HK.out.2 (by omega)])
      go_wp2_with fail
      go_ret
      exact ⟨ret_int hF.out, rfl⟩

set_option maxRecDepth 100000 in
set_option maxHeartbeats 2000000 in
theorem compare_any (l c l' c' : Int) (w : World) :
    Calls Tryd.prog 24 #[pV l c, pV l' c'] w fun e w' => e = .returned (.int .i64 (Pl.cmpP l c l' c')) ∧ Below w.heap.size w w' := by
  have HP := CB.new (w := w) (l := l) (c := c) (l' := l') (c' := c')
  unfold pV
  by_cases h : l = l' ∧ c = c'
  · obtain ⟨rfl, rfl⟩ := h
    have e1 : Pl.cmpP l c l c = 0 := by unfold Pl.cmpP; simp
    rw [e1]
    go_enter Tryd.func24, Tryd.ntmps24
    go_wp2_with fail
    go_ret
    exact ⟨rfl, HP.out.1⟩
  · have e1 := Pl.cmpP_of l c l' c'
    rw [if_neg h] at e1
    obtain ⟨X, hX⟩ : ∃ X, Lib.compareInt l l' = X := ⟨_, rfl⟩
    obtain ⟨Y, hY⟩ : ∃ Y, Lib.compareInt c c' = Y := ⟨_, rfl⟩
    rw [hX, hY] at e1
    have HO0 := fun g W hb => or_any g X Y W hb
    obtain ⟨R, hR⟩ : ∃ R, (if X ≠ 0 then X else Y) = R := ⟨_, rfl⟩
    rw [hR] at e1 HO0
    have HO := Lib.hid HO0
    have HE := Lib.hid e1
    clear HO0 hR
    have Hl := Lib.hid hX
    have Hc := Lib.hid hY
    clear e1 hX hY
    by_cases hl : l = l'
    · have hc : (c == c') = false := by simpa using fun e => h ⟨hl, e⟩
      subst hl
      clear h
      go_enter Tryd.func24, Tryd.ntmps24
      go_upto_region 3 with fail
      refine wp_region_held_drew (S := fun W => W.cell? ⟨w.heap.size, 0, none⟩ = some (.int .i64 l) ∧ W.cell? ⟨w.heap.size, 1, none⟩ = some (.int .i64 c) ∧ W.cell? ⟨w.heap.size + 1, 0, none⟩ = some (.int .i64 l) ∧ W.cell? ⟨w.heap.size + 1, 1, none⟩ = some (.int .i64 c') ∧ Hid (CB w l c l c' W)) (by kernel_rfl) ?_ (fun hHeld0 => ?_)
      · exact CB.cells (CB.drew HP)
      obtain ⟨w0, ew0⟩ : ∃ V, World.drew ((w.alloc (.cells #[.int .i64 l, .int .i64 c] 24)).alloc (.cells #[.int .i64 l, .int .i64 c'] 24)) = V := ⟨_, rfl⟩
      rw [ew0] at hHeld0 ⊢
      clear ew0
      refine wpAnyH_take (i := 0) (oi := ⟨some 8, _, _, _, _, _⟩) (v := ?_) rfl (by kernel_rfl) (by kernel_rfl) (by kernel_rfl) (fun _ _ _ h => h) (Or.inl ⟨rfl, ?_⟩) (by assumption) ?_
      rotate_left
      · (intro w hSw; (try dsimp only at hSw); go_simp; (try with_reducible rfl))
      (try simp only [Act.put, List.setIfInBounds_toArray, List.set_cons_zero, List.set_cons_succ])
      refine wpAnyH_take (i := 1) (oi := ⟨some 9, _, _, _, _, _⟩) (v := ?_) rfl (by kernel_rfl) (by kernel_rfl) (by kernel_rfl) (fun _ _ _ h => h) (Or.inl ⟨rfl, ?_⟩) (by assumption) ?_
      rotate_left
      · (intro w hSw; (try dsimp only at hSw); go_simp; (try with_reducible rfl))
      (try simp only [Act.put, List.setIfInBounds_toArray, List.set_cons_zero, List.set_cons_succ])
      refine wpAnyH_take (i := 2) (oi := ⟨some 10, _, _, _, _, _⟩) (v := ?_) rfl (by kernel_rfl) (by kernel_rfl) (by kernel_rfl) (fun _ _ _ h => h) (Or.inl ⟨rfl, ?_⟩) (by assumption) ?_
      rotate_left
      · (intro w hSw; (try dsimp only at hSw); go_simp; (try with_reducible rfl))
      (try simp only [Act.put, List.setIfInBounds_toArray, List.set_cons_zero, List.set_cons_succ])
      refine wpAnyH_take (i := 3) (oi := ⟨some 11, _, _, _, _, _⟩) (v := ?_) rfl (by kernel_rfl) (by kernel_rfl) (by kernel_rfl) (fun _ _ _ h => h) (Or.inl ⟨rfl, ?_⟩) (by assumption) ?_
      rotate_left
      · (intro w hSw; (try dsimp only at hSw); go_simp; (try with_reducible rfl))
      (try simp only [Act.put, List.setIfInBounds_toArray, List.set_cons_zero, List.set_cons_succ])
      refine wpAnyH_take (i := 5) (oi := ⟨some 13, _, _, _, _, _⟩) (v := ?_) rfl (by kernel_rfl) (by kernel_rfl) (by kernel_rfl) (fun _ _ _ h => h) (Or.inl ⟨rfl, ?_⟩) (by assumption) ?_
      rotate_left
      · (intro w hSw; (try dsimp only at hSw); go_simp; (try with_reducible rfl))
      (try simp only [Act.put, List.setIfInBounds_toArray, List.set_cons_zero, List.set_cons_succ])
      refine wpAnyH_take (i := 6) (oi := ⟨some 14, _, _, _, _, _⟩) (v := ?_) rfl (by kernel_rfl) (by kernel_rfl) (by kernel_rfl) (fun _ _ _ h => h) (Or.inl ⟨rfl, ?_⟩) (by assumption) ?_
      rotate_left
      · (intro w hSw; (try dsimp only at hSw); go_simp; (try with_reducible rfl))
      (try simp only [Act.put, List.setIfInBounds_toArray, List.set_cons_zero, List.set_cons_succ])
      refine wpAnyH_take (i := 7) (oi := ⟨some 15, _, _, _, _, _⟩) (v := ?_) rfl (by kernel_rfl) (by kernel_rfl) (by kernel_rfl) (fun _ _ _ h => h) (Or.inl ⟨rfl, ?_⟩) (by assumption) ?_
      rotate_left
      · (intro w hSw; (try dsimp only at hSw); go_simp; (try with_reducible rfl))
      (try simp only [Act.put, List.setIfInBounds_toArray, List.set_cons_zero, List.set_cons_succ])
      refine wpAnyH_take (i := 8) (oi := ⟨some 16, _, _, _, _, _⟩) (v := ?_) rfl (by kernel_rfl) (by kernel_rfl) (by kernel_rfl) (fun _ _ _ h => h) (Or.inl ⟨rfl, ?_⟩) (by assumption) ?_
      rotate_left
      · (intro w hSw; (try dsimp only at hSw); go_simp; (try with_reducible rfl))
      (try simp only [Act.put, List.setIfInBounds_toArray, List.set_cons_zero, List.set_cons_succ])
      refine wpAnyH_ready (rs := [4]) (by kernel_rfl) (by simp) ?_
      refine AllReadyH.cons (o := ⟨some 12, _, _, _, _, _⟩) rfl (fun K hK => ?_) AllReadyH.nil
      have hCur := CB.limb hHeld0
      go_simp
      refine (Tryd.cmp_Compare_int l l _).mono ?_
      rintro e w' ⟨rfl, rfl⟩
      rw [Hl.out]
      go_wp2_with fail
      refine hK.out _ _ ?_ (fun hHeld1 => ?_)
      · exact CB.cells hCur
      clear hK K hHeld0
      (try simp only [Act.put, List.setIfInBounds_toArray, List.set_cons_zero, List.set_cons_succ])
      refine wpAnyH_ready (rs := [9]) (by kernel_rfl) (by simp) ?_
      refine AllReadyH.cons (o := ⟨some 17, _, _, _, _, _⟩) rfl (fun K hK => ?_) AllReadyH.nil
      have hCur := CB.limb hHeld1
      go_simp
      refine (Tryd.cmp_Compare_int c c' _).mono ?_
      rintro e w' ⟨rfl, rfl⟩
      rw [Hc.out]
      go_wp2_with fail
      refine hK.out _ _ ?_ (fun hHeld2 => ?_)
      · exact CB.cells hCur
      clear hK K hHeld1
      (try simp only [Act.put, List.setIfInBounds_toArray, List.set_cons_zero, List.set_cons_succ])
      refine wpAnyH_ready (rs := [10]) (by kernel_rfl) (by simp) ?_
      refine AllReadyH.cons (o := ⟨some 18, _, _, _, _, _⟩) rfl (fun K hK => ?_) AllReadyH.nil
      have hCur := CB.limb hHeld2
      have hNew := CB.alloc hCur (.cells #[.int .i64 X, .int .i64 Y] 3)
      have hBl := Lib.hid (CB.box hCur X Y)
      clear hCur
      go_simp
      try go_wp2_with fail
      refine hK.out _ _ ?_ (fun hHeld3 => ?_)
      · exact CB.cells hNew
      clear hK K hHeld2
      (try simp only [Act.put, List.setIfInBounds_toArray, List.set_cons_zero, List.set_cons_succ])
      refine wpAnyH_ready (rs := [11]) (by kernel_rfl) (by simp) ?_
      refine AllReadyH.cons (o := ⟨some 19, _, _, _, _, _⟩) rfl (fun K hK => ?_) AllReadyH.nil
      have hCur := CB.limb hHeld3
      go_simp
      refine (HO.out _ _ hBl.out).mono ?_
      rintro e w' ⟨rfl, rfl⟩
      go_wp2_with fail
      refine hK.out _ _ ?_ (fun hHeld4 => ?_)
      · exact CB.cells hCur
      clear hK K hHeld3
      (try simp only [Act.put, List.setIfInBounds_toArray, List.set_cons_zero, List.set_cons_succ])
      refine wpAnyH_take (i := 12) (oi := ⟨some 4, _, _, _, _, _⟩) (v := ?_) rfl (by kernel_rfl) (by kernel_rfl) (by kernel_rfl) (fun _ _ _ h => h) (Or.inl ⟨rfl, ?_⟩) (by assumption) ?_
      rotate_left
      · (intro w hSw; (try dsimp only at hSw); go_simp; (try with_reducible rfl))
      (try simp only [Act.put, List.setIfInBounds_toArray, List.set_cons_zero, List.set_cons_succ])
      refine wpAnyH_done (by kernel_rfl) ?_ _
      have HQ := CB.limb hHeld4
      go_wp2_with fail
      go_ret
      exact ⟨ret_int HE.out.symm, HQ.out.1⟩
    · have hc : (l == l') = false := by simpa using hl
      clear h hl
      go_enter Tryd.func24, Tryd.ntmps24
      go_upto_region 3 with fail
      refine wp_region_held_drew (S := fun W => W.cell? ⟨w.heap.size, 0, none⟩ = some (.int .i64 l) ∧ W.cell? ⟨w.heap.size, 1, none⟩ = some (.int .i64 c) ∧ W.cell? ⟨w.heap.size + 1, 0, none⟩ = some (.int .i64 l') ∧ W.cell? ⟨w.heap.size + 1, 1, none⟩ = some (.int .i64 c') ∧ Hid (CB w l c l' c' W)) (by kernel_rfl) ?_ (fun hHeld0 => ?_)
      · exact CB.cells (CB.drew HP)
      obtain ⟨w0, ew0⟩ : ∃ V, World.drew ((w.alloc (.cells #[.int .i64 l, .int .i64 c] 24)).alloc (.cells #[.int .i64 l', .int .i64 c'] 24)) = V := ⟨_, rfl⟩
      rw [ew0] at hHeld0 ⊢
      clear ew0
      refine wpAnyH_take (i := 0) (oi := ⟨some 8, _, _, _, _, _⟩) (v := ?_) rfl (by kernel_rfl) (by kernel_rfl) (by kernel_rfl) (fun _ _ _ h => h) (Or.inl ⟨rfl, ?_⟩) (by assumption) ?_
      rotate_left
      · (intro w hSw; (try dsimp only at hSw); go_simp; (try with_reducible rfl))
      (try simp only [Act.put, List.setIfInBounds_toArray, List.set_cons_zero, List.set_cons_succ])
      refine wpAnyH_take (i := 1) (oi := ⟨some 9, _, _, _, _, _⟩) (v := ?_) rfl (by kernel_rfl) (by kernel_rfl) (by kernel_rfl) (fun _ _ _ h => h) (Or.inl ⟨rfl, ?_⟩) (by assumption) ?_
      rotate_left
      · (intro w hSw; (try dsimp only at hSw); go_simp; (try with_reducible rfl))
      (try simp only [Act.put, List.setIfInBounds_toArray, List.set_cons_zero, List.set_cons_succ])
      refine wpAnyH_take (i := 2) (oi := ⟨some 10, _, _, _, _, _⟩) (v := ?_) rfl (by kernel_rfl) (by kernel_rfl) (by kernel_rfl) (fun _ _ _ h => h) (Or.inl ⟨rfl, ?_⟩) (by assumption) ?_
      rotate_left
      · (intro w hSw; (try dsimp only at hSw); go_simp; (try with_reducible rfl))
      (try simp only [Act.put, List.setIfInBounds_toArray, List.set_cons_zero, List.set_cons_succ])
      refine wpAnyH_take (i := 3) (oi := ⟨some 11, _, _, _, _, _⟩) (v := ?_) rfl (by kernel_rfl) (by kernel_rfl) (by kernel_rfl) (fun _ _ _ h => h) (Or.inl ⟨rfl, ?_⟩) (by assumption) ?_
      rotate_left
      · (intro w hSw; (try dsimp only at hSw); go_simp; (try with_reducible rfl))
      (try simp only [Act.put, List.setIfInBounds_toArray, List.set_cons_zero, List.set_cons_succ])
      refine wpAnyH_take (i := 5) (oi := ⟨some 13, _, _, _, _, _⟩) (v := ?_) rfl (by kernel_rfl) (by kernel_rfl) (by kernel_rfl) (fun _ _ _ h => h) (Or.inl ⟨rfl, ?_⟩) (by assumption) ?_
      rotate_left
      · (intro w hSw; (try dsimp only at hSw); go_simp; (try with_reducible rfl))
      (try simp only [Act.put, List.setIfInBounds_toArray, List.set_cons_zero, List.set_cons_succ])
      refine wpAnyH_take (i := 6) (oi := ⟨some 14, _, _, _, _, _⟩) (v := ?_) rfl (by kernel_rfl) (by kernel_rfl) (by kernel_rfl) (fun _ _ _ h => h) (Or.inl ⟨rfl, ?_⟩) (by assumption) ?_
      rotate_left
      · (intro w hSw; (try dsimp only at hSw); go_simp; (try with_reducible rfl))
      (try simp only [Act.put, List.setIfInBounds_toArray, List.set_cons_zero, List.set_cons_succ])
      refine wpAnyH_take (i := 7) (oi := ⟨some 15, _, _, _, _, _⟩) (v := ?_) rfl (by kernel_rfl) (by kernel_rfl) (by kernel_rfl) (fun _ _ _ h => h) (Or.inl ⟨rfl, ?_⟩) (by assumption) ?_
      rotate_left
      · (intro w hSw; (try dsimp only at hSw); go_simp; (try with_reducible rfl))
      (try simp only [Act.put, List.setIfInBounds_toArray, List.set_cons_zero, List.set_cons_succ])
      refine wpAnyH_take (i := 8) (oi := ⟨some 16, _, _, _, _, _⟩) (v := ?_) rfl (by kernel_rfl) (by kernel_rfl) (by kernel_rfl) (fun _ _ _ h => h) (Or.inl ⟨rfl, ?_⟩) (by assumption) ?_
      rotate_left
      · (intro w hSw; (try dsimp only at hSw); go_simp; (try with_reducible rfl))
      (try simp only [Act.put, List.setIfInBounds_toArray, List.set_cons_zero, List.set_cons_succ])
      refine wpAnyH_ready (rs := [4]) (by kernel_rfl) (by simp) ?_
      refine AllReadyH.cons (o := ⟨some 12, _, _, _, _, _⟩) rfl (fun K hK => ?_) AllReadyH.nil
      have hCur := CB.limb hHeld0
      go_simp
      refine (Tryd.cmp_Compare_int l l' _).mono ?_
      rintro e w' ⟨rfl, rfl⟩
      rw [Hl.out]
      go_wp2_with fail
      refine hK.out _ _ ?_ (fun hHeld1 => ?_)
      · exact CB.cells hCur
      clear hK K hHeld0
      (try simp only [Act.put, List.setIfInBounds_toArray, List.set_cons_zero, List.set_cons_succ])
      refine wpAnyH_ready (rs := [9]) (by kernel_rfl) (by simp) ?_
      refine AllReadyH.cons (o := ⟨some 17, _, _, _, _, _⟩) rfl (fun K hK => ?_) AllReadyH.nil
      have hCur := CB.limb hHeld1
      go_simp
      refine (Tryd.cmp_Compare_int c c' _).mono ?_
      rintro e w' ⟨rfl, rfl⟩
      rw [Hc.out]
      go_wp2_with fail
      refine hK.out _ _ ?_ (fun hHeld2 => ?_)
      · exact CB.cells hCur
      clear hK K hHeld1
      (try simp only [Act.put, List.setIfInBounds_toArray, List.set_cons_zero, List.set_cons_succ])
      refine wpAnyH_ready (rs := [10]) (by kernel_rfl) (by simp) ?_
      refine AllReadyH.cons (o := ⟨some 18, _, _, _, _, _⟩) rfl (fun K hK => ?_) AllReadyH.nil
      have hCur := CB.limb hHeld2
      have hNew := CB.alloc hCur (.cells #[.int .i64 X, .int .i64 Y] 3)
      have hBl := Lib.hid (CB.box hCur X Y)
      clear hCur
      go_simp
      try go_wp2_with fail
      refine hK.out _ _ ?_ (fun hHeld3 => ?_)
      · exact CB.cells hNew
      clear hK K hHeld2
      (try simp only [Act.put, List.setIfInBounds_toArray, List.set_cons_zero, List.set_cons_succ])
      refine wpAnyH_ready (rs := [11]) (by kernel_rfl) (by simp) ?_
      refine AllReadyH.cons (o := ⟨some 19, _, _, _, _, _⟩) rfl (fun K hK => ?_) AllReadyH.nil
      have hCur := CB.limb hHeld3
      go_simp
      refine (HO.out _ _ hBl.out).mono ?_
      rintro e w' ⟨rfl, rfl⟩
      go_wp2_with fail
      refine hK.out _ _ ?_ (fun hHeld4 => ?_)
      · exact CB.cells hCur
      clear hK K hHeld3
      (try simp only [Act.put, List.setIfInBounds_toArray, List.set_cons_zero, List.set_cons_succ])
      refine wpAnyH_take (i := 12) (oi := ⟨some 4, _, _, _, _, _⟩) (v := ?_) rfl (by kernel_rfl) (by kernel_rfl) (by kernel_rfl) (fun _ _ _ h => h) (Or.inl ⟨rfl, ?_⟩) (by assumption) ?_
      rotate_left
      · (intro w hSw; (try dsimp only at hSw); go_simp; (try with_reducible rfl))
      (try simp only [Act.put, List.setIfInBounds_toArray, List.set_cons_zero, List.set_cons_succ])
      refine wpAnyH_done (by kernel_rfl) ?_ _
      have HQ := CB.limb hHeld4
      go_wp2_with fail
      go_ret
      exact ⟨ret_int HE.out.symm, HQ.out.1⟩

end Go.Proofs.YtmoeglecdojhcaaDoor

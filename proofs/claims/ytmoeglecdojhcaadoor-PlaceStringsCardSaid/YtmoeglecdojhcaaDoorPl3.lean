/-
  LAYER 1: places as strings, and what is decoded; places compared.
-/
import Derived.Test.YtmoeglecdojhcaaDoorPl2
import Derived.Lib.AtoiErrMem
namespace Go.Proofs.YtmoeglecdojhcaaDoor
open Go.ChangeShapes Go.WideShapes Go.ChangeAt Go.RowKit

/-- A place's block, in a good world. -/
def PB (w : World) (l c : Int) (W : World) : Prop := Good W ∧ Below w.heap.size w W ∧ Blk W w.heap.size 24 #[.int .i64 l, .int .i64 c]
section
variable {w W W' : World} {l c : Int}
theorem PB.new (hG : Good w) : Hid (PB w l c (w.alloc (.cells #[.int .i64 l, .int .i64 c] 24))) := Lib.hid ⟨hG.alloc _, below_new (Below.refl _ _) _, Blk.new _ _ _⟩
theorem PB.call (h : Hid (PB w l c W)) (hb : Below W.heap.size W W') : Hid (PB w l c W') := Lib.hid ⟨h.out.1.call hb, below_call h.out.2.1 hb, h.out.2.2.call hb⟩
theorem PB.drew (h : Hid (PB w l c W)) : Hid (PB w l c W.drew) := Lib.hid ⟨h.out.1.drew, h.out.2.1.drew, h.out.2.2.drew⟩
theorem PB.alloc (h : Hid (PB w l c W)) (o : Obj) : Hid (PB w l c (W.alloc o)) := Lib.hid ⟨h.out.1.alloc _, below_new h.out.2.1 _, h.out.2.2.alloc _⟩
theorem PB.cells (h : Hid (PB w l c W)) : W.cell? ⟨w.heap.size, 0, none⟩ = some (.int .i64 l) ∧ W.cell? ⟨w.heap.size, 1, none⟩ = some (.int .i64 c) ∧ Hid (PB w l c W) := ⟨h.out.2.2.cell 0, h.out.2.2.cell 1, h⟩
theorem PB.limb {p q r : Prop} (h : p ∧ q ∧ r) : r := h.2.2
theorem PB.good (h : Hid (PB w l c W)) : Good W := h.out.1
end
def txS (l c : Int) : List UInt8 := if 1 ≤ l ∧ 1 ≤ c then Pl.text l c else []
def txE (l c : Int) : Int := if 1 ≤ l ∧ 1 ≤ c then 0 else 2
theorem itoa_len {n : Int} (h0 : -9223372036854775808 ≤ n) (h1 : n ≤ 9223372036854775807) : (Lib.itoa n).length ≤ 20 := Dec.itoa_length h0 h1
theorem itoa_any (n : Int) (h0 : -9223372036854775808 ≤ n) (h1 : n ≤ 9223372036854775807) (w : World) (hG : Good w) :
    Calls Tryd.prog 34 #[.int .i64 n] w fun e w' => e = .returned (.string ⟨(Lib.itoa n).toArray⟩) ∧ Below w.heap.size w w' := by
  refine (Tryd.strconv_Itoa n h0 h1 _ hG.pow).mono ?_
  rintro e w' ⟨rfl, j, os, rfl⟩
  exact ⟨rfl, below_grow j os⟩

set_option maxRecDepth 100000 in
set_option maxHeartbeats 1000000 in
theorem text_any (l c : Int) (l0 : -9223372036854775808 ≤ l) (l1 : l ≤ 9223372036854775807) (c0 : -9223372036854775808 ≤ c) (c1 : c ≤ 9223372036854775807) (w : World) (hG : Good w) :
    Calls Tryd.prog 20 #[pV l c] w fun e w' => e = .returned (.tuple #[.string ⟨(txS l c).toArray⟩, .int .i64 (txE l c)]) ∧ Below w.heap.size w w' := by
  have HP := PB.new (l := l) (c := c) hG
  clear hG
  unfold pV
  by_cases h : 1 ≤ l ∧ 1 ≤ c
  · have e1 : txS l c = Pl.text l c := by unfold txS; rw [if_pos h]
    have e2 : txE l c = 0 := by unfold txE; rw [if_pos h]
    rw [e1, e2]
    clear e1 e2
    obtain ⟨h1, h2⟩ := h
    have hl1 := itoa_len l0 l1
    have hl2 := itoa_len c0 c1
    have k1 : ¬ 9223372036854775807 < (Lib.itoa l).length + 1 := by omega
    have k2 : ¬ 9223372036854775807 < (Lib.itoa l).length + 1 + (Lib.itoa c).length := by omega
    go_enter Tryd.func20, Tryd.ntmps20
    go_upto_region 3 with fail
    refine wp_region_held_drew (S := fun W => W.cell? ⟨w.heap.size, 0, none⟩ = some (.int .i64 l) ∧ W.cell? ⟨w.heap.size, 1, none⟩ = some (.int .i64 c) ∧ Hid (PB w l c W)) (by kernel_rfl) ?_ (fun hHeld0 => ?_)
    · exact PB.cells (PB.drew HP)
    refine wpAnyH_take (i := 0) (oi := ⟨some 12, _, _, _, _, _⟩) (v := ?_) rfl (by kernel_rfl) (by kernel_rfl) (by kernel_rfl) (fun _ _ _ h => h) (Or.inl ⟨rfl, ?_⟩) (by assumption) ?_
    rotate_left
    · (intro w hSw; (try dsimp only at hSw); go_simp; (try with_reducible rfl))
    (try simp only [Act.put, List.setIfInBounds_toArray, List.set_cons_zero, List.set_cons_succ])
    refine wpAnyH_take (i := 1) (oi := ⟨some 13, _, _, _, _, _⟩) (v := ?_) rfl (by kernel_rfl) (by kernel_rfl) (by kernel_rfl) (fun _ _ _ h => h) (Or.inl ⟨rfl, ?_⟩) (by assumption) ?_
    rotate_left
    · (intro w hSw; (try dsimp only at hSw); go_simp; (try with_reducible rfl))
    (try simp only [Act.put, List.setIfInBounds_toArray, List.set_cons_zero, List.set_cons_succ])
    refine wpAnyH_take (i := 4) (oi := ⟨some 16, _, _, _, _, _⟩) (v := ?_) rfl (by kernel_rfl) (by kernel_rfl) (by kernel_rfl) (fun _ _ _ h => h) (Or.inl ⟨rfl, ?_⟩) (by assumption) ?_
    rotate_left
    · (intro w hSw; (try dsimp only at hSw); go_simp; (try with_reducible rfl))
    (try simp only [Act.put, List.setIfInBounds_toArray, List.set_cons_zero, List.set_cons_succ])
    refine wpAnyH_take (i := 5) (oi := ⟨some 17, _, _, _, _, _⟩) (v := ?_) rfl (by kernel_rfl) (by kernel_rfl) (by kernel_rfl) (fun _ _ _ h => h) (Or.inl ⟨rfl, ?_⟩) (by assumption) ?_
    rotate_left
    · (intro w hSw; (try dsimp only at hSw); go_simp; (try with_reducible rfl))
    (try simp only [Act.put, List.setIfInBounds_toArray, List.set_cons_zero, List.set_cons_succ])
    refine wpAnyH_ready (rs := [2]) (by kernel_rfl) (by simp) ?_
    refine AllReadyH.cons (o := ⟨some 14, _, _, _, _, _⟩) rfl (fun K hK => ?_) AllReadyH.nil
    have hCur := PB.limb hHeld0
    go_simp
    refine (itoa_any l (by omega) (by omega) _ (PB.good hCur)).mono ?_
    rintro e w' ⟨rfl, hb⟩
    have hNew := PB.call hCur hb
    clear hb hCur
    go_wp2_with fail
    refine hK.out _ _ ?_ (fun hHeld1 => ?_)
    · exact PB.cells hNew
    clear hK K hHeld0
    (try simp only [Act.put, List.setIfInBounds_toArray, List.set_cons_zero, List.set_cons_succ])
    refine wpAnyH_take (i := 3) (oi := ⟨some 15, _, _, _, _, _⟩) (v := ?_) rfl (by kernel_rfl) (by kernel_rfl) (by kernel_rfl) (fun _ _ _ h => h) (Or.inl ⟨rfl, ?_⟩) (by assumption) ?_
    rotate_left
    · (intro w hSw; (try dsimp only at hSw); go_simp; (try with_reducible rfl))
    (try simp only [Act.put, List.setIfInBounds_toArray, List.set_cons_zero, List.set_cons_succ])
    refine wpAnyH_ready (rs := [6]) (by kernel_rfl) (by simp) ?_
    refine AllReadyH.cons (o := ⟨some 18, _, _, _, _, _⟩) rfl (fun K hK => ?_) AllReadyH.nil
    have hCur := PB.limb hHeld1
    go_simp
    refine (itoa_any c (by omega) (by omega) _ (PB.good hCur)).mono ?_
    rintro e w' ⟨rfl, hb⟩
    have hNew := PB.call hCur hb
    clear hb hCur
    go_wp2_with fail
    refine hK.out _ _ ?_ (fun hHeld2 => ?_)
    · exact PB.cells hNew
    clear hK K hHeld1
    (try simp only [Act.put, List.setIfInBounds_toArray, List.set_cons_zero, List.set_cons_succ])
    refine wpAnyH_take (i := 7) (oi := ⟨some 19, _, _, _, _, _⟩) (v := ?_) rfl (by kernel_rfl) (by kernel_rfl) (by kernel_rfl) (fun _ _ _ h => h) (Or.inl ⟨rfl, ?_⟩) (by assumption) ?_
    rotate_left
    · (intro w hSw; (try dsimp only at hSw); go_simp; (try with_reducible rfl))
    (try simp only [Act.put, List.setIfInBounds_toArray, List.set_cons_zero, List.set_cons_succ])
    refine wpAnyH_take (i := 8) (oi := ⟨some 2, _, _, _, _, _⟩) (v := ?_) rfl (by kernel_rfl) (by kernel_rfl) (by kernel_rfl) (fun _ _ _ h => h) (Or.inl ⟨rfl, ?_⟩) (by assumption) ?_
    rotate_left
    · (intro w hSw; (try dsimp only at hSw); go_simp; (try with_reducible rfl))
    (try simp only [Act.put, List.setIfInBounds_toArray, List.set_cons_zero, List.set_cons_succ])
    refine wpAnyH_take (i := 9) (oi := ⟨some 3, _, _, _, _, _⟩) (v := ?_) rfl (by kernel_rfl) (by kernel_rfl) (by kernel_rfl) (fun _ _ _ h => h) (Or.inl ⟨rfl, ?_⟩) (by assumption) ?_
    rotate_left
    · (intro w hSw; (try dsimp only at hSw); go_simp; (try with_reducible rfl))
    (try simp only [Act.put, List.setIfInBounds_toArray, List.set_cons_zero, List.set_cons_succ])
    refine wpAnyH_done (by kernel_rfl) ?_ _
    have HQ := PB.limb hHeld2
    go_wp2_with fail
    go_ret2
    exact ⟨ret_str_int (by rw [show (⟨#[58]⟩ : ByteArray) = ⟨[58].toArray⟩ from rfl, ByteArray.mk_append_mk, ByteArray.mk_append_mk, mk_inj]; unfold Pl.text; simp) rfl, HQ.out.2.1⟩
  · have e1 : txS l c = [] := by unfold txS; rw [if_neg h]
    have e2 : txE l c = 2 := by unfold txE; rw [if_neg h]
    rw [e1, e2]
    clear e1 e2
    by_cases h1 : l < 1
    · clear h
      go_enter Tryd.func20, Tryd.ntmps20
      go_wp2_with fail
      go_ret2
      exact ⟨rfl, HP.out.2.1⟩
    · have h2 : c < 1 := by omega
      clear h
      go_enter Tryd.func20, Tryd.ntmps20
      go_wp2_with fail
      go_ret2
      exact ⟨rfl, HP.out.2.1⟩

end Go.Proofs.YtmoeglecdojhcaaDoor

/-
  LAYER 1: offsets are found again from their places: the statement's walk.
-/
import Derived.Test.YtmoeglecdojhcaaDoorPlF
import Derived.Test.YtmoeglecdojhcaaDoorPlO
import Derived.IntWalk
namespace Go.Proofs.YtmoeglecdojhcaaDoor
open Go.ChangeShapes Go.WideShapes Go.ChangeAt Go.RowKit

/-- Two places' blocks, in a good world. -/
def DB (w : World) (g1 g2 : Nat) (x y x' y' : Int) (W : World) : Prop := Good W ∧ Below w.heap.size w W ∧ Blk W g1 24 #[.int .i64 x, .int .i64 y] ∧ Blk W g2 24 #[.int .i64 x', .int .i64 y']
section
variable {w W W' : World} {g1 g2 : Nat} {x y x' y' : Int}
theorem DB.call (h : Hid (DB w g1 g2 x y x' y' W)) (hb : Below W.heap.size W W') : Hid (DB w g1 g2 x y x' y' W') := Lib.hid ⟨h.out.1.call hb, below_call h.out.2.1 hb, h.out.2.2.1.call hb, h.out.2.2.2.call hb⟩
theorem DB.drew (h : Hid (DB w g1 g2 x y x' y' W)) : Hid (DB w g1 g2 x y x' y' W.drew) := Lib.hid ⟨h.out.1.drew, h.out.2.1.drew, h.out.2.2.1.drew, h.out.2.2.2.drew⟩
theorem DB.cells (h : Hid (DB w g1 g2 x y x' y' W)) : W.cell? ⟨g1, 0, none⟩ = some (.int .i64 x) ∧ W.cell? ⟨g1, 1, none⟩ = some (.int .i64 y) ∧ W.cell? ⟨g2, 0, none⟩ = some (.int .i64 x') ∧ W.cell? ⟨g2, 1, none⟩ = some (.int .i64 y') ∧ Hid (DB w g1 g2 x y x' y' W) := ⟨h.out.2.2.1.cell 0, h.out.2.2.1.cell 1, h.out.2.2.2.cell 0, h.out.2.2.2.cell 1, h⟩
theorem DB.limb {p q r s t : Prop} (h : p ∧ q ∧ r ∧ s ∧ t) : t := h.2.2.2.2
theorem DB.good (h : Hid (DB w g1 g2 x y x' y' W)) : Good W := h.out.1
end
set_option maxHeartbeats 8000000 in
set_option maxRecDepth 100000 in
theorem back_main (s : List UInt8) (m n : Int) (a b K : Nat) (C1 R2 C2 O : Int) (q U Z : List UInt8) (w : World) (hG : Good w)
    (hs : ¬ (200 : Int) < (s.length : Int)) (ha : a ≤ s.length) (hb0 : b ≤ s.length)
    (hma : (wrap64 m).tmod ((s.length : Int) + 1) = (a : Int)) (hnb : (wrap64 n).tmod ((s.length : Int) + 1) = (b : Int))
    (hC1 : 1 ≤ C1) (hC2 : C1 ≤ (a : Int) + 1)
    (hU : (⟨s.toArray⟩ : ByteArray).extract 0 a = ⟨U.toArray⟩) (hK : K ≤ 1000)
    (hql : C1 - 1 ≤ (q.length : Int))
    (HG : Hid (((a : Int) - (C1 - 1) = 0 ∧ (⟨s.toArray⟩ : ByteArray).extract 0 s.length = ⟨Z.toArray⟩) ∨ ∃ g' : Nat, (a : Int) - (C1 - 1) = (g' : Int) + 1 ∧ (∀ h, ((⟨s.toArray⟩ : ByteArray)[g']'h) = 10) ∧ g' + 1 ≤ s.length ∧ (⟨s.toArray⟩ : ByteArray).extract (g' + 1) s.length = ⟨Z.toArray⟩))
    (HO1 : Hid (∀ W, Calls Tryd.prog 12 #[.string ⟨s.toArray⟩, .int .i64 (a : Int)] W fun e w' => e = .returned (.tuple #[.agg #[.int .i64 (1 + (K : Int)), .int .i64 C1], .int .i64 0]) ∧ Below W.heap.size W w'))
    (HO2 : Hid (∀ W, Calls Tryd.prog 12 #[.string ⟨s.toArray⟩, .int .i64 (b : Int)] W fun e w' => e = .returned (.tuple #[.agg #[.int .i64 R2, .int .i64 C2], .int .i64 0]) ∧ Below W.heap.size W w'))
    (HOF : Hid (∀ W, Good W → Calls Tryd.prog 14 #[.string ⟨s.toArray⟩, .agg #[.int .i64 (1 + (K : Int)), .int .i64 C1]] W fun e w' => e = .returned (.tuple #[.int .i64 (a : Int), .int .i64 0]) ∧ Below W.heap.size W w'))
    (HLI : Hid (∀ W, Good W → Calls Tryd.prog 16 #[.string ⟨s.toArray⟩, .int .i64 (1 + (K : Int))] W fun e w' => e = .returned (.tuple #[.string ⟨q.toArray⟩, .int .i64 0]) ∧ Below W.heap.size W w'))
    (HPR : Hid (∀ W, Calls Tryd.prog 26 #[.string ⟨Z.toArray⟩, .string ⟨q.toArray⟩] W fun e w' => e = .returned (.bool true) ∧ W = w'))
    (HCMP : Hid (∀ W, Calls Tryd.prog 24 #[.agg #[.int .i64 (1 + (K : Int)), .int .i64 C1], .agg #[.int .i64 R2, .int .i64 C2]] W fun e w' => e = .returned (.int .i64 O) ∧ Below W.heap.size W w'))
    (HCNT : Hid (∀ W, Calls Tryd.prog 27 #[.string ⟨U.toArray⟩, .string ⟨#[10]⟩] W fun e w' => e = .returned (.int .i64 (K : Int)) ∧ Below W.heap.size W w'))
    (hord : (a < b ∧ O = -1) ∨ (b < a ∧ O = 1) ∨ (a = b ∧ O = 0)) :
    Calls Tryd.prog 8 #[.string ⟨s.toArray⟩, .int .u16 m, .int .u16 n] w fun e w' => e = .returned (.bool true) ∧ Below w.heap.size w w' := by
  have HI : Hid (FInv w w) := Lib.hid ⟨hG, Below.refl _ _⟩
  clear hG
  have hne : ¬ ((s.length : Int) + 1 = 0) := by omega
  have hwr : IntKind.i64.wrap (1 + (K : Int)) = 1 + (K : Int) := IntWalk.i64_in _ (by omega)
  have HOrd := Lib.hid hord
  clear hord
  go_enter Tryd.func8, Tryd.ntmps8
  go_wp2_with fail
  go_region
  clear hma hnb hne
  obtain ⟨w0, hw0⟩ : ∃ V, w.drew = V := ⟨_, rfl⟩
  have HI0 := FInv.drew HI
  rw [hw0] at HI0 ⊢
  clear hw0 HI
  go_wp2_with fail
  refine (HO1.out _).mono ?_
  rintro e w2 ⟨rfl, hb⟩
  have HB1 : Hid (Blk (w2.alloc (.cells #[.int .i64 (1 + (K : Int)), .int .i64 C1] 24)) w2.heap.size 24 #[.int .i64 (1 + (K : Int)), .int .i64 C1]) := Lib.hid (Blk.new _ _ _)
  have HI := FInv.alloc (FInv.call HI0 hb) (.cells #[.int .i64 (1 + (K : Int)), .int .i64 C1] 24)
  clear hb HI0
  go_wp2_with fail
  refine (HO2.out _).mono ?_
  rintro e w3 ⟨rfl, hb⟩
  obtain ⟨g1, hg1⟩ : ∃ k, w2.heap.size = k := ⟨_, rfl⟩
  rw [hg1] at HB1 ⊢
  have HD0 : Hid (DB w g1 w3.heap.size (1 + (K : Int)) C1 R2 C2 (w3.alloc (.cells #[.int .i64 R2, .int .i64 C2] 24))) := Lib.hid ⟨(FInv.alloc (FInv.call HI hb) (.cells #[.int .i64 R2, .int .i64 C2] 24)).out.1, (FInv.alloc (FInv.call HI hb) (.cells #[.int .i64 R2, .int .i64 C2] 24)).out.2, (HB1.out.call hb).alloc _, Blk.new _ _ _⟩
  clear hb hg1 HB1 HI
  have d0 := (DB.cells HD0).1
  have d1 := (DB.cells HD0).2.1
  go_wp2_with fail
  refine (HOF.out _ (DB.good HD0)).mono ?_
  rintro e w5 ⟨rfl, hb⟩
  obtain ⟨g2, hg2⟩ : ∃ k, w3.heap.size = k := ⟨_, rfl⟩
  have HD1 := DB.call HD0 hb
  rw [hg2] at HD1 ⊢
  have HD := HD1
  clear hb HD0 HD1 hg2 d0 d1
  rcases HOrd.out with ⟨ho, rfl⟩ | ⟨ho, rfl⟩ | ⟨rfl, rfl⟩
  · have h1 : (a : Int) < (b : Int) := by omega
    clear ho HOrd
    have d0 := (DB.cells HD).1
    have d1 := (DB.cells HD).2.1
    go_wp2_with fail
    refine (HLI.out _ (DB.good HD)).mono ?_
    rintro e w6 ⟨rfl, hb⟩
    replace HD := DB.call HD hb
    clear hb d0 d1
    have d0 := (DB.cells HD).1
    have d1 := (DB.cells HD).2.1
    rcases HG.out with ⟨hg0, hext⟩ | ⟨g', hg0, hx, hg', hext⟩
    · go_wp2_with fail
      refine (HPR.out _).mono ?_
      rintro e w7 ⟨rfl, rfl⟩
      clear d0 d1 hg0
      go_upto_region 18 with fail
      refine wp_region_held_drew (S := fun W => W.cell? ⟨g1, 0, none⟩ = some (.int .i64 (1 + (K : Int))) ∧ W.cell? ⟨g1, 1, none⟩ = some (.int .i64 C1) ∧ W.cell? ⟨g2, 0, none⟩ = some (.int .i64 R2) ∧ W.cell? ⟨g2, 1, none⟩ = some (.int .i64 C2) ∧ Hid (DB w g1 g2 (1 + (K : Int)) C1 R2 C2 W)) (by kernel_rfl) ?_ (fun hHeld0 => ?_)
      · exact DB.cells (DB.drew HD)
      refine wpAnyH_take (i := 0) (oi := ⟨some 131, _, _, _, _, _⟩) (v := ?_) rfl (by kernel_rfl) (by kernel_rfl) (by kernel_rfl) (fun _ _ _ h => h) (Or.inl ⟨rfl, ?_⟩) (by assumption) ?_
      rotate_left
      · (intro w hSw; (try dsimp only at hSw); go_simp; (try with_reducible rfl))
      (try simp only [Act.put, List.setIfInBounds_toArray, List.set_cons_zero, List.set_cons_succ])
      refine wpAnyH_take (i := 1) (oi := ⟨some 132, _, _, _, _, _⟩) (v := ?_) rfl (by kernel_rfl) (by kernel_rfl) (by kernel_rfl) (fun _ _ _ h => h) (Or.inl ⟨rfl, ?_⟩) (by assumption) ?_
      rotate_left
      · (intro w hSw; (try dsimp only at hSw); go_simp; (try with_reducible rfl))
      (try simp only [Act.put, List.setIfInBounds_toArray, List.set_cons_zero, List.set_cons_succ])
      refine wpAnyH_take (i := 3) (oi := ⟨some 134, _, _, _, _, _⟩) (v := ?_) rfl (by kernel_rfl) (by kernel_rfl) (by kernel_rfl) (fun _ _ _ h => h) (Or.inl ⟨rfl, ?_⟩) (by assumption) ?_
      rotate_left
      · (intro w hSw; (try dsimp only at hSw); go_simp; (try with_reducible rfl))
      (try simp only [Act.put, List.setIfInBounds_toArray, List.set_cons_zero, List.set_cons_succ])
      refine wpAnyH_ready (rs := [2]) (by kernel_rfl) (by simp) ?_
      refine AllReadyH.cons (o := ⟨some 133, _, _, _, _, _⟩) rfl (fun K hK => ?_) AllReadyH.nil
      have hCur := DB.limb hHeld0
      go_simp
      refine (HCMP.out _).mono ?_
      rintro e w' ⟨rfl, hb⟩
      have hNew := DB.call hCur hb
      clear hb hCur
      go_wp2_with fail
      refine hK.out _ _ ?_ (fun hHeld1 => ?_)
      · exact DB.cells hNew
      clear hK K hHeld0
      (try simp only [Act.put, List.setIfInBounds_toArray, List.set_cons_zero, List.set_cons_succ])
      refine wpAnyH_take (i := 4) (oi := ⟨some 135, _, _, _, _, _⟩) (v := ?_) rfl (by kernel_rfl) (by kernel_rfl) (by kernel_rfl) (fun _ _ _ h => h) (Or.inl ⟨rfl, ?_⟩) (by assumption) ?_
      rotate_left
      · (intro w hSw; (try dsimp only at hSw); go_simp; (try with_reducible rfl))
      (try simp only [Act.put, List.setIfInBounds_toArray, List.set_cons_zero, List.set_cons_succ])
      refine wpAnyH_take (i := 5) (oi := ⟨some 136, _, _, _, _, _⟩) (v := ?_) rfl (by kernel_rfl) (by kernel_rfl) (by kernel_rfl) (fun _ _ _ h => h) (Or.inl ⟨rfl, ?_⟩) (by assumption) ?_
      rotate_left
      · (intro w hSw; (try dsimp only at hSw); go_simp; (try with_reducible rfl))
      (try simp only [Act.put, List.setIfInBounds_toArray, List.set_cons_zero, List.set_cons_succ])
      refine wpAnyH_take (i := 6) (oi := ⟨some 137, _, _, _, _, _⟩) (v := ?_) rfl (by kernel_rfl) (by kernel_rfl) (by kernel_rfl) (fun _ _ _ h => h) (Or.inl ⟨rfl, ?_⟩) (by assumption) ?_
      rotate_left
      · (intro w hSw; (try dsimp only at hSw); go_simp; (try with_reducible rfl))
      (try simp only [Act.put, List.setIfInBounds_toArray, List.set_cons_zero, List.set_cons_succ])
      refine wpAnyH_take (i := 7) (oi := ⟨some 138, _, _, _, _, _⟩) (v := ?_) rfl (by kernel_rfl) (by kernel_rfl) (by kernel_rfl) (fun _ _ _ h => h) (Or.inl ⟨rfl, ?_⟩) (by assumption) ?_
      rotate_left
      · (intro w hSw; (try dsimp only at hSw); go_simp; (try with_reducible rfl))
      (try simp only [Act.put, List.setIfInBounds_toArray, List.set_cons_zero, List.set_cons_succ])
      refine wpAnyH_take (i := 8) (oi := ⟨some 139, _, _, _, _, _⟩) (v := ?_) rfl (by kernel_rfl) (by kernel_rfl) (by kernel_rfl) (fun _ _ _ h => h) (Or.inl ⟨rfl, ?_⟩) (by assumption) ?_
      rotate_left
      · (intro w hSw; (try dsimp only at hSw); go_simp; (try with_reducible rfl))
      (try simp only [Act.put, List.setIfInBounds_toArray, List.set_cons_zero, List.set_cons_succ])
      refine wpAnyH_take (i := 9) (oi := ⟨some 140, _, _, _, _, _⟩) (v := ?_) rfl (by kernel_rfl) (by kernel_rfl) (by kernel_rfl) (fun _ _ _ h => h) (Or.inl ⟨rfl, ?_⟩) (by assumption) ?_
      rotate_left
      · (intro w hSw; (try dsimp only at hSw); go_simp; (try with_reducible rfl))
      (try simp only [Act.put, List.setIfInBounds_toArray, List.set_cons_zero, List.set_cons_succ])
      refine wpAnyH_take (i := 10) (oi := ⟨some 141, _, _, _, _, _⟩) (v := ?_) rfl (by kernel_rfl) (by kernel_rfl) (by kernel_rfl) (fun _ _ _ h => h) (Or.inl ⟨rfl, ?_⟩) (by assumption) ?_
      rotate_left
      · (intro w hSw; (try dsimp only at hSw); go_simp; (try with_reducible rfl))
      (try simp only [Act.put, List.setIfInBounds_toArray, List.set_cons_zero, List.set_cons_succ])
      refine wpAnyH_ready (rs := [11]) (by kernel_rfl) (by simp) ?_
      refine AllReadyH.cons (o := ⟨some 142, _, _, _, _, _⟩) rfl (fun K hK => ?_) AllReadyH.nil
      have hCur := DB.limb hHeld1
      go_simp
      refine (HCNT.out _).mono ?_
      rintro e w' ⟨rfl, hb⟩
      have hNew := DB.call hCur hb
      clear hb hCur
      go_wp2_with fail
      refine hK.out _ _ ?_ (fun hHeld2 => ?_)
      · exact DB.cells hNew
      clear hK K hHeld1
      (try simp only [Act.put, List.setIfInBounds_toArray, List.set_cons_zero, List.set_cons_succ])
      refine wpAnyH_take (i := 12) (oi := ⟨some 143, _, _, _, _, _⟩) (v := ?_) rfl (by kernel_rfl) (by kernel_rfl) (by kernel_rfl) (fun _ _ _ h => h) (Or.inl ⟨rfl, ?_⟩) (by assumption) ?_
      rotate_left
      · (intro w hSw; (try dsimp only at hSw); go_simp; (try with_reducible rfl))
      (try simp only [Act.put, List.setIfInBounds_toArray, List.set_cons_zero, List.set_cons_succ])
      refine wpAnyH_take (i := 13) (oi := ⟨some 144, _, _, _, _, _⟩) (v := ?_) rfl (by kernel_rfl) (by kernel_rfl) (by kernel_rfl) (fun _ _ _ h => h) (Or.inl ⟨rfl, ?_⟩) (by assumption) ?_
      rotate_left
      · (intro w hSw; (try dsimp only at hSw); go_simp; (try with_reducible rfl))
      (try simp only [Act.put, List.setIfInBounds_toArray, List.set_cons_zero, List.set_cons_succ])
      refine wpAnyH_take (i := 14) (oi := ⟨some 145, _, _, _, _, _⟩) (v := ?_) rfl (by kernel_rfl) (by kernel_rfl) (by kernel_rfl) (fun _ _ _ h => h) (Or.inl ⟨rfl, ?_⟩) (by assumption) ?_
      rotate_left
      · (intro w hSw; (try dsimp only at hSw); go_simp; (try with_reducible rfl))
      (try simp only [Act.put, List.setIfInBounds_toArray, List.set_cons_zero, List.set_cons_succ])
      refine wpAnyH_take (i := 15) (oi := ⟨some 146, _, _, _, _, _⟩) (v := ?_) rfl (by kernel_rfl) (by kernel_rfl) (by kernel_rfl) (fun _ _ _ h => h) (Or.inl ⟨rfl, ?_⟩) (by assumption) ?_
      rotate_left
      · (intro w hSw; (try dsimp only at hSw); go_simp; (try with_reducible rfl))
      (try simp only [Act.put, List.setIfInBounds_toArray, List.set_cons_zero, List.set_cons_succ])
      refine wpAnyH_ready (rs := [16]) (by kernel_rfl) (by simp) ?_
      refine AllReadyH.cons (o := ⟨some 147, _, _, _, _, _⟩) rfl (fun K hK => ?_) AllReadyH.nil
      have hCur := DB.limb hHeld2
      go_simp
      refine (works_any _ (DB.good hCur)).mono ?_
      rintro e w' ⟨rfl, hb⟩
      have hNew := DB.call hCur hb
      clear hb hCur
      go_wp2_with fail
      refine hK.out _ _ ?_ (fun hHeld3 => ?_)
      · exact DB.cells hNew
      clear hK K hHeld2
      (try simp only [Act.put, List.setIfInBounds_toArray, List.set_cons_zero, List.set_cons_succ])
      refine wpAnyH_take (i := 17) (oi := ⟨some 148, _, _, _, _, _⟩) (v := ?_) rfl (by kernel_rfl) (by kernel_rfl) (by kernel_rfl) (fun _ _ _ h => h) (Or.inl ⟨rfl, ?_⟩) (by assumption) ?_
      rotate_left
      · (intro w hSw; (try dsimp only at hSw); go_simp; (try with_reducible rfl))
      (try simp only [Act.put, List.setIfInBounds_toArray, List.set_cons_zero, List.set_cons_succ])
      refine wpAnyH_take (i := 18) (oi := ⟨some 6, _, _, _, _, _⟩) (v := ?_) rfl (by kernel_rfl) (by kernel_rfl) (by kernel_rfl) (fun _ _ _ h => h) (Or.inl ⟨rfl, ?_⟩) (by assumption) ?_
      rotate_left
      · (intro w hSw; (try dsimp only at hSw); go_simp; (try with_reducible rfl))
      (try simp only [Act.put, List.setIfInBounds_toArray, List.set_cons_zero, List.set_cons_succ])
      refine wpAnyH_done (by kernel_rfl) ?_ _
      have HQ := DB.limb hHeld3
      clear hHeld3
      go_wp2_with fail
      go_ret
      exact ⟨rfl, HQ.out.2.1⟩
    · go_wp2_with fail
      refine (HPR.out _).mono ?_
      rintro e w7 ⟨rfl, rfl⟩
      clear d0 d1 hg0 hx
      go_upto_region 18 with fail
      refine wp_region_held_drew (S := fun W => W.cell? ⟨g1, 0, none⟩ = some (.int .i64 (1 + (K : Int))) ∧ W.cell? ⟨g1, 1, none⟩ = some (.int .i64 C1) ∧ W.cell? ⟨g2, 0, none⟩ = some (.int .i64 R2) ∧ W.cell? ⟨g2, 1, none⟩ = some (.int .i64 C2) ∧ Hid (DB w g1 g2 (1 + (K : Int)) C1 R2 C2 W)) (by kernel_rfl) ?_ (fun hHeld0 => ?_)
      · exact DB.cells (DB.drew HD)
      refine wpAnyH_take (i := 0) (oi := ⟨some 131, _, _, _, _, _⟩) (v := ?_) rfl (by kernel_rfl) (by kernel_rfl) (by kernel_rfl) (fun _ _ _ h => h) (Or.inl ⟨rfl, ?_⟩) (by assumption) ?_
      rotate_left
      · (intro w hSw; (try dsimp only at hSw); go_simp; (try with_reducible rfl))
      (try simp only [Act.put, List.setIfInBounds_toArray, List.set_cons_zero, List.set_cons_succ])
      refine wpAnyH_take (i := 1) (oi := ⟨some 132, _, _, _, _, _⟩) (v := ?_) rfl (by kernel_rfl) (by kernel_rfl) (by kernel_rfl) (fun _ _ _ h => h) (Or.inl ⟨rfl, ?_⟩) (by assumption) ?_
      rotate_left
      · (intro w hSw; (try dsimp only at hSw); go_simp; (try with_reducible rfl))
      (try simp only [Act.put, List.setIfInBounds_toArray, List.set_cons_zero, List.set_cons_succ])
      refine wpAnyH_take (i := 3) (oi := ⟨some 134, _, _, _, _, _⟩) (v := ?_) rfl (by kernel_rfl) (by kernel_rfl) (by kernel_rfl) (fun _ _ _ h => h) (Or.inl ⟨rfl, ?_⟩) (by assumption) ?_
      rotate_left
      · (intro w hSw; (try dsimp only at hSw); go_simp; (try with_reducible rfl))
      (try simp only [Act.put, List.setIfInBounds_toArray, List.set_cons_zero, List.set_cons_succ])
      refine wpAnyH_ready (rs := [2]) (by kernel_rfl) (by simp) ?_
      refine AllReadyH.cons (o := ⟨some 133, _, _, _, _, _⟩) rfl (fun K hK => ?_) AllReadyH.nil
      have hCur := DB.limb hHeld0
      go_simp
      refine (HCMP.out _).mono ?_
      rintro e w' ⟨rfl, hb⟩
      have hNew := DB.call hCur hb
      clear hb hCur
      go_wp2_with fail
      refine hK.out _ _ ?_ (fun hHeld1 => ?_)
      · exact DB.cells hNew
      clear hK K hHeld0
      (try simp only [Act.put, List.setIfInBounds_toArray, List.set_cons_zero, List.set_cons_succ])
      refine wpAnyH_take (i := 4) (oi := ⟨some 135, _, _, _, _, _⟩) (v := ?_) rfl (by kernel_rfl) (by kernel_rfl) (by kernel_rfl) (fun _ _ _ h => h) (Or.inl ⟨rfl, ?_⟩) (by assumption) ?_
      rotate_left
      · (intro w hSw; (try dsimp only at hSw); go_simp; (try with_reducible rfl))
      (try simp only [Act.put, List.setIfInBounds_toArray, List.set_cons_zero, List.set_cons_succ])
      refine wpAnyH_take (i := 5) (oi := ⟨some 136, _, _, _, _, _⟩) (v := ?_) rfl (by kernel_rfl) (by kernel_rfl) (by kernel_rfl) (fun _ _ _ h => h) (Or.inl ⟨rfl, ?_⟩) (by assumption) ?_
      rotate_left
      · (intro w hSw; (try dsimp only at hSw); go_simp; (try with_reducible rfl))
      (try simp only [Act.put, List.setIfInBounds_toArray, List.set_cons_zero, List.set_cons_succ])
      refine wpAnyH_take (i := 6) (oi := ⟨some 137, _, _, _, _, _⟩) (v := ?_) rfl (by kernel_rfl) (by kernel_rfl) (by kernel_rfl) (fun _ _ _ h => h) (Or.inl ⟨rfl, ?_⟩) (by assumption) ?_
      rotate_left
      · (intro w hSw; (try dsimp only at hSw); go_simp; (try with_reducible rfl))
      (try simp only [Act.put, List.setIfInBounds_toArray, List.set_cons_zero, List.set_cons_succ])
      refine wpAnyH_take (i := 7) (oi := ⟨some 138, _, _, _, _, _⟩) (v := ?_) rfl (by kernel_rfl) (by kernel_rfl) (by kernel_rfl) (fun _ _ _ h => h) (Or.inl ⟨rfl, ?_⟩) (by assumption) ?_
      rotate_left
      · (intro w hSw; (try dsimp only at hSw); go_simp; (try with_reducible rfl))
      (try simp only [Act.put, List.setIfInBounds_toArray, List.set_cons_zero, List.set_cons_succ])
      refine wpAnyH_take (i := 8) (oi := ⟨some 139, _, _, _, _, _⟩) (v := ?_) rfl (by kernel_rfl) (by kernel_rfl) (by kernel_rfl) (fun _ _ _ h => h) (Or.inl ⟨rfl, ?_⟩) (by assumption) ?_
      rotate_left
      · (intro w hSw; (try dsimp only at hSw); go_simp; (try with_reducible rfl))
      (try simp only [Act.put, List.setIfInBounds_toArray, List.set_cons_zero, List.set_cons_succ])
      refine wpAnyH_take (i := 9) (oi := ⟨some 140, _, _, _, _, _⟩) (v := ?_) rfl (by kernel_rfl) (by kernel_rfl) (by kernel_rfl) (fun _ _ _ h => h) (Or.inl ⟨rfl, ?_⟩) (by assumption) ?_
      rotate_left
      · (intro w hSw; (try dsimp only at hSw); go_simp; (try with_reducible rfl))
      (try simp only [Act.put, List.setIfInBounds_toArray, List.set_cons_zero, List.set_cons_succ])
      refine wpAnyH_take (i := 10) (oi := ⟨some 141, _, _, _, _, _⟩) (v := ?_) rfl (by kernel_rfl) (by kernel_rfl) (by kernel_rfl) (fun _ _ _ h => h) (Or.inl ⟨rfl, ?_⟩) (by assumption) ?_
      rotate_left
      · (intro w hSw; (try dsimp only at hSw); go_simp; (try with_reducible rfl))
      (try simp only [Act.put, List.setIfInBounds_toArray, List.set_cons_zero, List.set_cons_succ])
      refine wpAnyH_ready (rs := [11]) (by kernel_rfl) (by simp) ?_
      refine AllReadyH.cons (o := ⟨some 142, _, _, _, _, _⟩) rfl (fun K hK => ?_) AllReadyH.nil
      have hCur := DB.limb hHeld1
      go_simp
      refine (HCNT.out _).mono ?_
      rintro e w' ⟨rfl, hb⟩
      have hNew := DB.call hCur hb
      clear hb hCur
      go_wp2_with fail
      refine hK.out _ _ ?_ (fun hHeld2 => ?_)
      · exact DB.cells hNew
      clear hK K hHeld1
      (try simp only [Act.put, List.setIfInBounds_toArray, List.set_cons_zero, List.set_cons_succ])
      refine wpAnyH_take (i := 12) (oi := ⟨some 143, _, _, _, _, _⟩) (v := ?_) rfl (by kernel_rfl) (by kernel_rfl) (by kernel_rfl) (fun _ _ _ h => h) (Or.inl ⟨rfl, ?_⟩) (by assumption) ?_
      rotate_left
      · (intro w hSw; (try dsimp only at hSw); go_simp; (try with_reducible rfl))
      (try simp only [Act.put, List.setIfInBounds_toArray, List.set_cons_zero, List.set_cons_succ])
      refine wpAnyH_take (i := 13) (oi := ⟨some 144, _, _, _, _, _⟩) (v := ?_) rfl (by kernel_rfl) (by kernel_rfl) (by kernel_rfl) (fun _ _ _ h => h) (Or.inl ⟨rfl, ?_⟩) (by assumption) ?_
      rotate_left
      · (intro w hSw; (try dsimp only at hSw); go_simp; (try with_reducible rfl))
      (try simp only [Act.put, List.setIfInBounds_toArray, List.set_cons_zero, List.set_cons_succ])
      refine wpAnyH_take (i := 14) (oi := ⟨some 145, _, _, _, _, _⟩) (v := ?_) rfl (by kernel_rfl) (by kernel_rfl) (by kernel_rfl) (fun _ _ _ h => h) (Or.inl ⟨rfl, ?_⟩) (by assumption) ?_
      rotate_left
      · (intro w hSw; (try dsimp only at hSw); go_simp; (try with_reducible rfl))
      (try simp only [Act.put, List.setIfInBounds_toArray, List.set_cons_zero, List.set_cons_succ])
      refine wpAnyH_take (i := 15) (oi := ⟨some 146, _, _, _, _, _⟩) (v := ?_) rfl (by kernel_rfl) (by kernel_rfl) (by kernel_rfl) (fun _ _ _ h => h) (Or.inl ⟨rfl, ?_⟩) (by assumption) ?_
      rotate_left
      · (intro w hSw; (try dsimp only at hSw); go_simp; (try with_reducible rfl))
      (try simp only [Act.put, List.setIfInBounds_toArray, List.set_cons_zero, List.set_cons_succ])
      refine wpAnyH_ready (rs := [16]) (by kernel_rfl) (by simp) ?_
      refine AllReadyH.cons (o := ⟨some 147, _, _, _, _, _⟩) rfl (fun K hK => ?_) AllReadyH.nil
      have hCur := DB.limb hHeld2
      go_simp
      refine (works_any _ (DB.good hCur)).mono ?_
      rintro e w' ⟨rfl, hb⟩
      have hNew := DB.call hCur hb
      clear hb hCur
      go_wp2_with fail
      refine hK.out _ _ ?_ (fun hHeld3 => ?_)
      · exact DB.cells hNew
      clear hK K hHeld2
      (try simp only [Act.put, List.setIfInBounds_toArray, List.set_cons_zero, List.set_cons_succ])
      refine wpAnyH_take (i := 17) (oi := ⟨some 148, _, _, _, _, _⟩) (v := ?_) rfl (by kernel_rfl) (by kernel_rfl) (by kernel_rfl) (fun _ _ _ h => h) (Or.inl ⟨rfl, ?_⟩) (by assumption) ?_
      rotate_left
      · (intro w hSw; (try dsimp only at hSw); go_simp; (try with_reducible rfl))
      (try simp only [Act.put, List.setIfInBounds_toArray, List.set_cons_zero, List.set_cons_succ])
      refine wpAnyH_take (i := 18) (oi := ⟨some 6, _, _, _, _, _⟩) (v := ?_) rfl (by kernel_rfl) (by kernel_rfl) (by kernel_rfl) (fun _ _ _ h => h) (Or.inl ⟨rfl, ?_⟩) (by assumption) ?_
      rotate_left
      · (intro w hSw; (try dsimp only at hSw); go_simp; (try with_reducible rfl))
      (try simp only [Act.put, List.setIfInBounds_toArray, List.set_cons_zero, List.set_cons_succ])
      refine wpAnyH_done (by kernel_rfl) ?_ _
      have HQ := DB.limb hHeld3
      clear hHeld3
      go_wp2_with fail
      go_ret
      exact ⟨rfl, HQ.out.2.1⟩
  · have h1 : (b : Int) < (a : Int) := by omega
    have h2 : ¬ (a : Int) < (b : Int) := by omega
    clear ho HOrd
    have d0 := (DB.cells HD).1
    have d1 := (DB.cells HD).2.1
    go_wp2_with fail
    refine (HLI.out _ (DB.good HD)).mono ?_
    rintro e w6 ⟨rfl, hb⟩
    replace HD := DB.call HD hb
    clear hb d0 d1
    have d0 := (DB.cells HD).1
    have d1 := (DB.cells HD).2.1
    rcases HG.out with ⟨hg0, hext⟩ | ⟨g', hg0, hx, hg', hext⟩
    · go_wp2_with fail
      refine (HPR.out _).mono ?_
      rintro e w7 ⟨rfl, rfl⟩
      clear d0 d1 hg0
      go_upto_region 18 with fail
      refine wp_region_held_drew (S := fun W => W.cell? ⟨g1, 0, none⟩ = some (.int .i64 (1 + (K : Int))) ∧ W.cell? ⟨g1, 1, none⟩ = some (.int .i64 C1) ∧ W.cell? ⟨g2, 0, none⟩ = some (.int .i64 R2) ∧ W.cell? ⟨g2, 1, none⟩ = some (.int .i64 C2) ∧ Hid (DB w g1 g2 (1 + (K : Int)) C1 R2 C2 W)) (by kernel_rfl) ?_ (fun hHeld0 => ?_)
      · exact DB.cells (DB.drew HD)
      refine wpAnyH_take (i := 0) (oi := ⟨some 131, _, _, _, _, _⟩) (v := ?_) rfl (by kernel_rfl) (by kernel_rfl) (by kernel_rfl) (fun _ _ _ h => h) (Or.inl ⟨rfl, ?_⟩) (by assumption) ?_
      rotate_left
      · (intro w hSw; (try dsimp only at hSw); go_simp; (try with_reducible rfl))
      (try simp only [Act.put, List.setIfInBounds_toArray, List.set_cons_zero, List.set_cons_succ])
      refine wpAnyH_take (i := 1) (oi := ⟨some 132, _, _, _, _, _⟩) (v := ?_) rfl (by kernel_rfl) (by kernel_rfl) (by kernel_rfl) (fun _ _ _ h => h) (Or.inl ⟨rfl, ?_⟩) (by assumption) ?_
      rotate_left
      · (intro w hSw; (try dsimp only at hSw); go_simp; (try with_reducible rfl))
      (try simp only [Act.put, List.setIfInBounds_toArray, List.set_cons_zero, List.set_cons_succ])
      refine wpAnyH_take (i := 3) (oi := ⟨some 134, _, _, _, _, _⟩) (v := ?_) rfl (by kernel_rfl) (by kernel_rfl) (by kernel_rfl) (fun _ _ _ h => h) (Or.inl ⟨rfl, ?_⟩) (by assumption) ?_
      rotate_left
      · (intro w hSw; (try dsimp only at hSw); go_simp; (try with_reducible rfl))
      (try simp only [Act.put, List.setIfInBounds_toArray, List.set_cons_zero, List.set_cons_succ])
      refine wpAnyH_ready (rs := [2]) (by kernel_rfl) (by simp) ?_
      refine AllReadyH.cons (o := ⟨some 133, _, _, _, _, _⟩) rfl (fun K hK => ?_) AllReadyH.nil
      have hCur := DB.limb hHeld0
      go_simp
      refine (HCMP.out _).mono ?_
      rintro e w' ⟨rfl, hb⟩
      have hNew := DB.call hCur hb
      clear hb hCur
      go_wp2_with fail
      refine hK.out _ _ ?_ (fun hHeld1 => ?_)
      · exact DB.cells hNew
      clear hK K hHeld0
      (try simp only [Act.put, List.setIfInBounds_toArray, List.set_cons_zero, List.set_cons_succ])
      refine wpAnyH_take (i := 4) (oi := ⟨some 135, _, _, _, _, _⟩) (v := ?_) rfl (by kernel_rfl) (by kernel_rfl) (by kernel_rfl) (fun _ _ _ h => h) (Or.inl ⟨rfl, ?_⟩) (by assumption) ?_
      rotate_left
      · (intro w hSw; (try dsimp only at hSw); go_simp; (try with_reducible rfl))
      (try simp only [Act.put, List.setIfInBounds_toArray, List.set_cons_zero, List.set_cons_succ])
      refine wpAnyH_take (i := 5) (oi := ⟨some 136, _, _, _, _, _⟩) (v := ?_) rfl (by kernel_rfl) (by kernel_rfl) (by kernel_rfl) (fun _ _ _ h => h) (Or.inl ⟨rfl, ?_⟩) (by assumption) ?_
      rotate_left
      · (intro w hSw; (try dsimp only at hSw); go_simp; (try with_reducible rfl))
      (try simp only [Act.put, List.setIfInBounds_toArray, List.set_cons_zero, List.set_cons_succ])
      refine wpAnyH_take (i := 6) (oi := ⟨some 137, _, _, _, _, _⟩) (v := ?_) rfl (by kernel_rfl) (by kernel_rfl) (by kernel_rfl) (fun _ _ _ h => h) (Or.inl ⟨rfl, ?_⟩) (by assumption) ?_
      rotate_left
      · (intro w hSw; (try dsimp only at hSw); go_simp; (try with_reducible rfl))
      (try simp only [Act.put, List.setIfInBounds_toArray, List.set_cons_zero, List.set_cons_succ])
      refine wpAnyH_take (i := 7) (oi := ⟨some 138, _, _, _, _, _⟩) (v := ?_) rfl (by kernel_rfl) (by kernel_rfl) (by kernel_rfl) (fun _ _ _ h => h) (Or.inl ⟨rfl, ?_⟩) (by assumption) ?_
      rotate_left
      · (intro w hSw; (try dsimp only at hSw); go_simp; (try with_reducible rfl))
      (try simp only [Act.put, List.setIfInBounds_toArray, List.set_cons_zero, List.set_cons_succ])
      refine wpAnyH_take (i := 8) (oi := ⟨some 139, _, _, _, _, _⟩) (v := ?_) rfl (by kernel_rfl) (by kernel_rfl) (by kernel_rfl) (fun _ _ _ h => h) (Or.inl ⟨rfl, ?_⟩) (by assumption) ?_
      rotate_left
      · (intro w hSw; (try dsimp only at hSw); go_simp; (try with_reducible rfl))
      (try simp only [Act.put, List.setIfInBounds_toArray, List.set_cons_zero, List.set_cons_succ])
      refine wpAnyH_take (i := 9) (oi := ⟨some 140, _, _, _, _, _⟩) (v := ?_) rfl (by kernel_rfl) (by kernel_rfl) (by kernel_rfl) (fun _ _ _ h => h) (Or.inl ⟨rfl, ?_⟩) (by assumption) ?_
      rotate_left
      · (intro w hSw; (try dsimp only at hSw); go_simp; (try with_reducible rfl))
      (try simp only [Act.put, List.setIfInBounds_toArray, List.set_cons_zero, List.set_cons_succ])
      refine wpAnyH_take (i := 10) (oi := ⟨some 141, _, _, _, _, _⟩) (v := ?_) rfl (by kernel_rfl) (by kernel_rfl) (by kernel_rfl) (fun _ _ _ h => h) (Or.inl ⟨rfl, ?_⟩) (by assumption) ?_
      rotate_left
      · (intro w hSw; (try dsimp only at hSw); go_simp; (try with_reducible rfl))
      (try simp only [Act.put, List.setIfInBounds_toArray, List.set_cons_zero, List.set_cons_succ])
      refine wpAnyH_ready (rs := [11]) (by kernel_rfl) (by simp) ?_
      refine AllReadyH.cons (o := ⟨some 142, _, _, _, _, _⟩) rfl (fun K hK => ?_) AllReadyH.nil
      have hCur := DB.limb hHeld1
      go_simp
      refine (HCNT.out _).mono ?_
      rintro e w' ⟨rfl, hb⟩
      have hNew := DB.call hCur hb
      clear hb hCur
      go_wp2_with fail
      refine hK.out _ _ ?_ (fun hHeld2 => ?_)
      · exact DB.cells hNew
      clear hK K hHeld1
      (try simp only [Act.put, List.setIfInBounds_toArray, List.set_cons_zero, List.set_cons_succ])
      refine wpAnyH_take (i := 12) (oi := ⟨some 143, _, _, _, _, _⟩) (v := ?_) rfl (by kernel_rfl) (by kernel_rfl) (by kernel_rfl) (fun _ _ _ h => h) (Or.inl ⟨rfl, ?_⟩) (by assumption) ?_
      rotate_left
      · (intro w hSw; (try dsimp only at hSw); go_simp; (try with_reducible rfl))
      (try simp only [Act.put, List.setIfInBounds_toArray, List.set_cons_zero, List.set_cons_succ])
      refine wpAnyH_take (i := 13) (oi := ⟨some 144, _, _, _, _, _⟩) (v := ?_) rfl (by kernel_rfl) (by kernel_rfl) (by kernel_rfl) (fun _ _ _ h => h) (Or.inl ⟨rfl, ?_⟩) (by assumption) ?_
      rotate_left
      · (intro w hSw; (try dsimp only at hSw); go_simp; (try with_reducible rfl))
      (try simp only [Act.put, List.setIfInBounds_toArray, List.set_cons_zero, List.set_cons_succ])
      refine wpAnyH_take (i := 14) (oi := ⟨some 145, _, _, _, _, _⟩) (v := ?_) rfl (by kernel_rfl) (by kernel_rfl) (by kernel_rfl) (fun _ _ _ h => h) (Or.inl ⟨rfl, ?_⟩) (by assumption) ?_
      rotate_left
      · (intro w hSw; (try dsimp only at hSw); go_simp; (try with_reducible rfl))
      (try simp only [Act.put, List.setIfInBounds_toArray, List.set_cons_zero, List.set_cons_succ])
      refine wpAnyH_take (i := 15) (oi := ⟨some 146, _, _, _, _, _⟩) (v := ?_) rfl (by kernel_rfl) (by kernel_rfl) (by kernel_rfl) (fun _ _ _ h => h) (Or.inl ⟨rfl, ?_⟩) (by assumption) ?_
      rotate_left
      · (intro w hSw; (try dsimp only at hSw); go_simp; (try with_reducible rfl))
      (try simp only [Act.put, List.setIfInBounds_toArray, List.set_cons_zero, List.set_cons_succ])
      refine wpAnyH_ready (rs := [16]) (by kernel_rfl) (by simp) ?_
      refine AllReadyH.cons (o := ⟨some 147, _, _, _, _, _⟩) rfl (fun K hK => ?_) AllReadyH.nil
      have hCur := DB.limb hHeld2
      go_simp
      refine (works_any _ (DB.good hCur)).mono ?_
      rintro e w' ⟨rfl, hb⟩
      have hNew := DB.call hCur hb
      clear hb hCur
      go_wp2_with fail
      refine hK.out _ _ ?_ (fun hHeld3 => ?_)
      · exact DB.cells hNew
      clear hK K hHeld2
      (try simp only [Act.put, List.setIfInBounds_toArray, List.set_cons_zero, List.set_cons_succ])
      refine wpAnyH_take (i := 17) (oi := ⟨some 148, _, _, _, _, _⟩) (v := ?_) rfl (by kernel_rfl) (by kernel_rfl) (by kernel_rfl) (fun _ _ _ h => h) (Or.inl ⟨rfl, ?_⟩) (by assumption) ?_
      rotate_left
      · (intro w hSw; (try dsimp only at hSw); go_simp; (try with_reducible rfl))
      (try simp only [Act.put, List.setIfInBounds_toArray, List.set_cons_zero, List.set_cons_succ])
      refine wpAnyH_take (i := 18) (oi := ⟨some 6, _, _, _, _, _⟩) (v := ?_) rfl (by kernel_rfl) (by kernel_rfl) (by kernel_rfl) (fun _ _ _ h => h) (Or.inl ⟨rfl, ?_⟩) (by assumption) ?_
      rotate_left
      · (intro w hSw; (try dsimp only at hSw); go_simp; (try with_reducible rfl))
      (try simp only [Act.put, List.setIfInBounds_toArray, List.set_cons_zero, List.set_cons_succ])
      refine wpAnyH_done (by kernel_rfl) ?_ _
      have HQ := DB.limb hHeld3
      clear hHeld3
      go_wp2_with fail
      go_ret
      exact ⟨rfl, HQ.out.2.1⟩
    · go_wp2_with fail
      refine (HPR.out _).mono ?_
      rintro e w7 ⟨rfl, rfl⟩
      clear d0 d1 hg0 hx
      go_upto_region 18 with fail
      refine wp_region_held_drew (S := fun W => W.cell? ⟨g1, 0, none⟩ = some (.int .i64 (1 + (K : Int))) ∧ W.cell? ⟨g1, 1, none⟩ = some (.int .i64 C1) ∧ W.cell? ⟨g2, 0, none⟩ = some (.int .i64 R2) ∧ W.cell? ⟨g2, 1, none⟩ = some (.int .i64 C2) ∧ Hid (DB w g1 g2 (1 + (K : Int)) C1 R2 C2 W)) (by kernel_rfl) ?_ (fun hHeld0 => ?_)
      · exact DB.cells (DB.drew HD)
      refine wpAnyH_take (i := 0) (oi := ⟨some 131, _, _, _, _, _⟩) (v := ?_) rfl (by kernel_rfl) (by kernel_rfl) (by kernel_rfl) (fun _ _ _ h => h) (Or.inl ⟨rfl, ?_⟩) (by assumption) ?_
      rotate_left
      · (intro w hSw; (try dsimp only at hSw); go_simp; (try with_reducible rfl))
      (try simp only [Act.put, List.setIfInBounds_toArray, List.set_cons_zero, List.set_cons_succ])
      refine wpAnyH_take (i := 1) (oi := ⟨some 132, _, _, _, _, _⟩) (v := ?_) rfl (by kernel_rfl) (by kernel_rfl) (by kernel_rfl) (fun _ _ _ h => h) (Or.inl ⟨rfl, ?_⟩) (by assumption) ?_
      rotate_left
      · (intro w hSw; (try dsimp only at hSw); go_simp; (try with_reducible rfl))
      (try simp only [Act.put, List.setIfInBounds_toArray, List.set_cons_zero, List.set_cons_succ])
      refine wpAnyH_take (i := 3) (oi := ⟨some 134, _, _, _, _, _⟩) (v := ?_) rfl (by kernel_rfl) (by kernel_rfl) (by kernel_rfl) (fun _ _ _ h => h) (Or.inl ⟨rfl, ?_⟩) (by assumption) ?_
      rotate_left
      · (intro w hSw; (try dsimp only at hSw); go_simp; (try with_reducible rfl))
      (try simp only [Act.put, List.setIfInBounds_toArray, List.set_cons_zero, List.set_cons_succ])
      refine wpAnyH_ready (rs := [2]) (by kernel_rfl) (by simp) ?_
      refine AllReadyH.cons (o := ⟨some 133, _, _, _, _, _⟩) rfl (fun K hK => ?_) AllReadyH.nil
      have hCur := DB.limb hHeld0
      go_simp
      refine (HCMP.out _).mono ?_
      rintro e w' ⟨rfl, hb⟩
      have hNew := DB.call hCur hb
      clear hb hCur
      go_wp2_with fail
      refine hK.out _ _ ?_ (fun hHeld1 => ?_)
      · exact DB.cells hNew
      clear hK K hHeld0
      (try simp only [Act.put, List.setIfInBounds_toArray, List.set_cons_zero, List.set_cons_succ])
      refine wpAnyH_take (i := 4) (oi := ⟨some 135, _, _, _, _, _⟩) (v := ?_) rfl (by kernel_rfl) (by kernel_rfl) (by kernel_rfl) (fun _ _ _ h => h) (Or.inl ⟨rfl, ?_⟩) (by assumption) ?_
      rotate_left
      · (intro w hSw; (try dsimp only at hSw); go_simp; (try with_reducible rfl))
      (try simp only [Act.put, List.setIfInBounds_toArray, List.set_cons_zero, List.set_cons_succ])
      refine wpAnyH_take (i := 5) (oi := ⟨some 136, _, _, _, _, _⟩) (v := ?_) rfl (by kernel_rfl) (by kernel_rfl) (by kernel_rfl) (fun _ _ _ h => h) (Or.inl ⟨rfl, ?_⟩) (by assumption) ?_
      rotate_left
      · (intro w hSw; (try dsimp only at hSw); go_simp; (try with_reducible rfl))
      (try simp only [Act.put, List.setIfInBounds_toArray, List.set_cons_zero, List.set_cons_succ])
      refine wpAnyH_take (i := 6) (oi := ⟨some 137, _, _, _, _, _⟩) (v := ?_) rfl (by kernel_rfl) (by kernel_rfl) (by kernel_rfl) (fun _ _ _ h => h) (Or.inl ⟨rfl, ?_⟩) (by assumption) ?_
      rotate_left
      · (intro w hSw; (try dsimp only at hSw); go_simp; (try with_reducible rfl))
      (try simp only [Act.put, List.setIfInBounds_toArray, List.set_cons_zero, List.set_cons_succ])
      refine wpAnyH_take (i := 7) (oi := ⟨some 138, _, _, _, _, _⟩) (v := ?_) rfl (by kernel_rfl) (by kernel_rfl) (by kernel_rfl) (fun _ _ _ h => h) (Or.inl ⟨rfl, ?_⟩) (by assumption) ?_
      rotate_left
      · (intro w hSw; (try dsimp only at hSw); go_simp; (try with_reducible rfl))
      (try simp only [Act.put, List.setIfInBounds_toArray, List.set_cons_zero, List.set_cons_succ])
      refine wpAnyH_take (i := 8) (oi := ⟨some 139, _, _, _, _, _⟩) (v := ?_) rfl (by kernel_rfl) (by kernel_rfl) (by kernel_rfl) (fun _ _ _ h => h) (Or.inl ⟨rfl, ?_⟩) (by assumption) ?_
      rotate_left
      · (intro w hSw; (try dsimp only at hSw); go_simp; (try with_reducible rfl))
      (try simp only [Act.put, List.setIfInBounds_toArray, List.set_cons_zero, List.set_cons_succ])
      refine wpAnyH_take (i := 9) (oi := ⟨some 140, _, _, _, _, _⟩) (v := ?_) rfl (by kernel_rfl) (by kernel_rfl) (by kernel_rfl) (fun _ _ _ h => h) (Or.inl ⟨rfl, ?_⟩) (by assumption) ?_
      rotate_left
      · (intro w hSw; (try dsimp only at hSw); go_simp; (try with_reducible rfl))
      (try simp only [Act.put, List.setIfInBounds_toArray, List.set_cons_zero, List.set_cons_succ])
      refine wpAnyH_take (i := 10) (oi := ⟨some 141, _, _, _, _, _⟩) (v := ?_) rfl (by kernel_rfl) (by kernel_rfl) (by kernel_rfl) (fun _ _ _ h => h) (Or.inl ⟨rfl, ?_⟩) (by assumption) ?_
      rotate_left
      · (intro w hSw; (try dsimp only at hSw); go_simp; (try with_reducible rfl))
      (try simp only [Act.put, List.setIfInBounds_toArray, List.set_cons_zero, List.set_cons_succ])
      refine wpAnyH_ready (rs := [11]) (by kernel_rfl) (by simp) ?_
      refine AllReadyH.cons (o := ⟨some 142, _, _, _, _, _⟩) rfl (fun K hK => ?_) AllReadyH.nil
      have hCur := DB.limb hHeld1
      go_simp
      refine (HCNT.out _).mono ?_
      rintro e w' ⟨rfl, hb⟩
      have hNew := DB.call hCur hb
      clear hb hCur
      go_wp2_with fail
      refine hK.out _ _ ?_ (fun hHeld2 => ?_)
      · exact DB.cells hNew
      clear hK K hHeld1
      (try simp only [Act.put, List.setIfInBounds_toArray, List.set_cons_zero, List.set_cons_succ])
      refine wpAnyH_take (i := 12) (oi := ⟨some 143, _, _, _, _, _⟩) (v := ?_) rfl (by kernel_rfl) (by kernel_rfl) (by kernel_rfl) (fun _ _ _ h => h) (Or.inl ⟨rfl, ?_⟩) (by assumption) ?_
      rotate_left
      · (intro w hSw; (try dsimp only at hSw); go_simp; (try with_reducible rfl))
      (try simp only [Act.put, List.setIfInBounds_toArray, List.set_cons_zero, List.set_cons_succ])
      refine wpAnyH_take (i := 13) (oi := ⟨some 144, _, _, _, _, _⟩) (v := ?_) rfl (by kernel_rfl) (by kernel_rfl) (by kernel_rfl) (fun _ _ _ h => h) (Or.inl ⟨rfl, ?_⟩) (by assumption) ?_
      rotate_left
      · (intro w hSw; (try dsimp only at hSw); go_simp; (try with_reducible rfl))
      (try simp only [Act.put, List.setIfInBounds_toArray, List.set_cons_zero, List.set_cons_succ])
      refine wpAnyH_take (i := 14) (oi := ⟨some 145, _, _, _, _, _⟩) (v := ?_) rfl (by kernel_rfl) (by kernel_rfl) (by kernel_rfl) (fun _ _ _ h => h) (Or.inl ⟨rfl, ?_⟩) (by assumption) ?_
      rotate_left
      · (intro w hSw; (try dsimp only at hSw); go_simp; (try with_reducible rfl))
      (try simp only [Act.put, List.setIfInBounds_toArray, List.set_cons_zero, List.set_cons_succ])
      refine wpAnyH_take (i := 15) (oi := ⟨some 146, _, _, _, _, _⟩) (v := ?_) rfl (by kernel_rfl) (by kernel_rfl) (by kernel_rfl) (fun _ _ _ h => h) (Or.inl ⟨rfl, ?_⟩) (by assumption) ?_
      rotate_left
      · (intro w hSw; (try dsimp only at hSw); go_simp; (try with_reducible rfl))
      (try simp only [Act.put, List.setIfInBounds_toArray, List.set_cons_zero, List.set_cons_succ])
      refine wpAnyH_ready (rs := [16]) (by kernel_rfl) (by simp) ?_
      refine AllReadyH.cons (o := ⟨some 147, _, _, _, _, _⟩) rfl (fun K hK => ?_) AllReadyH.nil
      have hCur := DB.limb hHeld2
      go_simp
      refine (works_any _ (DB.good hCur)).mono ?_
      rintro e w' ⟨rfl, hb⟩
      have hNew := DB.call hCur hb
      clear hb hCur
      go_wp2_with fail
      refine hK.out _ _ ?_ (fun hHeld3 => ?_)
      · exact DB.cells hNew
      clear hK K hHeld2
      (try simp only [Act.put, List.setIfInBounds_toArray, List.set_cons_zero, List.set_cons_succ])
      refine wpAnyH_take (i := 17) (oi := ⟨some 148, _, _, _, _, _⟩) (v := ?_) rfl (by kernel_rfl) (by kernel_rfl) (by kernel_rfl) (fun _ _ _ h => h) (Or.inl ⟨rfl, ?_⟩) (by assumption) ?_
      rotate_left
      · (intro w hSw; (try dsimp only at hSw); go_simp; (try with_reducible rfl))
      (try simp only [Act.put, List.setIfInBounds_toArray, List.set_cons_zero, List.set_cons_succ])
      refine wpAnyH_take (i := 18) (oi := ⟨some 6, _, _, _, _, _⟩) (v := ?_) rfl (by kernel_rfl) (by kernel_rfl) (by kernel_rfl) (fun _ _ _ h => h) (Or.inl ⟨rfl, ?_⟩) (by assumption) ?_
      rotate_left
      · (intro w hSw; (try dsimp only at hSw); go_simp; (try with_reducible rfl))
      (try simp only [Act.put, List.setIfInBounds_toArray, List.set_cons_zero, List.set_cons_succ])
      refine wpAnyH_done (by kernel_rfl) ?_ _
      have HQ := DB.limb hHeld3
      clear hHeld3
      go_wp2_with fail
      go_ret
      exact ⟨rfl, HQ.out.2.1⟩
  · clear HOrd
    have d0 := (DB.cells HD).1
    have d1 := (DB.cells HD).2.1
    go_wp2_with fail
    refine (HLI.out _ (DB.good HD)).mono ?_
    rintro e w6 ⟨rfl, hb⟩
    replace HD := DB.call HD hb
    clear hb d0 d1
    have d0 := (DB.cells HD).1
    have d1 := (DB.cells HD).2.1
    rcases HG.out with ⟨hg0, hext⟩ | ⟨g', hg0, hx, hg', hext⟩
    · go_wp2_with fail
      refine (HPR.out _).mono ?_
      rintro e w7 ⟨rfl, rfl⟩
      clear d0 d1 hg0
      go_upto_region 18 with fail
      refine wp_region_held_drew (S := fun W => W.cell? ⟨g1, 0, none⟩ = some (.int .i64 (1 + (K : Int))) ∧ W.cell? ⟨g1, 1, none⟩ = some (.int .i64 C1) ∧ W.cell? ⟨g2, 0, none⟩ = some (.int .i64 R2) ∧ W.cell? ⟨g2, 1, none⟩ = some (.int .i64 C2) ∧ Hid (DB w g1 g2 (1 + (K : Int)) C1 R2 C2 W)) (by kernel_rfl) ?_ (fun hHeld0 => ?_)
      · exact DB.cells (DB.drew HD)
      refine wpAnyH_take (i := 0) (oi := ⟨some 131, _, _, _, _, _⟩) (v := ?_) rfl (by kernel_rfl) (by kernel_rfl) (by kernel_rfl) (fun _ _ _ h => h) (Or.inl ⟨rfl, ?_⟩) (by assumption) ?_
      rotate_left
      · (intro w hSw; (try dsimp only at hSw); go_simp; (try with_reducible rfl))
      (try simp only [Act.put, List.setIfInBounds_toArray, List.set_cons_zero, List.set_cons_succ])
      refine wpAnyH_take (i := 1) (oi := ⟨some 132, _, _, _, _, _⟩) (v := ?_) rfl (by kernel_rfl) (by kernel_rfl) (by kernel_rfl) (fun _ _ _ h => h) (Or.inl ⟨rfl, ?_⟩) (by assumption) ?_
      rotate_left
      · (intro w hSw; (try dsimp only at hSw); go_simp; (try with_reducible rfl))
      (try simp only [Act.put, List.setIfInBounds_toArray, List.set_cons_zero, List.set_cons_succ])
      refine wpAnyH_take (i := 3) (oi := ⟨some 134, _, _, _, _, _⟩) (v := ?_) rfl (by kernel_rfl) (by kernel_rfl) (by kernel_rfl) (fun _ _ _ h => h) (Or.inl ⟨rfl, ?_⟩) (by assumption) ?_
      rotate_left
      · (intro w hSw; (try dsimp only at hSw); go_simp; (try with_reducible rfl))
      (try simp only [Act.put, List.setIfInBounds_toArray, List.set_cons_zero, List.set_cons_succ])
      refine wpAnyH_ready (rs := [2]) (by kernel_rfl) (by simp) ?_
      refine AllReadyH.cons (o := ⟨some 133, _, _, _, _, _⟩) rfl (fun K hK => ?_) AllReadyH.nil
      have hCur := DB.limb hHeld0
      go_simp
      refine (HCMP.out _).mono ?_
      rintro e w' ⟨rfl, hb⟩
      have hNew := DB.call hCur hb
      clear hb hCur
      go_wp2_with fail
      refine hK.out _ _ ?_ (fun hHeld1 => ?_)
      · exact DB.cells hNew
      clear hK K hHeld0
      (try simp only [Act.put, List.setIfInBounds_toArray, List.set_cons_zero, List.set_cons_succ])
      refine wpAnyH_take (i := 4) (oi := ⟨some 135, _, _, _, _, _⟩) (v := ?_) rfl (by kernel_rfl) (by kernel_rfl) (by kernel_rfl) (fun _ _ _ h => h) (Or.inl ⟨rfl, ?_⟩) (by assumption) ?_
      rotate_left
      · (intro w hSw; (try dsimp only at hSw); go_simp; (try with_reducible rfl))
      (try simp only [Act.put, List.setIfInBounds_toArray, List.set_cons_zero, List.set_cons_succ])
      refine wpAnyH_take (i := 5) (oi := ⟨some 136, _, _, _, _, _⟩) (v := ?_) rfl (by kernel_rfl) (by kernel_rfl) (by kernel_rfl) (fun _ _ _ h => h) (Or.inl ⟨rfl, ?_⟩) (by assumption) ?_
      rotate_left
      · (intro w hSw; (try dsimp only at hSw); go_simp; (try with_reducible rfl))
      (try simp only [Act.put, List.setIfInBounds_toArray, List.set_cons_zero, List.set_cons_succ])
      refine wpAnyH_take (i := 6) (oi := ⟨some 137, _, _, _, _, _⟩) (v := ?_) rfl (by kernel_rfl) (by kernel_rfl) (by kernel_rfl) (fun _ _ _ h => h) (Or.inl ⟨rfl, ?_⟩) (by assumption) ?_
      rotate_left
      · (intro w hSw; (try dsimp only at hSw); go_simp; (try with_reducible rfl))
      (try simp only [Act.put, List.setIfInBounds_toArray, List.set_cons_zero, List.set_cons_succ])
      refine wpAnyH_take (i := 7) (oi := ⟨some 138, _, _, _, _, _⟩) (v := ?_) rfl (by kernel_rfl) (by kernel_rfl) (by kernel_rfl) (fun _ _ _ h => h) (Or.inl ⟨rfl, ?_⟩) (by assumption) ?_
      rotate_left
      · (intro w hSw; (try dsimp only at hSw); go_simp; (try with_reducible rfl))
      (try simp only [Act.put, List.setIfInBounds_toArray, List.set_cons_zero, List.set_cons_succ])
      refine wpAnyH_take (i := 8) (oi := ⟨some 139, _, _, _, _, _⟩) (v := ?_) rfl (by kernel_rfl) (by kernel_rfl) (by kernel_rfl) (fun _ _ _ h => h) (Or.inl ⟨rfl, ?_⟩) (by assumption) ?_
      rotate_left
      · (intro w hSw; (try dsimp only at hSw); go_simp; (try with_reducible rfl))
      (try simp only [Act.put, List.setIfInBounds_toArray, List.set_cons_zero, List.set_cons_succ])
      refine wpAnyH_take (i := 9) (oi := ⟨some 140, _, _, _, _, _⟩) (v := ?_) rfl (by kernel_rfl) (by kernel_rfl) (by kernel_rfl) (fun _ _ _ h => h) (Or.inl ⟨rfl, ?_⟩) (by assumption) ?_
      rotate_left
      · (intro w hSw; (try dsimp only at hSw); go_simp; (try with_reducible rfl))
      (try simp only [Act.put, List.setIfInBounds_toArray, List.set_cons_zero, List.set_cons_succ])
      refine wpAnyH_take (i := 10) (oi := ⟨some 141, _, _, _, _, _⟩) (v := ?_) rfl (by kernel_rfl) (by kernel_rfl) (by kernel_rfl) (fun _ _ _ h => h) (Or.inl ⟨rfl, ?_⟩) (by assumption) ?_
      rotate_left
      · (intro w hSw; (try dsimp only at hSw); go_simp; (try with_reducible rfl))
      (try simp only [Act.put, List.setIfInBounds_toArray, List.set_cons_zero, List.set_cons_succ])
      refine wpAnyH_ready (rs := [11]) (by kernel_rfl) (by simp) ?_
      refine AllReadyH.cons (o := ⟨some 142, _, _, _, _, _⟩) rfl (fun K hK => ?_) AllReadyH.nil
      have hCur := DB.limb hHeld1
      go_simp
      refine (HCNT.out _).mono ?_
      rintro e w' ⟨rfl, hb⟩
      have hNew := DB.call hCur hb
      clear hb hCur
      go_wp2_with fail
      refine hK.out _ _ ?_ (fun hHeld2 => ?_)
      · exact DB.cells hNew
      clear hK K hHeld1
      (try simp only [Act.put, List.setIfInBounds_toArray, List.set_cons_zero, List.set_cons_succ])
      refine wpAnyH_take (i := 12) (oi := ⟨some 143, _, _, _, _, _⟩) (v := ?_) rfl (by kernel_rfl) (by kernel_rfl) (by kernel_rfl) (fun _ _ _ h => h) (Or.inl ⟨rfl, ?_⟩) (by assumption) ?_
      rotate_left
      · (intro w hSw; (try dsimp only at hSw); go_simp; (try with_reducible rfl))
      (try simp only [Act.put, List.setIfInBounds_toArray, List.set_cons_zero, List.set_cons_succ])
      refine wpAnyH_take (i := 13) (oi := ⟨some 144, _, _, _, _, _⟩) (v := ?_) rfl (by kernel_rfl) (by kernel_rfl) (by kernel_rfl) (fun _ _ _ h => h) (Or.inl ⟨rfl, ?_⟩) (by assumption) ?_
      rotate_left
      · (intro w hSw; (try dsimp only at hSw); go_simp; (try with_reducible rfl))
      (try simp only [Act.put, List.setIfInBounds_toArray, List.set_cons_zero, List.set_cons_succ])
      refine wpAnyH_take (i := 14) (oi := ⟨some 145, _, _, _, _, _⟩) (v := ?_) rfl (by kernel_rfl) (by kernel_rfl) (by kernel_rfl) (fun _ _ _ h => h) (Or.inl ⟨rfl, ?_⟩) (by assumption) ?_
      rotate_left
      · (intro w hSw; (try dsimp only at hSw); go_simp; (try with_reducible rfl))
      (try simp only [Act.put, List.setIfInBounds_toArray, List.set_cons_zero, List.set_cons_succ])
      refine wpAnyH_take (i := 15) (oi := ⟨some 146, _, _, _, _, _⟩) (v := ?_) rfl (by kernel_rfl) (by kernel_rfl) (by kernel_rfl) (fun _ _ _ h => h) (Or.inl ⟨rfl, ?_⟩) (by assumption) ?_
      rotate_left
      · (intro w hSw; (try dsimp only at hSw); go_simp; (try with_reducible rfl))
      (try simp only [Act.put, List.setIfInBounds_toArray, List.set_cons_zero, List.set_cons_succ])
      refine wpAnyH_ready (rs := [16]) (by kernel_rfl) (by simp) ?_
      refine AllReadyH.cons (o := ⟨some 147, _, _, _, _, _⟩) rfl (fun K hK => ?_) AllReadyH.nil
      have hCur := DB.limb hHeld2
      go_simp
      refine (works_any _ (DB.good hCur)).mono ?_
      rintro e w' ⟨rfl, hb⟩
      have hNew := DB.call hCur hb
      clear hb hCur
      go_wp2_with fail
      refine hK.out _ _ ?_ (fun hHeld3 => ?_)
      · exact DB.cells hNew
      clear hK K hHeld2
      (try simp only [Act.put, List.setIfInBounds_toArray, List.set_cons_zero, List.set_cons_succ])
      refine wpAnyH_take (i := 17) (oi := ⟨some 148, _, _, _, _, _⟩) (v := ?_) rfl (by kernel_rfl) (by kernel_rfl) (by kernel_rfl) (fun _ _ _ h => h) (Or.inl ⟨rfl, ?_⟩) (by assumption) ?_
      rotate_left
      · (intro w hSw; (try dsimp only at hSw); go_simp; (try with_reducible rfl))
      (try simp only [Act.put, List.setIfInBounds_toArray, List.set_cons_zero, List.set_cons_succ])
      refine wpAnyH_take (i := 18) (oi := ⟨some 6, _, _, _, _, _⟩) (v := ?_) rfl (by kernel_rfl) (by kernel_rfl) (by kernel_rfl) (fun _ _ _ h => h) (Or.inl ⟨rfl, ?_⟩) (by assumption) ?_
      rotate_left
      · (intro w hSw; (try dsimp only at hSw); go_simp; (try with_reducible rfl))
      (try simp only [Act.put, List.setIfInBounds_toArray, List.set_cons_zero, List.set_cons_succ])
      refine wpAnyH_done (by kernel_rfl) ?_ _
      have HQ := DB.limb hHeld3
      clear hHeld3
      go_wp2_with fail
      go_ret
      exact ⟨rfl, HQ.out.2.1⟩
    · go_wp2_with fail
      refine (HPR.out _).mono ?_
      rintro e w7 ⟨rfl, rfl⟩
      clear d0 d1 hg0 hx
      go_upto_region 18 with fail
      refine wp_region_held_drew (S := fun W => W.cell? ⟨g1, 0, none⟩ = some (.int .i64 (1 + (K : Int))) ∧ W.cell? ⟨g1, 1, none⟩ = some (.int .i64 C1) ∧ W.cell? ⟨g2, 0, none⟩ = some (.int .i64 R2) ∧ W.cell? ⟨g2, 1, none⟩ = some (.int .i64 C2) ∧ Hid (DB w g1 g2 (1 + (K : Int)) C1 R2 C2 W)) (by kernel_rfl) ?_ (fun hHeld0 => ?_)
      · exact DB.cells (DB.drew HD)
      refine wpAnyH_take (i := 0) (oi := ⟨some 131, _, _, _, _, _⟩) (v := ?_) rfl (by kernel_rfl) (by kernel_rfl) (by kernel_rfl) (fun _ _ _ h => h) (Or.inl ⟨rfl, ?_⟩) (by assumption) ?_
      rotate_left
      · (intro w hSw; (try dsimp only at hSw); go_simp; (try with_reducible rfl))
      (try simp only [Act.put, List.setIfInBounds_toArray, List.set_cons_zero, List.set_cons_succ])
      refine wpAnyH_take (i := 1) (oi := ⟨some 132, _, _, _, _, _⟩) (v := ?_) rfl (by kernel_rfl) (by kernel_rfl) (by kernel_rfl) (fun _ _ _ h => h) (Or.inl ⟨rfl, ?_⟩) (by assumption) ?_
      rotate_left
      · (intro w hSw; (try dsimp only at hSw); go_simp; (try with_reducible rfl))
      (try simp only [Act.put, List.setIfInBounds_toArray, List.set_cons_zero, List.set_cons_succ])
      refine wpAnyH_take (i := 3) (oi := ⟨some 134, _, _, _, _, _⟩) (v := ?_) rfl (by kernel_rfl) (by kernel_rfl) (by kernel_rfl) (fun _ _ _ h => h) (Or.inl ⟨rfl, ?_⟩) (by assumption) ?_
      rotate_left
      · (intro w hSw; (try dsimp only at hSw); go_simp; (try with_reducible rfl))
      (try simp only [Act.put, List.setIfInBounds_toArray, List.set_cons_zero, List.set_cons_succ])
      refine wpAnyH_ready (rs := [2]) (by kernel_rfl) (by simp) ?_
      refine AllReadyH.cons (o := ⟨some 133, _, _, _, _, _⟩) rfl (fun K hK => ?_) AllReadyH.nil
      have hCur := DB.limb hHeld0
      go_simp
      refine (HCMP.out _).mono ?_
      rintro e w' ⟨rfl, hb⟩
      have hNew := DB.call hCur hb
      clear hb hCur
      go_wp2_with fail
      refine hK.out _ _ ?_ (fun hHeld1 => ?_)
      · exact DB.cells hNew
      clear hK K hHeld0
      (try simp only [Act.put, List.setIfInBounds_toArray, List.set_cons_zero, List.set_cons_succ])
      refine wpAnyH_take (i := 4) (oi := ⟨some 135, _, _, _, _, _⟩) (v := ?_) rfl (by kernel_rfl) (by kernel_rfl) (by kernel_rfl) (fun _ _ _ h => h) (Or.inl ⟨rfl, ?_⟩) (by assumption) ?_
      rotate_left
      · (intro w hSw; (try dsimp only at hSw); go_simp; (try with_reducible rfl))
      (try simp only [Act.put, List.setIfInBounds_toArray, List.set_cons_zero, List.set_cons_succ])
      refine wpAnyH_take (i := 5) (oi := ⟨some 136, _, _, _, _, _⟩) (v := ?_) rfl (by kernel_rfl) (by kernel_rfl) (by kernel_rfl) (fun _ _ _ h => h) (Or.inl ⟨rfl, ?_⟩) (by assumption) ?_
      rotate_left
      · (intro w hSw; (try dsimp only at hSw); go_simp; (try with_reducible rfl))
      (try simp only [Act.put, List.setIfInBounds_toArray, List.set_cons_zero, List.set_cons_succ])
      refine wpAnyH_take (i := 6) (oi := ⟨some 137, _, _, _, _, _⟩) (v := ?_) rfl (by kernel_rfl) (by kernel_rfl) (by kernel_rfl) (fun _ _ _ h => h) (Or.inl ⟨rfl, ?_⟩) (by assumption) ?_
      rotate_left
      · (intro w hSw; (try dsimp only at hSw); go_simp; (try with_reducible rfl))
      (try simp only [Act.put, List.setIfInBounds_toArray, List.set_cons_zero, List.set_cons_succ])
      refine wpAnyH_take (i := 7) (oi := ⟨some 138, _, _, _, _, _⟩) (v := ?_) rfl (by kernel_rfl) (by kernel_rfl) (by kernel_rfl) (fun _ _ _ h => h) (Or.inl ⟨rfl, ?_⟩) (by assumption) ?_
      rotate_left
      · (intro w hSw; (try dsimp only at hSw); go_simp; (try with_reducible rfl))
      (try simp only [Act.put, List.setIfInBounds_toArray, List.set_cons_zero, List.set_cons_succ])
      refine wpAnyH_take (i := 8) (oi := ⟨some 139, _, _, _, _, _⟩) (v := ?_) rfl (by kernel_rfl) (by kernel_rfl) (by kernel_rfl) (fun _ _ _ h => h) (Or.inl ⟨rfl, ?_⟩) (by assumption) ?_
      rotate_left
      · (intro w hSw; (try dsimp only at hSw); go_simp; (try with_reducible rfl))
      (try simp only [Act.put, List.setIfInBounds_toArray, List.set_cons_zero, List.set_cons_succ])
      refine wpAnyH_take (i := 9) (oi := ⟨some 140, _, _, _, _, _⟩) (v := ?_) rfl (by kernel_rfl) (by kernel_rfl) (by kernel_rfl) (fun _ _ _ h => h) (Or.inl ⟨rfl, ?_⟩) (by assumption) ?_
      rotate_left
      · (intro w hSw; (try dsimp only at hSw); go_simp; (try with_reducible rfl))
      (try simp only [Act.put, List.setIfInBounds_toArray, List.set_cons_zero, List.set_cons_succ])
      refine wpAnyH_take (i := 10) (oi := ⟨some 141, _, _, _, _, _⟩) (v := ?_) rfl (by kernel_rfl) (by kernel_rfl) (by kernel_rfl) (fun _ _ _ h => h) (Or.inl ⟨rfl, ?_⟩) (by assumption) ?_
      rotate_left
      · (intro w hSw; (try dsimp only at hSw); go_simp; (try with_reducible rfl))
      (try simp only [Act.put, List.setIfInBounds_toArray, List.set_cons_zero, List.set_cons_succ])
      refine wpAnyH_ready (rs := [11]) (by kernel_rfl) (by simp) ?_
      refine AllReadyH.cons (o := ⟨some 142, _, _, _, _, _⟩) rfl (fun K hK => ?_) AllReadyH.nil
      have hCur := DB.limb hHeld1
      go_simp
      refine (HCNT.out _).mono ?_
      rintro e w' ⟨rfl, hb⟩
      have hNew := DB.call hCur hb
      clear hb hCur
      go_wp2_with fail
      refine hK.out _ _ ?_ (fun hHeld2 => ?_)
      · exact DB.cells hNew
      clear hK K hHeld1
      (try simp only [Act.put, List.setIfInBounds_toArray, List.set_cons_zero, List.set_cons_succ])
      refine wpAnyH_take (i := 12) (oi := ⟨some 143, _, _, _, _, _⟩) (v := ?_) rfl (by kernel_rfl) (by kernel_rfl) (by kernel_rfl) (fun _ _ _ h => h) (Or.inl ⟨rfl, ?_⟩) (by assumption) ?_
      rotate_left
      · (intro w hSw; (try dsimp only at hSw); go_simp; (try with_reducible rfl))
      (try simp only [Act.put, List.setIfInBounds_toArray, List.set_cons_zero, List.set_cons_succ])
      refine wpAnyH_take (i := 13) (oi := ⟨some 144, _, _, _, _, _⟩) (v := ?_) rfl (by kernel_rfl) (by kernel_rfl) (by kernel_rfl) (fun _ _ _ h => h) (Or.inl ⟨rfl, ?_⟩) (by assumption) ?_
      rotate_left
      · (intro w hSw; (try dsimp only at hSw); go_simp; (try with_reducible rfl))
      (try simp only [Act.put, List.setIfInBounds_toArray, List.set_cons_zero, List.set_cons_succ])
      refine wpAnyH_take (i := 14) (oi := ⟨some 145, _, _, _, _, _⟩) (v := ?_) rfl (by kernel_rfl) (by kernel_rfl) (by kernel_rfl) (fun _ _ _ h => h) (Or.inl ⟨rfl, ?_⟩) (by assumption) ?_
      rotate_left
      · (intro w hSw; (try dsimp only at hSw); go_simp; (try with_reducible rfl))
      (try simp only [Act.put, List.setIfInBounds_toArray, List.set_cons_zero, List.set_cons_succ])
      refine wpAnyH_take (i := 15) (oi := ⟨some 146, _, _, _, _, _⟩) (v := ?_) rfl (by kernel_rfl) (by kernel_rfl) (by kernel_rfl) (fun _ _ _ h => h) (Or.inl ⟨rfl, ?_⟩) (by assumption) ?_
      rotate_left
      · (intro w hSw; (try dsimp only at hSw); go_simp; (try with_reducible rfl))
      (try simp only [Act.put, List.setIfInBounds_toArray, List.set_cons_zero, List.set_cons_succ])
      refine wpAnyH_ready (rs := [16]) (by kernel_rfl) (by simp) ?_
      refine AllReadyH.cons (o := ⟨some 147, _, _, _, _, _⟩) rfl (fun K hK => ?_) AllReadyH.nil
      have hCur := DB.limb hHeld2
      go_simp
      refine (works_any _ (DB.good hCur)).mono ?_
      rintro e w' ⟨rfl, hb⟩
      have hNew := DB.call hCur hb
      clear hb hCur
      go_wp2_with fail
      refine hK.out _ _ ?_ (fun hHeld3 => ?_)
      · exact DB.cells hNew
      clear hK K hHeld2
      (try simp only [Act.put, List.setIfInBounds_toArray, List.set_cons_zero, List.set_cons_succ])
      refine wpAnyH_take (i := 17) (oi := ⟨some 148, _, _, _, _, _⟩) (v := ?_) rfl (by kernel_rfl) (by kernel_rfl) (by kernel_rfl) (fun _ _ _ h => h) (Or.inl ⟨rfl, ?_⟩) (by assumption) ?_
      rotate_left
      · (intro w hSw; (try dsimp only at hSw); go_simp; (try with_reducible rfl))
      (try simp only [Act.put, List.setIfInBounds_toArray, List.set_cons_zero, List.set_cons_succ])
      refine wpAnyH_take (i := 18) (oi := ⟨some 6, _, _, _, _, _⟩) (v := ?_) rfl (by kernel_rfl) (by kernel_rfl) (by kernel_rfl) (fun _ _ _ h => h) (Or.inl ⟨rfl, ?_⟩) (by assumption) ?_
      rotate_left
      · (intro w hSw; (try dsimp only at hSw); go_simp; (try with_reducible rfl))
      (try simp only [Act.put, List.setIfInBounds_toArray, List.set_cons_zero, List.set_cons_succ])
      refine wpAnyH_done (by kernel_rfl) ?_ _
      have HQ := DB.limb hHeld3
      clear hHeld3
      go_wp2_with fail
      go_ret
      exact ⟨rfl, HQ.out.2.1⟩

theorem place_lt {s : List UInt8} {a b : Nat} (h : a < b) (hb : b ≤ s.length) : Pl.row (s.take a) < Pl.row (s.take b) ∨ (Pl.row (s.take b) = Pl.row (s.take a) ∧ Pl.col (s.take a) < Pl.col (s.take b)) := by
  have e : s.take b = s.take a ++ (s.take b).drop a := by
    have := (List.take_append_drop a (s.take b)).symm
    rwa [List.take_take, Nat.min_eq_left (Nat.le_of_lt h)] at this
  have hne : (s.take b).drop a ≠ [] := fun e => by
    have := congrArg List.length e
    rw [List.length_drop, List.length_take, List.length_nil] at this
    omega
  have h1 := Pl.adv_on ((s.take b).drop a) (Pl.row (s.take a)) (Pl.col (s.take a)) hne
  have e1 : Pl.row (s.take b) = Pl.advR (Pl.row (s.take a)) ((s.take b).drop a) := by
    conv => lhs; rw [e]
    unfold Pl.row Pl.advR
    rw [List.count_append]; omega
  have e2 : Pl.col (s.take b) = Pl.advC (Pl.col (s.take a)) ((s.take b).drop a) := by
    conv => lhs; rw [e]
    unfold Pl.col
    rw [Pl.advC_append]
  rw [e1, e2]
  exact h1
theorem tmod_nat (m k : Nat) (h : m ≤ 65535) : (wrap64 (m : Int)).tmod ((k : Int) + 1) = ((m % (k + 1) : Nat) : Int) := by
  rw [Num.wrap_id (by omega) (by omega), Int.tmod_eq_emod_of_nonneg (by omega)]
  rw [show (k : Int) + 1 = ((k + 1 : Nat) : Int) by omega]
  exact (Int.natCast_emod m (k + 1)).symm
theorem of_take (s : List UInt8) (hs : s.length ≤ 1000) (a : Nat) (ha : a ≤ s.length) (w : World) :
    Calls Tryd.prog 12 #[.string ⟨s.toArray⟩, .int .i64 (a : Int)] w fun e w' => e = .returned (.tuple #[.agg #[.int .i64 (1 + ((s.take a).count 10 : Nat)), .int .i64 (Pl.col (s.take a) : Nat)], .int .i64 0]) ∧ Below w.heap.size w w' := by
  have := of_any s (by omega) (a : Int) (by omega) (by omega) w
  unfold ofL ofC ofE at this
  rw [if_pos (by omega), if_pos (by omega), if_pos (by omega), Int.toNat_natCast] at this
  have e : ((Pl.row (s.take a) : Nat) : Int) = 1 + ((s.take a).count 10 : Nat) := by unfold Pl.row Pl.advR; omega
  rw [e] at this
  exact this
set_option maxRecDepth 100000 in
theorem placeBack_walk (s : ByteArray) (_ : s.size ≤ maxLen) (m : Int) (m0 : 0 ≤ m) (m1 : m ≤ 65535) (n : Int) (n0 : 0 ≤ n) (n1 : n ≤ 65535) (w : World) (hG : Good w) :
    Calls Tryd.prog 8 #[.string s, .int .u16 m, .int .u16 n] w fun e w' => e = .returned (.bool true) ∧ Below w.heap.size w w' := by
  obtain ⟨s, rfl⟩ : ∃ t : List UInt8, s = ⟨t.toArray⟩ := ⟨s.data.toList, rfl⟩
  by_cases hs : 200 < s.length
  · have HI : Hid (FInv w w) := Lib.hid ⟨hG, Below.refl _ _⟩
    have k1 : (200 : Int) < (s.length : Int) := by omega
    clear hG
    go_enter Tryd.func8, Tryd.ntmps8
    go_wp2_with fail
    refine (works_any _ (FInv.good HI)).mono ?_
    rintro e w2 ⟨rfl, b⟩
    replace HI := FInv.call HI b
    clear b
    go_wp2_with fail
    go_ret
    exact ⟨rfl, HI.out.2⟩
  obtain ⟨m, rfl⟩ : ∃ k : Nat, m = (k : Int) := ⟨m.toNat, by omega⟩
  obtain ⟨n, rfl⟩ : ∃ k : Nat, n = (k : Int) := ⟨n.toNat, by omega⟩
  have ha : m % (s.length + 1) ≤ s.length := Nat.le_of_lt_succ (Nat.mod_lt _ (by omega))
  have hb : n % (s.length + 1) ≤ s.length := Nat.le_of_lt_succ (Nat.mod_lt _ (by omega))
  have hma := tmod_nat m s.length (by omega)
  have hnb := tmod_nat n s.length (by omega)
  generalize m % (s.length + 1) = a at *
  generalize n % (s.length + 1) = b at *
  obtain ⟨g, q, hg, hf, hl, hq, hp⟩ := Pl.line_of s a ha
  have hcp := Pl.col_pos (s.take a)
  have hcl := Pl.col_le (s.take a)
  have hla : (s.take a).length = a := by rw [List.length_take]; omega
  have hcnt : (s.take a).count 10 ≤ (s.take a).length := List.count_le_length
  have hrow : ((Pl.row (s.take a) : Nat) : Int) = 1 + ((s.take a).count 10 : Nat) := by unfold Pl.row Pl.advR; omega
  refine back_main s m n a b ((s.take a).count 10) (Pl.col (s.take a) : Nat) (1 + ((s.take b).count 10 : Nat)) (Pl.col (s.take b) : Nat) _ q (s.take a) (s.drop g) w hG (by omega) ha hb hma hnb (by omega) (by omega) (by rw [mk_extract, List.drop_zero, Nat.sub_zero]) (by omega) (by omega)
    (Lib.hid ?_) (Lib.hid fun W => of_take s (by omega) a ha W) (Lib.hid fun W => of_take s (by omega) b hb W) (Lib.hid fun W hG => ?_) (Lib.hid fun W hG => ?_) (Lib.hid fun W => ?_) (Lib.hid fun W => compare_any _ _ _ _ W) (Lib.hid fun W => ?_) ?_
  · have hext : ∀ k, (⟨s.toArray⟩ : ByteArray).extract k s.length = ⟨(s.drop k).toArray⟩ := fun k => by rw [mk_extract, List.take_of_length_le (by rw [List.length_drop]; omega)]
    cases g with
    | zero => exact .inl ⟨by omega, hext 0⟩
    | succ g' =>
      rcases hf with hf | hf
      · cases hf
      · rw [Nat.add_sub_cancel] at hf
        exact .inr ⟨g', by omega, fun h => (List.getElem?_eq_some_iff.1 hf).2, by omega, hext _⟩
  · have := offset_any s (by omega) (1 + ((s.take a).count 10 : Nat)) (Pl.col (s.take a) : Nat) W hG
    have e := Pl.off_take s a ha
    rw [hrow] at e
    unfold ofsV ofsE at this
    rw [e] at this
    exact this
  · have := line_any s (by omega) (1 + ((s.take a).count 10 : Nat)) W hG
    rw [hrow] at hl
    unfold liS liE at this
    rw [hl] at this
    exact this
  · refine (Tryd.strings_HasPrefix _ _ W).mono ?_
    rintro e w' ⟨rfl, rfl⟩
    refine ⟨?_, rfl⟩
    have : Lib.hasPrefix (⟨(s.drop g).toArray⟩ : ByteArray).data.toList (⟨q.toArray⟩ : ByteArray).data.toList = true := List.isPrefixOf_iff_prefix.2 hp
    rw [this]
  · refine (Tryd.strings_Count_one ⟨(s.take a).toArray⟩ 10 W).mono ?_
    rintro e w' ⟨rfl, rfl⟩
    rw [count_list]
    exact ⟨rfl, Below.refl _ _⟩
  · have hrb : ((Pl.row (s.take b) : Nat) : Int) = 1 + ((s.take b).count 10 : Nat) := by unfold Pl.row Pl.advR; omega
    have hc := cmp_is (1 + ((s.take a).count 10 : Nat)) (Pl.col (s.take a) : Nat) (1 + ((s.take b).count 10 : Nat)) (Pl.col (s.take b) : Nat)
    rcases Nat.lt_trichotomy a b with h | h | h
    · have := place_lt h hb
      exact .inl ⟨h, by omega⟩
    · subst h
      exact .inr (.inr ⟨rfl, by omega⟩)
    · have := place_lt h ha
      exact .inr (.inl ⟨h, by omega⟩)
end Go.Proofs.YtmoeglecdojhcaaDoor

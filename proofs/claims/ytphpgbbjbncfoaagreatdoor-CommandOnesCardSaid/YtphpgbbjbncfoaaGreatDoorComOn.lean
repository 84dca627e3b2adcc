/-
  LAYER 42: one command: the statement's walk.
-/
import Derived.Test.YtphpgbbjbncfoaaGreatDoorCom16
import Derived.Test.YtphpgbbjbncfoaaGreatDoorComW1
import Derived.Test.YtphpgbbjbncfoaaGreatDoorRef8
namespace Go.Proofs.YtphpgbbjbncfoaaGreatDoor
open Go.ChangeShapes Go.WideShapes Go.ChangeAt Go.RowKit

/-- The argument's block, in a good world. -/
def OB (w : World) (x0 x1 x2 x3 : Value) (W : World) : Prop := Good W ∧ CBk w x0 x1 x2 x3 W
section
variable {w W W' : World} {x0 x1 x2 x3 : Value}
theorem OB.new (hG : Good w) : Hid (OB w x0 x1 x2 x3 (w.alloc (.cells #[x0, x1, x2, x3] 24))) := Lib.hid ⟨hG.alloc _, CBk.new.out⟩
theorem OB.call (h : Hid (OB w x0 x1 x2 x3 W)) (hb : Below W.heap.size W W') : Hid (OB w x0 x1 x2 x3 W') := Lib.hid ⟨h.out.1.call hb, (CBk.call (Lib.hid h.out.2) hb).out⟩
theorem OB.drew (h : Hid (OB w x0 x1 x2 x3 W)) : Hid (OB w x0 x1 x2 x3 W.drew) := Lib.hid ⟨h.out.1.drew, (CBk.drew (Lib.hid h.out.2)).out⟩
theorem OB.good (h : Hid (OB w x0 x1 x2 x3 W)) : Good W := h.out.1
theorem OB.cells (h : Hid (OB w x0 x1 x2 x3 W)) : W.cell? ⟨w.heap.size, 0, none⟩ = some x0 ∧ W.cell? ⟨w.heap.size, 1, none⟩ = some x1 ∧ W.cell? ⟨w.heap.size, 2, none⟩ = some x2 ∧ W.cell? ⟨w.heap.size, 3, none⟩ = some x3 ∧ Hid (OB w x0 x1 x2 x3 W) := ⟨h.out.2.2.cell 0, h.out.2.2.cell 1, h.out.2.2.cell 2, h.out.2.2.cell 3, h⟩
end
set_option maxHeartbeats 4000000 in
set_option maxRecDepth 100000 in
theorem ones_main (q a : Int) (n v : List UInt8) (k : Int) (a0 : -9223372036854775808 ≤ a) (a1 : a ≤ 9223372036854775807) (hn : ¬ 1000 < n.length) (hv : (¬ 1000 < v.length ∨ ¬ v.length < 4900) ∧ ¬ 20010 < v.length) (w : World) (hG : Good w) :
    Calls Tryz.prog 9 #[.agg #[.int .i64 q, .int .i64 a, .string ⟨n.toArray⟩, .string ⟨v.toArray⟩], .int .i64 k] w fun e w' => e = .returned (.bool true) ∧ Below w.heap.size w w' := by
  have HO := OB.new (x0 := .int .i64 q) (x1 := .int .i64 a) (x2 := .string ⟨n.toArray⟩) (x3 := .string ⟨v.toArray⟩) hG
  have HP : Hid (∀ W, Good W → Calls Tryz.prog 15 #[cV ⟨q, a, n, v⟩] W fun e w' => e = .returned (.tuple #[.string ⟨(Cmd.printS ⟨q, a, n, v⟩).toArray⟩, .int .i64 (Cmd.printE ⟨q, a, n, v⟩)]) ∧ Below W.heap.size W w') := Lib.hid fun W hG => print_any ⟨q, a, n, v⟩ (by simp only; omega) (by simp only; omega) a1 W hG
  have HPr : Hid (∀ W, Calls Tryz.prog 29 #[cV ⟨q, a, n, v⟩] W fun e w' => e = .returned (.tuple #[.string ⟨(Cmd.printS ⟨q, a, n, v⟩).toArray⟩, .int .i64 (Cmd.printE ⟨q, a, n, v⟩)]) ∧ Below W.heap.size W w') := Lib.hid fun W => rprint_any ⟨q, a, n, v⟩ a0 a1 (by simp only; omega) (by simp only; omega) W
  have HC : Hid (∀ W, Good W → Calls Tryz.prog 16 #[cV ⟨q, a, n, v⟩] W fun e w' => e = .returned (.int .i64 (Cmd.printE ⟨q, a, n, v⟩)) ∧ Below W.heap.size W w') := Lib.hid fun W hG => check_any ⟨q, a, n, v⟩ (by simp only; omega) (by simp only; omega) a1 W hG
  have HCr : Hid (∀ W, Calls Tryz.prog 30 #[cV ⟨q, a, n, v⟩] W fun e w' => e = .returned (.int .i64 (Cmd.printE ⟨q, a, n, v⟩)) ∧ Below W.heap.size W w') := Lib.hid fun W => rcheck_any ⟨q, a, n, v⟩ a0 a1 (by simp only; omega) (by simp only; omega) W
  have HW : Hid (∀ W, Calls Tryz.prog 28 #[.int .i64 k] W fun e w' => e = .returned (.string ⟨(Cmd.word' k).toArray⟩) ∧ Below W.heap.size W w') := Lib.hid fun W => word_any k W
  have HWr : Hid (∀ W, Calls Tryz.prog 31 #[.int .i64 k] W fun e w' => e = .returned (.string ⟨(Cmd.word' k).toArray⟩) ∧ Below W.heap.size W w') := Lib.hid fun W => rword_any k W
  obtain ⟨X, hX⟩ : ∃ c, Cmd.printS ⟨q, a, n, v⟩ = c := ⟨_, rfl⟩
  obtain ⟨E, hE⟩ : ∃ c, Cmd.printE ⟨q, a, n, v⟩ = c := ⟨_, rfl⟩
  obtain ⟨WD, hWD⟩ : ∃ c, Cmd.word' k = c := ⟨_, rfl⟩
  rw [hX, hE] at HP HPr
  rw [hE] at HC HCr
  rw [hWD] at HW HWr
  unfold cV at HP HPr HC HCr
  simp only at HP HPr HC HCr
  clear hX hE hWD hG
  have k1 : ¬ (1000 : Int) < (n.length : Int) := by omega
  have k4 : ¬ (20010 : Int) < (v.length : Int) := by omega
  have kk : ((1000 : Int) < (v.length : Int) ∧ ¬ (v.length : Int) < 4900) ∨ ¬ (1000 : Int) < (v.length : Int) := by omega
  clear hn hv
  go_enter Tryz.func9, Tryz.ntmps9
  rcases kk with ⟨k2, k3⟩ | k2
  · go_wp2_with fail
    refine (HP.out _ (OB.good HO)).mono ?_
    rintro e w2 ⟨rfl, b⟩
    have HO := OB.call HO b
    clear b
    obtain ⟨c0, c1, c2, c3, _⟩ := OB.cells HO
    go_wp2_with fail
    clear c0 c1 c2 c3
    refine (HPr.out _).mono ?_
    rintro e w3 ⟨rfl, b⟩
    have HO := OB.call HO b
    clear b
    go_wp2_with fail
    refine wp_region_held_drew (S := fun W => W.cell? ⟨w.heap.size, 0, none⟩ = some (.int .i64 q) ∧ W.cell? ⟨w.heap.size, 1, none⟩ = some (.int .i64 a) ∧ W.cell? ⟨w.heap.size, 2, none⟩ = some (.string ⟨n.toArray⟩) ∧ W.cell? ⟨w.heap.size, 3, none⟩ = some (.string ⟨v.toArray⟩) ∧ Hid (OB w (.int .i64 q) (.int .i64 a) (.string ⟨n.toArray⟩) (.string ⟨v.toArray⟩) W)) (by kernel_rfl) ?_ (fun hHeld0 => ?_)
    · exact OB.cells (OB.drew HO)
    clear HO
    refine wpAnyH_take (i := 0) (oi := ⟨some 42, _, _, _, _, _⟩) (v := ?_) rfl (by kernel_rfl) (by kernel_rfl) (by kernel_rfl) (fun _ _ _ h => h) (Or.inl ⟨rfl, ?_⟩) (by assumption) ?_
    rotate_left
    · (intro w hSw; (try dsimp only at hSw); go_simp; (try with_reducible rfl))
    (try simp only [Act.put, List.setIfInBounds_toArray, List.set_cons_zero, List.set_cons_succ])
    refine wpAnyH_take (i := 2) (oi := ⟨some 44, _, _, _, _, _⟩) (v := ?_) rfl (by kernel_rfl) (by kernel_rfl) (by kernel_rfl) (fun _ _ _ h => h) (Or.inl ⟨rfl, ?_⟩) (by assumption) ?_
    rotate_left
    · (intro w hSw; (try dsimp only at hSw); go_simp; (try with_reducible rfl))
    (try simp only [Act.put, List.setIfInBounds_toArray, List.set_cons_zero, List.set_cons_succ])
    refine wpAnyH_ready (rs := [1]) (by kernel_rfl) (by simp) ?_
    refine AllReadyH.cons (o := ⟨some 43, _, _, _, _, _⟩) rfl (fun K hK => ?_) AllReadyH.nil
    have hCur := CBk.limb hHeld0
    go_simp
    refine (HC.out _ (OB.good hCur)).mono ?_
    rintro e w' ⟨rfl, hb⟩
    have hCall := OB.call hCur hb
    clear hb hCur
    go_wp2_with fail
    refine hK.out _ _ ?_ (fun hHeld1 => ?_)
    · exact OB.cells hCall
    clear hK K hCall hHeld0
    (try simp only [Act.put, List.setIfInBounds_toArray, List.set_cons_zero, List.set_cons_succ])
    refine wpAnyH_ready (rs := [3]) (by kernel_rfl) (by simp) ?_
    refine AllReadyH.cons (o := ⟨some 45, _, _, _, _, _⟩) rfl (fun K hK => ?_) AllReadyH.nil
    have hCur := CBk.limb hHeld1
    go_simp
    refine (HCr.out _).mono ?_
    rintro e w' ⟨rfl, hb⟩
    have hCall := OB.call hCur hb
    clear hb hCur
    go_wp2_with fail
    refine hK.out _ _ ?_ (fun hHeld2 => ?_)
    · exact OB.cells hCall
    clear hK K hCall hHeld1
    (try simp only [Act.put, List.setIfInBounds_toArray, List.set_cons_zero, List.set_cons_succ])
    refine wpAnyH_take (i := 4) (oi := ⟨some 46, _, _, _, _, _⟩) (v := ?_) rfl (by kernel_rfl) (by kernel_rfl) (by kernel_rfl) (fun _ _ _ h => h) (Or.inl ⟨rfl, ?_⟩) (by assumption) ?_
    rotate_left
    · (intro w hSw; (try dsimp only at hSw); go_simp; (try with_reducible rfl))
    (try simp only [Act.put, List.setIfInBounds_toArray, List.set_cons_zero, List.set_cons_succ])
    refine wpAnyH_take (i := 5) (oi := ⟨some 47, _, _, _, _, _⟩) (v := ?_) rfl (by kernel_rfl) (by kernel_rfl) (by kernel_rfl) (fun _ _ _ h => h) (Or.inl ⟨rfl, ?_⟩) (by assumption) ?_
    rotate_left
    · (intro w hSw; (try dsimp only at hSw); go_simp; (try with_reducible rfl))
    (try simp only [Act.put, List.setIfInBounds_toArray, List.set_cons_zero, List.set_cons_succ])
    refine wpAnyH_take (i := 6) (oi := ⟨some 48, _, _, _, _, _⟩) (v := ?_) rfl (by kernel_rfl) (by kernel_rfl) (by kernel_rfl) (fun _ _ _ h => h) (Or.inl ⟨rfl, ?_⟩) (by assumption) ?_
    rotate_left
    · (intro w hSw; (try dsimp only at hSw); go_simp; (try with_reducible rfl))
    (try simp only [Act.put, List.setIfInBounds_toArray, List.set_cons_zero, List.set_cons_succ])
    refine wpAnyH_take (i := 7) (oi := ⟨some 49, _, _, _, _, _⟩) (v := ?_) rfl (by kernel_rfl) (by kernel_rfl) (by kernel_rfl) (fun _ _ _ h => h) (Or.inl ⟨rfl, ?_⟩) (by assumption) ?_
    rotate_left
    · (intro w hSw; (try dsimp only at hSw); go_simp; (try with_reducible rfl))
    (try simp only [Act.put, List.setIfInBounds_toArray, List.set_cons_zero, List.set_cons_succ])
    refine wpAnyH_take (i := 8) (oi := ⟨some 50, _, _, _, _, _⟩) (v := ?_) rfl (by kernel_rfl) (by kernel_rfl) (by kernel_rfl) (fun _ _ _ h => h) (Or.inl ⟨rfl, ?_⟩) (by assumption) ?_
    rotate_left
    · (intro w hSw; (try dsimp only at hSw); go_simp; (try with_reducible rfl))
    (try simp only [Act.put, List.setIfInBounds_toArray, List.set_cons_zero, List.set_cons_succ])
    refine wpAnyH_take (i := 9) (oi := ⟨some 51, _, _, _, _, _⟩) (v := ?_) rfl (by kernel_rfl) (by kernel_rfl) (by kernel_rfl) (fun _ _ _ h => h) (Or.inl ⟨rfl, ?_⟩) (by assumption) ?_
    rotate_left
    · (intro w hSw; (try dsimp only at hSw); go_simp; (try with_reducible rfl))
    (try simp only [Act.put, List.setIfInBounds_toArray, List.set_cons_zero, List.set_cons_succ])
    refine wpAnyH_take (i := 10) (oi := ⟨some 52, _, _, _, _, _⟩) (v := ?_) rfl (by kernel_rfl) (by kernel_rfl) (by kernel_rfl) (fun _ _ _ h => h) (Or.inl ⟨rfl, ?_⟩) (by assumption) ?_
    rotate_left
    · (intro w hSw; (try dsimp only at hSw); go_simp; (try with_reducible rfl))
    (try simp only [Act.put, List.setIfInBounds_toArray, List.set_cons_zero, List.set_cons_succ])
    refine wpAnyH_take (i := 11) (oi := ⟨some 53, _, _, _, _, _⟩) (v := ?_) rfl (by kernel_rfl) (by kernel_rfl) (by kernel_rfl) (fun _ _ _ h => h) (Or.inl ⟨rfl, ?_⟩) (by assumption) ?_
    rotate_left
    · (intro w hSw; (try dsimp only at hSw); go_simp; (try with_reducible rfl))
    (try simp only [Act.put, List.setIfInBounds_toArray, List.set_cons_zero, List.set_cons_succ])
    refine wpAnyH_take (i := 12) (oi := ⟨some 54, _, _, _, _, _⟩) (v := ?_) rfl (by kernel_rfl) (by kernel_rfl) (by kernel_rfl) (fun _ _ _ h => h) (Or.inl ⟨rfl, ?_⟩) (by assumption) ?_
    rotate_left
    · (intro w hSw; (try dsimp only at hSw); go_simp; (try with_reducible rfl))
    (try simp only [Act.put, List.setIfInBounds_toArray, List.set_cons_zero, List.set_cons_succ])
    refine wpAnyH_take (i := 13) (oi := ⟨some 55, _, _, _, _, _⟩) (v := ?_) rfl (by kernel_rfl) (by kernel_rfl) (by kernel_rfl) (fun _ _ _ h => h) (Or.inl ⟨rfl, ?_⟩) (by assumption) ?_
    rotate_left
    · (intro w hSw; (try dsimp only at hSw); go_simp; (try with_reducible rfl))
    (try simp only [Act.put, List.setIfInBounds_toArray, List.set_cons_zero, List.set_cons_succ])
    refine wpAnyH_take (i := 14) (oi := ⟨some 56, _, _, _, _, _⟩) (v := ?_) rfl (by kernel_rfl) (by kernel_rfl) (by kernel_rfl) (fun _ _ _ h => h) (Or.inl ⟨rfl, ?_⟩) (by assumption) ?_
    rotate_left
    · (intro w hSw; (try dsimp only at hSw); go_simp; (try with_reducible rfl))
    (try simp only [Act.put, List.setIfInBounds_toArray, List.set_cons_zero, List.set_cons_succ])
    refine wpAnyH_take (i := 15) (oi := ⟨some 57, _, _, _, _, _⟩) (v := ?_) rfl (by kernel_rfl) (by kernel_rfl) (by kernel_rfl) (fun _ _ _ h => h) (Or.inl ⟨rfl, ?_⟩) (by assumption) ?_
    rotate_left
    · (intro w hSw; (try dsimp only at hSw); go_simp; (try with_reducible rfl))
    (try simp only [Act.put, List.setIfInBounds_toArray, List.set_cons_zero, List.set_cons_succ])
    refine wpAnyH_take (i := 16) (oi := ⟨some 58, _, _, _, _, _⟩) (v := ?_) rfl (by kernel_rfl) (by kernel_rfl) (by kernel_rfl) (fun _ _ _ h => h) (Or.inl ⟨rfl, ?_⟩) (by assumption) ?_
    rotate_left
    · (intro w hSw; (try dsimp only at hSw); go_simp; (try with_reducible rfl))
    (try simp only [Act.put, List.setIfInBounds_toArray, List.set_cons_zero, List.set_cons_succ])
    refine wpAnyH_take (i := 18) (oi := ⟨some 60, _, _, _, _, _⟩) (v := ?_) rfl (by kernel_rfl) (by kernel_rfl) (by kernel_rfl) (fun _ _ _ h => h) (Or.inl ⟨rfl, ?_⟩) (by assumption) ?_
    rotate_left
    · (intro w hSw; (try dsimp only at hSw); go_simp; (try with_reducible rfl))
    (try simp only [Act.put, List.setIfInBounds_toArray, List.set_cons_zero, List.set_cons_succ])
    refine wpAnyH_ready (rs := [17]) (by kernel_rfl) (by simp) ?_
    refine AllReadyH.cons (o := ⟨some 59, _, _, _, _, _⟩) rfl (fun K hK => ?_) AllReadyH.nil
    have hCur := CBk.limb hHeld2
    go_simp
    refine (HW.out _).mono ?_
    rintro e w' ⟨rfl, hb⟩
    have hCall := OB.call hCur hb
    clear hb hCur
    go_wp2_with fail
    refine hK.out _ _ ?_ (fun hHeld3 => ?_)
    · exact OB.cells hCall
    clear hK K hCall hHeld2
    (try simp only [Act.put, List.setIfInBounds_toArray, List.set_cons_zero, List.set_cons_succ])
    refine wpAnyH_ready (rs := [19]) (by kernel_rfl) (by simp) ?_
    refine AllReadyH.cons (o := ⟨some 61, _, _, _, _, _⟩) rfl (fun K hK => ?_) AllReadyH.nil
    have hCur := CBk.limb hHeld3
    go_simp
    refine (HWr.out _).mono ?_
    rintro e w' ⟨rfl, hb⟩
    have hCall := OB.call hCur hb
    clear hb hCur
    go_wp2_with fail
    refine hK.out _ _ ?_ (fun hHeld4 => ?_)
    · exact OB.cells hCall
    clear hK K hCall hHeld3
    (try simp only [Act.put, List.setIfInBounds_toArray, List.set_cons_zero, List.set_cons_succ])
    refine wpAnyH_take (i := 20) (oi := ⟨some 62, _, _, _, _, _⟩) (v := ?_) rfl (by kernel_rfl) (by kernel_rfl) (by kernel_rfl) (fun _ _ _ h => h) (Or.inl ⟨rfl, ?_⟩) (by assumption) ?_
    rotate_left
    · (intro w hSw; (try dsimp only at hSw); go_simp; (try with_reducible rfl))
    (try simp only [Act.put, List.setIfInBounds_toArray, List.set_cons_zero, List.set_cons_succ])
    refine wpAnyH_take (i := 21) (oi := ⟨some 63, _, _, _, _, _⟩) (v := ?_) rfl (by kernel_rfl) (by kernel_rfl) (by kernel_rfl) (fun _ _ _ h => h) (Or.inl ⟨rfl, ?_⟩) (by assumption) ?_
    rotate_left
    · (intro w hSw; (try dsimp only at hSw); go_simp; (try with_reducible rfl))
    (try simp only [Act.put, List.setIfInBounds_toArray, List.set_cons_zero, List.set_cons_succ])
    refine wpAnyH_take (i := 22) (oi := ⟨some 64, _, _, _, _, _⟩) (v := ?_) rfl (by kernel_rfl) (by kernel_rfl) (by kernel_rfl) (fun _ _ _ h => h) (Or.inl ⟨rfl, ?_⟩) (by assumption) ?_
    rotate_left
    · (intro w hSw; (try dsimp only at hSw); go_simp; (try with_reducible rfl))
    (try simp only [Act.put, List.setIfInBounds_toArray, List.set_cons_zero, List.set_cons_succ])
    refine wpAnyH_ready (rs := [23]) (by kernel_rfl) (by simp) ?_
    refine AllReadyH.cons (o := ⟨some 65, _, _, _, _, _⟩) rfl (fun K hK => ?_) AllReadyH.nil
    have hCur := CBk.limb hHeld4
    go_simp
    refine (works_any _ (OB.good hCur)).mono ?_
    rintro e w' ⟨rfl, hb⟩
    have hCall := OB.call hCur hb
    clear hb hCur
    go_wp2_with fail
    refine hK.out _ _ ?_ (fun hHeld5 => ?_)
    · exact OB.cells hCall
    clear hK K hCall hHeld4
    (try simp only [Act.put, List.setIfInBounds_toArray, List.set_cons_zero, List.set_cons_succ])
    refine wpAnyH_take (i := 24) (oi := ⟨some 66, _, _, _, _, _⟩) (v := ?_) rfl (by kernel_rfl) (by kernel_rfl) (by kernel_rfl) (fun _ _ _ h => h) (Or.inl ⟨rfl, ?_⟩) (by assumption) ?_
    rotate_left
    · (intro w hSw; (try dsimp only at hSw); go_simp; (try with_reducible rfl))
    (try simp only [Act.put, List.setIfInBounds_toArray, List.set_cons_zero, List.set_cons_succ])
    refine wpAnyH_take (i := 25) (oi := ⟨some 4, _, _, _, _, _⟩) (v := ?_) rfl (by kernel_rfl) (by kernel_rfl) (by kernel_rfl) (fun _ _ _ h => h) (Or.inl ⟨rfl, ?_⟩) (by assumption) ?_
    rotate_left
    · (intro w hSw; (try dsimp only at hSw); go_simp; (try with_reducible rfl))
    (try simp only [Act.put, List.setIfInBounds_toArray, List.set_cons_zero, List.set_cons_succ])
    refine wpAnyH_done (by kernel_rfl) ?_ _
    have HZ := CBk.limb hHeld5
    clear hHeld5
    (try go_wp2_with fail)
    go_ret
    exact ⟨rfl, HZ.out.2.1⟩
  · go_wp2_with fail
    refine (HP.out _ (OB.good HO)).mono ?_
    rintro e w2 ⟨rfl, b⟩
    have HO := OB.call HO b
    clear b
    obtain ⟨c0, c1, c2, c3, _⟩ := OB.cells HO
    go_wp2_with fail
    clear c0 c1 c2 c3
    refine (HPr.out _).mono ?_
    rintro e w3 ⟨rfl, b⟩
    have HO := OB.call HO b
    clear b
    go_wp2_with fail
    refine wp_region_held_drew (S := fun W => W.cell? ⟨w.heap.size, 0, none⟩ = some (.int .i64 q) ∧ W.cell? ⟨w.heap.size, 1, none⟩ = some (.int .i64 a) ∧ W.cell? ⟨w.heap.size, 2, none⟩ = some (.string ⟨n.toArray⟩) ∧ W.cell? ⟨w.heap.size, 3, none⟩ = some (.string ⟨v.toArray⟩) ∧ Hid (OB w (.int .i64 q) (.int .i64 a) (.string ⟨n.toArray⟩) (.string ⟨v.toArray⟩) W)) (by kernel_rfl) ?_ (fun hHeld0 => ?_)
    · exact OB.cells (OB.drew HO)
    clear HO
    refine wpAnyH_take (i := 0) (oi := ⟨some 42, _, _, _, _, _⟩) (v := ?_) rfl (by kernel_rfl) (by kernel_rfl) (by kernel_rfl) (fun _ _ _ h => h) (Or.inl ⟨rfl, ?_⟩) (by assumption) ?_
    rotate_left
    · (intro w hSw; (try dsimp only at hSw); go_simp; (try with_reducible rfl))
    (try simp only [Act.put, List.setIfInBounds_toArray, List.set_cons_zero, List.set_cons_succ])
    refine wpAnyH_take (i := 2) (oi := ⟨some 44, _, _, _, _, _⟩) (v := ?_) rfl (by kernel_rfl) (by kernel_rfl) (by kernel_rfl) (fun _ _ _ h => h) (Or.inl ⟨rfl, ?_⟩) (by assumption) ?_
    rotate_left
    · (intro w hSw; (try dsimp only at hSw); go_simp; (try with_reducible rfl))
    (try simp only [Act.put, List.setIfInBounds_toArray, List.set_cons_zero, List.set_cons_succ])
    refine wpAnyH_ready (rs := [1]) (by kernel_rfl) (by simp) ?_
    refine AllReadyH.cons (o := ⟨some 43, _, _, _, _, _⟩) rfl (fun K hK => ?_) AllReadyH.nil
    have hCur := CBk.limb hHeld0
    go_simp
    refine (HC.out _ (OB.good hCur)).mono ?_
    rintro e w' ⟨rfl, hb⟩
    have hCall := OB.call hCur hb
    clear hb hCur
    go_wp2_with fail
    refine hK.out _ _ ?_ (fun hHeld1 => ?_)
    · exact OB.cells hCall
    clear hK K hCall hHeld0
    (try simp only [Act.put, List.setIfInBounds_toArray, List.set_cons_zero, List.set_cons_succ])
    refine wpAnyH_ready (rs := [3]) (by kernel_rfl) (by simp) ?_
    refine AllReadyH.cons (o := ⟨some 45, _, _, _, _, _⟩) rfl (fun K hK => ?_) AllReadyH.nil
    have hCur := CBk.limb hHeld1
    go_simp
    refine (HCr.out _).mono ?_
    rintro e w' ⟨rfl, hb⟩
    have hCall := OB.call hCur hb
    clear hb hCur
    go_wp2_with fail
    refine hK.out _ _ ?_ (fun hHeld2 => ?_)
    · exact OB.cells hCall
    clear hK K hCall hHeld1
    (try simp only [Act.put, List.setIfInBounds_toArray, List.set_cons_zero, List.set_cons_succ])
    refine wpAnyH_take (i := 4) (oi := ⟨some 46, _, _, _, _, _⟩) (v := ?_) rfl (by kernel_rfl) (by kernel_rfl) (by kernel_rfl) (fun _ _ _ h => h) (Or.inl ⟨rfl, ?_⟩) (by assumption) ?_
    rotate_left
    · (intro w hSw; (try dsimp only at hSw); go_simp; (try with_reducible rfl))
    (try simp only [Act.put, List.setIfInBounds_toArray, List.set_cons_zero, List.set_cons_succ])
    refine wpAnyH_take (i := 5) (oi := ⟨some 47, _, _, _, _, _⟩) (v := ?_) rfl (by kernel_rfl) (by kernel_rfl) (by kernel_rfl) (fun _ _ _ h => h) (Or.inl ⟨rfl, ?_⟩) (by assumption) ?_
    rotate_left
    · (intro w hSw; (try dsimp only at hSw); go_simp; (try with_reducible rfl))
    (try simp only [Act.put, List.setIfInBounds_toArray, List.set_cons_zero, List.set_cons_succ])
    refine wpAnyH_take (i := 6) (oi := ⟨some 48, _, _, _, _, _⟩) (v := ?_) rfl (by kernel_rfl) (by kernel_rfl) (by kernel_rfl) (fun _ _ _ h => h) (Or.inl ⟨rfl, ?_⟩) (by assumption) ?_
    rotate_left
    · (intro w hSw; (try dsimp only at hSw); go_simp; (try with_reducible rfl))
    (try simp only [Act.put, List.setIfInBounds_toArray, List.set_cons_zero, List.set_cons_succ])
    refine wpAnyH_take (i := 7) (oi := ⟨some 49, _, _, _, _, _⟩) (v := ?_) rfl (by kernel_rfl) (by kernel_rfl) (by kernel_rfl) (fun _ _ _ h => h) (Or.inl ⟨rfl, ?_⟩) (by assumption) ?_
    rotate_left
    · (intro w hSw; (try dsimp only at hSw); go_simp; (try with_reducible rfl))
    (try simp only [Act.put, List.setIfInBounds_toArray, List.set_cons_zero, List.set_cons_succ])
    refine wpAnyH_take (i := 8) (oi := ⟨some 50, _, _, _, _, _⟩) (v := ?_) rfl (by kernel_rfl) (by kernel_rfl) (by kernel_rfl) (fun _ _ _ h => h) (Or.inl ⟨rfl, ?_⟩) (by assumption) ?_
    rotate_left
    · (intro w hSw; (try dsimp only at hSw); go_simp; (try with_reducible rfl))
    (try simp only [Act.put, List.setIfInBounds_toArray, List.set_cons_zero, List.set_cons_succ])
    refine wpAnyH_take (i := 9) (oi := ⟨some 51, _, _, _, _, _⟩) (v := ?_) rfl (by kernel_rfl) (by kernel_rfl) (by kernel_rfl) (fun _ _ _ h => h) (Or.inl ⟨rfl, ?_⟩) (by assumption) ?_
    rotate_left
    · (intro w hSw; (try dsimp only at hSw); go_simp; (try with_reducible rfl))
    (try simp only [Act.put, List.setIfInBounds_toArray, List.set_cons_zero, List.set_cons_succ])
    refine wpAnyH_take (i := 10) (oi := ⟨some 52, _, _, _, _, _⟩) (v := ?_) rfl (by kernel_rfl) (by kernel_rfl) (by kernel_rfl) (fun _ _ _ h => h) (Or.inl ⟨rfl, ?_⟩) (by assumption) ?_
    rotate_left
    · (intro w hSw; (try dsimp only at hSw); go_simp; (try with_reducible rfl))
    (try simp only [Act.put, List.setIfInBounds_toArray, List.set_cons_zero, List.set_cons_succ])
    refine wpAnyH_take (i := 11) (oi := ⟨some 53, _, _, _, _, _⟩) (v := ?_) rfl (by kernel_rfl) (by kernel_rfl) (by kernel_rfl) (fun _ _ _ h => h) (Or.inl ⟨rfl, ?_⟩) (by assumption) ?_
    rotate_left
    · (intro w hSw; (try dsimp only at hSw); go_simp; (try with_reducible rfl))
    (try simp only [Act.put, List.setIfInBounds_toArray, List.set_cons_zero, List.set_cons_succ])
    refine wpAnyH_take (i := 12) (oi := ⟨some 54, _, _, _, _, _⟩) (v := ?_) rfl (by kernel_rfl) (by kernel_rfl) (by kernel_rfl) (fun _ _ _ h => h) (Or.inl ⟨rfl, ?_⟩) (by assumption) ?_
    rotate_left
    · (intro w hSw; (try dsimp only at hSw); go_simp; (try with_reducible rfl))
    (try simp only [Act.put, List.setIfInBounds_toArray, List.set_cons_zero, List.set_cons_succ])
    refine wpAnyH_take (i := 13) (oi := ⟨some 55, _, _, _, _, _⟩) (v := ?_) rfl (by kernel_rfl) (by kernel_rfl) (by kernel_rfl) (fun _ _ _ h => h) (Or.inl ⟨rfl, ?_⟩) (by assumption) ?_
    rotate_left
    · (intro w hSw; (try dsimp only at hSw); go_simp; (try with_reducible rfl))
    (try simp only [Act.put, List.setIfInBounds_toArray, List.set_cons_zero, List.set_cons_succ])
    refine wpAnyH_take (i := 14) (oi := ⟨some 56, _, _, _, _, _⟩) (v := ?_) rfl (by kernel_rfl) (by kernel_rfl) (by kernel_rfl) (fun _ _ _ h => h) (Or.inl ⟨rfl, ?_⟩) (by assumption) ?_
    rotate_left
    · (intro w hSw; (try dsimp only at hSw); go_simp; (try with_reducible rfl))
    (try simp only [Act.put, List.setIfInBounds_toArray, List.set_cons_zero, List.set_cons_succ])
    refine wpAnyH_take (i := 15) (oi := ⟨some 57, _, _, _, _, _⟩) (v := ?_) rfl (by kernel_rfl) (by kernel_rfl) (by kernel_rfl) (fun _ _ _ h => h) (Or.inl ⟨rfl, ?_⟩) (by assumption) ?_
    rotate_left
    · (intro w hSw; (try dsimp only at hSw); go_simp; (try with_reducible rfl))
    (try simp only [Act.put, List.setIfInBounds_toArray, List.set_cons_zero, List.set_cons_succ])
    refine wpAnyH_take (i := 16) (oi := ⟨some 58, _, _, _, _, _⟩) (v := ?_) rfl (by kernel_rfl) (by kernel_rfl) (by kernel_rfl) (fun _ _ _ h => h) (Or.inl ⟨rfl, ?_⟩) (by assumption) ?_
    rotate_left
    · (intro w hSw; (try dsimp only at hSw); go_simp; (try with_reducible rfl))
    (try simp only [Act.put, List.setIfInBounds_toArray, List.set_cons_zero, List.set_cons_succ])
    refine wpAnyH_take (i := 18) (oi := ⟨some 60, _, _, _, _, _⟩) (v := ?_) rfl (by kernel_rfl) (by kernel_rfl) (by kernel_rfl) (fun _ _ _ h => h) (Or.inl ⟨rfl, ?_⟩) (by assumption) ?_
    rotate_left
    · (intro w hSw; (try dsimp only at hSw); go_simp; (try with_reducible rfl))
    (try simp only [Act.put, List.setIfInBounds_toArray, List.set_cons_zero, List.set_cons_succ])
    refine wpAnyH_ready (rs := [17]) (by kernel_rfl) (by simp) ?_
    refine AllReadyH.cons (o := ⟨some 59, _, _, _, _, _⟩) rfl (fun K hK => ?_) AllReadyH.nil
    have hCur := CBk.limb hHeld2
    go_simp
    refine (HW.out _).mono ?_
    rintro e w' ⟨rfl, hb⟩
    have hCall := OB.call hCur hb
    clear hb hCur
    go_wp2_with fail
    refine hK.out _ _ ?_ (fun hHeld3 => ?_)
    · exact OB.cells hCall
    clear hK K hCall hHeld2
    (try simp only [Act.put, List.setIfInBounds_toArray, List.set_cons_zero, List.set_cons_succ])
    refine wpAnyH_ready (rs := [19]) (by kernel_rfl) (by simp) ?_
    refine AllReadyH.cons (o := ⟨some 61, _, _, _, _, _⟩) rfl (fun K hK => ?_) AllReadyH.nil
    have hCur := CBk.limb hHeld3
    go_simp
    refine (HWr.out _).mono ?_
    rintro e w' ⟨rfl, hb⟩
    have hCall := OB.call hCur hb
    clear hb hCur
    go_wp2_with fail
    refine hK.out _ _ ?_ (fun hHeld4 => ?_)
    · exact OB.cells hCall
    clear hK K hCall hHeld3
    (try simp only [Act.put, List.setIfInBounds_toArray, List.set_cons_zero, List.set_cons_succ])
    refine wpAnyH_take (i := 20) (oi := ⟨some 62, _, _, _, _, _⟩) (v := ?_) rfl (by kernel_rfl) (by kernel_rfl) (by kernel_rfl) (fun _ _ _ h => h) (Or.inl ⟨rfl, ?_⟩) (by assumption) ?_
    rotate_left
    · (intro w hSw; (try dsimp only at hSw); go_simp; (try with_reducible rfl))
    (try simp only [Act.put, List.setIfInBounds_toArray, List.set_cons_zero, List.set_cons_succ])
    refine wpAnyH_take (i := 21) (oi := ⟨some 63, _, _, _, _, _⟩) (v := ?_) rfl (by kernel_rfl) (by kernel_rfl) (by kernel_rfl) (fun _ _ _ h => h) (Or.inl ⟨rfl, ?_⟩) (by assumption) ?_
    rotate_left
    · (intro w hSw; (try dsimp only at hSw); go_simp; (try with_reducible rfl))
    (try simp only [Act.put, List.setIfInBounds_toArray, List.set_cons_zero, List.set_cons_succ])
    refine wpAnyH_take (i := 22) (oi := ⟨some 64, _, _, _, _, _⟩) (v := ?_) rfl (by kernel_rfl) (by kernel_rfl) (by kernel_rfl) (fun _ _ _ h => h) (Or.inl ⟨rfl, ?_⟩) (by assumption) ?_
    rotate_left
    · (intro w hSw; (try dsimp only at hSw); go_simp; (try with_reducible rfl))
    (try simp only [Act.put, List.setIfInBounds_toArray, List.set_cons_zero, List.set_cons_succ])
    refine wpAnyH_ready (rs := [23]) (by kernel_rfl) (by simp) ?_
    refine AllReadyH.cons (o := ⟨some 65, _, _, _, _, _⟩) rfl (fun K hK => ?_) AllReadyH.nil
    have hCur := CBk.limb hHeld4
    go_simp
    refine (works_any _ (OB.good hCur)).mono ?_
    rintro e w' ⟨rfl, hb⟩
    have hCall := OB.call hCur hb
    clear hb hCur
    go_wp2_with fail
    refine hK.out _ _ ?_ (fun hHeld5 => ?_)
    · exact OB.cells hCall
    clear hK K hCall hHeld4
    (try simp only [Act.put, List.setIfInBounds_toArray, List.set_cons_zero, List.set_cons_succ])
    refine wpAnyH_take (i := 24) (oi := ⟨some 66, _, _, _, _, _⟩) (v := ?_) rfl (by kernel_rfl) (by kernel_rfl) (by kernel_rfl) (fun _ _ _ h => h) (Or.inl ⟨rfl, ?_⟩) (by assumption) ?_
    rotate_left
    · (intro w hSw; (try dsimp only at hSw); go_simp; (try with_reducible rfl))
    (try simp only [Act.put, List.setIfInBounds_toArray, List.set_cons_zero, List.set_cons_succ])
    refine wpAnyH_take (i := 25) (oi := ⟨some 4, _, _, _, _, _⟩) (v := ?_) rfl (by kernel_rfl) (by kernel_rfl) (by kernel_rfl) (fun _ _ _ h => h) (Or.inl ⟨rfl, ?_⟩) (by assumption) ?_
    rotate_left
    · (intro w hSw; (try dsimp only at hSw); go_simp; (try with_reducible rfl))
    (try simp only [Act.put, List.setIfInBounds_toArray, List.set_cons_zero, List.set_cons_succ])
    refine wpAnyH_done (by kernel_rfl) ?_ _
    have HZ := CBk.limb hHeld5
    clear hHeld5
    (try go_wp2_with fail)
    go_ret
    exact ⟨rfl, HZ.out.2.1⟩
set_option maxHeartbeats 4000000 in
set_option maxRecDepth 20000 in
theorem commandOnes_walk (q : Int) (_ : -9223372036854775808 ≤ q) (_ : q ≤ 9223372036854775807) (a : Int) (a0 : -9223372036854775808 ≤ a) (a1 : a ≤ 9223372036854775807) (n : ByteArray) (_ : n.size ≤ maxLen) (v : ByteArray) (_ : v.size ≤ maxLen) (k : Int) (_ : -9223372036854775808 ≤ k) (_ : k ≤ 9223372036854775807) (w : World) (hG : Good w) :
    Calls Tryz.prog 9 #[.agg #[.int .i64 q, .int .i64 a, .string n, .string v], .int .i64 k] w fun e w' => e = .returned (.bool true) ∧ Below w.heap.size w w' := by
  obtain ⟨n, rfl⟩ : ∃ l : List UInt8, n = ⟨l.toArray⟩ := ⟨n.data.toList, rfl⟩
  obtain ⟨v, rfl⟩ : ∃ l : List UInt8, v = ⟨l.toArray⟩ := ⟨v.data.toList, rfl⟩
  by_cases h : ¬ 1000 < n.length ∧ (¬ 1000 < v.length ∨ ¬ v.length < 4900) ∧ ¬ 20010 < v.length
  · exact ones_main q a n v k a0 a1 h.1 h.2 w hG
  have HO := OB.new (x0 := .int .i64 q) (x1 := .int .i64 a) (x2 := .string ⟨n.toArray⟩) (x3 := .string ⟨v.toArray⟩) hG
  clear hG
  by_cases h1 : 1000 < n.length
  · have k1 : (1000 : Int) < (n.length : Int) := by omega
    go_enter Tryz.func9, Tryz.ntmps9
    go_wp2_with fail
    refine (works_any _ (OB.good HO)).mono ?_
    rintro e w2 ⟨rfl, b⟩
    have HO := OB.call HO b
    clear b
    go_wp2_with fail
    go_ret
    exact ⟨rfl, HO.out.2.1⟩
  by_cases h2 : 1000 < v.length ∧ v.length < 4900
  · have k1 : ¬ (1000 : Int) < (n.length : Int) := by omega
    have k2 : (1000 : Int) < (v.length : Int) := by omega
    have k3 : (v.length : Int) < 4900 := by omega
    go_enter Tryz.func9, Tryz.ntmps9
    go_wp2_with fail
    refine (works_any _ (OB.good HO)).mono ?_
    rintro e w2 ⟨rfl, b⟩
    have HO := OB.call HO b
    clear b
    go_wp2_with fail
    go_ret
    exact ⟨rfl, HO.out.2.1⟩
  · have k1 : ¬ (1000 : Int) < (n.length : Int) := by omega
    have k2 : (1000 : Int) < (v.length : Int) := by omega
    have k3 : ¬ (v.length : Int) < 4900 := by omega
    have k4 : (20010 : Int) < (v.length : Int) := by omega
    go_enter Tryz.func9, Tryz.ntmps9
    go_wp2_with fail
    refine (works_any _ (OB.good HO)).mono ?_
    rintro e w2 ⟨rfl, b⟩
    have HO := OB.call HO b
    clear b
    go_wp2_with fail
    go_ret
    exact ⟨rfl, HO.out.2.1⟩
end Go.Proofs.YtphpgbbjbncfoaaGreatDoor

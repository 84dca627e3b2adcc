/-
  LAYER 1: the reference: places as strings, and what is decoded.
-/
import Derived.Test.YtmoeglecdojhcaaDoorPlS
import Derived.Deep.CutBlock
import Derived.Deep.DeepCutAuto
namespace Go.Proofs.YtmoeglecdojhcaaDoor
open Go.ChangeShapes Go.WideShapes Go.ChangeAt Go.RowKit

theorem rdig_any (n : Int) (h0 : 1 ≤ n) (h1 : n ≤ 9223372036854775807) (w : World) :
    Calls Tryd.prog 35 #[.int .i64 n] w fun e w' => e = .returned (.string ⟨(Lib.itoa n).toArray⟩) ∧ w = w' := by
  have := rdigits_any n.toNat n w (Nat.le_refl _) (by omega) h1
  rw [← Dec.itoa_nn (by omega)] at this
  exact this
/-- A place's block. -/
def PC (w : World) (l c : Int) (W : World) : Prop := Below w.heap.size w W ∧ Blk W w.heap.size 24 #[.int .i64 l, .int .i64 c]
section
variable {w W W' : World} {l c : Int}
theorem PC.new : Hid (PC w l c (w.alloc (.cells #[.int .i64 l, .int .i64 c] 24))) := Lib.hid ⟨below_new (Below.refl _ _) _, Blk.new _ _ _⟩
theorem PC.drew (h : Hid (PC w l c W)) : Hid (PC w l c W.drew) := Lib.hid ⟨h.out.1.drew, h.out.2.drew⟩
theorem PC.cells (h : Hid (PC w l c W)) : W.cell? ⟨w.heap.size, 0, none⟩ = some (.int .i64 l) ∧ W.cell? ⟨w.heap.size, 1, none⟩ = some (.int .i64 c) ∧ Hid (PC w l c W) := ⟨h.out.2.cell 0, h.out.2.cell 1, h⟩
theorem PC.limb {p q r : Prop} (h : p ∧ q ∧ r) : r := h.2.2
end
set_option maxRecDepth 100000 in
set_option maxHeartbeats 1000000 in
theorem rtext_any (l c : Int) (l0 : -9223372036854775808 ≤ l) (l1 : l ≤ 9223372036854775807) (c0 : -9223372036854775808 ≤ c) (c1 : c ≤ 9223372036854775807) (w : World) :
    Calls Tryd.prog 21 #[pV l c] w fun e w' => e = .returned (.tuple #[.string ⟨(txS l c).toArray⟩, .int .i64 (txE l c)]) ∧ Below w.heap.size w w' := by
  have HP := PC.new (w := w) (l := l) (c := c)
  unfold pV
  by_cases h : 1 ≤ l ∧ 1 ≤ c
  · have e1 : txS l c = Pl.text l c := by unfold txS; rw [if_pos h]
    have e2 : txE l c = 0 := by unfold txE; rw [if_pos h]
    rw [e1, e2]
    clear e1 e2
    obtain ⟨h1, h2⟩ := h
    have hl1 := itoa_len l0 l1
    have hl2 := itoa_len c0 c1
    have k1 : ¬ 9223372036854775807 < (Lib.itoa l).length + 1 := by omega
    have k2 : ¬ 9223372036854775807 < (Lib.itoa l).length + 1 + (Lib.itoa c).length := by omega
    go_enter Tryd.func21, Tryd.ntmps21
    go_upto_region 3 with fail
    refine wp_region_held_drew (S := fun W => W.cell? ⟨w.heap.size, 0, none⟩ = some (.int .i64 l) ∧ W.cell? ⟨w.heap.size, 1, none⟩ = some (.int .i64 c) ∧ Hid (PC w l c W)) (by kernel_rfl) ?_ (fun hHeld0 => ?_)
    · exact PC.cells (PC.drew HP)
    refine wpAnyH_take (i := 0) (oi := ⟨some 12, _, _, _, _, _⟩) (v := ?_) rfl (by kernel_rfl) (by kernel_rfl) (by kernel_rfl) (fun _ _ _ h => h) (Or.inl ⟨rfl, ?_⟩) (by assumption) ?_
    rotate_left
    · (intro w hSw; (try dsimp only at hSw); go_simp; (try with_reducible rfl))
    (try simp only [Act.put, List.setIfInBounds_toArray, List.set_cons_zero, List.set_cons_succ])
    refine wpAnyH_take (i := 1) (oi := ⟨some 13, _, _, _, _, _⟩) (v := ?_) rfl (by kernel_rfl) (by kernel_rfl) (by kernel_rfl) (fun _ _ _ h => h) (Or.inl ⟨rfl, ?_⟩) (by assumption) ?_
    rotate_left
    · (intro w hSw; (try dsimp only at hSw); go_simp; (try with_reducible rfl))
    (try simp only [Act.put, List.setIfInBounds_toArray, List.set_cons_zero, List.set_cons_succ])
    refine wpAnyH_take (i := 4) (oi := ⟨some 16, _, _, _, _, _⟩) (v := ?_) rfl (by kernel_rfl) (by kernel_rfl) (by kernel_rfl) (fun _ _ _ h => h) (Or.inl ⟨rfl, ?_⟩) (by assumption) ?_
    rotate_left
    · (intro w hSw; (try dsimp only at hSw); go_simp; (try with_reducible rfl))
    (try simp only [Act.put, List.setIfInBounds_toArray, List.set_cons_zero, List.set_cons_succ])
    refine wpAnyH_take (i := 5) (oi := ⟨some 17, _, _, _, _, _⟩) (v := ?_) rfl (by kernel_rfl) (by kernel_rfl) (by kernel_rfl) (fun _ _ _ h => h) (Or.inl ⟨rfl, ?_⟩) (by assumption) ?_
    rotate_left
    · (intro w hSw; (try dsimp only at hSw); go_simp; (try with_reducible rfl))
    (try simp only [Act.put, List.setIfInBounds_toArray, List.set_cons_zero, List.set_cons_succ])
    refine wpAnyH_ready (rs := [2]) (by kernel_rfl) (by simp) ?_
    refine AllReadyH.cons (o := ⟨some 14, _, _, _, _, _⟩) rfl (fun K hK => ?_) AllReadyH.nil
    have hCur := PC.limb hHeld0
    go_simp
    refine (rdig_any l (by omega) (by omega) _).mono ?_
    rintro e w' ⟨rfl, rfl⟩
    go_wp2_with fail
    refine hK.out _ _ ?_ (fun hHeld1 => ?_)
    · exact PC.cells hCur
    clear hK K hHeld0
    (try simp only [Act.put, List.setIfInBounds_toArray, List.set_cons_zero, List.set_cons_succ])
    refine wpAnyH_take (i := 3) (oi := ⟨some 15, _, _, _, _, _⟩) (v := ?_) rfl (by kernel_rfl) (by kernel_rfl) (by kernel_rfl) (fun _ _ _ h => h) (Or.inl ⟨rfl, ?_⟩) (by assumption) ?_
    rotate_left
    · (intro w hSw; (try dsimp only at hSw); go_simp; (try with_reducible rfl))
    (try simp only [Act.put, List.setIfInBounds_toArray, List.set_cons_zero, List.set_cons_succ])
    refine wpAnyH_ready (rs := [6]) (by kernel_rfl) (by simp) ?_
    refine AllReadyH.cons (o := ⟨some 18, _, _, _, _, _⟩) rfl (fun K hK => ?_) AllReadyH.nil
    have hCur := PC.limb hHeld1
    go_simp
    refine (rdig_any c (by omega) (by omega) _).mono ?_
    rintro e w' ⟨rfl, rfl⟩
    go_wp2_with fail
    refine hK.out _ _ ?_ (fun hHeld2 => ?_)
    · exact PC.cells hCur
    clear hK K hHeld1
    (try simp only [Act.put, List.setIfInBounds_toArray, List.set_cons_zero, List.set_cons_succ])
    refine wpAnyH_take (i := 7) (oi := ⟨some 19, _, _, _, _, _⟩) (v := ?_) rfl (by kernel_rfl) (by kernel_rfl) (by kernel_rfl) (fun _ _ _ h => h) (Or.inl ⟨rfl, ?_⟩) (by assumption) ?_
    rotate_left
    · (intro w hSw; (try dsimp only at hSw); go_simp; (try with_reducible rfl))
    (try simp only [Act.put, List.setIfInBounds_toArray, List.set_cons_zero, List.set_cons_succ])
    refine wpAnyH_take (i := 8) (oi := ⟨some 2, _, _, _, _, _⟩) (v := ?_) rfl (by kernel_rfl) (by kernel_rfl) (by kernel_rfl) (fun _ _ _ h => h) (Or.inl ⟨rfl, ?_⟩) (by assumption) ?_
    rotate_left
    · (intro w hSw; (try dsimp only at hSw); go_simp; (try with_reducible rfl))
    (try simp only [Act.put, List.setIfInBounds_toArray, List.set_cons_zero, List.set_cons_succ])
    refine wpAnyH_take (i := 9) (oi := ⟨some 3, _, _, _, _, _⟩) (v := ?_) rfl (by kernel_rfl) (by kernel_rfl) (by kernel_rfl) (fun _ _ _ h => h) (Or.inl ⟨rfl, ?_⟩) (by assumption) ?_
    rotate_left
    · (intro w hSw; (try dsimp only at hSw); go_simp; (try with_reducible rfl))
    (try simp only [Act.put, List.setIfInBounds_toArray, List.set_cons_zero, List.set_cons_succ])
    refine wpAnyH_done (by kernel_rfl) ?_ _
    have HQ := PC.limb hHeld2
    go_wp2_with fail
    go_ret2
    exact ⟨ret_str_int (by rw [show (⟨#[58]⟩ : ByteArray) = ⟨[58].toArray⟩ from rfl, ByteArray.mk_append_mk, ByteArray.mk_append_mk, mk_inj]; unfold Pl.text; simp) rfl, HQ.out.1⟩
  · have e1 : txS l c = [] := by unfold txS; rw [if_neg h]
    have e2 : txE l c = 2 := by unfold txE; rw [if_neg h]
    rw [e1, e2]
    clear e1 e2
    by_cases h1 : l < 1
    · clear h
      go_enter Tryd.func21, Tryd.ntmps21
      go_wp2_with fail
      go_ret2
      exact ⟨rfl, HP.out.1⟩
    · have h2 : c < 1 := by omega
      clear h
      go_enter Tryd.func21, Tryd.ntmps21
      go_wp2_with fail
      go_ret2
      exact ⟨rfl, HP.out.1⟩

set_option maxRecDepth 100000 in
set_option maxHeartbeats 4000000 in
theorem rpparse_any (s : List UInt8) (hs : s.length ≤ 1000000) (w : World) (hG : Good w) :
    Calls Tryd.prog 23 #[.string ⟨s.toArray⟩] w fun e w' => e = .returned (.tuple #[pV (prL s) (prC s), .int .i64 (prE s)]) ∧ Below w.heap.size w w' := by
  have HP := PB.new (l := 0) (c := 0) hG
  have HGw := Lib.hid hG
  clear hG
  go_enter Tryd.func23, Tryd.ntmps23
  go_wp2_with fail
  go_loopw [4] (fun i wr => ∃ k : Nat, k ≤ s.length ∧ i = .int .i64 k ∧ wr = w.alloc (.cells #[.int .i64 0, .int .i64 0] 24) ∧ Hid (∀ x ∈ s.take k, x ≠ 58)) (fun i _ => s.length - (intOf i).toNat)
  case atStart => exact ⟨0, Nat.zero_le _, rfl, rfl, Lib.hid (by simp)⟩
  case round =>
    obtain ⟨k, hk, rfl, rfl, HN⟩ := hrel
    by_cases hlt : k < s.length
    · obtain ⟨b, hb⟩ : ∃ b, s[k]? = some b := ⟨_, List.getElem?_eq_getElem hlt⟩
      have hx : ∀ h, ((⟨s.toArray⟩ : ByteArray)[k]'h) = b := fun h => (List.getElem?_eq_some_iff.1 hb).2
      by_cases h58 : b = 58
      · have hb58 : (b.toNat : Int) = 58 := by rw [h58]; rfl
        have hsplit : s = s.take k ++ 58 :: s.drop (k + 1) := by
          obtain ⟨h1, h2⟩ := List.getElem?_eq_some_iff.1 hb
          rw [← h58, ← h2, List.getElem_cons_drop h1, List.take_append_drop]
        have hcut : Pl.cut s = (s.take k, s.drop (k + 1), true) := by
          conv => lhs; rw [hsplit]
          exact Pl.cut_colon _ _ HN.out
        have hheld := fun L C a b c d => @Pl.pread_held s L C a b c d
        rw [hcut] at hheld
        have hx1 : (⟨s.toArray⟩ : ByteArray).extract 0 k = ⟨(s.take k).toArray⟩ := by rw [mk_extract, List.drop_zero, Nat.sub_zero]
        have hx2 : (⟨s.toArray⟩ : ByteArray).extract (k + 1) s.length = ⟨(s.drop (k + 1)).toArray⟩ := by rw [mk_extract, List.take_of_length_le (by rw [List.length_drop]; omega)]
        have hna := fun W => rnumber_any (s.take k) (by rw [List.length_take]; omega) W
        have hnb := fun W => rnumber_any (s.drop (k + 1)) (by rw [List.length_drop]; omega) W
        have hla := Pl.numV_le (s.take k) 0 (by omega)
        have hlb := Pl.numV_le (s.drop (k + 1)) 0 (by omega)
        have hia : ∀ l, s.take k = Lib.itoa l → 1 ≤ l → l ≤ 9223372036854775807 → ((Pl.numV 0 (s.take k) : Nat) : Int) = l := fun l e h1 h2 => by rw [e]; exact Pl.numV_itoa h1 h2
        have hib : ∀ l, s.drop (k + 1) = Lib.itoa l → 1 ≤ l → l ≤ 9223372036854775807 → ((Pl.numV 0 (s.drop (k + 1)) : Nat) : Int) = l := fun l e h1 h2 => by rw [e]; exact Pl.numV_itoa h1 h2
        have hR := hheld ((Pl.numV 0 (s.take k) : Nat) : Int) ((Pl.numV 0 (s.drop (k + 1)) : Nat) : Int) (by omega) (by omega) hia hib
        obtain ⟨A, hA⟩ : ∃ A, ((Pl.numV 0 (s.take k) : Nat) : Int) = A := ⟨_, rfl⟩
        obtain ⟨B, hB⟩ : ∃ B, ((Pl.numV 0 (s.drop (k + 1)) : Nat) : Int) = B := ⟨_, rfl⟩
        have a0 : 0 ≤ A := by omega
        have b0 : 0 ≤ B := by omega
        have a1 : A ≤ 9223372036854775807 := by omega
        have b1 : B ≤ 9223372036854775807 := by omega
        rw [hA, hB] at hR
        rw [hA] at hna
        rw [hB] at hnb
        obtain ⟨U, hU⟩ : ∃ U, s.take k = U := ⟨_, rfl⟩
        obtain ⟨V, hV⟩ : ∃ V, s.drop (k + 1) = V := ⟨_, rfl⟩
        rw [hU] at hx1 hna
        rw [hV] at hx2 hnb
        have HNA := Lib.hid hna
        have HNB := Lib.hid hnb
        have HR := Lib.hid hR
        have hk1 : (k : Int) + 1 ≤ (s.length : Int) := by omega
        have hk0 : (0 : Int) ≤ (k : Int) + 1 := by omega
        have hwr : IntKind.i64.wrap ((k : Int) + 1) = (k : Int) + 1 := IntWalk.i64_in _ (by omega)
        clear hna hnb hR hA hB hU hV hheld hcut hsplit hla hlb hia hib h58 hb HN
        go_upto_region 5 with fail
        go_cut [5] (fun s5 wx => ∃ b5, s5 = .pointer (some ⟨b5, 0, none⟩) ∧ Hid (QB w b5 A B wx))
        case first =>
          refine wp_region_held_drew (S := fun _ => True) (by kernel_rfl) trivial (fun hHeld0 => ?_)
          replace HP := PB.drew HP
          obtain ⟨w0, hw0⟩ : ∃ V, World.drew (w.alloc (.cells #[.int .i64 0, .int .i64 0] 24)) = V := ⟨_, rfl⟩
          rw [hw0] at HP ⊢
          clear hw0
          refine wpAnyH_take (i := 0) (oi := ⟨some 18, _, _, _, _, _⟩) (v := ?_) rfl (by kernel_rfl) (by kernel_rfl) (by kernel_rfl) (fun _ _ _ h => h) (Or.inl ⟨rfl, ?_⟩) (by assumption) ?_
          rotate_left
          · (intro w hSw; (try dsimp only at hSw); go_simp; (try with_reducible rfl))
          (try simp only [Act.put, List.setIfInBounds_toArray, List.set_cons_zero, List.set_cons_succ])
          refine wpAnyH_take (i := 1) (oi := ⟨some 19, _, _, _, _, _⟩) (v := ?_) rfl (by kernel_rfl) (by kernel_rfl) (by kernel_rfl) (fun _ _ _ h => h) (Or.inl ⟨rfl, ?_⟩) (by assumption) ?_
          rotate_left
          · (intro w hSw; (try dsimp only at hSw); go_simp; (try with_reducible rfl))
          (try simp only [Act.put, List.setIfInBounds_toArray, List.set_cons_zero, List.set_cons_succ])
          refine wpAnyH_take (i := 2) (oi := ⟨some 20, _, _, _, _, _⟩) (v := ?_) rfl (by kernel_rfl) (by kernel_rfl) (by kernel_rfl) (fun _ _ _ h => h) (Or.inl ⟨rfl, ?_⟩) (by assumption) ?_
          rotate_left
          · (intro w hSw; (try dsimp only at hSw); go_simp; (try with_reducible rfl))
          (try simp only [Act.put, List.setIfInBounds_toArray, List.set_cons_zero, List.set_cons_succ])
          refine wpAnyH_take (i := 4) (oi := ⟨some 22, _, _, _, _, _⟩) (v := ?_) rfl (by kernel_rfl) (by kernel_rfl) (by kernel_rfl) (fun _ _ _ h => h) (Or.inl ⟨rfl, ?_⟩) (by assumption) ?_
          rotate_left
          · (intro w hSw; (try dsimp only at hSw); go_simp; (try with_reducible rfl))
          (try simp only [Act.put, List.setIfInBounds_toArray, List.set_cons_zero, List.set_cons_succ])
          refine wpAnyH_take (i := 5) (oi := ⟨some 23, _, _, _, _, _⟩) (v := ?_) rfl (by kernel_rfl) (by kernel_rfl) (by kernel_rfl) (fun _ _ _ h => h) (Or.inl ⟨rfl, ?_⟩) (by assumption) ?_
          rotate_left
          · (intro w hSw; (try dsimp only at hSw); go_simp; (try with_reducible rfl))
          (try simp only [Act.put, List.setIfInBounds_toArray, List.set_cons_zero, List.set_cons_succ])
          refine wpAnyH_take (i := 6) (oi := ⟨some 24, _, _, _, _, _⟩) (v := ?_) rfl (by kernel_rfl) (by kernel_rfl) (by kernel_rfl) (fun _ _ _ h => h) (Or.inl ⟨rfl, ?_⟩) (by assumption) ?_
          rotate_left
          · (intro w hSw; (try dsimp only at hSw); go_simp; (try with_reducible rfl))
          (try simp only [Act.put, List.setIfInBounds_toArray, List.set_cons_zero, List.set_cons_succ])
          refine wpAnyH_take (i := 7) (oi := ⟨some 25, _, _, _, _, _⟩) (v := ?_) rfl (by kernel_rfl) (by kernel_rfl) (by kernel_rfl) (fun _ _ _ h => h) (Or.inl ⟨rfl, ?_⟩) (by assumption) ?_
          rotate_left
          · (intro w hSw; (try dsimp only at hSw); go_simp; (try with_reducible rfl))
          (try simp only [Act.put, List.setIfInBounds_toArray, List.set_cons_zero, List.set_cons_succ])
          refine wpAnyH_ready (rs := [3, 10]) (by kernel_rfl) (by simp) ?_
          refine AllReadyH.cons (o := ⟨some 21, _, _, _, _, _⟩) rfl (fun K hK => ?_) ?_
          · go_simp
            refine (HNA.out _).mono ?_
            rintro e w' ⟨rfl, rfl⟩
            go_wp2_with fail
            refine hK.out _ _ trivial (fun hHeld1 => ?_)
            clear hK K
            (try simp only [Act.put, List.setIfInBounds_toArray, List.set_cons_zero, List.set_cons_succ])
            refine wpAnyH_ready (rs := [8, 10]) (by kernel_rfl) (by simp) ?_
            refine AllReadyH.cons (o := ⟨some 26, _, _, _, _, _⟩) rfl (fun K hK => ?_) ?_
            · go_simp
              refine (HNB.out _).mono ?_
              rintro e w' ⟨rfl, rfl⟩
              go_wp2_with fail
              refine hK.out _ _ trivial (fun hHeld2 => ?_)
              clear hK K
              (try simp only [Act.put, List.setIfInBounds_toArray, List.set_cons_zero, List.set_cons_succ])
              refine wpAnyH_take (i := 9) (oi := ⟨some 27, _, _, _, _, _⟩) (v := ?_) rfl (by kernel_rfl) (by kernel_rfl) (by kernel_rfl) (fun _ _ _ h => h) (Or.inl ⟨rfl, ?_⟩) (by assumption) ?_
              rotate_left
              · (intro w hSw; (try dsimp only at hSw); go_simp; (try with_reducible rfl))
              (try simp only [Act.put, List.setIfInBounds_toArray, List.set_cons_zero, List.set_cons_succ])
              refine wpAnyH_ready (rs := [10]) (by kernel_rfl) (by simp) ?_
              refine AllReadyH.cons (o := ⟨some 5, _, _, _, _, _⟩) rfl (fun K hK => ?_) ?_
              · have HQ := QB.new HP
                go_simp
                try go_wp2_with fail
                refine hK.out _ _ trivial (fun hHeld3 => ?_)
                clear hK K
                (try simp only [Act.put, List.setIfInBounds_toArray, List.set_cons_zero, List.set_cons_succ])
                obtain ⟨w5, hw5⟩ : ∃ V, World.alloc w0 (.cells #[.int .i64 0, .int .i64 0] 24) = V := ⟨_, rfl⟩
                rw [hw5] at HQ ⊢
                obtain ⟨g5, hg5⟩ : ∃ m, w0.heap.size = m := ⟨_, rfl⟩
                rw [hg5] at HQ ⊢
                clear hw5 hg5
                refine wpAnyH_ready (rs := [11]) (by kernel_rfl) (by simp) ?_
                refine AllReadyH.cons (o := ⟨none, _, _, _, _, _⟩) rfl (fun K hK => ?_) AllReadyH.nil
                have c0 := HQ.out.2.2.2.2.cell 0
                have c1 := HQ.out.2.2.2.2.cell 1
                have f0 := HQ.out.2.2.2.2.frozen 0
                have f1 := HQ.out.2.2.2.2.frozen 1
                go_simp
                try go_wp2_with fail
                refine hK.out _ _ trivial (fun hEnd => ?_)
                clear hK K c0 c1 f0 f1
                (try simp only [Act.put, List.setIfInBounds_toArray, List.set_cons_zero, List.set_cons_succ])
                replace HQ := QB.set1 HGw.out (QB.set0 HGw.out HQ A) B
                refine wpAnyH_done (by kernel_rfl) ?_ _
                go_wp2_with fail
                go_meet
                exact ⟨_, rfl, HQ⟩
              exact AllReadyH.nil
            refine AllReadyH.cons (o := ⟨some 5, _, _, _, _, _⟩) rfl (fun K hK => ?_) ?_
            · have HQ := QB.new HP
              go_simp
              try go_wp2_with fail
              refine hK.out _ _ trivial (fun hHeld4 => ?_)
              clear hK K
              (try simp only [Act.put, List.setIfInBounds_toArray, List.set_cons_zero, List.set_cons_succ])
              obtain ⟨w5, hw5⟩ : ∃ V, World.alloc w0 (.cells #[.int .i64 0, .int .i64 0] 24) = V := ⟨_, rfl⟩
              rw [hw5] at HQ ⊢
              obtain ⟨g5, hg5⟩ : ∃ m, w0.heap.size = m := ⟨_, rfl⟩
              rw [hg5] at HQ ⊢
              clear hw5 hg5
              refine wpAnyH_ready (rs := [8]) (by kernel_rfl) (by simp) ?_
              refine AllReadyH.cons (o := ⟨some 26, _, _, _, _, _⟩) rfl (fun K hK => ?_) ?_
              · go_simp
                refine (HNB.out _).mono ?_
                rintro e w' ⟨rfl, rfl⟩
                go_wp2_with fail
                refine hK.out _ _ trivial (fun hHeld5 => ?_)
                clear hK K
                (try simp only [Act.put, List.setIfInBounds_toArray, List.set_cons_zero, List.set_cons_succ])
                refine wpAnyH_take (i := 9) (oi := ⟨some 27, _, _, _, _, _⟩) (v := ?_) rfl (by kernel_rfl) (by kernel_rfl) (by kernel_rfl) (fun _ _ _ h => h) (Or.inl ⟨rfl, ?_⟩) (by assumption) ?_
                rotate_left
                · (intro w hSw; (try dsimp only at hSw); go_simp; (try with_reducible rfl))
                (try simp only [Act.put, List.setIfInBounds_toArray, List.set_cons_zero, List.set_cons_succ])
                refine wpAnyH_ready (rs := [11]) (by kernel_rfl) (by simp) ?_
                refine AllReadyH.cons (o := ⟨none, _, _, _, _, _⟩) rfl (fun K hK => ?_) AllReadyH.nil
                have c0 := HQ.out.2.2.2.2.cell 0
                have c1 := HQ.out.2.2.2.2.cell 1
                have f0 := HQ.out.2.2.2.2.frozen 0
                have f1 := HQ.out.2.2.2.2.frozen 1
                go_simp
                try go_wp2_with fail
                refine hK.out _ _ trivial (fun hEnd => ?_)
                clear hK K c0 c1 f0 f1
                (try simp only [Act.put, List.setIfInBounds_toArray, List.set_cons_zero, List.set_cons_succ])
                replace HQ := QB.set1 HGw.out (QB.set0 HGw.out HQ A) B
                refine wpAnyH_done (by kernel_rfl) ?_ _
                go_wp2_with fail
                go_meet
                exact ⟨_, rfl, HQ⟩
              exact AllReadyH.nil
            exact AllReadyH.nil
          refine AllReadyH.cons (o := ⟨some 5, _, _, _, _, _⟩) rfl (fun K hK => ?_) ?_
          · have HQ := QB.new HP
            go_simp
            try go_wp2_with fail
            refine hK.out _ _ trivial (fun hHeld6 => ?_)
            clear hK K
            (try simp only [Act.put, List.setIfInBounds_toArray, List.set_cons_zero, List.set_cons_succ])
            obtain ⟨w5, hw5⟩ : ∃ V, World.alloc w0 (.cells #[.int .i64 0, .int .i64 0] 24) = V := ⟨_, rfl⟩
            rw [hw5] at HQ ⊢
            obtain ⟨g5, hg5⟩ : ∃ m, w0.heap.size = m := ⟨_, rfl⟩
            rw [hg5] at HQ ⊢
            clear hw5 hg5
            refine wpAnyH_ready (rs := [3]) (by kernel_rfl) (by simp) ?_
            refine AllReadyH.cons (o := ⟨some 21, _, _, _, _, _⟩) rfl (fun K hK => ?_) ?_
            · go_simp
              refine (HNA.out _).mono ?_
              rintro e w' ⟨rfl, rfl⟩
              go_wp2_with fail
              refine hK.out _ _ trivial (fun hHeld7 => ?_)
              clear hK K
              (try simp only [Act.put, List.setIfInBounds_toArray, List.set_cons_zero, List.set_cons_succ])
              refine wpAnyH_ready (rs := [8]) (by kernel_rfl) (by simp) ?_
              refine AllReadyH.cons (o := ⟨some 26, _, _, _, _, _⟩) rfl (fun K hK => ?_) ?_
              · go_simp
                refine (HNB.out _).mono ?_
                rintro e w' ⟨rfl, rfl⟩
                go_wp2_with fail
                refine hK.out _ _ trivial (fun hHeld8 => ?_)
                clear hK K
                (try simp only [Act.put, List.setIfInBounds_toArray, List.set_cons_zero, List.set_cons_succ])
                refine wpAnyH_take (i := 9) (oi := ⟨some 27, _, _, _, _, _⟩) (v := ?_) rfl (by kernel_rfl) (by kernel_rfl) (by kernel_rfl) (fun _ _ _ h => h) (Or.inl ⟨rfl, ?_⟩) (by assumption) ?_
                rotate_left
                · (intro w hSw; (try dsimp only at hSw); go_simp; (try with_reducible rfl))
                (try simp only [Act.put, List.setIfInBounds_toArray, List.set_cons_zero, List.set_cons_succ])
                refine wpAnyH_ready (rs := [11]) (by kernel_rfl) (by simp) ?_
                refine AllReadyH.cons (o := ⟨none, _, _, _, _, _⟩) rfl (fun K hK => ?_) AllReadyH.nil
                have c0 := HQ.out.2.2.2.2.cell 0
                have c1 := HQ.out.2.2.2.2.cell 1
                have f0 := HQ.out.2.2.2.2.frozen 0
                have f1 := HQ.out.2.2.2.2.frozen 1
                go_simp
                try go_wp2_with fail
                refine hK.out _ _ trivial (fun hEnd => ?_)
                clear hK K c0 c1 f0 f1
                (try simp only [Act.put, List.setIfInBounds_toArray, List.set_cons_zero, List.set_cons_succ])
                replace HQ := QB.set1 HGw.out (QB.set0 HGw.out HQ A) B
                refine wpAnyH_done (by kernel_rfl) ?_ _
                go_wp2_with fail
                go_meet
                exact ⟨_, rfl, HQ⟩
              exact AllReadyH.nil
            exact AllReadyH.nil
          exact AllReadyH.nil
        case rest =>
          obtain ⟨b5, rfl, HQ⟩ := hcut
          clear HP HNA HNB
          have c0 := HQ.out.2.2.2.2.cell 0
          have c1 := HQ.out.2.2.2.2.cell 1
          go_wp2_with fail
          clear c0 c1
          refine (rtext_any A B (by omega) a1 (by omega) b1 _).mono ?_
          rintro e w6 ⟨rfl, hb⟩
          replace HQ := QB.call HQ hb
          have hR := HR.out
          clear hb HR
          have r0 := HQ.out.2.2.1.cell 0
          have r1 := HQ.out.2.2.1.cell 1
          have fr0 := HQ.out.2.2.1.frozen 0
          have fr1 := HQ.out.2.2.1.frozen 1
          have c0 := HQ.out.2.2.2.2.cell 0
          have c1 := HQ.out.2.2.2.2.cell 1
          by_cases h : 1 ≤ A ∧ 1 ≤ B
          · have e1 : txS A B = Pl.text A B := by unfold txS; rw [if_pos h]
            have e2 : txE A B = 0 := by unfold txE; rw [if_pos h]
            rw [e1, e2]
            clear e1 e2
            by_cases ht : Pl.text A B = s
            · rw [if_pos ⟨h.1, h.2, ht⟩] at hR
              have HF : Hid (prL s = A ∧ prC s = B ∧ prE s = 0) := Lib.hid (by unfold prL prC prE; rw [hR]; exact ⟨rfl, rfl, rfl⟩)
              rw [ht]
              clear hR h ht a0 b0 a1 b1
              go_wp2_with fail
              refine bodyPost_ret (results_place rfl _ _ w.heap.size _ _ rfl HQ.out.2.2.1.put2 rfl) rfl ?_
              exact ⟨by rw [HF.out.1, HF.out.2.1, HF.out.2.2]; rfl, below_put2 HQ.out.2.1 (Nat.le_refl _)⟩
            · rw [if_neg (fun e => ht e.2.2)] at hR
              have HF : Hid (prL s = 0 ∧ prC s = 0 ∧ prE s = 7) := Lib.hid (by unfold prL prC prE; rw [hR]; exact ⟨rfl, rfl, rfl⟩)
              have hne : (Pl.text A B == s) = false := by simpa using ht
              obtain ⟨TX, hTX⟩ : ∃ c, Pl.text A B = c := ⟨_, rfl⟩
              rw [hTX] at hne ⊢
              clear hR h ht a0 b0 a1 b1 hTX
              go_wp2_with fail
              refine bodyPost_ret (results_place rfl _ _ w.heap.size _ _ rfl HQ.out.2.2.1.put2 rfl) rfl ?_
              exact ⟨by rw [HF.out.1, HF.out.2.1, HF.out.2.2]; rfl, below_put2 HQ.out.2.1 (Nat.le_refl _)⟩
          · have e1 : txS A B = [] := by unfold txS; rw [if_neg h]
            have e2 : txE A B = 2 := by unfold txE; rw [if_neg h]
            rw [e1, e2]
            rw [if_neg (fun e => h ⟨e.1, e.2.1⟩)] at hR
            have HF : Hid (prL s = 0 ∧ prC s = 0 ∧ prE s = 7) := Lib.hid (by unfold prL prC prE; rw [hR]; exact ⟨rfl, rfl, rfl⟩)
            clear e1 e2 hR h a0 b0 a1 b1
            go_wp2_with fail
            refine bodyPost_ret (results_place rfl _ _ w.heap.size _ _ rfl HQ.out.2.2.1.put2 rfl) rfl ?_
            exact ⟨by rw [HF.out.1, HF.out.2.1, HF.out.2.2]; rfl, below_put2 HQ.out.2.1 (Nat.le_refl _)⟩
      · have hb58 : ¬ (b.toNat : Int) = 58 := by
          have : b.toNat ≠ 58 := fun e => h58 (UInt8.toNat_inj.1 e)
          omega
        have HN2 : Hid (∀ x ∈ s.take (k + 1), x ≠ 58) := Lib.hid fun x hxx => by
          rw [take_snoc hb] at hxx
          rcases List.mem_append.1 hxx with h | h
          · exact HN.out x h
          · rw [List.mem_singleton.1 h]; exact h58
        clear hb h58 HN
        go_wp2_with fail
        go_roundw
        case rel => exact ⟨k + 1, by omega, by go_num, by first | rfl | trivial, HN2⟩
        case measure => simp [intOf]; omega
    · have hn : Pl.pread s = none := Pl.read_nocolon (by have := HN.out; rwa [List.take_of_length_le (by omega)] at this)
      have HF : Hid (prL s = 0 ∧ prC s = 0 ∧ prE s = 7) := Lib.hid (by unfold prL prC prE; rw [hn]; exact ⟨rfl, rfl, rfl⟩)
      clear hn HN
      have r0 := HP.out.2.2.cell 0
      have r1 := HP.out.2.2.cell 1
      have fr0 := HP.out.2.2.frozen 0
      have fr1 := HP.out.2.2.frozen 1
      go_wp2_with fail
      refine bodyPost_ret (results_place rfl _ _ w.heap.size #[.int .i64 0, .int .i64 0] (0, 0) rfl ?_ rfl) rfl ?_
      · first
          | exact HP.out.2.2.put2
          | exact heap_alloc_new w _
      · refine ⟨by rw [HF.out.1, HF.out.2.1, HF.out.2.2]; rfl, ?_⟩
        first
          | exact below_put2 HP.out.2.1 (Nat.le_refl _)
          | exact below_new (Below.refl _ _) _

end Go.Proofs.YtmoeglecdojhcaaDoor

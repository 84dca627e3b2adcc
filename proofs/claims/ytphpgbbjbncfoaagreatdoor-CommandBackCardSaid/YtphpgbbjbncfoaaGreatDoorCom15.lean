/-
  LAYER 42: rewindref42.Same.
-/
import Derived.Test.YtphpgbbjbncfoaaGreatDoorCom14
namespace Go.Proofs.YtphpgbbjbncfoaaGreatDoor
open Go.ChangeShapes Go.WideShapes Go.ChangeAt Go.RowKit

set_option maxHeartbeats 2000000 in
theorem same_any (A B : Option Addr) (cap cap2 : Nat) (l m : List Cmd.C) (hl : l.length ≤ 1000000) (w : World) (h1 : Rd w w.heap.size A (l.flatMap cC)) (h2 : Rd w w.heap.size B (m.flatMap cC)) :
    Calls Tryz.prog 34 #[.slice A l.length cap, .slice B m.length cap2] w fun e w' => e = .returned (.bool (decide (l = m))) ∧ Below w.heap.size w w' := by
  have H1 := Lib.hid h1
  have H2 := Lib.hid h2
  clear h1 h2
  obtain ⟨D, hD⟩ : ∃ D, decide (l = m) = D := ⟨_, rfl⟩
  rw [hD]
  have HD := Lib.hid hD
  clear hD
  by_cases hlen : l.length = m.length
  · have e1 : ((l.length : Int) == (m.length : Int)) = true := by simp; omega
    go_enter Tryz.func34, Tryz.ntmps34
    go_wp2_with fail
    go_loopw [5] (fun i wr => ∃ k : Nat, k ≤ l.length ∧ i = .int .i64 k ∧ Hid (l.take k = m.take k) ∧ Hid (Below w.heap.size w wr)) (fun i _ => l.length - (intOf i).toNat)
    case atStart => exact ⟨0, Nat.zero_le _, rfl, Lib.hid rfl, Lib.hid (Below.refl _ _)⟩
    case round =>
      obtain ⟨k, hk, rfl, HT, HB⟩ := hrel
      by_cases hlt : k < l.length
      · obtain ⟨⟨q1, a1, n1, v1⟩, hv1⟩ : ∃ v, l[k]? = some v := ⟨_, List.getElem?_eq_getElem hlt⟩
        obtain ⟨⟨q2, a2, n2, v2⟩, hv2⟩ : ∃ v, m[k]? = some v := ⟨_, List.getElem?_eq_getElem (by omega)⟩
        obtain ⟨b1, o1, rfl, _, hc1⟩ := (H1.out.below HB.out).row (fun _ _ => cC_len _) hv1 (by decide)
        obtain ⟨b2, o2, rfl, _, hc2⟩ := (H2.out.below HB.out).row (fun _ _ => cC_len _) hv2 (by decide)
        have x0 : wr.cell? ⟨b1, o1 + k * 4, none⟩ = some (.int .i64 q1) := hc1 0 _ rfl
        have x1 : wr.cell? ⟨b1, o1 + k * 4 + 1, none⟩ = some (.int .i64 a1) := hc1 1 _ rfl
        have x2 : wr.cell? ⟨b1, o1 + k * 4 + 2, none⟩ = some (.string ⟨n1.toArray⟩) := hc1 2 _ rfl
        have x3 : wr.cell? ⟨b1, o1 + k * 4 + 3, none⟩ = some (.string ⟨v1.toArray⟩) := hc1 3 _ rfl
        have y0 : wr.cell? ⟨b2, o2 + k * 4, none⟩ = some (.int .i64 q2) := hc2 0 _ rfl
        have y1 : wr.cell? ⟨b2, o2 + k * 4 + 1, none⟩ = some (.int .i64 a2) := hc2 1 _ rfl
        have y2 : wr.cell? ⟨b2, o2 + k * 4 + 2, none⟩ = some (.string ⟨n2.toArray⟩) := hc2 2 _ rfl
        have y3 : wr.cell? ⟨b2, o2 + k * 4 + 3, none⟩ = some (.string ⟨v2.toArray⟩) := hc2 3 _ rfl
        have k1 : (0 : Int) ≤ (k : Int) := by omega
        have k2 : (k : Int) < (m.length : Int) := by omega
        have k3 : (k : Int) < (l.length : Int) := by omega
        clear hc1 hc2
        by_cases hq : q1 = q2
        · by_cases ha : a1 = a2
          · by_cases hn : n1 = n2
            · by_cases hv : v1 = v2
              · subst hq ha hn hv
                have HN : Hid (l.take (k + 1) = m.take (k + 1)) := Lib.hid (by rw [take_snoc hv1, take_snoc hv2, HT.out])
                clear hv1 hv2
                go_wp2_with fail
                go_region
                all_goals (
                  go_wp2_with fail
                  go_roundw
                  case rel => exact ⟨k + 1, by omega, by go_num, HN, Lib.hid HB.out.drew⟩
                  case measure => simp [intOf]; omega)
              · have hne := hv
                have HF : Hid (D = false) := Lib.hid (by
                  rw [← HD.out]
                  refine decide_eq_false fun e => ?_
                  rw [e] at hv1
                  rw [hv1] at hv2
                  cases hv2
                  exact hne rfl)
                clear hv1 hv2
                go_wp2_with fail
                go_region
                all_goals (
                  go_wp2_with fail
                  go_ret
                  exact ⟨by rw [HF.out]; rfl, HB.out.drew⟩)
            · have hne := hn
              have HF : Hid (D = false) := Lib.hid (by
                rw [← HD.out]
                refine decide_eq_false fun e => ?_
                rw [e] at hv1
                rw [hv1] at hv2
                cases hv2
                exact hne rfl)
              clear hv1 hv2
              go_wp2_with fail
              go_region
              all_goals (
                go_wp2_with fail
                go_ret
                exact ⟨by rw [HF.out]; rfl, HB.out.drew⟩)
          · have hne := ha
            have HF : Hid (D = false) := Lib.hid (by
              rw [← HD.out]
              refine decide_eq_false fun e => ?_
              rw [e] at hv1
              rw [hv1] at hv2
              cases hv2
              exact hne rfl)
            clear hv1 hv2
            go_wp2_with fail
            go_region
            all_goals (
              go_wp2_with fail
              go_ret
              exact ⟨by rw [HF.out]; rfl, HB.out.drew⟩)
        · have hne := hq
          have HF : Hid (D = false) := Lib.hid (by
            rw [← HD.out]
            refine decide_eq_false fun e => ?_
            rw [e] at hv1
            rw [hv1] at hv2
            cases hv2
            exact hne rfl)
          clear hv1 hv2
          go_wp2_with fail
          go_region
          all_goals (
            go_wp2_with fail
            go_ret
            exact ⟨by rw [HF.out]; rfl, HB.out.drew⟩)
      · obtain rfl : k = l.length := by omega
        have HF : Hid (D = true) := Lib.hid (by
          rw [← HD.out]
          have := HT.out
          rw [List.take_length, hlen, List.take_length] at this
          exact decide_eq_true this)
        go_wp2_with fail
        go_ret
        exact ⟨by rw [HF.out]; rfl, HB.out⟩
  · have e1 : ((l.length : Int) == (m.length : Int)) = false := by simp; omega
    have e2 : ¬ (l.length : Int) = (m.length : Int) := by omega
    have HF : Hid (D = false) := Lib.hid (by rw [← HD.out]; exact decide_eq_false fun e => hlen (by rw [e]))
    go_enter Tryz.func34, Tryz.ntmps34
    go_wp2_with fail
    go_ret
    exact ⟨by rw [HF.out]; rfl, Below.refl _ _⟩
end Go.Proofs.YtphpgbbjbncfoaaGreatDoor

/-
  LAYER 23, THE LAWS' HELPERS: whether a list is sorted, compact, contains a number.
-/
import Derived.Test.YtmmehfkiceelkaaDoorCdO
import Derived.Deep.RegionHeld3
namespace Go.Proofs.YtmmehfkiceelkaaDoor
open Go.ChangeShapes Go.WideShapes Go.ChangeAt Go.RowKit Go.Shelf Go.Sort Go.Lib

theorem ints_nil {w : World} {A : Option Addr} {zs : List Int} (h : Rd w w.heap.size A (intsV zs)) (hA : A = none) : zs = [] := by
  apply Classical.byContradiction
  intro hne
  obtain ⟨b, off, e, _⟩ := h.ints hne
  rw [hA] at e
  cases e
theorem contains_any (zs : List Int) (hz : zs.length ≤ 1000) (A : Option Addr) (cap : Nat) (x : Int) (w : World) (h : Rd w w.heap.size A (intsV zs)) :
    Calls Tryd.prog 30 #[.slice A zs.length cap, .int .i64 x] w fun e w' => e = .returned (.bool (zs.contains x)) ∧ w' = w := by
  by_cases hx : zs = []
  · subst hx
    exact Tryd.slices_Contains_int_empty A cap x w
  · obtain ⟨b, off, rfl, _, hc⟩ := h.ints hx
    have := Tryd.slices_Contains_int b off zs.length cap zs x w (Nat.le_refl _) (by omega) hc
    rw [List.take_length] at this
    exact this
theorem cloneN_any (zs : List Int) (hz : zs.length ≤ 1000) (A : Option Addr) (cap : Nat) (w : World) (h : Rd w w.heap.size A (intsV zs)) :
    Calls Tryd.prog 29 #[.slice A zs.length cap] w fun e w' => ∃ v, e = .returned v ∧ w'.ownsRow w.heap.size 3 1 v zs.length (intsV zs) ∧ Below w.heap.size w w' := by
  rcases A with _ | p
  · obtain rfl := ints_nil h rfl
    refine (Tryd.slices_Clone_int_nil 0 cap w).mono ?_
    rintro e w' ⟨rfl, rfl⟩
    exact ⟨_, rfl, World.ownsRow_nil _ _ _ _, Below.refl _ _⟩
  · by_cases hx : zs = []
    · subst hx
      refine (Tryd.slices_Clone_int_zero p cap w).mono ?_
      rintro e w' ⟨v, rfl, ho, _, hb⟩
      exact ⟨v, rfl, ho, hb⟩
    · obtain ⟨b, off, e, _, hc⟩ := h.ints hx
      cases e
      refine (Tryd.slices_Clone_int b off zs.length cap zs w (Nat.le_refl _) (by omega) hc).mono ?_
      rintro e w' ⟨v, rfl, ho, _, hb⟩
      rw [List.take_length] at ho
      exact ⟨v, rfl, ho, hb⟩
theorem compact_same (zs : List Int) (hz : zs.length ≤ 1000) (hc : Lib.compact zs = zs) (v : Value) (base : Nat) (w : World) (h : w.ownsRow base 3 1 v zs.length (intsV zs)) :
    Calls Tryd.prog 28 #[v] w fun e w' => ∃ A cap, e = .returned (.slice A zs.length cap) ∧ ∀ (W0 : World) (n : Nat), n ≤ base → n ≤ w.heap.size → Below n W0 w → Below n W0 w' := by
  by_cases hx : zs = []
  · subst hx
    obtain ⟨A, cap, rfl, _⟩ := own_slice h
    refine (Tryd.slices_Compact_int_empty A cap w).mono ?_
    rintro e w' ⟨rfl, rfl⟩
    exact ⟨A, cap, rfl, fun _ _ _ _ h => h⟩
  · have hv : v ≠ .slice none 0 0 := by
      rintro rfl
      rcases h.2 with ⟨_, h0⟩ | ⟨g, cap, cur, hv, _⟩
      · exact hx (List.eq_nil_of_length_eq_zero h0)
      · cases hv
    obtain ⟨g, cap, rfl, hbg, hgl, hncap, hcm, hlen, hH⟩ := Lib.holds_of_ownsRow h hv
    refine (Tryd.slices_Compact_int g 0 cap zs w hH (by omega) (by omega)).mono ?_
    rintro e w'' ⟨rfl, q, hw''⟩
    rw [hc] at hw'' ⊢
    refine ⟨_, _, rfl, fun W0 n hn hnw hB => ?_⟩
    have hG3 : w.grownBy w'' (some g) := by
      have := grownBy_sortedI (w := w) (g := g) (n := q) (os := #[]) (zs ++ List.replicate (zs.length - zs.length) 0).toArray
      rw [grow_empty] at this
      rw [hw'']
      exact this
    exact hB.grown hG3 (by omega) (fun k e => by cases e; omega)

set_option maxHeartbeats 2000000 in
set_option maxRecDepth 100000 in
theorem isSorted_any (zs : List Int) (hz : zs.length ≤ 2) (hs : ∀ x y, zs = [x, y] → x < y) (A : Option Addr) (cap : Nat) (w : World) (h : Rd w w.heap.size A (intsV zs)) :
    Calls Tryd.prog 27 #[.slice A zs.length cap] w fun e w' => e = .returned (.bool true) ∧ Below w.heap.size w w' := by
  have HR := Lib.hid h
  have HS := Lib.hid hs
  clear h hs
  go_enter Tryd.func27, Tryd.ntmps27
  go_wp2_with fail
  go_loopw [3] (fun i wr => ∃ k : Int, -1 ≤ k ∧ k ≤ (zs.length : Int) - 1 ∧ i = .int .i64 k ∧ Hid (Below w.heap.size w wr)) (fun i _ => (intOf i + 1).toNat)
  case atStart => exact ⟨(zs.length : Int) - 1, by omega, by omega, rfl, Lib.hid (Below.refl _ _)⟩
  case round =>
    obtain ⟨k, hk1, hk2, rfl, HB⟩ := hrel
    by_cases hlt : 0 < k
    · obtain rfl : k = 1 := by omega
      obtain ⟨x, y, rfl⟩ : ∃ x y, zs = [x, y] := by
        match zs, hz, hk2 with
        | [], _, h => simp at h
        | [_], _, h => simp at h
        | [x, y], _, _ => exact ⟨x, y, rfl⟩
        | _ :: _ :: _ :: _, h, _ => simp at h
      have hxy := HS.out x y rfl
      obtain ⟨b, off, rfl, _, hc⟩ := (HR.out.below HB.out).ints (by simp)
      have c0 : wr.cell? ⟨b, off, none⟩ = some (.int .i64 x) := hc 0 (by simp)
      have c1 : wr.cell? ⟨b, off + 1, none⟩ = some (.int .i64 y) := hc 1 (by simp)
      have HL : Hid (∀ W, Calls Tryd.prog 45 #[.int .i64 y, .int .i64 x] W fun e w' => e = .returned (.bool false) ∧ W = w') := Lib.hid fun W => by
        refine (Tryd.cmp_Less_int2 y x W).mono ?_
        rintro e w' ⟨rfl, rfl⟩
        exact ⟨by rw [show decide (y < x) = false from decide_eq_false (by omega)], rfl⟩
      clear hc hxy hk1 hk2
      go_wp2_with fail
      go_region_with (refine (HL.out _).mono ?_; rintro e w' ⟨rfl, rfl⟩)
      all_goals (
        go_wp2_with fail
        go_roundw
        case rel => first | exact ⟨0, by omega, by simp, by first | rfl | go_num, Lib.hid HB.out.drew⟩ | ((repeat apply Exists.intro); exact ⟨⟨0, by omega, by simp, by first | rfl | trivial, Lib.hid HB.out.drew⟩, rfl⟩)
        case measure => simp [intOf])
    · go_wp2_with fail
      go_ret
      exact ⟨rfl, HB.out⟩
end Go.Proofs.YtmmehfkiceelkaaDoor

/-
  LAYER 23: numbers sorted, and equal ones together, in a list of the call's own.
-/
import Derived.Test.YtmmehfkiceelkaaDoorCd7
import Derived.Sort.OwnSortedInts
import Derived.Lib.OwnBridge
namespace Go.Proofs.YtmmehfkiceelkaaDoor
open Go.ChangeShapes Go.WideShapes Go.ChangeAt Go.RowKit Go.Shelf Go.Sort

def intsV (l : List Int) : List Value := l.map (Value.int .i64)
/-- Sorted, equal ones together. -/
def fin (zs : List Int) : List Int := Lib.compact (zs.mergeSort fun x y => decide (x ≤ y))
theorem fin_nil : fin [] = [] := by unfold fin; simp [Lib.compact, Lib.compactUpTo]
theorem fin_one (a : Int) : fin [a] = [a] := by
  unfold fin
  rw [List.mergeSort_singleton]
  refine Lib.compact_all _ fun j hj => ?_
  have : j = 0 := by simpa using hj
  subst this
  simp [Lib.keeps]
theorem compact_two (a b : Int) : Lib.compact [a, b] = if a = b then [a] else [a, b] := by
  unfold Lib.compact
  rw [show [a, b].length = 1 + 1 from rfl, Lib.compactUpTo_succ, show (1 : Nat) = 0 + 1 from rfl, Lib.compactUpTo_succ]
  have h0 : Lib.compactUpTo [a, b].toArray 0 = [] := rfl
  rw [h0]
  by_cases h : a = b
  · subst h
    simp [Lib.keeps]
  · have h' : ¬ b = a := fun e => h e.symm
    simp [Lib.keeps, h, h']
theorem fin_two (a b : Int) : fin [a, b] = if a = b then [a] else if a < b then [a, b] else [b, a] := by
  unfold fin
  have hs : [a, b].mergeSort (fun x y => decide (x ≤ y)) = if a ≤ b then [a, b] else [b, a] := by
    rw [List.mergeSort]
    simp [List.MergeSort.Internal.splitInTwo, List.merge]
  rw [hs]
  by_cases h1 : a = b
  · subst h1
    rw [if_pos (Int.le_refl _), compact_two, if_pos rfl, if_pos rfl]
  · by_cases h2 : a < b
    · rw [if_pos (by omega), compact_two, if_neg h1, if_neg h1, if_pos h2]
    · rw [if_neg (by omega), compact_two, if_neg (fun e => h1 e.symm), if_neg h1, if_neg h2]
theorem sort_own (zs : List Int) (hz : zs.length ≤ 1000) (v : Value) (base : Nat) (w : World) (h : w.ownsRow base 3 1 v zs.length (intsV zs)) (h0 : zs = [] → v = .slice none 0 0) :
    Calls Tryd.prog 43 #[v] w fun e w' => e = .returned (.tuple #[]) ∧ Calls Tryd.prog 28 #[v] w' fun e w'' => ∃ A cap, e = .returned (.slice A (fin zs).length cap) ∧ (fin zs).length ≤ cap ∧ (zs = [] → A = none ∧ cap = 0) ∧ Rd w'' w''.heap.size A (intsV (fin zs)) ∧ ∀ W0 n, n ≤ base → n ≤ w.heap.size → Below n W0 w → Below n W0 w'' := by
  rcases zs with _ | ⟨z, zr⟩
  · obtain rfl := h0 rfl
    refine (Tryd.slices_Sort_int_none none 0 w).mono ?_
    rintro e w' ⟨rfl, rfl⟩
    refine ⟨rfl, ?_⟩
    refine (Tryd.slices_Compact_int_empty none 0 w').mono ?_
    rintro e w'' ⟨rfl, rfl⟩
    rw [fin_nil]
    exact ⟨none, 0, rfl, Nat.le_refl _, fun _ => ⟨rfl, rfl⟩, Rd.nil _ _ _, fun _ _ _ _ h => h⟩
  · have hv : v ≠ .slice none 0 0 := by
      rintro rfl
      rcases h.2 with ⟨_, h0⟩ | ⟨g, cap, cur, hv, _⟩
      · cases h0
      · cases hv
    obtain ⟨g, cap, rfl, hbg, hgl, hncap, hcm, hlen, hH⟩ := Lib.holds_of_ownsRow h hv
    have hne : z :: zr ≠ [] := List.cons_ne_nil _ _
    clear h0
    generalize z :: zr = zs at *
    refine (Tryd.slices_Sort_int g 0 cap zs w hH hgl (by omega)).mono ?_
    rintro e w' ⟨rfl, nn, os, hw'⟩
    refine ⟨rfl, ?_⟩
    have hml : (zs.mergeSort fun x y => decide (x ≤ y)).length = zs.length := List.length_mergeSort _
    have hH2 : Holds (Value.int .i64) w' g 0 (zs.mergeSort fun x y => decide (x ≤ y)).toArray := by
      subst hw'
      exact holds_grow _ _ os g 0 _ (by simpa [putRow, mapBlock, Sort.ahead] using hgl) (holds_putRow _ _ g 0 _ _ (holds_ahead _ w nn g 0 _ hH) (by simp))
    have hG2 : w.grownBy w' (some g) := by subst hw'; exact grownBy_sortedI _
    have hgl2 : g < w'.heap.size := Nat.lt_of_lt_of_le hgl hG2.size
    have hC := Tryd.slices_Compact_int g 0 cap (zs.mergeSort fun x y => decide (x ≤ y)) w' hH2 (by omega) (by omega)
    rw [hml] at hC
    refine hC.mono ?_
    rintro e w'' ⟨rfl, q, hw''⟩
    have hle : (fin zs).length ≤ zs.length := by
      have := Lib.compact_length_le (zs.mergeSort fun x y => decide (x ≤ y))
      rw [hml] at this
      exact this
    refine ⟨some ⟨g, 0, none⟩, cap, rfl, by omega, fun e => ?_, fun _ => ?_, fun W0 n hn hnw hB => ?_⟩
    · exact absurd e hne
    · have hH3 : Holds (Value.int .i64) w'' g 0 (Lib.compact (zs.mergeSort fun x y => decide (x ≤ y)) ++ List.replicate (zs.length - (Lib.compact (zs.mergeSort fun x y => decide (x ≤ y))).length) 0).toArray := by
        subst hw''
        refine holds_putRow _ _ g 0 _ _ (holds_ahead _ w' q g 0 _ hH2) ?_
        simp
        have : (Lib.compact (zs.mergeSort fun x y => decide (x ≤ y))).length ≤ zs.length := hle
        omega
      refine ⟨g, 0, rfl, ?_, fun j u hu => ?_⟩
      · subst hw''
        simpa [putRow, mapBlock, Sort.ahead] using hgl2
      · have hj : j < (fin zs).length := by
          have := (List.getElem?_eq_some_iff.1 hu).1
          simpa [intsV] using this
        have h3 := (hH3 j (by simp; have : j < (Lib.compact (zs.mergeSort fun x y => decide (x ≤ y))).length := hj; omega)).1
        rw [h3]
        have hu2 : u = Value.int .i64 (fin zs)[j] := by
          have := hu
          simp [intsV, List.getElem?_eq_getElem hj] at this
          exact this.symm
        rw [hu2]
        have hj' : j < (Lib.compact (zs.mergeSort fun x y => decide (x ≤ y))).length := hj
        have hget : ∀ (C R : List Int) (hC : j < C.length), (C ++ R).toArray[j]! = C[j] := fun C R hC => by
          rw [getElem!_pos _ _ (by simp; omega)]
          simp [List.getElem_append_left hC]
        rw [hget _ _ hj']
        rfl
    · have hG3 : w'.grownBy w'' (some g) := by
        have := grownBy_sortedI (w := w') (g := g) (n := q) (os := #[]) (Lib.compact (zs.mergeSort fun x y => decide (x ≤ y)) ++ List.replicate (zs.length - (Lib.compact (zs.mergeSort fun x y => decide (x ≤ y))).length) 0).toArray
        rw [grow_empty] at this
        rw [hw'']
        exact this
      exact (hB.grown hG2 hnw (fun k e => by cases e; omega)).grown hG3 (by have := hG2.size; omega) (fun k e => by cases e; omega)
end Go.Proofs.YtmmehfkiceelkaaDoor

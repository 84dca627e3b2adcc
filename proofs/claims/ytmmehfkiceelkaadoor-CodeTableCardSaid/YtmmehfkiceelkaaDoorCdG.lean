/-
  LAYER 23: lists that are read; lists of numbers compared.
-/
import Derived.Test.YtmmehfkiceelkaaDoorCd9
namespace Go.Proofs.YtmmehfkiceelkaaDoor
open Go.ChangeShapes Go.WideShapes Go.ChangeAt Go.RowKit Go.Shelf

theorem rd_call {w w' : World} {A : Option Addr} {cs : List Value} (h : Rd w w.heap.size A cs) (hb : Below w.heap.size w w') : Rd w' w'.heap.size A cs := (h.below hb).more hb.size
theorem rd_alloc {w : World} {A : Option Addr} {cs : List Value} (h : Rd w w.heap.size A cs) (o : Obj) : Rd (w.alloc o) (w.alloc o).heap.size A cs := (h.alloc (Nat.le_refl _) o).more (by simp)
theorem rd_drew {w : World} {A : Option Addr} {cs : List Value} (h : Rd w w.heap.size A cs) : Rd w.drew w.drew.heap.size A cs := h
theorem Rd.ints {w : World} {B : Nat} {A : Option Addr} {xs : List Int} (h : Rd w B A (intsV xs)) (hn : xs ≠ []) : ∃ b off, A = some ⟨b, off, none⟩ ∧ b < B ∧ ∀ j, j < xs.length → w.cell? ⟨b, off + j, none⟩ = some (.int .i64 (xs.getD j 0)) := by
  obtain ⟨b, off, e, hb, hc⟩ := h (by intro e; exact hn (List.map_eq_nil_iff.1 e))
  refine ⟨b, off, e, hb, fun j hj => hc j _ ?_⟩
  unfold intsV
  rw [List.getElem?_map, List.getElem?_eq_getElem hj]
  simp [List.getD, hj]
theorem eq_ints (xs ys : List Int) (A : Option Addr) (c : Nat) (B : Option Addr) (d : Nat) (w : World) {B1 B2 : Nat} (h1 : Rd w B1 A (intsV xs)) (h2 : Rd w B2 B (intsV ys)) (l1 : xs.length ≤ 1000) (l2 : ys.length ≤ 1000) :
    Calls Tryd.prog 19 #[.slice A xs.length c, .slice B ys.length d] w fun e w' => e = .returned (.bool (xs == ys)) ∧ Below w.heap.size w w' := by
  by_cases hx : xs = []
  · subst hx
    refine (Tryd.slices_Equal_int_empty A B c ys.length d w (by omega)).mono ?_
    rintro e w' ⟨rfl, rfl⟩
    refine ⟨?_, Below.refl _ _⟩
    cases ys <;> simp
  · by_cases hy : ys = []
    · subst hy
      refine (Tryd.slices_Equal_int_lens A B xs.length c 0 d w (by intro e; exact hx (List.eq_nil_of_length_eq_zero e))).mono ?_
      rintro e w' ⟨rfl, rfl⟩
      refine ⟨?_, Below.refl _ _⟩
      cases xs <;> simp at hx ⊢
    · obtain ⟨b1, o1, rfl, _, hc1⟩ := h1.ints hx
      obtain ⟨b2, o2, rfl, _, hc2⟩ := h2.ints hy
      refine (Tryd.slices_Equal_int b1 o1 xs.length c b2 o2 ys.length d xs ys w (Nat.le_refl _) (Nat.le_refl _) (by omega) (by omega) hc1 hc2).mono ?_
      rintro e w' ⟨rfl, q, rfl⟩
      refine ⟨by rw [List.take_length, List.take_length], ⟨rfl, rfl, rfl, Nat.le_refl _, fun _ _ => rfl⟩⟩
end Go.Proofs.YtmmehfkiceelkaaDoor

/-
  GENERAL LAWS, MORE: what a type says of itself; a row of one's own as a slice; new cells for an append.
-/
import Derived.Test.YtmmehfkiceelkaaDoorGen
import Derived.Lib.AtoiErrMem
namespace Go.Proofs.YtmmehfkiceelkaaDoor
open Go.ChangeShapes Go.WideShapes Go.ChangeAt Go.RowKit

theorem take_snoc {α : Type} {l : List α} {k : Nat} {x : α} (h : l[k]? = some x) : l.take (k + 1) = l.take k ++ [x] := by
  obtain ⟨hk, rfl⟩ := List.getElem?_eq_some_iff.1 h
  exact List.take_succ_eq_append_getElem hk
/-- A row of its own, as a slice that can be read. -/
theorem own_slice {w : World} {base size n : Nat} {e : TypeId} {v : Value} {cs : List Value} (h : w.ownsRow base e size v n cs) : ∃ A cap, v = .slice A n cap ∧ Rd w w.heap.size A cs := by
  rcases h.2 with ⟨rfl, rfl⟩ | ⟨g, cap, cur, rfl, _, hh, _, _, _, _⟩
  · refine ⟨none, 0, rfl, ?_⟩
    have : cs = [] := List.eq_nil_of_length_eq_zero (by simpa using h.1)
    subst this
    exact Rd.nil _ _ _
  · exact ⟨_, cap, rfl, Rd.of_own h⟩
/-- New cells, for an append of one element of some cells. -/
theorem news_all (w : World) (T : TypeId) (l : List Value) : ∀ (j : Nat) (x : Value), l[j]? = some x → (w.alloc (.cells l.toArray T)).cell? ((⟨w.heap.size, 0, none⟩ : Addr).add j) = some x := by
  intro j x hj
  have : (⟨w.heap.size, 0, none⟩ : Addr).add j = ⟨w.heap.size, j, none⟩ := by unfold Addr.add; split <;> simp_all
  rw [this, (Blk.new w T l.toArray).cell j]
  simpa using hj
theorem mk_toList (l : List UInt8) : (⟨l.toArray⟩ : ByteArray).toList = l := by rw [ByteArray.toList_eq]
theorem str_yes {a b : List UInt8} (h : a = b) : ((⟨a.toArray⟩ : ByteArray).toList == (⟨b.toArray⟩ : ByteArray).toList) = true := by rw [mk_toList, mk_toList, h]; simp
theorem str_no {a b : List UInt8} (h : a ≠ b) : ((⟨a.toArray⟩ : ByteArray).toList == (⟨b.toArray⟩ : ByteArray).toList) = false := by rw [mk_toList, mk_toList]; simpa using h
theorem below_bytes {w w' : World} {e : TypeId} (h : w' = w ∨ ∃ t, w' = Lib.bytesWorld w e t) : Below w.heap.size w w' := by
  rcases h with rfl | ⟨t, rfl⟩
  · exact Below.refl _ _
  · exact Lib.bytesWorld_below _ _ _
end Go.Proofs.YtmmehfkiceelkaaDoor

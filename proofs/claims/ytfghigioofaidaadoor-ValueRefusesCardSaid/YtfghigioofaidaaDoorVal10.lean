/-
  LAYER 16: the number that a numeral says.
-/
import Derived.Test.YtfghigioofaidaaDoorVal9
namespace Go.Proofs.YtfghigioofaidaaDoor
open Go.ChangeShapes Go.WideShapes Go.ChangeAt Go.RowKit

theorem fold_snoc {l : List UInt8} {k : Nat} {c : UInt8} (h : l[k]? = some c) : Val.fold (l.take (k + 1)) = Val.step (Val.fold (l.take k)) c := by
  unfold Val.fold
  rw [take_snoc h, List.foldl_append]
  rfl

/-- The number of a numeral: a fold over its bytes. -/
theorem number_any (l : List UInt8) (hl : l.length ≤ 1000000) (w : World) :
    Calls Tryd.prog 20 #[.string ⟨l.toArray⟩] w fun e w' => e = .returned (.int .i64 (Val.number l)) ∧ Below w.heap.size w w' := by
  go_enter Tryd.func20, Tryd.ntmps20
  go_wp2_with fail
  go_loopw [3, 4, 5] (fun n s i wr => ∃ k : Nat, k ≤ l.length ∧ n = .int .i64 (Val.fold (l.take k)).1 ∧ s = .int .i64 (Val.fold (l.take k)).2 ∧ i = .int .i64 k ∧ Below w.heap.size w wr) (fun _ _ i _ => l.length - (intOf i).toNat)
  case atStart => exact ⟨0, Nat.zero_le _, rfl, rfl, rfl, Below.refl _ _⟩
  case round =>
    obtain ⟨k, hk, rfl, rfl, rfl, hnx⟩ := hrel
    have HB := Lib.hid hnx
    clear hnx
    by_cases hlt : k < l.length
    · obtain ⟨c, hc⟩ : ∃ c, l[k]? = some c := ⟨_, List.getElem?_eq_getElem hlt⟩
      have HS := Lib.hid (fold_snoc hc)
      have hx : ∀ h, ((⟨l.toArray⟩ : ByteArray)[k]'h) = c := by
        intro h
        have := List.getElem?_eq_some_iff.1 hc
        exact this.2
      have hX := Lib.hid hx
      clear hx
      go_wp2_with fail
      · rename_i hb
        rw [hX.out] at hb
        have hb : c.toNat = 45 := by
          have : (c.toNat : Int) = 45 := by simpa using hb
          omega
        have hs := HS.out
        unfold Val.step at hs
        rw [if_pos hb] at hs
        exact ⟨⟨k + 1, hlt, by rw [hs], by rw [hs], by go_num, HB.out⟩, by simp [intOf]; omega⟩
      · rename_i hb
        rw [hX.out] at hb
        have hb : ¬ c.toNat = 45 := by
          have : ¬ (c.toNat : Int) = 45 := by simpa using hb
          omega
        have hs := HS.out
        unfold Val.step at hs
        rw [if_neg hb] at hs
        refine ⟨⟨k + 1, hlt, ?_, by rw [hs], by go_num, HB.out⟩, by simp [intOf]; omega⟩
        rw [hs, hX.out]
        simp [IntKind.wrap_u8]
    · obtain rfl : k = l.length := by omega
      go_wp2_with fail
      go_ret
      exact ⟨rfl, HB.out⟩
end Go.Proofs.YtfghigioofaidaaDoor

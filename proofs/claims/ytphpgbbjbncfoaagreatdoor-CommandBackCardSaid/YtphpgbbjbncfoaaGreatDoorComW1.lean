/-
  LAYER 42, THE LAWS' HELPERS: one line of printable ASCII.
-/
import Derived.Test.YtphpgbbjbncfoaaGreatDoorComQ
namespace Go.Proofs.YtphpgbbjbncfoaaGreatDoor
open Go.ChangeShapes Go.WideShapes Go.ChangeAt Go.RowKit

def plainB (l : List UInt8) : Bool := decide (∀ c ∈ l, 32 ≤ c.toNat ∧ c.toNat ≤ 126)
theorem lplain_any (l : List UInt8) (w : World) (hl : l.length ≤ 9000000000) :
    Calls Tryz.prog 26 #[.string ⟨l.toArray⟩] w fun e w' => e = .returned (.bool (plainB l)) ∧ w = w' := by
  obtain ⟨D, hD⟩ : ∃ D, plainB l = D := ⟨_, rfl⟩
  rw [hD]
  have HD := Lib.hid hD
  clear hD
  go_enter Tryz.func26, Tryz.ntmps26
  go_wp2_with fail
  go_loop [3] (fun i => ∃ k : Nat, k ≤ l.length ∧ i = .int .i64 k ∧ Hid (∀ c ∈ l.take k, 32 ≤ c.toNat ∧ c.toNat ≤ 126)) (fun i => l.length - (intOf i).toNat)
  case atStart => exact ⟨0, Nat.zero_le _, rfl, Lib.hid (by simp)⟩
  case round =>
    obtain ⟨k, hk, rfl, HA⟩ := hrel
    by_cases hlt : k < l.length
    · obtain ⟨c, hc⟩ : ∃ c, l[k]? = some c := ⟨_, List.getElem?_eq_getElem hlt⟩
      have hx : ∀ h, ((⟨l.toArray⟩ : ByteArray)[k]'h) = c := fun h => (List.getElem?_eq_some_iff.1 hc).2
      have HC := Lib.hid hc
      clear hc
      rcases (show c.toNat < 32 ∨ (¬ c.toNat < 32 ∧ 126 < c.toNat) ∨ (32 ≤ c.toNat ∧ c.toNat ≤ 126) by omega) with h | ⟨h, h2⟩ | ⟨h, h2⟩
      · have HF : Hid (D = false) := Lib.hid (by rw [← HD.out]; exact decide_eq_false fun h3 => by have := h3 c (List.mem_of_getElem? HC.out); omega)
        have b1 : (c.toNat : Int) < 32 := by omega
        clear h
        go_wp2_with fail
        go_ret
        exact ⟨by rw [HF.out]; rfl, rfl⟩
      · have HF : Hid (D = false) := Lib.hid (by rw [← HD.out]; exact decide_eq_false fun h3 => by have := h3 c (List.mem_of_getElem? HC.out); omega)
        have b1 : ¬ (c.toNat : Int) < 32 := by omega
        have b2 : (126 : Int) < (c.toNat : Int) := by omega
        clear h h2
        go_wp2_with fail
        go_ret
        exact ⟨by rw [HF.out]; rfl, rfl⟩
      · have HN : Hid (∀ c ∈ l.take (k + 1), 32 ≤ c.toNat ∧ c.toNat ≤ 126) := Lib.hid (by
          rw [take_snoc HC.out]
          intro x hx
          rcases List.mem_append.1 hx with hx | hx
          · exact HA.out x hx
          · rw [List.mem_singleton.1 hx]; exact ⟨h, h2⟩)
        have b1 : ¬ (c.toNat : Int) < 32 := by omega
        have b2 : ¬ (126 : Int) < (c.toNat : Int) := by omega
        clear h h2
        go_wp2_with fail
        go_round
        case rel => exact ⟨k + 1, by omega, by go_num, HN⟩
        case measure => simp [intOf]; omega
    · obtain rfl : k = l.length := by omega
      rw [List.take_length] at HA
      have HF : Hid (D = true) := Lib.hid (by rw [← HD.out]; exact decide_eq_true HA.out)
      go_wp2_with fail
      go_ret
      exact ⟨by rw [HF.out]; rfl, rfl⟩
end Go.Proofs.YtphpgbbjbncfoaaGreatDoor

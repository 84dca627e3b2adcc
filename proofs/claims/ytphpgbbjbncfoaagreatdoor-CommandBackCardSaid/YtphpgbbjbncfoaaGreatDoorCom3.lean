/-
  LAYER 42: strconv.ParseUint of two bytes to the base 16.
-/
import Derived.Test.YtphpgbbjbncfoaaGreatDoorCom2
import Derived.Lib.ConvBytes
import Derived.Lib.AtoiErrMem
import Derived.BigCall
import Derived.BigGuard
namespace Go.Proofs.YtphpgbbjbncfoaaGreatDoor
open Go.ChangeShapes Go.WideShapes Go.ChangeAt Go.RowKit

/-- What the library takes for a digit to the base 16. -/
def hexP (c : UInt8) : Option Nat := if 48 ≤ c.toNat ∧ c.toNat ≤ 57 then some (c.toNat - 48) else if 97 ≤ c.toNat ||| 32 ∧ c.toNat ||| 32 ≤ 102 then some ((c.toNat ||| 32) - 87) else none
def hval (acc : Nat) : List UInt8 → Option Nat
  | [] => some acc
  | c :: r => match hexP c with
    | none => none
    | some d => hval (16 * acc + d) r
theorem hval_some {acc d : Nat} {c : UInt8} {r : List UInt8} (h : hexP c = some d) : hval acc (c :: r) = hval (16 * acc + d) r := by
  rw [hval, h]
theorem hval_none {acc : Nat} {c : UInt8} {r : List UInt8} (h : hexP c = none) : hval acc (c :: r) = none := by
  rw [hval, h]
def uT : Option Nat → Value
  | some n => .tuple #[.int .u64 (n : Int), .nilIface]
  | none => .tuple #[.int .u64 0, .iface 143 (.int .i64 2)]
/-- What a byte is: a digit, a letter up to f, another letter, or neither. -/
theorem hexP_ways (c : UInt8) : (48 ≤ c.toNat ∧ c.toNat ≤ 57 ∧ hexP c = some (c.toNat - 48)) ∨
    (∃ L : Nat, bits .or .u8 (c.toNat : Int) 32 = (L : Int) ∧ 97 ≤ L ∧ L ≤ 102 ∧ 57 < c.toNat ∧ c.toNat ≠ 95 ∧ hexP c = some (L - 87)) ∨
    (∃ L : Nat, bits .or .u8 (c.toNat : Int) 32 = (L : Int) ∧ 102 < L ∧ L ≤ 122 ∧ (c.toNat < 48 ∨ 57 < c.toNat) ∧ c.toNat ≠ 95 ∧ hexP c = none) ∨
    (∃ L : Nat, bits .or .u8 (c.toNat : Int) 32 = (L : Int) ∧ L < 97 ∧ (c.toNat < 48 ∨ 57 < c.toNat) ∧ c.toNat ≠ 95 ∧ hexP c = none) ∨
    (∃ L : Nat, bits .or .u8 (c.toNat : Int) 32 = (L : Int) ∧ 122 < L ∧ L < 256 ∧ (c.toNat < 48 ∨ 57 < c.toNat) ∧ hexP c = none) := by
  have hb : bits .or .u8 (c.toNat : Int) 32 = ((c.toNat ||| 32 : Nat) : Int) := by
    have key : ∀ n : Fin 256, bits .or .u8 (n.val : Int) 32 = ((n.val ||| 32 : Nat) : Int) := by decide +kernel
    exact key ⟨c.toNat, c.toNat_lt⟩
  have h1 : c.toNat ||| 32 < 256 := Nat.or_lt_two_pow (n := 8) c.toNat_lt (by decide)
  have h2 : 97 ≤ c.toNat ||| 32 → c.toNat ||| 32 ≤ 122 → 57 < c.toNat := by
    have key : ∀ n : Fin 256, 97 ≤ n.val ||| 32 → n.val ||| 32 ≤ 122 → 57 < n.val := by decide +kernel
    exact key ⟨c.toNat, c.toNat_lt⟩
  have h3 : c.toNat = 95 → c.toNat ||| 32 = 127 := fun e => by rw [e]; rfl
  unfold hexP
  rw [hb]
  by_cases hd : 48 ≤ c.toNat ∧ c.toNat ≤ 57
  · exact .inl ⟨hd.1, hd.2, by rw [if_pos hd]⟩
  · rw [if_neg hd]
    generalize c.toNat ||| 32 = L at h1 h2 h3 ⊢
    rcases (show L < 97 ∨ (97 ≤ L ∧ L ≤ 102) ∨ (102 < L ∧ L ≤ 122) ∨ 122 < L by omega) with a | a | a | a
    · exact .inr (.inr (.inr (.inl ⟨L, rfl, a, by omega, by omega, by rw [if_neg (by omega)]⟩)))
    · exact .inr (.inl ⟨L, rfl, a.1, a.2, by omega, by omega, by rw [if_pos a]⟩)
    · exact .inr (.inr (.inl ⟨L, rfl, a.1, a.2, by omega, by omega, by rw [if_neg (by omega)]⟩))
    · exact .inr (.inr (.inr (.inr ⟨L, rfl, a, h1, by omega, by rw [if_neg (by omega)]⟩)))

set_option maxHeartbeats 8000000 in
set_option maxRecDepth 100000 in
/-- internal/strconv.ParseUint of two bytes, base 16, 8 bits. -/
theorem iuint_any (bs : List UInt8) (h2 : bs.length = 2) (w : World) :
    Calls Tryz.prog 106 #[.string ⟨bs.toArray⟩, .int .i64 16, .int .i64 8] w fun e w' => e = .returned (uT (hval 0 bs)) ∧ w' = Lib.bytesWorld w 5 ⟨bs.toArray⟩ := by
  have hemp : bs.isEmpty = false := by
    cases bs with
    | nil => simp at h2
    | cons a r => rfl
  have hcv := Lib.run_convert_string_bytes (P := Tryz.prog) w 9 30 5 ⟨bs.toArray⟩ (u := .string) Tryz.underlying9 Tryz.underlying30 Tryz.underlying5
  have hB : ∀ j, j < bs.length → (Lib.bytesWorld w 5 ⟨bs.toArray⟩).cell? ⟨w.heap.size, j, none⟩ = some (.int .u8 (bs.getD j 0).toNat) := fun j hj => Lib.bytesWorld_cell w 5 ⟨bs.toArray⟩ j hj
  obtain ⟨W1, hW1⟩ : ∃ W1, W1 = Lib.bytesWorld w 5 ⟨bs.toArray⟩ := ⟨_, rfl⟩
  rw [← hW1] at hcv hB ⊢
  clear hW1
  rw [mk_size, h2] at hcv
  have hmv : IntKind.u64.wrap (IntKind.u64.wrap 256 - 1) = 255 := by
    rw [IntKind.wrap_u64, IntKind.wrap_u64]
    decide
  have HB := Lib.hid hB
  clear hB
  go_enter Tryz.func106, Tryz.ntmps106
  go_wp2_with fail
  go_loop [12, 13, 101] (fun vu vn vi => ∃ (k acc : Nat) (a : Int), vu = .bool false ∧ vn = .int .u64 a ∧ vi = .int .i64 k ∧ k ≤ 2 ∧ Hid (a = (acc : Int) ∧ (k = 0 → acc = 0) ∧ (k = 1 → acc < 16) ∧ acc < 256 ∧ hval 0 bs = hval acc (bs.drop k)))
    (fun _ _ vi => 2 - (intOf vi).toNat)
  case atStart => exact ⟨0, 0, 0, rfl, rfl, rfl, by omega, Lib.hid ⟨rfl, fun _ => rfl, fun h => by omega, by omega, rfl⟩⟩
  case round =>
    obtain ⟨k, acc, a, rfl, rfl, rfl, hk, hh⟩ := hrel
    obtain ⟨ha, hk0, hk1, hacc, hdec⟩ := hh.out
    clear hh
    by_cases hkn : k < 2
    · have hc := HB.out k (by omega)
      have hdrop : bs.drop k = bs[k]'(by omega) :: bs.drop (k + 1) := List.drop_eq_getElem_cons (by omega)
      have hget : bs.getD k 0 = bs[k]'(by omega) := by simp [List.getD, List.getElem?_eq_getElem (show k < bs.length by omega)]
      rw [hdrop] at hdec
      rw [hget] at hc
      generalize bs[k]'(by omega) = c at hc hdec
      have hc256 : c.toNat < 256 := c.toNat_lt
      have a0 : 0 ≤ a := by omega
      have a1 : a < 16 := by
        rcases (show k = 0 ∨ k = 1 by omega) with e | e
        · have := hk0 e; omega
        · have := hk1 e; omega
      clear hdrop hget
      have HD := Lib.hid hdec
      have HK := Lib.hid hk0
      have HA := Lib.hid ha
      have HE := Lib.hid (show acc < 16 by omega)
      clear hdec hk0 hk1 ha hacc
      rcases hexP_ways c with ⟨q1, q2, q3⟩ | ⟨L, q0, q1, q2, q3, q4, q5⟩ | ⟨L, q0, q1, q2, q3, q4, q5⟩ | ⟨L, q0, q1, q3, q4, q5⟩ | ⟨L, q0, q1, q2, q3, q5⟩
      · have HN : Hid (a * 16 + ((c.toNat : Int) - 48) = ((16 * acc + (c.toNat - 48) : Nat) : Int) ∧ (k + 1 = 0 → 16 * acc + (c.toNat - 48) = 0) ∧ (k + 1 = 1 → 16 * acc + (c.toNat - 48) < 16) ∧ 16 * acc + (c.toNat - 48) < 256 ∧ hval 0 bs = hval (16 * acc + (c.toNat - 48)) (bs.drop (k + 1))) := Lib.hid ⟨by have := HA.out; omega, by omega, fun h => by have := HK.out (by omega); omega, by have := HE.out; omega, HD.out.trans (hval_some q3)⟩
        clear q3
        go_wp2_with fail
        refine ⟨⟨k + 1, _, a * 16 + ((c.toNat : Int) - 48), rfl, (by first | rfl | (congr 1; omega)), (by first | rfl | (congr 1; omega)), by omega, HN⟩, by simp [intOf]; omega⟩
      · have HN : Hid (a * 16 + ((L : Int) - 97 + 10) = ((16 * acc + (L - 87) : Nat) : Int) ∧ (k + 1 = 0 → 16 * acc + (L - 87) = 0) ∧ (k + 1 = 1 → 16 * acc + (L - 87) < 16) ∧ 16 * acc + (L - 87) < 256 ∧ hval 0 bs = hval (16 * acc + (L - 87)) (bs.drop (k + 1))) := Lib.hid ⟨by have := HA.out; omega, by omega, fun h => by have := HK.out (by omega); omega, by have := HE.out; omega, HD.out.trans (hval_some q5)⟩
        have r1 : ((c.toNat : Int) == 95) = false := by simp; omega
        have r2 : ¬ (c.toNat : Int) = 95 := by omega
        have r3 : ¬ (c.toNat : Int) ≤ 57 := by omega
        clear q5 q4
        go_wp2_with fail
        refine (Tryz.internal_strconv_lower _ _).mono ?_
        rintro e w' ⟨rfl, rfl⟩
        rw [q0]
        go_wp2_with fail
        refine (Tryz.internal_strconv_lower _ _).mono ?_
        rintro e w' ⟨rfl, rfl⟩
        rw [q0]
        go_wp2_with fail
        refine (Tryz.internal_strconv_lower _ _).mono ?_
        rintro e w' ⟨rfl, rfl⟩
        rw [q0]
        go_wp2_with fail
        refine ⟨⟨k + 1, _, a * 16 + ((L : Int) - 97 + 10), rfl, (by first | rfl | (congr 1; omega)), (by first | rfl | (congr 1; omega)), by omega, HN⟩, by simp [intOf]; omega⟩
      · have HF := Lib.hid (HD.out.trans (hval_none q5))
        have r1 : ((c.toNat : Int) == 95) = false := by simp; omega
        have r2 : ¬ (c.toNat : Int) = 95 := by omega
        clear q5 q4
        rcases q3 with q3 | q3
        · have r3 : ¬ (48 : Int) ≤ (c.toNat : Int) := by omega
          go_wp2_with fail
          refine (Tryz.internal_strconv_lower _ _).mono ?_
          rintro e w' ⟨rfl, rfl⟩
          rw [q0]
          go_wp2_with fail
          refine (Tryz.internal_strconv_lower _ _).mono ?_
          rintro e w' ⟨rfl, rfl⟩
          rw [q0]
          go_wp2_with fail
          refine (Tryz.internal_strconv_lower _ _).mono ?_
          rintro e w' ⟨rfl, rfl⟩
          rw [q0]
          go_wp2_with fail
          go_ret2
          exact ⟨by rw [HF.out]; rfl, rfl⟩
        · have r3 : ¬ (c.toNat : Int) ≤ 57 := by omega
          go_wp2_with fail
          refine (Tryz.internal_strconv_lower _ _).mono ?_
          rintro e w' ⟨rfl, rfl⟩
          rw [q0]
          go_wp2_with fail
          refine (Tryz.internal_strconv_lower _ _).mono ?_
          rintro e w' ⟨rfl, rfl⟩
          rw [q0]
          go_wp2_with fail
          refine (Tryz.internal_strconv_lower _ _).mono ?_
          rintro e w' ⟨rfl, rfl⟩
          rw [q0]
          go_wp2_with fail
          go_ret2
          exact ⟨by rw [HF.out]; rfl, rfl⟩
      · have HF := Lib.hid (HD.out.trans (hval_none q5))
        have r1 : ((c.toNat : Int) == 95) = false := by simp; omega
        have r2 : ¬ (c.toNat : Int) = 95 := by omega
        clear q5 q4
        rcases q3 with q3 | q3
        · have r3 : ¬ (48 : Int) ≤ (c.toNat : Int) := by omega
          go_wp2_with fail
          refine (Tryz.internal_strconv_lower _ _).mono ?_
          rintro e w' ⟨rfl, rfl⟩
          rw [q0]
          go_wp2_with fail
          go_ret2
          exact ⟨by rw [HF.out]; rfl, rfl⟩
        · have r3 : ¬ (c.toNat : Int) ≤ 57 := by omega
          go_wp2_with fail
          refine (Tryz.internal_strconv_lower _ _).mono ?_
          rintro e w' ⟨rfl, rfl⟩
          rw [q0]
          go_wp2_with fail
          go_ret2
          exact ⟨by rw [HF.out]; rfl, rfl⟩
      · have HF := Lib.hid (HD.out.trans (hval_none q5))
        clear q5
        by_cases q4 : c.toNat = 95
        · obtain rfl : c = 95 := UInt8.toNat_inj.1 q4
          have q0 : bits .or .u8 95 32 = (L : Int) := q0
          clear q4 q3
          go_wp2_with fail
          refine (Tryz.internal_strconv_lower _ _).mono ?_
          rintro e w' ⟨rfl, rfl⟩
          rw [q0]
          go_wp2_with fail
          refine (Tryz.internal_strconv_lower _ _).mono ?_
          rintro e w' ⟨rfl, rfl⟩
          rw [q0]
          go_wp2_with fail
          go_ret2
          exact ⟨by rw [HF.out]; rfl, rfl⟩
        have r1 : ((c.toNat : Int) == 95) = false := by simp; omega
        have r2 : ¬ (c.toNat : Int) = 95 := by omega
        clear q4
        rcases q3 with q3 | q3
        · have r3 : ¬ (48 : Int) ≤ (c.toNat : Int) := by omega
          go_wp2_with fail
          refine (Tryz.internal_strconv_lower _ _).mono ?_
          rintro e w' ⟨rfl, rfl⟩
          rw [q0]
          go_wp2_with fail
          refine (Tryz.internal_strconv_lower _ _).mono ?_
          rintro e w' ⟨rfl, rfl⟩
          rw [q0]
          go_wp2_with fail
          go_ret2
          exact ⟨by rw [HF.out]; rfl, rfl⟩
        · have r3 : ¬ (c.toNat : Int) ≤ 57 := by omega
          go_wp2_with fail
          refine (Tryz.internal_strconv_lower _ _).mono ?_
          rintro e w' ⟨rfl, rfl⟩
          rw [q0]
          go_wp2_with fail
          refine (Tryz.internal_strconv_lower _ _).mono ?_
          rintro e w' ⟨rfl, rfl⟩
          rw [q0]
          go_wp2_with fail
          go_ret2
          exact ⟨by rw [HF.out]; rfl, rfl⟩
    · have hkk : k = 2 := by omega
      subst hkk
      have hF : hval acc (bs.drop 2) = some acc := by rw [List.drop_eq_nil_of_le (by omega)]; rfl
      rw [hF] at hdec
      subst ha
      have HD := Lib.hid hdec
      clear hdec hF hk0 hk1
      go_wp2_with fail
      go_ret2
      exact ⟨by rw [HD.out]; rfl, rfl⟩
end Go.Proofs.YtphpgbbjbncfoaaGreatDoor

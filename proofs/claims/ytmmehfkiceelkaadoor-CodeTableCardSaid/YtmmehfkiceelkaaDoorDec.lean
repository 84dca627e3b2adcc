/-
  PLAIN LAWS ON DECIMAL NUMERALS: the numeral of a number is read back as that number, by the library's parse and by a fold that wraps; different numbers have different numerals; digits without a zero ahead are the numeral of their value.
-/
import Derived.Lib.ItoaNum
import Derived.Lib.ItoaLen
import Derived.Lib.ParseIntBTie
import Derived.Lib.AtoiAll
namespace Go.Proofs.YtmmehfkiceelkaaDoor.Dec
open Go.Lib

def isDig (c : UInt8) : Prop := 48 ≤ c.toNat ∧ c.toNat ≤ 57
instance (c : UInt8) : Decidable (isDig c) := inferInstanceAs (Decidable (_ ∧ _))

/-- The value of digits, behind what the digits before spell. -/
def val (acc : Nat) : List UInt8 → Nat
  | [] => acc
  | c :: r => val (acc * 10 + (c.toNat - 48)) r

theorem val_append : ∀ (l r : List UInt8) (acc : Nat), val acc (l ++ r) = val (val acc l) r
  | [], _, _ => rfl
  | _ :: l, r, _ => val_append l r _

theorem val_ge : ∀ (l : List UInt8) (acc : Nat), acc ≤ val acc l
  | [], _ => Nat.le_refl _
  | c :: l, acc => by
    have := val_ge l (acc * 10 + (c.toNat - 48))
    show acc ≤ val (acc * 10 + (c.toNat - 48)) l
    omega

theorem digByte (d : Nat) (h : d < 10) : (UInt8.ofNat (48 + d)).toNat = 48 + d := by
  rw [UInt8.toNat_ofNat']
  exact Nat.mod_eq_of_lt (by omega)

theorem dec_small {u : Nat} (h : u < 10) : decDigits u = [UInt8.ofNat (48 + u)] := by rw [decDigits, dif_pos h]
theorem dec_big {u : Nat} (h : ¬ u < 10) : decDigits u = decDigits (u / 10) ++ [UInt8.ofNat (48 + u % 10)] := by rw [decDigits, dif_neg h]

theorem val_dec (u : Nat) : val 0 (decDigits u) = u := by
  induction u using Nat.strongRecOn with
  | _ u ih =>
    by_cases h : u < 10
    · rw [dec_small h]
      show 0 * 10 + ((UInt8.ofNat (48 + u)).toNat - 48) = u
      rw [digByte u h]
      omega
    · rw [dec_big h, val_append, ih (u / 10) (by omega)]
      show u / 10 * 10 + ((UInt8.ofNat (48 + u % 10)).toNat - 48) = u
      rw [digByte _ (Nat.mod_lt _ (by decide))]
      omega

theorem dec_dig (u : Nat) : ∀ c ∈ decDigits u, isDig c := by
  induction u using Nat.strongRecOn with
  | _ u ih =>
    by_cases h : u < 10
    · rw [dec_small h]
      intro c hc
      rw [List.mem_singleton.1 hc]
      unfold isDig
      rw [digByte u h]
      omega
    · rw [dec_big h]
      intro c hc
      rcases List.mem_append.1 hc with hc | hc
      · exact ih (u / 10) (by omega) c hc
      · rw [List.mem_singleton.1 hc]
        unfold isDig
        rw [digByte _ (Nat.mod_lt _ (by decide))]
        omega

theorem dec_ne (u : Nat) : decDigits u ≠ [] := by
  by_cases h : u < 10
  · rw [dec_small h]; simp
  · rw [dec_big h]; simp

theorem dec_len_pos (u : Nat) : 1 ≤ (decDigits u).length := List.length_pos_iff.2 (dec_ne u)

theorem dec_inj {u v : Nat} (h : decDigits u = decDigits v) : u = v := by
  have := congrArg (val 0) h
  rwa [val_dec, val_dec] at this

/-- The first digit is no zero, but for 0. -/
theorem dec_head (u : Nat) (h : 1 ≤ u) : ∃ c r, decDigits u = c :: r ∧ 49 ≤ c.toNat ∧ c.toNat ≤ 57 := by
  induction u using Nat.strongRecOn with
  | _ u ih =>
    by_cases h1 : u < 10
    · exact ⟨_, [], dec_small h1, by rw [digByte u h1]; omega, by rw [digByte u h1]; omega⟩
    · obtain ⟨c, r, e, h2, h3⟩ := ih (u / 10) (by omega) (by omega)
      exact ⟨c, r ++ [UInt8.ofNat (48 + u % 10)], by rw [dec_big h1, e]; rfl, h2, h3⟩

theorem byte_eq {c : UInt8} {d : Nat} (h : c.toNat = 48 + d) (hd : d < 10) : UInt8.ofNat (48 + d) = c := by
  apply UInt8.toNat_inj.1
  rw [digByte d hd, h]

/-- Digits, the first of which is no zero, are the numeral of their value. -/
theorem dec_val : ∀ (n : Nat) (l : List UInt8), l.length = n → l ≠ [] → (∀ c ∈ l, isDig c) → (∀ c r, l = c :: r → c.toNat ≠ 48) → 1 ≤ val 0 l ∧ decDigits (val 0 l) = l
  | 0, l, hn, hne, _, _ => absurd (List.length_eq_zero_iff.1 hn) hne
  | n + 1, l, hn, hne, hd, hz => by
    obtain ⟨r, c, rfl⟩ : ∃ r c, l = r ++ [c] := ⟨l.dropLast, l.getLast hne, (List.dropLast_concat_getLast hne).symm⟩
    have hc := hd c (by simp)
    unfold isDig at hc
    have hv : val 0 (r ++ [c]) = val 0 r * 10 + (c.toNat - 48) := by rw [val_append]; rfl
    by_cases hr : r = []
    · subst hr
      have hz' := hz c [] rfl
      have hv' : val 0 ([] ++ [c]) = c.toNat - 48 := by rw [hv]; show 0 * 10 + _ = _; omega
      refine ⟨by omega, ?_⟩
      rw [hv', dec_small (by omega), byte_eq (c := c) (d := c.toNat - 48) (by omega) (by omega)]
      rfl
    · have hl : r.length = n := by simpa using hn
      obtain ⟨h1, h2⟩ := dec_val n r hl hr (fun x hx => hd x (by simp [hx])) (fun x s e => hz x (s ++ [c]) (by rw [e]; rfl))
      refine ⟨by omega, ?_⟩
      rw [dec_big (by omega), show val 0 (r ++ [c]) / 10 = val 0 r by omega, h2, show val 0 (r ++ [c]) % 10 = c.toNat - 48 by omega, byte_eq (c := c) (d := c.toNat - 48) (by omega) (by omega)]

theorem dec_val' (l : List UInt8) (hne : l ≠ []) (hd : ∀ c ∈ l, isDig c) (hz : (∀ c r, l = c :: r → c.toNat ≠ 48) ∨ l.length = 1) : decDigits (val 0 l) = l := by
  rcases hz with hz | hz
  · exact (dec_val _ l rfl hne hd hz).2
  · match l, hz with
    | [c], _ =>
      have hc := hd c (by simp)
      unfold isDig at hc
      have hv : val 0 [c] = c.toNat - 48 := by show 0 * 10 + _ = _; omega
      rw [hv, dec_small (by omega), byte_eq (c := c) (d := c.toNat - 48) (by omega) (by omega)]

/-! ### The library's parse -/

theorem pu_ok : ∀ (l : List UInt8) (acc u : Nat), parseUint10 acc l = .ok u → acc < 18446744073709551616 → (∀ c ∈ l, isDig c) ∧ u = val acc l ∧ u < 18446744073709551616
  | [], acc, u, h, ha => by
    simp only [parseUint10] at h
    injection h with h
    exact ⟨by simp, by rw [← h]; rfl, by omega⟩
  | c :: r, acc, u, h, ha => by
    simp only [parseUint10] at h
    by_cases h1 : 48 ≤ c.toNat ∧ c.toNat ≤ 57
    · rw [if_pos h1] at h
      by_cases h2 : 1844674407370955162 ≤ acc
      · rw [if_pos h2] at h; cases h
      · rw [if_neg h2] at h
        by_cases h3 : 18446744073709551616 ≤ acc * 10 + (c.toNat - 48)
        · rw [if_pos h3] at h; cases h
        · rw [if_neg h3] at h
          obtain ⟨a, b, d⟩ := pu_ok r _ u h (by omega)
          exact ⟨by intro x hx; rcases List.mem_cons.1 hx with rfl | hx; exact h1; exact a x hx, b, d⟩
    · rw [if_neg h1] at h; cases h

theorem pu_digits : ∀ (l : List UInt8) (acc : Nat), (∀ c ∈ l, isDig c) → val acc l < 18446744073709551616 → parseUint10 acc l = .ok (val acc l)
  | [], _, _, _ => rfl
  | c :: r, acc, hd, hv => by
    have h1 : 48 ≤ c.toNat ∧ c.toNat ≤ 57 := hd c (by simp)
    have hv' : val (acc * 10 + (c.toNat - 48)) r < 18446744073709551616 := hv
    have hge := val_ge r (acc * 10 + (c.toNat - 48))
    simp only [parseUint10]
    rw [if_pos h1, if_neg (by omega), if_neg (by omega)]
    exact pu_digits r _ (fun x hx => hd x (by simp [hx])) hv'

theorem pu_great : ∀ (l : List UInt8) (acc : Nat), (∀ c ∈ l, isDig c) → 18446744073709551616 ≤ val acc l → acc < 18446744073709551616 → parseUint10 acc l = .range
  | [], acc, _, hv, ha => by have : val acc [] = acc := rfl; omega
  | c :: r, acc, hd, hv, ha => by
    have h1 : 48 ≤ c.toNat ∧ c.toNat ≤ 57 := hd c (by simp)
    have hv' : 18446744073709551616 ≤ val (acc * 10 + (c.toNat - 48)) r := hv
    simp only [parseUint10]
    rw [if_pos h1]
    by_cases h2 : 1844674407370955162 ≤ acc
    · rw [if_pos h2]
    · rw [if_neg h2]
      by_cases h3 : 18446744073709551616 ≤ acc * 10 + (c.toNat - 48)
      · rw [if_pos h3]
      · rw [if_neg h3]
        exact pu_great r _ (fun x hx => hd x (by simp [hx])) hv' (by omega)

theorem mag_digits {l : List UInt8} (hne : l ≠ []) (hd : ∀ c ∈ l, isDig c) (hv : val 0 l < 18446744073709551616) : parseMag l = .ok (val 0 l) := by
  unfold parseMag
  rw [if_neg hne]
  exact pu_digits l 0 hd hv
theorem mag_great {l : List UInt8} (hne : l ≠ []) (hd : ∀ c ∈ l, isDig c) (hv : 18446744073709551616 ≤ val 0 l) : parseMag l = .range := by
  unfold parseMag
  rw [if_neg hne]
  exact pu_great l 0 hd hv (by decide)
theorem mag_ok {l : List UInt8} {u : Nat} (h : parseMag l = .ok u) : l ≠ [] ∧ (∀ c ∈ l, isDig c) ∧ u = val 0 l ∧ u < 18446744073709551616 := by
  unfold parseMag at h
  by_cases hl : l = []
  · rw [if_pos hl] at h; cases h
  · rw [if_neg hl] at h
    exact ⟨hl, pu_ok l 0 u h (by decide)⟩

/-- Digits alone. -/
theorem atoi_digits {l : List UInt8} (hne : l ≠ []) (hd : ∀ c ∈ l, isDig c) : atoiAll l = if val 0 l < 9223372036854775808 then .ok (val 0 l : Int) else .range := by
  match l, hne with
  | c :: r, hne =>
    have h1 : 48 ≤ c.toNat ∧ c.toNat ≤ 57 := hd c (by simp)
    have h43 : ¬ c.toNat = 43 := by omega
    have h45 : ¬ c.toNat = 45 := by omega
    by_cases hb : val 0 (c :: r) < 18446744073709551616
    · have hm := mag_digits hne hd hb
      by_cases hc : val 0 (c :: r) < 9223372036854775808
      · simp [atoiAll, h43, h45, hm, hc]
      · simp [atoiAll, h43, h45, hm, hc]
    · have hm := mag_great hne hd (by omega)
      have hc : ¬ val 0 (c :: r) < 9223372036854775808 := by omega
      simp [atoiAll, h43, h45, hm, hc]

/-- A sign and digits. -/
theorem atoi_minus {l : List UInt8} (hne : l ≠ []) (hd : ∀ c ∈ l, isDig c) : atoiAll (45 :: l) = if val 0 l ≤ 9223372036854775808 then .ok (-(val 0 l : Int)) else .range := by
  have h45 : (45 : UInt8).toNat = 45 := rfl
  by_cases hb : val 0 l < 18446744073709551616
  · have hm := mag_digits hne hd hb
    by_cases hc : val 0 l ≤ 9223372036854775808
    · simp [atoiAll, h45, hm, hc]
    · simp [atoiAll, h45, hm, hc]
  · have hm := mag_great hne hd (by omega)
    have hc : ¬ val 0 l ≤ 9223372036854775808 := by omega
    simp [atoiAll, h45, hm, hc]

/-! ### The numeral of an int64 -/

theorem itoa_nn {n : Int} (h : 0 ≤ n) : itoa n = decDigits n.toNat := by unfold itoa; rw [if_neg (by omega)]
theorem itoa_neg {n : Int} (h : n < 0) : itoa n = 45 :: decDigits n.natAbs := by unfold itoa; rw [if_pos h]

theorem itoa_ne (n : Int) : itoa n ≠ [] := by
  by_cases h : n < 0
  · rw [itoa_neg h]; simp
  · rw [itoa_nn (by omega)]; exact dec_ne _

theorem atoi_itoa {n : Int} (h0 : -9223372036854775808 ≤ n) (h1 : n ≤ 9223372036854775807) : atoiAll (itoa n) = .ok n := by
  by_cases h : n < 0
  · rw [itoa_neg h, atoi_minus (dec_ne _) (dec_dig _), val_dec, if_pos (by omega)]
    congr 1
    omega
  · rw [itoa_nn (by omega), atoi_digits (dec_ne _) (dec_dig _), val_dec, if_pos (by omega)]
    congr 1
    omega

theorem head_dig (u : Nat) : ∃ c r, decDigits u = c :: r ∧ isDig c := by
  match h : decDigits u, dec_ne u with
  | c :: r, _ => exact ⟨c, r, rfl, dec_dig u c (by rw [h]; simp)⟩

theorem itoa_inj {m n : Int} (h : itoa m = itoa n) : m = n := by
  by_cases hm : m < 0 <;> by_cases hn : n < 0
  · rw [itoa_neg hm, itoa_neg hn] at h
    have := dec_inj (List.cons.inj h).2
    omega
  · rw [itoa_neg hm, itoa_nn (by omega)] at h
    obtain ⟨c, r, e, hc⟩ := head_dig n.toNat
    rw [e] at h
    have := (List.cons.inj h).1
    subst this
    unfold isDig at hc
    exact absurd hc (by decide)
  · rw [itoa_neg hn, itoa_nn (by omega)] at h
    obtain ⟨c, r, e, hc⟩ := head_dig m.toNat
    rw [e] at h
    have := (List.cons.inj h).1
    subst this
    unfold isDig at hc
    exact absurd hc (by decide)
  · rw [itoa_nn (by omega), itoa_nn (by omega)] at h
    have := dec_inj h
    omega

/-- A sign or a digit: what a numeral is made of. -/
theorem itoa_bytes (n : Int) : ∀ c ∈ itoa n, c.toNat = 45 ∨ isDig c := by
  by_cases h : n < 0
  · rw [itoa_neg h]
    intro c hc
    rcases List.mem_cons.1 hc with rfl | hc
    · exact .inl rfl
    · exact .inr (dec_dig _ c hc)
  · rw [itoa_nn (by omega)]
    exact fun c hc => .inr (dec_dig _ c hc)

theorem dec_length_le {u : Nat} (h : u < 18446744073709551616) : (decDigits u).length ≤ 20 := by rw [decDigits_length]; exact nDigits_le20 u h

theorem nDigits_le_of (k : Nat) : ∀ u, u < 10 ^ k → 1 ≤ k → nDigits u ≤ k := by
  induction k with
  | zero => intro u _ h; omega
  | succ k ih =>
    intro u hu _
    by_cases h : u < 10
    · rw [nDigits_small h]; omega
    · rw [nDigits_big h]
      rw [Nat.pow_succ] at hu
      by_cases hk : 1 ≤ k
      · have := ih (u / 10) (by omega) hk
        omega
      · obtain rfl : k = 0 := by omega
        omega

theorem itoa_length {n : Int} (h0 : -9223372036854775808 ≤ n) (h1 : n ≤ 9223372036854775807) : (itoa n).length ≤ 20 := by
  by_cases h : n < 0
  · rw [itoa_neg h, List.length_cons, decDigits_length]
    have := nDigits_le_of 19 n.natAbs (by omega) (by decide)
    omega
  · rw [itoa_nn (by omega), decDigits_length]
    have := nDigits_le_of 19 n.toNat (by omega) (by decide)
    omega

end Go.Proofs.YtmmehfkiceelkaaDoor.Dec

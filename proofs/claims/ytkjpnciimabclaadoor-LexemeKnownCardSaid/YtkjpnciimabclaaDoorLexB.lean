/-
  PLAIN LAWS OF LAYER 4: digits that say more than an int64; what is a number, in the reference's words.
-/
import Derived.Test.YtkjpnciimabclaaDoorLexA
import GoSem.Op.String
namespace Go.Proofs.YtkjpnciimabclaaDoor.Lex
open Go.Lib Go.Proofs.YtkjpnciimabclaaDoor.Dec

def most : List UInt8 := [57, 50, 50, 51, 51, 55, 50, 48, 51, 54, 56, 53, 52, 55, 55, 53, 56, 48, 55]
/-- A string that is greater, byte by byte. -/
def above (a b : List UInt8) : Bool := !(Go.Op.bytesLess a b || a == b)
def great (d : List UInt8) : Bool := decide (19 < d.length) || (decide (d.length = 19) && above d most)

theorem val_lt : ∀ (a b : List UInt8) (x y : Nat), a.length = b.length → (∀ c ∈ a, isDig c) → (∀ c ∈ b, isDig c) → x < y → val x a < val y b
  | [], [], x, y, _, _, _, h => h
  | c :: a, d :: b, x, y, hl, ha, hb, h => by
    have hc := ha c (by simp)
    have hd := hb d (by simp)
    unfold isDig at hc hd
    exact val_lt a b _ _ (by simpa using hl) (fun z hz => ha z (by simp [hz])) (fun z hz => hb z (by simp [hz])) (by omega)
  | [], _ :: _, _, _, hl, _, _, _ => by simp at hl
  | _ :: _, [], _, _, hl, _, _, _ => by simp at hl

theorem less_val : ∀ (a b : List UInt8) (x : Nat), a.length = b.length → (∀ c ∈ a, isDig c) → (∀ c ∈ b, isDig c) → Go.Op.bytesLess a b = decide (val x a < val x b) ∧ (a = b ↔ val x a = val x b)
  | [], [], x, _, _, _ => ⟨(decide_eq_false (Nat.lt_irrefl x)).symm, fun _ => rfl, fun _ => rfl⟩
  | c :: a, d :: b, x, hl, ha, hb => by
    have hc := ha c (by simp)
    have hd := hb d (by simp)
    unfold isDig at hc hd
    have hl' : a.length = b.length := by simpa using hl
    have ha' : ∀ z ∈ a, isDig z := fun z hz => ha z (by simp [hz])
    have hb' : ∀ z ∈ b, isDig z := fun z hz => hb z (by simp [hz])
    unfold Go.Op.bytesLess val
    rcases Nat.lt_trichotomy c.toNat d.toNat with h | h | h
    · have h1 := val_lt a b (x * 10 + (c.toNat - 48)) (x * 10 + (d.toNat - 48)) hl' ha' hb' (by omega)
      have h2 : c < d := UInt8.lt_iff_toNat_lt.2 h
      refine ⟨by simp [h2, h1], ⟨fun e => ?_, fun e => by omega⟩⟩
      cases e; omega
    · obtain rfl : c = d := UInt8.toNat_inj.1 h
      obtain ⟨i1, i2⟩ := less_val a b (x * 10 + (c.toNat - 48)) hl' ha' hb'
      refine ⟨by rw [i1]; simp [UInt8.lt_irrefl], ⟨fun e => i2.1 (by simpa using e), fun e => by rw [i2.2 e]⟩⟩
    · have h1 := val_lt b a (x * 10 + (d.toNat - 48)) (x * 10 + (c.toNat - 48)) hl'.symm hb' ha' (by omega)
      have h2 : ¬ c < d := fun e => by have := UInt8.lt_iff_toNat_lt.1 e; omega
      have h3 : (c == d) = false := by rw [beq_eq_false_iff_ne]; rintro rfl; omega
      refine ⟨?_, ⟨fun e => ?_, fun e => by omega⟩⟩
      · rw [decide_eq_false h2, h3]
        simp
        omega
      · cases e; omega
  | [], _ :: _, _, hl, _, _ => by simp at hl
  | _ :: _, [], _, hl, _, _ => by simp at hl

theorem val_upper : ∀ (l : List UInt8) (x : Nat), (∀ c ∈ l, isDig c) → val x l < (x + 1) * 10 ^ l.length
  | [], x, _ => by show x < _; simp
  | c :: l, x, h => by
    have hc := h c (by simp)
    unfold isDig at hc
    have := val_upper l (x * 10 + (c.toNat - 48)) (fun z hz => h z (by simp [hz]))
    have h2 : (x * 10 + (c.toNat - 48) + 1) * 10 ^ l.length ≤ (x * 10 + 10) * 10 ^ l.length := Nat.mul_le_mul_right _ (by omega)
    show val (x * 10 + (c.toNat - 48)) l < _
    rw [List.length_cons, Nat.pow_succ, show (x + 1) * (10 ^ l.length * 10) = (x * 10 + 10) * 10 ^ l.length by rw [Nat.mul_comm (10 ^ l.length) 10, ← Nat.mul_assoc, Nat.add_mul, Nat.one_mul]]
    omega
theorem val_lower : ∀ (l : List UInt8) (x : Nat), x * 10 ^ l.length ≤ val x l
  | [], x => by show _ ≤ x; simp
  | c :: l, x => by
    have := val_lower l (x * 10 + (c.toNat - 48))
    have h2 : (x * 10) * 10 ^ l.length ≤ (x * 10 + (c.toNat - 48)) * 10 ^ l.length := Nat.mul_le_mul_right _ (by omega)
    show _ ≤ val (x * 10 + (c.toNat - 48)) l
    rw [List.length_cons, Nat.pow_succ, show x * (10 ^ l.length * 10) = x * 10 * 10 ^ l.length by rw [Nat.mul_comm (10 ^ l.length) 10, ← Nat.mul_assoc]]
    omega

/-- Digits without a zero in front: more than an int64 can hold. -/
theorem great_val {d : List UInt8} (hd : ∀ c ∈ d, isDig c) (hz : (∀ c r, d = c :: r → c.toNat ≠ 48) ∨ d.length = 1) : great d = decide (9223372036854775808 ≤ val 0 d) := by
  have hm : val 0 most = 9223372036854775807 := by decide +kernel
  have hmd : ∀ c ∈ most, isDig c := by decide
  by_cases h1 : 19 < d.length
  · unfold great
    rw [decide_eq_true h1, Bool.true_or]
    symm
    rw [decide_eq_true_iff]
    cases d with
    | nil => simp at h1
    | cons c r =>
      have hc := hd c (by simp)
      unfold isDig at hc
      rcases hz with hz | hz
      · have h0 := hz c r rfl
        have h2 := val_lower r (c.toNat - 48)
        have h3 : 1 * 10 ^ 19 ≤ (c.toNat - 48) * 10 ^ r.length := Nat.mul_le_mul (by omega) (Nat.pow_le_pow_right (by omega) (by simp at h1; omega))
        show _ ≤ val (0 * 10 + (c.toNat - 48)) r
        rw [Nat.zero_mul, Nat.zero_add]
        exact Nat.le_trans (show 9223372036854775808 ≤ 1 * 10 ^ 19 by decide) (Nat.le_trans h3 h2)
      · omega
  · by_cases h2 : d.length = 19
    · unfold great above
      obtain ⟨l1, l2⟩ := less_val d most 0 (by rw [h2]; rfl) hd hmd
      rw [hm] at l1 l2
      rw [decide_eq_false h1, decide_eq_true h2, l1, Bool.false_or, Bool.true_and]
      by_cases e : d = most
      · have := l2.1 e
        simp [e, hm]
      · have h3 : ¬ val 0 d = 9223372036854775807 := fun h => e (l2.2 h)
        rw [show (d == most) = false by simpa using e]
        rw [Bool.eq_iff_iff]
        simp
        omega
    · unfold great
      rw [decide_eq_false h1, decide_eq_false h2]
      have h3 := val_upper d 0 hd
      have h4 : (0 + 1) * 10 ^ d.length ≤ 1 * 10 ^ 18 := Nat.mul_le_mul (by omega) (Nat.pow_le_pow_right (by omega) (by omega))
      have h5 : (1 : Nat) * 10 ^ 18 = 1000000000000000000 := by decide
      symm
      simp
      omega

/-- What is bad about digits, in the reference's words. -/
def headBad : List UInt8 → Bool
  | [] => false
  | c :: _ => letr c || decide (c.toNat = 95)
def zeroBad (d : List UInt8) : Bool := decide (1 < d.length) && decide (d.head? = some 48)

theorem numOk_ref {d r : List UInt8} (hne : d ≠ []) (hd : ∀ c ∈ d, dig c = true) (hr : ∀ c s, r = c :: s → dig c = false) : numOk d r = !(headBad r || zeroBad d || great d) := by
  have hD : ∀ c ∈ d, isDig c := fun c hc => by simpa [dig, isDig] using hd c hc
  have hh : numOk d r = ((match atoiAll d with | .ok n => decide (itoa n = d) | _ => false) && !headBad r) := by
    unfold numOk
    rw [← parseIntB_64]
    cases r with
    | nil => rfl
    | cons c s =>
      have := hr c s rfl
      simp [headBad, word, this]
      rfl
  rw [hh, atoi_digits hne hD]
  by_cases hz : zeroBad d = true
  · rw [hz, Bool.or_true, Bool.true_or, Bool.not_true]
    have h2 : 1 < d.length ∧ d.head? = some 48 := by simpa [zeroBad] using hz
    have key : decDigits (val 0 d) ≠ d := by
      intro e
      by_cases h0 : 1 ≤ val 0 d
      · obtain ⟨c, s, e1, h3, h4⟩ := dec_head (val 0 d) h0
        rw [e] at e1
        rw [e1] at h2
        obtain rfl : c = 48 := by simpa using h2.2
        simp at h3
      · have : val 0 d = 0 := by omega
        rw [this] at e
        rw [dec_small (by omega)] at e
        have := congrArg List.length e
        simp at this
        omega
    by_cases hv : val 0 d < 9223372036854775808
    · rw [if_pos hv]
      simp only
      rw [itoa_nn (by omega), Int.toNat_natCast, decide_eq_false key, Bool.false_and]
    · rw [if_neg hv]
      rfl
  · have hz0 : zeroBad d = false := by simpa using hz
    have hz' : (∀ c s, d = c :: s → c.toNat ≠ 48) ∨ d.length = 1 := by
      rcases Nat.lt_or_ge 1 d.length with h | h
      · refine .inl ?_
        rintro c s rfl hc
        have : c = 48 := UInt8.toNat_inj.1 hc
        subst this
        exact hz (by simpa [zeroBad] using h)
      · have := List.length_pos_iff.2 hne
        exact .inr (by omega)
    rw [hz0, Bool.or_false, great_val hD hz']
    by_cases hv : val 0 d < 9223372036854775808
    · rw [if_pos hv]
      simp only
      rw [itoa_nn (by omega), Int.toNat_natCast, decide_eq_true (dec_val' d hne hD hz'), decide_eq_false (show ¬ 9223372036854775808 ≤ val 0 d by omega), Bool.or_false, Bool.true_and]
    · rw [if_neg hv, decide_eq_true (show 9223372036854775808 ≤ val 0 d by omega), Bool.or_true]
      rfl
theorem while_dig_all (l : List UInt8) : ∀ c ∈ l.takeWhile dig, dig c = true := by
  have h := List.all_takeWhile (p := dig) (l := l)
  rw [List.all_eq_true] at h
  exact h
theorem after_dig (l : List UInt8) : ∀ c s, l.drop (l.takeWhile dig).length = c :: s → dig c = false := by
  induction l with
  | nil => intro c s h; simp at h
  | cons a l ih =>
    intro c s h
    by_cases ha : dig a = true
    · rw [List.takeWhile_cons_of_pos ha, List.length_cons, List.drop_succ_cons] at h
      exact ih c s h
    · rw [List.takeWhile_cons_of_neg ha] at h
      simp at h
      rw [← h.1]
      simpa using ha
end Go.Proofs.YtkjpnciimabclaaDoor.Lex

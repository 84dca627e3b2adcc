/-
  PLAIN LAWS OF LAYER 16 (values): what is checked, the strings of values and lists; different values have different strings; a numeral is read back by a fold that wraps.
-/
import Derived.Test.YtfghigioofaidaaDoorDec
import Derived.Lib.Join
import Derived.RowKit
import Derived.IntWalk
namespace Go.Proofs.YtfghigioofaidaaDoor.Val
open Go.Lib Go.RowKit Go.Proofs.YtfghigioofaidaaDoor.Dec

def chk (t n : Int) : Int := if t = 1 then 0 else if t = 2 then (if 0 ≤ n ∧ n < 2 then 0 else 2) else if t = 3 then (if 0 ≤ n then 0 else 2) else 2
def sFalse : List UInt8 := [102, 97, 108, 115, 101]
def sTrue : List UInt8 := [116, 114, 117, 101]
def txt (t n : Int) : List UInt8 := if chk t n = 0 then (if t = 2 then (if n = 0 then sFalse else sTrue) else if t = 3 then 35 :: itoa n else itoa n) else []
/-- Type and number of the value, or nought. -/
def ofT (t n : Int) : Int := if chk t n = 0 then t else 0
def ofN (t n : Int) : Int := if chk t n = 0 then n else 0
def allOk (l : List (Int × Int)) : Bool := l.all fun v => decide (chk v.1 v.2 = 0)
def lst (l : List (Int × Int)) : List UInt8 := if allOk l = true then join (l.map fun v => txt v.1 v.2) [32] else []
def lstE (l : List (Int × Int)) : Int := if allOk l = true then 0 else 2

theorem chk_two (t n : Int) : chk t n = 0 ∨ chk t n = 2 := by unfold chk; split <;> (try split) <;> (try split) <;> (try split) <;> (try split) <;> simp

/-! ### The law on strings -/

theorem itoa_head (n : Int) : ∃ c r, itoa n = c :: r ∧ (c = 45 ∨ isDig c) := by
  by_cases h : n < 0
  · exact ⟨45, _, itoa_neg h, .inl rfl⟩
  · obtain ⟨c, r, e, hc⟩ := head_dig n.toNat
    exact ⟨c, r, by rw [itoa_nn (by omega), e], .inr hc⟩

theorem not_dig {c : UInt8} (h : c = 45 ∨ isDig c) : c ≠ 35 ∧ c ≠ 102 ∧ c ≠ 116 := by
  rcases h with rfl | h
  · decide
  · unfold isDig at h
    refine ⟨?_, ?_, ?_⟩ <;> (rintro rfl; revert h; decide)

/-- Different valid values have different strings. -/
theorem txt_inj {t n t' n' : Int} (h : chk t n = 0) (h' : chk t' n' = 0) : txt t n = txt t' n' ↔ (t = t' ∧ n = n') := by
  refine ⟨fun e => ?_, fun ⟨a, b⟩ => by rw [a, b]⟩
  unfold txt at e
  rw [if_pos h, if_pos h'] at e
  obtain ⟨c, r, ec, hc⟩ := itoa_head n
  obtain ⟨c', r', ec', hc'⟩ := itoa_head n'
  obtain ⟨a1, a2, a3⟩ := not_dig hc
  obtain ⟨b1, b2, b3⟩ := not_dig hc'
  have ht : t = 1 ∨ t = 2 ∨ t = 3 := by
    unfold chk at h
    by_cases x1 : t = 1
    · exact .inl x1
    · by_cases x2 : t = 2
      · exact .inr (.inl x2)
      · by_cases x3 : t = 3
        · exact .inr (.inr x3)
        · simp [x1, x2, x3] at h
  have ht' : t' = 1 ∨ t' = 2 ∨ t' = 3 := by
    unfold chk at h'
    by_cases x1 : t' = 1
    · exact .inl x1
    · by_cases x2 : t' = 2
      · exact .inr (.inl x2)
      · by_cases x3 : t' = 3
        · exact .inr (.inr x3)
        · simp [x1, x2, x3] at h'
  rcases ht with rfl | rfl | rfl <;> rcases ht' with rfl | rfl | rfl
  · simp at e
    exact ⟨rfl, itoa_inj e⟩
  · simp [ec] at e
    split at e <;> simp [sFalse, sTrue] at e <;> simp_all
  · simp [ec] at e
    simp_all
  · simp [ec'] at e
    split at e <;> simp [sFalse, sTrue] at e <;> simp_all
  · simp [chk] at h h'
    refine ⟨rfl, ?_⟩
    by_cases x : n = 0 <;> by_cases y : n' = 0 <;> simp [x, y, sFalse, sTrue] at e ⊢ <;> omega
  · simp at e
    split at e <;> simp [sFalse, sTrue] at e
  · simp [ec'] at e
    simp_all
  · simp at e
    split at e <;> simp [sFalse, sTrue] at e
  · simp at e
    exact ⟨rfl, itoa_inj e⟩

theorem txt_ne {t n : Int} (h : chk t n = 0) : txt t n ≠ [] := by
  unfold txt
  rw [if_pos h]
  split
  · split <;> simp [sFalse, sTrue]
  · split
    · simp
    · exact itoa_ne n

/-- No space in it, and printable. -/
theorem txt_plain {t n : Int} : ∀ c ∈ txt t n, 33 ≤ c.toNat ∧ c.toNat ≤ 126 := by
  have hi : ∀ c ∈ itoa n, 33 ≤ c.toNat ∧ c.toNat ≤ 126 := by
    intro c hc
    rcases itoa_bytes n c hc with h | h
    · omega
    · unfold isDig at h; omega
  unfold txt
  split
  · split
    · split
      · decide
      · decide
    · split
      · intro c hc
        rcases List.mem_cons.1 hc with rfl | hc
        · decide
        · exact hi c hc
      · exact hi
  · intro c hc; cases hc

/-! ### A numeral is read back -/

def step (st : Int × Int) (c : UInt8) : Int × Int := if c.toNat = 45 then (st.1, -1) else (wrap64 (wrap64 (10 * st.1) + IntKind.u8.wrap ((c.toNat : Int) - 48)), st.2)
def fold (l : List UInt8) : Int × Int := l.foldl step (0, 1)
def number (l : List UInt8) : Int := wrap64 ((fold l).2 * (fold l).1)

theorem fold_digits : ∀ (l : List UInt8) (a : Nat) (s : Int), (∀ c ∈ l, isDig c) → l.foldl step (wrap64 (a : Int), s) = (wrap64 (val a l : Int), s)
  | [], _, _, _ => rfl
  | c :: r, a, s, h => by
    have hc := h c (by simp)
    unfold isDig at hc
    have e : step (wrap64 (a : Int), s) c = (wrap64 ((a * 10 + (c.toNat - 48) : Nat) : Int), s) := by
      unfold step
      rw [if_neg (by omega), IntWalk.u8_in _ ⟨by omega, by omega⟩]
      refine Prod.ext ?_ rfl
      simp only [wrap64]
      omega
    rw [List.foldl_cons, e]
    exact fold_digits r _ s (fun x hx => h x (by simp [hx]))

theorem wrap_nought : wrap64 ((0 : Nat) : Int) = 0 := by simp [wrap64]
theorem number_itoa {n : Int} (h0 : -9223372036854775808 ≤ n) (h1 : n ≤ 9223372036854775807) : number (itoa n) = n := by
  unfold number fold
  by_cases h : n < 0
  · rw [itoa_neg h, List.foldl_cons, show step (0, 1) 45 = (wrap64 ((0 : Nat) : Int), -1) by rw [wrap_nought]; rfl, fold_digits _ 0 (-1) (dec_dig _), val_dec]
    simp only [wrap64]
    omega
  · rw [itoa_nn (by omega), show ((0 : Int), (1 : Int)) = (wrap64 ((0 : Nat) : Int), 1) by rw [wrap_nought], fold_digits _ 0 1 (dec_dig _), val_dec]
    simp only [wrap64]
    omega

end Go.Proofs.YtfghigioofaidaaDoor.Val

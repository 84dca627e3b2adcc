/-
  PLAIN LAWS OF LAYER 23: the reference's numbers; what instructions pop, push, and where they go on.
-/
import Derived.Test.YtmmehfkiceelkaaDoorCdP
namespace Go.Proofs.YtmmehfkiceelkaaDoor.Cd
open Go.Lib Go.RowKit Go.Proofs.YtmmehfkiceelkaaDoor.Dec

/-- The reference's value, byte by byte: the number so far, and whether a minus sign came. -/
def valF : List UInt8 → Nat → Bool → Nat × Bool
  | [], n, m => (n, m)
  | b :: r, n, m => if b = 45 then valF r n true else valF r ((n * 10 + b.toNat % 16) % 18446744073709551616) m
def valV (s : List UInt8) : Int := if (valF (s.take 25) 0 false).2 = true then wrap64 (-((valF (s.take 25) 0 false).1 : Int)) else wrap64 ((valF (s.take 25) 0 false).1 : Int)
theorem valF_append : ∀ (l r : List UInt8) (n : Nat) (m : Bool), valF (l ++ r) n m = valF r (valF l n m).1 (valF l n m).2
  | [], _, _, _ => rfl
  | b :: l, r, n, m => by
    rw [List.cons_append, valF, valF]
    split
    · exact valF_append l r _ _
    · exact valF_append l r _ _
theorem valF_lt : ∀ (l : List UInt8) (n : Nat) (m : Bool), n < 18446744073709551616 → (valF l n m).1 < 18446744073709551616
  | [], _, _, h => h
  | b :: l, n, m, h => by
    rw [valF]
    split
    · exact valF_lt l n true h
    · exact valF_lt l _ m (Nat.mod_lt _ (by omega))
theorem valF_digits : ∀ (l : List UInt8) (n : Nat) (m : Bool), (∀ c ∈ l, isDig c) → val n l < 18446744073709551616 → valF l n m = (val n l, m)
  | [], _, _, _, _ => rfl
  | b :: r, n, m, h, hv => by
    have hb := h b (by simp)
    have hge := val_ge r (n * 10 + (b.toNat - 48))
    have e : val n (b :: r) = val (n * 10 + (b.toNat - 48)) r := rfl
    rw [e] at hv ⊢
    have hne : b ≠ 45 := Num.not45 hb
    unfold isDig at hb
    rw [valF, if_neg hne, show b.toNat % 16 = b.toNat - 48 by omega, Nat.mod_eq_of_lt (by omega)]
    exact valF_digits r _ m (fun c hc => h c (by simp [hc])) hv
theorem valV_itoa {a : Int} (ha : okA a) : valV (32 :: itoa a) = a := by
  obtain ⟨h0, h1⟩ := ha
  have hl := itoa_length h0 h1
  unfold valV
  rw [List.take_of_length_le (by rw [List.length_cons]; omega)]
  have e : valF (32 :: itoa a) 0 false = valF (itoa a) 0 false := by
    rw [valF, if_neg (by decide)]
    rfl
  rw [e]
  by_cases h : a < 0
  · rw [itoa_neg h, valF, if_pos rfl, valF_digits _ _ _ (dec_dig _) (by rw [val_dec]; omega), val_dec, if_pos rfl, Num.wrap_id (by omega) (by omega)]
    omega
  · rw [itoa_nn (by omega), valF_digits _ _ _ (dec_dig _) (by rw [val_dec]; omega), val_dec, if_neg (by simp), Num.wrap_id (by omega) (by omega)]
    omega

/-- What an instruction pops and pushes. -/
def popsL : List Int := [0, 0, 0, 1, 1, 2, 0, 1, 1, 0, 2, 1, 0, 1, 0, 1, 0, 0]
def pushL : List Int := [0, 1, 1, 0, 1, 1, 0, 0, 1, 1, 0, 1, 1, 0, 0, 0, 0, 0]
def pops (k : Nat) : Int := (popsL[k]?).getD 0
def push (k : Nat) : Int := (pushL[k]?).getD 0
def hasEff (op : Int) : Prop := known op ∧ op ≠ 14 ∧ op ≠ 16
instance (op : Int) : Decidable (hasEff op) := by unfold hasEff; exact inferInstance
/-- Does an instruction jump? -/
def jumps (op : Int) : Bool := decide (op = 6 ∨ op = 7)
def inR (x : Int) : Bool := decide (0 ≤ x ∧ x ≤ 1000000)
/-- Where an instruction goes on. -/
def tgtL (op a at_ : Int) : List Int :=
  if known op ∧ inR at_ = true ∧ (jumps op = true → inR a = true) then
    (if op = 16 then [] else if op = 6 then [a] else if op = 7 then (if a = at_ + 1 then [a] else if a < at_ + 1 then [a, at_ + 1] else [at_ + 1, a]) else [at_ + 1])
  else []
def tgtE (op a at_ : Int) : Int := if known op then (if inR at_ = true ∧ (jumps op = true → inR a = true) then 0 else 3) else 2
end Go.Proofs.YtmmehfkiceelkaaDoor.Cd

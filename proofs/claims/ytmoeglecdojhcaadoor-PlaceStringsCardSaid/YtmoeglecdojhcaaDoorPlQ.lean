/-
  PLAIN LAWS OF LAYER 1: strings of places.
-/
import Derived.Test.YtmoeglecdojhcaaDoorPlP
namespace Go.Proofs.YtmoeglecdojhcaaDoor.Pl
open Go.Lib Go.Proofs.YtmoeglecdojhcaaDoor.Dec Go.Proofs.YtmoeglecdojhcaaDoor.Lin

/-- A place's string. -/
def text (l c : Int) : List UInt8 := itoa l ++ 58 :: itoa c
/-- Ahead of and behind the first colon. -/
def cut : List UInt8 → List UInt8 × List UInt8 × Bool
  | [] => ([], [], false)
  | b :: r => if b = 58 then ([], r, true) else (b :: (cut r).1, (cut r).2.1, (cut r).2.2)
theorem cut_colon : ∀ (a r : List UInt8), (∀ x ∈ a, x ≠ 58) → cut (a ++ 58 :: r) = (a, r, true)
  | [], r, _ => by rw [List.nil_append, cut, if_pos rfl]
  | x :: a, r, h => by rw [List.cons_append, cut, if_neg (h x (by simp)), cut_colon a r fun y hy => h y (by simp [hy])]
theorem cut_none : ∀ (a : List UInt8), (∀ x ∈ a, x ≠ 58) → cut a = (a, [], false)
  | [], _ => rfl
  | x :: a, h => by rw [cut, if_neg (h x (by simp)), cut_none a fun y hy => h y (by simp [hy])]
theorem cut_lib : ∀ s : List UInt8, Lib.cut s [58] = cut s
  | [] => by decide
  | b :: r => by
    have ih := cut_lib r
    by_cases hb : b = 58
    · subst hb
      have h : index (58 :: r) [58] = 0 := by rw [index, if_pos]; simp [List.isPrefixOf]
      unfold Lib.cut
      rw [h, cut, if_pos rfl, if_pos (by decide)]
      rfl
    · have h : index (b :: r) [58] = if index r [58] == -1 then -1 else index r [58] + 1 := by rw [index, if_neg]; simp [List.isPrefixOf, Ne.symm hb]
      have hge := index_ge r [58]
      rw [cut, if_neg hb, ← ih]
      unfold Lib.cut
      by_cases hm : index r [58] = -1
      · rw [h, hm, if_neg (by decide), if_neg (by decide)]
      · have h' : index (b :: r) [58] = index r [58] + 1 := by rw [h, if_neg (by simpa using hm)]
        rw [h', if_pos (by omega), if_pos (by omega), show (index r [58] + 1).toNat = (index r [58]).toNat + 1 by omega]
        have : (index r [58]).toNat + 1 + [(58 : UInt8)].length = ((index r [58]).toNat + [(58 : UInt8)].length) + 1 := by simp
        rw [this]
        rfl
theorem itoa_colon (n : Int) : ∀ c ∈ itoa n, c ≠ 58 := fun c hc e => by
  subst e
  rcases itoa_bytes n 58 hc with h | h
  · revert h; decide
  · unfold isDig at h; revert h; decide
theorem cut_text (l c : Int) : cut (text l c) = (itoa l, itoa c, true) := cut_colon _ _ (itoa_colon l)
theorem text_inj {l c l' c' : Int} (h : text l c = text l' c') : l = l' ∧ c = c' := by
  have := cut_text l c
  rw [h, cut_text] at this
  injection this with h1 h2
  injection h2 with h2 _
  exact ⟨(itoa_inj h1).symm, (itoa_inj h2).symm⟩

/-- Are these numbers those of a place? -/
def okP (l c : Int) : Prop := 1 ≤ l ∧ l ≤ 9223372036854775807 ∧ 1 ≤ c ∧ c ≤ 9223372036854775807
instance (l c : Int) : Decidable (okP l c) := by unfold okP; exact inferInstance
/-- The place whose string it is. -/
def pread (s : List UInt8) : Option (Int × Int) :=
  match Num.parse (cut s).1, Num.parse (cut s).2.1 with
  | some l, some c => if okP l c ∧ text l c = s then some (l, c) else none
  | _, _ => none
theorem pread_iff {s : List UInt8} {l c : Int} : pread s = some (l, c) ↔ okP l c ∧ text l c = s := by
  constructor
  · intro h
    unfold pread at h
    split at h
    · split at h
      · cases h; assumption
      · cases h
    · cases h
  · rintro ⟨h, rfl⟩
    unfold pread
    rw [cut_text]
    obtain ⟨h1, h2, h3, h4⟩ := h
    rw [Num.parse_itoa (by omega) h2, Num.parse_itoa (by omega) h4]
    exact if_pos ⟨⟨h1, h2, h3, h4⟩, rfl⟩
theorem pread_none {s : List UInt8} (h : ∀ l c, okP l c → text l c ≠ s) : pread s = none := by
  cases e : pread s with
  | none => rfl
  | some p => exact absurd (pread_iff.1 e).2 (h _ _ (pread_iff.1 e).1)
/-- What comes of two numbers that were read, if they are held against the string. -/
theorem pread_held {s : List UInt8} {L C : Int} (hL : L ≤ 9223372036854775807) (hC : C ≤ 9223372036854775807) (hl : ∀ l, (cut s).1 = itoa l → 1 ≤ l → l ≤ 9223372036854775807 → L = l) (hc : ∀ c, (cut s).2.1 = itoa c → 1 ≤ c → c ≤ 9223372036854775807 → C = c) :
    pread s = if 1 ≤ L ∧ 1 ≤ C ∧ text L C = s then some (L, C) else none := by
  split
  · rename_i h
    exact pread_iff.2 ⟨⟨h.1, hL, h.2.1, hC⟩, h.2.2⟩
  · rename_i h
    refine pread_none fun l c ho e => h ?_
    subst e
    obtain ⟨h1, h2, h3, h4⟩ := ho
    rw [hl l (by rw [cut_text]) h1 h2, hc c (by rw [cut_text]) h3 h4]
    exact ⟨h1, h3, rfl⟩

/-- The reference's number. -/
def numV (acc : Nat) : List UInt8 → Nat
  | [] => acc
  | b :: r => if b.toNat < 48 ∨ 57 < b.toNat ∨ 9223372036854775807 < acc * 10 + (b.toNat - 48) then 0 else numV (acc * 10 + (b.toNat - 48)) r
theorem numV_digits : ∀ (s : List UInt8) (acc : Nat), (∀ c ∈ s, isDig c) → val acc s ≤ 9223372036854775807 → numV acc s = val acc s
  | [], _, _, _ => rfl
  | b :: r, acc, h, hv => by
    have hb := h b (by simp)
    unfold isDig at hb
    have hge := val_ge r (acc * 10 + (b.toNat - 48))
    have e : val acc (b :: r) = val (acc * 10 + (b.toNat - 48)) r := rfl
    rw [e] at hv ⊢
    rw [numV, if_neg (by omega)]
    exact numV_digits r _ (fun c hc => h c (by simp [hc])) hv
theorem numV_le : ∀ (s : List UInt8) (acc : Nat), acc ≤ 9223372036854775807 → numV acc s ≤ 9223372036854775807
  | [], _, h => h
  | b :: r, acc, h => by
    rw [numV]
    split
    · omega
    · rename_i h2; exact numV_le r _ (by omega)
theorem numV_itoa {l : Int} (h1 : 1 ≤ l) (h2 : l ≤ 9223372036854775807) : (numV 0 (itoa l) : Int) = l := by
  rw [itoa_nn (by omega), numV_digits _ _ (dec_dig _) (by rw [val_dec]; omega), val_dec]
  omega

end Go.Proofs.YtmoeglecdojhcaaDoor.Pl

/-
  PLAIN LAWS OF LAYER 23: strings of instructions.
-/
import Derived.Test.YtmmehfkiceelkaaDoorNum
namespace Go.Proofs.YtmmehfkiceelkaaDoor.Cd
open Go.Lib Go.Proofs.YtmmehfkiceelkaaDoor.Dec

def words : List (List UInt8) := [[], [67, 111, 110, 115, 116], [76, 111, 97, 100], [83, 116, 111, 114, 101], [85, 110, 97, 114, 121], [66, 105, 110, 97, 114, 121], [74, 117, 109, 112], [74, 117, 109, 112, 70, 97, 108, 115, 101], [73, 110, 100, 101, 120], [76, 101, 110], [83, 116, 111, 114, 101, 73, 110, 100, 101, 120], [78, 101, 119], [82, 101, 97, 100], [80, 114, 105, 110, 116], [67, 97, 108, 108], [68, 114, 111, 112], [82, 101, 116, 117, 114, 110], [68, 101, 102, 97, 117, 108, 116]]
def word (k : Nat) : List UInt8 := (words[k]?).getD []
/-- Is it an instruction? -/
def known (op : Int) : Prop := 1 ≤ op ∧ op ≤ 17
instance (op : Int) : Decidable (known op) := by unfold known; exact inferInstance
/-- Has it an operand? -/
def bare (k : Nat) : Bool := k == 11 || k == 12 || k == 15
/-- An instruction's string. -/
def text (op a : Int) : Option (List UInt8) := if known op then (if bare op.toNat = true then (if a = 0 then some (word op.toNat) else none) else some (word op.toNat ++ 32 :: itoa a)) else none
/-- Ahead of and behind the first space. -/
def cut : List UInt8 → List UInt8 × List UInt8 × Bool
  | [] => ([], [], false)
  | b :: r => if b = 32 then ([], r, true) else (b :: (cut r).1, (cut r).2.1, (cut r).2.2)
theorem cut_space : ∀ (a r : List UInt8), (∀ x ∈ a, x ≠ 32) → cut (a ++ 32 :: r) = (a, r, true)
  | [], r, _ => by rw [List.nil_append, cut, if_pos rfl]
  | x :: a, r, h => by rw [List.cons_append, cut, if_neg (h x (by simp)), cut_space a r fun y hy => h y (by simp [hy])]
theorem cut_none : ∀ (a : List UInt8), (∀ x ∈ a, x ≠ 32) → cut a = (a, [], false)
  | [], _ => rfl
  | x :: a, h => by rw [cut, if_neg (h x (by simp)), cut_none a fun y hy => h y (by simp [hy])]
theorem cut_lib : ∀ s : List UInt8, Lib.cut s [32] = cut s
  | [] => by decide
  | b :: r => by
    have ih := cut_lib r
    by_cases hb : b = 32
    · subst hb
      have h : index (32 :: r) [32] = 0 := by rw [index, if_pos]; simp [List.isPrefixOf]
      unfold Lib.cut
      rw [h, cut, if_pos rfl, if_pos (by decide)]
      rfl
    · have h : index (b :: r) [32] = if index r [32] == -1 then -1 else index r [32] + 1 := by rw [index, if_neg]; simp [List.isPrefixOf, Ne.symm hb]
      have hge := index_ge r [32]
      rw [cut, if_neg hb, ← ih]
      unfold Lib.cut
      by_cases hm : index r [32] = -1
      · rw [h, hm, if_neg (by decide), if_neg (by decide)]
      · have h' : index (b :: r) [32] = index r [32] + 1 := by rw [h, if_neg (by simpa using hm)]
        rw [h', if_pos (by omega), if_pos (by omega), show (index r [32] + 1).toNat = (index r [32]).toNat + 1 by omega]
        have : (index r [32]).toNat + 1 + [(32 : UInt8)].length = ((index r [32]).toNat + [(32 : UInt8)].length) + 1 := by simp
        rw [this]
        rfl
theorem word_space (k : Nat) : ∀ c ∈ word k, c ≠ 32 := by
  intro c hc
  by_cases h : k < 18
  · have key : ∀ i : Fin 18, ∀ c ∈ word i.val, c ≠ 32 := by decide
    exact key ⟨k, h⟩ c hc
  · have : word k = [] := by unfold word; rw [List.getElem?_eq_none (by show 18 ≤ k; omega)]; rfl
    rw [this] at hc
    cases hc
theorem words_inj {i j : Nat} (hi : i < 18) (hj : j < 18) (h : word i = word j) : i = j := by
  have key : ∀ i j : Fin 18, word i.val = word j.val → i = j := by decide +kernel
  exact congrArg Fin.val (key ⟨i, hi⟩ ⟨j, hj⟩ h)
theorem text_some {op a : Int} {s : List UInt8} (h : text op a = some s) : known op ∧ ((bare op.toNat = true ∧ a = 0 ∧ s = word op.toNat) ∨ (bare op.toNat = false ∧ s = word op.toNat ++ 32 :: itoa a)) := by
  unfold text at h
  split at h
  · rename_i hk
    refine ⟨hk, ?_⟩
    split at h
    · rename_i hb
      split at h
      · rename_i ha
        exact .inl ⟨hb, ha, (Option.some.inj h).symm⟩
      · cases h
    · rename_i hb
      exact .inr ⟨by simpa using hb, (Option.some.inj h).symm⟩
  · cases h
theorem cut_text {op a : Int} {s : List UInt8} (h : text op a = some s) : (cut s).1 = word op.toNat ∧ (bare op.toNat = false → (cut s).2.1 = itoa a) ∧ ((cut s).2.2 = !bare op.toNat) := by
  obtain ⟨_, ⟨hb, _, rfl⟩ | ⟨hb, rfl⟩⟩ := text_some h
  · rw [cut_none _ (word_space _), hb]
    exact ⟨rfl, fun h => (by cases h), rfl⟩
  · rw [cut_space _ _ (word_space _), hb]
    exact ⟨rfl, fun _ => rfl, rfl⟩
theorem text_inj {op a op' a' : Int} {s : List UInt8} (h : text op a = some s) (h' : text op' a' = some s) : op = op' ∧ a = a' := by
  have h1 := cut_text h
  have h2 := cut_text h'
  obtain ⟨⟨k1, k2⟩, c1⟩ := text_some h
  obtain ⟨⟨k3, k4⟩, c2⟩ := text_some h'
  have hw : op.toNat = op'.toNat := words_inj (by omega) (by omega) (h1.1.symm.trans h2.1)
  have ho : op = op' := by omega
  subst ho
  refine ⟨rfl, ?_⟩
  rcases c1 with ⟨b1, a1, _⟩ | ⟨b1, _⟩
  · rcases c2 with ⟨_, a2, _⟩ | ⟨b2, _⟩
    · rw [a1, a2]
    · rw [b1] at b2; cases b2
  · exact itoa_inj ((h1.2.1 b1).symm.trans (h2.2.1 b1))
/-- The number of a word. -/
def findW (w : List UInt8) : Int := match words.findIdx? (· == w) with
  | some k => (k : Int)
  | none => -1
/-- The instruction whose string it is. -/
def pread (s : List UInt8) : Option (Int × Int) :=
  if text (findW (cut s).1) ((Num.parse (cut s).2.1).getD 0) = some s then some (findW (cut s).1, (Num.parse (cut s).2.1).getD 0) else none
def okA (a : Int) : Prop := -9223372036854775808 ≤ a ∧ a ≤ 9223372036854775807
theorem findW_word {k : Nat} (h : k < 18) : findW (word k) = (k : Int) := by
  have key : ∀ i : Fin 18, findW (word i.val) = (i.val : Int) := by decide +kernel
  exact key ⟨k, h⟩
theorem parse_empty : (Num.parse []).getD 0 = 0 := by rw [Num.parse_nil]; rfl
theorem pread_of {op a : Int} {s : List UInt8} (ha : okA a) (h : text op a = some s) : pread s = some (op, a) := by
  have h1 := cut_text h
  obtain ⟨⟨k1, k2⟩, c1⟩ := text_some h
  have hf : findW (cut s).1 = op := by rw [h1.1, findW_word (by omega)]; omega
  have hn : (Num.parse (cut s).2.1).getD 0 = a := by
    rcases c1 with ⟨b1, a1, hs⟩ | ⟨b1, _⟩
    · rw [hs, cut_none _ (word_space _), a1]; exact parse_empty
    · rw [h1.2.1 b1, Num.parse_itoa ha.1 ha.2]; rfl
  unfold pread
  rw [hf, hn, if_pos h]
theorem pread_iff {s : List UInt8} {op a : Int} : pread s = some (op, a) ↔ okA a ∧ text op a = some s := by
  constructor
  · intro h
    unfold pread at h
    split at h
    · rename_i ht
      obtain ⟨e1, e2⟩ := Prod.mk.inj (Option.some.inj h)
      rw [e1, e2] at ht
      refine ⟨?_, ht⟩
      rw [← e2]
      cases hp : Num.parse (cut s).2.1 with
      | none => exact ⟨by decide, by decide⟩
      | some n => exact ⟨(Num.parse_iff.1 hp).2.1, (Num.parse_iff.1 hp).2.2⟩
    · cases h
  · exact fun h => pread_of h.1 h.2
/-- What comes of a word's number and a number that were read, if they are held against the string. -/
theorem pread_held {s : List UInt8} {op a : Int} (ha : okA a) (ho : ∀ k : Nat, 1 ≤ k → k < 18 → (cut s).1 = word k → op = (k : Int)) (hn : ∀ n, okA n → (cut s).2.1 = itoa n → a = n) (h0 : (cut s).2.1 = [] → a = 0) :
    pread s = if text op a = some s then some (op, a) else none := by
  split
  · rename_i h
    exact pread_of ha h
  · rename_i h
    cases e : pread s with
    | none => rfl
    | some p =>
      obtain ⟨op', a'⟩ := p
      obtain ⟨ha', ht⟩ := pread_iff.1 e
      have h1 := cut_text ht
      obtain ⟨⟨k1, k2⟩, c1⟩ := text_some ht
      have e1 : op = op' := by rw [ho op'.toNat (by omega) (by omega) h1.1]; omega
      have e2 : a = a' := by
        rcases c1 with ⟨b1, a1, hs⟩ | ⟨b1, _⟩
        · rw [a1]; exact h0 (by rw [hs, cut_none _ (word_space _)])
        · exact hn a' ha' (h1.2.1 b1)
      rw [e1, e2] at h
      exact absurd ht h

/-- Is an operand right, in a list of n instructions? -/
def right (op a n slots callees : Int) : Bool :=
  if op = 1 then true
  else if op = 2 ∨ op = 3 ∨ op = 8 ∨ op = 9 ∨ op = 10 ∨ op = 17 then decide (0 ≤ a ∧ a < slots)
  else if op = 4 then decide (14 ≤ a ∧ a ≤ 15)
  else if op = 5 then decide (1 ≤ a ∧ a ≤ 11)
  else if op = 6 ∨ op = 7 then decide (0 ≤ a ∧ a < n)
  else if op = 11 ∨ op = 12 ∨ op = 15 then decide (a = 0)
  else if op = 13 then decide (1 ≤ a ∧ a ≤ 2)
  else if op = 14 then decide (0 ≤ a ∧ a < callees)
  else if op = 16 then decide (0 ≤ a ∧ a ≤ 1)
  else false
end Go.Proofs.YtmmehfkiceelkaaDoor.Cd

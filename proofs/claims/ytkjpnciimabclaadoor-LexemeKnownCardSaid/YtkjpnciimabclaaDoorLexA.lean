/-
  PLAIN LAWS OF LAYER 4: what stands behind white space and comments, by offsets.
-/
import Derived.Test.YtkjpnciimabclaaDoorLex
import Derived.Lib.IndexLaws
import Derived.Lib.Strings
namespace Go.Proofs.YtkjpnciimabclaaDoor.Lex
open Go.Lib

theorem white_not {c : UInt8} (h : white c = false) : c.toNat ≠ 10 ∧ c ≠ 10 := by
  have h' : ¬ (c.toNat = 32 ∨ c.toNat = 9 ∨ c.toNat = 13 ∨ c.toNat = 10) := by simpa [white] using h
  exact ⟨by omega, by rintro rfl; exact h' (by decide)⟩
theorem rest_nil (b : Bool) : rest b [] = [] := by cases b <;> rfl
theorem rest_white {c : UInt8} {r : List UInt8} (h : white c = true) : rest false (c :: r) = rest false r := by rw [rest, if_pos h]
theorem rest_note {r : List UInt8} : rest false (47 :: 47 :: r) = rest true (47 :: 47 :: r) := by
  have h1 : ∀ x : List UInt8, rest true (47 :: x) = rest true x := fun x => by rw [rest, if_neg (by decide)]
  have h2 : rest false (47 :: 47 :: r) = rest true (47 :: r) := by
    conv => lhs; rw [rest]
    rw [if_neg (by decide), if_pos ⟨rfl, rfl⟩]
  rw [h2, h1, h1, h1]
theorem rest_here {c : UInt8} {r : List UInt8} (h : white c = false) (h2 : ¬ (c = 47 ∧ r.head? = some 47)) : rest false (c :: r) = c :: r := by
  rw [rest, if_neg (by rw [h]; decide), if_neg h2]
theorem rest_skip {c : UInt8} {r : List UInt8} (h : c ≠ 10) : rest true (c :: r) = rest true r := by rw [rest, if_neg h]
theorem rest_line {r : List UInt8} : rest true (10 :: r) = rest false (10 :: r) := by
  rw [rest, if_pos rfl, rest_white (by decide)]
/-- A comment goes on to the end of its line. -/
theorem rest_to : ∀ {l : List UInt8} {o : Nat}, indexByte l 10 = o → rest true l = rest false (l.drop o)
  | [], o, h => by simp [indexByte] at h
  | c :: r, 0, h => by
    have := (indexByte_some h).1
    simp at this
    subst this
    exact rest_line
  | c :: r, o + 1, h => by
    have hc : c ≠ 10 := by
      rintro rfl
      exact (indexByte_some h).2 0 (by omega) rfl
    rw [rest_skip hc, List.drop_succ_cons]
    refine rest_to ?_
    unfold indexByte at h
    rw [if_neg (by simpa using hc)] at h
    have hg := indexByte_ge r 10
    by_cases e : indexByte r 10 = -1
    · rw [if_pos (by simpa using e)] at h
      omega
    · rw [if_neg (by simpa using e)] at h
      omega
theorem rest_end : ∀ {l : List UInt8}, indexByte l 10 = -1 → rest true l = []
  | [], _ => rfl
  | c :: r, h => by
    have hc : c ≠ 10 := by
      rintro rfl
      exact indexByte_none h 0 rfl
    rw [rest_skip hc]
    refine rest_end ?_
    unfold indexByte at h
    rw [if_neg (by simpa using hc)] at h
    have hg := indexByte_ge r 10
    by_cases e : indexByte r 10 = -1
    · exact e
    · rw [if_neg (by simpa using e)] at h
      omega
/-- What is left is an end of the text. -/
theorem rest_drop (b : Bool) (l : List UInt8) : rest b l = l.drop (l.length - (rest b l).length) ∧ (rest b l).length ≤ l.length := by
  induction l generalizing b with
  | nil => cases b <;> simp [rest]
  | cons c r ih =>
    have key : ∀ (b' : Bool), rest b (c :: r) = rest b' r → rest b (c :: r) = (c :: r).drop ((c :: r).length - (rest b (c :: r)).length) ∧ (rest b (c :: r)).length ≤ (c :: r).length := by
      intro b' e
      have h2 := ih b'
      rw [e]
      refine ⟨?_, by have := h2.2; simp; omega⟩
      rw [List.length_cons, show r.length + 1 - (rest b' r).length = (r.length - (rest b' r).length) + 1 by have := h2.2; omega, List.drop_succ_cons]
      exact h2.1
    cases b with
    | true =>
      by_cases e : c = 10
      · exact key false (by rw [rest, if_pos e])
      · exact key true (rest_skip e)
    | false =>
      by_cases e : white c = true
      · exact key false (rest_white e)
      · by_cases e2 : c = 47 ∧ r.head? = some 47
        · exact key true (by rw [rest, if_neg e, if_pos e2])
        · rw [rest, if_neg e, if_neg e2]
          simp
theorem skip_le (l : List UInt8) : skip l ≤ l.length := Nat.sub_le _ _
theorem rest_skipped (l : List UInt8) : rest false l = l.drop (skip l) := (rest_drop false l).1
/-- What the loop says of an offset is what is left from there on. -/
theorem skip_at {l : List UInt8} {k : Nat} (h : rest false (l.drop k) = rest false l) (hk : k ≤ l.length) (he : rest false (l.drop k) = l.drop k) : skip l = k := by
  unfold skip
  rw [← h, he, List.length_drop]
  omega
theorem drop_cons {l : List UInt8} {k : Nat} {c : UInt8} (h : l[k]? = some c) : l.drop k = c :: l.drop (k + 1) := by
  obtain ⟨hk, rfl⟩ := List.getElem?_eq_some_iff.1 h
  exact List.drop_eq_getElem_cons hk
theorem prefix_two {l : List UInt8} : hasPrefix l [47, 47] = true ↔ ∃ r, l = 47 :: 47 :: r := by
  unfold hasPrefix
  rw [List.isPrefixOf_iff_prefix]
  constructor
  · rintro ⟨r, rfl⟩
    exact ⟨r, rfl⟩
  · rintro ⟨r, rfl⟩
    exact ⟨r, rfl⟩

/-! ### Tokens -/
theorem first_fits {l : List UInt8} (h : (first l).1 ≠ 0) : 0 < (first l).2.length ∧ (first l).2 = l.take (first l).2.length := by
  have tw : ∀ p : UInt8 → Bool, l.takeWhile p = l.take (l.takeWhile p).length := fun p => List.prefix_iff_eq_take.1 (List.takeWhile_prefix p)
  have pos : ∀ (p : UInt8 → Bool) (c : UInt8) (r : List UInt8), l = c :: r → p c = true → 0 < (l.takeWhile p).length := by
    rintro p c r rfl hp
    rw [List.takeWhile_cons_of_pos hp]
    simp
  unfold first at h ⊢
  split at h
  · exact absurd rfl h
  · rename_i c r
    split at h
    · rename_i hc
      have hw : word c = true := by unfold word; rw [hc]; rfl
      rw [if_pos hc]
      split
      · exact ⟨pos _ _ _ rfl hw, tw _⟩
      · rename_i hk
        rw [if_neg hk] at h
        split
        · exact ⟨pos _ _ _ rfl hw, tw _⟩
        · rename_i h16
          rw [if_neg h16] at h
          exact absurd rfl h
    · rename_i hc
      rw [if_neg hc]
      split at h
      · rename_i hd
        rw [if_pos hd]
        split
        · exact ⟨pos _ _ _ rfl hd, tw _⟩
        · rename_i hk
          rw [if_neg hk] at h
          exact absurd rfl h
      · rename_i hd
        rw [if_neg hd]
        split at h
        · rename_i x hx
          have h1 := List.find?_some hx
          have h2 := List.mem_of_find?_eq_some hx
          refine ⟨?_, List.prefix_iff_eq_take.1 (by simpa using h1)⟩
          have : ∀ y ∈ signs, 0 < y.length := by decide
          exact this x h2
        · exact absurd rfl h
theorem first_le {l : List UInt8} (h : (first l).1 ≠ 0) : (first l).2.length ≤ l.length := by
  have := congrArg List.length (first_fits h).2
  rw [List.length_take] at this
  omega
theorem rest_length (l : List UInt8) : (rest false l).length = l.length - skip l := by
  unfold skip
  have := (rest_drop false l).2
  omega

/-- Tokens ahead of what a scan gives. -/
def pres (ts : List Tok) : Except Nat (List Tok) → Except Nat (List Tok)
  | .ok us => .ok (ts ++ us)
  | .error e => .error e
theorem pres_nil (x : Except Nat (List Tok)) : pres [] x = x := by cases x <;> rfl
theorem pres_pre (ts : List Tok) (t : Tok) (x : Except Nat (List Tok)) : pres ts (pre t x) = pres (ts ++ [t]) x := by
  cases x with
  | ok us => simp [pres, pre]
  | error e => rfl
/-- One round. -/
theorem scanR_step {f p : Nat} {l : List UInt8} (hl : l ≠ []) (h : (first l).1 ≠ 0) : scanR (f + 1) p l = pre ⟨(first l).1, (first l).2, p⟩ (scanR f (p + (first l).2.length + skip (l.drop (first l).2.length)) (rest false (l.drop (first l).2.length))) := by
  cases l with
  | nil => exact absurd rfl hl
  | cons c r => rw [scanR, if_neg h]
theorem scanR_bad {f p : Nat} {l : List UInt8} (hl : l ≠ []) (h : (first l).1 = 0) : scanR (f + 1) p l = .error p := by
  cases l with
  | nil => exact absurd rfl hl
  | cons c r => rw [scanR, if_pos h]
theorem scanR_nil {f p : Nat} : scanR f p [] = .ok [] := by cases f <;> rfl

/-- What holds at the head of the loop: k: the offset; ts: the tokens so far. -/
def At (l : List UInt8) (k : Nat) (ts : List Tok) : Prop := k ≤ l.length ∧ ts.length ≤ k ∧ ∃ f, l.length - k < f ∧ scan l = pres ts (scanR f k (l.drop k))
theorem at_start (l : List UInt8) : At l (skip l) [] :=
  ⟨skip_le l, Nat.zero_le _, l.length + 1, by omega, by rw [pres_nil, ← rest_skipped]; rfl⟩
theorem at_end {l : List UInt8} {ts : List Tok} (h : At l l.length ts) : scan l = .ok ts := by
  obtain ⟨_, _, f, _, e⟩ := h
  rw [e, List.drop_length, scanR_nil]
  simp [pres]
theorem at_bad {l : List UInt8} {k : Nat} {ts : List Tok} (h : At l k ts) (hk : k < l.length) (hb : (first (l.drop k)).1 = 0) : scan l = .error k := by
  obtain ⟨_, _, f, hf, e⟩ := h
  obtain ⟨f, rfl⟩ : ∃ g, f = g + 1 := ⟨f - 1, by omega⟩
  rw [e, scanR_bad (by rw [Ne, List.drop_eq_nil_iff]; omega) hb]
  rfl
theorem at_step {l : List UInt8} {k : Nat} {ts : List Tok} (h : At l k ts) (hk : k < l.length) (hb : (first (l.drop k)).1 ≠ 0) :
    k + (first (l.drop k)).2.length ≤ l.length ∧ 0 < (first (l.drop k)).2.length ∧ At l (k + (first (l.drop k)).2.length + skip (l.drop (k + (first (l.drop k)).2.length))) (ts ++ [⟨(first (l.drop k)).1, (first (l.drop k)).2, k⟩]) := by
  obtain ⟨_, ht, f, hf, e⟩ := h
  obtain ⟨f, rfl⟩ : ∃ g, f = g + 1 := ⟨f - 1, by omega⟩
  have h1 := first_le hb
  have h0 := (first_fits hb).1
  rw [List.length_drop] at h1
  refine ⟨by omega, h0, ?_⟩
  rw [scanR_step (by rw [Ne, List.drop_eq_nil_iff]; omega) hb, pres_pre, List.drop_drop, rest_skipped, List.drop_drop] at e
  have h2 := skip_le (l.drop (k + (first (l.drop k)).2.length))
  rw [List.length_drop] at h2
  exact ⟨by omega, by simp; omega, f, by omega, e⟩
end Go.Proofs.YtkjpnciimabclaaDoor.Lex

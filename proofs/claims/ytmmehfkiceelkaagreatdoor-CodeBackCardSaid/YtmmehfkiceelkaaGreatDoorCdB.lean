/-
  PLAIN LAWS OF LAYER 23: strings that are near an instruction's string and are none.
-/
import Derived.Test.YtmmehfkiceelkaaGreatDoorCdQ
import Derived.Lib.Case
namespace Go.Proofs.YtmmehfkiceelkaaGreatDoor.Cd
open Go.Lib Go.RowKit Go.Proofs.YtmmehfkiceelkaaGreatDoor.Dec

theorem no_read {X : List UInt8} (h : ∀ op a, text op a ≠ some X) : pread X = none := by
  cases e : pread X with
  | none => rfl
  | some p =>
    obtain ⟨op, a⟩ := p
    exact absurd (pread_iff.1 e).2 (h op a)
theorem word_ne {k : Nat} (h1 : 1 ≤ k) (h2 : k ≤ 17) : word k ≠ [] := by
  have key : ∀ i : Fin 18, 1 ≤ i.val → word i.val ≠ [] := by decide
  exact key ⟨k, by omega⟩ h1
/-- The bytes of a numeral. -/
theorem itoa_bytes (a : Int) : ∀ c ∈ itoa a, isDig c ∨ c = 45 := by
  by_cases h : a < 0
  · rw [itoa_neg h]
    intro c hc
    rcases List.mem_cons.1 hc with rfl | hc
    · exact .inr rfl
    · exact .inl (dec_dig _ c hc)
  · rw [itoa_nn (by omega)]
    exact fun c hc => .inl (dec_dig _ c hc)
theorem itoa_no (a : Int) {c : UInt8} (h1 : ¬ isDig c) (h2 : c ≠ 45) : c ∉ itoa a := fun hc => (itoa_bytes a c hc).elim h1 h2
theorem itoa_nought {a : Int} {r : List UInt8} (h : itoa a = 48 :: r) : r = [] := by
  by_cases ha : a < 0
  · rw [itoa_neg ha] at h
    cases h
  · rw [itoa_nn (by omega)] at h
    have hp := Num.plain_dec a.toNat
    rw [h] at hp
    unfold Num.plain at hp
    have := (of_decide_eq_true hp).2.2 rfl
    simpa using this
/-- A word, a space, and what is no number behind it. -/
theorem no_tail {k : Nat} (h1 : 1 ≤ k) (h2 : k ≤ 17) (r : List UInt8) (h : bare k = true ∨ ∀ a, itoa a ≠ r) : pread (word k ++ 32 :: r) = none := by
  refine no_read fun op a ht => ?_
  have hc := cut_text ht
  rw [cut_space _ _ (word_space k)] at hc
  obtain ⟨⟨k1, k2⟩, _⟩ := text_some ht
  have hk : k = op.toNat := words_inj (by omega) (by omega) hc.1
  rcases h with h | h
  · rw [← hk, h] at hc
    cases hc.2.2
  · rcases hb : bare op.toNat with _ | _
    · exact h a (hc.2.1 hb).symm
    · rw [hb] at hc
      cases hc.2.2
theorem no_space (X : List UInt8) : pread (32 :: X) = none := by
  refine no_read fun op a ht => ?_
  have hc := cut_text ht
  rw [show cut (32 :: X) = ([], X, true) from by rw [cut, if_pos rfl]] at hc
  obtain ⟨⟨k1, k2⟩, _⟩ := text_some ht
  exact word_ne (by omega) (by omega) hc.1.symm
/-- The first byte of a word is a great letter. -/
theorem word_head {k : Nat} (h1 : 1 ≤ k) (h2 : k ≤ 17) : ∃ c r, word k = c :: r ∧ 65 ≤ c.toNat ∧ c.toNat ≤ 90 := by
  have key : ∀ i : Fin 18, 1 ≤ i.val → (word i.val).head?.any (fun c => decide (65 ≤ c.toNat ∧ c.toNat ≤ 90)) = true := by decide
  have h := key ⟨k, by omega⟩ h1
  simp only at h
  cases e : word k with
  | nil => rw [e] at h; cases h
  | cons c r =>
    rw [e] at h
    have h2 : 65 ≤ c.toNat ∧ c.toNat ≤ 90 := of_decide_eq_true (by simpa using h)
    exact ⟨c, r, rfl, h2.1, h2.2⟩
theorem text_head {op a : Int} {s : List UInt8} (h : text op a = some s) : ∃ c r, s = c :: r ∧ 65 ≤ c.toNat ∧ c.toNat ≤ 90 := by
  obtain ⟨⟨k1, k2⟩, c1⟩ := text_some h
  obtain ⟨c, r, hw, b1, b2⟩ := word_head (k := op.toNat) (by omega) (by omega)
  rcases c1 with ⟨_, _, hs⟩ | ⟨_, hs⟩
  · exact ⟨c, r, by rw [hs, hw], b1, b2⟩
  · exact ⟨c, r ++ 32 :: itoa a, by rw [hs, hw]; rfl, b1, b2⟩
theorem text_ascii {op a : Int} {s : List UInt8} (h : text op a = some s) : ∀ b ∈ s, b.toNat < 128 := by
  obtain ⟨⟨k1, k2⟩, c1⟩ := text_some h
  have hw : ∀ b ∈ word op.toNat, b.toNat < 128 := by
    have key : ∀ i : Fin 18, ∀ b ∈ word i.val, b.toNat < 128 := by decide
    exact key ⟨op.toNat, by omega⟩
  rcases c1 with ⟨_, _, rfl⟩ | ⟨_, rfl⟩
  · exact hw
  · intro b hb
    rcases List.mem_append.1 hb with hb | hb
    · exact hw b hb
    · rcases List.mem_cons.1 hb with rfl | hb
      · decide
      · rcases itoa_bytes a b hb with h | h
        · unfold isDig at h; omega
        · subst h; decide
theorem no_lower {op a : Int} {s : List UInt8} (h : text op a = some s) : pread (toLowerA s) = none := by
  obtain ⟨c, r, hs, b1, b2⟩ := text_head h
  refine no_read fun op' a' ht => ?_
  obtain ⟨c', r', hs', b1', b2'⟩ := text_head ht
  rw [hs] at hs'
  have e : lowerB c = c' := by
    have := congrArg List.head? hs'
    simpa [toLowerA] using this
  have key : ∀ x : UInt8, 65 ≤ x.toNat → x.toNat ≤ 90 → 90 < (lowerB x).toNat := by
    have k2 : ∀ i : Fin 256, 65 ≤ (UInt8.ofNat i.val).toNat → (UInt8.ofNat i.val).toNat ≤ 90 → 90 < (lowerB (UInt8.ofNat i.val)).toNat := by decide +kernel
    intro x h1 h2
    have := k2 ⟨x.toNat, by have := x.toNat_lt; omega⟩
    simp only [UInt8.ofNat_toNat] at this
    exact this h1 h2
  have := key c b1 b2
  rw [e] at this
  omega
/-- What is near an instruction's string: seven that are none. -/
theorem near {op a : Int} {s : List UInt8} (h : text op a = some s) :
    pread (32 :: s) = none ∧ pread (s ++ [32]) = none ∧ pread (s ++ [32, 48]) = none ∧ pread (toLowerA s) = none ∧ pread ((cut s).1 ++ 32 :: 32 :: (cut s).2.1) = none ∧ pread ((cut s).1 ++ 32 :: 48 :: (cut s).2.1) = none ∧ pread ((cut s).1 ++ 32 :: 43 :: (cut s).2.1) = none := by
  obtain ⟨⟨k1, k2⟩, c1⟩ := text_some h
  have hc := cut_text h
  refine ⟨no_space s, ?_, ?_, no_lower h, ?_, ?_, ?_⟩
  · rcases c1 with ⟨hb, _, hs⟩ | ⟨hb, hs⟩
    · rw [hs]
      exact no_tail (by omega) (by omega) [] (.inl hb)
    · rw [hs, List.append_assoc, List.cons_append]
      exact no_tail (by omega) (by omega) _ (.inr fun b e => itoa_no b (c := 32) (by decide) (by decide) (by rw [e]; simp))
  · rcases c1 with ⟨hb, _, hs⟩ | ⟨hb, hs⟩
    · rw [hs]
      exact no_tail (by omega) (by omega) [48] (.inl hb)
    · rw [hs, List.append_assoc, List.cons_append]
      exact no_tail (by omega) (by omega) _ (.inr fun b e => itoa_no b (c := 32) (by decide) (by decide) (by rw [e]; simp))
  · rw [hc.1]
    exact no_tail (by omega) (by omega) _ (.inr fun b e => itoa_no b (c := 32) (by decide) (by decide) (by rw [e]; simp))
  · rw [hc.1]
    rcases c1 with ⟨hb, _, hs⟩ | ⟨hb, hs⟩
    · exact no_tail (by omega) (by omega) _ (.inl hb)
    · refine no_tail (by omega) (by omega) _ (.inr fun b e => ?_)
      have := itoa_nought e
      rw [hc.2.1 hb] at this
      exact itoa_ne a this
  · rw [hc.1]
    exact no_tail (by omega) (by omega) _ (.inr fun b e => itoa_no b (c := 43) (by decide) (by decide) (by rw [e]; simp))
end Go.Proofs.YtmmehfkiceelkaaGreatDoor.Cd

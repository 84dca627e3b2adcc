/-
  PLAIN LAWS OF LAYER 4: where something stands that begins no token, the text is wrong there.
-/
import Derived.Test.YtkjpnciimabclaaDoorLexC
namespace Go.Proofs.YtkjpnciimabclaaDoor.Lex
open Go.Lib Go.Proofs.YtkjpnciimabclaaDoor.Dec

theorem wrong_back_at {e x : List UInt8} (he : rest false e = x) (hx : x ≠ []) (h0 : (first x).1 = 0) (hes : Sep e) : ∀ (is : List Item) (f p : Nat), (∀ i ∈ is, Gap i.gap ∧ Tk i.kind i.text) → (∀ i ∈ is.tail, ∃ c r, i.gap = c :: r ∧ white c = true) → (txt is e).length < f → scanR f (p + skip (txt is e)) (rest false (txt is e)) = .error (p + (txt is e).length - x.length)
  | [], f, p, _, _, hf => by
    obtain ⟨f, rfl⟩ : ∃ g, f = g + 1 := ⟨f - 1, by omega⟩
    show scanR (f + 1) (p + skip e) (rest false e) = .error (p + e.length - x.length)
    have h1 := rest_length e
    have h2 := skip_le e
    rw [he] at h1 ⊢
    rw [scanR_bad hx h0]
    congr 1
    omega
  | i :: r, f, p, hi, ht, hf => by
    obtain ⟨f, rfl⟩ : ∃ g, f = g + 1 := ⟨f - 1, by omega⟩
    obtain ⟨hg, hk, hp, hxx⟩ := hi i (by simp)
    have hsep : Sep (txt r e) := by
      cases r with
      | nil => exact hes
      | cons j r =>
        obtain ⟨c, t, h1, h2⟩ := ht j (by simp)
        exact .inr ⟨c, t ++ j.text ++ txt r e, by show j.gap ++ j.text ++ txt r e = _; rw [h1]; simp, h2⟩
    obtain ⟨h1, h2⟩ := hxx _ hsep
    have h3 : rest false (txt (i :: r) e) = i.text ++ txt r e := by
      show rest false (i.gap ++ i.text ++ txt r e) = _
      rw [List.append_assoc, hg, h2]
    have h4 : skip (txt (i :: r) e) = i.gap.length := by
      unfold skip
      rw [h3]
      show (i.gap ++ i.text ++ txt r e).length - _ = _
      simp
    rw [h3, h4]
    have hne : i.text ++ txt r e ≠ [] := fun h => by
      have := congrArg List.length h
      simp at this
      rw [this.1] at hp
      simp at hp
    rw [scanR_step hne (by rw [h1]; exact hk), h1]
    simp only [List.drop_left]
    have hl : (txt (i :: r) e).length = i.gap.length + i.text.length + (txt r e).length := by
      show (i.gap ++ i.text ++ txt r e).length = _
      simp
      omega
    rw [wrong_back_at he hx h0 hes r f (p + i.gap.length + i.text.length) (fun j hj => hi j (by simp [hj])) (fun j hj => ht j (List.mem_of_mem_tail hj)) (by omega), hl]
    show Except.error _ = Except.error _
    congr 1
    omega
theorem wrong_back {is : List Item} {e x : List UInt8} (hi : ∀ i ∈ is, Gap i.gap ∧ Tk i.kind i.text) (ht : ∀ i ∈ is.tail, ∃ c r, i.gap = c :: r ∧ white c = true) (he : rest false e = x) (hx : x ≠ []) (h0 : (first x).1 = 0) (hes : Sep e) : scan (txt is e) = .error ((txt is e).length - x.length) := by
  have := wrong_back_at he hx h0 hes is ((txt is e).length + 1) 0 hi ht (Nat.lt_succ_self _)
  rw [Nat.zero_add, Nat.zero_add] at this
  exact this

/-- What begins no token, whatever follows. -/
def Bad (b : List UInt8) : Prop := ∀ more, b ++ more ≠ [] ∧ (first (b ++ more)).1 = 0 ∧ rest false (b ++ more) = b ++ more
theorem num_bad {d : List UInt8} (h : numOk d [] = false) (r : List UInt8) : numOk d r = false := by
  cases h2 : numOk d r with
  | false => rfl
  | true =>
    have := numOk_sep h2 (x := []) (.inl rfl)
    rw [h] at this
    cases this
theorem word_bad {d r : List UInt8} {c : UInt8} (h : word c = true) : numOk d (c :: r) = false := by
  unfold numOk
  show (_ && !word c) = false
  rw [h]
  exact Bool.and_false _
theorem first_num {c : UInt8} {l u : List UInt8} (h1 : letr c = false) (h2 : dig c = true) (hu : (c :: l).takeWhile dig = u) (hn : numOk u ((c :: l).drop u.length) = false) : (first (c :: l)).1 = 0 := by
  rw [first, if_neg (by rw [h1]; decide), if_pos h2, hu, if_neg (by rw [hn]; decide)]
theorem great_bad {d : List UInt8} {t r : List UInt8} (hd : ∀ c ∈ d, isDig c) (hne : d ≠ []) (hv : 9223372036854775808 ≤ val 0 d) (ht : ∀ c ∈ t, dig c = true) : numOk (d ++ t) r = false := by
  refine num_bad ?_ r
  have hD : ∀ c ∈ d ++ t, isDig c := fun c hc => by
    rcases List.mem_append.1 hc with hc | hc
    · exact hd c hc
    · simpa [dig, isDig] using ht c hc
  have := val_ge t (val 0 d)
  unfold numOk
  rw [parseIntB_64, atoi_digits (by simp [hne]) hD, val_append, if_neg (by omega)]
  rfl
theorem while_more {p : UInt8 → Bool} {d : List UInt8} (hd : ∀ c ∈ d, p c = true) (m : List UInt8) : (d ++ m).takeWhile p = d ++ m.takeWhile p := List.takeWhile_append_of_pos hd
theorem bad0 : Bad [36] := fun m => ⟨by simp, rfl, rfl⟩
theorem bad1 : Bad [0] := fun m => ⟨by simp, rfl, rfl⟩
theorem bad2 : Bad [38, 32] := fun m => ⟨by simp, rfl, rfl⟩
theorem bad3 : Bad [124, 32] := fun m => ⟨by simp, rfl, rfl⟩
theorem bad4 : Bad [34] := fun m => ⟨by simp, rfl, rfl⟩
theorem bad5 : Bad [39] := fun m => ⟨by simp, rfl, rfl⟩
theorem bad6 : Bad [95] := fun m => ⟨by simp, rfl, rfl⟩
theorem bad7 : Bad [48, 48, 32] := fun m => ⟨by simp, first_num (u := [48, 48]) (by decide) (by decide) rfl (num_bad (by decide +kernel) _), rfl⟩
theorem bad8 : Bad [48, 49, 32] := fun m => ⟨by simp, first_num (u := [48, 49]) (by decide) (by decide) rfl (num_bad (by decide +kernel) _), rfl⟩
theorem bad9 : Bad [49, 97] := fun m => ⟨by simp, first_num (u := [49]) (by decide) (by decide) rfl (word_bad (c := 97) (r := m) (by decide)), rfl⟩
theorem bad10 : Bad [49, 95] := fun m => ⟨by simp, first_num (u := [49]) (by decide) (by decide) rfl (word_bad (c := 95) (r := m) (by decide)), rfl⟩
theorem bad11 : Bad [57, 50, 50, 51, 51, 55, 50, 48, 51, 54, 56, 53, 52, 55, 55, 53, 56, 48, 56] := fun m => ⟨by simp, first_num (u := [57, 50, 50, 51, 51, 55, 50, 48, 51, 54, 56, 53, 52, 55, 55, 53, 56, 48, 56] ++ m.takeWhile dig) (by decide) (by decide) (while_more (d := [57, 50, 50, 51, 51, 55, 50, 48, 51, 54, 56, 53, 52, 55, 55, 53, 56, 48, 56]) (by decide) m) (great_bad (by decide) (by decide) (by decide +kernel) (while_dig_all m)), rfl⟩
theorem bad12 : Bad [49, 48, 48, 48, 48, 48, 48, 48, 48, 48, 48, 48, 48, 48, 48, 48, 48, 48, 48, 48] := fun m => ⟨by simp, first_num (u := [49, 48, 48, 48, 48, 48, 48, 48, 48, 48, 48, 48, 48, 48, 48, 48, 48, 48, 48, 48] ++ m.takeWhile dig) (by decide) (by decide) (while_more (d := [49, 48, 48, 48, 48, 48, 48, 48, 48, 48, 48, 48, 48, 48, 48, 48, 48, 48, 48, 48]) (by decide) m) (great_bad (by decide) (by decide) (by decide +kernel) (while_dig_all m)), rfl⟩
theorem bad13 : Bad [97, 98, 99, 100, 101, 102, 103, 104, 105, 106, 107, 108, 109, 110, 111, 112, 113] := fun m => by
  refine ⟨by simp, ?_, rfl⟩
  have hw := while_more (p := word) (d := [97, 98, 99, 100, 101, 102, 103, 104, 105, 106, 107, 108, 109, 110, 111, 112, 113]) (by decide) m
  have hl : ([97, 98, 99, 100, 101, 102, 103, 104, 105, 106, 107, 108, 109, 110, 111, 112, 113] ++ m.takeWhile word).length = 17 + (m.takeWhile word).length := by simp; omega
  have hk : ([97, 98, 99, 100, 101, 102, 103, 104, 105, 106, 107, 108, 109, 110, 111, 112, 113] ++ m.takeWhile word) ∉ keywords := fun h => by
    have := (show ∀ x ∈ keywords, x.length ≤ 6 by decide) _ h
    omega
  show (first (97 :: ([98, 99, 100, 101, 102, 103, 104, 105, 106, 107, 108, 109, 110, 111, 112, 113] ++ m))).1 = 0
  rw [first, if_pos (by decide), ← List.cons_append, hw, if_neg hk, if_neg (by omega)]
theorem bad14 : Bad [255] := fun m => ⟨by simp, rfl, rfl⟩
theorem bad15 : Bad [46] := fun m => ⟨by simp, rfl, rfl⟩
theorem bad16 : Bad [58] := fun m => ⟨by simp, rfl, rfl⟩
theorem bad17 : Bad [35] := fun m => ⟨by simp, rfl, rfl⟩
theorem bad18 : Bad [64] := fun m => ⟨by simp, rfl, rfl⟩
theorem bad19 : Bad [126] := fun m => ⟨by simp, rfl, rfl⟩
end Go.Proofs.YtkjpnciimabclaaDoor.Lex


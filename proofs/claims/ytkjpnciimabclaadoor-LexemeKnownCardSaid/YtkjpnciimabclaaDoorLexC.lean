/-
  PLAIN LAWS OF LAYER 4: the tokens of a text stand one behind the other; tokens that are written one behind the other, with white space or comments between them, are found again.
-/
import Derived.Test.YtkjpnciimabclaaDoorLexB
namespace Go.Proofs.YtkjpnciimabclaaDoor.Lex
open Go.Lib Go.Proofs.YtkjpnciimabclaaDoor.Dec

/-! ### White space and comments alone -/
theorem rest_cut : ∀ (l : List UInt8) (b : Bool), rest b (l.take (l.length - (rest b l).length)) = []
  | [], b => by cases b <;> rfl
  | c :: r, b => by
    have key : ∀ (b' : Bool), (rest b' r).length ≤ r.length → rest b (c :: r) = rest b' r → (∀ k, rest b (c :: r.take k) = rest b' (r.take k) ∨ k = 0 ∧ rest b [c] = []) → rest b ((c :: r).take ((c :: r).length - (rest b (c :: r)).length)) = [] := by
      intro b' h1 e h2
      rw [e, List.length_cons, show r.length + 1 - (rest b' r).length = (r.length - (rest b' r).length) + 1 by omega, List.take_succ_cons]
      rcases h2 (r.length - (rest b' r).length) with h | ⟨h, h3⟩
      · rw [h]
        exact rest_cut r b'
      · rw [h, List.take_zero]
        exact h3
    cases b with
    | true =>
      by_cases e : c = 10
      · exact key false (rest_drop false r).2 (by rw [rest, if_pos e]) fun k => .inl (by rw [rest, if_pos e])
      · exact key true (rest_drop true r).2 (rest_skip e) fun k => .inl (rest_skip e)
    | false =>
      by_cases e : white c = true
      · exact key false (rest_drop false r).2 (rest_white e) fun k => .inl (rest_white e)
      · by_cases e2 : c = 47 ∧ r.head? = some 47
        · have h1 : rest false (c :: r) = rest true r := by rw [rest, if_neg e, if_pos e2]
          obtain ⟨rfl, h2⟩ := e2
          cases r with
          | nil => cases h2
          | cons d t =>
            obtain rfl : d = 47 := by simpa using h2
            have h3 : (rest true (47 :: t)).length ≤ t.length := by
              rw [rest_skip (by decide)]
              exact (rest_drop true t).2
            rw [h1, List.length_cons, List.length_cons, show t.length + 1 + 1 - (rest true (47 :: t)).length = (t.length - (rest true (47 :: t)).length) + 1 + 1 by omega, List.take_succ_cons, List.take_succ_cons, rest_note]
            have h4 := rest_cut (47 :: t) true
            rw [List.length_cons, show t.length + 1 - (rest true (47 :: t)).length = (t.length - (rest true (47 :: t)).length) + 1 by omega, List.take_succ_cons] at h4
            rw [rest_skip (by decide)]
            exact h4
        · have h1 : rest false (c :: r) = c :: r := by rw [rest, if_neg e, if_neg e2]
          rw [h1, Nat.sub_self]
          rfl
/-- A piece that is white space and comments alone, as the law reads it. -/
def blank (b : Bool) (l : List UInt8) : Bool := (rest b l).isEmpty

/-! ### The tokens of a text, one behind the other -/
def Chain (l : List UInt8) : Nat → List Tok → Prop
  | fr, [] => fr ≤ l.length ∧ rest false (l.drop fr) = []
  | fr, t :: us => fr ≤ l.length ∧ t.off = fr + skip (l.drop fr) ∧ t.kind ≠ 0 ∧ first (l.drop t.off) = (t.kind, t.text) ∧ t.off < l.length ∧ Chain l (t.off + t.text.length) us
theorem chain_of (l : List UInt8) : ∀ (f fr : Nat) (ts : List Tok), fr ≤ l.length → (rest false (l.drop fr)).length < f → scanR f (fr + skip (l.drop fr)) (rest false (l.drop fr)) = .ok ts → Chain l fr ts
  | 0, _, _, _, h, _ => by omega
  | f + 1, fr, ts, hfr, hlt, h => by
    have hr := rest_skipped (l.drop fr)
    rw [List.drop_drop] at hr
    by_cases hn : rest false (l.drop fr) = []
    · rw [hn, scanR_nil] at h
      cases h
      exact ⟨hfr, hn⟩
    · by_cases hz : (first (rest false (l.drop fr))).1 = 0
      · rw [scanR_bad hn hz] at h
        cases h
      · rw [scanR_step hn hz] at h
        obtain ⟨p0, p1⟩ := first_fits hz
        have ple := first_le hz
        have hlen := rest_length (l.drop fr)
        rw [List.length_drop] at hlen
        have hdd : (rest false (l.drop fr)).drop (first (rest false (l.drop fr))).2.length = l.drop (fr + skip (l.drop fr) + (first (rest false (l.drop fr))).2.length) := by
          conv => lhs; rw [hr]
          rw [List.drop_drop, ← hr]
        rw [hdd] at h
        cases h2 : scanR f (fr + skip (l.drop fr) + (first (rest false (l.drop fr))).2.length + skip (l.drop (fr + skip (l.drop fr) + (first (rest false (l.drop fr))).2.length))) (rest false (l.drop (fr + skip (l.drop fr) + (first (rest false (l.drop fr))).2.length))) with
        | error e => rw [h2] at h; cases h
        | ok us =>
          rw [h2] at h
          cases h
          have hpos : 0 < (rest false (l.drop fr)).length := List.length_pos_iff.2 hn
          refine ⟨hfr, rfl, hz, by show first (l.drop (fr + skip (l.drop fr))) = _; rw [← hr], by show fr + skip (l.drop fr) < l.length; omega, ?_⟩
          refine chain_of l f _ us ?_ ?_ h2
          · show fr + skip (l.drop fr) + (first (rest false (l.drop fr))).2.length ≤ l.length
            omega
          · show (rest false (l.drop (fr + skip (l.drop fr) + (first (rest false (l.drop fr))).2.length))).length < f
            have := (rest_drop false (l.drop (fr + skip (l.drop fr) + (first (rest false (l.drop fr))).2.length))).2
            rw [List.length_drop] at this
            omega
theorem chain_scan {l : List UInt8} {ts : List Tok} (h : scan l = .ok ts) : Chain l 0 ts :=
  chain_of l (l.length + 1) 0 ts (Nat.zero_le _) (Nat.lt_succ_of_le (rest_drop false l).2) (by rw [List.drop_zero, Nat.zero_add]; exact h)
/-- Where a text is wrong. -/
theorem wrong_at : ∀ (f p : Nat) (l : List UInt8) (o : Nat), scanR f p l = .error o → o < p + l.length
  | 0, _, _, _, h => by cases h
  | f + 1, p, [], o, h => by rw [scanR_nil] at h; cases h
  | f + 1, p, c :: r, o, h => by
    by_cases hz : (first (c :: r)).1 = 0
    · rw [scanR_bad (List.cons_ne_nil _ _) hz] at h
      cases h
      simp
    · rw [scanR_step (List.cons_ne_nil _ _) hz] at h
      cases h2 : scanR f (p + (first (c :: r)).2.length + skip ((c :: r).drop (first (c :: r)).2.length)) (rest false ((c :: r).drop (first (c :: r)).2.length)) with
      | ok us => rw [h2] at h; cases h
      | error e =>
        rw [h2] at h
        cases h
        have := wrong_at f _ _ _ h2
        have h3 := first_le hz
        have h4 := rest_length ((c :: r).drop (first (c :: r)).2.length)
        have h5 := skip_le ((c :: r).drop (first (c :: r)).2.length)
        rw [List.length_drop] at h4 h5
        omega
theorem wrong_lt {l : List UInt8} {o : Nat} (h : scan l = .error o) : o < l.length := by
  have h1 := wrong_at _ _ _ _ h
  have := rest_length l
  have := skip_le l
  omega

/-! ### Tokens are found again -/
/-- What may stand behind a token. -/
def Sep (x : List UInt8) : Prop := x = [] ∨ ∃ c r, x = c :: r ∧ white c = true
/-- A token, whatever stands behind it. -/
def Tk (k : Int) (s : List UInt8) : Prop := k ≠ 0 ∧ 0 < s.length ∧ ∀ x, Sep x → first (s ++ x) = (k, s) ∧ rest false (s ++ x) = s ++ x

theorem white_word {c : UInt8} (h : white c = true) : word c = false ∧ dig c = false ∧ letr c = false := by
  have h' : c.toNat = 32 ∨ c.toNat = 9 ∨ c.toNat = 13 ∨ c.toNat = 10 := by simpa [white] using h
  have h1 : ¬ ((65 ≤ c.toNat ∧ c.toNat ≤ 90) ∨ (97 ≤ c.toNat ∧ c.toNat ≤ 122)) := by omega
  have h2 : ¬ (48 ≤ c.toNat ∧ c.toNat ≤ 57) := by omega
  have h3 : ¬ c.toNat = 95 := by omega
  have l1 : letr c = false := decide_eq_false h1
  have l2 : dig c = false := decide_eq_false h2
  exact ⟨by unfold word; rw [l1, l2, decide_eq_false h3]; rfl, l2, l1⟩
theorem while_sep {p : UInt8 → Bool} {s x : List UInt8} (hs : ∀ c ∈ s, p c = true) (hx : Sep x) (hp : ∀ c, white c = true → p c = false) : (s ++ x).takeWhile p = s := by
  rw [List.takeWhile_append_of_pos hs]
  rcases hx with rfl | ⟨c, r, rfl, hc⟩
  · simp
  · rw [List.takeWhile_cons_of_neg (by rw [hp c hc]; decide), List.append_nil]
theorem word_tk {c : UInt8} {r : List UInt8} (hc : letr c = true) (hw : ∀ d ∈ c :: r, word d = true) : ((c :: r) ∈ keywords → Tk 3 (c :: r)) ∧ ((c :: r) ∉ keywords → (c :: r).length ≤ 16 → Tk 1 (c :: r)) := by
  have h0 : ∀ x, Sep x → rest false ((c :: r) ++ x) = (c :: r) ++ x := fun x hx => by
    have h' : (65 ≤ c.toNat ∧ c.toNat ≤ 90) ∨ (97 ≤ c.toNat ∧ c.toNat ≤ 122) := by simpa [letr] using hc
    exact rest_here (decide_eq_false (by omega)) (by rintro ⟨rfl, _⟩; exact absurd h' (by decide))
  have hf : ∀ x, Sep x → first ((c :: r) ++ x) = if (c :: r) ∈ keywords then (3, c :: r) else if (c :: r).length ≤ 16 then (1, c :: r) else (0, []) := fun x hx => by
    have hq := while_sep hw hx (fun d hd => (white_word hd).1)
    rw [List.cons_append, first, if_pos hc, ← List.cons_append, hq]
  exact ⟨fun h => ⟨by decide, by simp, fun x hx => ⟨by rw [hf x hx, if_pos h], h0 x hx⟩⟩, fun h h2 => ⟨by decide, by simp, fun x hx => ⟨by rw [hf x hx, if_neg h, if_pos h2], h0 x hx⟩⟩⟩
theorem numOk_sep {d r x : List UInt8} (h : numOk d r = true) (hx : Sep x) : numOk d x = true := by
  unfold numOk at h ⊢
  rw [Bool.and_eq_true] at h ⊢
  refine ⟨h.1, ?_⟩
  rcases hx with rfl | ⟨c, r, rfl, hc⟩
  · rfl
  · show (!word c) = true
    rw [(white_word hc).1]
    rfl
theorem digit_tk {c : UInt8} {r y : List UInt8} (hd : ∀ d ∈ c :: r, dig d = true) (hn : numOk (c :: r) y = true) : Tk 2 (c :: r) := by
  have hc := hd c (by simp)
  have h' : 48 ≤ c.toNat ∧ c.toNat ≤ 57 := by simpa [dig] using hc
  have hl : letr c = false := decide_eq_false (by omega)
  refine ⟨by decide, by simp, fun x hx => ⟨?_, rest_here (decide_eq_false (by omega)) (by rintro ⟨rfl, _⟩; exact absurd h' (by decide))⟩⟩
  have hq := while_sep hd hx (fun d hd => (white_word hd).2.1)
  rw [List.cons_append, first, if_neg (by rw [hl]; decide), if_pos hc, ← List.cons_append, hq, if_pos]
  rw [List.drop_left]
  exact numOk_sep hn hx
theorem sign_tk {s : List UInt8} (hs : s ∈ signs) : Tk 4 s := by
  have hw : ∀ c, white c = true → c = 32 ∨ c = 9 ∨ c = 13 ∨ c = 10 := fun c hc => by
    have h' : c.toNat = 32 ∨ c.toNat = 9 ∨ c.toNat = 13 ∨ c.toNat = 10 := by simpa [white] using hc
    rcases h' with h | h | h | h
    · exact .inl (UInt8.toNat_inj.1 h)
    · exact .inr (.inl (UInt8.toNat_inj.1 h))
    · exact .inr (.inr (.inl (UInt8.toNat_inj.1 h)))
    · exact .inr (.inr (.inr (UInt8.toNat_inj.1 h)))
  have hp : 0 < s.length := (show ∀ y ∈ signs, 0 < y.length by decide) s hs
  refine ⟨by decide, hp, fun x hx => ?_⟩
  simp only [signs, List.mem_cons, List.not_mem_nil, or_false] at hs
  rcases hs with rfl | rfl | rfl | rfl | rfl | rfl | rfl | rfl | rfl | rfl | rfl | rfl | rfl | rfl | rfl | rfl | rfl | rfl | rfl | rfl | rfl | rfl | rfl
  all_goals
    rcases hx with rfl | ⟨c, r, rfl, hc⟩
    · exact ⟨rfl, rfl⟩
    · rcases hw c hc with rfl | rfl | rfl | rfl
      all_goals exact ⟨rfl, rfl⟩
/-- What a text begins with is a token wherever it stands. -/
theorem first_tk {l : List UInt8} (h : (first l).1 ≠ 0) : Tk (first l).1 (first l).2 := by
  cases l with
  | nil => exact absurd rfl h
  | cons c r =>
    by_cases hc : letr c = true
    · have hw : ∀ d ∈ (c :: r).takeWhile word, word d = true := by
        have := List.all_takeWhile (p := word) (l := c :: r)
        rw [List.all_eq_true] at this
        exact this
      have he : (c :: r).takeWhile word = c :: r.takeWhile word := List.takeWhile_cons_of_pos (by unfold word; rw [hc]; rfl)
      rw [first, if_pos hc] at h ⊢
      rw [he] at h hw ⊢
      obtain ⟨t1, t2⟩ := word_tk hc hw
      by_cases hk : (c :: r.takeWhile word) ∈ keywords
      · rw [if_pos hk]
        exact t1 hk
      · rw [if_neg hk] at h ⊢
        by_cases h16 : (c :: r.takeWhile word).length ≤ 16
        · rw [if_pos h16]
          exact t2 hk h16
        · rw [if_neg h16] at h
          exact absurd rfl h
    · by_cases hd : dig c = true
      · have hw : ∀ d ∈ (c :: r).takeWhile dig, dig d = true := while_dig_all _
        have he : (c :: r).takeWhile dig = c :: r.takeWhile dig := List.takeWhile_cons_of_pos hd
        rw [first, if_neg hc, if_pos hd] at h ⊢
        by_cases hn : numOk ((c :: r).takeWhile dig) ((c :: r).drop ((c :: r).takeWhile dig).length) = true
        · rw [if_pos hn]
          rw [he] at hn hw ⊢
          exact digit_tk hw hn
        · rw [if_neg hn] at h
          exact absurd rfl h
      · rw [first, if_neg hc, if_neg hd] at h ⊢
        cases hf : signs.find? (fun x => x.isPrefixOf (c :: r)) with
        | none => rw [hf] at h; exact absurd rfl h
        | some x => exact sign_tk (List.mem_of_find?_eq_some hf)

/-- What stands in front of a token: it begins with white space (or there is nothing), and what is left behind it is what is left. -/
structure Item where
  gap : List UInt8
  kind : Int
  text : List UInt8
def Gap (g : List UInt8) : Prop := ∀ x, rest false (g ++ x) = rest false x
def txt : List Item → List UInt8 → List UInt8
  | [], e => e
  | i :: r, e => i.gap ++ i.text ++ txt r e
def toksAt : Nat → List Item → List Tok
  | _, [] => []
  | p, i :: r => ⟨i.kind, i.text, p + i.gap.length⟩ :: toksAt (p + i.gap.length + i.text.length) r
theorem back_at {e : List UInt8} (he : rest false e = []) (hes : Sep e) : ∀ (is : List Item) (f p : Nat), (∀ i ∈ is, Gap i.gap ∧ Tk i.kind i.text) → (∀ i ∈ is.tail, ∃ c r, i.gap = c :: r ∧ white c = true) → (txt is e).length < f → scanR f (p + skip (txt is e)) (rest false (txt is e)) = .ok (toksAt p is)
  | [], f, p, _, _, _ => by
    show scanR f (p + skip e) (rest false e) = _
    rw [he, scanR_nil]
    rfl
  | i :: r, f, p, hi, ht, hf => by
    obtain ⟨f, rfl⟩ : ∃ g, f = g + 1 := ⟨f - 1, by omega⟩
    obtain ⟨hg, hk, hp, hx⟩ := hi i (by simp)
    have hsep : Sep (txt r e) := by
      cases r with
      | nil => exact hes
      | cons j r =>
        obtain ⟨c, t, h1, h2⟩ := ht j (by simp)
        exact .inr ⟨c, t ++ j.text ++ txt r e, by show j.gap ++ j.text ++ txt r e = _; rw [h1]; simp, h2⟩
    obtain ⟨h1, h2⟩ := hx _ hsep
    have h3 : rest false (txt (i :: r) e) = i.text ++ txt r e := by
      show rest false (i.gap ++ i.text ++ txt r e) = _
      rw [List.append_assoc, hg, h2]
    have h4 : skip (txt (i :: r) e) = i.gap.length := by
      unfold skip
      rw [h3]
      show (i.gap ++ i.text ++ txt r e).length - _ = _
      simp
    rw [h3, h4]
    have hne : i.text ++ txt r e ≠ [] := fun h => by
      have := congrArg List.length h
      simp at this
      rw [this.1] at hp
      simp at hp
    rw [scanR_step hne (by rw [h1]; exact hk), h1]
    simp only [List.drop_left]
    have hl : (txt (i :: r) e).length = i.gap.length + i.text.length + (txt r e).length := by
      show (i.gap ++ i.text ++ txt r e).length = _
      simp
      omega
    rw [back_at he hes r f (p + i.gap.length + i.text.length) (fun j hj => hi j (by simp [hj])) (fun j hj => ht j (List.mem_of_mem_tail hj)) (by omega)]
    rfl
/-- Tokens that are written one behind the other are found again. -/
theorem back {is : List Item} {e : List UInt8} (hi : ∀ i ∈ is, Gap i.gap ∧ Tk i.kind i.text) (ht : ∀ i ∈ is.tail, ∃ c r, i.gap = c :: r ∧ white c = true) (he : rest false e = []) (hes : Sep e) : scan (txt is e) = .ok (toksAt 0 is) := by
  have := back_at he hes is ((txt is e).length + 1) 0 hi ht (Nat.lt_succ_self _)
  rw [Nat.zero_add] at this
  exact this
theorem txt_snoc : ∀ (is : List Item) (i : Item) (e : List UInt8), txt (is ++ [i]) e = txt is (i.gap ++ i.text ++ e)
  | [], _, _ => rfl
  | j :: r, i, e => by
    show j.gap ++ j.text ++ txt (r ++ [i]) e = j.gap ++ j.text ++ txt r _
    rw [txt_snoc r i e]
theorem txt_end : ∀ (is : List Item) (e : List UInt8), txt is e = txt is [] ++ e
  | [], _ => rfl
  | j :: r, e => by
    show j.gap ++ j.text ++ txt r e = j.gap ++ j.text ++ txt r [] ++ e
    rw [txt_end r e]
    simp
theorem toks_snoc : ∀ (is : List Item) (i : Item) (p : Nat), toksAt p (is ++ [i]) = toksAt p is ++ [⟨i.kind, i.text, p + (txt is []).length + i.gap.length⟩]
  | [], _, _ => rfl
  | j :: r, i, p => by
    show _ :: toksAt _ (r ++ [i]) = _ :: (toksAt _ r ++ _)
    rw [toks_snoc r i]
    have : (txt (j :: r) []).length = j.gap.length + j.text.length + (txt r []).length := by
      show (j.gap ++ j.text ++ txt r []).length = _
      simp
      omega
    rw [this]
    congr 3
    simp
    omega
theorem toks_len : ∀ (is : List Item) (p : Nat), (toksAt p is).length = is.length
  | [], _ => rfl
  | _ :: r, _ => congrArg (· + 1) (toks_len r _)
end Go.Proofs.YtkjpnciimabclaaDoor.Lex

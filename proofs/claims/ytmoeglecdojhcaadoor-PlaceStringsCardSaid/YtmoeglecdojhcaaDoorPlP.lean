/-
  PLAIN LAWS OF LAYER 1: places in a text.
-/
import Derived.Test.YtmoeglecdojhcaaDoorComL
import Derived.Lib.LastIndexByte
namespace Go.Proofs.YtmoeglecdojhcaaDoor.Pl
open Go.Lib Go.Proofs.YtmoeglecdojhcaaDoor.Dec Go.Proofs.YtmoeglecdojhcaaDoor.Lin

/-- The line that one stands in behind u, from line L on. -/
def advR (L : Nat) (u : List UInt8) : Nat := L + u.count 10
/-- The column that one stands at behind u, from column C on. -/
def advC : Nat → List UInt8 → Nat
  | C, [] => C
  | C, b :: r => if b = 10 then advC 1 r else advC (C + 1) r
def row (u : List UInt8) : Nat := advR 1 u
def col (u : List UInt8) : Nat := advC 1 u

theorem advR_feed (L : Nat) (r : List UInt8) : advR L (10 :: r) = advR (L + 1) r := by unfold advR; rw [List.count_cons_self]; omega
theorem advR_other {L : Nat} {b : UInt8} {r : List UInt8} (h : b ≠ 10) : advR L (b :: r) = advR L r := by unfold advR; rw [List.count_cons_of_ne h]
theorem advC_feed (C : Nat) (r : List UInt8) : advC C (10 :: r) = advC 1 r := by rw [advC, if_pos rfl]
theorem advC_other {C : Nat} {b : UInt8} {r : List UInt8} (h : b ≠ 10) : advC C (b :: r) = advC (C + 1) r := by rw [advC, if_neg h]
theorem advC_append : ∀ (u v : List UInt8) (C : Nat), advC C (u ++ v) = advC (advC C u) v
  | [], _, _ => rfl
  | b :: u, v, C => by
    by_cases h : b = 10
    · subst h; rw [List.cons_append, advC_feed, advC_feed, advC_append]
    · rw [List.cons_append, advC_other h, advC_other h, advC_append]
theorem row_snoc (u : List UInt8) (b : UInt8) : row (u ++ [b]) = if b = 10 then row u + 1 else row u := by
  unfold row advR
  rw [List.count_append]
  split
  · rename_i h; subst h; simp; omega
  · rename_i h; rw [List.count_cons_of_ne h]; simp
theorem col_snoc (u : List UInt8) (b : UInt8) : col (u ++ [b]) = if b = 10 then 1 else col u + 1 := by
  unfold col
  rw [advC_append]
  split
  · rename_i h; subst h; rw [advC_feed]; rfl
  · rename_i h; rw [advC_other h]; rfl
theorem advC_plain : ∀ (u : List UInt8) (C : Nat), (∀ c ∈ u, c ≠ 10) → advC C u = C + u.length
  | [], _, _ => rfl
  | b :: u, C, h => by
    rw [advC_other (h b (by simp)), advC_plain u (C + 1) fun c hc => h c (by simp [hc]), List.length_cons]
    omega
theorem advC_pos : ∀ (u : List UInt8) (C : Nat), 1 ≤ C → 1 ≤ advC C u
  | [], _, h => h
  | b :: u, C, h => by
    by_cases hb : b = 10
    · subst hb; rw [advC_feed]; exact advC_pos u 1 (Nat.le_refl _)
    · rw [advC_other hb]; exact advC_pos u _ (by omega)
theorem advC_le : ∀ (u : List UInt8) (C : Nat), 1 ≤ C → advC C u ≤ C + u.length
  | [], _, _ => Nat.le_refl _
  | b :: u, C, h => by
    rw [List.length_cons]
    by_cases hb : b = 10
    · subst hb; rw [advC_feed]; have := advC_le u 1 (Nat.le_refl _); omega
    · rw [advC_other hb]; have := advC_le u (C + 1) (by omega); omega
theorem col_pos (u : List UInt8) : 1 ≤ col u := advC_pos u 1 (Nat.le_refl _)
theorem col_le (u : List UInt8) : col u ≤ 1 + u.length := advC_le u 1 (Nat.le_refl _)
/-- One goes on: to a later line, or to a later column of this line. -/
theorem adv_on : ∀ (u : List UInt8) (L C : Nat), u ≠ [] → L < advR L u ∨ (advR L u = L ∧ C < advC C u)
  | [], _, _, h => absurd rfl h
  | b :: u, L, C, _ => by
    by_cases hb : b = 10
    · subst hb; left; rw [advR_feed]; unfold advR; omega
    · rw [advR_other hb, advC_other hb]
      cases u with
      | nil => right; exact ⟨rfl, Nat.lt_succ_self _⟩
      | cons c u =>
        rcases adv_on (c :: u) L (C + 1) (by simp) with h | ⟨h1, h2⟩
        · exact .inl h
        · exact .inr ⟨h1, by omega⟩

/-- The code's way: through the lines. -/
def offC : List (List UInt8) → Nat → Nat → Int → Int → Option Nat
  | [], _, _, _, _ => none
  | p :: ps, L, i, l, c => if (L : Int) = l ∧ 1 ≤ c ∧ c ≤ p.length + 1 then some (i + (c - 1).toNat) else offC ps (L + 1) (i + p.length + 1) l c
/-- The reference's way: byte by byte. -/
def offR : List UInt8 → Nat → Nat → Nat → Int → Int → Option Nat
  | [], i, L, C, l, c => if (L : Int) = l ∧ (C : Int) = c then some i else none
  | b :: r, i, L, C, l, c => if (L : Int) = l ∧ (C : Int) = c then some i else if b = 10 then offR r (i + 1) (L + 1) 1 l c else offR r (i + 1) L (C + 1) l c
/-- The offset of a place. -/
def off (s : List UInt8) (l c : Int) : Option Nat := offC (pieces s) 1 0 l c

theorem offR_pieces : ∀ (s : List UInt8) (i L C : Nat) (l c : Int) (p : List UInt8) (ps : List (List UInt8)), pieces s = p :: ps →
    offR s i L C l c = if (L : Int) = l ∧ (C : Int) ≤ c ∧ c ≤ C + p.length then some (i + (c - C).toNat) else offC ps (L + 1) (i + p.length + 1) l c
  | [], i, L, C, l, c, p, ps, h => by
    obtain ⟨rfl, rfl⟩ : p = [] ∧ ps = [] := by rw [show pieces [] = [[]] from rfl] at h; cases h; exact ⟨rfl, rfl⟩
    rw [offR, List.length_nil]
    by_cases h1 : (L : Int) = l ∧ (C : Int) = c
    · rw [if_pos h1, if_pos ⟨h1.1, by omega, by omega⟩, show (c - (C : Int)).toNat = 0 by omega]; rfl
    · rw [if_neg h1, if_neg (fun e => h1 ⟨e.1, by omega⟩)]; rfl
  | b :: r, i, L, C, l, c, p, ps, h => by
    obtain ⟨q, qs, hq⟩ := pieces_ne r
    rw [offR]
    by_cases hb : b = 10
    · subst hb
      rw [pieces_feed, hq] at h
      obtain ⟨rfl, rfl⟩ : p = [] ∧ ps = q :: qs := by cases h; exact ⟨rfl, rfl⟩
      rw [if_pos rfl, List.length_nil]
      by_cases h1 : (L : Int) = l ∧ (C : Int) = c
      · rw [if_pos h1, if_pos ⟨h1.1, by omega, by omega⟩, show (c - (C : Int)).toNat = 0 by omega]; rfl
      · rw [if_neg h1, if_neg (fun e => h1 ⟨e.1, by omega⟩), offR_pieces r (i + 1) (L + 1) 1 l c q qs hq, offC]
        by_cases h2 : ((L + 1 : Nat) : Int) = l ∧ 1 ≤ c ∧ c ≤ (q.length : Int) + 1
        · rw [if_pos h2, if_pos ⟨h2.1, by omega, by omega⟩]; rfl
        · rw [if_neg h2, if_neg (fun e => h2 ⟨e.1, by omega, by omega⟩)]
    · rw [pieces_other hb hq] at h
      obtain ⟨rfl, rfl⟩ : p = b :: q ∧ qs = ps := by cases h; exact ⟨rfl, rfl⟩
      rw [if_neg hb, List.length_cons]
      by_cases h1 : (L : Int) = l ∧ (C : Int) = c
      · rw [if_pos h1, if_pos ⟨h1.1, by omega, by omega⟩, show (c - (C : Int)).toNat = 0 by omega]; rfl
      · rw [if_neg h1, offR_pieces r (i + 1) L (C + 1) l c q qs hq]
        by_cases h2 : (L : Int) = l ∧ (C : Int) ≤ c ∧ c ≤ (C : Int) + ((q.length + 1 : Nat) : Int)
        · rw [if_pos h2, if_pos ⟨h2.1, by omega, by omega⟩]
          congr 1; omega
        · rw [if_neg h2, if_neg (fun e => h2 ⟨e.1, by omega, by omega⟩)]
          congr 1; omega
theorem offR_off (s : List UInt8) (l c : Int) : offR s 0 1 1 l c = off s l c := by
  obtain ⟨p, ps, hp⟩ := pieces_ne s
  rw [offR_pieces s 0 1 1 l c p ps hp, off, hp, offC]
  by_cases h : ((1 : Nat) : Int) = l ∧ 1 ≤ c ∧ c ≤ (p.length : Int) + 1
  · rw [if_pos h, if_pos ⟨h.1, by omega, by omega⟩]; rfl
  · rw [if_neg h, if_neg (fun e => h ⟨e.1, by omega, by omega⟩)]

/-- An offset is found again from its place. -/
theorem offR_adv : ∀ (u v : List UInt8) (i L C : Nat), offR (u ++ v) i L C (advR L u) (advC C u) = some (i + u.length)
  | [], v, i, L, C => by
    have h : ((L : Int) = (advR L [] : Nat)) ∧ (C : Int) = (advC C [] : Nat) := ⟨by unfold advR; simp, rfl⟩
    cases v with
    | nil => rw [List.append_nil, offR, if_pos h]; rfl
    | cons b v => rw [List.nil_append, offR, if_pos h]; rfl
  | b :: u, v, i, L, C => by
    have hn : ¬ ((L : Int) = (advR L (b :: u) : Nat) ∧ (C : Int) = (advC C (b :: u) : Nat)) := fun e => by
      rcases adv_on (b :: u) L C (by simp) with h | ⟨_, h⟩ <;> omega
    rw [List.cons_append, offR, if_neg hn, List.length_cons]
    by_cases hb : b = 10
    · subst hb
      rw [if_pos rfl, advR_feed, advC_feed, offR_adv u v]
      congr 1; omega
    · rw [if_neg hb, advR_other hb, advC_other hb, offR_adv u v]
      congr 1; omega
theorem off_take (s : List UInt8) (a : Nat) (ha : a ≤ s.length) : off s (row (s.take a)) (col (s.take a)) = some a := by
  have := offR_adv (s.take a) (s.drop a) 0 1 1
  rw [List.take_append_drop, List.length_take, Nat.min_eq_left ha, Nat.zero_add] at this
  rw [← offR_off]
  exact this
/-- The place of what is found. -/
theorem offR_some : ∀ (s : List UInt8) (i L C : Nat) (l c : Int) (o : Nat), offR s i L C l c = some o → i ≤ o ∧ o ≤ i + s.length ∧ (advR L (s.take (o - i)) : Int) = l ∧ (advC C (s.take (o - i)) : Int) = c
  | [], i, L, C, l, c, o, h => by
    rw [offR] at h
    by_cases h1 : (L : Int) = l ∧ (C : Int) = c
    · rw [if_pos h1] at h
      obtain rfl := Option.some.inj h
      exact ⟨Nat.le_refl _, by simp, by rw [List.take_nil]; unfold advR; simpa using h1.1, by rw [List.take_nil]; exact h1.2⟩
    · rw [if_neg h1] at h; cases h
  | b :: r, i, L, C, l, c, o, h => by
    rw [offR] at h
    by_cases h1 : (L : Int) = l ∧ (C : Int) = c
    · rw [if_pos h1] at h
      obtain rfl := Option.some.inj h
      refine ⟨Nat.le_refl _, Nat.le_add_right _ _, ?_, ?_⟩
      · rw [Nat.sub_self, List.take_zero]; unfold advR; simpa using h1.1
      · rw [Nat.sub_self, List.take_zero]; exact h1.2
    · rw [if_neg h1] at h
      by_cases hb : b = 10
      · subst hb
        rw [if_pos rfl] at h
        obtain ⟨h2, h3, h4, h5⟩ := offR_some r _ _ _ l c o h
        have e : o - i = (o - (i + 1)) + 1 := by omega
        rw [List.length_cons]
        refine ⟨by omega, by omega, ?_, ?_⟩
        · rw [e, List.take_succ_cons, advR_feed]; exact h4
        · rw [e, List.take_succ_cons, advC_feed]; exact h5
      · rw [if_neg hb] at h
        obtain ⟨h2, h3, h4, h5⟩ := offR_some r _ _ _ l c o h
        have e : o - i = (o - (i + 1)) + 1 := by omega
        rw [List.length_cons]
        refine ⟨by omega, by omega, ?_, ?_⟩
        · rw [e, List.take_succ_cons, advR_other hb]; exact h4
        · rw [e, List.take_succ_cons, advC_other hb]; exact h5
theorem off_some {s : List UInt8} {l c : Int} {o : Nat} (h : off s l c = some o) : o ≤ s.length ∧ (row (s.take o) : Int) = l ∧ (col (s.take o) : Int) = c := by
  rw [← offR_off] at h
  obtain ⟨_, h2, h3, h4⟩ := offR_some s 0 1 1 l c o h
  exact ⟨by omega, h3, h4⟩

/-- A line of a text. -/
def line (s : List UInt8) (n : Int) : Option (List UInt8) := if 1 ≤ n then (pieces s)[(n - 1).toNat]? else none
theorem offC_line : ∀ (ps : List (List UInt8)) (L i : Nat) (l c : Int), (offC ps L i l c).isSome = true ↔ ∃ q, (L : Int) ≤ l ∧ ps[(l - L).toNat]? = some q ∧ 1 ≤ c ∧ c ≤ q.length + 1
  | [], _, _, _, _ => by simp [offC]
  | p :: ps, L, i, l, c => by
    rw [offC]
    by_cases h : (L : Int) = l
    · rw [show (l - (L : Int)).toNat = 0 by omega, List.getElem?_cons_zero]
      by_cases h2 : 1 ≤ c ∧ c ≤ (p.length : Int) + 1
      · rw [if_pos ⟨h, h2⟩]
        exact ⟨fun _ => ⟨p, by omega, rfl, h2⟩, fun _ => rfl⟩
      · rw [if_neg (fun e => h2 e.2), offC_line ps]
        exact ⟨fun ⟨q, hq, _⟩ => by omega, fun ⟨q, _, hq, hq2⟩ => by cases hq; exact absurd hq2 h2⟩
    · rw [if_neg (fun e => h e.1), offC_line ps]
      constructor
      · rintro ⟨q, h1, h2, h3⟩
        refine ⟨q, by omega, ?_, h3⟩
        rw [show (l - (L : Int)).toNat = (l - ((L + 1 : Nat) : Int)).toNat + 1 by omega, List.getElem?_cons_succ]
        exact h2
      · rintro ⟨q, h1, h2, h3⟩
        refine ⟨q, by omega, ?_, h3⟩
        rw [show (l - (L : Int)).toNat = (l - ((L + 1 : Nat) : Int)).toNat + 1 by omega, List.getElem?_cons_succ] at h2
        exact h2
theorem off_line (s : List UInt8) (l c : Int) : (off s l c).isSome = true ↔ ∃ q, line s l = some q ∧ 1 ≤ c ∧ c ≤ q.length + 1 := by
  rw [off, offC_line]
  unfold line
  constructor
  · rintro ⟨q, h1, h2, h3⟩
    exact ⟨q, by rw [if_pos (by omega)]; exact h2, h3⟩
  · rintro ⟨q, h1, h2⟩
    by_cases h : 1 ≤ l
    · rw [if_pos h] at h1
      exact ⟨q, by omega, h1, h2⟩
    · rw [if_neg h] at h1; cases h1

/-- The lines, found by their numbers, as the code goes. -/
def linC : List (List UInt8) → Nat → Int → Option (List UInt8)
  | [], _, _ => none
  | p :: ps, L, n => if (L : Int) = n then some p else linC ps (L + 1) n
theorem linC_at : ∀ (ps : List (List UInt8)) (L : Nat) (n : Int), linC ps L n = if (L : Int) ≤ n then ps[(n - L).toNat]? else none
  | [], L, n => by simp [linC]
  | p :: ps, L, n => by
    rw [linC]
    by_cases h : (L : Int) = n
    · rw [if_pos h, if_pos (by omega), show (n - (L : Int)).toNat = 0 by omega]; rfl
    · rw [if_neg h, linC_at ps]
      by_cases h2 : (L : Int) ≤ n
      · rw [if_pos h2, if_pos (by omega), show (n - (L : Int)).toNat = (n - ((L + 1 : Nat) : Int)).toNat + 1 by omega]; rfl
      · rw [if_neg h2, if_neg (by omega)]
theorem linC_line (s : List UInt8) (n : Int) : linC (pieces s) 1 n = line s n := linC_at _ _ _

/-- The place, from the last line feed on. -/
theorem byte_at (l : List UInt8) (k : Nat) : ((⟨l.toArray⟩ : ByteArray).data[k]!) = (l[k]?).getD 0 := by
  show l.toArray[k]! = _
  rw [Array.getElem!_eq_getD, Array.getD_eq_getD_getElem?, List.getElem?_toArray]
  rfl
theorem last_snoc (u : List UInt8) (b : UInt8) : Lib.lastIndexByte ⟨(u ++ [b]).toArray⟩ 10 = if b = 10 then (u.length : Int) else Lib.lastIndexByte ⟨u.toArray⟩ 10 := by
  have hk : ∀ k, k ≤ u.length → Lib.lastIdx ⟨(u ++ [b]).toArray⟩ 10 k = Lib.lastIdx ⟨u.toArray⟩ 10 k := fun k => by
    induction k with
    | zero => intro _; rfl
    | succ k ih =>
      intro h
      rw [Lib.lastIdx, Lib.lastIdx, byte_at, byte_at, List.getElem?_append_left (by omega), ih (by omega)]
  show Lib.lastIdx ⟨(u ++ [b]).toArray⟩ 10 (u ++ [b]).length = if b = 10 then (u.length : Int) else Lib.lastIdx ⟨u.toArray⟩ 10 u.length
  rw [List.length_append, List.length_singleton, Lib.lastIdx, byte_at, List.getElem?_append_right (Nat.le_refl _), Nat.sub_self, List.getElem?_cons_zero]
  by_cases h : b = 10
  · subst h; rw [if_pos (by decide), if_pos rfl]
  · have : b.toNat ≠ 10 := fun e => h (UInt8.toNat_inj.1 e)
    rw [if_neg (by simp only [Option.getD_some]; omega), if_neg h, hk _ (Nat.le_refl _)]
theorem snoc_ind {p : List UInt8 → Prop} (h0 : p []) (h1 : ∀ u b, p u → p (u ++ [b])) (u : List UInt8) : p u := by
  have : ∀ v : List UInt8, p v.reverse := fun v => by
    induction v with
    | nil => exact h0
    | cons b v ih => rw [List.reverse_cons]; exact h1 _ _ ih
  have h := this u.reverse
  rwa [List.reverse_reverse] at h
theorem last_col (u : List UInt8) : (u.length : Int) - Lib.lastIndexByte ⟨u.toArray⟩ 10 = (col u : Int) := by
  refine snoc_ind (p := fun u => (u.length : Int) - Lib.lastIndexByte ⟨u.toArray⟩ 10 = (col u : Int)) (by decide) (fun u b ih => ?_) u
  rw [last_snoc, col_snoc, List.length_append, List.length_singleton]
  split
  · omega
  · push_cast; omega

/-- What a line is, from an offset's place on. -/
theorem line_behind : ∀ (v t : List UInt8), (v = [] ∨ ∃ v', v = v' ++ [10]) → (pieces (v ++ t))[v.count 10]? = (pieces t)[0]?
  | [], t, _ => by simp
  | b :: v, t, h => by
    by_cases hv : v = []
    · subst hv
      obtain ⟨v', hv'⟩ : ∃ v', [b] = v' ++ [10] := by rcases h with h | h; cases h; exact h
      obtain rfl : b = 10 := by
        have := congrArg List.getLast? hv'
        simpa using this
      rw [List.cons_append, List.nil_append, pieces_feed]
      simp
    · have hv2 : v = [] ∨ ∃ v', v = v' ++ [10] := .inr (by
        rcases h with h | ⟨v', h⟩
        · cases h
        · cases v' with
          | nil => simp at h; exact absurd h.2 hv
          | cons x v' => rw [List.cons_append] at h; cases h; exact ⟨v', rfl⟩)
      have ih := line_behind v t hv2
      by_cases hb : b = 10
      · subst hb
        rw [List.cons_append, pieces_feed, List.count_cons_self, List.getElem?_cons_succ]
        exact ih
      · obtain ⟨q, qs, hq⟩ := pieces_ne (v ++ t)
        rw [List.cons_append, pieces_other hb hq, List.count_cons_of_ne hb]
        rw [hq] at ih
        have hc : 1 ≤ v.count 10 := by
          rcases hv2 with h | ⟨v', rfl⟩
          · exact absurd h hv
          · rw [List.count_append]; simp
        obtain ⟨k, hk⟩ : ∃ k, v.count 10 = k + 1 := ⟨v.count 10 - 1, by omega⟩
        rw [hk, List.getElem?_cons_succ] at ih ⊢
        exact ih
/-- Every text is what ends in a line feed (or nothing) and a piece without one, as long as its column says. -/
theorem split_col (u : List UInt8) : ∃ v t, u = v ++ t ∧ (v = [] ∨ ∃ v', v = v' ++ [10]) ∧ (∀ c ∈ t, c ≠ 10) ∧ col u = t.length + 1 := by
  refine snoc_ind (p := fun u => ∃ v t, u = v ++ t ∧ (v = [] ∨ ∃ v', v = v' ++ [10]) ∧ (∀ c ∈ t, c ≠ 10) ∧ col u = t.length + 1) ⟨[], [], rfl, .inl rfl, by simp, rfl⟩ (fun u b ih => ?_) u
  obtain ⟨v, t, rfl, hv, ht, hc⟩ := ih
  by_cases hb : b = 10
  · subst hb
    exact ⟨v ++ t ++ [10], [], by simp, .inr ⟨_, rfl⟩, by simp, by rw [col_snoc, if_pos rfl]; rfl⟩
  · refine ⟨v, t ++ [b], by simp, hv, fun c hc => ?_, ?_⟩
    · rcases List.mem_append.1 hc with h | h
      · exact ht c h
      · rw [List.mem_singleton.1 h]; exact hb
    · rw [col_snoc, if_neg hb, hc, List.length_append]; rfl
theorem count_plain {t : List UInt8} (h : ∀ c ∈ t, c ≠ 10) : t.count 10 = 0 := List.count_eq_zero.2 (fun e => h 10 e rfl)
theorem pieces_ahead : ∀ (t r : List UInt8), (∀ c ∈ t, c ≠ 10) → ∃ q, (pieces (t ++ r))[0]? = some (t ++ q) ∧ q <+: r
  | [], r, _ => by
    obtain ⟨q, qs, hq⟩ := pieces_ne r
    refine ⟨q, by rw [List.nil_append, hq]; rfl, ?_⟩
    have := joined_pieces r
    rw [hq] at this
    cases qs with
    | nil => exact ⟨[], by rw [List.append_nil]; exact this⟩
    | cons a qs => exact ⟨10 :: joined (a :: qs), this⟩
  | b :: t, r, h => by
    obtain ⟨q, h1, h2⟩ := pieces_ahead t r fun c hc => h c (by simp [hc])
    obtain ⟨p, ps, hp⟩ := pieces_ne (t ++ r)
    rw [hp] at h1
    refine ⟨q, ?_, h2⟩
    rw [List.cons_append, pieces_other (h b (by simp)) hp]
    have : p = t ++ q := Option.some.inj h1
    rw [this]; rfl
/-- THE LINE OF AN OFFSET. -/
theorem line_of (s : List UInt8) (a : Nat) (ha : a ≤ s.length) :
    ∃ (g : Nat) (q : List UInt8), g + (col (s.take a) - 1) = a ∧ (g = 0 ∨ s[g - 1]? = some 10) ∧ line s (row (s.take a)) = some q ∧ col (s.take a) - 1 ≤ q.length ∧ q <+: s.drop g := by
  obtain ⟨v, t, hu, hv, ht, hc⟩ := split_col (s.take a)
  obtain ⟨q, h1, h2⟩ := pieces_ahead t (s.drop a) ht
  have hs : s = v ++ (t ++ s.drop a) := by rw [← List.append_assoc, ← hu, List.take_append_drop]
  have hlen : v.length + t.length = a := by
    have := congrArg List.length hu
    rw [List.length_take, List.length_append, Nat.min_eq_left ha] at this
    exact this.symm
  have hd : s.drop v.length = t ++ s.drop a := by
    have := congrArg (List.drop v.length) hs
    rwa [List.drop_left] at this
  refine ⟨v.length, t ++ q, by rw [hc]; omega, ?_, ?_, by rw [hc, List.length_append]; omega, ?_⟩
  · rcases hv with rfl | ⟨v', rfl⟩
    · exact .inl rfl
    · refine .inr ?_
      have := congrArg (fun l => l[(v' ++ [10]).length - 1]?) hs
      refine this.trans ?_
      rw [List.length_append, List.length_singleton, Nat.add_sub_cancel, List.append_assoc, List.getElem?_append_right (Nat.le_refl _), Nat.sub_self]
      rfl
  · unfold line
    have hr : row (s.take a) = 1 + v.count 10 := by
      unfold row advR
      rw [hu, List.count_append, count_plain ht]
      omega
    rw [if_pos (by rw [hr]; omega), hr, show (((1 + v.count 10 : Nat) : Int) - 1).toNat = v.count 10 by omega]
    rw [show pieces s = pieces (v ++ (t ++ s.drop a)) by rw [← hs], line_behind v _ hv, h1]
  · rw [hd]
    exact List.prefix_append_right_inj t |>.2 h2

/-- Lines, one byte more. -/
theorem pieces_snoc : ∀ (u : List UInt8) (b : UInt8), ∃ ps p, pieces u = ps ++ [p] ∧ pieces (u ++ [b]) = if b = 10 then ps ++ [p, []] else ps ++ [p ++ [b]]
  | [], b => ⟨[], [], rfl, by
    by_cases h : b = 10
    · subst h; rfl
    · rw [if_neg h, List.nil_append, pieces_other h (show pieces [] = [] :: [] from rfl)]; rfl⟩
  | c :: u, b => by
    obtain ⟨ps, p, h1, h2⟩ := pieces_snoc u b
    by_cases hc : c = 10
    · subst hc
      refine ⟨[] :: ps, p, by rw [pieces_feed, h1]; rfl, ?_⟩
      rw [List.cons_append, pieces_feed, h2]
      split <;> rfl
    · cases ps with
      | nil =>
        refine ⟨[], c :: p, by rw [pieces_other hc (by rw [h1]; rfl)]; rfl, ?_⟩
        by_cases hb : b = 10
        · rw [if_pos hb] at h2 ⊢
          rw [List.cons_append, pieces_other hc h2]; rfl
        · rw [if_neg hb] at h2 ⊢
          rw [List.cons_append, pieces_other hc h2]; rfl
      | cons q ps =>
        refine ⟨(c :: q) :: ps, p, by rw [pieces_other hc (by rw [h1]; rfl)]; rfl, ?_⟩
        by_cases hb : b = 10
        · rw [if_pos hb] at h2 ⊢
          rw [List.cons_append, pieces_other hc h2]; rfl
        · rw [if_neg hb] at h2 ⊢
          rw [List.cons_append, pieces_other hc h2]; rfl

end Go.Proofs.YtmoeglecdojhcaaDoor.Pl

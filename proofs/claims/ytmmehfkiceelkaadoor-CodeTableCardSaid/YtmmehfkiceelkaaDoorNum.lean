/-
  PLAIN LAWS OF LAYER 2 (numbers): which strings are numbers; lists of numbers; arithmetic that wraps around.
-/
import Derived.Test.YtmmehfkiceelkaaDoorDec
import Derived.Lib.SplitLaws
import Derived.Lib.Split
import Derived.Lib.IndexLaws
import Derived.RowKit
import Derived.IntWalk
namespace Go.Proofs.YtmmehfkiceelkaaDoor.Num
open Go.Lib Go.RowKit Go.Proofs.YtmmehfkiceelkaaDoor.Dec

/-! ### Strings of numbers -/
/-- Digits alone, without a zero ahead of others. -/
def plain (l : List UInt8) : Bool := decide (l ≠ [] ∧ (∀ c ∈ l, isDig c) ∧ (l.head? = some 48 → l.length = 1))

theorem plain_dec (u : Nat) : plain (decDigits u) = true := by
  refine decide_eq_true ⟨dec_ne u, dec_dig u, fun h => ?_⟩
  by_cases h0 : u < 10
  · rw [dec_small h0]; rfl
  · obtain ⟨c, r, e, h1, h2⟩ := dec_head u (by omega)
    rw [e] at h
    obtain rfl : c = 48 := by simpa using h
    exact absurd h1 (by decide)
theorem plain_is {l : List UInt8} (h : plain l = true) : decDigits (val 0 l) = l := by
  obtain ⟨h1, h2, h3⟩ := of_decide_eq_true h
  refine dec_val' l h1 h2 ?_
  by_cases hh : l.head? = some 48
  · exact .inr (h3 hh)
  · refine .inl fun c r e hc => hh ?_
    subst e
    rw [List.head?_cons, show c = 48 from UInt8.toNat_inj.1 hc]

def cand : List UInt8 → Int
  | [] => 0
  | c :: r => if c = 45 then -(val 0 r : Int) else (val 0 (c :: r) : Int)
/-- The number that a string says. -/
def parse (l : List UInt8) : Option Int := if itoa (cand l) = l ∧ -9223372036854775808 ≤ cand l ∧ cand l ≤ 9223372036854775807 then some (cand l) else none

theorem not45 {c : UInt8} (h : isDig c) : c ≠ 45 := by
  rintro rfl
  revert h
  unfold isDig
  decide
theorem cand_digits {l : List UInt8} (h : ∀ c ∈ l, isDig c) : cand l = val 0 l := by
  cases l with
  | nil => rfl
  | cons c r =>
    show (if c = 45 then _ else _) = _
    rw [if_neg (not45 (h c (by simp)))]
theorem cand_itoa (n : Int) : cand (itoa n) = n := by
  by_cases h : n < 0
  · rw [itoa_neg h]
    show (if (45 : UInt8) = 45 then -(val 0 (decDigits n.natAbs) : Int) else (val 0 (45 :: decDigits n.natAbs) : Int)) = n
    rw [if_pos rfl, val_dec]
    omega
  · rw [itoa_nn (by omega), cand_digits (dec_dig _), val_dec]
    omega
theorem parse_iff {l : List UInt8} {n : Int} : parse l = some n ↔ itoa n = l ∧ -9223372036854775808 ≤ n ∧ n ≤ 9223372036854775807 := by
  unfold parse
  constructor
  · intro h
    split at h
    · rename_i h1
      cases h
      exact h1
    · cases h
  · rintro ⟨rfl, h1, h2⟩
    rw [cand_itoa, if_pos ⟨rfl, h1, h2⟩]
theorem parse_itoa {n : Int} (h0 : -9223372036854775808 ≤ n) (h1 : n ≤ 9223372036854775807) : parse (itoa n) = some n := parse_iff.2 ⟨rfl, h0, h1⟩
theorem parse_none {l : List UInt8} (h : ∀ n, -9223372036854775808 ≤ n → n ≤ 9223372036854775807 → itoa n ≠ l) : parse l = none := by
  cases hp : parse l with
  | none => rfl
  | some n =>
    obtain ⟨h1, h2, h3⟩ := parse_iff.1 hp
    exact absurd h1 (h n h2 h3)

/-- What the program asks first. -/
theorem not_plain {l : List UInt8} (h : plain l = false) (h45 : ∀ r, l ≠ 45 :: r) : parse l = none := parse_none fun n _ _ e => by
  by_cases hn : n < 0
  · rw [itoa_neg hn] at e
    exact h45 _ e.symm
  · rw [itoa_nn (by omega)] at e
    rw [← e, plain_dec] at h
    cases h
theorem no_minus {r : List UInt8} {u : Nat} (e : decDigits u = 45 :: r) : False := not45 (dec_dig u 45 (by rw [e]; simp)) rfl
theorem not_plain_neg {r : List UInt8} (h : plain r = false) : parse (45 :: r) = none := parse_none fun n _ _ e => by
  by_cases hn : n < 0
  · rw [itoa_neg hn] at e
    rw [← (List.cons.inj e).2, plain_dec] at h
    cases h
  · rw [itoa_nn (by omega)] at e
    exact no_minus e
theorem minus_nought : parse [45, 48] = none := parse_none fun n _ _ e => by
  by_cases hn : n < 0
  · rw [itoa_neg hn] at e
    have h := congrArg (val 0) (List.cons.inj e).2
    rw [val_dec] at h
    have : val 0 [48] = 0 := rfl
    omega
  · rw [itoa_nn (by omega)] at e
    exact no_minus e
/-- Then the library reads it. -/
theorem plain_reads {l : List UInt8} (h : plain l = true) : (∃ n, atoiAll l = .ok n ∧ parse l = some n) ∨ (atoiAll l = .range ∧ parse l = none) := by
  obtain ⟨h1, h2, h3⟩ := of_decide_eq_true h
  rw [atoi_digits h1 h2]
  by_cases hv : val 0 l < 9223372036854775808
  · rw [if_pos hv]
    exact .inl ⟨_, rfl, parse_iff.2 ⟨by rw [itoa_nn (by omega)]; exact plain_is h, by omega, by omega⟩⟩
  · rw [if_neg hv]
    refine .inr ⟨rfl, parse_none fun n _ h5 e => ?_⟩
    have := cand_itoa n
    rw [e, cand_digits h2] at this
    omega
theorem neg_reads {r : List UInt8} (h : plain r = true) (h0 : r ≠ [48]) : (∃ n, atoiAll (45 :: r) = .ok n ∧ parse (45 :: r) = some n) ∨ (atoiAll (45 :: r) = .range ∧ parse (45 :: r) = none) := by
  obtain ⟨h1, h2, h3⟩ := of_decide_eq_true h
  have hp := plain_is h
  rw [atoi_minus h1 h2]
  by_cases hv : val 0 r ≤ 9223372036854775808
  · rw [if_pos hv]
    have h4 : 0 < val 0 r := by
      rcases Nat.eq_zero_or_pos (val 0 r) with e | e
      · rw [e, dec_small (by decide)] at hp
        exact absurd hp.symm h0
      · exact e
    exact .inl ⟨_, rfl, parse_iff.2 ⟨by rw [Dec.itoa_neg (by omega), show (-(val 0 r : Int)).natAbs = val 0 r by omega, hp], by omega, by omega⟩⟩
  · rw [if_neg hv]
    refine .inr ⟨rfl, parse_none fun n h4 _ e => ?_⟩
    have := cand_itoa n
    rw [e] at this
    change (if (45 : UInt8) = 45 then -(val 0 r : Int) else (val 0 (45 :: r) : Int)) = n at this
    rw [if_pos rfl] at this
    omega

/-- A byte that no number has. -/
theorem bad_byte {l : List UInt8} {k : Nat} {c : UInt8} (h : l[k]? = some c) (hc : ¬ isDig c) (h0 : k = 0 → c ≠ 45) : parse l = none := parse_none fun n _ _ e => by
  subst e
  by_cases hn : n < 0
  · rw [itoa_neg hn] at h
    cases k with
    | zero =>
      simp at h
      exact h0 rfl h.symm
    | succ k => exact hc (dec_dig _ c (List.mem_of_getElem? (by simpa using h)))
  · rw [itoa_nn (by omega)] at h
    exact hc (dec_dig _ c (List.mem_of_getElem? h))
theorem too_long {l : List UInt8} (h : 20 < l.length) : parse l = none := parse_none fun n h0 h1 e => by
  have := itoa_length h0 h1
  rw [e] at this
  omega
theorem parse_nil : parse [] = none := parse_none fun n _ _ e => itoa_ne n e
/-- A number that wraps around, and has this string or has not. -/
theorem parse_wrapped (l : List UInt8) : parse l = if itoa (wrap64 (cand l)) = l then some (wrap64 (cand l)) else none := by
  by_cases h : itoa (wrap64 (cand l)) = l
  · rw [if_pos h]
    have := wrap64_bounds (cand l)
    exact parse_iff.2 ⟨h, this.1, this.2⟩
  · rw [if_neg h]
    refine parse_none fun n h0 h1 e => h ?_
    have := cand_itoa n
    rw [e] at this
    rw [this, show wrap64 n = n by unfold wrap64; omega]
    exact e
where wrap64_bounds (n : Int) : -9223372036854775808 ≤ wrap64 n ∧ wrap64 n ≤ 9223372036854775807 := by unfold wrap64; omega

/-! ### Arithmetic that wraps around -/
theorem wrap_ex (x : Int) : ∃ k, wrap64 x = x + 18446744073709551616 * k := ⟨-((x + 9223372036854775808) / 18446744073709551616), by unfold wrap64; omega⟩
theorem wrap_shift (x k : Int) : wrap64 (x + 18446744073709551616 * k) = wrap64 x := by unfold wrap64; omega
theorem wrap_id {x : Int} (h0 : -9223372036854775808 ≤ x) (h1 : x ≤ 9223372036854775807) : wrap64 x = x := by unfold wrap64; omega
theorem wrap_bounds (x : Int) : -9223372036854775808 ≤ wrap64 x ∧ wrap64 x ≤ 9223372036854775807 := by unfold wrap64; omega
theorem wrap_add_left (x y : Int) : wrap64 (wrap64 x + y) = wrap64 (x + y) := by unfold wrap64; omega
theorem wrap_add_right (x y : Int) : wrap64 (x + wrap64 y) = wrap64 (x + y) := by unfold wrap64; omega
theorem wrap_mul_left (x y : Int) : wrap64 (wrap64 x * y) = wrap64 (x * y) := by
  obtain ⟨k, e⟩ := wrap_ex x
  rw [e, Int.add_mul, Int.mul_assoc, wrap_shift]
theorem wrap_mul_right (x y : Int) : wrap64 (x * wrap64 y) = wrap64 (x * y) := by rw [Int.mul_comm, wrap_mul_left, Int.mul_comm]
theorem add_comm' (a b : Int) : wrap64 (a + b) = wrap64 (b + a) := by rw [Int.add_comm]
theorem mul_comm' (a b : Int) : wrap64 (a * b) = wrap64 (b * a) := by rw [Int.mul_comm]
theorem add_assoc' (a b c : Int) : wrap64 (wrap64 (a + b) + c) = wrap64 (a + wrap64 (b + c)) := by rw [wrap_add_left, wrap_add_right, Int.add_assoc]
theorem mul_assoc' (a b c : Int) : wrap64 (wrap64 (a * b) * c) = wrap64 (a * wrap64 (b * c)) := by rw [wrap_mul_left, wrap_mul_right, Int.mul_assoc]
theorem mul_add' (a b c : Int) : wrap64 (a * wrap64 (b + c)) = wrap64 (wrap64 (a * b) + wrap64 (a * c)) := by rw [wrap_mul_right, wrap_add_left, wrap_add_right, Int.mul_add]
theorem sub_neg' (a b : Int) : wrap64 (a - b) = wrap64 (a + wrap64 (-b)) := by rw [wrap_add_right, Int.sub_eq_add_neg]
theorem neg_neg' {a : Int} (h0 : -9223372036854775808 ≤ a) (h1 : a ≤ 9223372036854775807) : wrap64 (-wrap64 (-a)) = a := by unfold wrap64; omega
/-- A quotient times b, and the remainder. -/
theorem quot_back {a b : Int} (h0 : -9223372036854775808 ≤ a) (h1 : a ≤ 9223372036854775807) : wrap64 (wrap64 (wrap64 (a.tdiv b) * b) + a.tmod b) = a := by
  rw [wrap_mul_left, wrap_add_left, Int.mul_comm, Int.mul_tdiv_add_tmod]
  exact wrap_id h0 h1

/-! ### Lists -/
/-- The pieces of a string between commas. -/
def pieces : List UInt8 → List (List UInt8)
  | [] => [[]]
  | c :: r => if c = 44 then [] :: pieces r else match pieces r with
    | p :: ps => (c :: p) :: ps
    | [] => [[c]]
theorem pieces_ne (l : List UInt8) : ∃ p ps, pieces l = p :: ps := by
  cases l with
  | nil => exact ⟨_, _, rfl⟩
  | cons c r =>
    unfold pieces
    split
    · exact ⟨_, _, rfl⟩
    · split <;> exact ⟨_, _, rfl⟩
theorem pieces_comma (r : List UInt8) : pieces (44 :: r) = [] :: pieces r := by rw [pieces, if_pos rfl]
theorem pieces_other {c : UInt8} {r p : List UInt8} {ps : List (List UInt8)} (h : c ≠ 44) (hp : pieces r = p :: ps) : pieces (c :: r) = (c :: p) :: ps := by rw [pieces, if_neg h, hp]
theorem pieces_split : ∀ (p r : List UInt8), (∀ c ∈ p, c ≠ 44) → pieces (p ++ 44 :: r) = p :: pieces r
  | [], r, _ => pieces_comma r
  | c :: p, r, h => pieces_other (h c (by simp)) (pieces_split p r fun d hd => h d (by simp [hd]))
theorem pieces_end : ∀ (p : List UInt8), (∀ c ∈ p, c ≠ 44) → pieces p = [p]
  | [], _ => rfl
  | c :: p, h => pieces_other (h c (by simp)) (pieces_end p fun d hd => h d (by simp [hd]))
theorem pieces_len : ∀ l : List UInt8, (pieces l).length = 1 + l.count 44
  | [] => rfl
  | c :: r => by
    have ih := pieces_len r
    obtain ⟨p, ps, hp⟩ := pieces_ne r
    by_cases h : c = 44
    · subst h
      rw [pieces_comma, List.length_cons, ih, List.count_cons_self]
      omega
    · rw [pieces_other h hp, List.count_cons_of_ne h, ← ih, hp]
      rfl
theorem pieces_le (l : List UInt8) : (pieces l).length ≤ l.length + 1 := by
  rw [pieces_len]
  have := List.count_le_length (a := (44 : UInt8)) (l := l)
  omega
theorem pieces_none : ∀ (l : List UInt8) (p : List UInt8), p ∈ pieces l → ∀ c ∈ p, c ≠ 44
  | [], p, h => by
    rw [show pieces [] = [[]] from rfl, List.mem_singleton] at h
    subst h
    simp
  | c :: r, p, h => by
    have ih := pieces_none r
    obtain ⟨q, qs, hq⟩ := pieces_ne r
    by_cases hc : c = 44
    · subst hc
      rw [pieces_comma] at h
      rcases List.mem_cons.1 h with rfl | h
      · simp
      · exact ih p h
    · rw [pieces_other hc hq] at h
      rw [hq] at ih
      rcases List.mem_cons.1 h with rfl | h
      · intro d hd
        rcases List.mem_cons.1 hd with rfl | hd
        · exact hc
        · exact ih q (by simp) d hd
      · exact ih p (by simp [h])
/-- The pieces with commas between them. -/
def joined : List (List UInt8) → List UInt8
  | [] => []
  | [p] => p
  | p :: q :: r => p ++ 44 :: joined (q :: r)
theorem joined_cons {p : List UInt8} {r : List (List UInt8)} (h : r ≠ []) : joined (p :: r) = p ++ 44 :: joined r := by
  cases r with
  | nil => exact absurd rfl h
  | cons q r => rfl
theorem joined_snoc : ∀ (ps : List (List UInt8)) (p : List UInt8), ps ≠ [] → joined (ps ++ [p]) = joined ps ++ 44 :: p
  | [], _, h => absurd rfl h
  | [q], p, _ => rfl
  | q :: r :: s, p, _ => by
    have := joined_snoc (r :: s) p (by simp)
    rw [List.cons_append, joined_cons (by simp), this, joined_cons (r := r :: s) (by simp), List.append_assoc]
    rfl
theorem joined_pieces : ∀ l : List UInt8, joined (pieces l) = l
  | [] => rfl
  | c :: r => by
    have ih := joined_pieces r
    obtain ⟨p, ps, hp⟩ := pieces_ne r
    by_cases h : c = 44
    · subst h
      rw [pieces_comma, joined_cons (by rw [hp]; simp), ih]
      rfl
    · rw [pieces_other h hp]
      rw [hp] at ih
      cases ps with
      | nil => rw [← ih]; rfl
      | cons q qs =>
        rw [joined_cons (by simp)] at ih ⊢
        rw [← ih]
        rfl
theorem pieces_joined : ∀ (ps : List (List UInt8)), ps ≠ [] → (∀ p ∈ ps, ∀ c ∈ p, c ≠ 44) → pieces (joined ps) = ps
  | [], h, _ => absurd rfl h
  | [p], _, h => pieces_end p (h p (by simp))
  | p :: q :: r, _, h => by
    rw [joined_cons (by simp), pieces_split p _ (h p (by simp)), pieces_joined (q :: r) (by simp) fun x hx => h x (by simp [hx])]
theorem joined_len (m : Nat) : ∀ ps : List (List UInt8), (∀ p ∈ ps, p.length ≤ m) → (joined ps).length ≤ ps.length * (m + 1)
  | [], _ => by simp [joined]
  | [p], h => by
    have := h p (by simp)
    show p.length ≤ 1 * (m + 1)
    omega
  | p :: q :: r, h => by
    have h1 := h p (by simp)
    have h2 := joined_len m (q :: r) fun x hx => h x (by simp [hx])
    rw [joined_cons (by simp), List.length_append, List.length_cons, List.length_cons, Nat.succ_mul]
    omega

/-- The library's pieces. -/
theorem index_cons_ne {b : UInt8} {l : List UInt8} (h : b ≠ 44) : index (b :: l) [44] = if index l [44] == -1 then -1 else index l [44] + 1 := by
  rw [index, if_neg]
  simp [List.isPrefixOf, Ne.symm h]
theorem index_cons_eq (l : List UInt8) : index (44 :: l) [44] = 0 := by
  rw [index, if_pos]
  simp [List.isPrefixOf]
theorem splitK_ne {b : UInt8} (h : b ≠ 44) : ∀ (k : Nat) (l p : List UInt8) (ps : List (List UInt8)), splitK [44] 0 k l = p :: ps → splitK [44] 0 k (b :: l) = (b :: p) :: ps
  | 0, l, p, ps, e => by
    cases e
    rfl
  | k + 1, l, p, ps, e => by
    unfold splitK at e ⊢
    rw [index_cons_ne h]
    by_cases hm : (index l [44] == -1) = true
    · rw [if_pos hm] at e ⊢
      cases e
      rfl
    · rw [if_neg hm] at e ⊢
      cases e
      have h0 := index_ge l [44]
      have h1 : index l [44] ≠ -1 := fun e => hm (by rw [e]; rfl)
      rw [if_neg (by simp; omega), show (index l [44] + 1).toNat = (index l [44]).toNat + 1 by omega]
      rfl
theorem splitK_pieces : ∀ l : List UInt8, splitK [44] 0 (count l [44]) l = pieces l
  | [] => rfl
  | c :: r => by
    have ih := splitK_pieces r
    obtain ⟨p, ps, hp⟩ := pieces_ne r
    by_cases h : c = 44
    · subst h
      rw [count_cons_eq, Nat.add_comm, splitK, index_cons_eq, if_neg (by decide), pieces_comma, ← ih]
      rfl
    · rw [count_cons_ne _ _ _ h, pieces_other h hp]
      exact splitK_ne h _ _ _ _ (by rw [ih, hp])
theorem splitB_pieces (l : List UInt8) : splitB ⟨#[44]⟩ 0 (countB ⟨l.toArray⟩ ⟨#[44]⟩) ⟨l.toArray⟩ = (pieces l).map fun p => ⟨p.toArray⟩ := by
  have h := splitB_data ⟨#[44]⟩ 0 (countB ⟨l.toArray⟩ ⟨#[44]⟩) ⟨l.toArray⟩
  have h2 : splitK [44] 0 (countB ⟨l.toArray⟩ ⟨#[44]⟩) l = pieces l := splitK_pieces l
  have h3 : (splitB ⟨#[44]⟩ 0 (countB ⟨l.toArray⟩ ⟨#[44]⟩) ⟨l.toArray⟩).map (fun x => x.data.toList) = pieces l := h.trans h2
  rw [← h3, List.map_map]
  refine (List.map_id _).symm.trans (List.map_congr_left fun x _ => ?_)
  cases x
  simp

def okP (p : List UInt8) : Bool := (parse p).isSome
def numP (p : List UInt8) : Int := (parse p).getD 0
/-- The numbers of a string, with commas between them. -/
def list (l : List UInt8) : Option (List Int) := if l = [] then some [] else if (pieces l).all okP = true then some ((pieces l).map numP) else none
theorem okP_some {p : List UInt8} {n : Int} (h : parse p = some n) : okP p = true ∧ numP p = n := by
  unfold okP numP
  rw [h]
  exact ⟨rfl, rfl⟩
theorem okP_none {p : List UInt8} (h : parse p = none) : okP p = false := by
  unfold okP
  rw [h]
  rfl
theorem okP_itoa {p : List UInt8} (h : okP p = true) : itoa (numP p) = p ∧ -9223372036854775808 ≤ numP p ∧ numP p ≤ 9223372036854775807 := by
  unfold okP at h
  unfold numP
  cases hp : parse p with
  | none => rw [hp] at h; cases h
  | some n => exact parse_iff.1 hp
theorem itoa_comma (n : Int) : ∀ c ∈ itoa n, c ≠ 44 := by
  intro c hc
  rcases itoa_bytes n c hc with h | h
  · rintro rfl
    exact absurd h (by decide)
  · rintro rfl
    revert h
    unfold isDig
    decide
/-- Numbers are found again in lists. -/
theorem list_back {ns : List Int} (h : ∀ n ∈ ns, -9223372036854775808 ≤ n ∧ n ≤ 9223372036854775807) : list (joined (ns.map itoa)) = some ns := by
  cases ns with
  | nil => rfl
  | cons n r =>
    have hp : pieces (joined ((n :: r).map itoa)) = (n :: r).map itoa := pieces_joined _ (by simp) fun p hp c hc => by
      obtain ⟨m, _, rfl⟩ := List.mem_map.1 hp
      exact itoa_comma m c hc
    have hne : joined ((n :: r).map itoa) ≠ [] := by
      intro e
      rw [e] at hp
      have h1 := (List.cons.inj hp).1
      exact itoa_ne n h1.symm
    unfold list
    rw [if_neg hne, hp, if_pos]
    · rw [List.map_map]
      congr 1
      refine (List.map_congr_left fun m hm => ?_).trans (List.map_id _)
      exact (okP_some (parse_itoa (h m hm).1 (h m hm).2)).2
    · rw [List.all_eq_true]
      intro p hp
      obtain ⟨m, hm, rfl⟩ := List.mem_map.1 hp
      exact (okP_some (parse_itoa (h m hm).1 (h m hm).2)).1
/-- What is decoded has the string that was decoded. -/
theorem list_reads {l : List UInt8} {ns : List Int} (h : list l = some ns) : joined (ns.map itoa) = l ∧ (∀ n ∈ ns, -9223372036854775808 ≤ n ∧ n ≤ 9223372036854775807) ∧ ((parse l).isSome = true ↔ ns.length = 1) ∧ ns.length ≤ l.length + 1 := by
  unfold list at h
  by_cases hl : l = []
  · rw [if_pos hl] at h
    cases h
    subst hl
    refine ⟨rfl, by simp, ?_, by simp⟩
    rw [parse_nil]
    simp
  · rw [if_neg hl] at h
    by_cases ha : (pieces l).all okP = true
    · rw [if_pos ha] at h
      cases h
      rw [List.all_eq_true] at ha
      refine ⟨?_, ?_, ?_, by rw [List.length_map]; exact pieces_le l⟩
      · rw [List.map_map]
        conv => rhs; rw [← joined_pieces l]
        congr 1
        refine (List.map_congr_left fun p hp => ?_).trans (List.map_id _)
        exact (okP_itoa (ha p hp)).1
      · intro n hn
        obtain ⟨p, hp, rfl⟩ := List.mem_map.1 hn
        exact (okP_itoa (ha p hp)).2
      · rw [List.length_map]
        constructor
        · intro hs
          cases hp : parse l with
          | none => rw [hp] at hs; cases hs
          | some n =>
            have := (parse_iff.1 hp).1
            rw [← this, pieces_end _ (itoa_comma n)]
            rfl
        · intro h1
          have := joined_pieces l
          match hq : pieces l, h1 with
          | [p], _ =>
            rw [hq] at this
            have h2 : p = l := this
            have := ha p (by rw [hq]; simp)
            rw [h2] at this
            exact this
    · rw [if_neg ha] at h
      cases h
/-- What is no list of numbers is no number. -/
theorem list_none {l : List UInt8} (h : list l = none) : parse l = none := by
  cases hp : parse l with
  | none => rfl
  | some n =>
    exfalso
    have h1 := parse_iff.1 hp
    have h2 : list l = some [n] := by
      have := list_back (ns := [n]) (by intro m hm; rw [List.mem_singleton.1 hm]; exact h1.2)
      rw [show joined ([n].map itoa) = itoa n from rfl, h1.1] at this
      exact this
    rw [h] at h2
    cases h2
/-- One piece that is none. -/
theorem list_bad {l p : List UInt8} (hp : p ∈ pieces l) (h : parse p = none) (hl : l ≠ []) : list l = none := by
  unfold list
  rw [if_neg hl, if_neg]
  intro ha
  have := List.all_eq_true.1 ha p hp
  rw [okP_none h] at this
  cases this
end Go.Proofs.YtmmehfkiceelkaaDoor.Num

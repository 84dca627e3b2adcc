/-
  PLAIN LAWS OF LAYER 42: the lines of a text (chapter 02's text on pieces, turned to line feeds).
-/
import Derived.Test.YtmoeglecdojhcaaDoorNum
namespace Go.Proofs.YtmoeglecdojhcaaDoor.Lin
open Go.Lib Go.Proofs.YtmoeglecdojhcaaDoor.Dec

/-- The pieces of a string between line feeds. -/
def pieces : List UInt8 → List (List UInt8)
  | [] => [[]]
  | c :: r => if c = 10 then [] :: pieces r else match pieces r with
    | p :: ps => (c :: p) :: ps
    | [] => [[c]]
theorem pieces_ne (l : List UInt8) : ∃ p ps, pieces l = p :: ps := by
  cases l with
  | nil => exact ⟨_, _, rfl⟩
  | cons c r =>
    unfold pieces
    split
    · exact ⟨_, _, rfl⟩
    · split <;> exact ⟨_, _, rfl⟩
theorem pieces_feed (r : List UInt8) : pieces (10 :: r) = [] :: pieces r := by rw [pieces, if_pos rfl]
theorem pieces_other {c : UInt8} {r p : List UInt8} {ps : List (List UInt8)} (h : c ≠ 10) (hp : pieces r = p :: ps) : pieces (c :: r) = (c :: p) :: ps := by rw [pieces, if_neg h, hp]
theorem pieces_split : ∀ (p r : List UInt8), (∀ c ∈ p, c ≠ 10) → pieces (p ++ 10 :: r) = p :: pieces r
  | [], r, _ => pieces_feed r
  | c :: p, r, h => pieces_other (h c (by simp)) (pieces_split p r fun d hd => h d (by simp [hd]))
theorem pieces_end : ∀ (p : List UInt8), (∀ c ∈ p, c ≠ 10) → pieces p = [p]
  | [], _ => rfl
  | c :: p, h => pieces_other (h c (by simp)) (pieces_end p fun d hd => h d (by simp [hd]))
theorem pieces_len : ∀ l : List UInt8, (pieces l).length = 1 + l.count 10
  | [] => rfl
  | c :: r => by
    have ih := pieces_len r
    obtain ⟨p, ps, hp⟩ := pieces_ne r
    by_cases h : c = 10
    · subst h
      rw [pieces_feed, List.length_cons, ih, List.count_cons_self]
      omega
    · rw [pieces_other h hp, List.count_cons_of_ne h, ← ih, hp]
      rfl
theorem pieces_le (l : List UInt8) : (pieces l).length ≤ l.length + 1 := by
  rw [pieces_len]
  have := List.count_le_length (a := (10 : UInt8)) (l := l)
  omega
theorem pieces_none : ∀ (l : List UInt8) (p : List UInt8), p ∈ pieces l → ∀ c ∈ p, c ≠ 10
  | [], p, h => by
    rw [show pieces [] = [[]] from rfl, List.mem_singleton] at h
    subst h
    simp
  | c :: r, p, h => by
    have ih := pieces_none r
    obtain ⟨q, qs, hq⟩ := pieces_ne r
    by_cases hc : c = 10
    · subst hc
      rw [pieces_feed] at h
      rcases List.mem_cons.1 h with rfl | h
      · simp
      · exact ih p h
    · rw [pieces_other hc hq] at h
      rw [hq] at ih
      rcases List.mem_cons.1 h with rfl | h
      · intro d hd
        rcases List.mem_cons.1 hd with rfl | hd
        · exact hc
        · exact ih q (by simp) d hd
      · exact ih p (by simp [h])
/-- The pieces with line feeds between them. -/
def joined : List (List UInt8) → List UInt8
  | [] => []
  | [p] => p
  | p :: q :: r => p ++ 10 :: joined (q :: r)
theorem joined_cons {p : List UInt8} {r : List (List UInt8)} (h : r ≠ []) : joined (p :: r) = p ++ 10 :: joined r := by
  cases r with
  | nil => exact absurd rfl h
  | cons q r => rfl
theorem joined_snoc : ∀ (ps : List (List UInt8)) (p : List UInt8), ps ≠ [] → joined (ps ++ [p]) = joined ps ++ 10 :: p
  | [], _, h => absurd rfl h
  | [q], p, _ => rfl
  | q :: r :: s, p, _ => by
    have := joined_snoc (r :: s) p (by simp)
    rw [List.cons_append, joined_cons (by simp), this, joined_cons (r := r :: s) (by simp), List.append_assoc]
    rfl
theorem joined_pieces : ∀ l : List UInt8, joined (pieces l) = l
  | [] => rfl
  | c :: r => by
    have ih := joined_pieces r
    obtain ⟨p, ps, hp⟩ := pieces_ne r
    by_cases h : c = 10
    · subst h
      rw [pieces_feed, joined_cons (by rw [hp]; simp), ih]
      rfl
    · rw [pieces_other h hp]
      rw [hp] at ih
      cases ps with
      | nil => rw [← ih]; rfl
      | cons q qs =>
        rw [joined_cons (by simp)] at ih ⊢
        rw [← ih]
        rfl
theorem pieces_joined : ∀ (ps : List (List UInt8)), ps ≠ [] → (∀ p ∈ ps, ∀ c ∈ p, c ≠ 10) → pieces (joined ps) = ps
  | [], h, _ => absurd rfl h
  | [p], _, h => pieces_end p (h p (by simp))
  | p :: q :: r, _, h => by
    rw [joined_cons (by simp), pieces_split p _ (h p (by simp)), pieces_joined (q :: r) (by simp) fun x hx => h x (by simp [hx])]
theorem joined_len (m : Nat) : ∀ ps : List (List UInt8), (∀ p ∈ ps, p.length ≤ m) → (joined ps).length ≤ ps.length * (m + 1)
  | [], _ => by simp [joined]
  | [p], h => by
    have := h p (by simp)
    show p.length ≤ 1 * (m + 1)
    omega
  | p :: q :: r, h => by
    have h1 := h p (by simp)
    have h2 := joined_len m (q :: r) fun x hx => h x (by simp [hx])
    rw [joined_cons (by simp), List.length_append, List.length_cons, List.length_cons, Nat.succ_mul]
    omega

/-- The library's pieces. -/
theorem index_cons_ne {b : UInt8} {l : List UInt8} (h : b ≠ 10) : index (b :: l) [10] = if index l [10] == -1 then -1 else index l [10] + 1 := by
  rw [index, if_neg]
  simp [List.isPrefixOf, Ne.symm h]
theorem index_cons_eq (l : List UInt8) : index (10 :: l) [10] = 0 := by
  rw [index, if_pos]
  simp [List.isPrefixOf]
theorem splitK_ne {b : UInt8} (h : b ≠ 10) : ∀ (k : Nat) (l p : List UInt8) (ps : List (List UInt8)), splitK [10] 0 k l = p :: ps → splitK [10] 0 k (b :: l) = (b :: p) :: ps
  | 0, l, p, ps, e => by
    cases e
    rfl
  | k + 1, l, p, ps, e => by
    unfold splitK at e ⊢
    rw [index_cons_ne h]
    by_cases hm : (index l [10] == -1) = true
    · rw [if_pos hm] at e ⊢
      cases e
      rfl
    · rw [if_neg hm] at e ⊢
      cases e
      have h0 := index_ge l [10]
      have h1 : index l [10] ≠ -1 := fun e => hm (by rw [e]; rfl)
      rw [if_neg (by simp; omega), show (index l [10] + 1).toNat = (index l [10]).toNat + 1 by omega]
      rfl
theorem splitK_pieces : ∀ l : List UInt8, splitK [10] 0 (count l [10]) l = pieces l
  | [] => rfl
  | c :: r => by
    have ih := splitK_pieces r
    obtain ⟨p, ps, hp⟩ := pieces_ne r
    by_cases h : c = 10
    · subst h
      rw [count_cons_eq, Nat.add_comm, splitK, index_cons_eq, if_neg (by decide), pieces_feed, ← ih]
      rfl
    · rw [count_cons_ne _ _ _ h, pieces_other h hp]
      exact splitK_ne h _ _ _ _ (by rw [ih, hp])
theorem splitB_pieces (l : List UInt8) : splitB ⟨#[10]⟩ 0 (countB ⟨l.toArray⟩ ⟨#[10]⟩) ⟨l.toArray⟩ = (pieces l).map fun p => ⟨p.toArray⟩ := by
  have h := splitB_data ⟨#[10]⟩ 0 (countB ⟨l.toArray⟩ ⟨#[10]⟩) ⟨l.toArray⟩
  have h2 : splitK [10] 0 (countB ⟨l.toArray⟩ ⟨#[10]⟩) l = pieces l := splitK_pieces l
  have h3 : (splitB ⟨#[10]⟩ 0 (countB ⟨l.toArray⟩ ⟨#[10]⟩) ⟨l.toArray⟩).map (fun x => x.data.toList) = pieces l := h.trans h2
  rw [← h3, List.map_map]
  refine (List.map_id _).symm.trans (List.map_congr_left fun x _ => ?_)
  cases x
  simp

end Go.Proofs.YtmoeglecdojhcaaDoor.Lin

/-
  PLAIN LAWS OF LAYER 42 (commands): quoted strings; names.
-/
import Derived.Test.YtphpgbbjbncfoaaGreatDoorNum
namespace Go.Proofs.YtphpgbbjbncfoaaGreatDoor.Cmd
open Go.Lib Go.Proofs.YtphpgbbjbncfoaaGreatDoor.Dec

/-! ### Quoted strings -/
def hexd (n : Nat) : UInt8 := UInt8.ofNat (if n < 10 then 48 + n else 87 + n)
def unhex (c : UInt8) : Option Nat := if 48 ≤ c.toNat ∧ c.toNat ≤ 57 then some (c.toNat - 48) else if 97 ≤ c.toNat ∧ c.toNat ≤ 102 then some (c.toNat - 87) else none
/-- A byte as it is quoted. -/
def q1 (c : UInt8) : List UInt8 := if c = 10 then [92, 110] else if c = 13 then [92, 114] else if c = 9 then [92, 116] else if c = 92 then [92, 92] else if c.toNat < 32 ∨ 126 < c.toNat then [92, 120, hexd (c.toNat / 16), hexd (c.toNat % 16)] else [c]
def quote (l : List UInt8) : List UInt8 := l.flatMap q1
/-- The byte that a quoted string begins with, and how long it is quoted. -/
def hexV (h1 h2 : UInt8) : Option (UInt8 × Nat) := match unhex h1 with
  | none => none
  | some a => match unhex h2 with
    | none => none
    | some b => if q1 (UInt8.ofNat (16 * a + b)) = [92, 120, h1, h2] then some (UInt8.ofNat (16 * a + b), 4) else none
def hexQ : List UInt8 → Option (UInt8 × Nat)
  | h1 :: h2 :: _ => hexV h1 h2
  | _ => none
theorem hexV_some {h1 h2 : UInt8} {a b : Nat} (e1 : unhex h1 = some a) (e2 : unhex h2 = some b) : hexV h1 h2 = if q1 (UInt8.ofNat (16 * a + b)) = [92, 120, h1, h2] then some (UInt8.ofNat (16 * a + b), 4) else none := by
  unfold hexV
  rw [e1]
  simp only
  rw [e2]
theorem hexV_is {h1 h2 c : UInt8} {n : Nat} (h : hexV h1 h2 = some (c, n)) : q1 c = [92, 120, h1, h2] ∧ n = 4 := by
  unfold hexV at h
  split at h
  · cases h
  · split at h
    · cases h
    · split at h
      · rename_i e
        cases h
        exact ⟨e, rfl⟩
      · cases h
def backQ : List UInt8 → Option (UInt8 × Nat)
  | [] => none
  | d :: t => if d = 110 then some (10, 2) else if d = 114 then some (13, 2) else if d = 116 then some (9, 2) else if d = 92 then some (92, 2) else if d = 120 then hexQ t else none
def firstQ : List UInt8 → Option (UInt8 × Nat)
  | [] => none
  | c :: r => if c = 92 then backQ r else if 32 ≤ c.toNat ∧ c.toNat ≤ 126 then some (c, 1) else none
theorem firstQ_cons (c : UInt8) (r : List UInt8) : firstQ (c :: r) = if c = 92 then backQ r else if 32 ≤ c.toNat ∧ c.toNat ≤ 126 then some (c, 1) else none := rfl
theorem backQ_cons (d : UInt8) (t : List UInt8) : backQ (d :: t) = if d = 110 then some (10, 2) else if d = 114 then some (13, 2) else if d = 116 then some (9, 2) else if d = 92 then some (92, 2) else if d = 120 then hexQ t else none := rfl

theorem hex_back : ∀ n : Fin 16, unhex (hexd n.val) = some n.val := by decide
theorem q1_len (c : UInt8) : 1 ≤ (q1 c).length ∧ (q1 c).length ≤ 4 := by
  unfold q1
  repeat' split
  all_goals simp
theorem q1_plain (c : UInt8) : ∀ d ∈ q1 c, 32 ≤ d.toNat ∧ d.toNat ≤ 126 := by
  have key : ∀ n : Fin 256, ∀ d ∈ q1 (UInt8.ofNat n.val), 32 ≤ d.toNat ∧ d.toNat ≤ 126 := by decide +kernel
  have := key ⟨c.toNat, c.toNat_lt⟩
  rwa [UInt8.ofNat_toNat] at this
/-- What is quoted is found again. -/
theorem first_quoted (c : UInt8) (x : List UInt8) : firstQ (q1 c ++ x) = some (c, (q1 c).length) := by
  by_cases h1 : c = 10
  · subst h1; rfl
  by_cases h2 : c = 13
  · subst h2; rfl
  by_cases h3 : c = 9
  · subst h3; rfl
  by_cases h4 : c = 92
  · subst h4; rfl
  by_cases h5 : c.toNat < 32 ∨ 126 < c.toNat
  · have e : q1 c = [92, 120, hexd (c.toNat / 16), hexd (c.toNat % 16)] := by unfold q1; rw [if_neg h1, if_neg h2, if_neg h3, if_neg h4, if_pos h5]
    have hlt := c.toNat_lt
    have a1 : unhex (hexd (c.toNat / 16)) = some (c.toNat / 16) := hex_back ⟨c.toNat / 16, by omega⟩
    have a2 : unhex (hexd (c.toNat % 16)) = some (c.toNat % 16) := hex_back ⟨c.toNat % 16, by omega⟩
    have a3 : UInt8.ofNat (16 * (c.toNat / 16) + c.toNat % 16) = c := by rw [show 16 * (c.toNat / 16) + c.toNat % 16 = c.toNat by omega, UInt8.ofNat_toNat]
    rw [e]
    show firstQ (92 :: 120 :: hexd (c.toNat / 16) :: hexd (c.toNat % 16) :: x) = _
    rw [firstQ_cons, if_pos rfl]
    show hexV (hexd (c.toNat / 16)) (hexd (c.toNat % 16)) = _
    rw [hexV_some a1 a2, a3, e]
    simp
  · have e : q1 c = [c] := by unfold q1; rw [if_neg h1, if_neg h2, if_neg h3, if_neg h4, if_neg h5]
    rw [e]
    show firstQ (c :: x) = _
    rw [firstQ_cons, if_neg h4, if_pos (by omega)]
    rfl
theorem first_is {l : List UInt8} {c : UInt8} {n : Nat} (h : firstQ l = some (c, n)) : ∃ x, l = q1 c ++ x ∧ n = (q1 c).length := by
  cases l with
  | nil => cases h
  | cons a r =>
    rw [firstQ_cons] at h
    by_cases ha : a = 92
    · subst ha
      rw [if_pos rfl] at h
      cases r with
      | nil => cases h
      | cons d t =>
        rw [backQ_cons] at h
        by_cases d1 : d = 110
        · rw [if_pos d1] at h; cases h; subst d1; exact ⟨t, rfl, rfl⟩
        rw [if_neg d1] at h
        by_cases d2 : d = 114
        · rw [if_pos d2] at h; cases h; subst d2; exact ⟨t, rfl, rfl⟩
        rw [if_neg d2] at h
        by_cases d3 : d = 116
        · rw [if_pos d3] at h; cases h; subst d3; exact ⟨t, rfl, rfl⟩
        rw [if_neg d3] at h
        by_cases d4 : d = 92
        · rw [if_pos d4] at h; cases h; subst d4; exact ⟨t, rfl, rfl⟩
        rw [if_neg d4] at h
        by_cases d5 : d = 120
        · rw [if_pos d5] at h
          match t, h with
          | h1 :: h2 :: u, h =>
            obtain ⟨e1, e2⟩ := hexV_is h
            subst d5
            exact ⟨u, by rw [e1]; rfl, by rw [e1, e2]; rfl⟩
          | [x], h => cases h
          | [], h => cases h
        · rw [if_neg d5] at h; cases h
    · rw [if_neg ha] at h
      by_cases hp : 32 ≤ a.toNat ∧ a.toNat ≤ 126
      · rw [if_pos hp] at h
        have e : q1 a = [a] := by
          unfold q1
          rw [if_neg (by rintro rfl; exact absurd hp.1 (by decide)), if_neg (by rintro rfl; exact absurd hp.1 (by decide)), if_neg (by rintro rfl; exact absurd hp.1 (by decide)), if_neg ha, if_neg (by omega)]
        cases h
        exact ⟨r, by rw [e]; rfl, by rw [e]; rfl⟩
      · rw [if_neg hp] at h; cases h
def unqF : Nat → List UInt8 → Option (List UInt8)
  | 0, _ => none
  | f + 1, l => if l = [] then some [] else match firstQ l with
    | none => none
    | some (c, n) => match unqF f (l.drop n) with
      | none => none
      | some s => some (c :: s)
/-- What is decoded from a quoted string. -/
def unq (l : List UInt8) : Option (List UInt8) := unqF (l.length + 1) l
theorem unqF_quote : ∀ (s : List UInt8) (f : Nat), (quote s).length < f → unqF f (quote s) = some s
  | [], f, h => by
    cases f with
    | zero => omega
    | succ f => rfl
  | c :: s, f, h => by
    cases f with
    | zero => omega
    | succ f =>
      have e : quote (c :: s) = q1 c ++ quote s := rfl
      have hl := q1_len c
      rw [e, List.length_append] at h
      have hne : ¬ q1 c ++ quote s = [] := by
        intro h2
        have := congrArg List.length h2
        rw [List.length_append, List.length_nil] at this
        omega
      rw [e, unqF, if_neg hne, first_quoted]
      simp only [List.drop_left]
      rw [unqF_quote s f (by omega)]
theorem unqF_is : ∀ (f : Nat) (l s : List UInt8), unqF f l = some s → quote s = l
  | 0, _, _, h => by cases h
  | f + 1, l, s, h => by
    rw [unqF] at h
    by_cases hl : l = []
    · rw [if_pos hl] at h
      cases h
      exact hl.symm
    · rw [if_neg hl] at h
      cases hq : firstQ l with
      | none => rw [hq] at h; cases h
      | some p =>
        obtain ⟨c, n⟩ := p
        rw [hq] at h
        simp only at h
        obtain ⟨x, e, hn⟩ := first_is hq
        cases hu : unqF f (l.drop n) with
        | none => rw [hu] at h; cases h
        | some t =>
          rw [hu] at h
          cases h
          have := unqF_is f _ t hu
          show q1 c ++ quote t = l
          rw [this, e, hn, List.drop_left]
theorem unq_iff {l s : List UInt8} : unq l = some s ↔ quote s = l :=
  ⟨unqF_is _ _ _, fun h => by subst h; exact unqF_quote s _ (Nat.lt_succ_self _)⟩
theorem unq_quote (s : List UInt8) : unq (quote s) = some s := unq_iff.2 rfl
theorem quote_inj {s t : List UInt8} (h : quote s = quote t) : s = t := by
  have := unq_quote s
  rw [h, unq_quote] at this
  exact (Option.some.inj this).symm
theorem quote_append (s t : List UInt8) : quote (s ++ t) = quote s ++ quote t := List.flatMap_append
theorem quote_cons (c : UInt8) (t : List UInt8) : quote (c :: t) = q1 c ++ quote t := rfl
theorem quote_snoc (s : List UInt8) (c : UInt8) : quote (s ++ [c]) = quote s ++ q1 c := by rw [quote_append]; simp [quote]
theorem quote_len : ∀ s : List UInt8, s.length ≤ (quote s).length ∧ (quote s).length ≤ 4 * s.length
  | [] => by simp [quote]
  | c :: s => by
    have h1 := q1_len c
    have h2 := quote_len s
    rw [quote_cons, List.length_append, List.length_cons]
    omega
theorem quote_plain (s : List UInt8) : ∀ d ∈ quote s, 32 ≤ d.toNat ∧ d.toNat ≤ 126 := by
  intro d hd
  obtain ⟨c, _, hd⟩ := List.mem_flatMap.1 hd
  exact q1_plain c d hd
/-! ### Names -/
def letr (c : UInt8) : Bool := decide ((65 ≤ c.toNat ∧ c.toNat ≤ 90) ∨ (97 ≤ c.toNat ∧ c.toNat ≤ 122))
def word (c : UInt8) : Bool := decide ((65 ≤ c.toNat ∧ c.toNat ≤ 90) ∨ (97 ≤ c.toNat ∧ c.toNat ≤ 122) ∨ (48 ≤ c.toNat ∧ c.toNat ≤ 57) ∨ c.toNat = 95)
def keywords : List (List UInt8) := [[102, 117, 110, 99], [118, 97, 114], [105, 102], [101, 108, 115, 101], [119, 104, 105, 108, 101], [114, 101, 116, 117, 114, 110], [112, 114, 105, 110, 116], [114, 101, 97, 100], [110, 101, 119], [108, 101, 110], [105, 110, 116], [98, 111, 111, 108], [97, 114, 114, 97, 121], [116, 114, 117, 101], [102, 97, 108, 115, 101]]
def nameB (l : List UInt8) : Bool := decide (l ≠ [] ∧ l.length ≤ 16 ∧ (∀ c, l.head? = some c → letr c = true) ∧ (∀ c ∈ l, word c = true) ∧ l ∉ keywords)
end Go.Proofs.YtphpgbbjbncfoaaGreatDoor.Cmd

/-
  PLAIN LAWS OF LAYER 42: the commands by numbers are valid; lines are plain.
-/
import Derived.Test.YtphpgbbjbncfoaaGreatDoorComQ
namespace Go.Proofs.YtphpgbbjbncfoaaGreatDoor.Cmd
open Go.Lib Go.Proofs.YtphpgbbjbncfoaaGreatDoor.Dec Go.Proofs.YtphpgbbjbncfoaaGreatDoor

def i8 (c : UInt8) : Int := if c.toNat < 128 then (c.toNat : Int) else (c.toNat : Int) - 256
def abcL : List UInt8 := [97, 98, 99, 88, 89, 90, 95, 48, 49, 56, 57]
def abc (c : UInt8) : UInt8 := (abcL[c.toNat % 11]?).getD 0
def numsN (l : List UInt8) : List Int := (l.take 200).map i8
def numVal (l : List UInt8) : List UInt8 := Num.joined ((numsN l).map itoa)
def nameN (l : List UInt8) : List UInt8 := 110 :: (l.take 15).map abc
/-- The command of three numbers; its kind. -/
def cmdK (m : Nat) (a : Int) (l : List UInt8) : C :=
  if m = 1 then ⟨m, 0, [], numVal l⟩ else if m = 2 ∨ m = 15 then ⟨m, 0, [], l⟩ else if m = 7 then ⟨m, a % 201, nameN l, []⟩ else if m = 10 then ⟨m, a % 1000000001, [], []⟩ else if m = 12 then ⟨m, a % 201, [], []⟩ else ⟨m, 0, [], []⟩
def kindN (k : Int) : Nat := 1 + (k % 15).toNat
def cmdN (k a : Int) (l : List UInt8) : C := cmdK (kindN k) a l
theorem kindN_is {k : Int} : 1 ≤ kindN k ∧ kindN k ≤ 15 := by unfold kindN; omega
theorem i8_ok (c : UInt8) : -128 ≤ i8 c ∧ i8 c ≤ 127 := by have := c.toNat_lt; unfold i8; split <;> omega
theorem numsN_ok (l : List UInt8) : ∀ n ∈ numsN l, -9223372036854775808 ≤ n ∧ n ≤ 9223372036854775807 := by
  intro n hn
  obtain ⟨c, _, rfl⟩ := List.mem_map.1 hn
  have := i8_ok c
  omega
theorem numsN_len (l : List UInt8) : (numsN l).length ≤ 200 := by unfold numsN; rw [List.length_map, List.length_take]; omega
theorem numVal_list (l : List UInt8) : Num.list (numVal l) = some (numsN l) := Num.list_back (numsN_ok l)
theorem numVal_len (l : List UInt8) : (numVal l).length ≤ 4200 := by
  have h := Num.joined_len 20 ((numsN l).map itoa) (fun p hp => by
    obtain ⟨n, hn, rfl⟩ := List.mem_map.1 hp
    have := numsN_ok l n hn
    exact itoa_length this.1 this.2)
  rw [List.length_map] at h
  have := numsN_len l
  unfold numVal
  omega
theorem abc_key : ∀ i : Fin 11, word ((abcL[i.val]?).getD 0) = true ∧ (abcL[i.val]?).getD 0 ≠ 101 := by decide
theorem abc_word (c : UInt8) : word (abc c) = true ∧ abc c ≠ 101 := abc_key ⟨c.toNat % 11, by omega⟩
theorem kw_n : ∀ x ∈ keywords, x.head? = some 110 → x = [110, 101, 119] := by decide
theorem nameN_ok (l : List UInt8) : nameB (nameN l) = true := by
  refine decide_eq_true ⟨by simp [nameN], by simp [nameN]; omega, fun c hc => ?_, fun c hc => ?_, fun hk => ?_⟩
  · cases hc; decide
  · rcases List.mem_cons.1 hc with rfl | hc
    · decide
    · obtain ⟨d, _, rfl⟩ := List.mem_map.1 hc
      exact (abc_word d).1
  · have e := kw_n _ hk rfl
    have e2 := (List.cons.inj e).2
    cases hl : l.take 15 with
    | nil => rw [hl] at e2; cases e2
    | cons c r =>
      rw [hl] at e2
      exact (abc_word c).2 (List.cons.inj e2).1
theorem ok_of {c : C} {m : Nat} (hk : c.kind = (m : Int)) (h1 : 1 ≤ m) (h2 : m ≤ 15) (h3 : 0 ≤ c.a) (h4 : c.a ≤ most m) (h5 : valid (cls m) c = true) (h6 : (line m c).length ≤ 20000) : okB c = true := by
  unfold okB
  rw [hk, Int.toNat_natCast, h5, decide_eq_true ⟨by omega, by omega, h3, h4⟩, decide_eq_true h6]
  rfl
theorem line_len (m : Nat) (c : C) : (line m c).length ≤ 8 + (text (cls m) c).length := by
  have := word_short m
  unfold line
  rw [List.length_append]
  omega
theorem itoa_short {a : Int} (h0 : 0 ≤ a) (h1 : a ≤ 9223372036854775807) : (itoa a).length ≤ 20 := itoa_length (by omega) h1
theorem cmdK_kind (m : Nat) (a : Int) (l : List UInt8) : (cmdK m a l).kind = (m : Int) := by
  unfold cmdK
  repeat' split
  all_goals rfl
theorem cmdK_ok (m : Nat) (a : Int) (l : List UInt8) (h1 : 1 ≤ m) (h2 : m ≤ 15) (hl : l.length ≤ 300) : okB (cmdK m a l) = true := by
  have hl1 := line_len m (cmdK m a l)
  refine ok_of (cmdK_kind m a l) h1 h2 ?_ ?_ ?_ ?_
  · unfold cmdK
    repeat' split
    all_goals simp only
    all_goals omega
  · unfold cmdK most
    repeat' split
    all_goals simp only
    all_goals omega
  · unfold cmdK
    by_cases e1 : m = 1
    · subst e1
      have := numVal_list l
      have h3 := numsN_len l
      simp only [if_true, cls, valid, listB, this]
      simp [h3]
    rw [if_neg e1]
    by_cases e2 : m = 2 ∨ m = 15
    · rw [if_pos e2]
      have : cls m = 2 := by unfold cls; rw [if_neg e1, if_pos e2]
      rw [this]
      simp only [valid]
      simp
      omega
    rw [if_neg e2]
    by_cases e3 : m = 7
    · subst e3
      have := nameN_ok l
      simp only [if_true, cls, valid]
      simp [this]
    rw [if_neg e3]
    by_cases e4 : m = 10
    · subst e4
      rfl
    rw [if_neg e4]
    by_cases e5 : m = 12
    · subst e5
      rfl
    rw [if_neg e5]
    have : cls m = 0 := by unfold cls; rw [if_neg e1, if_neg e2, if_neg e3, if_neg (by omega)]
    rw [this]
    rfl
  · refine Nat.le_trans hl1 ?_
    unfold cmdK
    by_cases e1 : m = 1
    · subst e1
      have := numVal_len l
      simp only [if_true, cls, text, List.length_cons]
      omega
    rw [if_neg e1]
    by_cases e2 : m = 2 ∨ m = 15
    · rw [if_pos e2]
      have : cls m = 2 := by unfold cls; rw [if_neg e1, if_pos e2]
      rw [this]
      have := (quote_len l).2
      simp only [text, List.length_cons]
      omega
    rw [if_neg e2]
    by_cases e3 : m = 7
    · subst e3
      have h3 := itoa_short (a := a % 201) (by omega) (by omega)
      have h4 : (nameN l).length ≤ 16 := by simp [nameN]; omega
      show 8 + (32 :: (nameN l ++ 32 :: itoa (a % 201))).length ≤ 20000
      rw [List.length_cons, List.length_append, List.length_cons]
      omega
    rw [if_neg e3]
    by_cases e4 : m = 10
    · subst e4
      have h3 := itoa_short (a := a % 1000000001) (by omega) (by omega)
      show 8 + (32 :: itoa (a % 1000000001)).length ≤ 20000
      rw [List.length_cons]
      omega
    rw [if_neg e4]
    by_cases e5 : m = 12
    · subst e5
      have h3 := itoa_short (a := a % 201) (by omega) (by omega)
      show 8 + (32 :: itoa (a % 201)).length ≤ 20000
      rw [List.length_cons]
      omega
    rw [if_neg e5]
    have : cls m = 0 := by unfold cls; rw [if_neg e1, if_neg e2, if_neg e3, if_neg (by omega)]
    rw [this]
    simp [text]
theorem cmdK_size (m : Nat) (a : Int) (l : List UInt8) (hl : l.length ≤ 300) : (cmdK m a l).val.length ≤ 4200 ∧ (cmdK m a l).name.length ≤ 16 ∧ 0 ≤ (cmdK m a l).a ∧ (cmdK m a l).a ≤ 1000000000 := by
  have := numVal_len l
  have h4 : (nameN l).length ≤ 16 := by simp [nameN]; omega
  unfold cmdK
  repeat' split
  all_goals simp only [List.length_nil]
  all_goals omega
theorem print_ok {c : C} (h : okB c = true) : print c = some (line c.kind.toNat c) ∧ printS c = line c.kind.toNat c ∧ printE c = 0 := by
  have := print_yes h
  unfold print
  rw [if_pos h]
  exact ⟨rfl, this⟩

/-! ### Lines are plain -/
def Pl (l : List UInt8) : Prop := ∀ c ∈ l, 32 ≤ c.toNat ∧ c.toNat ≤ 126
theorem Pl.nil : Pl [] := by intro c h; cases h
theorem Pl.cons {c : UInt8} {l : List UInt8} (h1 : 32 ≤ c.toNat ∧ c.toNat ≤ 126) (h2 : Pl l) : Pl (c :: l) := by
  intro d hd
  rcases List.mem_cons.1 hd with rfl | hd
  · exact h1
  · exact h2 d hd
theorem Pl.append {l m : List UInt8} (h1 : Pl l) (h2 : Pl m) : Pl (l ++ m) := by
  intro d hd
  rcases List.mem_append.1 hd with hd | hd
  · exact h1 d hd
  · exact h2 d hd
theorem Pl.itoa (n : Int) : Pl (itoa n) := by
  intro c hc
  rcases itoa_bytes n c hc with h | h
  · omega
  · unfold isDig at h; omega
theorem Pl.word (m : Nat) : Pl ((words[m]?).getD []) := by
  by_cases h : m < 16
  · have key : ∀ i : Fin 16, ∀ c ∈ (words[i.val]?).getD [], 32 ≤ c.toNat ∧ c.toNat ≤ 126 := by decide
    exact key ⟨m, h⟩
  · rw [List.getElem?_eq_none (by show 16 ≤ m; omega)]
    exact Pl.nil
theorem Pl.joined : ∀ ns : List Int, Pl (Num.joined (ns.map Lib.itoa))
  | [] => Pl.nil
  | [n] => Pl.itoa n
  | n :: m :: r => by
    rw [List.map_cons, Num.joined_cons (by simp)]
    exact (Pl.itoa n).append (Pl.cons (by decide) (Pl.joined (m :: r)))
theorem Pl.name {n : List UInt8} (h : nameB n = true) : Pl n := by
  intro c hc
  have := (of_decide_eq_true h).2.2.2.1 c hc
  unfold Cmd.word at this
  have := of_decide_eq_true this
  omega
theorem text_plain {cl : Nat} {c : C} (h : valid cl c = true) : Pl (text cl c) := by
  match cl, h with
  | 0, _ => exact Pl.nil
  | 1, h =>
    simp only [valid, Bool.and_eq_true] at h
    have hL := h.1
    unfold listB at hL
    split at hL
    · rename_i ns hns
      refine Pl.cons (by decide) ?_
      rw [← (Num.list_reads hns).1]
      exact Pl.joined ns
    · cases hL
  | 2, _ => exact Pl.cons (by decide) (quote_plain _)
  | 3, h =>
    simp only [valid, Bool.and_eq_true] at h
    exact Pl.cons (by decide) ((Pl.name h.1).append (Pl.cons (by decide) (Pl.itoa _)))
  | 4, _ => exact Pl.cons (by decide) (Pl.itoa _)
  | n + 5, _ => exact Pl.nil
theorem line_plain {c : C} (h : okB c = true) : Pl (line c.kind.toNat c) := (Pl.word _).append (text_plain (ok_kind h).2.2.2.2.1)
theorem line_front {c : C} (h : okB c = true) : ∃ b r, line c.kind.toNat c = b :: r ∧ b ≠ 35 := by
  obtain ⟨h1, h2, _⟩ := ok_kind h
  have key : ∀ i : Fin 16, 1 ≤ i.val → ((words[i.val]?).getD []).head? ≠ none ∧ ((words[i.val]?).getD []).head? ≠ some 35 := by decide
  obtain ⟨hb, hn⟩ := key ⟨c.kind.toNat, by omega⟩ (by simp only; omega)
  unfold line
  simp only at hb hn
  generalize (words[c.kind.toNat]?).getD [] = W at *
  cases W with
  | nil => exact absurd rfl hb
  | cons x r => exact ⟨x, r ++ text _ c, rfl, fun e => hn (by rw [e]; rfl)⟩
end Go.Proofs.YtphpgbbjbncfoaaGreatDoor.Cmd

/-
  LAYER 42, THE REFERENCE: guess: which command a line may be (plain), and that it is the command whose line it is.
-/
import Derived.Test.YtphpgbbjbncfoaaGreatDoorRef4
import Derived.Test.YtphpgbbjbncfoaaGreatDoorComR
namespace Go.Proofs.YtphpgbbjbncfoaaGreatDoor
open Go.Lib

def rhead (s : List UInt8) : List UInt8 := ((Sp.pieces 32 s)[0]?).getD []
def rkindAt (h : List UInt8) : Nat → Nat
  | 0 => 0
  | n + 1 => if (Cmd.words[n + 1]?).getD [] = h then n + 1 else rkindAt h n
def rrest (s : List UInt8) : List UInt8 := if 1 < (Sp.pieces 32 s).length then s.drop ((rhead s).length + 1) else []
def rguessK (k : Nat) (s : List UInt8) : Cmd.C :=
  if k = 1 then ⟨k, 0, [], rrest s⟩ else if k = 2 ∨ k = 15 then ⟨k, 0, [], unqS (rrest s)⟩ else if k = 7 then (if (Sp.pieces 32 s).length = 3 then ⟨k, rnum (((Sp.pieces 32 s)[2]?).getD []), ((Sp.pieces 32 s)[1]?).getD [], []⟩ else ⟨k, 0, [], []⟩) else if k = 10 ∨ k = 12 then ⟨k, rnum (rrest s), [], []⟩ else ⟨k, 0, [], []⟩
def rguess (s : List UInt8) : Cmd.C := rguessK (rkindAt (rhead s) 15) s
theorem rkind_word : ∀ i : Fin 16, rkindAt ((Cmd.words[i.val]?).getD []) 15 = i.val := by decide
theorem rkind_le (h : List UInt8) : ∀ n, rkindAt h n ≤ n
  | 0 => Nat.le_refl _
  | n + 1 => by
    rw [rkindAt]
    have := rkind_le h n
    split <;> omega
theorem pieces_word (m : Nat) (c : Cmd.C) : (Cmd.text (Cmd.cls m) c = [] → Sp.pieces 32 (Cmd.line m c) = [(Cmd.words[m]?).getD []]) ∧ (∀ r, Cmd.text (Cmd.cls m) c = 32 :: r → Sp.pieces 32 (Cmd.line m c) = (Cmd.words[m]?).getD [] :: Sp.pieces 32 r) := by
  have hw := word_no_sp m
  unfold Cmd.line
  refine ⟨fun h => ?_, fun r h => ?_⟩
  · rw [h, List.append_nil, Sp.pieces_end _ hw]
  · rw [h, Sp.pieces_split _ _ hw]
theorem rest_word {m : Nat} {c : Cmd.C} {r : List UInt8} (h : Cmd.text (Cmd.cls m) c = 32 :: r) : rhead (Cmd.line m c) = (Cmd.words[m]?).getD [] ∧ rrest (Cmd.line m c) = r := by
  have hp := (pieces_word m c).2 r h
  obtain ⟨p, ps, hq⟩ := Sp.pieces_ne (s := 32) r
  have hh : rhead (Cmd.line m c) = (Cmd.words[m]?).getD [] := by unfold rhead; rw [hp]; rfl
  refine ⟨hh, ?_⟩
  unfold rrest
  rw [hp, hq, if_pos (by simp), hh]
  unfold Cmd.line
  rw [h]
  simp
theorem rnum_itoa {a : Int} (h0 : 0 ≤ a) (h1 : a ≤ 1000000000) : rnum (itoa a) = a := by
  obtain ⟨e1, e2⟩ := numP_itoa (a := a) h0 (by omega)
  unfold rnum
  rw [e1, e2, if_pos ⟨rfl, h0, h1⟩]
theorem itoa_no_sp {a : Int} : ∀ c ∈ itoa a, c ≠ 32 := by
  intro c hc e
  rcases Dec.itoa_bytes a c hc with h | h
  · rw [e] at h; exact absurd h (by decide)
  · rw [e] at h; unfold Dec.isDig at h; exact absurd h.1 (by decide)
theorem rguess_line {c : Cmd.C} (hok : Cmd.okB c = true) : rguess (Cmd.line c.kind.toNat c) = c := by
  obtain ⟨h1, h2, h3, h4, h5, _⟩ := ok_kind hok
  obtain ⟨kk, a, n, v⟩ := c
  simp only at h1 h2 h3 h4 h5 ⊢
  obtain ⟨m, rfl⟩ : ∃ m : Nat, kk = m := ⟨kk.toNat, by omega⟩
  rw [Int.toNat_natCast] at h4 h5 ⊢
  have hkind : rkindAt ((Cmd.words[m]?).getD []) 15 = m := rkind_word ⟨m, by omega⟩
  have hml := Cmd.most_le m
  unfold rguess
  rcases cls_ways m with e | e | e | e | e
  · have ht : Cmd.text (Cmd.cls m) ⟨(m : Int), a, n, v⟩ = [] := by rw [e]; rfl
    have hp := (pieces_word m ⟨(m : Int), a, n, v⟩).1 ht
    have hh : rhead (Cmd.line m ⟨(m : Int), a, n, v⟩) = (Cmd.words[m]?).getD [] := by unfold rhead; rw [hp]; rfl
    rw [hh, hkind]
    have hm := most_none (.inl e)
    rw [e] at h5
    simp only [Cmd.valid, Bool.and_eq_true] at h5
    obtain rfl := empty_of h5.1
    obtain rfl := empty_of h5.2
    obtain rfl : a = 0 := by omega
    have hc : m ≠ 1 ∧ ¬ (m = 2 ∨ m = 15) ∧ m ≠ 7 ∧ ¬ (m = 10 ∨ m = 12) := by
      unfold Cmd.cls at e
      repeat' split at e
      all_goals omega
    unfold rguessK
    rw [if_neg hc.1, if_neg hc.2.1, if_neg hc.2.2.1, if_neg hc.2.2.2]
  · obtain rfl : m = 1 := by
      unfold Cmd.cls at e
      repeat' split at e
      all_goals omega
    have ht : Cmd.text (Cmd.cls 1) ⟨((1 : Nat) : Int), a, n, v⟩ = 32 :: v := rfl
    obtain ⟨r1, r2⟩ := rest_word ht
    rw [r1, hkind]
    have hm := most_none (k := 1) (.inr (.inl rfl))
    simp only [show Cmd.cls 1 = 1 from rfl, Cmd.valid, Bool.and_eq_true] at h5
    obtain rfl := empty_of h5.2
    obtain rfl : a = 0 := by omega
    unfold rguessK
    rw [if_pos rfl, r2]
  · have hm2 := Cmd.cls_2 e
    have ht : Cmd.text (Cmd.cls m) ⟨(m : Int), a, n, v⟩ = 32 :: Cmd.quote v := by rw [e]; rfl
    obtain ⟨r1, r2⟩ := rest_word ht
    rw [r1, hkind]
    have hm := most_none (.inr (.inr e))
    rw [e] at h5
    simp only [Cmd.valid, Bool.and_eq_true] at h5
    obtain rfl := empty_of h5.1
    obtain rfl : a = 0 := by omega
    unfold rguessK
    rw [if_neg (by omega), if_pos hm2, r2, (unq_yes rfl).1]
  · obtain rfl := Cmd.cls_3 e
    have ht : Cmd.text (Cmd.cls 7) ⟨((7 : Nat) : Int), a, n, v⟩ = 32 :: (n ++ 32 :: itoa a) := rfl
    have hp := (pieces_word 7 ⟨((7 : Nat) : Int), a, n, v⟩).2 _ ht
    simp only [show Cmd.cls 7 = 3 from rfl, Cmd.valid, Bool.and_eq_true] at h5
    obtain rfl := empty_of h5.2
    rw [Sp.pieces_split _ _ (name_no_sp h5.1), Sp.pieces_end _ itoa_no_sp] at hp
    have hh : rhead (Cmd.line 7 ⟨((7 : Nat) : Int), a, n, []⟩) = (Cmd.words[7]?).getD [] := by unfold rhead; rw [hp]; rfl
    rw [hh, hkind]
    unfold rguessK
    rw [if_neg (by decide), if_neg (by decide), if_pos rfl, hp]
    show (⟨((7 : Nat) : Int), rnum (itoa a), n, []⟩ : Cmd.C) = _
    rw [rnum_itoa h3 (by omega)]
  · have ht : Cmd.text (Cmd.cls m) ⟨(m : Int), a, n, v⟩ = 32 :: itoa a := by rw [e]; rfl
    obtain ⟨r1, r2⟩ := rest_word ht
    rw [r1, hkind]
    rw [e] at h5
    simp only [Cmd.valid, Bool.and_eq_true] at h5
    obtain rfl := empty_of h5.1
    obtain rfl := empty_of h5.2
    have hc : m = 10 ∨ m = 12 := by
      unfold Cmd.cls at e
      repeat' split at e
      all_goals omega
    unfold rguessK
    rw [if_neg (by omega), if_neg (by omega), if_neg (by omega), if_pos hc, r2, rnum_itoa h3 (by omega)]
/-- What the reference's Parse finds. -/
theorem rparse_good {s : List UInt8} (h1 : Cmd.okB (rguess s) = true) (h2 : Cmd.line (rguess s).kind.toNat (rguess s) = s) : parseS s = rguess s ∧ parseE s = 0 := by
  have := parse_complete (print_of h1 h2)
  unfold parseS parseE
  rw [this]
  exact ⟨rfl, rfl⟩
theorem rparse_bad {s : List UInt8} (h : ¬ (Cmd.okB (rguess s) = true ∧ Cmd.line (rguess s).kind.toNat (rguess s) = s)) : parseS s = Cmd.zero ∧ parseE s = 7 := by
  have hn : parse s = none := parse_no fun c hc => by
    obtain ⟨k1, k2⟩ := print_is hc
    have e := rguess_line k1
    rw [k2] at e
    exact h (by rw [e]; exact ⟨k1, k2⟩)
  unfold parseS parseE
  rw [hn]
  exact ⟨rfl, rfl⟩
theorem rguess_sizes (s : List UInt8) : (rguess s).val.length ≤ s.length ∧ (rguess s).name.length ≤ s.length ∧ -9223372036854775808 ≤ (rguess s).a ∧ (rguess s).a ≤ 9223372036854775807 ∧ (rguess s).kind = (rkindAt (rhead s) 15 : Int) := by
  have h1 : (rrest s).length ≤ s.length := by
    unfold rrest
    split
    · rw [List.length_drop]; omega
    · simp
  have h2 := unqS_len (rrest s)
  have hr : ∀ x, -1 ≤ rnum x ∧ rnum x ≤ 1000000000 := fun x => by
    unfold rnum
    split <;> omega
  have hpl : ∀ l p : List UInt8, p ∈ Sp.pieces 32 l → p.length ≤ l.length := by
    intro l
    induction l with
    | nil => intro p hp; rw [show Sp.pieces 32 [] = [[]] from rfl, List.mem_singleton] at hp; rw [hp]; simp
    | cons c r ih =>
      intro p hp
      obtain ⟨q, qs, hq⟩ := Sp.pieces_ne (s := 32) r
      by_cases hc : c = 32
      · subst hc
        rw [Sp.pieces_sep] at hp
        rcases List.mem_cons.1 hp with rfl | hp
        · simp
        · have := ih p hp; rw [List.length_cons]; omega
      · rw [Sp.pieces_other hc hq] at hp
        rw [hq] at ih
        rcases List.mem_cons.1 hp with rfl | hp
        · have := ih q (by simp); rw [List.length_cons, List.length_cons]; omega
        · have := ih p (by simp [hp]); rw [List.length_cons]; omega
  have h3 : (((Sp.pieces 32 s)[1]?).getD []).length ≤ s.length := by
    cases h : (Sp.pieces 32 s)[1]? with
    | none => simp
    | some p => exact hpl s p (List.mem_of_getElem? h)
  have r1 := hr (rrest s)
  have r2 := hr (((Sp.pieces 32 s)[2]?).getD [])
  unfold rguess rguessK
  repeat' split
  all_goals simp only [List.length_nil]
  all_goals refine ⟨by omega, by omega, by omega, by omega, trivial⟩
end Go.Proofs.YtphpgbbjbncfoaaGreatDoor

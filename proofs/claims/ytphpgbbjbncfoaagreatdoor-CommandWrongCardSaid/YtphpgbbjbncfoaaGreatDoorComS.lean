/-
  PLAIN LAWS OF LAYER 42: scripts: lines that are commands, and lines that are skipped; lines that are wrong.
-/
import Derived.Test.YtphpgbbjbncfoaaGreatDoorComB
namespace Go.Proofs.YtphpgbbjbncfoaaGreatDoor
open Go.Lib

/-- A line: a command's, or one that is skipped. -/
def GoodIt (i : List UInt8 × Option Cmd.C) : Prop := (∃ c, i.2 = some c ∧ Cmd.okB c = true ∧ i.1 = ln c) ∨ (i.2 = none ∧ skipB i.1 = true ∧ ∀ b ∈ i.1, b ≠ 10)
def itTxt (is : List (List UInt8 × Option Cmd.C)) : List UInt8 := is.flatMap fun i => i.1 ++ [10]
def itCs (is : List (List UInt8 × Option Cmd.C)) : List Cmd.C := is.filterMap (·.2)
theorem ln_plain {c : Cmd.C} (h : Cmd.okB c = true) : ∀ b ∈ ln c, b ≠ 10 := by
  intro b hb e
  have := Cmd.line_plain h b hb
  subst e
  exact absurd this.1 (by decide)
theorem ln_skip {c : Cmd.C} (h : Cmd.okB c = true) : skipB (ln c) = false := by
  obtain ⟨b, r, e, hne⟩ := Cmd.line_front h
  unfold ln skipB
  rw [e]
  simp only [List.isEmpty_cons, List.head?_cons, Bool.false_or]
  simpa using hne
theorem ln_len {c : Cmd.C} (h : Cmd.okB c = true) : (ln c).length ≤ 20000 := (ok_kind h).2.2.2.2.2
theorem ln_parse {c : Cmd.C} (h : Cmd.okB c = true) : parseE (ln c) = 0 ∧ parseS (ln c) = c := by
  have := parse_complete (Cmd.print_ok h).1
  unfold parseE parseS ln
  rw [this]
  exact ⟨rfl, rfl⟩
theorem it_no_feed {i : List UInt8 × Option Cmd.C} (h : GoodIt i) : ∀ b ∈ i.1, b ≠ 10 := by
  rcases h with ⟨c, _, h1, h2⟩ | ⟨_, _, h⟩
  · rw [h2]; exact ln_plain h1
  · exact h
theorem pieces_items : ∀ (is : List (List UInt8 × Option Cmd.C)) (r : List UInt8), (∀ i ∈ is, GoodIt i) → Lin.pieces (itTxt is ++ r) = is.map (·.1) ++ Lin.pieces r
  | [], _, _ => rfl
  | i :: is, r, h => by
    show Lin.pieces (i.1 ++ [10] ++ itTxt is ++ r) = i.1 :: (is.map (·.1) ++ Lin.pieces r)
    rw [← pieces_items is r fun j hj => h j (by simp [hj])]
    have := Lin.pieces_split i.1 (itTxt is ++ r) (it_no_feed (h i (by simp)))
    rw [← this]
    simp
theorem goAll_items : ∀ (is : List (List UInt8 × Option Cmd.C)) (n : Nat) (out : List Cmd.C) (rest : List (List UInt8)), (∀ i ∈ is, GoodIt i) → out.length + (itCs is).length ≤ 500 → goAll n out (is.map (·.1) ++ rest) = goAll (n + is.length) (out ++ itCs is) rest
  | [], n, out, rest, _, _ => by simp [itCs]
  | i :: is, n, out, rest, h, hl => by
    show goAll n out (i.1 :: (is.map (·.1) ++ rest)) = _
    rcases h i (by simp) with ⟨c, h1, h2, h3⟩ | ⟨h1, h2, _⟩
    · have e : itCs (i :: is) = c :: itCs is := by unfold itCs; rw [List.filterMap_cons, h1]
      rw [e, List.length_cons] at hl
      obtain ⟨p1, p2⟩ := ln_parse h2
      rw [h3, go_good (ln_skip h2) (by omega) (by have := ln_len h2; omega) p1, p2, goAll_items is (n + 1) (out ++ [c]) rest (fun j hj => h j (by simp [hj])) (by rw [List.length_append, List.length_singleton]; omega), e, List.length_cons]
      congr 1
      · omega
      · simp
    · have e : itCs (i :: is) = itCs is := by unfold itCs; rw [List.filterMap_cons, h1]
      rw [e] at hl
      rw [go_skip h2, goAll_items is (n + 1) out rest (fun j hj => h j (by simp [hj])) hl, e, List.length_cons]
      congr 1
      omega
/-- Commands as lines. -/
def asIt (cs : List Cmd.C) : List (List UInt8 × Option Cmd.C) := cs.map fun c => (ln c, some c)
theorem asIt_good {cs : List Cmd.C} (h : ∀ c ∈ cs, Cmd.okB c = true) : ∀ i ∈ asIt cs, GoodIt i := by
  intro i hi
  obtain ⟨c, hc, rfl⟩ := List.mem_map.1 hi
  exact .inl ⟨c, rfl, h c hc, rfl⟩
theorem asIt_txt (cs : List Cmd.C) : itTxt (asIt cs) = script cs := by
  unfold itTxt asIt script
  rw [List.flatMap_map]
theorem asIt_cs (cs : List Cmd.C) : itCs (asIt cs) = cs := by
  unfold itCs asIt
  induction cs with
  | nil => rfl
  | cons c r ih => simpa using ih
theorem asIt_len (cs : List Cmd.C) : (asIt cs).length = cs.length := List.length_map _
/-- Empty lines. -/
def feeds (k : Nat) : List (List UInt8 × Option Cmd.C) := List.replicate k ([], none)
theorem feeds_good (k : Nat) : ∀ i ∈ feeds k, GoodIt i := by
  intro i hi
  rw [List.eq_of_mem_replicate hi]
  exact .inr ⟨rfl, rfl, by simp⟩
theorem feeds_txt : ∀ k, itTxt (feeds k) = List.replicate k 10
  | 0 => rfl
  | k + 1 => by
    have := feeds_txt k
    unfold feeds itTxt at *
    rw [List.replicate_succ, List.flatMap_cons, this]
    rfl
theorem feeds_cs : ∀ k, itCs (feeds k) = []
  | 0 => rfl
  | k + 1 => by
    have := feeds_cs k
    unfold feeds itCs at *
    rw [List.replicate_succ, List.filterMap_cons]
    exact this
theorem itTxt_append (a b : List (List UInt8 × Option Cmd.C)) : itTxt (a ++ b) = itTxt a ++ itTxt b := List.flatMap_append
theorem itCs_append (a b : List (List UInt8 × Option Cmd.C)) : itCs (a ++ b) = itCs a ++ itCs b := List.filterMap_append
theorem good_append {a b : List (List UInt8 × Option Cmd.C)} (ha : ∀ i ∈ a, GoodIt i) (hb : ∀ i ∈ b, GoodIt i) : ∀ i ∈ a ++ b, GoodIt i := by
  intro i hi
  rcases List.mem_append.1 hi with hi | hi
  · exact ha i hi
  · exact hb i hi
/-- What a text of good lines says. -/
theorem allR_items {is : List (List UInt8 × Option Cmd.C)} (h : ∀ i ∈ is, GoodIt i) (hl : (itCs is).length ≤ 500) : allR (itTxt is) = (itCs is, 0, 0) := by
  unfold allR
  have e1 := pieces_items is [] h
  rw [List.append_nil] at e1
  rw [e1, goAll_items is 0 [] _ h (by simpa using hl), show Lin.pieces [] = [[]] from rfl, go_skip rfl]
  simp [goAll]
/-- .. without the last line feed. -/
theorem allR_cut {cs : List Cmd.C} (h : ∀ c ∈ cs, Cmd.okB c = true) (hl : cs.length ≤ 500) : allR ((script cs).take ((script cs).length - 1)) = (cs, 0, 0) := by
  rcases List.eq_nil_or_concat cs with rfl | ⟨ds, c, rfl⟩
  · rfl
  · rw [List.concat_eq_append] at *
    have hd : ∀ c ∈ ds, Cmd.okB c = true := fun x hx => h x (by simp [hx])
    have hc : Cmd.okB c = true := h c (by simp)
    rw [List.length_append, List.length_singleton] at hl
    have e : (script (ds ++ [c])).take ((script (ds ++ [c])).length - 1) = script ds ++ ln c := by
      rw [script_snoc, ← List.append_assoc]
      have : (script ds ++ ln c ++ [10]).length - 1 = (script ds ++ ln c).length := by simp
      rw [this, List.take_left]
    obtain ⟨p1, p2⟩ := ln_parse hc
    rw [e]
    unfold allR
    rw [← asIt_txt, pieces_items _ _ (asIt_good hd), goAll_items _ 0 [] _ (asIt_good hd) (by rw [asIt_cs]; simpa using (by omega : ds.length ≤ 500)), Lin.pieces_end _ (ln_plain hc), asIt_cs, go_good (ln_skip hc) (by simp; omega) (by have := ln_len hc; omega) p1, p2]
    simp [goAll]
/-- A line that is wrong, behind good ones. -/
theorem allR_wrong {is : List (List UInt8 × Option Cmd.C)} (h : ∀ i ∈ is, GoodIt i) (hl : (itCs is).length < 500) {b r : List UInt8} (h1 : skipB b = false) (h2 : b.length ≤ 20000) (h3 : parseE b = 7) (h4 : ∀ c ∈ b, c ≠ 10) (hr : r = [] ∨ ∃ t, r = 10 :: t) : allR (itTxt is ++ (b ++ r)) = ([], (is.length : Int) + 1, 7) := by
  unfold allR
  have e : ∃ ps, Lin.pieces (b ++ r) = b :: ps := by
    rcases hr with rfl | ⟨t, rfl⟩
    · exact ⟨[], by rw [List.append_nil]; exact Lin.pieces_end b h4⟩
    · exact ⟨_, Lin.pieces_split b t h4⟩
  obtain ⟨ps, e⟩ := e
  rw [pieces_items is _ h, goAll_items is 0 [] _ h (by simp; omega), e, go_form h1 (by simp; omega) (by omega) (by rw [h3]; decide), h3, Nat.zero_add]
theorem allR_many {is : List (List UInt8 × Option Cmd.C)} (h : ∀ i ∈ is, GoodIt i) (hl : (itCs is).length = 500) {b r : List UInt8} (h1 : skipB b = false) (h4 : ∀ c ∈ b, c ≠ 10) (hr : r = [] ∨ ∃ t, r = 10 :: t) : allR (itTxt is ++ (b ++ r)) = ([], (is.length : Int) + 1, 10) := by
  unfold allR
  have e : ∃ ps, Lin.pieces (b ++ r) = b :: ps := by
    rcases hr with rfl | ⟨t, rfl⟩
    · exact ⟨[], by rw [List.append_nil]; exact Lin.pieces_end b h4⟩
    · exact ⟨_, Lin.pieces_split b t h4⟩
  obtain ⟨ps, e⟩ := e
  rw [pieces_items is _ h, goAll_items is 0 [] _ h (by simp; omega), e, go_many h1 (by simpa using hl), Nat.zero_add]
theorem allR_long {is : List (List UInt8 × Option Cmd.C)} (h : ∀ i ∈ is, GoodIt i) (hl : (itCs is).length < 500) {b r : List UInt8} (h1 : skipB b = false) (h2 : 20000 < b.length) (h4 : ∀ c ∈ b, c ≠ 10) (hr : r = [] ∨ ∃ t, r = 10 :: t) : allR (itTxt is ++ (b ++ r)) = ([], (is.length : Int) + 1, 9) := by
  unfold allR
  have e : ∃ ps, Lin.pieces (b ++ r) = b :: ps := by
    rcases hr with rfl | ⟨t, rfl⟩
    · exact ⟨[], by rw [List.append_nil]; exact Lin.pieces_end b h4⟩
    · exact ⟨_, Lin.pieces_split b t h4⟩
  obtain ⟨ps, e⟩ := e
  rw [pieces_items is _ h, goAll_items is 0 [] _ h (by simp; omega), e, go_long h1 (by simp; omega) h2, Nat.zero_add]

/-! ### Sizes -/
theorem cmdK_line (m : Nat) (a : Int) (l : List UInt8) (hl : l.length ≤ 60) : (ln (Cmd.cmdK m a l)).length ≤ 1300 := by
  have hq := (Cmd.quote_len l).2
  have hnm : (Cmd.nameN l).length ≤ 16 := by simp [Cmd.nameN]; omega
  have hv : (Cmd.numVal l).length ≤ 21 * 60 := by
    have h := Num.joined_len 20 ((Cmd.numsN l).map Lib.itoa) (fun p hp => by
      obtain ⟨n, hn, rfl⟩ := List.mem_map.1 hp
      have := Cmd.numsN_ok l n hn
      exact Dec.itoa_length this.1 this.2)
    rw [List.length_map] at h
    have h2 : (Cmd.numsN l).length ≤ 60 := by unfold Cmd.numsN; rw [List.length_map, List.length_take]; omega
    unfold Cmd.numVal
    omega
  have ht : (Cmd.text (Cmd.cls m) (Cmd.cmdK m a l)).length ≤ 1261 := by
    have hi1 := fun a' : Int => fun (h0 : 0 ≤ a') (h1 : a' ≤ 9223372036854775807) => Cmd.itoa_short h0 h1
    unfold Cmd.cmdK
    by_cases e1 : m = 1
    · subst e1
      simp only [if_true, Cmd.cls, Cmd.text, List.length_cons]
      omega
    rw [if_neg e1]
    by_cases e2 : m = 2 ∨ m = 15
    · rw [if_pos e2]
      have : Cmd.cls m = 2 := by unfold Cmd.cls; rw [if_neg e1, if_pos e2]
      rw [this]
      simp only [Cmd.text, List.length_cons]
      omega
    rw [if_neg e2]
    by_cases e3 : m = 7
    · subst e3
      have h3 := hi1 (a % 201) (by omega) (by omega)
      show (32 :: (Cmd.nameN l ++ 32 :: Lib.itoa (a % 201))).length ≤ 1261
      rw [List.length_cons, List.length_append, List.length_cons]
      omega
    rw [if_neg e3]
    by_cases e4 : m = 10
    · subst e4
      have h3 := hi1 (a % 1000000001) (by omega) (by omega)
      show (32 :: Lib.itoa (a % 1000000001)).length ≤ 1261
      rw [List.length_cons]
      omega
    rw [if_neg e4]
    by_cases e5 : m = 12
    · subst e5
      have h3 := hi1 (a % 201) (by omega) (by omega)
      show (32 :: Lib.itoa (a % 201)).length ≤ 1261
      rw [List.length_cons]
      omega
    rw [if_neg e5]
    have : Cmd.cls m = 0 := by unfold Cmd.cls; rw [if_neg e1, if_neg e2, if_neg e3, if_neg (by omega)]
    rw [this]
    simp [Cmd.text]
  have := Cmd.line_len m (Cmd.cmdK m a l)
  have hk := Cmd.cmdK_kind m a l
  unfold ln
  rw [hk, Int.toNat_natCast]
  omega

/-! ### Lines that are no commands -/
def badL : List (List UInt8) := [[115, 116, 101], [115, 116, 101, 112, 32], [32, 115, 116, 101, 112], [83, 116, 101, 112], [103, 111, 116, 111], [103, 111, 116, 111, 32], [103, 111, 116, 111, 32, 45, 49], [103, 111, 116, 111, 32, 49, 48, 48, 48, 48, 48, 48, 48, 48, 49], [103, 111, 116, 111, 32, 48, 48], [103, 111, 116, 111, 32, 57, 57, 57, 57, 57, 57, 57, 57, 57, 57, 57, 57, 57, 57, 57, 57, 57, 57, 57, 57], [105, 110, 112, 117, 116], [105, 110, 112, 117, 116, 32, 49, 44], [105, 110, 112, 117, 116, 32, 49, 44, 32, 50], [108, 111, 97, 100], [108, 111, 97, 100, 32, 97, 92], [101, 100, 105, 116, 32, 92, 120, 48, 65], [108, 111, 97, 100, 32, 92, 120, 52, 49], [101, 100, 105, 116, 32, 255], [98, 114, 101, 97, 107, 32, 102], [98, 114, 101, 97, 107, 32, 49, 32, 102], [98, 114, 101, 97, 107, 32, 102, 32, 50, 48, 49], [98, 114, 101, 97, 107, 32, 102, 32, 49, 32], [98, 114, 101, 97, 107, 32, 108, 101, 110, 32, 49], [98, 114, 101, 97, 107, 32, 32, 49], [98, 114, 101, 97, 107, 32, 97, 118, 101, 114, 121, 118, 101, 114, 121, 108, 111, 110, 103, 110, 97, 109, 101, 32, 49], [118, 97, 114, 115, 32, 50, 48, 49], [118, 97, 114, 115], [108, 105, 115, 116, 32, 49], [119, 104, 101, 114, 101, 35], [111, 117, 116, 112, 117, 116, 9]]
set_option maxRecDepth 100000 in
theorem badL_len : badL.length = 30 := rfl
set_option maxRecDepth 100000 in
theorem badL_is : ∀ b ∈ badL, skipB b = false ∧ parseE b = 7 ∧ b.length ≤ 30 ∧ ∀ c ∈ b, c ≠ 10 := by decide +kernel
def badN (k : Int) : List UInt8 := (badL[(k % 30).toNat]?).getD []
theorem badN_mem (k : Int) : badN k ∈ badL := by
  have h2 : (k % 30).toNat < badL.length := by rw [badL_len]; omega
  unfold badN
  rw [List.getElem?_eq_getElem h2]
  exact List.getElem_mem _
end Go.Proofs.YtphpgbbjbncfoaaGreatDoor

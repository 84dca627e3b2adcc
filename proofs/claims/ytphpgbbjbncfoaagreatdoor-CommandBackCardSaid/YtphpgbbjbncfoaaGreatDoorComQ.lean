/-
  PLAIN LAWS OF LAYER 42: what Parse finds is what Print printed.
-/
import Derived.Test.YtphpgbbjbncfoaaGreatDoorCom12
namespace Go.Proofs.YtphpgbbjbncfoaaGreatDoor
open Go.Lib

theorem parseAt_some {s : List UInt8} {c : Cmd.C} : ∀ {n : Nat}, parseAt s n = some c → ∃ k, k < n ∧ hits k s = true ∧ c = candC k s
  | 0, h => by cases h
  | n + 1, h => by
    rw [parseAt] at h
    cases hp : parseAt s n with
    | some d =>
      rw [hp] at h
      cases h
      obtain ⟨k, h1, h2⟩ := parseAt_some hp
      exact ⟨k, by omega, h2⟩
    | none =>
      rw [hp] at h
      simp only at h
      split at h
      · rename_i hh
        cases h
        exact ⟨n, by omega, hh, rfl⟩
      · cases h
theorem print_of {c : Cmd.C} {s : List UInt8} (h1 : Cmd.okB c = true) (h2 : Cmd.line c.kind.toNat c = s) : Cmd.print c = some s := by
  unfold Cmd.print
  rw [if_pos h1, h2]
theorem parse_sound {s : List UInt8} {c : Cmd.C} (h : parse s = some c) : Cmd.print c = some s := by
  unfold parse at h
  split at h
  · cases h
  · obtain ⟨k, _, h2, rfl⟩ := parseAt_some h
    unfold hits candB at h2
    simp only [Bool.and_eq_true, decide_eq_true_eq] at h2
    exact print_of h2.2.1.2 (by
      show Cmd.line ((k : Int).toNat) (candC k s) = s
      exact h2.2.2)
theorem index_sp_ne {b : UInt8} {l : List UInt8} (h : b ≠ 32) : index (b :: l) [32] = if index l [32] == -1 then -1 else index l [32] + 1 := by
  rw [index, if_neg]
  simp [List.isPrefixOf, Ne.symm h]
theorem index_sp_eq (l : List UInt8) : index (32 :: l) [32] = 0 := by
  rw [index, if_pos]
  simp [List.isPrefixOf]
theorem index_at : ∀ (p r : List UInt8), (∀ c ∈ p, c ≠ 32) → index (p ++ 32 :: r) [32] = (p.length : Int)
  | [], r, _ => index_sp_eq r
  | b :: p, r, h => by
    rw [List.cons_append, index_sp_ne (h b (by simp)), index_at p r (fun c hc => h c (by simp [hc]))]
    have : ((p.length : Int) == -1) = false := by simp
    rw [this]
    simp
theorem cutR_at (p r : List UInt8) (h : ∀ c ∈ p, c ≠ 32) : cutR (p ++ 32 :: r) = (p, r, true) := by
  unfold cutR cut
  rw [index_at p r h, if_pos (by omega)]
  simp
theorem word_no_sp (k : Nat) : ∀ c ∈ (Cmd.words[k]?).getD [], c ≠ 32 := by
  by_cases h : k < 16
  · have key : ∀ i : Fin 16, ∀ c ∈ (Cmd.words[i.val]?).getD [], c ≠ 32 := by decide
    exact key ⟨k, h⟩
  · rw [List.getElem?_eq_none (by show 16 ≤ k; omega)]
    simp
theorem words_differ {i j : Nat} (hi : i < 16) (hj : j < 16) (h : (Cmd.words[i]?).getD [] = (Cmd.words[j]?).getD []) : i = j := by
  have key : ∀ i j : Fin 16, (Cmd.words[i.val]?).getD [] = (Cmd.words[j.val]?).getD [] → i.val = j.val := by decide
  exact key ⟨i, hi⟩ ⟨j, hj⟩ h
theorem text_sp (cl : Nat) (c : Cmd.C) : Cmd.text cl c = [] ∨ ∃ r, Cmd.text cl c = 32 :: r := by
  unfold Cmd.text
  split
  all_goals first | exact .inr ⟨_, rfl⟩ | exact .inl rfl
theorem fw_line (k : Nat) (c : Cmd.C) : fw (Cmd.line k c) = (Cmd.words[k]?).getD [] := by
  unfold fw Cmd.line
  have hw := word_no_sp k
  generalize (Cmd.words[k]?).getD [] = W at hw
  have htw : ∀ r, (W ++ 32 :: r).takeWhile (· != 32) = W := by
    intro r
    rw [List.takeWhile_append_of_pos (fun c hc => by simpa using hw c hc)]
    simp
  have htw2 : W.takeWhile (· != 32) = W := by
    have := List.takeWhile_append_of_pos (l₁ := W) (l₂ := []) (p := (· != 32)) (fun c hc => by simpa using hw c hc)
    simpa using this
  rcases text_sp (Cmd.cls k) c with e | ⟨r, e⟩
  · rw [e, List.append_nil, htw2]
  · rw [e, htw]
theorem behind_sp (r : List UInt8) : behindSp (32 :: r) = r ∧ isSp (32 :: r) = true := by
  have h : hasPrefix (32 :: r) [32] = true := by simp [hasPrefix, List.isPrefixOf]
  unfold behindSp isSp trimPrefix
  rw [if_pos h]
  exact ⟨rfl, h⟩
theorem name_no_sp {n : List UInt8} (h : Cmd.nameB n = true) : ∀ c ∈ n, c ≠ 32 := by
  intro c hc e
  have := (of_decide_eq_true h).2.2.2.1 c hc
  rw [e] at this
  exact absurd this (by decide)
theorem numP_itoa {a : Int} (h0 : 0 ≤ a) (h1 : a ≤ 9223372036854775807) : Num.numP (itoa a) = a ∧ errP (itoa a) = 0 := errP_some (Num.parse_itoa (by omega) h1)
theorem empty_of {l : List UInt8} (h : l.isEmpty = true) : l = [] := by cases l with
  | nil => rfl
  | cons a r => cases h
theorem most_none {k : Nat} (h : Cmd.cls k = 0 ∨ Cmd.cls k = 1 ∨ Cmd.cls k = 2) : Cmd.most k = 0 := by
  unfold Cmd.cls at h
  unfold Cmd.most
  repeat' split at h
  all_goals (repeat' split)
  all_goals omega
theorem cand_back {k : Nat} {c : Cmd.C} (hk : c.kind = (k : Int)) (hok : Cmd.okB c = true) : candC k (Cmd.line k c) = c ∧ readB (Cmd.cls k) ((Cmd.line k c).drop (fw (Cmd.line k c)).length) = true := by
  have hfw := fw_line k c
  have hdrop : (Cmd.line k c).drop (fw (Cmd.line k c)).length = Cmd.text (Cmd.cls k) c := by
    rw [hfw]
    unfold Cmd.line
    rw [List.drop_left]
  unfold candC
  rw [hdrop]
  obtain ⟨kk, a, n, v⟩ := c
  simp only at hk
  subst hk
  unfold Cmd.okB at hok
  simp only [Int.toNat_natCast, Bool.and_eq_true, decide_eq_true_eq] at hok
  obtain ⟨⟨⟨_, _, h0, h1⟩, hval⟩, _⟩ := hok
  have hm : a ≤ 9223372036854775807 := by
    have : Cmd.most k ≤ 1000000000 := by unfold Cmd.most; repeat' split
                                         all_goals omega
    omega
  rcases cls_ways k with e | e | e | e | e
  · rw [e] at hval ⊢
    have := most_none (.inl e)
    simp only [Cmd.valid, Bool.and_eq_true] at hval
    obtain rfl := empty_of hval.1
    obtain rfl := empty_of hval.2
    obtain rfl : a = 0 := by omega
    exact ⟨rfl, rfl⟩
  · rw [e] at hval ⊢
    have := most_none (.inr (.inl e))
    simp only [Cmd.valid, Bool.and_eq_true] at hval
    obtain rfl := empty_of hval.2
    obtain rfl : a = 0 := by omega
    obtain ⟨q1, q2⟩ := behind_sp v
    simp only [Cmd.text, readC, readB, q1, q2]
    exact ⟨trivial, trivial⟩
  · rw [e] at hval ⊢
    have := most_none (.inr (.inr e))
    simp only [Cmd.valid, Bool.and_eq_true] at hval
    obtain rfl := empty_of hval.1
    obtain rfl : a = 0 := by omega
    obtain ⟨q1, q2⟩ := behind_sp (Cmd.quote v)
    obtain ⟨u1, u2⟩ := unq_yes (l := Cmd.quote v) (s := v) rfl
    simp only [Cmd.text, readC, readB, q1, q2, u1, u2]
    exact ⟨trivial, rfl⟩
  · rw [e] at hval ⊢
    simp only [Cmd.valid, Bool.and_eq_true] at hval
    obtain rfl := empty_of hval.2
    obtain ⟨q1, q2⟩ := behind_sp (n ++ 32 :: itoa a)
    have hc := cutR_at n (itoa a) (name_no_sp hval.1)
    obtain ⟨u1, u2⟩ := numP_itoa h0 hm
    simp only [Cmd.text, readC, readB, q1, q2, hc, u1, u2]
    exact ⟨trivial, rfl⟩
  · rw [e] at hval ⊢
    simp only [Cmd.valid, Bool.and_eq_true] at hval
    obtain rfl := empty_of hval.1
    obtain rfl := empty_of hval.2
    obtain ⟨q1, q2⟩ := behind_sp (itoa a)
    obtain ⟨u1, u2⟩ := numP_itoa h0 hm
    simp only [Cmd.text, readC, readB, q1, q2, u1, u2]
    exact ⟨trivial, rfl⟩
theorem print_is {c : Cmd.C} {s : List UInt8} (h : Cmd.print c = some s) : Cmd.okB c = true ∧ Cmd.line c.kind.toNat c = s := by
  unfold Cmd.print at h
  split at h
  · rename_i hk
    cases h
    exact ⟨hk, rfl⟩
  · cases h
theorem ok_kind {c : Cmd.C} (h : Cmd.okB c = true) : 1 ≤ c.kind ∧ c.kind ≤ 15 ∧ 0 ≤ c.a ∧ c.a ≤ Cmd.most c.kind.toNat ∧ Cmd.valid (Cmd.cls c.kind.toNat) c = true ∧ (Cmd.line c.kind.toNat c).length ≤ 20000 := by
  unfold Cmd.okB at h
  simp only [Bool.and_eq_true, decide_eq_true_eq] at h
  exact ⟨h.1.1.1, h.1.1.2.1, h.1.1.2.2.1, h.1.1.2.2.2, h.1.2, h.2⟩
theorem parseAt_before {s : List UInt8} {k : Nat} (hk : k < 16) (h1 : 1 ≤ k) (hw : fw s = (Cmd.words[k]?).getD []) : ∀ n, n ≤ k → parseAt s n = none
  | 0, _ => rfl
  | n + 1, hn => by
    refine parseAt_skip (parseAt_before hk h1 hw n (by omega)) ?_
    unfold hits
    rw [decide_eq_false (fun ⟨_, e⟩ => by
      have := words_differ (by omega) hk (e.trans hw)
      omega)]
    rfl
theorem parse_complete {s : List UInt8} {c : Cmd.C} (h : Cmd.print c = some s) : parse s = some c := by
  obtain ⟨hok, rfl⟩ := print_is h
  obtain ⟨h1, h2, _, _, _, h6⟩ := ok_kind hok
  obtain ⟨k, hk⟩ : ∃ k : Nat, c.kind = k := ⟨c.kind.toNat, by omega⟩
  have hkn : c.kind.toNat = k := by omega
  rw [hkn] at h6 ⊢
  obtain ⟨e1, e2⟩ := cand_back hk hok
  have hhit : hits k (Cmd.line k c) = true := by
    unfold hits candB
    rw [e1, e2, hok, decide_eq_true ⟨by omega, (fw_line k c).symm⟩]
    simp
  have hp := parseAt_more (parseAt_hit (parseAt_before (by omega) (by omega) (fw_line k c) k (Nat.le_refl _)) hhit) (15 - k)
  rw [show k + 1 + (15 - k) = 16 by omega, e1] at hp
  unfold parse
  rw [if_neg (by omega), hp]
theorem parse_iff {s : List UInt8} {c : Cmd.C} : parse s = some c ↔ Cmd.print c = some s := ⟨parse_sound, parse_complete⟩
theorem print_inj {c d : Cmd.C} {s : List UInt8} (h1 : Cmd.print c = some s) (h2 : Cmd.print d = some s) : c = d := by
  have := parse_complete h1
  rw [parse_complete h2] at this
  exact (Option.some.inj this).symm
theorem parse_no {s : List UInt8} (h : ∀ c, Cmd.print c ≠ some s) : parse s = none := by
  cases hp : parse s with
  | none => rfl
  | some c => exact absurd (parse_sound hp) (h c)
end Go.Proofs.YtphpgbbjbncfoaaGreatDoor

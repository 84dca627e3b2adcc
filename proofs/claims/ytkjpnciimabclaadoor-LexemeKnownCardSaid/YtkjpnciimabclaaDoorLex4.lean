/-
  LAYER 4: the token that a string begins with.
-/
import Derived.Test.YtkjpnciimabclaaDoorLex3
import Derived.Laws.Rows
import Derived.Deep.RegionHeld3
namespace Go.Proofs.YtkjpnciimabclaaDoor
open Go.ChangeShapes Go.WideShapes Go.ChangeAt Go.RowKit

theorem find_at {α : Type} {l : List α} {p : α → Bool} {k : Nat} {x : α} (hx : l[k]? = some x) (hp : p x = true) (h : ∀ y ∈ l.take k, p y = false) : l.find? p = some x := by
  obtain ⟨hk, e⟩ := List.getElem?_eq_some_iff.1 hx
  rw [← List.take_append_drop k l, List.find?_append, List.find?_eq_none.2 (fun y hy => by rw [h y hy]; decide), List.drop_eq_getElem_cons hk, e]
  simp [hp]

abbrev signA : Array Value := (Lex.signs.map fun s => Value.string ⟨s.toArray⟩).toArray
theorem sign_at (k : Nat) (s : List UInt8) (h : Lex.signs[k]? = some s) : ∀ w, (Instr.index 53 (.agg signA) (.int .i64 k)).run Tryd.prog w = .ok (.string ⟨s.toArray⟩) w := by
  intro w
  have hk : k < 23 := (List.getElem?_eq_some_iff.1 h).1
  have key : ∀ j : Fin 23, ∀ x, Lex.signs[j.val]? = some x → (Instr.index 53 (.agg signA) (.int .i64 j.val)).run Tryd.prog w = .ok (.string ⟨x.toArray⟩) w := by
    intro j x hx
    match j with
    | 0 | 1 | 2 | 3 | 4 | 5 | 6 | 7 | 8 | 9 | 10 | 11 | 12 | 13 | 14 | 15 | 16 | 17 | 18 | 19 | 20 | 21 | 22 =>
      cases hx
      show _ = _
      kernel_rfl
  exact key ⟨k, hk⟩ s h

theorem take_cut (l : List UInt8) (p : UInt8 → Bool) : (⟨l.toArray⟩ : ByteArray).extract 0 (l.takeWhile p).length = ⟨(l.takeWhile p).toArray⟩ ∧ (l.takeWhile p).length ≤ l.length := by
  have h := List.takeWhile_prefix (l := l) p
  refine ⟨?_, h.length_le⟩
  rw [mk_extract, List.drop_zero, Nat.sub_zero, List.prefix_iff_eq_take.1 h]
  simp

def FInv (w0 W : World) : Prop := Good W ∧ Below w0.heap.size w0 W
theorem FInv.good {w0 W : World} (h : Hid (FInv w0 W)) : Good W := h.out.1
theorem FInv.only {w0 W : World} (h : Hid (FInv w0 W)) : Hid (FInv w0 W) := h
theorem FInv.drew {w0 W : World} (h : Hid (FInv w0 W)) : Hid (FInv w0 W.drew) := Lib.hid ⟨h.out.1.drew, h.out.2.drew⟩
theorem FInv.alloc {w0 W : World} (h : Hid (FInv w0 W)) (o : Obj) : Hid (FInv w0 (W.alloc o)) := Lib.hid ⟨h.out.1.alloc o, below_new h.out.2 o⟩
theorem FInv.drewN {w0 W : World} (h : Hid (FInv w0 W)) (n : Nat) : Hid (FInv w0 (W.drewN n)) := Lib.hid ⟨h.out.1.below ⟨rfl, rfl, rfl, Nat.le_refl _, fun _ _ => rfl⟩ (Nat.le_refl _), ⟨h.out.2.os, h.out.2.tape, h.out.2.output, h.out.2.size, h.out.2.block⟩⟩
theorem FInv.call {w0 W W' : World} (h : Hid (FInv w0 W)) (hb : Below W.heap.size W W') : Hid (FInv w0 W') := Lib.hid ⟨h.out.1.call hb, below_call h.out.2 hb⟩

theorem first_letter (l : List UInt8) (c : UInt8) (hx : ∀ h, ((⟨l.toArray⟩ : ByteArray)[0]'h) = c) (hne : 0 < l.length) (hl : l.length ≤ 1000000) (hc : Lex.letr c = true) (he : Lex.first l = if (l.takeWhile Lex.word) ∈ Lex.keywords then (3, l.takeWhile Lex.word) else if (l.takeWhile Lex.word).length ≤ 16 then (1, l.takeWhile Lex.word) else (0, [])) (w : World) (hG : Good w) :
    Calls Tryd.prog 24 #[.string ⟨l.toArray⟩] w fun e w' => e = .returned (.tuple #[.int .i64 (Lex.first l).1, .string ⟨(Lex.first l).2.toArray⟩]) ∧ Below w.heap.size w w' := by
  rw [he]
  obtain ⟨cut, le⟩ := take_cut l Lex.word
  have HC := Lib.hid hc
  clear he hc
  obtain ⟨u, hu⟩ : ∃ u, l.takeWhile Lex.word = u := ⟨_, rfl⟩
  have HU := Lib.hid hu
  rw [hu] at cut le ⊢
  clear hu
  have HG := Lib.hid hG
  clear hG
  by_cases hk : u ∈ Lex.keywords
  · rw [if_pos hk]
    have hd := Lib.hid (decide_eq_true hk)
    clear hk
    go_enter Tryd.func24, Tryd.ntmps24
    go_wp2_with fail
    refine (letter_any c _).mono ?_
    rintro e w1 ⟨rfl, rfl⟩
    rw [HC.out]
    go_wp2_with fail
    refine (while_word l hl _).mono ?_
    rintro e w1 ⟨rfl, rfl⟩
    rw [HU.out]
    go_wp2_with fail
    refine (reserved_any u _ HG.out).mono ?_
    rintro e w1 ⟨rfl, rfl⟩
    rw [hd.out]
    go_wp2_with fail
    go_ret2
    exact ⟨rfl, Below.refl _ _⟩
  · rw [if_neg hk]
    have hd := Lib.hid (decide_eq_false hk)
    clear hk
    by_cases h16 : u.length ≤ 16
    · rw [if_pos h16]
      go_enter Tryd.func24, Tryd.ntmps24
      go_wp2_with fail
      refine (letter_any c _).mono ?_
      rintro e w1 ⟨rfl, rfl⟩
      rw [HC.out]
      go_wp2_with fail
      refine (while_word l hl _).mono ?_
      rintro e w1 ⟨rfl, rfl⟩
      rw [HU.out]
      go_wp2_with fail
      refine (reserved_any u _ HG.out).mono ?_
      rintro e w1 ⟨rfl, rfl⟩
      rw [hd.out]
      go_wp2_with fail
      go_ret2
      exact ⟨rfl, Below.refl _ _⟩
    · rw [if_neg h16]
      go_enter Tryd.func24, Tryd.ntmps24
      go_wp2_with fail
      refine (letter_any c _).mono ?_
      rintro e w1 ⟨rfl, rfl⟩
      rw [HC.out]
      go_wp2_with fail
      refine (while_word l hl _).mono ?_
      rintro e w1 ⟨rfl, rfl⟩
      rw [HU.out]
      go_wp2_with fail
      refine (reserved_any u _ HG.out).mono ?_
      rintro e w1 ⟨rfl, rfl⟩
      rw [hd.out]
      go_wp2_with fail
      go_ret2
      exact ⟨rfl, Below.refl _ _⟩

theorem first_digit (l : List UInt8) (c : UInt8) (hx : ∀ h, ((⟨l.toArray⟩ : ByteArray)[0]'h) = c) (hne : 0 < l.length) (hl : l.length ≤ 1000000) (hc : Lex.letr c = false) (hc2 : Lex.dig c = true) (he : Lex.first l = if Lex.numOk (l.takeWhile Lex.dig) (l.drop (l.takeWhile Lex.dig).length) = true then (2, l.takeWhile Lex.dig) else (0, [])) (w : World) (hG : Good w) :
    Calls Tryd.prog 24 #[.string ⟨l.toArray⟩] w fun e w' => e = .returned (.tuple #[.int .i64 (Lex.first l).1, .string ⟨(Lex.first l).2.toArray⟩]) ∧ Below w.heap.size w w' := by
  rw [he]
  obtain ⟨cut, le⟩ := take_cut l Lex.dig
  have HC := Lib.hid hc
  have HC2 := Lib.hid hc2
  clear he hc hc2
  obtain ⟨u, hu⟩ : ∃ u, l.takeWhile Lex.dig = u := ⟨_, rfl⟩
  have HU := Lib.hid hu
  rw [hu] at cut le ⊢
  clear hu
  have cut2 := @extract_end l u.length
  have HI : Hid (FInv w w) := Lib.hid ⟨hG, Below.refl _ _⟩
  clear hG
  have lu : u.length ≤ 1000000 := by omega
  obtain ⟨v, hv⟩ : ∃ v, l.drop u.length = v := ⟨_, rfl⟩
  rw [hv] at cut2 ⊢
  clear hv
  cases hb : Lex.numOk u v with
  | true =>
    have HB := Lib.hid hb
    clear hb
    go_enter Tryd.func24, Tryd.ntmps24
    go_wp2_with fail
    refine (letter_any c _).mono ?_
    rintro e w1 ⟨rfl, rfl⟩
    rw [HC.out]
    go_wp2_with fail
    refine (digit_any c _).mono ?_
    rintro e w1 ⟨rfl, rfl⟩
    rw [HC2.out]
    go_wp2_with fail
    refine (while_dig l hl _).mono ?_
    rintro e w1 ⟨rfl, rfl⟩
    rw [HU.out]
    go_wp2_with fail
    go_region_held3 (fun W => Hid (FInv w1 W)) (first | exact FInv.drew (by assumption) | exact FInv.call (by assumption) (by assumption)) (first | (go_at_call 37; refine (number_any u v lu _ (FInv.good (by assumption))).mono ?_; rintro e w' ⟨rfl, hb⟩; rw [HB.out]))
    have KF := FInv.only (by assumption)
    clear HI
    go_wp2_with fail
    go_region
    all_goals
      go_wp2_with fail
      go_ret2
      exact ⟨rfl, KF.out.2.drew⟩
  | false =>
    have HB := Lib.hid hb
    clear hb
    go_enter Tryd.func24, Tryd.ntmps24
    go_wp2_with fail
    refine (letter_any c _).mono ?_
    rintro e w1 ⟨rfl, rfl⟩
    rw [HC.out]
    go_wp2_with fail
    refine (digit_any c _).mono ?_
    rintro e w1 ⟨rfl, rfl⟩
    rw [HC2.out]
    go_wp2_with fail
    refine (while_dig l hl _).mono ?_
    rintro e w1 ⟨rfl, rfl⟩
    rw [HU.out]
    go_wp2_with fail
    go_region_held3 (fun W => Hid (FInv w1 W)) (first | exact FInv.drew (by assumption) | exact FInv.call (by assumption) (by assumption)) (first | (go_at_call 37; refine (number_any u v lu _ (FInv.good (by assumption))).mono ?_; rintro e w' ⟨rfl, hb⟩; rw [HB.out]))
    have KF := FInv.only (by assumption)
    clear HI
    go_wp2_with fail
    go_ret2
    exact ⟨rfl, KF.out.2⟩

theorem first_sign (l : List UInt8) (c : UInt8) (hx : ∀ h, ((⟨l.toArray⟩ : ByteArray)[0]'h) = c) (hne : 0 < l.length) (hc : Lex.letr c = false) (hc2 : Lex.dig c = false) (he : Lex.first l = match Lex.signs.find? (fun x => x.isPrefixOf l) with
      | some x => (4, x)
      | none => (0, [])) (w : World) (hG : Good w) :
    Calls Tryd.prog 24 #[.string ⟨l.toArray⟩] w fun e w' => e = .returned (.tuple #[.int .i64 (Lex.first l).1, .string ⟨(Lex.first l).2.toArray⟩]) ∧ Below w.heap.size w w' := by
  have HE := Lib.hid he
  have HC := Lib.hid hc
  have HC2 := Lib.hid hc2
  obtain ⟨tt, fr, hrow⟩ := hG.row
  clear he hc hc2 hG
  go_enter Tryd.func24, Tryd.ntmps24
  go_wp2_with fail
  refine (letter_any c _).mono ?_
  rintro e w1 ⟨rfl, rfl⟩
  rw [HC.out]
  go_wp2_with fail
  refine (digit_any c _).mono ?_
  rintro e w1 ⟨rfl, rfl⟩
  rw [HC2.out]
  go_wp2_with (refine wpList_load_row rfl 53 _ rfl 0 rfl tt _ fr _ hrow Tryd.underlying53 rfl (by kernel_rfl) ?_)
  generalize hSA : (Lex.signs.map fun s => Value.string ⟨s.toArray⟩).toArray = SA
  have HSA := Lib.hid hSA
  clear hSA hrow
  go_loopw [12] (fun i wr => ∃ k : Nat, k ≤ 23 ∧ i = .int .i64 k ∧ wr = w1 ∧ Hid (∀ x ∈ Lex.signs.take k, x.isPrefixOf l = false)) (fun i _ => 23 - (intOf i).toNat)
  case atStart => exact ⟨0, Nat.zero_le _, rfl, rfl, Lib.hid (by simp)⟩
  case round =>
    obtain ⟨k, hk, rfl, rfl, HW⟩ := hrel
    by_cases hlt : k < 23
    · obtain ⟨s, hs⟩ : ∃ s, Lex.signs[k]? = some s := ⟨_, List.getElem?_eq_getElem (show k < Lex.signs.length from hlt)⟩
      have hi := sign_at k s hs
      rw [show signA = SA from HSA.out] at hi
      have HS := Lib.hid hs
      clear hs
      go_wp2_with fail
      refine (Tryd.strings_HasPrefix _ _ _).mono ?_
      rintro e w2 ⟨rfl, rfl⟩
      cases hp : Lib.hasPrefix l s with
      | true =>
        have HP := Lib.hid hp
        clear hp
        go_wp2_with fail
        go_ret2
        refine ⟨?_, Below.refl _ _⟩
        rw [HE.out, find_at (p := fun x => x.isPrefixOf l) HS.out HP.out HW.out]
        rfl
      | false =>
        have HN : Hid (∀ x ∈ Lex.signs.take (k + 1), x.isPrefixOf l = false) := Lib.hid (by
          intro x hx
          obtain ⟨h1, e1⟩ := List.getElem?_eq_some_iff.1 HS.out
          rw [List.take_succ_eq_append_getElem h1] at hx
          rcases List.mem_append.1 hx with hx | hx
          · exact HW.out x hx
          · rw [List.mem_singleton.1 hx, e1]; exact hp)
        clear hp
        go_wp2_with fail
        exact ⟨⟨k + 1, hlt, by go_num, by trivial, HN⟩, by simp [intOf]; omega⟩
    · obtain rfl : k = 23 := by omega
      rw [show ((23 : Nat) : Int) = 23 from rfl]
      go_wp2_with fail
      go_ret2
      refine ⟨?_, Below.refl _ _⟩
      rw [HE.out, List.find?_eq_none.2 (fun y hy => by rw [HW.out y hy]; decide)]
      rfl

/-- lexeme.first. -/
theorem first_any (l : List UInt8) (hne : l ≠ []) (hl : l.length ≤ 1000000) (w : World) (hG : Good w) :
    Calls Tryd.prog 24 #[.string ⟨l.toArray⟩] w fun e w' => e = .returned (.tuple #[.int .i64 (Lex.first l).1, .string ⟨(Lex.first l).2.toArray⟩]) ∧ Below w.heap.size w w' := by
  cases l with
  | nil => exact absurd rfl hne
  | cons c r =>
    cases h1 : Lex.letr c with
    | true => exact first_letter (c :: r) c (fun _ => rfl) (by simp) hl h1 (by rw [Lex.first, if_pos h1]) w hG
    | false =>
      cases h2 : Lex.dig c with
      | true => exact first_digit (c :: r) c (fun _ => rfl) (by simp) hl h1 h2 (by rw [Lex.first, if_neg (by rw [h1]; decide), if_pos h2]) w hG
      | false => exact first_sign (c :: r) c (fun _ => rfl) (by simp) h1 h2 (by rw [Lex.first, if_neg (by rw [h1]; decide), if_neg (by rw [h2]; decide)]; rfl) w hG
end Go.Proofs.YtkjpnciimabclaaDoor

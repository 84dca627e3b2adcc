/-
  LAYER 42: quoted strings: the statement's walk.
-/
import Derived.Test.YtphpgbbjbncfoaaGreatDoorCom16
import Derived.Test.YtphpgbbjbncfoaaGreatDoorComW1
namespace Go.Proofs.YtphpgbbjbncfoaaGreatDoor
open Go.ChangeShapes Go.WideShapes Go.ChangeAt Go.RowKit

set_option maxHeartbeats 4000000 in
set_option maxRecDepth 20000 in
theorem commandQuotes_walk (s : ByteArray) (_ : s.size ≤ maxLen) (t : ByteArray) (_ : t.size ≤ maxLen) (w : World) (hG : Good w) :
    Calls Tryz.prog 6 #[.string s, .string t] w fun e w' => e = .returned (.bool true) ∧ Below w.heap.size w w' := by
  obtain ⟨s, rfl⟩ : ∃ l : List UInt8, s = ⟨l.toArray⟩ := ⟨s.data.toList, rfl⟩
  obtain ⟨t, rfl⟩ : ∃ l : List UInt8, t = ⟨l.toArray⟩ := ⟨t.data.toList, rfl⟩
  have HI : Hid (FInv w w) := Lib.hid ⟨hG, Below.refl _ _⟩
  clear hG
  by_cases hs : 300 < s.length
  · have k1 : (300 : Int) < (s.length : Int) := by omega
    go_enter Tryz.func6, Tryz.ntmps6
    go_wp2_with fail
    refine (works_any _ (FInv.good HI)).mono ?_
    rintro e w2 ⟨rfl, b⟩
    have HI := FInv.call HI b
    clear b
    go_wp2_with fail
    go_ret
    exact ⟨rfl, HI.out.2⟩
  by_cases ht : 300 < t.length
  · have k1 : ¬ (300 : Int) < (s.length : Int) := by omega
    have k2 : (300 : Int) < (t.length : Int) := by omega
    go_enter Tryz.func6, Tryz.ntmps6
    go_wp2_with fail
    refine (works_any _ (FInv.good HI)).mono ?_
    rintro e w2 ⟨rfl, b⟩
    have HI := FInv.call HI b
    clear b
    go_wp2_with fail
    go_ret
    exact ⟨rfl, HI.out.2⟩
  have k1 : ¬ (300 : Int) < (s.length : Int) := by omega
  have k2 : ¬ (300 : Int) < (t.length : Int) := by omega
  have hql := Cmd.quote_len s
  have hqt := Cmd.quote_len t
  have HP : Hid (plainB (Cmd.quote s) = true) := Lib.hid (decide_eq_true (Cmd.quote_plain s))
  have HU : Hid (unqS (Cmd.quote s) = s ∧ unqE (Cmd.quote s) = 0) := Lib.hid (unq_yes rfl)
  have HQ : Hid (∀ W, Calls Tryz.prog 24 #[.string ⟨s.toArray⟩] W fun e w' => e = .returned (.string ⟨(Cmd.quote s).toArray⟩) ∧ Below W.heap.size W w') := Lib.hid fun W => quote_any s (by omega) W
  have HQt : Hid (∀ W, Calls Tryz.prog 24 #[.string ⟨t.toArray⟩] W fun e w' => e = .returned (.string ⟨(Cmd.quote t).toArray⟩) ∧ Below W.heap.size W w') := Lib.hid fun W => quote_any t (by omega) W
  have HQst : Hid (∀ W, Calls Tryz.prog 24 #[.string (⟨s.toArray⟩ ++ ⟨t.toArray⟩)] W fun e w' => e = .returned (.string (⟨(Cmd.quote s).toArray⟩ ++ ⟨(Cmd.quote t).toArray⟩)) ∧ Below W.heap.size W w') := Lib.hid fun W => by
    have := quote_any (s ++ t) (by rw [List.length_append]; omega) W
    rw [Cmd.quote_append, ← ByteArray.mk_append_mk, ← ByteArray.mk_append_mk] at this
    exact this
  have HUq : Hid (∀ W, Good W → Calls Tryz.prog 22 #[.string ⟨(Cmd.quote s).toArray⟩] W fun e w' => e = .returned (.tuple #[.string ⟨s.toArray⟩, .int .i64 0]) ∧ Below W.heap.size W w') := Lib.hid fun W hG => by
    have := unquote_any (Cmd.quote s) (by omega) W hG
    rwa [HU.out.1, HU.out.2] at this
  have HPl : Hid (∀ W, Calls Tryz.prog 26 #[.string ⟨(Cmd.quote s).toArray⟩] W fun e w' => e = .returned (.bool true) ∧ W = w') := Lib.hid fun W => by
    have := lplain_any (Cmd.quote s) W (by omega)
    rwa [HP.out] at this
  have HUs : Hid (∃ U E, (∀ W, Good W → Calls Tryz.prog 22 #[.string ⟨s.toArray⟩] W fun e w' => e = .returned (.tuple #[.string ⟨U.toArray⟩, .int .i64 E]) ∧ Below W.heap.size W w') ∧ (E = 0 ∧ (∀ W, Calls Tryz.prog 24 #[.string ⟨U.toArray⟩] W fun e w' => e = .returned (.string ⟨s.toArray⟩) ∧ Below W.heap.size W w') ∨ E = 7 ∧ U = [])) := Lib.hid (by
    refine ⟨unqS s, unqE s, fun W hG => unquote_any s (by omega) W hG, ?_⟩
    cases hu : Cmd.unq s with
    | none => exact .inr ⟨(unq_no hu).2, (unq_no hu).1⟩
    | some u =>
      have h1 := Cmd.unq_iff.1 hu
      have h2 := unq_yes h1
      have h3 := (Cmd.quote_len u).1
      rw [h1] at h3
      refine .inl ⟨h2.2, fun W => ?_⟩
      have := quote_any u (by omega) W
      rw [h2.1]
      rwa [h1] at this)
  have hinj : s ≠ t → Cmd.quote s ≠ Cmd.quote t := fun h e => h (Cmd.quote_inj e)
  have heq : s = t → Cmd.quote s = Cmd.quote t := fun h => by rw [h]
  clear HP HU
  generalize Cmd.quote s = X at *
  generalize Cmd.quote t = Y at *
  have hst : ¬ 9223372036854775807 < s.length + t.length := by omega
  have hqst : ¬ 9223372036854775807 < X.length + Y.length := by omega
  have h4 : ¬ (4 * (s.length : Int)) < (X.length : Int) := by omega
  have h3 : ¬ (X.length : Int) < (s.length : Int) := by omega
  have hcmp : ∃ b, (s == t) = b ∧ (X == Y) = b := by
    by_cases e : s = t
    · exact ⟨true, by simpa using e, by simpa using heq e⟩
    · exact ⟨false, by simpa using e, by simpa using hinj e⟩
  obtain ⟨B, q1, q2⟩ := hcmp
  obtain ⟨U, E, hU, hE⟩ := HUs.out
  have HUU := Lib.hid hU
  have HEE := Lib.hid hE
  clear hU hE HUs hinj heq
  go_enter Tryz.func6, Tryz.ntmps6
  go_wp2_with fail
  refine (HQ.out _).mono ?_
  rintro e w2 ⟨rfl, b⟩
  have HI := FInv.call HI b
  clear b
  go_wp2_with fail
  refine (HQt.out _).mono ?_
  rintro e w3 ⟨rfl, b⟩
  have HI := FInv.call HI b
  clear b
  go_wp2_with fail
  refine (HUq.out _ (FInv.good HI)).mono ?_
  rintro e w4 ⟨rfl, b⟩
  have HI := FInv.call HI b
  clear b
  go_wp2_with fail
  refine (HUU.out _ (FInv.good HI)).mono ?_
  rintro e w5 ⟨rfl, b⟩
  have HI := FInv.call HI b
  clear b
  go_wp2_with fail
  refine (HQst.out _).mono ?_
  rintro e w6 ⟨rfl, b⟩
  have HI := FInv.call HI b
  clear b
  go_wp2_with fail
  refine (HPl.out _).mono ?_
  rintro e w7 ⟨rfl, rfl⟩
  rcases HEE.out with ⟨rfl, hq⟩ | ⟨rfl, rfl⟩
  · have HQU := Lib.hid hq
    clear hq
    go_wp2_with fail
    refine (HQU.out _).mono ?_
    rintro e w8 ⟨rfl, b⟩
    have HI := FInv.call HI b
    clear b
    go_wp2_with fail
    refine (works_any _ (FInv.good HI)).mono ?_
    rintro e w9 ⟨rfl, b⟩
    have HI := FInv.call HI b
    clear b
    go_wp2_with fail
    go_ret
    exact ⟨rfl, HI.out.2⟩
  · go_wp2_with fail
    refine (works_any _ (FInv.good HI)).mono ?_
    rintro e w9 ⟨rfl, b⟩
    have HI := FInv.call HI b
    clear b
    go_wp2_with fail
    go_ret
    exact ⟨rfl, HI.out.2⟩
end Go.Proofs.YtphpgbbjbncfoaaGreatDoor

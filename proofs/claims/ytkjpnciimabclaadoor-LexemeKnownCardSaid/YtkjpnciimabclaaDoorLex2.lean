/-
  LAYER 4: how many bytes at the beginning are of a kind; white space and comments, in the program and in the reference.
-/
import Derived.Test.YtkjpnciimabclaaDoorLex1
import Derived.Test.YtkjpnciimabclaaDoorLexA
namespace Go.Proofs.YtkjpnciimabclaaDoor
open Go.ChangeShapes Go.WideShapes Go.ChangeAt Go.RowKit

theorem take_more {l : List UInt8} {p : UInt8 → Bool} {k : Nat} {c : UInt8} (h : ∀ x ∈ l.take k, p x = true) (hc : l[k]? = some c) : (p c = true → ∀ x ∈ l.take (k + 1), p x = true) ∧ (p c = false → (l.takeWhile p).length = k) := by
  constructor
  · intro hp x hx
    obtain ⟨hk, rfl⟩ := List.getElem?_eq_some_iff.1 hc
    rw [List.take_succ_eq_append_getElem hk] at hx
    rcases List.mem_append.1 hx with hx | hx
    · exact h x hx
    · rw [List.mem_singleton.1 hx]; exact hp
  · intro hp
    obtain ⟨hk, e⟩ := List.getElem?_eq_some_iff.1 hc
    have hs : l = l.take k ++ l.drop k := (List.take_append_drop k l).symm
    rw [hs, List.takeWhile_append_of_pos h, List.length_append, List.length_take, Nat.min_eq_left (by omega)]
    rw [List.drop_eq_getElem_cons hk, e, List.takeWhile_cons_of_neg (by rw [hp]; simp)]
    simp
theorem take_all {l : List UInt8} {p : UInt8 → Bool} (h : ∀ x ∈ l, p x = true) : (l.takeWhile p).length = l.length := by
  rw [show l.takeWhile p = l from by rw [← List.append_nil l, List.takeWhile_append_of_pos h]; simp]

theorem while_word (l : List UInt8) (hl : l.length ≤ 1000000) (w : World) :
    Calls Tryd.prog 34 #[.string ⟨l.toArray⟩, .func (.func 35) #[] #[]] w fun e w' => e = .returned (.int .i64 (l.takeWhile Lex.word).length) ∧ w' = w := by
  go_enter Tryd.func34, Tryd.ntmps34
  go_wp2_with fail
  go_loopw [5] (fun i wr => ∃ k : Nat, k ≤ l.length ∧ i = .int .i64 k ∧ wr = w ∧ Hid (∀ x ∈ l.take k, Lex.word x = true)) (fun i _ => l.length - (intOf i).toNat)
  case atStart => exact ⟨0, Nat.zero_le _, rfl, rfl, Lib.hid (by simp)⟩
  case round =>
    obtain ⟨k, hk, rfl, rfl, HW⟩ := hrel
    by_cases hlt : k < l.length
    · obtain ⟨c, hc⟩ : ∃ c, l[k]? = some c := ⟨_, List.getElem?_eq_getElem hlt⟩
      have hx : ∀ h, ((⟨l.toArray⟩ : ByteArray)[k]'h) = c := fun h => (List.getElem?_eq_some_iff.1 hc).2
      have hT := Lib.hid (take_more HW.out hc)
      clear hc
      go_wp2_with fail
      refine (inWord_any c _).mono ?_
      rintro e w1 ⟨rfl, rfl⟩
      cases hd : Lex.word c with
      | true =>
        have hn := Lib.hid (hT.out.1 hd)
        clear hd
        go_wp2_with fail
        exact ⟨⟨k + 1, hlt, by go_num, by trivial, hn⟩, by simp [intOf]; omega⟩
      | false =>
        have hn := hT.out.2 hd
        clear hd hT HW
        go_wp2_with fail
        go_ret
        exact ⟨by rw [hn]; rfl, rfl⟩
    · obtain rfl : k = l.length := by omega
      go_wp2_with fail
      go_ret
      rw [List.take_length] at HW
      exact ⟨by rw [take_all HW.out]; rfl, rfl⟩

theorem while_dig (l : List UInt8) (hl : l.length ≤ 1000000) (w : World) :
    Calls Tryd.prog 34 #[.string ⟨l.toArray⟩, .func (.func 36) #[] #[]] w fun e w' => e = .returned (.int .i64 (l.takeWhile Lex.dig).length) ∧ w' = w := by
  go_enter Tryd.func34, Tryd.ntmps34
  go_wp2_with fail
  go_loopw [5] (fun i wr => ∃ k : Nat, k ≤ l.length ∧ i = .int .i64 k ∧ wr = w ∧ Hid (∀ x ∈ l.take k, Lex.dig x = true)) (fun i _ => l.length - (intOf i).toNat)
  case atStart => exact ⟨0, Nat.zero_le _, rfl, rfl, Lib.hid (by simp)⟩
  case round =>
    obtain ⟨k, hk, rfl, rfl, HW⟩ := hrel
    by_cases hlt : k < l.length
    · obtain ⟨c, hc⟩ : ∃ c, l[k]? = some c := ⟨_, List.getElem?_eq_getElem hlt⟩
      have hx : ∀ h, ((⟨l.toArray⟩ : ByteArray)[k]'h) = c := fun h => (List.getElem?_eq_some_iff.1 hc).2
      have hT := Lib.hid (take_more HW.out hc)
      clear hc
      go_wp2_with fail
      refine (digit_any c _).mono ?_
      rintro e w1 ⟨rfl, rfl⟩
      cases hd : Lex.dig c with
      | true =>
        have hn := Lib.hid (hT.out.1 hd)
        clear hd
        go_wp2_with fail
        exact ⟨⟨k + 1, hlt, by go_num, by trivial, hn⟩, by simp [intOf]; omega⟩
      | false =>
        have hn := hT.out.2 hd
        clear hd hT HW
        go_wp2_with fail
        go_ret
        exact ⟨by rw [hn]; rfl, rfl⟩
    · obtain rfl : k = l.length := by omega
      go_wp2_with fail
      go_ret
      rw [List.take_length] at HW
      exact ⟨by rw [take_all HW.out]; rfl, rfl⟩

theorem extract_end {l : List UInt8} {k : Nat} : (⟨l.toArray⟩ : ByteArray).extract k l.length = ⟨(l.drop k).toArray⟩ := by
  rw [mk_extract, List.take_of_length_le (by simp)]

/-- lexeme.skip. -/
theorem skip_any (l : List UInt8) (hl : l.length ≤ 1000000) (w : World) :
    Calls Tryd.prog 23 #[.string ⟨l.toArray⟩] w fun e w' => e = .returned (.int .i64 (Lex.skip l)) ∧ w' = w := by
  go_enter Tryd.func23, Tryd.ntmps23
  go_wp2_with fail
  go_step3
  go_wp2_with fail
  go_step3
  go_wp2_with fail
  go_loopw [3] (fun i wr => ∃ k : Nat, k ≤ l.length ∧ i = .int .i64 k ∧ wr = w ∧ Hid (Lex.rest false (l.drop k) = Lex.rest false l)) (fun i _ => l.length - (intOf i).toNat)
  case atStart => exact ⟨0, Nat.zero_le _, rfl, rfl, Lib.hid rfl⟩
  case round =>
    obtain ⟨k, hk, rfl, rfl, HW⟩ := hrel
    by_cases hlt : k < l.length
    · obtain ⟨c, hc⟩ : ∃ c, l[k]? = some c := ⟨_, List.getElem?_eq_getElem hlt⟩
      have hx : ∀ h, ((⟨l.toArray⟩ : ByteArray)[k]'h) = c := fun h => (List.getElem?_eq_some_iff.1 hc).2
      have HD := Lib.hid (Lex.drop_cons hc)
      have HC := Lib.hid hc
      have hcut := @extract_end l k
      clear hc
      cases hw : Lex.white c with
      | true =>
        have hw' : c.toNat = 32 ∨ c.toNat = 9 ∨ c.toNat = 13 ∨ c.toNat = 10 := by simpa [Lex.white] using hw
        have hn : Lex.rest false (l.drop (k + 1)) = Lex.rest false l := by rw [← HW.out, HD.out, Lex.rest_white hw]
        have HN := Lib.hid hn
        have hw2 : (c.toNat : Int) = 32 ∨ (c.toNat : Int) = 9 ∨ (c.toNat : Int) = 13 ∨ (c.toNat : Int) = 10 := by omega
        clear hw hn hw'
        rcases hw2 with hv | hv | hv | hv
        all_goals
          go_wp2_with fail
          exact ⟨⟨k + 1, hlt, by go_num, by trivial, HN⟩, by simp [intOf]; omega⟩
      | false =>
        have hB : ¬ (c.toNat = 32 ∨ c.toNat = 9 ∨ c.toNat = 13 ∨ c.toNat = 10) := by simpa [Lex.white] using hw
        have hB1 : ((c.toNat : Int) == 32) = false := by simp; omega
        have hB2 : ((c.toNat : Int) == 9) = false := by simp; omega
        have hB3 : ((c.toNat : Int) == 13) = false := by simp; omega
        have hB4 : ((c.toNat : Int) == 10) = false := by simp; omega
        have HWh := Lib.hid hw
        clear hw
        go_wp2_with fail
        refine (Tryd.strings_HasPrefix _ _ _).mono ?_
        rintro e w1 ⟨rfl, rfl⟩
        cases hp : Lib.hasPrefix (l.drop k) [47, 47] with
        | true =>
          obtain ⟨r, hr⟩ := Lex.prefix_two.1 hp
          have hk2 : k + 2 ≤ l.length := by
            have := congrArg List.length hr
            simp at this
            omega
          have e1 : Lex.rest false l = Lex.rest true (l.drop k) := by rw [← HW.out, hr, Lex.rest_note]
          have E1 := Lib.hid e1
          have HR := Lib.hid hr
          clear e1 hr
          go_wp2_with fail
          refine (Tryd.strings_IndexByte _ _ _).mono ?_
          rintro e w2 ⟨rfl, rfl⟩
          have hg := Lib.indexByte_ge (l.drop k) 10
          by_cases hi : Lib.indexByte (l.drop k) 10 = -1
          · have hn : Lex.skip l = l.length := by
              unfold Lex.skip
              rw [E1.out, Lex.rest_end hi]
              rfl
            have HN := Lib.hid hn
            clear hn
            go_wp2_with fail
            rw [Exit.noGoto_ret]
            go_ret
            exact ⟨by rw [HN.out]; rfl, rfl⟩
          · obtain ⟨o, ho⟩ : ∃ o : Nat, Lib.indexByte (l.drop k) 10 = o := ⟨(Lib.indexByte (l.drop k) 10).toNat, by omega⟩
            have h1 := (Lib.indexByte_some ho).1
            have h2 : k + o < l.length := by
              have := (List.getElem?_eq_some_iff.1 h1).1
              simp at this
              omega
            have h3 : 0 < o := by
              rcases Nat.eq_zero_or_pos o with rfl | h
              · rw [HR.out] at h1
                simp at h1
              · exact h
            have hn : Lex.rest false (l.drop (k + o)) = Lex.rest false l := by rw [E1.out, Lex.rest_to ho, List.drop_drop]
            have HN := Lib.hid hn
            clear hn h1 hg hi
            go_wp2_with fail
            exact ⟨⟨k + o, by omega, by go_num, by trivial, HN⟩, by simp [intOf]; omega⟩
        | false =>
          have hn := Lex.skip_at HW.out hk (by
            rw [HD.out]
            refine Lex.rest_here HWh.out ?_
            rintro ⟨rfl, h2⟩
            have := HD.out
            cases hr : l.drop (k + 1) with
            | nil => rw [hr] at h2; cases h2
            | cons d r =>
              rw [hr] at h2
              obtain rfl : d = 47 := by simpa using h2
              have h3 := Lex.prefix_two.2 ⟨r, HD.out.trans (by rw [hr])⟩
              rw [h3] at hp
              cases hp)
          have HN := Lib.hid hn
          clear hn
          go_wp2_with fail
          rw [Exit.noGoto_ret]
          go_ret
          exact ⟨by rw [HN.out]; rfl, rfl⟩
    · obtain rfl : k = l.length := by omega
      have hn := Lex.skip_at HW.out hk (by rw [List.drop_length]; rfl)
      go_wp2_with fail
      first | rw [Exit.noGoto_ret] | skip
      go_ret
      exact ⟨by rw [hn]; rfl, rfl⟩
end Go.Proofs.YtkjpnciimabclaaDoor

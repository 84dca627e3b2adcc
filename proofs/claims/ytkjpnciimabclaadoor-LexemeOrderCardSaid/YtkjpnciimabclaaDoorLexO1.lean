/-
  LAYER 4, THE LAWS' HELPERS: a string is white space and comments alone.
-/
import Derived.Test.YtkjpnciimabclaaDoorLex2
import Derived.Test.YtkjpnciimabclaaDoorLexC
namespace Go.Proofs.YtkjpnciimabclaaDoor
open Go.ChangeShapes Go.WideShapes Go.ChangeAt Go.RowKit

theorem rest_ten (b : Bool) (r : List UInt8) : Lex.rest b (10 :: r) = Lex.rest false r := by
  cases b with
  | true => rw [Lex.rest_line, Lex.rest_white (by decide)]
  | false => exact Lex.rest_white (by decide)

set_option maxHeartbeats 1000000 in
theorem blank_any (l : List UInt8) (hl : l.length ≤ 1000000) (w : World) :
    Calls Tryd.prog 12 #[.string ⟨l.toArray⟩] w fun e w' => e = .returned (.bool (Lex.blank false l)) ∧ w' = w := by
  obtain ⟨D, hD⟩ : ∃ D, Lex.blank false l = D := ⟨_, rfl⟩
  rw [hD]
  have HD := Lib.hid hD
  clear hD
  go_enter Tryd.func12, Tryd.ntmps12
  go_wp2_with fail
  go_loopw [3, 4] (fun n i wr => ∃ (b : Bool) (k : Nat), k ≤ l.length ∧ n = .bool b ∧ i = .int .i64 k ∧ wr = w ∧ Hid (Lex.blank b (l.drop k) = D)) (fun _ i _ => l.length - (intOf i).toNat)
  case atStart => exact ⟨false, 0, Nat.zero_le _, rfl, rfl, rfl, HD⟩
  case round =>
    obtain ⟨b, k, hk, rfl, rfl, rfl, HB⟩ := hrel
    by_cases hlt : k < l.length
    · obtain ⟨c, hc⟩ : ∃ c, l[k]? = some c := ⟨_, List.getElem?_eq_getElem hlt⟩
      have hx : ∀ h, ((⟨l.toArray⟩ : ByteArray)[k]'h) = c := fun h => (List.getElem?_eq_some_iff.1 hc).2
      have HX := Lib.hid (Lex.drop_cons hc)
      rw [HX.out] at HB
      clear hc
      by_cases h10 : c = 10
      · subst h10
        have HN : Hid (Lex.blank false (l.drop (k + 1)) = D) := Lib.hid (by rw [← HB.out]; unfold Lex.blank; rw [rest_ten])
        have hv : ((10 : UInt8).toNat : Int) = 10 := rfl
        go_wp2_with fail
        exact ⟨⟨false, k + 1, hlt, rfl, by go_num, by trivial, HN⟩, by simp [intOf]; omega⟩
      · have hv10 : ((c.toNat : Int) == 10) = false := by
          rw [beq_eq_false_iff_ne]
          intro h
          exact h10 (UInt8.toNat_inj.1 (by show c.toNat = 10; omega))
        cases b with
        | true =>
          have HN : Hid (Lex.blank true (l.drop (k + 1)) = D) := Lib.hid (by rw [← HB.out]; unfold Lex.blank; rw [Lex.rest_skip h10])
          clear h10
          go_wp2_with fail
          exact ⟨⟨true, k + 1, hlt, rfl, by go_num, by trivial, HN⟩, by simp [intOf]; omega⟩
        | false =>
          by_cases hw : Lex.white c = true
          · have HN : Hid (Lex.blank false (l.drop (k + 1)) = D) := Lib.hid (by rw [← HB.out]; unfold Lex.blank; rw [Lex.rest_white hw])
            have hw' : c.toNat = 32 ∨ c.toNat = 9 ∨ c.toNat = 13 ∨ c.toNat = 10 := by simpa [Lex.white] using hw
            have hw2 : (c.toNat : Int) = 32 ∨ (c.toNat : Int) = 9 ∨ (c.toNat : Int) = 13 := by
              rcases hw' with h | h | h | h
              · omega
              · omega
              · omega
              · exact absurd (UInt8.toNat_inj.1 h) h10
            clear h10 hw hw' hv10
            rcases hw2 with hv | hv | hv
            all_goals
              go_wp2_with fail
              exact ⟨⟨false, k + 1, hlt, rfl, by go_num, by trivial, HN⟩, by simp [intOf]; omega⟩
          · have hB : ¬ (c.toNat = 32 ∨ c.toNat = 9 ∨ c.toNat = 13 ∨ c.toNat = 10) := by simpa [Lex.white] using hw
            have hB1 : ((c.toNat : Int) == 32) = false := by simp; omega
            have hB2 : ((c.toNat : Int) == 9) = false := by simp; omega
            have hB3 : ((c.toNat : Int) == 13) = false := by simp; omega
            clear hB h10
            have stop : ¬ (c = 47 ∧ (l.drop (k + 1)).head? = some 47) → Hid (D = false) := fun h => Lib.hid (by
              rw [← HB.out]
              unfold Lex.blank
              rw [Lex.rest_here (by simpa using hw) h]
              rfl)
            have STOP := Lib.hid stop
            clear stop hw
            by_cases hc47 : c = 47
            · subst hc47
              have hv : ((47 : UInt8).toNat : Int) = 47 := rfl
              by_cases hk2 : k + 1 < l.length
              · obtain ⟨d, hd⟩ : ∃ d, l[k + 1]? = some d := ⟨_, List.getElem?_eq_getElem hk2⟩
                have hx2 : ∀ h, ((⟨l.toArray⟩ : ByteArray)[k + 1]'h) = d := fun h => (List.getElem?_eq_some_iff.1 hd).2
                by_cases hd47 : d = 47
                · have HN : Hid (Lex.blank true (l.drop (k + 1)) = D) := Lib.hid (by
                    rw [← HB.out, Lex.drop_cons hd, hd47]
                    unfold Lex.blank
                    rw [Lex.rest_note, Lex.rest_skip (by decide), Lex.rest_skip (by decide)]
                    rw [Lex.rest_skip (by decide)])
                  have hv2 : (d.toNat : Int) = 47 := by rw [hd47]; rfl
                  clear hd hd47 STOP
                  go_wp2_with fail
                  exact ⟨⟨true, k + 1, hlt, rfl, by go_num, by trivial, HN⟩, by simp [intOf]; omega⟩
                · have HS := STOP.out (by
                    rintro ⟨_, h⟩
                    rw [List.head?_drop, hd] at h
                    cases h
                    exact hd47 rfl)
                  have hv2 : ((d.toNat : Int) == 47) = false := by
                    rw [beq_eq_false_iff_ne]
                    intro h
                    exact hd47 (UInt8.toNat_inj.1 (by show d.toNat = 47; omega))
                  clear hd hd47 STOP
                  go_wp2_with fail
                  go_ret
                  exact ⟨by rw [HS.out]; rfl, rfl⟩
              · have HS := STOP.out (by
                  rintro ⟨_, h⟩
                  rw [List.drop_eq_nil_of_le (by omega)] at h
                  cases h)
                clear STOP
                go_wp2_with fail
                go_ret
                exact ⟨by rw [HS.out]; rfl, rfl⟩
            · have HS := STOP.out (fun h => hc47 h.1)
              have hv : ((c.toNat : Int) == 47) = false := by
                rw [beq_eq_false_iff_ne]
                intro h
                exact hc47 (UInt8.toNat_inj.1 (by show c.toNat = 47; omega))
              have n1 : ((c.toNat : Int) != 32) = true := by simpa using hB1
              have n2 : ((c.toNat : Int) != 9) = true := by simpa using hB2
              have n3 : ((c.toNat : Int) != 13) = true := by simpa using hB3
              clear STOP hc47
              go_wp2_with fail
              go_ret
              exact ⟨by rw [HS.out]; rfl, rfl⟩
    · obtain rfl : k = l.length := by omega
      have HS : Hid (D = true) := Lib.hid (by
        rw [← HB.out, List.drop_length]
        cases b <;> rfl)
      go_wp2_with fail
      go_ret
      exact ⟨by rw [HS.out]; rfl, rfl⟩
end Go.Proofs.YtkjpnciimabclaaDoor

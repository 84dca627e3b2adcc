/-
  LAYER 4, THE REFERENCE: white space and comments; numbers that are too great; keywords and signs.
-/
import Derived.Test.YtkjpnciimabclaaDoorLex3
import Derived.Test.YtkjpnciimabclaaDoorLexB
namespace Go.Proofs.YtkjpnciimabclaaDoor
open Go.ChangeShapes Go.WideShapes Go.ChangeAt Go.RowKit

theorem skip_from {l : List UInt8} {a k : Nat} (ha : a ≤ k) (hk : k ≤ l.length) (h : Lex.rest false (l.drop k) = Lex.rest false (l.drop a)) (he : Lex.rest false (l.drop k) = l.drop k) : k = a + Lex.skip (l.drop a) := by
  have := Lex.skip_at (l := l.drop a) (k := k - a) (by rw [List.drop_drop, show a + (k - a) = k by omega]; exact h) (by rw [List.length_drop]; omega) (by rw [List.drop_drop, show a + (k - a) = k by omega]; exact he)
  omega

set_option maxHeartbeats 1000000 in
/-- rewindref04.skip. -/
theorem rskip_any (l : List UInt8) (hl : l.length ≤ 1000000) (a : Nat) (ha : a ≤ l.length) (w : World) :
    Calls Tryd.prog 25 #[.string ⟨l.toArray⟩, .int .i64 a] w fun e w' => e = .returned (.int .i64 (a + Lex.skip (l.drop a) : Nat)) ∧ w' = w := by
  obtain ⟨R, hR⟩ : ∃ R, a + Lex.skip (l.drop a) = R := ⟨_, rfl⟩
  rw [hR]
  have HR := Lib.hid hR
  clear hR
  go_enter Tryd.func25, Tryd.ntmps25
  go_wp2_with fail
  go_loopw [1] (fun i wr => ∃ k : Nat, k ≤ l.length ∧ i = .int .i64 k ∧ wr = w ∧ Hid (a ≤ k ∧ Lex.rest false (l.drop k) = Lex.rest false (l.drop a))) (fun i _ => l.length - (intOf i).toNat)
  case atStart => exact ⟨a, ha, rfl, rfl, Lib.hid ⟨Nat.le_refl _, rfl⟩⟩
  case round =>
    obtain ⟨k, hk, rfl, rfl, HW⟩ := hrel
    by_cases hlt : k < l.length
    · obtain ⟨c, hc⟩ : ∃ c, l[k]? = some c := ⟨_, List.getElem?_eq_getElem hlt⟩
      have hx : ∀ h, ((⟨l.toArray⟩ : ByteArray)[k]'h) = c := fun h => (List.getElem?_eq_some_iff.1 hc).2
      have HD := Lib.hid (Lex.drop_cons hc)
      clear hc
      cases hw : Lex.white c with
      | true =>
        have hw' : c.toNat = 32 ∨ c.toNat = 9 ∨ c.toNat = 13 ∨ c.toNat = 10 := by simpa [Lex.white] using hw
        have HN : Hid (a ≤ k + 1 ∧ Lex.rest false (l.drop (k + 1)) = Lex.rest false (l.drop a)) := Lib.hid ⟨by have := HW.out.1; omega, by rw [← HW.out.2, HD.out, Lex.rest_white hw]⟩
        have hw2 : (c.toNat : Int) = 32 ∨ (c.toNat : Int) = 9 ∨ (c.toNat : Int) = 13 ∨ (c.toNat : Int) = 10 := by omega
        clear hw hw'
        rcases hw2 with hv | hv | hv | hv
        all_goals
          go_wp2_with fail
          exact ⟨⟨k + 1, hlt, by go_num, by trivial, HN⟩, by simp [intOf]; omega⟩
      | false =>
        have hB : ¬ (c.toNat = 32 ∨ c.toNat = 9 ∨ c.toNat = 13 ∨ c.toNat = 10) := by simpa [Lex.white] using hw
        have hB1 : ((c.toNat : Int) == 32) = false := by simp; omega
        have hB2 : ((c.toNat : Int) == 9) = false := by simp; omega
        have hB3 : ((c.toNat : Int) == 13) = false := by simp; omega
        have hB4 : ((c.toNat : Int) == 10) = false := by simp; omega
        have HWh := Lib.hid hw
        clear hw
        by_cases h47 : c = 47 ∧ (l.drop (k + 1)).head? = some 47
        · obtain ⟨rfl, h2⟩ := h47
          have hk2 : k + 1 < l.length := by
            rcases Nat.lt_or_ge (k + 1) l.length with h | h
            · exact h
            · rw [List.drop_eq_nil_of_le h] at h2
              cases h2
          have hx2 : ∀ h, ((⟨l.toArray⟩ : ByteArray)[k + 1]'h) = 47 := fun h => by
            rw [List.head?_drop] at h2
            exact (List.getElem?_eq_some_iff.1 h2).2
          have HT : Hid (a ≤ k ∧ Lex.rest true (l.drop k) = Lex.rest false (l.drop a)) := Lib.hid ⟨HW.out.1, by
            rw [← HW.out.2, HD.out]
            cases hr : l.drop (k + 1) with
            | nil => rw [hr] at h2; cases h2
            | cons d r =>
              rw [hr] at h2
              obtain rfl : d = 47 := by simpa using h2
              rw [Lex.rest_note]⟩
          clear h2 hB hB1 hB2 hB3 hB4 HWh
          go_wp2_with fail
          go_loopw [1] (fun i wr' => ∃ j : Nat, k ≤ j ∧ j ≤ l.length ∧ i = .int .i64 j ∧ wr' = wr ∧ Hid (j = k ∨ k < j) ∧ Hid (a ≤ j ∧ Lex.rest true (l.drop j) = Lex.rest false (l.drop a))) (fun i _ => l.length - (intOf i).toNat)
          case atStart => exact ⟨k, Nat.le_refl _, hk, rfl, rfl, Lib.hid (.inl rfl), HT⟩
          case round =>
            obtain ⟨j, hkj, hj, rfl, rfl, HJ, HT⟩ := hrel
            by_cases hlt2 : j < l.length
            · obtain ⟨c, hc⟩ : ∃ c, l[j]? = some c := ⟨_, List.getElem?_eq_getElem hlt2⟩
              have hy : ∀ h, ((⟨l.toArray⟩ : ByteArray)[j]'h) = c := fun h => (List.getElem?_eq_some_iff.1 hc).2
              have HE := Lib.hid (Lex.drop_cons hc)
              by_cases h10 : c = 10
              · have hv : (c.toNat : Int) = 10 := by rw [h10]; rfl
                have HF : Hid (a ≤ j ∧ k < j ∧ Lex.rest false (l.drop j) = Lex.rest false (l.drop a)) := Lib.hid ⟨HT.out.1, by
                  rcases HJ.out with rfl | h
                  · have := hx hlt
                    have h3 := hy hlt
                    rw [this, h10] at h3
                    cases h3
                  · exact h, by rw [← HT.out.2, HE.out, h10, Lex.rest_line]⟩
                clear hc h10
                go_wp2_with fail
                exact ⟨⟨j, hj, rfl, by trivial, Lib.hid ⟨HF.out.1, HF.out.2.2⟩⟩, by have := HF.out.2.1; simp [intOf]; omega⟩
              · have hv : ((c.toNat : Int) == 10) = false := by
                  rw [beq_eq_false_iff_ne]
                  intro h
                  exact h10 (UInt8.toNat_inj.1 (by show c.toNat = 10; omega))
                have HF : Hid (a ≤ j + 1 ∧ Lex.rest true (l.drop (j + 1)) = Lex.rest false (l.drop a)) := Lib.hid ⟨by have := HT.out.1; omega, by rw [← HT.out.2, HE.out, Lex.rest_skip h10]⟩
                clear hc h10
                go_wp2_with fail
                exact ⟨⟨j + 1, by omega, hlt2, by go_num, by trivial, Lib.hid (.inr (by omega)), HF⟩, by simp [intOf]; omega⟩
            · obtain rfl : j = l.length := by omega
              have HF : Hid (a ≤ l.length ∧ Lex.rest false (l.drop l.length) = Lex.rest false (l.drop a)) := Lib.hid ⟨HT.out.1, by rw [← HT.out.2, List.drop_length]; rfl⟩
              go_wp2_with fail
              exact ⟨⟨l.length, hj, rfl, by trivial, HF⟩, by simp [intOf]; omega⟩
        · have HN := Lib.hid ((skip_from HW.out.1 hk HW.out.2 (by rw [HD.out]; exact Lex.rest_here HWh.out h47)).trans HR.out)
          by_cases hc47 : c = 47
          · subst hc47
            by_cases hk2 : k + 1 < l.length
            · obtain ⟨d, hd⟩ : ∃ d, l[k + 1]? = some d := ⟨_, List.getElem?_eq_getElem hk2⟩
              have hx2 : ∀ h, ((⟨l.toArray⟩ : ByteArray)[k + 1]'h) = d := fun h => (List.getElem?_eq_some_iff.1 hd).2
              have hv : ((d.toNat : Int) == 47) = false := by
                rw [beq_eq_false_iff_ne]
                intro h
                refine h47 ⟨rfl, ?_⟩
                rw [List.head?_drop, hd, show d = 47 from UInt8.toNat_inj.1 (by show d.toNat = 47; omega)]
              clear h47 hd
              go_wp2_with fail
              go_ret
              exact ⟨by rw [← HN.out]; rfl, rfl⟩
            · clear h47
              go_wp2_with fail
              go_ret
              exact ⟨by rw [← HN.out]; rfl, rfl⟩
          · have hv : ((c.toNat : Int) == 47) = false := by
              rw [beq_eq_false_iff_ne]
              intro h
              exact hc47 (UInt8.toNat_inj.1 (by show c.toNat = 47; omega))
            clear h47 hc47
            go_wp2_with fail
            go_ret
            exact ⟨by rw [← HN.out]; rfl, rfl⟩
    · obtain rfl : k = l.length := by omega
      have hn := Lib.hid ((skip_from HW.out.1 hk HW.out.2 (by rw [List.drop_length]; rfl)).trans HR.out)
      go_wp2_with fail
      go_ret
      exact ⟨by rw [← hn.out]; rfl, rfl⟩

/-- rewindref04.great. -/
theorem rgreat_any (d : List UInt8) (hd : d.length ≤ 1000000) (w : World) :
    Calls Tryd.prog 40 #[.string ⟨d.toArray⟩] w fun e w' => e = .returned (.bool (Lex.great d)) ∧ w' = w := by
  obtain ⟨b, hb⟩ : ∃ b, Lex.great d = b := ⟨_, rfl⟩
  rw [hb]
  unfold Lex.great at hb
  have H := Lib.hid hb
  clear hb
  by_cases h1 : 19 < d.length
  · go_enter Tryd.func40, Tryd.ntmps40
    go_wp2
    go_ret
    exact ⟨ret_bool (by rw [← H.out, decide_eq_true h1]; rfl), rfl⟩
  · by_cases h2 : d.length = 19
    · have e1 : ((⟨d.toArray⟩ : ByteArray).toList) = d := mk_toList d
      go_enter Tryd.func40, Tryd.ntmps40
      go_wp2
      go_ret
      exact ⟨ret_bool (by rw [← H.out, decide_eq_true h2, decide_eq_false h1]; simp [Lex.above, Lex.most]), rfl⟩
    · go_enter Tryd.func40, Tryd.ntmps40
      go_wp2
      go_ret
      exact ⟨ret_bool (by rw [← H.out, decide_eq_false h1, decide_eq_false h2]; simp; omega), rfl⟩

abbrev kwA : Array Value := (Lex.keywords.map fun s => Value.string ⟨s.toArray⟩).toArray
abbrev sgA : Array Value := (Lex.signs.map fun s => Value.string ⟨s.toArray⟩).toArray
theorem rkeywords_any (w : World) : Calls Tryd.prog 29 #[] w fun e w' => e = .returned (.slice (some ⟨w.heap.size, 0, none⟩) 15 15) ∧ w' = w.alloc (.cells kwA 9) := by
  go_enter Tryd.func29, Tryd.ntmps29
  go_wp2
  go_ret
  exact ⟨rfl, rfl⟩
theorem rsigns_any (w : World) : Calls Tryd.prog 15 #[] w fun e w' => e = .returned (.slice (some ⟨w.heap.size, 0, none⟩) 23 23) ∧ w' = w.alloc (.cells sgA 9) := by
  go_enter Tryd.func15, Tryd.ntmps15
  go_wp2
  go_ret
  exact ⟨rfl, rfl⟩
theorem kw_cell (w : World) (j : Nat) (s : List UInt8) (h : Lex.keywords[j]? = some s) : (w.alloc (.cells kwA 9)).cell? ⟨w.heap.size, j, none⟩ = some (.string ⟨s.toArray⟩) := by
  rw [(Blk.new w 9 kwA).cell j, List.getElem?_toArray, List.getElem?_map, h]
  rfl
theorem sg_cell (w : World) (j : Nat) (s : List UInt8) (h : Lex.signs[j]? = some s) : (w.alloc (.cells sgA 9)).cell? ⟨w.heap.size, j, none⟩ = some (.string ⟨s.toArray⟩) := by
  rw [(Blk.new w 9 sgA).cell j, List.getElem?_toArray, List.getElem?_map, h]
  rfl

/-- rewindref04.Reserved. -/
theorem rreserved_any (s : List UInt8) (w : World) : Calls Tryd.prog 17 #[.string ⟨s.toArray⟩] w fun e w' => e = .returned (.bool (decide (s ∈ Lex.keywords))) ∧ Below w.heap.size w w' := by
  obtain ⟨b, hb⟩ : ∃ b, decide (s ∈ Lex.keywords) = b := ⟨_, rfl⟩
  rw [hb]
  have H := Lib.hid hb
  clear hb
  go_enter Tryd.func17, Tryd.ntmps17
  go_wp2_with fail
  refine (rkeywords_any _).mono ?_
  rintro e w1 ⟨rfl, hw1⟩
  have HW1 := Lib.hid hw1
  clear hw1
  go_wp2_with fail
  go_loopw [4] (fun i wr => ∃ k : Nat, k ≤ 15 ∧ i = .int .i64 k ∧ wr = w1 ∧ Hid (∀ x ∈ Lex.keywords.take k, x ≠ s)) (fun i _ => 15 - (intOf i).toNat)
  case atStart => exact ⟨0, Nat.zero_le _, rfl, rfl, Lib.hid (by simp)⟩
  case round =>
    obtain ⟨k, hk, rfl, rfl, HN⟩ := hrel
    by_cases hlt : k < 15
    · obtain ⟨x, hx⟩ : ∃ x, Lex.keywords[k]? = some x := ⟨_, List.getElem?_eq_getElem (show k < Lex.keywords.length from hlt)⟩
      have c0 : wr.cell? ⟨w.heap.size, k, none⟩ = some (.string ⟨x.toArray⟩) := by rw [HW1.out]; exact kw_cell w k x hx
      have HX := Lib.hid hx
      clear hx
      by_cases he : x = s
      · have hq : (x == s) = true := by simpa using he
        have HB : Hid (b = true) := Lib.hid (by rw [← H.out, decide_eq_true_iff, ← he]; exact List.mem_of_getElem? HX.out)
        clear he
        go_wp2_with fail
        go_ret
        exact ⟨by rw [HB.out]; rfl, by rw [HW1.out]; exact below_new (Below.refl _ _) _⟩
      · have hq : (x == s) = false := by simpa using he
        have HN' : Hid (∀ x ∈ Lex.keywords.take (k + 1), x ≠ s) := Lib.hid (by
          intro y hy
          rw [take_snoc HX.out] at hy
          rcases List.mem_append.1 hy with hy | hy
          · exact HN.out y hy
          · rw [List.mem_singleton.1 hy]; exact he)
        clear he
        go_wp2_with fail
        exact ⟨⟨k + 1, hlt, by go_num, by trivial, HN'⟩, by simp [intOf]; omega⟩
    · obtain rfl : k = 15 := by omega
      rw [show ((15 : Nat) : Int) = 15 from rfl]
      have HB : Hid (b = false) := Lib.hid (by
        rw [← H.out, decide_eq_false_iff_not]
        intro hm
        exact HN.out s (by rw [List.take_of_length_le (by decide)]; exact hm) rfl)
      go_wp2_with fail
      go_ret
      exact ⟨by rw [HB.out]; rfl, by rw [HW1.out]; exact below_new (Below.refl _ _) _⟩
end Go.Proofs.YtkjpnciimabclaaDoor

/-
  LAYER 4, THE REFERENCE: the token at an offset, numbers.
-/
import Derived.Test.YtkjpnciimabclaaDoorLexR2
import Derived.Test.YtkjpnciimabclaaDoorLex4
import Derived.BigQuiet
import Derived.Deep.QuietTactic
namespace Go.Proofs.YtkjpnciimabclaaDoor
open Go.ChangeShapes Go.WideShapes Go.ChangeAt Go.RowKit

theorem num_end {l : List UInt8} {a m : Nat} {u : List UInt8} (hu : (l.drop a).takeWhile Lex.dig = u) (hm : m = a + u.length) (hne : u ≠ []) : Lex.numOk u ((l.drop a).drop u.length) = !(Lex.headBad (l.drop m) || Lex.zeroBad u || Lex.great u) := by
  subst hu
  have h := Lex.after_dig (l.drop a)
  rw [drop_at hm] at h ⊢
  exact Lex.numOk_ref hne (Lex.while_dig_all _) h
theorem zero_yes {u : List UInt8} {c : UInt8} (h : u.head? = some c) (h1 : 1 < u.length) (h2 : (c.toNat : Int) = 48) : Lex.zeroBad u = true := by
  obtain rfl : c = 48 := UInt8.toNat_inj.1 (by show c.toNat = 48; omega)
  simp [Lex.zeroBad, h, h1]
theorem zero_no1 {u : List UInt8} (h1 : ¬ 1 < u.length) : Lex.zeroBad u = false := by simp [Lex.zeroBad, h1]
theorem zero_no2 {u : List UInt8} {c : UInt8} (h : u.head? = some c) (h2 : ¬ (c.toNat : Int) = 48) : Lex.zeroBad u = false := by
  unfold Lex.zeroBad
  rw [h, decide_eq_false (p := some c = some 48) (by rintro ⟨⟩; exact h2 rfl), Bool.and_false]

set_option maxHeartbeats 4000000 in
set_option maxRecDepth 100000 in
theorem rtoken_digit (l : List UInt8) (a : Nat) (c : UInt8) (hx : ∀ h, ((⟨l.toArray⟩ : ByteArray)[a]'h) = c) (ha : a < l.length) (hl : l.length ≤ 1000000) (hc : Lex.letr c = false) (hc2 : Lex.dig c = true)
    (V : Value) (hV : V = tokV (if Lex.numOk ((l.drop a).takeWhile Lex.dig) ((l.drop a).drop ((l.drop a).takeWhile Lex.dig).length) = true then (2, (l.drop a).takeWhile Lex.dig) else (0, [])) a) (w : World) :
    Calls Tryd.prog 26 #[.string ⟨l.toArray⟩, .int .i64 a] w fun e w' => e = .returned V ∧ Below w.heap.size w w' := by
  have hdc : l.drop a = c :: l.drop (a + 1) := Lex.drop_cons (by rw [List.getElem?_eq_getElem ha]; exact congrArg some (hx ha))
  obtain ⟨u, hu⟩ : ∃ u, (l.drop a).takeWhile Lex.dig = u := ⟨_, rfl⟩
  have hu1 : ∃ t, u = c :: t := by rw [← hu, hdc, List.takeWhile_cons_of_pos hc2]; exact ⟨_, rfl⟩
  have HU0 : Hid (u.head? = some c) := Lib.hid (by obtain ⟨t, rfl⟩ := hu1; rfl)
  have hu0 : ∀ h, ((⟨u.toArray⟩ : ByteArray)[0]'h) = c := fun h => by obtain ⟨t, rfl⟩ := hu1; rfl
  have HNe : Hid (u ≠ []) := Lib.hid (by obtain ⟨t, rfl⟩ := hu1; exact List.cons_ne_nil _ _)
  have hul : u.length ≤ l.length := by
    rw [← hu]
    exact Nat.le_trans (List.takeWhile_prefix _).length_le (by rw [List.length_drop]; omega)
  have HU := Lib.hid hu
  rw [hu] at hV
  have HV := Lib.hid hV
  have HC := Lib.hid hc
  have HC2 := Lib.hid hc2
  clear hc hc2 hu hV hu1 hdc
  go_enter Tryd.func26, Tryd.ntmps26
  have B0 := Lib.hid (Blk.new w 31 #[.int .i64 0, .string ⟨#[]⟩, .int .i64 0])
  have K0 := Lib.hid (below_new (Below.refl w.heap.size w) (.cells #[.int .i64 0, .string ⟨#[]⟩, .int .i64 0] 31))
  go_wp2_with fail
  refine (rletter_any c _).mono ?_
  rintro e w1 ⟨rfl, rfl⟩
  rw [HC.out]
  go_wp2_with fail
  refine (rdigit_any c _).mono ?_
  rintro e w1 ⟨rfl, rfl⟩
  rw [HC2.out]
  go_wp2_with fail
  go_loopw [5] (fun i wr => ∃ m : Nat, a ≤ m ∧ m ≤ l.length ∧ i = .int .i64 m ∧ Hid (Blk wr w.heap.size 31 #[.int .i64 0, .string ⟨#[]⟩, .int .i64 0]) ∧ Hid (Below w.heap.size w wr) ∧ Hid (∀ x ∈ (l.drop a).take (m - a), Lex.dig x = true)) (fun i _ => l.length - (intOf i).toNat)
  case atStart => exact ⟨a, Nat.le_refl _, by omega, rfl, B0, K0, Lib.hid (by simp)⟩
  case round =>
    clear B0 K0
    obtain ⟨m, ham, hm, rfl, B0, K0, HW⟩ := hrel
    have done : m = a + u.length → (⟨l.toArray⟩ : ByteArray).extract a m = ⟨u.toArray⟩ := fun h => by
      rw [← HU.out] at h ⊢
      exact cut_at h
    have HDone := Lib.hid done
    clear done
    by_cases hlt : m < l.length
    · obtain ⟨d, hd⟩ : ∃ d, l[m]? = some d := ⟨_, List.getElem?_eq_getElem hlt⟩
      have hy : ∀ h, ((⟨l.toArray⟩ : ByteArray)[m]'h) = d := fun h => (List.getElem?_eq_some_iff.1 hd).2
      have HT := Lib.hid (while_at ham HW.out hd)
      have HDr := Lib.hid (Lex.drop_cons hd)
      clear hd
      go_wp2_with fail
      refine (rdigit_any d _).mono ?_
      rintro e w1 ⟨rfl, rfl⟩
      cases hw : Lex.dig d with
      | true =>
        have HN := Lib.hid (HT.out.1 hw)
        clear hw
        go_wp2_with fail
        exact ⟨⟨m + 1, by omega, hlt, by go_num, B0, K0, HN⟩, by simp [intOf]; omega⟩
      | false =>
        have HM := Lib.hid ((HT.out.2 hw).trans (by rw [HU.out]))
        have hn := num_end HU.out HM.out HNe.out
        rw [HDr.out] at hn
        have HNum := Lib.hid hn
        clear hn hw
        cases hle : Lex.letr d with
        | true =>
          have HV2 : Hid (V = .agg #[.int .i64 0, .string ⟨#[]⟩, .int .i64 0]) := Lib.hid (by rw [HV.out, HNum.out, Lex.headBad, hle, Bool.true_or, Bool.true_or, Bool.true_or]; rfl)
          have HL := Lib.hid hle
          have hcut := HDone.out HM.out
          clear hle
          go_wp2_with fail
          refine (rletter_any d _).mono ?_
          rintro e w1 ⟨rfl, rfl⟩
          rw [HL.out]
          have B1 := B0.out
          have K1 := K0
          have c0 := B1.cell 0
          have c1 := B1.cell 1
          have c2 := B1.cell 2
          have f0 := B1.frozen 0
          have f1 := B1.frozen 1
          have f2 := B1.frozen 2
          go_wp2_with fail
          obtain ⟨hg, hb⟩ := tok_done B1 K1.out (.int .i64 0) (.string ⟨#[]⟩) (.int .i64 0)
          (try simp only [Exit.inBlock, Exit.then])
          refine bodyPost_ret (results_cell_row rfl _ _ _ 31 _ (0, 0) _ rfl hg Tryd.underlying31 rfl (by kernel_rfl)) rfl ?_
          exact ⟨by rw [HV2.out], hb⟩
        | false =>
          have HL := Lib.hid hle
          clear hle
          have hcut := HDone.out HM.out
          go_wp2_with fail
          refine (rletter_any d _).mono ?_
          rintro e w1 ⟨rfl, rfl⟩
          rw [HL.out]
          by_cases h95 : (d.toNat : Int) = 95
          · have HV2 : Hid (V = .agg #[.int .i64 0, .string ⟨#[]⟩, .int .i64 0]) := Lib.hid (by rw [HV.out, HNum.out, Lex.headBad, decide_eq_true (show d.toNat = 95 by omega), Bool.or_true, Bool.true_or, Bool.true_or]; rfl)
            have B1 := B0.out
            have K1 := K0
            have c0 := B1.cell 0
            have c1 := B1.cell 1
            have c2 := B1.cell 2
            have f0 := B1.frozen 0
            have f1 := B1.frozen 1
            have f2 := B1.frozen 2
            go_wp2_with fail
            obtain ⟨hg, hb⟩ := tok_done B1 K1.out (.int .i64 0) (.string ⟨#[]⟩) (.int .i64 0)
            (try simp only [Exit.inBlock, Exit.then])
            refine bodyPost_ret (results_cell_row rfl _ _ _ 31 _ (0, 0) _ rfl hg Tryd.underlying31 rfl (by kernel_rfl)) rfl ?_
            exact ⟨by rw [HV2.out], hb⟩
          · have HV3 : Hid (V = tokV (if (!(false || Lex.zeroBad u || Lex.great u)) = true then (2, u) else (0, [])) a) := Lib.hid (by rw [HV.out, HNum.out, Lex.headBad, HL.out, decide_eq_false (show ¬ d.toNat = 95 by omega)]; rfl)
            have hv95 : ((d.toNat : Int) == 95) = false := by simpa using h95
            clear h95
            by_cases h1 : 1 < u.length
            · by_cases h48 : (c.toNat : Int) = 48
              · have HV2 : Hid (V = .agg #[.int .i64 0, .string ⟨#[]⟩, .int .i64 0]) := Lib.hid (by rw [HV3.out, zero_yes HU0.out h1 h48]; rfl)
                have B1 := B0.out
                have K1 := K0
                have c0 := B1.cell 0
                have c1 := B1.cell 1
                have c2 := B1.cell 2
                have f0 := B1.frozen 0
                have f1 := B1.frozen 1
                have f2 := B1.frozen 2
                go_wp2_with fail
                obtain ⟨hg, hb⟩ := tok_done B1 K1.out (.int .i64 0) (.string ⟨#[]⟩) (.int .i64 0)
                (try simp only [Exit.inBlock, Exit.then])
                refine bodyPost_ret (results_cell_row rfl _ _ _ 31 _ (0, 0) _ rfl hg Tryd.underlying31 rfl (by kernel_rfl)) rfl ?_
                exact ⟨by rw [HV2.out], hb⟩
              · have HZ := Lib.hid (zero_no2 HU0.out h48)
                have hv48 : ((c.toNat : Int) == 48) = false := by simpa using h48
                clear h48
                go_wp2_with fail
                refine (rgreat_any u (by omega) _).mono ?_
                rintro e w2 ⟨rfl, rfl⟩
                have B1 := B0.out
                have K1 := K0
                cases hgr : Lex.great u with
                | true =>
                  have HV2 : Hid (V = .agg #[.int .i64 0, .string ⟨#[]⟩, .int .i64 0]) := Lib.hid (by rw [HV3.out, hgr, Bool.or_true]; rfl)
                  clear hgr
                  have c0 := B1.cell 0
                  have c1 := B1.cell 1
                  have c2 := B1.cell 2
                  have f0 := B1.frozen 0
                  have f1 := B1.frozen 1
                  have f2 := B1.frozen 2
                  go_wp2_with fail
                  obtain ⟨hg, hb⟩ := tok_done B1 K1.out (.int .i64 0) (.string ⟨#[]⟩) (.int .i64 0)
                  (try simp only [Exit.inBlock, Exit.then])
                  refine bodyPost_ret (results_cell_row rfl _ _ _ 31 _ (0, 0) _ rfl hg Tryd.underlying31 rfl (by kernel_rfl)) rfl ?_
                  exact ⟨by rw [HV2.out], hb⟩
                | false =>
                  have HV2 : Hid (V = .agg #[.int .i64 2, .string ⟨u.toArray⟩, .int .i64 a]) := Lib.hid (by rw [HV3.out, hgr, HZ.out]; rfl)
                  clear hgr
                  have c0 := B1.cell 0
                  have c1 := B1.cell 1
                  have c2 := B1.cell 2
                  have f0 := B1.frozen 0
                  have f1 := B1.frozen 1
                  have f2 := B1.frozen 2
                  go_wp2_with fail
                  obtain ⟨hg, hb⟩ := tok_done B1 K1.out (.int .i64 2) (.string ⟨u.toArray⟩) (.int .i64 a)
                  (try simp only [Exit.inBlock, Exit.then])
                  refine bodyPost_ret (results_cell_row rfl _ _ _ 31 _ (0, 0) _ rfl hg Tryd.underlying31 rfl (by kernel_rfl)) rfl ?_
                  exact ⟨by rw [HV2.out], hb⟩
            · have HZ := Lib.hid (zero_no1 h1)
              go_wp2_with fail
              refine (rgreat_any u (by omega) _).mono ?_
              rintro e w2 ⟨rfl, rfl⟩
              have B1 := B0.out
              have K1 := K0
              cases hgr : Lex.great u with
              | true =>
                have HV2 : Hid (V = .agg #[.int .i64 0, .string ⟨#[]⟩, .int .i64 0]) := Lib.hid (by rw [HV3.out, hgr, Bool.or_true]; rfl)
                clear hgr
                have c0 := B1.cell 0
                have c1 := B1.cell 1
                have c2 := B1.cell 2
                have f0 := B1.frozen 0
                have f1 := B1.frozen 1
                have f2 := B1.frozen 2
                go_wp2_with fail
                obtain ⟨hg, hb⟩ := tok_done B1 K1.out (.int .i64 0) (.string ⟨#[]⟩) (.int .i64 0)
                (try simp only [Exit.inBlock, Exit.then])
                refine bodyPost_ret (results_cell_row rfl _ _ _ 31 _ (0, 0) _ rfl hg Tryd.underlying31 rfl (by kernel_rfl)) rfl ?_
                exact ⟨by rw [HV2.out], hb⟩
              | false =>
                have HV2 : Hid (V = .agg #[.int .i64 2, .string ⟨u.toArray⟩, .int .i64 a]) := Lib.hid (by rw [HV3.out, hgr, HZ.out]; rfl)
                clear hgr
                have c0 := B1.cell 0
                have c1 := B1.cell 1
                have c2 := B1.cell 2
                have f0 := B1.frozen 0
                have f1 := B1.frozen 1
                have f2 := B1.frozen 2
                go_wp2_with fail
                obtain ⟨hg, hb⟩ := tok_done B1 K1.out (.int .i64 2) (.string ⟨u.toArray⟩) (.int .i64 a)
                (try simp only [Exit.inBlock, Exit.then])
                refine bodyPost_ret (results_cell_row rfl _ _ _ 31 _ (0, 0) _ rfl hg Tryd.underlying31 rfl (by kernel_rfl)) rfl ?_
                exact ⟨by rw [HV2.out], hb⟩
    · obtain rfl : m = l.length := by omega
      have HM := Lib.hid ((while_over (by omega) HW.out).trans (by rw [HU.out]))
      have hn := num_end HU.out HM.out HNe.out
      rw [List.drop_length] at hn
      have HV3 : Hid (V = tokV (if (!(false || Lex.zeroBad u || Lex.great u)) = true then (2, u) else (0, [])) a) := Lib.hid (by rw [HV.out, hn]; rfl)
      clear hn
      have hcut := HDone.out HM.out
      by_cases h1 : 1 < u.length
      · by_cases h48 : (c.toNat : Int) = 48
        · have HV2 : Hid (V = .agg #[.int .i64 0, .string ⟨#[]⟩, .int .i64 0]) := Lib.hid (by rw [HV3.out, zero_yes HU0.out h1 h48]; rfl)
          have B1 := B0.out
          have K1 := K0
          have c0 := B1.cell 0
          have c1 := B1.cell 1
          have c2 := B1.cell 2
          have f0 := B1.frozen 0
          have f1 := B1.frozen 1
          have f2 := B1.frozen 2
          go_wp2_with fail
          obtain ⟨hg, hb⟩ := tok_done B1 K1.out (.int .i64 0) (.string ⟨#[]⟩) (.int .i64 0)
          (try simp only [Exit.inBlock, Exit.then])
          refine bodyPost_ret (results_cell_row rfl _ _ _ 31 _ (0, 0) _ rfl hg Tryd.underlying31 rfl (by kernel_rfl)) rfl ?_
          exact ⟨by rw [HV2.out], hb⟩
        · have HZ := Lib.hid (zero_no2 HU0.out h48)
          have hv48 : ((c.toNat : Int) == 48) = false := by simpa using h48
          clear h48
          go_wp2_with fail
          refine (rgreat_any u (by omega) _).mono ?_
          rintro e w2 ⟨rfl, rfl⟩
          have B1 := B0.out
          have K1 := K0
          cases hgr : Lex.great u with
          | true =>
            have HV2 : Hid (V = .agg #[.int .i64 0, .string ⟨#[]⟩, .int .i64 0]) := Lib.hid (by rw [HV3.out, hgr, Bool.or_true]; rfl)
            clear hgr
            have c0 := B1.cell 0
            have c1 := B1.cell 1
            have c2 := B1.cell 2
            have f0 := B1.frozen 0
            have f1 := B1.frozen 1
            have f2 := B1.frozen 2
            go_wp2_with fail
            obtain ⟨hg, hb⟩ := tok_done B1 K1.out (.int .i64 0) (.string ⟨#[]⟩) (.int .i64 0)
            (try simp only [Exit.inBlock, Exit.then])
            refine bodyPost_ret (results_cell_row rfl _ _ _ 31 _ (0, 0) _ rfl hg Tryd.underlying31 rfl (by kernel_rfl)) rfl ?_
            exact ⟨by rw [HV2.out], hb⟩
          | false =>
            have HV2 : Hid (V = .agg #[.int .i64 2, .string ⟨u.toArray⟩, .int .i64 a]) := Lib.hid (by rw [HV3.out, hgr, HZ.out]; rfl)
            clear hgr
            have c0 := B1.cell 0
            have c1 := B1.cell 1
            have c2 := B1.cell 2
            have f0 := B1.frozen 0
            have f1 := B1.frozen 1
            have f2 := B1.frozen 2
            go_wp2_with fail
            obtain ⟨hg, hb⟩ := tok_done B1 K1.out (.int .i64 2) (.string ⟨u.toArray⟩) (.int .i64 a)
            (try simp only [Exit.inBlock, Exit.then])
            refine bodyPost_ret (results_cell_row rfl _ _ _ 31 _ (0, 0) _ rfl hg Tryd.underlying31 rfl (by kernel_rfl)) rfl ?_
            exact ⟨by rw [HV2.out], hb⟩
      · have HZ := Lib.hid (zero_no1 h1)
        go_wp2_with fail
        refine (rgreat_any u (by omega) _).mono ?_
        rintro e w2 ⟨rfl, rfl⟩
        have B1 := B0.out
        have K1 := K0
        cases hgr : Lex.great u with
        | true =>
          have HV2 : Hid (V = .agg #[.int .i64 0, .string ⟨#[]⟩, .int .i64 0]) := Lib.hid (by rw [HV3.out, hgr, Bool.or_true]; rfl)
          clear hgr
          have c0 := B1.cell 0
          have c1 := B1.cell 1
          have c2 := B1.cell 2
          have f0 := B1.frozen 0
          have f1 := B1.frozen 1
          have f2 := B1.frozen 2
          go_wp2_with fail
          obtain ⟨hg, hb⟩ := tok_done B1 K1.out (.int .i64 0) (.string ⟨#[]⟩) (.int .i64 0)
          (try simp only [Exit.inBlock, Exit.then])
          refine bodyPost_ret (results_cell_row rfl _ _ _ 31 _ (0, 0) _ rfl hg Tryd.underlying31 rfl (by kernel_rfl)) rfl ?_
          exact ⟨by rw [HV2.out], hb⟩
        | false =>
          have HV2 : Hid (V = .agg #[.int .i64 2, .string ⟨u.toArray⟩, .int .i64 a]) := Lib.hid (by rw [HV3.out, hgr, HZ.out]; rfl)
          clear hgr
          have c0 := B1.cell 0
          have c1 := B1.cell 1
          have c2 := B1.cell 2
          have f0 := B1.frozen 0
          have f1 := B1.frozen 1
          have f2 := B1.frozen 2
          go_wp2_with fail
          obtain ⟨hg, hb⟩ := tok_done B1 K1.out (.int .i64 2) (.string ⟨u.toArray⟩) (.int .i64 a)
          (try simp only [Exit.inBlock, Exit.then])
          refine bodyPost_ret (results_cell_row rfl _ _ _ 31 _ (0, 0) _ rfl hg Tryd.underlying31 rfl (by kernel_rfl)) rfl ?_
          exact ⟨by rw [HV2.out], hb⟩
end Go.Proofs.YtkjpnciimabclaaDoor

/-
  LAYER 4, THE REFERENCE: the token at an offset.
-/
import Derived.Test.YtkjpnciimabclaaDoorLexR1
import Derived.Test.YtkjpnciimabclaaDoorLex4
import Derived.BigQuiet
import Derived.Deep.QuietTactic
namespace Go.Proofs.YtkjpnciimabclaaDoor
open Go.ChangeShapes Go.WideShapes Go.ChangeAt Go.RowKit

/-- A token, as a value; there is none: zeros. -/
def tokV (p : Int × List UInt8) (a : Nat) : Value := .agg #[.int .i64 p.1, .string ⟨p.2.toArray⟩, .int .i64 (if p.1 = 0 then 0 else a : Nat)]

abbrev tokW (w : World) : World := w.alloc (.cells #[.int .i64 0, .string ⟨#[]⟩, .int .i64 0] 31)
theorem tok_done {w w2 : World} (B : Blk w2 w.heap.size 31 #[.int .i64 0, .string ⟨#[]⟩, .int .i64 0]) (K : Below w.heap.size w w2) (x y z : Value) :
    (((w2.setCell ⟨w.heap.size, 0, none⟩ x).setCell ⟨w.heap.size, 1, none⟩ y).setCell ⟨w.heap.size, 2, none⟩ z).heap[w.heap.size]? = some (.cells #[x, y, z] 31 (0, 0)) ∧ Below w.heap.size w (((w2.setCell ⟨w.heap.size, 0, none⟩ x).setCell ⟨w.heap.size, 1, none⟩ y).setCell ⟨w.heap.size, 2, none⟩ z) :=
  ⟨((B.set 0 x).set 1 y).set 2 z, ((K.setCell (Nat.le_refl _) x).setCell (Nat.le_refl _) y).setCell (Nat.le_refl _) z⟩

theorem extract_mid {l : List UInt8} {a m : Nat} : (⟨l.toArray⟩ : ByteArray).extract a m = ⟨((l.drop a).take (m - a)).toArray⟩ := mk_extract _ _ _

theorem while_at {l : List UInt8} {p : UInt8 → Bool} {a m : Nat} (ha : a ≤ m) (h : ∀ x ∈ (l.drop a).take (m - a), p x = true) {c : UInt8} (hc : l[m]? = some c) : (p c = true → ∀ x ∈ (l.drop a).take (m + 1 - a), p x = true) ∧ (p c = false → m = a + ((l.drop a).takeWhile p).length) := by
  have hc' : (l.drop a)[m - a]? = some c := by rw [List.getElem?_drop, show a + (m - a) = m by omega]; exact hc
  obtain ⟨h1, h2⟩ := take_more h hc'
  exact ⟨fun hp => by rw [show m + 1 - a = m - a + 1 by omega]; exact h1 hp, fun hp => by have := h2 hp; omega⟩
theorem while_over {l : List UInt8} {p : UInt8 → Bool} {a : Nat} (ha : a ≤ l.length) (h : ∀ x ∈ (l.drop a).take (l.length - a), p x = true) : l.length = a + ((l.drop a).takeWhile p).length := by
  rw [List.take_of_length_le (by rw [List.length_drop]; omega)] at h
  rw [take_all h, List.length_drop]
  omega
theorem cut_at {l : List UInt8} {p : UInt8 → Bool} {a m : Nat} (h : m = a + ((l.drop a).takeWhile p).length) : (⟨l.toArray⟩ : ByteArray).extract a m = ⟨((l.drop a).takeWhile p).toArray⟩ := by
  rw [extract_mid, show m - a = ((l.drop a).takeWhile p).length by omega, ← List.prefix_iff_eq_take.1 (List.takeWhile_prefix p)]
theorem drop_at {l : List UInt8} {p : UInt8 → Bool} {a m : Nat} (h : m = a + ((l.drop a).takeWhile p).length) : (l.drop a).drop ((l.drop a).takeWhile p).length = l.drop m := by rw [List.drop_drop, ← h]

set_option maxHeartbeats 4000000 in
set_option maxRecDepth 100000 in
theorem rtoken_letter (l : List UInt8) (a : Nat) (c : UInt8) (hx : ∀ h, ((⟨l.toArray⟩ : ByteArray)[a]'h) = c) (ha : a < l.length) (hl : l.length ≤ 1000000) (hc : Lex.letr c = true)
    (V : Value) (hV : V = tokV (if ((l.drop a).takeWhile Lex.word) ∈ Lex.keywords then (3, (l.drop a).takeWhile Lex.word) else if ((l.drop a).takeWhile Lex.word).length ≤ 16 then (1, (l.drop a).takeWhile Lex.word) else (0, [])) a) (w : World) :
    Calls Tryd.prog 26 #[.string ⟨l.toArray⟩, .int .i64 a] w fun e w' => e = .returned V ∧ Below w.heap.size w w' := by
  obtain ⟨u, hu⟩ : ∃ u, (l.drop a).takeWhile Lex.word = u := ⟨_, rfl⟩
  have hul : u.length ≤ l.length := by
    rw [← hu]
    exact Nat.le_trans (List.takeWhile_prefix _).length_le (by rw [List.length_drop]; omega)
  have HU := Lib.hid hu
  rw [hu] at hV
  have HV := Lib.hid hV
  have HC := Lib.hid hc
  clear hc hu hV
  go_enter Tryd.func26, Tryd.ntmps26
  have B0 := Lib.hid (Blk.new w 31 #[.int .i64 0, .string ⟨#[]⟩, .int .i64 0])
  have K0 := Lib.hid (below_new (Below.refl w.heap.size w) (.cells #[.int .i64 0, .string ⟨#[]⟩, .int .i64 0] 31))
  go_wp2_with fail
  refine (rletter_any c _).mono ?_
  rintro e w1 ⟨rfl, rfl⟩
  rw [HC.out]
  go_wp2_with fail
  go_loopw [5] (fun i wr => ∃ m : Nat, a ≤ m ∧ m ≤ l.length ∧ i = .int .i64 m ∧ wr = tokW w ∧ Hid (∀ x ∈ (l.drop a).take (m - a), Lex.word x = true)) (fun i _ => l.length - (intOf i).toNat)
  case atStart => exact ⟨a, Nat.le_refl _, by omega, rfl, rfl, Lib.hid (by simp)⟩
  case round =>
    obtain ⟨m, ham, hm, rfl, rfl, HW⟩ := hrel
    have done : m = a + u.length → (⟨l.toArray⟩ : ByteArray).extract a m = ⟨u.toArray⟩ := fun h => by
      rw [← HU.out] at h ⊢
      exact cut_at h
    have HDone := Lib.hid done
    clear done
    by_cases hlt : m < l.length
    · obtain ⟨d, hd⟩ : ∃ d, l[m]? = some d := ⟨_, List.getElem?_eq_getElem hlt⟩
      have hy : ∀ h, ((⟨l.toArray⟩ : ByteArray)[m]'h) = d := fun h => (List.getElem?_eq_some_iff.1 hd).2
      have HT := Lib.hid (while_at ham HW.out hd)
      clear hd
      go_wp2_with fail
      refine (rletter_any d _).mono ?_
      rintro e w1 ⟨rfl, rfl⟩
      cases hw : Lex.word d with
      | true =>
        have HN := Lib.hid (HT.out.1 hw)
        cases hle : Lex.letr d with
        | true =>
          clear hw hle
          go_wp2_with fail
          exact ⟨⟨m + 1, by omega, hlt, by go_num, by trivial, HN⟩, by simp [intOf]; omega⟩
        | false =>
          have HL := Lib.hid hle
          clear hle
          go_wp2_with fail
          refine (rdigit_any d _).mono ?_
          rintro e w1 ⟨rfl, rfl⟩
          cases hdi : Lex.dig d with
          | true =>
            clear hw hdi
            go_wp2_with fail
            exact ⟨⟨m + 1, by omega, hlt, by go_num, by trivial, HN⟩, by simp [intOf]; omega⟩
          | false =>
            have h95 : (d.toNat : Int) = 95 := by
              have : d.toNat = 95 := by simpa [Lex.word, HL.out, hdi] using hw
              omega
            clear hw hdi
            go_wp2_with fail
            exact ⟨⟨m + 1, by omega, hlt, by go_num, by trivial, HN⟩, by simp [intOf]; omega⟩
      | false =>
        have HM := Lib.hid ((HT.out.2 hw).trans (by rw [HU.out]))
        have h3 : (Lex.letr d = false ∧ Lex.dig d = false) ∧ ¬ d.toNat = 95 := by simpa [Lex.word] using hw
        have h95 : ((d.toNat : Int) == 95) = false := by have := h3.2; simp; omega
        have H2 := Lib.hid h3.1.2
        rw [h3.1.1]
        clear h3 hw
        go_wp2_with fail
        refine (rdigit_any d _).mono ?_
        rintro e w1 ⟨rfl, rfl⟩
        rw [H2.out]
        clear H2
        have hcut := HDone.out HM.out
        by_cases hk : u ∈ Lex.keywords
        · have HV2 : Hid (V = .agg #[.int .i64 3, .string ⟨u.toArray⟩, .int .i64 a]) := Lib.hid (by rw [HV.out, if_pos hk]; rfl)
          have hd := Lib.hid (decide_eq_true hk)
          clear hk
          go_wp2_with fail
          refine (rreserved_any u _).mono ?_
          rintro e w2 ⟨rfl, b2⟩
          rw [hd.out]
          have B1 := B0.out.call b2
          have K1 := Lib.hid (below_call K0.out b2)
          clear b2
          have c0 := B1.cell 0
          have c1 := B1.cell 1
          have c2 := B1.cell 2
          have f0 := B1.frozen 0
          have f1 := B1.frozen 1
          have f2 := B1.frozen 2
          go_wp2_with fail
          obtain ⟨hg, hb⟩ := tok_done B1 K1.out (.int .i64 3) (.string ⟨u.toArray⟩) (.int .i64 a)
          (try simp only [Exit.inBlock, Exit.then])
          refine bodyPost_ret (results_cell_row rfl _ _ _ 31 _ (0, 0) _ rfl hg Tryd.underlying31 rfl (by kernel_rfl)) rfl ?_
          exact ⟨by rw [HV2.out], hb⟩
        · by_cases h16 : u.length ≤ 16
          · have HV2 : Hid (V = .agg #[.int .i64 1, .string ⟨u.toArray⟩, .int .i64 a]) := Lib.hid (by rw [HV.out, if_neg hk, if_pos h16]; rfl)
            have hd := Lib.hid (decide_eq_false hk)
            clear hk
            go_wp2_with fail
            refine (rreserved_any u _).mono ?_
            rintro e w2 ⟨rfl, b2⟩
            rw [hd.out]
            have B1 := B0.out.call b2
            have K1 := Lib.hid (below_call K0.out b2)
            clear b2
            have c0 := B1.cell 0
            have c1 := B1.cell 1
            have c2 := B1.cell 2
            have f0 := B1.frozen 0
            have f1 := B1.frozen 1
            have f2 := B1.frozen 2
            go_wp2_with fail
            obtain ⟨hg, hb⟩ := tok_done B1 K1.out (.int .i64 1) (.string ⟨u.toArray⟩) (.int .i64 a)
            (try simp only [Exit.inBlock, Exit.then])
            refine bodyPost_ret (results_cell_row rfl _ _ _ 31 _ (0, 0) _ rfl hg Tryd.underlying31 rfl (by kernel_rfl)) rfl ?_
            exact ⟨by rw [HV2.out], hb⟩
          · have HV2 : Hid (V = .agg #[.int .i64 0, .string ⟨#[]⟩, .int .i64 0]) := Lib.hid (by rw [HV.out, if_neg hk, if_neg h16]; rfl)
            have hd := Lib.hid (decide_eq_false hk)
            clear hk
            go_wp2_with fail
            refine (rreserved_any u _).mono ?_
            rintro e w2 ⟨rfl, b2⟩
            rw [hd.out]
            have B1 := B0.out.call b2
            have K1 := Lib.hid (below_call K0.out b2)
            clear b2
            have c0 := B1.cell 0
            have c1 := B1.cell 1
            have c2 := B1.cell 2
            have f0 := B1.frozen 0
            have f1 := B1.frozen 1
            have f2 := B1.frozen 2
            go_wp2_with fail
            obtain ⟨hg, hb⟩ := tok_done B1 K1.out (.int .i64 0) (.string ⟨#[]⟩) (.int .i64 0)
            (try simp only [Exit.inBlock, Exit.then])
            refine bodyPost_ret (results_cell_row rfl _ _ _ 31 _ (0, 0) _ rfl hg Tryd.underlying31 rfl (by kernel_rfl)) rfl ?_
            exact ⟨by rw [HV2.out], hb⟩
    · obtain rfl : m = l.length := by omega
      have HM := Lib.hid ((while_over (by omega) HW.out).trans (by rw [HU.out]))
      have hcut := HDone.out HM.out
      by_cases hk : u ∈ Lex.keywords
      · have HV2 : Hid (V = .agg #[.int .i64 3, .string ⟨u.toArray⟩, .int .i64 a]) := Lib.hid (by rw [HV.out, if_pos hk]; rfl)
        have hd := Lib.hid (decide_eq_true hk)
        clear hk
        go_wp2_with fail
        refine (rreserved_any u _).mono ?_
        rintro e w2 ⟨rfl, b2⟩
        rw [hd.out]
        have B1 := B0.out.call b2
        have K1 := Lib.hid (below_call K0.out b2)
        clear b2
        have c0 := B1.cell 0
        have c1 := B1.cell 1
        have c2 := B1.cell 2
        have f0 := B1.frozen 0
        have f1 := B1.frozen 1
        have f2 := B1.frozen 2
        go_wp2_with fail
        obtain ⟨hg, hb⟩ := tok_done B1 K1.out (.int .i64 3) (.string ⟨u.toArray⟩) (.int .i64 a)
        (try simp only [Exit.inBlock, Exit.then])
        refine bodyPost_ret (results_cell_row rfl _ _ _ 31 _ (0, 0) _ rfl hg Tryd.underlying31 rfl (by kernel_rfl)) rfl ?_
        exact ⟨by rw [HV2.out], hb⟩
      · by_cases h16 : u.length ≤ 16
        · have HV2 : Hid (V = .agg #[.int .i64 1, .string ⟨u.toArray⟩, .int .i64 a]) := Lib.hid (by rw [HV.out, if_neg hk, if_pos h16]; rfl)
          have hd := Lib.hid (decide_eq_false hk)
          clear hk
          go_wp2_with fail
          refine (rreserved_any u _).mono ?_
          rintro e w2 ⟨rfl, b2⟩
          rw [hd.out]
          have B1 := B0.out.call b2
          have K1 := Lib.hid (below_call K0.out b2)
          clear b2
          have c0 := B1.cell 0
          have c1 := B1.cell 1
          have c2 := B1.cell 2
          have f0 := B1.frozen 0
          have f1 := B1.frozen 1
          have f2 := B1.frozen 2
          go_wp2_with fail
          obtain ⟨hg, hb⟩ := tok_done B1 K1.out (.int .i64 1) (.string ⟨u.toArray⟩) (.int .i64 a)
          (try simp only [Exit.inBlock, Exit.then])
          refine bodyPost_ret (results_cell_row rfl _ _ _ 31 _ (0, 0) _ rfl hg Tryd.underlying31 rfl (by kernel_rfl)) rfl ?_
          exact ⟨by rw [HV2.out], hb⟩
        · have HV2 : Hid (V = .agg #[.int .i64 0, .string ⟨#[]⟩, .int .i64 0]) := Lib.hid (by rw [HV.out, if_neg hk, if_neg h16]; rfl)
          have hd := Lib.hid (decide_eq_false hk)
          clear hk
          go_wp2_with fail
          refine (rreserved_any u _).mono ?_
          rintro e w2 ⟨rfl, b2⟩
          rw [hd.out]
          have B1 := B0.out.call b2
          have K1 := Lib.hid (below_call K0.out b2)
          clear b2
          have c0 := B1.cell 0
          have c1 := B1.cell 1
          have c2 := B1.cell 2
          have f0 := B1.frozen 0
          have f1 := B1.frozen 1
          have f2 := B1.frozen 2
          go_wp2_with fail
          obtain ⟨hg, hb⟩ := tok_done B1 K1.out (.int .i64 0) (.string ⟨#[]⟩) (.int .i64 0)
          (try simp only [Exit.inBlock, Exit.then])
          refine bodyPost_ret (results_cell_row rfl _ _ _ 31 _ (0, 0) _ rfl hg Tryd.underlying31 rfl (by kernel_rfl)) rfl ?_
          exact ⟨by rw [HV2.out], hb⟩
end Go.Proofs.YtkjpnciimabclaaDoor

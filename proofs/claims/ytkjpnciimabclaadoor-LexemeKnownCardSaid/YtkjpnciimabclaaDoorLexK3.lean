/-
  LAYER 4, THE LAWS' HELPERS: a token by numbers: numbers, keywords, signs.
-/
import Derived.Test.YtkjpnciimabclaaDoorLexK2
namespace Go.Proofs.YtkjpnciimabclaaDoor
open Go.ChangeShapes Go.WideShapes Go.ChangeAt Go.RowKit

theorem num_tk (N : Nat) (h : N < 9223372036854775808) : Lex.Tk 2 (Lib.decDigits N) ∧ (Lib.decDigits N).length ≤ 20 := by
  refine ⟨?_, Dec.dec_length_le (by omega)⟩
  have hd : ∀ d ∈ Lib.decDigits N, Lex.dig d = true := fun d hd => by
    have := Dec.dec_dig N d hd
    unfold Dec.isDig at this
    exact decide_eq_true this
  have hn : Lex.numOk (Lib.decDigits N) [] = true := by
    unfold Lex.numOk
    rw [Lib.parseIntB_64, Dec.atoi_digits (Dec.dec_ne N) (Dec.dec_dig N), Dec.val_dec, if_pos h]
    simp only
    rw [Dec.itoa_nn (by omega), Int.toNat_natCast, decide_eq_true rfl]
    rfl
  obtain ⟨c, r, e⟩ : ∃ c r, Lib.decDigits N = c :: r := by
    cases hh : Lib.decDigits N with
    | nil => exact absurd hh (Dec.dec_ne N)
    | cons c r => exact ⟨c, r, rfl⟩
  rw [e] at hd hn ⊢
  exact Lex.digit_tk hd hn
theorem kw_tk {s : List UInt8} (h : s ∈ Lex.keywords) : Lex.Tk 3 s ∧ s.length ≤ 20 := by
  have h1 : ∀ x ∈ Lex.keywords, (∃ c r, x = c :: r ∧ Lex.letr c = true) ∧ (∀ d ∈ x, Lex.word d = true) ∧ x.length ≤ 20 := by
    intro x hx
    simp only [Lex.keywords, List.mem_cons, List.not_mem_nil, or_false] at hx
    rcases hx with rfl | rfl | rfl | rfl | rfl | rfl | rfl | rfl | rfl | rfl | rfl | rfl | rfl | rfl | rfl
    all_goals exact ⟨⟨_, _, rfl, by decide⟩, by decide, by decide⟩
  obtain ⟨⟨c, r, rfl, hc⟩, hw, hl⟩ := h1 s h
  exact ⟨(Lex.word_tk hc hw).1 h, hl⟩

set_option maxHeartbeats 4000000 in
set_option maxRecDepth 100000 in
theorem token_num (k n g : Int) (b : Nat) (hk : k % 4 = 1) (k0 : 0 ≤ k) (b1 : b < 18446744073709551616) (w : World) (hG : Good w) :
    Calls Tryd.prog 19 #[.agg (pcA k n g b)] w fun e w' => TokV e ∧ Below w.heap.size w w' := by
  have HI := KInv.start hG (pcA k n g b)
  clear hG
  obtain ⟨N, hN⟩ : ∃ N, b / 2 = N := ⟨_, rfl⟩
  have hNb : N < 9223372036854775808 := by omega
  have hb2 : (b : Int) / 2 = (N : Int) := by omega
  obtain ⟨HT, hT⟩ := num_tk N hNb
  have HT := Lib.hid HT
  clear hN
  go_enter Tryd.func19, Tryd.ntmps19
  go_wp2_with fail
  refine (decimal_any N (by omega) _).mono ?_
  rintro e w1 ⟨rfl, hb⟩
  have HI := KInv.call HI hb
  clear hb
  generalize Lib.decDigits N = u at HT hT ⊢
  have c0 := HI.out.2.2.2.cell 0
  have c1 := HI.out.2.2.2.cell 1
  have c2 := HI.out.2.2.2.cell 2
  have f0 := HI.out.2.2.2.frozen 0
  have f1 := HI.out.2.2.2.frozen 1
  have f2 := HI.out.2.2.2.frozen 2
  go_wp2_with fail
  obtain ⟨hg, hb⟩ := ktok_done HI (.int .i64 2) (.string ⟨u.toArray⟩) (.int .i64 0)
  (try simp only [Exit.inBlock, Exit.then])
  refine bodyPost_ret (results_cell_row rfl _ _ _ 32 _ (0, 0) _ rfl hg Tryd.underlying32 rfl (by kernel_rfl)) rfl ?_
  exact ⟨⟨2, u, rfl, HT.out, hT⟩, hb⟩

set_option maxHeartbeats 4000000 in
set_option maxRecDepth 100000 in
theorem token_sign (k n g b : Int) (hk : k % 4 = 3) (k0 : 0 ≤ k) (n0 : 0 ≤ n) (n1 : n ≤ 255) (w : World) (hG : Good w) :
    Calls Tryd.prog 19 #[.agg (pcA k n g b)] w fun e w' => TokV e ∧ Below w.heap.size w w' := by
  have HI := KInv.start hG (pcA k n g b)
  clear hG
  obtain ⟨q, hq, hq1⟩ : ∃ q : Nat, n % 23 = (q : Int) ∧ q < 23 := ⟨(n % 23).toNat, by omega, by omega⟩
  have hq2 : n.tmod 23 = (q : Int) := by rw [Int.tmod_eq_emod_of_nonneg n0]; exact hq
  obtain ⟨u, hu⟩ : ∃ u, Lex.signs[q]? = some u := ⟨_, List.getElem?_eq_getElem (show q < Lex.signs.length from hq1)⟩
  have hT : u.length ≤ 20 := (show ∀ x ∈ Lex.signs, x.length ≤ 20 by decide) u (List.mem_of_getElem? hu)
  have HT := Lib.hid (Lex.sign_tk (List.mem_of_getElem? hu))
  have HU := Lib.hid hu
  clear hu
  go_enter Tryd.func19, Tryd.ntmps19
  go_wp2_with fail
  refine (signs_any _ (KInv.good HI)).mono ?_
  rintro e w1 ⟨v, rfl, hown, hb⟩
  have HI := KInv.call HI hb
  obtain ⟨g2, cap2, cur2, rfl, _, hB, hcap2, hcur⟩ := own_blk hown (by decide)
  have cq : w1.cell? ⟨g2, q, none⟩ = some (.string ⟨u.toArray⟩) := (hB.cell q).trans (hcur q _ (by rw [List.getElem?_map, HU.out]; rfl))
  have e1 := HI.out.2.2.1.cell 1
  clear hb hown hB hcur
  have c0 := HI.out.2.2.2.cell 0
  have c1 := HI.out.2.2.2.cell 1
  have c2 := HI.out.2.2.2.cell 2
  have f0 := HI.out.2.2.2.frozen 0
  have f1 := HI.out.2.2.2.frozen 1
  have f2 := HI.out.2.2.2.frozen 2
  go_wp2_with fail
  obtain ⟨hg, hb⟩ := ktok_done HI (.int .i64 4) (.string ⟨u.toArray⟩) (.int .i64 0)
  (try simp only [Exit.inBlock, Exit.then])
  refine bodyPost_ret (results_cell_row rfl _ _ _ 32 _ (0, 0) _ rfl hg Tryd.underlying32 rfl (by kernel_rfl)) rfl ?_
  exact ⟨⟨4, u, rfl, HT.out, hT⟩, hb⟩
end Go.Proofs.YtkjpnciimabclaaDoor

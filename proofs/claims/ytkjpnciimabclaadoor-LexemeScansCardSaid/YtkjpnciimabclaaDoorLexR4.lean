/-
  LAYER 4, THE REFERENCE: the token at an offset, signs.
-/
import Derived.Test.YtkjpnciimabclaaDoorLexR3
import Derived.Test.YtkjpnciimabclaaDoorLex4
import Derived.BigQuiet
import Derived.Deep.QuietTactic
namespace Go.Proofs.YtkjpnciimabclaaDoor
open Go.ChangeShapes Go.WideShapes Go.ChangeAt Go.RowKit

theorem prefix_at {l x : List UInt8} {a : Nat} : x.isPrefixOf (l.drop a) = decide ((l.drop a).take x.length = x) := by
  rw [Bool.eq_iff_iff, List.isPrefixOf_iff_prefix, decide_eq_true_iff, List.prefix_iff_eq_take]
  exact eq_comm
theorem far_no {l x : List UInt8} {a : Nat} (ha : a ≤ l.length) (h : ¬ a + x.length ≤ l.length) : x.isPrefixOf (l.drop a) = false := by
  rw [prefix_at, decide_eq_false_iff_not]
  intro e
  have := congrArg List.length e
  rw [List.length_take, List.length_drop] at this
  omega
def SInv (w wr : World) (g : Nat) : Prop := Blk wr w.heap.size 31 #[.int .i64 0, .string ⟨#[]⟩, .int .i64 0] ∧ Blk wr g 9 sgA ∧ Below w.heap.size w wr
theorem SInv.drewN {w wr : World} {g : Nat} (h : Hid (SInv w wr g)) (n : Nat) : Hid (SInv w (wr.drewN n) g) := Lib.hid ⟨h.out.1.drewN n, h.out.2.1.drewN n, ⟨h.out.2.2.os, h.out.2.2.tape, h.out.2.2.output, h.out.2.2.size, h.out.2.2.block⟩⟩
theorem SInv.cell {w wr : World} {g : Nat} (h : Hid (SInv w wr g)) (j : Nat) (s : List UInt8) (hs : Lex.signs[j]? = some s) : wr.cell? ⟨g, j, none⟩ = some (.string ⟨s.toArray⟩) := by
  rw [h.out.2.1.cell j, List.getElem?_toArray, List.getElem?_map, hs]
  rfl

set_option maxHeartbeats 4000000 in
set_option maxRecDepth 100000 in
theorem rtoken_sign (l : List UInt8) (a : Nat) (c : UInt8) (hx : ∀ h, ((⟨l.toArray⟩ : ByteArray)[a]'h) = c) (ha : a < l.length) (hl : l.length ≤ 1000000) (hc : Lex.letr c = false) (hc2 : Lex.dig c = false)
    (V : Value) (hV : V = tokV (match Lex.signs.find? (fun x => x.isPrefixOf (l.drop a)) with
      | some x => (4, x)
      | none => (0, [])) a) (w : World) :
    Calls Tryd.prog 26 #[.string ⟨l.toArray⟩, .int .i64 a] w fun e w' => e = .returned V ∧ Below w.heap.size w w' := by
  have HV := Lib.hid hV
  have HC := Lib.hid hc
  have HC2 := Lib.hid hc2
  clear hc hc2 hV
  go_enter Tryd.func26, Tryd.ntmps26
  have B0 := Lib.hid (Blk.new w 31 #[.int .i64 0, .string ⟨#[]⟩, .int .i64 0])
  have K0 := Lib.hid (below_new (Below.refl w.heap.size w) (.cells #[.int .i64 0, .string ⟨#[]⟩, .int .i64 0] 31))
  go_wp2_with fail
  refine (rletter_any c _).mono ?_
  rintro e w1 ⟨rfl, rfl⟩
  rw [HC.out]
  go_wp2_with fail
  refine (rdigit_any c _).mono ?_
  rintro e w1 ⟨rfl, rfl⟩
  rw [HC2.out]
  go_wp2_with fail
  refine (rsigns_any _).mono ?_
  rintro e w1 ⟨rfl, hw1⟩
  have HS : Hid (SInv w w1 (w.heap.size + 1)) := Lib.hid (by
    rw [hw1]
    refine ⟨B0.out.alloc _, ?_, below_new K0.out _⟩
    have := Blk.new (tokW w) 9 sgA
    rwa [World.size_alloc] at this)
  clear hw1 B0 K0
  go_wp2_with fail
  go_loopw [9, 10] (fun i n wr => ∃ k : Nat, k ≤ 23 ∧ i = .int .i64 k ∧ n = n ∧ Hid (SInv w wr (w.heap.size + 1)) ∧ Hid (∀ x ∈ Lex.signs.take k, x.isPrefixOf (l.drop a) = false)) (fun i _ _ => 23 - (intOf i).toNat)
  case atStart => exact ⟨0, Nat.zero_le _, rfl, rfl, HS, Lib.hid (by simp)⟩
  case round =>
    obtain ⟨k, hk, rfl, _, HI, HN⟩ := hrel
    by_cases hlt : k < 23
    · obtain ⟨x, hs⟩ : ∃ x, Lex.signs[k]? = some x := ⟨_, List.getElem?_eq_getElem (show k < Lex.signs.length from hlt)⟩
      have c0 := SInv.cell HI k x hs
      have hx2 : x.length ≤ 2 := (show ∀ y ∈ Lex.signs, y.length ≤ 2 by decide) x (List.mem_of_getElem? hs)
      have HX := Lib.hid hs
      have HNn : x.isPrefixOf (l.drop a) = false → Hid (∀ y ∈ Lex.signs.take (k + 1), y.isPrefixOf (l.drop a) = false) := fun hp => Lib.hid (by
        intro y hy
        rw [take_snoc HX.out] at hy
        rcases List.mem_append.1 hy with hy | hy
        · exact HN.out y hy
        · rw [List.mem_singleton.1 hy]; exact hp)
      have HNN := Lib.hid HNn
      clear hs HNn
      by_cases hfit : a + x.length ≤ l.length
      · have hcut : (⟨l.toArray⟩ : ByteArray).extract a (a + x.length) = ⟨((l.drop a).take x.length).toArray⟩ := by rw [extract_mid, Nat.add_sub_cancel_left]
        have hfi : decide ((a : Int) + (x.length : Int) ≤ (l.length : Int)) = true := by simp; omega
        obtain ⟨y, hy⟩ : ∃ y, (l.drop a).take x.length = y := ⟨_, rfl⟩
        have HY := Lib.hid hy
        rw [hy] at hcut
        clear hy
        by_cases he : y = x
        · have HV2 : Hid (V = .agg #[.int .i64 4, .string ⟨x.toArray⟩, .int .i64 a]) := Lib.hid (by rw [HV.out, find_at (p := fun z => z.isPrefixOf (l.drop a)) HX.out (by rw [prefix_at, HY.out]; exact decide_eq_true he) HN.out]; rfl)
          have q1 : (y == x) = true := by simpa using he
          have q2 := str_yes he
          clear he
          go_wp2_with fail
          go_quiet (fail)
          have HI := SInv.drewN HI nq
          have c0 := SInv.cell HI k x HX.out
          have B1 := HI.out.1
          have K1 := Lib.hid HI.out.2.2
          generalize wr.drewN nq = wr at HI B1 K1 c0 ⊢
          have c0 := B1.cell 0
          have c1 := B1.cell 1
          have c2 := B1.cell 2
          have f0 := B1.frozen 0
          have f1 := B1.frozen 1
          have f2 := B1.frozen 2
          go_wp2_with fail
          obtain ⟨hg, hb⟩ := tok_done B1 K1.out (.int .i64 4) (.string ⟨x.toArray⟩) (.int .i64 a)
          (try simp only [Exit.inBlock, Exit.then])
          refine bodyPost_ret (results_cell_row rfl _ _ _ 31 _ (0, 0) _ rfl hg Tryd.underlying31 rfl (by kernel_rfl)) rfl ?_
          exact ⟨by rw [HV2.out], hb⟩
        · have HN2 := HNN.out (by rw [prefix_at, HY.out]; exact decide_eq_false he)
          have q1 : (y == x) = false := by simpa using he
          have q2 := str_no he
          clear he
          go_wp2_with fail
          go_quiet (fail)
          have HI := SInv.drewN HI nq
          generalize wr.drewN nq = wr at HI ⊢
          go_wp2_with fail
          exact ⟨⟨k + 1, hlt, by go_num, by trivial, HI, HN2⟩, by simp [intOf]; omega⟩
      · have HN2 := HNN.out (far_no (by omega) hfit)
        have hfi : decide ((a : Int) + (x.length : Int) ≤ (l.length : Int)) = false := by simp; omega
        go_wp2_with fail
        go_quiet (fail)
        have HI := SInv.drewN HI nq
        generalize wr.drewN nq = wr at HI ⊢
        go_wp2_with fail
        exact ⟨⟨k + 1, hlt, by go_num, by trivial, HI, HN2⟩, by simp [intOf]; omega⟩
    · obtain rfl : k = 23 := by omega
      rw [show ((23 : Nat) : Int) = 23 from rfl]
      have HV2 : Hid (V = .agg #[.int .i64 0, .string ⟨#[]⟩, .int .i64 0]) := Lib.hid (by rw [HV.out, List.find?_eq_none.2 (fun y hy => by rw [HN.out y (by rw [List.take_of_length_le (by decide)]; exact hy)]; decide)]; rfl)
      have B1 := HI.out.1
      have K1 := Lib.hid HI.out.2.2
      have c0 := B1.cell 0
      have c1 := B1.cell 1
      have c2 := B1.cell 2
      have f0 := B1.frozen 0
      have f1 := B1.frozen 1
      have f2 := B1.frozen 2
      go_wp2_with fail
      obtain ⟨hg, hb⟩ := tok_done B1 K1.out (.int .i64 0) (.string ⟨#[]⟩) (.int .i64 0)
      (try simp only [Exit.inBlock, Exit.then])
      refine bodyPost_ret (results_cell_row rfl _ _ _ 31 _ (0, 0) _ rfl hg Tryd.underlying31 rfl (by kernel_rfl)) rfl ?_
      exact ⟨by rw [HV2.out], hb⟩

/-- rewindref04.token. -/
theorem rtoken_any (l : List UInt8) (a : Nat) (ha : a < l.length) (hl : l.length ≤ 1000000) (w : World) :
    Calls Tryd.prog 26 #[.string ⟨l.toArray⟩, .int .i64 a] w fun e w' => e = .returned (tokV (Lex.first (l.drop a)) a) ∧ Below w.heap.size w w' := by
  obtain ⟨c, hc⟩ : ∃ c, l[a]? = some c := ⟨_, List.getElem?_eq_getElem ha⟩
  have hx : ∀ h, ((⟨l.toArray⟩ : ByteArray)[a]'h) = c := fun h => (List.getElem?_eq_some_iff.1 hc).2
  have hd := Lex.drop_cons hc
  cases h1 : Lex.letr c with
  | true => exact rtoken_letter l a c hx ha hl h1 _ (by conv => lhs; rw [hd, Lex.first, if_pos h1, ← hd]) w
  | false =>
    cases h2 : Lex.dig c with
    | true => exact rtoken_digit l a c hx ha hl h1 h2 _ (by conv => lhs; rw [hd, Lex.first, if_neg (by rw [h1]; decide), if_pos h2, ← hd]) w
    | false => exact rtoken_sign l a c hx ha hl h1 h2 _ (by (conv => lhs; rw [hd, Lex.first, if_neg (by rw [h1]; decide), if_neg (by rw [h2]; decide), ← hd]); rfl) w
end Go.Proofs.YtkjpnciimabclaaDoor

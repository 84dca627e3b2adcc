/-
  LAYER 4, THE FIRST CONTRACTS: what the listed variables give ('Good'); letters and digits.
-/
import Derived.Test.YtkjpnciimabclaaDoorRows
import Derived.Test.YtkjpnciimabclaaDoorGen2
import Derived.Test.YtkjpnciimabclaaDoorLex
import Derived.Test.YtkjpnciimabclaaDoorShelf
import Derived.LaidLaws
namespace Go.Proofs.YtkjpnciimabclaaDoor
open Go.ChangeShapes Go.WideShapes Go.ChangeAt Go.RowKit

theorem own : ownKnob Tryd.prog.godebug = none := by kernel_rfl
theorem laidOut : laidOutB Tryd.prog = true := by kernel_rfl
theorem laid_witness (os : Os) (args : Array Value) : laidMetH Tryd.prog Rows.lexemeScansRow.laid ((World.laidAll Tryd.prog os Rows.lexemeScansRow.laid).forCall (fun _ _ => 0) ⟨#[], args, []⟩).memory := by
  rw [MakeChecks.laidMetH_plain _ _ _ (by kernel_rfl)]
  exact laidMet_laidAll _ (by kernel_rfl) (by kernel_rfl)

/-- What the walks ask of a world: the library's table and errors, the keywords, the signs. -/
structure Good (w : World) : Prop where
  sz : 6 ≤ w.heap.size
  pow : Lib.TabIs Tryd.prog w "internal/strconv.uint64pow10" .u64 Lib.pow10Tab
  es : ∃ tp p, w.var? Tryd.prog "strconv.ErrSyntax" = some #[.iface tp p]
  er : ∃ tp p, w.var? Tryd.prog "strconv.ErrRange" = some #[.iface tp p]
  kw : ∀ (j : Nat) (s : List UInt8), Lex.keywords[j]? = some s → w.cell? ⟨1, j, none⟩ = some (.string ⟨s.toArray⟩)
  sg : ∀ (j : Nat) (s : List UInt8), Lex.signs[j]? = some s → w.cell? ⟨0, j, none⟩ = some (.string ⟨s.toArray⟩)
  sv : w.var? Tryd.prog "rewind/lexeme.signs" = some (Lex.signs.map fun s => Value.string ⟨s.toArray⟩).toArray

theorem gPow : Tryd.prog.globalNamed "internal/strconv.uint64pow10" = some 5 := by kernel_rfl
theorem gPowT : (Tryd.prog.globals[5]?).map (·.type) = some 89 := by kernel_rfl
theorem gEs : Tryd.prog.globalNamed "strconv.ErrSyntax" = some 3 := by kernel_rfl
theorem gEsT : (Tryd.prog.globals[3]?).map (·.type) = some 65 := by kernel_rfl
theorem gEr : Tryd.prog.globalNamed "strconv.ErrRange" = some 4 := by kernel_rfl
theorem gErT : (Tryd.prog.globals[4]?).map (·.type) = some 65 := by kernel_rfl
theorem gKw : Tryd.prog.globalNamed "rewind/lexeme.keywords" = some 1 := by kernel_rfl
theorem gKwT : (Tryd.prog.globals[1]?).map (·.type) = some 55 := by kernel_rfl
theorem gSg : Tryd.prog.globalNamed "rewind/lexeme.signs" = some 0 := by kernel_rfl
theorem gSgT : (Tryd.prog.globals[0]?).map (·.type) = some 53 := by kernel_rfl

theorem Good.below {w w' : World} {B : Nat} (h : Good w) (hb : Below B w w') (hB : w.heap.size ≤ B) : Good w' := by
  have := h.sz
  have := hb.size
  obtain ⟨t1, p1, h1⟩ := h.es
  obtain ⟨t2, p2, h2⟩ := h.er
  exact ⟨by omega, var?_below hb gPow (by omega) h.pow, ⟨t1, p1, var?_below hb gEs (by omega) h1⟩, ⟨t2, p2, var?_below hb gEr (by omega) h2⟩,
    fun j s hs => (hb.cell (p := ⟨1, j, none⟩) (by show 1 < B; omega)).trans (h.kw j s hs),
    fun j s hs => (hb.cell (p := ⟨0, j, none⟩) (by show 0 < B; omega)).trans (h.sg j s hs), var?_below hb gSg (by show 0 < B; omega) h.sv⟩
theorem Good.alloc {w : World} (h : Good w) (o : Obj) : Good (w.alloc o) := h.below ((Below.refl _ _).alloc (Nat.le_refl _) o) (Nat.le_refl _)
theorem Good.call {w w' : World} (h : Good w) (hb : Below w.heap.size w w') : Good w' := h.below hb (Nat.le_refl _)
theorem Good.drew {w : World} (h : Good w) : Good w.drew := h.below ((Below.refl w.heap.size _).drew) (Nat.le_refl _)

/-- The signs' row, whole. -/
theorem Good.row {w : World} (h : Good w) : ∃ t fr, w.heap[0]? = some (.cells (Lex.signs.map fun s => Value.string ⟨s.toArray⟩).toArray t fr) := by
  have := h.sv
  unfold World.var? at this
  rw [gSg] at this
  simp only [Option.bind_some] at this
  split at this
  · rename_i cs t fr e
    cases this
    exact ⟨t, fr, e⟩
  · cases this

theorem good_of {w : World} (h : laidMetH Tryd.prog Rows.lexemeScansRow.laid w) (_hs : w.ShapedOpen Tryd.prog) : Good w := by
  rw [MakeChecks.laidMetH_plain _ _ _ (by kernel_rfl)] at h
  have h2 := h.tail.tail
  have e2 : (Rows.laid_internal_strconv_uint64pow10 : DataW Unit) = Lib.tabData .u64 Lib.pow10Tab := by kernel_rfl
  rw [e2] at h2
  have h3 := h2.tail
  have h4 := h3.tail
  have h5 := h4.tail
  have h6 := h5.tail
  have hpow := Lib.tabIs_of_head gPow gPowT Tryd.underlying89 Tryd.underlying38 (show Tryd.prog.cellsOf 38 = 1 by kernel_rfl) (show Tryd.prog.cellsOf 89 = 20 by kernel_rfl) h2
  have hp0 := hpow.cell gPow 0 (by decide)
  have := lt_of_cell hp0
  obtain ⟨c3, f3, p3, v3, d3⟩ := laidHead gEr gErT h3
  obtain ⟨_, u3, x3, k3, _⟩ := iface_of_trod Tryd.underlying65 d3
  obtain ⟨c4, f4, p4, v4, d4⟩ := laidHead gEs gEsT h4
  obtain ⟨_, u4, x4, k4, _⟩ := iface_of_trod Tryd.underlying65 d4
  obtain ⟨c5, f5, p5, v5, d5⟩ := laidHead gKw gKwT h5
  obtain ⟨c6, f6, p6, v6, d6⟩ := laidHead gSg gSgT h6
  have k5 := cells_of_strs (ss := Lex.keywords) Tryd.underlying55 Tryd.underlying9 (show Tryd.prog.cellsOf 9 = 1 by kernel_rfl) (show Tryd.prog.cellsOf 55 = 15 by kernel_rfl) d5
  have k6 := cells_of_strs (ss := Lex.signs) Tryd.underlying53 Tryd.underlying9 (show Tryd.prog.cellsOf 9 = 1 by kernel_rfl) (show Tryd.prog.cellsOf 53 = 23 by kernel_rfl) d6
  refine ⟨this, hpow, ⟨u4, x4, ?_⟩, ⟨u3, x3, ?_⟩, fun j s hs => ?_, fun j s hs => ?_, ?_⟩
  · rw [v4, show c4 = #[.iface u4 x4] from Array.toList_inj.1 k4]
  · rw [v3, show c3 = #[.iface u3 x3] from Array.toList_inj.1 k3]
  · rw [World.var?_cell gKw v5 j, ← Array.getElem?_toList, k5, List.getElem?_map, hs]
    rfl
  · rw [World.var?_cell gSg v6 j, ← Array.getElem?_toList, k6, List.getElem?_map, hs]
    rfl
  · rw [v6, ← k6]

/-! ### Letters and digits -/
theorem letter_any (c : UInt8) (w : World) : Calls Tryd.prog 33 #[.int .u8 (c.toNat : Int)] w fun e w' => e = .returned (.bool (Lex.letr c)) ∧ w' = w := by
  obtain ⟨b, hb⟩ : ∃ b, Lex.letr c = b := ⟨_, rfl⟩
  rw [hb]
  have H := Lib.hid hb
  clear hb
  rcases (show c.toNat < 65 ∨ (65 ≤ c.toNat ∧ c.toNat ≤ 90) ∨ (90 < c.toNat ∧ c.toNat < 97) ∨ (97 ≤ c.toNat ∧ c.toNat ≤ 122) ∨ 122 < c.toNat by omega) with h1 | ⟨h1, h2⟩ | ⟨h1, h2⟩ | ⟨h1, h2⟩ | h1
  all_goals go_enter Tryd.func33, Tryd.ntmps33
  all_goals go_wp2
  all_goals go_ret
  all_goals exact ⟨ret_bool (by rw [← H.out]; unfold Lex.letr; rw [Bool.eq_iff_iff]; simp; omega), rfl⟩
theorem rletter_any (c : UInt8) (w : World) : Calls Tryd.prog 38 #[.int .u8 (c.toNat : Int)] w fun e w' => e = .returned (.bool (Lex.letr c)) ∧ w' = w := by
  obtain ⟨b, hb⟩ : ∃ b, Lex.letr c = b := ⟨_, rfl⟩
  rw [hb]
  have H := Lib.hid hb
  clear hb
  rcases (show c.toNat < 65 ∨ (65 ≤ c.toNat ∧ c.toNat ≤ 90) ∨ (90 < c.toNat ∧ c.toNat < 97) ∨ (97 ≤ c.toNat ∧ c.toNat ≤ 122) ∨ 122 < c.toNat by omega) with h1 | ⟨h1, h2⟩ | ⟨h1, h2⟩ | ⟨h1, h2⟩ | h1
  all_goals go_enter Tryd.func38, Tryd.ntmps38
  all_goals go_wp2
  all_goals go_ret
  all_goals exact ⟨ret_bool (by rw [← H.out]; unfold Lex.letr; rw [Bool.eq_iff_iff]; simp; omega), rfl⟩
theorem digit_any (c : UInt8) (w : World) : Calls Tryd.prog 36 #[.int .u8 (c.toNat : Int)] w fun e w' => e = .returned (.bool (Lex.dig c)) ∧ w' = w := by
  obtain ⟨b, hb⟩ : ∃ b, Lex.dig c = b := ⟨_, rfl⟩
  rw [hb]
  have H := Lib.hid hb
  clear hb
  rcases (show c.toNat < 48 ∨ (48 ≤ c.toNat ∧ c.toNat ≤ 57) ∨ 57 < c.toNat by omega) with h1 | ⟨h1, h2⟩ | h1
  all_goals go_enter Tryd.func36, Tryd.ntmps36
  all_goals go_wp2
  all_goals go_ret
  all_goals exact ⟨ret_bool (by rw [← H.out]; unfold Lex.dig; rw [Bool.eq_iff_iff]; simp; omega), rfl⟩
theorem rdigit_any (c : UInt8) (w : World) : Calls Tryd.prog 39 #[.int .u8 (c.toNat : Int)] w fun e w' => e = .returned (.bool (Lex.dig c)) ∧ w' = w := by
  obtain ⟨b, hb⟩ : ∃ b, Lex.dig c = b := ⟨_, rfl⟩
  rw [hb]
  have H := Lib.hid hb
  clear hb
  rcases (show c.toNat < 48 ∨ (48 ≤ c.toNat ∧ c.toNat ≤ 57) ∨ 57 < c.toNat by omega) with h1 | ⟨h1, h2⟩ | h1
  all_goals go_enter Tryd.func39, Tryd.ntmps39
  all_goals go_wp2
  all_goals go_ret
  all_goals exact ⟨ret_bool (by rw [← H.out]; unfold Lex.dig; rw [Bool.eq_iff_iff]; simp; omega), rfl⟩
theorem inWord_any (c : UInt8) (w : World) : Calls Tryd.prog 35 #[.int .u8 (c.toNat : Int)] w fun e w' => e = .returned (.bool (Lex.word c)) ∧ w' = w := by
  obtain ⟨b, hb⟩ : ∃ b, Lex.word c = b := ⟨_, rfl⟩
  rw [hb]
  have H := Lib.hid hb
  clear hb
  go_enter Tryd.func35, Tryd.ntmps35
  go_wp2_with fail
  refine (letter_any c _).mono ?_
  rintro e w1 ⟨rfl, rfl⟩
  have hd : ∀ (w : World), Calls Tryd.prog 36 #[.int .u8 (c.toNat : Int)] w fun e w' => e = .returned (.bool (Lex.dig c)) ∧ w' = w := digit_any c
  have HD := Lib.hid hd
  clear hd
  cases hl : Lex.letr c with
  | true =>
    go_wp2_with fail
    go_ret
    exact ⟨ret_bool (by rw [← H.out]; unfold Lex.word; rw [hl]; rfl), rfl⟩
  | false =>
    go_wp2_with fail
    refine (HD.out _).mono ?_
    rintro e w2 ⟨rfl, rfl⟩
    cases hd : Lex.dig c with
    | true =>
      go_wp2_with fail
      go_ret
      exact ⟨ret_bool (by rw [← H.out]; unfold Lex.word; rw [hl, hd]; rfl), rfl⟩
    | false =>
      by_cases h95 : c.toNat = 95
      · go_wp2_with fail
        go_ret
        exact ⟨ret_bool (by rw [← H.out]; unfold Lex.word; rw [hl, hd, decide_eq_true h95]; rfl), rfl⟩
      · go_wp2_with fail
        go_ret
        exact ⟨ret_bool (by rw [← H.out]; unfold Lex.word; rw [hl, hd, decide_eq_false h95, Bool.eq_iff_iff]; simp; omega), rfl⟩
end Go.Proofs.YtkjpnciimabclaaDoor

/-
  LAYER 2, THE FIRST CONTRACTS: what the listed variables give ('Good'); operators, comparisons.
-/
import Derived.Test.YtdogdpjgkhcndaaDoorRows
import Derived.Test.YtdogdpjgkhcndaaDoorGen3
import Derived.Test.YtdogdpjgkhcndaaDoorNum
import Derived.Test.YtdogdpjgkhcndaaDoorShelf
import Derived.LaidLaws
namespace Go.Proofs.YtdogdpjgkhcndaaDoor
open Go.ChangeShapes Go.WideShapes Go.ChangeAt Go.RowKit

theorem own : ownKnob Tryd.prog.godebug = none := by kernel_rfl
theorem laidOut : laidOutB Tryd.prog = true := by kernel_rfl
theorem laid_witness (os : Os) (args : Array Value) : laidMetH Tryd.prog Rows.numberDoesRow.laid (((((((((World.holding Tryd.prog os ⟨#[], #[], []⟩).setCell ⟨0, 6, none⟩ (.func (.func 93) #[] #[])).setCell ⟨0, 7, none⟩ (.func (.func 94) #[] #[])).setCell ⟨0, 8, none⟩ (.func (.func 95) #[] #[])).setCell ⟨0, 9, none⟩ (.func (.func 96) #[] #[])).setCell ⟨0, 10, none⟩ (.func (.func 97) #[] #[])).setCell ⟨0, 11, none⟩ (.func (.func 98) #[] #[])).layVars Tryd.prog (Rows.numberDoesRow.laid.filter fun x => x.2.handleName?.isNone)).forCall (fun _ _ => 0) ⟨#[], args, []⟩).memory :=
  laidMetH_of_parts3 (fuel := 8) (laidMet_from args (by kernel_rfl) (by kernel_rfl)) (by kernel_rfl) (by kernel_rfl)

/-- The functions of the table, from place 6 on. -/
def cmpF : List Nat := [93, 94, 95, 96, 97, 98]
/-- What the walks ask of a world: the library's table and errors, the comparisons. -/
structure Good (w : World) : Prop where
  sz : 5 ≤ w.heap.size
  pow : Lib.TabIs Tryd.prog w "internal/strconv.uint64pow10" .u64 Lib.pow10Tab
  es : ∃ tp p, w.var? Tryd.prog "strconv.ErrSyntax" = some #[.iface tp p]
  er : ∃ tp p, w.var? Tryd.prog "strconv.ErrRange" = some #[.iface tp p]
  ml : ∃ m, w.cell? ⟨4, 0, none⟩ = some (.int .i64 m)
  cm : ∀ (j f : Nat), cmpF[j]? = some f → w.cell? ⟨0, 6 + j, none⟩ = some (.func (.func f) #[] #[])

theorem gPow : Tryd.prog.globalNamed "internal/strconv.uint64pow10" = some 3 := by kernel_rfl
theorem gPowT : (Tryd.prog.globals[3]?).map (·.type) = some 90 := by kernel_rfl
theorem gEs : Tryd.prog.globalNamed "strconv.ErrSyntax" = some 1 := by kernel_rfl
theorem gEsT : (Tryd.prog.globals[1]?).map (·.type) = some 53 := by kernel_rfl
theorem gEr : Tryd.prog.globalNamed "strconv.ErrRange" = some 2 := by kernel_rfl
theorem gErT : (Tryd.prog.globals[2]?).map (·.type) = some 53 := by kernel_rfl
theorem gCm : Tryd.prog.globalNamed "rewind/number.comparisons" = some 0 := by kernel_rfl
theorem gCmT : (Tryd.prog.globals[0]?).map (·.type) = some 49 := by kernel_rfl

theorem Good.below {w w' : World} {B : Nat} (h : Good w) (hb : Below B w w') (hB : w.heap.size ≤ B) : Good w' := by
  have := h.sz
  have := hb.size
  obtain ⟨t1, p1, h1⟩ := h.es
  obtain ⟨t2, p2, h2⟩ := h.er
  obtain ⟨m, h3⟩ := h.ml
  exact ⟨by omega, var?_below hb gPow (by omega) h.pow, ⟨t1, p1, var?_below hb gEs (by omega) h1⟩, ⟨t2, p2, var?_below hb gEr (by omega) h2⟩,
    ⟨m, (hb.cell (p := ⟨4, 0, none⟩) (by show 4 < B; omega)).trans h3⟩,
    fun j f hf => (hb.cell (p := ⟨0, 6 + j, none⟩) (by show 0 < B; omega)).trans (h.cm j f hf)⟩
theorem Good.alloc {w : World} (h : Good w) (o : Obj) : Good (w.alloc o) := h.below ((Below.refl _ _).alloc (Nat.le_refl _) o) (Nat.le_refl _)
theorem Good.call {w w' : World} (h : Good w) (hb : Below w.heap.size w w') : Good w' := h.below hb (Nat.le_refl _)
theorem Good.drew {w : World} (h : Good w) : Good w.drew := h.below ((Below.refl w.heap.size _).drew) (Nat.le_refl _)

theorem good_of {w : World} (h : laidMetH Tryd.prog Rows.numberDoesRow.laid w) (hs : w.ShapedOpen Tryd.prog) : Good w := by
  obtain ⟨g, t, cs, fuel, p, hg, ht, hv, hd⟩ := h.funcs (n := "rewind/number.comparisons") (.tail _ (.tail _ (.tail _ (.tail _ (.tail _ (.tail _ (.head _)))))))
  obtain rfl := Option.some.inj (gCm.symm.trans hg)
  obtain rfl := Option.some.inj (gCmT.symm.trans ht)
  have h1 : laidMet Tryd.prog (Rows.numberDoesRow.laid.filter fun x => x.2.handleName?.isNone) w := (show laidMet Tryd.prog _ w ∧ handlesMet Tryd.prog _ w from h).1
  have h2 := h1.tail.tail
  have e2 : (Rows.laid_internal_strconv_uint64pow10 : DataW Unit) = Lib.tabData .u64 Lib.pow10Tab := by kernel_rfl
  have h2 : laidMet Tryd.prog (("internal/strconv.uint64pow10", Rows.laid_internal_strconv_uint64pow10) :: _) w := h2
  rw [e2] at h2
  have h3 := h2.tail.tail
  have h4 := h3.tail
  have hpow := Lib.tabIs_of_head gPow gPowT Tryd.underlying90 Tryd.underlying59 (show Tryd.prog.cellsOf 59 = 1 by kernel_rfl) (show Tryd.prog.cellsOf 90 = 20 by kernel_rfl) h2
  obtain ⟨c3, f3, p3, v3, d3⟩ := laidHead gEr gErT h3
  obtain ⟨_, u3, x3, k3, _⟩ := iface_of_trod Tryd.underlying53 d3
  obtain ⟨c4, f4, p4, v4, d4⟩ := laidHead gEs gEsT h4
  obtain ⟨_, u4, x4, k4, _⟩ := iface_of_trod Tryd.underlying53 d4
  obtain ⟨m, hm⟩ := Tryd.laysM146.s1_3 w hs
  have := lt_of_cell hm
  refine ⟨this, hpow, ⟨u4, x4, ?_⟩, ⟨u3, x3, ?_⟩, ⟨m, hm⟩, ?_⟩
  · rw [v4, show c4 = #[.iface u4 x4] from Array.toList_inj.1 k4]
  · rw [v3, show c3 = #[.iface u3 x3] from Array.toList_inj.1 k3]
  · have hce : Tryd.prog.cellsOf 34 = 1 := by kernel_rfl
    have hct : Tryd.prog.cellsOf 49 = 12 := by kernel_rfl
    have fin : ∀ {i : Nat} {v x : Value}, cs.toList[i]? = some v → v = x → w.cell? ⟨0, i, none⟩ = some x := fun {i v x} hc e => by
      rw [World.var?_cell gCm hv i, ← Array.getElem?_toList, hc, e]
    intro j f hf
    match j, hf with
    | 0, hf =>
      cases hf
      obtain ⟨v, n, q, hc, hr⟩ := func_at Tryd.underlying49 hce hct hd (i := 6) rfl
      exact fin hc (func_of_trod (f0 := 93) Tryd.underlying34 (by kernel_rfl) hr)
    | 1, hf =>
      cases hf
      obtain ⟨v, n, q, hc, hr⟩ := func_at Tryd.underlying49 hce hct hd (i := 7) rfl
      exact fin hc (func_of_trod (f0 := 94) Tryd.underlying34 (by kernel_rfl) hr)
    | 2, hf =>
      cases hf
      obtain ⟨v, n, q, hc, hr⟩ := func_at Tryd.underlying49 hce hct hd (i := 8) rfl
      exact fin hc (func_of_trod (f0 := 95) Tryd.underlying34 (by kernel_rfl) hr)
    | 3, hf =>
      cases hf
      obtain ⟨v, n, q, hc, hr⟩ := func_at Tryd.underlying49 hce hct hd (i := 9) rfl
      exact fin hc (func_of_trod (f0 := 96) Tryd.underlying34 (by kernel_rfl) hr)
    | 4, hf =>
      cases hf
      obtain ⟨v, n, q, hc, hr⟩ := func_at Tryd.underlying49 hce hct hd (i := 10) rfl
      exact fin hc (func_of_trod (f0 := 97) Tryd.underlying34 (by kernel_rfl) hr)
    | 5, hf =>
      cases hf
      obtain ⟨v, n, q, hc, hr⟩ := func_at Tryd.underlying49 hce hct hd (i := 11) rfl
      exact fin hc (func_of_trod (f0 := 98) Tryd.underlying34 (by kernel_rfl) hr)
    | k + 6, hf => cases hf

/-! ### Operators -/
/-- What an operator answers: the number, the trap, the error. -/
def doN (op a b : Int) : Int := if op = 1 then wrap64 (a + b) else if op = 2 then wrap64 (a - b) else if op = 3 then wrap64 (a * b) else if op = 4 then (if b = 0 then 0 else wrap64 (a.tdiv b)) else if op = 5 then (if b = 0 then 0 else a.tmod b) else 0
def doT (op b : Int) : Int := if (op = 4 ∨ op = 5) ∧ b = 0 then 1 else 0
def doE (op : Int) : Int := if 1 ≤ op ∧ op ≤ 5 then 0 else 2
theorem ret_int3 {k1 k2 k3 : IntKind} {x y z x' y' z' : Int} (h1 : x = x') (h2 : y = y') (h3 : z = z') : Ending.returned (.tuple #[.int k1 x, .int k2 y, .int k3 z]) = .returned (.tuple #[.int k1 x', .int k2 y', .int k3 z']) := by rw [h1, h2, h3]
theorem do_any (op a b : Int) (_ : -9223372036854775808 ≤ a) (_ : a ≤ 9223372036854775807) (b0 : -9223372036854775808 ≤ b) (b1 : b ≤ 9223372036854775807) (w : World) :
    Calls Tryd.prog 11 #[.int .i64 op, .int .i64 a, .int .i64 b] w fun e w' => e = .returned (.tuple #[.int .i64 (doN op a b), .int .i64 (doT op b), .int .i64 (doE op)]) ∧ w = w' := by
  rcases (show op < 1 ∨ op = 1 ∨ op = 2 ∨ op = 3 ∨ (op = 4 ∧ b = 0) ∨ (op = 4 ∧ ¬ b = 0) ∨ (op = 5 ∧ b = 0) ∨ (op = 5 ∧ ¬ b = 0) ∨ 5 < op by omega) with h | rfl | rfl | rfl | ⟨rfl, rfl⟩ | ⟨rfl, h⟩ | ⟨rfl, rfl⟩ | ⟨rfl, h⟩ | h
  all_goals go_enter Tryd.func11, Tryd.ntmps11
  all_goals go_wp2
  all_goals go_ret3
  all_goals exact ⟨ret_int3 (by unfold doN; (repeat' split) <;> first | rfl | omega) (by unfold doT; (repeat' split) <;> first | rfl | omega) (by unfold doE; (repeat' split) <;> first | rfl | omega), rfl⟩
theorem rdo_any (op a b : Int) (_ : -9223372036854775808 ≤ a) (_ : a ≤ 9223372036854775807) (b0 : -9223372036854775808 ≤ b) (b1 : b ≤ 9223372036854775807) (w : World) :
    Calls Tryd.prog 12 #[.int .i64 op, .int .i64 a, .int .i64 b] w fun e w' => e = .returned (.tuple #[.int .i64 (doN op a b), .int .i64 (doT op b), .int .i64 (doE op)]) ∧ w = w' := by
  rcases (show op < 1 ∨ op = 1 ∨ op = 2 ∨ op = 3 ∨ (op = 4 ∧ b = 0) ∨ (op = 4 ∧ ¬ b = 0) ∨ (op = 5 ∧ b = 0) ∨ (op = 5 ∧ ¬ b = 0) ∨ 5 < op by omega) with h | rfl | rfl | rfl | ⟨rfl, rfl⟩ | ⟨rfl, h⟩ | ⟨rfl, rfl⟩ | ⟨rfl, h⟩ | h
  all_goals go_enter Tryd.func12, Tryd.ntmps12
  all_goals go_wp2
  all_goals go_ret3
  all_goals exact ⟨ret_int3 (by unfold doN; (repeat' split) <;> first | rfl | omega) (by unfold doT; (repeat' split) <;> first | rfl | omega) (by unfold doE; (repeat' split) <;> first | rfl | omega), rfl⟩
theorem neg_any (a : Int) (w : World) : Calls Tryd.prog 15 #[.int .i64 a] w fun e w' => e = .returned (.int .i64 (wrap64 (-a))) ∧ w = w' := by
  go_enter Tryd.func15, Tryd.ntmps15
  go_wp2
  go_ret
  exact ⟨rfl, rfl⟩
theorem rneg_any (a : Int) (w : World) : Calls Tryd.prog 16 #[.int .i64 a] w fun e w' => e = .returned (.int .i64 (wrap64 (-a))) ∧ w = w' := by
  go_enter Tryd.func16, Tryd.ntmps16
  go_wp2
  go_ret
  exact ⟨rfl, rfl⟩

/-! ### Comparisons -/
def cmpB (op a b : Int) : Bool := if op = 6 then decide (a = b) else if op = 7 then !decide (a = b) else if op = 8 then decide (a < b) else if op = 9 then decide (a ≤ b) else if op = 10 then decide (b < a) else if op = 11 then decide (b ≤ a) else false
def cmpE (op : Int) : Int := if 6 ≤ op ∧ op ≤ 11 then 0 else 2
theorem ret_bi {k : IntKind} {x x' : Bool} {y y' : Int} (h1 : x = x') (h2 : y = y') : Ending.returned (.tuple #[.bool x, .int k y]) = .returned (.tuple #[.bool x', .int k y']) := by rw [h1, h2]
theorem cmp6_any (a b : Int) (w : World) : Calls Tryd.prog 93 #[.int .i64 a, .int .i64 b] w fun e w' => e = .returned (.bool (cmpB 6 a b)) ∧ w = w' := by
  go_enter Tryd.func93, Tryd.ntmps93
  go_wp2
  go_ret
  exact ⟨ret_bool (by unfold cmpB; simp; (try rw [Bool.eq_iff_iff]; simp)), rfl⟩
theorem cmp7_any (a b : Int) (w : World) : Calls Tryd.prog 94 #[.int .i64 a, .int .i64 b] w fun e w' => e = .returned (.bool (cmpB 7 a b)) ∧ w = w' := by
  go_enter Tryd.func94, Tryd.ntmps94
  go_wp2
  go_ret
  exact ⟨ret_bool (by unfold cmpB; simp; (try rw [Bool.eq_iff_iff]; simp)), rfl⟩
theorem cmp8_any (a b : Int) (w : World) : Calls Tryd.prog 95 #[.int .i64 a, .int .i64 b] w fun e w' => e = .returned (.bool (cmpB 8 a b)) ∧ w = w' := by
  go_enter Tryd.func95, Tryd.ntmps95
  go_wp2
  go_ret
  exact ⟨ret_bool (by unfold cmpB; simp; (try rw [Bool.eq_iff_iff]; simp)), rfl⟩
theorem cmp9_any (a b : Int) (w : World) : Calls Tryd.prog 96 #[.int .i64 a, .int .i64 b] w fun e w' => e = .returned (.bool (cmpB 9 a b)) ∧ w = w' := by
  go_enter Tryd.func96, Tryd.ntmps96
  go_wp2
  go_ret
  exact ⟨ret_bool (by unfold cmpB; simp; (try rw [Bool.eq_iff_iff]; simp)), rfl⟩
theorem cmp10_any (a b : Int) (w : World) : Calls Tryd.prog 97 #[.int .i64 a, .int .i64 b] w fun e w' => e = .returned (.bool (cmpB 10 a b)) ∧ w = w' := by
  go_enter Tryd.func97, Tryd.ntmps97
  go_wp2
  go_ret
  exact ⟨ret_bool (by unfold cmpB; simp; (try rw [Bool.eq_iff_iff]; simp)), rfl⟩
theorem cmp11_any (a b : Int) (w : World) : Calls Tryd.prog 98 #[.int .i64 a, .int .i64 b] w fun e w' => e = .returned (.bool (cmpB 11 a b)) ∧ w = w' := by
  go_enter Tryd.func98, Tryd.ntmps98
  go_wp2
  go_ret
  exact ⟨ret_bool (by unfold cmpB; simp; (try rw [Bool.eq_iff_iff]; simp)), rfl⟩
theorem cmp_out (op a b : Int) (h : op < 6 ∨ 11 < op) : cmpB op a b = false ∧ cmpE op = 2 := by
  unfold cmpB cmpE
  refine ⟨?_, by rw [if_neg (by omega)]⟩
  rw [if_neg (by omega), if_neg (by omega), if_neg (by omega), if_neg (by omega), if_neg (by omega), if_neg (by omega)]
theorem compare_any (op a b : Int) (w : World) (hG : Good w) :
    Calls Tryd.prog 13 #[.int .i64 op, .int .i64 a, .int .i64 b] w fun e w' => e = .returned (.tuple #[.bool (cmpB op a b), .int .i64 (cmpE op)]) ∧ w = w' := by
  rcases (show op < 6 ∨ op = 6 ∨ op = 7 ∨ op = 8 ∨ op = 9 ∨ op = 10 ∨ op = 11 ∨ 11 < op by omega) with h | rfl | rfl | rfl | rfl | rfl | rfl | h
  · obtain ⟨h1, h2⟩ := cmp_out op a b (.inl h)
    rw [h1, h2]
    clear h1 h2 hG
    go_enter Tryd.func13, Tryd.ntmps13
    go_wp2
    go_ret2
    exact ⟨rfl, rfl⟩
  · have c0 := hG.cm 0 _ rfl
    clear hG
    go_enter Tryd.func13, Tryd.ntmps13
    go_wp2_with fail
    refine (cmp6_any a b _).mono ?_
    rintro e w' ⟨rfl, rfl⟩
    go_wp2_with fail
    go_ret2
    exact ⟨rfl, rfl⟩
  · have c0 := hG.cm 1 _ rfl
    clear hG
    go_enter Tryd.func13, Tryd.ntmps13
    go_wp2_with fail
    refine (cmp7_any a b _).mono ?_
    rintro e w' ⟨rfl, rfl⟩
    go_wp2_with fail
    go_ret2
    exact ⟨rfl, rfl⟩
  · have c0 := hG.cm 2 _ rfl
    clear hG
    go_enter Tryd.func13, Tryd.ntmps13
    go_wp2_with fail
    refine (cmp8_any a b _).mono ?_
    rintro e w' ⟨rfl, rfl⟩
    go_wp2_with fail
    go_ret2
    exact ⟨rfl, rfl⟩
  · have c0 := hG.cm 3 _ rfl
    clear hG
    go_enter Tryd.func13, Tryd.ntmps13
    go_wp2_with fail
    refine (cmp9_any a b _).mono ?_
    rintro e w' ⟨rfl, rfl⟩
    go_wp2_with fail
    go_ret2
    exact ⟨rfl, rfl⟩
  · have c0 := hG.cm 4 _ rfl
    clear hG
    go_enter Tryd.func13, Tryd.ntmps13
    go_wp2_with fail
    refine (cmp10_any a b _).mono ?_
    rintro e w' ⟨rfl, rfl⟩
    go_wp2_with fail
    go_ret2
    exact ⟨rfl, rfl⟩
  · have c0 := hG.cm 5 _ rfl
    clear hG
    go_enter Tryd.func13, Tryd.ntmps13
    go_wp2_with fail
    refine (cmp11_any a b _).mono ?_
    rintro e w' ⟨rfl, rfl⟩
    go_wp2_with fail
    go_ret2
    exact ⟨rfl, rfl⟩
  · obtain ⟨h1, h2⟩ := cmp_out op a b (.inr h)
    rw [h1, h2]
    clear h1 h2 hG
    go_enter Tryd.func13, Tryd.ntmps13
    go_wp2
    go_ret2
    exact ⟨rfl, rfl⟩
theorem rcompare_any (op a b : Int) (w : World) :
    Calls Tryd.prog 14 #[.int .i64 op, .int .i64 a, .int .i64 b] w fun e w' => e = .returned (.tuple #[.bool (cmpB op a b), .int .i64 (cmpE op)]) ∧ w = w' := by
  rcases (show op < 6 ∨ op = 6 ∨ op = 7 ∨ op = 8 ∨ op = 9 ∨ op = 10 ∨ op = 11 ∨ 11 < op by omega) with h | rfl | rfl | rfl | rfl | rfl | rfl | h
  case inl => 
    obtain ⟨h1, h2⟩ := cmp_out op a b (.inl h)
    rw [h1, h2]
    clear h1 h2
    go_enter Tryd.func14, Tryd.ntmps14
    go_wp2
    go_ret2
    exact ⟨rfl, rfl⟩
  case inr.inr.inr.inr.inr.inr.inr =>
    obtain ⟨h1, h2⟩ := cmp_out op a b (.inr h)
    rw [h1, h2]
    clear h1 h2
    go_enter Tryd.func14, Tryd.ntmps14
    go_wp2
    go_ret2
    exact ⟨rfl, rfl⟩
  all_goals go_enter Tryd.func14, Tryd.ntmps14
  all_goals go_wp2
  all_goals go_ret2
  all_goals exact ⟨ret_bi (by unfold cmpB; simp; (try rw [Bool.eq_iff_iff]; simp)) rfl, rfl⟩

/-! ### What is kept, hidden -/
def FInv (w0 W : World) : Prop := Good W ∧ Below w0.heap.size w0 W
theorem FInv.good {w0 W : World} (h : Hid (FInv w0 W)) : Good W := h.out.1
theorem FInv.drew {w0 W : World} (h : Hid (FInv w0 W)) : Hid (FInv w0 W.drew) := Lib.hid ⟨h.out.1.drew, h.out.2.drew⟩
theorem FInv.alloc {w0 W : World} (h : Hid (FInv w0 W)) (o : Obj) : Hid (FInv w0 (W.alloc o)) := Lib.hid ⟨h.out.1.alloc o, below_new h.out.2 o⟩
theorem FInv.drewN {w0 W : World} (h : Hid (FInv w0 W)) (n : Nat) : Hid (FInv w0 (W.drewN n)) := Lib.hid ⟨h.out.1.below ⟨rfl, rfl, rfl, Nat.le_refl _, fun _ _ => rfl⟩ (Nat.le_refl _), ⟨h.out.2.os, h.out.2.tape, h.out.2.output, h.out.2.size, h.out.2.block⟩⟩
theorem FInv.call {w0 W W' : World} (h : Hid (FInv w0 W)) (hb : Below W.heap.size W W') : Hid (FInv w0 W') := Lib.hid ⟨h.out.1.call hb, below_call h.out.2 hb⟩
theorem FInv.of {w0 W : World} (h : Good w0) (hb : Below w0.heap.size w0 W) : Hid (FInv w0 W) := Lib.hid ⟨h.below hb (Nat.le_refl _), hb⟩
end Go.Proofs.YtdogdpjgkhcndaaDoor

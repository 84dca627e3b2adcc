/-
  LAYER 16: what the listed variables give ('Good'); the strings of values, in the program and in the reference.
-/
import Derived.Test.YtfghigioofaidaaDoorVal1
import Derived.Test.YtfghigioofaidaaDoorShelf
namespace Go.Proofs.YtfghigioofaidaaDoor
open Go.ChangeShapes Go.WideShapes Go.ChangeAt Go.RowKit

/-- What the walks ask of a world: the library's table, and the strings of truth values. -/
structure Good (w : World) : Prop where
  sz : 2 ≤ w.heap.size
  pow : Lib.TabIs Tryd.prog w "internal/strconv.uint64pow10" .u64 Lib.pow10Tab
  t0 : w.cell? ⟨0, 0, none⟩ = some (.string ⟨#[102, 97, 108, 115, 101]⟩)
  t1 : w.cell? ⟨0, 1, none⟩ = some (.string ⟨#[116, 114, 117, 101]⟩)

theorem gPow : Tryd.prog.globalNamed "internal/strconv.uint64pow10" = some 1 := by kernel_rfl
theorem gPowT : (Tryd.prog.globals[1]?).map (·.type) = some 72 := by kernel_rfl
theorem gTru : Tryd.prog.globalNamed "rewind/value.truths" = some 0 := by kernel_rfl
theorem gTruT : (Tryd.prog.globals[0]?).map (·.type) = some 48 := by kernel_rfl

theorem Good.below {w w' : World} {B : Nat} (h : Good w) (hb : Below B w w') (hB : w.heap.size ≤ B) : Good w' := by
  have := h.sz
  have := hb.size
  exact ⟨by omega, var?_below hb gPow (by omega) h.pow, (hb.cell (p := ⟨0, 0, none⟩) (by show 0 < B; omega)).trans h.t0, (hb.cell (p := ⟨0, 1, none⟩) (by show 0 < B; omega)).trans h.t1⟩
theorem Good.alloc {w : World} (h : Good w) (o : Obj) : Good (w.alloc o) := h.below ((Below.refl _ _).alloc (Nat.le_refl _) o) (Nat.le_refl _)
theorem Good.call {w w' : World} (h : Good w) (hb : Below w.heap.size w w') : Good w' := h.below hb (Nat.le_refl _)
theorem Good.drew {w : World} (h : Good w) : Good w.drew := h.below ((Below.refl w.heap.size _).drew) (Nat.le_refl _)

theorem good_of {w : World} (h : laidMetH Tryd.prog Rows.valueOnesRow.laid w) (_hs : w.ShapedOpen Tryd.prog) : Good w := by
  rw [MakeChecks.laidMetH_plain _ _ _ (by kernel_rfl)] at h
  have h2 := h.tail.tail
  have e2 : (Rows.laid_internal_strconv_uint64pow10 : DataW Unit) = Lib.tabData .u64 Lib.pow10Tab := by kernel_rfl
  rw [e2] at h2
  obtain ⟨cs, fuel, p, hv, hd⟩ := laidHead gTru gTruT h2.tail
  have hc := cells_of_strs (ss := [[102, 97, 108, 115, 101], [116, 114, 117, 101]]) Tryd.underlying48 Tryd.underlying9 (show Tryd.prog.cellsOf 9 = 1 by kernel_rfl) (show Tryd.prog.cellsOf 48 = 2 by kernel_rfl) hd
  have hpow := Lib.tabIs_of_head gPow gPowT Tryd.underlying72 Tryd.underlying51 (show Tryd.prog.cellsOf 51 = 1 by kernel_rfl) (show Tryd.prog.cellsOf 72 = 20 by kernel_rfl) h2
  have hp0 := hpow.cell gPow 0 (by decide)
  have := lt_of_cell hp0
  have hcell := fun j => World.var?_cell gTru hv j
  exact ⟨this, hpow, by rw [hcell, ← Array.getElem?_toList, hc]; rfl, by rw [hcell, ← Array.getElem?_toList, hc]; rfl⟩

theorem text_bad (t n : Int) (hc : Val.chk t n = 2) (w : World) :
    Calls Tryd.prog 8 #[.agg #[.int .i64 t, .int .i64 n]] w fun e w' => e = .returned (.tuple #[.string ⟨#[]⟩, .int .i64 2]) ∧ Below w.heap.size w w' := by
  have H := Lib.hid hc
  clear hc
  go_enter Tryd.func8, Tryd.ntmps8
  go_wp2_with fail
  refine (check_any t n _).mono ?_
  rintro e w1 ⟨rfl, hb⟩
  rw [H.out]
  go_wp2_with fail
  go_ret2
  exact ⟨rfl, behind hb⟩

theorem text_bool0 (w : World) (hG : Good w) :
    Calls Tryd.prog 8 #[.agg #[.int .i64 2, .int .i64 0]] w fun e w' => e = .returned (.tuple #[.string ⟨Val.sFalse.toArray⟩, .int .i64 0]) ∧ Below w.heap.size w w' := by
  go_enter Tryd.func8, Tryd.ntmps8
  go_wp2_with fail
  refine (check_any 2 0 _).mono ?_
  rintro e w1 ⟨rfl, hb⟩
  have H := Lib.hid hb
  have c0 := boxed hb 0 _ rfl
  have c1 := boxed hb 1 _ rfl
  have ht := ((hG.alloc _).below hb (Nat.le_refl _)).t0
  clear hb hG
  rw [show Val.chk 2 0 = 0 by decide]
  go_wp2_with fail
  go_ret2
  exact ⟨rfl, behind H.out⟩

theorem text_bool1 (w : World) (hG : Good w) :
    Calls Tryd.prog 8 #[.agg #[.int .i64 2, .int .i64 1]] w fun e w' => e = .returned (.tuple #[.string ⟨Val.sTrue.toArray⟩, .int .i64 0]) ∧ Below w.heap.size w w' := by
  go_enter Tryd.func8, Tryd.ntmps8
  go_wp2_with fail
  refine (check_any 2 1 _).mono ?_
  rintro e w1 ⟨rfl, hb⟩
  have H := Lib.hid hb
  have c0 := boxed hb 0 _ rfl
  have c1 := boxed hb 1 _ rfl
  have ht := ((hG.alloc _).below hb (Nat.le_refl _)).t1
  clear hb hG
  rw [show Val.chk 2 1 = 0 by decide]
  go_wp2_with fail
  go_ret2
  exact ⟨rfl, behind H.out⟩

theorem text_arr (n : Int) (h0 : 0 ≤ n) (h1 : n ≤ 9223372036854775807) (w : World) (hG : Good w) :
    Calls Tryd.prog 8 #[.agg #[.int .i64 3, .int .i64 n]] w fun e w' => e = .returned (.tuple #[.string ⟨(35 :: Lib.itoa n).toArray⟩, .int .i64 0]) ∧ Below w.heap.size w w' := by
  have hlen : (Lib.itoa n).length ≤ 20 := Dec.itoa_length (by omega) h1
  have hck : Val.chk 3 n = 0 := by simp [Val.chk, h0]
  have K := Lib.hid hck
  clear hck
  go_enter Tryd.func8, Tryd.ntmps8
  go_wp2_with fail
  refine (check_any 3 n _).mono ?_
  rintro e w1 ⟨rfl, hb⟩
  have H := Lib.hid hb
  have c0 := boxed hb 0 _ rfl
  have c1 := boxed hb 1 _ rfl
  have hG1 := ((hG.alloc _).below hb (Nat.le_refl _))
  clear hb hG
  rw [K.out]
  go_wp2_with fail
  refine (Tryd.strconv_FormatInt_10 n (by omega) h1 _ hG1.pow).mono ?_
  rintro e w2 ⟨rfl, k, os, rfl⟩
  go_wp2_with fail
  go_ret2
  exact ⟨by rw [show (⟨#[35]⟩ : ByteArray) = ⟨[35].toArray⟩ from rfl, ByteArray.mk_append_mk]; rfl, (behind H.out).trans ((below_grow k os).mono (behind H.out).size)⟩

theorem text_int (n : Int) (h0 : -9223372036854775808 ≤ n) (h1 : n ≤ 9223372036854775807) (w : World) (hG : Good w) :
    Calls Tryd.prog 8 #[.agg #[.int .i64 1, .int .i64 n]] w fun e w' => e = .returned (.tuple #[.string ⟨(Lib.itoa n).toArray⟩, .int .i64 0]) ∧ Below w.heap.size w w' := by
  have hck : Val.chk 1 n = 0 := by simp [Val.chk]
  have K := Lib.hid hck
  clear hck
  go_enter Tryd.func8, Tryd.ntmps8
  go_wp2_with fail
  refine (check_any 1 n _).mono ?_
  rintro e w1 ⟨rfl, hb⟩
  have H := Lib.hid hb
  have c0 := boxed hb 0 _ rfl
  have c1 := boxed hb 1 _ rfl
  have hG1 := ((hG.alloc _).below hb (Nat.le_refl _))
  clear hb hG
  rw [K.out]
  go_wp2_with fail
  refine (Tryd.strconv_FormatInt_10 n h0 h1 _ hG1.pow).mono ?_
  rintro e w2 ⟨rfl, k, os, rfl⟩
  go_wp2_with fail
  go_ret2
  exact ⟨rfl, (behind H.out).trans ((below_grow k os).mono (behind H.out).size)⟩

/-- value.Text: the string of a value, and the error. -/
theorem text_any (t n : Int) (h0 : -9223372036854775808 ≤ n) (h1 : n ≤ 9223372036854775807) (w : World) (hG : Good w) :
    Calls Tryd.prog 8 #[.agg #[.int .i64 t, .int .i64 n]] w fun e w' => e = .returned (.tuple #[.string ⟨(Val.txt t n).toArray⟩, .int .i64 (Val.chk t n)]) ∧ Below w.heap.size w w' := by
  rcases Val.chk_two t n with hc | hc
  · have hx := hc
    unfold Val.chk at hx
    by_cases e1 : t = 1
    · subst e1
      have := text_int n h0 h1 w hG
      rw [hc, show Val.txt 1 n = Lib.itoa n by unfold Val.txt; rw [if_pos hc]; rfl]
      exact this
    · by_cases e2 : t = 2
      · subst e2
        have hn : n = 0 ∨ n = 1 := by
          rw [if_neg (by decide), if_pos rfl] at hx
          split at hx <;> omega
        rcases hn with rfl | rfl
        · exact text_bool0 w hG
        · exact text_bool1 w hG
      · by_cases e3 : t = 3
        · subst e3
          have hn : 0 ≤ n := by
            rw [if_neg (by decide), if_neg (by decide), if_pos rfl] at hx
            split at hx <;> omega
          have := text_arr n hn h1 w hG
          rw [hc, show Val.txt 3 n = 35 :: Lib.itoa n by unfold Val.txt; rw [if_pos hc]; rfl]
          exact this
        · rw [if_neg e1, if_neg e2, if_neg e3] at hx
          omega
  · have := text_bad t n hc w
    rw [hc, show Val.txt t n = [] by unfold Val.txt; rw [if_neg (by omega)]]
    exact this
end Go.Proofs.YtfghigioofaidaaDoor

/-
  LAYER 16: the reference's strings of values; the values of types, in the program and in the reference.
-/
import Derived.Test.YtfghigioofaidaaDoorVal2
namespace Go.Proofs.YtfghigioofaidaaDoor
open Go.ChangeShapes Go.WideShapes Go.ChangeAt Go.RowKit

theorem u64_neg_neg (n : Int) (h0 : -9223372036854775808 ≤ n) (h1 : n < 0) : IntKind.u64.wrap (-IntKind.u64.wrap n) = -n := by
  rw [IntKind.wrap_u64, IntKind.wrap_u64]
  omega

theorem rtext_bad (t n : Int) (hc : Val.chk t n = 2) (w : World) :
    Calls Tryd.prog 9 #[.agg #[.int .i64 t, .int .i64 n]] w fun e w' => e = .returned (.tuple #[.string ⟨#[]⟩, .int .i64 2]) ∧ Below w.heap.size w w' := by
  have H := Lib.hid hc
  clear hc
  go_enter Tryd.func9, Tryd.ntmps9
  go_wp2_with fail
  refine (rcheck_any t n _).mono ?_
  rintro e w1 ⟨rfl, hb⟩
  rw [H.out]
  go_wp2_with fail
  go_ret2
  exact ⟨rfl, behind hb⟩

theorem rtext_nn (n : Int) (h0 : 0 ≤ n) (h1 : n ≤ 9223372036854775807) (w : World) :
    Calls Tryd.prog 9 #[.agg #[.int .i64 1, .int .i64 n]] w fun e w' => e = .returned (.tuple #[.string ⟨(Lib.itoa n).toArray⟩, .int .i64 0]) ∧ Below w.heap.size w w' := by
  have hck : Val.chk 1 n = 0 := by simp [Val.chk]
  have K := Lib.hid hck
  clear hck
  go_enter Tryd.func9, Tryd.ntmps9
  go_wp2_with fail
  refine (rcheck_any 1 n _).mono ?_
  rintro e w1 ⟨rfl, hb⟩
  have H := Lib.hid hb
  have c0 := boxed hb 0 _ rfl
  have c1 := boxed hb 1 _ rfl
  clear hb
  rw [K.out]
  go_wp2_with fail
  refine (digits_any n.toNat n _ (Nat.le_refl _) h0 (by omega)).mono ?_
  rintro e w2 ⟨rfl, rfl⟩
  go_wp2_with fail
  go_ret2
  exact ⟨by rw [Dec.itoa_nn h0]; rfl, behind H.out⟩

theorem rtext_neg (n : Int) (h0 : -9223372036854775808 ≤ n) (h1 : n < 0) (w : World) :
    Calls Tryd.prog 9 #[.agg #[.int .i64 1, .int .i64 n]] w fun e w' => e = .returned (.tuple #[.string ⟨(Lib.itoa n).toArray⟩, .int .i64 0]) ∧ Below w.heap.size w w' := by
  have hlen : (Lib.decDigits (-n).toNat).length ≤ 20 := Dec.dec_length_le (by omega)
  have hck : Val.chk 1 n = 0 := by simp [Val.chk]
  have K := Lib.hid hck
  clear hck
  go_enter Tryd.func9, Tryd.ntmps9
  go_wp2_with fail
  refine (rcheck_any 1 n _).mono ?_
  rintro e w1 ⟨rfl, hb⟩
  have H := Lib.hid hb
  have c0 := boxed hb 0 _ rfl
  have c1 := boxed hb 1 _ rfl
  clear hb
  rw [K.out]
  go_wp2_with fail
  rw [u64_neg_neg n h0 h1]
  refine (digits_any (-n).toNat (-n) _ (Nat.le_refl _) (by omega) (by omega)).mono ?_
  rintro e w2 ⟨rfl, rfl⟩
  go_wp2_with fail
  go_ret2
  exact ⟨by rw [Dec.itoa_neg h1, show (⟨#[45]⟩ : ByteArray) = ⟨[45].toArray⟩ from rfl, ByteArray.mk_append_mk, show n.natAbs = (-n).toNat by omega]; rfl, behind H.out⟩

theorem rtext_arr (n : Int) (h0 : 0 ≤ n) (h1 : n ≤ 9223372036854775807) (w : World) :
    Calls Tryd.prog 9 #[.agg #[.int .i64 3, .int .i64 n]] w fun e w' => e = .returned (.tuple #[.string ⟨(35 :: Lib.itoa n).toArray⟩, .int .i64 0]) ∧ Below w.heap.size w w' := by
  have hlen : (Lib.decDigits n.toNat).length ≤ 20 := Dec.dec_length_le (by omega)
  have hck : Val.chk 3 n = 0 := by simp [Val.chk, h0]
  have K := Lib.hid hck
  clear hck
  go_enter Tryd.func9, Tryd.ntmps9
  go_wp2_with fail
  refine (rcheck_any 3 n _).mono ?_
  rintro e w1 ⟨rfl, hb⟩
  have H := Lib.hid hb
  have c0 := boxed hb 0 _ rfl
  have c1 := boxed hb 1 _ rfl
  clear hb
  rw [K.out]
  go_wp2_with fail
  refine (digits_any n.toNat n _ (Nat.le_refl _) h0 (by omega)).mono ?_
  rintro e w2 ⟨rfl, rfl⟩
  go_wp2_with fail
  go_ret2
  exact ⟨by rw [Dec.itoa_nn h0, show (⟨#[35]⟩ : ByteArray) = ⟨[35].toArray⟩ from rfl, ByteArray.mk_append_mk]; rfl, behind H.out⟩

theorem rtext_bool0 (w : World) :
    Calls Tryd.prog 9 #[.agg #[.int .i64 2, .int .i64 0]] w fun e w' => e = .returned (.tuple #[.string ⟨Val.sFalse.toArray⟩, .int .i64 0]) ∧ Below w.heap.size w w' := by
  have hck : Val.chk 2 0 = 0 := by decide
  have K := Lib.hid hck
  clear hck
  go_enter Tryd.func9, Tryd.ntmps9
  go_wp2_with fail
  refine (rcheck_any 2 0 _).mono ?_
  rintro e w1 ⟨rfl, hb⟩
  have H := Lib.hid hb
  have c0 := boxed hb 0 _ rfl
  have c1 := boxed hb 1 _ rfl
  clear hb
  rw [K.out]
  go_wp2_with fail
  go_ret2
  exact ⟨rfl, behind H.out⟩

theorem rtext_bool1 (w : World) :
    Calls Tryd.prog 9 #[.agg #[.int .i64 2, .int .i64 1]] w fun e w' => e = .returned (.tuple #[.string ⟨Val.sTrue.toArray⟩, .int .i64 0]) ∧ Below w.heap.size w w' := by
  have hck : Val.chk 2 1 = 0 := by decide
  have K := Lib.hid hck
  clear hck
  go_enter Tryd.func9, Tryd.ntmps9
  go_wp2_with fail
  refine (rcheck_any 2 1 _).mono ?_
  rintro e w1 ⟨rfl, hb⟩
  have H := Lib.hid hb
  have c0 := boxed hb 0 _ rfl
  have c1 := boxed hb 1 _ rfl
  clear hb
  rw [K.out]
  go_wp2_with fail
  go_ret2
  exact ⟨rfl, behind H.out⟩

/-- The reference's Text: the same. -/
theorem rtext_any (t n : Int) (h0 : -9223372036854775808 ≤ n) (h1 : n ≤ 9223372036854775807) (w : World) :
    Calls Tryd.prog 9 #[.agg #[.int .i64 t, .int .i64 n]] w fun e w' => e = .returned (.tuple #[.string ⟨(Val.txt t n).toArray⟩, .int .i64 (Val.chk t n)]) ∧ Below w.heap.size w w' := by
  rcases Val.chk_two t n with hc | hc
  · have hx := hc
    unfold Val.chk at hx
    by_cases e1 : t = 1
    · subst e1
      rw [hc, show Val.txt 1 n = Lib.itoa n by unfold Val.txt; rw [if_pos hc]; rfl]
      by_cases hn : 0 ≤ n
      · exact rtext_nn n hn h1 w
      · exact rtext_neg n h0 (by omega) w
    · by_cases e2 : t = 2
      · subst e2
        have hn : n = 0 ∨ n = 1 := by
          rw [if_neg (by decide), if_pos rfl] at hx
          split at hx <;> omega
        rcases hn with rfl | rfl
        · exact rtext_bool0 w
        · exact rtext_bool1 w
      · by_cases e3 : t = 3
        · subst e3
          have hn : 0 ≤ n := by
            rw [if_neg (by decide), if_neg (by decide), if_pos rfl] at hx
            split at hx <;> omega
          have := rtext_arr n hn h1 w
          rw [hc, show Val.txt 3 n = 35 :: Lib.itoa n by unfold Val.txt; rw [if_pos hc]; rfl]
          exact this
        · rw [if_neg e1, if_neg e2, if_neg e3] at hx
          omega
  · have := rtext_bad t n hc w
    rw [hc, show Val.txt t n = [] by unfold Val.txt; rw [if_neg (by omega)]]
    exact this

/-- The value of a type and a number; or nought, and the error. -/
theorem of_any (t n : Int) (w : World) :
    Calls Tryd.prog 10 #[.int .i64 t, .int .i64 n] w fun e w' => e = .returned (.tuple #[.agg #[.int .i64 (Val.ofT t n), .int .i64 (Val.ofN t n)], .int .i64 (Val.chk t n)]) ∧ Below w.heap.size w w' := by
  rcases Val.chk_two t n with hc | hc
  · rw [show Val.ofT t n = t by unfold Val.ofT; rw [if_pos hc], show Val.ofN t n = n by unfold Val.ofN; rw [if_pos hc], hc]
    have K := Lib.hid hc
    clear hc
    go_enter Tryd.func10, Tryd.ntmps10
    go_wp2_with fail
    refine (check_any t n _).mono ?_
    rintro e w1 ⟨rfl, hb⟩
    have H := Lib.hid hb
    have R := ((Blk.new w 23 #[.int .i64 0, .int .i64 0]).alloc _).below hb (by simp; omega)
    have V : Blk w1 (w.heap.size + 1) 23 #[.int .i64 t, .int .i64 n] := by
      have := (Blk.new (w.alloc (.cells #[.int .i64 0, .int .i64 0] 23)) 23 #[.int .i64 t, .int .i64 n]).below hb (by simp)
      rwa [World.size_alloc] at this
    have r0 : w1.cell? ⟨w.heap.size, 0, none⟩ = some (.int .i64 0) := R.cell 0
    have r1 : w1.cell? ⟨w.heap.size, 1, none⟩ = some (.int .i64 0) := R.cell 1
    have f0 := R.frozen 0
    have f1 := R.frozen 1
    have v0 : w1.cell? ⟨w.heap.size + 1, 0, none⟩ = some (.int .i64 t) := V.cell 0
    have v1 : w1.cell? ⟨w.heap.size + 1, 1, none⟩ = some (.int .i64 n) := V.cell 1
    clear hb R V
    rw [K.out]
    go_wp2_with fail
    refine bodyPost_ret (v := .tuple #[.agg #[.int .i64 t, .int .i64 n], .int .i64 0]) (by simp [results, Tryd.results10, go_sem, r0, r1]) rfl ⟨rfl, ?_⟩
    exact (((((Below.refl w.heap.size w).alloc (Nat.le_refl _) _).alloc (by simp) _).trans (H.out.mono (by simp; omega))).setCell (Nat.le_refl _) _).setCell (Nat.le_refl _) _
  · rw [show Val.ofT t n = 0 by unfold Val.ofT; rw [if_neg (by omega)], show Val.ofN t n = 0 by unfold Val.ofN; rw [if_neg (by omega)], hc]
    have K := Lib.hid hc
    clear hc
    go_enter Tryd.func10, Tryd.ntmps10
    go_wp2_with fail
    refine (check_any t n _).mono ?_
    rintro e w1 ⟨rfl, hb⟩
    have H := Lib.hid hb
    have R := ((Blk.new w 23 #[.int .i64 0, .int .i64 0]).alloc _).below hb (by simp; omega)
    have r0 : w1.cell? ⟨w.heap.size, 0, none⟩ = some (.int .i64 0) := R.cell 0
    have r1 : w1.cell? ⟨w.heap.size, 1, none⟩ = some (.int .i64 0) := R.cell 1
    have f0 := R.frozen 0
    have f1 := R.frozen 1
    clear hb R
    rw [K.out]
    go_wp2_with fail
    refine bodyPost_ret (v := .tuple #[.agg #[.int .i64 0, .int .i64 0], .int .i64 2]) (by simp [results, Tryd.results10, go_sem, r0, r1]) rfl ⟨rfl, ?_⟩
    exact (((((Below.refl w.heap.size w).alloc (Nat.le_refl _) _).alloc (by simp) _).trans (H.out.mono (by simp; omega))).setCell (Nat.le_refl _) _).setCell (Nat.le_refl _) _

/-- The value of a type and a number; or nought, and the error. -/
theorem rof_any (t n : Int) (w : World) :
    Calls Tryd.prog 11 #[.int .i64 t, .int .i64 n] w fun e w' => e = .returned (.tuple #[.agg #[.int .i64 (Val.ofT t n), .int .i64 (Val.ofN t n)], .int .i64 (Val.chk t n)]) ∧ Below w.heap.size w w' := by
  rcases Val.chk_two t n with hc | hc
  · rw [show Val.ofT t n = t by unfold Val.ofT; rw [if_pos hc], show Val.ofN t n = n by unfold Val.ofN; rw [if_pos hc], hc]
    have K := Lib.hid hc
    clear hc
    go_enter Tryd.func11, Tryd.ntmps11
    go_wp2_with fail
    refine (rcheck_any t n _).mono ?_
    rintro e w1 ⟨rfl, hb⟩
    have H := Lib.hid hb
    have R := ((Blk.new w 23 #[.int .i64 0, .int .i64 0]).alloc _).below hb (by simp; omega)
    have V : Blk w1 (w.heap.size + 1) 23 #[.int .i64 t, .int .i64 n] := by
      have := (Blk.new (w.alloc (.cells #[.int .i64 0, .int .i64 0] 23)) 23 #[.int .i64 t, .int .i64 n]).below hb (by simp)
      rwa [World.size_alloc] at this
    have r0 : w1.cell? ⟨w.heap.size, 0, none⟩ = some (.int .i64 0) := R.cell 0
    have r1 : w1.cell? ⟨w.heap.size, 1, none⟩ = some (.int .i64 0) := R.cell 1
    have f0 := R.frozen 0
    have f1 := R.frozen 1
    have v0 : w1.cell? ⟨w.heap.size + 1, 0, none⟩ = some (.int .i64 t) := V.cell 0
    have v1 : w1.cell? ⟨w.heap.size + 1, 1, none⟩ = some (.int .i64 n) := V.cell 1
    clear hb R V
    rw [K.out]
    go_wp2_with fail
    refine bodyPost_ret (v := .tuple #[.agg #[.int .i64 t, .int .i64 n], .int .i64 0]) (by simp [results, Tryd.results11, go_sem, r0, r1]) rfl ⟨rfl, ?_⟩
    exact (((((Below.refl w.heap.size w).alloc (Nat.le_refl _) _).alloc (by simp) _).trans (H.out.mono (by simp; omega))).setCell (Nat.le_refl _) _).setCell (Nat.le_refl _) _
  · rw [show Val.ofT t n = 0 by unfold Val.ofT; rw [if_neg (by omega)], show Val.ofN t n = 0 by unfold Val.ofN; rw [if_neg (by omega)], hc]
    have K := Lib.hid hc
    clear hc
    go_enter Tryd.func11, Tryd.ntmps11
    go_wp2_with fail
    refine (rcheck_any t n _).mono ?_
    rintro e w1 ⟨rfl, hb⟩
    have H := Lib.hid hb
    have R := ((Blk.new w 23 #[.int .i64 0, .int .i64 0]).alloc _).below hb (by simp; omega)
    have r0 : w1.cell? ⟨w.heap.size, 0, none⟩ = some (.int .i64 0) := R.cell 0
    have r1 : w1.cell? ⟨w.heap.size, 1, none⟩ = some (.int .i64 0) := R.cell 1
    have f0 := R.frozen 0
    have f1 := R.frozen 1
    clear hb R
    rw [K.out]
    go_wp2_with fail
    refine bodyPost_ret (v := .tuple #[.agg #[.int .i64 0, .int .i64 0], .int .i64 2]) (by simp [results, Tryd.results11, go_sem, r0, r1]) rfl ⟨rfl, ?_⟩
    exact (((((Below.refl w.heap.size w).alloc (Nat.le_refl _) _).alloc (by simp) _).trans (H.out.mono (by simp; omega))).setCell (Nat.le_refl _) _).setCell (Nat.le_refl _) _

/-- The first value of a type. -/
theorem default_any (t : Int) (w : World) :
    Calls Tryd.prog 12 #[.int .i64 t] w fun e w' => e = .returned (.tuple #[.agg #[.int .i64 (Val.ofT t 0), .int .i64 (Val.ofN t 0)], .int .i64 (Val.chk t 0)]) ∧ Below w.heap.size w w' := by
  go_enter Tryd.func12, Tryd.ntmps12
  go_wp2_with fail
  refine (of_any t 0 _).mono ?_
  rintro e w1 ⟨rfl, hb⟩
  have H := Lib.hid hb
  have R := (Blk.new w 23 #[.int .i64 0, .int .i64 0]).below hb (by simp)
  have r0 : w1.cell? ⟨w.heap.size, 0, none⟩ = some (.int .i64 0) := R.cell 0
  have r1 : w1.cell? ⟨w.heap.size, 1, none⟩ = some (.int .i64 0) := R.cell 1
  have f0 := R.frozen 0
  have f1 := R.frozen 1
  clear hb R
  go_wp2_with fail
  refine bodyPost_ret (v := .tuple #[.agg #[.int .i64 (Val.ofT t 0), .int .i64 (Val.ofN t 0)], .int .i64 (Val.chk t 0)]) (by simp [results, Tryd.results12, go_sem, r0, r1]) rfl ⟨rfl, ?_⟩
  exact ((((Below.refl w.heap.size w).alloc (Nat.le_refl _) _).trans (H.out.mono (by simp))).setCell (Nat.le_refl _) _).setCell (Nat.le_refl _) _

/-- The first value of a type. -/
theorem rdefault_any (t : Int) (w : World) :
    Calls Tryd.prog 13 #[.int .i64 t] w fun e w' => e = .returned (.tuple #[.agg #[.int .i64 (Val.ofT t 0), .int .i64 (Val.ofN t 0)], .int .i64 (Val.chk t 0)]) ∧ Below w.heap.size w w' := by
  go_enter Tryd.func13, Tryd.ntmps13
  go_wp2_with fail
  refine (rof_any t 0 _).mono ?_
  rintro e w1 ⟨rfl, hb⟩
  have H := Lib.hid hb
  have R := (Blk.new w 23 #[.int .i64 0, .int .i64 0]).below hb (by simp)
  have r0 : w1.cell? ⟨w.heap.size, 0, none⟩ = some (.int .i64 0) := R.cell 0
  have r1 : w1.cell? ⟨w.heap.size, 1, none⟩ = some (.int .i64 0) := R.cell 1
  have f0 := R.frozen 0
  have f1 := R.frozen 1
  clear hb R
  go_wp2_with fail
  refine bodyPost_ret (v := .tuple #[.agg #[.int .i64 (Val.ofT t 0), .int .i64 (Val.ofN t 0)], .int .i64 (Val.chk t 0)]) (by simp [results, Tryd.results13, go_sem, r0, r1]) rfl ⟨rfl, ?_⟩
  exact ((((Below.refl w.heap.size w).alloc (Nat.le_refl _) _).trans (H.out.mono (by simp))).setCell (Nat.le_refl _) _).setCell (Nat.le_refl _) _

end Go.Proofs.YtfghigioofaidaaDoor

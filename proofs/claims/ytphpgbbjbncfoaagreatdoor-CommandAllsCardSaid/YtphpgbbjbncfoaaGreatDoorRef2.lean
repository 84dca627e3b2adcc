/-
  LAYER 42, THE REFERENCE: Word, text.
-/
import Derived.Test.YtphpgbbjbncfoaaGreatDoorRef1
import Derived.Deep.RegionHeld3
namespace Go.Proofs.YtphpgbbjbncfoaaGreatDoor
open Go.ChangeShapes Go.WideShapes Go.ChangeAt Go.RowKit

theorem word_in (n : Nat) (h : n ≤ 15) : (Cmd.words.map fun b => Value.string ⟨b.toArray⟩)[n]? = some (.string ⟨(Cmd.word' (n : Int)).toArray⟩) := by
  have h2 : n < Cmd.words.length := by show n < 16; omega
  unfold Cmd.word'
  rw [if_pos (by omega), Int.toNat_natCast, List.getElem?_map, List.getElem?_eq_getElem h2]
  rfl
set_option maxHeartbeats 1000000 in
set_option maxRecDepth 20000 in
theorem rword_any (q : Int) (w : World) : Calls Tryz.prog 31 #[.int .i64 q] w fun e w' => e = .returned (.string ⟨(Cmd.word' q).toArray⟩) ∧ Below w.heap.size w w' := by
  rcases (show q < 0 ∨ (¬ q < 0 ∧ 15 < q) ∨ (0 ≤ q ∧ q ≤ 15) by omega) with h | ⟨h, h2⟩ | ⟨h, h2⟩
  · have HV : Hid (Cmd.word' q = []) := Lib.hid (by unfold Cmd.word'; rw [if_neg (by omega)])
    go_enter Tryz.func31, Tryz.ntmps31
    go_wp2_with fail
    go_ret
    exact ⟨by rw [HV.out]; rfl, below_new (Below.refl _ _) _⟩
  · have HV : Hid (Cmd.word' q = []) := Lib.hid (by
      unfold Cmd.word'
      rw [if_pos (by omega), List.getElem?_eq_none (by show 16 ≤ q.toNat; omega)]
      rfl)
    go_enter Tryz.func31, Tryz.ntmps31
    go_wp2_with fail
    go_ret
    exact ⟨by rw [HV.out]; rfl, below_new (Below.refl _ _) _⟩
  · obtain ⟨n, rfl⟩ : ∃ n : Nat, q = n := ⟨q.toNat, by omega⟩
    have n1 : ¬ (n : Int) < 0 := by omega
    have n2 : ¬ (15 : Int) < (n : Int) := by omega
    have n3 : (n : Int) < 16 := by omega
    have hx : ([.string ⟨#[]⟩, .string ⟨#[105, 110, 112, 117, 116]⟩, .string ⟨#[108, 111, 97, 100]⟩, .string ⟨#[115, 116, 101, 112]⟩, .string ⟨#[110, 101, 120, 116]⟩, .string ⟨#[102, 105, 110, 105, 115, 104]⟩, .string ⟨#[99, 111, 110, 116, 105, 110, 117, 101]⟩, .string ⟨#[98, 114, 101, 97, 107]⟩, .string ⟨#[98, 97, 99, 107]⟩, .string ⟨#[114, 101, 119, 105, 110, 100]⟩, .string ⟨#[103, 111, 116, 111]⟩, .string ⟨#[119, 104, 101, 114, 101]⟩, .string ⟨#[118, 97, 114, 115]⟩, .string ⟨#[111, 117, 116, 112, 117, 116]⟩, .string ⟨#[108, 105, 115, 116]⟩, .string ⟨#[101, 100, 105, 116]⟩] : List Value)[n]? = some (.string ⟨(Cmd.word' (n : Int)).toArray⟩) := word_in n (by omega)
    generalize Cmd.word' (n : Int) = V at *
    go_enter Tryz.func31, Tryz.ntmps31
    go_wp2_with fail
    go_ret
    exact ⟨rfl, below_new (Below.refl _ _) _⟩

/-- A command in a block of the call's own. -/
def CBk (w : World) (x0 x1 x2 x3 : Value) (W : World) : Prop := Below w.heap.size w W ∧ Blk W w.heap.size 24 #[x0, x1, x2, x3]
section
variable {w W W' : World} {x0 x1 x2 x3 : Value}
theorem CBk.new : Hid (CBk w x0 x1 x2 x3 (w.alloc (.cells #[x0, x1, x2, x3] 24))) := Lib.hid ⟨below_new (Below.refl _ _) _, Blk.new _ _ _⟩
theorem CBk.call (h : Hid (CBk w x0 x1 x2 x3 W)) (hb : Below W.heap.size W W') : Hid (CBk w x0 x1 x2 x3 W') := Lib.hid ⟨below_call h.out.1 hb, h.out.2.call hb⟩
theorem CBk.drew (h : Hid (CBk w x0 x1 x2 x3 W)) : Hid (CBk w x0 x1 x2 x3 W.drew) := Lib.hid ⟨h.out.1.drew, h.out.2.drew⟩
theorem CBk.cells (h : Hid (CBk w x0 x1 x2 x3 W)) : W.cell? ⟨w.heap.size, 0, none⟩ = some x0 ∧ W.cell? ⟨w.heap.size, 1, none⟩ = some x1 ∧ W.cell? ⟨w.heap.size, 2, none⟩ = some x2 ∧ W.cell? ⟨w.heap.size, 3, none⟩ = some x3 ∧ Hid (CBk w x0 x1 x2 x3 W) := ⟨h.out.2.cell 0, h.out.2.cell 1, h.out.2.cell 2, h.out.2.cell 3, h⟩
theorem CBk.limb {p0 p1 p2 p3 q : Prop} (h : p0 ∧ p1 ∧ p2 ∧ p3 ∧ q) : q := h.2.2.2.2
end
theorem brk_app (n Q : List UInt8) : (⟨#[32]⟩ ++ ⟨n.toArray⟩ ++ ⟨#[32]⟩ ++ ⟨Q.toArray⟩ : ByteArray) = ⟨(32 :: (n ++ 32 :: Q)).toArray⟩ := by
  rw [show (⟨#[32]⟩ : ByteArray) = ⟨[32].toArray⟩ from rfl, ByteArray.mk_append_mk, ByteArray.mk_append_mk, ByteArray.mk_append_mk]
  simp
theorem sp_app (l : List UInt8) : (⟨#[32]⟩ ++ ⟨l.toArray⟩ : ByteArray) = ⟨(32 :: l).toArray⟩ := by
  rw [show (⟨#[32]⟩ : ByteArray) = ⟨[32].toArray⟩ from rfl, ByteArray.mk_append_mk]
  rfl
set_option linter.unusedVariables false in
set_option maxHeartbeats 1000000 in
set_option maxRecDepth 20000 in
theorem rtext_1 (a : Int) (n v : List UInt8) (a0 : 0 ≤ a) (a1 : a ≤ 9223372036854775807) (hn : n.length ≤ 100000) (hv : v.length ≤ 100000) (w : World) :
    Calls Tryz.prog 49 #[.agg #[.int .i64 1, .int .i64 a, .string ⟨n.toArray⟩, .string ⟨v.toArray⟩]] w fun e w' => e = .returned (.string ⟨(Cmd.text (Cmd.cls 1) ⟨1, a, n, v⟩).toArray⟩) ∧ Below w.heap.size w w' := by
  have HV : Hid (Cmd.text (Cmd.cls 1) ⟨1, a, n, v⟩ = 32 :: v) := Lib.hid rfl
  have z : ¬ 9223372036854775807 < 1 + v.length := by omega
  go_enter Tryz.func49, Tryz.ntmps49
  go_wp2_with fail
  go_ret
  exact ⟨by rw [HV.out, ← sp_app]; rfl, below_new (Below.refl _ _) _⟩
set_option linter.unusedVariables false in
set_option maxHeartbeats 1000000 in
set_option maxRecDepth 20000 in
theorem rtext_2 (a : Int) (n v : List UInt8) (a0 : 0 ≤ a) (a1 : a ≤ 9223372036854775807) (hn : n.length ≤ 100000) (hv : v.length ≤ 100000) (w : World) :
    Calls Tryz.prog 49 #[.agg #[.int .i64 2, .int .i64 a, .string ⟨n.toArray⟩, .string ⟨v.toArray⟩]] w fun e w' => e = .returned (.string ⟨(Cmd.text (Cmd.cls 2) ⟨2, a, n, v⟩).toArray⟩) ∧ Below w.heap.size w w' := by
  have HV : Hid (Cmd.text (Cmd.cls 2) ⟨2, a, n, v⟩ = 32 :: Cmd.quote v) := Lib.hid rfl
  have hq := (Cmd.quote_len v).2
  have HQ : Hid (∀ W, Calls Tryz.prog 25 #[.string ⟨v.toArray⟩] W fun e w' => e = .returned (.string ⟨(Cmd.quote v).toArray⟩) ∧ Below W.heap.size W w') := Lib.hid fun W => rquote_any v (by omega) W
  generalize Cmd.quote v = Q at *
  have z : ¬ 9223372036854775807 < 1 + Q.length := by omega
  go_enter Tryz.func49, Tryz.ntmps49
  go_wp2_with fail
  refine (HQ.out _).mono ?_
  rintro e w2 ⟨rfl, hb⟩
  have HB := Lib.hid (below_call (below_new (Below.refl w.heap.size w) _) hb)
  clear hb
  go_wp2_with fail
  go_ret
  exact ⟨by rw [HV.out, ← sp_app]; rfl, HB.out⟩
set_option linter.unusedVariables false in
set_option maxHeartbeats 1000000 in
set_option maxRecDepth 20000 in
theorem rtext_15 (a : Int) (n v : List UInt8) (a0 : 0 ≤ a) (a1 : a ≤ 9223372036854775807) (hn : n.length ≤ 100000) (hv : v.length ≤ 100000) (w : World) :
    Calls Tryz.prog 49 #[.agg #[.int .i64 15, .int .i64 a, .string ⟨n.toArray⟩, .string ⟨v.toArray⟩]] w fun e w' => e = .returned (.string ⟨(Cmd.text (Cmd.cls 15) ⟨15, a, n, v⟩).toArray⟩) ∧ Below w.heap.size w w' := by
  have HV : Hid (Cmd.text (Cmd.cls 15) ⟨15, a, n, v⟩ = 32 :: Cmd.quote v) := Lib.hid rfl
  have hq := (Cmd.quote_len v).2
  have HQ : Hid (∀ W, Calls Tryz.prog 25 #[.string ⟨v.toArray⟩] W fun e w' => e = .returned (.string ⟨(Cmd.quote v).toArray⟩) ∧ Below W.heap.size W w') := Lib.hid fun W => rquote_any v (by omega) W
  generalize Cmd.quote v = Q at *
  have z : ¬ 9223372036854775807 < 1 + Q.length := by omega
  go_enter Tryz.func49, Tryz.ntmps49
  go_wp2_with fail
  refine (HQ.out _).mono ?_
  rintro e w2 ⟨rfl, hb⟩
  have HB := Lib.hid (below_call (below_new (Below.refl w.heap.size w) _) hb)
  clear hb
  go_wp2_with fail
  go_ret
  exact ⟨by rw [HV.out, ← sp_app]; rfl, HB.out⟩
set_option linter.unusedVariables false in
set_option maxHeartbeats 1000000 in
set_option maxRecDepth 20000 in
theorem rtext_7 (a : Int) (n v : List UInt8) (a0 : 0 ≤ a) (a1 : a ≤ 9223372036854775807) (hn : n.length ≤ 100000) (hv : v.length ≤ 100000) (w : World) :
    Calls Tryz.prog 49 #[.agg #[.int .i64 7, .int .i64 a, .string ⟨n.toArray⟩, .string ⟨v.toArray⟩]] w fun e w' => e = .returned (.string ⟨(Cmd.text (Cmd.cls 7) ⟨7, a, n, v⟩).toArray⟩) ∧ Below w.heap.size w w' := by
  have HV : Hid (Cmd.text (Cmd.cls 7) ⟨7, a, n, v⟩ = 32 :: (n ++ 32 :: Lib.itoa a)) := Lib.hid rfl
  have hil := Cmd.itoa_short a0 a1
  have HQ : Hid (∀ W, Calls Tryz.prog 82 #[.int .i64 a] W fun e w' => e = .returned (.string ⟨(Lib.itoa a).toArray⟩) ∧ Below W.heap.size W w') := Lib.hid fun W => (rntext_any a (by omega) a1 W).mono fun _ _ ⟨h1, h2⟩ => ⟨h1, by subst h2; exact Below.refl _ _⟩
  generalize Lib.itoa a = Q at *
  have z : ¬ 9223372036854775807 < 1 + n.length := by omega
  have z2 : ¬ 9223372036854775807 < 1 + n.length + 1 := by omega
  have z3 : ¬ 9223372036854775807 < 1 + n.length + 1 + Q.length := by omega
  have HW0 := @CBk.new w (.int .i64 7) (.int .i64 a) (.string ⟨n.toArray⟩) (.string ⟨v.toArray⟩)
  go_enter Tryz.func49, Tryz.ntmps49
  go_wp2_with fail
  go_region_held3 (fun Z => Z.cell? ⟨w.heap.size, 0, none⟩ = some (.int .i64 7) ∧ Z.cell? ⟨w.heap.size, 1, none⟩ = some (.int .i64 a) ∧ Z.cell? ⟨w.heap.size, 2, none⟩ = some (.string ⟨n.toArray⟩) ∧ Z.cell? ⟨w.heap.size, 3, none⟩ = some (.string ⟨v.toArray⟩) ∧ Hid (CBk w (.int .i64 7) (.int .i64 a) (.string ⟨n.toArray⟩) (.string ⟨v.toArray⟩) Z))
    (first | exact CBk.cells (CBk.drew HW0) | exact CBk.cells (CBk.call (CBk.limb (by assumption)) (by assumption)))
    (first | (refine (HQ.out _).mono ?_; rintro e w' ⟨rfl, hb⟩))
  have HZ := CBk.limb (by assumption)
  go_wp2_with fail
  go_ret
  exact ⟨by rw [HV.out, ← brk_app]; rfl, HZ.out.1⟩
set_option linter.unusedVariables false in
set_option maxHeartbeats 1000000 in
set_option maxRecDepth 20000 in
theorem rtext_10 (a : Int) (n v : List UInt8) (a0 : 0 ≤ a) (a1 : a ≤ 9223372036854775807) (hn : n.length ≤ 100000) (hv : v.length ≤ 100000) (w : World) :
    Calls Tryz.prog 49 #[.agg #[.int .i64 10, .int .i64 a, .string ⟨n.toArray⟩, .string ⟨v.toArray⟩]] w fun e w' => e = .returned (.string ⟨(Cmd.text (Cmd.cls 10) ⟨10, a, n, v⟩).toArray⟩) ∧ Below w.heap.size w w' := by
  have HV : Hid (Cmd.text (Cmd.cls 10) ⟨10, a, n, v⟩ = 32 :: Lib.itoa a) := Lib.hid rfl
  have hil := Cmd.itoa_short a0 a1
  have HQ : Hid (∀ W, Calls Tryz.prog 82 #[.int .i64 a] W fun e w' => e = .returned (.string ⟨(Lib.itoa a).toArray⟩) ∧ W = w') := Lib.hid fun W => rntext_any a (by omega) a1 W
  generalize Lib.itoa a = Q at *
  have z : ¬ 9223372036854775807 < 1 + Q.length := by omega
  go_enter Tryz.func49, Tryz.ntmps49
  go_wp2_with fail
  refine (HQ.out _).mono ?_
  rintro e w2 ⟨rfl, rfl⟩
  go_wp2_with fail
  go_ret
  exact ⟨by rw [HV.out, ← sp_app]; rfl, below_new (Below.refl _ _) _⟩
set_option linter.unusedVariables false in
set_option maxHeartbeats 1000000 in
set_option maxRecDepth 20000 in
theorem rtext_12 (a : Int) (n v : List UInt8) (a0 : 0 ≤ a) (a1 : a ≤ 9223372036854775807) (hn : n.length ≤ 100000) (hv : v.length ≤ 100000) (w : World) :
    Calls Tryz.prog 49 #[.agg #[.int .i64 12, .int .i64 a, .string ⟨n.toArray⟩, .string ⟨v.toArray⟩]] w fun e w' => e = .returned (.string ⟨(Cmd.text (Cmd.cls 12) ⟨12, a, n, v⟩).toArray⟩) ∧ Below w.heap.size w w' := by
  have HV : Hid (Cmd.text (Cmd.cls 12) ⟨12, a, n, v⟩ = 32 :: Lib.itoa a) := Lib.hid rfl
  have hil := Cmd.itoa_short a0 a1
  have HQ : Hid (∀ W, Calls Tryz.prog 82 #[.int .i64 a] W fun e w' => e = .returned (.string ⟨(Lib.itoa a).toArray⟩) ∧ W = w') := Lib.hid fun W => rntext_any a (by omega) a1 W
  generalize Lib.itoa a = Q at *
  have z : ¬ 9223372036854775807 < 1 + Q.length := by omega
  go_enter Tryz.func49, Tryz.ntmps49
  go_wp2_with fail
  refine (HQ.out _).mono ?_
  rintro e w2 ⟨rfl, rfl⟩
  go_wp2_with fail
  go_ret
  exact ⟨by rw [HV.out, ← sp_app]; rfl, below_new (Below.refl _ _) _⟩
set_option linter.unusedVariables false in
set_option maxHeartbeats 1000000 in
set_option maxRecDepth 20000 in
theorem rtext_0 (a : Int) (n v : List UInt8) (a0 : 0 ≤ a) (a1 : a ≤ 9223372036854775807) (hn : n.length ≤ 100000) (hv : v.length ≤ 100000) (w : World) (m : Nat) (e1 : m ≠ 1) (e2 : m ≠ 2) (e15 : m ≠ 15) (e7 : m ≠ 7) (e10 : m ≠ 10) (e12 : m ≠ 12) :
    Calls Tryz.prog 49 #[.agg #[.int .i64 (m : Int), .int .i64 a, .string ⟨n.toArray⟩, .string ⟨v.toArray⟩]] w fun e w' => e = .returned (.string ⟨(Cmd.text (Cmd.cls m) ⟨(m : Int), a, n, v⟩).toArray⟩) ∧ Below w.heap.size w w' := by
  have HV : Hid (Cmd.text (Cmd.cls m) ⟨(m : Int), a, n, v⟩ = []) := Lib.hid (by
    have : Cmd.cls m = 0 := by unfold Cmd.cls; rw [if_neg e1, if_neg (by omega), if_neg e7, if_neg (by omega)]
    rw [this]
    rfl)
  have q1 : ((m : Int) == 1) = false := by simp; omega
  have q2 : ((m : Int) == 2) = false := by simp; omega
  have q15 : ((m : Int) == 15) = false := by simp; omega
  have q7 : ((m : Int) == 7) = false := by simp; omega
  have q10 : ((m : Int) == 10) = false := by simp; omega
  have q12 : ((m : Int) == 12) = false := by simp; omega
  go_enter Tryz.func49, Tryz.ntmps49
  go_wp2_with fail
  go_ret
  exact ⟨by rw [HV.out]; rfl, below_new (Below.refl _ _) _⟩
theorem rtext_any (c : Cmd.C) (h1 : 1 ≤ c.kind) (h2 : c.kind ≤ 15) (a0 : 0 ≤ c.a) (a1 : c.a ≤ 9223372036854775807) (hn : c.name.length ≤ 100000) (hv : c.val.length ≤ 100000) (w : World) :
    Calls Tryz.prog 49 #[cV c] w fun e w' => e = .returned (.string ⟨(Cmd.text (Cmd.cls c.kind.toNat) c).toArray⟩) ∧ Below w.heap.size w w' := by
  obtain ⟨q, a, n, v⟩ := c
  simp only at h1 h2 a0 a1 hn hv
  obtain ⟨m, rfl⟩ : ∃ m : Nat, q = m := ⟨q.toNat, by omega⟩
  unfold cV
  simp only [Int.toNat_natCast]
  by_cases e1 : m = 1
  · subst e1; exact rtext_1 a n v a0 a1 hn hv w
  by_cases e2 : m = 2
  · subst e2; exact rtext_2 a n v a0 a1 hn hv w
  by_cases e15 : m = 15
  · subst e15; exact rtext_15 a n v a0 a1 hn hv w
  by_cases e7 : m = 7
  · subst e7; exact rtext_7 a n v a0 a1 hn hv w
  by_cases e10 : m = 10
  · subst e10; exact rtext_10 a n v a0 a1 hn hv w
  by_cases e12 : m = 12
  · subst e12; exact rtext_12 a n v a0 a1 hn hv w
  exact rtext_0 a n v a0 a1 hn hv w m e1 e2 e15 e7 e10 e12
end Go.Proofs.YtphpgbbjbncfoaaGreatDoor

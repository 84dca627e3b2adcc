/-
  LAYER 4, THE LAWS' HELPERS: a token by numbers.
-/
import Derived.Test.YtkjpnciimabclaaDoorLexK1
namespace Go.Proofs.YtkjpnciimabclaaDoor
open Go.ChangeShapes Go.WideShapes Go.ChangeAt Go.RowKit

def KInv (w : World) (P : Array Value) (W : World) : Prop := Good W ∧ Below w.heap.size w W ∧ Blk W w.heap.size 40 P ∧ Blk W (w.heap.size + 1) 32 #[.int .i64 0, .string ⟨#[]⟩, .int .i64 0]
theorem KInv.start {w : World} (h : Good w) (P : Array Value) : Hid (KInv w P ((w.alloc (.cells P 40)).alloc (.cells #[.int .i64 0, .string ⟨#[]⟩, .int .i64 0] 32))) := Lib.hid ⟨(h.alloc _).alloc _, below_new (below_new (Below.refl _ _) _) _, (Blk.new _ _ _).alloc _, by
  have := Blk.new (w.alloc (.cells P 40)) 32 #[.int .i64 0, .string ⟨#[]⟩, .int .i64 0]
  rwa [World.size_alloc] at this⟩
theorem KInv.call {w W W' : World} {P : Array Value} (h : Hid (KInv w P W)) (hb : Below W.heap.size W W') : Hid (KInv w P W') := Lib.hid ⟨h.out.1.call hb, below_call h.out.2.1 hb, h.out.2.2.1.call hb, h.out.2.2.2.call hb⟩
theorem KInv.drew {w W : World} {P : Array Value} (h : Hid (KInv w P W)) : Hid (KInv w P W.drew) := Lib.hid ⟨h.out.1.drew, h.out.2.1.drew, h.out.2.2.1.drew, h.out.2.2.2.drew⟩
theorem KInv.good {w W : World} {P : Array Value} (h : Hid (KInv w P W)) : Good W := h.out.1
theorem ktok_done {w w2 : World} {P : Array Value} (h : Hid (KInv w P w2)) (x y z : Value) :
    (((w2.setCell ⟨w.heap.size + 1, 0, none⟩ x).setCell ⟨w.heap.size + 1, 1, none⟩ y).setCell ⟨w.heap.size + 1, 2, none⟩ z).heap[w.heap.size + 1]? = some (.cells #[x, y, z] 32 (0, 0)) ∧ Below w.heap.size w (((w2.setCell ⟨w.heap.size + 1, 0, none⟩ x).setCell ⟨w.heap.size + 1, 1, none⟩ y).setCell ⟨w.heap.size + 1, 2, none⟩ z) :=
  ⟨((h.out.2.2.2.set 0 x).set 1 y).set 2 z, ((h.out.2.1.setCell (p := ⟨w.heap.size + 1, 0, none⟩) (Nat.le_succ _) x).setCell (p := ⟨w.heap.size + 1, 1, none⟩) (Nat.le_succ _) y).setCell (p := ⟨w.heap.size + 1, 2, none⟩) (Nat.le_succ _) z⟩
def TokV (e : Ending) : Prop := ∃ K T, e = .returned (.agg #[.int .i64 K, .string ⟨T.toArray⟩, .int .i64 0]) ∧ Lex.Tk K T ∧ T.length ≤ 20

theorem chars_word {t : List UInt8} {c : UInt8} (h : ∀ d ∈ t, Lex.word d = true) (hc : Lex.word c = true) : ∀ d ∈ t ++ [c], Lex.word d = true := by
  intro d hd
  rcases List.mem_append.1 hd with hd | hd
  · exact h d hd
  · rw [List.mem_singleton.1 hd]; exact hc

set_option maxHeartbeats 4000000 in
set_option maxRecDepth 100000 in
theorem token_word (k n g b : Int) (hk : k % 4 = 0) (k0 : 0 ≤ k) (n0 : 0 ≤ n) (n1 : n ≤ 255) (b0 : 0 ≤ b) (w : World) (hG : Good w) :
    Calls Tryd.prog 19 #[.agg (pcA k n g b)] w fun e w' => TokV e ∧ Below w.heap.size w w' := by
  have HI := KInv.start hG (pcA k n g b)
  clear hG
  obtain ⟨q, hq, hq1⟩ : ∃ q : Nat, n % 16 = (q : Int) ∧ q < 16 := ⟨(n % 16).toNat, by omega, by omega⟩
  go_enter Tryd.func19, Tryd.ntmps19
  go_wp2_with fail
  go_loopw [3, 4] (fun s i wr => ∃ (m : Nat) (t : List UInt8), m ≤ q ∧ i = .int .i64 m ∧ s = .string ⟨(110 :: t).toArray⟩ ∧ t.length = m ∧ Hid (KInv w (pcA k n g b) wr) ∧ Hid (∀ d ∈ t, Lex.word d = true)) (fun _ i _ => q - (intOf i).toNat)
  case atStart => exact ⟨0, [], Nat.zero_le _, rfl, rfl, rfl, HI, Lib.hid (by simp)⟩
  case round =>
    obtain ⟨m, t, hm, rfl, rfl, ht, HI, HW⟩ := hrel
    have e1 := HI.out.2.2.1.cell 1
    have e3 := HI.out.2.2.1.cell 3
    by_cases hlt : m < q
    · obtain ⟨j, hj, hj1⟩ : ∃ j : Nat, wrap64 ((b / 2 ^ m).tmod 5) = (j : Int) ∧ j < 5 := by
        have h0 : 0 ≤ b / 2 ^ m := Int.ediv_nonneg b0 (Int.pow_nonneg (by decide))
        have h1 := Int.tmod_eq_emod_of_nonneg (b := 5) h0
        have h2 := Int.emod_nonneg (b / 2 ^ m) (b := 5) (by decide)
        have h3 := Int.emod_lt_of_pos (b / 2 ^ m) (b := 5) (by decide)
        have hw : ∀ x : Int, 0 ≤ x → x < 5 → wrap64 x = x := fun x h0 h1 => by rw [← IntWalk.i64_left, IntKind.wrap_i64]; omega
        refine ⟨((b / 2 ^ m).tmod 5).toNat, ?_, by omega⟩
        rw [hw _ (by omega) (by omega)]
        omega
      have l1 : ¬ 9223372036854775807 < t.length + 1 + 1 := by omega
      rcases (show j = 0 ∨ j = 1 ∨ j = 2 ∨ j = 3 ∨ j = 4 by omega) with rfl | rfl | rfl | rfl | rfl
      · have hcut : (⟨#[97, 90, 95, 48, 57]⟩ : ByteArray).extract 0 1 = ⟨[97].toArray⟩ := by decide
        have HN := Lib.hid (chars_word (c := 97) HW.out (by decide))
        go_wp2_with fail
        go_roundw
        case rel => exact ⟨m + 1, t ++ [97], hlt, by go_num, by rw [show (⟨#[97]⟩ : ByteArray) = ⟨[97].toArray⟩ from rfl, ByteArray.mk_append_mk]; rfl, by simp [ht], HI, HN⟩
        case measure => simp [intOf]; omega
      · have hcut : (⟨#[97, 90, 95, 48, 57]⟩ : ByteArray).extract 1 2 = ⟨[90].toArray⟩ := by decide
        have HN := Lib.hid (chars_word (c := 90) HW.out (by decide))
        go_wp2_with fail
        go_roundw
        case rel => exact ⟨m + 1, t ++ [90], hlt, by go_num, by rw [show (⟨#[90]⟩ : ByteArray) = ⟨[90].toArray⟩ from rfl, ByteArray.mk_append_mk]; rfl, by simp [ht], HI, HN⟩
        case measure => simp [intOf]; omega
      · have hcut : (⟨#[97, 90, 95, 48, 57]⟩ : ByteArray).extract 2 3 = ⟨[95].toArray⟩ := by decide
        have HN := Lib.hid (chars_word (c := 95) HW.out (by decide))
        go_wp2_with fail
        go_roundw
        case rel => exact ⟨m + 1, t ++ [95], hlt, by go_num, by rw [show (⟨#[95]⟩ : ByteArray) = ⟨[95].toArray⟩ from rfl, ByteArray.mk_append_mk]; rfl, by simp [ht], HI, HN⟩
        case measure => simp [intOf]; omega
      · have hcut : (⟨#[97, 90, 95, 48, 57]⟩ : ByteArray).extract 3 4 = ⟨[48].toArray⟩ := by decide
        have HN := Lib.hid (chars_word (c := 48) HW.out (by decide))
        go_wp2_with fail
        go_roundw
        case rel => exact ⟨m + 1, t ++ [48], hlt, by go_num, by rw [show (⟨#[48]⟩ : ByteArray) = ⟨[48].toArray⟩ from rfl, ByteArray.mk_append_mk]; rfl, by simp [ht], HI, HN⟩
        case measure => simp [intOf]; omega
      · have hcut : (⟨#[97, 90, 95, 48, 57]⟩ : ByteArray).extract 4 5 = ⟨[57].toArray⟩ := by decide
        have HN := Lib.hid (chars_word (c := 57) HW.out (by decide))
        go_wp2_with fail
        go_roundw
        case rel => exact ⟨m + 1, t ++ [57], hlt, by go_num, by rw [show (⟨#[57]⟩ : ByteArray) = ⟨[57].toArray⟩ from rfl, ByteArray.mk_append_mk]; rfl, by simp [ht], HI, HN⟩
        case measure => simp [intOf]; omega
    · obtain rfl : m = q := by omega
      have hw : ∀ d ∈ (110 : UInt8) :: t, Lex.word d = true := fun d hd => by
        rcases List.mem_cons.1 hd with rfl | hd
        · decide
        · exact HW.out d hd
      obtain ⟨t1, t2⟩ := Lex.word_tk (show Lex.letr 110 = true by decide) hw
      have hlen : ((110 : UInt8) :: t).length ≤ 16 := by rw [List.length_cons]; omega
      have H1 := Lib.hid t1
      have H2 := Lib.hid t2
      clear t1 t2 hw e3
      generalize (110 : UInt8) :: t = u at H1 H2 hlen ⊢
      cases hd : decide (u ∈ Lex.keywords) with
      | true =>
        have HT := Lib.hid (H1.out (of_decide_eq_true hd))
        have HD := Lib.hid hd
        clear hd
        go_wp2_with fail
        refine (reserved_any u _ (KInv.good HI)).mono ?_
        rintro e w1 ⟨rfl, rfl⟩
        rw [HD.out]
        have c0 := HI.out.2.2.2.cell 0
        have c1 := HI.out.2.2.2.cell 1
        have c2 := HI.out.2.2.2.cell 2
        have f0 := HI.out.2.2.2.frozen 0
        have f1 := HI.out.2.2.2.frozen 1
        have f2 := HI.out.2.2.2.frozen 2
        go_wp2_with fail
        obtain ⟨hg, hb⟩ := ktok_done HI (.int .i64 3) (.string ⟨u.toArray⟩) (.int .i64 0)
        (try simp only [Exit.inBlock, Exit.then])
        refine bodyPost_ret (results_cell_row rfl _ _ _ 32 _ (0, 0) _ rfl hg Tryd.underlying32 rfl (by kernel_rfl)) rfl ?_
        exact ⟨⟨3, u, rfl, HT.out, by omega⟩, hb⟩
      | false =>
        have HT := Lib.hid (H2.out (of_decide_eq_false hd) hlen)
        have HD := Lib.hid hd
        clear hd
        go_wp2_with fail
        refine (reserved_any u _ (KInv.good HI)).mono ?_
        rintro e w1 ⟨rfl, rfl⟩
        rw [HD.out]
        have c0 := HI.out.2.2.2.cell 0
        have c1 := HI.out.2.2.2.cell 1
        have c2 := HI.out.2.2.2.cell 2
        have f0 := HI.out.2.2.2.frozen 0
        have f1 := HI.out.2.2.2.frozen 1
        have f2 := HI.out.2.2.2.frozen 2
        go_wp2_with fail
        obtain ⟨hg, hb⟩ := ktok_done HI (.int .i64 1) (.string ⟨u.toArray⟩) (.int .i64 0)
        (try simp only [Exit.inBlock, Exit.then])
        refine bodyPost_ret (results_cell_row rfl _ _ _ 32 _ (0, 0) _ rfl hg Tryd.underlying32 rfl (by kernel_rfl)) rfl ?_
        exact ⟨⟨1, u, rfl, HT.out, by omega⟩, hb⟩
end Go.Proofs.YtkjpnciimabclaaDoor

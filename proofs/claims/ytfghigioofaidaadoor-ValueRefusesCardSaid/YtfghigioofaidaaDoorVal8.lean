/-
  LAYER 16: the law ValueLists.
-/
import Derived.Test.YtfghigioofaidaaDoorVal7
import Derived.Lib.SmallJoins
namespace Go.Proofs.YtfghigioofaidaaDoor
open Go.ChangeShapes Go.WideShapes Go.ChangeAt Go.RowKit

def Val.Ok (v : Int × Int) : Prop := -9223372036854775808 ≤ v.2 ∧ v.2 ≤ 9223372036854775807
/-- One row of values. -/
theorem val_row {H : Type} {enc : TypeId × Value → H} {w : World} {sp : Nat → Bool} {held : Bool} (n : Nat) (cs : List Value) (x : DataW H × List MemPlace) (h : DataW.trod enc Tryd.prog w 0 sp held n 23 cs = some x) (hl : cs.length = 2) : ∃ y : Int × Int, cs = cellsV y ∧ Val.Ok y := by
  obtain ⟨a, b, rfl⟩ : ∃ a b, cs = [a, b] := by
    match cs, hl with
    | [a, b], _ => exact ⟨a, b, rfl⟩
  obtain ⟨y0, y1, m, _, _, h0, h1⟩ := trod_struct2 Tryd.underlying23 h
  have k0 : Tryd.prog.cellsOf 3 = 1 := by kernel_rfl
  have k1 : Tryd.prog.cellsOf 2 = 1 := by kernel_rfl
  obtain ⟨i, ei, _, _⟩ := DataW.trod_int Tryd.underlying3 (by simpa [k0] using h0)
  obtain ⟨j, ej, _, wj⟩ := DataW.trod_int Tryd.underlying2 (by simpa [k0, k1] using h1)
  have bj : -9223372036854775808 ≤ j ∧ j ≤ 9223372036854775807 := by simpa [Lit.wf, IntKind.min, IntKind.max, IntKind.signed, IntKind.bits] using wj
  refine ⟨(i, j), ?_, bj⟩
  have e0 : a = .int .i64 i := by simpa using ei
  have e1 : b = .int .i64 j := by simpa using ej
  rw [e0, e1]
  rfl
theorem valueLists_rows0 {H : Type} {enc : TypeId × Value → H} {w : World} {sp : Nat → Bool} {held : Bool} {b0 : Nat} {v : Value} {d : DataW H} {p : List MemPlace} (hv : Value.okWide Tryd.prog w .any b0 33 v) (h : DataW.Trod enc Tryd.prog w 0 sp held 33 v d p) :
    ∃ (A : Option Addr) (cap : Nat) (l : List (Int × Int)), v = .slice A l.length cap ∧ l.length ≤ cap ∧ cap ≤ maxLen ∧ (∀ x ∈ l, Val.Ok x) ∧ (∀ x ∈ l, (cellsV x).length = 2) ∧ Rd w w.heap.size A (l.flatMap cellsV) :=
  open_rows cellsV Val.Ok Tryd.underlying33 (by kernel_rfl) (by decide) val_row hv h

set_option maxHeartbeats 1000000 in
theorem valueLists_walk (A : Option Addr) (cap : Nat) (l : List (Int × Int)) (_ : l.length ≤ cap) (_ : cap ≤ maxLen) (hg : ∀ v ∈ l, Val.Ok v) (w : World) (hrd : Rd w w.heap.size A (l.flatMap cellsV)) (hG : Good w) :
    Calls Tryd.prog 4 #[.slice A l.length cap] w fun e w' => e = .returned (.bool true) ∧ Below w.heap.size w w' := by
  have GG := Lib.hid hg
  have K0 := Lib.hid (Below.refl w.heap.size w)
  have R0 := Lib.hid hrd
  clear hg hrd
  by_cases h3 : 300 < l.length
  · go_enter Tryd.func4, Tryd.ntmps4
    go_wp2_with fail
    refine (works_any _ hG).mono ?_
    rintro e w1 ⟨rfl, b1⟩
    have K1 := Lib.hid (below_call K0.out b1)
    clear b1
    go_wp2_with fail
    go_ret
    exact ⟨rfl, K1.out⟩
  · have hs : l.length ≤ 1000000 := by omega
    go_enter Tryd.func4, Tryd.ntmps4
    go_wp2_with fail
    refine (list_any A cap l hs GG.out _ hG R0.out).mono ?_
    rintro e w1 ⟨rfl, b1⟩
    have G1 := hG.call b1
    have K1 := Lib.hid (below_call K0.out b1)
    have R1 := Lib.hid ((R0.out.below b1).more b1.size)
    clear b1
    go_wp2_with fail
    refine (rlist_any A cap l hs GG.out _ R1.out).mono ?_
    rintro e w2 ⟨rfl, b2⟩
    have G2 := G1.call b2
    have K2 := Lib.hid (below_call K1.out b2)
    clear b2
    go_wp2_with fail
    refine (works_any _ G2).mono ?_
    rintro e w3 ⟨rfl, b3⟩
    have K3 := Lib.hid (below_call K2.out b3)
    clear b3
    go_wp2_with fail
    go_ret
    exact ⟨rfl, K3.out⟩
end Go.Proofs.YtfghigioofaidaaDoor

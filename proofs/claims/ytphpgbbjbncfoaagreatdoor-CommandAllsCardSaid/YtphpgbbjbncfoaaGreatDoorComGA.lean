/-
  LAYER 42, THE LAWS' ARGUMENTS: lists of commands.
-/
import Derived.Test.YtphpgbbjbncfoaaGreatDoorComG
namespace Go.Proofs.YtphpgbbjbncfoaaGreatDoor
open Go.ChangeShapes Go.WideShapes Go.ChangeAt Go.RowKit

instance : Inhabited Cmd.C := ⟨⟨0, 0, [], []⟩⟩
def okA (c : Cmd.C) : Prop := -9223372036854775808 ≤ c.a ∧ c.a ≤ 9223372036854775807
section
variable {H : Type} {enc : TypeId × Value → H} {w : World} {sp : Nat → Bool} {held : Bool}
theorem cmd_row (n : Nat) (cs : List Value) (x : DataW H × List MemPlace) (h : DataW.trod enc Tryz.prog w 0 sp held n 24 cs = some x) (hl : cs.length = 4) : ∃ y : Cmd.C, cs = cC y ∧ okA y := by
  obtain ⟨a, b, c, d, rfl⟩ : ∃ a b c d, cs = [a, b, c, d] := by
    match cs, hl with
    | [a, b, c, d], _ => exact ⟨a, b, c, d, rfl⟩
  obtain ⟨y0, y1, y2, y3, m, _, _, h0, h1, h2, h3⟩ := Go.Joins.trod_struct4 Tryz.underlying24 h
  have k0 : Tryz.prog.cellsOf 3 = 1 := by kernel_rfl
  have k2 : Tryz.prog.cellsOf 9 = 1 := by kernel_rfl
  obtain ⟨i, ei, _, wi⟩ := DataW.trod_int Tryz.underlying3 (by simpa [k0] using h0)
  obtain ⟨j, ej, _, wj⟩ := DataW.trod_int Tryz.underlying3 (by simpa [k0] using h1)
  obtain ⟨s, es, _⟩ := DataW.trod_string Tryz.underlying9 (by simpa [k0, k2] using h2)
  obtain ⟨t, et, _⟩ := DataW.trod_string Tryz.underlying9 (by simpa [k0, k2] using h3)
  have bj : -9223372036854775808 ≤ j ∧ j ≤ 9223372036854775807 := by simpa [Lit.wf, IntKind.min, IntKind.max, IntKind.signed, IntKind.bits] using wj
  refine ⟨⟨i, j, s.data.toList, t.data.toList⟩, ?_, bj⟩
  have e0 : a = .int .i64 i := by simpa using ei
  have e1 : b = .int .i64 j := by simpa using ej
  have e2 : c = .string s := by simpa using es
  have e3 : d = .string t := by simpa using et
  rw [e0, e1, e2, e3]
  rfl
set_option maxRecDepth 100000 in
theorem commandAlls_rows0 {b0 : Nat} {v : Value} {d : DataW H} {p : List MemPlace} (hv : Value.okWide Tryz.prog w .any b0 22 v) (h : DataW.Trod enc Tryz.prog w 0 sp held 22 v d p) :
    ∃ (A : Option Addr) (cap : Nat) (l : List Cmd.C), v = .slice A l.length cap ∧ l.length ≤ cap ∧ cap ≤ maxLen ∧ (∀ x ∈ l, okA x) ∧ (∀ x ∈ l, (cC x).length = 4) ∧ Rd w w.heap.size A (l.flatMap cC) := by
  have hr := @cmd_row H enc w sp held
  have h1 : Tryz.prog.cellsOf 24 = 4 := by kernel_rfl
  have h2 := Tryz.underlying22
  exact open_rows cC okA h2 h1 (by decide) hr hv h
end
end Go.Proofs.YtphpgbbjbncfoaaGreatDoor

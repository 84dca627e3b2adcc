/-
  LAYER 42, THE LAWS' ARGUMENTS: bytes in a field; lists of commands by numbers, of bytes, of commands.
-/
import Derived.Test.YtphpgbbjbncfoaaGreatDoorCom13
import Derived.Deep.Strs
import Derived.Lib.SmallJoins
namespace Go.Proofs.YtphpgbbjbncfoaaGreatDoor
open Go.ChangeShapes Go.WideShapes Go.ChangeAt Go.RowKit

section
variable {H : Type} {enc : TypeId × Value → H} {P : Program} {w : World} {sp : Nat → Bool} {held : Bool}
/-- A slice in a cell, as a list of what its elements are. -/
theorem open_cell {α : Type} [Inhabited α] {t e : TypeId} {k fuel : Nat} {c : Value} {x : DataW H × List MemPlace} (cellsOf : α → List Value) (good : α → Prop)
    (ht : P.underlying t = some (.slice e)) (hC : P.cellsOf e = k) (hk : 0 < k)
    (hrow : ∀ n cs x, DataW.trod enc P w 0 sp held n e cs = some x → cs.length = k → ∃ y : α, cs = cellsOf y ∧ good y)
    (hf : DataW.trod enc P w 0 sp held fuel t [c] = some x) :
    ∃ (A : Option Addr) (cap : Nat) (l : List α), c = .slice A l.length cap ∧ l.length ≤ cap ∧ cap ≤ maxLen ∧ (∀ x ∈ l, good x) ∧ (∀ x ∈ l, (cellsOf x).length = k) ∧ Rd w w.heap.size A (l.flatMap cellsOf) := by
  rcases Go.Deep.open_slice ht hf with ⟨hcs, _⟩ | ⟨a, len, cap, m, n, D, Pl, hcs, _, hl, hm, hmm, _, hel⟩
  · obtain rfl : c = .slice none 0 0 := by simpa using hcs
    exact ⟨none, 0, [], rfl, Nat.le_refl _, by simp, by simp, by simp, Rd.nil _ _ _⟩
  · obtain rfl : c = .slice (some a) len cap := by simpa using hcs
    have hle : len ≤ m := by rw [hmm]; split <;> omega
    have hex : ∀ i, i < len → ∃ y : α, (cellsOf y).length = k ∧ good y ∧ ∀ r, r < k → w.cell? ((a.add (i * k)).add r) = (cellsOf y)[r]? := by
      intro i hi
      obtain ⟨cs', h1, h2⟩ := hel i (by omega)
      rw [hC] at h1
      obtain ⟨_, hlen, hat⟩ := World.cells?_some h1
      obtain ⟨y, rfl, hg⟩ := hrow n cs' _ h2 hlen
      exact ⟨y, hlen, hg, fun r hr => hat r hr⟩
    obtain ⟨f, hf'⟩ := Go.Deep.choose_lt hex
    have hkl : ∀ x ∈ (List.range len).map f, (cellsOf x).length = k := by
      intro x hx
      obtain ⟨i, hi, rfl⟩ := List.mem_map.1 hx
      exact (hf' i (List.mem_range.1 hi)).1
    refine ⟨some a, cap, (List.range len).map f, by simp, by simpa using hl, hm, ?_, hkl, fun hn => ?_⟩
    · intro x hx
      obtain ⟨i, hi, rfl⟩ := List.mem_map.1 hx
      exact (hf' i (List.mem_range.1 hi)).2.1
    · have hpos : 0 < len := by
        rcases Nat.eq_zero_or_pos len with e0 | e0
        · subst e0; simp at hn
        · exact e0
      have h0 := (hf' 0 hpos).2.2 0 hk
      have hc0 : w.cell? ((a.add (0 * k)).add 0) = some ((cellsOf (f 0))[0]'(by rw [(hf' 0 hpos).1]; exact hk)) := by
        rw [h0]; exact List.getElem?_eq_getElem _
      have hc1 : w.cell? a = some ((cellsOf (f 0))[0]'(by rw [(hf' 0 hpos).1]; exact hk)) := by
        simpa [Addr.add] using hc0
      obtain ⟨b, off, spot⟩ := a
      have hspot : spot = none := World.cell?_spot hc1
      subst hspot
      refine ⟨b, off, rfl, lt_of_cell hc1, fun j u hu => ?_⟩
      obtain ⟨i, x, hi, ej, hu'⟩ := flatMap_at cellsOf k hk _ hkl j u hu
      have hil : i < len := by
        have := (List.getElem?_eq_some_iff.1 hi).1
        simpa using this
      have hx : x = f i := by
        have := hi
        simp [hil] at this
        exact this.symm
      subst hx
      have := (hf' i hil).2.2 (j % k) (Nat.mod_lt _ hk)
      rw [hu', Go.WideShapes.add_plain, Go.WideShapes.add_plain] at this
      rw [show off + j = off + i * k + j % k by omega]
      exact this
end
section
variable {H : Type} {enc : TypeId × Value → H} {w : World} {sp : Nat → Bool} {held : Bool}
theorem byte_row (n : Nat) (cs : List Value) (x : DataW H × List MemPlace) (h : DataW.trod enc Tryz.prog w 0 sp held n 5 cs = some x) (_ : cs.length = 1) : ∃ y : UInt8, cs = [.int .u8 (y.toNat : Int)] ∧ True := by
  obtain ⟨i, e, _, wi⟩ := DataW.trod_int Tryz.underlying5 h
  have bi : 0 ≤ i ∧ i ≤ 255 := by simpa [Lit.wf, IntKind.min, IntKind.max, IntKind.signed, IntKind.bits] using wi
  refine ⟨UInt8.ofNat i.toNat, ?_, trivial⟩
  have h2 : (UInt8.ofNat i.toNat).toNat = i.toNat := by
    rw [UInt8.toNat_ofNat']
    omega
  rw [e, h2, Int.toNat_of_nonneg bi.1]
theorem flat_bytes (l : List UInt8) : (l.flatMap fun y => [Value.int .u8 (y.toNat : Int)]) = bytesV l := by
  induction l with
  | nil => rfl
  | cons x r ih => rw [List.flatMap_cons, ih]; rfl
/-- The bytes in a field. -/
theorem bytes_cell {n : Nat} {c : Value} {x : DataW H × List MemPlace} (h : DataW.trod enc Tryz.prog w 0 sp held n 30 [c] = some x) :
    ∃ (A : Option Addr) (cap : Nat) (l : List UInt8), c = .slice A l.length cap ∧ l.length ≤ cap ∧ cap ≤ maxLen ∧ Rd w w.heap.size A (bytesV l) := by
  obtain ⟨A, cap, l, h1, h2, h3, _, _, h4⟩ := open_cell (fun y : UInt8 => [Value.int .u8 (y.toNat : Int)]) (fun _ => True) Tryz.underlying30 (show Tryz.prog.cellsOf 5 = 1 by kernel_rfl) (by decide) byte_row h
  rw [flat_bytes] at h4
  exact ⟨A, cap, l, h1, h2, h3, h4⟩
end
/-- A command by numbers, in a list. -/
structure Nb where
  k : Int
  a : Int
  A : Option Addr
  cap : Nat
  l : List UInt8
deriving Inhabited
def cellsNb (x : Nb) : List Value := [.int .u8 x.k, .int .u32 x.a, .slice x.A x.l.length x.cap]
theorem cellsNb_len (x : Nb) : (cellsNb x).length = 3 := rfl
def Nb.Ok (w : World) (x : Nb) : Prop := (0 ≤ x.k ∧ x.k ≤ 255) ∧ (0 ≤ x.a ∧ x.a ≤ 4294967295) ∧ Rd w w.heap.size x.A (bytesV x.l)
section
variable {H : Type} {enc : TypeId × Value → H} {w : World} {sp : Nat → Bool} {held : Bool}
theorem nb_row (n : Nat) (cs : List Value) (x : DataW H × List MemPlace) (h : DataW.trod enc Tryz.prog w 0 sp held n 37 cs = some x) (hl : cs.length = 3) : ∃ y : Nb, cs = cellsNb y ∧ Nb.Ok w y := by
  obtain ⟨a, b, c, rfl⟩ : ∃ a b c, cs = [a, b, c] := by
    match cs, hl with
    | [a, b, c], _ => exact ⟨a, b, c, rfl⟩
  obtain ⟨y0, y1, y2, m, _, _, h0, h1, h2⟩ := Go.Deep.trod_struct3 Tryz.underlying37 h
  have k0 : Tryz.prog.cellsOf 5 = 1 := by kernel_rfl
  have k1 : Tryz.prog.cellsOf 35 = 1 := by kernel_rfl
  have k2 : Tryz.prog.cellsOf 30 = 1 := by kernel_rfl
  obtain ⟨i, ei, _, wi⟩ := DataW.trod_int Tryz.underlying5 (by simpa [k0] using h0)
  obtain ⟨j, ej, _, wj⟩ := DataW.trod_int Tryz.underlying35 (by simpa [k0, k1] using h1)
  obtain ⟨A, cap, l, e2, _, _, hrd⟩ := bytes_cell (c := c) (by simpa [k0, k1, k2] using h2)
  have bi : 0 ≤ i ∧ i ≤ 255 := by simpa [Lit.wf, IntKind.min, IntKind.max, IntKind.signed, IntKind.bits] using wi
  have bj : 0 ≤ j ∧ j ≤ 4294967295 := by simpa [Lit.wf, IntKind.min, IntKind.max, IntKind.signed, IntKind.bits] using wj
  refine ⟨⟨i, j, A, cap, l⟩, ?_, bi, bj, hrd⟩
  have e0 : a = .int .u8 i := by simpa using ei
  have e1 : b = .int .u32 j := by simpa using ej
  rw [e0, e1, e2]
  rfl
set_option maxRecDepth 100000 in
theorem nb_rows {b0 : Nat} {v : Value} {d : DataW H} {p : List MemPlace} (hv : Value.okWide Tryz.prog w .any b0 48 v) (h : DataW.Trod enc Tryz.prog w 0 sp held 48 v d p) :
    ∃ (A : Option Addr) (cap : Nat) (l : List Nb), v = .slice A l.length cap ∧ l.length ≤ cap ∧ cap ≤ maxLen ∧ (∀ x ∈ l, Nb.Ok w x) ∧ (∀ x ∈ l, (cellsNb x).length = 3) ∧ Rd w w.heap.size A (l.flatMap cellsNb) :=
  by
  have hr := @nb_row H enc w sp held
  have h1 : Tryz.prog.cellsOf 37 = 3 := by kernel_rfl
  have h2 := Tryz.underlying48
  exact open_rows cellsNb (Nb.Ok w) h2 h1 (by decide) hr hv h
set_option maxRecDepth 100000 in
theorem commandWrong_rows0 {b0 : Nat} {v : Value} {d : DataW H} {p : List MemPlace} (hv : Value.okWide Tryz.prog w .any b0 48 v) (h : DataW.Trod enc Tryz.prog w 0 sp held 48 v d p) :
    ∃ (A : Option Addr) (cap : Nat) (l : List Nb), v = .slice A l.length cap ∧ l.length ≤ cap ∧ cap ≤ maxLen ∧ (∀ x ∈ l, Nb.Ok w x) ∧ (∀ x ∈ l, (cellsNb x).length = 3) ∧ Rd w w.heap.size A (l.flatMap cellsNb) := nb_rows hv h
set_option maxRecDepth 100000 in
theorem commandLists_rows0 {b0 : Nat} {v : Value} {d : DataW H} {p : List MemPlace} (hv : Value.okWide Tryz.prog w .any b0 48 v) (h : DataW.Trod enc Tryz.prog w 0 sp held 48 v d p) :
    ∃ (A : Option Addr) (cap : Nat) (l : List Nb), v = .slice A l.length cap ∧ l.length ≤ cap ∧ cap ≤ maxLen ∧ (∀ x ∈ l, Nb.Ok w x) ∧ (∀ x ∈ l, (cellsNb x).length = 3) ∧ Rd w w.heap.size A (l.flatMap cellsNb) := nb_rows hv h
set_option maxRecDepth 100000 in
theorem commandLists_rows1 {b0 : Nat} {v : Value} {d : DataW H} {p : List MemPlace} (hv : Value.okWide Tryz.prog w .any b0 30 v) (h : DataW.Trod enc Tryz.prog w 0 sp held 30 v d p) :
    ∃ (A : Option Addr) (cap : Nat) (l : List UInt8), v = .slice A l.length cap ∧ l.length ≤ cap ∧ cap ≤ maxLen ∧ (∀ x ∈ l, True) ∧ (∀ x ∈ l, [Value.int .u8 ((x : UInt8).toNat : Int)].length = 1) ∧ Rd w w.heap.size A (l.flatMap fun y => [Value.int .u8 (y.toNat : Int)]) := by
  have hr := @byte_row H enc w sp held
  have h1 : Tryz.prog.cellsOf 5 = 1 := by kernel_rfl
  have h2 := Tryz.underlying30
  exact open_rows (fun y : UInt8 => [Value.int .u8 (y.toNat : Int)]) (fun _ => True) h2 h1 (by decide) hr hv h
end
end Go.Proofs.YtphpgbbjbncfoaaGreatDoor

/-
  LAYER 42: Numbers.Cmd: the commands by numbers: the walk.
-/
import Derived.Test.YtphpgbbjbncfoaaGreatDoorComN
import Derived.Test.YtphpgbbjbncfoaaGreatDoorCom13
import Derived.Deep.CutRange
namespace Go.Proofs.YtphpgbbjbncfoaaGreatDoor
open Go.ChangeShapes Go.WideShapes Go.ChangeAt Go.RowKit

set_option linter.unusedVariables false
def nC (k a : Int) (A : Option Addr) (n cap : Nat) : List Value := [.int .u8 k, .int .u32 a, .slice A n cap]
def nV (k a : Int) (A : Option Addr) (n cap : Nat) : Value := .agg #[.int .u8 k, .int .u32 a, .slice A n cap]
/-- What stands while a command is made: the numbers, the result's block, the command's. -/
def NI (w : World) (k a : Int) (A : Option Addr) (n cap : Nat) (x0 x1 x2 x3 : Value) (W : World) : Prop :=
  FInv w W ∧ Blk W w.heap.size 37 #[.int .u8 k, .int .u32 a, .slice A n cap] ∧ Blk W (w.heap.size + 1) 24 #[.int .i64 0, .int .i64 0, .string ⟨#[]⟩, .string ⟨#[]⟩] ∧ Blk W (w.heap.size + 1 + 1) 24 #[x0, x1, x2, x3]
section
variable {w W W' : World} {k a : Int} {A : Option Addr} {n cap : Nat} {x0 x1 x2 x3 : Value}
theorem NI.call (h : Hid (NI w k a A n cap x0 x1 x2 x3 W)) (hb : Below W.heap.size W W') : Hid (NI w k a A n cap x0 x1 x2 x3 W') := Lib.hid ⟨(FInv.call (Lib.hid h.out.1) hb).out, h.out.2.1.call hb, h.out.2.2.1.call hb, h.out.2.2.2.call hb⟩
theorem NI.drew (h : Hid (NI w k a A n cap x0 x1 x2 x3 W)) : Hid (NI w k a A n cap x0 x1 x2 x3 W.drew) := Lib.hid ⟨(FInv.drew (Lib.hid h.out.1)).out, h.out.2.1.drew, h.out.2.2.1.drew, h.out.2.2.2.drew⟩
theorem NI.fset (h : Hid (NI w k a A n cap x0 x1 x2 x3 W)) (hG : Good w) (i : Nat) (u : Value) : FInv w (W.setCell ⟨w.heap.size + 1 + 1, i, none⟩ u) := by
  have hb : Below w.heap.size w (W.setCell ⟨w.heap.size + 1 + 1, i, none⟩ u) := h.out.1.2.setCell (p := ⟨w.heap.size + 1 + 1, i, none⟩) (by show _ ≤ w.heap.size + 1 + 1; omega) u
  exact (FInv.of hG hb).out
theorem NI.set1 (h : Hid (NI w k a A n cap x0 x1 x2 x3 W)) (hG : Hid (Good w)) (u : Value) : Hid (NI w k a A n cap x0 u x2 x3 (W.setCell ⟨w.heap.size + 1 + 1, 1, none⟩ u)) :=
  Lib.hid ⟨NI.fset h hG.out 1 u, h.out.2.1.far (by show w.heap.size ≠ w.heap.size + 1 + 1; omega) _, h.out.2.2.1.far (by show w.heap.size + 1 ≠ w.heap.size + 1 + 1; omega) _, by simpa using h.out.2.2.2.set 1 u⟩
theorem NI.set2 (h : Hid (NI w k a A n cap x0 x1 x2 x3 W)) (hG : Hid (Good w)) (u : Value) : Hid (NI w k a A n cap x0 x1 u x3 (W.setCell ⟨w.heap.size + 1 + 1, 2, none⟩ u)) :=
  Lib.hid ⟨NI.fset h hG.out 2 u, h.out.2.1.far (by show w.heap.size ≠ w.heap.size + 1 + 1; omega) _, h.out.2.2.1.far (by show w.heap.size + 1 ≠ w.heap.size + 1 + 1; omega) _, by simpa using h.out.2.2.2.set 2 u⟩
theorem NI.set3 (h : Hid (NI w k a A n cap x0 x1 x2 x3 W)) (hG : Hid (Good w)) (u : Value) : Hid (NI w k a A n cap x0 x1 x2 u (W.setCell ⟨w.heap.size + 1 + 1, 3, none⟩ u)) :=
  Lib.hid ⟨NI.fset h hG.out 3 u, h.out.2.1.far (by show w.heap.size ≠ w.heap.size + 1 + 1; omega) _, h.out.2.2.1.far (by show w.heap.size + 1 ≠ w.heap.size + 1 + 1; omega) _, by simpa using h.out.2.2.2.set 3 u⟩
theorem NI.cells (h : Hid (NI w k a A n cap x0 x1 x2 x3 W)) : W.cell? ⟨w.heap.size, 0, none⟩ = some (.int .u8 k) ∧ W.cell? ⟨w.heap.size, 1, none⟩ = some (.int .u32 a) ∧ W.cell? ⟨w.heap.size, 2, none⟩ = some (.slice A n cap) ∧
    W.cell? ⟨w.heap.size + 1, 0, none⟩ = some (.int .i64 0) ∧ W.cell? ⟨w.heap.size + 1, 1, none⟩ = some (.int .i64 0) ∧ W.cell? ⟨w.heap.size + 1, 2, none⟩ = some (.string ⟨#[]⟩) ∧ W.cell? ⟨w.heap.size + 1, 3, none⟩ = some (.string ⟨#[]⟩) ∧
    W.cell? ⟨w.heap.size + 1 + 1, 0, none⟩ = some x0 ∧ W.cell? ⟨w.heap.size + 1 + 1, 1, none⟩ = some x1 ∧ W.cell? ⟨w.heap.size + 1 + 1, 2, none⟩ = some x2 ∧ W.cell? ⟨w.heap.size + 1 + 1, 3, none⟩ = some x3 ∧
    (∀ i, W.frozen? ⟨w.heap.size + 1, i, none⟩ = false) ∧ (∀ i, W.frozen? ⟨w.heap.size + 1 + 1, i, none⟩ = false) :=
  ⟨h.out.2.1.cell 0, h.out.2.1.cell 1, h.out.2.1.cell 2, h.out.2.2.1.cell 0, h.out.2.2.1.cell 1, h.out.2.2.1.cell 2, h.out.2.2.1.cell 3, h.out.2.2.2.cell 0, h.out.2.2.2.cell 1, h.out.2.2.2.cell 2, h.out.2.2.2.cell 3, fun i => h.out.2.2.1.frozen i, fun i => h.out.2.2.2.frozen i⟩
end
theorem two_blk (w : World) (o o2 : Obj) (T : TypeId) (cs : Array Value) : Blk (((w.alloc o).alloc (.cells cs T)).alloc o2) (w.heap.size + 1) T cs := by
  have := (Blk.new (w.alloc o) T cs).alloc o2
  simpa using this
theorem below3 (w : World) (o o1 o2 : Obj) : Below w.heap.size w (((w.alloc o).alloc o1).alloc o2) := below_new (below_new (below_new (Below.refl _ _) _) _) _
theorem run_rd_string (w : World) (B cap : Nat) (A : Option Addr) (l : List UInt8) (h : Rd w B A (bytesV l)) : (convert 30 9 (.slice A l.length cap)).run Tryz.prog w = .ok (.string ⟨l.toArray⟩) w := by
  cases l with
  | nil =>
    rw [List.length_nil, run_convert_bytes_string w 30 9 5 A 0 cap Tryz.underlying30 Tryz.underlying5 Tryz.underlying9]
    cases A <;> simp [Conv.bytesToString] <;> rfl
  | cons c r =>
    have hne : bytesV (c :: r) ≠ [] := by simp [bytesV]
    generalize c :: r = l at *
    obtain ⟨b, off, rfl, _, hc⟩ := h hne
    exact run_convert_bytes_back w 30 9 5 ⟨b, off, none⟩ cap l Tryz.underlying30 Tryz.underlying5 Tryz.underlying9 (fun j hj => by
      have := hc j (.int .u8 (l[j].toNat : Int)) (by simp [bytesV, hj])
      rw [show (⟨b, off, none⟩ : Addr).add j = ⟨b, off + j, none⟩ by unfold Addr.add; split <;> simp_all]
      exact this)
/-- The numbers' string as far as k. -/
def jnN (l : List UInt8) (k : Nat) : List UInt8 := Num.joined ((l.take k).map fun c => Lib.itoa (Cmd.i8 c))
theorem jnN_zero (l : List UInt8) : jnN l 0 = [] := rfl
theorem jnN_one {l : List UInt8} {c : UInt8} (h : l[0]? = some c) : jnN l 1 = Lib.itoa (Cmd.i8 c) := by
  unfold jnN
  rw [take_snoc h]
  rfl
theorem jnN_succ {l : List UInt8} {k : Nat} {c : UInt8} (h : l[k]? = some c) (hk : 0 < k) : jnN l (k + 1) = jnN l k ++ [44] ++ Lib.itoa (Cmd.i8 c) := by
  unfold jnN
  have hk2 := (List.getElem?_eq_some_iff.1 h).1
  rw [take_snoc h, List.map_append, List.map_cons, List.map_nil, Num.joined_snoc _ _ (fun e => by
    have := congrArg List.length e
    rw [List.length_map, List.length_take, List.length_nil] at this
    omega), List.append_assoc]
  rfl
theorem jnN_len (l : List UInt8) (k : Nat) : (jnN l k).length ≤ 21 * l.length := by
  have h := Num.joined_len 20 ((l.take k).map fun c => Lib.itoa (Cmd.i8 c)) (fun p hp => by
    obtain ⟨c, _, rfl⟩ := List.mem_map.1 hp
    have := Cmd.i8_ok c
    exact Dec.itoa_length (by omega) (by omega))
  rw [List.length_map, List.length_take] at h
  unfold jnN
  omega
theorem jnN_all (l : List UInt8) : jnN l 200 = Cmd.numVal l := by
  unfold jnN Cmd.numVal Cmd.numsN
  rw [List.map_map]
  rfl
theorem jnN_end (l : List UInt8) (h : l.length ≤ 200) : jnN l l.length = Cmd.numVal l := by
  rw [← jnN_all]
  unfold jnN
  rw [List.take_of_length_le (Nat.le_refl _), List.take_of_length_le h]
theorem wrap_i8 (c : UInt8) : IntKind.i8.wrap (c.toNat : Int) = Cmd.i8 c := by
  have := c.toNat_lt
  unfold Cmd.i8 IntKind.wrap
  simp [IntKind.bits, IntKind.signed]
  split <;> omega
theorem wrap_i64 {x : Int} (h0 : -9223372036854775808 ≤ x) (h1 : x ≤ 9223372036854775807) : IntKind.i64.wrap x = x := by
  unfold IntKind.wrap
  simp [IntKind.bits, IntKind.signed]
  split <;> omega
/-- The name as far as k. -/
def nmN (l : List UInt8) (k : Nat) : List UInt8 := 110 :: (l.take k).map Cmd.abc
theorem nmN_succ {l : List UInt8} {k : Nat} {c : UInt8} (h : l[k]? = some c) : nmN l (k + 1) = nmN l k ++ [Cmd.abc c] := by
  unfold nmN
  rw [take_snoc h]
  simp
theorem nmN_len (l : List UInt8) (k : Nat) : (nmN l k).length ≤ 1 + l.length := by
  unfold nmN
  simp
  omega
theorem abc_index (c : UInt8) {g : c.toNat % 11 < ({ data := #[97, 98, 99, 88, 89, 90, 95, 48, 49, 56, 57] } : ByteArray).size} : (({ data := #[97, 98, 99, 88, 89, 90, 95, 48, 49, 56, 57] } : ByteArray)[c.toNat % 11]'g) = Cmd.abc c := by
  have key : ∀ i : Fin 11, (({ data := #[97, 98, 99, 88, 89, 90, 95, 48, 49, 56, 57] } : ByteArray)[i.val]'i.isLt) = (Cmd.abcL[i.val]?).getD 0 := by decide +kernel
  exact key ⟨c.toNat % 11, Nat.mod_lt _ (by decide)⟩
theorem nmN_end (l : List UInt8) (h : l.length ≤ 15) : nmN l l.length = Cmd.nameN l := by
  unfold nmN Cmd.nameN
  rw [List.take_of_length_le (Nat.le_refl _), List.take_of_length_le h]


set_option maxHeartbeats 4000000 in
set_option maxRecDepth 20000 in
theorem cmdN_1 (k : Int) (k0 : 0 ≤ k) (k1 : k ≤ 255) (a : Int) (a0 : 0 ≤ a) (a1 : a ≤ 4294967295) (A : Option Addr) (cap : Nat) (l : List UInt8) (hl : l.length ≤ 300) (w : World) (hrd : Rd w w.heap.size A (bytesV l)) (hG : Good w)  (hkm : 1 + k % 15 = 1) :
    Calls Tryz.prog 18 #[nV k a A l.length cap] w fun e w' => e = .returned (cV (Cmd.cmdK 1 a l)) ∧ Below w.heap.size w w' := by
  have HI : Hid (FInv w w) := Lib.hid ⟨hG, Below.refl _ _⟩
  have HR := Lib.hid hrd
  have HG := Lib.hid hG
  clear hG hrd
  have hkm2 : 1 + Int.tmod k 15 = 1 := by rw [Int.tmod_eq_emod_of_nonneg k0]; exact hkm
  have HN : Hid (NI w k a A l.length cap (.int .i64 1) (.int .i64 0) (.string ⟨#[]⟩) (.string ⟨#[]⟩) (((w.alloc (.cells #[.int .u8 k, .int .u32 a, .slice A l.length cap] 37)).alloc (.cells #[.int .i64 0, .int .i64 0, .string ⟨#[]⟩, .string ⟨#[]⟩] 24)).alloc (.cells #[.int .i64 1, .int .i64 0, .string ⟨#[]⟩, .string ⟨#[]⟩] 24))) :=
    Lib.hid ⟨(FInv.alloc (FInv.alloc (FInv.alloc HI _) _) _).out, ((Blk.new _ _ _).alloc _).alloc _, by simpa using ((Blk.new (w.alloc (.cells #[.int .u8 k, .int .u32 a, .slice A l.length cap] 37)) _ _).alloc _), by simpa using Blk.new ((w.alloc (.cells #[.int .u8 k, .int .u32 a, .slice A l.length cap] 37)).alloc (.cells #[.int .i64 0, .int .i64 0, .string ⟨#[]⟩, .string ⟨#[]⟩] 24)) _ _⟩
  clear HI
  unfold nV
  have HV : Hid (Cmd.cmdK 1 a l = ⟨1, 0, [], Cmd.numVal l⟩) := Lib.hid (by unfold Cmd.cmdK; rw [if_pos rfl]; rfl)
  go_enter Tryz.func18, Tryz.ntmps18
  go_wp2_with fail
  go_loopw [4] (fun i wr => ∃ n : Nat, n ≤ l.length ∧ n ≤ 200 ∧ i = .int .i64 n ∧ Hid (NI w k a A l.length cap (.int .i64 1) (.int .i64 0) (.string ⟨#[]⟩) (.string ⟨(jnN l n).toArray⟩) wr)) (fun i _ => 200 - (intOf i).toNat)
  case atStart => exact ⟨0, Nat.zero_le _, Nat.zero_le _, rfl, HN⟩
  case round =>
    obtain ⟨n, hn, hn2, rfl, HN⟩ := hrel
    obtain ⟨b0, b1, b2, r0, r1, r2, r3, c0, c1, c2, c3, hf1, hf2⟩ := NI.cells HN
    have fr0 := hf1 0
    have fr1 := hf1 1
    have fr2 := hf1 2
    have fr3 := hf1 3
    have f0 := hf2 0
    have f1 := hf2 1
    have f2 := hf2 2
    have f3 := hf2 3
    clear hf1 hf2
    by_cases hlt : n < l.length ∧ n < 200
    · obtain ⟨c, hc⟩ : ∃ c, l[n]? = some c := ⟨_, List.getElem?_eq_getElem hlt.1⟩
      obtain ⟨b, off, rfl, hbB, hrc⟩ := HR.out (fun e => by have := congrArg List.length e; simp [bytesV] at this; rw [this] at hlt; simp at hlt)
      have hcell : w.cell? ⟨b, off + n, none⟩ = some (.int .u8 (c.toNat : Int)) := hrc n _ (by simp [bytesV, hc])
      have hcell2 := (HN.out.1.2.cell (p := ⟨b, off + n, none⟩) hbB).trans hcell
      have l1 : (n : Int) < (l.length : Int) := by omega
      have l2 : (n : Int) < 200 := by omega
      have l3 : (0 : Int) ≤ (n : Int) := by omega
      have hw8 := wrap_i8 c
      have hb8 := Cmd.i8_ok c
      have hw64 : IntKind.i64.wrap (Cmd.i8 c) = Cmd.i8 c := wrap_i64 (by omega) (by omega)
      have hjl := jnN_len l n
      have hj1 : ¬ 9223372036854775807 < (jnN l n).length + 1 := by omega
      by_cases hn0 : n = 0
      · have l4 : ¬ (0 : Int) < (n : Int) := by omega
        have HN0 := Lib.hid hn0
        clear hn0
        go_wp2_with fail
        clear hcell2 b0 b1 b2 r0 r1 r2 r3 c0 c1 c2 c3 fr0 fr1 fr2 fr3 f0 f1 f2 f3
        obtain ⟨W, hW⟩ : ∃ W, wr = W := ⟨_, rfl⟩
        obtain ⟨S, hS⟩ : ∃ S, jnN l n = S := ⟨_, rfl⟩
        have hSl : S.length ≤ 21 * l.length + 1 := by rw [← hS]; omega
        have hSX : S ++ Lib.itoa (Cmd.i8 c) = jnN l (n + 1) := by rw [← hS]; have e0 := HN0.out; subst e0; rw [jnN_one hc]; rfl
        rw [hS] at HN
        have HN2 := HN
        subst hW
        clear hS HN
        have hil := Dec.itoa_length (n := Cmd.i8 c) (by omega) (by omega)
        have hcat : ¬ 9223372036854775807 < S.length + (Lib.itoa (Cmd.i8 c)).length := by omega
        have HSX := Lib.hid hSX
        clear hSX hSl hjl hj1 hil
        obtain ⟨b0, b1, b2, r0, r1, r2, r3, c0, c1, c2, c3, hf1, hf2⟩ := NI.cells HN2
        have f3 := hf2 3
        clear hf1 hf2 r0 r1 r2 r3 c0 c1 c2 b0 b1
        have hcell2 := (HN2.out.1.2.cell (p := ⟨b, off + n, none⟩) hbB).trans hcell
        clear hcell hrc
        go_region_with (refine (ntext_any (Cmd.i8 c) (by omega) (by omega) _ (by first | exact HN2.out.1.1 | exact (NI.drew HN2).out.1.1)).mono ?_; rintro e w' ⟨rfl, hb⟩; have HN3 := NI.call (by first | exact HN2 | exact NI.drew HN2) hb; have g3 := (NI.cells HN3).2.2.2.2.2.2.2.2.2.2.1; have gf := (NI.cells HN3).2.2.2.2.2.2.2.2.2.2.2.2 3; clear hb)
        all_goals
          have HN4 := NI.set3 HN3 HG (.string ⟨(S ++ Lib.itoa (Cmd.i8 c)).toArray⟩)
          rw [ByteArray.mk_append_mk]
          rw [HSX.out] at HN4 ⊢
          clear g3 gf f3 c3 hcell2
          go_wp2_with fail
          go_roundw
          case rel => exact ⟨n + 1, by omega, by omega, by go_num, HN4⟩
          case measure => simp [intOf]; omega
      · have l4 : (0 : Int) < (n : Int) := by omega
        go_wp2_with fail
        clear hcell2 b0 b1 b2 r0 r1 r2 r3 c0 c1 c2 c3 fr0 fr1 fr2 fr3 f0 f1 f2 f3
        have HN2 := NI.set3 HN HG (.string (⟨(jnN l n).toArray⟩ ++ ⟨#[44]⟩))
        rw [show (⟨(jnN l n).toArray⟩ ++ ⟨#[44]⟩ : ByteArray) = ⟨(jnN l n ++ [44]).toArray⟩ from ByteArray.mk_append_mk _ _] at HN2 ⊢
        generalize wr.setCell ⟨w.heap.size + 1 + 1, 3, none⟩ (.string ⟨(jnN l n ++ [44]).toArray⟩) = W at HN2 ⊢
        obtain ⟨S, hS⟩ : ∃ S, jnN l n ++ [44] = S := ⟨_, rfl⟩
        have hSl : S.length ≤ 21 * l.length + 1 := by rw [← hS, List.length_append, List.length_singleton]; omega
        have hSX : S ++ Lib.itoa (Cmd.i8 c) = jnN l (n + 1) := by rw [← hS, jnN_succ hc (by omega)]
        rw [hS] at HN2 ⊢
        clear hS HN
        have hil := Dec.itoa_length (n := Cmd.i8 c) (by omega) (by omega)
        have hcat : ¬ 9223372036854775807 < S.length + (Lib.itoa (Cmd.i8 c)).length := by omega
        have HSX := Lib.hid hSX
        clear hSX hSl hjl hj1 hil
        obtain ⟨b0, b1, b2, r0, r1, r2, r3, c0, c1, c2, c3, hf1, hf2⟩ := NI.cells HN2
        have f3 := hf2 3
        clear hf1 hf2 r0 r1 r2 r3 c0 c1 c2 b0 b1
        have hcell2 := (HN2.out.1.2.cell (p := ⟨b, off + n, none⟩) hbB).trans hcell
        clear hcell hrc
        go_region_with (refine (ntext_any (Cmd.i8 c) (by omega) (by omega) _ (by first | exact HN2.out.1.1 | exact (NI.drew HN2).out.1.1)).mono ?_; rintro e w' ⟨rfl, hb⟩; have HN3 := NI.call (by first | exact HN2 | exact NI.drew HN2) hb; have g3 := (NI.cells HN3).2.2.2.2.2.2.2.2.2.2.1; have gf := (NI.cells HN3).2.2.2.2.2.2.2.2.2.2.2.2 3; clear hb)
        all_goals
          have HN4 := NI.set3 HN3 HG (.string ⟨(S ++ Lib.itoa (Cmd.i8 c)).toArray⟩)
          rw [ByteArray.mk_append_mk]
          rw [HSX.out] at HN4 ⊢
          clear g3 gf f3 c3 hcell2
          go_wp2_with fail
          go_roundw
          case rel => exact ⟨n + 1, by omega, by omega, by go_num, HN4⟩
          case measure => simp [intOf]; omega
    · have hstop : (¬ (n : Int) < (l.length : Int)) ∨ ((n : Int) < (l.length : Int) ∧ ¬ (n : Int) < 200) := by omega
      have hval : jnN l n = Cmd.numVal l := by
        by_cases h2 : n < l.length
        · have : n = 200 := by omega
          rw [this, jnN_all]
        · have : n = l.length := by omega
          rw [this]
          exact jnN_end l (by omega)
      rw [hval] at HN c3
      rcases hstop with h1 | ⟨h1, h2⟩
      all_goals
        go_wp2_with fail
        refine bodyPost_ret (results_cell_row rfl _ _ (w.heap.size + 1) 24 _ (0, 0) _ rfl HN.out.2.2.1.put4 Tryz.underlying24 rfl (by kernel_rfl)) rfl ?_
        exact ⟨by rw [HV.out]; rfl, below_put4 HN.out.1.2 (by show _ ≤ w.heap.size + 1; omega)⟩
set_option maxHeartbeats 4000000 in
set_option maxRecDepth 20000 in
theorem cmdN_2 (k : Int) (k0 : 0 ≤ k) (k1 : k ≤ 255) (a : Int) (a0 : 0 ≤ a) (a1 : a ≤ 4294967295) (A : Option Addr) (cap : Nat) (l : List UInt8) (hl : l.length ≤ 300) (w : World) (hrd : Rd w w.heap.size A (bytesV l)) (hG : Good w)  (hkm : 1 + k % 15 = 2) :
    Calls Tryz.prog 18 #[nV k a A l.length cap] w fun e w' => e = .returned (cV (Cmd.cmdK 2 a l)) ∧ Below w.heap.size w w' := by
  have HI : Hid (FInv w w) := Lib.hid ⟨hG, Below.refl _ _⟩
  have HR := Lib.hid hrd
  have HG := Lib.hid hG
  clear hG hrd
  have hkm2 : 1 + Int.tmod k 15 = 2 := by rw [Int.tmod_eq_emod_of_nonneg k0]; exact hkm
  have HN : Hid (NI w k a A l.length cap (.int .i64 2) (.int .i64 0) (.string ⟨#[]⟩) (.string ⟨#[]⟩) (((w.alloc (.cells #[.int .u8 k, .int .u32 a, .slice A l.length cap] 37)).alloc (.cells #[.int .i64 0, .int .i64 0, .string ⟨#[]⟩, .string ⟨#[]⟩] 24)).alloc (.cells #[.int .i64 2, .int .i64 0, .string ⟨#[]⟩, .string ⟨#[]⟩] 24))) :=
    Lib.hid ⟨(FInv.alloc (FInv.alloc (FInv.alloc HI _) _) _).out, ((Blk.new _ _ _).alloc _).alloc _, by simpa using ((Blk.new (w.alloc (.cells #[.int .u8 k, .int .u32 a, .slice A l.length cap] 37)) _ _).alloc _), by simpa using Blk.new ((w.alloc (.cells #[.int .u8 k, .int .u32 a, .slice A l.length cap] 37)).alloc (.cells #[.int .i64 0, .int .i64 0, .string ⟨#[]⟩, .string ⟨#[]⟩] 24)) _ _⟩
  clear HI
  unfold nV
  have HV : Hid (Cmd.cmdK 2 a l = ⟨2, 0, [], l⟩) := Lib.hid (by unfold Cmd.cmdK; rw [if_neg (by decide), if_pos (by decide)]; rfl)
  have hs := run_rd_string _ w.heap.size cap A l (HR.out.below HN.out.1.2)
  go_enter Tryz.func18, Tryz.ntmps18
  go_wp2_with fail
  refine bodyPost_ret (results_cell_row rfl _ _ (w.heap.size + 1) 24 _ (0, 0) _ rfl (two_blk _ _ _ _ _) Tryz.underlying24 rfl (by kernel_rfl)) rfl ?_
  exact ⟨by rw [HV.out]; rfl, below3 _ _ _ _⟩
set_option maxHeartbeats 4000000 in
set_option maxRecDepth 20000 in
theorem cmdN_15 (k : Int) (k0 : 0 ≤ k) (k1 : k ≤ 255) (a : Int) (a0 : 0 ≤ a) (a1 : a ≤ 4294967295) (A : Option Addr) (cap : Nat) (l : List UInt8) (hl : l.length ≤ 300) (w : World) (hrd : Rd w w.heap.size A (bytesV l)) (hG : Good w)  (hkm : 1 + k % 15 = 15) :
    Calls Tryz.prog 18 #[nV k a A l.length cap] w fun e w' => e = .returned (cV (Cmd.cmdK 15 a l)) ∧ Below w.heap.size w w' := by
  have HI : Hid (FInv w w) := Lib.hid ⟨hG, Below.refl _ _⟩
  have HR := Lib.hid hrd
  have HG := Lib.hid hG
  clear hG hrd
  have hkm2 : 1 + Int.tmod k 15 = 15 := by rw [Int.tmod_eq_emod_of_nonneg k0]; exact hkm
  have HN : Hid (NI w k a A l.length cap (.int .i64 15) (.int .i64 0) (.string ⟨#[]⟩) (.string ⟨#[]⟩) (((w.alloc (.cells #[.int .u8 k, .int .u32 a, .slice A l.length cap] 37)).alloc (.cells #[.int .i64 0, .int .i64 0, .string ⟨#[]⟩, .string ⟨#[]⟩] 24)).alloc (.cells #[.int .i64 15, .int .i64 0, .string ⟨#[]⟩, .string ⟨#[]⟩] 24))) :=
    Lib.hid ⟨(FInv.alloc (FInv.alloc (FInv.alloc HI _) _) _).out, ((Blk.new _ _ _).alloc _).alloc _, by simpa using ((Blk.new (w.alloc (.cells #[.int .u8 k, .int .u32 a, .slice A l.length cap] 37)) _ _).alloc _), by simpa using Blk.new ((w.alloc (.cells #[.int .u8 k, .int .u32 a, .slice A l.length cap] 37)).alloc (.cells #[.int .i64 0, .int .i64 0, .string ⟨#[]⟩, .string ⟨#[]⟩] 24)) _ _⟩
  clear HI
  unfold nV
  have HV : Hid (Cmd.cmdK 15 a l = ⟨15, 0, [], l⟩) := Lib.hid (by unfold Cmd.cmdK; rw [if_neg (by decide), if_pos (by decide)]; rfl)
  have hs := run_rd_string _ w.heap.size cap A l (HR.out.below HN.out.1.2)
  go_enter Tryz.func18, Tryz.ntmps18
  go_wp2_with fail
  refine bodyPost_ret (results_cell_row rfl _ _ (w.heap.size + 1) 24 _ (0, 0) _ rfl (two_blk _ _ _ _ _) Tryz.underlying24 rfl (by kernel_rfl)) rfl ?_
  exact ⟨by rw [HV.out]; rfl, below3 _ _ _ _⟩
set_option maxHeartbeats 4000000 in
set_option maxRecDepth 20000 in
theorem cmdN_7 (k : Int) (k0 : 0 ≤ k) (k1 : k ≤ 255) (a : Int) (a0 : 0 ≤ a) (a1 : a ≤ 4294967295) (A : Option Addr) (cap : Nat) (l : List UInt8) (hl : l.length ≤ 300) (w : World) (hrd : Rd w w.heap.size A (bytesV l)) (hG : Good w)  (hkm : 1 + k % 15 = 7) :
    Calls Tryz.prog 18 #[nV k a A l.length cap] w fun e w' => e = .returned (cV (Cmd.cmdK 7 a l)) ∧ Below w.heap.size w w' := by
  have HI : Hid (FInv w w) := Lib.hid ⟨hG, Below.refl _ _⟩
  have HR := Lib.hid hrd
  have HG := Lib.hid hG
  clear hG hrd
  have hkm2 : 1 + Int.tmod k 15 = 7 := by rw [Int.tmod_eq_emod_of_nonneg k0]; exact hkm
  have HN : Hid (NI w k a A l.length cap (.int .i64 7) (.int .i64 0) (.string ⟨#[110]⟩) (.string ⟨#[]⟩) (((w.alloc (.cells #[.int .u8 k, .int .u32 a, .slice A l.length cap] 37)).alloc (.cells #[.int .i64 0, .int .i64 0, .string ⟨#[]⟩, .string ⟨#[]⟩] 24)).alloc (.cells #[.int .i64 7, .int .i64 0, .string ⟨#[110]⟩, .string ⟨#[]⟩] 24))) :=
    Lib.hid ⟨(FInv.alloc (FInv.alloc (FInv.alloc HI _) _) _).out, ((Blk.new _ _ _).alloc _).alloc _, by simpa using ((Blk.new (w.alloc (.cells #[.int .u8 k, .int .u32 a, .slice A l.length cap] 37)) _ _).alloc _), by simpa using Blk.new ((w.alloc (.cells #[.int .u8 k, .int .u32 a, .slice A l.length cap] 37)).alloc (.cells #[.int .i64 0, .int .i64 0, .string ⟨#[]⟩, .string ⟨#[]⟩] 24)) _ _⟩
  clear HI
  unfold nV
  have HV : Hid (Cmd.cmdK 7 a l = ⟨7, a % 201, Cmd.nameN l, []⟩) := Lib.hid (by unfold Cmd.cmdK; rw [if_neg (by decide), if_neg (by decide), if_pos rfl]; rfl)
  have hmod : Int.tmod a 201 = a % 201 := Int.tmod_eq_emod_of_nonneg a0
  go_enter Tryz.func18, Tryz.ntmps18
  go_wp2_with fail
  go_loopw [5] (fun i wr => ∃ n : Nat, n ≤ l.length ∧ n ≤ 15 ∧ i = .int .i64 n ∧ Hid (NI w k a A l.length cap (.int .i64 7) (.int .i64 0) (.string ⟨(nmN l n).toArray⟩) (.string ⟨#[]⟩) wr)) (fun i _ => 200 - (intOf i).toNat)
  case atStart => exact ⟨0, Nat.zero_le _, Nat.zero_le _, rfl, HN⟩
  case round =>
    obtain ⟨n, hn, hn2, rfl, HN⟩ := hrel
    obtain ⟨b0, b1, b2, r0, r1, r2, r3, c0, c1, c2, c3, hf1, hf2⟩ := NI.cells HN
    have fr0 := hf1 0
    have fr1 := hf1 1
    have fr2 := hf1 2
    have fr3 := hf1 3
    have f0 := hf2 0
    have f1 := hf2 1
    have f2 := hf2 2
    have f3 := hf2 3
    clear hf1 hf2
    by_cases hlt : n < l.length ∧ n < 15
    · obtain ⟨c, hc⟩ : ∃ c, l[n]? = some c := ⟨_, List.getElem?_eq_getElem hlt.1⟩
      obtain ⟨b, off, rfl, hbB, hrc⟩ := HR.out (fun e => by have := congrArg List.length e; simp [bytesV] at this; rw [this] at hlt; simp at hlt)
      have hcell : w.cell? ⟨b, off + n, none⟩ = some (.int .u8 (c.toNat : Int)) := hrc n _ (by simp [bytesV, hc])
      have hcell2 := (HN.out.1.2.cell (p := ⟨b, off + n, none⟩) hbB).trans hcell
      have l1 : (n : Int) < (l.length : Int) := by omega
      have l2 : (n : Int) < 15 := by omega
      have l3 : (0 : Int) ≤ (n : Int) := by omega
      have hjl := nmN_len l n
      have hj1 : ¬ 9223372036854775807 < (nmN l n).length + 1 := by omega
      have HSX : Hid (nmN l (n + 1) = nmN l n ++ [Cmd.abc c]) := Lib.hid (nmN_succ hc)
      obtain ⟨d, hd⟩ : ∃ d, Cmd.abc c = d := ⟨_, rfl⟩
      have ha1 : (c.toNat : Int) % 11 < 11 := by omega
      have ha0 : (0 : Int) ≤ (c.toNat : Int) % 11 := by omega
      have hm11 : Int.tmod (c.toNat : Int) 11 = (c.toNat : Int) % 11 := Int.tmod_eq_emod_of_nonneg (by omega)
      have hx : ∀ g, (({ data := #[97, 98, 99, 88, 89, 90, 95, 48, 49, 56, 57] } : ByteArray)[((c.toNat : Int) % 11).toNat]'g) = d := by
        rw [← hd]
        have e : ((c.toNat : Int) % 11).toNat = c.toNat % 11 := by omega
        intro g
        simp only [e]
        exact abc_index c
      rw [hd] at HSX
      obtain ⟨S, hS⟩ : ∃ S, nmN l n = S := ⟨_, rfl⟩
      rw [hS] at HSX hj1 c2 HN
      have hcv := run_convert_bytes_back (P := Tryz.prog) (wr.alloc (.cells #[.int .u8 (d.toNat : Int)] 5)).drew 30 9 5 ⟨wr.heap.size, 0, none⟩ 1 [d] Tryz.underlying30 Tryz.underlying5 Tryz.underlying9 (fun j hj => by
        have hj0 : j = 0 := by simp at hj; exact hj
        subst hj0
        exact (Blk.new wr 5 #[.int .u8 (d.toNat : Int)]).cell 0)
      rw [show [d].length = 1 from rfl] at hcv
      have HNA := NI.call HN (below_new (Below.refl wr.heap.size wr) (.cells #[.int .u8 (d.toNat : Int)] 5))
      have c2a := (NI.cells HNA).2.2.2.2.2.2.2.2.2.1
      have f2a := (NI.cells HNA).2.2.2.2.2.2.2.2.2.2.2.2 2
      clear hrc hcell hjl hd hS
      go_wp2_with fail
      go_region
      all_goals
        have HN4 := NI.drew (NI.set2 HNA HG (.string ⟨(S ++ [d]).toArray⟩))
        rw [show (⟨#[d]⟩ : ByteArray) = ⟨[d].toArray⟩ from rfl, ByteArray.mk_append_mk]
        rw [← HSX.out] at HN4 ⊢
        clear b0 b1 b2 r0 r1 r2 r3 c0 c1 c2 c3 fr0 fr1 fr2 fr3 f0 f1 f2 f3 c2a f2a hcv hx hcell2
        go_wp2_with fail
        go_roundw
        case rel => exact ⟨n + 1, by omega, by omega, by go_num, HN4⟩
        case measure => simp [intOf]; omega
    · have hstop : (¬ (n : Int) < (l.length : Int)) ∨ ((n : Int) < (l.length : Int) ∧ ¬ (n : Int) < 15) := by omega
      have hval : nmN l n = Cmd.nameN l := by
        by_cases h2 : n < l.length
        · have : n = 15 := by omega
          rw [this]
          rfl
        · have : n = l.length := by omega
          rw [this]
          exact nmN_end l (by omega)
      rw [hval] at HN c2
      have HN2 := NI.set1 HN HG (.int .i64 (a % 201))
      rcases hstop with h1 | ⟨h1, h2⟩
      all_goals
        go_wp2_with fail
        refine bodyPost_ret (results_cell_row rfl _ _ (w.heap.size + 1) 24 _ (0, 0) _ rfl HN2.out.2.2.1.put4 Tryz.underlying24 rfl (by kernel_rfl)) rfl ?_
        exact ⟨by rw [HV.out]; rfl, below_put4 HN2.out.1.2 (by show _ ≤ w.heap.size + 1; omega)⟩
set_option maxHeartbeats 4000000 in
set_option maxRecDepth 20000 in
theorem cmdN_10 (k : Int) (k0 : 0 ≤ k) (k1 : k ≤ 255) (a : Int) (a0 : 0 ≤ a) (a1 : a ≤ 4294967295) (A : Option Addr) (cap : Nat) (l : List UInt8) (hl : l.length ≤ 300) (w : World) (hrd : Rd w w.heap.size A (bytesV l)) (hG : Good w)  (hkm : 1 + k % 15 = 10) :
    Calls Tryz.prog 18 #[nV k a A l.length cap] w fun e w' => e = .returned (cV (Cmd.cmdK 10 a l)) ∧ Below w.heap.size w w' := by
  have HI : Hid (FInv w w) := Lib.hid ⟨hG, Below.refl _ _⟩
  have HR := Lib.hid hrd
  have HG := Lib.hid hG
  clear hG hrd
  have hkm2 : 1 + Int.tmod k 15 = 10 := by rw [Int.tmod_eq_emod_of_nonneg k0]; exact hkm
  have HN : Hid (NI w k a A l.length cap (.int .i64 10) (.int .i64 0) (.string ⟨#[]⟩) (.string ⟨#[]⟩) (((w.alloc (.cells #[.int .u8 k, .int .u32 a, .slice A l.length cap] 37)).alloc (.cells #[.int .i64 0, .int .i64 0, .string ⟨#[]⟩, .string ⟨#[]⟩] 24)).alloc (.cells #[.int .i64 10, .int .i64 0, .string ⟨#[]⟩, .string ⟨#[]⟩] 24))) :=
    Lib.hid ⟨(FInv.alloc (FInv.alloc (FInv.alloc HI _) _) _).out, ((Blk.new _ _ _).alloc _).alloc _, by simpa using ((Blk.new (w.alloc (.cells #[.int .u8 k, .int .u32 a, .slice A l.length cap] 37)) _ _).alloc _), by simpa using Blk.new ((w.alloc (.cells #[.int .u8 k, .int .u32 a, .slice A l.length cap] 37)).alloc (.cells #[.int .i64 0, .int .i64 0, .string ⟨#[]⟩, .string ⟨#[]⟩] 24)) _ _⟩
  clear HI
  unfold nV
  have HV : Hid (Cmd.cmdK 10 a l = ⟨10, a % 1000000001, [], []⟩) := Lib.hid (by unfold Cmd.cmdK; rw [if_neg (by decide), if_neg (by decide), if_neg (by decide), if_pos rfl]; rfl)
  have hmod : Int.tmod a 1000000001 = a % 1000000001 := Int.tmod_eq_emod_of_nonneg a0
  go_enter Tryz.func18, Tryz.ntmps18
  go_wp2_with fail
  refine bodyPost_ret (results_cell_row rfl _ _ (w.heap.size + 1) 24 _ (0, 0) _ rfl (two_blk _ _ _ _ _) Tryz.underlying24 rfl (by kernel_rfl)) rfl ?_
  exact ⟨by rw [HV.out]; rfl, below3 _ _ _ _⟩
set_option maxHeartbeats 4000000 in
set_option maxRecDepth 20000 in
theorem cmdN_12 (k : Int) (k0 : 0 ≤ k) (k1 : k ≤ 255) (a : Int) (a0 : 0 ≤ a) (a1 : a ≤ 4294967295) (A : Option Addr) (cap : Nat) (l : List UInt8) (hl : l.length ≤ 300) (w : World) (hrd : Rd w w.heap.size A (bytesV l)) (hG : Good w)  (hkm : 1 + k % 15 = 12) :
    Calls Tryz.prog 18 #[nV k a A l.length cap] w fun e w' => e = .returned (cV (Cmd.cmdK 12 a l)) ∧ Below w.heap.size w w' := by
  have HI : Hid (FInv w w) := Lib.hid ⟨hG, Below.refl _ _⟩
  have HR := Lib.hid hrd
  have HG := Lib.hid hG
  clear hG hrd
  have hkm2 : 1 + Int.tmod k 15 = 12 := by rw [Int.tmod_eq_emod_of_nonneg k0]; exact hkm
  have HN : Hid (NI w k a A l.length cap (.int .i64 12) (.int .i64 0) (.string ⟨#[]⟩) (.string ⟨#[]⟩) (((w.alloc (.cells #[.int .u8 k, .int .u32 a, .slice A l.length cap] 37)).alloc (.cells #[.int .i64 0, .int .i64 0, .string ⟨#[]⟩, .string ⟨#[]⟩] 24)).alloc (.cells #[.int .i64 12, .int .i64 0, .string ⟨#[]⟩, .string ⟨#[]⟩] 24))) :=
    Lib.hid ⟨(FInv.alloc (FInv.alloc (FInv.alloc HI _) _) _).out, ((Blk.new _ _ _).alloc _).alloc _, by simpa using ((Blk.new (w.alloc (.cells #[.int .u8 k, .int .u32 a, .slice A l.length cap] 37)) _ _).alloc _), by simpa using Blk.new ((w.alloc (.cells #[.int .u8 k, .int .u32 a, .slice A l.length cap] 37)).alloc (.cells #[.int .i64 0, .int .i64 0, .string ⟨#[]⟩, .string ⟨#[]⟩] 24)) _ _⟩
  clear HI
  unfold nV
  have HV : Hid (Cmd.cmdK 12 a l = ⟨12, a % 201, [], []⟩) := Lib.hid (by unfold Cmd.cmdK; rw [if_neg (by decide), if_neg (by decide), if_neg (by decide), if_neg (by decide), if_pos rfl]; rfl)
  have hmod : Int.tmod a 201 = a % 201 := Int.tmod_eq_emod_of_nonneg a0
  go_enter Tryz.func18, Tryz.ntmps18
  go_wp2_with fail
  refine bodyPost_ret (results_cell_row rfl _ _ (w.heap.size + 1) 24 _ (0, 0) _ rfl (two_blk _ _ _ _ _) Tryz.underlying24 rfl (by kernel_rfl)) rfl ?_
  exact ⟨by rw [HV.out]; rfl, below3 _ _ _ _⟩
set_option maxHeartbeats 4000000 in
set_option maxRecDepth 20000 in
theorem cmdN_0 (k : Int) (k0 : 0 ≤ k) (k1 : k ≤ 255) (a : Int) (a0 : 0 ≤ a) (a1 : a ≤ 4294967295) (A : Option Addr) (cap : Nat) (l : List UInt8) (hl : l.length ≤ 300) (w : World) (hrd : Rd w w.heap.size A (bytesV l)) (hG : Good w) (m : Nat) (e1 : m ≠ 1) (e2 : m ≠ 2) (e15 : m ≠ 15) (e7 : m ≠ 7) (e10 : m ≠ 10) (e12 : m ≠ 12) (hkm : 1 + k % 15 = (m : Int)) :
    Calls Tryz.prog 18 #[nV k a A l.length cap] w fun e w' => e = .returned (cV (Cmd.cmdK m a l)) ∧ Below w.heap.size w w' := by
  have HI : Hid (FInv w w) := Lib.hid ⟨hG, Below.refl _ _⟩
  have HR := Lib.hid hrd
  have HG := Lib.hid hG
  clear hG hrd
  have hkm2 : 1 + Int.tmod k 15 = (m : Int) := by rw [Int.tmod_eq_emod_of_nonneg k0]; exact hkm
  have HN : Hid (NI w k a A l.length cap (.int .i64 (m : Int)) (.int .i64 0) (.string ⟨#[]⟩) (.string ⟨#[]⟩) (((w.alloc (.cells #[.int .u8 k, .int .u32 a, .slice A l.length cap] 37)).alloc (.cells #[.int .i64 0, .int .i64 0, .string ⟨#[]⟩, .string ⟨#[]⟩] 24)).alloc (.cells #[.int .i64 (m : Int), .int .i64 0, .string ⟨#[]⟩, .string ⟨#[]⟩] 24))) :=
    Lib.hid ⟨(FInv.alloc (FInv.alloc (FInv.alloc HI _) _) _).out, ((Blk.new _ _ _).alloc _).alloc _, by simpa using ((Blk.new (w.alloc (.cells #[.int .u8 k, .int .u32 a, .slice A l.length cap] 37)) _ _).alloc _), by simpa using Blk.new ((w.alloc (.cells #[.int .u8 k, .int .u32 a, .slice A l.length cap] 37)).alloc (.cells #[.int .i64 0, .int .i64 0, .string ⟨#[]⟩, .string ⟨#[]⟩] 24)) _ _⟩
  clear HI
  unfold nV
  have HV : Hid (Cmd.cmdK m a l = ⟨m, 0, [], []⟩) := Lib.hid (by unfold Cmd.cmdK; rw [if_neg e1, if_neg (by omega), if_neg e7, if_neg e10, if_neg e12])
  have q1 : ((m : Int) == 1) = false := by simp; omega
  have q2 : ((m : Int) == 2) = false := by simp; omega
  have q15 : ((m : Int) == 15) = false := by simp; omega
  have q7 : ((m : Int) == 7) = false := by simp; omega
  have q10 : ((m : Int) == 10) = false := by simp; omega
  have q12 : ((m : Int) == 12) = false := by simp; omega
  go_enter Tryz.func18, Tryz.ntmps18
  go_wp2_with fail
  refine bodyPost_ret (results_cell_row rfl _ _ (w.heap.size + 1) 24 _ (0, 0) _ rfl (two_blk _ _ _ _ _) Tryz.underlying24 rfl (by kernel_rfl)) rfl ?_
  exact ⟨by rw [HV.out]; rfl, below3 _ _ _ _⟩
theorem cmdN_any (k : Int) (k0 : 0 ≤ k) (k1 : k ≤ 255) (a : Int) (a0 : 0 ≤ a) (a1 : a ≤ 4294967295) (A : Option Addr) (cap : Nat) (l : List UInt8) (hl : l.length ≤ 300) (w : World) (hrd : Rd w w.heap.size A (bytesV l)) (hG : Good w) :
    Calls Tryz.prog 18 #[nV k a A l.length cap] w fun e w' => e = .returned (cV (Cmd.cmdN k a l)) ∧ Below w.heap.size w w' := by
  unfold Cmd.cmdN
  obtain ⟨m, hm⟩ : ∃ m, Cmd.kindN k = m := ⟨_, rfl⟩
  rw [hm]
  have hkm : 1 + k % 15 = (m : Int) := by rw [← hm]; unfold Cmd.kindN; omega
  by_cases e1 : m = 1
  · subst e1; exact cmdN_1 k k0 k1 a a0 a1 A cap l hl w hrd hG hkm
  by_cases e2 : m = 2
  · subst e2; exact cmdN_2 k k0 k1 a a0 a1 A cap l hl w hrd hG hkm
  by_cases e15 : m = 15
  · subst e15; exact cmdN_15 k k0 k1 a a0 a1 A cap l hl w hrd hG hkm
  by_cases e7 : m = 7
  · subst e7; exact cmdN_7 k k0 k1 a a0 a1 A cap l hl w hrd hG hkm
  by_cases e10 : m = 10
  · subst e10; exact cmdN_10 k k0 k1 a a0 a1 A cap l hl w hrd hG hkm
  by_cases e12 : m = 12
  · subst e12; exact cmdN_12 k k0 k1 a a0 a1 A cap l hl w hrd hG hkm
  exact cmdN_0 k k0 k1 a a0 a1 A cap l hl w hrd hG m e1 e2 e15 e7 e10 e12 hkm
end Go.Proofs.YtphpgbbjbncfoaaGreatDoor

/-
  LAYER 23: a list is right exactly if each instruction is: the statement's walk.
-/
import Derived.Test.YtmmehfkiceelkaaDoorCdO
import Derived.Test.YtmmehfkiceelkaaDoorCdCk
namespace Go.Proofs.YtmmehfkiceelkaaDoor
open Go.ChangeShapes Go.WideShapes Go.ChangeAt Go.RowKit Go.Shelf

/-- The call's three blocks, and the list. -/
def LB (w : World) (A : Option Addr) (n cap : Nat) (S C : Int) (cs : List Value) (W : World) : Prop := Good W ∧ Below w.heap.size w W ∧ Blk W w.heap.size 45 #[.slice A n cap] ∧ Blk W (w.heap.size + 1) 3 #[.int .i64 S] ∧ Blk W (w.heap.size + 1 + 1) 3 #[.int .i64 C] ∧ Rd W W.heap.size A cs
section
variable {w W W' : World} {A : Option Addr} {n cap : Nat} {S C : Int} {cs : List Value}
theorem LB.new (hG : Good w) (hR : Rd w w.heap.size A cs) : Hid (LB w A n cap S C cs (((w.alloc (.cells #[.slice A n cap] 45)).alloc (.cells #[.int .i64 S] 3)).alloc (.cells #[.int .i64 C] 3))) := Lib.hid (by
  refine ⟨((hG.alloc _).alloc _).alloc _, below_new (below_new (below_new (Below.refl _ _) _) _) _, ((Blk.new _ _ _).alloc _).alloc _, ?_, ?_, rd_alloc (rd_alloc (rd_alloc hR _) _) _⟩
  · have h := (Blk.new (w.alloc (.cells #[.slice A n cap] 45)) 3 #[.int .i64 S]).alloc (.cells #[.int .i64 C] 3)
    rw [World.size_alloc] at h
    exact h
  · have h := Blk.new ((w.alloc (.cells #[.slice A n cap] 45)).alloc (.cells #[.int .i64 S] 3)) 3 #[.int .i64 C]
    rw [World.size_alloc, World.size_alloc] at h
    exact h)
theorem LB.call (h : Hid (LB w A n cap S C cs W)) (hb : Below W.heap.size W W') : Hid (LB w A n cap S C cs W') := Lib.hid ⟨h.out.1.call hb, below_call h.out.2.1 hb, h.out.2.2.1.call hb, h.out.2.2.2.1.call hb, h.out.2.2.2.2.1.call hb, rd_call h.out.2.2.2.2.2 hb⟩
theorem LB.good (h : Hid (LB w A n cap S C cs W)) : Good W := h.out.1
theorem LB.rd (h : Hid (LB w A n cap S C cs W)) : Rd W W.heap.size A cs := h.out.2.2.2.2.2
theorem LB.l (h : Hid (LB w A n cap S C cs W)) : W.cell? ⟨w.heap.size, 0, none⟩ = some (.slice A n cap) := h.out.2.2.1.cell 0
theorem LB.s (h : Hid (LB w A n cap S C cs W)) : W.cell? ⟨w.heap.size + 1, 0, none⟩ = some (.int .i64 S) := h.out.2.2.2.1.cell 0
theorem LB.c (h : Hid (LB w A n cap S C cs W)) : W.cell? ⟨w.heap.size + 1 + 1, 0, none⟩ = some (.int .i64 C) := h.out.2.2.2.2.1.cell 0
end
theorem ch_none {L : List (Int × Int)} {S C : Int} (s0 : 0 ≤ S) (c0 : 0 ≤ C) (h : chF L S C = none) : chI L S C = 0 ∧ chE L S C = 0 := by
  unfold chI chE
  rw [if_neg (by omega), if_neg (by omega), h]
  exact ⟨rfl, rfl⟩
theorem ch_some {L : List (Int × Int)} {S C : Int} {k : Nat} (s0 : 0 ≤ S) (c0 : 0 ≤ C) (h : chF L S C = some k) : chI L S C = (k : Int) ∧ chE L S C = 2 := by
  unfold chI chE
  rw [if_neg (by omega), if_neg (by omega), h]
  exact ⟨rfl, rfl⟩
theorem ch_neg {L : List (Int × Int)} {S C : Int} (h : S < 0 ∨ C < 0) : chI L S C = 0 ∧ chE L S C = 3 := by
  unfold chI chE
  rw [if_pos h, if_pos h]
  exact ⟨rfl, rfl⟩

set_option maxHeartbeats 4000000 in
set_option maxRecDepth 20000 in
theorem lists_main (A : Option Addr) (cap : Nat) (l L : List (Int × Int)) (hL : L = l.take 40) (_ : cap ≤ maxLen) (hlc : l.length ≤ cap) (w : World) (hrd : Rd w w.heap.size A (L.flatMap iC))
    (x1 x2 M S C : Int) (s0 : 0 ≤ S) (s1 : S ≤ 59) (c0 : 0 ≤ C) (c1 : C ≤ 29) (m0 : 0 ≤ M) (m1 : M ≤ 255) (hS : x1.tmod 60 = S) (hC : x2.tmod 30 = C) (hG : Good w) :
    Calls Tryd.prog 6 #[.slice A l.length cap, .int .u8 x1, .int .u8 x2, .int .u8 M] w fun e w' => e = .returned (.bool true) ∧ Below w.heap.size w w' := by
  have hn : L.length = min l.length 40 := by rw [hL, List.length_take, Nat.min_comm]
  clear hL
  have hmin : min (l.length : Int) 40 = (L.length : Int) := by omega
  have n1 : L.length ≤ 40 := by omega
  have n2 : L.length ≤ cap := by omega
  have n3 : L.length ≤ l.length := by omega
  have HB := LB.new (A := A) (n := L.length) (cap := cap) (S := S) (C := C) hG hrd
  have HX : Hid (∀ W, LB w A L.length cap S C (L.flatMap iC) W → Calls Tryd.prog 21 #[.slice A L.length cap, .func (.func 22) #[] #[.pointer (some ⟨w.heap.size, 0, none⟩), .pointer (some ⟨w.heap.size + 1, 0, none⟩), .pointer (some ⟨w.heap.size + 1 + 1, 0, none⟩)]] W fun e W' => e = .returned (.int .i64 (match chF L S C with | some k => (k : Int) | none => -1)) ∧ Below W.heap.size W W') := Lib.hid (fun W hW => by
    have h := ixI_any L A cap 22 (.pointer (some ⟨w.heap.size, 0, none⟩)) (.pointer (some ⟨w.heap.size + 1, 0, none⟩)) (.pointer (some ⟨w.heap.size + 1 + 1, 0, none⟩)) (fun x => !Cd.right x.1 x.2 L.length S C) (by omega) W (enters_of Tryd.func22 (by kernel_rfl) rfl)
      (fun k op a hv V hb => clos_any op a A L.length cap S C _ _ _ (by have := (List.getElem?_eq_some_iff.1 hv).1; omega) (by omega) s0 c0 V (LB.l (LB.call (Lib.hid hW) hb)) (LB.s (LB.call (Lib.hid hW) hb)) (LB.c (LB.call (Lib.hid hW) hb))) hW.2.2.2.2.2
    rw [ixL_chF] at h
    exact h)
  have HC1 := Lib.hid fun W hR => check_any L A cap S C (by omega) W hR
  have HC2 := Lib.hid fun W hR => check_any L A cap (S + M) (C + M) (by omega) W hR
  have HC3 := Lib.hid fun W hR => check_any L A cap (-1 - M) C (by omega) W hR
  have HC4 := Lib.hid fun W hR => check_any L A cap S (-1 - M) (by omega) W hR
  rw [(ch_neg (.inl (by omega))).1, (ch_neg (.inl (by omega))).2] at HC3
  rw [(ch_neg (.inr (by omega))).1, (ch_neg (.inr (by omega))).2] at HC4
  clear hrd hG hn
  rcases hF : chF L S C with _ | k
  · rw [(ch_none s0 c0 hF).1, (ch_none s0 c0 hF).2] at HC1
    rw [(ch_none (by omega) (by omega) (chF_more m0 hF)).1, (ch_none (by omega) (by omega) (chF_more m0 hF)).2] at HC2
    rw [hF] at HX
    simp only at HX
    clear hF
    go_enter Tryd.func6, Tryd.ntmps6
    go_wp2_with fail
    refine (HC1.out _ (LB.rd HB)).mono ?_
    rintro e w1 ⟨rfl, b⟩
    replace HB := LB.call HB b
    clear b
    have z1 := LB.l HB
    have z2 := LB.s HB
    have z3 := LB.c HB
    go_wp2_with fail
    clear z1 z2 z3
    refine (HX.out _ HB.out).mono ?_
    rintro e w2 ⟨rfl, b⟩
    replace HB := LB.call HB b
    clear b
    have z1 := LB.l HB
    have z2 := LB.s HB
    have z3 := LB.c HB
    go_wp2_with fail
    clear z1 z2 z3
    refine (HC2.out _ (LB.rd HB)).mono ?_
    rintro e w3 ⟨rfl, b⟩
    replace HB := LB.call HB b
    clear b
    have z1 := LB.l HB
    have z2 := LB.s HB
    have z3 := LB.c HB
    go_wp2_with fail
    clear z1 z2 z3
    refine (HC3.out _ (LB.rd HB)).mono ?_
    rintro e w4 ⟨rfl, b⟩
    replace HB := LB.call HB b
    clear b
    have z1 := LB.l HB
    have z2 := LB.s HB
    have z3 := LB.c HB
    go_wp2_with fail
    clear z1 z2 z3
    refine (HC4.out _ (LB.rd HB)).mono ?_
    rintro e w5 ⟨rfl, b⟩
    replace HB := LB.call HB b
    clear b
    have z1 := LB.l HB
    have z2 := LB.s HB
    have z3 := LB.c HB
    go_wp2_with fail
    clear z1 z2 z3
    refine (works_any _ (LB.good HB)).mono ?_
    rintro e w6 ⟨rfl, b⟩
    replace HB := LB.call HB b
    clear b
    go_wp2_with fail
    go_ret
    exact ⟨rfl, HB.out.2.1⟩
  · rw [(ch_some s0 c0 hF).1, (ch_some s0 c0 hF).2] at HC1
    rw [hF] at HX
    simp only at HX
    have k0 : ¬ (k : Int) < 0 := by omega
    clear hF HC2
    go_enter Tryd.func6, Tryd.ntmps6
    go_wp2_with fail
    refine (HC1.out _ (LB.rd HB)).mono ?_
    rintro e w1 ⟨rfl, b⟩
    replace HB := LB.call HB b
    clear b
    have z1 := LB.l HB
    have z2 := LB.s HB
    have z3 := LB.c HB
    go_wp2_with fail
    clear z1 z2 z3
    refine (HX.out _ HB.out).mono ?_
    rintro e w2 ⟨rfl, b⟩
    replace HB := LB.call HB b
    clear b
    have z1 := LB.l HB
    have z2 := LB.s HB
    have z3 := LB.c HB
    go_wp2_with fail
    clear z1 z2 z3
    refine (HC3.out _ (LB.rd HB)).mono ?_
    rintro e w4 ⟨rfl, b⟩
    replace HB := LB.call HB b
    clear b
    have z1 := LB.l HB
    have z2 := LB.s HB
    have z3 := LB.c HB
    go_wp2_with fail
    clear z1 z2 z3
    refine (HC4.out _ (LB.rd HB)).mono ?_
    rintro e w5 ⟨rfl, b⟩
    replace HB := LB.call HB b
    clear b
    have z1 := LB.l HB
    have z2 := LB.s HB
    have z3 := LB.c HB
    go_wp2_with fail
    clear z1 z2 z3
    refine (works_any _ (LB.good HB)).mono ?_
    rintro e w6 ⟨rfl, b⟩
    replace HB := LB.call HB b
    clear b
    go_wp2_with fail
    go_ret
    exact ⟨rfl, HB.out.2.1⟩

set_option maxRecDepth 100000 in
theorem codeLists_rows0 {H : Type} {enc : TypeId × Value → H} {w : World} {sp : Nat → Bool} {held : Bool} {b0 : Nat} {v : Value} {d : DataW H} {p : List MemPlace} (hv : Value.okWide Tryd.prog w .any b0 45 v) (h : DataW.Trod enc Tryd.prog w 0 sp held 45 v d p) :
    ∃ (A : Option Addr) (cap : Nat) (l : List (Int × Int)), v = .slice A l.length cap ∧ l.length ≤ cap ∧ cap ≤ maxLen ∧ (∀ x ∈ l, Ins.Ok x) ∧ (∀ x ∈ l, (iC x).length = 2) ∧ Rd w w.heap.size A (l.flatMap iC) := codeChecks_rows0 hv h
set_option maxRecDepth 100000 in
theorem codeLists_walk (A : Option Addr) (cap : Nat) (l : List (Int × Int)) (hlc : l.length ≤ cap) (hcap : cap ≤ maxLen) (_ : ∀ v ∈ l, Ins.Ok v) (w : World) (hrd : Rd w w.heap.size A (l.flatMap iC))
    (x1 : Int) (a0 : 0 ≤ x1) (_ : x1 ≤ 255) (x2 : Int) (b0 : 0 ≤ x2) (_ : x2 ≤ 255) (x3 : Int) (m0 : 0 ≤ x3) (m1 : x3 ≤ 255) (hG : Good w) :
    Calls Tryd.prog 6 #[.slice A l.length cap, .int .u8 x1, .int .u8 x2, .int .u8 x3] w fun e w' => e = .returned (.bool true) ∧ Below w.heap.size w w' := by
  have hr : Rd w w.heap.size A ((l.take 40).flatMap iC) := by
    have h := hrd.take ((l.take 40).flatMap iC).length
    have e : l.flatMap iC = (l.take 40).flatMap iC ++ (l.drop 40).flatMap iC := by rw [← List.flatMap_append, List.take_append_drop]
    rw [e, List.take_left] at h
    exact h
  refine lists_main A cap l (l.take 40) rfl hcap hlc w hr x1 x2 x3 (x1 % 60) (x2 % 30) (by omega) (by omega) (by omega) (by omega) m0 m1 ?_ ?_ hG
  · exact Int.tmod_eq_emod_of_nonneg a0
  · exact Int.tmod_eq_emod_of_nonneg b0
end Go.Proofs.YtmmehfkiceelkaaDoor

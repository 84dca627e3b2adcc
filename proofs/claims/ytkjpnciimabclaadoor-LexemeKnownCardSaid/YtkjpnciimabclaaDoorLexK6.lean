/-
  LAYER 4: all keywords and signs: the statement's walk.
-/
import Derived.Test.YtkjpnciimabclaaDoorLexK4
import Derived.Test.YtkjpnciimabclaaDoorLexL2
namespace Go.Proofs.YtkjpnciimabclaaDoor
open Go.ChangeShapes Go.WideShapes Go.ChangeAt Go.RowKit

theorem ksign_any (s : List UInt8) (a : Int) (w : World) : Calls Tryd.prog 22 #[.string ⟨s.toArray⟩, .int .i64 a] w fun e w' => e = .returned (.agg #[.int .i64 4, .string ⟨s.toArray⟩, .int .i64 a]) ∧ Below w.heap.size w w' := by
  go_enter Tryd.func22, Tryd.ntmps22
  go_wp2_with fail
  (try simp only [Exit.inBlock, Exit.then])
  refine bodyPost_ret (results_cell_row rfl _ _ _ 32 _ (0, 0) _ rfl (heap_alloc_new _ _) Tryd.underlying32 rfl (by kernel_rfl)) rfl ?_
  exact ⟨rfl, below_new (Below.refl _ _) _⟩

theorem kw_facts : ∀ x ∈ Lex.keywords, decide (x ∈ Lex.keywords) = true ∧ decide (x ++ [120] ∈ Lex.keywords) = false ∧ decide (x.drop 1 ∈ Lex.keywords) = false ∧ hasB x [⟨3, x, 0⟩] = true ∧ hasB (x ++ [49]) [⟨1, x ++ [49], 0⟩] = true ∧ 1 ≤ x.length ∧ x.length ≤ 20 := by decide +kernel
theorem sg_facts (k : Nat) (x : List UInt8) (h : Lex.signs[k]? = some x) : hasB x [⟨4, x, 0⟩] = true ∧ (decide (x.length = 2) = decide (k < 6)) ∧ x.length ≤ 20 := by
  have hk : k < 23 := (List.getElem?_eq_some_iff.1 h).1
  have key : ∀ j : Fin 23, ∀ x, Lex.signs[j.val]? = some x → hasB x [⟨4, x, 0⟩] = true ∧ (decide (x.length = 2) = decide (j.val < 6)) ∧ x.length ≤ 20 := by
    intro j x hx
    match j with
    | 0 | 1 | 2 | 3 | 4 | 5 | 6 | 7 | 8 | 9 | 10 | 11 | 12 | 13 | 14 | 15 | 16 | 17 | 18 | 19 | 20 | 21 | 22 =>
      cases hx
      decide +kernel
  exact key ⟨k, hk⟩ x h

def XInv (w u : World) (g k : Nat) (x : ByteArray) (W : World) : Prop := FInv w W ∧ Below u.heap.size u W ∧ g < W.heap.size ∧ W.cell? ⟨g, k, none⟩ = some (.string x)
section
variable {w u W W' : World} {g k : Nat} {x : ByteArray}
theorem XInv.cells (h : Hid (XInv w u g k x W)) : W.cell? ⟨g, k, none⟩ = some (.string x) ∧ Hid (XInv w u g k x W) := ⟨h.out.2.2.2, h⟩
theorem XInv.call (h : Hid (XInv w u g k x W)) (hb : Below W.heap.size W W') : Hid (XInv w u g k x W') := Lib.hid ⟨(FInv.call (Lib.hid h.out.1) hb).out, below_call h.out.2.1 hb, Nat.lt_of_lt_of_le h.out.2.2.1 hb.size, (hb.cell (p := ⟨g, k, none⟩) h.out.2.2.1).trans h.out.2.2.2⟩
theorem XInv.alloc (h : Hid (XInv w u g k x W)) (o : Obj) : Hid (XInv w u g k x (W.alloc o)) := XInv.call h (below_new (Below.refl _ _) o)
theorem XInv.drew (h : Hid (XInv w u g k x W)) : Hid (XInv w u g k x W.drew) := Lib.hid ⟨(FInv.drew (Lib.hid h.out.1)).out, h.out.2.1.drew, h.out.2.2.1, h.out.2.2.2⟩
theorem XInv.good (h : Hid (XInv w u g k x W)) : Good W := h.out.1.1
theorem XInv.limb {p0 q : Prop} (h : p0 ∧ q) : q := h.2
theorem XInv.fin {p0 : Prop} (h : p0 ∧ Hid (XInv w u g k x W)) : Hid (FInv w W) ∧ Hid (Below u.heap.size u W) := ⟨Lib.hid h.2.out.1, Lib.hid h.2.out.2.1⟩
end

def YInv (w : World) (g : Nat) (cur : Array Value) (W : World) : Prop := FInv w W ∧ Blk W g 9 cur
section
variable {w W W' : World} {g k : Nat} {cur : Array Value} {v : Value}
theorem YInv.cells (h : Hid (YInv w g cur W)) (hv : Hid (cur[k]? = some v)) : W.cell? ⟨g, k, none⟩ = some v ∧ Hid (YInv w g cur W) := ⟨(h.out.2.cell k).trans hv.out, h⟩
theorem YInv.call (h : Hid (YInv w g cur W)) (hb : Below W.heap.size W W') : Hid (YInv w g cur W') := Lib.hid ⟨(FInv.call (Lib.hid h.out.1) hb).out, h.out.2.call hb⟩
theorem YInv.alloc (h : Hid (YInv w g cur W)) (o : Obj) : Hid (YInv w g cur (W.alloc o)) := YInv.call h (below_new (Below.refl _ _) o)
theorem YInv.drew (h : Hid (YInv w g cur W)) : Hid (YInv w g cur W.drew) := Lib.hid ⟨(FInv.drew (Lib.hid h.out.1)).out, h.out.2.drew⟩
theorem YInv.good (h : Hid (YInv w g cur W)) : Good W := h.out.1.1
theorem YInv.limb {p0 q : Prop} (h : p0 ∧ q) : q := h.2
end

/-- A keyword, and what is like it, as strings that say nothing of themselves. -/
structure KwS (X X2 X3 X5 : ByteArray) : Prop where
  s2 : X ++ ⟨#[120]⟩ = X2
  s3 : X.extract 1 X.size = X3
  s5 : X ++ ⟨#[49]⟩ = X5
  sz : 1 ≤ X.size ∧ X.size ≤ 20
  r1 : ∀ W, Good W → Calls Tryd.prog 16 #[.string X] W fun e w' => e = .returned (.bool true) ∧ w' = W
  r2 : ∀ W, Good W → Calls Tryd.prog 16 #[.string X2] W fun e w' => e = .returned (.bool false) ∧ w' = W
  r3 : ∀ W, Good W → Calls Tryd.prog 16 #[.string X3] W fun e w' => e = .returned (.bool false) ∧ w' = W
  h4 : ∀ W, Good W → Calls Tryd.prog 13 #[.string X, .slice (some ⟨W.heap.size, 0, none⟩) 1 1] (W.alloc (.cells #[.int .i64 3, .string X, .int .i64 0] 32)).drew fun e w' => e = .returned (.bool true) ∧ Below (W.alloc (.cells #[.int .i64 3, .string X, .int .i64 0] 32)).drew.heap.size (W.alloc (.cells #[.int .i64 3, .string X, .int .i64 0] 32)).drew w'
  h5 : ∀ W, Good W → Calls Tryd.prog 13 #[.string X5, .slice (some ⟨W.heap.size, 0, none⟩) 1 1] (W.alloc (.cells #[.int .i64 1, .string X5, .int .i64 0] 32)) fun e w' => e = .returned (.bool true) ∧ Below (W.alloc (.cells #[.int .i64 1, .string X5, .int .i64 0] 32)).heap.size (W.alloc (.cells #[.int .i64 1, .string X5, .int .i64 0] 32)) w'
theorem kws_of {x : List UInt8} (hx : x ∈ Lex.keywords) : ∃ X2 X3 X5, KwS ⟨x.toArray⟩ X2 X3 X5 := by
  obtain ⟨r1, r2, r3, h4, h5, x0, x1⟩ := kw_facts x hx
  refine ⟨⟨(x ++ [120]).toArray⟩, ⟨(x.drop 1).toArray⟩, ⟨(x ++ [49]).toArray⟩, ?_⟩
  refine ⟨ByteArray.mk_append_mk _ _, extract_end, ByteArray.mk_append_mk _ _, ⟨x0, x1⟩, fun W hG => ?_, fun W hG => ?_, fun W hG => ?_, fun W hG => ?_, fun W hG => ?_⟩
  · have := reserved_any x W hG
    rwa [r1] at this
  · have := reserved_any (x ++ [120]) W hG
    rwa [r2] at this
  · have := reserved_any (x.drop 1) W hG
    rwa [r3] at this
  · have := has_any x (by omega) (some ⟨W.heap.size, 0, none⟩) 1 [⟨3, x, 0⟩] (W.alloc (.cells #[.int .i64 3, .string ⟨x.toArray⟩, .int .i64 0] 32)).drew (rd_lit W 32 [.int .i64 3, .string ⟨x.toArray⟩, .int .i64 0]).drew (hG.alloc _).drew
    rwa [h4] at this
  · have := has_any (x ++ [49]) (by rw [List.length_append, List.length_singleton]; omega) (some ⟨W.heap.size, 0, none⟩) 1 [⟨1, x ++ [49], 0⟩] (W.alloc (.cells #[.int .i64 1, .string ⟨(x ++ [49]).toArray⟩, .int .i64 0] 32)) (rd_lit W 32 [.int .i64 1, .string ⟨(x ++ [49]).toArray⟩, .int .i64 0]) (hG.alloc _)
    rwa [h5] at this

theorem known0 : hasB [61, 61, 61] [⟨4, [61, 61], 0⟩, ⟨4, [61], 2⟩] = true := by decide +kernel
theorem known1 : hasB [33, 61, 61] [⟨4, [33, 61], 0⟩, ⟨4, [61], 2⟩] = true := by decide +kernel
theorem known2 : hasB [60, 60, 61] [⟨4, [60], 0⟩, ⟨4, [60, 61], 1⟩] = true := by decide +kernel
theorem known3 : hasB [47, 32, 47] [⟨4, [47], 0⟩, ⟨4, [47], 2⟩] = true := by decide +kernel
theorem known4 : hasB [42, 47] [⟨4, [42], 0⟩, ⟨4, [47], 1⟩] = true := by decide +kernel
theorem known5 : hasB [38, 38, 38, 38] [⟨4, [38, 38], 0⟩, ⟨4, [38, 38], 2⟩] = true := by decide +kernel
theorem known6 : wrongB [38, 38, 38] 2 = true := by decide +kernel
theorem known7 : hasB [47, 47] [] = true := by decide +kernel
theorem known8 : hasB [47, 47, 32, 36] [] = true := by decide +kernel

set_option linter.unusedSimpArgs false in
set_option maxHeartbeats 8000000 in
set_option maxRecDepth 100000 in
theorem lexemeKnown_walk (w : World) (hG : Good w) :
    Calls Tryd.prog 8 #[] w fun e w' => e = .returned (.bool true) ∧ Below w.heap.size w w' := by
  have HI : Hid (FInv w w) := Lib.hid ⟨hG, Below.refl _ _⟩
  clear hG
  go_enter Tryd.func8, Tryd.ntmps8
  go_wp2_with fail
  refine (lkeywords_any _).mono ?_
  rintro e w1 ⟨rfl, hc, hb⟩
  have HI := FInv.call HI hb
  have HC := Lib.hid hc
  clear hb hc
  go_wp2_with fail
  go_loopw [2] (fun i wr => ∃ k : Nat, k ≤ 15 ∧ i = .int .i64 k ∧ Hid (FInv w wr) ∧ Hid (Below w1.heap.size w1 wr)) (fun i _ => 15 - (intOf i).toNat)
  case atStart => exact ⟨0, Nat.zero_le _, rfl, HI, Lib.hid (Below.refl _ _)⟩
  case round =>
    obtain ⟨k, hk, rfl, HI, HB⟩ := hrel
    by_cases hlt : k < 15
    · obtain ⟨x, hx⟩ : ∃ x, Lex.keywords[k]? = some x := ⟨_, List.getElem?_eq_getElem (show k < Lex.keywords.length from hlt)⟩
      obtain ⟨X2, X3, X5, hK⟩ := kws_of (List.mem_of_getElem? hx)
      have c1 := HC.out k x hx
      have HX : Hid (XInv w w1 w.heap.size k ⟨x.toArray⟩ wr) := Lib.hid ⟨HI.out, HB.out, by have := HB.out.size; have := lt_of_cell c1; simp only at this; omega, (HB.out.cell (p := ⟨w.heap.size, k, none⟩) (lt_of_cell c1)).trans c1⟩
      generalize (⟨x.toArray⟩ : ByteArray) = X at hK HX
      have c0 := HX.out.2.2
      have HK := Lib.hid hK
      have s2 := hK.s2
      have s3 := hK.s3
      have s5 := hK.s5
      have l1 : ¬ 9223372036854775807 < X.size + 1 := by have := hK.sz; omega
      have k0 : (0 : Int) ≤ (k : Int) := by omega
      have k1 : (k : Int) < 15 := by omega
      have y0 : (1 : Int) ≤ (X.size : Int) := by have := hK.sz; omega
      clear hx c1 hK
      go_wp2_with fail
      refine wp_region_held_drew (S := fun W => W.cell? ⟨w.heap.size, k, none⟩ = some (.string X) ∧ Hid (XInv w w1 w.heap.size k X W)) (by kernel_rfl) ?_ (fun hHeld0 => ?_)
      · exact XInv.cells (XInv.drew HX)
      refine wpAnyH_take (i := 0) (oi := ⟨some 13, _, _, _, _, _⟩) (v := ?_) rfl (by kernel_rfl) (by kernel_rfl) (by kernel_rfl) (fun _ _ _ h => h) (Or.inl ⟨rfl, ?_⟩) (by assumption) ?_
      rotate_left
      · (intro w hSw; (try dsimp only at hSw); go_simp; (try with_reducible rfl))
      (try simp only [Act.put, List.setIfInBounds_toArray, List.set_cons_zero, List.set_cons_succ])
      refine wpAnyH_take (i := 1) (oi := ⟨some 14, _, _, _, _, _⟩) (v := ?_) rfl (by kernel_rfl) (by kernel_rfl) (by kernel_rfl) (fun _ _ _ h => h) (Or.inl ⟨rfl, ?_⟩) (by assumption) ?_
      rotate_left
      · (intro w hSw; (try dsimp only at hSw); go_simp; (try with_reducible rfl))
      (try simp only [Act.put, List.setIfInBounds_toArray, List.set_cons_zero, List.set_cons_succ])
      refine wpAnyH_take (i := 2) (oi := ⟨some 15, _, _, _, _, _⟩) (v := ?_) rfl (by kernel_rfl) (by kernel_rfl) (by kernel_rfl) (fun _ _ _ h => h) (Or.inl ⟨rfl, ?_⟩) (by assumption) ?_
      rotate_left
      · (intro w hSw; (try dsimp only at hSw); go_simp; (try with_reducible rfl))
      (try simp only [Act.put, List.setIfInBounds_toArray, List.set_cons_zero, List.set_cons_succ])
      refine wpAnyH_take (i := 3) (oi := ⟨some 16, _, _, _, _, _⟩) (v := ?_) rfl (by kernel_rfl) (by kernel_rfl) (by kernel_rfl) (fun _ _ _ h => h) (Or.inl ⟨rfl, ?_⟩) (by assumption) ?_
      rotate_left
      · (intro w hSw; (try dsimp only at hSw); go_simp; (try with_reducible rfl))
      (try simp only [Act.put, List.setIfInBounds_toArray, List.set_cons_zero, List.set_cons_succ])
      refine wpAnyH_ready (rs := [4]) (by kernel_rfl) (by simp) ?_
      refine AllReadyH.cons (o := ⟨some 17, _, _, _, _, _⟩) rfl (fun K hK => ?_) AllReadyH.nil
      go_simp
      refine (HK.out.r1 _ (XInv.good (XInv.limb hHeld0))).mono ?_
      rintro e w' ⟨rfl, rfl⟩
      go_wp2_with fail
      refine hK.out _ _ ?_ (fun hHeld5 => ?_)
      · exact hHeld0
      clear hK K hHeld0
      (try simp only [Act.put, List.setIfInBounds_toArray, List.set_cons_zero, List.set_cons_succ])
      refine wpAnyH_take (i := 5) (oi := ⟨some 18, _, _, _, _, _⟩) (v := ?_) rfl (by kernel_rfl) (by kernel_rfl) (by kernel_rfl) (fun _ _ _ h => h) (Or.inl ⟨rfl, ?_⟩) (by assumption) ?_
      rotate_left
      · (intro w hSw; (try dsimp only at hSw); go_simp; (try with_reducible rfl))
      (try simp only [Act.put, List.setIfInBounds_toArray, List.set_cons_zero, List.set_cons_succ])
      refine wpAnyH_take (i := 6) (oi := ⟨some 19, _, _, _, _, _⟩) (v := ?_) rfl (by kernel_rfl) (by kernel_rfl) (by kernel_rfl) (fun _ _ _ h => h) (Or.inl ⟨rfl, ?_⟩) (by assumption) ?_
      rotate_left
      · (intro w hSw; (try dsimp only at hSw); go_simp; (try with_reducible rfl))
      (try simp only [Act.put, List.setIfInBounds_toArray, List.set_cons_zero, List.set_cons_succ])
      refine wpAnyH_take (i := 7) (oi := ⟨some 20, _, _, _, _, _⟩) (v := ?_) rfl (by kernel_rfl) (by kernel_rfl) (by kernel_rfl) (fun _ _ _ h => h) (Or.inl ⟨rfl, ?_⟩) (by assumption) ?_
      rotate_left
      · (intro w hSw; (try dsimp only at hSw); go_simp; (try with_reducible rfl))
      (try simp only [Act.put, List.setIfInBounds_toArray, List.set_cons_zero, List.set_cons_succ])
      refine wpAnyH_take (i := 8) (oi := ⟨some 21, _, _, _, _, _⟩) (v := ?_) rfl (by kernel_rfl) (by kernel_rfl) (by kernel_rfl) (fun _ _ _ h => h) (Or.inl ⟨rfl, ?_⟩) (by assumption) ?_
      rotate_left
      · (intro w hSw; (try dsimp only at hSw); go_simp; (try with_reducible rfl))
      (try simp only [Act.put, List.setIfInBounds_toArray, List.set_cons_zero, List.set_cons_succ])
      refine wpAnyH_take (i := 9) (oi := ⟨some 22, _, _, _, _, _⟩) (v := ?_) rfl (by kernel_rfl) (by kernel_rfl) (by kernel_rfl) (fun _ _ _ h => h) (Or.inl ⟨rfl, ?_⟩) (by assumption) ?_
      rotate_left
      · (intro w hSw; (try dsimp only at hSw); go_simp; (try with_reducible rfl))
      (try simp only [Act.put, List.setIfInBounds_toArray, List.set_cons_zero, List.set_cons_succ])
      refine wpAnyH_take (i := 10) (oi := ⟨some 23, _, _, _, _, _⟩) (v := ?_) rfl (by kernel_rfl) (by kernel_rfl) (by kernel_rfl) (fun _ _ _ h => h) (Or.inl ⟨rfl, ?_⟩) (by assumption) ?_
      rotate_left
      · (intro w hSw; (try dsimp only at hSw); go_simp; (try with_reducible rfl))
      (try simp only [Act.put, List.setIfInBounds_toArray, List.set_cons_zero, List.set_cons_succ])
      refine wpAnyH_take (i := 11) (oi := ⟨some 24, _, _, _, _, _⟩) (v := ?_) rfl (by kernel_rfl) (by kernel_rfl) (by kernel_rfl) (fun _ _ _ h => h) (Or.inl ⟨rfl, ?_⟩) (by assumption) ?_
      rotate_left
      · (intro w hSw; (try dsimp only at hSw); go_simp; (try with_reducible rfl))
      (try simp only [Act.put, List.setIfInBounds_toArray, List.set_cons_zero, List.set_cons_succ])
      refine wpAnyH_ready (rs := [12]) (by kernel_rfl) (by simp) ?_
      refine AllReadyH.cons (o := ⟨some 25, _, _, _, _, _⟩) rfl (fun K hK => ?_) AllReadyH.nil
      go_simp
      refine (HK.out.r2 _ (XInv.good (XInv.limb hHeld5))).mono ?_
      rintro e w' ⟨rfl, rfl⟩
      go_wp2_with fail
      refine hK.out _ _ ?_ (fun hHeld13 => ?_)
      · exact hHeld5
      clear hK K hHeld5
      (try simp only [Act.put, List.setIfInBounds_toArray, List.set_cons_zero, List.set_cons_succ])
      refine wpAnyH_take (i := 13) (oi := ⟨some 26, _, _, _, _, _⟩) (v := ?_) rfl (by kernel_rfl) (by kernel_rfl) (by kernel_rfl) (fun _ _ _ h => h) (Or.inl ⟨rfl, ?_⟩) (by assumption) ?_
      rotate_left
      · (intro w hSw; (try dsimp only at hSw); go_simp; (try with_reducible rfl))
      (try simp only [Act.put, List.setIfInBounds_toArray, List.set_cons_zero, List.set_cons_succ])
      refine wpAnyH_take (i := 14) (oi := ⟨some 27, _, _, _, _, _⟩) (v := ?_) rfl (by kernel_rfl) (by kernel_rfl) (by kernel_rfl) (fun _ _ _ h => h) (Or.inl ⟨rfl, ?_⟩) (by assumption) ?_
      rotate_left
      · (intro w hSw; (try dsimp only at hSw); go_simp; (try with_reducible rfl))
      (try simp only [Act.put, List.setIfInBounds_toArray, List.set_cons_zero, List.set_cons_succ])
      refine wpAnyH_take (i := 15) (oi := ⟨some 28, _, _, _, _, _⟩) (v := ?_) rfl (by kernel_rfl) (by kernel_rfl) (by kernel_rfl) (fun _ _ _ h => h) (Or.inl ⟨rfl, ?_⟩) (by assumption) ?_
      rotate_left
      · (intro w hSw; (try dsimp only at hSw); go_simp; (try with_reducible rfl))
      (try simp only [Act.put, List.setIfInBounds_toArray, List.set_cons_zero, List.set_cons_succ])
      refine wpAnyH_take (i := 16) (oi := ⟨some 29, _, _, _, _, _⟩) (v := ?_) rfl (by kernel_rfl) (by kernel_rfl) (by kernel_rfl) (fun _ _ _ h => h) (Or.inl ⟨rfl, ?_⟩) (by assumption) ?_
      rotate_left
      · (intro w hSw; (try dsimp only at hSw); go_simp; (try with_reducible rfl))
      (try simp only [Act.put, List.setIfInBounds_toArray, List.set_cons_zero, List.set_cons_succ])
      refine wpAnyH_take (i := 17) (oi := ⟨some 30, _, _, _, _, _⟩) (v := ?_) rfl (by kernel_rfl) (by kernel_rfl) (by kernel_rfl) (fun _ _ _ h => h) (Or.inl ⟨rfl, ?_⟩) (by assumption) ?_
      rotate_left
      · (intro w hSw; (try dsimp only at hSw); go_simp; (try with_reducible rfl))
      (try simp only [Act.put, List.setIfInBounds_toArray, List.set_cons_zero, List.set_cons_succ])
      refine wpAnyH_take (i := 18) (oi := ⟨some 31, _, _, _, _, _⟩) (v := ?_) rfl (by kernel_rfl) (by kernel_rfl) (by kernel_rfl) (fun _ _ _ h => h) (Or.inl ⟨rfl, ?_⟩) (by assumption) ?_
      rotate_left
      · (intro w hSw; (try dsimp only at hSw); go_simp; (try with_reducible rfl))
      (try simp only [Act.put, List.setIfInBounds_toArray, List.set_cons_zero, List.set_cons_succ])
      refine wpAnyH_take (i := 19) (oi := ⟨some 32, _, _, _, _, _⟩) (v := ?_) rfl (by kernel_rfl) (by kernel_rfl) (by kernel_rfl) (fun _ _ _ h => h) (Or.inl ⟨rfl, ?_⟩) (by assumption) ?_
      rotate_left
      · (intro w hSw; (try dsimp only at hSw); go_simp; (try with_reducible rfl))
      (try simp only [Act.put, List.setIfInBounds_toArray, List.set_cons_zero, List.set_cons_succ])
      refine wpAnyH_ready (rs := [20]) (by kernel_rfl) (by simp) ?_
      refine AllReadyH.cons (o := ⟨some 33, _, _, _, _, _⟩) rfl (fun K hK => ?_) AllReadyH.nil
      go_simp
      refine (HK.out.r3 _ (XInv.good (XInv.limb hHeld13))).mono ?_
      rintro e w' ⟨rfl, rfl⟩
      go_wp2_with fail
      refine hK.out _ _ ?_ (fun hHeld21 => ?_)
      · exact hHeld13
      clear hK K hHeld13
      (try simp only [Act.put, List.setIfInBounds_toArray, List.set_cons_zero, List.set_cons_succ])
      refine wpAnyH_take (i := 21) (oi := ⟨some 34, _, _, _, _, _⟩) (v := ?_) rfl (by kernel_rfl) (by kernel_rfl) (by kernel_rfl) (fun _ _ _ h => h) (Or.inl ⟨rfl, ?_⟩) (by assumption) ?_
      rotate_left
      · (intro w hSw; (try dsimp only at hSw); go_simp; (try with_reducible rfl))
      (try simp only [Act.put, List.setIfInBounds_toArray, List.set_cons_zero, List.set_cons_succ])
      refine wpAnyH_take (i := 22) (oi := ⟨some 35, _, _, _, _, _⟩) (v := _) rfl (by kernel_rfl) (by kernel_rfl) (by kernel_rfl) (fun _ _ _ h => h) (Or.inr ⟨rfl, rfl⟩) (by assumption) ?_
      (try simp only [Act.put, List.setIfInBounds_toArray, List.set_cons_zero, List.set_cons_succ])
      refine wpAnyH_take (i := 23) (oi := ⟨some 36, _, _, _, _, _⟩) (v := _) rfl (by kernel_rfl) (by kernel_rfl) (by kernel_rfl) (fun _ _ _ h => h) (Or.inr ⟨rfl, rfl⟩) (by assumption) ?_
      (try simp only [Act.put, List.setIfInBounds_toArray, List.set_cons_zero, List.set_cons_succ])
      refine wpAnyH_take (i := 24) (oi := ⟨some 37, _, _, _, _, _⟩) (v := _) rfl (by kernel_rfl) (by kernel_rfl) (by kernel_rfl) (fun _ _ _ h => h) (Or.inr ⟨rfl, rfl⟩) (by assumption) ?_
      (try simp only [Act.put, List.setIfInBounds_toArray, List.set_cons_zero, List.set_cons_succ])
      refine wpAnyH_take (i := 25) (oi := ⟨some 38, _, _, _, _, _⟩) (v := _) rfl (by kernel_rfl) (by kernel_rfl) (by kernel_rfl) (fun _ _ _ h => h) (Or.inr ⟨rfl, rfl⟩) (by assumption) ?_
      (try simp only [Act.put, List.setIfInBounds_toArray, List.set_cons_zero, List.set_cons_succ])
      refine wpAnyH_take (i := 26) (oi := ⟨some 39, _, _, _, _, _⟩) (v := _) rfl (by kernel_rfl) (by kernel_rfl) (by kernel_rfl) (fun _ _ _ h => h) (Or.inr ⟨rfl, rfl⟩) (by assumption) ?_
      (try simp only [Act.put, List.setIfInBounds_toArray, List.set_cons_zero, List.set_cons_succ])
      refine wpAnyH_take (i := 27) (oi := ⟨some 40, _, _, _, _, _⟩) (v := ?_) rfl (by kernel_rfl) (by kernel_rfl) (by kernel_rfl) (fun _ _ _ h => h) (Or.inl ⟨rfl, ?_⟩) (by assumption) ?_
      rotate_left
      · (intro w hSw; (try dsimp only at hSw); go_simp; (try with_reducible rfl))
      (try simp only [Act.put, List.setIfInBounds_toArray, List.set_cons_zero, List.set_cons_succ])
      refine wpAnyH_take (i := 28) (oi := ⟨some 41, _, _, _, _, _⟩) (v := ?_) rfl (by kernel_rfl) (by kernel_rfl) (by kernel_rfl) (fun _ _ _ h => h) (Or.inl ⟨rfl, ?_⟩) (by assumption) ?_
      rotate_left
      · (intro w hSw; (try dsimp only at hSw); go_simp; (try with_reducible rfl))
      (try simp only [Act.put, List.setIfInBounds_toArray, List.set_cons_zero, List.set_cons_succ])
      refine wpAnyH_take (i := 29) (oi := ⟨some 42, _, _, _, _, _⟩) (v := ?_) rfl (by kernel_rfl) (by kernel_rfl) (by kernel_rfl) (fun _ _ _ h => h) (Or.inl ⟨rfl, ?_⟩) (by assumption) ?_
      rotate_left
      · (intro w hSw; (try dsimp only at hSw); go_simp; (try with_reducible rfl))
      (try simp only [Act.put, List.setIfInBounds_toArray, List.set_cons_zero, List.set_cons_succ])
      refine wpAnyH_take (i := 30) (oi := ⟨some 43, _, _, _, _, _⟩) (v := ?_) rfl (by kernel_rfl) (by kernel_rfl) (by kernel_rfl) (fun _ _ _ h => h) (Or.inl ⟨rfl, ?_⟩) (by assumption) ?_
      rotate_left
      · (intro w hSw; (try dsimp only at hSw); go_simp; (try with_reducible rfl))
      (try simp only [Act.put, List.setIfInBounds_toArray, List.set_cons_zero, List.set_cons_succ])
      refine wpAnyH_take (i := 31) (oi := ⟨some 44, _, _, _, _, _⟩) (v := ?_) rfl (by kernel_rfl) (by kernel_rfl) (by kernel_rfl) (fun _ _ _ h => h) (Or.inl ⟨rfl, ?_⟩) (by assumption) ?_
      rotate_left
      · (intro w hSw; (try dsimp only at hSw); go_simp; (try with_reducible rfl))
      (try simp only [Act.put, List.setIfInBounds_toArray, List.set_cons_zero, List.set_cons_succ])
      refine wpAnyH_take (i := 32) (oi := ⟨some 45, _, _, _, _, _⟩) (v := ?_) rfl (by kernel_rfl) (by kernel_rfl) (by kernel_rfl) (fun _ _ _ h => h) (Or.inl ⟨rfl, ?_⟩) (by assumption) ?_
      rotate_left
      · (intro w hSw; (try dsimp only at hSw); go_simp; (try with_reducible rfl))
      (try simp only [Act.put, List.setIfInBounds_toArray, List.set_cons_zero, List.set_cons_succ])
      refine wpAnyH_take (i := 33) (oi := ⟨some 46, _, _, _, _, _⟩) (v := ?_) rfl (by kernel_rfl) (by kernel_rfl) (by kernel_rfl) (fun _ _ _ h => h) (Or.inl ⟨rfl, ?_⟩) (by assumption) ?_
      rotate_left
      · (intro w hSw; (try dsimp only at hSw); go_simp; (try with_reducible rfl))
      (try simp only [Act.put, List.setIfInBounds_toArray, List.set_cons_zero, List.set_cons_succ])
      refine wpAnyH_take (i := 34) (oi := ⟨some 47, _, _, _, _, _⟩) (v := ?_) rfl (by kernel_rfl) (by kernel_rfl) (by kernel_rfl) (fun _ _ _ h => h) (Or.inl ⟨rfl, ?_⟩) (by assumption) ?_
      rotate_left
      · (intro w hSw; (try dsimp only at hSw); go_simp; (try with_reducible rfl))
      (try simp only [Act.put, List.setIfInBounds_toArray, List.set_cons_zero, List.set_cons_succ])
      refine wpAnyH_take (i := 35) (oi := ⟨some 48, _, _, _, _, _⟩) (v := ?_) rfl (by kernel_rfl) (by kernel_rfl) (by kernel_rfl) (fun _ _ _ h => h) (Or.inl ⟨rfl, ?_⟩) (by assumption) ?_
      rotate_left
      · (intro w hSw; (try dsimp only at hSw); go_simp; (try with_reducible rfl))
      (try simp only [Act.put, List.setIfInBounds_toArray, List.set_cons_zero, List.set_cons_succ])
      refine wpAnyH_take (i := 36) (oi := ⟨some 49, _, _, _, _, _⟩) (v := ?_) rfl (by kernel_rfl) (by kernel_rfl) (by kernel_rfl) (fun _ _ _ h => h) (Or.inl ⟨rfl, ?_⟩) (by assumption) ?_
      rotate_left
      · (intro w hSw; (try dsimp only at hSw); go_simp; (try with_reducible rfl))
      (try simp only [Act.put, List.setIfInBounds_toArray, List.set_cons_zero, List.set_cons_succ])
      refine wpAnyH_take (i := 37) (oi := ⟨some 50, _, _, _, _, _⟩) (v := ?_) rfl (by kernel_rfl) (by kernel_rfl) (by kernel_rfl) (fun _ _ _ h => h) (Or.inl ⟨rfl, ?_⟩) (by assumption) ?_
      rotate_left
      · (intro w hSw; (try dsimp only at hSw); go_simp; (try with_reducible rfl))
      (try simp only [Act.put, List.setIfInBounds_toArray, List.set_cons_zero, List.set_cons_succ])
      refine wpAnyH_take (i := 38) (oi := ⟨some 51, _, _, _, _, _⟩) (v := ?_) rfl (by kernel_rfl) (by kernel_rfl) (by kernel_rfl) (fun _ _ _ h => h) (Or.inl ⟨rfl, ?_⟩) (by assumption) ?_
      rotate_left
      · (intro w hSw; (try dsimp only at hSw); go_simp; (try with_reducible rfl))
      (try simp only [Act.put, List.setIfInBounds_toArray, List.set_cons_zero, List.set_cons_succ])
      refine wpAnyH_ready (rs := [39]) (by kernel_rfl) (by simp) ?_
      refine AllReadyH.cons (o := ⟨some 52, _, _, _, _, _⟩) rfl (fun K hK => ?_) AllReadyH.nil
      go_simp
      refine hK.out _ _ ?_ (fun hHeld40 => ?_)
      · exact XInv.cells (XInv.drew (XInv.alloc HX _))
      clear hK K hHeld21
      (try simp only [Act.put, List.setIfInBounds_toArray, List.set_cons_zero, List.set_cons_succ])
      refine wpAnyH_ready (rs := [40]) (by kernel_rfl) (by simp) ?_
      refine AllReadyH.cons (o := ⟨some 53, _, _, _, _, _⟩) rfl (fun K hK => ?_) AllReadyH.nil
      go_simp
      refine (HK.out.h4 _ (XInv.good HX)).mono ?_
      rintro e w' ⟨rfl, hb⟩
      have hCall := XInv.call (XInv.limb hHeld40) hb
      go_wp2_with fail
      refine hK.out _ _ ?_ (fun hHeld41 => ?_)
      · exact XInv.cells hCall
      clear hK K hHeld40
      (try simp only [Act.put, List.setIfInBounds_toArray, List.set_cons_zero, List.set_cons_succ])
      refine wpAnyH_take (i := 41) (oi := ⟨some 54, _, _, _, _, _⟩) (v := ?_) rfl (by kernel_rfl) (by kernel_rfl) (by kernel_rfl) (fun _ _ _ h => h) (Or.inl ⟨rfl, ?_⟩) (by assumption) ?_
      rotate_left
      · (intro w hSw; (try dsimp only at hSw); go_simp; (try with_reducible rfl))
      (try simp only [Act.put, List.setIfInBounds_toArray, List.set_cons_zero, List.set_cons_succ])
      refine wpAnyH_take (i := 42) (oi := ⟨some 55, _, _, _, _, _⟩) (v := ?_) rfl (by kernel_rfl) (by kernel_rfl) (by kernel_rfl) (fun _ _ _ h => h) (Or.inl ⟨rfl, ?_⟩) (by assumption) ?_
      rotate_left
      · (intro w hSw; (try dsimp only at hSw); go_simp; (try with_reducible rfl))
      (try simp only [Act.put, List.setIfInBounds_toArray, List.set_cons_zero, List.set_cons_succ])
      refine wpAnyH_take (i := 43) (oi := ⟨some 56, _, _, _, _, _⟩) (v := ?_) rfl (by kernel_rfl) (by kernel_rfl) (by kernel_rfl) (fun _ _ _ h => h) (Or.inl ⟨rfl, ?_⟩) (by assumption) ?_
      rotate_left
      · (intro w hSw; (try dsimp only at hSw); go_simp; (try with_reducible rfl))
      (try simp only [Act.put, List.setIfInBounds_toArray, List.set_cons_zero, List.set_cons_succ])
      refine wpAnyH_take (i := 44) (oi := ⟨some 57, _, _, _, _, _⟩) (v := ?_) rfl (by kernel_rfl) (by kernel_rfl) (by kernel_rfl) (fun _ _ _ h => h) (Or.inl ⟨rfl, ?_⟩) (by assumption) ?_
      rotate_left
      · (intro w hSw; (try dsimp only at hSw); go_simp; (try with_reducible rfl))
      (try simp only [Act.put, List.setIfInBounds_toArray, List.set_cons_zero, List.set_cons_succ])
      refine wpAnyH_take (i := 45) (oi := ⟨some 58, _, _, _, _, _⟩) (v := ?_) rfl (by kernel_rfl) (by kernel_rfl) (by kernel_rfl) (fun _ _ _ h => h) (Or.inl ⟨rfl, ?_⟩) (by assumption) ?_
      rotate_left
      · (intro w hSw; (try dsimp only at hSw); go_simp; (try with_reducible rfl))
      (try simp only [Act.put, List.setIfInBounds_toArray, List.set_cons_zero, List.set_cons_succ])
      refine wpAnyH_take (i := 46) (oi := ⟨some 59, _, _, _, _, _⟩) (v := ?_) rfl (by kernel_rfl) (by kernel_rfl) (by kernel_rfl) (fun _ _ _ h => h) (Or.inl ⟨rfl, ?_⟩) (by assumption) ?_
      rotate_left
      · (intro w hSw; (try dsimp only at hSw); go_simp; (try with_reducible rfl))
      (try simp only [Act.put, List.setIfInBounds_toArray, List.set_cons_zero, List.set_cons_succ])
      refine wpAnyH_take (i := 47) (oi := ⟨some 60, _, _, _, _, _⟩) (v := ?_) rfl (by kernel_rfl) (by kernel_rfl) (by kernel_rfl) (fun _ _ _ h => h) (Or.inl ⟨rfl, ?_⟩) (by assumption) ?_
      rotate_left
      · (intro w hSw; (try dsimp only at hSw); go_simp; (try with_reducible rfl))
      (try simp only [Act.put, List.setIfInBounds_toArray, List.set_cons_zero, List.set_cons_succ])
      refine wpAnyH_take (i := 48) (oi := ⟨some 61, _, _, _, _, _⟩) (v := ?_) rfl (by kernel_rfl) (by kernel_rfl) (by kernel_rfl) (fun _ _ _ h => h) (Or.inl ⟨rfl, ?_⟩) (by assumption) ?_
      rotate_left
      · (intro w hSw; (try dsimp only at hSw); go_simp; (try with_reducible rfl))
      (try simp only [Act.put, List.setIfInBounds_toArray, List.set_cons_zero, List.set_cons_succ])
      refine wpAnyH_take (i := 49) (oi := ⟨some 62, _, _, _, _, _⟩) (v := ?_) rfl (by kernel_rfl) (by kernel_rfl) (by kernel_rfl) (fun _ _ _ h => h) (Or.inl ⟨rfl, ?_⟩) (by assumption) ?_
      rotate_left
      · (intro w hSw; (try dsimp only at hSw); go_simp; (try with_reducible rfl))
      (try simp only [Act.put, List.setIfInBounds_toArray, List.set_cons_zero, List.set_cons_succ])
      refine wpAnyH_take (i := 50) (oi := ⟨some 63, _, _, _, _, _⟩) (v := ?_) rfl (by kernel_rfl) (by kernel_rfl) (by kernel_rfl) (fun _ _ _ h => h) (Or.inl ⟨rfl, ?_⟩) (by assumption) ?_
      rotate_left
      · (intro w hSw; (try dsimp only at hSw); go_simp; (try with_reducible rfl))
      (try simp only [Act.put, List.setIfInBounds_toArray, List.set_cons_zero, List.set_cons_succ])
      refine wpAnyH_take (i := 51) (oi := ⟨some 64, _, _, _, _, _⟩) (v := ?_) rfl (by kernel_rfl) (by kernel_rfl) (by kernel_rfl) (fun _ _ _ h => h) (Or.inl ⟨rfl, ?_⟩) (by assumption) ?_
      rotate_left
      · (intro w hSw; (try dsimp only at hSw); go_simp; (try with_reducible rfl))
      (try simp only [Act.put, List.setIfInBounds_toArray, List.set_cons_zero, List.set_cons_succ])
      refine wpAnyH_take (i := 52) (oi := ⟨some 65, _, _, _, _, _⟩) (v := ?_) rfl (by kernel_rfl) (by kernel_rfl) (by kernel_rfl) (fun _ _ _ h => h) (Or.inl ⟨rfl, ?_⟩) (by assumption) ?_
      rotate_left
      · (intro w hSw; (try dsimp only at hSw); go_simp; (try with_reducible rfl))
      (try simp only [Act.put, List.setIfInBounds_toArray, List.set_cons_zero, List.set_cons_succ])
      refine wpAnyH_take (i := 53) (oi := ⟨some 66, _, _, _, _, _⟩) (v := ?_) rfl (by kernel_rfl) (by kernel_rfl) (by kernel_rfl) (fun _ _ _ h => h) (Or.inl ⟨rfl, ?_⟩) (by assumption) ?_
      rotate_left
      · (intro w hSw; (try dsimp only at hSw); go_simp; (try with_reducible rfl))
      (try simp only [Act.put, List.setIfInBounds_toArray, List.set_cons_zero, List.set_cons_succ])
      refine wpAnyH_take (i := 54) (oi := ⟨some 67, _, _, _, _, _⟩) (v := ?_) rfl (by kernel_rfl) (by kernel_rfl) (by kernel_rfl) (fun _ _ _ h => h) (Or.inl ⟨rfl, ?_⟩) (by assumption) ?_
      rotate_left
      · (intro w hSw; (try dsimp only at hSw); go_simp; (try with_reducible rfl))
      (try simp only [Act.put, List.setIfInBounds_toArray, List.set_cons_zero, List.set_cons_succ])
      refine wpAnyH_ready (rs := [55]) (by kernel_rfl) (by simp) ?_
      refine AllReadyH.cons (o := ⟨some 68, _, _, _, _, _⟩) rfl (fun K hK => ?_) AllReadyH.nil
      go_simp
      have hBase := hHeld41
      refine hK.out _ _ ?_ (fun hHeld56 => ?_)
      · exact XInv.cells (XInv.alloc (XInv.limb hBase) _)
      clear hK K hHeld41
      (try simp only [Act.put, List.setIfInBounds_toArray, List.set_cons_zero, List.set_cons_succ])
      refine wpAnyH_ready (rs := [56]) (by kernel_rfl) (by simp) ?_
      refine AllReadyH.cons (o := ⟨some 69, _, _, _, _, _⟩) rfl (fun K hK => ?_) AllReadyH.nil
      go_simp
      refine (HK.out.h5 _ ?_).mono ?_
      · exact XInv.good (XInv.limb hBase)
      rintro e w' ⟨rfl, hb⟩
      have hCall := XInv.call (XInv.limb hHeld56) hb
      go_wp2_with fail
      refine hK.out _ _ ?_ (fun hHeld57 => ?_)
      · exact XInv.cells hCall
      clear hK K hHeld56
      (try simp only [Act.put, List.setIfInBounds_toArray, List.set_cons_zero, List.set_cons_succ])
      refine wpAnyH_take (i := 57) (oi := ⟨some 70, _, _, _, _, _⟩) (v := ?_) rfl (by kernel_rfl) (by kernel_rfl) (by kernel_rfl) (fun _ _ _ h => h) (Or.inl ⟨rfl, ?_⟩) (by assumption) ?_
      rotate_left
      · (intro w hSw; (try dsimp only at hSw); go_simp; (try with_reducible rfl))
      (try simp only [Act.put, List.setIfInBounds_toArray, List.set_cons_zero, List.set_cons_succ])
      refine wpAnyH_take (i := 58) (oi := ⟨some 71, _, _, _, _, _⟩) (v := ?_) rfl (by kernel_rfl) (by kernel_rfl) (by kernel_rfl) (fun _ _ _ h => h) (Or.inl ⟨rfl, ?_⟩) (by assumption) ?_
      rotate_left
      · (intro w hSw; (try dsimp only at hSw); go_simp; (try with_reducible rfl))
      (try simp only [Act.put, List.setIfInBounds_toArray, List.set_cons_zero, List.set_cons_succ])
      refine wpAnyH_done (by kernel_rfl) ?_ _
      obtain ⟨HI2, HB2⟩ := XInv.fin hHeld57
      clear hHeld57 HX HK hBase
      go_wp2_with fail
      go_roundw
      case rel => exact ⟨k + 1, hlt, by go_num, HI2, HB2⟩
      case measure => simp [intOf]; omega
    · obtain rfl : k = 15 := by omega
      rw [show ((15 : Nat) : Int) = 15 from rfl]
      clear HC HB
      go_wp2_with fail
      refine (signs_any _ (FInv.good HI)).mono ?_
      rintro e w2 ⟨v, rfl, hown, b⟩
      have HI := FInv.call HI b
      obtain ⟨g, cap, cur, rfl, _, hB, hcap, hcur⟩ := own_blk hown (by decide)
      have HL := Lib.hid hB
      have HC : Hid (∀ (j : Nat) (x : List UInt8), Lex.signs[j]? = some x → cur[j]? = some (.string ⟨x.toArray⟩)) := Lib.hid fun j x hx => hcur j _ (by rw [List.getElem?_map, hx]; rfl)
      clear b hown hB hcur
      go_wp2_with fail
      refine (reserved_any [] _ (FInv.good HI)).mono ?_
      rintro e w3 ⟨rfl, rfl⟩
      rw [show decide (([] : List UInt8) ∈ Lex.keywords) = false by decide +kernel]
      go_wp2_with fail
      go_loopw [4] (fun i wr => ∃ k : Nat, k ≤ 23 ∧ i = .int .i64 k ∧ Hid (FInv w wr) ∧ Hid (Blk wr g 9 cur)) (fun i _ => 23 - (intOf i).toNat)
      case atStart => exact ⟨0, Nat.zero_le _, rfl, HI, HL⟩
      case round =>
        obtain ⟨k, hk, rfl, HI, HL⟩ := hrel
        by_cases hlt : k < 23
        · obtain ⟨x, hx⟩ : ∃ x, Lex.signs[k]? = some x := ⟨_, List.getElem?_eq_getElem (show k < Lex.signs.length from hlt)⟩
          obtain ⟨h4, h5, h6⟩ := sg_facts k x hx
          have HV := Lib.hid (HC.out k x hx)
          have HY : Hid (YInv w g cur wr) := Lib.hid ⟨HI.out, HL.out⟩
          have HH : Hid (∀ W, Good W → Calls Tryd.prog 13 #[.string ⟨x.toArray⟩, .slice (some ⟨W.heap.size, 0, none⟩) 1 1] (W.alloc (.cells #[.int .i64 4, .string ⟨x.toArray⟩, .int .i64 0] 32)).drew fun e w' => e = .returned (.bool true) ∧ Below (W.alloc (.cells #[.int .i64 4, .string ⟨x.toArray⟩, .int .i64 0] 32)).drew.heap.size (W.alloc (.cells #[.int .i64 4, .string ⟨x.toArray⟩, .int .i64 0] 32)).drew w') := Lib.hid fun W hG => by
            have := has_any x (by omega) (some ⟨W.heap.size, 0, none⟩) 1 [⟨4, x, 0⟩] (W.alloc (.cells #[.int .i64 4, .string ⟨x.toArray⟩, .int .i64 0] 32)).drew (rd_lit W 32 [.int .i64 4, .string ⟨x.toArray⟩, .int .i64 0]).drew (hG.alloc _).drew
            rwa [h4] at this
          have hs5 : decide (x.length = 2) = decide (k < 6) := h5
          clear hx h4 h5
          obtain ⟨n, hn⟩ : ∃ n, (⟨x.toArray⟩ : ByteArray).size = n := ⟨_, rfl⟩
          have hn2 : x.length = n := hn
          rw [hn2] at hs5 h6
          generalize (⟨x.toArray⟩ : ByteArray) = X at HH HV hn
          subst hn
          clear hn2
          have k0 : (0 : Int) ≤ (k : Int) := by omega
          have k1 : (k : Int) < 23 := by omega
          by_cases h6 : k < 6
          · have e1 : X.size = 2 := by simpa [h6] using hs5
            have e2 : ((X.size : Int) == 2) = true := by simp; omega
            have e3 : decide ((k : Int) < 6) = true := by simp; omega
            clear hs5 e1
            obtain ⟨c0, _⟩ := YInv.cells HY HV
            go_wp2_with fail
            go_region_held3 (fun W => W.cell? ⟨g, k, none⟩ = some (.string X) ∧ Hid (YInv w g cur W))
              (first | exact YInv.cells (YInv.drew (by assumption)) HV | exact YInv.cells (YInv.call (YInv.limb (by assumption)) (by assumption)) HV | exact YInv.cells (YInv.drew (YInv.alloc (by assumption) _)) HV)
              (first | (go_at_call 13; refine (HH.out _ (YInv.good HY)).mono ?_; rintro e w' ⟨rfl, hb⟩))
            have HY2 := YInv.call (YInv.drew (YInv.alloc HY _)) hb
            have HI2 : Hid (FInv w w') := Lib.hid HY2.out.1
            have HL2 : Hid (Blk w' g 9 cur) := Lib.hid HY2.out.2
            clear HY2 HY HH HV HI HL c0
            go_wp2_with fail
            go_roundw
            case rel => exact ⟨k + 1, hlt, by go_num, HI2, HL2⟩
            case measure => simp [intOf]; omega
          · have e1 : ¬ X.size = 2 := by simpa [h6] using hs5
            have e2 : ((X.size : Int) == 2) = false := by simp; omega
            have e3 : decide ((k : Int) < 6) = false := by simp; omega
            clear hs5 e1
            obtain ⟨c0, _⟩ := YInv.cells HY HV
            go_wp2_with fail
            go_region_held3 (fun W => W.cell? ⟨g, k, none⟩ = some (.string X) ∧ Hid (YInv w g cur W))
              (first | exact YInv.cells (YInv.drew (by assumption)) HV | exact YInv.cells (YInv.call (YInv.limb (by assumption)) (by assumption)) HV | exact YInv.cells (YInv.drew (YInv.alloc (by assumption) _)) HV)
              (first | (go_at_call 13; refine (HH.out _ (YInv.good HY)).mono ?_; rintro e w' ⟨rfl, hb⟩))
            have HY2 := YInv.call (YInv.drew (YInv.alloc HY _)) hb
            have HI2 : Hid (FInv w w') := Lib.hid HY2.out.1
            have HL2 : Hid (Blk w' g 9 cur) := Lib.hid HY2.out.2
            clear HY2 HY HH HV HI HL c0
            go_wp2_with fail
            go_roundw
            case rel => exact ⟨k + 1, hlt, by go_num, HI2, HL2⟩
            case measure => simp [intOf]; omega
        · obtain rfl : k = 23 := by omega
          rw [show ((23 : Nat) : Int) = 23 from rfl]
          clear HC HL
          go_wp2_with fail
          refine (ksign_any [61, 61] 0 _).mono ?_
          rintro e v0 ⟨rfl, b⟩
          have HI := FInv.call HI b
          clear b
          go_wp2_with fail
          refine (ksign_any [61] 2 _).mono ?_
          rintro e v1 ⟨rfl, b⟩
          have HI := FInv.call HI b
          clear b
          go_wp2_with fail
          have HI := FInv.alloc HI (.cells (List.toArray (α := Value) [.int .i64 4, .string ⟨#[61, 61]⟩, .int .i64 0, .int .i64 4, .string ⟨#[61]⟩, .int .i64 2]) 32)
          refine (has_any [61, 61, 61] (by decide) _ _ [⟨4, [61, 61], 0⟩, ⟨4, [61], 2⟩] _ (rd_lit _ 32 [.int .i64 4, .string ⟨#[61, 61]⟩, .int .i64 0, .int .i64 4, .string ⟨#[61]⟩, .int .i64 2]) (FInv.good HI)).mono ?_
          rintro e v2 ⟨rfl, b⟩
          rw [known0]
          have HI := FInv.call HI b
          clear b
          go_wp2_with fail
          refine (ksign_any [33, 61] 0 _).mono ?_
          rintro e v3 ⟨rfl, b⟩
          have HI := FInv.call HI b
          clear b
          go_wp2_with fail
          refine (ksign_any [61] 2 _).mono ?_
          rintro e v4 ⟨rfl, b⟩
          have HI := FInv.call HI b
          clear b
          go_wp2_with fail
          have HI := FInv.alloc HI (.cells (List.toArray (α := Value) [.int .i64 4, .string ⟨#[33, 61]⟩, .int .i64 0, .int .i64 4, .string ⟨#[61]⟩, .int .i64 2]) 32)
          refine (has_any [33, 61, 61] (by decide) _ _ [⟨4, [33, 61], 0⟩, ⟨4, [61], 2⟩] _ (rd_lit _ 32 [.int .i64 4, .string ⟨#[33, 61]⟩, .int .i64 0, .int .i64 4, .string ⟨#[61]⟩, .int .i64 2]) (FInv.good HI)).mono ?_
          rintro e v5 ⟨rfl, b⟩
          rw [known1]
          have HI := FInv.call HI b
          clear b
          go_wp2_with fail
          refine (ksign_any [60] 0 _).mono ?_
          rintro e v6 ⟨rfl, b⟩
          have HI := FInv.call HI b
          clear b
          go_wp2_with fail
          refine (ksign_any [60, 61] 1 _).mono ?_
          rintro e v7 ⟨rfl, b⟩
          have HI := FInv.call HI b
          clear b
          go_wp2_with fail
          have HI := FInv.alloc HI (.cells (List.toArray (α := Value) [.int .i64 4, .string ⟨#[60]⟩, .int .i64 0, .int .i64 4, .string ⟨#[60, 61]⟩, .int .i64 1]) 32)
          refine (has_any [60, 60, 61] (by decide) _ _ [⟨4, [60], 0⟩, ⟨4, [60, 61], 1⟩] _ (rd_lit _ 32 [.int .i64 4, .string ⟨#[60]⟩, .int .i64 0, .int .i64 4, .string ⟨#[60, 61]⟩, .int .i64 1]) (FInv.good HI)).mono ?_
          rintro e v8 ⟨rfl, b⟩
          rw [known2]
          have HI := FInv.call HI b
          clear b
          go_wp2_with fail
          refine (ksign_any [47] 0 _).mono ?_
          rintro e v9 ⟨rfl, b⟩
          have HI := FInv.call HI b
          clear b
          go_wp2_with fail
          refine (ksign_any [47] 2 _).mono ?_
          rintro e v10 ⟨rfl, b⟩
          have HI := FInv.call HI b
          clear b
          go_wp2_with fail
          have HI := FInv.alloc HI (.cells (List.toArray (α := Value) [.int .i64 4, .string ⟨#[47]⟩, .int .i64 0, .int .i64 4, .string ⟨#[47]⟩, .int .i64 2]) 32)
          refine (has_any [47, 32, 47] (by decide) _ _ [⟨4, [47], 0⟩, ⟨4, [47], 2⟩] _ (rd_lit _ 32 [.int .i64 4, .string ⟨#[47]⟩, .int .i64 0, .int .i64 4, .string ⟨#[47]⟩, .int .i64 2]) (FInv.good HI)).mono ?_
          rintro e v11 ⟨rfl, b⟩
          rw [known3]
          have HI := FInv.call HI b
          clear b
          go_wp2_with fail
          refine (ksign_any [42] 0 _).mono ?_
          rintro e v12 ⟨rfl, b⟩
          have HI := FInv.call HI b
          clear b
          go_wp2_with fail
          refine (ksign_any [47] 1 _).mono ?_
          rintro e v13 ⟨rfl, b⟩
          have HI := FInv.call HI b
          clear b
          go_wp2_with fail
          have HI := FInv.alloc HI (.cells (List.toArray (α := Value) [.int .i64 4, .string ⟨#[42]⟩, .int .i64 0, .int .i64 4, .string ⟨#[47]⟩, .int .i64 1]) 32)
          refine (has_any [42, 47] (by decide) _ _ [⟨4, [42], 0⟩, ⟨4, [47], 1⟩] _ (rd_lit _ 32 [.int .i64 4, .string ⟨#[42]⟩, .int .i64 0, .int .i64 4, .string ⟨#[47]⟩, .int .i64 1]) (FInv.good HI)).mono ?_
          rintro e v14 ⟨rfl, b⟩
          rw [known4]
          have HI := FInv.call HI b
          clear b
          go_wp2_with fail
          refine (ksign_any [38, 38] 0 _).mono ?_
          rintro e v15 ⟨rfl, b⟩
          have HI := FInv.call HI b
          clear b
          go_wp2_with fail
          refine (ksign_any [38, 38] 2 _).mono ?_
          rintro e v16 ⟨rfl, b⟩
          have HI := FInv.call HI b
          clear b
          go_wp2_with fail
          have HI := FInv.alloc HI (.cells (List.toArray (α := Value) [.int .i64 4, .string ⟨#[38, 38]⟩, .int .i64 0, .int .i64 4, .string ⟨#[38, 38]⟩, .int .i64 2]) 32)
          refine (has_any [38, 38, 38, 38] (by decide) _ _ [⟨4, [38, 38], 0⟩, ⟨4, [38, 38], 2⟩] _ (rd_lit _ 32 [.int .i64 4, .string ⟨#[38, 38]⟩, .int .i64 0, .int .i64 4, .string ⟨#[38, 38]⟩, .int .i64 2]) (FInv.good HI)).mono ?_
          rintro e v17 ⟨rfl, b⟩
          rw [known5]
          have HI := FInv.call HI b
          clear b
          go_wp2_with fail
          refine (wrong_any [38, 38, 38] 2 (by decide) _ (FInv.good HI)).mono ?_
          rintro e v18 ⟨rfl, b⟩
          rw [known6]
          have HI := FInv.call HI b
          clear b
          go_wp2_with fail
          refine (has_any [47, 47] (by decide) none 0 [] _ (Rd.nil _ _ _) (FInv.good HI)).mono ?_
          rintro e v19 ⟨rfl, b⟩
          rw [known7]
          have HI := FInv.call HI b
          clear b
          go_wp2_with fail
          refine (has_any [47, 47, 32, 36] (by decide) none 0 [] _ (Rd.nil _ _ _) (FInv.good HI)).mono ?_
          rintro e v20 ⟨rfl, b⟩
          rw [known8]
          have HI := FInv.call HI b
          clear b
          go_wp2_with fail
          refine (works_any _ (FInv.good HI)).mono ?_
          rintro e v21 ⟨rfl, b⟩
          have HI := FInv.call HI b
          clear b
          go_wp2_with fail
          go_ret
          exact ⟨rfl, HI.out.2⟩
end Go.Proofs.YtkjpnciimabclaaDoor

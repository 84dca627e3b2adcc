/-
  LAYER 4, THE LAWS' HELPERS: a token by numbers: keywords; all of them.
-/
import Derived.Test.YtkjpnciimabclaaDoorLexK3
import Derived.Deep.RegionWith
namespace Go.Proofs.YtkjpnciimabclaaDoor
open Go.ChangeShapes Go.WideShapes Go.ChangeAt Go.RowKit

abbrev lkwA : Array Value := (Lex.keywords.map fun s => Value.string ⟨s.toArray⟩).toArray
/-- rewindlaw04.keywords. -/
theorem lkeywords_any (w : World) : Calls Tryd.prog 21 #[] w fun e w' => e = .returned (.slice (some ⟨w.heap.size, 0, none⟩) 15 15) ∧ (∀ (j : Nat) (s : List UInt8), Lex.keywords[j]? = some s → w'.cell? ⟨w.heap.size, j, none⟩ = some (.string ⟨s.toArray⟩)) ∧ Below w.heap.size w w' := by
  go_enter Tryd.func21, Tryd.ntmps21
  go_wp2
  go_ret
  refine ⟨rfl, fun j s h => ?_, below_new (Below.refl _ _) _⟩
  have := (Blk.new w 9 lkwA).cell j
  rw [List.getElem?_toArray, List.getElem?_map, h] at this
  exact this

theorem KInv.cells {w W : World} {k n g b : Int} (h : Hid (KInv w (pcA k n g b) W)) : W.cell? ⟨w.heap.size, 1, none⟩ = some (.int .u8 n) ∧ (W.cell? ⟨w.heap.size + 1, 0, none⟩ = some (.int .i64 0) ∧ W.cell? ⟨w.heap.size + 1, 1, none⟩ = some (.string ⟨#[]⟩) ∧ W.cell? ⟨w.heap.size + 1, 2, none⟩ = some (.int .i64 0)) ∧ (W.frozen? ⟨w.heap.size + 1, 0, none⟩ = false ∧ W.frozen? ⟨w.heap.size + 1, 1, none⟩ = false ∧ W.frozen? ⟨w.heap.size + 1, 2, none⟩ = false) ∧ Hid (KInv w (pcA k n g b) W) :=
  ⟨h.out.2.2.1.cell 1, ⟨h.out.2.2.2.cell 0, h.out.2.2.2.cell 1, h.out.2.2.2.cell 2⟩, ⟨h.out.2.2.2.frozen 0, h.out.2.2.2.frozen 1, h.out.2.2.2.frozen 2⟩, h⟩
theorem KInv.limb {p0 p1 p2 q : Prop} (h : p0 ∧ p1 ∧ p2 ∧ q) : q := h.2.2.2

set_option maxHeartbeats 4000000 in
set_option maxRecDepth 100000 in
theorem token_key (k n g b : Int) (hk : k % 4 = 2) (k0 : 0 ≤ k) (n0 : 0 ≤ n) (n1 : n ≤ 255) (w : World) (hG : Good w) :
    Calls Tryd.prog 19 #[.agg (pcA k n g b)] w fun e w' => TokV e ∧ Below w.heap.size w w' := by
  have HI := KInv.start hG (pcA k n g b)
  clear hG
  obtain ⟨q, hq, hq1⟩ : ∃ q : Nat, n % 15 = (q : Int) ∧ q < 15 := ⟨(n % 15).toNat, by omega, by omega⟩
  have hq2 : n.tmod 15 = (q : Int) := by rw [Int.tmod_eq_emod_of_nonneg n0]; exact hq
  have hq3 : (0 : Int) ≤ (q : Int) := by omega
  have hq4 : (q : Int) < 15 := by omega
  have hw1 : IntKind.i64.wrap n = n := by rw [IntKind.wrap_i64]; omega
  have hw2 : IntKind.i64.wrap (n.tmod 15) = (q : Int) := by rw [hq2, IntKind.wrap_i64]; omega
  have hw3 : IntKind.i64.wrap (q : Int) = (q : Int) := by rw [IntKind.wrap_i64]; omega
  obtain ⟨u, hu⟩ : ∃ u, Lex.keywords[q]? = some u := ⟨_, List.getElem?_eq_getElem (show q < Lex.keywords.length from hq1)⟩
  obtain ⟨HT, hT⟩ := kw_tk (List.mem_of_getElem? hu)
  have HT := Lib.hid HT
  have HU := Lib.hid hu
  clear hu
  go_enter Tryd.func19, Tryd.ntmps19
  go_wp2_with fail
  generalize (w.alloc (.cells (pcA k n g b) 40)).alloc (.cells #[.int .i64 0, .string ⟨#[]⟩, .int .i64 0] 32) = W0 at HI ⊢
  obtain ⟨e1, ⟨c0, c1, c2⟩, ⟨f0, f1, f2⟩, _⟩ := KInv.cells HI
  go_region_with (go_at_call 21; refine (lkeywords_any _).mono ?_; rintro e w' ⟨rfl, hcc, hb⟩; have cq : w'.cell? ⟨W0.heap.size, q, none⟩ = some (.string ⟨u.toArray⟩) := hcc q u HU.out; have HI2 := KInv.call (KInv.drew HI) hb; obtain ⟨e1', ⟨c0', c1', c2'⟩, ⟨f0', f1', f2'⟩, _⟩ := KInv.cells HI2; clear hcc hb)
  all_goals
    go_wp2_with fail
    obtain ⟨hg, hbb⟩ := ktok_done HI2 (.int .i64 3) (.string ⟨u.toArray⟩) (.int .i64 0)
    (try simp only [Exit.inBlock, Exit.then])
    refine bodyPost_ret (results_cell_row rfl _ _ _ 32 _ (0, 0) _ rfl hg Tryd.underlying32 rfl (by kernel_rfl)) rfl ?_
    exact ⟨⟨3, u, rfl, HT.out, hT⟩, hbb⟩

/-- (Piece).token. -/
theorem token_any (k n g b : Int) (k0 : 0 ≤ k) (n0 : 0 ≤ n) (n1 : n ≤ 255) (b0 : 0 ≤ b) (b1 : b ≤ 18446744073709551615) (w : World) (hG : Good w) :
    Calls Tryd.prog 19 #[.agg (pcA k n g b)] w fun e w' => TokV e ∧ Below w.heap.size w w' := by
  rcases (show k % 4 = 0 ∨ k % 4 = 1 ∨ k % 4 = 2 ∨ k % 4 = 3 by omega) with h | h | h | h
  · exact token_word k n g b h k0 n0 n1 b0 w hG
  · obtain ⟨B, rfl⟩ : ∃ B : Nat, b = (B : Int) := ⟨b.toNat, by omega⟩
    exact token_num k n g B h k0 (by omega) w hG
  · exact token_key k n g b h k0 n0 n1 w hG
  · exact token_sign k n g b h k0 n0 n1 w hG
end Go.Proofs.YtkjpnciimabclaaDoor

/-
  LAYER 23: the row of an instruction.
-/
import Derived.Test.YtmmehfkiceelkaaDoorCd3
import Derived.Laws.EntriesVeiled
import Derived.Deep.MidRow
namespace Go.Proofs.YtmmehfkiceelkaaDoor
open Go.ChangeShapes Go.WideShapes Go.ChangeAt Go.RowKit Go.Shelf

theorem rows_at (G k : Nat) (h : k < 18) (r : Nat) (hr : r < 5) : (rowsC G)[k * 5 + r]? = (rowC G k)[r]? := by
  unfold rowsC
  exact flatMap_get (rowC G) 5 (List.range 18) (fun _ _ => rfl) k r k (by rw [List.getElem?_range h]) hr
theorem row_size : (Tryd.prog.info? 67).map (·.size) = some 5 := by kernel_rfl
/-- A row that is handed back out of its own block, and a value beside it. -/
theorem results_row {fn : Func} {p u : Tmp} (h : fn.results = #[.cell p 67, .tmp u]) (tmps : Array Value) (w : World) (g : Nat) (cs : Array Value) (fr : Nat × Nat)
    (hp : tmps.getD p undef = .pointer (some ⟨g, 0, none⟩)) (hg : w.heap[g]? = some (.cells cs 67 fr)) (hs : cs.size = 5) :
    (results fn tmps).run Tryd.prog w = .ok (.tuple #[.agg cs, tmps.getD u undef]) w := by
  rw [results_cell_tmp h, hp]
  have hl := run_loadVar_row (P := Tryd.prog) w g 67 67 cs fr _ hg Tryd.underlying67 rfl (by rw [row_size, hs])
  simp [asAddr, Result.andThen, hl]
theorem bl_setRow {B g : Nat} {w0 w : World} (hb : Below B w0 w) (hg : B ≤ g) (cs : Array Value) : Below B w0 (w.setRow g cs) :=
  ⟨hb.os, hb.tape, hb.output, by rw [size_setRow]; exact hb.size, fun k hk => (setRow_other w g k cs (by omega)).trans (hb.block k hk)⟩
theorem Blk.setRow {w : World} {g : Nat} {T : TypeId} {cs cs' : Array Value} (h : Blk w g T cs) : Blk (w.setRow g cs') g T cs' := setRow_heap w g cs cs' T (0, 0) h
theorem rowC_len (G k : Nat) : (rowC G k).length = 5 := rfl
theorem rows_range {w : World} {g G : Nat} {T : TypeId} (hb : Blk w g T (rowsC G).toArray) {k : Nat} (h : k < 18) : w.rangeAt g (k * 5) (rowC G k) := fun j v hj => by
  rw [hb.cell]
  rw [List.getElem?_toArray]
  have hj5 : j < 5 := by
    have := List.getElem?_eq_some_iff.1 hj
    exact this.1
  rw [rows_at G k h j hj5]
  exact hj
theorem fv_one (G k : Nat) : (fv G k).oneCell' = true := by
  by_cases h : k < 18
  · rcases (show k = 0 ∨ k = 1 ∨ k = 2 ∨ k = 3 ∨ k = 4 ∨ k = 5 ∨ k = 6 ∨ k = 7 ∨ k = 8 ∨ k = 9 ∨ k = 10 ∨ k = 11 ∨ k = 12 ∨ k = 13 ∨ k = 14 ∨ k = 15 ∨ k = 16 ∨ k = 17 by omega) with rfl | rfl | rfl | rfl | rfl | rfl | rfl | rfl | rfl | rfl | rfl | rfl | rfl | rfl | rfl | rfl | rfl | rfl <;> rfl
  · unfold fv
    rw [List.getElem?_eq_none (by show 18 ≤ k; omega)]
    rfl
theorem rowC_one (G k : Nat) : (rowC G k).toArray.all (·.oneCell') = true := by
  have := fv_one G k
  unfold rowC
  simp [this]
  simp [Value.oneCell']
theorem rowsC_len (G : Nat) : (rowsC G).length = 90 := rfl
def rowZ : Array Value := #[.string ⟨#[]⟩, .nilFunc, .int .i64 0, .int .i64 0, .bool false]
set_option maxHeartbeats 2000000 in
set_option maxRecDepth 100000 in
theorem find_some (k : Nat) (k1 : 1 ≤ k) (k2 : k ≤ 17) (w : World) :
    Calls Tryd.prog 31 #[.int .i64 (k : Int)] w fun e w' => e = .returned (.tuple #[.agg (rowC (w.heap.size + 1) k).toArray, .bool true]) ∧ (∀ (j : Nat) (x : Int), bnd[j]? = some x → Blk w' (w.heap.size + 1 + j) 2 #[.int .i64 x]) ∧ Below w.heap.size w w' := by
  have HT := table_any (w.alloc (.cells rowZ 67))
  rw [World.size_alloc] at HT
  have HTT := Lib.hid HT
  have q1 : ¬ (k : Int) < 1 := by omega
  have q2 : ¬ (18 : Int) ≤ (k : Int) := by omega
  have q3 : (k : Int) < 18 := by omega
  clear HT
  unfold rowZ at HTT
  go_enter Tryd.func31, Tryd.ntmps31
  go_wp2_with fail
  refine HTT.out.mono ?_
  rintro e w2 ⟨rfl, hb, hx, hB⟩
  have hz : Blk w2 w.heap.size 67 rowZ := (Blk.new w _ _).below hB (Nat.lt_succ_self _)
  have HK := Lib.hid hz
  have HB := Lib.hid ((below_new (Below.refl w.heap.size w) (.cells rowZ 67)).trans (hB.mono (Nat.le_succ _)))
  have HX : Hid (∀ (j : Nat) (x : Int), bnd[j]? = some x → Blk (w2.setRow w.heap.size (rowC (w.heap.size + 1) k).toArray) (w.heap.size + 1 + j) 2 #[.int .i64 x]) := Lib.hid (fun j x hj => (setRow_other _ _ _ _ (by omega)).trans (hx j x hj))
  have HF := Lib.hid (rows_range hb (k := k) (by omega))
  clear hb hx hB hz
  go_wp2_with (first | refine wpList_load_mid rfl 67 (.tmp 17) rfl (w.heap.size + 1 + 8) (k * 5) rfl (rowC (w.heap.size + 1) k) _ HF.out Tryd.underlying67 rfl (by rw [rowC_len]; exact row_size) ?_ | refine wpList_store_row rfl 67 (.tmp 2) (.tmp 18) rfl w.heap.size (rowC (w.heap.size + 1) k).toArray rfl rfl 67 _ HK.out (by rw [List.size_toArray, rowC_len]; exact row_size) rfl (rowC_one _ k) ?_)
  refine bodyPost_ret (results_row rfl _ _ w.heap.size _ _ rfl HK.out.setRow rfl) rfl ?_
  exact ⟨rfl, HX.out, bl_setRow HB.out (Nat.le_refl _) _⟩
set_option maxHeartbeats 2000000 in
set_option maxRecDepth 100000 in
theorem find_none (k : Int) (h : k < 1 ∨ 18 ≤ k) (w : World) :
    Calls Tryd.prog 31 #[.int .i64 k] w fun e w' => e = .returned (.tuple #[.agg rowZ, .bool false]) ∧ Below w.heap.size w w' := by
  have h : k < 1 ∨ (¬ k < 1 ∧ 18 ≤ k) := by omega
  have HT := table_any (w.alloc (.cells rowZ 67))
  rw [World.size_alloc] at HT
  have HTT := Lib.hid HT
  clear HT
  unfold rowZ at HTT
  rcases h with h | ⟨h0, h⟩
  all_goals
    go_enter Tryd.func31, Tryd.ntmps31
    go_wp2_with fail
    refine HTT.out.mono ?_
    rintro e w2 ⟨rfl, hb, hx, hB⟩
    have hz : Blk w2 w.heap.size 67 rowZ := (Blk.new w _ _).below hB (Nat.lt_succ_self _)
    have HK := Lib.hid hz
    have HB := Lib.hid ((below_new (Below.refl w.heap.size w) (.cells rowZ 67)).trans (hB.mono (Nat.le_succ _)))
    clear hb hx hB hz
    go_wp2_with (first | refine wpList_store_row rfl 67 (.tmp 2) (.tmp 14) rfl w.heap.size rowZ rfl rfl 67 _ HK.out (by kernel_rfl) (by kernel_rfl) (by kernel_rfl) ?_)
    refine bodyPost_ret (results_row rfl _ _ w.heap.size _ _ rfl HK.out.setRow rfl) rfl ?_
    exact ⟨rfl, bl_setRow HB.out (Nat.le_refl _) _⟩
end Go.Proofs.YtmmehfkiceelkaaDoor

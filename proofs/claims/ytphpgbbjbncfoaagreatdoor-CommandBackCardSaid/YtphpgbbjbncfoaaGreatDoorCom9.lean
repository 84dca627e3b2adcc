/-
  LAYER 42: how the kinds of commands are written: the table.
-/
import Derived.Test.YtphpgbbjbncfoaaGreatDoorCom8
import Derived.Laws.EntriesVeiled
import Derived.Deep.MidRow
import Derived.Deep.RegionHeld3
namespace Go.Proofs.YtphpgbbjbncfoaaGreatDoor
open Go.ChangeShapes Go.WideShapes Go.ChangeAt Go.RowKit

/-- The functions of a kind: whether it is valid, its text, how it is read. -/
def fV (cl : Nat) : Nat := match cl with | 1 => 67 | 2 => 70 | 3 => 74 | _ => 77
def fP (cl : Nat) : Nat := match cl with | 1 => 68 | 2 => 71 | 3 => 75 | 4 => 78 | _ => 101
def fR (cl : Nat) : Nat := match cl with | 1 => 69 | 2 => 72 | 3 => 76 | 4 => 79 | _ => 102
def formL (k : Nat) : List Value := if k = 0 then [.string ⟨#[]⟩, .int .i64 0, .nilFunc, .nilFunc, .nilFunc] else [.string ⟨((Cmd.words[k]?).getD []).toArray⟩, .int .i64 (Cmd.most k), .func (.func (fV (Cmd.cls k))) #[] #[], .func (.func (fP (Cmd.cls k))) #[] #[], .func (.func (fR (Cmd.cls k))) #[] #[]]
def formsL : List Value := (List.range 16).flatMap formL

theorem alone_any (l : List UInt8) (w : World) : Calls Tryz.prog 73 #[.string ⟨l.toArray⟩] w fun e w' => e = .returned (.agg #[.string ⟨l.toArray⟩, .int .i64 0, .func (.func 77) #[] #[], .func (.func 101) #[] #[], .func (.func 102) #[] #[]]) ∧ Below w.heap.size w w' := by
  go_enter Tryz.func73, Tryz.ntmps73
  go_wp2_with fail
  refine bodyPost_ret (results_cell_row rfl _ _ w.heap.size _ _ _ _ rfl (heap_alloc_new w _) Tryz.underlying72 rfl (by kernel_rfl)) rfl ?_
  exact ⟨rfl, below_new (Below.refl _ _) _⟩
/-- What a walk keeps of a command's own block. -/
def CI (w0 : World) (g : Nat) (cs : Array Value) (W : World) : Prop := Good W ∧ Below w0.heap.size w0 W ∧ Blk W g 24 cs
theorem CI.good {w0 W : World} {g : Nat} {cs : Array Value} (h : Hid (CI w0 g cs W)) : Good W := h.out.1
theorem CI.drew {w0 W : World} {g : Nat} {cs : Array Value} (h : Hid (CI w0 g cs W)) : Hid (CI w0 g cs W.drew) := Lib.hid ⟨h.out.1.drew, h.out.2.1.drew, h.out.2.2⟩
theorem CI.call {w0 W W' : World} {g : Nat} {cs : Array Value} (h : Hid (CI w0 g cs W)) (hb : Below W.heap.size W W') : Hid (CI w0 g cs W') := Lib.hid ⟨h.out.1.call hb, below_call h.out.2.1 hb, h.out.2.2.call hb⟩
theorem CI.cells2 {w0 W : World} {g : Nat} {x0 x1 x2 x3 : Value} (h : Hid (CI w0 g #[x0, x1, x2, x3] W)) : W.cell? ⟨g, 1, none⟩ = some x1 ∧ W.cell? ⟨g, 2, none⟩ = some x2 ∧ Hid (CI w0 g #[x0, x1, x2, x3] W) := ⟨h.out.2.2.cell 1, h.out.2.2.cell 2, h⟩
theorem CI.limb {p q : Prop} {w0 W : World} {g : Nat} {cs : Array Value} (h : p ∧ q ∧ Hid (CI w0 g cs W)) : Hid (CI w0 g cs W) := h.2.2
set_option maxHeartbeats 1000000 in
theorem withBreak_any (c : Cmd.C) (h0 : 0 ≤ c.a) (h1 : c.a ≤ 9223372036854775807) (hn : c.name.length ≤ 1000000) (w : World) (hG : Good w) : Calls Tryz.prog 75 #[cV c] w fun e w' => e = .returned (.string ⟨(Cmd.text 3 c).toArray⟩) ∧ Below w.heap.size w w' := by
  obtain ⟨k, a, n, v⟩ := c
  unfold cV Cmd.text
  simp only at h0 h1 hn ⊢
  have hlen : (Lib.itoa a).length ≤ 20 := by
    rw [Dec.itoa_nn h0]
    exact Dec.dec_length_le (by omega)
  obtain ⟨Q, hQ⟩ : ∃ Q, Lib.itoa a = Q := ⟨_, rfl⟩
  rw [hQ] at hlen ⊢
  have HQ := Lib.hid hQ
  have HI : Hid (CI w w.heap.size #[.int .i64 k, .int .i64 a, .string ⟨n.toArray⟩, .string ⟨v.toArray⟩] (w.alloc (.cells #[.int .i64 k, .int .i64 a, .string ⟨n.toArray⟩, .string ⟨v.toArray⟩] 24))) :=
    Lib.hid ⟨hG.alloc _, below_new (Below.refl _ _) _, Blk.new _ _ _⟩
  have s1 : ¬ 9223372036854775807 < 1 + n.length := by omega
  have s2 : ¬ 9223372036854775807 < 1 + n.length + 1 := by omega
  have s3 : ¬ 9223372036854775807 < 1 + n.length + 1 + Q.length := by omega
  clear hQ hG
  go_enter Tryz.func75, Tryz.ntmps75
  go_wp2_with fail
  go_region_held3 (fun W => W.cell? ⟨w.heap.size, 1, none⟩ = some (.int .i64 a) ∧ W.cell? ⟨w.heap.size, 2, none⟩ = some (.string ⟨n.toArray⟩) ∧ Hid (CI w w.heap.size #[.int .i64 k, .int .i64 a, .string ⟨n.toArray⟩, .string ⟨v.toArray⟩] W))
    (first | exact CI.cells2 (CI.drew (by assumption)) | exact CI.cells2 (CI.call (CI.limb (by assumption)) (by assumption)))
    (first | (go_at_call 103; refine (digits_cmd a h0 h1 _ (CI.good (CI.limb (by assumption)))).mono ?_; rintro e w' ⟨rfl, hb⟩; rw [HQ.out]))
  have HZ := CI.limb (by assumption)
  go_wp2_with fail
  go_ret
  exact ⟨ret_str (by rw [show (⟨#[32]⟩ : ByteArray) = ⟨[32].toArray⟩ from rfl, ByteArray.mk_append_mk, ByteArray.mk_append_mk, ByteArray.mk_append_mk, mk_inj]; simp), HZ.out.2.1⟩
/-- What the walk of the table keeps. -/
def FI (w0 : World) (g : Nat) (T : TypeId) (cs : Array Value) (W : World) : Prop := Below w0.heap.size w0 W ∧ Blk W g T cs
theorem FI.call {w0 W W' : World} {g : Nat} {T : TypeId} {cs : Array Value} (h : Hid (FI w0 g T cs W)) (hb : Below W.heap.size W W') : Hid (FI w0 g T cs W') := Lib.hid ⟨below_call h.out.1 hb, h.out.2.call hb⟩
theorem bl_setRow {B g : Nat} {w0 w : World} (hb : Below B w0 w) (hg : B ≤ g) (cs : Array Value) : Below B w0 (w.setRow g cs) :=
  ⟨hb.os, hb.tape, hb.output, by rw [size_setRow]; exact hb.size, fun k hk => (setRow_other w g k cs (by omega)).trans (hb.block k hk)⟩
theorem Blk.setRow {w : World} {g : Nat} {T : TypeId} {cs cs' : Array Value} (h : Blk w g T cs) : Blk (w.setRow g cs') g T cs' := setRow_heap w g cs cs' T (0, 0) h
set_option maxHeartbeats 4000000 in
set_option maxRecDepth 100000 in
theorem forms_any (w : World) : Calls Tryz.prog 44 #[] w fun e w' => e = .returned (.agg formsL.toArray) ∧ Below w.heap.size w w' := by
  have HI : Hid (FI w w.heap.size 81 Tryz.zeroCells81 (w.alloc (.cells Tryz.zeroCells81 81))) := Lib.hid ⟨below_new (Below.refl _ _) _, Blk.new _ _ _⟩
  go_enter Tryz.func44, Tryz.ntmps44
  go_wp2_with fail
  refine (alone_any [115, 116, 101, 112] _).mono ?_
  rintro e w1 ⟨rfl, hb⟩
  have HI := FI.call HI hb
  clear hb
  go_wp2_with fail
  refine (alone_any [110, 101, 120, 116] _).mono ?_
  rintro e w2 ⟨rfl, hb⟩
  have HI := FI.call HI hb
  clear hb
  go_wp2_with fail
  refine (alone_any [102, 105, 110, 105, 115, 104] _).mono ?_
  rintro e w3 ⟨rfl, hb⟩
  have HI := FI.call HI hb
  clear hb
  go_wp2_with fail
  refine (alone_any [99, 111, 110, 116, 105, 110, 117, 101] _).mono ?_
  rintro e w4 ⟨rfl, hb⟩
  have HI := FI.call HI hb
  clear hb
  go_wp2_with fail
  refine (alone_any [98, 97, 99, 107] _).mono ?_
  rintro e w5 ⟨rfl, hb⟩
  have HI := FI.call HI hb
  clear hb
  go_wp2_with fail
  refine (alone_any [114, 101, 119, 105, 110, 100] _).mono ?_
  rintro e w6 ⟨rfl, hb⟩
  have HI := FI.call HI hb
  clear hb
  go_wp2_with fail
  refine (alone_any [119, 104, 101, 114, 101] _).mono ?_
  rintro e w7 ⟨rfl, hb⟩
  have HI := FI.call HI hb
  clear hb
  go_wp2_with fail
  refine (alone_any [111, 117, 116, 112, 117, 116] _).mono ?_
  rintro e w8 ⟨rfl, hb⟩
  have HI := FI.call HI hb
  clear hb
  go_wp2_with fail
  refine (alone_any [108, 105, 115, 116] _).mono ?_
  rintro e w9 ⟨rfl, hb⟩
  have HI := FI.call HI hb
  clear hb
  have hrow := HI.out.2
  go_wp2_with (refine wpList_store_row rfl 81 (.tmp 0) (.tmp 16) rfl w.heap.size formsL.toArray rfl (by kernel_rfl) 81 _ hrow (by kernel_rfl) (by kernel_rfl) (by kernel_rfl) ?_)
  refine bodyPost_ret (results_cell_row rfl _ _ w.heap.size _ _ _ _ rfl hrow.setRow Tryz.underlying81 rfl (by kernel_rfl)) rfl ?_
  exact ⟨rfl, bl_setRow HI.out.1 (Nat.le_refl _) _⟩
theorem formL_len (k : Nat) : (formL k).length = 5 := by
  unfold formL
  split <;> rfl
theorem formsL_at {k : Nat} (h : k < 16) (j : Nat) (v : Value) (hj : (formL k)[j]? = some v) : formsL[k * 5 + j]? = some v := by
  have hj5 : j < 5 := by
    have := (List.getElem?_eq_some_iff.1 hj).1
    rwa [formL_len] at this
  unfold formsL
  rw [flatMap_get formL 5 _ (fun x _ => formL_len x) k j k (by simp [h]) hj5]
  exact hj
theorem forms_range {w : World} {g : Nat} {T : TypeId} (hb : Blk w g T formsL.toArray) {k : Nat} (h : k < 16) : w.rangeAt g (k * 5) (formL k) := fun j v hj => by
  rw [hb.cell]
  rw [List.getElem?_toArray]
  exact formsL_at h j v hj
theorem formL_one (k : Nat) : (formL k).toArray.all (·.oneCell') = true := by
  unfold formL
  split <;> simp [Value.oneCell']
theorem form_size : (Tryz.prog.info? 72).map (·.size) = some 5 := by kernel_rfl
/-- A form that is handed back out of its own block, and a value beside it. -/
theorem results_form {fn : Func} {p u : Tmp} (h : fn.results = #[.cell p 72, .tmp u]) (tmps : Array Value) (w : World) (g : Nat) (T : TypeId) (cs : Array Value) (fr : Nat × Nat)
    (hp : tmps.getD p undef = .pointer (some ⟨g, 0, none⟩)) (hg : w.heap[g]? = some (.cells cs T fr)) (hs : cs.size = 5) :
    (results fn tmps).run Tryz.prog w = .ok (.tuple #[.agg cs, tmps.getD u undef]) w := by
  rw [results_cell_tmp h, hp]
  have hl := run_loadVar_row (P := Tryz.prog) w g T 72 cs fr _ hg Tryz.underlying72 rfl (by rw [form_size, hs])
  simp [asAddr, Result.andThen, hl]
set_option maxHeartbeats 1000000 in
set_option maxRecDepth 20000 in
theorem of_some (k : Nat) (h1 : 1 ≤ k) (h2 : k ≤ 15) (w : World) : Calls Tryz.prog 38 #[.int .i64 (k : Int)] w fun e w' => e = .returned (.tuple #[.agg (formL k).toArray, .bool true]) ∧ Below w.heap.size w w' := by
  have a1 : ¬ (k : Int) < 1 := by omega
  have a2 : ¬ (16 : Int) ≤ (k : Int) := by omega
  have a3 : (0 : Int) ≤ (k : Int) := by omega
  have a4 : (k : Int) < 16 := by omega
  go_enter Tryz.func38, Tryz.ntmps38
  go_wp2_with fail
  refine (forms_any _).mono ?_
  rintro e w1 ⟨rfl, hb⟩
  have HB1 := Lib.hid (below_call (below_new (Below.refl w.heap.size w) (.cells (formL 0).toArray 72)) hb)
  have HK1 := Lib.hid (blk_new w w1 72 (formL 0).toArray hb)
  clear hb
  have hrow := Blk.new w1 81 Tryz.zeroCells81
  have HB2 := Lib.hid (bl_setRow (below_new HB1.out (.cells Tryz.zeroCells81 81)) (show w.heap.size ≤ w1.heap.size from HB1.out.size) formsL.toArray)
  have hK2 : Blk ((w1.alloc (.cells Tryz.zeroCells81 81)).setRow w1.heap.size formsL.toArray) w.heap.size 72 (formL 0).toArray := (setRow_other _ _ _ _ (Nat.ne_of_lt HK1.out.lt)).trans (HK1.out.alloc _)
  have hF2 := forms_range hrow.setRow (k := k) (by omega)
  have HF2 := Lib.hid hF2
  have HK2 := Lib.hid hK2
  clear hF2 hK2
  go_wp2_with (first | refine wpList_store_row rfl 81 (.tmp 4) (.tmp 5) rfl w1.heap.size formsL.toArray rfl rfl 81 _ hrow (by kernel_rfl) (by kernel_rfl) (by kernel_rfl) ?_ | refine wpList_load_mid rfl 72 (.tmp 14) rfl w1.heap.size (k * 5) rfl (formL k) _ HF2.out Tryz.underlying72 rfl (by rw [formL_len]; exact form_size) ?_ | refine wpList_store_row rfl 72 (.tmp 2) (.tmp 15) rfl w.heap.size (formL k).toArray rfl rfl 72 _ HK2.out (by rw [List.size_toArray, formL_len]; exact form_size) (by rw [List.size_toArray, List.size_toArray, formL_len, formL_len]) (formL_one k) ?_)
  refine bodyPost_ret (results_form rfl _ _ w.heap.size _ _ _ rfl HK2.out.setRow (by rw [List.size_toArray, formL_len])) rfl ?_
  exact ⟨rfl, bl_setRow HB2.out (Nat.le_refl _) _⟩
theorem of_none (k : Int) (h : k < 1 ∨ 15 < k) (w : World) : Calls Tryz.prog 38 #[.int .i64 k] w fun e w' => e = .returned (.tuple #[.agg (formL 0).toArray, .bool false]) ∧ Below w.heap.size w w' := by
  have h : k < 1 ∨ (¬ k < 1 ∧ 16 ≤ k) := by omega
  rcases h with h | ⟨h0, h⟩
  all_goals
    go_enter Tryz.func38, Tryz.ntmps38
    go_wp2_with fail
    refine (forms_any _).mono ?_
    rintro e w1 ⟨rfl, hb⟩
    have HB1 := Lib.hid (below_call (below_new (Below.refl w.heap.size w) (.cells (formL 0).toArray 72)) hb)
    have HK1 := Lib.hid (blk_new w w1 72 (formL 0).toArray hb)
    clear hb
    have hrow := Blk.new w1 81 Tryz.zeroCells81
    have HB2 := Lib.hid (bl_setRow (below_new HB1.out (.cells Tryz.zeroCells81 81)) (show w.heap.size ≤ w1.heap.size from HB1.out.size) formsL.toArray)
    have hK2 : Blk ((w1.alloc (.cells Tryz.zeroCells81 81)).setRow w1.heap.size formsL.toArray) w.heap.size 72 (formL 0).toArray := (setRow_other _ _ _ _ (Nat.ne_of_lt HK1.out.lt)).trans (HK1.out.alloc _)
    have HK2 := Lib.hid hK2
    clear hK2
    go_wp2_with (first | refine wpList_store_row rfl 81 (.tmp 4) (.tmp 5) rfl w1.heap.size formsL.toArray rfl rfl 81 _ hrow (by kernel_rfl) (by kernel_rfl) (by kernel_rfl) ?_ | refine wpList_store_row rfl 72 (.tmp 2) (.tmp 12) rfl w.heap.size (formL 0).toArray rfl rfl 72 _ HK2.out (by rw [List.size_toArray, formL_len]; exact form_size) (by rw [List.size_toArray]) (formL_one 0) ?_)
    refine bodyPost_ret (results_form rfl _ _ w.heap.size _ _ _ rfl HK2.out.setRow (by rw [List.size_toArray, formL_len])) rfl ?_
    exact ⟨rfl, bl_setRow HB2.out (Nat.le_refl _) _⟩
end Go.Proofs.YtphpgbbjbncfoaaGreatDoor

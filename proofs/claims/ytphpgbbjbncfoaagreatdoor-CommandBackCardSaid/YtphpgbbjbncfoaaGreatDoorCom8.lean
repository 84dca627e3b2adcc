/-
  LAYER 42: how the kinds of commands are written: the small functions.
-/
import Derived.Test.YtphpgbbjbncfoaaGreatDoorComP
import Derived.Test.YtphpgbbjbncfoaaGreatDoorCom5
import Derived.Test.YtphpgbbjbncfoaaGreatDoorCom7
import Derived.Test.YtphpgbbjbncfoaaGreatDoorCNum4
import Derived.Laws.ResultCell
import Derived.Laws.Rows
namespace Go.Proofs.YtphpgbbjbncfoaaGreatDoor
open Go.ChangeShapes Go.WideShapes Go.ChangeAt Go.RowKit

def cV (c : Cmd.C) : Value := .agg #[.int .i64 c.kind, .int .i64 c.a, .string ⟨c.name.toArray⟩, .string ⟨c.val.toArray⟩]

theorem cmd_size : (Tryz.prog.info? 24).map (·.size) = some 4 := by kernel_rfl
/-- A command that is handed back out of its own block. -/
theorem results_cmd {fn : Func} {p u : Tmp} (h : fn.results = #[.cell p 24, .tmp u]) (tmps : Array Value) (w : World) (g : Nat) (cs : Array Value) (fr : Nat × Nat)
    (hp : tmps.getD p undef = .pointer (some ⟨g, 0, none⟩)) (hg : w.heap[g]? = some (.cells cs 24 fr)) (hs : cs.size = 4) :
    (results fn tmps).run Tryz.prog w = .ok (.tuple #[.agg cs, tmps.getD u undef]) w := by
  rw [results_cell_tmp h, hp]
  have hl := run_loadVar_row (P := Tryz.prog) w g 24 24 cs fr _ hg Tryz.underlying24 rfl (by rw [cmd_size, hs])
  simp [asAddr, Result.andThen, hl]
theorem bare_any (c : Cmd.C) (w : World) : Calls Tryz.prog 77 #[cV c] w fun e w' => e = .returned (.bool (c.name.isEmpty && c.val.isEmpty)) ∧ Below w.heap.size w w' := by
  obtain ⟨k, a, n, v⟩ := c
  unfold cV
  simp only
  cases hn : n.isEmpty with
  | true =>
    cases hv : v.isEmpty with
    | true =>
      go_enter Tryz.func77, Tryz.ntmps77
      go_wp2_with fail
      go_ret
      exact ⟨rfl, below_new (Below.refl _ _) _⟩
    | false =>
      go_enter Tryz.func77, Tryz.ntmps77
      go_wp2_with fail
      go_ret
      exact ⟨rfl, below_new (Below.refl _ _) _⟩
  | false =>
    go_enter Tryz.func77, Tryz.ntmps77
    go_wp2_with fail
    go_ret
    exact ⟨rfl, below_new (Below.refl _ _) _⟩
theorem nothing_any (c : Cmd.C) (w : World) : Calls Tryz.prog 101 #[cV c] w fun e w' => e = .returned (.string ⟨#[]⟩) ∧ Below w.heap.size w w' := by
  go_enter Tryz.func101, Tryz.ntmps101
  go_wp2_with fail
  go_ret
  exact ⟨rfl, below_new (Below.refl _ _) _⟩
theorem noRest_any (s : List UInt8) (w : World) : Calls Tryz.prog 102 #[.string ⟨s.toArray⟩] w fun e w' => e = .returned (.tuple #[cV Cmd.zero, .bool s.isEmpty]) ∧ Below w.heap.size w w' := by
  go_enter Tryz.func102, Tryz.ntmps102
  go_wp2_with fail
  refine bodyPost_ret (results_cmd rfl _ _ w.heap.size _ _ rfl (heap_alloc_new w _) rfl) rfl ?_
  exact ⟨rfl, below_new (Below.refl _ _) _⟩
theorem digits_cmd (n : Int) (h0 : 0 ≤ n) (h1 : n ≤ 9223372036854775807) (w : World) (hG : Good w) : Calls Tryz.prog 103 #[.int .i64 n] w fun e w' => e = .returned (.string ⟨(Lib.itoa n).toArray⟩) ∧ Below w.heap.size w w' := by
  have hp := hG.pow
  clear hG
  go_enter Tryz.func103, Tryz.ntmps103
  go_wp2_with fail
  refine (Tryz.strconv_Itoa n (by omega) h1 _ hp).mono ?_
  rintro e w2 ⟨rfl, k, os, rfl⟩
  go_wp2_with fail
  go_ret
  exact ⟨rfl, below_grow k os⟩
theorem withVal_any (c : Cmd.C) (h : c.val.length ≤ 1000000) (w : World) : Calls Tryz.prog 68 #[cV c] w fun e w' => e = .returned (.string ⟨(Cmd.text 1 c).toArray⟩) ∧ Below w.heap.size w w' := by
  obtain ⟨k, a, n, v⟩ := c
  unfold cV Cmd.text
  simp only at h ⊢
  go_enter Tryz.func68, Tryz.ntmps68
  go_wp2_with fail
  go_ret
  exact ⟨ret_str (by rw [show (⟨#[32]⟩ : ByteArray) = ⟨[32].toArray⟩ from rfl, ByteArray.mk_append_mk]; rfl), below_new (Below.refl _ _) _⟩
theorem withText_any (c : Cmd.C) (h : c.val.length ≤ 1000000) (w : World) : Calls Tryz.prog 71 #[cV c] w fun e w' => e = .returned (.string ⟨(Cmd.text 2 c).toArray⟩) ∧ Below w.heap.size w w' := by
  obtain ⟨k, a, n, v⟩ := c
  unfold cV Cmd.text
  simp only at h ⊢
  obtain ⟨Q, hQ⟩ : ∃ Q, Cmd.quote v = Q := ⟨_, rfl⟩
  have hq := (Cmd.quote_len v).2
  rw [hQ] at hq ⊢
  have HQ := Lib.hid hQ
  clear hQ
  go_enter Tryz.func71, Tryz.ntmps71
  go_wp2_with fail
  refine (quote_any v h _).mono ?_
  rintro e w2 ⟨rfl, hb⟩
  rw [HQ.out]
  have HB := Lib.hid (below_call (below_new (Below.refl w.heap.size w) _) hb)
  clear hb
  go_wp2_with fail
  go_ret
  exact ⟨ret_str (by rw [show (⟨#[32]⟩ : ByteArray) = ⟨[32].toArray⟩ from rfl, ByteArray.mk_append_mk]; rfl), HB.out⟩
theorem withA_any (c : Cmd.C) (h0 : 0 ≤ c.a) (h1 : c.a ≤ 9223372036854775807) (w : World) (hG : Good w) : Calls Tryz.prog 78 #[cV c] w fun e w' => e = .returned (.string ⟨(Cmd.text 4 c).toArray⟩) ∧ Below w.heap.size w w' := by
  obtain ⟨k, a, n, v⟩ := c
  unfold cV Cmd.text
  simp only at h0 h1 ⊢
  have hlen : (Lib.itoa a).length ≤ 20 := by
    rw [Dec.itoa_nn h0]
    exact Dec.dec_length_le (by omega)
  obtain ⟨Q, hQ⟩ : ∃ Q, Lib.itoa a = Q := ⟨_, rfl⟩
  rw [hQ] at hlen ⊢
  have HQ := Lib.hid hQ
  have HG := Lib.hid hG
  clear hQ hG
  go_enter Tryz.func78, Tryz.ntmps78
  go_wp2_with fail
  refine (digits_cmd a h0 h1 _ (HG.out.alloc _)).mono ?_
  rintro e w2 ⟨rfl, hb⟩
  rw [HQ.out]
  have HB := Lib.hid (below_call (below_new (Below.refl w.heap.size w) _) hb)
  clear hb
  go_wp2_with fail
  go_ret
  exact ⟨ret_str (by rw [show (⟨#[32]⟩ : ByteArray) = ⟨[32].toArray⟩ from rfl, ByteArray.mk_append_mk]; rfl), HB.out⟩
theorem texts_any (c : Cmd.C) (w : World) : Calls Tryz.prog 70 #[cV c] w fun e w' => e = .returned (.bool (Cmd.valid 2 c)) ∧ Below w.heap.size w w' := by
  obtain ⟨k, a, n, v⟩ := c
  unfold cV Cmd.valid
  simp only
  cases hn : n.isEmpty with
  | true =>
    by_cases hv : v.length ≤ 20000
    · have hv' : (v.length : Int) ≤ 20000 := by omega
      rw [decide_eq_true hv]
      go_enter Tryz.func70, Tryz.ntmps70
      go_wp2_with fail
      go_ret
      exact ⟨rfl, below_new (Below.refl _ _) _⟩
    · have hv' : ¬ (v.length : Int) ≤ 20000 := by omega
      rw [decide_eq_false hv]
      go_enter Tryz.func70, Tryz.ntmps70
      go_wp2_with fail
      go_ret
      exact ⟨rfl, below_new (Below.refl _ _) _⟩
  | false =>
    go_enter Tryz.func70, Tryz.ntmps70
    go_wp2_with fail
    go_ret
    exact ⟨rfl, below_new (Below.refl _ _) _⟩
theorem named_any (c : Cmd.C) (h : c.name.length ≤ 1000000) (w : World) (hG : Good w) : Calls Tryz.prog 74 #[cV c] w fun e w' => e = .returned (.bool (Cmd.valid 3 c)) ∧ Below w.heap.size w w' := by
  obtain ⟨k, a, n, v⟩ := c
  unfold cV Cmd.valid
  simp only at h ⊢
  have HG := Lib.hid (hG.alloc (.cells #[.int .i64 k, .int .i64 a, .string ⟨n.toArray⟩, .string ⟨v.toArray⟩] 24))
  clear hG
  obtain ⟨D, hD⟩ : ∃ D, Cmd.nameB n = D := ⟨_, rfl⟩
  rw [hD]
  have HD := Lib.hid hD
  clear hD
  go_enter Tryz.func74, Tryz.ntmps74
  go_wp2_with fail
  refine (name_any n h _ HG.out).mono ?_
  rintro e w2 ⟨rfl, hb⟩
  rw [HD.out]
  have c3 := boxed hb 3 _ rfl
  have HB := Lib.hid (below_call (below_new (Below.refl w.heap.size w) _) hb)
  clear hb
  cases D with
  | true =>
    cases hv : v.isEmpty with
    | true =>
      go_wp2_with fail
      go_ret
      exact ⟨by rw [hv]; rfl, HB.out⟩
    | false =>
      go_wp2_with fail
      go_ret
      exact ⟨by rw [hv]; rfl, HB.out⟩
  | false =>
    go_wp2_with fail
    go_ret
    exact ⟨rfl, HB.out⟩
theorem count_any (s : List UInt8) (h : s.length ≤ 1000000) (w : World) (hG : Good w) : Calls Tryz.prog 105 #[.string ⟨s.toArray⟩] w fun e w' => e = .returned (.tuple #[.int .i64 (Num.numP s), .bool (decide (errP s = 0))]) ∧ Below w.heap.size w w' := by
  have HG := Lib.hid hG
  clear hG
  obtain ⟨N, hN⟩ : ∃ N, Num.numP s = N := ⟨_, rfl⟩
  obtain ⟨E, hE⟩ : ∃ E, errP s = E := ⟨_, rfl⟩
  rw [hN, hE]
  have HN := Lib.hid hN
  have HE := Lib.hid hE
  clear hN hE
  go_enter Tryz.func105, Tryz.ntmps105
  go_wp2_with fail
  refine (nparse_any s h _ HG.out).mono ?_
  rintro e w2 ⟨rfl, hb⟩
  rw [HN.out, HE.out]
  have HB := Lib.hid hb
  clear hb
  go_wp2_with fail
  go_ret2
  refine ⟨?_, HB.out⟩
  rw [show decide (E = 0) = (E == 0) from rfl]
  rfl
theorem lists_any (c : Cmd.C) (h : c.val.length ≤ 100000) (w : World) (hG : Good w) : Calls Tryz.prog 67 #[cV c] w fun e w' => e = .returned (.bool (Cmd.valid 1 c)) ∧ Below w.heap.size w w' := by
  obtain ⟨k, a, n, v⟩ := c
  unfold cV Cmd.valid
  simp only at h ⊢
  have HG := Lib.hid (hG.alloc (.cells #[.int .i64 k, .int .i64 a, .string ⟨n.toArray⟩, .string ⟨v.toArray⟩] 24))
  clear hG
  cases hL : Num.list v with
  | none =>
    obtain ⟨q1, q2⟩ := numsL_none hL
    have HQ : Hid (Cmd.listB v = false) := Lib.hid (by unfold Cmd.listB; rw [hL])
    rw [HQ.out]
    have Hq2 := Lib.hid q2
    clear hL q1 q2
    go_enter Tryz.func67, Tryz.ntmps67
    go_wp2_with fail
    refine (nlist_any v h _ HG.out).mono ?_
    rintro e w2 ⟨val, rfl, hown, hb⟩
    rw [Hq2.out]
    have HB := Lib.hid (below_call (below_new (Below.refl w.heap.size w) _) hb)
    clear hb hown
    go_wp2_with fail
    go_ret
    exact ⟨rfl, HB.out⟩
  | some ns =>
    obtain ⟨q1, q2⟩ := numsL_some hL
    have HQ : Hid (Cmd.listB v = decide (ns.length ≤ 200)) := Lib.hid (by unfold Cmd.listB; rw [hL])
    rw [HQ.out]
    have Hq1 := Lib.hid q1
    have Hq2 := Lib.hid q2
    clear hL q1 q2
    go_enter Tryz.func67, Tryz.ntmps67
    go_wp2_with fail
    refine (nlist_any v h _ HG.out).mono ?_
    rintro e w2 ⟨val, rfl, hown, hb⟩
    rw [Hq2.out]
    have c2 := boxed hb 2 _ rfl
    obtain ⟨A, cap, rfl, _⟩ := own_slice hown
    rw [Hq1.out]
    have HB := Lib.hid (below_call (below_new (Below.refl w.heap.size w) _) hb)
    clear hb hown
    by_cases h2 : ns.length ≤ 200
    · have h2' : (ns.length : Int) ≤ 200 := by omega
      cases hn : n.isEmpty with
      | true =>
        go_wp2_with fail
        go_ret
        exact ⟨by first | rfl | (rw [hn]; rfl) | (rw [hn, decide_eq_true h2]; rfl), HB.out⟩
      | false =>
        go_wp2_with fail
        go_ret
        exact ⟨by first | rfl | (rw [hn]; rfl) | (rw [hn, decide_eq_true h2]; rfl), HB.out⟩
    · have h2' : ¬ (ns.length : Int) ≤ 200 := by omega
      go_wp2_with fail
      go_ret
      exact ⟨by first | rfl | (rw [decide_eq_false h2]; rfl), HB.out⟩
/-- What stands behind a space, and whether there is one. -/
def behindSp (s : List UInt8) : List UInt8 := Lib.trimPrefix s [32]
def isSp (s : List UInt8) : Bool := Lib.hasPrefix s [32]
theorem cutSp_any (s : List UInt8) (w : World) : Calls Tryz.prog 100 #[.string ⟨s.toArray⟩, .string ⟨#[32]⟩] w fun e w' => e = .returned (.tuple #[.string ⟨(behindSp s).toArray⟩, .bool (isSp s)]) ∧ w = w' :=
  (Tryz.strings_CutPrefix ⟨s.toArray⟩ ⟨#[32]⟩ w).mono fun _ _ ⟨h1, h2⟩ => ⟨h1, h2.symm⟩
theorem readVal_any (s : List UInt8) (w : World) : Calls Tryz.prog 69 #[.string ⟨s.toArray⟩] w fun e w' => e = .returned (.tuple #[cV ⟨0, 0, [], behindSp s⟩, .bool (isSp s)]) ∧ Below w.heap.size w w' := by
  obtain ⟨R, hR⟩ : ∃ R, behindSp s = R := ⟨_, rfl⟩
  obtain ⟨B, hB⟩ : ∃ B, isSp s = B := ⟨_, rfl⟩
  rw [hR, hB]
  have HR := Lib.hid hR
  have HB := Lib.hid hB
  clear hR hB
  go_enter Tryz.func69, Tryz.ntmps69
  go_wp2_with fail
  refine (cutSp_any s _).mono ?_
  rintro e w2 ⟨rfl, rfl⟩
  rw [HR.out, HB.out]
  go_wp2_with fail
  refine bodyPost_ret (results_cmd rfl _ _ w.heap.size _ _ rfl (heap_alloc_new w _) rfl) rfl ?_
  exact ⟨rfl, below_new (Below.refl _ _) _⟩
theorem blk_new (w w2 : World) (T : TypeId) (cs : Array Value) (hb : Below (w.alloc (.cells cs T)).heap.size (w.alloc (.cells cs T)) w2) : Blk w2 w.heap.size T cs := (Blk.new w T cs).call hb
theorem Blk.put4 {w : World} {g : Nat} {T : TypeId} {x y z u a b c d : Value} (h : Blk w g T #[x, y, z, u]) : Blk ((((w.setCell ⟨g, 0, none⟩ a).setCell ⟨g, 1, none⟩ b).setCell ⟨g, 2, none⟩ c).setCell ⟨g, 3, none⟩ d) g T #[a, b, c, d] := by
  have := (((h.set 0 a).set 1 b).set 2 c).set 3 d
  simpa using this
theorem below_put4 {w0 w : World} {n g : Nat} {a b c d : Value} (h : Below n w0 w) (hg : n ≤ g) : Below n w0 ((((w.setCell ⟨g, 0, none⟩ a).setCell ⟨g, 1, none⟩ b).setCell ⟨g, 2, none⟩ c).setCell ⟨g, 3, none⟩ d) :=
  (((h.setCell hg a).setCell hg b).setCell hg c).setCell hg d
theorem behindSp_len (s : List UInt8) : (behindSp s).length ≤ s.length := by
  unfold behindSp Lib.trimPrefix
  split
  · rw [List.length_drop]; omega
  · exact Nat.le_refl _
theorem readA_any (s : List UInt8) (h : s.length ≤ 1000000) (w : World) (hG : Good w) : Calls Tryz.prog 79 #[.string ⟨s.toArray⟩] w fun e w' => e = .returned (.tuple #[cV ⟨0, Num.numP (behindSp s), [], []⟩, .bool (isSp s && decide (errP (behindSp s) = 0))]) ∧ Below w.heap.size w w' := by
  have hl := behindSp_len s
  obtain ⟨R, hR⟩ : ∃ R, behindSp s = R := ⟨_, rfl⟩
  obtain ⟨B, hB⟩ : ∃ B, isSp s = B := ⟨_, rfl⟩
  rw [hR, hB]
  rw [hR] at hl
  obtain ⟨N, hN⟩ : ∃ N, Num.numP R = N := ⟨_, rfl⟩
  obtain ⟨D, hD⟩ : ∃ D, decide (errP R = 0) = D := ⟨_, rfl⟩
  rw [hN, hD]
  have HR := Lib.hid hR
  have HB := Lib.hid hB
  have HN := Lib.hid hN
  have HD := Lib.hid hD
  have HG := Lib.hid (hG.alloc (.cells #[.int .i64 0, .int .i64 0, .string ⟨#[]⟩, .string ⟨#[]⟩] 24))
  clear hR hB hN hD hG
  go_enter Tryz.func79, Tryz.ntmps79
  go_wp2_with fail
  refine (cutSp_any s _).mono ?_
  rintro e w2 ⟨rfl, rfl⟩
  rw [HR.out, HB.out]
  go_wp2_with fail
  refine (count_any R (by omega) _ HG.out).mono ?_
  rintro e w2 ⟨rfl, hb⟩
  rw [HN.out, HD.out]
  have hblk := blk_new _ _ _ _ hb
  have c0 := hblk.cell 0
  have c1 := hblk.cell 1
  have c2 := hblk.cell 2
  have c3 := hblk.cell 3
  have f0 := hblk.frozen 0
  have f1 := hblk.frozen 1
  have f2 := hblk.frozen 2
  have f3 := hblk.frozen 3
  have HB2 := Lib.hid (below_call (below_new (Below.refl w.heap.size w) _) hb)
  have HK := Lib.hid hblk
  clear hb hblk
  cases B with
  | true =>
    go_wp2_with fail
    refine bodyPost_ret (results_cmd rfl _ _ w.heap.size _ _ rfl HK.out.put4 rfl) rfl ?_
    exact ⟨rfl, below_put4 HB2.out (Nat.le_refl _)⟩
  | false =>
    go_wp2_with fail
    refine bodyPost_ret (results_cmd rfl _ _ w.heap.size _ _ rfl HK.out.put4 rfl) rfl ?_
    exact ⟨rfl, below_put4 HB2.out (Nat.le_refl _)⟩
theorem readText_any (s : List UInt8) (h : s.length ≤ 1000000) (w : World) (hG : Good w) : Calls Tryz.prog 72 #[.string ⟨s.toArray⟩] w fun e w' => e = .returned (.tuple #[cV ⟨0, 0, [], unqS (behindSp s)⟩, .bool (isSp s && decide (unqE (behindSp s) = 0))]) ∧ Below w.heap.size w w' := by
  have hl := behindSp_len s
  obtain ⟨R, hR⟩ : ∃ R, behindSp s = R := ⟨_, rfl⟩
  obtain ⟨B, hB⟩ : ∃ B, isSp s = B := ⟨_, rfl⟩
  rw [hR, hB]
  rw [hR] at hl
  obtain ⟨N, hN⟩ : ∃ N, unqS R = N := ⟨_, rfl⟩
  obtain ⟨D, hD⟩ : ∃ D, unqE R = D := ⟨_, rfl⟩
  rw [hN, hD, show decide (D = 0) = (D == 0) from rfl]
  have HR := Lib.hid hR
  have HB := Lib.hid hB
  have HN := Lib.hid hN
  have HD := Lib.hid hD
  have HG := Lib.hid (hG.alloc (.cells #[.int .i64 0, .int .i64 0, .string ⟨#[]⟩, .string ⟨#[]⟩] 24))
  clear hR hB hN hD hG
  go_enter Tryz.func72, Tryz.ntmps72
  go_wp2_with fail
  refine (cutSp_any s _).mono ?_
  rintro e w2 ⟨rfl, rfl⟩
  rw [HR.out, HB.out]
  go_wp2_with fail
  refine (unquote_any R (by omega) _ HG.out).mono ?_
  rintro e w2 ⟨rfl, hb⟩
  rw [HN.out, HD.out]
  have hblk := blk_new _ _ _ _ hb
  have c0 := hblk.cell 0
  have c1 := hblk.cell 1
  have c2 := hblk.cell 2
  have c3 := hblk.cell 3
  have f0 := hblk.frozen 0
  have f1 := hblk.frozen 1
  have f2 := hblk.frozen 2
  have f3 := hblk.frozen 3
  have HB2 := Lib.hid (below_call (below_new (Below.refl w.heap.size w) _) hb)
  have HK := Lib.hid hblk
  clear hb hblk
  cases B with
  | true =>
    cases hD0 : (D == 0) with
    | true =>
      go_wp2_with fail
      refine bodyPost_ret (results_cmd rfl _ _ w.heap.size _ _ rfl HK.out.put4 rfl) rfl ?_
      exact ⟨by first | rfl | (rw [hD0]; rfl), below_put4 HB2.out (Nat.le_refl _)⟩
    | false =>
      go_wp2_with fail
      refine bodyPost_ret (results_cmd rfl _ _ w.heap.size _ _ rfl HK.out.put4 rfl) rfl ?_
      exact ⟨by first | rfl | (rw [hD0]; rfl), below_put4 HB2.out (Nat.le_refl _)⟩
  | false =>
    go_wp2_with fail
    refine bodyPost_ret (results_cmd rfl _ _ w.heap.size _ _ rfl HK.out.put4 rfl) rfl ?_
    exact ⟨rfl, below_put4 HB2.out (Nat.le_refl _)⟩
def cutR (s : List UInt8) : List UInt8 × List UInt8 × Bool := Lib.cut s [32]
theorem cutR_any (s : List UInt8) (h : s.length ≤ 1000000) (w : World) (hG : Good w) : Calls Tryz.prog 104 #[.string ⟨s.toArray⟩, .string ⟨#[32]⟩] w fun e w' => e = .returned (.tuple #[.string ⟨(cutR s).1.toArray⟩, .string ⟨(cutR s).2.1.toArray⟩, .bool (cutR s).2.2]) ∧ Below w.heap.size w w' := by
  obtain ⟨m, hm⟩ := hG.ml
  refine (Tryz.strings_Cut ⟨s.toArray⟩ ⟨#[32]⟩ m w (by rw [mk_size]; omega) hm).mono ?_
  rintro e w2 ⟨rfl, n, rfl⟩
  exact ⟨rfl, rfl, rfl, rfl, Nat.le_refl _, fun _ _ => rfl⟩
theorem cutR_len (s : List UInt8) : (cutR s).2.1.length ≤ s.length := by
  unfold cutR Lib.cut
  split
  · simp only [List.length_drop]; omega
  · simp
set_option maxHeartbeats 1000000 in
theorem readBreak_any (s : List UInt8) (h : s.length ≤ 1000000) (w : World) (hG : Good w) : Calls Tryz.prog 76 #[.string ⟨s.toArray⟩] w fun e w' => e = .returned (.tuple #[cV ⟨0, Num.numP (cutR (behindSp s)).2.1, (cutR (behindSp s)).1, []⟩, .bool (isSp s && (cutR (behindSp s)).2.2 && decide (errP (cutR (behindSp s)).2.1 = 0))]) ∧ Below w.heap.size w w' := by
  have hl := behindSp_len s
  obtain ⟨R, hR⟩ : ∃ R, behindSp s = R := ⟨_, rfl⟩
  obtain ⟨B, hB⟩ : ∃ B, isSp s = B := ⟨_, rfl⟩
  rw [hR, hB]
  rw [hR] at hl
  have hl2 := cutR_len R
  obtain ⟨⟨X, Y, F⟩, hC⟩ : ∃ C, cutR R = C := ⟨_, rfl⟩
  rw [hC] at hl2 ⊢
  simp only at hl2 ⊢
  obtain ⟨N, hN⟩ : ∃ N, Num.numP Y = N := ⟨_, rfl⟩
  obtain ⟨D, hD⟩ : ∃ D, decide (errP Y = 0) = D := ⟨_, rfl⟩
  rw [hN, hD]
  have HR := Lib.hid hR
  have HB := Lib.hid hB
  have HN := Lib.hid hN
  have HD := Lib.hid hD
  have HC := Lib.hid hC
  have HG := Lib.hid (hG.alloc (.cells #[.int .i64 0, .int .i64 0, .string ⟨#[]⟩, .string ⟨#[]⟩] 24))
  clear hR hB hN hD hG hC
  go_enter Tryz.func76, Tryz.ntmps76
  go_wp2_with fail
  refine (cutSp_any s _).mono ?_
  rintro e w2 ⟨rfl, rfl⟩
  rw [HR.out, HB.out]
  go_wp2_with fail
  refine (cutR_any R (by omega) _ HG.out).mono ?_
  rintro e w2 ⟨rfl, hb⟩
  rw [HC.out]
  simp only
  have HG2 := Lib.hid (HG.out.call hb)
  have HK1 := Lib.hid (blk_new _ _ _ _ hb)
  have HB1 := Lib.hid (below_call (below_new (Below.refl w.heap.size w) _) hb)
  clear hb
  go_wp2_with fail
  refine (count_any Y (by omega) _ HG2.out).mono ?_
  rintro e w3 ⟨rfl, hb⟩
  rw [HN.out, HD.out]
  have hblk := HK1.out.call hb
  have c0 := hblk.cell 0
  have c1 := hblk.cell 1
  have c2 := hblk.cell 2
  have c3 := hblk.cell 3
  have f0 := hblk.frozen 0
  have f1 := hblk.frozen 1
  have f2 := hblk.frozen 2
  have f3 := hblk.frozen 3
  have HB2 := Lib.hid (below_call HB1.out hb)
  have HK := Lib.hid hblk
  clear hb hblk
  cases B with
  | true =>
    cases F with
    | true =>
      go_wp2_with fail
      refine bodyPost_ret (results_cmd rfl _ _ w.heap.size _ _ rfl HK.out.put4 rfl) rfl ?_
      exact ⟨rfl, below_put4 HB2.out (Nat.le_refl _)⟩
    | false =>
      go_wp2_with fail
      refine bodyPost_ret (results_cmd rfl _ _ w.heap.size _ _ rfl HK.out.put4 rfl) rfl ?_
      exact ⟨rfl, below_put4 HB2.out (Nat.le_refl _)⟩
  | false =>
    go_wp2_with fail
    refine bodyPost_ret (results_cmd rfl _ _ w.heap.size _ _ rfl HK.out.put4 rfl) rfl ?_
    exact ⟨rfl, below_put4 HB2.out (Nat.le_refl _)⟩
end Go.Proofs.YtphpgbbjbncfoaaGreatDoor

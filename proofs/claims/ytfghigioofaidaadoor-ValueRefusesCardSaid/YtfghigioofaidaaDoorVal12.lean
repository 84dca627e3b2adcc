/-
  LAYER 16: the law ValueRows.
-/
import Derived.Test.YtfghigioofaidaaDoorVal10
namespace Go.Proofs.YtfghigioofaidaaDoor
open Go.ChangeShapes Go.WideShapes Go.ChangeAt Go.RowKit

def Dr.Ok (v : Int × Int) : Prop := 0 ≤ v.1 ∧ v.1 ≤ 255 ∧ -9223372036854775808 ≤ v.2 ∧ v.2 ≤ 9223372036854775807
def cellsD (v : Int × Int) : List Value := [.int .u8 v.1, .int .i64 v.2]
theorem cellsD_len (v : Int × Int) : (cellsD v).length = 2 := rfl
/-- One row of drafts. -/
theorem draft_row {H : Type} {enc : TypeId × Value → H} {w : World} {sp : Nat → Bool} {held : Bool} (n : Nat) (cs : List Value) (x : DataW H × List MemPlace) (h : DataW.trod enc Tryd.prog w 0 sp held n 37 cs = some x) (hl : cs.length = 2) : ∃ y : Int × Int, cs = cellsD y ∧ Dr.Ok y := by
  obtain ⟨a, b, rfl⟩ : ∃ a b, cs = [a, b] := by
    match cs, hl with
    | [a, b], _ => exact ⟨a, b, rfl⟩
  obtain ⟨y0, y1, m, _, _, h0, h1⟩ := trod_struct2 Tryd.underlying37 h
  have k0 : Tryd.prog.cellsOf 5 = 1 := by kernel_rfl
  have k1 : Tryd.prog.cellsOf 2 = 1 := by kernel_rfl
  obtain ⟨i, ei, _, wi⟩ := DataW.trod_int Tryd.underlying5 (by simpa [k0] using h0)
  obtain ⟨j, ej, _, wj⟩ := DataW.trod_int Tryd.underlying2 (by simpa [k0, k1] using h1)
  have bi : 0 ≤ i ∧ i ≤ 255 := by simpa [Lit.wf, IntKind.min, IntKind.max, IntKind.signed, IntKind.bits] using wi
  have bj : -9223372036854775808 ≤ j ∧ j ≤ 9223372036854775807 := by simpa [Lit.wf, IntKind.min, IntKind.max, IntKind.signed, IntKind.bits] using wj
  refine ⟨(i, j), ?_, bi.1, bi.2, bj⟩
  have e0 : a = .int .u8 i := by simpa using ei
  have e1 : b = .int .i64 j := by simpa using ej
  rw [e0, e1]
  rfl
theorem valueRows_rows0 {H : Type} {enc : TypeId × Value → H} {w : World} {sp : Nat → Bool} {held : Bool} {b0 : Nat} {v : Value} {d : DataW H} {p : List MemPlace} (hv : Value.okWide Tryd.prog w .any b0 43 v) (h : DataW.Trod enc Tryd.prog w 0 sp held 43 v d p) :
    ∃ (A : Option Addr) (cap : Nat) (l : List (Int × Int)), v = .slice A l.length cap ∧ l.length ≤ cap ∧ cap ≤ maxLen ∧ (∀ x ∈ l, Dr.Ok x) ∧ (∀ x ∈ l, (cellsD x).length = 2) ∧ Rd w w.heap.size A (l.flatMap cellsD) :=
  open_rows cellsD Dr.Ok Tryd.underlying43 (by kernel_rfl) (by decide) draft_row hv h

/-- The values of drafts. -/
def vals (l : List (Int × Int)) : List (Int × Int) := l.map fun d => (drT d.1, drN d.1 d.2)
theorem vals_len (l : List (Int × Int)) : (vals l).length = l.length := List.length_map _
theorem vals_at {l : List (Int × Int)} {k : Nat} {d n : Int} (h : l[k]? = some (d, n)) : (vals l)[k]? = some (drT d, drN d n) := by
  unfold vals
  rw [List.getElem?_map, h]
  rfl
theorem vals_ok {l : List (Int × Int)} : ∀ v ∈ vals l, Val.chk v.1 v.2 = 0 := by
  intro v hv
  obtain ⟨d, _, rfl⟩ := List.mem_map.1 hv
  exact dr_ok _ _
theorem vals_in {l : List (Int × Int)} (h : ∀ v ∈ l, Dr.Ok v) : ∀ v ∈ vals l, -9223372036854775808 ≤ v.2 ∧ v.2 ≤ 9223372036854775807 := by
  intro v hv
  obtain ⟨d, hd, rfl⟩ := List.mem_map.1 hv
  exact ⟨dr_lo _ _ (h d hd).2.2.1, dr_hi _ _ (h d hd).2.2.2⟩
/-- A row of its own, as a slice that can be read. -/
theorem own_slice {w : World} {base size n : Nat} {e : TypeId} {v : Value} {cs : List Value} (h : w.ownsRow base e size v n cs) : ∃ A cap, v = .slice A n cap ∧ Rd w w.heap.size A cs := by
  rcases h.2 with ⟨rfl, rfl⟩ | ⟨g, cap, cur, rfl, _, hh, _, _, _, _⟩
  · refine ⟨none, 0, rfl, ?_⟩
    have : cs = [] := List.eq_nil_of_length_eq_zero (by simpa using h.1)
    subst this
    exact Rd.nil _ _ _
  · exact ⟨_, cap, rfl, Rd.of_own h⟩
theorem two_news (w : World) (T : TypeId) (u v : Value) : ∀ (j : Nat) (x : Value), [u, v][j]? = some x → (w.alloc (.cells #[u, v] T)).cell? ((⟨w.heap.size, 0, none⟩ : Addr).add j) = some x := by
  intro j x hj
  match j, hj with
  | 0, hj =>
    simp at hj
    subst hj
    simp [Addr.add, World.cell?_alloc_new]
  | 1, hj =>
    simp at hj
    subst hj
    simp [Addr.add, World.cell?_alloc_new]
theorem info_val : (Tryd.prog.info? 23).map (fun i => (i.zero, i.size, i.bytes)) = some (some (.agg #[.int .i64 0, .int .i64 0]), 2, 16) := by kernel_rfl

set_option maxHeartbeats 4000000 in
theorem valueRows_walk (A : Option Addr) (cap : Nat) (l : List (Int × Int)) (_ : l.length ≤ cap) (_ : cap ≤ maxLen) (hg : ∀ v ∈ l, Dr.Ok v) (w : World) (hrd : Rd w w.heap.size A (l.flatMap cellsD)) (hG : Good w) :
    Calls Tryd.prog 6 #[.slice A l.length cap] w fun e w' => e = .returned (.bool true) ∧ Below w.heap.size w w' := by
  have HG := Lib.hid hg
  have HR := Lib.hid hrd
  clear hrd
  by_cases h3 : 40 < l.length
  · have K0 := Lib.hid (Below.refl w.heap.size w)
    go_enter Tryd.func6, Tryd.ntmps6
    go_wp2_with fail
    refine (works_any _ hG).mono ?_
    rintro e w1 ⟨rfl, b1⟩
    have K1 := Lib.hid (below_call K0.out b1)
    clear b1
    go_wp2_with fail
    go_ret
    exact ⟨rfl, K1.out⟩
  obtain ⟨i0, hi, hz0, hz1, hz2⟩ := info_parts info_val
  have hl : l.length ≤ 40 := by omega
  have HI := Lib.hid (vals_in hg)
  clear hg
  go_enter Tryd.func6, Tryd.ntmps6
  go_wp2_with fail
  go_loopw [3, 4, 5] (fun s v i wr => ∃ k : Nat, k ≤ l.length ∧ i = .int .i64 k ∧ s = .string ⟨(J (vals l) k).toArray⟩ ∧ wr.ownsRow w.heap.size 23 2 v k (((vals l).take k).flatMap cellsV) ∧ Below w.heap.size w wr) (fun _ _ i _ => l.length - (intOf i).toNat)
  case atStart => exact ⟨0, Nat.zero_le _, rfl, rfl, by simpa using World.ownsRow_nil _ _ _ _, Below.refl _ _⟩
  case round =>
    obtain ⟨k, hk, rfl, rfl, hown, hnx⟩ := hrel
    have hGr := hG.below hnx (Nat.le_refl _)
    have HB := Lib.hid hnx
    have HO := Lib.hid hown
    clear hnx hown
    by_cases hlt : k < l.length
    · obtain ⟨⟨d, n⟩, hv⟩ : ∃ v, l[k]? = some v := ⟨_, List.getElem?_eq_getElem hlt⟩
      obtain ⟨b, off, rfl, hbB, hc⟩ := (HR.out.below HB.out).row (fun _ _ => cellsD_len _) hv (by decide)
      have e1 : wr.cell? ⟨b, off + k * 2, none⟩ = some (.int .u8 d) := hc 0 _ rfl
      have e2 : wr.cell? ⟨b, off + k * 2 + 1, none⟩ = some (.int .i64 n) := hc 1 _ rfl
      have hb := HG.out (d, n) (List.mem_of_getElem? hv)
      have hx := HI.out (drT d, drN d n) (List.mem_of_getElem? (vals_at hv))
      have HC := Lib.hid (dr_ok d n)
      have HV := Lib.hid (vals_at hv)
      obtain ⟨T, eT⟩ : ∃ T, drT d = T := ⟨_, rfl⟩
      obtain ⟨N, eN⟩ : ∃ N, drN d n = N := ⟨_, rfl⟩
      rw [eT, eN] at HC HV hx
      have ET := Lib.hid eT
      have EN := Lib.hid eN
      simp only at hx
      clear hc hv eT eN
      by_cases hk0 : k = 0
      · subst hk0
        simp only [Nat.zero_mul, Nat.add_zero] at e1 e2
        have l1 : ¬ 9223372036854775807 < (J (vals l) 0).length + (Val.txt T N).length := by
          have a1 := J_short (vals l) 0 (Nat.zero_le _) HI.out
          have a2 := txt_short T N hx.1 hx.2
          omega
        go_wp2_with fail
        refine (made_any d hb.1 n _).mono ?_
        rintro e w2 ⟨rfl, b2⟩
        rw [ET.out, EN.out]
        have P := Lib.hid (Blk.new w2 23 #[.int .i64 T, .int .i64 N])
        have hG2 := (hGr.call b2).alloc (.cells #[.int .i64 T, .int .i64 N] 23)
        have K2 := Lib.hid (below_new (below_call HB.out b2) (.cells #[.int .i64 T, .int .i64 N] 23))
        have hown2 := (own_below HO.out b2).alloc (.cells #[.int .i64 T, .int .i64 N] 23)
        clear b2 hGr
        go_wp2_with fail
        refine (text_any T N hx.1 hx.2 _ hG2).mono ?_
        rintro e w3 ⟨rfl, b3⟩
        rw [HC.out]
        have P := Lib.hid (P.out.call b3)
        have p0 := P.out.cell 0
        have p1 := P.out.cell 1
        have K3 := Lib.hid (below_call K2.out b3)
        have hown3 := own_below hown2 b3
        clear b3 hG2 hown2
        go_wp2_with (at_builtin; refine wpList_append_own _ rfl _ _ 33 rfl w.heap.size 23 i0 (.agg #[.int .i64 0, .int .i64 0]) 2 16 Tryd.underlying33 hi hz0 hz1 hz2 rfl (by decide) _ _ _ rfl (hown3.alloc _) ⟨w3.heap.size, 0, none⟩ 1 1 [.int .i64 T, .int .i64 N] rfl rfl ?c1 ?c2 ?c3 ?c4 ?c5 ?_)
        case c1 => exact two_news _ _ _ _
        case c2 => intro u hu; simp at hu; rcases hu with rfl | rfl <;> rfl
        case c3 => unfold maxLen; omega
        case c4 => omega
        case c5 => have := K3.out.size; simp; omega
        intro v' w4 hown4 hg4 _
        have HO4 := Lib.hid hown4
        have K4 := Lib.hid ((below_new K3.out _).grown hg4 (by have := K3.out.size; simp; omega) (fun g hg => (hown3.lt g hg).1))
        clear hown3 hown4 hg4
        go_wp2_with fail
        go_roundw
        case rel =>
          refine ⟨1, by omega, by go_num, ?_, ?_, K4.out⟩
          · rw [ByteArray.mk_append_mk, J_nought, List.nil_append, J_one HV.out]
          · rw [show (1 : Nat) = 0 + 1 from rfl, take_snoc HV.out, List.flatMap_append]
            simpa [cellsV] using HO4.out
        case measure => simp [intOf]; omega
      · have l1 : ¬ 9223372036854775807 < (J (vals l) k).length + 1 := by
          have a1 := J_short (vals l) k (by rw [vals_len]; exact hk) HI.out
          omega
        have l2 : ¬ 9223372036854775807 < (J (vals l) k).length + 1 + (Val.txt T N).length := by
          have a1 := J_short (vals l) k (by rw [vals_len]; exact hk) HI.out
          have a2 := txt_short T N hx.1 hx.2
          omega
        have k0 : 0 < k := by omega
        go_wp2_with fail
        refine (made_any d hb.1 n _).mono ?_
        rintro e w2 ⟨rfl, b2⟩
        rw [ET.out, EN.out]
        have P := Lib.hid (Blk.new w2 23 #[.int .i64 T, .int .i64 N])
        have hG2 := (hGr.call b2).alloc (.cells #[.int .i64 T, .int .i64 N] 23)
        have K2 := Lib.hid (below_new (below_call HB.out b2) (.cells #[.int .i64 T, .int .i64 N] 23))
        have hown2 := (own_below HO.out b2).alloc (.cells #[.int .i64 T, .int .i64 N] 23)
        clear b2 hGr
        go_wp2_with fail
        refine (text_any T N hx.1 hx.2 _ hG2).mono ?_
        rintro e w3 ⟨rfl, b3⟩
        rw [HC.out]
        have P := Lib.hid (P.out.call b3)
        have p0 := P.out.cell 0
        have p1 := P.out.cell 1
        have K3 := Lib.hid (below_call K2.out b3)
        have hown3 := own_below hown2 b3
        clear b3 hG2 hown2
        go_wp2_with (at_builtin; refine wpList_append_own _ rfl _ _ 33 rfl w.heap.size 23 i0 (.agg #[.int .i64 0, .int .i64 0]) 2 16 Tryd.underlying33 hi hz0 hz1 hz2 rfl (by decide) _ _ _ rfl (hown3.alloc _) ⟨w3.heap.size, 0, none⟩ 1 1 [.int .i64 T, .int .i64 N] rfl rfl ?c1 ?c2 ?c3 ?c4 ?c5 ?_)
        case c1 => exact two_news _ _ _ _
        case c2 => intro u hu; simp at hu; rcases hu with rfl | rfl <;> rfl
        case c3 => unfold maxLen; omega
        case c4 => omega
        case c5 => have := K3.out.size; simp; omega
        intro v' w4 hown4 hg4 _
        have HO4 := Lib.hid hown4
        have K4 := Lib.hid ((below_new K3.out _).grown hg4 (by have := K3.out.size; simp; omega) (fun g hg => (hown3.lt g hg).1))
        clear hown3 hown4 hg4
        go_wp2_with fail
        go_roundw
        case rel =>
          refine ⟨k + 1, by omega, by go_num, ?_, ?_, K4.out⟩
          · rw [show (⟨#[32]⟩ : ByteArray) = ⟨[32].toArray⟩ from rfl, ByteArray.mk_append_mk, ByteArray.mk_append_mk, J_succ HV.out k0]
          · rw [take_snoc HV.out, List.flatMap_append]
            simpa [cellsV] using HO4.out
        case measure => simp [intOf]; omega
    · obtain rfl : k = l.length := by omega
      obtain ⟨A', cap', rfl, hrd'⟩ := own_slice HO.out
      rw [← vals_len, List.take_length] at hrd'
      have hL := list_any A' cap' (vals l) (by rw [vals_len]; omega) HI.out wr hGr hrd'
      obtain ⟨q1, q2⟩ := lst_ok (l := vals l) vals_ok
      have q3 : Lib.join ((vals l).map fun v => Val.txt v.1 v.2) [32] = J (vals l) l.length := by
        unfold J
        rw [← vals_len, List.take_length]
      rw [vals_len, q1, q2, q3] at hL
      have HL := Lib.hid hL
      clear hL q1 q2 q3 hrd'
      go_wp2_with fail
      refine HL.out.mono ?_
      rintro e w2 ⟨rfl, b2⟩
      have hG2 := hGr.call b2
      have K2 := Lib.hid (below_call HB.out b2)
      clear b2 hGr
      go_wp2_with fail
      refine (works_any _ hG2).mono ?_
      rintro e w3 ⟨rfl, b3⟩
      have K3 := Lib.hid (below_call K2.out b3)
      clear b3 hG2
      go_wp2_with fail
      go_ret
      exact ⟨rfl, K3.out⟩
end Go.Proofs.YtfghigioofaidaaDoor

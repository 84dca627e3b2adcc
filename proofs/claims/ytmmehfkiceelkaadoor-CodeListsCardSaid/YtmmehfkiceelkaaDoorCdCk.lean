/-
  LAYER 23: lists of instructions: the statement's walk.
-/
import Derived.Test.YtmmehfkiceelkaaDoorCdR3
import Derived.Laws.OwnMore
import Derived.OwnWalk
import Derived.Lib.SliceRun
import Derived.Lib.SmallJoins
namespace Go.Proofs.YtmmehfkiceelkaaDoor
open Go.ChangeShapes Go.WideShapes Go.ChangeAt Go.RowKit

def Ins.Ok (v : Int × Int) : Prop := -9223372036854775808 ≤ v.2 ∧ v.2 ≤ 9223372036854775807
section
variable {H : Type} {enc : TypeId × Value → H} {w : World} {sp : Nat → Bool} {held : Bool}
/-- One row of instructions. -/
theorem ins_row (n : Nat) (cs : List Value) (x : DataW H × List MemPlace) (h : DataW.trod enc Tryd.prog w 0 sp held n 23 cs = some x) (hl : cs.length = 2) : ∃ y : Int × Int, cs = iC y ∧ Ins.Ok y := by
  obtain ⟨a, b, rfl⟩ : ∃ a b, cs = [a, b] := by
    match cs, hl with
    | [a, b], _ => exact ⟨a, b, rfl⟩
  obtain ⟨y0, y1, m, _, _, h0, h1⟩ := trod_struct2 Tryd.underlying23 h
  have k0 : Tryd.prog.cellsOf 3 = 1 := by kernel_rfl
  have k1 : Tryd.prog.cellsOf 2 = 1 := by kernel_rfl
  obtain ⟨i, ei, _, _⟩ := DataW.trod_int Tryd.underlying3 (by simpa [k0] using h0)
  obtain ⟨j, ej, _, wj⟩ := DataW.trod_int Tryd.underlying2 (by simpa [k0, k1] using h1)
  have bj : -9223372036854775808 ≤ j ∧ j ≤ 9223372036854775807 := by simpa [Lit.wf, IntKind.min, IntKind.max, IntKind.signed, IntKind.bits] using wj
  refine ⟨(i, j), ?_, bj⟩
  have e0 : a = .int .i64 i := by simpa using ei
  have e1 : b = .int .i64 j := by simpa using ej
  rw [e0, e1]
  rfl
set_option maxRecDepth 100000 in
theorem codeChecks_rows0 {b0 : Nat} {v : Value} {d : DataW H} {p : List MemPlace} (hv : Value.okWide Tryd.prog w .any b0 45 v) (h : DataW.Trod enc Tryd.prog w 0 sp held 45 v d p) :
    ∃ (A : Option Addr) (cap : Nat) (l : List (Int × Int)), v = .slice A l.length cap ∧ l.length ≤ cap ∧ cap ≤ maxLen ∧ (∀ x ∈ l, Ins.Ok x) ∧ (∀ x ∈ l, (iC x).length = 2) ∧ Rd w w.heap.size A (l.flatMap iC) := by
  have hr := @ins_row H enc w sp held
  have h1 : Tryd.prog.cellsOf 23 = 2 := by kernel_rfl
  have h2 := Tryd.underlying45
  exact open_rows iC Ins.Ok h2 h1 (by decide) hr hv h
end
theorem info_ins : (Tryd.prog.info? 23).map (fun i => (i.zero, i.size, i.bytes)) = some (some (.agg #[.int .i64 0, .int .i64 0]), 2, 16) := by kernel_rfl
theorem info_rins : (Tryd.prog.info? 29).map (fun i => (i.zero, i.size, i.bytes)) = some (some (.agg #[.int .i64 0, .int .i64 0]), 2, 16) := by kernel_rfl
theorem iC_one' (l : List (Int × Int)) : ∀ u ∈ l.flatMap iC, u.oneCell' = true := by
  intro u hu
  obtain ⟨x, _, hx⟩ := List.mem_flatMap.1 hu
  unfold iC at hx
  simp at hx
  rcases hx with rfl | rfl <;> rfl
theorem iC_flat (l : List (Int × Int)) : (l.flatMap iC).length = l.length * 2 := flatMap_length iC 2 l fun _ _ => rfl

set_option maxHeartbeats 1000000 in
/-- slices.Clone at instructions. -/
theorem cloneI_any (l : List (Int × Int)) (A : Option Addr) (cap : Nat) (hl : l.length ≤ 1000) (w : World) (hR : Rd w w.heap.size A (l.flatMap iC)) :
    Calls Tryd.prog 24 #[.slice A l.length cap] w fun e w' => ∃ v, e = .returned v ∧ w'.ownsRow w.heap.size 23 2 v l.length (l.flatMap iC) ∧ Below w.heap.size w w' := by
  obtain ⟨i0, hi, hz0, hz1, hz2⟩ := info_parts info_ins
  have q22 : ∀ (w : World) (a : Option Addr) (n c n' c' : Nat), (binOp .eql 45 (.slice a n c) (.slice none n' c')).run Tryd.prog w = .ok (.bool a.isNone) w := fun w a n c n' c' => Lib.run_eql_slice_nil w _ _ a n c n' c' Tryd.underlying45
  rcases A with _ | p
  · have h0 : l = [] := by
      apply Classical.byContradiction
      intro hne
      obtain ⟨b, off, e, _⟩ := hR (by intro e; exact hne (List.eq_nil_of_length_eq_zero (by have := congrArg List.length e; rw [iC_flat] at this; simp only [List.length_nil] at this; omega)))
      cases e
    subst h0
    go_enter Tryd.func24, Tryd.ntmps24
    go_wp2_with fail
    go_ret
    exact ⟨_, rfl, World.ownsRow_nil _ _ _ _, Below.refl _ _⟩
  · have hcell : Hid (∀ j u, (l.flatMap iC)[j]? = some u → w.cell? (p.add j) = some u) := Lib.hid (fun j u hu => by
      obtain ⟨b, off, e, _, hc⟩ := hR (by intro e; rw [e] at hu; simp at hu)
      cases e
      rw [Addr.add_lit]
      exact hc j u hu)
    clear hR
    go_enter Tryd.func24, Tryd.ntmps24
    go_wp2_with (at_builtin; refine wpList_append_own _ rfl _ _ 45 rfl w.heap.size 23 i0 (.agg #[.int .i64 0, .int .i64 0]) 2 16 Tryd.underlying45 hi hz0 hz1 hz2 rfl (by decide) _ _ _ rfl (World.ownsRow_made w #[] 0 (Nat.le_refl _) (Nat.zero_le _) (by simp)) p l.length cap (l.flatMap iC) rfl ?qc1 ?qc2 ?qc3 ?qc4 ?qc5 ?qc6 ?_)
    case qc1 => exact iC_flat l
    case qc2 =>
      intro j u hj
      exact Lib.cell?_alloc_some _ (hcell.out j u hj)
    case qc3 => exact iC_one' l
    case qc4 => rw [Nat.zero_add]; unfold maxLen; omega
    case qc5 => rw [Nat.zero_add]; omega
    case qc6 => simp
    intro v' w1 hown hgrow hnil
    have hown' : w1.ownsRow w.heap.size 23 2 v' l.length (l.flatMap iC) := by simpa using hown
    have HO := Lib.hid hown'
    have HB := Lib.hid (((Below.refl _ w).alloc (Nat.le_refl _) _).grown hgrow (by simp) (by intro k hk; simp [Value.ownBlock] at hk; omega))
    clear hown hown' hgrow hnil
    go_wp2_with fail
    go_ret
    exact ⟨_, rfl, HO.out, HB.out⟩

set_option maxHeartbeats 2000000 in
set_option maxRecDepth 100000 in
/-- slices.Equal at instructions that are the same. -/
theorem eqI_any (l : List (Int × Int)) (A B : Option Addr) (cap cap2 : Nat) (hl : l.length ≤ 1000) (w : World) (h1 : Rd w w.heap.size A (l.flatMap iC)) (h2 : Rd w w.heap.size B (l.flatMap iC)) :
    Calls Tryd.prog 26 #[.slice A l.length cap, .slice B l.length cap2] w fun e w' => e = .returned (.bool true) ∧ Below w.heap.size w w' := by
  have H1 := Lib.hid h1
  have H2 := Lib.hid h2
  clear h1 h2
  go_enter Tryd.func26, Tryd.ntmps26
  go_wp2_with fail
  go_loopw [13] (fun i wr => ∃ k : Nat, k ≤ l.length ∧ i = .int .i64 k ∧ Hid (Below w.heap.size w wr)) (fun i _ => l.length - (intOf i).toNat)
  case atStart => exact ⟨0, Nat.zero_le _, rfl, Lib.hid (Below.refl _ _)⟩
  case round =>
    obtain ⟨k, hk, rfl, HB⟩ := hrel
    by_cases hlt : k < l.length
    · obtain ⟨⟨op, a⟩, hv⟩ : ∃ v, l[k]? = some v := ⟨_, List.getElem?_eq_getElem hlt⟩
      obtain ⟨b1, o1, rfl, _, hc1⟩ := (H1.out.below HB.out).row (fun _ _ => iC_len _) hv (by decide)
      obtain ⟨b2, o2, rfl, _, hc2⟩ := (H2.out.below HB.out).row (fun _ _ => iC_len _) hv (by decide)
      have x0 : wr.cell? ⟨b1, o1 + k * 2, none⟩ = some (.int .i64 op) := hc1 0 _ rfl
      have x1 : wr.cell? ⟨b1, o1 + k * 2 + 1, none⟩ = some (.int .i64 a) := hc1 1 _ rfl
      have y0 : wr.cell? ⟨b2, o2 + k * 2, none⟩ = some (.int .i64 op) := hc2 0 _ rfl
      have y1 : wr.cell? ⟨b2, o2 + k * 2 + 1, none⟩ = some (.int .i64 a) := hc2 1 _ rfl
      have k1 : (0 : Int) ≤ (k : Int) := by omega
      have k3 : (k : Int) < (l.length : Int) := by omega
      clear hc1 hc2 hv
      go_wp2_with fail
      go_region
      all_goals (
        go_wp2_with fail
        go_roundw
        case rel => exact ⟨k + 1, by omega, by go_num, Lib.hid HB.out.drew⟩
        case measure => simp [intOf]; omega)
    · obtain rfl : k = l.length := by omega
      go_wp2_with fail
      go_ret
      exact ⟨rfl, HB.out⟩

set_option maxHeartbeats 4000000 in
set_option maxRecDepth 20000 in
theorem codeChecks_walk (A : Option Addr) (cap : Nat) (l : List (Int × Int)) (_ : l.length ≤ cap) (_ : cap ≤ maxLen) (_ : ∀ v ∈ l, Ins.Ok v) (w : World) (hrd : Rd w w.heap.size A (l.flatMap iC))
    (s : Int) (_ : -9223372036854775808 ≤ s) (_ : s ≤ 9223372036854775807) (c : Int) (_ : -9223372036854775808 ≤ c) (_ : c ≤ 9223372036854775807) (hG : Good w) :
    Calls Tryd.prog 8 #[.slice A l.length cap, .int .i64 s, .int .i64 c] w fun e w' => e = .returned (.bool true) ∧ Below w.heap.size w w' := by
  obtain ⟨i0, hi, hz0, hz1, hz2⟩ := info_parts info_rins
  have HI : Hid (FInv w w) := Lib.hid ⟨hG, Below.refl _ _⟩
  have HR := Lib.hid hrd
  clear hG hrd
  by_cases hs : 300 < l.length
  · have k1 : (300 : Int) < (l.length : Int) := by omega
    go_enter Tryd.func8, Tryd.ntmps8
    go_wp2_with fail
    refine (works_any _ (FInv.good HI)).mono ?_
    rintro e w2 ⟨rfl, b⟩
    have HI := FInv.call HI b
    clear b
    go_wp2_with fail
    go_ret
    exact ⟨rfl, HI.out.2⟩
  have k1 : ¬ (300 : Int) < (l.length : Int) := by omega
  go_enter Tryd.func8, Tryd.ntmps8
  go_wp2_with fail
  refine (cloneI_any l A cap (by omega) _ HR.out).mono ?_
  rintro e w1 ⟨v, rfl, hown, b⟩
  replace HI := FInv.call HI b
  replace HR := Lib.hid (rd_call HR.out b)
  obtain ⟨A2, cap2, rfl, hr2⟩ := own_slice hown
  have HG := Lib.hid hr2
  clear b hown hr2
  go_wp2_with fail
  go_loopw [23, 8] (fun i v wr => ∃ k : Nat, k ≤ l.length ∧ i = .int .i64 k ∧ Hid (Below w1.heap.size w1 wr) ∧ Hid (wr.ownsRow w1.heap.size 29 2 v k ((l.take k).flatMap iC))) (fun i _ _ => l.length - (intOf i).toNat)
  case atStart => exact ⟨0, Nat.zero_le _, rfl, Lib.hid (Below.refl _ _), Lib.hid (World.ownsRow_nil _ _ _ _)⟩
  case round =>
    obtain ⟨k, hk, rfl, HB, HO⟩ := hrel
    by_cases hlt : k < l.length
    · obtain ⟨⟨op, a⟩, hv⟩ : ∃ v, l[k]? = some v := ⟨_, List.getElem?_eq_getElem hlt⟩
      obtain ⟨b1, o1, rfl, _, hc1⟩ := (HR.out.below HB.out).row (fun _ _ => iC_len _) hv (by decide)
      have x0 : wr.cell? ⟨b1, o1 + k * 2, none⟩ = some (.int .i64 op) := hc1 0 _ rfl
      have x1 : wr.cell? ⟨b1, o1 + k * 2 + 1, none⟩ = some (.int .i64 a) := hc1 1 _ rfl
      have j1 : (0 : Int) ≤ (k : Int) := by omega
      have j3 : (k : Int) < (l.length : Int) := by omega
      have hflat : ((l.take (k + 1)).flatMap iC) = (l.take k).flatMap iC ++ [.int .i64 op, .int .i64 a] := by
        rw [take_snoc hv, List.flatMap_append]
        rfl
      have HFl := Lib.hid hflat
      have hown3 := HO.out.alloc (.cells #[.int .i64 op, .int .i64 a] 23)
      obtain ⟨A5, cap5, hA5, _⟩ := own_slice HO.out
      subst hA5
      clear hc1 hv hflat
      go_wp2_with (at_builtin; refine wpList_append_own _ rfl _ _ 57 rfl w1.heap.size 29 i0 (.agg #[.int .i64 0, .int .i64 0]) 2 16 Tryd.underlying57 hi hz0 hz1 hz2 rfl (by decide) _ _ _ rfl (hown3.alloc _) ⟨wr.heap.size + 1, 0, none⟩ 1 1 [.int .i64 op, .int .i64 a] rfl rfl ?c1 ?c2 ?c3 ?c4 ?c5 ?_)
      case c1 =>
        have := news_all (wr.alloc (.cells #[.int .i64 op, .int .i64 a] 23)) 29 [.int .i64 op, .int .i64 a]
        rwa [World.size_alloc] at this
      case c2 => intro u hu; simp at hu; rcases hu with rfl | rfl <;> rfl
      case c3 => unfold maxLen; omega
      case c4 => omega
      case c5 => have := HB.out.size; simp; omega
      intro v' w4 hown4 hg4 _
      have HO4 : Hid (w4.ownsRow w1.heap.size 29 2 v' (k + 1) ((l.take (k + 1)).flatMap iC)) := Lib.hid (by rw [HFl.out]; exact hown4)
      have HB4 := Lib.hid ((below_new (below_new HB.out _) _).grown hg4 (by have := HB.out.size; simp at this ⊢; omega) (fun g hg => by have := (hown3.lt g hg).1; omega))
      clear hown3 hown4 hg4
      go_wp2_with fail
      go_roundw
      case rel => exact ⟨k + 1, by omega, by go_num, HB4, HO4⟩
      case measure => simp [intOf]; omega
    · obtain rfl : k = l.length := by omega
      obtain ⟨A3, cap3, rfl, hr3⟩ := own_slice HO.out
      rw [List.take_length] at hr3
      have HR3 := Lib.hid hr3
      replace HI := FInv.call HI HB.out
      replace HR := Lib.hid (rd_call HR.out HB.out)
      replace HG := Lib.hid (rd_call HG.out HB.out)
      have HC := Lib.hid fun A cap W hR => check_any l A cap s c (by omega) W hR
      have HCr := Lib.hid fun A cap W hR => rcheck_any l A cap s c (by omega) W hR
      obtain ⟨CI, hCI⟩ : ∃ x, chI l s c = x := ⟨_, rfl⟩
      obtain ⟨CE, hCE⟩ : ∃ x, chE l s c = x := ⟨_, rfl⟩
      rw [hCI, hCE] at HC HCr
      clear hr3 HO HB hCI hCE
      go_wp2_with fail
      refine (HC.out _ _ _ HG.out).mono ?_
      rintro e w5 ⟨rfl, b⟩
      replace HI := FInv.call HI b
      replace HR := Lib.hid (rd_call HR.out b)
      replace HG := Lib.hid (rd_call HG.out b)
      replace HR3 := Lib.hid (rd_call HR3.out b)
      clear b
      go_wp2_with fail
      refine (HCr.out _ _ _ HR3.out).mono ?_
      rintro e w6 ⟨rfl, b⟩
      replace HI := FInv.call HI b
      replace HR := Lib.hid (rd_call HR.out b)
      replace HG := Lib.hid (rd_call HG.out b)
      clear b HR3
      go_wp2_with fail
      refine (eqI_any l A2 A cap2 cap (by omega) _ HG.out HR.out).mono ?_
      rintro e w7 ⟨rfl, b⟩
      replace HI := FInv.call HI b
      clear b
      go_wp2_with fail
      refine (works_any _ (FInv.good HI)).mono ?_
      rintro e w8 ⟨rfl, b⟩
      have HI := FInv.call HI b
      clear b
      go_wp2_with fail
      go_ret
      exact ⟨rfl, HI.out.2⟩
end Go.Proofs.YtmmehfkiceelkaaDoor

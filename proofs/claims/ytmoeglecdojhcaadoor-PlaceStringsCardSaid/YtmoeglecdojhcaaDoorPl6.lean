/-
  LAYER 1: the iterator of strings.SplitSeq at a line feed: the lines of a text, one behind the other.
-/
import Derived.Test.YtmoeglecdojhcaaDoorPl4
import Derived.Test.YtmoeglecdojhcaaDoorIter
namespace Go.Proofs.YtmoeglecdojhcaaDoor
open Go.ChangeShapes Go.WideShapes Go.ChangeAt Go.RowKit Go.Shelf
attribute [local go_sem] Oper.semAt_some

/-- The text's box says how much is left. -/
def leftAt (B : Nat) (W : World) : Nat := match W.cell? ⟨B, 0, none⟩ with
  | some (.string s) => s.size
  | _ => 0
theorem left_box {B : Nat} {W : World} {t : TypeId} {s : List UInt8} (h : Boxed W B t (.string ⟨s.toArray⟩)) : leftAt B W = s.length := by unfold leftAt; rw [h.cell]; rfl
theorem index_at10 : ∀ s : List UInt8, (Lib.indexByte s 10 = -1 ∧ ∀ c ∈ s, c ≠ 10) ∨ ∃ (p r : List UInt8), s = p ++ 10 :: r ∧ (∀ c ∈ p, c ≠ 10) ∧ Lib.indexByte s 10 = (p.length : Int)
  | [] => .inl ⟨rfl, by simp⟩
  | b :: s => by
    by_cases hb : b = 10
    · subst hb
      exact .inr ⟨[], s, rfl, by simp, by rw [Lib.indexByte, if_pos (by decide)]; rfl⟩
    · have hbb : ¬ (b == 10) = true := by simpa using hb
      rcases index_at10 s with ⟨h1, h2⟩ | ⟨p, r, rfl, h2, h3⟩
      · refine .inl ⟨by rw [Lib.indexByte, if_neg hbb, h1]; rfl, fun c hc => ?_⟩
        rcases List.mem_cons.1 hc with rfl | hc
        · exact hb
        · exact h2 c hc
      · refine .inr ⟨b :: p, r, rfl, fun c hc => ?_, by rw [Lib.indexByte, if_neg hbb, h3, if_neg (by simp), List.length_cons]; omega⟩
        rcases List.mem_cons.1 hc with rfl | hc
        · exact hb
        · exact h2 c hc

theorem box_set {W : World} {B : Nat} {t : TypeId} {v : Value} (h : Boxed W B t v) (u : Value) : Boxed (W.setCell ⟨B, 0, none⟩ u) B t u := by
  have := Blk.set (w := W) (g := B) (T := t) (cs := #[v]) h 0 u
  show Blk _ _ _ _
  simpa using this
/-- The boxes of the closure. -/
def SB (B : Nat) (s : List UInt8) (W : World) : Prop := Boxed W B 9 (.string ⟨s.toArray⟩) ∧ Boxed W (B + 1) 9 (.string ⟨#[10]⟩) ∧ Boxed W (B + 2) 3 (.int .i64 0)

set_option maxRecDepth 100000 in
set_option maxHeartbeats 2000000 in
theorem split_seq (n : Nat) (hn : 1 ≤ n) (B : Nat) (s : List UInt8) (hs : s.length ≤ 1000000) :
    SeqZ Fence.wide n Tryd.prog 74 #[.pointer (some ⟨B + 1, 0, none⟩), .pointer (some ⟨B, 0, none⟩), .pointer (some ⟨B + 2, 0, none⟩)] (fun p : List UInt8 => #[.string ⟨p.toArray⟩]) (fun k => B ≤ k ∧ k ≤ B + 2) (SB B s) (Lin.pieces s) := by
  intro l J Jx W hR hJ hJx hY h0
  obtain ⟨b0, b1, b2⟩ := hR
  have c1 := b1.cell
  refine callsIn_of_wp Tryd.func74 rfl trivial ?_ rfl
  simp only [Tryd.ntmps74, List.size_toArray, List.length_cons, List.length_nil, Nat.reduceAdd, Nat.reduceSub, Array.replicate_succ, Array.replicate_zero, List.push_toArray, List.append_toArray, List.nil_append, List.cons_append]
  gi_wp2
  clear c1
  gi_loopw [7] (fun _ wr => ∃ (pre : List (List UInt8)) (rest : List UInt8), Hid (Lin.pieces s = pre ++ Lin.pieces rest) ∧ rest.length ≤ 1000000 ∧ Hid (SB B rest wr) ∧ Hid (J pre wr)) (fun _ wr => leftAt B wr)
  case atStart => exact ⟨[], s, Lib.hid rfl, hs, Lib.hid ⟨b0, b1, b2⟩, Lib.hid h0⟩
  case round =>
    obtain ⟨pre, rest, HP, hl, HS, HJ⟩ := hrel
    have c0 := HS.out.1.cell
    have c1 := HS.out.2.1.cell
    have c2 := HS.out.2.2.cell
    have HI := Lib.hid (Tryd.strings_Index_one ⟨rest.toArray⟩ 10 wr)
    rcases index_at10 rest with ⟨hi, hp⟩ | ⟨p, r, hr, hp, hi⟩
    · have hpe := HP.out
      rw [Lin.pieces_end rest hp] at hpe
      obtain ⟨fn, tmps, assign, body, hy, hR⟩ := hY pre rest [] wr HJ.out hpe
      have HE := Lib.hid hpe
      have HR := Lib.hid hR
      clear hpe hp hR
      gi_wp2
      refine ⟨trivial, (callsIn_wide.2 HI.out).mono ?_⟩
      rintro e w' ⟨rfl, rfl⟩
      rw [hi]
      clear hi HI
      gi_wp2
      refine HR.out.mono ?_
      rintro e W3 (⟨rfl, hJ3, _⟩ | ⟨rfl, hJx3, _⟩)
      · have HF : Hid (J (Lin.pieces s) W3) := Lib.hid (by rw [HE.out]; exact hJ3)
        clear hJ3
        gi_wp2
        go_end0
        exact ⟨⟨_, rfl⟩, .inl HF.out⟩
      · have HF : Hid (pre ++ [rest] <+: Lin.pieces s) := Lib.hid (by rw [HE.out]; exact List.prefix_rfl)
        gi_wp2
        go_end0
        exact ⟨⟨_, rfl⟩, .inr ⟨_, HF.out, hJx3⟩⟩
    · have hpe := HP.out
      rw [hr, Lin.pieces_split p r hp] at hpe
      obtain ⟨fn, tmps, assign, body, hy, hR⟩ := hY pre p (Lin.pieces r) wr HJ.out hpe
      have HE := Lib.hid hpe
      have HR := Lib.hid hR
      have hl2 : rest.length = p.length + (r.length + 1) := by rw [hr, List.length_append, List.length_cons]
      have hx1 : (⟨rest.toArray⟩ : ByteArray).extract 0 p.length = ⟨p.toArray⟩ := by rw [mk_extract, List.drop_zero, Nat.sub_zero, hr, List.take_left]
      have hx2 : (⟨rest.toArray⟩ : ByteArray).extract (p.length + 1) rest.length = ⟨r.toArray⟩ := by
        have hd : (p ++ 10 :: r).drop (p.length + 1) = r := by rw [← List.drop_drop, List.drop_left]; rfl
        rw [mk_extract, hr, hd, List.take_of_length_le (by rw [List.length_append, List.length_cons]; omega)]
      have k1 : p.length ≤ 1000000 := by omega
      have k2 : p.length + 1 ≤ rest.length := by omega
      have HL2 := Lib.hid hl2
      clear hpe hp hR hr hl2
      gi_wp2
      refine ⟨trivial, (callsIn_wide.2 HI.out).mono ?_⟩
      rintro e w' ⟨rfl, rfl⟩
      rw [hi]
      clear hi HI
      gi_wp2
      refine HR.out.mono ?_
      rintro e W3 (⟨rfl, hJ3, hk⟩ | ⟨rfl, hJx3, _⟩)
      · have HS3 : Hid (SB B rest W3) := Lib.hid ⟨hk.boxed HS.out.1 (by simp), hk.boxed HS.out.2.1 (by simp), hk.boxed HS.out.2.2 (by simp)⟩
        have d0 := HS3.out.1.cell
        have d1 := HS3.out.2.1.cell
        have f0 := HS3.out.1.frozen
        have HJ3 := Lib.hid hJ3
        clear hJ3 hk c0 c1 c2
        gi_wp2
        go_roundw
        case rel =>
          have hl2 := HL2.out
          refine ⟨pre ++ [p], r, Lib.hid ?_, by omega, Lib.hid ?_, Lib.hid ?_⟩
          · rw [HE.out]; simp
          · exact ⟨box_set HS3.out.1 _, HS3.out.2.1.other (by omega) _, HS3.out.2.2.other (by omega) _⟩
          · exact hJ _ _ _ HJ3.out ((Chg.refl _ _).setCell _ _ (.inl (by simp)))
        case measure =>
          have hl2 := HL2.out
          rw [left_box (box_set HS3.out.1 _), left_box HS.out.1]; omega
      · have HF : Hid (pre ++ [p] <+: Lin.pieces s) := Lib.hid (by rw [HE.out]; exact ⟨Lin.pieces r, by simp⟩)
        gi_wp2
        refine bodyPost_ret (results_none rfl _ _ _) rfl ?_
        exact ⟨⟨_, rfl⟩, .inr ⟨_, HF.out, hJx3⟩⟩
end Go.Proofs.YtmoeglecdojhcaaDoor

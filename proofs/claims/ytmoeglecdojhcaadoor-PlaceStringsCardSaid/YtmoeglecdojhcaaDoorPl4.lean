/-
  LAYER 1: what is decoded as a place.
-/
import Derived.Test.YtmoeglecdojhcaaDoorPl3
import Derived.Lib.AtoiAllCases
import Derived.Lib.ParseIntBTie
namespace Go.Proofs.YtmoeglecdojhcaaDoor
open Go.ChangeShapes Go.WideShapes Go.ChangeAt Go.RowKit

theorem atoi_any (l : List UInt8) (hl : l.length ≤ 1000000) (w : World) (hG : Good w) :
    Calls Tryd.prog 37 #[.string ⟨l.toArray⟩] w fun e w' => ∃ v er, e = .returned (.tuple #[.int .i64 v, er]) ∧ Hid (-9223372036854775808 ≤ v ∧ v ≤ 9223372036854775807 ∧ (∀ n, l = Lib.itoa n → 1 ≤ n → n ≤ 9223372036854775807 → v = n)) ∧ Below w.heap.size w w' := by
  obtain ⟨t1, p1, h1⟩ := hG.es
  obtain ⟨t2, p2, h2⟩ := hG.er
  have hl2 : (⟨l.toArray⟩ : ByteArray).size ≤ 1000000 := by rw [mk_size]; exact hl
  have hd : (⟨l.toArray⟩ : ByteArray).data.toList = l := rfl
  rcases h : Lib.atoiAll l with v | _ | _
  · refine (Tryd.strconv_Atoi_ok ⟨l.toArray⟩ (by omega) v (by rw [hd]; exact h) w).mono ?_
    rintro e w' ⟨rfl, hb⟩
    refine ⟨v, _, rfl, Lib.hid ⟨(Lib.atoiAll_bounds h).1, (Lib.atoiAll_bounds h).2, fun n hn h1 h2 => ?_⟩, below_bytes hb⟩
    rw [hn, Dec.atoi_itoa (by omega) h2] at h
    injection h with h
    exact h.symm
  · have hp : Lib.atoiAll l = Lib.parseIntB 64 [] := by rw [h]; rfl
    refine (Tryd.strconv_Atoi_syntax_var ⟨l.toArray⟩ (by omega) (by rw [hd]; exact hp) t1 p1 w h1).mono ?_
    rintro e w' ⟨N, rfl, _, _, hb⟩
    refine ⟨0, _, rfl, Lib.hid ⟨by decide, by decide, fun n hn h1 h2 => ?_⟩, hb⟩
    rw [hn, Dec.atoi_itoa (by omega) h2] at h
    cases h
  · refine (Tryd.strconv_Atoi_range_var ⟨l.toArray⟩ (by omega) (by rw [hd]; exact h) t2 p2 w h2).mono ?_
    rintro e w' ⟨N, rfl, _, _, hb⟩
    refine ⟨_, _, rfl, Lib.hid ⟨by unfold Lib.atoiSat; split <;> decide, by unfold Lib.atoiSat; split <;> decide, fun n hn h1 h2 => ?_⟩, hb⟩
    rw [hn, Dec.atoi_itoa (by omega) h2] at h
    cases h
theorem pcut_any (l : List UInt8) (hl : l.length ≤ 1000000) (w : World) (hG : Good w) :
    Calls Tryd.prog 36 #[.string ⟨l.toArray⟩, .string ⟨#[58]⟩] w fun e w' => e = .returned (.tuple #[.string ⟨(Pl.cut l).1.toArray⟩, .string ⟨(Pl.cut l).2.1.toArray⟩, .bool (Pl.cut l).2.2]) ∧ Below w.heap.size w w' := by
  obtain ⟨m, hm⟩ := hG.ml
  refine (Tryd.strings_Cut ⟨l.toArray⟩ ⟨#[58]⟩ m w (by rw [mk_size]; omega) hm).mono ?_
  rintro e w' ⟨rfl, k, rfl⟩
  refine ⟨?_, ⟨rfl, rfl, rfl, Nat.le_refl _, fun _ _ => rfl⟩⟩
  rw [show (⟨l.toArray⟩ : ByteArray).data.toList = l from rfl, show (⟨#[58]⟩ : ByteArray).data.toList = [58] from rfl, Pl.cut_lib]

/-- What Parse answers. -/
def prL (s : List UInt8) : Int := ((Pl.pread s).map (·.1)).getD 0
def prC (s : List UInt8) : Int := ((Pl.pread s).map (·.2)).getD 0
def prE (s : List UInt8) : Int := if (Pl.pread s).isSome then 0 else 7
theorem cut_len : ∀ s : List UInt8, (Pl.cut s).1.length ≤ s.length ∧ (Pl.cut s).2.1.length ≤ s.length
  | [] => by decide
  | b :: r => by
    have := cut_len r
    rw [Pl.cut]
    split
    · simp only [List.length_nil, List.length_cons]; omega
    · simp only [List.length_cons]; omega
/-- The result's block and the place's. -/
def QB (w : World) (b : Nat) (x y : Int) (W : World) : Prop := Good W ∧ Below w.heap.size w W ∧ Blk W w.heap.size 24 #[.int .i64 0, .int .i64 0] ∧ w.heap.size < b ∧ Blk W b 24 #[.int .i64 x, .int .i64 y]
section
variable {w W W' : World} {b : Nat} {x y : Int}
theorem QB.new (h : Hid (PB w 0 0 W)) : Hid (QB w W.heap.size 0 0 (W.alloc (.cells #[.int .i64 0, .int .i64 0] 24))) := Lib.hid ⟨h.out.1.alloc _, below_new h.out.2.1 _, h.out.2.2.alloc _, h.out.2.2.lt, Blk.new _ _ _⟩
theorem QB.call (h : Hid (QB w b x y W)) (hb : Below W.heap.size W W') : Hid (QB w b x y W') := Lib.hid ⟨h.out.1.call hb, below_call h.out.2.1 hb, h.out.2.2.1.call hb, h.out.2.2.2.1, h.out.2.2.2.2.call hb⟩
theorem QB.good (h : Hid (QB w b x y W)) : Good W := h.out.1
theorem Good.set {w W : World} (hG : Good w) (h : Below w.heap.size w W) : Good W := hG.below h (Nat.le_refl _)
theorem QB.set0 (hw : Good w) (h : Hid (QB w b x y W)) (z : Int) : Hid (QB w b z y (W.setCell ⟨b, 0, none⟩ (.int .i64 z))) := by
  have h2 := h.out.2.1.setCell (p := ⟨b, 0, none⟩) (Nat.le_of_lt h.out.2.2.2.1) (.int .i64 z)
  exact Lib.hid ⟨hw.set h2, h2, h.out.2.2.1.far (by show w.heap.size ≠ b; have := h.out.2.2.2.1; omega) _, h.out.2.2.2.1, by have := h.out.2.2.2.2.set 0 (.int .i64 z); simpa using this⟩
theorem QB.set1 (hw : Good w) (h : Hid (QB w b x y W)) (z : Int) : Hid (QB w b x z (W.setCell ⟨b, 1, none⟩ (.int .i64 z))) := by
  have h2 := h.out.2.1.setCell (p := ⟨b, 1, none⟩) (Nat.le_of_lt h.out.2.2.2.1) (.int .i64 z)
  exact Lib.hid ⟨hw.set h2, h2, h.out.2.2.1.far (by show w.heap.size ≠ b; have := h.out.2.2.2.1; omega) _, h.out.2.2.2.1, by have := h.out.2.2.2.2.set 1 (.int .i64 z); simpa using this⟩
end
theorem Blk.put2 {w : World} {g : Nat} {T : TypeId} {x y a b : Value} (h : Blk w g T #[x, y]) : Blk ((w.setCell ⟨g, 0, none⟩ a).setCell ⟨g, 1, none⟩ b) g T #[a, b] := by
  have := (h.set 0 a).set 1 b
  simpa using this
theorem below_put2 {w0 w : World} {n g : Nat} {a b : Value} (h : Below n w0 w) (hg : n ≤ g) : Below n w0 ((w.setCell ⟨g, 0, none⟩ a).setCell ⟨g, 1, none⟩ b) :=
  (h.setCell hg a).setCell hg b

set_option maxRecDepth 100000 in
set_option maxHeartbeats 1000000 in
theorem pparse_any (s : List UInt8) (hs : s.length ≤ 1000000) (w : World) (hG : Good w) :
    Calls Tryd.prog 22 #[.string ⟨s.toArray⟩] w fun e w' => e = .returned (.tuple #[pV (prL s) (prC s), .int .i64 (prE s)]) ∧ Below w.heap.size w w' := by
  have HP := PB.new (l := 0) (c := 0) hG
  have HGw := Lib.hid hG
  clear hG
  obtain ⟨n1, n2⟩ := cut_len s
  have hheld := fun L C a b c d => @Pl.pread_held s L C a b c d
  have HCut : Hid (∀ W, Good W → Calls Tryd.prog 36 #[.string ⟨s.toArray⟩, .string ⟨#[58]⟩] W fun e w' => e = .returned (.tuple #[.string ⟨(Pl.cut s).1.toArray⟩, .string ⟨(Pl.cut s).2.1.toArray⟩, .bool (Pl.cut s).2.2]) ∧ Below W.heap.size W w') := Lib.hid fun W hG => pcut_any s hs W hG
  obtain ⟨A, hA⟩ : ∃ c, (Pl.cut s).1 = c := ⟨_, rfl⟩
  obtain ⟨B, hB⟩ : ∃ c, (Pl.cut s).2.1 = c := ⟨_, rfl⟩
  obtain ⟨D, hD⟩ : ∃ c, (Pl.cut s).2.2 = c := ⟨_, rfl⟩
  rw [hA, hB] at hheld
  rw [hA, hB, hD] at HCut
  rw [hA] at n1
  rw [hB] at n2
  have HH := Lib.hid hheld
  clear hheld hA hB hD
  go_enter Tryd.func22, Tryd.ntmps22
  go_wp2_with fail
  refine (HCut.out _ (PB.good HP)).mono ?_
  rintro e w2 ⟨rfl, hb⟩
  replace HP := PB.call HP hb
  clear hb
  have HQ := QB.new HP
  clear HP
  go_wp2_with fail
  refine (atoi_any A (by omega) _ (QB.good HQ)).mono ?_
  rintro e w3 ⟨L, er1, rfl, HL, hb⟩
  replace HQ := QB.call HQ hb
  obtain ⟨g, hg⟩ : ∃ m, w2.heap.size = m := ⟨_, rfl⟩
  rw [hg] at HQ ⊢
  clear hb hg
  have c0 := HQ.out.2.2.2.2.cell 0
  have f0 := HQ.out.2.2.2.2.frozen 0
  replace HQ := QB.set0 HGw.out HQ L
  go_wp2_with fail
  clear c0 f0
  refine (atoi_any B (by omega) _ (QB.good HQ)).mono ?_
  rintro e w4 ⟨C, er2, rfl, HC, hb⟩
  replace HQ := QB.call HQ hb
  clear hb
  have c0 := HQ.out.2.2.2.2.cell 0
  have c1 := HQ.out.2.2.2.2.cell 1
  have f1 := HQ.out.2.2.2.2.frozen 1
  replace HQ := QB.set1 HGw.out HQ C
  go_wp2_with fail
  clear c0 c1 f1
  obtain ⟨b1, b2, b3⟩ := HL.out
  obtain ⟨b4, b5, b6⟩ := HC.out
  refine (text_any L C b1 b2 b4 b5 _ (QB.good HQ)).mono ?_
  rintro e w5 ⟨rfl, hb⟩
  replace HQ := QB.call HQ hb
  have hR := HH.out L C b2 b5 b3 b6
  clear hb b3 b6 HH HL HC
  have r0 := HQ.out.2.2.1.cell 0
  have r1 := HQ.out.2.2.1.cell 1
  have fr0 := HQ.out.2.2.1.frozen 0
  have fr1 := HQ.out.2.2.1.frozen 1
  have c0 := HQ.out.2.2.2.2.cell 0
  have c1 := HQ.out.2.2.2.2.cell 1
  by_cases h : 1 ≤ L ∧ 1 ≤ C
  · have e1 : txS L C = Pl.text L C := by unfold txS; rw [if_pos h]
    have e2 : txE L C = 0 := by unfold txE; rw [if_pos h]
    rw [e1, e2]
    clear e1 e2
    by_cases ht : Pl.text L C = s
    · rw [if_pos ⟨h.1, h.2, ht⟩] at hR
      have HF : Hid (prL s = L ∧ prC s = C ∧ prE s = 0) := Lib.hid (by unfold prL prC prE; rw [hR]; exact ⟨rfl, rfl, rfl⟩)
      rw [ht]
      clear hR h ht b1 b2 b4 b5
      go_wp2_with fail
      refine bodyPost_ret (results_place rfl _ _ w.heap.size _ _ rfl HQ.out.2.2.1.put2 rfl) rfl ?_
      exact ⟨by rw [HF.out.1, HF.out.2.1, HF.out.2.2]; rfl, below_put2 HQ.out.2.1 (Nat.le_refl _)⟩
    · rw [if_neg (fun e => ht e.2.2)] at hR
      have HF : Hid (prL s = 0 ∧ prC s = 0 ∧ prE s = 7) := Lib.hid (by unfold prL prC prE; rw [hR]; exact ⟨rfl, rfl, rfl⟩)
      have hne : (Pl.text L C == s) = false := by simpa using ht
      obtain ⟨TX, hTX⟩ : ∃ c, Pl.text L C = c := ⟨_, rfl⟩
      rw [hTX] at hne ⊢
      clear hR h ht b1 b2 b4 b5 hTX
      go_wp2_with fail
      refine bodyPost_ret (results_place rfl _ _ w.heap.size _ _ rfl HQ.out.2.2.1.put2 rfl) rfl ?_
      exact ⟨by rw [HF.out.1, HF.out.2.1, HF.out.2.2]; rfl, below_put2 HQ.out.2.1 (Nat.le_refl _)⟩
  · have e1 : txS L C = [] := by unfold txS; rw [if_neg h]
    have e2 : txE L C = 2 := by unfold txE; rw [if_neg h]
    rw [e1, e2]
    rw [if_neg (fun e => h ⟨e.1, e.2.1⟩)] at hR
    have HF : Hid (prL s = 0 ∧ prC s = 0 ∧ prE s = 7) := Lib.hid (by unfold prL prC prE; rw [hR]; exact ⟨rfl, rfl, rfl⟩)
    clear e1 e2 hR h b1 b2 b4 b5
    go_wp2_with fail
    refine bodyPost_ret (results_place rfl _ _ w.heap.size _ _ rfl HQ.out.2.2.1.put2 rfl) rfl ?_
    exact ⟨by rw [HF.out.1, HF.out.2.1, HF.out.2.2]; rfl, below_put2 HQ.out.2.1 (Nat.le_refl _)⟩

end Go.Proofs.YtmoeglecdojhcaaDoor

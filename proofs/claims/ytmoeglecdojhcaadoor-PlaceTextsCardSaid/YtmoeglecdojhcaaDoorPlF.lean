/-
  LAYER 1: which places there are: the statement's walk.
-/
import Derived.Test.YtmoeglecdojhcaaDoorPlW
namespace Go.Proofs.YtmoeglecdojhcaaDoor
open Go.ChangeShapes Go.WideShapes Go.ChangeAt Go.RowKit

theorem piece_le : ∀ (s : List UInt8), ∀ p ∈ Lin.pieces s, p.length ≤ s.length
  | [], p, h => by
    rw [show Lin.pieces [] = [[]] from rfl, List.mem_singleton] at h
    subst h; exact Nat.le_refl _
  | b :: r, p, h => by
    have ih := piece_le r
    obtain ⟨q, qs, hq⟩ := Lin.pieces_ne r
    rw [List.length_cons]
    by_cases hb : b = 10
    · subst hb
      rw [Lin.pieces_feed] at h
      rcases List.mem_cons.1 h with rfl | h
      · exact Nat.zero_le _
      · have := ih p h; omega
    · rw [Lin.pieces_other hb hq] at h
      rw [hq] at ih
      rcases List.mem_cons.1 h with rfl | h
      · have := ih q (by simp); rw [List.length_cons]; omega
      · have := ih p (by simp [h]); omega
theorem line_len {s q : List UInt8} {n : Int} (hq : Pl.line s n = some q) : q.length ≤ s.length := by
  unfold Pl.line at hq
  split at hq
  · exact piece_le s _ (List.mem_of_getElem? hq)
  · cases hq
set_option maxHeartbeats 4000000 in
set_option maxRecDepth 100000 in
theorem placeFound_walk (s : ByteArray) (_ : s.size ≤ maxLen) (l : Int) (l0 : 0 ≤ l) (l1 : l ≤ 255) (c : Int) (c0 : 0 ≤ c) (c1 : c ≤ 255) (w : World) (hG : Good w) :
    Calls Tryd.prog 4 #[.string s, .int .u8 l, .int .u8 c] w fun e w' => e = .returned (.bool true) ∧ Below w.heap.size w w' := by
  obtain ⟨s, rfl⟩ : ∃ t : List UInt8, s = ⟨t.toArray⟩ := ⟨s.data.toList, rfl⟩
  have HI : Hid (FInv w w) := Lib.hid ⟨hG, Below.refl _ _⟩
  by_cases hs : 200 < s.length
  · have k1 : (200 : Int) < (s.length : Int) := by omega
    clear hG
    go_enter Tryd.func4, Tryd.ntmps4
    go_wp2_with fail
    refine (works_any _ (FInv.good HI)).mono ?_
    rintro e w2 ⟨rfl, b⟩
    replace HI := FInv.call HI b
    clear b
    go_wp2_with fail
    go_ret
    exact ⟨rfl, HI.out.2⟩
  have k1 : ¬ (200 : Int) < (s.length : Int) := by omega
  have HO : Hid (∀ W, Good W → Calls Tryd.prog 14 #[.string ⟨s.toArray⟩, .agg #[.int .i64 l, .int .i64 c]] W fun e w' => e = .returned (.tuple #[.int .i64 (ofsV s l c), .int .i64 (ofsE s l c)]) ∧ Below W.heap.size W w') := Lib.hid fun W hG => offset_any s (by omega) l c W hG
  have HL : Hid (∀ W, Good W → Calls Tryd.prog 16 #[.string ⟨s.toArray⟩, .int .i64 l] W fun e w' => e = .returned (.tuple #[.string ⟨(liS s l).toArray⟩, .int .i64 (liE s l)]) ∧ Below W.heap.size W w') := Lib.hid fun W hG => line_any s (by omega) l W hG
  have hiff := Pl.off_line s l c
  have HW := FInv.alloc HI (.cells #[.int .i64 l, .int .i64 c] 24)
  have HB : Hid (Blk (w.alloc (.cells #[.int .i64 l, .int .i64 c] 24)) w.heap.size 24 #[.int .i64 l, .int .i64 c]) := Lib.hid (Blk.new _ _ _)
  clear hG hs HI
  cases hof : Pl.off s l c with
  | some o =>
    obtain ⟨q, hq, h1, h2⟩ := hiff.1 (by rw [hof]; rfl)
    obtain ⟨ho, hr, hc⟩ := Pl.off_some hof
    have v1 : ofsV s l c = (o : Int) := by unfold ofsV; rw [hof]; rfl
    have v2 : ofsE s l c = 0 := by unfold ofsE; rw [hof]; rfl
    have v3 : liS s l = q := by unfold liS; rw [hq]; rfl
    have v4 : liE s l = 0 := by unfold liE; rw [hq]; rfl
    rw [v1, v2] at HO
    rw [v3, v4] at HL
    have f1 : ofL s (o : Int) = l := by unfold ofL; rw [if_pos (by omega)]; exact hr
    have f2 : ofC s (o : Int) = c := by unfold ofC; rw [if_pos (by omega)]; exact hc
    have f3 : ofE s (o : Int) = 0 := by unfold ofE; rw [if_pos (by omega)]
    have hof2 := fun W => of_any s (by omega) (o : Int) (by omega) (by omega) W
    rw [f1, f2, f3] at hof2
    unfold pV at hof2
    have HF := Lib.hid hof2
    have hqs : (q.length : Int) ≤ 1000000 := by
      have := line_len hq
      omega
    clear hiff hof hof2 v1 v2 v3 v4 f1 f2 f3 hq hr hc ho
    go_enter Tryd.func4, Tryd.ntmps4
    go_wp2_with fail
    refine (HO.out _ (FInv.good HW)).mono ?_
    rintro e w2 ⟨rfl, b⟩
    replace HW := FInv.call HW b
    replace HB := Lib.hid (HB.out.call b)
    clear b
    have d0 := HB.out.cell 0
    have d1 := HB.out.cell 1
    go_wp2_with fail
    refine (HL.out _ (FInv.good HW)).mono ?_
    rintro e w3 ⟨rfl, b⟩
    replace HW := FInv.call HW b
    replace HB := Lib.hid (HB.out.call b)
    clear b d0 d1
    have d0 := HB.out.cell 0
    have d1 := HB.out.cell 1
    go_wp2_with fail
    refine (HF.out _).mono ?_
    rintro e w4 ⟨rfl, b⟩
    replace HW := FInv.alloc (FInv.call HW b) (.cells #[.int .i64 l, .int .i64 c] 24)
    replace HB := Lib.hid ((HB.out.call b).alloc (.cells #[.int .i64 l, .int .i64 c] 24))
    clear b d0 d1
    have d0 := HB.out.cell 0
    have d1 := HB.out.cell 1
    go_wp2_with fail
    refine (works_any _ (FInv.good HW)).mono ?_
    rintro e w5 ⟨rfl, b⟩
    replace HW := FInv.call HW b
    clear b
    go_wp2_with fail
    go_ret
    exact ⟨rfl, HW.out.2⟩
  | none =>
    have v1 : ofsV s l c = 0 := by unfold ofsV; rw [hof]; rfl
    have v2 : ofsE s l c = 3 := by unfold ofsE; rw [hof]; rfl
    rw [v1, v2] at HO
    have hcase : liE s l = 3 ∨ (liE s l = 0 ∧ c < 1) ∨ (liE s l = 0 ∧ 1 ≤ c ∧ ((liS s l).length : Int) + 1 < c ∧ ((liS s l).length : Int) ≤ 1000000) := by
      cases hq : Pl.line s l with
      | none => exact .inl (by unfold liE; rw [hq]; rfl)
      | some q =>
        have e : liE s l = 0 := by unfold liE; rw [hq]; rfl
        have e2 : liS s l = q := by unfold liS; rw [hq]; rfl
        rw [e2]
        by_cases h1 : c < 1
        · exact .inr (.inl ⟨e, h1⟩)
        · have hqq := line_len hq
          refine .inr (.inr ⟨e, by omega, ?_, by omega⟩)
          by_cases h2 : (q.length : Int) + 1 < c
          · exact h2
          · have := hiff.2 ⟨q, hq, by omega, by omega⟩
            rw [hof] at this
            cases this
    obtain ⟨Q, hQ⟩ : ∃ q, liS s l = q := ⟨_, rfl⟩
    obtain ⟨E, hE⟩ : ∃ q, liE s l = q := ⟨_, rfl⟩
    rw [hQ, hE] at HL hcase
    clear hiff hof v1 v2 hQ hE
    rcases hcase with rfl | ⟨rfl, h1⟩ | ⟨rfl, h1, h2, h3⟩
    · go_enter Tryd.func4, Tryd.ntmps4
      go_wp2_with fail
      refine (HO.out _ (FInv.good HW)).mono ?_
      rintro e w2 ⟨rfl, b⟩
      replace HW := FInv.call HW b
      replace HB := Lib.hid (HB.out.call b)
      clear b
      have d0 := HB.out.cell 0
      have d1 := HB.out.cell 1
      go_wp2_with fail
      refine (HL.out _ (FInv.good HW)).mono ?_
      rintro e w3 ⟨rfl, b⟩
      replace HW := FInv.call HW b
      replace HB := Lib.hid (HB.out.call b)
      clear b d0 d1
      have d0 := HB.out.cell 0
      have d1 := HB.out.cell 1
      go_wp2_with fail
      refine (works_any _ (FInv.good HW)).mono ?_
      rintro e w5 ⟨rfl, b⟩
      replace HW := FInv.call HW b
      clear b
      go_wp2_with fail
      go_ret
      exact ⟨rfl, HW.out.2⟩
    · go_enter Tryd.func4, Tryd.ntmps4
      go_wp2_with fail
      refine (HO.out _ (FInv.good HW)).mono ?_
      rintro e w2 ⟨rfl, b⟩
      replace HW := FInv.call HW b
      replace HB := Lib.hid (HB.out.call b)
      clear b
      have d0 := HB.out.cell 0
      have d1 := HB.out.cell 1
      go_wp2_with fail
      refine (HL.out _ (FInv.good HW)).mono ?_
      rintro e w3 ⟨rfl, b⟩
      replace HW := FInv.call HW b
      replace HB := Lib.hid (HB.out.call b)
      clear b d0 d1
      have d0 := HB.out.cell 0
      have d1 := HB.out.cell 1
      go_wp2_with fail
      refine (works_any _ (FInv.good HW)).mono ?_
      rintro e w5 ⟨rfl, b⟩
      replace HW := FInv.call HW b
      clear b
      go_wp2_with fail
      go_ret
      exact ⟨rfl, HW.out.2⟩
    · go_enter Tryd.func4, Tryd.ntmps4
      go_wp2_with fail
      refine (HO.out _ (FInv.good HW)).mono ?_
      rintro e w2 ⟨rfl, b⟩
      replace HW := FInv.call HW b
      replace HB := Lib.hid (HB.out.call b)
      clear b
      have d0 := HB.out.cell 0
      have d1 := HB.out.cell 1
      go_wp2_with fail
      refine (HL.out _ (FInv.good HW)).mono ?_
      rintro e w3 ⟨rfl, b⟩
      replace HW := FInv.call HW b
      replace HB := Lib.hid (HB.out.call b)
      clear b d0 d1
      have d0 := HB.out.cell 0
      have d1 := HB.out.cell 1
      go_wp2_with fail
      refine (works_any _ (FInv.good HW)).mono ?_
      rintro e w5 ⟨rfl, b⟩
      replace HW := FInv.call HW b
      clear b
      go_wp2_with fail
      go_ret
      exact ⟨rfl, HW.out.2⟩
end Go.Proofs.YtmoeglecdojhcaaDoor

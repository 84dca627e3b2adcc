/-
  LAYER 2, THE LAWS' HELPERS: two lists are the same; examples of the chapter.
-/
import Derived.Test.YtdogdpjgkhcndaaDoorNum4
namespace Go.Proofs.YtdogdpjgkhcndaaDoor
open Go.ChangeShapes Go.WideShapes Go.ChangeAt Go.RowKit

theorem ints_at {w : World} {B : Nat} {A : Option Addr} {l : List Int} (h : Rd w B A (ints l)) {k : Nat} {x : Int} (hx : l[k]? = some x) : ∃ b off, A = some ⟨b, off, none⟩ ∧ b < B ∧ w.cell? ⟨b, off + k, none⟩ = some (.int .i64 x) := by
  have hk := (List.getElem?_eq_some_iff.1 hx).1
  have hk2 : k < (ints l).length := by unfold ints; rw [List.length_map]; exact hk
  obtain ⟨b, off, e, hb, hc⟩ := h.at_ hk2
  refine ⟨b, off, e, hb, hc.trans ?_⟩
  rw [← List.getElem?_eq_getElem hk2]
  unfold ints
  rw [List.getElem?_map, hx]
  rfl

set_option maxHeartbeats 1000000 in
/-- The reference's Same. -/
theorem same_any (l m : List Int) (hl : l.length ≤ 1000000) (hm : m.length ≤ 1000000) (A B : Option Addr) (c1 c2 : Nat) (w : World) (h1 : Rd w w.heap.size A (ints l)) (h2 : Rd w w.heap.size B (ints m)) :
    Calls Tryd.prog 25 #[.slice A l.length c1, .slice B m.length c2] w fun e w' => e = .returned (.bool (decide (l = m))) ∧ Below w.heap.size w w' := by
  obtain ⟨D, hD⟩ : ∃ D, decide (l = m) = D := ⟨_, rfl⟩
  rw [hD]
  have HD := Lib.hid hD
  have HA := Lib.hid h1
  have HB := Lib.hid h2
  have HI : Hid (Below w.heap.size w w) := Lib.hid (Below.refl _ _)
  clear hD h1 h2
  by_cases hlen : l.length = m.length
  · have HL := Lib.hid hlen
    have hlen2 : ((l.length : Int) == (m.length : Int)) = true := by simp; omega
    have hml : m.length ≤ l.length := by omega
    have hlm : l.length ≤ m.length := by omega
    clear hlen
    go_enter Tryd.func25, Tryd.ntmps25
    go_wp2_with fail
    go_loopw [5] (fun i wr => ∃ k : Nat, k ≤ l.length ∧ i = .int .i64 k ∧ Hid (Below w.heap.size w wr) ∧ Hid (Rd wr w.heap.size A (ints l)) ∧ Hid (Rd wr w.heap.size B (ints m)) ∧ Hid (l.take k = m.take k)) (fun i _ => l.length - (intOf i).toNat)
    case atStart => exact ⟨0, Nat.zero_le _, rfl, HI, HA, HB, Lib.hid rfl⟩
    case round =>
      obtain ⟨k, hk, rfl, HI, HA, HB, HT⟩ := hrel
      by_cases hlt : k < l.length
      · obtain ⟨x, hx⟩ : ∃ x, l[k]? = some x := ⟨_, List.getElem?_eq_getElem hlt⟩
        obtain ⟨y, hy⟩ : ∃ y, m[k]? = some y := ⟨_, List.getElem?_eq_getElem (by omega)⟩
        obtain ⟨b, off, rfl, _, hc⟩ := ints_at HA.out hx
        obtain ⟨b', off', rfl, _, hc'⟩ := ints_at HB.out hy
        have HX := Lib.hid hx
        have HY := Lib.hid hy
        have k0 : (0 : Int) ≤ (k : Int) := by omega
        have k1 : (k : Int) < (l.length : Int) := by omega
        have k2 : (k : Int) < (m.length : Int) := by omega
        clear hx hy
        by_cases he : x = y
        · subst he
          have HT2 : Hid (l.take (k + 1) = m.take (k + 1)) := Lib.hid (by rw [take_snoc HX.out, take_snoc HY.out, HT.out])
          go_wp2_with fail
          go_quiet (fail)
          have HI : Hid (Below w.heap.size w (wr.drewN nq)) := Lib.hid ⟨HI.out.os, HI.out.tape, HI.out.output, HI.out.size, HI.out.block⟩
          have HA : Hid (Rd (wr.drewN nq) w.heap.size (some ⟨b, off, none⟩) (ints l)) := HA
          have HB : Hid (Rd (wr.drewN nq) w.heap.size (some ⟨b', off', none⟩) (ints m)) := HB
          clear hc hc'
          generalize wr.drewN nq = wr at HA HB HI ⊢
          go_wp2_with fail
          go_roundw
          case rel => exact ⟨k + 1, hlt, by go_num, HI, HA, HB, HT2⟩
          case measure => simp [intOf]; omega
        · have HK : Hid (D = false) := Lib.hid (by
            rw [← HD.out, decide_eq_false_iff_not]
            rintro rfl
            have e := HX.out.symm.trans HY.out
            exact he (Option.some.inj e))
          have he2 : (x == y) = false := by simpa using he
          clear he
          go_wp2_with fail
          go_quiet (fail)
          have HI : Hid (Below w.heap.size w (wr.drewN nq)) := Lib.hid ⟨HI.out.os, HI.out.tape, HI.out.output, HI.out.size, HI.out.block⟩
          clear hc hc'
          generalize wr.drewN nq = wr at HI ⊢
          go_wp2_with fail
          go_ret
          exact ⟨by rw [HK.out]; rfl, HI.out⟩
      · obtain rfl : k = l.length := by omega
        have HK : Hid (D = true) := Lib.hid (by
          rw [← HD.out, decide_eq_true_iff]
          have := HT.out
          rwa [List.take_length, List.take_of_length_le (by omega)] at this)
        go_wp2_with fail
        go_ret
        exact ⟨by rw [HK.out]; rfl, HI.out⟩
  · have HK : Hid (D = false) := Lib.hid (by rw [← HD.out, decide_eq_false_iff_not]; rintro rfl; exact hlen rfl)
    have hlen' : ((l.length : Int) == (m.length : Int)) = false := by simp; omega
    clear hlen
    go_enter Tryd.func25, Tryd.ntmps25
    go_wp2_with fail
    go_ret
    exact ⟨by rw [HK.out]; rfl, HI.out⟩

theorem works0 : Num.numP [45, 57, 50, 50, 51, 51, 55, 50, 48, 51, 54, 56, 53, 52, 55, 55, 53, 56, 48, 56] = (-9223372036854775808) ∧ errP [45, 57, 50, 50, 51, 51, 55, 50, 48, 51, 54, 56, 53, 52, 55, 55, 53, 56, 48, 56] = 0 := by decide +kernel
theorem works1 : Num.numP [57, 50, 50, 51, 51, 55, 50, 48, 51, 54, 56, 53, 52, 55, 55, 53, 56, 48, 56] = 0 ∧ errP [57, 50, 50, 51, 51, 55, 50, 48, 51, 54, 56, 53, 52, 55, 55, 53, 56, 48, 56] = 7 := by decide +kernel
theorem works2 : Num.numP [45, 48] = 0 ∧ errP [45, 48] = 7 := by decide +kernel
theorem works3 : doN 1 9223372036854775807 1 = (-9223372036854775808) ∧ doT 1 1 = 0 ∧ doE 1 = 0 := by decide +kernel
theorem works4 : doN 4 (-7) 2 = (-3) ∧ doT 4 2 = 0 ∧ doE 4 = 0 := by decide +kernel
theorem works5 : doN 5 (-9223372036854775808) (-1) = 0 ∧ doT 5 (-1) = 0 ∧ doE 5 = 0 := by decide +kernel
theorem works6 : doN 4 1 0 = 0 ∧ doT 4 0 = 1 ∧ doE 4 = 0 := by decide +kernel
theorem works7 : doN 6 1 1 = 0 ∧ doT 6 1 = 0 ∧ doE 6 = 2 := by decide +kernel
theorem works8 : cmpB 8 (-1) 0 = true ∧ cmpE 8 = 0 := by decide +kernel
theorem works9 : cmpB 1 1 1 = false ∧ cmpE 1 = 2 := by decide +kernel
theorem works10 : numsL [49, 44, 45, 50, 44, 51] = [1, -2, 3] ∧ errL [49, 44, 45, 50, 44, 51] = 0 := by decide +kernel
theorem works11 : numsL [49, 44, 32, 50] = [] ∧ errL [49, 44, 32, 50] = 7 := by decide +kernel

set_option maxHeartbeats 2000000 in
set_option maxRecDepth 100000 in
/-- rewindlaw02.works. -/
theorem works_any (w : World) (hG : Good w) : Calls Tryd.prog 17 #[] w fun e w' => e = .returned (.bool true) ∧ Below w.heap.size w w' := by
  have HI : Hid (FInv w w) := Lib.hid ⟨hG, Below.refl _ _⟩
  clear hG
  go_enter Tryd.func17, Tryd.ntmps17
  go_wp2_with fail
  refine (nparse_any [45, 57, 50, 50, 51, 51, 55, 50, 48, 51, 54, 56, 53, 52, 55, 55, 53, 56, 48, 56] (by decide) _ (FInv.good HI)).mono ?_
  rintro e v0 ⟨rfl, b⟩
  rw [works0.1, works0.2]
  have HI := FInv.call HI b
  clear b
  go_wp2_with fail
  refine (nparse_any [57, 50, 50, 51, 51, 55, 50, 48, 51, 54, 56, 53, 52, 55, 55, 53, 56, 48, 56] (by decide) _ (FInv.good HI)).mono ?_
  rintro e v1 ⟨rfl, b⟩
  rw [works1.1, works1.2]
  have HI := FInv.call HI b
  clear b
  go_wp2_with fail
  refine (nparse_any [45, 48] (by decide) _ (FInv.good HI)).mono ?_
  rintro e v2 ⟨rfl, b⟩
  rw [works2.1, works2.2]
  have HI := FInv.call HI b
  clear b
  go_wp2_with fail
  refine (do_any 1 9223372036854775807 1 (by decide) (by decide) (by decide) (by decide) _).mono ?_
  rintro e v3 ⟨rfl, rfl⟩
  rw [works3.1, works3.2.1, works3.2.2]
  go_wp2_with fail
  refine (do_any 4 (-7) 2 (by decide) (by decide) (by decide) (by decide) _).mono ?_
  rintro e v4 ⟨rfl, rfl⟩
  rw [works4.1, works4.2.1, works4.2.2]
  go_wp2_with fail
  refine (do_any 5 (-9223372036854775808) (-1) (by decide) (by decide) (by decide) (by decide) _).mono ?_
  rintro e v5 ⟨rfl, rfl⟩
  rw [works5.1, works5.2.1, works5.2.2]
  go_wp2_with fail
  refine (do_any 4 1 0 (by decide) (by decide) (by decide) (by decide) _).mono ?_
  rintro e v6 ⟨rfl, rfl⟩
  rw [works6.1, works6.2.1, works6.2.2]
  go_wp2_with fail
  refine (do_any 6 1 1 (by decide) (by decide) (by decide) (by decide) _).mono ?_
  rintro e v7 ⟨rfl, rfl⟩
  rw [works7.1, works7.2.1, works7.2.2]
  go_wp2_with fail
  refine (compare_any 8 (-1) 0 _ (FInv.good HI)).mono ?_
  rintro e v8 ⟨rfl, rfl⟩
  rw [works8.1, works8.2]
  go_wp2_with fail
  refine (compare_any 1 1 1 _ (FInv.good HI)).mono ?_
  rintro e v9 ⟨rfl, rfl⟩
  rw [works9.1, works9.2]
  go_wp2_with fail
  refine (nlist_any [49, 44, 45, 50, 44, 51] (by decide) _ (FInv.good HI)).mono ?_
  rintro e v10 ⟨x10, rfl, o10, b⟩
  rw [works10.1] at o10
  rw [works10.2]
  have HI := FInv.call HI b
  obtain ⟨A10, k10, rfl, r10⟩ := own_slice o10
  have R10 := Lib.hid r10
  clear b o10 r10
  go_wp2_with fail
  refine (nlist_any [49, 44, 32, 50] (by decide) _ (FInv.good HI)).mono ?_
  rintro e v11 ⟨x11, rfl, o11, b⟩
  rw [works11.1] at o11
  rw [works11.2]
  have HI := FInv.call HI b
  have R10 := Lib.hid ((R10.out.below b).more b.size)
  obtain ⟨A11, k11, rfl, _⟩ := own_slice o11
  clear b o11
  go_wp2_with fail
  refine (neg_any (-9223372036854775808) _).mono ?_
  rintro e v12 ⟨rfl, rfl⟩
  rw [show wrap64 (-(-9223372036854775808)) = -9223372036854775808 by decide +kernel]
  go_wp2_with fail
  have hs := same_any [1, -2, 3] [1, -2, 3] (by decide) (by decide) A10 (some ⟨v11.heap.size, 0, none⟩) k10 3 (v11.alloc (.cells #[.int .i64 1, .int .i64 (-2), .int .i64 3] 2)) ((R10.out.alloc (Nat.le_refl _) _).more (by simp)) (rd_lit v11 2 [.int .i64 1, .int .i64 (-2), .int .i64 3])
  rw [show decide (([1, -2, 3] : List Int) = [1, -2, 3]) = true by decide +kernel] at hs
  have HI := FInv.alloc HI (.cells #[.int .i64 1, .int .i64 (-2), .int .i64 3] 2)
  refine hs.mono ?_
  rintro e v13 ⟨rfl, b⟩
  have HI := FInv.call HI b
  clear b hs R10
  go_wp2_with fail
  go_ret
  exact ⟨rfl, HI.out.2⟩
end Go.Proofs.YtdogdpjgkhcndaaDoor

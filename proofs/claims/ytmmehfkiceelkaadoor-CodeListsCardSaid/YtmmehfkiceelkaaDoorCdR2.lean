/-
  LAYER 23: the reference: values of digits, lists of instructions, where instructions go on.
-/
import Derived.Test.YtmmehfkiceelkaaDoorCdR1
namespace Go.Proofs.YtmmehfkiceelkaaDoor
open Go.ChangeShapes Go.WideShapes Go.ChangeAt Go.RowKit

set_option maxHeartbeats 1000000 in
theorem rvalue_any (s : List UInt8) (hs : s.length ≤ 1000000) (w : World) :
    Calls Tryd.prog 41 #[.string ⟨s.toArray⟩] w fun e w' => e = .returned (.int .i64 (Cd.valV s)) ∧ w = w' := by
  obtain ⟨V, hV⟩ : ∃ V, Cd.valV s = V := ⟨_, rfl⟩
  rw [hV]
  have HV := Lib.hid hV
  clear hV
  go_enter Tryd.func41, Tryd.ntmps41
  go_wp2_with fail
  go_loopw [5, 3, 4] (fun i n m wr => ∃ (k acc : Nat) (mm : Bool), k ≤ s.length ∧ k ≤ 25 ∧ i = .int .i64 k ∧ n = .int .u64 acc ∧ m = .bool mm ∧ acc ≤ 18446744073709551615 ∧ wr = w ∧ Hid (Cd.valF (s.take 25) 0 false = Cd.valF ((s.take 25).drop k) acc mm)) (fun i _ _ _ => 25 - (intOf i).toNat)
  case atStart => exact ⟨0, 0, false, Nat.zero_le _, by omega, rfl, rfl, rfl, by omega, rfl, Lib.hid rfl⟩
  case round =>
    obtain ⟨k, acc, mm, hk, hk2, rfl, rfl, rfl, ha, rfl, HN⟩ := hrel
    by_cases hlt : k < s.length ∧ k < 25
    · obtain ⟨hlt, hlt2⟩ := hlt
      obtain ⟨b, hb⟩ : ∃ b, s[k]? = some b := ⟨_, List.getElem?_eq_getElem hlt⟩
      have hx : ∀ h, ((⟨s.toArray⟩ : ByteArray)[k]'h) = b := fun h => (List.getElem?_eq_some_iff.1 hb).2
      have hb2 : (s.take 25)[k]? = some b := by rw [List.getElem?_take_of_lt hlt2]; exact hb
      have hd : (s.take 25).drop k = b :: (s.take 25).drop (k + 1) := by
        obtain ⟨h1, h2⟩ := List.getElem?_eq_some_iff.1 hb2
        rw [← h2]; exact (List.getElem_cons_drop h1).symm
      have hN := HN.out
      rw [hd, Cd.valF] at hN
      have j1 : (k : Int) < 25 := by omega
      by_cases c1 : b = 45
      · subst c1
        rw [if_pos rfl] at hN
        have HN2 := Lib.hid hN
        clear hd hN hb hb2 HN
        go_wp2_with fail
        go_roundw
        case rel => exact ⟨k + 1, acc, true, by omega, by omega, by go_num, rfl, rfl, ha, by first | rfl | trivial, HN2⟩
        case measure => simp [intOf]; omega
      · rw [if_neg c1] at hN
        obtain ⟨m, hm⟩ : ∃ m, b.toNat = m := ⟨_, rfl⟩
        rw [hm] at hN
        have HN2 := Lib.hid hN
        have hm0 : (0 : Int) ≤ (m : Int) := by omega
        have hm9 : (m : Int) ≤ 255 := by have := b.toNat_lt; omega
        have c2 : ¬ (m : Int) = 45 := by
          intro e
          apply c1
          apply UInt8.toNat_inj.1
          rw [hm]
          show m = 45
          omega
        obtain ⟨R, hR⟩ : ∃ R, m % 16 = R := ⟨_, rfl⟩
        have t1 : (m : Int).tmod 16 = (R : Int) := by rw [Int.tmod_eq_emod_of_nonneg hm0]; omega
        have r0 : (0 : Int) ≤ (R : Int) := by omega
        have r1 : (R : Int) ≤ 15 := by omega
        rw [hR] at HN2
        have hA : Hid (((((acc : Int) * 10) % 18446744073709551616 + (R : Int)) % 18446744073709551616) = (((acc * 10 + R) % 18446744073709551616 : Nat) : Int)) := Lib.hid (by omega)
        have hA2 : (acc * 10 + R) % 18446744073709551616 ≤ 18446744073709551615 := by omega
        obtain ⟨A2, hA3⟩ : ∃ x, (acc * 10 + R) % 18446744073709551616 = x := ⟨_, rfl⟩
        rw [hA3] at HN2 hA hA2
        clear hd hN hb hb2 HN c1 hR hA3
        go_wp2_with fail
        go_roundw
        case rel => exact ⟨k + 1, A2, mm, by omega, by omega, by go_num, by rw [← hA.out]; rfl, rfl, hA2, by first | rfl | trivial, HN2⟩
        case measure => simp [intOf]; omega
    · have hz : (s.take 25).drop k = [] := List.drop_of_length_le (by rw [List.length_take]; omega)
      have hN := HN.out
      rw [hz, Cd.valF] at hN
      have hv := HV.out
      unfold Cd.valV at hv
      rw [hN] at hv
      have HV2 := Lib.hid hv
      clear hN hv HN hz
      rcases mm with _ | _
      · have HF : Hid (wrap64 (acc : Int) = V) := Lib.hid (by rw [← HV2.out]; simp)
        rcases (show ¬ k < s.length ∨ (k < s.length ∧ ¬ k < 25) by omega) with h | ⟨h, h2⟩
        · skip
          go_wp2_with fail
          go_ret
          exact ⟨ret_i HF.out, rfl⟩
        · have h3 : ¬ (k : Int) < 25 := by omega
          go_wp2_with fail
          go_ret
          exact ⟨ret_i HF.out, rfl⟩
      · have HF : Hid (wrap64 (-(acc : Int)) = V) := Lib.hid (by rw [← HV2.out]; simp)
        have HF2 : Hid (wrap64 ((-(acc : Int)) % 18446744073709551616) = V) := Lib.hid (by rw [← HF.out]; unfold wrap64; omega)
        rcases (show ¬ k < s.length ∨ (k < s.length ∧ ¬ k < 25) by omega) with h | ⟨h, h2⟩
        · skip
          go_wp2_with fail
          go_ret
          exact ⟨ret_i HF2.out, rfl⟩
        · have h3 : ¬ (k : Int) < 25 := by omega
          go_wp2_with fail
          go_ret
          exact ⟨ret_i HF2.out, rfl⟩

set_option maxRecDepth 100000 in
set_option maxHeartbeats 2000000 in
theorem rcheck_any (l : List (Int × Int)) (A : Option Addr) (cap : Nat) (s c : Int) (hl : l.length ≤ 4611686018427387904) (w : World) (hR : Rd w w.heap.size A (l.flatMap iC)) :
    Calls Tryd.prog 25 #[.slice A l.length cap, .int .i64 s, .int .i64 c] w fun e w' => e = .returned (.tuple #[.int .i64 (chI l s c), .int .i64 (chE l s c)]) ∧ Below w.heap.size w w' := by
  have HR := Lib.hid hR
  clear hR
  by_cases hs : s < 0
  · have e1 : chI l s c = 0 := by unfold chI; rw [if_pos (.inl hs)]
    have e2 : chE l s c = 3 := by unfold chE; rw [if_pos (.inl hs)]
    rw [e1, e2]
    clear e1 e2
    go_enter Tryd.func25, Tryd.ntmps25
    go_wp2_with fail
    go_ret2
    exact ⟨rfl, Below.refl _ _⟩
  by_cases hc : c < 0
  · have e1 : chI l s c = 0 := by unfold chI; rw [if_pos (.inr hc)]
    have e2 : chE l s c = 3 := by unfold chE; rw [if_pos (.inr hc)]
    rw [e1, e2]
    clear e1 e2
    go_enter Tryd.func25, Tryd.ntmps25
    go_wp2_with fail
    go_ret2
    exact ⟨rfl, Below.refl _ _⟩
  have HS1 := Lib.hid (show 0 ≤ s by omega)
  have HS2 := Lib.hid (show 0 ≤ c by omega)
  obtain ⟨RI, hRI⟩ : ∃ r, chI l s c = r := ⟨_, rfl⟩
  obtain ⟨RE, hRE⟩ : ∃ r, chE l s c = r := ⟨_, rfl⟩
  rw [hRI, hRE]
  have HRI := Lib.hid hRI
  have HRE := Lib.hid hRE
  clear hRI hRE
  go_enter Tryd.func25, Tryd.ntmps25
  go_wp2_with fail
  go_loopw [8] (fun i wr => ∃ k : Nat, k ≤ l.length ∧ i = .int .i64 k ∧ Hid (Below w.heap.size w wr) ∧ Hid (∀ x ∈ l.take k, Cd.right x.1 x.2 l.length s c = true)) (fun i _ => l.length - (intOf i).toNat)
  case atStart => exact ⟨0, Nat.zero_le _, rfl, Lib.hid (Below.refl _ _), Lib.hid (by simp)⟩
  case round =>
    obtain ⟨k, hk, rfl, HB, HT⟩ := hrel
    by_cases hlt : k < l.length
    · obtain ⟨⟨op, a⟩, hv⟩ : ∃ v, l[k]? = some v := ⟨_, List.getElem?_eq_getElem hlt⟩
      obtain ⟨b1, o1, rfl, _, hc1⟩ := (HR.out.below HB.out).row (fun _ _ => iC_len _) hv (by decide)
      have x0 : wr.cell? ⟨b1, o1 + k * 2, none⟩ = some (.int .i64 op) := hc1 0 _ rfl
      have x1 : wr.cell? ⟨b1, o1 + k * 2 + 1, none⟩ = some (.int .i64 a) := hc1 1 _ rfl
      have HF := Lib.hid fun W => rright_any op a l.length s c W
      unfold iV at HF
      rcases hr : Cd.right op a l.length s c with _ | _
      · have HE := Lib.hid (bad_at HS1.out HS2.out hv HT.out hr)
        rw [hr] at HF
        clear hv hr hc1
        go_wp2_with fail
        refine (HF.out _).mono ?_
        rintro e w2 ⟨rfl, hb⟩
        have HB1 := Lib.hid (below_call HB.out hb)
        clear hb
        go_wp2_with fail
        go_ret2
        exact ⟨ret_ii (HE.out.1.symm.trans HRI.out) (HE.out.2.symm.trans HRE.out), HB1.out⟩
      · have HT2 := Lib.hid (good_at hv HT.out hr)
        rw [hr] at HF
        clear hv hr hc1
        go_wp2_with fail
        refine (HF.out _).mono ?_
        rintro e w2 ⟨rfl, hb⟩
        have HB1 := Lib.hid (below_call HB.out hb)
        clear hb
        go_wp2_with fail
        go_roundw
        case rel => exact ⟨k + 1, by omega, by go_num, HB1, HT2⟩
        case measure => simp [intOf]; omega
    · obtain rfl : k = l.length := by omega
      have HE := Lib.hid (all_good HS1.out HS2.out HT.out)
      go_wp2_with fail
      go_ret2
      exact ⟨ret_ii (HE.out.1.symm.trans HRI.out) (HE.out.2.symm.trans HRE.out), HB.out⟩

theorem wd_ne {op : Int} (h : Cd.known op) : wdOf op ≠ [] := by
  obtain ⟨h1, h2⟩ := h
  have key : ∀ i : Fin 18, 1 ≤ i.val → Cd.word i.val ≠ [] := by decide
  unfold wdOf
  rw [if_pos ⟨h1, h2⟩]
  exact key ⟨op.toNat, by omega⟩ (by show 1 ≤ op.toNat; omega)
set_option maxRecDepth 100000 in
set_option maxHeartbeats 4000000 in
theorem rtargets_any (op a at_ : Int) (w : World) :
    Calls Tryd.prog 18 #[iV op a, .int .i64 at_] w (TQ w (Cd.tgtL op a at_) (Cd.tgtE op a at_)) := by
  unfold iV
  have HB := Lib.hid (below_new (Below.refl w.heap.size w) (.cells #[.int .i64 op, .int .i64 a] 29))
  have HC := Lib.hid (Blk.new w 29 #[.int .i64 op, .int .i64 a])
  have HW := Lib.hid fun W => rword_any op W
  by_cases hk : Cd.known op
  · have hw := wd_ne hk
    obtain ⟨WD, hWD⟩ : ∃ x, wdOf op = x := ⟨_, rfl⟩
    rw [hWD] at hw HW
    have hw2 : (WD == ([] : List UInt8)) = false := by simpa using hw
    have HK := Lib.hid hk
    clear hWD hk
    have j4 : at_ ≤ 1000000 → at_ + 1 ≤ 9223372036854775807 := by omega
    by_cases hat : at_ < 0 ∨ 1000000 < at_
    · have hr : Cd.inR at_ ≠ true := by unfold Cd.inR; simp; omega
      have e1 : Cd.tgtL op a at_ = [] := by unfold Cd.tgtL; rw [if_neg (fun h => hr h.2.1)]
      have e2 : Cd.tgtE op a at_ = 3 := by unfold Cd.tgtE; rw [if_pos HK.out, if_neg (fun h => hr h.1)]
      rw [e1, e2]
      clear e1 e2 hr
      have q6 : op = 6 ∨ (op == 6) = false := by by_cases h : op = 6 <;> simp [h]
      have q7 : op = 7 ∨ (op == 7) = false := by by_cases h : op = 7 <;> simp [h]
      rcases hat with hat | hat
      · rcases q6 with rfl | q6
        · skip
          go_enter Tryd.func18, Tryd.ntmps18
          go_wp2_with fail
          refine (HW.out _).mono ?_
          rintro e w2 ⟨rfl, hb⟩
          have HB2 := Lib.hid (below_call HB.out hb)
          have HC2 := Lib.hid (HC.out.call hb)
          have c0 := HC2.out.cell 0
          have c1 := HC2.out.cell 1
          clear hb HB HC HW HK
          go_wp2_with fail
          go_ret2
          exact TQ.non HB2.out
        · rcases q7 with rfl | q7
          · skip
            go_enter Tryd.func18, Tryd.ntmps18
            go_wp2_with fail
            refine (HW.out _).mono ?_
            rintro e w2 ⟨rfl, hb⟩
            have HB2 := Lib.hid (below_call HB.out hb)
            have HC2 := Lib.hid (HC.out.call hb)
            have c0 := HC2.out.cell 0
            have c1 := HC2.out.cell 1
            clear hb HB HC HW HK
            go_wp2_with fail
            go_ret2
            exact TQ.non HB2.out
          · skip
            go_enter Tryd.func18, Tryd.ntmps18
            go_wp2_with fail
            refine (HW.out _).mono ?_
            rintro e w2 ⟨rfl, hb⟩
            have HB2 := Lib.hid (below_call HB.out hb)
            have HC2 := Lib.hid (HC.out.call hb)
            have c0 := HC2.out.cell 0
            have c1 := HC2.out.cell 1
            clear hb HB HC HW HK
            go_wp2_with fail
            go_ret2
            exact TQ.non HB2.out
      · rcases q6 with rfl | q6
        · skip
          have hat2 : ¬ at_ < 0 := by omega
          go_enter Tryd.func18, Tryd.ntmps18
          go_wp2_with fail
          refine (HW.out _).mono ?_
          rintro e w2 ⟨rfl, hb⟩
          have HB2 := Lib.hid (below_call HB.out hb)
          have HC2 := Lib.hid (HC.out.call hb)
          have c0 := HC2.out.cell 0
          have c1 := HC2.out.cell 1
          clear hb HB HC HW HK
          go_wp2_with fail
          go_ret2
          exact TQ.non HB2.out
        · rcases q7 with rfl | q7
          · skip
            have hat2 : ¬ at_ < 0 := by omega
            go_enter Tryd.func18, Tryd.ntmps18
            go_wp2_with fail
            refine (HW.out _).mono ?_
            rintro e w2 ⟨rfl, hb⟩
            have HB2 := Lib.hid (below_call HB.out hb)
            have HC2 := Lib.hid (HC.out.call hb)
            have c0 := HC2.out.cell 0
            have c1 := HC2.out.cell 1
            clear hb HB HC HW HK
            go_wp2_with fail
            go_ret2
            exact TQ.non HB2.out
          · skip
            have hat2 : ¬ at_ < 0 := by omega
            go_enter Tryd.func18, Tryd.ntmps18
            go_wp2_with fail
            refine (HW.out _).mono ?_
            rintro e w2 ⟨rfl, hb⟩
            have HB2 := Lib.hid (below_call HB.out hb)
            have HC2 := Lib.hid (HC.out.call hb)
            have c0 := HC2.out.cell 0
            have c1 := HC2.out.cell 1
            clear hb HB HC HW HK
            go_wp2_with fail
            go_ret2
            exact TQ.non HB2.out
    · have hr : Cd.inR at_ = true := by unfold Cd.inR; simp; omega
      have g1 : ¬ at_ < 0 := by omega
      have g2 : ¬ 1000000 < at_ := by omega
      replace j4 := j4 (by omega)
      have j5 : -9223372036854775808 ≤ at_ + 1 := by omega
      rcases (show (op = 6 ∨ op = 7) ∨ op = 16 ∨ (op ≠ 6 ∧ op ≠ 7 ∧ op ≠ 16) by omega) with hj | rfl | ⟨h6, h7, h16⟩
      · by_cases ha : a < 0 ∨ 1000000 < a
        · have hra : Cd.inR a ≠ true := by unfold Cd.inR; simp; omega
          have hjj : Cd.jumps op = true := by unfold Cd.jumps; simpa using hj
          have e1 : Cd.tgtL op a at_ = [] := by unfold Cd.tgtL; rw [if_neg (fun h => hra (h.2.2 hjj))]
          have e2 : Cd.tgtE op a at_ = 3 := by unfold Cd.tgtE; rw [if_pos HK.out, if_neg (fun h => hra (h.2 hjj))]
          rw [e1, e2]
          clear e1 e2 hra hjj hr
          rcases hj with rfl | rfl
          · rcases ha with ha | ha
            · skip
              go_enter Tryd.func18, Tryd.ntmps18
              go_wp2_with fail
              refine (HW.out _).mono ?_
              rintro e w2 ⟨rfl, hb⟩
              have HB2 := Lib.hid (below_call HB.out hb)
              have HC2 := Lib.hid (HC.out.call hb)
              have c0 := HC2.out.cell 0
              have c1 := HC2.out.cell 1
              clear hb HB HC HW HK
              go_wp2_with fail
              go_ret2
              exact TQ.non HB2.out
            · have ha2 : ¬ a < 0 := by omega
              go_enter Tryd.func18, Tryd.ntmps18
              go_wp2_with fail
              refine (HW.out _).mono ?_
              rintro e w2 ⟨rfl, hb⟩
              have HB2 := Lib.hid (below_call HB.out hb)
              have HC2 := Lib.hid (HC.out.call hb)
              have c0 := HC2.out.cell 0
              have c1 := HC2.out.cell 1
              clear hb HB HC HW HK
              go_wp2_with fail
              go_ret2
              exact TQ.non HB2.out
          · rcases ha with ha | ha
            · skip
              go_enter Tryd.func18, Tryd.ntmps18
              go_wp2_with fail
              refine (HW.out _).mono ?_
              rintro e w2 ⟨rfl, hb⟩
              have HB2 := Lib.hid (below_call HB.out hb)
              have HC2 := Lib.hid (HC.out.call hb)
              have c0 := HC2.out.cell 0
              have c1 := HC2.out.cell 1
              clear hb HB HC HW HK
              go_wp2_with fail
              go_ret2
              exact TQ.non HB2.out
            · have ha2 : ¬ a < 0 := by omega
              go_enter Tryd.func18, Tryd.ntmps18
              go_wp2_with fail
              refine (HW.out _).mono ?_
              rintro e w2 ⟨rfl, hb⟩
              have HB2 := Lib.hid (below_call HB.out hb)
              have HC2 := Lib.hid (HC.out.call hb)
              have c0 := HC2.out.cell 0
              have c1 := HC2.out.cell 1
              clear hb HB HC HW HK
              go_wp2_with fail
              go_ret2
              exact TQ.non HB2.out
        · have hra : Cd.inR a = true := by unfold Cd.inR; simp; omega
          have g3 : ¬ a < 0 := by omega
          have g4 : ¬ 1000000 < a := by omega
          have e2 : Cd.tgtE op a at_ = 0 := by unfold Cd.tgtE; rw [if_pos HK.out, if_pos ⟨hr, fun _ => hra⟩]
          have e0 : Cd.tgtL op a at_ = (if op = 16 then [] else if op = 6 then [a] else if op = 7 then (if a = at_ + 1 then [a] else if a < at_ + 1 then [a, at_ + 1] else [at_ + 1, a]) else [at_ + 1]) := by unfold Cd.tgtL; rw [if_pos ⟨HK.out, hr, fun _ => hra⟩]
          rw [e2]
          clear e2 hr hra ha hat
          rcases hj with rfl | rfl
          · have e1 : Cd.tgtL 6 a at_ = [a] := e0
            rw [e1]
            clear e0 e1
            go_enter Tryd.func18, Tryd.ntmps18
            go_wp2_with fail
            refine (HW.out _).mono ?_
            rintro e w2 ⟨rfl, hb⟩
            have HB2 := Lib.hid (below_call HB.out hb)
            have HC2 := Lib.hid (HC.out.call hb)
            have c0 := HC2.out.cell 0
            have c1 := HC2.out.cell 1
            clear hb HB HC HW HK
            go_wp2_with fail
            go_ret2
            exact ⟨_, _, rfl, Nat.le_refl _, (fun h => by cases h), rd_lit w2 3 [.int .i64 (a)], below_new HB2.out _⟩
          · rcases (show a = at_ + 1 ∨ a < at_ ∨ a = at_ ∨ at_ + 1 < a by omega) with h | h | h | h
            · have e1 : Cd.tgtL 7 a at_ = [at_ + 1] := by rw [e0, if_neg (by omega), if_neg (by omega), if_pos rfl, if_pos h, h]
              rw [e1]
              clear e0 e1
              subst h
              go_enter Tryd.func18, Tryd.ntmps18
              go_wp2_with fail
              refine (HW.out _).mono ?_
              rintro e w2 ⟨rfl, hb⟩
              have HB2 := Lib.hid (below_call HB.out hb)
              have HC2 := Lib.hid (HC.out.call hb)
              have c0 := HC2.out.cell 0
              have c1 := HC2.out.cell 1
              clear hb HB HC HW HK
              go_wp2_with fail
              go_ret2
              exact ⟨_, _, rfl, Nat.le_refl _, (fun h => by cases h), rd_lit w2 3 [.int .i64 (at_ + 1)], below_new HB2.out _⟩
            · have e1 : Cd.tgtL 7 a at_ = [a, at_ + 1] := by rw [e0, if_neg (by omega), if_neg (by omega), if_pos rfl, if_neg (by omega), if_pos (by omega)]
              rw [e1]
              clear e0 e1
              have h2 : (a == at_ + 1) = false := by simp; omega
              go_enter Tryd.func18, Tryd.ntmps18
              go_wp2_with fail
              refine (HW.out _).mono ?_
              rintro e w2 ⟨rfl, hb⟩
              have HB2 := Lib.hid (below_call HB.out hb)
              have HC2 := Lib.hid (HC.out.call hb)
              have c0 := HC2.out.cell 0
              have c1 := HC2.out.cell 1
              clear hb HB HC HW HK
              go_wp2_with fail
              go_ret2
              exact ⟨_, _, rfl, Nat.le_refl _, (fun h => by cases h), rd_lit w2 3 [.int .i64 (a), .int .i64 (at_ + 1)], below_new HB2.out _⟩
            · have e1 : Cd.tgtL 7 a at_ = [at_, at_ + 1] := by rw [e0, if_neg (by omega), if_neg (by omega), if_pos rfl, if_neg (by omega), if_pos (by omega), h]
              rw [e1]
              clear e0 e1
              have h' := h.symm
              subst h'
              have h2 : (at_ == at_ + 1) = false := by simp; omega
              have h3 : ¬ at_ < at_ := by omega
              clear h
              go_enter Tryd.func18, Tryd.ntmps18
              go_wp2_with fail
              refine (HW.out _).mono ?_
              rintro e w2 ⟨rfl, hb⟩
              have HB2 := Lib.hid (below_call HB.out hb)
              have HC2 := Lib.hid (HC.out.call hb)
              have c0 := HC2.out.cell 0
              have c1 := HC2.out.cell 1
              clear hb HB HC HW HK
              go_wp2_with fail
              go_ret2
              exact ⟨_, _, rfl, Nat.le_refl _, (fun h => by cases h), rd_lit w2 3 [.int .i64 (at_), .int .i64 (at_ + 1)], below_new HB2.out _⟩
            · have e1 : Cd.tgtL 7 a at_ = [at_ + 1, a] := by rw [e0, if_neg (by omega), if_neg (by omega), if_pos rfl, if_neg (by omega), if_neg (by omega)]
              rw [e1]
              clear e0 e1
              have h2 : (a == at_ + 1) = false := by simp; omega
              have h3 : ¬ a < at_ := by omega
              have h4 : (a == at_) = false := by simp; omega
              go_enter Tryd.func18, Tryd.ntmps18
              go_wp2_with fail
              refine (HW.out _).mono ?_
              rintro e w2 ⟨rfl, hb⟩
              have HB2 := Lib.hid (below_call HB.out hb)
              have HC2 := Lib.hid (HC.out.call hb)
              have c0 := HC2.out.cell 0
              have c1 := HC2.out.cell 1
              clear hb HB HC HW HK
              go_wp2_with fail
              go_ret2
              exact ⟨_, _, rfl, Nat.le_refl _, (fun h => by cases h), rd_lit w2 3 [.int .i64 (at_ + 1), .int .i64 (a)], below_new HB2.out _⟩
      · have e1 : Cd.tgtL 16 a at_ = [] := by unfold Cd.tgtL; rw [if_pos ⟨HK.out, hr, fun h => by cases h⟩]; rfl
        have e2 : Cd.tgtE 16 a at_ = 0 := by unfold Cd.tgtE; rw [if_pos HK.out, if_pos ⟨hr, fun h => by cases h⟩]
        rw [e1, e2]
        clear e1 e2 hr hat
        go_enter Tryd.func18, Tryd.ntmps18
        go_wp2_with fail
        refine (HW.out _).mono ?_
        rintro e w2 ⟨rfl, hb⟩
        have HB2 := Lib.hid (below_call HB.out hb)
        have HC2 := Lib.hid (HC.out.call hb)
        have c0 := HC2.out.cell 0
        have c1 := HC2.out.cell 1
        clear hb HB HC HW HK
        go_wp2_with fail
        go_ret2
        exact TQ.non HB2.out
      · have hjj : Cd.jumps op ≠ true := by unfold Cd.jumps; simp [h6, h7]
        have e1 : Cd.tgtL op a at_ = [at_ + 1] := by unfold Cd.tgtL; rw [if_pos ⟨HK.out, hr, fun h => absurd h hjj⟩, if_neg h16, if_neg h6, if_neg h7]
        have e2 : Cd.tgtE op a at_ = 0 := by unfold Cd.tgtE; rw [if_pos HK.out, if_pos ⟨hr, fun h => absurd h hjj⟩]
        rw [e1, e2]
        have b6 : (op == 6) = false := by simpa using h6
        have b7 : (op == 7) = false := by simpa using h7
        have b16 : (op == 16) = false := by simpa using h16
        have d7 : (op != 7) = true := by simpa using h7
        clear e1 e2 hr hat hjj
        go_enter Tryd.func18, Tryd.ntmps18
        go_wp2_with fail
        refine (HW.out _).mono ?_
        rintro e w2 ⟨rfl, hb⟩
        have HB2 := Lib.hid (below_call HB.out hb)
        have HC2 := Lib.hid (HC.out.call hb)
        have c0 := HC2.out.cell 0
        have c1 := HC2.out.cell 1
        clear hb HB HC HW HK
        go_wp2_with fail
        go_ret2
        exact ⟨_, _, rfl, Nat.le_refl _, (fun h => by cases h), rd_lit w2 3 [.int .i64 (at_ + 1)], below_new HB2.out _⟩
  · have e1 : Cd.tgtL op a at_ = [] := by unfold Cd.tgtL; rw [if_neg (fun h => hk h.1)]
    have e2 : Cd.tgtE op a at_ = 2 := by unfold Cd.tgtE; rw [if_neg hk]
    have e3 : wdOf op = [] := by unfold wdOf; rw [if_neg hk]
    rw [e1, e2]
    rw [e3] at HW
    have HK := Lib.hid hk
    clear e1 e2 e3 hk
    go_enter Tryd.func18, Tryd.ntmps18
    go_wp2_with fail
    refine (HW.out _).mono ?_
    rintro e w2 ⟨rfl, hb⟩
    have HB2 := Lib.hid (below_call HB.out hb)
    have HC2 := Lib.hid (HC.out.call hb)
    have c0 := HC2.out.cell 0
    have c1 := HC2.out.cell 1
    clear hb HB HC HW HK
    go_wp2_with fail
    go_ret2
    exact TQ.non HB2.out
end Go.Proofs.YtmmehfkiceelkaaDoor

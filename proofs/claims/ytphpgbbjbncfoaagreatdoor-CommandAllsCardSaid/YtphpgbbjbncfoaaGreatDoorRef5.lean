/-
  LAYER 42, THE REFERENCE: Unquote.
-/
import Derived.Test.YtphpgbbjbncfoaaGreatDoorRef1
import Derived.Test.YtphpgbbjbncfoaaGreatDoorComWo
namespace Go.Proofs.YtphpgbbjbncfoaaGreatDoor
open Go.ChangeShapes Go.WideShapes Go.ChangeAt Go.RowKit

/-- Where no byte is found that stands quoted there, none begins. -/
theorem first_none {R : List UInt8} (h : ∀ c : UInt8, R.take (Cmd.q1 c).length ≠ Cmd.q1 c) : Cmd.firstQ R = none := by
  cases hq : Cmd.firstQ R with
  | none => rfl
  | some p =>
    obtain ⟨c, n⟩ := p
    obtain ⟨x, e, _⟩ := Cmd.first_is hq
    exact absurd (by rw [e, List.take_left]) (h c)
theorem ofNat_toNat_byte {j : Nat} (h : j < 256) : ((UInt8.ofNat j).toNat : Int) = (j : Int) := by
  rw [UInt8.toNat_ofNat']
  omega

set_option maxHeartbeats 8000000 in
set_option maxRecDepth 20000 in
/-- The reference's Unquote. -/
theorem runquote_any (l : List UInt8) (hl : l.length ≤ 1000000) (w : World) :
    Calls Tryz.prog 23 #[.string ⟨l.toArray⟩] w fun e w' => e = .returned (.tuple #[.string ⟨(unqS l).toArray⟩, .int .i64 (unqE l)]) ∧ Below w.heap.size w w' := by
  obtain ⟨i0, hi, hz0, hz1, hz2⟩ := info_parts info_u8
  obtain ⟨U, hU⟩ : ∃ x, unqS l = x := ⟨_, rfl⟩
  obtain ⟨E, hE⟩ : ∃ x, unqE l = x := ⟨_, rfl⟩
  rw [hU, hE]
  have HU := Lib.hid hU
  have HE := Lib.hid hE
  clear hU hE
  go_enter Tryz.func23, Tryz.ntmps23
  go_wp2_with fail
  go_loopw [4, 5] (fun v a wr => ∃ (p : Nat) (s : List UInt8), p ≤ l.length ∧ a = .int .i64 p ∧ s.length ≤ p ∧ Hid (Cmd.quote s = l.take p) ∧ Hid (wr.ownsRow w.heap.size 5 1 v s.length (bytesV s)) ∧ Hid (Below w.heap.size w wr)) (fun _ a _ => l.length - (intOf a).toNat)
  case atStart => exact ⟨0, [], Nat.zero_le _, rfl, Nat.le_refl _, Lib.hid rfl, Lib.hid (World.ownsRow_nil _ _ _ _), Lib.hid (Below.refl _ _)⟩
  case round =>
    obtain ⟨p, s, hp, rfl, hsp, HS, HO, HB⟩ := hrel
    by_cases hpl : p < l.length
    · have p1 : (p : Int) < (l.length : Int) := by omega
      have p0 : (0 : Int) ≤ (p : Int) := by omega
      go_wp2_with fail
      go_loopw [4, 5, 6, 7] (fun v a f c wr => ∃ (j q : Nat) (t : List UInt8) (fd : Bool), j ≤ 256 ∧ c = .int .i64 j ∧ f = .bool fd ∧ a = .int .i64 q ∧ q ≤ l.length ∧ t.length ≤ q ∧ Hid (Cmd.quote t = l.take q) ∧ Hid (wr.ownsRow w.heap.size 5 1 v t.length (bytesV t)) ∧ Hid (Below w.heap.size w wr) ∧ Hid (if fd = true then p < q else q = p ∧ t = s ∧ ∀ c : UInt8, c.toNat < j → (l.drop p).take (Cmd.q1 c).length ≠ Cmd.q1 c)) (fun _ _ _ c _ => 256 - (intOf c).toNat)
      case atStart => exact ⟨0, p, s, false, Nat.zero_le _, rfl, rfl, rfl, hp, hsp, HS, HO, HB, Lib.hid (by rw [if_neg (by decide)]; exact ⟨rfl, rfl, fun c h => absurd h (Nat.not_lt_zero _)⟩)⟩
      case round =>
        obtain ⟨j, q, t, fd, hj, rfl, rfl, rfl, hq, htq, HT, HOi, HBi, HF⟩ := hrel
        by_cases hj2 : j < 256
        · have j1 : (j : Int) < 256 := by omega
          cases fd with
          | true =>
            have hF := HF.out
            rw [if_pos rfl] at hF
            go_wp2_with fail
            go_roundw
            case rel => exact ⟨q, t, hq, rfl, htq, HT, HOi, HBi⟩
            case measure => simp [intOf]; omega
          | false =>
            have hF := HF.out
            rw [if_neg (by decide)] at hF
            obtain ⟨rfl, rfl, hno⟩ := hF
            have HNo := Lib.hid hno
            have hc256 := ofNat_toNat_byte hj2
            obtain ⟨c, hc⟩ : ∃ c, UInt8.ofNat j = c := ⟨_, rfl⟩
            rw [hc] at hc256
            have HQ : Hid (∀ W, Calls Tryz.prog 47 #[.int .u8 (j : Int)] W fun e w' => e = .returned (.string ⟨(Cmd.q1 c).toArray⟩) ∧ Below W.heap.size W w') := Lib.hid fun W => by
              have := rquoted_any c W
              rwa [hc256] at this
            have HQ1 := Lib.hid (Cmd.quote_snoc t c)
            have hql := Cmd.q1_len c
            have HCJ : Hid (c.toNat = j) := Lib.hid (by omega)
            have HNN : Hid ((l.drop q).take (Cmd.q1 c).length ≠ Cmd.q1 c → ∀ d : UInt8, d.toNat < j + 1 → (l.drop q).take (Cmd.q1 d).length ≠ Cmd.q1 d) := Lib.hid (fun h d hd => by
              by_cases hdj : d.toNat < j
              · exact HNo.out d hdj
              · have : d = c := UInt8.toNat_inj.1 (by have := HCJ.out; omega)
                rw [this]; exact h)
            clear hno hc HF
            generalize Cmd.q1 c = Q at *
            have j0 : (0 : Int) ≤ (j : Int) := by omega
            have hdl : (l.drop q).length = l.length - q := List.length_drop
            by_cases hfit : q + Q.length ≤ l.length
            · have f1 : (q : Int) + (Q.length : Int) ≤ (l.length : Int) := by omega
              have f2 : (q : Int) ≤ (q : Int) + (Q.length : Int) := by omega
              have f3 : (0 : Int) ≤ (q : Int) + (Q.length : Int) := by omega
              have hcut : (⟨l.toArray⟩ : ByteArray).extract q (q + Q.length) = ⟨((l.drop q).take Q.length).toArray⟩ := by rw [mk_extract, Nat.add_sub_cancel_left]
              obtain ⟨T, hT⟩ : ∃ x, (l.drop q).take Q.length = x := ⟨_, rfl⟩
              rw [hT] at hcut HNN
              by_cases hTQ : T = Q
              · have e1 := eq_yes hTQ
                have HT2 : Hid (Cmd.quote (t ++ [c]) = l.take (q + Q.length)) := Lib.hid (by rw [HQ1.out, HT.out, List.take_add, hT, hTQ])
                clear hTQ hT
                go_wp2_with fail
                refine (HQ.out _).mono ?_
                rintro e w2 ⟨rfl, hb⟩
                have hown := own_below HOi.out hb
                have HBj := Lib.hid (HBi.out.trans (hb.mono HBi.out.size))
                clear hb
                go_wp2_with (at_builtin; refine wpList_append_own _ rfl _ _ 30 rfl w.heap.size 5 i0 (.int .u8 0) 1 1 Tryz.underlying30 hi hz0 hz1 hz2 rfl (by decide) _ _ _ rfl (hown.alloc _) ⟨w2.heap.size, 0, none⟩ 1 1 [.int .u8 (j : Int)] rfl rfl ?c1 ?c2 ?c3 ?c4 ?c5 ?_)
                case c1 => exact one_news w2 5 (.int .u8 (j : Int))
                case c2 => intro u hu; simp at hu; subst hu; rfl
                case c3 => unfold maxLen; omega
                case c4 => omega
                case c5 => have := HBj.out.size; simp; omega
                intro v' w4 hown4 hg4 _
                have HO4 : Hid (w4.ownsRow w.heap.size 5 1 v' (t ++ [c]).length (bytesV (t ++ [c]))) := Lib.hid (by
                  rw [List.length_append, bytesV_append, show bytesV [c] = [.int .u8 (j : Int)] by unfold bytesV; simp [hc256]]
                  exact hown4)
                have HB4 := Lib.hid ((below_new HBj.out (.cells #[.int .u8 (j : Int)] 5)).grown hg4 (by have := HBj.out.size; simp; omega) (fun g hg => (hown.lt g hg).1))
                clear hown hown4 hg4
                go_wp2_with fail
                go_roundw
                case rel => exact ⟨j + 1, q + Q.length, t ++ [c], true, by omega, by go_num, rfl, by go_num, hfit, by simp; omega, HT2, HO4, HB4, Lib.hid (by rw [if_pos rfl]; omega)⟩
                case measure => simp [intOf]; omega
              · have e1 := eq_no hTQ
                have HN2 := Lib.hid (HNN.out hTQ)
                clear hTQ hT
                go_wp2_with fail
                refine (HQ.out _).mono ?_
                rintro e w2 ⟨rfl, hb⟩
                have HO2 := Lib.hid (own_below HOi.out hb)
                have HB2 := Lib.hid (HBi.out.trans (hb.mono HBi.out.size))
                clear hb
                go_wp2_with fail
                go_roundw
                case rel => exact ⟨j + 1, q, t, false, by omega, by go_num, rfl, rfl, hq, htq, HT, HO2, HB2, Lib.hid (by rw [if_neg (by decide)]; exact ⟨rfl, rfl, HN2.out⟩)⟩
                case measure => simp [intOf]; omega
            · have f1 : ¬ (q : Int) + (Q.length : Int) ≤ (l.length : Int) := by omega
              have HN2 := Lib.hid (HNN.out (fun e => by
                have := congrArg List.length e
                rw [List.length_take, hdl] at this
                omega))
              go_wp2_with fail
              refine (HQ.out _).mono ?_
              rintro e w2 ⟨rfl, hb⟩
              have HO2 := Lib.hid (own_below HOi.out hb)
              have HB2 := Lib.hid (HBi.out.trans (hb.mono HBi.out.size))
              clear hb
              go_wp2_with fail
              go_roundw
              case rel => exact ⟨j + 1, q, t, false, by omega, by go_num, rfl, rfl, hq, htq, HT, HO2, HB2, Lib.hid (by rw [if_neg (by decide)]; exact ⟨rfl, rfl, HN2.out⟩)⟩
              case measure => simp [intOf]; omega
        · obtain rfl : j = 256 := by omega
          rw [show ((256 : Nat) : Int) = 256 from rfl]
          cases fd with
          | true =>
            have hF := HF.out
            rw [if_pos rfl] at hF
            go_wp2_with fail
            go_roundw
            case rel => exact ⟨q, t, hq, rfl, htq, HT, HOi, HBi⟩
            case measure => simp [intOf]; omega
          | false =>
            have hF := HF.out
            rw [if_neg (by decide)] at hF
            obtain ⟨rfl, rfl, hno⟩ := hF
            have hun := unq_no (unq_stuck HT.out (fun e => by
              have := congrArg List.length e
              rw [List.length_drop] at this
              simp at this
              omega) (first_none fun c => hno c (by have := c.toNat_lt; omega)))
            have HV : Hid (U = [] ∧ E = 7) := Lib.hid (by rw [← HU.out, ← HE.out]; exact hun)
            clear hno hun HF
            go_wp2_with fail
            go_ret2
            exact ⟨by rw [HV.out.1, HV.out.2]; rfl, HBi.out⟩
    · obtain rfl : p = l.length := by omega
      have hT := HS.out
      rw [List.take_length] at hT
      have hun := unq_yes hT
      have HV : Hid (U = s ∧ E = 0) := Lib.hid (by rw [← HU.out, ← HE.out]; exact hun)
      have hconv := run_own_string (P := Tryz.prog) wr 30 9 5 _ _ w.heap.size s Tryz.underlying30 Tryz.underlying5 Tryz.underlying9 rfl HO.out
      clear hT hun
      go_wp2_with fail
      go_ret2
      exact ⟨by rw [HV.out.1, HV.out.2]; rfl, HB.out⟩
end Go.Proofs.YtphpgbbjbncfoaaGreatDoor

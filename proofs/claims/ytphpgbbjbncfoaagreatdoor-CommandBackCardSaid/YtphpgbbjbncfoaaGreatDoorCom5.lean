/-
  LAYER 42: command.Unquote.
-/
import Derived.Test.YtphpgbbjbncfoaaGreatDoorCom4
namespace Go.Proofs.YtphpgbbjbncfoaaGreatDoor
open Go.ChangeShapes Go.WideShapes Go.ChangeAt Go.RowKit

def unqS (l : List UInt8) : List UInt8 := (Cmd.unq l).getD []
def unqE (l : List UInt8) : Int := if (Cmd.unq l).isSome = true then 0 else 7
theorem unq_yes {l s : List UInt8} (h : Cmd.quote s = l) : unqS l = s ∧ unqE l = 0 := by
  unfold unqS unqE
  rw [Cmd.unq_iff.2 h]
  exact ⟨rfl, rfl⟩
theorem unq_no {l : List UInt8} (h : Cmd.unq l = none) : unqS l = [] ∧ unqE l = 7 := by
  unfold unqS unqE
  rw [h]
  exact ⟨rfl, rfl⟩
theorem quote_ahead : ∀ (s t r : List UInt8), Cmd.quote t = Cmd.quote s ++ r → ∃ t', t = s ++ t' ∧ Cmd.quote t' = r
  | [], t, r, h => ⟨t, rfl, h⟩
  | c :: s, t, r, h => by
    rw [Cmd.quote_cons, List.append_assoc] at h
    cases t with
    | nil =>
      have := congrArg List.length h
      have h1 := (Cmd.q1_len c).1
      rw [List.length_append] at this
      simp [Cmd.quote] at this
      omega
    | cons d t =>
      rw [Cmd.quote_cons] at h
      have e1 := Cmd.first_quoted d (Cmd.quote t)
      rw [h, Cmd.first_quoted] at e1
      obtain rfl : c = d := by injection e1 with e1; injection e1
      obtain ⟨t', rfl, h2⟩ := quote_ahead s t r (List.append_cancel_left h)
      exact ⟨t', rfl, h2⟩
/-- Where no quoted byte begins, the string was not quoted. -/
theorem unq_stuck {l s : List UInt8} {p : Nat} (h : Cmd.quote s = l.take p) (hn : l.drop p ≠ []) (hf : Cmd.firstQ (l.drop p) = none) : Cmd.unq l = none := by
  cases hu : Cmd.unq l with
  | none => rfl
  | some t =>
    have ht := Cmd.unq_iff.1 hu
    obtain ⟨t', _, h2⟩ := quote_ahead s t (l.drop p) (by rw [ht, h, List.take_append_drop])
    cases t' with
    | nil => exact absurd h2.symm hn
    | cons c r =>
      rw [← h2, Cmd.quote_cons, Cmd.first_quoted] at hf
      cases hf
theorem quote_single (c : UInt8) : Cmd.quote [c] = Cmd.q1 c := by simp [Cmd.quote]

set_option maxHeartbeats 2000000 in
set_option maxRecDepth 20000 in
/-- command.Unquote. -/
theorem unquote_any (l : List UInt8) (hl : l.length ≤ 1000000) (w : World) (hG : Good w) :
    Calls Tryz.prog 22 #[.string ⟨l.toArray⟩] w fun e w' => e = .returned (.tuple #[.string ⟨(unqS l).toArray⟩, .int .i64 (unqE l)]) ∧ Below w.heap.size w w' := by
  obtain ⟨i0, hi, hz⟩ := Option.map_eq_some_iff.1 info_u8
  simp only [Prod.mk.injEq] at hz
  obtain ⟨hz0, hz1, hz2⟩ := hz
  have HG := Lib.hid hG
  clear hG
  go_enter Tryz.func22, Tryz.ntmps22
  go_wp2_with fail
  go_loopw [4, 5] (fun u4 u5 wr => ∃ (p : Nat) (s R : List UInt8), p ≤ l.length ∧ u5 = .string ⟨R.toArray⟩ ∧ Hid (R = l.drop p) ∧ Hid (Cmd.quote s = l.take p) ∧ Hid (wr.ownsRow w.heap.size 5 1 u4 s.length (bytesV s)) ∧ Hid (Below w.heap.size w wr)) (fun _ i _ => match i with | .string b => b.size | _ => 0)
  case atStart => exact ⟨0, [], l, Nat.zero_le _, rfl, Lib.hid rfl, Lib.hid rfl, Lib.hid (World.ownsRow_nil w _ _ _), Lib.hid (Below.refl _ _)⟩
  case round =>
    obtain ⟨p, s, R, hp, rfl, HR, HS, HO, HB⟩ := hrel
    have hsl : s.length ≤ p := by
      have h1 := (Cmd.quote_len s).1
      rw [HS.out, List.length_take] at h1
      omega
    have hRl : R.length = l.length - p := by rw [HR.out, List.length_drop]
    have hRb : R.length ≤ 1000000 := by omega
    have HRl := Lib.hid hRl
    clear hRl
    by_cases hne : R = []
    · have hemp : R.isEmpty = true := by rw [hne]; rfl
      have hpl : p = l.length := by have hRl := HRl.out; rw [hne] at hRl; simp at hRl; omega
      have HE := Lib.hid (unq_yes (l := l) (s := s) (by rw [HS.out, hpl, List.take_length]))
      have hconv := run_own_string (P := Tryz.prog) wr 30 9 5 _ _ w.heap.size s Tryz.underlying30 Tryz.underlying5 Tryz.underlying9 rfl HO.out
      clear hne
      go_wp2_with fail
      go_ret2
      exact ⟨by rw [HE.out.1, HE.out.2]; rfl, HB.out⟩
    · have hemp : R.isEmpty = false := by cases R with
        | nil => exact absurd rfl hne
        | cons a r => rfl
      have HN := Lib.hid hne
      clear hne
      go_wp2_with fail
      refine (first_any R HN.out (by omega) _ (HG.out.below HB.out (Nat.le_refl _))).mono ?_
      rintro e w2 ⟨⟨c, n, rfl, hok⟩, hb2⟩
      have HB2 := Lib.hid (below_call HB.out hb2)
      have HO2 := Lib.hid (own_below HO.out hb2)
      clear hb2
      rcases hok with ⟨rfl, hf⟩ | ⟨hn0, hnl, hq⟩ | ⟨hn0, hnl, hq, hf⟩
      · have HE := Lib.hid (unq_no (unq_stuck HS.out (by rw [← HR.out]; exact HN.out) (by rw [← HR.out]; exact hf)))
        clear hf
        rw [show ((0 : Nat) : Int) = 0 from rfl]
        go_wp2_with fail
        go_region
        go_wp2_with fail
        go_ret2
        exact ⟨by rw [HE.out.1, HE.out.2]; rfl, HB2.out.drew⟩
      · have h0 : ((n : Int) == 0) = false := by simp; omega
        have h1 : ¬ (n : Int) = 0 := by omega
        obtain ⟨T, hT⟩ : ∃ T, R.take n = T := ⟨_, rfl⟩
        obtain ⟨R2, hR2⟩ : ∃ R2, R.drop n = R2 := ⟨_, rfl⟩
        obtain ⟨C, hC⟩ : ∃ C, Cmd.q1 c = C := ⟨_, rfl⟩
        rw [hT, hC] at hq
        have hpn : p + n ≤ l.length := by have := HRl.out; omega
        have hx1 : (⟨R.toArray⟩ : ByteArray).extract 0 n = ⟨T.toArray⟩ := by rw [mk_extract, ← hT]; rfl
        have hx2 : (⟨R.toArray⟩ : ByteArray).extract n R.length = ⟨R2.toArray⟩ := by rw [mk_extract, ← hR2, List.take_of_length_le (by rw [List.length_drop]; omega)]
        have hcv := run_convert_bytes_back (P := Tryz.prog) (w2.alloc (.cells #[.int .u8 (c.toNat : Int)] 5)).drew 30 9 5 ⟨w2.heap.size, 0, none⟩ 1 [c] Tryz.underlying30 Tryz.underlying5 Tryz.underlying9 (fun j hj => by
          obtain rfl : j = 0 := by simp at hj; omega
          exact one_news w2 _ _ 0 _ rfl)
        rw [show [c].length = 1 from rfl] at hcv
        subst hq
        have HT := Lib.hid hT
        have HR2 := Lib.hid hR2
        have HC := Lib.hid hC
        clear hT hR2 hC
        have HS2 : Hid (Cmd.quote (s ++ [c]) = l.take (p + n)) := Lib.hid (by
          rw [Cmd.quote_snoc, HS.out, HC.out, ← HT.out, HR.out, List.take_add])
        have HRR : Hid (R2 = l.drop (p + n)) := Lib.hid (by rw [← HR2.out, HR.out, List.drop_drop])
        have hR2l : R2.length = R.length - n := by rw [← HR2.out, List.length_drop]
        go_wp2_with fail
        go_region_with (go_at_call 24; refine (quote_any [c] (by simp) _).mono ?_; rintro e w' ⟨rfl, hb⟩; rw [quote_single, HC.out])
        all_goals (
          have HB3 := Lib.hid (below_call (below_new HB2.out (.cells #[.int .u8 (c.toNat : Int)] 5)).drew hb)
          have hown3 := own_below (own_below HO2.out ((Below.refl w2.heap.size w2).alloc (Nat.le_refl _) _).drew) hb
          have hsz := HB3.out.size
          clear hb
          go_wp2_with (at_builtin; refine wpList_append_own _ rfl _ _ 30 rfl w.heap.size 5 i0 (.int .u8 0) 1 1 Tryz.underlying30 hi hz0 hz1 hz2 rfl (by decide) _ _ _ rfl (hown3.alloc _) ⟨w'.heap.size, 0, none⟩ 1 1 [.int .u8 (c.toNat : Int)] rfl rfl ?d1 ?d2 ?d3 ?d4 ?d5 ?_)
          case d1 => exact news_all _ _ _
          case d2 => intro u hu; simp at hu; subst hu; rfl
          case d3 => unfold maxLen; omega
          case d4 => omega
          case d5 => simp; omega
          intro v' w4 hown4 hg4 _
          have HB4 := Lib.hid ((below_new HB3.out _).grown hg4 (by simp; omega) (fun g hg => (hown3.lt g hg).1))
          have HO4 : Hid (w4.ownsRow w.heap.size 5 1 v' (s ++ [c]).length (bytesV (s ++ [c]))) := Lib.hid (by
            rw [List.length_append, bytesV_append]
            exact hown4)
          clear hown3 hown4 hg4
          go_wp2_with fail
          go_roundw
          case rel => exact ⟨p + n, s ++ [c], R2, by omega, rfl, HRR, HS2, HO4, HB4⟩
          case measure => show R2.length < R.length; omega)
      · have h0 : ((n : Int) == 0) = false := by simp; omega
        have h1 : ¬ (n : Int) = 0 := by omega
        obtain ⟨T, hT⟩ : ∃ T, R.take n = T := ⟨_, rfl⟩
        obtain ⟨R2, hR2⟩ : ∃ R2, R.drop n = R2 := ⟨_, rfl⟩
        obtain ⟨C, hC⟩ : ∃ C, Cmd.q1 c = C := ⟨_, rfl⟩
        rw [hT, hC] at hq
        have hpn : p + n ≤ l.length := by have := HRl.out; omega
        have hx1 : (⟨R.toArray⟩ : ByteArray).extract 0 n = ⟨T.toArray⟩ := by rw [mk_extract, ← hT]; rfl
        have hx2 : (⟨R.toArray⟩ : ByteArray).extract n R.length = ⟨R2.toArray⟩ := by rw [mk_extract, ← hR2, List.take_of_length_le (by rw [List.length_drop]; omega)]
        have hcv := run_convert_bytes_back (P := Tryz.prog) (w2.alloc (.cells #[.int .u8 (c.toNat : Int)] 5)).drew 30 9 5 ⟨w2.heap.size, 0, none⟩ 1 [c] Tryz.underlying30 Tryz.underlying5 Tryz.underlying9 (fun j hj => by
          obtain rfl : j = 0 := by simp at hj; omega
          exact one_news w2 _ _ 0 _ rfl)
        rw [show [c].length = 1 from rfl] at hcv
        have hqf : (C == T) = false := by simpa using hq
        have HE := Lib.hid (unq_no (unq_stuck HS.out (by rw [← HR.out]; exact HN.out) (by rw [← HR.out]; exact hf)))
        have HC := Lib.hid hC
        clear hf hq hT hR2 hC
        go_wp2_with fail
        go_region_with (go_at_call 24; refine (quote_any [c] (by simp) _).mono ?_; rintro e w' ⟨rfl, hb⟩; rw [quote_single, HC.out])
        all_goals (
          have HB3 := Lib.hid (below_call (below_new HB2.out (.cells #[.int .u8 (c.toNat : Int)] 5)).drew hb)
          clear hb
          go_wp2_with fail
          go_ret2
          exact ⟨by rw [HE.out.1, HE.out.2]; rfl, HB3.out⟩)
end Go.Proofs.YtphpgbbjbncfoaaGreatDoor

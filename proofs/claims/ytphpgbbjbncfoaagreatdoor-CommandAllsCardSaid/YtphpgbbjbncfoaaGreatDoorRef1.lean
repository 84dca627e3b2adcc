/-
  LAYER 42, THE REFERENCE: quoted, Quote, Word, most, text.
-/
import Derived.Test.YtphpgbbjbncfoaaGreatDoorComN
import Derived.Test.YtphpgbbjbncfoaaGreatDoorCom13
import Derived.BigQuiet
namespace Go.Proofs.YtphpgbbjbncfoaaGreatDoor
open Go.ChangeShapes Go.WideShapes Go.ChangeAt Go.RowKit

theorem hex_piece (m : Nat) (h : m < 16) : ({ data := #[48, 49, 50, 51, 52, 53, 54, 55, 56, 57, 97, 98, 99, 100, 101, 102] } : ByteArray).extract m (m + 1) = ⟨[Cmd.hexd m].toArray⟩ := by
  have key : ∀ i : Fin 16, ({ data := #[48, 49, 50, 51, 52, 53, 54, 55, 56, 57, 97, 98, 99, 100, 101, 102] } : ByteArray).extract i.val (i.val + 1) = ⟨[Cmd.hexd i.val].toArray⟩ := by decide +kernel
  exact key ⟨m, h⟩
theorem hex_whole (c : UInt8) : (⟨#[92, 120]⟩ ++ ({ data := #[48, 49, 50, 51, 52, 53, 54, 55, 56, 57, 97, 98, 99, 100, 101, 102] } : ByteArray).extract (c.toNat / 16) (c.toNat / 16 + 1) ++ ({ data := #[48, 49, 50, 51, 52, 53, 54, 55, 56, 57, 97, 98, 99, 100, 101, 102] } : ByteArray).extract (c.toNat % 16) (c.toNat % 16 + 1) : ByteArray) = ⟨[92, 120, Cmd.hexd (c.toNat / 16), Cmd.hexd (c.toNat % 16)].toArray⟩ := by
  have := c.toNat_lt
  rw [hex_piece _ (by omega), hex_piece _ (by omega), show (⟨#[92, 120]⟩ : ByteArray) = ⟨[92, 120].toArray⟩ from rfl, ByteArray.mk_append_mk, ByteArray.mk_append_mk]
  rfl

set_option maxHeartbeats 2000000 in
set_option maxRecDepth 20000 in
/-- The reference's quoted. -/
theorem rquoted_any (c : UInt8) (w : World) :
    Calls Tryz.prog 47 #[.int .u8 (c.toNat : Int)] w fun e w' => e = .returned (.string ⟨(Cmd.q1 c).toArray⟩) ∧ Below w.heap.size w w' := by
  have hlt := c.toNat_lt
  cases hs : shB c with
  | true =>
    have h : c = 10 ∨ c = 13 ∨ c = 9 ∨ c = 92 := by unfold shB at hs; simpa [or_assoc] using hs
    clear hs hlt
    rcases h with rfl | rfl | rfl | rfl
    all_goals go_enter Tryz.func47, Tryz.ntmps47
    all_goals go_wp2
    all_goals go_ret
    all_goals exact ⟨rfl, Below.refl _ _⟩
  | false =>
    have h : c ≠ 10 ∧ c ≠ 13 ∧ c ≠ 9 ∧ c ≠ 92 := by unfold shB at hs; simpa [and_assoc] using hs
    have h1 : ((c.toNat : Int) == 10) = false := byte_ne h.1
    have h2 : ((c.toNat : Int) == 13) = false := byte_ne h.2.1
    have h3 : ((c.toNat : Int) == 9) = false := byte_ne h.2.2.1
    have h4 : ((c.toNat : Int) == 92) = false := byte_ne h.2.2.2
    have k1 : ¬ (c.toNat : Int) = 10 := by simpa using h1
    have k2 : ¬ (c.toNat : Int) = 13 := by simpa using h2
    have k3 : ¬ (c.toNat : Int) = 9 := by simpa using h3
    have k4 : ¬ (c.toNat : Int) = 92 := by simpa using h4
    have c0 : (0 : Int) ≤ (c.toNat : Int) := by omega
    have c1 : (c.toNat : Int) ≤ 255 := by omega
    clear h
    by_cases hx : c.toNat < 32 ∨ 126 < c.toNat
    · have HQ := Lib.hid (q1_hex hs hx)
      have t1 : (c.toNat : Int).tdiv 16 = (c.toNat : Int) / 16 := Int.tdiv_eq_ediv_of_nonneg c0
      have t2 : (c.toNat : Int).tmod 16 = (c.toNat : Int) % 16 := Int.tmod_eq_emod_of_nonneg c0
      have g1 : (0 : Int) ≤ (c.toNat : Int) / 16 := by omega
      have g2 : (c.toNat : Int) / 16 ≤ 15 := by omega
      have g3 : (0 : Int) ≤ (c.toNat : Int) % 16 := by omega
      have g4 : (c.toNat : Int) % 16 ≤ 15 := by omega
      have g5 : (c.toNat : Int) / 16 + 1 ≤ 16 := by omega
      have g6 : (c.toNat : Int) % 16 + 1 ≤ 16 := by omega
      have g7 : (c.toNat : Int) / 16 ≤ (c.toNat : Int) / 16 + 1 := by omega
      have g8 : (c.toNat : Int) % 16 ≤ (c.toNat : Int) % 16 + 1 := by omega
      clear hs
      rcases hx with hx | hx
      · have b1 : (c.toNat : Int) < 32 := by omega
        clear hx
        go_enter Tryz.func47, Tryz.ntmps47
        go_wp2_with fail
        go_quiet (fail)
        go_wp2_with fail
        go_ret
        exact ⟨by rw [HQ.out, ← hex_whole]; rfl, ⟨rfl, rfl, rfl, Nat.le_refl _, fun _ _ => rfl⟩⟩
      · have b1 : ¬ (c.toNat : Int) < 32 := by omega
        have b2 : (126 : Int) < (c.toNat : Int) := by omega
        clear hx
        go_enter Tryz.func47, Tryz.ntmps47
        go_wp2_with fail
        go_quiet (fail)
        go_wp2_with fail
        go_ret
        exact ⟨by rw [HQ.out, ← hex_whole]; rfl, ⟨rfl, rfl, rfl, Nat.le_refl _, fun _ _ => rfl⟩⟩
    · have HQ := Lib.hid (q1_one hs (by omega))
      have b1 : ¬ (c.toNat : Int) < 32 := by omega
      have b2 : ¬ (126 : Int) < (c.toNat : Int) := by omega
      have hcv := run_convert_bytes_back (P := Tryz.prog) (w.alloc (.cells #[.int .u8 (c.toNat : Int)] 5)) 30 9 5 ⟨w.heap.size, 0, none⟩ 1 [c] Tryz.underlying30 Tryz.underlying5 Tryz.underlying9 (fun j hj => by
        obtain rfl : j = 0 := by simp at hj; omega
        exact one_news w _ _ 0 _ rfl)
      rw [show [c].length = 1 from rfl] at hcv
      clear hs hx
      go_enter Tryz.func47, Tryz.ntmps47
      go_wp2_with fail
      go_ret
      exact ⟨by rw [HQ.out]; rfl, below_new (Below.refl _ _) _⟩

def rmost (q : Int) : Int := if q = 7 then 200 else if q = 10 then 1000000000 else if q = 12 then 200 else -1
theorem rmost_max (m : Nat) : max (rmost (m : Int)) 0 = Cmd.most m := by
  unfold rmost Cmd.most
  by_cases h7 : m = 7
  · subst h7; rfl
  by_cases h10 : m = 10
  · subst h10; rfl
  by_cases h12 : m = 12
  · subst h12; rfl
  rw [if_neg (by omega), if_neg (by omega), if_neg (by omega), if_neg (by omega), if_neg (by omega)]
  rfl
theorem rmost_any (q : Int) (w : World) : Calls Tryz.prog 50 #[.int .i64 q] w fun e w' => e = .returned (.int .i64 (rmost q)) ∧ w = w' := by
  by_cases h7 : q = 7
  · subst h7
    go_enter Tryz.func50, Tryz.ntmps50
    go_wp2
    go_ret
    exact ⟨rfl, rfl⟩
  by_cases h10 : q = 10
  · subst h10
    go_enter Tryz.func50, Tryz.ntmps50
    go_wp2
    go_ret
    exact ⟨rfl, rfl⟩
  by_cases h12 : q = 12
  · subst h12
    go_enter Tryz.func50, Tryz.ntmps50
    go_wp2
    go_ret
    exact ⟨rfl, rfl⟩
  have HV : Hid (rmost q = -1) := Lib.hid (by unfold rmost; rw [if_neg h7, if_neg h10, if_neg h12])
  have e7 : (q == 7) = false := by simpa using h7
  have e10 : (q == 10) = false := by simpa using h10
  have e12 : (q == 12) = false := by simpa using h12
  go_enter Tryz.func50, Tryz.ntmps50
  go_wp2
  go_ret
  exact ⟨by rw [HV.out]; rfl, rfl⟩

set_option maxHeartbeats 1000000 in
set_option maxRecDepth 20000 in
/-- The reference's Quote. -/
theorem rquote_any (l : List UInt8) (hl : l.length ≤ 1000000) (w : World) :
    Calls Tryz.prog 25 #[.string ⟨l.toArray⟩] w fun e w' => e = .returned (.string ⟨(Cmd.quote l).toArray⟩) ∧ Below w.heap.size w w' := by
  obtain ⟨i0, hi, hz0, hz1, hz2⟩ := info_parts info_u8
  go_enter Tryz.func25, Tryz.ntmps25
  go_wp2_with fail
  go_loopw [3, 4] (fun u3 i wr => ∃ k : Nat, k ≤ l.length ∧ i = .int .i64 k ∧ Hid (wr.ownsRow w.heap.size 5 1 u3 (Cmd.quote (l.take k)).length (bytesV (Cmd.quote (l.take k)))) ∧ Hid (Below w.heap.size w wr)) (fun _ i _ => l.length - (intOf i).toNat)
  case atStart => exact ⟨0, Nat.zero_le _, rfl, Lib.hid (World.ownsRow_nil w _ _ _), Lib.hid (Below.refl _ _)⟩
  case round =>
    obtain ⟨k, hk, rfl, HO, HB⟩ := hrel
    by_cases hlt : k < l.length
    · obtain ⟨c, hc⟩ : ∃ c, l[k]? = some c := ⟨_, List.getElem?_eq_getElem hlt⟩
      have hx : ∀ h, ((⟨l.toArray⟩ : ByteArray)[k]'h) = c := fun h => (List.getElem?_eq_some_iff.1 hc).2
      have HQ : Hid (Cmd.quote (l.take (k + 1)) = Cmd.quote (l.take k) ++ Cmd.q1 c) := Lib.hid (quote_take hc)
      have hql := (Cmd.quote_len (l.take k)).2
      rw [List.length_take] at hql
      have hq1 := Cmd.q1_len c
      have k1 : (0 : Int) ≤ (k : Int) := by omega
      have k2 : (k : Int) < (l.length : Int) := by omega
      clear hc
      go_wp2_with fail
      refine (rquoted_any c _).mono ?_
      rintro e w2 ⟨rfl, hb⟩
      have hown := own_below HO.out hb
      have HB := Lib.hid (HB.out.trans (hb.mono HB.out.size))
      clear hb
      generalize Cmd.q1 c = Q at *
      go_wp2_with (at_builtin; refine Lib.wpList_append_own_string _ rfl _ _ 30 9 rfl w.heap.size 5 i0 Tryz.underlying30 Tryz.underlying9 hi hz0 hz1 hz2 _ _ _ rfl hown ⟨Q.toArray⟩ rfl ?c3 ?c4 ?c5 ?_)
      case c3 => unfold maxLen; show _ + Q.length ≤ _; omega
      case c4 => show _ + Q.length ≤ _; omega
      case c5 => exact HB.out.size
      intro v' w3 hown' hgrow _
      have HO3 : Hid (w3.ownsRow w.heap.size 5 1 v' (Cmd.quote (l.take (k + 1))).length (bytesV (Cmd.quote (l.take (k + 1))))) := Lib.hid (by
        rw [HQ.out, List.length_append, bytesV_append]
        exact hown')
      have HB3 := Lib.hid (HB.out.grown hgrow HB.out.size (fun g hg => (hown.lt g hg).1))
      clear hown hown' hgrow
      go_wp2_with fail
      go_roundw
      case rel => exact ⟨k + 1, by omega, by go_num, HO3, HB3⟩
      case measure => simp [intOf]; omega
    · obtain rfl : k = l.length := by omega
      rw [List.take_length] at HO
      have hconv := run_own_string (P := Tryz.prog) wr 30 9 5 _ _ w.heap.size (Cmd.quote l) Tryz.underlying30 Tryz.underlying5 Tryz.underlying9 rfl HO.out
      go_wp2_with fail
      go_ret
      exact ⟨rfl, HB.out⟩
end Go.Proofs.YtphpgbbjbncfoaaGreatDoor

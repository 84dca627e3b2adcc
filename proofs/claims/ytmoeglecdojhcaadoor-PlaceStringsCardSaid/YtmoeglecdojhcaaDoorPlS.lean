/-
  LAYER 1: the reference: strings of places, numbers, comparisons.
-/
import Derived.Test.YtmoeglecdojhcaaDoorPlW
import Derived.IntWalk
namespace Go.Proofs.YtmoeglecdojhcaaDoor
open Go.ChangeShapes Go.WideShapes Go.ChangeAt Go.RowKit

theorem digit_piece (n : Int) (h0 : 0 ≤ n) (h1 : n ≤ 9) : ({ data := #[48, 49, 50, 51, 52, 53, 54, 55, 56, 57] } : ByteArray).extract n.toNat (n + 1).toNat = ⟨(Lib.decDigits n.toNat).toArray⟩ := by
  rw [Dec.dec_small (by omega)]
  rcases (show n = 0 ∨ n = 1 ∨ n = 2 ∨ n = 3 ∨ n = 4 ∨ n = 5 ∨ n = 6 ∨ n = 7 ∨ n = 8 ∨ n = 9 by omega) with rfl | rfl | rfl | rfl | rfl | rfl | rfl | rfl | rfl | rfl <;> decide
/-- The reference's digits: the numeral. -/
theorem rdigits_any (k : Nat) : ∀ (n : Int) (w : World), n.toNat ≤ k → 0 ≤ n → n ≤ 9223372036854775807 →
    Calls Tryd.prog 35 #[.int .i64 n] w fun e w' => e = .returned (.string ⟨(Lib.decDigits n.toNat).toArray⟩) ∧ w = w' := by
  induction k with
  | zero =>
    intro n w hk h0 h1
    obtain rfl : n = 0 := by omega
    go_enter Tryd.func35, Tryd.ntmps35
    go_wp2_with fail
    go_ret
    exact ⟨ret_str (digit_piece 0 (by decide) (by decide)), rfl⟩
  | succ k ih =>
    intro n w hk h0 h1
    by_cases hn : n ≤ 9
    · clear ih
      go_enter Tryd.func35, Tryd.ntmps35
      go_wp2_with fail
      go_ret
      exact ⟨ret_str (digit_piece n h0 hn), rfl⟩
    · have hI := Lib.hid ih
      clear ih
      have s1 : (Lib.decDigits (n / 10).toNat).length ≤ 20 := Dec.dec_length_le (by omega)
      have s2 : (Lib.decDigits (n % 10).toNat).length ≤ 20 := Dec.dec_length_le (by omega)
      have t1 : n.tdiv 10 = n / 10 := Int.tdiv_eq_ediv_of_nonneg h0
      have t2 : n.tmod 10 = n % 10 := Int.tmod_eq_emod_of_nonneg h0
      obtain ⟨Q, hQ⟩ : ∃ Q, n / 10 = Q := ⟨_, rfl⟩
      obtain ⟨R, hR⟩ : ∃ R, n % 10 = R := ⟨_, rfl⟩
      have q0 : 0 ≤ Q := by omega
      have q1 : Q ≤ 922337203685477580 := by omega
      have hm : Hid (Q.toNat ≤ k ∧ 0 ≤ R ∧ R ≤ 9 ∧ n.toNat / 10 = Q.toNat ∧ n.toNat % 10 = R.toNat) := Lib.hid (by omega)
      have hk2 := Lib.hid hk
      rw [hQ] at s1 t1
      rw [hR] at s2 t2
      clear hQ hR hk
      go_enter Tryd.func35, Tryd.ntmps35
      go_wp2_with fail
      refine (hI.out Q _ hm.out.1 (by omega) (by omega)).mono ?_
      rintro e w' ⟨rfl, rfl⟩
      go_wp2_with fail
      refine (hI.out R _ (by have := hm.out; have := hk2.out; omega) (by have := hm.out; omega) (by have := hm.out; omega)).mono ?_
      rintro e w' ⟨rfl, rfl⟩
      go_wp2_with fail
      go_ret
      refine ⟨ret_str ?_, rfl⟩
      obtain ⟨_, _, _, e1, e2⟩ := hm.out
      rw [ByteArray.mk_append_mk, mk_inj, Dec.dec_big (u := n.toNat) (by omega), Dec.dec_small (u := R.toNat) (by omega), e1, e2]

set_option maxHeartbeats 1000000 in
theorem rnumber_any (s : List UInt8) (hs : s.length ≤ 1000000) (w : World) :
    Calls Tryd.prog 38 #[.string ⟨s.toArray⟩] w fun e w' => e = .returned (.int .i64 (Pl.numV 0 s : Nat)) ∧ w = w' := by
  obtain ⟨V, hV⟩ : ∃ V, Pl.numV 0 s = V := ⟨_, rfl⟩
  rw [hV]
  have HV := Lib.hid hV
  clear hV
  go_enter Tryd.func38, Tryd.ntmps38
  go_wp2_with fail
  go_loopw [4, 3] (fun i v wr => ∃ (k acc : Nat), k ≤ s.length ∧ i = .int .i64 k ∧ v = .int .i64 acc ∧ acc ≤ 9223372036854775807 ∧ wr = w ∧ Hid (V = Pl.numV acc (s.drop k))) (fun i _ _ => s.length - (intOf i).toNat)
  case atStart => exact ⟨0, 0, Nat.zero_le _, rfl, rfl, by omega, rfl, Lib.hid (by rw [← HV.out]; rfl)⟩
  case round =>
    obtain ⟨k, acc, hk, rfl, rfl, ha, rfl, HN⟩ := hrel
    by_cases hlt : k < s.length
    · obtain ⟨b, hb⟩ : ∃ b, s[k]? = some b := ⟨_, List.getElem?_eq_getElem hlt⟩
      have hx : ∀ h, ((⟨s.toArray⟩ : ByteArray)[k]'h) = b := fun h => (List.getElem?_eq_some_iff.1 hb).2
      have hd : s.drop k = b :: s.drop (k + 1) := by
        obtain ⟨h1, h2⟩ := List.getElem?_eq_some_iff.1 hb
        rw [← h2]; exact (List.getElem_cons_drop h1).symm
      have hN := HN.out
      rw [hd, Pl.numV] at hN
      have HN2 := Lib.hid hN
      obtain ⟨m, hm⟩ : ∃ m, b.toNat = m := ⟨_, rfl⟩
      rw [hm] at HN2
      have hm0 : (0 : Int) ≤ (m : Int) := by omega
      have hm9 : (m : Int) ≤ 255 := by have := b.toNat_lt; omega
      clear hd hN hb HN
      by_cases c1 : m < 48
      · have z := HN2.out
        rw [if_pos (by omega)] at z
        have HZ := Lib.hid z
        have c1' : (m : Int) < 48 := by omega
        clear z HN2 c1
        go_wp2_with fail
        go_ret
        exact ⟨ret_int (by rw [HZ.out]; rfl), rfl⟩
      by_cases c2 : 57 < m
      · have z := HN2.out
        rw [if_pos (by omega)] at z
        have HZ := Lib.hid z
        have c1' : ¬ (m : Int) < 48 := by omega
        have c2' : (57 : Int) < (m : Int) := by omega
        clear z HN2 c1 c2
        go_wp2_with fail
        go_ret
        exact ⟨ret_int (by rw [HZ.out]; rfl), rfl⟩
      have c1' : ¬ (m : Int) < 48 := by omega
      have c2' : ¬ (57 : Int) < (m : Int) := by omega
      have w1 : IntKind.u8.wrap ((m : Int) - 48) = (m : Int) - 48 := IntWalk.u8_in _ (by omega)
      by_cases c3 : acc ≤ 922337203685477579
      · have z := HN2.out
        rw [if_neg (by omega)] at z
        have HZ : Hid (V = Pl.numV (acc * 10 + (m - 48)) (s.drop (k + 1))) := Lib.hid z
        have c3' : ¬ (922337203685477579 : Int) < (acc : Int) := by omega
        have hv : 10 * (acc : Int) + ((m : Int) - 48) = ((acc * 10 + (m - 48) : Nat) : Int) := by omega
        have hb2 : acc * 10 + (m - 48) ≤ 9223372036854775807 := by omega
        have o1 : 10 * (acc : Int) ≤ 9223372036854775807 := by omega
        have o2 : 10 * (acc : Int) + ((m : Int) - 48) ≤ 9223372036854775807 := by omega
        obtain ⟨A2, hA2⟩ : ∃ A2, acc * 10 + (m - 48) = A2 := ⟨_, rfl⟩
        rw [hA2] at HZ hv hb2
        have HV2 := Lib.hid hv
        clear z HN2 c1 c2 c3 hA2 hv
        go_wp2_with fail
        go_roundw
        case rel => exact ⟨k + 1, A2, by omega, by go_num, by rw [← HV2.out], hb2, by first | rfl | trivial, HZ⟩
        case measure => simp [intOf]; omega
      · obtain ⟨Q, hQ⟩ : ∃ Q, (9223372036854775807 - ((m : Int) - 48)).tdiv 10 = Q := ⟨_, rfl⟩
        have hQ2 : Q = (9223372036854775807 - ((m : Int) - 48)) / 10 := by rw [← hQ]; exact Int.tdiv_eq_ediv_of_nonneg (by omega)
        have c3' : (922337203685477579 : Int) < (acc : Int) := by omega
        have q0 : 0 ≤ Q := by omega
        have q1 : Q ≤ 922337203685477580 := by omega
        by_cases c4 : Q < (acc : Int)
        · have z := HN2.out
          rw [if_pos (by omega)] at z
          have HZ := Lib.hid z
          clear z HN2 c1 c2 c3 hQ2
          go_wp2_with fail
          go_ret
          exact ⟨ret_int (by rw [HZ.out]; rfl), rfl⟩
        · have z := HN2.out
          rw [if_neg (by omega)] at z
          have HZ : Hid (V = Pl.numV (acc * 10 + (m - 48)) (s.drop (k + 1))) := Lib.hid z
          have hv : 10 * (acc : Int) + ((m : Int) - 48) = ((acc * 10 + (m - 48) : Nat) : Int) := by omega
          have hb2 : acc * 10 + (m - 48) ≤ 9223372036854775807 := by omega
          have o1 : 10 * (acc : Int) ≤ 9223372036854775807 := by omega
          have o2 : 10 * (acc : Int) + ((m : Int) - 48) ≤ 9223372036854775807 := by omega
          obtain ⟨A2, hA2⟩ : ∃ A2, acc * 10 + (m - 48) = A2 := ⟨_, rfl⟩
          rw [hA2] at HZ hv hb2
          have HV2 := Lib.hid hv
          clear z HN2 c1 c2 c3 hA2 hv hQ2
          go_wp2_with fail
          go_roundw
          case rel => exact ⟨k + 1, A2, by omega, by go_num, by rw [← HV2.out], hb2, by first | rfl | trivial, HZ⟩
          case measure => simp [intOf]; omega
    · have hF : Hid (V = acc) := Lib.hid (by have := HN.out; rw [List.drop_of_length_le (by omega)] at this; exact this)
      go_wp2_with fail
      go_ret
      exact ⟨ret_int (by rw [hF.out]), rfl⟩

theorem rcompare_any (l c l' c' : Int) (w : World) :
    Calls Tryd.prog 25 #[pV l c, pV l' c'] w fun e w' => e = .returned (.int .i64 (Pl.cmpP l c l' c')) ∧ Below w.heap.size w w' := by
  have HP := CB.new (w := w) (l := l) (c := c) (l' := l') (c' := c')
  unfold pV
  rcases (show l < l' ∨ (l = l' ∧ c < c') ∨ (l = l' ∧ c = c') ∨ (l = l' ∧ c' < c) ∨ l' < l by omega) with h | ⟨rfl, h⟩ | ⟨rfl, rfl⟩ | ⟨rfl, h⟩ | h
  · have e : Hid (Pl.cmpP l c l' c' = -1) := Lib.hid (by unfold Pl.cmpP; rw [if_pos h])
    go_enter Tryd.func25, Tryd.ntmps25
    go_wp2_with fail
    go_ret
    exact ⟨ret_int e.out.symm, HP.out.1⟩
  · have e : Hid (Pl.cmpP l c l c' = -1) := Lib.hid (by unfold Pl.cmpP; rw [if_neg (by omega), if_neg (by omega), if_pos h])
    have h2 : ¬ l < l := by omega
    go_enter Tryd.func25, Tryd.ntmps25
    go_wp2_with fail
    go_ret
    exact ⟨ret_int e.out.symm, HP.out.1⟩
  · have e : Hid (Pl.cmpP l c l c = 0) := Lib.hid (by unfold Pl.cmpP; simp)
    have h2 : ¬ l < l := by omega
    have h3 : ¬ c < c := by omega
    go_enter Tryd.func25, Tryd.ntmps25
    go_wp2_with fail
    go_ret
    exact ⟨ret_int e.out.symm, HP.out.1⟩
  · have e : Hid (Pl.cmpP l c l c' = 1) := Lib.hid (by unfold Pl.cmpP; rw [if_neg (by omega), if_neg (by omega), if_neg (by omega), if_pos h])
    have h2 : ¬ l < l := by omega
    have h3 : ¬ c < c' := by omega
    have h4 : (c == c') = false := by simp; omega
    go_enter Tryd.func25, Tryd.ntmps25
    go_wp2_with fail
    go_ret
    exact ⟨ret_int e.out.symm, HP.out.1⟩
  · have e : Hid (Pl.cmpP l c l' c' = 1) := Lib.hid (by unfold Pl.cmpP; rw [if_neg (by omega), if_pos h])
    have h2 : ¬ l < l' := by omega
    have h3 : ¬ l = l' := by omega
    have h4 : (l == l') = false := by simp; omega
    go_enter Tryd.func25, Tryd.ntmps25
    go_wp2_with fail
    go_ret
    exact ⟨ret_int e.out.symm, HP.out.1⟩
end Go.Proofs.YtmoeglecdojhcaaDoor

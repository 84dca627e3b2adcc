/-
  LAYER 2, THE REFERENCE: what is decoded.
-/
import Derived.Test.YtphpgbbjbncfoaaGreatDoorCNum2
namespace Go.Proofs.YtphpgbbjbncfoaaGreatDoor
open Go.ChangeShapes Go.WideShapes Go.ChangeAt Go.RowKit

set_option maxHeartbeats 1000000 in
theorem rparse_neg (r : List UInt8) (hl : r.length ≤ 999999) (w : World) :
    Calls Tryz.prog 86 #[.string ⟨(45 :: r).toArray⟩] w fun e w' => e = .returned (.tuple #[.int .i64 (Num.numP (45 :: r)), .int .i64 (errP (45 :: r))]) ∧ w = w' := by
  obtain ⟨l, hlr⟩ : ∃ l, l = 45 :: r := ⟨_, rfl⟩
  rw [← hlr]
  have hx0 : ∀ h, ((⟨l.toArray⟩ : ByteArray)[0]'h) = 45 := by subst hlr; exact fun _ => rfl
  have hll : l.length ≤ 1000000 := by rw [hlr]; simp; omega
  have hlp : 0 < l.length := by rw [hlr]; simp
  obtain ⟨P, hP⟩ : ∃ P, Num.numP l = P := ⟨_, rfl⟩
  obtain ⟨E, hE⟩ : ∃ E, errP l = E := ⟨_, rfl⟩
  rw [hP, hE]
  have HP := Lib.hid hP
  have HE := Lib.hid hE
  clear hP hE
  have HL := Lib.hid hlr
  clear hlr
  go_enter Tryz.func86, Tryz.ntmps86
  go_wp2_with fail
  go_loop [4, 5] (fun n i => ∃ (k : Nat) (N : Int), k ≤ l.length ∧ i = .int .i64 k ∧ n = .int .i64 N ∧ Hid (N = wrap64 (-(Dec.val 0 (r.take (k - 1)) : Int))) ∧ Hid (∀ c ∈ (r.take (k - 1)), Dec.isDig c)) (fun _ i => l.length - (intOf i).toNat)
  case atStart => exact ⟨0, 0, Nat.zero_le _, rfl, rfl, Lib.hid (by show (0 : Int) = wrap64 (-((0 : Nat) : Int)); unfold wrap64; omega), Lib.hid (by simp)⟩
  case round =>
    obtain ⟨k, N, hk, rfl, rfl, HN, HD⟩ := hrel
    by_cases hlt : k < l.length
    · by_cases hk0 : k = 0
      · subst hk0
        go_wp2_with fail
        go_round
        case rel => exact ⟨1, N, by omega, rfl, rfl, HN, HD⟩
        case measure => simp [intOf]; omega
      · have h0 : ((k : Int) == 0) = false := by simp; omega
        obtain ⟨c, hc⟩ : ∃ c, l[k]? = some c := ⟨_, List.getElem?_eq_getElem hlt⟩
        have hx : ∀ h, ((⟨l.toArray⟩ : ByteArray)[k]'h) = c := fun h => (List.getElem?_eq_some_iff.1 hc).2
        have hcr : r[k - 1]? = some c := by
          have := hc
          rw [HL.out, show k = (k - 1) + 1 by omega] at this
          simpa using this
        have HC := Lib.hid hc
        have HR := Lib.hid hcr
        clear hc hcr
        by_cases hd : Dec.isDig c
        · have hd' := hd
          unfold Dec.isDig at hd'
          have HF : Hid (∀ x ∈ (r.take (k + 1 - 1)), Dec.isDig x) := Lib.hid (by
            rw [show k + 1 - 1 = (k - 1) + 1 by omega, take_snoc HR.out]
            intro x hx
            rcases List.mem_append.1 hx with hx | hx
            · exact HD.out x hx
            · rw [List.mem_singleton.1 hx]; exact hd)
          clear hd
          have b1 : (48 : Int) ≤ (c.toNat : Int) := by omega
          have b2 : (c.toNat : Int) ≤ 57 := by omega
          by_cases h20 : k ≤ 20
          · have hw1 : IntKind.u8.wrap ((c.toNat : Int) - 48) = (c.toNat : Int) - 48 := by rw [IntKind.wrap_u8]; omega
            have HN2 : Hid (wrap64 (wrap64 (10 * N) - ((c.toNat : Int) - 48)) = wrap64 (-(Dec.val 0 (r.take (k + 1 - 1)) : Int))) := Lib.hid (by
              rw [show k + 1 - 1 = (k - 1) + 1 by omega, take_snoc HR.out, Dec.val_append, HN.out]
              show _ = wrap64 (-((Dec.val 0 (r.take (k - 1)) * 10 + (c.toNat - 48) : Nat) : Int))
              simp only [wrap64]
              omega)
            clear hd'
            go_wp2_with fail
            go_round
            case rel => exact ⟨k + 1, _, by omega, by go_num, rfl, HN2, HF⟩
            case measure => simp [intOf]; omega
          · have HZ := Num.too_long (l := l) (by omega)
            have HZ2 := Lib.hid HZ
            clear HZ
            go_wp2_with fail
            go_ret2
            obtain ⟨q1, q2⟩ := errP_none HZ2.out
            exact ⟨by rw [← HP.out, ← HE.out, q1, q2]; rfl, rfl⟩
        · have HZ := Lib.hid (Num.bad_byte HC.out hd (by omega))
          have hd' : c.toNat < 48 ∨ 57 < c.toNat := by unfold Dec.isDig at hd; omega
          clear hd
          rcases hd' with hd' | hd'
          · have b1 : (c.toNat : Int) < 48 := by omega
            clear hd'
            go_wp2_with fail
            go_ret2
            obtain ⟨q1, q2⟩ := errP_none HZ.out
            exact ⟨by rw [← HP.out, ← HE.out, q1, q2]; rfl, rfl⟩
          · have b1 : (57 : Int) < (c.toNat : Int) := by omega
            have b2 : ¬ (c.toNat : Int) < 48 := by omega
            clear hd'
            go_wp2_with fail
            go_ret2
            obtain ⟨q1, q2⟩ := errP_none HZ.out
            exact ⟨by rw [← HP.out, ← HE.out, q1, q2]; rfl, rfl⟩
    · obtain rfl : k = l.length := by omega
      have hb : -9223372036854775808 ≤ N ∧ N ≤ 9223372036854775807 := by rw [HN.out]; exact Num.wrap_bounds _
      have HQ : Hid (Num.parse l = if Lib.itoa N = l then some N else none) := Lib.hid (by
        have e1 : r.take (l.length - 1) = r := List.take_of_length_le (by rw [HL.out]; simp)
        have e2 : Num.cand l = -(Dec.val 0 r : Int) := by
          rw [HL.out]
          show (if (45 : UInt8) = 45 then -(Dec.val 0 r : Int) else (Dec.val 0 (45 :: r) : Int)) = _
          rw [if_pos rfl]
        rw [Num.parse_wrapped l, e2, HN.out, e1])
      clear hk
      by_cases he : Lib.itoa N = l
      · have HW : Hid (Num.parse l = some N) := Lib.hid (by rw [HQ.out, if_pos he])
        have hq : (Lib.itoa N == l) = true := by simpa using he
        clear he
        go_wp2_with fail
        refine (rntext_any N hb.1 hb.2 _).mono ?_
        rintro e w1 ⟨rfl, rfl⟩
        go_wp2_with fail
        go_ret2
        obtain ⟨q1, q2⟩ := errP_some HW.out
        exact ⟨by rw [← HP.out, ← HE.out, q1, q2]; rfl, rfl⟩
      · have HW : Hid (Num.parse l = none) := Lib.hid (by rw [HQ.out, if_neg he])
        have hq : (Lib.itoa N == l) = false := by simpa using he
        clear he
        go_wp2_with fail
        refine (rntext_any N hb.1 hb.2 _).mono ?_
        rintro e w1 ⟨rfl, rfl⟩
        go_wp2_with fail
        go_ret2
        obtain ⟨q1, q2⟩ := errP_none HW.out
        exact ⟨by rw [← HP.out, ← HE.out, q1, q2]; rfl, rfl⟩

set_option maxHeartbeats 1000000 in
theorem rparse_pos (l : List UInt8) (hll : l.length ≤ 1000000) (h45 : ∀ r, l ≠ 45 :: r) (w : World) :
    Calls Tryz.prog 86 #[.string ⟨l.toArray⟩] w fun e w' => e = .returned (.tuple #[.int .i64 (Num.numP l), .int .i64 (errP l)]) ∧ w = w' := by
  have HL := Lib.hid h45
  clear h45
  obtain ⟨P, hP⟩ : ∃ P, Num.numP l = P := ⟨_, rfl⟩
  obtain ⟨E, hE⟩ : ∃ E, errP l = E := ⟨_, rfl⟩
  rw [hP, hE]
  have HP := Lib.hid hP
  have HE := Lib.hid hE
  clear hP hE
  go_enter Tryz.func86, Tryz.ntmps86
  go_wp2_with fail
  go_loop [4, 5] (fun n i => ∃ (k : Nat) (N : Int), k ≤ l.length ∧ i = .int .i64 k ∧ n = .int .i64 N ∧ Hid (N = wrap64 ((Dec.val 0 (l.take k) : Nat) : Int)) ∧ Hid (∀ c ∈ (l.take k), Dec.isDig c)) (fun _ i => l.length - (intOf i).toNat)
  case atStart => exact ⟨0, 0, Nat.zero_le _, rfl, rfl, Lib.hid (by show (0 : Int) = wrap64 ((0 : Nat) : Int); unfold wrap64; omega), Lib.hid (by simp)⟩
  case round =>
    obtain ⟨k, N, hk, rfl, rfl, HN, HD⟩ := hrel
    by_cases hlt : k < l.length
    · obtain ⟨c, hc⟩ : ∃ c, l[k]? = some c := ⟨_, List.getElem?_eq_getElem hlt⟩
      have hx : ∀ h, ((⟨l.toArray⟩ : ByteArray)[k]'h) = c := fun h => (List.getElem?_eq_some_iff.1 hc).2
      obtain ⟨c0, hc0⟩ : ∃ c, l[0]? = some c := ⟨_, List.getElem?_eq_getElem (by omega)⟩
      have hx0 : ∀ h, ((⟨l.toArray⟩ : ByteArray)[0]'h) = c0 := fun h => (List.getElem?_eq_some_iff.1 hc0).2
      have n45 : c0 ≠ 45 := by
        rintro rfl
        cases l with
        | nil => simp at hc0
        | cons x r =>
          simp at hc0
          exact HL.out r (by rw [hc0])
      have h45 : ((c0.toNat : Int) == 45) = false := by
        simp
        intro h
        exact n45 (UInt8.toNat_inj.1 (by rw [show (45 : UInt8).toNat = 45 from rfl]; omega))
      have hck : k = 0 → c ≠ 45 := by
        rintro rfl
        rw [hc0] at hc
        cases hc
        exact n45
      have HCC : Hid (k = 0 → c = c0) := Lib.hid (by
        rintro rfl
        rw [hc0] at hc
        exact (Option.some.inj hc).symm)
      have HC := Lib.hid hc
      have HK := Lib.hid hck
      clear hc hc0 hck n45
      by_cases hk0 : k = 0
      · subst hk0
        obtain rfl := HCC.out rfl
        by_cases hd : Dec.isDig c
        · have hd' := hd
          unfold Dec.isDig at hd'
          have HF : Hid (∀ x ∈ (l.take (0 + 1)), Dec.isDig x) := Lib.hid (by
            rw [take_snoc HC.out]
            intro x hx
            rcases List.mem_append.1 hx with hx | hx
            · exact HD.out x hx
            · rw [List.mem_singleton.1 hx]; exact hd)
          clear hd
          have b1 : (48 : Int) ≤ (c.toNat : Int) := by omega
          have b2 : (c.toNat : Int) ≤ 57 := by omega
          by_cases h20 : 0 ≤ 20
          · have hw1 : IntKind.u8.wrap ((c.toNat : Int) - 48) = (c.toNat : Int) - 48 := by rw [IntKind.wrap_u8]; omega
            have HN2 : Hid (wrap64 (wrap64 (10 * N) + ((c.toNat : Int) - 48)) = wrap64 ((Dec.val 0 (l.take (0 + 1)) : Nat) : Int)) := Lib.hid (by
              rw [take_snoc HC.out, Dec.val_append, HN.out]
              show _ = wrap64 ((Dec.val 0 (l.take 0) * 10 + (c.toNat - 48) : Nat) : Int)
              simp only [wrap64]
              omega)
            clear hd'
            go_wp2_with fail
            go_round
            case rel => exact ⟨0 + 1, _, by omega, rfl, rfl, HN2, HF⟩
            case measure => simp [intOf]; omega
          · exact absurd (Nat.zero_le _) h20
        · have HZ := Lib.hid (Num.bad_byte HC.out hd HK.out)
          have hd' : c.toNat < 48 ∨ 57 < c.toNat := by unfold Dec.isDig at hd; omega
          clear hd
          rcases hd' with hd' | hd'
          · have b1 : (c.toNat : Int) < 48 := by omega
            clear hd'
            go_wp2_with fail
            go_ret2
            obtain ⟨q1, q2⟩ := errP_none HZ.out
            exact ⟨by rw [← HP.out, ← HE.out, q1, q2]; rfl, rfl⟩
          · have b1 : (57 : Int) < (c.toNat : Int) := by omega
            have b2 : ¬ (c.toNat : Int) < 48 := by omega
            clear hd'
            go_wp2_with fail
            go_ret2
            obtain ⟨q1, q2⟩ := errP_none HZ.out
            exact ⟨by rw [← HP.out, ← HE.out, q1, q2]; rfl, rfl⟩
      · have h0 : ((k : Int) == 0) = false := by simp; omega
        by_cases hd : Dec.isDig c
        · have hd' := hd
          unfold Dec.isDig at hd'
          have HF : Hid (∀ x ∈ (l.take (k + 1)), Dec.isDig x) := Lib.hid (by
            rw [take_snoc HC.out]
            intro x hx
            rcases List.mem_append.1 hx with hx | hx
            · exact HD.out x hx
            · rw [List.mem_singleton.1 hx]; exact hd)
          clear hd
          have b1 : (48 : Int) ≤ (c.toNat : Int) := by omega
          have b2 : (c.toNat : Int) ≤ 57 := by omega
          by_cases h20 : k ≤ 20
          · have hw1 : IntKind.u8.wrap ((c.toNat : Int) - 48) = (c.toNat : Int) - 48 := by rw [IntKind.wrap_u8]; omega
            have HN2 : Hid (wrap64 (wrap64 (10 * N) + ((c.toNat : Int) - 48)) = wrap64 ((Dec.val 0 (l.take (k + 1)) : Nat) : Int)) := Lib.hid (by
              rw [take_snoc HC.out, Dec.val_append, HN.out]
              show _ = wrap64 ((Dec.val 0 (l.take k) * 10 + (c.toNat - 48) : Nat) : Int)
              simp only [wrap64]
              omega)
            clear hd'
            go_wp2_with fail
            go_round
            case rel => exact ⟨k + 1, _, by omega, by go_num, rfl, HN2, HF⟩
            case measure => simp [intOf]; omega
          · have HZ := Num.too_long (l := l) (by omega)
            have HZ2 := Lib.hid HZ
            clear HZ
            go_wp2_with fail
            go_ret2
            obtain ⟨q1, q2⟩ := errP_none HZ2.out
            exact ⟨by rw [← HP.out, ← HE.out, q1, q2]; rfl, rfl⟩
        · have HZ := Lib.hid (Num.bad_byte HC.out hd HK.out)
          have hd' : c.toNat < 48 ∨ 57 < c.toNat := by unfold Dec.isDig at hd; omega
          clear hd
          rcases hd' with hd' | hd'
          · have b1 : (c.toNat : Int) < 48 := by omega
            clear hd'
            go_wp2_with fail
            go_ret2
            obtain ⟨q1, q2⟩ := errP_none HZ.out
            exact ⟨by rw [← HP.out, ← HE.out, q1, q2]; rfl, rfl⟩
          · have b1 : (57 : Int) < (c.toNat : Int) := by omega
            have b2 : ¬ (c.toNat : Int) < 48 := by omega
            clear hd'
            go_wp2_with fail
            go_ret2
            obtain ⟨q1, q2⟩ := errP_none HZ.out
            exact ⟨by rw [← HP.out, ← HE.out, q1, q2]; rfl, rfl⟩
    · obtain rfl : k = l.length := by omega
      have hb : -9223372036854775808 ≤ N ∧ N ≤ 9223372036854775807 := by rw [HN.out]; exact Num.wrap_bounds _
      have HQ : Hid (Num.parse l = if Lib.itoa N = l then some N else none) := Lib.hid (by
        have e1 : l.take l.length = l := List.take_length
        have e2 : Num.cand l = (Dec.val 0 l : Int) := Num.cand_digits (by have := HD.out; rwa [e1] at this)
        rw [Num.parse_wrapped l, e2, HN.out, e1])
      clear hk
      by_cases he : Lib.itoa N = l
      · have HW : Hid (Num.parse l = some N) := Lib.hid (by rw [HQ.out, if_pos he])
        have hq : (Lib.itoa N == l) = true := by simpa using he
        clear he
        go_wp2_with fail
        refine (rntext_any N hb.1 hb.2 _).mono ?_
        rintro e w1 ⟨rfl, rfl⟩
        go_wp2_with fail
        go_ret2
        obtain ⟨q1, q2⟩ := errP_some HW.out
        exact ⟨by rw [← HP.out, ← HE.out, q1, q2]; rfl, rfl⟩
      · have HW : Hid (Num.parse l = none) := Lib.hid (by rw [HQ.out, if_neg he])
        have hq : (Lib.itoa N == l) = false := by simpa using he
        clear he
        go_wp2_with fail
        refine (rntext_any N hb.1 hb.2 _).mono ?_
        rintro e w1 ⟨rfl, rfl⟩
        go_wp2_with fail
        go_ret2
        obtain ⟨q1, q2⟩ := errP_none HW.out
        exact ⟨by rw [← HP.out, ← HE.out, q1, q2]; rfl, rfl⟩

/-- The reference's Parse. -/
theorem rparse_any (l : List UInt8) (hl : l.length ≤ 999999) (w : World) :
    Calls Tryz.prog 86 #[.string ⟨l.toArray⟩] w fun e w' => e = .returned (.tuple #[.int .i64 (Num.numP l), .int .i64 (errP l)]) ∧ w = w' := by
  by_cases h45 : ∃ r, l = 45 :: r
  · obtain ⟨r, rfl⟩ := h45
    exact rparse_neg r (by simp at hl; omega) w
  · exact rparse_pos l (by omega) (fun r e => h45 ⟨r, e⟩) w
end Go.Proofs.YtphpgbbjbncfoaaGreatDoor

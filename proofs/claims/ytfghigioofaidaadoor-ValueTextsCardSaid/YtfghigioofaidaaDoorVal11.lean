/-
  LAYER 16: the law ValueTexts.
-/
import Derived.Test.YtfghigioofaidaaDoorVal10
import Derived.Deep.RegionHeld3
namespace Go.Proofs.YtfghigioofaidaaDoor
open Go.ChangeShapes Go.WideShapes Go.ChangeAt Go.RowKit

/-- What the last statement of ValueTexts reads, and what it keeps. -/
def TInv (w0 : World) (g : Nat) (t n : Int) (W : World) : Prop := Good W ∧ Below w0.heap.size w0 W ∧ Blk W g 23 #[.int .i64 t, .int .i64 n]
theorem TInv.good {w0 : World} {g : Nat} {t n : Int} {W : World} (h : Hid (TInv w0 g t n W)) : Good W := h.out.1
theorem TInv.call {w0 : World} {g : Nat} {t n : Int} {W W' : World} (h : Hid (TInv w0 g t n W)) (hb : Below W.heap.size W W') : Hid (TInv w0 g t n W') := by
  obtain ⟨h1, h2, h3⟩ := h.out
  exact Lib.hid ⟨h1.call hb, below_call h2 hb, h3.call hb⟩
theorem TInv.drew {w0 : World} {g : Nat} {t n : Int} {W : World} (h : Hid (TInv w0 g t n W)) : Hid (TInv w0 g t n W.drew) := by
  obtain ⟨h1, h2, h3⟩ := h.out
  exact Lib.hid ⟨h1.drew, h2.drew, h3.drew⟩
theorem TInv.cells {w0 : World} {g : Nat} {t n : Int} {W : World} (h : Hid (TInv w0 g t n W)) : W.cell? ⟨g, 0, none⟩ = some (.int .i64 t) ∧ W.cell? ⟨g, 1, none⟩ = some (.int .i64 n) ∧ Hid (TInv w0 g t n W) :=
  ⟨h.out.2.2.cell 0, h.out.2.2.cell 1, h⟩
theorem TInv.limb {p0 p1 q : Prop} (h : p0 ∧ p1 ∧ q) : q := h.2.2

/-- The ways of a valid value. -/
theorem tails {t n : Int} (h : Val.chk t n = 0) : (t = 2 ∧ n = 0 ∧ Val.txt t n = [102, 97, 108, 115, 101]) ∨ (t = 2 ∧ n = 1 ∧ Val.txt t n = [116, 114, 117, 101]) ∨ (t = 3 ∧ Val.txt t n = 35 :: Lib.itoa n) ∨ (t = 1 ∧ Val.txt t n = Lib.itoa n) := by
  have hx := h
  unfold Val.chk at hx
  unfold Val.txt
  rw [if_pos h]
  by_cases h1 : t = 1
  · subst h1
    exact .inr (.inr (.inr ⟨rfl, by simp⟩))
  · by_cases h2 : t = 2
    · subst h2
      by_cases h3 : n = 0
      · subst h3
        exact .inl ⟨rfl, rfl, by simp [Val.sFalse]⟩
      · have : n = 1 := by
          simp at hx
          omega
        subst this
        exact .inr (.inl ⟨rfl, rfl, by simp [Val.sTrue]⟩)
    · by_cases h3 : t = 3
      · subst h3
        exact .inr (.inr (.inl ⟨rfl, by simp⟩))
      · simp [h1, h2, h3] at hx

set_option maxHeartbeats 4000000 in
theorem valueTexts_walk (x : Int) (x0 : 0 ≤ x) (_ : x ≤ 255) (m : Int) (m0 : -9223372036854775808 ≤ m) (m1 : m ≤ 9223372036854775807) (y : Int) (y0 : 0 ≤ y) (_ : y ≤ 255) (n : Int) (n0 : -9223372036854775808 ≤ n) (n1 : n ≤ 9223372036854775807)
    (w : World) (hG : Good w) : Calls Tryd.prog 5 #[.agg #[.int .u8 x, .int .i64 m], .agg #[.int .u8 y, .int .i64 n]] w fun e w' => e = .returned (.bool true) ∧ Below w.heap.size w w' := by
  obtain ⟨T, eT⟩ : ∃ T, drT x = T := ⟨_, rfl⟩
  obtain ⟨N, eN⟩ : ∃ N, drN x m = N := ⟨_, rfl⟩
  obtain ⟨T', eT'⟩ : ∃ T', drT y = T' := ⟨_, rfl⟩
  obtain ⟨N', eN'⟩ : ∃ N', drN y n = N' := ⟨_, rfl⟩
  have ok : Val.chk T N = 0 := by rw [← eT, ← eN]; exact dr_ok x m
  have ok' : Val.chk T' N' = 0 := by rw [← eT', ← eN']; exact dr_ok y n
  have N0 : -9223372036854775808 ≤ N := by rw [← eN]; exact dr_lo x m m0
  have N1 : N ≤ 9223372036854775807 := by rw [← eN]; exact dr_hi x m m1
  have N0' : -9223372036854775808 ≤ N' := by rw [← eN']; exact dr_lo y n n0
  have N1' : N' ≤ 9223372036854775807 := by rw [← eN']; exact dr_hi y n n1
  have OK := Lib.hid ok
  have OK' := Lib.hid ok'
  have ET := Lib.hid eT
  have EN := Lib.hid eN
  have ET' := Lib.hid eT'
  have EN' := Lib.hid eN'
  clear ok ok' eT eN eT' eN' m0 m1 n0 n1
  have B := Lib.hid (Blk.new (w.alloc (.cells #[.int .u8 x, .int .i64 m] 37)) 37 #[.int .u8 y, .int .i64 n])
  have K0 := Lib.hid (below_new (below_new (Below.refl w.heap.size w) (.cells #[.int .u8 x, .int .i64 m] 37)) (.cells #[.int .u8 y, .int .i64 n] 37))
  have G0 := (hG.alloc (.cells #[.int .u8 x, .int .i64 m] 37)).alloc (.cells #[.int .u8 y, .int .i64 n] 37)
  clear hG
  go_enter Tryd.func5, Tryd.ntmps5
  go_wp2_with fail
  refine (made_any x x0 m _).mono ?_
  rintro e w1 ⟨rfl, b1⟩
  rw [ET.out, EN.out]
  have G1 := (G0.call b1).alloc (.cells #[.int .i64 T, .int .i64 N] 23)
  have K1 := Lib.hid (below_new (below_call K0.out b1) (.cells #[.int .i64 T, .int .i64 N] 23))
  have B := Lib.hid ((B.out.call b1).alloc (.cells #[.int .i64 T, .int .i64 N] 23))
  have P := Lib.hid (Blk.new w1 23 #[.int .i64 T, .int .i64 N])
  have Bc0 := B.out.cell 0
  have Bc1 := B.out.cell 1
  rw [World.size_alloc] at Bc0 Bc1
  clear b1 G0
  go_wp2_with fail
  refine (made_any y y0 n _).mono ?_
  rintro e w2 ⟨rfl, b2⟩
  rw [ET'.out, EN'.out]
  have G2 := (G1.call b2).alloc (.cells #[.int .i64 T', .int .i64 N'] 23)
  have K2 := Lib.hid (below_new (below_call K1.out b2) (.cells #[.int .i64 T', .int .i64 N'] 23))
  have B := Lib.hid ((B.out.call b2).alloc (.cells #[.int .i64 T', .int .i64 N'] 23))
  have P := Lib.hid ((P.out.call b2).alloc (.cells #[.int .i64 T', .int .i64 N'] 23))
  have R := Lib.hid (Blk.new w2 23 #[.int .i64 T', .int .i64 N'])
  have Pc0 := P.out.cell 0
  have Pc1 := P.out.cell 1
  clear b2 G1
  clear B
  go_wp2_with fail
  refine (text_any T N N0 N1 _ G2).mono ?_
  rintro e w3 ⟨rfl, b3⟩
  rw [OK.out]
  have G3 := G2.call b3
  have K3 := Lib.hid (below_call K2.out b3)
  have P := Lib.hid (P.out.call b3)
  have R := Lib.hid (R.out.call b3)
  have Pc0 := P.out.cell 0
  have Pc1 := P.out.cell 1
  have Rc0 := R.out.cell 0
  have Rc1 := R.out.cell 1
  clear b3 G2
  go_wp2_with fail
  refine (text_any T' N' N0' N1' _ G3).mono ?_
  rintro e w4 ⟨rfl, b4⟩
  rw [OK'.out]
  have G4 := G3.call b4
  have K4 := Lib.hid (below_call K3.out b4)
  have P := Lib.hid (P.out.call b4)
  have R := Lib.hid (R.out.call b4)
  have Pc0 := P.out.cell 0
  have Pc1 := P.out.cell 1
  have Rc0 := R.out.cell 0
  have Rc1 := R.out.cell 1
  clear b4 G3
  go_wp2_with fail
  refine (check_any T N _).mono ?_
  rintro e w5 ⟨rfl, b5⟩
  rw [OK.out]
  have G5 := G4.call b5
  have K5 := Lib.hid (below_call K4.out b5)
  have P := Lib.hid (P.out.call b5)
  have R := Lib.hid (R.out.call b5)
  have Pc0 := P.out.cell 0
  have Pc1 := P.out.cell 1
  have Rc0 := R.out.cell 0
  have Rc1 := R.out.cell 1
  clear b5 G4
  have I5 : Hid (TInv w w1.heap.size T N w5) := Lib.hid ⟨G5, K5.out, P.out⟩
  clear G5 K5 P R
  have hE : (Val.txt T N).isEmpty = false := by simpa using Val.txt_ne OK.out
  have PL := Lib.hid (Val.txt_plain (t := T) (n := N))
  have hsh := txt_short T N N0 N1
  have E3 := Lib.hid (tails OK.out)
  by_cases hT : T = T'
  · subst hT
    by_cases hN : N = N'
    · subst hN
      go_wp2_with fail
      go_loopw [13] (fun i wr => ∃ k : Nat, k ≤ (Val.txt T N).length ∧ i = .int .i64 k ∧ wr = w5) (fun i _ => (Val.txt T N).length - (intOf i).toNat)
      case atStart => exact ⟨0, Nat.zero_le _, rfl, rfl⟩
      case round =>
        obtain ⟨k, hk, rfl, rfl⟩ := hrel
        by_cases hlt : k < (Val.txt T N).length
        · obtain ⟨c, hc⟩ : ∃ c, (Val.txt T N)[k]? = some c := ⟨_, List.getElem?_eq_getElem hlt⟩
          have hx : ∀ h, ((⟨(Val.txt T N).toArray⟩ : ByteArray)[k]'h) = c := fun h => (List.getElem?_eq_some_iff.1 hc).2
          have hX := Lib.hid hx
          have hp := PL.out c (List.mem_of_getElem? hc)
          clear hx
          go_wp2_with fail
          · rename_i ha hb
            simp only [hX.out] at ha hb
            omega
          · exact ⟨⟨k + 1, hlt, by go_num, by trivial⟩, by simp [intOf]; omega⟩
          · rename_i ha
            simp only [hX.out] at ha
            omega
        · obtain rfl : k = (Val.txt T N).length := by omega
          rcases E3.out with ⟨rfl, rfl, e⟩ | ⟨rfl, rfl, e⟩ | ⟨rfl, e⟩ | ⟨rfl, e⟩
          · rw [e]
            have q0 := (I5.out.2.2.alloc (.cells #[.string ⟨#[102, 97, 108, 115, 101]⟩, .string ⟨#[116, 114, 117, 101]⟩] 9)).cell 0
            have q1 := (I5.out.2.2.alloc (.cells #[.string ⟨#[102, 97, 108, 115, 101]⟩, .string ⟨#[116, 114, 117, 101]⟩] 9)).cell 1
            go_wp2_with fail
            refine (works_any _ (I5.out.1.alloc _)).mono ?_
            rintro e w6 ⟨rfl, b6⟩
            have K6 := Lib.hid (below_call (below_new I5.out.2.1 _) b6)
            clear b6
            go_wp2_with fail
            go_ret
            exact ⟨rfl, K6.out⟩
          · rw [e]
            have q0 := (I5.out.2.2.alloc (.cells #[.string ⟨#[102, 97, 108, 115, 101]⟩, .string ⟨#[116, 114, 117, 101]⟩] 9)).cell 0
            have q1 := (I5.out.2.2.alloc (.cells #[.string ⟨#[102, 97, 108, 115, 101]⟩, .string ⟨#[116, 114, 117, 101]⟩] 9)).cell 1
            go_wp2_with fail
            refine (works_any _ (I5.out.1.alloc _)).mono ?_
            rintro e w6 ⟨rfl, b6⟩
            have K6 := Lib.hid (below_call (below_new I5.out.2.1 _) b6)
            clear b6
            go_wp2_with fail
            go_ret
            exact ⟨rfl, K6.out⟩
          · have hsz : (⟨(35 :: Lib.itoa N).toArray⟩ : ByteArray).size = (Lib.itoa N).length + 1 := by simp [ByteArray.size]
            have hz : ∀ h, ((⟨(35 :: Lib.itoa N).toArray⟩ : ByteArray)[0]'h) = 35 := fun _ => rfl
            have hcut : (⟨(35 :: Lib.itoa N).toArray⟩ : ByteArray).extract 1 ((Lib.itoa N).length + 1) = ⟨(Lib.itoa N).toArray⟩ := by
              rw [mk_extract]
              simp
            have hlen : (Lib.itoa N).length ≤ 1000000 := by
              have := hsh
              rw [e] at this
              simp at this
              omega
            have NU := Lib.hid (Val.number_itoa N0 N1)
            rw [e]
            generalize (⟨(35 :: Lib.itoa N).toArray⟩ : ByteArray) = S at hsz hz hcut ⊢
            have h1 : (1 : Int) ≤ ↑(Lib.itoa N).length + 1 := by omega
            clear hE PL E3 e hsh
            go_wp2_with fail
            go_region_held3 (fun W => W.cell? ⟨w1.heap.size, 0, none⟩ = some (.int .i64 3) ∧ W.cell? ⟨w1.heap.size, 1, none⟩ = some (.int .i64 N) ∧ Hid (TInv w w1.heap.size 3 N W)) (first | exact TInv.cells (TInv.drew (by assumption)) | exact TInv.cells (TInv.call (by assumption) (by assumption)) | exact TInv.cells (TInv.call (TInv.limb (by assumption)) (by assumption))) (first | (go_at_call 20; go_loud (refine (number_any _ hlen _).mono ?_; rintro e w' ⟨rfl, hb⟩; rw [NU.out])) | (go_at_call 16; refine (works_any _ ?_).mono ?_; (first | exact TInv.good (by assumption) | exact TInv.good (TInv.limb (by assumption))); rintro e w' ⟨rfl, hb⟩))
            go_wp2_with fail
            have KF := TInv.limb (by assumption)
            go_ret
            exact ⟨rfl, KF.out.2.1⟩
          · have hlen : (Lib.itoa N).length ≤ 1000000 := by
              have := hsh
              rw [e] at this
              omega
            have NU := Lib.hid (Val.number_itoa N0 N1)
            rw [e]
            clear hE PL E3 e hsh
            go_wp2_with fail
            go_region_held3 (fun W => W.cell? ⟨w1.heap.size, 0, none⟩ = some (.int .i64 1) ∧ W.cell? ⟨w1.heap.size, 1, none⟩ = some (.int .i64 N) ∧ Hid (TInv w w1.heap.size 1 N W)) (first | exact TInv.cells (TInv.drew (by assumption)) | exact TInv.cells (TInv.call (by assumption) (by assumption)) | exact TInv.cells (TInv.call (TInv.limb (by assumption)) (by assumption))) (first | (go_at_call 20; go_loud (refine (number_any _ hlen _).mono ?_; rintro e w' ⟨rfl, hb⟩; rw [NU.out])) | (go_at_call 16; refine (works_any _ ?_).mono ?_; (first | exact TInv.good (by assumption) | exact TInv.good (TInv.limb (by assumption))); rintro e w' ⟨rfl, hb⟩))
            go_wp2_with fail
            have KF := TInv.limb (by assumption)
            go_ret
            exact ⟨rfl, KF.out.2.1⟩
    · have hd : ¬ Val.txt T N = Val.txt T N' := fun e => hN ((Val.txt_inj OK.out OK'.out).1 e).2
      have hd2 : (Val.txt T N == Val.txt T N') = false := by simpa using hd
      go_wp2_with fail
      go_loopw [13] (fun i wr => ∃ k : Nat, k ≤ (Val.txt T N).length ∧ i = .int .i64 k ∧ wr = w5) (fun i _ => (Val.txt T N).length - (intOf i).toNat)
      case atStart => exact ⟨0, Nat.zero_le _, rfl, rfl⟩
      case round =>
        obtain ⟨k, hk, rfl, rfl⟩ := hrel
        by_cases hlt : k < (Val.txt T N).length
        · obtain ⟨c, hc⟩ : ∃ c, (Val.txt T N)[k]? = some c := ⟨_, List.getElem?_eq_getElem hlt⟩
          have hx : ∀ h, ((⟨(Val.txt T N).toArray⟩ : ByteArray)[k]'h) = c := fun h => (List.getElem?_eq_some_iff.1 hc).2
          have hX := Lib.hid hx
          have hp := PL.out c (List.mem_of_getElem? hc)
          clear hx
          go_wp2_with fail
          · rename_i ha hb
            simp only [hX.out] at ha hb
            omega
          · exact ⟨⟨k + 1, hlt, by go_num, by trivial⟩, by simp [intOf]; omega⟩
          · rename_i ha
            simp only [hX.out] at ha
            omega
        · obtain rfl : k = (Val.txt T N).length := by omega
          rcases E3.out with ⟨rfl, rfl, e⟩ | ⟨rfl, rfl, e⟩ | ⟨rfl, e⟩ | ⟨rfl, e⟩
          · rw [e]
            have q0 := (I5.out.2.2.alloc (.cells #[.string ⟨#[102, 97, 108, 115, 101]⟩, .string ⟨#[116, 114, 117, 101]⟩] 9)).cell 0
            have q1 := (I5.out.2.2.alloc (.cells #[.string ⟨#[102, 97, 108, 115, 101]⟩, .string ⟨#[116, 114, 117, 101]⟩] 9)).cell 1
            go_wp2_with fail
            refine (works_any _ (I5.out.1.alloc _)).mono ?_
            rintro e w6 ⟨rfl, b6⟩
            have K6 := Lib.hid (below_call (below_new I5.out.2.1 _) b6)
            clear b6
            go_wp2_with fail
            go_ret
            exact ⟨rfl, K6.out⟩
          · rw [e]
            have q0 := (I5.out.2.2.alloc (.cells #[.string ⟨#[102, 97, 108, 115, 101]⟩, .string ⟨#[116, 114, 117, 101]⟩] 9)).cell 0
            have q1 := (I5.out.2.2.alloc (.cells #[.string ⟨#[102, 97, 108, 115, 101]⟩, .string ⟨#[116, 114, 117, 101]⟩] 9)).cell 1
            go_wp2_with fail
            refine (works_any _ (I5.out.1.alloc _)).mono ?_
            rintro e w6 ⟨rfl, b6⟩
            have K6 := Lib.hid (below_call (below_new I5.out.2.1 _) b6)
            clear b6
            go_wp2_with fail
            go_ret
            exact ⟨rfl, K6.out⟩
          · have hsz : (⟨(35 :: Lib.itoa N).toArray⟩ : ByteArray).size = (Lib.itoa N).length + 1 := by simp [ByteArray.size]
            have hz : ∀ h, ((⟨(35 :: Lib.itoa N).toArray⟩ : ByteArray)[0]'h) = 35 := fun _ => rfl
            have hcut : (⟨(35 :: Lib.itoa N).toArray⟩ : ByteArray).extract 1 ((Lib.itoa N).length + 1) = ⟨(Lib.itoa N).toArray⟩ := by
              rw [mk_extract]
              simp
            have hlen : (Lib.itoa N).length ≤ 1000000 := by
              have := hsh
              rw [e] at this
              simp at this
              omega
            have NU := Lib.hid (Val.number_itoa N0 N1)
            rw [e]
            generalize (⟨(35 :: Lib.itoa N).toArray⟩ : ByteArray) = S at hsz hz hcut ⊢
            have h1 : (1 : Int) ≤ ↑(Lib.itoa N).length + 1 := by omega
            clear hE PL E3 e hsh
            go_wp2_with fail
            go_region_held3 (fun W => W.cell? ⟨w1.heap.size, 0, none⟩ = some (.int .i64 3) ∧ W.cell? ⟨w1.heap.size, 1, none⟩ = some (.int .i64 N) ∧ Hid (TInv w w1.heap.size 3 N W)) (first | exact TInv.cells (TInv.drew (by assumption)) | exact TInv.cells (TInv.call (by assumption) (by assumption)) | exact TInv.cells (TInv.call (TInv.limb (by assumption)) (by assumption))) (first | (go_at_call 20; go_loud (refine (number_any _ hlen _).mono ?_; rintro e w' ⟨rfl, hb⟩; rw [NU.out])) | (go_at_call 16; refine (works_any _ ?_).mono ?_; (first | exact TInv.good (by assumption) | exact TInv.good (TInv.limb (by assumption))); rintro e w' ⟨rfl, hb⟩))
            go_wp2_with fail
            have KF := TInv.limb (by assumption)
            go_ret
            exact ⟨rfl, KF.out.2.1⟩
          · have hlen : (Lib.itoa N).length ≤ 1000000 := by
              have := hsh
              rw [e] at this
              omega
            have NU := Lib.hid (Val.number_itoa N0 N1)
            rw [e]
            clear hE PL E3 e hsh
            go_wp2_with fail
            go_region_held3 (fun W => W.cell? ⟨w1.heap.size, 0, none⟩ = some (.int .i64 1) ∧ W.cell? ⟨w1.heap.size, 1, none⟩ = some (.int .i64 N) ∧ Hid (TInv w w1.heap.size 1 N W)) (first | exact TInv.cells (TInv.drew (by assumption)) | exact TInv.cells (TInv.call (by assumption) (by assumption)) | exact TInv.cells (TInv.call (TInv.limb (by assumption)) (by assumption))) (first | (go_at_call 20; go_loud (refine (number_any _ hlen _).mono ?_; rintro e w' ⟨rfl, hb⟩; rw [NU.out])) | (go_at_call 16; refine (works_any _ ?_).mono ?_; (first | exact TInv.good (by assumption) | exact TInv.good (TInv.limb (by assumption))); rintro e w' ⟨rfl, hb⟩))
            go_wp2_with fail
            have KF := TInv.limb (by assumption)
            go_ret
            exact ⟨rfl, KF.out.2.1⟩
  · have hd : ¬ Val.txt T N = Val.txt T' N' := fun e => hT ((Val.txt_inj OK.out OK'.out).1 e).1
    have hd2 : (Val.txt T N == Val.txt T' N') = false := by simpa using hd
    go_wp2_with fail
    go_loopw [13] (fun i wr => ∃ k : Nat, k ≤ (Val.txt T N).length ∧ i = .int .i64 k ∧ wr = w5) (fun i _ => (Val.txt T N).length - (intOf i).toNat)
    case atStart => exact ⟨0, Nat.zero_le _, rfl, rfl⟩
    case round =>
      obtain ⟨k, hk, rfl, rfl⟩ := hrel
      by_cases hlt : k < (Val.txt T N).length
      · obtain ⟨c, hc⟩ : ∃ c, (Val.txt T N)[k]? = some c := ⟨_, List.getElem?_eq_getElem hlt⟩
        have hx : ∀ h, ((⟨(Val.txt T N).toArray⟩ : ByteArray)[k]'h) = c := fun h => (List.getElem?_eq_some_iff.1 hc).2
        have hX := Lib.hid hx
        have hp := PL.out c (List.mem_of_getElem? hc)
        clear hx
        go_wp2_with fail
        · rename_i ha hb
          simp only [hX.out] at ha hb
          omega
        · exact ⟨⟨k + 1, hlt, by go_num, by trivial⟩, by simp [intOf]; omega⟩
        · rename_i ha
          simp only [hX.out] at ha
          omega
      · obtain rfl : k = (Val.txt T N).length := by omega
        rcases E3.out with ⟨rfl, rfl, e⟩ | ⟨rfl, rfl, e⟩ | ⟨rfl, e⟩ | ⟨rfl, e⟩
        · rw [e]
          have q0 := (I5.out.2.2.alloc (.cells #[.string ⟨#[102, 97, 108, 115, 101]⟩, .string ⟨#[116, 114, 117, 101]⟩] 9)).cell 0
          have q1 := (I5.out.2.2.alloc (.cells #[.string ⟨#[102, 97, 108, 115, 101]⟩, .string ⟨#[116, 114, 117, 101]⟩] 9)).cell 1
          go_wp2_with fail
          refine (works_any _ (I5.out.1.alloc _)).mono ?_
          rintro e w6 ⟨rfl, b6⟩
          have K6 := Lib.hid (below_call (below_new I5.out.2.1 _) b6)
          clear b6
          go_wp2_with fail
          go_ret
          exact ⟨rfl, K6.out⟩
        · rw [e]
          have q0 := (I5.out.2.2.alloc (.cells #[.string ⟨#[102, 97, 108, 115, 101]⟩, .string ⟨#[116, 114, 117, 101]⟩] 9)).cell 0
          have q1 := (I5.out.2.2.alloc (.cells #[.string ⟨#[102, 97, 108, 115, 101]⟩, .string ⟨#[116, 114, 117, 101]⟩] 9)).cell 1
          go_wp2_with fail
          refine (works_any _ (I5.out.1.alloc _)).mono ?_
          rintro e w6 ⟨rfl, b6⟩
          have K6 := Lib.hid (below_call (below_new I5.out.2.1 _) b6)
          clear b6
          go_wp2_with fail
          go_ret
          exact ⟨rfl, K6.out⟩
        · have hsz : (⟨(35 :: Lib.itoa N).toArray⟩ : ByteArray).size = (Lib.itoa N).length + 1 := by simp [ByteArray.size]
          have hz : ∀ h, ((⟨(35 :: Lib.itoa N).toArray⟩ : ByteArray)[0]'h) = 35 := fun _ => rfl
          have hcut : (⟨(35 :: Lib.itoa N).toArray⟩ : ByteArray).extract 1 ((Lib.itoa N).length + 1) = ⟨(Lib.itoa N).toArray⟩ := by
            rw [mk_extract]
            simp
          have hlen : (Lib.itoa N).length ≤ 1000000 := by
            have := hsh
            rw [e] at this
            simp at this
            omega
          have NU := Lib.hid (Val.number_itoa N0 N1)
          rw [e]
          generalize (⟨(35 :: Lib.itoa N).toArray⟩ : ByteArray) = S at hsz hz hcut ⊢
          have h1 : (1 : Int) ≤ ↑(Lib.itoa N).length + 1 := by omega
          clear hE PL E3 e hsh
          go_wp2_with fail
          go_region_held3 (fun W => W.cell? ⟨w1.heap.size, 0, none⟩ = some (.int .i64 3) ∧ W.cell? ⟨w1.heap.size, 1, none⟩ = some (.int .i64 N) ∧ Hid (TInv w w1.heap.size 3 N W)) (first | exact TInv.cells (TInv.drew (by assumption)) | exact TInv.cells (TInv.call (by assumption) (by assumption)) | exact TInv.cells (TInv.call (TInv.limb (by assumption)) (by assumption))) (first | (go_at_call 20; go_loud (refine (number_any _ hlen _).mono ?_; rintro e w' ⟨rfl, hb⟩; rw [NU.out])) | (go_at_call 16; refine (works_any _ ?_).mono ?_; (first | exact TInv.good (by assumption) | exact TInv.good (TInv.limb (by assumption))); rintro e w' ⟨rfl, hb⟩))
          go_wp2_with fail
          have KF := TInv.limb (by assumption)
          go_ret
          exact ⟨rfl, KF.out.2.1⟩
        · have hlen : (Lib.itoa N).length ≤ 1000000 := by
            have := hsh
            rw [e] at this
            omega
          have NU := Lib.hid (Val.number_itoa N0 N1)
          rw [e]
          clear hE PL E3 e hsh
          go_wp2_with fail
          go_region_held3 (fun W => W.cell? ⟨w1.heap.size, 0, none⟩ = some (.int .i64 1) ∧ W.cell? ⟨w1.heap.size, 1, none⟩ = some (.int .i64 N) ∧ Hid (TInv w w1.heap.size 1 N W)) (first | exact TInv.cells (TInv.drew (by assumption)) | exact TInv.cells (TInv.call (by assumption) (by assumption)) | exact TInv.cells (TInv.call (TInv.limb (by assumption)) (by assumption))) (first | (go_at_call 20; go_loud (refine (number_any _ hlen _).mono ?_; rintro e w' ⟨rfl, hb⟩; rw [NU.out])) | (go_at_call 16; refine (works_any _ ?_).mono ?_; (first | exact TInv.good (by assumption) | exact TInv.good (TInv.limb (by assumption))); rintro e w' ⟨rfl, hb⟩))
          go_wp2_with fail
          have KF := TInv.limb (by assumption)
          go_ret
          exact ⟨rfl, KF.out.2.1⟩
end Go.Proofs.YtfghigioofaidaaDoor

/-
  LAYER 2: the laws of addition and multiplication; quotients and remainders: the two statements' walks.
-/
import Derived.Test.YtdogdpjgkhcndaaDoorNum5
namespace Go.Proofs.YtdogdpjgkhcndaaDoor
open Go.ChangeShapes Go.WideShapes Go.ChangeAt Go.RowKit

/-- rewindlaw02.do, where there is no trap. -/
def LC (op a b n : Int) : Prop := ∀ W, Calls Tryd.prog 18 #[.int .i64 op, .int .i64 a, .int .i64 b] W fun e w' => e = .returned (.tuple #[.int .i64 n, .bool true]) ∧ W = w'
def NC (a n : Int) : Prop := ∀ W, Calls Tryd.prog 15 #[.int .i64 a] W fun e w' => e = .returned (.int .i64 n) ∧ W = w'
def I64 (a : Int) : Prop := -9223372036854775808 ≤ a ∧ a ≤ 9223372036854775807
theorem I64.wrap (x : Int) : I64 (wrap64 x) := Num.wrap_bounds x
theorem ldo_any {op a b : Int} (ha : I64 a) (hb : I64 b) (h1 : doT op b = 0) (h2 : doE op = 0) : LC op a b (doN op a b) := by
  intro w
  have h := fun W => do_any op a b ha.1 ha.2 hb.1 hb.2 W
  rw [h1, h2] at h
  generalize doN op a b = X at h
  have H := Lib.hid h
  clear h h1 h2
  go_enter Tryd.func18, Tryd.ntmps18
  go_wp2_with fail
  refine (H.out _).mono ?_
  rintro e w1 ⟨rfl, rfl⟩
  go_wp2_with fail
  go_ret2
  exact ⟨rfl, rfl⟩
theorem ladd {a b n : Int} (ha : I64 a) (hb : I64 b) (h : wrap64 (a + b) = n) : LC 1 a b n := by
  rw [← h]
  exact ldo_any (op := 1) ha hb (by simp [doT]) (by decide)
theorem lsub {a b n : Int} (ha : I64 a) (hb : I64 b) (h : wrap64 (a - b) = n) : LC 2 a b n := by
  rw [← h]
  exact ldo_any (op := 2) ha hb (by simp [doT]) (by decide)
theorem lmul {a b n : Int} (ha : I64 a) (hb : I64 b) (h : wrap64 (a * b) = n) : LC 3 a b n := by
  rw [← h]
  exact ldo_any (op := 3) ha hb (by simp [doT]) (by decide)
theorem lneg {a n : Int} (h : wrap64 (-a) = n) : NC a n := by
  rw [← h]
  exact fun W => neg_any a W
/-- An operator that is commutative and associative, at three numbers. -/
def Five (op a b c S1 S2 S3 : Int) : Prop := LC op a b S1 ∧ LC op b a S1 ∧ LC op S1 c S2 ∧ LC op b c S3 ∧ LC op a S3 S2
theorem five_add {a b c : Int} (ha : I64 a) (hb : I64 b) (hc : I64 c) : ∃ S1 S2 S3, Five 1 a b c S1 S2 S3 :=
  ⟨_, _, _, ladd ha hb rfl, ladd hb ha (Num.add_comm' b a), ladd (I64.wrap _) hc rfl, ladd hb hc rfl, ladd ha (I64.wrap _) (Num.add_assoc' a b c).symm⟩
theorem five_mul {a b c : Int} (ha : I64 a) (hb : I64 b) (hc : I64 c) : ∃ S1 S2 S3, Five 3 a b c S1 S2 S3 :=
  ⟨_, _, _, lmul ha hb rfl, lmul hb ha (Num.mul_comm' b a), lmul (I64.wrap _) hc rfl, lmul hb hc rfl, lmul ha (I64.wrap _) (Num.mul_assoc' a b c).symm⟩
def Rest (a b c T1 T2 T3 T4 T5 NB NA : Int) : Prop := LC 1 b c T1 ∧ LC 3 a T1 T2 ∧ LC 3 a b T3 ∧ LC 3 a c T4 ∧ LC 1 T3 T4 T2 ∧ LC 2 a b T5 ∧ NC b NB ∧ LC 1 a NB T5 ∧ LC 2 a a 0 ∧ NC a NA ∧ NC NA a
theorem rest_all {a b c : Int} (ha : I64 a) (hb : I64 b) (hc : I64 c) : ∃ T1 T2 T3 T4 T5 NB NA, Rest a b c T1 T2 T3 T4 T5 NB NA :=
  ⟨_, _, _, _, _, _, _, ladd hb hc rfl, lmul ha (I64.wrap _) rfl, lmul ha hb rfl, lmul ha hc rfl, ladd (I64.wrap _) (I64.wrap _) (Num.mul_add' a b c).symm, lsub ha hb rfl, lneg rfl, ladd ha (I64.wrap _) (Num.sub_neg' a b).symm, lsub ha ha (by rw [Int.sub_self]; unfold wrap64; omega), lneg rfl, lneg (Num.neg_neg' ha.1 ha.2)⟩

set_option maxHeartbeats 2000000 in
set_option maxRecDepth 100000 in
theorem numberLaws_walk (a : Int) (a0 : -9223372036854775808 ≤ a) (a1 : a ≤ 9223372036854775807) (b : Int) (b0 : -9223372036854775808 ≤ b) (b1 : b ≤ 9223372036854775807) (c : Int) (c0 : -9223372036854775808 ≤ c) (c1 : c ≤ 9223372036854775807) (w : World) (hG : Good w) :
    Calls Tryd.prog 4 #[.int .i64 a, .int .i64 b, .int .i64 c] w fun e w' => e = .returned (.bool true) ∧ Below w.heap.size w w' := by
  have HI : Hid (FInv w w) := Lib.hid ⟨hG, Below.refl _ _⟩
  clear hG
  obtain ⟨S1, S2, S3, hA⟩ := five_add ⟨a0, a1⟩ ⟨b0, b1⟩ ⟨c0, c1⟩
  obtain ⟨M1, M2, M3, hM⟩ := five_mul ⟨a0, a1⟩ ⟨b0, b1⟩ ⟨c0, c1⟩
  obtain ⟨T1, T2, T3, T4, T5, NB, NA, hR⟩ := rest_all ⟨a0, a1⟩ ⟨b0, b1⟩ ⟨c0, c1⟩
  have HA := Lib.hid hA
  have HM := Lib.hid hM
  have HR := Lib.hid hR
  clear hA hM hR
  go_enter Tryd.func4, Tryd.ntmps4
  go_wp2_with fail
  have HB : Hid (Blk (w.alloc (.cells #[.int .i64 1, .int .i64 3] 3)) w.heap.size 3 #[.int .i64 1, .int .i64 3]) := Lib.hid (Blk.new _ _ _)
  have HI := FInv.alloc HI (.cells #[.int .i64 1, .int .i64 3] 3)
  go_loopw [37] (fun i wr => ∃ k : Nat, k ≤ 2 ∧ i = .int .i64 k ∧ Hid (FInv w wr) ∧ Hid (Blk wr w.heap.size 3 #[.int .i64 1, .int .i64 3])) (fun i _ => 2 - (intOf i).toNat)
  case atStart => exact ⟨0, by omega, rfl, HI, HB⟩
  case round =>
    obtain ⟨k, hk, rfl, HI, HB⟩ := hrel
    rcases (show k = 0 ∨ k = 1 ∨ k = 2 by omega) with rfl | rfl | rfl
    · have e0 : wr.cell? ⟨w.heap.size, 0, none⟩ = some (.int .i64 1) := HB.out.cell 0
      go_wp2_with fail
      refine (HA.out.1 _).mono ?_
      rintro e w1 ⟨rfl, rfl⟩
      go_wp2_with fail
      refine (HA.out.2.1 _).mono ?_
      rintro e w1 ⟨rfl, rfl⟩
      go_wp2_with fail
      refine (HA.out.2.2.1 _).mono ?_
      rintro e w1 ⟨rfl, rfl⟩
      go_wp2_with fail
      refine (HA.out.2.2.2.1 _).mono ?_
      rintro e w1 ⟨rfl, rfl⟩
      go_wp2_with fail
      refine (HA.out.2.2.2.2 _).mono ?_
      rintro e w1 ⟨rfl, rfl⟩
      go_wp2_with fail
      go_roundw
      case rel => exact ⟨1, by omega, rfl, HI, HB⟩
      case measure => simp [intOf]
    · have e0 : wr.cell? ⟨w.heap.size, 1, none⟩ = some (.int .i64 3) := HB.out.cell 1
      go_wp2_with fail
      refine (HM.out.1 _).mono ?_
      rintro e w1 ⟨rfl, rfl⟩
      go_wp2_with fail
      refine (HM.out.2.1 _).mono ?_
      rintro e w1 ⟨rfl, rfl⟩
      go_wp2_with fail
      refine (HM.out.2.2.1 _).mono ?_
      rintro e w1 ⟨rfl, rfl⟩
      go_wp2_with fail
      refine (HM.out.2.2.2.1 _).mono ?_
      rintro e w1 ⟨rfl, rfl⟩
      go_wp2_with fail
      refine (HM.out.2.2.2.2 _).mono ?_
      rintro e w1 ⟨rfl, rfl⟩
      go_wp2_with fail
      go_roundw
      case rel => exact ⟨2, by omega, rfl, HI, HB⟩
      case measure => simp [intOf]
    · rw [show ((2 : Nat) : Int) = 2 from rfl]
      clear HB
      go_wp2_with fail
      refine (HR.out.1 _).mono ?_
      rintro e w1 ⟨rfl, rfl⟩
      go_wp2_with fail
      refine (HR.out.2.1 _).mono ?_
      rintro e w1 ⟨rfl, rfl⟩
      go_wp2_with fail
      refine (HR.out.2.2.1 _).mono ?_
      rintro e w1 ⟨rfl, rfl⟩
      go_wp2_with fail
      refine (HR.out.2.2.2.1 _).mono ?_
      rintro e w1 ⟨rfl, rfl⟩
      go_wp2_with fail
      refine (HR.out.2.2.2.2.1 _).mono ?_
      rintro e w1 ⟨rfl, rfl⟩
      go_wp2_with fail
      refine (HR.out.2.2.2.2.2.1 _).mono ?_
      rintro e w1 ⟨rfl, rfl⟩
      go_wp2_with fail
      refine (HR.out.2.2.2.2.2.2.1 _).mono ?_
      rintro e w1 ⟨rfl, rfl⟩
      go_wp2_with fail
      refine (HR.out.2.2.2.2.2.2.2.1 _).mono ?_
      rintro e w1 ⟨rfl, rfl⟩
      go_wp2_with fail
      refine (HR.out.2.2.2.2.2.2.2.2.1 _).mono ?_
      rintro e w1 ⟨rfl, rfl⟩
      go_wp2_with fail
      refine (HR.out.2.2.2.2.2.2.2.2.2.1 _).mono ?_
      rintro e w1 ⟨rfl, rfl⟩
      go_wp2_with fail
      refine (HR.out.2.2.2.2.2.2.2.2.2.2 _).mono ?_
      rintro e w1 ⟨rfl, rfl⟩
      go_wp2_with fail
      refine (works_any _ (FInv.good HI)).mono ?_
      rintro e w1 ⟨rfl, b⟩
      have HI := FInv.call HI b
      clear b
      go_wp2_with fail
      go_ret
      exact ⟨rfl, HI.out.2⟩

/-! ### Quotients -/
def DC (op a b n t : Int) : Prop := ∀ W, Calls Tryd.prog 11 #[.int .i64 op, .int .i64 a, .int .i64 b] W fun e w' => e = .returned (.tuple #[.int .i64 n, .int .i64 t, .int .i64 0]) ∧ W = w'
theorem quot_zero {a : Int} (ha : I64 a) : DC 4 a 0 0 1 ∧ DC 5 a 0 0 1 := by
  refine ⟨fun W => ?_, fun W => ?_⟩
  · have h := do_any 4 a 0 ha.1 ha.2 (by decide) (by decide) W
    rwa [show doN 4 a 0 = 0 by simp [doN], show doT 4 0 = 1 by decide, show doE 4 = 0 by decide] at h
  · have h := do_any 5 a 0 ha.1 ha.2 (by decide) (by decide) W
    rwa [show doN 5 a 0 = 0 by simp [doN], show doT 5 0 = 1 by decide, show doE 5 = 0 by decide] at h
/-- What is asked of a quotient and a remainder. -/
structure Quot (a b q r p : Int) : Prop where
  dq : DC 4 a b q 0
  dr : DC 5 a b r 0
  mp : LC 3 q b p
  ad : LC 1 p r a
  r0 : I64 r
  s1 : 0 < r → 0 < a
  s2 : r < 0 → a < 0
  n1 : 0 < r → 0 < b → r < b
  n2 : 0 < r → b < 0 → r < -b
  n3 : r ≤ 0 → 0 < b → -r < b
  n4 : r ≤ 0 → b < 0 → b < r
theorem quot_all {a b : Int} (ha : I64 a) (hb : I64 b) (h0 : ¬ b = 0) : ∃ q r p, Quot a b q r p := by
  have hT4 : doT 4 b = 0 := by simp [doT, h0]
  have hT5 : doT 5 b = 0 := by simp [doT, h0]
  have e4 : doN 4 a b = wrap64 (a.tdiv b) := by simp [doN, h0]
  have e5 : doN 5 a b = a.tmod b := by simp [doN, h0]
  have hp : ∀ x : Int, 0 ≤ x % b ∧ (0 < b → x % b < b) ∧ (b < 0 → x % b < -b) := fun x =>
    ⟨Int.emod_nonneg x h0, fun h => Int.emod_lt_of_pos x h, fun h => by
      have := Int.emod_lt_of_pos x (b := -b) (by omega)
      rwa [Int.emod_neg] at this⟩
  have hr : (0 ≤ a ∧ a.tmod b = a % b) ∨ (a < 0 ∧ a.tmod b = -((-a) % b)) := by
    rcases Int.le_total 0 a with h | h
    · exact .inl ⟨h, Int.tmod_eq_emod_of_nonneg h⟩
    · by_cases ha0 : a = 0
      · subst ha0
        exact .inl ⟨Int.le_refl _, Int.tmod_eq_emod_of_nonneg (Int.le_refl _)⟩
      · refine .inr ⟨by omega, ?_⟩
        rw [← Int.tmod_eq_emod_of_nonneg (by omega : 0 ≤ -a), Int.neg_tmod, Int.neg_neg]
  have q1 := hp a
  have q2 := hp (-a)
  have q0 : a = 0 → a % b = 0 := fun h => by rw [h]; exact Int.zero_emod b
  have hb1 := hb.1
  have hb2 := hb.2
  have hR : I64 (a.tmod b) := by
    unfold I64
    rcases hr with ⟨h, e⟩ | ⟨h, e⟩
    · rw [e]
      omega
    · rw [e]
      omega
  have hd4 : DC 4 a b (wrap64 (a.tdiv b)) 0 := fun W => by
    have h := do_any 4 a b ha.1 ha.2 hb.1 hb.2 W
    rwa [e4, hT4, show doE 4 = 0 by decide] at h
  have hd5 : DC 5 a b (a.tmod b) 0 := fun W => by
    have h := do_any 5 a b ha.1 ha.2 hb.1 hb.2 W
    rwa [e5, hT5, show doE 5 = 0 by decide] at h
  refine ⟨_, _, _, hd4, hd5, lmul (I64.wrap _) hb rfl, ladd (I64.wrap _) hR (Num.quot_back ha.1 ha.2), hR, ?_, ?_, ?_, ?_, ?_, ?_⟩
  all_goals
    rcases hr with ⟨h, e⟩ | ⟨h, e⟩
    all_goals
      rw [e]
      intros
      omega

set_option maxHeartbeats 2000000 in
set_option maxRecDepth 100000 in
theorem numberQuotients_walk (a : Int) (a0 : -9223372036854775808 ≤ a) (a1 : a ≤ 9223372036854775807) (b : Int) (b0 : -9223372036854775808 ≤ b) (b1 : b ≤ 9223372036854775807) (w : World) (hG : Good w) :
    Calls Tryd.prog 5 #[.int .i64 a, .int .i64 b] w fun e w' => e = .returned (.bool true) ∧ Below w.heap.size w w' := by
  have HI : Hid (FInv w w) := Lib.hid ⟨hG, Below.refl _ _⟩
  clear hG
  by_cases h0 : b = 0
  · subst h0
    obtain ⟨h1, h2⟩ := quot_zero ⟨a0, a1⟩
    have H1 := Lib.hid h1
    have H2 := Lib.hid h2
    clear h1 h2
    go_enter Tryd.func5, Tryd.ntmps5
    go_wp2_with fail
    refine (H1.out _).mono ?_
    rintro e w1 ⟨rfl, rfl⟩
    go_wp2_with fail
    refine (H2.out _).mono ?_
    rintro e w1 ⟨rfl, rfl⟩
    go_wp2_with fail
    refine (works_any _ (FInv.good HI)).mono ?_
    rintro e w1 ⟨rfl, b⟩
    have HI := FInv.call HI b
    clear b
    go_wp2_with fail
    go_ret
    exact ⟨rfl, HI.out.2⟩
  · obtain ⟨q, r, p, hQ⟩ := quot_all ⟨a0, a1⟩ ⟨b0, b1⟩ h0
    have h0' : (b == 0) = false := by simpa using h0
    have HQ := Lib.hid hQ
    obtain ⟨dq, dr, mp, ad, r0, s1, s2, n1, n2, n3, n4⟩ := hQ
    have r00 := r0.1
    have r01 := r0.2
    clear dq dr mp ad r0
    rcases (show (0 < r ∧ 0 < b) ∨ (0 < r ∧ b < 0) ∨ (r < 0 ∧ 0 < b) ∨ (r < 0 ∧ b < 0) ∨ (r = 0 ∧ 0 < b) ∨ (r = 0 ∧ b < 0) by omega) with ⟨hr, hb⟩ | ⟨hr, hb⟩ | ⟨hr, hb⟩ | ⟨hr, hb⟩ | ⟨rfl, hb⟩ | ⟨rfl, hb⟩
    · have x1 := s1 hr
      have x2 := n1 hr hb
      clear s1 s2 n1 n2 n3 n4 h0
      go_enter Tryd.func5, Tryd.ntmps5
      go_wp2_with fail
      refine (HQ.out.dq _).mono ?_
      rintro e w1 ⟨rfl, rfl⟩
      go_wp2_with fail
      refine (HQ.out.dr _).mono ?_
      rintro e w1 ⟨rfl, rfl⟩
      go_wp2_with fail
      refine (HQ.out.mp _).mono ?_
      rintro e w1 ⟨rfl, rfl⟩
      go_wp2_with fail
      refine (HQ.out.ad _).mono ?_
      rintro e w1 ⟨rfl, rfl⟩
      go_wp2_with fail
      refine (works_any _ (FInv.good HI)).mono ?_
      rintro e w1 ⟨rfl, b⟩
      have HI := FInv.call HI b
      clear b
      go_wp2_with fail
      go_ret
      exact ⟨rfl, HI.out.2⟩
    · have x1 := s1 hr
      have x2 := n2 hr hb
      clear s1 s2 n1 n2 n3 n4 h0
      go_enter Tryd.func5, Tryd.ntmps5
      go_wp2_with fail
      refine (HQ.out.dq _).mono ?_
      rintro e w1 ⟨rfl, rfl⟩
      go_wp2_with fail
      refine (HQ.out.dr _).mono ?_
      rintro e w1 ⟨rfl, rfl⟩
      go_wp2_with fail
      refine (HQ.out.mp _).mono ?_
      rintro e w1 ⟨rfl, rfl⟩
      go_wp2_with fail
      refine (HQ.out.ad _).mono ?_
      rintro e w1 ⟨rfl, rfl⟩
      go_wp2_with fail
      refine (works_any _ (FInv.good HI)).mono ?_
      rintro e w1 ⟨rfl, b⟩
      have HI := FInv.call HI b
      clear b
      go_wp2_with fail
      go_ret
      exact ⟨rfl, HI.out.2⟩
    · have x1 := s2 hr
      have x2 := n3 (by omega) hb
      have x3 : ¬ 0 < r := by omega
      clear s1 s2 n1 n2 n3 n4 h0
      go_enter Tryd.func5, Tryd.ntmps5
      go_wp2_with fail
      refine (HQ.out.dq _).mono ?_
      rintro e w1 ⟨rfl, rfl⟩
      go_wp2_with fail
      refine (HQ.out.dr _).mono ?_
      rintro e w1 ⟨rfl, rfl⟩
      go_wp2_with fail
      refine (HQ.out.mp _).mono ?_
      rintro e w1 ⟨rfl, rfl⟩
      go_wp2_with fail
      refine (HQ.out.ad _).mono ?_
      rintro e w1 ⟨rfl, rfl⟩
      go_wp2_with fail
      refine (works_any _ (FInv.good HI)).mono ?_
      rintro e w1 ⟨rfl, b⟩
      have HI := FInv.call HI b
      clear b
      go_wp2_with fail
      go_ret
      exact ⟨rfl, HI.out.2⟩
    · have x1 := s2 hr
      have x2 := n4 (by omega) hb
      have x3 : ¬ 0 < r := by omega
      clear s1 s2 n1 n2 n3 n4 h0
      go_enter Tryd.func5, Tryd.ntmps5
      go_wp2_with fail
      refine (HQ.out.dq _).mono ?_
      rintro e w1 ⟨rfl, rfl⟩
      go_wp2_with fail
      refine (HQ.out.dr _).mono ?_
      rintro e w1 ⟨rfl, rfl⟩
      go_wp2_with fail
      refine (HQ.out.mp _).mono ?_
      rintro e w1 ⟨rfl, rfl⟩
      go_wp2_with fail
      refine (HQ.out.ad _).mono ?_
      rintro e w1 ⟨rfl, rfl⟩
      go_wp2_with fail
      refine (works_any _ (FInv.good HI)).mono ?_
      rintro e w1 ⟨rfl, b⟩
      have HI := FInv.call HI b
      clear b
      go_wp2_with fail
      go_ret
      exact ⟨rfl, HI.out.2⟩
    · have x2 := n3 (by omega) hb
      clear s1 s2 n1 n2 n3 n4 h0
      go_enter Tryd.func5, Tryd.ntmps5
      go_wp2_with fail
      refine (HQ.out.dq _).mono ?_
      rintro e w1 ⟨rfl, rfl⟩
      go_wp2_with fail
      refine (HQ.out.dr _).mono ?_
      rintro e w1 ⟨rfl, rfl⟩
      go_wp2_with fail
      refine (HQ.out.mp _).mono ?_
      rintro e w1 ⟨rfl, rfl⟩
      go_wp2_with fail
      refine (HQ.out.ad _).mono ?_
      rintro e w1 ⟨rfl, rfl⟩
      go_wp2_with fail
      refine (works_any _ (FInv.good HI)).mono ?_
      rintro e w1 ⟨rfl, b⟩
      have HI := FInv.call HI b
      clear b
      go_wp2_with fail
      go_ret
      exact ⟨rfl, HI.out.2⟩
    · have x2 := n4 (by omega) hb
      clear s1 s2 n1 n2 n3 n4 h0
      go_enter Tryd.func5, Tryd.ntmps5
      go_wp2_with fail
      refine (HQ.out.dq _).mono ?_
      rintro e w1 ⟨rfl, rfl⟩
      go_wp2_with fail
      refine (HQ.out.dr _).mono ?_
      rintro e w1 ⟨rfl, rfl⟩
      go_wp2_with fail
      refine (HQ.out.mp _).mono ?_
      rintro e w1 ⟨rfl, rfl⟩
      go_wp2_with fail
      refine (HQ.out.ad _).mono ?_
      rintro e w1 ⟨rfl, rfl⟩
      go_wp2_with fail
      refine (works_any _ (FInv.good HI)).mono ?_
      rintro e w1 ⟨rfl, b⟩
      have HI := FInv.call HI b
      clear b
      go_wp2_with fail
      go_ret
      exact ⟨rfl, HI.out.2⟩
end Go.Proofs.YtdogdpjgkhcndaaDoor

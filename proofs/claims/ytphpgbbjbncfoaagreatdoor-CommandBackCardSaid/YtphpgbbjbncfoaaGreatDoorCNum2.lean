/-
  LAYER 2: strings of numbers, and what is decoded, in the program and in the reference.
-/
import Derived.Test.YtphpgbbjbncfoaaGreatDoorCom1
import Derived.Laws.RangeAny
namespace Go.Proofs.YtphpgbbjbncfoaaGreatDoor
open Go.ChangeShapes Go.WideShapes Go.ChangeAt Go.RowKit

/-- number.Text: the numeral. -/
theorem ntext_any (n : Int) (h0 : -9223372036854775808 ≤ n) (h1 : n ≤ 9223372036854775807) (w : World) (hG : Good w) :
    Calls Tryz.prog 39 #[.int .i64 n] w fun e w' => e = .returned (.string ⟨(Lib.itoa n).toArray⟩) ∧ Below w.heap.size w w' := by
  have hp := hG.pow
  clear hG
  go_enter Tryz.func39, Tryz.ntmps39
  go_wp2_with fail
  refine (Tryz.strconv_FormatInt_10 n h0 h1 _ hp).mono ?_
  rintro e w2 ⟨rfl, k, os, rfl⟩
  go_wp2_with fail
  go_ret
  exact ⟨rfl, below_grow k os⟩

theorem digit_piece (n : Int) (h0 : 0 ≤ n) (h1 : n ≤ 9) : ({ data := #[48, 49, 50, 51, 52, 53, 54, 55, 56, 57] } : ByteArray).extract n.toNat (n + 1).toNat = ⟨(Lib.decDigits n.toNat).toArray⟩ := by
  rw [Dec.dec_small (by omega)]
  rcases (show n = 0 ∨ n = 1 ∨ n = 2 ∨ n = 3 ∨ n = 4 ∨ n = 5 ∨ n = 6 ∨ n = 7 ∨ n = 8 ∨ n = 9 by omega) with rfl | rfl | rfl | rfl | rfl | rfl | rfl | rfl | rfl | rfl <;> decide

/-- The reference's digits: the numeral. -/
theorem digits_any (k : Nat) : ∀ (n : Int) (w : World), n.toNat ≤ k → 0 ≤ n → n ≤ 18446744073709551615 →
    Calls Tryz.prog 108 #[.int .u64 n] w fun e w' => e = .returned (.string ⟨(Lib.decDigits n.toNat).toArray⟩) ∧ w = w' := by
  induction k with
  | zero =>
    intro n w hk h0 h1
    obtain rfl : n = 0 := by omega
    go_enter Tryz.func108, Tryz.ntmps108
    go_wp2_with fail
    go_ret
    exact ⟨ret_str (digit_piece 0 (by decide) (by decide)), rfl⟩
  | succ k ih =>
    intro n w hk h0 h1
    by_cases hn : n ≤ 9
    · clear ih
      go_enter Tryz.func108, Tryz.ntmps108
      go_wp2_with fail
      go_ret
      exact ⟨ret_str (digit_piece n h0 hn), rfl⟩
    · have hI := Lib.hid ih
      clear ih
      have s1 : (Lib.decDigits (n / 10).toNat).length ≤ 20 := Dec.dec_length_le (by omega)
      have s2 : (Lib.decDigits (n % 10).toNat).length ≤ 20 := Dec.dec_length_le (by omega)
      go_enter Tryz.func108, Tryz.ntmps108
      go_wp2_with fail
      refine (hI.out (n / 10) _ (by omega) (by omega) (by omega)).mono ?_
      rintro e w' ⟨rfl, rfl⟩
      go_wp2_with fail
      refine (hI.out (n % 10) _ (by omega) (by omega) (by omega)).mono ?_
      rintro e w' ⟨rfl, rfl⟩
      go_wp2_with fail
      go_ret
      refine ⟨ret_str ?_, rfl⟩
      rw [ByteArray.mk_append_mk, mk_inj, Dec.dec_big (u := n.toNat) (by omega), Dec.dec_small (u := (n % 10).toNat) (by omega), show (n / 10).toNat = n.toNat / 10 by omega, show (n % 10).toNat = n.toNat % 10 by omega]

/-- The reference's Text: the same. -/
theorem rntext_any (n : Int) (h0 : -9223372036854775808 ≤ n) (h1 : n ≤ 9223372036854775807) (w : World) :
    Calls Tryz.prog 82 #[.int .i64 n] w fun e w' => e = .returned (.string ⟨(Lib.itoa n).toArray⟩) ∧ w = w' := by
  by_cases hn : n < 0
  · have hlen : (Lib.decDigits (-n).toNat).length ≤ 20 := Dec.dec_length_le (by omega)
    go_enter Tryz.func82, Tryz.ntmps82
    go_wp2_with fail
    rw [show -(n + 1) + 1 = -n by omega]
    refine (digits_any (-n).toNat (-n) _ (Nat.le_refl _) (by omega) (by omega)).mono ?_
    rintro e w2 ⟨rfl, rfl⟩
    go_wp2_with fail
    go_ret
    exact ⟨ret_str (by rw [Dec.itoa_neg hn, show (⟨#[45]⟩ : ByteArray) = ⟨[45].toArray⟩ from rfl, ByteArray.mk_append_mk, show n.natAbs = (-n).toNat by omega]; rfl), rfl⟩
  · go_enter Tryz.func82, Tryz.ntmps82
    go_wp2_with fail
    refine (digits_any n.toNat n _ (Nat.le_refl _) (by omega) (by omega)).mono ?_
    rintro e w2 ⟨rfl, rfl⟩
    go_wp2_with fail
    go_ret
    exact ⟨ret_str (by rw [Dec.itoa_nn (by omega)]), rfl⟩

theorem decode_digit {l : List UInt8} {pos : Nat} {c : UInt8} (hc : l[pos]? = some c) : (Dec.isDig c → Utf8.decode ⟨l.toArray⟩ pos = (c.toNat, 1)) ∧ (¬ Dec.isDig c → ((Utf8.decode ⟨l.toArray⟩ pos).1 < 48 ∨ 57 < (Utf8.decode ⟨l.toArray⟩ pos).1)) := by
  obtain ⟨hlt, rfl⟩ := List.getElem?_eq_some_iff.1 hc
  have hs : pos < (⟨l.toArray⟩ : ByteArray).size := hlt
  have hx : ((⟨l.toArray⟩ : ByteArray)[pos]'hs) = l[pos] := rfl
  unfold Dec.isDig
  by_cases ha : (l[pos]).toNat < 128
  · have h := decode_ascii ⟨l.toArray⟩ pos hs (by rw [hx]; exact ha)
    rw [h, hx]
    exact ⟨fun _ => rfl, fun hn => by simp only; omega⟩
  · have h := decode_high ⟨l.toArray⟩ pos hs (by rw [hx]; omega)
    exact ⟨fun hd => by omega, fun _ => .inr (by omega)⟩

theorem plain_bad {l : List UInt8} {k : Nat} {c : UInt8} (hc : l[k]? = some c) (hd : ¬ Dec.isDig c) : Num.plain l = false :=
  decide_eq_false fun h => hd (h.2.1 c (List.mem_of_getElem? hc))
theorem plain_zero {l : List UInt8} (hc : l[0]? = some 48) (h : 1 < l.length) : Num.plain l = false :=
  decide_eq_false fun h2 => by
    have := h2.2.2 (by rw [List.head?_eq_getElem?]; exact hc)
    omega
theorem plain_good {l : List UInt8} (h0 : l ≠ []) (h1 : ∀ c ∈ l, Dec.isDig c) (h2 : l.head? = some 48 → l.length = 1) : Num.plain l = true := decide_eq_true ⟨h0, h1, h2⟩

set_option maxHeartbeats 1000000 in
/-- number.plain: digits without a zero ahead. -/
theorem plain_any (l : List UInt8) (hl : l.length ≤ 1000000) (w : World) :
    Calls Tryz.prog 141 #[.string ⟨l.toArray⟩] w fun e w' => e = .returned (.bool (Num.plain l)) ∧ Below w.heap.size w w' := by
  obtain ⟨D, hD⟩ : ∃ D, Num.plain l = D := ⟨_, rfl⟩
  rw [hD]
  have HD := Lib.hid hD
  clear hD
  have HB : Hid (∀ pos, Below w.heap.size w (w.iter ⟨l.toArray⟩ pos)) := Lib.hid fun pos => below_new (Below.refl _ _) _
  go_enter Tryz.func141, Tryz.ntmps141
  go_wp2_with fail
  go_loopw [3] (fun _ wr => ∃ pos : Nat, pos ≤ l.length ∧ wr = w.iter ⟨l.toArray⟩ pos ∧ Hid (∀ c ∈ l.take pos, Dec.isDig c) ∧ Hid (0 < pos → l.head? = some 48 → l.length = 1)) (fun _ wr => l.length - wr.iterPos w.heap.size)
  case atStart => exact ⟨0, Nat.zero_le _, rfl, Lib.hid (by simp), Lib.hid (fun h => by omega)⟩
  case round =>
    obtain ⟨pos, hpl, rfl, HT, HZ⟩ := hrel
    by_cases hp : pos < l.length
    · obtain ⟨c, hc⟩ : ∃ c, l[pos]? = some c := ⟨_, List.getElem?_eq_getElem hp⟩
      obtain ⟨d1, d2⟩ := decode_digit hc
      have hn := fun ty => run_next_any (P := Tryz.prog) w ⟨l.toArray⟩ pos ty hp
      have HC := Lib.hid hc
      clear hc
      by_cases hd : Dec.isDig c
      · rw [d1 hd] at hn
        simp only at hn
        have hd' := hd
        unfold Dec.isDig at hd'
        have HN : Hid (∀ c ∈ l.take (pos + 1), Dec.isDig c) := Lib.hid (by
          rw [take_snoc HC.out]
          intro x hx
          rcases List.mem_append.1 hx with hx | hx
          · exact HT.out x hx
          · rw [List.mem_singleton.1 hx]; exact hd)
        clear d1 d2 hd
        obtain ⟨n, hn2⟩ : ∃ n, c.toNat = n := ⟨_, rfl⟩
        have hcn : c = 48 ↔ n = 48 := ⟨fun h => by rw [← hn2, h]; rfl, fun h => UInt8.toNat_inj.1 (by rw [hn2, h]; rfl)⟩
        have HCN := Lib.hid hcn
        rw [hn2] at hn hd'
        clear hn2 hcn
        have b1 : (48 : Int) ≤ (n : Int) := by omega
        have b2 : (n : Int) ≤ 57 := by omega
        clear hd'
        by_cases h48 : n = 48
        · subst h48
          by_cases hp0 : pos = 0
          · subst hp0
            by_cases h1 : 1 < l.length
            · have HF : Hid (D = false) := Lib.hid (by rw [← HD.out]; exact plain_zero (by rw [HC.out, HCN.out.2 rfl]) h1)
              have h1' : (1 : Int) < (l.length : Int) := by omega
              go_wp2_with fail
              go_ret
              exact ⟨by rw [HF.out]; rfl, HB.out _⟩
            · have h1' : ¬ (1 : Int) < (l.length : Int) := by omega
              have HZ2 : Hid (0 < 0 + 1 → l.head? = some 48 → l.length = 1) := Lib.hid (fun _ _ => by omega)
              go_wp2_with fail
              go_roundw
              case rel => exact ⟨1, by omega, rfl, HN, HZ2⟩
              case measure => simp; omega
          · have h0 : ((pos : Int) == 0) = false := by simp; omega
            have HZ2 : Hid (0 < pos + 1 → l.head? = some 48 → l.length = 1) := Lib.hid (fun _ => HZ.out (by omega))
            go_wp2_with fail
            go_roundw
            case rel => exact ⟨pos + 1, by omega, rfl, HN, HZ2⟩
            case measure => simp; omega
        · have h48' : ((n : Int) == 48) = false := by simp; omega
          have HZ2 : Hid (0 < pos + 1 → l.head? = some 48 → l.length = 1) := Lib.hid (fun _ hh => by
            by_cases hp0 : pos = 0
            · subst hp0
              have := HC.out
              rw [← List.head?_eq_getElem?, hh] at this
              exact absurd (HCN.out.1 (Option.some.inj this).symm) h48
            · exact HZ.out (by omega) hh)
          go_wp2_with fail
          go_roundw
          case rel => exact ⟨pos + 1, by omega, rfl, HN, HZ2⟩
          case measure => simp; omega
      · have HF : Hid (D = false) := Lib.hid (by rw [← HD.out]; exact plain_bad HC.out hd)
        have h2 := d2 hd
        obtain ⟨q, hq⟩ : ∃ q, Utf8.decode ⟨l.toArray⟩ pos = q := ⟨_, rfl⟩
        rw [hq] at hn h2
        clear d1 d2 hd hq
        obtain ⟨r, k⟩ := q
        simp only at hn h2
        rcases h2 with h2 | h2
        · have h2' : (r : Int) < 48 := by omega
          clear h2
          go_wp2_with fail
          go_ret
          exact ⟨by rw [HF.out]; rfl, HB.out _⟩
        · have h2' : (57 : Int) < (r : Int) := by omega
          have h3' : ¬ (r : Int) < 48 := by omega
          clear h2
          go_wp2_with fail
          go_ret
          exact ⟨by rw [HF.out]; rfl, HB.out _⟩
    · obtain rfl : pos = l.length := by omega
      have hn := fun ty => run_next_end (P := Tryz.prog) w ⟨l.toArray⟩ l.length ty hp
      clear hp
      have HF : Hid (D = !l.isEmpty) := Lib.hid (by
        rw [← HD.out]
        by_cases h0 : l = []
        · subst h0
          rfl
        · rw [plain_good h0 (by have := HT.out; rwa [List.take_length] at this) (HZ.out (List.length_pos_iff.2 h0))]
          cases l with
          | nil => exact absurd rfl h0
          | cons c r => rfl)
      go_wp2_with fail
      go_ret
      exact ⟨by rw [HF.out]; rfl, HB.out _⟩

/-! ### What is decoded -/
def errP (l : List UInt8) : Int := if Num.okP l = true then 0 else 7
theorem errP_some {l : List UInt8} {n : Int} (h : Num.parse l = some n) : Num.numP l = n ∧ errP l = 0 := by
  obtain ⟨h1, h2⟩ := Num.okP_some h
  exact ⟨h2, by unfold errP; rw [if_pos h1]⟩
theorem errP_none {l : List UInt8} (h : Num.parse l = none) : Num.numP l = 0 ∧ errP l = 7 :=
  ⟨by unfold Num.numP; rw [h]; rfl, by unfold errP; rw [Num.okP_none h]; rfl⟩
theorem cut_minus (r : List UInt8) (w : World) : Calls Tryz.prog 100 #[.string ⟨(45 :: r).toArray⟩, .string ⟨#[45]⟩] w fun e w' => e = .returned (.tuple #[.string ⟨r.toArray⟩, .bool true]) ∧ w = w' := by
  have h := Tryz.strings_CutPrefix ⟨(45 :: r).toArray⟩ ⟨#[45]⟩ w
  have e1 : Lib.hasPrefix (45 :: r) [45] = true := by simp [Lib.hasPrefix, List.isPrefixOf]
  have e2 : Lib.trimPrefix (45 :: r) [45] = r := by unfold Lib.trimPrefix; rw [if_pos e1]; rfl
  exact h.mono fun e w' ⟨h1, h2⟩ => ⟨h1.trans (by show Ending.returned (.tuple #[.string ⟨(Lib.trimPrefix (45 :: r) [45]).toArray⟩, .bool (Lib.hasPrefix (45 :: r) [45])]) = _; rw [e1, e2]), h2.symm⟩
theorem cut_none {l : List UInt8} (hl : ∀ r, l ≠ 45 :: r) (w : World) : Calls Tryz.prog 100 #[.string ⟨l.toArray⟩, .string ⟨#[45]⟩] w fun e w' => e = .returned (.tuple #[.string ⟨l.toArray⟩, .bool false]) ∧ w = w' := by
  have h := Tryz.strings_CutPrefix ⟨l.toArray⟩ ⟨#[45]⟩ w
  have e1 : Lib.hasPrefix l [45] = false := by
    cases l with
    | nil => rfl
    | cons c r =>
      have : c ≠ 45 := fun e => hl r (by rw [e])
      simp [Lib.hasPrefix, List.isPrefixOf, Ne.symm this]
  have e2 : Lib.trimPrefix l [45] = l := by unfold Lib.trimPrefix; rw [if_neg (by rw [e1]; decide)]
  exact h.mono fun e w' ⟨h1, h2⟩ => ⟨h1.trans (by show Ending.returned (.tuple #[.string ⟨(Lib.trimPrefix l [45]).toArray⟩, .bool (Lib.hasPrefix l [45])]) = _; rw [e1, e2]), h2.symm⟩
/-- The library reads what is plain. -/
theorem reads_any {l : List UInt8} (hl : l.length ≤ 1000000) (w : World) (hG : Good w) :
    (∀ n, Lib.atoiAll l = .ok n → Calls Tryz.prog 142 #[.string ⟨l.toArray⟩, .int .i64 10, .int .i64 64] w fun e w' => e = .returned (.tuple #[.int .i64 n, .nilIface]) ∧ Below w.heap.size w w') ∧
    (Lib.atoiAll l = .range → Calls Tryz.prog 142 #[.string ⟨l.toArray⟩, .int .i64 10, .int .i64 64] w fun e w' => (∃ n N, e = .returned (.tuple #[.int .i64 n, .iface 145 (.pointer (some ⟨N, 0, none⟩))])) ∧ Below w.heap.size w w') := by
  refine ⟨fun n h => ?_, fun h => ?_⟩
  · refine (Tryz.strconv_ParseInt_10_at64_ok ⟨l.toArray⟩ (by show l.length ≤ _; omega) n (by rw [Lib.parseIntB_64]; simpa using h) w).mono ?_
    rintro e w1 ⟨rfl, hw1⟩
    exact ⟨rfl, below_bytes hw1⟩
  · obtain ⟨tp, p, her⟩ := hG.er
    refine (Tryz.strconv_ParseInt_10_at64_range_var ⟨l.toArray⟩ (by show l.length ≤ _; omega) (by rw [Lib.parseIntB_64]; simpa using h) tp p w her).mono ?_
    rintro e w1 ⟨N, rfl, _, _, b⟩
    exact ⟨⟨_, N, rfl⟩, b⟩

set_option maxHeartbeats 1000000 in
/-- number.Parse. -/
theorem nparse_any (l : List UInt8) (hl : l.length ≤ 1000000) (w : World) (hG : Good w) :
    Calls Tryz.prog 120 #[.string ⟨l.toArray⟩] w fun e w' => e = .returned (.tuple #[.int .i64 (Num.numP l), .int .i64 (errP l)]) ∧ Below w.heap.size w w' := by
  have HI : Hid (FInv w w) := Lib.hid ⟨hG, Below.refl _ _⟩
  clear hG
  by_cases h45 : ∃ r, l = 45 :: r
  · obtain ⟨r, rfl⟩ := h45
    have hr : r.length ≤ 1000000 := by simp at hl; omega
    cases hp : Num.plain r with
    | false =>
      obtain ⟨e1, e2⟩ := errP_none (Num.not_plain_neg hp)
      rw [e1, e2]
      have HP := Lib.hid hp
      clear e1 e2 hp
      go_enter Tryz.func120, Tryz.ntmps120
      go_wp2_with fail
      refine (cut_minus r _).mono ?_
      rintro e w1 ⟨rfl, rfl⟩
      go_wp2_with fail
      refine (plain_any r hr _).mono ?_
      rintro e w1 ⟨rfl, b⟩
      rw [HP.out]
      have HI := FInv.call HI b
      clear b
      go_wp2_with fail
      go_ret2
      exact ⟨rfl, HI.out.2⟩
    | true =>
      by_cases h48 : r = [48]
      · subst h48
        obtain ⟨e1, e2⟩ := errP_none Num.minus_nought
        rw [e1, e2]
        have HP := Lib.hid hp
        clear e1 e2 hp
        go_enter Tryz.func120, Tryz.ntmps120
        go_wp2_with fail
        refine (cut_minus [48] _).mono ?_
        rintro e w1 ⟨rfl, rfl⟩
        go_wp2_with fail
        refine (plain_any [48] hr _).mono ?_
        rintro e w1 ⟨rfl, b⟩
        rw [HP.out]
        have HI := FInv.call HI b
        clear b
        go_wp2_with fail
        go_ret2
        exact ⟨rfl, HI.out.2⟩
      · have q1 : (r == [48]) = false := by simpa using h48
        rcases Num.neg_reads hp h48 with ⟨n, a1, a2⟩ | ⟨a1, a2⟩
        · obtain ⟨e1, e2⟩ := errP_some a2
          rw [e1, e2]
          have HP := Lib.hid hp
          have HA := Lib.hid a1
          clear e1 e2 hp a1 a2 h48
          go_enter Tryz.func120, Tryz.ntmps120
          go_wp2_with fail
          refine (cut_minus r _).mono ?_
          rintro e w1 ⟨rfl, rfl⟩
          go_wp2_with fail
          refine (plain_any r hr _).mono ?_
          rintro e w1 ⟨rfl, b⟩
          rw [HP.out]
          have HI := FInv.call HI b
          clear b
          go_wp2_with fail
          refine ((reads_any hl _ (FInv.good HI)).1 n HA.out).mono ?_
          rintro e w2 ⟨rfl, b⟩
          have HI := FInv.call HI b
          clear b
          go_wp2_with fail
          go_ret2
          exact ⟨rfl, HI.out.2⟩
        · obtain ⟨e1, e2⟩ := errP_none a2
          rw [e1, e2]
          have HP := Lib.hid hp
          have HA := Lib.hid a1
          clear e1 e2 hp a1 a2 h48
          go_enter Tryz.func120, Tryz.ntmps120
          go_wp2_with fail
          refine (cut_minus r _).mono ?_
          rintro e w1 ⟨rfl, rfl⟩
          go_wp2_with fail
          refine (plain_any r hr _).mono ?_
          rintro e w1 ⟨rfl, b⟩
          rw [HP.out]
          have HI := FInv.call HI b
          clear b
          go_wp2_with fail
          refine ((reads_any hl _ (FInv.good HI)).2 HA.out).mono ?_
          rintro e w2 ⟨⟨n, N, rfl⟩, b⟩
          have HI := FInv.call HI b
          clear b
          go_wp2_with fail
          go_ret2
          exact ⟨rfl, HI.out.2⟩
  · have h45 : ∀ r, l ≠ 45 :: r := fun r e => h45 ⟨r, e⟩
    have HN := Lib.hid h45
    clear h45
    cases hp : Num.plain l with
    | false =>
      obtain ⟨e1, e2⟩ := errP_none (Num.not_plain hp HN.out)
      rw [e1, e2]
      have HP := Lib.hid hp
      clear e1 e2 hp
      go_enter Tryz.func120, Tryz.ntmps120
      go_wp2_with fail
      refine (cut_none HN.out _).mono ?_
      rintro e w1 ⟨rfl, rfl⟩
      go_wp2_with fail
      refine (plain_any l hl _).mono ?_
      rintro e w1 ⟨rfl, b⟩
      rw [HP.out]
      have HI := FInv.call HI b
      clear b
      go_wp2_with fail
      go_ret2
      exact ⟨rfl, HI.out.2⟩
    | true =>
      rcases Num.plain_reads hp with ⟨n, a1, a2⟩ | ⟨a1, a2⟩
      · obtain ⟨e1, e2⟩ := errP_some a2
        rw [e1, e2]
        have HP := Lib.hid hp
        have HA := Lib.hid a1
        clear e1 e2 hp a1 a2
        go_enter Tryz.func120, Tryz.ntmps120
        go_wp2_with fail
        refine (cut_none HN.out _).mono ?_
        rintro e w1 ⟨rfl, rfl⟩
        go_wp2_with fail
        refine (plain_any l hl _).mono ?_
        rintro e w1 ⟨rfl, b⟩
        rw [HP.out]
        have HI := FInv.call HI b
        clear b
        go_wp2_with fail
        refine ((reads_any hl _ (FInv.good HI)).1 n HA.out).mono ?_
        rintro e w2 ⟨rfl, b⟩
        have HI := FInv.call HI b
        clear b
        go_wp2_with fail
        go_ret2
        exact ⟨rfl, HI.out.2⟩
      · obtain ⟨e1, e2⟩ := errP_none a2
        rw [e1, e2]
        have HP := Lib.hid hp
        have HA := Lib.hid a1
        clear e1 e2 hp a1 a2
        go_enter Tryz.func120, Tryz.ntmps120
        go_wp2_with fail
        refine (cut_none HN.out _).mono ?_
        rintro e w1 ⟨rfl, rfl⟩
        go_wp2_with fail
        refine (plain_any l hl _).mono ?_
        rintro e w1 ⟨rfl, b⟩
        rw [HP.out]
        have HI := FInv.call HI b
        clear b
        go_wp2_with fail
        refine ((reads_any hl _ (FInv.good HI)).2 HA.out).mono ?_
        rintro e w2 ⟨⟨n, N, rfl⟩, b⟩
        have HI := FInv.call HI b
        clear b
        go_wp2_with fail
        go_ret2
        exact ⟨rfl, HI.out.2⟩
end Go.Proofs.YtphpgbbjbncfoaaGreatDoor

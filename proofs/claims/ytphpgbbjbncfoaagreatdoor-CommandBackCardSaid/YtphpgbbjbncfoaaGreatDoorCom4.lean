/-
  LAYER 42: what a quoted string begins with.
-/
import Derived.Test.YtphpgbbjbncfoaaGreatDoorCom3
import Derived.Lib.SlBytesConst
namespace Go.Proofs.YtphpgbbjbncfoaaGreatDoor
open Go.ChangeShapes Go.WideShapes Go.ChangeAt Go.RowKit

theorem puint_ok {bs : List UInt8} {n : Nat} (h2 : bs.length = 2) (h : hval 0 bs = some n) (w : World) :
    Calls Tryz.prog 81 #[.string ⟨bs.toArray⟩, .int .i64 16, .int .i64 8] w fun e w' => e = .returned (.tuple #[.int .u64 (n : Int), .nilIface]) ∧ Below w.heap.size w w' := by
  have H := Lib.hid h
  clear h
  go_enter Tryz.func81, Tryz.ntmps81
  go_wp2_with fail
  refine (iuint_any bs h2 _).mono ?_
  rintro e w2 ⟨rfl, rfl⟩
  rw [H.out]
  unfold uT
  go_wp2_with fail
  go_ret2
  exact ⟨rfl, Lib.bytesWorld_below _ _ _⟩
theorem puint_bad {bs : List UInt8} (h2 : bs.length = 2) (h : hval 0 bs = none) (w : World) (hG : Good w) :
    Calls Tryz.prog 81 #[.string ⟨bs.toArray⟩, .int .i64 16, .int .i64 8] w fun e w' => (∃ N, e = .returned (.tuple #[.int .u64 0, .iface 145 (.pointer (some ⟨N, 0, none⟩))])) ∧ Below w.heap.size w w' := by
  have H := Lib.hid h
  have hb := Lib.bytesWorld_below w 5 ⟨bs.toArray⟩
  obtain ⟨tp, p, hes⟩ := (hG.call hb).es
  have hcell := World.var?_cell gEs hes 0
  have HB := Lib.hid hb
  clear h hG hb hes
  go_enter Tryz.func81, Tryz.ntmps81
  go_wp2_with fail
  refine (iuint_any bs h2 _).mono ?_
  rintro e w2 ⟨rfl, rfl⟩
  rw [H.out]
  unfold uT
  go_wp2_with fail
  refine (Tryz.strconv_toError_syntax _ ⟨bs.toArray⟩ 16 8 (.iface tp p) _ (by rw [mk_size, h2]; decide) hcell (.inr ⟨_, _, rfl⟩)).mono ?_
  rintro e w3 ⟨N, rfl, _, _, b⟩
  have HB3 := Lib.hid (below_call HB.out b)
  clear b
  go_wp2_with fail
  go_ret2
  exact ⟨⟨N, rfl⟩, HB3.out⟩

/-! ### The first byte -/
def FirstOK (l : List UInt8) (c : UInt8) (n : Nat) : Prop := (n = 0 ∧ Cmd.firstQ l = none) ∨ (0 < n ∧ n ≤ l.length ∧ Cmd.q1 c = l.take n) ∨ (0 < n ∧ n ≤ l.length ∧ Cmd.q1 c ≠ l.take n ∧ Cmd.firstQ l = none)
def FirstPost (l : List UInt8) (w : World) (e : Ending) (w' : World) : Prop := (∃ (c : UInt8) (n : Nat), e = .returned (.tuple #[.int .u8 (c.toNat : Int), .int .i64 (n : Int)]) ∧ FirstOK l c n) ∧ Below w.heap.size w w'

theorem unhex_P {c : UInt8} (h : hexP c = none) : Cmd.unhex c = none := by
  have key : ∀ n : Fin 256, hexP (UInt8.ofNat n.val) = none → Cmd.unhex (UInt8.ofNat n.val) = none := by decide +kernel
  have := key ⟨c.toNat, c.toNat_lt⟩
  rw [UInt8.ofNat_toNat] at this
  exact this h
theorem unhex_V {c : UInt8} {a : Nat} (h : Cmd.unhex c = some a) : hexP c = some a := by
  have key : ∀ n : Fin 256, ∀ a, Cmd.unhex (UInt8.ofNat n.val) = some a → hexP (UInt8.ofNat n.val) = some a := by
    intro n a
    have k2 : ∀ n : Fin 256, Cmd.unhex (UInt8.ofNat n.val) = none ∨ hexP (UInt8.ofNat n.val) = Cmd.unhex (UInt8.ofNat n.val) := by decide +kernel
    intro h
    rcases k2 n with e | e
    · rw [e] at h; cases h
    · rw [e, h]
  have := key ⟨c.toNat, c.toNat_lt⟩ a
  rw [UInt8.ofNat_toNat] at this
  exact this h
theorem hval_two (a b : UInt8) : hval 0 [a, b] = match hexP a, hexP b with | some x, some y => some (16 * x + y) | _, _ => none := by
  cases ha : hexP a with
  | none => rw [hval_none ha]
  | some x =>
    rw [hval_some ha]
    cases hb : hexP b with
    | none => rw [hval_none hb]
    | some y => rw [hval_some hb]; simp [hval]
theorem hexP_lt {c : UInt8} {d : Nat} (h : hexP c = some d) : d < 16 := by
  rcases hexP_ways c with ⟨q1, q2, q3⟩ | ⟨L, q0, q1, q2, q3, q4, q5⟩ | ⟨L, q0, q1, q2, q3, q4, q5⟩ | ⟨L, q0, q1, q3, q4, q5⟩ | ⟨L, q0, q1, q2, q3, q5⟩
  · rw [q3] at h; cases h; omega
  · rw [q5] at h; cases h; omega
  all_goals rw [q5] at h; cases h
/-- A byte that is no backslash. -/
theorem ok_one {c : UInt8} {r : List UInt8} (h : c ≠ 92) : FirstOK (c :: r) c 1 := by
  by_cases hp : 32 ≤ c.toNat ∧ c.toNat ≤ 126
  · refine .inr (.inl ⟨by decide, by simp, ?_⟩)
    unfold Cmd.q1
    rw [if_neg (by rintro rfl; exact absurd hp.1 (by decide)), if_neg (by rintro rfl; exact absurd hp.1 (by decide)), if_neg (by rintro rfl; exact absurd hp.1 (by decide)), if_neg h, if_neg (by omega)]
    rfl
  · refine .inr (.inr ⟨by decide, by simp, ?_, ?_⟩)
    · intro e
      have := Cmd.q1_plain c c (by rw [e]; simp)
      exact hp this
    · rw [Cmd.firstQ_cons, if_neg h, if_neg hp]
theorem ok_lone : FirstOK [92] 0 0 := .inl ⟨rfl, rfl⟩
theorem ok_short {c : UInt8} {r : List UInt8} (h : shB c = true) : FirstOK (92 :: shV c :: r) c 2 := .inr (.inl ⟨by decide, by simp, q1_short h⟩)
/-- No letter that stands behind a backslash. -/
def NoLetter (d : UInt8) : Prop := d ≠ 110 ∧ d ≠ 114 ∧ d ≠ 116 ∧ d ≠ 92
theorem ok_noX {d : UInt8} {r : List UInt8} (h : NoLetter d) (hx : d ≠ 120) : FirstOK (92 :: d :: r) 0 0 := by
  refine .inl ⟨rfl, ?_⟩
  rw [Cmd.firstQ_cons, if_pos rfl, Cmd.backQ_cons, if_neg h.1, if_neg h.2.1, if_neg h.2.2.1, if_neg h.2.2.2, if_neg hx]
theorem ok_brief {d : UInt8} {r : List UInt8} (h : NoLetter d) (hr : r.length < 2) : FirstOK (92 :: d :: r) 0 0 := by
  refine .inl ⟨rfl, ?_⟩
  rw [Cmd.firstQ_cons, if_pos rfl, Cmd.backQ_cons, if_neg h.1, if_neg h.2.1, if_neg h.2.2.1, if_neg h.2.2.2]
  split
  · match r, hr with
    | [], _ => rfl
    | [a], _ => rfl
  · rfl
theorem first_x (a b : UInt8) (r : List UInt8) : Cmd.firstQ (92 :: 120 :: a :: b :: r) = Cmd.hexV a b := rfl
theorem ok_nohex {a b : UInt8} {r : List UInt8} (h : hval 0 [a, b] = none) : FirstOK (92 :: 120 :: a :: b :: r) 0 0 := by
  refine .inl ⟨rfl, ?_⟩
  rw [first_x]
  unfold Cmd.hexV
  rw [hval_two] at h
  cases ha : Cmd.unhex a with
  | none => rfl
  | some x =>
    cases hb : Cmd.unhex b with
    | none => rfl
    | some y =>
      rw [unhex_V ha, unhex_V hb] at h
      cases h
theorem ok_hex {a b : UInt8} {r : List UInt8} {n : Nat} (h : hval 0 [a, b] = some n) : FirstOK (92 :: 120 :: a :: b :: r) (UInt8.ofNat n) 4 ∧ n < 256 := by
  rw [hval_two] at h
  cases ha : hexP a with
  | none => rw [ha] at h; cases h
  | some x =>
    cases hb : hexP b with
    | none => rw [ha, hb] at h; cases h
    | some y =>
      rw [ha, hb] at h
      cases h
      have := hexP_lt ha
      have := hexP_lt hb
      refine ⟨?_, by omega⟩
      by_cases e : Cmd.q1 (UInt8.ofNat (16 * x + y)) = [92, 120, a, b]
      · exact .inr (.inl ⟨by decide, by simp, e⟩)
      · refine .inr (.inr ⟨by decide, by simp, e, ?_⟩)
        rw [first_x]
        unfold Cmd.hexV
        cases ka : Cmd.unhex a with
        | none => rfl
        | some x' =>
          cases kb : Cmd.unhex b with
          | none => rfl
          | some y' =>
            have e1 := unhex_V ka
            have e2 := unhex_V kb
            rw [ha] at e1
            rw [hb] at e2
            cases e1
            cases e2
            simp only
            rw [if_neg e]

theorem first_one (l : List UInt8) (c : UInt8) (r : List UInt8) (hl : l = c :: r) (h : c ≠ 92) (w : World) :
    Calls Tryz.prog 46 #[.string ⟨l.toArray⟩] w (FirstPost l w) := by
  have HOK : Hid (FirstOK l c 1) := Lib.hid (by rw [hl]; exact ok_one h)
  have hx : ∀ h, ((⟨l.toArray⟩ : ByteArray)[0]'h) = c := by subst hl; exact fun _ => rfl
  have h0 : 0 < l.length := by rw [hl]; simp
  have k1 : ((c.toNat : Int) == 92) = false := byte_ne (d := 92) h
  have k2 : ¬ (c.toNat : Int) = 92 := by simpa using k1
  clear hl h
  go_enter Tryz.func46, Tryz.ntmps46
  go_wp2_with fail
  go_ret2
  exact ⟨⟨c, 1, rfl, HOK.out⟩, Below.refl _ _⟩
theorem first_lone (w : World) :
    Calls Tryz.prog 46 #[.string ⟨[92].toArray⟩] w (FirstPost [92] w) := by
  go_enter Tryz.func46, Tryz.ntmps46
  go_wp2_with fail
  go_ret2
  exact ⟨⟨0, 0, rfl, ok_lone⟩, Below.refl _ _⟩
def litL : List UInt8 := [10, 13, 9, 92]
theorem lit_short : ∀ c ∈ litL, shB c = true := by decide
theorem lit_all {d : UInt8} (h : ∀ c ∈ litL, shV c ≠ d) : NoLetter d := by
  refine ⟨fun e => h 10 (by decide) (by rw [e]; rfl), fun e => h 13 (by decide) (by rw [e]; rfl), fun e => h 9 (by decide) (by rw [e]; rfl), fun e => h 92 (by decide) (by rw [e]; rfl)⟩

set_option maxHeartbeats 2000000 in
set_option maxRecDepth 100000 in
theorem first_back (l : List UInt8) (d : UInt8) (r : List UInt8) (hl : l = 92 :: d :: r) (hll : l.length ≤ 1000000) (w : World) (hG : Good w) :
    Calls Tryz.prog 46 #[.string ⟨l.toArray⟩] w (FirstPost l w) := by
  have hx : ∀ h, ((⟨l.toArray⟩ : ByteArray)[0]'h) = 92 := by subst hl; exact fun _ => rfl
  have hx1 : ∀ h, ((⟨l.toArray⟩ : ByteArray)[1]'h) = d := by subst hl; exact fun _ => rfl
  have h0 : 2 ≤ l.length := by rw [hl]; simp
  have HL := Lib.hid hl
  clear hl
  have hcv := Lib.run_convert_bytes_const (P := Tryz.prog) w 30 5 #[.int .u8 10, .int .u8 13, .int .u8 9, .int .u8 92] 4 4 Tryz.underlying30 Tryz.underlying5
  obtain ⟨W1, hW1⟩ : ∃ W1, W1 = w.alloc (.cells #[.int .u8 10, .int .u8 13, .int .u8 9, .int .u8 92] 5 ((#[.int .u8 10, .int .u8 13, .int .u8 9, .int .u8 92] : Array Value).size, (#[.int .u8 10, .int .u8 13, .int .u8 9, .int .u8 92] : Array Value).size + 1)) := ⟨_, rfl⟩
  rw [← hW1] at hcv
  have HW : Hid (∀ j, W1.cell? ⟨w.heap.size, j, none⟩ = (bytesV litL)[j]?) := Lib.hid fun j => by
    rw [hW1]
    rw [cell_of_row _ w.heap.size j _ _ _ (heap_alloc_new w _)]
    show (#[.int .u8 10, .int .u8 13, .int .u8 9, .int .u8 92] : Array Value)[j]? = _
    rw [← Array.getElem?_toList]
    rfl
  have HB : Hid (Below w.heap.size w W1) := Lib.hid (by rw [hW1]; exact (Below.refl w.heap.size w).alloc (Nat.le_refl _) _)
  have HG : Hid (Good W1) := Lib.hid (by rw [hW1]; exact hG.alloc _)
  clear hG hW1
  go_enter Tryz.func46, Tryz.ntmps46
  go_wp2_with fail
  go_loop [21] (fun i => ∃ k : Nat, k ≤ 4 ∧ i = .int .i64 k ∧ Hid (∀ c ∈ litL.take k, shV c ≠ d)) (fun i => 4 - (intOf i).toNat)
  case atStart => exact ⟨0, Nat.zero_le _, rfl, Lib.hid (by simp)⟩
  case round =>
    obtain ⟨k, hk, rfl, HN⟩ := hrel
    by_cases hlt : k < 4
    · obtain ⟨c, hc⟩ : ∃ c, litL[k]? = some c := ⟨_, List.getElem?_eq_getElem (show k < litL.length from hlt)⟩
      have hcell : W1.cell? ⟨w.heap.size, k, none⟩ = some (.int .u8 (c.toNat : Int)) := by
        rw [HW.out k]
        simp [bytesV, hc]
      have HS := Lib.hid (lit_short c (List.mem_of_getElem? hc))
      have HC := Lib.hid hc
      clear hc
      by_cases he : shV c = d
      · have HR := Lib.hid (show l = 92 :: shV c :: r by rw [he]; exact HL.out)
        subst he
        go_wp2_with fail
        refine (short_yes HS.out _).mono ?_
        rintro e w2 ⟨rfl, rfl⟩
        go_wp2_with fail
        go_ret2
        exact ⟨⟨c, 2, rfl, by rw [HR.out]; exact ok_short HS.out⟩, HB.out⟩
      · have k1 := byte_ne he
        have k2 : ¬ ((shV c).toNat : Int) = (d.toNat : Int) := by simpa using k1
        have HN2 : Hid (∀ c ∈ litL.take (k + 1), shV c ≠ d) := Lib.hid (by
          rw [take_snoc HC.out]
          intro x hx
          rcases List.mem_append.1 hx with hx | hx
          · exact HN.out x hx
          · rw [List.mem_singleton.1 hx]; exact he)
        clear he
        go_wp2_with fail
        refine (short_yes HS.out _).mono ?_
        rintro e w2 ⟨rfl, rfl⟩
        go_wp2_with fail
        go_round
        case rel => exact ⟨k + 1, by omega, by go_num, HN2⟩
        case measure => simp [intOf]; omega
    · obtain rfl : k = 4 := by omega
      have HNL := Lib.hid (lit_all (d := d) HN.out)
      clear HN
      rw [show ((4 : Nat) : Int) = 4 from rfl]
      by_cases h4 : l.length < 4
      · have HF : Hid (FirstOK l 0 0) := Lib.hid (by
          have := h4
          rw [HL.out] at this ⊢
          exact ok_brief HNL.out (by simp at this; omega))
        have h4' : (l.length : Int) < 4 := by omega
        go_wp2_with fail
        go_ret2
        exact ⟨⟨0, 0, rfl, HF.out⟩, HB.out⟩
      · have h4' : ¬ (l.length : Int) < 4 := by omega
        by_cases hd : d = 120
        · subst hd
          obtain ⟨a, b, r', hr⟩ : ∃ a b r', r = a :: b :: r' := by
            match r, HL.out with
            | [], e => exact absurd (by rw [e]; simp) h4
            | [a], e => exact absurd (by rw [e]; simp) h4
            | a :: b :: r', _ => exact ⟨a, b, r', rfl⟩
          have hext : (⟨l.toArray⟩ : ByteArray).extract 2 4 = ⟨[a, b].toArray⟩ := by rw [mk_extract, HL.out, hr]; rfl
          have HR := Lib.hid hr
          clear hr
          cases hv : hval 0 [a, b] with
          | none =>
            have HV := Lib.hid hv
            clear hv
            go_wp2_with fail
            refine (puint_bad (bs := [a, b]) rfl HV.out _ HG.out).mono ?_
            rintro e w2 ⟨⟨N, rfl⟩, b2⟩
            have HB2 := Lib.hid (below_call (HB.out.mono (Nat.le_refl _)) b2)
            clear b2
            go_wp2_with fail
            go_ret2
            exact ⟨⟨0, 0, rfl, by rw [HL.out, HR.out]; exact ok_nohex HV.out⟩, HB2.out⟩
          | some n =>
            have HV := Lib.hid hv
            clear hv
            obtain ⟨hok, hn⟩ := ok_hex (r := r') HV.out
            have HOK := Lib.hid hok
            clear hok
            have hwr : IntKind.u8.wrap (n : Int) = (n : Int) := by rw [IntKind.wrap_u8]; omega
            go_wp2_with fail
            refine (puint_ok (bs := [a, b]) rfl HV.out _).mono ?_
            rintro e w2 ⟨rfl, b2⟩
            have HB2 := Lib.hid (below_call (HB.out.mono (Nat.le_refl _)) b2)
            clear b2
            go_wp2_with fail
            go_ret2
            exact ⟨⟨UInt8.ofNat n, 4, by rw [show (UInt8.ofNat n).toNat = n by simp; omega]; rfl, by rw [HL.out, HR.out]; exact HOK.out⟩, HB2.out⟩
        · have k1 := byte_ne (d := 120) hd
          have k2 : ¬ (d.toNat : Int) = 120 := by simpa using k1
          have k3 : ((d.toNat : Int) == 120) = false := k1
          have HF : Hid (FirstOK l 0 0) := Lib.hid (by rw [HL.out]; exact ok_noX HNL.out hd)
          clear hd k1
          go_wp2_with fail
          go_ret2
          exact ⟨⟨0, 0, rfl, HF.out⟩, HB.out⟩
theorem first_any (l : List UInt8) (hne : l ≠ []) (hll : l.length ≤ 1000000) (w : World) (hG : Good w) :
    Calls Tryz.prog 46 #[.string ⟨l.toArray⟩] w (FirstPost l w) := by
  match l, hne with
  | c :: r, _ =>
    by_cases hc : c = 92
    · subst hc
      match r with
      | [] => exact first_lone w
      | d :: t => exact first_back _ d t rfl hll w hG
    · exact first_one _ c r rfl hc w
end Go.Proofs.YtphpgbbjbncfoaaGreatDoor

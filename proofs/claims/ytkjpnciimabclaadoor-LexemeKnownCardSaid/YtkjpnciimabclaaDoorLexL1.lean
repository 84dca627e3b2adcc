/-
  LAYER 4, THE LAWS' HELPERS: a text has just these tokens; a text is wrong at an offset.
-/
import Derived.Test.YtkjpnciimabclaaDoorLex5
import Derived.BigQuiet
import Derived.Deep.QuietTactic
import Derived.Laws.StructEq
namespace Go.Proofs.YtkjpnciimabclaaDoor
open Go.ChangeShapes Go.WideShapes Go.ChangeAt Go.RowKit

/-- A row of its own, as a block. -/
theorem own_blk {w : World} {base size n : Nat} {e : TypeId} {v : Value} {xs : List Value} (h : w.ownsRow base e size v n xs) (hn : 0 < n) :
    ∃ g cap cur, v = .slice (some ⟨g, 0, none⟩) n cap ∧ base ≤ g ∧ Blk w g e cur ∧ n ≤ cap ∧ ∀ (j : Nat) (u : Value), xs[j]? = some u → cur[j]? = some u := by
  rcases h.2 with ⟨_, h0⟩ | ⟨g, cap, cur, e1, hb, hh, hc, _, _, ht⟩
  · omega
  · refine ⟨g, cap, cur, e1, hb, hh, hc, fun j u hu => ?_⟩
    rw [← ht, List.getElem?_take] at hu
    split at hu
    · simpa using hu
    · cases hu
theorem FInv.of {w0 W : World} (h : Good w0) (hb : Below w0.heap.size w0 W) : Hid (FInv w0 W) := Lib.hid ⟨h.below hb (Nat.le_refl _), hb⟩

theorem tokT : Tryd.prog.underlying 32 = some (.struct (Tryd.prog.fieldsOf 32)) := by kernel_rfl
theorem tokP : Tryd.prog.stoodInHeld 32 = false := by kernel_rfl
theorem tokM : Tryd.prog.eqGuardType Tryd.prog.depth 32 = false := by kernel_rfl
theorem tok_neq (K K' : Int) (T T' : List UInt8) (O O' : Int) : ∀ w, (binOp .neq 32 (.agg #[.int .i64 K, .string ⟨T.toArray⟩, .int .i64 O]) (.agg #[.int .i64 K', .string ⟨T'.toArray⟩, .int .i64 O'])).run Tryd.prog w = .ok (.bool (!(K == K' && (T == T' && O == O')))) w := by
  intro w
  rw [run_neq_struct, run_equalIn_agg w _ _ _ _ tokT tokP]
  have hF : (Tryd.prog.fieldsOf 32).toList = [⟨"Kind", 3, 0, false, "", "", 0⟩, ⟨"Text", 9, 1, false, "", "", 8⟩, ⟨"At", 3, 2, false, "", "", 24⟩] := by kernel_rfl
  rw [hF]
  simp [Op.eqFields, part, go_sem]
  by_cases h1 : K = K' <;> by_cases h2 : T = T' <;> by_cases h3 : O = O' <;> simp [h1, h2, h3]

theorem scanR_len : ∀ (f p : Nat) (l : List UInt8) (ts : List Lex.Tok), Lex.scanR f p l = .ok ts → ts.length ≤ l.length
  | 0, p, l, ts, h => by cases h; simp
  | f + 1, p, [], ts, h => by rw [Lex.scanR_nil] at h; cases h; simp
  | f + 1, p, c :: r, ts, h => by
    by_cases hz : (Lex.first (c :: r)).1 = 0
    · rw [Lex.scanR_bad (List.cons_ne_nil _ _) hz] at h
      cases h
    · rw [Lex.scanR_step (List.cons_ne_nil _ _) hz] at h
      cases h2 : Lex.scanR f (p + (Lex.first (c :: r)).2.length + Lex.skip ((c :: r).drop (Lex.first (c :: r)).2.length)) (Lex.rest false ((c :: r).drop (Lex.first (c :: r)).2.length)) with
      | error e => rw [h2] at h; cases h
      | ok us =>
        rw [h2] at h
        cases h
        have := scanR_len f _ _ us h2
        have h3 := (Lex.rest_drop false ((c :: r).drop (Lex.first (c :: r)).2.length)).2
        rw [List.length_drop] at h3
        have h4 := (Lex.first_fits hz).1
        have h5 := Lex.first_le hz
        simp only [List.length_cons] at h3 h5 ⊢
        omega
theorem scan_len {l : List UInt8} {ts : List Lex.Tok} (h : Lex.scan l = .ok ts) : ts.length ≤ l.length :=
  Nat.le_trans (scanR_len _ _ _ _ h) (Lex.rest_drop false l).2

/-- A text is wrong at an offset. -/
def wrongB (l : List UInt8) (a : Nat) : Bool := decide ((Lex.toks (Lex.scan l)).length = 0 ∧ Lex.offs (Lex.scan l) = a ∧ Lex.errn (Lex.scan l) = 7)
theorem wrongB_of {l : List UInt8} {a : Nat} (h : Lex.scan l = .error a) : wrongB l a = true := by
  unfold wrongB
  rw [h]
  simp [Lex.toks, Lex.offs, Lex.errn]

/-- A text has just these tokens. -/
def hasB (l : List UInt8) (ws : List Lex.Tok) : Bool := match Lex.scan l with
  | .ok ts => decide (ts = ws)
  | .error _ => false
theorem hasB_of {l : List UInt8} {ws : List Lex.Tok} (h : Lex.scan l = .ok ws) : hasB l ws = true := by
  unfold hasB
  rw [h]
  exact decide_eq_true rfl

/-- rewindlaw04.wrong. -/
theorem wrong_any (l : List UInt8) (a : Nat) (hl : l.length ≤ 1000000) (w : World) (hG : Good w) :
    Calls Tryd.prog 20 #[.string ⟨l.toArray⟩, .int .i64 a] w fun e w' => e = .returned (.bool (wrongB l a)) ∧ Below w.heap.size w w' := by
  obtain ⟨D, hD⟩ : ∃ D, wrongB l a = D := ⟨_, rfl⟩
  rw [hD]
  unfold wrongB at hD
  have HD := Lib.hid hD
  clear hD
  go_enter Tryd.func20, Tryd.ntmps20
  go_wp2_with fail
  refine (scan_any l hl _ hG).mono ?_
  rintro e w1 ⟨v, rfl, hown, b1⟩
  obtain ⟨A, cap, rfl, _⟩ := own_slice hown
  have K1 := Lib.hid b1
  clear hown b1 hG
  obtain ⟨n, hn⟩ : ∃ n, (Lex.toks (Lex.scan l)).length = n := ⟨_, rfl⟩
  obtain ⟨o, ho⟩ : ∃ n, Lex.offs (Lex.scan l) = n := ⟨_, rfl⟩
  obtain ⟨r, hr⟩ : ∃ n, Lex.errn (Lex.scan l) = n := ⟨_, rfl⟩
  rw [hn, ho, hr] at HD ⊢
  clear hn ho hr
  have key : D = decide (n = 0 ∧ o = a ∧ r = 7) := HD.out.symm
  clear HD
  by_cases h1 : n = 0
  · by_cases h2 : o = a
    · have HK : Hid (D = (r == 7)) := Lib.hid (by rw [key, Bool.eq_iff_iff]; simp [h1, h2])
      clear key
      go_wp2_with fail
      go_ret
      exact ⟨by rw [HK.out]; rfl, K1.out⟩
    · have HK : Hid (D = false) := Lib.hid (by rw [key, decide_eq_false (fun h => h2 h.2.1)])
      clear key
      have h2' : ((o : Int) == (a : Int)) = false := by simp; omega
      go_wp2_with fail
      go_ret
      exact ⟨by rw [HK.out]; rfl, K1.out⟩
  · have HK : Hid (D = false) := Lib.hid (by rw [key, decide_eq_false (fun h => h1 h.1)])
    clear key
    have h1' : ((n : Int) == 0) = false := by simp; omega
    go_wp2_with fail
    go_ret
    exact ⟨by rw [HK.out]; rfl, K1.out⟩

set_option maxHeartbeats 1000000 in
/-- rewindlaw04.has. -/
theorem has_any (l : List UInt8) (hl : l.length ≤ 1000000) (A : Option Addr) (cap : Nat) (ws : List Lex.Tok) (w : World) (hR : Rd w w.heap.size A (ws.flatMap cellsT)) (hG : Good w) :
    Calls Tryd.prog 13 #[.string ⟨l.toArray⟩, .slice A ws.length cap] w fun e w' => e = .returned (.bool (hasB l ws)) ∧ Below w.heap.size w w' := by
  obtain ⟨D, hD⟩ : ∃ D, hasB l ws = D := ⟨_, rfl⟩
  rw [hD]
  unfold hasB at hD
  have HR := Lib.hid hR
  go_enter Tryd.func13, Tryd.ntmps13
  clear hR
  have HD := Lib.hid hD
  clear hD
  go_wp2_with fail
  refine (scan_any l hl _ hG).mono ?_
  rintro e w1 ⟨v, rfl, hown, b1⟩
  have K1 := Lib.hid b1
  have HR1 := Lib.hid ((HR.out.below b1).more b1.size)
  clear b1 hG HR
  cases hS : Lex.scan l with
  | error o =>
    rw [hS] at hown HD
    simp only [Lex.offs, Lex.errn]
    obtain ⟨A1, c1, rfl, _⟩ := own_slice hown
    have HK : Hid (D = false) := Lib.hid (by rw [← HD.out])
    clear hown HD hS
    by_cases h0 : o = 0
    · go_wp2_with fail
      go_ret
      exact ⟨by rw [HK.out]; rfl, K1.out⟩
    · have h0' : ((o : Int) == 0) = false := by simp; omega
      go_wp2_with fail
      go_ret
      exact ⟨by rw [HK.out]; rfl, K1.out⟩
  | ok ts =>
    rw [hS] at hown HD
    have HD2 : Hid (D = decide (ts = ws)) := Lib.hid (by rw [← HD.out])
    simp only [Lex.offs, Lex.errn]
    simp only [Lex.toks] at hown
    obtain ⟨A1, c1, rfl, hR2⟩ := own_slice hown
    have HR2 := Lib.hid hR2
    have hts := scan_len hS
    clear hown HD hS hR2
    by_cases hlen : ts.length = ws.length
    · have HL := Lib.hid hlen
      go_wp2_with fail
      go_loopw [8] (fun i wr => ∃ k : Nat, k ≤ ws.length ∧ i = .int .i64 k ∧ Hid (Below w.heap.size w wr) ∧ Hid (Rd wr w1.heap.size A (ws.flatMap cellsT)) ∧ Hid (Rd wr w1.heap.size A1 (ts.flatMap cellsT)) ∧ Hid (ts.take k = ws.take k)) (fun i _ => ws.length - (intOf i).toNat)
      case atStart => exact ⟨0, Nat.zero_le _, rfl, K1, HR1, HR2, Lib.hid rfl⟩
      case round =>
        obtain ⟨k, hk, rfl, K2, HA, HB, HT⟩ := hrel
        by_cases hlt : k < ws.length
        · obtain ⟨⟨K, T, O⟩, hx⟩ : ∃ x, ws[k]? = some x := ⟨_, List.getElem?_eq_getElem hlt⟩
          obtain ⟨⟨K', T', O'⟩, hx'⟩ : ∃ x, ts[k]? = some x := ⟨_, List.getElem?_eq_getElem (by omega)⟩
          obtain ⟨b, off, rfl, _, hc⟩ := HA.out.row (fun _ _ => cellsT_len _) hx (by decide)
          obtain ⟨b', off', rfl, _, hc'⟩ := HB.out.row (fun _ _ => cellsT_len _) hx' (by decide)
          have e0 : wr.cell? ⟨b, off + k * 3, none⟩ = some (.int .i64 K) := hc 0 _ rfl
          have e1 : wr.cell? ⟨b, off + k * 3 + 1, none⟩ = some (.string ⟨T.toArray⟩) := hc 1 _ rfl
          have e2 : wr.cell? ⟨b, off + k * 3 + 2, none⟩ = some (.int .i64 O) := hc 2 _ rfl
          have d0 : wr.cell? ⟨b', off' + k * 3, none⟩ = some (.int .i64 K') := hc' 0 _ rfl
          have d1 : wr.cell? ⟨b', off' + k * 3 + 1, none⟩ = some (.string ⟨T'.toArray⟩) := hc' 1 _ rfl
          have d2 : wr.cell? ⟨b', off' + k * 3 + 2, none⟩ = some (.int .i64 O') := hc' 2 _ rfl
          have HX := Lib.hid hx
          have HX' := Lib.hid hx'
          have tM := tokM
          obtain ⟨q, hq⟩ : ∃ q, (K' == K && (T' == T && (O' : Int) == (O : Int))) = q := ⟨_, rfl⟩
          have hneq := tok_neq K' K T' T O' O
          rw [hq] at hneq
          have HQ := Lib.hid hq
          clear hc hc' hx hx' hq
          cases q with
          | true =>
            have HT2 : Hid (ts.take (k + 1) = ws.take (k + 1)) := Lib.hid (by
              have h := HQ.out
              simp only [Bool.and_eq_true, beq_iff_eq] at h
              obtain ⟨rfl, rfl, h3⟩ := h
              obtain rfl : O' = O := by omega
              rw [take_snoc HX.out, take_snoc HX'.out, HT.out])
            rw [Bool.not_true] at hneq
            go_wp2_with fail
            go_quiet (fail)
            have K2 : Hid (Below w.heap.size w (wr.drewN nq)) := Lib.hid ⟨K2.out.os, K2.out.tape, K2.out.output, K2.out.size, K2.out.block⟩
            have HA : Hid (Rd (wr.drewN nq) w1.heap.size (some ⟨b, off, none⟩) (ws.flatMap cellsT)) := HA
            have HB : Hid (Rd (wr.drewN nq) w1.heap.size (some ⟨b', off', none⟩) (ts.flatMap cellsT)) := HB
            generalize wr.drewN nq = wr at HA HB K2 ⊢
            go_wp2_with fail
            go_roundw
            case rel => exact ⟨k + 1, hlt, by go_num, K2, HA, HB, HT2⟩
            case measure => simp [intOf]; omega
          | false =>
            have HK : Hid (D = false) := Lib.hid (by
              rw [HD2.out, decide_eq_false_iff_not]
              rintro rfl
              have h := HQ.out
              have e := HX.out.symm.trans HX'.out
              cases e
              simp at h)
            rw [Bool.not_false] at hneq
            go_wp2_with fail
            go_quiet (fail)
            have K2 : Hid (Below w.heap.size w (wr.drewN nq)) := Lib.hid ⟨K2.out.os, K2.out.tape, K2.out.output, K2.out.size, K2.out.block⟩
            generalize wr.drewN nq = wr at K2 ⊢
            go_wp2_with fail
            go_ret
            exact ⟨by rw [HK.out]; rfl, K2.out⟩
        · obtain rfl : k = ws.length := by omega
          have HK : Hid (D = true) := Lib.hid (by
            rw [HD2.out, decide_eq_true_iff]
            have := HT.out
            rwa [List.take_length, List.take_of_length_le (by have := HL.out; omega)] at this)
          go_wp2_with fail
          go_ret
          exact ⟨by rw [HK.out]; rfl, K2.out⟩
    · have HK : Hid (D = false) := Lib.hid (by rw [HD2.out, decide_eq_false_iff_not]; rintro rfl; exact hlen rfl)
      have hlen' : ((ts.length : Int) == (ws.length : Int)) = false := by simp; omega
      go_wp2_with fail
      go_ret
      exact ⟨by rw [HK.out]; rfl, K1.out⟩
end Go.Proofs.YtkjpnciimabclaaDoor

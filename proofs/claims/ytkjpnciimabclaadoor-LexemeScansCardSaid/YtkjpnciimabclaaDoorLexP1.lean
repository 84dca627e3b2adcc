/-
  LAYER 4: the tokens of a text are the document's; keywords and signs are the document's: the two statements' walks.
-/
import Derived.Test.YtkjpnciimabclaaDoorLexL2
import Derived.Test.YtkjpnciimabclaaDoorLexR5
namespace Go.Proofs.YtkjpnciimabclaaDoor
open Go.ChangeShapes Go.WideShapes Go.ChangeAt Go.RowKit

theorem rtokT : Tryd.prog.underlying 31 = some (.struct (Tryd.prog.fieldsOf 31)) := by kernel_rfl
theorem rtokP : Tryd.prog.stoodInHeld 31 = false := by kernel_rfl
theorem rtokM : Tryd.prog.eqGuardType Tryd.prog.depth 31 = false := by kernel_rfl
theorem rtok_same (K : Int) (T : List UInt8) (O : Int) : ∀ w, (binOp .neq 31 (.agg #[.int .i64 K, .string ⟨T.toArray⟩, .int .i64 O]) (.agg #[.int .i64 K, .string ⟨T.toArray⟩, .int .i64 O])).run Tryd.prog w = .ok (.bool false) w := by
  intro w
  rw [run_neq_struct, run_equalIn_agg w _ _ _ _ rtokT rtokP]
  have hF : (Tryd.prog.fieldsOf 31).toList = [⟨"Kind", 3, 0, false, "", "", 0⟩, ⟨"Text", 9, 1, false, "", "", 8⟩, ⟨"At", 3, 2, false, "", "", 24⟩] := by kernel_rfl
  rw [hF]
  simp [Op.eqFields, part, go_sem]

set_option maxHeartbeats 1000000 in
theorem lexemeScans_walk (s : ByteArray) (_ : s.size ≤ maxLen) (w : World) (hG : Good w) :
    Calls Tryd.prog 3 #[.string s] w fun e w' => e = .returned (.bool true) ∧ Below w.heap.size w w' := by
  obtain ⟨l, rfl⟩ : ∃ l : List UInt8, s = ⟨l.toArray⟩ := ⟨s.data.toList, rfl⟩
  have HI : Hid (FInv w w) := Lib.hid ⟨hG, Below.refl _ _⟩
  clear hG
  by_cases hbig : 3000 < l.length
  · go_enter Tryd.func3, Tryd.ntmps3
    go_wp2_with fail
    refine (works_any _ (FInv.good HI)).mono ?_
    rintro e w1 ⟨rfl, b⟩
    have HI := FInv.call HI b
    clear b
    go_wp2_with fail
    go_ret
    exact ⟨rfl, HI.out.2⟩
  · go_enter Tryd.func3, Tryd.ntmps3
    go_wp2_with fail
    refine (scan_any l (by omega) _ (FInv.good HI)).mono ?_
    rintro e w1 ⟨v, rfl, hown, b⟩
    have HI := FInv.call HI b
    clear b
    go_wp2_with fail
    refine (rscan_any l (by omega) _).mono ?_
    rintro e w2 ⟨v2, rfl, hown2, b⟩
    have HI := FInv.call HI b
    obtain ⟨A1, c1, rfl, r1⟩ := own_slice (own_below hown b)
    obtain ⟨A2, c2, rfl, r2⟩ := own_slice hown2
    clear b hown hown2
    have hlen : (Lex.toks (Lex.scan l)).length ≤ 3000 := by
      cases h : Lex.scan l with
      | ok ts =>
        have := scan_len h
        simp only [Lex.toks]
        omega
      | error e => simp [Lex.toks]
    obtain ⟨o, ho⟩ : ∃ n, Lex.offs (Lex.scan l) = n := ⟨_, rfl⟩
    obtain ⟨r, hr⟩ : ∃ n, Lex.errn (Lex.scan l) = n := ⟨_, rfl⟩
    rw [ho, hr]
    clear ho hr
    generalize Lex.toks (Lex.scan l) = ts at r1 r2 hlen ⊢
    have R1 := Lib.hid r1
    have R2 := Lib.hid r2
    clear r1 r2
    go_wp2_with fail
    go_loopw [9] (fun i wr => ∃ k : Nat, k ≤ ts.length ∧ i = .int .i64 k ∧ Hid (FInv w wr) ∧ Hid (Rd wr w2.heap.size A1 (ts.flatMap cellsT)) ∧ Hid (Rd wr w2.heap.size A2 (ts.flatMap cellsT))) (fun i _ => ts.length - (intOf i).toNat)
    case atStart => exact ⟨0, Nat.zero_le _, rfl, HI, R1, R2⟩
    case round =>
      obtain ⟨k, hk, rfl, HI, HA, HB⟩ := hrel
      by_cases hlt : k < ts.length
      · obtain ⟨⟨K, T, O⟩, hx⟩ : ∃ x, ts[k]? = some x := ⟨_, List.getElem?_eq_getElem hlt⟩
        obtain ⟨b, off, rfl, _, hc⟩ := HA.out.row (fun _ _ => cellsT_len _) hx (by decide)
        obtain ⟨b', off', rfl, _, hc'⟩ := HB.out.row (fun _ _ => cellsT_len _) hx (by decide)
        have e0 : wr.cell? ⟨b, off + k * 3, none⟩ = some (.int .i64 K) := hc 0 _ rfl
        have e1 : wr.cell? ⟨b, off + k * 3 + 1, none⟩ = some (.string ⟨T.toArray⟩) := hc 1 _ rfl
        have e2 : wr.cell? ⟨b, off + k * 3 + 2, none⟩ = some (.int .i64 O) := hc 2 _ rfl
        have d0 : wr.cell? ⟨b', off' + k * 3, none⟩ = some (.int .i64 K) := hc' 0 _ rfl
        have d1 : wr.cell? ⟨b', off' + k * 3 + 1, none⟩ = some (.string ⟨T.toArray⟩) := hc' 1 _ rfl
        have d2 : wr.cell? ⟨b', off' + k * 3 + 2, none⟩ = some (.int .i64 O) := hc' 2 _ rfl
        have tM := rtokM
        have hneq := rtok_same K T O
        clear hc hc' hx
        go_wp2_with fail
        go_quiet (fail)
        have HI := FInv.drewN HI nq
        have HA : Hid (Rd (wr.drewN nq) w2.heap.size (some ⟨b, off, none⟩) (ts.flatMap cellsT)) := HA
        have HB : Hid (Rd (wr.drewN nq) w2.heap.size (some ⟨b', off', none⟩) (ts.flatMap cellsT)) := HB
        generalize wr.drewN nq = wr at HA HB HI ⊢
        go_wp2_with fail
        go_roundw
        case rel => exact ⟨k + 1, hlt, by go_num, HI, HA, HB⟩
        case measure => simp [intOf]; omega
      · obtain rfl : k = ts.length := by omega
        go_wp2_with fail
        refine (works_any _ (FInv.good HI)).mono ?_
        rintro e w3 ⟨rfl, b⟩
        have HI := FInv.call HI b
        clear b
        go_wp2_with fail
        go_ret
        exact ⟨rfl, HI.out.2⟩
end Go.Proofs.YtkjpnciimabclaaDoor

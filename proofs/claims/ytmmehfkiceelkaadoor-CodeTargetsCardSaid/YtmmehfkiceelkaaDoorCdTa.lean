/-
  LAYER 23: where instructions go on: the statement's walk.
-/
import Derived.Test.YtmmehfkiceelkaaDoorCdTh
namespace Go.Proofs.YtmmehfkiceelkaaDoor
open Go.ChangeShapes Go.WideShapes Go.ChangeAt Go.RowKit Go.Shelf

/-- What is true of the instructions at which an instruction of a right list goes on. -/
structure TF (op a N at_ : Int) (T : List Int) : Prop where
  len : T.length ≤ 2
  srt : ∀ x y, T = [x, y] → x < y
  cmp : Lib.compact T = T
  emp : T = [] ↔ op = 16
  each : ∀ t ∈ T, t = at_ + 1 ∨ (t = a ∧ (op = 6 ∨ op = 7) ∧ t < N)
  nxt : op ≠ 6 → op ≠ 16 → T.contains (at_ + 1) = true
  jmp : op = 6 ∨ op = 7 → T.contains a = true
theorem compact_one (a : Int) : Lib.compact [a] = [a] := by
  have := fin_one a
  unfold fin at this
  rwa [List.mergeSort_singleton] at this
theorem tf_one (op a N at_ t : Int) (h16 : op ≠ 16) (he : t = at_ + 1 ∨ (t = a ∧ (op = 6 ∨ op = 7) ∧ t < N)) (hn : op ≠ 6 → op ≠ 16 → t = at_ + 1) (hj : op = 6 ∨ op = 7 → t = a) : TF op a N at_ [t] where
  len := by simp
  srt := fun x y h => (by cases h)
  cmp := compact_one t
  emp := ⟨fun h => (by cases h), fun h => absurd h h16⟩
  each := fun x hx => by rw [List.mem_singleton.1 hx]; exact he
  nxt := fun h1 h2 => by rw [hn h1 h2]; simp
  jmp := fun h => by rw [hj h]; simp
theorem tf_two (a N at_ x y : Int) (hxy : x < y) (h : (x = a ∧ y = at_ + 1) ∨ (x = at_ + 1 ∧ y = a)) (ha : a < N) : TF 7 a N at_ [x, y] where
  len := by simp
  srt := fun u v h => by cases h; exact hxy
  cmp := by rw [compact_two, if_neg (by omega)]
  emp := ⟨fun h => (by cases h), fun h => (by cases h)⟩
  each := fun t ht => by
    have : t = x ∨ t = y := by simpa using ht
    rcases h with ⟨rfl, rfl⟩ | ⟨rfl, rfl⟩ <;> rcases this with rfl | rfl
    · exact .inr ⟨rfl, .inr rfl, ha⟩
    · exact .inl rfl
    · exact .inl rfl
    · exact .inr ⟨rfl, .inr rfl, ha⟩
  nxt := fun _ _ => by rcases h with ⟨rfl, rfl⟩ | ⟨rfl, rfl⟩ <;> simp
  jmp := fun _ => by rcases h with ⟨rfl, rfl⟩ | ⟨rfl, rfl⟩ <;> simp
theorem tf_of {op a N at_ : Int} (hr : Cd.right op a N 50 50 = true) (h0 : 0 ≤ at_) (h1 : at_ < N) (h2 : N ≤ 1000) : TF op a N at_ (Cd.tgtL op a at_) ∧ Cd.tgtE op a at_ = 0 := by
  have hk := right_known hr
  have hia : Cd.inR at_ = true := decide_eq_true (by omega)
  by_cases hj : op = 6 ∨ op = 7
  · obtain ⟨a0, a1⟩ := right_jump hr hj
    have hib : Cd.inR a = true := decide_eq_true (by omega)
    have e0 : Cd.tgtL op a at_ = (if op = 16 then [] else if op = 6 then [a] else if op = 7 then (if a = at_ + 1 then [a] else if a < at_ + 1 then [a, at_ + 1] else [at_ + 1, a]) else [at_ + 1]) := by unfold Cd.tgtL; rw [if_pos ⟨hk, hia, fun _ => hib⟩]
    have e1 : Cd.tgtE op a at_ = 0 := by unfold Cd.tgtE; rw [if_pos hk, if_pos ⟨hia, fun _ => hib⟩]
    refine ⟨?_, e1⟩
    rw [e0, if_neg (by omega)]
    rcases hj with rfl | rfl
    · rw [if_pos rfl]
      exact tf_one 6 a N at_ a (by decide) (.inr ⟨rfl, .inl rfl, a1⟩) (fun h => absurd rfl h) (fun _ => rfl)
    · rw [if_neg (by decide), if_pos rfl]
      split
      · rename_i h
        exact tf_one 7 a N at_ a (by decide) (.inl h) (fun _ _ => h) (fun _ => rfl)
      · rename_i h
        split
        · rename_i h3
          exact tf_two a N at_ a (at_ + 1) h3 (.inl ⟨rfl, rfl⟩) a1
        · rename_i h3
          exact tf_two a N at_ (at_ + 1) a (by omega) (.inr ⟨rfl, rfl⟩) a1
  · have hjj : Cd.jumps op ≠ true := by unfold Cd.jumps; simpa using hj
    have e0 : Cd.tgtL op a at_ = (if op = 16 then [] else if op = 6 then [a] else if op = 7 then (if a = at_ + 1 then [a] else if a < at_ + 1 then [a, at_ + 1] else [at_ + 1, a]) else [at_ + 1]) := by unfold Cd.tgtL; rw [if_pos ⟨hk, hia, fun h => absurd h hjj⟩]
    have e1 : Cd.tgtE op a at_ = 0 := by unfold Cd.tgtE; rw [if_pos hk, if_pos ⟨hia, fun h => absurd h hjj⟩]
    refine ⟨?_, e1⟩
    rw [e0]
    by_cases h16 : op = 16
    · rw [if_pos h16]
      exact { len := by simp, srt := fun x y h => (by cases h), cmp := rfl, emp := ⟨fun _ => h16, fun _ => rfl⟩, each := fun t ht => (by cases ht), nxt := fun _ h => absurd h16 h, jmp := fun h => absurd h hj }
    · rw [if_neg h16, if_neg (fun h => hj (.inl h)), if_neg (fun h => hj (.inr h))]
      exact tf_one op a N at_ (at_ + 1) h16 (.inl rfl) (fun _ _ => rfl) (fun h => absurd h hj)

set_option maxHeartbeats 1000000 in
set_option maxRecDepth 100000 in
theorem targets_main (op a : Int) (N : Nat) (x1 x2 AT : Int) (n0 : 0 < N) (n1 : N ≤ 256) (h0 : 0 ≤ AT) (h1 : AT < N) (hN : 1 + x1 = (N : Int)) (_ : 0 ≤ x1) (hx2 : 0 ≤ x2) (hx3 : x2 ≤ 255) (hAT : x2.tmod (N : Int) = AT) (w : World) (hG : Good w) :
    Calls Tryd.prog 9 #[.agg #[.int .i64 op, .int .i64 a], .int .u8 x1, .int .u8 x2] w fun e w' => e = .returned (.bool true) ∧ Below w.heap.size w w' := by
  have HI := IB.new (op := op) (a := a) hG
  clear hG
  have HO := Lib.hid fun W => one_any op a N 50 50 n0 (by omega) (by decide) (by decide) W
  unfold iV at HO
  have N0 : (0 : Int) < (N : Int) := by omega
  have N1 : ¬ (N : Int) = 0 := by omega
  have N2 : ¬ (N : Int) = -1 := by omega
  rcases hr : Cd.right op a N 50 50 with _ | _
  · rw [hr] at HO
    clear hr
    go_enter Tryd.func9, Tryd.ntmps9
    go_wp2_with fail
    refine (HO.out _).mono ?_
    rintro e w2 ⟨rfl, b⟩
    replace HI := IB.call HI b
    clear b
    go_wp2_with fail
    refine (works_any _ (IB.good HI)).mono ?_
    rintro e w3 ⟨rfl, b⟩
    replace HI := IB.call HI b
    clear b
    go_wp2_with fail
    go_ret
    exact ⟨rfl, HI.out.2.1⟩
  · obtain ⟨hTF, hTE⟩ := tf_of hr h0 h1 (by omega)
    rw [hr] at HO
    have HT := Lib.hid fun W => targets_any op a AT W
    rw [hTE] at HT
    unfold iV at HT
    obtain ⟨T, hT⟩ : ∃ T, Cd.tgtL op a AT = T := ⟨_, rfl⟩
    rw [hT] at hTF HT
    have HF := Lib.hid hTF
    have tl := hTF.len
    have tl2 : ¬ (2 : Int) < (T.length : Int) := by omega
    have HSrt := Lib.hid fun A cap W h => isSorted_any T hTF.len hTF.srt A cap W h
    have HCl := Lib.hid fun A cap W h => cloneN_any T (by omega) A cap W h
    have HCo := Lib.hid fun v base W h => compact_same T (by omega) hTF.cmp v base W h
    have HCa := Lib.hid fun A cap W h => contains_any T (by omega) A cap a W h
    have HCn := Lib.hid fun A cap W h => contains_any T (by omega) A cap (AT + 1) W h
    have j4 : AT + 1 ≤ 9223372036854775807 := by omega
    have j5 : -9223372036854775808 ≤ AT + 1 := by omega
    have H1 := Lib.hid h1
    clear hr hTE hT hTF
    rcases (show op = 16 ∨ op = 6 ∨ op = 7 ∨ (op ≠ 16 ∧ op ≠ 6 ∧ op ≠ 7) by omega) with rfl | rfl | rfl | ⟨h16, h6, h7⟩
    · skip
      obtain rfl : T = [] := HF.out.emp.2 rfl
      go_enter Tryd.func9, Tryd.ntmps9
      go_wp2_with fail
      refine (HO.out _).mono ?_
      rintro e w2 ⟨rfl, b⟩
      replace HI := IB.call HI b
      clear b
      have i0 := HI.out.2.2.cell 0
      have i1 := HI.out.2.2.cell 1
      go_wp2_with fail
      clear i0 i1
      refine (HT.out _).mono ?_
      rintro e w3 ⟨A, cap, rfl, hcap, hemp, hRd, b⟩
      obtain ⟨rfl, rfl⟩ := hemp rfl
      clear hemp
      replace HI := IB.call HI b
      have HR := Lib.hid hRd
      clear b hRd
      go_wp2_with fail
      refine (HSrt.out _ _ _ HR.out).mono ?_
      rintro e w4 ⟨rfl, b⟩
      replace HI := IB.call HI b
      replace HR := Lib.hid (rd_call HR.out b)
      clear b
      go_wp2_with fail
      refine (HCl.out _ _ _ HR.out).mono ?_
      rintro e w5 ⟨v, rfl, hown, b⟩
      have HB5 := Lib.hid b
      have HO5 := Lib.hid hown
      clear b hown
      go_wp2_with fail
      refine (HCo.out _ _ _ HO5.out).mono ?_
      rintro e w6 ⟨A2, cap2, rfl, hbb⟩
      have HB6 := Lib.hid (hbb w4 w4.heap.size (Nat.le_refl _) HB5.out.size HB5.out)
      replace HI := IB.call HI HB6.out
      replace HR := Lib.hid (rd_call HR.out HB6.out)
      clear hbb HB5 HO5 HB6 HO HT HSrt HCl HCo
      have i0 := HI.out.2.2.cell 0
      have i1 := HI.out.2.2.cell 1
      go_wp2_with fail
      clear i0 i1
      go_loopw [63] (fun i wr => i = .int .i64 0 ∧ wr = w6) (fun _ _ => 0)
      case atStart => exact ⟨rfl, rfl⟩
      case round =>
        obtain ⟨rfl, rfl⟩ := hrel
        have i0 := HI.out.2.2.cell 0
        have i1 := HI.out.2.2.cell 1
        go_wp2_with fail
        clear i0 i1
        refine (works_any _ (IB.good HI)).mono ?_
        rintro e w9 ⟨rfl, b⟩
        replace HI := IB.call HI b
        clear b
        go_wp2_with fail
        go_ret
        exact ⟨rfl, HI.out.2.1⟩
    · skip
      have hT0 : T ≠ [] := fun e => (by decide : (6 : Int) ≠ 16) (HF.out.emp.1 e)
      have hT1 : ((T.length : Int) == 0) = false := by have := List.length_pos_iff.2 hT0; simp; omega
      have hT2 : ¬ (T.length : Int) = 0 := by have := List.length_pos_iff.2 hT0; omega
      clear hT0
      rw [HF.out.jmp (.inl rfl)] at HCa
      go_enter Tryd.func9, Tryd.ntmps9
      go_wp2_with fail
      refine (HO.out _).mono ?_
      rintro e w2 ⟨rfl, b⟩
      replace HI := IB.call HI b
      clear b
      have i0 := HI.out.2.2.cell 0
      have i1 := HI.out.2.2.cell 1
      go_wp2_with fail
      clear i0 i1
      refine (HT.out _).mono ?_
      rintro e w3 ⟨A, cap, rfl, hcap, hemp, hRd, b⟩
      clear hemp
      replace HI := IB.call HI b
      have HR := Lib.hid hRd
      clear b hRd
      go_wp2_with fail
      refine (HSrt.out _ _ _ HR.out).mono ?_
      rintro e w4 ⟨rfl, b⟩
      replace HI := IB.call HI b
      replace HR := Lib.hid (rd_call HR.out b)
      clear b
      go_wp2_with fail
      refine (HCl.out _ _ _ HR.out).mono ?_
      rintro e w5 ⟨v, rfl, hown, b⟩
      have HB5 := Lib.hid b
      have HO5 := Lib.hid hown
      clear b hown
      go_wp2_with fail
      refine (HCo.out _ _ _ HO5.out).mono ?_
      rintro e w6 ⟨A2, cap2, rfl, hbb⟩
      have HB6 := Lib.hid (hbb w4 w4.heap.size (Nat.le_refl _) HB5.out.size HB5.out)
      replace HI := IB.call HI HB6.out
      replace HR := Lib.hid (rd_call HR.out HB6.out)
      clear hbb HB5 HO5 HB6 HO HT HSrt HCl HCo
      have i0 := HI.out.2.2.cell 0
      have i1 := HI.out.2.2.cell 1
      go_wp2_with fail
      clear i0 i1
      go_loopw [63] (fun i wr => ∃ q : Nat, q ≤ T.length ∧ i = .int .i64 q ∧ wr = w6) (fun i _ => T.length - (intOf i).toNat)
      case atStart => exact ⟨0, Nat.zero_le _, rfl, rfl⟩
      case round =>
        obtain ⟨q, hq, rfl, rfl⟩ := hrel
        by_cases hlt : q < T.length
        · obtain ⟨b, off, rfl, _, hc⟩ := HR.out.ints (by intro e; rw [e] at hlt; simp at hlt)
          have hcq := hc q hlt
          obtain ⟨t, ht⟩ : ∃ t, T.getD q 0 = t := ⟨_, rfl⟩
          have hmem : t ∈ T := by rw [← ht]; simp [List.getD, List.getElem?_eq_getElem hlt]
          rw [ht] at hcq
          have he := HF.out.each t hmem
          have k1 : (0 : Int) ≤ (q : Int) := by omega
          have k2 : (q : Int) < (T.length : Int) := by omega
          clear hc ht hmem
          have i0 := HI.out.2.2.cell 0
          have i1 := HI.out.2.2.cell 1
          by_cases ht : t = AT + 1
          · subst ht
            clear he
            go_wp2_with fail
            go_roundw
            case rel => first | exact ⟨q + 1, by omega, by go_num, by first | rfl | trivial⟩ | ((repeat apply Exists.intro); exact ⟨⟨q + 1, by omega, by go_num, by first | rfl | trivial⟩, rfl⟩)
            case measure => simp [intOf]; omega
          · obtain ⟨hta, hj, hlN⟩ := he.resolve_left ht
            have hta' := hta.symm
            subst hta'
            clear he hta
            have ht2 : (a == AT + 1) = false := by simpa using ht
            have hlN2 : ¬ (N : Int) ≤ a := by omega
            clear hj
            go_wp2_with fail
            go_roundw
            case rel => first | exact ⟨q + 1, by omega, by go_num, by first | rfl | trivial⟩ | ((repeat apply Exists.intro); exact ⟨⟨q + 1, by omega, by go_num, by first | rfl | trivial⟩, rfl⟩)
            case measure => simp [intOf]; omega
        · obtain rfl : q = T.length := by omega
          have i0 := HI.out.2.2.cell 0
          have i1 := HI.out.2.2.cell 1
          go_wp2_with fail
          refine (HCa.out _ _ _ HR.out).mono ?_
          rintro e w7 ⟨rfl, rfl⟩
          go_wp2_with fail
          clear i0 i1
          refine (works_any _ (IB.good HI)).mono ?_
          rintro e w9 ⟨rfl, b⟩
          replace HI := IB.call HI b
          clear b
          go_wp2_with fail
          go_ret
          exact ⟨rfl, HI.out.2.1⟩
    · skip
      have hT0 : T ≠ [] := fun e => (by decide : (7 : Int) ≠ 16) (HF.out.emp.1 e)
      have hT1 : ((T.length : Int) == 0) = false := by have := List.length_pos_iff.2 hT0; simp; omega
      have hT2 : ¬ (T.length : Int) = 0 := by have := List.length_pos_iff.2 hT0; omega
      clear hT0
      rw [HF.out.jmp (.inr rfl)] at HCa
      rw [HF.out.nxt (by decide) (by decide)] at HCn
      go_enter Tryd.func9, Tryd.ntmps9
      go_wp2_with fail
      refine (HO.out _).mono ?_
      rintro e w2 ⟨rfl, b⟩
      replace HI := IB.call HI b
      clear b
      have i0 := HI.out.2.2.cell 0
      have i1 := HI.out.2.2.cell 1
      go_wp2_with fail
      clear i0 i1
      refine (HT.out _).mono ?_
      rintro e w3 ⟨A, cap, rfl, hcap, hemp, hRd, b⟩
      clear hemp
      replace HI := IB.call HI b
      have HR := Lib.hid hRd
      clear b hRd
      go_wp2_with fail
      refine (HSrt.out _ _ _ HR.out).mono ?_
      rintro e w4 ⟨rfl, b⟩
      replace HI := IB.call HI b
      replace HR := Lib.hid (rd_call HR.out b)
      clear b
      go_wp2_with fail
      refine (HCl.out _ _ _ HR.out).mono ?_
      rintro e w5 ⟨v, rfl, hown, b⟩
      have HB5 := Lib.hid b
      have HO5 := Lib.hid hown
      clear b hown
      go_wp2_with fail
      refine (HCo.out _ _ _ HO5.out).mono ?_
      rintro e w6 ⟨A2, cap2, rfl, hbb⟩
      have HB6 := Lib.hid (hbb w4 w4.heap.size (Nat.le_refl _) HB5.out.size HB5.out)
      replace HI := IB.call HI HB6.out
      replace HR := Lib.hid (rd_call HR.out HB6.out)
      clear hbb HB5 HO5 HB6 HO HT HSrt HCl HCo
      have i0 := HI.out.2.2.cell 0
      have i1 := HI.out.2.2.cell 1
      go_wp2_with fail
      clear i0 i1
      go_loopw [63] (fun i wr => ∃ q : Nat, q ≤ T.length ∧ i = .int .i64 q ∧ wr = w6) (fun i _ => T.length - (intOf i).toNat)
      case atStart => exact ⟨0, Nat.zero_le _, rfl, rfl⟩
      case round =>
        obtain ⟨q, hq, rfl, rfl⟩ := hrel
        by_cases hlt : q < T.length
        · obtain ⟨b, off, rfl, _, hc⟩ := HR.out.ints (by intro e; rw [e] at hlt; simp at hlt)
          have hcq := hc q hlt
          obtain ⟨t, ht⟩ : ∃ t, T.getD q 0 = t := ⟨_, rfl⟩
          have hmem : t ∈ T := by rw [← ht]; simp [List.getD, List.getElem?_eq_getElem hlt]
          rw [ht] at hcq
          have he := HF.out.each t hmem
          have k1 : (0 : Int) ≤ (q : Int) := by omega
          have k2 : (q : Int) < (T.length : Int) := by omega
          clear hc ht hmem
          have i0 := HI.out.2.2.cell 0
          have i1 := HI.out.2.2.cell 1
          by_cases ht : t = AT + 1
          · subst ht
            clear he
            go_wp2_with fail
            go_roundw
            case rel => first | exact ⟨q + 1, by omega, by go_num, by first | rfl | trivial⟩ | ((repeat apply Exists.intro); exact ⟨⟨q + 1, by omega, by go_num, by first | rfl | trivial⟩, rfl⟩)
            case measure => simp [intOf]; omega
          · obtain ⟨hta, hj, hlN⟩ := he.resolve_left ht
            have hta' := hta.symm
            subst hta'
            clear he hta
            have ht2 : (a == AT + 1) = false := by simpa using ht
            have hlN2 : ¬ (N : Int) ≤ a := by omega
            clear hj
            go_wp2_with fail
            go_roundw
            case rel => first | exact ⟨q + 1, by omega, by go_num, by first | rfl | trivial⟩ | ((repeat apply Exists.intro); exact ⟨⟨q + 1, by omega, by go_num, by first | rfl | trivial⟩, rfl⟩)
            case measure => simp [intOf]; omega
        · obtain rfl : q = T.length := by omega
          have i0 := HI.out.2.2.cell 0
          have i1 := HI.out.2.2.cell 1
          go_wp2_with fail
          refine (HCn.out _ _ _ HR.out).mono ?_
          rintro e w7 ⟨rfl, rfl⟩
          go_wp2_with fail
          refine (HCa.out _ _ _ HR.out).mono ?_
          rintro e w7 ⟨rfl, rfl⟩
          go_wp2_with fail
          clear i0 i1
          refine (works_any _ (IB.good HI)).mono ?_
          rintro e w9 ⟨rfl, b⟩
          replace HI := IB.call HI b
          clear b
          go_wp2_with fail
          go_ret
          exact ⟨rfl, HI.out.2.1⟩
    · skip
      have hT0 : T ≠ [] := fun e => h16 (HF.out.emp.1 e)
      have hT1 : ((T.length : Int) == 0) = false := by have := List.length_pos_iff.2 hT0; simp; omega
      have hT2 : ¬ (T.length : Int) = 0 := by have := List.length_pos_iff.2 hT0; omega
      clear hT0
      rw [HF.out.nxt h6 h16] at HCn
      have b6 : (op == 6) = false := by simpa using h6
      have d6 : (op != 6) = true := by simpa using h6
      have b7 : (op == 7) = false := by simpa using h7
      have d7 : (op != 7) = true := by simpa using h7
      have b16 : (op == 16) = false := by simpa using h16
      have d16 : (op != 16) = true := by simpa using h16
      go_enter Tryd.func9, Tryd.ntmps9
      go_wp2_with fail
      refine (HO.out _).mono ?_
      rintro e w2 ⟨rfl, b⟩
      replace HI := IB.call HI b
      clear b
      have i0 := HI.out.2.2.cell 0
      have i1 := HI.out.2.2.cell 1
      go_wp2_with fail
      clear i0 i1
      refine (HT.out _).mono ?_
      rintro e w3 ⟨A, cap, rfl, hcap, hemp, hRd, b⟩
      clear hemp
      replace HI := IB.call HI b
      have HR := Lib.hid hRd
      clear b hRd
      go_wp2_with fail
      refine (HSrt.out _ _ _ HR.out).mono ?_
      rintro e w4 ⟨rfl, b⟩
      replace HI := IB.call HI b
      replace HR := Lib.hid (rd_call HR.out b)
      clear b
      go_wp2_with fail
      refine (HCl.out _ _ _ HR.out).mono ?_
      rintro e w5 ⟨v, rfl, hown, b⟩
      have HB5 := Lib.hid b
      have HO5 := Lib.hid hown
      clear b hown
      go_wp2_with fail
      refine (HCo.out _ _ _ HO5.out).mono ?_
      rintro e w6 ⟨A2, cap2, rfl, hbb⟩
      have HB6 := Lib.hid (hbb w4 w4.heap.size (Nat.le_refl _) HB5.out.size HB5.out)
      replace HI := IB.call HI HB6.out
      replace HR := Lib.hid (rd_call HR.out HB6.out)
      clear hbb HB5 HO5 HB6 HO HT HSrt HCl HCo
      have i0 := HI.out.2.2.cell 0
      have i1 := HI.out.2.2.cell 1
      go_wp2_with fail
      clear i0 i1
      go_loopw [63] (fun i wr => ∃ q : Nat, q ≤ T.length ∧ i = .int .i64 q ∧ wr = w6) (fun i _ => T.length - (intOf i).toNat)
      case atStart => exact ⟨0, Nat.zero_le _, rfl, rfl⟩
      case round =>
        obtain ⟨q, hq, rfl, rfl⟩ := hrel
        by_cases hlt : q < T.length
        · obtain ⟨b, off, rfl, _, hc⟩ := HR.out.ints (by intro e; rw [e] at hlt; simp at hlt)
          have hcq := hc q hlt
          obtain ⟨t, ht⟩ : ∃ t, T.getD q 0 = t := ⟨_, rfl⟩
          have hmem : t ∈ T := by rw [← ht]; simp [List.getD, List.getElem?_eq_getElem hlt]
          rw [ht] at hcq
          have he := HF.out.each t hmem
          have k1 : (0 : Int) ≤ (q : Int) := by omega
          have k2 : (q : Int) < (T.length : Int) := by omega
          clear hc ht hmem
          have i0 := HI.out.2.2.cell 0
          have i1 := HI.out.2.2.cell 1
          by_cases ht : t = AT + 1
          · subst ht
            clear he
            go_wp2_with fail
            go_roundw
            case rel => first | exact ⟨q + 1, by omega, by go_num, by first | rfl | trivial⟩ | ((repeat apply Exists.intro); exact ⟨⟨q + 1, by omega, by go_num, by first | rfl | trivial⟩, rfl⟩)
            case measure => simp [intOf]; omega
          · obtain ⟨hta, hj, hlN⟩ := he.resolve_left ht
            exact absurd hj (by omega)
        · obtain rfl : q = T.length := by omega
          have i0 := HI.out.2.2.cell 0
          have i1 := HI.out.2.2.cell 1
          go_wp2_with fail
          refine (HCn.out _ _ _ HR.out).mono ?_
          rintro e w7 ⟨rfl, rfl⟩
          go_wp2_with fail
          clear i0 i1
          refine (works_any _ (IB.good HI)).mono ?_
          rintro e w9 ⟨rfl, b⟩
          replace HI := IB.call HI b
          clear b
          go_wp2_with fail
          go_ret
          exact ⟨rfl, HI.out.2.1⟩

theorem codeTargets_walk (op : Int) (_ : -9223372036854775808 ≤ op) (_ : op ≤ 9223372036854775807) (a : Int) (_ : -9223372036854775808 ≤ a) (_ : a ≤ 9223372036854775807) (x1 : Int) (a0 : 0 ≤ x1) (a1 : x1 ≤ 255) (x2 : Int) (b0 : 0 ≤ x2) (b1 : x2 ≤ 255) (w : World) (hG : Good w) :
    Calls Tryd.prog 9 #[.agg #[.int .i64 op, .int .i64 a], .int .u8 x1, .int .u8 x2] w fun e w' => e = .returned (.bool true) ∧ Below w.heap.size w w' := by
  obtain ⟨N, hN⟩ : ∃ N : Nat, 1 + x1 = (N : Int) := ⟨(1 + x1).toNat, by omega⟩
  exact targets_main op a N x1 x2 (x2 % (N : Int)) (by omega) (by omega) (Int.emod_nonneg _ (by omega)) (Int.emod_lt_of_pos _ (by omega)) hN a0 b0 b1 (Int.tmod_eq_emod_of_nonneg b0) w hG
end Go.Proofs.YtmmehfkiceelkaaDoor

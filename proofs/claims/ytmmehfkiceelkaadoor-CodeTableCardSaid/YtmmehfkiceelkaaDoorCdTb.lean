/-
  LAYER 23: the table, and its limits: the statement's walk.
-/
import Derived.Test.YtmmehfkiceelkaaDoorCdM
import Derived.Deep.CutBlock
import Derived.Deep.DeepCutAuto
namespace Go.Proofs.YtmmehfkiceelkaaDoor
open Go.ChangeShapes Go.WideShapes Go.ChangeAt Go.RowKit Go.Shelf Go.Maps

theorem tx_known {op : Int} (h : Cd.known op) : txE op 0 = 0 := by
  unfold txE
  rcases hb : Cd.bare op.toNat with _ | _
  · rw [text_f 0 h hb]; rfl
  · rw [text_0 h hb]; rfl
theorem tg_known {op : Int} (h : Cd.known op) : Cd.tgtE op 0 0 = 0 := by
  unfold Cd.tgtE
  rw [if_pos h, if_pos ⟨rfl, fun _ => rfl⟩]
theorem tx_un {op : Int} (h : ¬ Cd.known op) : txE op 0 = 2 := by unfold txE; rw [text_n 0 h]; rfl
theorem tg_un {op : Int} (h : ¬ Cd.known op) : Cd.tgtE op 0 0 = 2 := by unfold Cd.tgtE; rw [if_neg h]
theorem ef_un {op : Int} (h : ¬ Cd.hasEff op) : efE op = 2 ∧ efP op = 0 ∧ efQ op = 0 := by
  unfold efE efP efQ
  rw [if_neg h, if_neg h, if_neg h]
  exact ⟨rfl, rfl, rfl⟩
theorem ef_known {op : Int} (h : Cd.hasEff op) : efE op = 0 ∧ 0 ≤ efP op ∧ efP op ≤ 2 ∧ 0 ≤ efQ op ∧ efQ op ≤ 1 := by
  unfold efE efP efQ
  rw [if_pos h, if_pos h, if_pos h]
  have key : ∀ i : Fin 18, 0 ≤ Cd.pops i.val ∧ Cd.pops i.val ≤ 2 ∧ 0 ≤ Cd.push i.val ∧ Cd.push i.val ≤ 1 := by decide
  obtain ⟨⟨h1, h2⟩, _⟩ := h
  exact ⟨rfl, key ⟨op.toNat, by omega⟩⟩
theorem tg_out (op at_ : Int) (h : Cd.known op) (ha : at_ < 0 ∨ 1000000 < at_) : Cd.tgtL op 0 at_ = [] ∧ Cd.tgtE op 0 at_ = 3 := by
  have hi : Cd.inR at_ ≠ true := by unfold Cd.inR; simp; omega
  unfold Cd.tgtL Cd.tgtE
  rw [if_neg (fun e => hi e.2.1), if_pos h, if_neg (fun e => hi e.1)]
  exact ⟨rfl, rfl⟩
theorem tg_jump (a : Int) (ha : a < 0 ∨ 1000000 < a) : Cd.tgtL 6 a 0 = [] ∧ Cd.tgtE 6 a 0 = 3 := by
  have hi : Cd.inR a ≠ true := by unfold Cd.inR; simp; omega
  unfold Cd.tgtL Cd.tgtE
  rw [if_neg (fun e => hi (e.2.2 rfl)), if_pos (by decide), if_neg (fun e => hi (e.2 rfl))]
  exact ⟨rfl, rfl⟩

set_option maxHeartbeats 8000000 in
set_option maxRecDepth 100000 in
theorem codeTable_walk (op : Int) (o0 : -9223372036854775808 ≤ op) (o1 : op ≤ 9223372036854775807) (m : Int) (m0 : 0 ≤ m) (m1 : m ≤ 4294967295) (w : World) (hG : Good w) :
    Calls Tryd.prog 7 #[.int .i64 op, .int .u32 m] w fun e w' => e = .returned (.bool true) ∧ Below w.heap.size w w' := by
  have HI := IB.new (op := op) (a := 0) hG
  have HG := Lib.hid hG
  clear hG
  have HT := Lib.hid fun W hG => text_any op 0 (by decide) (by decide) W hG
  have HE := Lib.hid fun W => effect_any op 0 W
  have HTg := Lib.hid fun W => targets_any op 0 0 W
  have HO := Lib.hid fun W => one3_any op 0 W
  unfold iV at HT HE HTg HO
  obtain ⟨TS, hTS⟩ : ∃ x, txS op 0 = x := ⟨_, rfl⟩
  obtain ⟨TE, hTE⟩ : ∃ x, txE op 0 = x := ⟨_, rfl⟩
  obtain ⟨GL, hGL⟩ : ∃ x, Cd.tgtL op 0 0 = x := ⟨_, rfl⟩
  obtain ⟨GE, hGE⟩ : ∃ x, Cd.tgtE op 0 0 = x := ⟨_, rfl⟩
  obtain ⟨FE, hFE⟩ : ∃ x, efE op = x := ⟨_, rfl⟩
  obtain ⟨FP, hFP⟩ : ∃ x, efP op = x := ⟨_, rfl⟩
  obtain ⟨FQ, hFQ⟩ : ∃ x, efQ op = x := ⟨_, rfl⟩
  obtain ⟨KN, hKN⟩ : ∃ x, decide (Cd.known op) = x := ⟨_, rfl⟩
  rw [hTS, hTE] at HT
  rw [hFE, hFP, hFQ] at HE
  rw [hGL, hGE] at HTg
  have HK : Hid ((¬ Cd.known op ∧ KN = false ∧ TE = 2 ∧ GE = 2 ∧ FE = 2 ∧ FP = 0 ∧ FQ = 0) ∨ (Cd.known op ∧ KN = true ∧ TE = 0 ∧ GE = 0 ∧ (op = 14 ∨ op = 16) ∧ FE = 2 ∧ FP = 0 ∧ FQ = 0) ∨ (Cd.known op ∧ KN = true ∧ TE = 0 ∧ GE = 0 ∧ op ≠ 14 ∧ op ≠ 16 ∧ FE = 0 ∧ 0 ≤ FP ∧ FP ≤ 2 ∧ 0 ≤ FQ ∧ FQ ≤ 1)) := Lib.hid (by
    by_cases hk : Cd.known op
    · have e1 := tx_known hk
      have e2 := tg_known hk
      have e3 : KN = true := by rw [← hKN]; exact decide_eq_true hk
      rw [hTE] at e1
      rw [hGE] at e2
      by_cases h : op = 14 ∨ op = 16
      · obtain ⟨f1, f2, f3⟩ := ef_un (op := op) (by unfold Cd.hasEff; omega)
        rw [hFE] at f1
        rw [hFP] at f2
        rw [hFQ] at f3
        exact .inr (.inl ⟨hk, e3, e1, e2, h, f1, f2, f3⟩)
      · obtain ⟨f1, f2, f3, f4, f5⟩ := ef_known (op := op) ⟨hk, by omega, by omega⟩
        rw [hFE] at f1
        rw [hFP] at f2 f3
        rw [hFQ] at f4 f5
        exact .inr (.inr ⟨hk, e3, e1, e2, by omega, by omega, f1, f2, f3, f4, f5⟩)
    · have e1 := tx_un hk
      have e2 := tg_un hk
      have e3 : KN = false := by rw [← hKN]; exact decide_eq_false hk
      rw [hTE] at e1
      rw [hGE] at e2
      obtain ⟨f1, f2, f3⟩ := ef_un (op := op) (fun h => hk h.1)
      rw [hFE] at f1
      rw [hFP] at f2
      rw [hFQ] at f3
      exact .inl ⟨hk, e3, e1, e2, f1, f2, f3⟩)
  clear hTS hTE hGL hGE hFE hFP hFQ hKN
  have hmm := @run_makeMap Tryd.prog
  go_enter Tryd.func7, Tryd.ntmps7
  go_upto_region 1 with fail
  go_cut [5] (fun s5 wx => s5 = .bool KN ∧ w = wx)
  case first =>
    rcases HK.out with ⟨hk, rfl, _⟩ | ⟨⟨h1, h2⟩, rfl, _⟩ | ⟨⟨h1, h2⟩, rfl, _⟩
    · by_cases h1 : 1 ≤ op
      · have h2 : ¬ op ≤ 17 := fun h => hk ⟨h1, h⟩
        clear hk
        go_wp2_with fail
        go_meet
        exact ⟨rfl, rfl⟩
      · clear hk
        go_wp2_with fail
        go_meet
        exact ⟨rfl, rfl⟩
    · go_wp2_with fail
      go_meet
      exact ⟨rfl, rfl⟩
    · go_wp2_with fail
      go_meet
      exact ⟨rfl, rfl⟩
  case rest =>
    obtain ⟨rfl, rfl⟩ := hcut
    go_wp2_with fail
    refine (HT.out _ (IB.good HI)).mono ?_
    rintro e w2 ⟨rfl, b⟩
    replace HI := IB.call HI b
    have i0 := HI.out.2.2.cell 0
    have i1 := HI.out.2.2.cell 1
    clear b
    go_wp2_with fail
    clear i0 i1
    refine (HE.out _).mono ?_
    rintro e w3 ⟨rfl, b⟩
    replace HI := IB.call HI b
    have i0 := HI.out.2.2.cell 0
    have i1 := HI.out.2.2.cell 1
    clear b
    go_wp2_with fail
    clear i0 i1
    refine (HTg.out _).mono ?_
    rintro e w4 ⟨GA, gc, rfl, _, hge, _, b⟩
    replace HI := IB.call HI b
    clear b hge
    go_upto_region 6 with fail
    go_cut [89] (fun s wx => s = .bool false ∧ w4 = wx)
    case first =>
      as_aux_lemma =>
        rcases HK.out with ⟨hk, rfl, rfl, rfl, rfl, rfl, rfl⟩ | ⟨hk, rfl, rfl, rfl, hop, rfl, rfl, rfl⟩ | ⟨hk, rfl, rfl, rfl, h14, h16, rfl, f2, f3, f4, f5⟩
        · skip
          go_wp2_with fail
          go_meet
          exact ⟨rfl, rfl⟩
        · rcases hop with rfl | rfl
          · skip
            go_wp2_with fail
            go_meet
            exact ⟨rfl, rfl⟩
          · skip
            go_wp2_with fail
            go_meet
            exact ⟨rfl, rfl⟩
        · have b14 : (op != 14) = true := by simpa using h14
          have b16 : (op != 16) = true := by simpa using h16
          have g2 : ¬ FP < 0 := by omega
          have g3 : ¬ 2 < FP := by omega
          have g4 : ¬ FQ < 0 := by omega
          have g5 : ¬ 1 < FQ := by omega
          go_wp2_with fail
          go_meet
          exact ⟨rfl, rfl⟩
    case rest =>
      as_aux_lemma =>
        obtain ⟨rfl, rfl⟩ := hcut
        have HM0' := MP.start (m := m) HG HI
        obtain ⟨ps0, hps0, hl0⟩ : ∃ q : List (Int × Nat), [] = q ∧ q.length = 0 := ⟨_, rfl, rfl⟩
        rw [hps0] at HM0'
        have HM0 := HM0'
        clear hps0 HM0' HI
        obtain ⟨v1, hrun2, hown, hgr⟩ := ((MP.own HM0).alloc (.cells #[.int .i64 (-1 - m), .int .i64 (5 + m)] 2)).update keyLaw Tryd.underlying54 (by unfold maxLen; omega) (keyOf_int_mk Tryd.underlying3 (show (Lit.int .i64 2).wf = true by decide)) (sliceR_mk (w4.heap.size + 1))
        obtain ⟨ps1, HM1, hl1⟩ := MP.step HM0 hl0 (k := 2) (by decide) (by simp [loF]) (by simp [hiF]) (by rw [World.size_alloc]; exact hown) hgr
        clear hown hgr HM0 hl0
        obtain ⟨v2, hrun3, hown, hgr⟩ := ((MP.own HM1).alloc (.cells #[.int .i64 (-1 - m), .int .i64 (5 + m)] 2)).update keyLaw Tryd.underlying54 (by unfold maxLen; omega) (keyOf_int_mk Tryd.underlying3 (show (Lit.int .i64 3).wf = true by decide)) (sliceR_mk (v1.heap.size))
        obtain ⟨ps2, HM2, hl2⟩ := MP.step HM1 hl1 (k := 3) (by decide) (by simp [loF]) (by simp [hiF]) hown hgr
        clear hown hgr HM1 hl1
        obtain ⟨v3, hrun4, hown, hgr⟩ := ((MP.own HM2).alloc (.cells #[.int .i64 (13 - m), .int .i64 (16 + m)] 2)).update keyLaw Tryd.underlying54 (by unfold maxLen; omega) (keyOf_int_mk Tryd.underlying3 (show (Lit.int .i64 4).wf = true by decide)) (sliceR_mk (v2.heap.size))
        obtain ⟨ps3, HM3, hl3⟩ := MP.step HM2 hl2 (k := 4) (by decide) (by simp [loF]) (by simp [hiF]) hown hgr
        clear hown hgr HM2 hl2
        obtain ⟨v4, hrun5, hown, hgr⟩ := ((MP.own HM3).alloc (.cells #[.int .i64 (-m), .int .i64 (12 + m)] 2)).update keyLaw Tryd.underlying54 (by unfold maxLen; omega) (keyOf_int_mk Tryd.underlying3 (show (Lit.int .i64 5).wf = true by decide)) (sliceR_mk (v3.heap.size))
        obtain ⟨ps4, HM4, hl4⟩ := MP.step HM3 hl3 (k := 5) (by decide) (by simp [loF]) (by simp [hiF]) hown hgr
        clear hown hgr HM3 hl3
        go_wp2_with fail
        clear hrun2 hrun3 hrun4 hrun5 hmm
        as_aux_lemma =>
          obtain ⟨v5, hrun6, hown, hgr⟩ := ((MP.own HM4).alloc (.cells #[.int .i64 (-1 - m), .int .i64 (3 + m)] 2)).update keyLaw Tryd.underlying54 (by unfold maxLen; omega) (keyOf_int_mk Tryd.underlying3 (show (Lit.int .i64 6).wf = true by decide)) (sliceR_mk (v4.heap.size))
          obtain ⟨ps5, HM5, hl5⟩ := MP.step HM4 hl4 (k := 6) (by decide) (by simp [loF]) (by simp [hiF]) hown hgr
          clear hown hgr HM4 hl4
          obtain ⟨v6, hrun7, hown, hgr⟩ := ((MP.own HM5).alloc (.cells #[.int .i64 (-1 - m), .int .i64 (3 + m)] 2)).update keyLaw Tryd.underlying54 (by unfold maxLen; omega) (keyOf_int_mk Tryd.underlying3 (show (Lit.int .i64 7).wf = true by decide)) (sliceR_mk (v5.heap.size))
          obtain ⟨ps6, HM6, hl6⟩ := MP.step HM5 hl5 (k := 7) (by decide) (by simp [loF]) (by simp [hiF]) hown hgr
          clear hown hgr HM5 hl5
          obtain ⟨v7, hrun8, hown, hgr⟩ := ((MP.own HM6).alloc (.cells #[.int .i64 (-1 - m), .int .i64 (5 + m)] 2)).update keyLaw Tryd.underlying54 (by unfold maxLen; omega) (keyOf_int_mk Tryd.underlying3 (show (Lit.int .i64 8).wf = true by decide)) (sliceR_mk (v6.heap.size))
          obtain ⟨ps7, HM7, hl7⟩ := MP.step HM6 hl6 (k := 8) (by decide) (by simp [loF]) (by simp [hiF]) hown hgr
          clear hown hgr HM6 hl6
          obtain ⟨v8, hrun9, hown, hgr⟩ := ((MP.own HM7).alloc (.cells #[.int .i64 (-1 - m), .int .i64 (5 + m)] 2)).update keyLaw Tryd.underlying54 (by unfold maxLen; omega) (keyOf_int_mk Tryd.underlying3 (show (Lit.int .i64 9).wf = true by decide)) (sliceR_mk (v7.heap.size))
          obtain ⟨ps8, HM8, hl8⟩ := MP.step HM7 hl7 (k := 9) (by decide) (by simp [loF]) (by simp [hiF]) hown hgr
          clear hown hgr HM7 hl7
          rw [hrun6]
          go_wp2_with fail
          clear hrun6 hrun7 hrun8 hrun9
          as_aux_lemma =>
            obtain ⟨v9, hrun10, hown, hgr⟩ := ((MP.own HM8).alloc (.cells #[.int .i64 (-1 - m), .int .i64 (5 + m)] 2)).update keyLaw Tryd.underlying54 (by unfold maxLen; omega) (keyOf_int_mk Tryd.underlying3 (show (Lit.int .i64 10).wf = true by decide)) (sliceR_mk (v8.heap.size))
            obtain ⟨ps9, HM9, hl9⟩ := MP.step HM8 hl8 (k := 10) (by decide) (by simp [loF]) (by simp [hiF]) hown hgr
            clear hown hgr HM8 hl8
            obtain ⟨v10, hrun11, hown, hgr⟩ := ((MP.own HM9).alloc (.cells #[.int .i64 (-1 - m), .int .i64 (1 + m)] 2)).update keyLaw Tryd.underlying54 (by unfold maxLen; omega) (keyOf_int_mk Tryd.underlying3 (show (Lit.int .i64 11).wf = true by decide)) (sliceR_mk (v9.heap.size))
            obtain ⟨ps10, HM10, hl10⟩ := MP.step HM9 hl9 (k := 11) (by decide) (by simp [loF]) (by simp [hiF]) hown hgr
            clear hown hgr HM9 hl9
            obtain ⟨v11, hrun12, hown, hgr⟩ := ((MP.own HM10).alloc (.cells #[.int .i64 (-1 - m), .int .i64 (1 + m)] 2)).update keyLaw Tryd.underlying54 (by unfold maxLen; omega) (keyOf_int_mk Tryd.underlying3 (show (Lit.int .i64 12).wf = true by decide)) (sliceR_mk (v10.heap.size))
            obtain ⟨ps11, HM11, hl11⟩ := MP.step HM10 hl10 (k := 12) (by decide) (by simp [loF]) (by simp [hiF]) hown hgr
            clear hown hgr HM10 hl10
            obtain ⟨v12, hrun13, hown, hgr⟩ := ((MP.own HM11).alloc (.cells #[.int .i64 (-m), .int .i64 (3 + m)] 2)).update keyLaw Tryd.underlying54 (by unfold maxLen; omega) (keyOf_int_mk Tryd.underlying3 (show (Lit.int .i64 13).wf = true by decide)) (sliceR_mk (v11.heap.size))
            obtain ⟨ps12, HM12, hl12⟩ := MP.step HM11 hl11 (k := 13) (by decide) (by simp [loF]) (by simp [hiF]) hown hgr
            clear hown hgr HM11 hl11
            rw [hrun10]
            go_wp2_with fail
            clear hrun10 hrun11 hrun12 hrun13
            as_aux_lemma =>
              obtain ⟨v13, hrun14, hown, hgr⟩ := ((MP.own HM12).alloc (.cells #[.int .i64 (-1 - m), .int .i64 (4 + m)] 2)).update keyLaw Tryd.underlying54 (by unfold maxLen; omega) (keyOf_int_mk Tryd.underlying3 (show (Lit.int .i64 14).wf = true by decide)) (sliceR_mk (v12.heap.size))
              obtain ⟨ps13, HM13, hl13⟩ := MP.step HM12 hl12 (k := 14) (by decide) (by simp [loF]) (by simp [hiF]) hown hgr
              clear hown hgr HM12 hl12
              obtain ⟨v14, hrun15, hown, hgr⟩ := ((MP.own HM13).alloc (.cells #[.int .i64 (-1 - m), .int .i64 (1 + m)] 2)).update keyLaw Tryd.underlying54 (by unfold maxLen; omega) (keyOf_int_mk Tryd.underlying3 (show (Lit.int .i64 15).wf = true by decide)) (sliceR_mk (v13.heap.size))
              obtain ⟨ps14, HM14, hl14⟩ := MP.step HM13 hl13 (k := 15) (by decide) (by simp [loF]) (by simp [hiF]) hown hgr
              clear hown hgr HM13 hl13
              obtain ⟨v15, hrun16, hown, hgr⟩ := ((MP.own HM14).alloc (.cells #[.int .i64 (-1 - m), .int .i64 (2 + m)] 2)).update keyLaw Tryd.underlying54 (by unfold maxLen; omega) (keyOf_int_mk Tryd.underlying3 (show (Lit.int .i64 16).wf = true by decide)) (sliceR_mk (v14.heap.size))
              obtain ⟨ps15, HM15, hl15⟩ := MP.step HM14 hl14 (k := 16) (by decide) (by simp [loF]) (by simp [hiF]) hown hgr
              clear hown hgr HM14 hl14
              obtain ⟨v16, hrun17, hown, hgr⟩ := ((MP.own HM15).alloc (.cells #[.int .i64 (-1 - m), .int .i64 (5 + m)] 2)).update keyLaw Tryd.underlying54 (by unfold maxLen; omega) (keyOf_int_mk Tryd.underlying3 (show (Lit.int .i64 17).wf = true by decide)) (sliceR_mk (v15.heap.size))
              obtain ⟨ps16, HM16, hl16⟩ := MP.step HM15 hl15 (k := 17) (by decide) (by simp [loF]) (by simp [hiF]) hown hgr
              clear hown hgr HM15 hl15
              obtain ⟨z0, hrunR, hrg, hgr, _⟩ := (MP.own HM16).range keyLaw Tryd.underlying54
              have HR := MR.start HM16 hrg hgr
              clear hrg hgr HM16
              rw [hrun14]
              go_wp2_with fail
              clear hrunR hrun14 hrun15 hrun16 hrun17
              go_loopw [16] (fun _ wr => ∃ left cnt, Hid (MR w op w4.heap.size v16.heap.size m ps16 left cnt wr)) (fun _ wr => wr.rangeLeft w4.heap.size v16.heap.size)
              case atStart => exact ⟨_, _, HR⟩
              case round =>
                clear HR
                obtain ⟨left, cnt, HR⟩ := hrel
                rcases (MR.rg HR).next keyLaw 0 with ⟨h0, hl, hrun⟩ | ⟨key, v, kl, y, z1, cnt', hkey, hlk, hv, hat, hrun, hrg, hlt, hgr, hsz, hen⟩
                · have HI := MR.ib HR
                  clear h0 hl HR
                  have HC1 : Hid (∀ W, Calls Tryd.prog 23 #[.agg #[.int .i64 1, .int .i64 m], .int .i64 3, .int .i64 5, .int .i64 4] W fun e w' => e = .returned (.bool true) ∧ Below W.heap.size W w') := Lib.hid fun W => one3_any 1 m W
                  have HC2 : Hid (∀ W, Calls Tryd.prog 23 #[.agg #[.int .i64 1, .int .i64 (-m)], .int .i64 3, .int .i64 5, .int .i64 4] W fun e w' => e = .returned (.bool true) ∧ Below W.heap.size W w') := Lib.hid fun W => one3_any 1 (-m) W
                  have HD1 : Hid (∀ at_ : Int, at_ < 0 ∨ 1000000 < at_ → ∀ W, Calls Tryd.prog 17 #[.agg #[.int .i64 15, .int .i64 0], .int .i64 at_] W (TQ W [] 3)) := Lib.hid fun at_ h W => by
                    have := targets_any 15 0 at_ W
                    rw [(tg_out 15 at_ (by decide) h).1, (tg_out 15 at_ (by decide) h).2] at this
                    exact this
                  have HD2 : Hid (∀ at_ : Int, at_ < 0 ∨ 1000000 < at_ → ∀ W, Calls Tryd.prog 17 #[.agg #[.int .i64 6, .int .i64 at_], .int .i64 0] W (TQ W [] 3)) := Lib.hid fun at_ h W => by
                    have := targets_any 6 at_ 0 W
                    rw [(tg_jump at_ h).1, (tg_jump at_ h).2] at this
                    exact this
                  have HZ : Hid ((¬ Cd.known op ∧ KN = false) ∨ KN = true) := Lib.hid (HK.out.elim (fun h => .inl ⟨h.1, h.2.1⟩) (fun h => h.elim (fun h => .inr h.2.1) (fun h => .inr h.2.1)))
                  clear HK
                  rcases HZ.out with ⟨hk, rfl⟩ | rfl
                  · as_aux_lemma =>
                      rw [right_none 0 3 5 4 hk] at HO
                      clear hk HZ
                      have i0 := HI.out.2.2.cell 0
                      have i1 := HI.out.2.2.cell 1
                      go_wp2_with fail
                      clear i0 i1 hrun
                      refine (HO.out _).mono ?_
                      rintro e u0 ⟨rfl, b⟩
                      replace HI := IB.call HI b
                      clear b
                      go_wp2_with fail
                      refine (HC1.out _).mono ?_
                      rintro e u1 ⟨rfl, b⟩
                      replace HI := IB.call HI b
                      clear b
                      go_wp2_with fail
                      refine (HC2.out _).mono ?_
                      rintro e u2 ⟨rfl, b⟩
                      replace HI := IB.call HI b
                      clear b
                      have HLs := Lib.hid (Blk.new u2 3 #[.int .i64 (-1 - m), .int .i64 (1000001 + m)])
                      replace HI := IB.alloc HI (.cells #[.int .i64 (-1 - m), .int .i64 (1000001 + m)] 3)
                      go_wp2_with fail
                      go_loopw [219] (fun i wr => ∃ q : Nat, q ≤ 2 ∧ i = .int .i64 q ∧ Hid (IB w op 0 wr) ∧ Hid (Blk wr u2.heap.size 3 #[.int .i64 (-1 - m), .int .i64 (1000001 + m)])) (fun i _ => 2 - (intOf i).toNat)
                      case atStart => exact ⟨0, by omega, rfl, HI, HLs⟩
                      case round =>
                        clear HI HLs
                        as_aux_lemma =>
                          obtain ⟨q, hq, rfl, HI, HLs⟩ := hrel
                          rcases (show q = 0 ∨ q = 1 ∨ q = 2 by omega) with rfl | rfl | rfl
                          · have c0 := HLs.out.cell 0
                            clear hq
                            go_wp2_with fail
                            refine (HD1.out (-1 - m) (by omega) _).mono ?_
                            rintro e t1 ⟨A1, k1, rfl, _, _, _, b⟩
                            replace HI := IB.call HI b
                            replace HLs := Lib.hid (HLs.out.call b)
                            clear b c0
                            go_wp2_with fail
                            refine (HD2.out (-1 - m) (by omega) _).mono ?_
                            rintro e t2 ⟨A2, k2, rfl, _, _, _, b⟩
                            replace HI := IB.call HI b
                            replace HLs := Lib.hid (HLs.out.call b)
                            clear b
                            go_wp2_with fail
                            go_roundw
                            case rel => first | exact ⟨1, by omega, by first | rfl | trivial, HI, HLs⟩ | ((repeat apply Exists.intro); exact ⟨⟨1, by omega, by first | rfl | trivial, HI, HLs⟩, rfl⟩)
                            case measure => simp [intOf]
                          · have c0 := HLs.out.cell 1
                            clear hq
                            go_wp2_with fail
                            refine (HD1.out (1000001 + m) (by omega) _).mono ?_
                            rintro e t1 ⟨A1, k1, rfl, _, _, _, b⟩
                            replace HI := IB.call HI b
                            replace HLs := Lib.hid (HLs.out.call b)
                            clear b c0
                            go_wp2_with fail
                            refine (HD2.out (1000001 + m) (by omega) _).mono ?_
                            rintro e t2 ⟨A2, k2, rfl, _, _, _, b⟩
                            replace HI := IB.call HI b
                            replace HLs := Lib.hid (HLs.out.call b)
                            clear b
                            go_wp2_with fail
                            go_roundw
                            case rel => first | exact ⟨2, by omega, by first | rfl | trivial, HI, HLs⟩ | ((repeat apply Exists.intro); exact ⟨⟨2, by omega, by first | rfl | trivial, HI, HLs⟩, rfl⟩)
                            case measure => simp [intOf]
                          · clear hq
                            rw [show ((2 : Nat) : Int) = 2 from rfl]
                            go_wp2_with fail
                            refine (works_any _ (IB.good HI)).mono ?_
                            rintro e u9 ⟨rfl, b⟩
                            replace HI := IB.call HI b
                            clear b
                            go_wp2_with fail
                            go_ret
                            exact ⟨rfl, HI.out.2.1⟩
                  · as_aux_lemma =>
                      clear HZ
                      go_wp2_with fail
                      clear hrun
                      refine (HC1.out _).mono ?_
                      rintro e u1 ⟨rfl, b⟩
                      replace HI := IB.call HI b
                      clear b
                      go_wp2_with fail
                      refine (HC2.out _).mono ?_
                      rintro e u2 ⟨rfl, b⟩
                      replace HI := IB.call HI b
                      clear b
                      have HLs := Lib.hid (Blk.new u2 3 #[.int .i64 (-1 - m), .int .i64 (1000001 + m)])
                      replace HI := IB.alloc HI (.cells #[.int .i64 (-1 - m), .int .i64 (1000001 + m)] 3)
                      go_wp2_with fail
                      go_loopw [219] (fun i wr => ∃ q : Nat, q ≤ 2 ∧ i = .int .i64 q ∧ Hid (IB w op 0 wr) ∧ Hid (Blk wr u2.heap.size 3 #[.int .i64 (-1 - m), .int .i64 (1000001 + m)])) (fun i _ => 2 - (intOf i).toNat)
                      case atStart => exact ⟨0, by omega, rfl, HI, HLs⟩
                      case round =>
                        clear HI HLs
                        as_aux_lemma =>
                          obtain ⟨q, hq, rfl, HI, HLs⟩ := hrel
                          rcases (show q = 0 ∨ q = 1 ∨ q = 2 by omega) with rfl | rfl | rfl
                          · have c0 := HLs.out.cell 0
                            clear hq
                            go_wp2_with fail
                            refine (HD1.out (-1 - m) (by omega) _).mono ?_
                            rintro e t1 ⟨A1, k1, rfl, _, _, _, b⟩
                            replace HI := IB.call HI b
                            replace HLs := Lib.hid (HLs.out.call b)
                            clear b c0
                            go_wp2_with fail
                            refine (HD2.out (-1 - m) (by omega) _).mono ?_
                            rintro e t2 ⟨A2, k2, rfl, _, _, _, b⟩
                            replace HI := IB.call HI b
                            replace HLs := Lib.hid (HLs.out.call b)
                            clear b
                            go_wp2_with fail
                            go_roundw
                            case rel => first | exact ⟨1, by omega, by first | rfl | trivial, HI, HLs⟩ | ((repeat apply Exists.intro); exact ⟨⟨1, by omega, by first | rfl | trivial, HI, HLs⟩, rfl⟩)
                            case measure => simp [intOf]
                          · have c0 := HLs.out.cell 1
                            clear hq
                            go_wp2_with fail
                            refine (HD1.out (1000001 + m) (by omega) _).mono ?_
                            rintro e t1 ⟨A1, k1, rfl, _, _, _, b⟩
                            replace HI := IB.call HI b
                            replace HLs := Lib.hid (HLs.out.call b)
                            clear b c0
                            go_wp2_with fail
                            refine (HD2.out (1000001 + m) (by omega) _).mono ?_
                            rintro e t2 ⟨A2, k2, rfl, _, _, _, b⟩
                            replace HI := IB.call HI b
                            replace HLs := Lib.hid (HLs.out.call b)
                            clear b
                            go_wp2_with fail
                            go_roundw
                            case rel => first | exact ⟨2, by omega, by first | rfl | trivial, HI, HLs⟩ | ((repeat apply Exists.intro); exact ⟨⟨2, by omega, by first | rfl | trivial, HI, HLs⟩, rfl⟩)
                            case measure => simp [intOf]
                          · clear hq
                            rw [show ((2 : Nat) : Int) = 2 from rfl]
                            go_wp2_with fail
                            refine (works_any _ (IB.good HI)).mono ?_
                            rintro e u9 ⟨rfl, b⟩
                            replace HI := IB.call HI b
                            clear b
                            go_wp2_with fail
                            go_ret
                            exact ⟨rfl, HI.out.2.1⟩
                · obtain ⟨x, rfl, rfl, _⟩ := Maps.keyOf_int_inv Tryd.underlying3 hkey
                  as_aux_lemma =>
                    obtain ⟨g, rfl, hy⟩ := sliceR_inv hv
                    obtain ⟨⟨x1, x2⟩, hblk⟩ := MR.at_ (left' := fun z => left z && !z.sameKey (.int .i64 x)) (cnt' := cnt') HR hlk hy hat
                    have HR1 := MR.next HR hrg (fun kl e => by simp at e; exact e.1) hgr
                    have HBk := Lib.hid hblk
                    have hle := (MR.rg HR).left_eq
                    obtain ⟨LL, hLL⟩ : ∃ f, (fun z : Lit => left z && !z.sameKey (.int .i64 x)) = f := ⟨_, rfl⟩
                    rw [hLL] at HR1 HBk
                    have HLt : Hid (cnt' < wr.rangeLeft w4.heap.size v16.heap.size) := Lib.hid (by rw [hle]; exact hlt)
                    have hb1 := (beyond m0 x1 x2).1
                    have hb2 := (beyond m0 x1 x2).2
                    have HO1 := Lib.hid fun W => one3_any x (loF m x) W
                    have HO2 := Lib.hid fun W => one3_any x (hiF m x) W
                    rw [hb1] at HO1
                    rw [hb2] at HO2
                    unfold iV at HO1 HO2
                    obtain ⟨LO, hLO⟩ : ∃ f, loF m x = f := ⟨_, rfl⟩
                    obtain ⟨HH, hHH⟩ : ∃ f, hiF m x = f := ⟨_, rfl⟩
                    rw [hLO] at HO1 HBk
                    rw [hHH] at HO2 HBk
                    clear hkey hlk hv hat hrg hlt hgr hsz hy hblk hle hLL hb1 hb2 hLO hHH HR x1 x2
                    go_wp2_with fail
                    clear hrun hen
                    go_loopw [183] (fun i wz => ∃ q : Nat, q ≤ 2 ∧ i = .int .i64 q ∧ Hid (MR w op w4.heap.size v16.heap.size m ps16 LL cnt' wz)) (fun i _ => 2 - (intOf i).toNat)
                    case atStart => exact ⟨0, by omega, rfl, HR1⟩
                    case round =>
                      clear HR1
                      obtain ⟨q, hq, rfl, HR1⟩ := hrel
                      rcases (show q = 0 ∨ q = 1 ∨ q = 2 by omega) with rfl | rfl | rfl
                      · have c0 := (HBk.out _ HR1).cell 0
                        clear hq
                        go_wp2_with fail
                        refine (HO1.out _).mono ?_
                        rintro e t1 ⟨rfl, b⟩
                        replace HR1 := MR.call HR1 b
                        clear b c0
                        go_wp2_with fail
                        go_roundw
                        case rel => first | exact ⟨1, by omega, by first | rfl | trivial, HR1⟩ | ((repeat apply Exists.intro); exact ⟨⟨1, by omega, by first | rfl | trivial, HR1⟩, rfl⟩)
                        case measure => simp [intOf]
                      · have c0 := (HBk.out _ HR1).cell 1
                        clear hq
                        go_wp2_with fail
                        refine (HO2.out _).mono ?_
                        rintro e t1 ⟨rfl, b⟩
                        replace HR1 := MR.call HR1 b
                        clear b c0
                        go_wp2_with fail
                        go_roundw
                        case rel => first | exact ⟨2, by omega, by first | rfl | trivial, HR1⟩ | ((repeat apply Exists.intro); exact ⟨⟨2, by omega, by first | rfl | trivial, HR1⟩, rfl⟩)
                        case measure => simp [intOf]
                      · clear hq
                        rw [show ((2 : Nat) : Int) = 2 from rfl]
                        go_wp2_with fail
                        go_roundw
                        case rel => first | exact ⟨_, _, HR1⟩ | ((repeat apply Exists.intro); exact ⟨⟨_, _, HR1⟩, rfl⟩)
                        case measure => rw [(MR.rg HR1).left_eq]; exact HLt.out
end Go.Proofs.YtmmehfkiceelkaaDoor

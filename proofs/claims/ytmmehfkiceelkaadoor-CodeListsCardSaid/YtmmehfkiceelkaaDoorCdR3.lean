/-
  LAYER 23: the reference: strings of instructions, and what is decoded.
-/
import Derived.Test.YtmmehfkiceelkaaDoorCdR2
namespace Go.Proofs.YtmmehfkiceelkaaDoor
open Go.ChangeShapes Go.WideShapes Go.ChangeAt Go.RowKit

/-- The reference's instruction's block. -/
def PC (w : World) (op a : Int) (W : World) : Prop := Below w.heap.size w W ∧ Blk W w.heap.size 29 #[.int .i64 op, .int .i64 a]
section
variable {w W W' : World} {op a : Int}
theorem PC.new : Hid (PC w op a (w.alloc (.cells #[.int .i64 op, .int .i64 a] 29))) := Lib.hid ⟨below_new (Below.refl _ _) _, Blk.new _ _ _⟩
theorem PC.drew (h : Hid (PC w op a W)) : Hid (PC w op a W.drew) := Lib.hid ⟨h.out.1.drew, h.out.2.drew⟩
theorem PC.call (h : Hid (PC w op a W)) (hb : Below W.heap.size W W') : Hid (PC w op a W') := Lib.hid ⟨below_call h.out.1 hb, h.out.2.call hb⟩
theorem PC.alloc (h : Hid (PC w op a W)) (o : Obj) : Hid (PC w op a (W.alloc o)) := Lib.hid ⟨below_new h.out.1 _, h.out.2.alloc _⟩
theorem PC.cells (h : Hid (PC w op a W)) : W.cell? ⟨w.heap.size, 0, none⟩ = some (.int .i64 op) ∧ W.cell? ⟨w.heap.size, 1, none⟩ = some (.int .i64 a) ∧ Hid (PC w op a W) := ⟨h.out.2.cell 0, h.out.2.cell 1, h⟩
theorem PC.other (h : Hid (PC w op a W)) {g : Nat} (hg : w.heap.size < g) (j : Nat) (x : Value) : Hid (PC w op a (W.setCell ⟨g, j, none⟩ x)) := Lib.hid ⟨h.out.1.setCell (Nat.le_of_lt hg) x, h.out.2.far (by show w.heap.size ≠ g; omega) x⟩
theorem PC.limb {p q r : Prop} (h : p ∧ q ∧ r) : r := h.2.2
end
theorem wd_of {op : Int} (h : Cd.known op) : wdOf op = Cd.word op.toNat := by unfold wdOf; rw [if_pos h]
theorem rinstr_size : (Tryd.prog.info? 29).map (·.size) = some 2 := by kernel_rfl
theorem results_rinstr {fn : Func} {p u : Tmp} (h : fn.results = #[.cell p 29, .tmp u]) (tmps : Array Value) (w : World) (g : Nat) (cs : Array Value) (fr : Nat × Nat)
    (hp : tmps.getD p undef = .pointer (some ⟨g, 0, none⟩)) (hg : w.heap[g]? = some (.cells cs 29 fr)) (hs : cs.size = 2) :
    (results fn tmps).run Tryd.prog w = .ok (.tuple #[.agg cs, tmps.getD u undef]) w := by
  rw [results_cell_tmp h, hp]
  have hl := run_loadVar_row (P := Tryd.prog) w g 29 29 cs fr _ hg Tryd.underlying29 rfl (by rw [rinstr_size, hs])
  simp [asAddr, Result.andThen, hl]

set_option maxRecDepth 100000 in
set_option maxHeartbeats 1000000 in
theorem rtext_any (op a : Int) (a0 : -9223372036854775808 ≤ a) (a1 : a ≤ 9223372036854775807) (w : World) :
    Calls Tryd.prog 12 #[iV op a] w fun e w' => e = .returned (.tuple #[.string ⟨(txS op a).toArray⟩, .int .i64 (txE op a)]) ∧ Below w.heap.size w w' := by
  have HP := PC.new (w := w) (op := op) (a := a)
  have HW := Lib.hid fun W => rword_any op W
  unfold iV
  by_cases hk : Cd.known op
  · have hw := wd_ne hk
    rw [wd_of hk] at HW hw
    have HO := Lib.hid fun W => roperand_any op hk W
    rcases hb : Cd.bare op.toNat with _ | _
    · have e1 : txS op a = Cd.word op.toNat ++ 32 :: Lib.itoa a := by unfold txS; rw [text_f a hk hb]; rfl
      have e2 : txE op a = 0 := by unfold txE; rw [text_f a hk hb]; rfl
      rw [e1, e2]
      rw [hb] at HO
      have hl := word_len op.toNat
      have hl2 := Dec.itoa_length a0 a1
      have HN := Lib.hid fun W => rnumber_any a a0 a1 W
      obtain ⟨WD, hWD⟩ : ∃ R, Cd.word op.toNat = R := ⟨_, rfl⟩
      rw [hWD] at hl hw HW ⊢
      have hw2 : WD.isEmpty = false := by simpa using hw
      clear e1 e2 hk hb hWD a0 a1
      have k1 : ¬ 9223372036854775807 < WD.length + 1 := by omega
      have k2 : ¬ 9223372036854775807 < WD.length + 1 + (Lib.itoa a).length := by omega
      clear hl hl2
      go_enter Tryd.func12, Tryd.ntmps12
      go_wp2_with fail
      refine (HW.out _).mono ?_
      rintro e w2 ⟨rfl, hb⟩
      replace HP := PC.call HP hb
      clear hb
      have c0 := HP.out.2.cell 0
      have c1 := HP.out.2.cell 1
      go_wp2_with fail
      refine (HO.out _).mono ?_
      rintro e w3 ⟨rfl, rfl⟩
      go_wp2_with fail
      refine (HO.out _).mono ?_
      rintro e w3 ⟨rfl, rfl⟩
      go_upto_region 5 with fail
      clear c0 c1
      refine wp_region_held_drew (S := fun W => W.cell? ⟨w.heap.size, 0, none⟩ = some (.int .i64 op) ∧ W.cell? ⟨w.heap.size, 1, none⟩ = some (.int .i64 a) ∧ Hid (PC w op a W)) (by kernel_rfl) ?_ (fun hHeld0 => ?_)
      · exact PC.cells (PC.drew HP)
      refine wpAnyH_take (i := 0) (oi := ⟨some 26, _, _, _, _, _⟩) (v := ?_) rfl (by kernel_rfl) (by kernel_rfl) (by kernel_rfl) (fun _ _ _ h => h) (Or.inl ⟨rfl, ?_⟩) (by assumption) ?_
      rotate_left
      · (intro w hSw; (try dsimp only at hSw); go_simp; (try with_reducible rfl))
      (try simp only [Act.put, List.setIfInBounds_toArray, List.set_cons_zero, List.set_cons_succ])
      refine wpAnyH_take (i := 1) (oi := ⟨some 27, _, _, _, _, _⟩) (v := ?_) rfl (by kernel_rfl) (by kernel_rfl) (by kernel_rfl) (fun _ _ _ h => h) (Or.inl ⟨rfl, ?_⟩) (by assumption) ?_
      rotate_left
      · (intro w hSw; (try dsimp only at hSw); go_simp; (try with_reducible rfl))
      (try simp only [Act.put, List.setIfInBounds_toArray, List.set_cons_zero, List.set_cons_succ])
      refine wpAnyH_take (i := 4) (oi := ⟨some 30, _, _, _, _, _⟩) (v := ?_) rfl (by kernel_rfl) (by kernel_rfl) (by kernel_rfl) (fun _ _ _ h => h) (Or.inl ⟨rfl, ?_⟩) (by assumption) ?_
      rotate_left
      · (intro w hSw; (try dsimp only at hSw); go_simp; (try with_reducible rfl))
      (try simp only [Act.put, List.setIfInBounds_toArray, List.set_cons_zero, List.set_cons_succ])
      refine wpAnyH_take (i := 5) (oi := ⟨some 31, _, _, _, _, _⟩) (v := ?_) rfl (by kernel_rfl) (by kernel_rfl) (by kernel_rfl) (fun _ _ _ h => h) (Or.inl ⟨rfl, ?_⟩) (by assumption) ?_
      rotate_left
      · (intro w hSw; (try dsimp only at hSw); go_simp; (try with_reducible rfl))
      (try simp only [Act.put, List.setIfInBounds_toArray, List.set_cons_zero, List.set_cons_succ])
      refine wpAnyH_ready (rs := [2]) (by kernel_rfl) (by simp) ?_
      refine AllReadyH.cons (o := ⟨some 28, _, _, _, _, _⟩) rfl (fun K hK => ?_) AllReadyH.nil
      have hCur := PC.limb hHeld0
      go_simp
      refine (HW.out _).mono ?_
      rintro e w' ⟨rfl, hb⟩
      have hNew := PC.call hCur hb
      clear hb hCur
      go_wp2_with fail
      refine hK.out _ _ ?_ (fun hHeld1 => ?_)
      · exact PC.cells hNew
      clear hK K hHeld0
      (try simp only [Act.put, List.setIfInBounds_toArray, List.set_cons_zero, List.set_cons_succ])
      refine wpAnyH_take (i := 3) (oi := ⟨some 29, _, _, _, _, _⟩) (v := ?_) rfl (by kernel_rfl) (by kernel_rfl) (by kernel_rfl) (fun _ _ _ h => h) (Or.inl ⟨rfl, ?_⟩) (by assumption) ?_
      rotate_left
      · (intro w hSw; (try dsimp only at hSw); go_simp; (try with_reducible rfl))
      (try simp only [Act.put, List.setIfInBounds_toArray, List.set_cons_zero, List.set_cons_succ])
      refine wpAnyH_ready (rs := [6]) (by kernel_rfl) (by simp) ?_
      refine AllReadyH.cons (o := ⟨some 32, _, _, _, _, _⟩) rfl (fun K hK => ?_) AllReadyH.nil
      have hCur := PC.limb hHeld1
      go_simp
      refine (HN.out _).mono ?_
      rintro e w' ⟨rfl, rfl⟩
      go_wp2_with fail
      refine hK.out _ _ ?_ (fun hHeld2 => ?_)
      · exact PC.cells hCur
      clear hK K hHeld1
      (try simp only [Act.put, List.setIfInBounds_toArray, List.set_cons_zero, List.set_cons_succ])
      refine wpAnyH_take (i := 7) (oi := ⟨some 33, _, _, _, _, _⟩) (v := ?_) rfl (by kernel_rfl) (by kernel_rfl) (by kernel_rfl) (fun _ _ _ h => h) (Or.inl ⟨rfl, ?_⟩) (by assumption) ?_
      rotate_left
      · (intro w hSw; (try dsimp only at hSw); go_simp; (try with_reducible rfl))
      (try simp only [Act.put, List.setIfInBounds_toArray, List.set_cons_zero, List.set_cons_succ])
      refine wpAnyH_take (i := 8) (oi := ⟨some 2, _, _, _, _, _⟩) (v := ?_) rfl (by kernel_rfl) (by kernel_rfl) (by kernel_rfl) (fun _ _ _ h => h) (Or.inl ⟨rfl, ?_⟩) (by assumption) ?_
      rotate_left
      · (intro w hSw; (try dsimp only at hSw); go_simp; (try with_reducible rfl))
      (try simp only [Act.put, List.setIfInBounds_toArray, List.set_cons_zero, List.set_cons_succ])
      refine wpAnyH_take (i := 9) (oi := ⟨some 3, _, _, _, _, _⟩) (v := ?_) rfl (by kernel_rfl) (by kernel_rfl) (by kernel_rfl) (fun _ _ _ h => h) (Or.inl ⟨rfl, ?_⟩) (by assumption) ?_
      rotate_left
      · (intro w hSw; (try dsimp only at hSw); go_simp; (try with_reducible rfl))
      (try simp only [Act.put, List.setIfInBounds_toArray, List.set_cons_zero, List.set_cons_succ])
      refine wpAnyH_done (by kernel_rfl) ?_ _
      have HQ := PC.limb hHeld2
      go_wp2_with fail
      go_ret2
      exact ⟨ret_str_int (by rw [show (⟨#[32]⟩ : ByteArray) = ⟨[32].toArray⟩ from rfl, ByteArray.mk_append_mk, ByteArray.mk_append_mk, mk_inj]; simp) rfl, HQ.out.1⟩
    · rw [hb] at HO
      by_cases ha : a = 0
      · have e1 : txS op a = Cd.word op.toNat := by unfold txS; rw [ha, text_0 hk hb]; rfl
        have e2 : txE op a = 0 := by unfold txE; rw [ha, text_0 hk hb]; rfl
        rw [e1, e2]
        subst ha
        obtain ⟨WD, hWD⟩ : ∃ R, Cd.word op.toNat = R := ⟨_, rfl⟩
        rw [hWD] at hw HW ⊢
        have hw2 : WD.isEmpty = false := by simpa using hw
        clear e1 e2 hk hb hWD a0 a1
        go_enter Tryd.func12, Tryd.ntmps12
        go_wp2_with fail
        refine (HW.out _).mono ?_
        rintro e w2 ⟨rfl, hb⟩
        replace HP := PC.call HP hb
        clear hb
        have c0 := HP.out.2.cell 0
        have c1 := HP.out.2.cell 1
        go_wp2_with fail
        refine (HO.out _).mono ?_
        rintro e w3 ⟨rfl, rfl⟩
        go_wp2_with fail
        refine (HO.out _).mono ?_
        rintro e w3 ⟨rfl, rfl⟩
        go_wp2_with fail
        refine (HW.out _).mono ?_
        rintro e w3 ⟨rfl, hb⟩
        replace HP := PC.call HP hb
        clear hb
        go_wp2_with fail
        go_ret2
        exact ⟨rfl, HP.out.1⟩
      · have e1 : txS op a = [] := by unfold txS; rw [text_1 hb ha]; rfl
        have e2 : txE op a = 2 := by unfold txE; rw [text_1 hb ha]; rfl
        rw [e1, e2]
        have ha2 : (a == 0) = false := by simpa using ha
        obtain ⟨WD, hWD⟩ : ∃ R, Cd.word op.toNat = R := ⟨_, rfl⟩
        rw [hWD] at hw HW
        have hw2 : WD.isEmpty = false := by simpa using hw
        clear e1 e2 hk hb hWD a0 a1
        go_enter Tryd.func12, Tryd.ntmps12
        go_wp2_with fail
        refine (HW.out _).mono ?_
        rintro e w2 ⟨rfl, hb⟩
        replace HP := PC.call HP hb
        clear hb
        have c0 := HP.out.2.cell 0
        have c1 := HP.out.2.cell 1
        go_wp2_with fail
        refine (HO.out _).mono ?_
        rintro e w3 ⟨rfl, rfl⟩
        go_wp2_with fail
        go_ret2
        exact ⟨rfl, HP.out.1⟩
  · have e1 : txS op a = [] := by unfold txS; rw [text_n a hk]; rfl
    have e2 : txE op a = 2 := by unfold txE; rw [text_n a hk]; rfl
    have e3 : wdOf op = [] := by unfold wdOf; rw [if_neg hk]
    rw [e1, e2]
    rw [e3] at HW
    clear e1 e2 e3 hk a0 a1
    go_enter Tryd.func12, Tryd.ntmps12
    go_wp2_with fail
    refine (HW.out _).mono ?_
    rintro e w2 ⟨rfl, hb⟩
    replace HP := PC.call HP hb
    clear hb
    go_wp2_with fail
    go_ret2
    exact ⟨rfl, HP.out.1⟩

set_option maxRecDepth 100000 in
set_option maxHeartbeats 2000000 in
theorem rparse_any (s : List UInt8) (hs : s.length ≤ 1000000) (w : World) :
    Calls Tryd.prog 14 #[.string ⟨s.toArray⟩] w fun e w' => e = .returned (.tuple #[iV (prO s) (prA s), .int .i64 (prE s)]) ∧ Below w.heap.size w w' := by
  obtain ⟨RO, hRO⟩ : ∃ c, prO s = c := ⟨_, rfl⟩
  obtain ⟨RA, hRA⟩ : ∃ c, prA s = c := ⟨_, rfl⟩
  obtain ⟨RE, hRE⟩ : ∃ c, prE s = c := ⟨_, rfl⟩
  rw [hRO, hRA, hRE]
  have HR := Lib.hid (And.intro hRO (And.intro hRA hRE))
  clear hRO hRA hRE
  have HP := PC.new (w := w) (op := 0) (a := 0)
  go_enter Tryd.func14, Tryd.ntmps14
  go_wp2_with fail
  go_loopw [4] (fun i wr => ∃ k : Nat, 1 ≤ k ∧ k ≤ 18 ∧ i = .int .i64 k ∧ Hid (PC w 0 0 wr) ∧ Hid (∀ j : Nat, 1 ≤ j → j < k → Cd.text (j : Int) (Cd.tryA j s) ≠ some s)) (fun i _ => 18 - (intOf i).toNat)
  case atStart => exact ⟨1, by omega, by omega, rfl, HP, Lib.hid (fun j h1 h2 => by omega)⟩
  case round =>
    clear HP
    obtain ⟨k, hk1, hk2, rfl, HP, HT⟩ := hrel
    by_cases hlt : k < 18
    · have hlt2 : (k : Int) ≤ 17 := by omega
      have hkn : Cd.known (k : Int) := ⟨by omega, by omega⟩
      have hw := rword_any (k : Int)
      rw [wd_of hkn, Int.toNat_natCast] at hw
      have HW := Lib.hid hw
      obtain ⟨a0, a1⟩ := Cd.okA_try k s
      obtain ⟨AA, hAA⟩ : ∃ c, Cd.tryA k s = c := ⟨_, rfl⟩
      rw [hAA] at a0 a1
      have HX := Lib.hid fun W => rtext_any (k : Int) AA a0 a1 W
      unfold iV at HX
      have hl := word_len k
      obtain ⟨WD, hWD⟩ : ∃ R, Cd.word k = R := ⟨_, rfl⟩
      rw [hWD] at HW hl
      have HAA := Lib.hid hAA
      have HWD := Lib.hid hWD
      clear hw hAA hWD a0 a1
      have HE : Hid ((Cd.text (k : Int) AA = some s ∧ txS (k : Int) AA = s ∧ txE (k : Int) AA = 0 ∧ RO = (k : Int) ∧ RA = AA ∧ RE = 0) ∨ ((Cd.text (k : Int) AA ≠ some s) ∧ (txE (k : Int) AA = 2 ∨ (txE (k : Int) AA = 0 ∧ (txS (k : Int) AA == s) = false)))) := Lib.hid (by
        rcases ht : Cd.text (k : Int) AA with _ | t
        · exact .inr ⟨by simp, .inl (by unfold txE; rw [ht]; rfl)⟩
        · by_cases hts : t = s
          · subst hts
            have hh := Cd.try_hit (k := k) (s := t) (by rw [HAA.out]; exact ht)
            rw [HAA.out] at hh
            refine .inl ⟨rfl, by unfold txS; rw [ht]; rfl, by unfold txE; rw [ht]; rfl, ?_, ?_, ?_⟩
            · rw [← HR.out.1]; unfold prO; rw [hh]; rfl
            · rw [← HR.out.2.1]; unfold prA; rw [hh]; rfl
            · rw [← HR.out.2.2]; unfold prE; rw [hh]; rfl
          · exact .inr ⟨by simpa using hts, .inr ⟨by unfold txE; rw [ht]; rfl, by unfold txS; rw [ht]; simpa using hts⟩⟩)
      obtain ⟨TS, hTS⟩ : ∃ c, txS (k : Int) AA = c := ⟨_, rfl⟩
      obtain ⟨TE, hTE⟩ : ∃ c, txE (k : Int) AA = c := ⟨_, rfl⟩
      rw [hTS, hTE] at HX HE
      clear hTS hTE hkn
      go_wp2_with fail
      refine (HW.out _).mono ?_
      rintro e w2 ⟨rfl, hb⟩
      replace HP := PC.call HP hb
      clear hb
      have HI := PC.new (w := w2) (op := (k : Int)) (a := 0)
      have HGw : Hid (w.heap.size < w2.heap.size) := Lib.hid HP.out.2.lt
      have HP0 := HP
      replace HP := PC.alloc HP (.cells #[.int .i64 k, .int .i64 0] 29)
      by_cases hlen : WD.length < s.length
      · have HV := Lib.hid fun W => rvalue_any (s.drop WD.length) (by rw [List.length_drop]; omega) W
        have hv : Cd.valV (s.drop WD.length) = AA := by
          have := HAA.out
          unfold Cd.tryA at this
          rw [HWD.out, if_pos hlen] at this
          exact this
        have hx2 : (⟨s.toArray⟩ : ByteArray).extract WD.length s.length = ⟨(s.drop WD.length).toArray⟩ := by rw [mk_extract, List.take_of_length_le (by rw [List.length_drop]; omega)]
        rw [hv] at HV
        obtain ⟨SD, hSD⟩ : ∃ c, s.drop WD.length = c := ⟨_, rfl⟩
        rw [hSD] at HV hx2
        have hlen2 : (WD.length : Int) ≤ (s.length : Int) := by omega
        clear hv hSD
        have f0 := HI.out.2.frozen 0
        have f1 := HI.out.2.frozen 1
        have d0 := HI.out.2.cell 0
        have d1 := HI.out.2.cell 1
        go_wp2_with fail
        refine (HV.out _).mono ?_
        rintro e w3 ⟨rfl, rfl⟩
        go_wp2_with fail
        have HB3 := PC.alloc HP0 (.cells #[.int .i64 k, .int .i64 AA] 29)
        have HK3 := Lib.hid (Blk.new w2 29 #[.int .i64 k, .int .i64 AA])
        clear HP HP0 HI d0 d1 f0 f1 hx2 hlen2
        refine (HX.out _).mono ?_
        rintro e w5 ⟨rfl, hb⟩
        replace HB3 := PC.call HB3 hb
        replace HK3 := Lib.hid (HK3.out.call hb)
        clear hb
        have d0 := HK3.out.cell 0
        have d1 := HK3.out.cell 1
        have r0 := HB3.out.2.cell 0
        have r1 := HB3.out.2.cell 1
        have fr0 := HB3.out.2.frozen 0
        have fr1 := HB3.out.2.frozen 1
        rcases HE.out with ⟨h1, h2, h3, h4, h5, h6⟩ | ⟨h1, h2 | ⟨h2, h3⟩⟩
        · subst h2
          rw [h3]
          have HF : Hid (RO = (k : Int) ∧ RA = AA ∧ RE = 0) := Lib.hid ⟨h4, h5, h6⟩
          clear HE HX h1 h3 h4 h5 h6 HT HR
          go_wp2_with fail
          refine bodyPost_ret (results_rinstr rfl _ _ w.heap.size _ _ rfl HB3.out.2.put2 rfl) rfl ?_
          exact ⟨by rw [HF.out.1, HF.out.2.1, HF.out.2.2]; rfl, below_put2 HB3.out.1 (Nat.le_refl _)⟩
        · rw [h2]
          have HT2 : Hid (∀ j : Nat, 1 ≤ j → j < k + 1 → Cd.text (j : Int) (Cd.tryA j s) ≠ some s) := Lib.hid (fun j h h' => by
            by_cases hjk : j = k
            · rw [hjk, HAA.out]; exact h1
            · exact HT.out j h (by omega))
          clear HE HX h1 h2 HT d0 d1 r0 r1 fr0 fr1
          go_wp2_with fail
          go_roundw
          case rel => exact ⟨k + 1, by omega, by omega, by go_num, HB3, HT2⟩
          case measure => simp [intOf]; omega
        · rw [h2]
          have HT2 : Hid (∀ j : Nat, 1 ≤ j → j < k + 1 → Cd.text (j : Int) (Cd.tryA j s) ≠ some s) := Lib.hid (fun j h h' => by
            by_cases hjk : j = k
            · rw [hjk, HAA.out]; exact h1
            · exact HT.out j h (by omega))
          clear HE HX h1 h2 HT d0 d1 r0 r1 fr0 fr1
          go_wp2_with fail
          go_roundw
          case rel => exact ⟨k + 1, by omega, by omega, by go_num, HB3, HT2⟩
          case measure => simp [intOf]; omega
      · have hv : AA = 0 := by
          have := HAA.out
          unfold Cd.tryA at this
          rw [HWD.out, if_neg hlen] at this
          exact this.symm
        subst hv
        have HK3 := Lib.hid HI.out.2
        have HB3 := HP
        have hlen3 : ¬ (WD.length : Int) < (s.length : Int) := by omega
        have d0 := HI.out.2.cell 0
        have d1 := HI.out.2.cell 1
        clear HP HP0 HI
        go_wp2_with fail
        clear d0 d1
        refine (HX.out _).mono ?_
        rintro e w5 ⟨rfl, hb⟩
        replace HB3 := PC.call HB3 hb
        replace HK3 := Lib.hid (HK3.out.call hb)
        clear hb
        have d0 := HK3.out.cell 0
        have d1 := HK3.out.cell 1
        have r0 := HB3.out.2.cell 0
        have r1 := HB3.out.2.cell 1
        have fr0 := HB3.out.2.frozen 0
        have fr1 := HB3.out.2.frozen 1
        rcases HE.out with ⟨h1, h2, h3, h4, h5, h6⟩ | ⟨h1, h2 | ⟨h2, h3⟩⟩
        · subst h2
          rw [h3]
          have HF : Hid (RO = (k : Int) ∧ RA = 0 ∧ RE = 0) := Lib.hid ⟨h4, h5, h6⟩
          clear HE HX h1 h3 h4 h5 h6 HT HR
          go_wp2_with fail
          refine bodyPost_ret (results_rinstr rfl _ _ w.heap.size _ _ rfl HB3.out.2.put2 rfl) rfl ?_
          exact ⟨by rw [HF.out.1, HF.out.2.1, HF.out.2.2]; rfl, below_put2 HB3.out.1 (Nat.le_refl _)⟩
        · rw [h2]
          have HT2 : Hid (∀ j : Nat, 1 ≤ j → j < k + 1 → Cd.text (j : Int) (Cd.tryA j s) ≠ some s) := Lib.hid (fun j h h' => by
            by_cases hjk : j = k
            · rw [hjk, HAA.out]; exact h1
            · exact HT.out j h (by omega))
          clear HE HX h1 h2 HT d0 d1 r0 r1 fr0 fr1
          go_wp2_with fail
          go_roundw
          case rel => exact ⟨k + 1, by omega, by omega, by go_num, HB3, HT2⟩
          case measure => simp [intOf]; omega
        · rw [h2]
          have HT2 : Hid (∀ j : Nat, 1 ≤ j → j < k + 1 → Cd.text (j : Int) (Cd.tryA j s) ≠ some s) := Lib.hid (fun j h h' => by
            by_cases hjk : j = k
            · rw [hjk, HAA.out]; exact h1
            · exact HT.out j h (by omega))
          clear HE HX h1 h2 HT d0 d1 r0 r1 fr0 fr1
          go_wp2_with fail
          go_roundw
          case rel => exact ⟨k + 1, by omega, by omega, by go_num, HB3, HT2⟩
          case measure => simp [intOf]; omega
    · obtain rfl : k = 18 := by omega
      have hn : Cd.pread s = none := Cd.try_all (fun j h1 h2 => HT.out j h1 h2)
      have HF : Hid (0 = RO ∧ 0 = RA ∧ 7 = RE) := Lib.hid (by
        obtain ⟨e1, e2, e3⟩ := HR.out
        rw [← e1, ← e2, ← e3]
        unfold prO prA prE
        rw [hn]
        exact ⟨rfl, rfl, rfl⟩)
      clear hn
      have r0 := HP.out.2.cell 0
      have r1 := HP.out.2.cell 1
      have fr0 := HP.out.2.frozen 0
      have fr1 := HP.out.2.frozen 1
      go_wp2_with fail
      refine bodyPost_ret (results_rinstr rfl _ _ w.heap.size _ _ rfl HP.out.2.put2 rfl) rfl ?_
      exact ⟨by rw [← HF.out.1, ← HF.out.2.1, ← HF.out.2.2]; rfl, below_put2 HP.out.1 (Nat.le_refl _)⟩
end Go.Proofs.YtmmehfkiceelkaaDoor

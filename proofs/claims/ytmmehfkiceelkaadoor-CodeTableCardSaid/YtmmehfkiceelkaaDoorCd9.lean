/-
  LAYER 23: where an instruction goes on.
-/
import Derived.Test.YtmmehfkiceelkaaDoorCd8
namespace Go.Proofs.YtmmehfkiceelkaaDoor
open Go.ChangeShapes Go.WideShapes Go.ChangeAt Go.RowKit Go.Shelf

theorem find_row {op : Int} (h : Cd.known op) (w : World) :
    Calls Tryd.prog 31 #[.int .i64 op] w fun e w' => ∃ FV, (FV = .nilFunc ∨ ∃ F bs, FV = .func (.func F) #[] bs) ∧ e = .returned (.tuple #[.agg #[.string ⟨(Cd.word op.toNat).toArray⟩, FV, .int .i64 (Cd.pops op.toNat), .int .i64 (Cd.push op.toNat), .bool (jmp op.toNat)], .bool true]) ∧ Below w.heap.size w w' := by
  rcases hb : Cd.bare op.toNat with _ | _
  · refine (find_func h hb w).mono ?_
    rintro e w' ⟨F, bs, h⟩
    exact ⟨_, .inr ⟨F, bs, rfl⟩, h⟩
  · refine (find_bare h hb w).mono ?_
    rintro e w' h
    exact ⟨_, .inl rfl, h⟩
theorem jmp_jumps {op : Int} (h : Cd.known op) : jmp op.toNat = Cd.jumps op := by
  obtain ⟨h1, h2⟩ := h
  have key : ∀ k : Fin 18, jmp k.val = Cd.jumps (k.val : Int) := by decide
  have := key ⟨op.toNat, by omega⟩
  simp only at this
  rw [this, show ((op.toNat : Nat) : Int) = op by omega]
theorem info_int' : (Tryd.prog.info? 3).map (fun i => (i.zero, i.size, i.bytes)) = some (some (.int .i64 0), 1, 8) := by kernel_rfl
theorem info_int : ∃ i, Tryd.prog.info? 3 = some i ∧ i.zero = some (.int .i64 0) ∧ i.size = 1 ∧ i.bytes = 8 := by
  have h := info_int'
  cases hi : Tryd.prog.info? 3 with
  | none => rw [hi] at h; cases h
  | some i =>
    rw [hi] at h
    have := Option.some.inj h
    simp only [Prod.mk.injEq] at this
    exact ⟨i, rfl, this.1, this.2.1, this.2.2⟩
/-- What a call answers, that leaves a list and a word of error. -/
def TQ (w : World) (l : List Int) (er : Int) (e : Ending) (w' : World) : Prop := ∃ A cap, e = .returned (.tuple #[.slice A l.length cap, .int .i64 er]) ∧ l.length ≤ cap ∧ (l = [] → A = none ∧ cap = 0) ∧ Rd w' w'.heap.size A (intsV l) ∧ Below w.heap.size w w'
theorem TQ.non {w w' : World} {er : Int} (hB : Below w.heap.size w w') : TQ w [] er (.returned (.tuple #[.slice none 0 0, .int .i64 er])) w' := ⟨Option.none, 0, rfl, Nat.le_refl _, fun _ => ⟨rfl, rfl⟩, Rd.nil _ _ _, hB⟩
theorem news_int (w : World) (x : Int) : ∀ (j : Nat) (u : Value), [Value.int .i64 x][j]? = some u → (w.alloc (.cells #[.int .i64 x] 3)).cell? ((⟨w.heap.size, 0, none⟩ : Addr).add j) = some u := news_all w 3 [.int .i64 x]

set_option maxRecDepth 100000 in
set_option maxHeartbeats 4000000 in
theorem targets_any (op a at_ : Int) (w : World) :
    Calls Tryd.prog 17 #[iV op a, .int .i64 at_] w (TQ w (Cd.tgtL op a at_) (Cd.tgtE op a at_)) := by
  obtain ⟨iv, hi, hz0, hz1, hz2⟩ := info_int
  unfold iV
  have hb0 := Blk.new w 23 #[.int .i64 op, .int .i64 a]
  have hB0 := below_new (Below.refl w.heap.size w) (.cells #[.int .i64 op, .int .i64 a] 23)
  have HB0 := Lib.hid hb0
  have HB1 := Lib.hid hB0
  clear hb0 hB0
  by_cases hk : Cd.known op
  · have HF := Lib.hid fun W => find_row hk W
    rw [jmp_jumps hk] at HF
    have hW : Hid (∃ R, Cd.word op.toNat = R) := Lib.hid ⟨_, rfl⟩
    obtain ⟨WD, hWD⟩ := hW.out
    obtain ⟨PO, hPO⟩ : ∃ R, Cd.pops op.toNat = R := ⟨_, rfl⟩
    obtain ⟨PU, hPU⟩ : ∃ R, Cd.push op.toNat = R := ⟨_, rfl⟩
    rw [hWD, hPO, hPU] at HF
    clear hW hWD hPO hPU
    by_cases hat : 0 ≤ at_ ∧ at_ ≤ 1000000
    · have HA : Hid (∀ W, Calls Tryd.prog 42 #[.int .i64 at_, .int .i64 1000001] W fun e w' => e = .returned (.bool true) ∧ W = w') := Lib.hid fun W => by
        have := below_any at_ 1000001 W
        rw [show bel at_ 1000001 = true from decide_eq_true (by omega)] at this
        exact this
      have hrat : Cd.inR at_ = true := decide_eq_true hat
      have j4 : at_ + 1 ≤ 9223372036854775807 := by omega
      have j5 : -9223372036854775808 ≤ at_ + 1 := by omega
      rcases hJ : Cd.jumps op with _ | _
      · have h6 : op ≠ 6 := by rintro rfl; cases hJ
        have h7 : op ≠ 7 := by rintro rfl; cases hJ
        have e2 : Cd.tgtE op a at_ = 0 := by unfold Cd.tgtE; rw [if_pos hk, if_pos ⟨hrat, by rw [hJ]; intro h; cases h⟩]
        rw [hJ] at HF
        have b6 : (op == 6) = false := by simpa using h6
        by_cases h16 : op = 16
        · have e1 : Cd.tgtL op a at_ = [] := by unfold Cd.tgtL; rw [if_pos ⟨hk, hrat, by rw [hJ]; intro h; cases h⟩, if_pos h16]
          rw [e1, e2]
          clear e1 e2 hJ hrat h6 h7 hk hat b6
          subst h16
          go_enter Tryd.func17, Tryd.ntmps17
          go_wp2_with fail
          refine (HF.out _).mono ?_
          rintro e w2 ⟨FV, hFV, rfl, hb⟩
          have HB4 := Lib.hid (below_new (below_call HB1.out hb) (.cells #[.string ⟨WD.toArray⟩, FV, .int .i64 PO, .int .i64 PU, .bool false] 67))
          have HI4 := Lib.hid ((HB0.out.call hb).alloc (.cells #[.string ⟨WD.toArray⟩, FV, .int .i64 PO, .int .i64 PU, .bool false] 67))
          have HR4 := Lib.hid (Blk.new w2 67 #[.string ⟨WD.toArray⟩, FV, .int .i64 PO, .int .i64 PU, .bool false])
          obtain ⟨W3, hW3⟩ : ∃ V, w2.alloc (.cells #[.string ⟨WD.toArray⟩, FV, .int .i64 PO, .int .i64 PU, .bool false] 67) = V := ⟨_, rfl⟩
          rw [hW3] at HB4 HI4 HR4
          have HW3 := Lib.hid hW3
          have i0 := HI4.out.cell 0
          have i1 := HI4.out.cell 1
          have c4 := HR4.out.cell 4
          clear hb HF hW3 HB0 HB1 HR4
          rcases hFV with rfl | ⟨F, bs, rfl⟩
          all_goals
            go_wp2_with fail
            rw [HW3.out]
            clear HW3
            refine (HA.out _).mono ?_
            rintro e w3 ⟨rfl, rfl⟩
            go_wp2_with fail
            refine (sort_own [] (by decide) (.slice none 0 0) W3.heap.size W3 (World.ownsRow_nil _ _ _ _) (fun _ => rfl)).mono ?_
            rintro e w5 ⟨rfl, HC⟩
            have HCC := Lib.hid HC
            clear HC
            go_wp2_with fail
            refine HCC.out.mono ?_
            rintro e w6 ⟨A, cap, rfl, hcap, hnil, hRd, hBl⟩
            obtain ⟨rfl, rfl⟩ := hnil (by simp)
            rw [fin_nil]
            have HB9 := Lib.hid (hBl w w.heap.size HB4.out.size HB4.out.size HB4.out)
            clear hcap hnil hRd hBl HCC
            go_wp2_with fail
            go_ret2
            exact TQ.non HB9.out
        · have e1 : Cd.tgtL op a at_ = fin [at_ + 1] := by rw [fin_one]; unfold Cd.tgtL; rw [if_pos ⟨hk, hrat, by rw [hJ]; intro h; cases h⟩, if_neg h16, if_neg h6, if_neg h7]
          rw [e1, e2]
          have b16 : (op == 16) = false := by simpa using h16
          have n6 : (op != 6) = true := by simpa using h6
          have n16 : (op != 16) = true := by simpa using h16
          have h6' : ¬ op = 6 := h6
          clear e1 e2 hJ hrat h6 h7 hk hat
          go_enter Tryd.func17, Tryd.ntmps17
          go_wp2_with fail
          refine (HF.out _).mono ?_
          rintro e w2 ⟨FV, hFV, rfl, hb⟩
          have HB4 := Lib.hid (below_new (below_call HB1.out hb) (.cells #[.string ⟨WD.toArray⟩, FV, .int .i64 PO, .int .i64 PU, .bool false] 67))
          have HI4 := Lib.hid ((HB0.out.call hb).alloc (.cells #[.string ⟨WD.toArray⟩, FV, .int .i64 PO, .int .i64 PU, .bool false] 67))
          have HR4 := Lib.hid (Blk.new w2 67 #[.string ⟨WD.toArray⟩, FV, .int .i64 PO, .int .i64 PU, .bool false])
          obtain ⟨W3, hW3⟩ : ∃ V, w2.alloc (.cells #[.string ⟨WD.toArray⟩, FV, .int .i64 PO, .int .i64 PU, .bool false] 67) = V := ⟨_, rfl⟩
          rw [hW3] at HB4 HI4 HR4
          have HW3 := Lib.hid hW3
          have i0 := HI4.out.cell 0
          have i1 := HI4.out.cell 1
          have c4 := HR4.out.cell 4
          clear hb HF hW3 HB0 HB1 HR4
          rcases hFV with rfl | ⟨F, bs, rfl⟩
          all_goals
            go_wp2_with fail
            rw [HW3.out]
            clear HW3
            refine (HA.out _).mono ?_
            rintro e w3 ⟨rfl, rfl⟩
            have hown := (World.ownsRow_nil W3 W3.heap.size 3 1).alloc (.cells #[.int .i64 (at_ + 1)] 3)
            go_wp2_with (at_builtin; refine wpList_append_own _ rfl _ _ 38 rfl W3.heap.size 3 iv (.int .i64 0) 1 8 Tryd.underlying38 hi hz0 hz1 hz2 rfl (by decide) _ _ _ rfl hown ⟨W3.heap.size, 0, none⟩ 1 1 [.int .i64 (at_ + 1)] rfl rfl ?c1 ?c2 ?c3 ?c4 ?c5 ?_)
            case c1 => exact news_int W3 (at_ + 1)
            case c2 => intro u hu; simp at hu; subst hu; rfl
            case c3 => decide
            case c4 => decide
            case c5 => simp
            intro v5 w5 hown5 hg5 hnil5
            have HO5 : Hid (w5.ownsRow W3.heap.size 3 1 v5 [at_ + 1].length (intsV [at_ + 1])) := Lib.hid hown5
            have HN5 : Hid (v5 ≠ .slice none 0 0) := Lib.hid (by first | exact hnil5 | exact fun e => by have := (hnil5.1 e).2; cases this)
            have HB5 := Lib.hid ((below_new HB4.out (.cells #[.int .i64 (at_ + 1)] 3)).grown hg5 (by have := HB4.out.size; simp at this ⊢; omega) (fun g hg => by cases hg))
            have HI5 := Lib.hid ((HI4.out.alloc (.cells #[.int .i64 (at_ + 1)] 3)).grown hg5 (fun e => by cases e))
            have HS5 : Hid (W3.heap.size ≤ w5.heap.size) := Lib.hid (by have := hg5.size; simp at this; omega)
            have HWS := Lib.hid HB4.out.size
            clear hown hown5 hg5 hnil5 HB4 HI4 i0 i1 c4
            have i0 := HI5.out.cell 0
            have i1 := HI5.out.cell 1
            go_wp2_with fail
            refine (sort_own [at_ + 1] (by simp) v5 W3.heap.size w5 HO5.out (fun e => by cases e)).mono ?_
            rintro e w8 ⟨rfl, HC⟩
            have HCC := Lib.hid HC
            clear HC
            go_wp2_with fail
            refine HCC.out.mono ?_
            rintro e w9 ⟨A, cap, rfl, hcap, hnil, hRd, hBl⟩
            have HB9 := Lib.hid (hBl w w.heap.size HWS.out (Nat.le_trans HWS.out HS5.out) HB5.out)
            have HR9 := Lib.hid hRd
            have HC9 := Lib.hid hcap
            clear hcap hnil hRd hBl HCC
            go_wp2_with fail
            go_ret2
            exact ⟨A, cap, rfl, HC9.out, fun e => absurd e (by rw [fin_one]; simp), HR9.out, HB9.out⟩
      · by_cases ha : 0 ≤ a ∧ a ≤ 1000000
        · have hra : Cd.inR a = true := decide_eq_true ha
          have HA2 : Hid (∀ W, Calls Tryd.prog 42 #[.int .i64 a, .int .i64 1000001] W fun e w' => e = .returned (.bool true) ∧ W = w') := Lib.hid fun W => by
            have := below_any a 1000001 W
            rw [show bel a 1000001 = true from decide_eq_true (by omega)] at this
            exact this
          have e2 : Cd.tgtE op a at_ = 0 := by unfold Cd.tgtE; rw [if_pos hk, if_pos ⟨hrat, fun _ => hra⟩]
          rw [hJ] at HF
          by_cases h6 : op = 6
          · have e1 : Cd.tgtL op a at_ = fin [a] := by rw [fin_one]; unfold Cd.tgtL; rw [if_pos ⟨hk, hrat, fun _ => hra⟩, if_neg (by omega), if_pos h6]
            rw [e1, e2]
            clear e1 e2 hJ hrat hra hk hat ha
            subst h6
            go_enter Tryd.func17, Tryd.ntmps17
            go_wp2_with fail
            refine (HF.out _).mono ?_
            rintro e w2 ⟨FV, hFV, rfl, hb⟩
            have HB4 := Lib.hid (below_new (below_call HB1.out hb) (.cells #[.string ⟨WD.toArray⟩, FV, .int .i64 PO, .int .i64 PU, .bool true] 67))
            have HI4 := Lib.hid ((HB0.out.call hb).alloc (.cells #[.string ⟨WD.toArray⟩, FV, .int .i64 PO, .int .i64 PU, .bool true] 67))
            have HR4 := Lib.hid (Blk.new w2 67 #[.string ⟨WD.toArray⟩, FV, .int .i64 PO, .int .i64 PU, .bool true])
            obtain ⟨W3, hW3⟩ : ∃ V, w2.alloc (.cells #[.string ⟨WD.toArray⟩, FV, .int .i64 PO, .int .i64 PU, .bool true] 67) = V := ⟨_, rfl⟩
            rw [hW3] at HB4 HI4 HR4
            have HW3 := Lib.hid hW3
            have i0 := HI4.out.cell 0
            have i1 := HI4.out.cell 1
            have c4 := HR4.out.cell 4
            clear hb HF hW3 HB0 HB1 HR4
            rcases hFV with rfl | ⟨F, bs, rfl⟩
            all_goals
              go_wp2_with fail
              rw [HW3.out]
              clear HW3
              refine (HA.out _).mono ?_
              rintro e w3 ⟨rfl, rfl⟩
              go_wp2_with fail
              refine (HA2.out _).mono ?_
              rintro e w3 ⟨rfl, rfl⟩
              have hown := (World.ownsRow_nil W3 W3.heap.size 3 1).alloc (.cells #[.int .i64 (a)] 3)
              go_wp2_with (at_builtin; refine wpList_append_own _ rfl _ _ 38 rfl W3.heap.size 3 iv (.int .i64 0) 1 8 Tryd.underlying38 hi hz0 hz1 hz2 rfl (by decide) _ _ _ rfl hown ⟨W3.heap.size, 0, none⟩ 1 1 [.int .i64 (a)] rfl rfl ?c1 ?c2 ?c3 ?c4 ?c5 ?_)
              case c1 => exact news_int W3 (a)
              case c2 => intro u hu; simp at hu; subst hu; rfl
              case c3 => decide
              case c4 => decide
              case c5 => simp
              intro v5 w5 hown5 hg5 hnil5
              have HO5 : Hid (w5.ownsRow W3.heap.size 3 1 v5 [a].length (intsV [a])) := Lib.hid hown5
              have HN5 : Hid (v5 ≠ .slice none 0 0) := Lib.hid (by first | exact hnil5 | exact fun e => by have := (hnil5.1 e).2; cases this)
              have HB5 := Lib.hid ((below_new HB4.out (.cells #[.int .i64 (a)] 3)).grown hg5 (by have := HB4.out.size; simp at this ⊢; omega) (fun g hg => by cases hg))
              have HI5 := Lib.hid ((HI4.out.alloc (.cells #[.int .i64 (a)] 3)).grown hg5 (fun e => by cases e))
              have HS5 : Hid (W3.heap.size ≤ w5.heap.size) := Lib.hid (by have := hg5.size; simp at this; omega)
              have HWS := Lib.hid HB4.out.size
              clear hown hown5 hg5 hnil5 HB4 HI4 i0 i1 c4
              have i0 := HI5.out.cell 0
              have i1 := HI5.out.cell 1
              go_wp2_with fail
              refine (sort_own [a] (by simp) v5 W3.heap.size w5 HO5.out (fun e => by cases e)).mono ?_
              rintro e w8 ⟨rfl, HC⟩
              have HCC := Lib.hid HC
              clear HC
              go_wp2_with fail
              refine HCC.out.mono ?_
              rintro e w9 ⟨A, cap, rfl, hcap, hnil, hRd, hBl⟩
              have HB9 := Lib.hid (hBl w w.heap.size HWS.out (Nat.le_trans HWS.out HS5.out) HB5.out)
              have HR9 := Lib.hid hRd
              have HC9 := Lib.hid hcap
              clear hcap hnil hRd hBl HCC
              go_wp2_with fail
              go_ret2
              exact ⟨A, cap, rfl, HC9.out, fun e => absurd e (by rw [fin_one]; simp), HR9.out, HB9.out⟩
          · have h7 : op = 7 := by
              unfold Cd.jumps at hJ
              have := of_decide_eq_true hJ
              omega
            have e1 : Cd.tgtL op a at_ = fin [a, at_ + 1] := by rw [fin_two]; unfold Cd.tgtL; rw [if_pos ⟨hk, hrat, fun _ => hra⟩, if_neg (by omega), if_neg h6, if_pos h7]
            rw [e1, e2]
            clear e1 e2 hJ hrat hra hk hat ha h6
            subst h7
            go_enter Tryd.func17, Tryd.ntmps17
            go_wp2_with fail
            refine (HF.out _).mono ?_
            rintro e w2 ⟨FV, hFV, rfl, hb⟩
            have HB4 := Lib.hid (below_new (below_call HB1.out hb) (.cells #[.string ⟨WD.toArray⟩, FV, .int .i64 PO, .int .i64 PU, .bool true] 67))
            have HI4 := Lib.hid ((HB0.out.call hb).alloc (.cells #[.string ⟨WD.toArray⟩, FV, .int .i64 PO, .int .i64 PU, .bool true] 67))
            have HR4 := Lib.hid (Blk.new w2 67 #[.string ⟨WD.toArray⟩, FV, .int .i64 PO, .int .i64 PU, .bool true])
            obtain ⟨W3, hW3⟩ : ∃ V, w2.alloc (.cells #[.string ⟨WD.toArray⟩, FV, .int .i64 PO, .int .i64 PU, .bool true] 67) = V := ⟨_, rfl⟩
            rw [hW3] at HB4 HI4 HR4
            have HW3 := Lib.hid hW3
            have i0 := HI4.out.cell 0
            have i1 := HI4.out.cell 1
            have c4 := HR4.out.cell 4
            clear hb HF hW3 HB0 HB1 HR4
            rcases hFV with rfl | ⟨F, bs, rfl⟩
            all_goals
              go_wp2_with fail
              rw [HW3.out]
              clear HW3
              refine (HA.out _).mono ?_
              rintro e w3 ⟨rfl, rfl⟩
              go_wp2_with fail
              refine (HA2.out _).mono ?_
              rintro e w3 ⟨rfl, rfl⟩
              have hown := (World.ownsRow_nil W3 W3.heap.size 3 1).alloc (.cells #[.int .i64 (a)] 3)
              go_wp2_with (at_builtin; refine wpList_append_own _ rfl _ _ 38 rfl W3.heap.size 3 iv (.int .i64 0) 1 8 Tryd.underlying38 hi hz0 hz1 hz2 rfl (by decide) _ _ _ rfl hown ⟨W3.heap.size, 0, none⟩ 1 1 [.int .i64 (a)] rfl rfl ?c1 ?c2 ?c3 ?c4 ?c5 ?_)
              case c1 => exact news_int W3 (a)
              case c2 => intro u hu; simp at hu; subst hu; rfl
              case c3 => decide
              case c4 => decide
              case c5 => simp
              intro v5 w5 hown5 hg5 hnil5
              have HO5 : Hid (w5.ownsRow W3.heap.size 3 1 v5 [a].length (intsV [a])) := Lib.hid hown5
              have HN5 : Hid (v5 ≠ .slice none 0 0) := Lib.hid (by first | exact hnil5 | exact fun e => by have := (hnil5.1 e).2; cases this)
              have HB5 := Lib.hid ((below_new HB4.out (.cells #[.int .i64 (a)] 3)).grown hg5 (by have := HB4.out.size; simp at this ⊢; omega) (fun g hg => by cases hg))
              have HI5 := Lib.hid ((HI4.out.alloc (.cells #[.int .i64 (a)] 3)).grown hg5 (fun e => by cases e))
              have HS5 : Hid (W3.heap.size ≤ w5.heap.size) := Lib.hid (by have := hg5.size; simp at this; omega)
              have HWS := Lib.hid HB4.out.size
              clear hown hown5 hg5 hnil5 HB4 HI4 i0 i1 c4
              have i0 := HI5.out.cell 0
              have i1 := HI5.out.cell 1
              have hown := HO5.out.alloc (.cells #[.int .i64 (at_ + 1)] 3)
              have hlt := HI5.out.lt
              go_wp2_with (at_builtin; refine wpList_append_own _ rfl _ _ 38 rfl W3.heap.size 3 iv (.int .i64 0) 1 8 Tryd.underlying38 hi hz0 hz1 hz2 rfl (by decide) _ _ _ rfl hown ⟨w5.heap.size, 0, none⟩ 1 1 [.int .i64 (at_ + 1)] rfl rfl ?c1 ?c2 ?c3 ?c4 ?c5 ?_)
              case c1 => exact news_int w5 (at_ + 1)
              case c2 => intro u hu; simp at hu; subst hu; rfl
              case c3 => show 1 + 1 ≤ maxLen; decide
              case c4 => show (1 + 1) * 8 ≤ 140737488355328; decide
              case c5 => have := HS5.out; simp; omega
              intro v7 w7 hown7 hg7 hnil7
              have HO7 : Hid (w7.ownsRow W3.heap.size 3 1 v7 [a, at_ + 1].length (intsV [a, at_ + 1])) := Lib.hid hown7
              have HN7 : Hid (v7 ≠ .slice none 0 0) := Lib.hid (by first | exact hnil7 | exact fun e => by have := (hnil7.1 e).2; cases this)
              have HB7 := Lib.hid ((below_new HB5.out (.cells #[.int .i64 (at_ + 1)] 3)).grown hg7 (by have := HB5.out.size; rw [World.size_alloc]; omega) (fun g hg => by have := (hown.lt g hg).1; have := HWS.out; omega))
              have HS7 : Hid (W3.heap.size ≤ w7.heap.size) := Lib.hid (by have h1 := hg7.size; have h2 := HS5.out; rw [World.size_alloc] at h1; omega)
              clear hown hown7 hg7 hnil7 HB5 HI5 HO5 HN5 HS5 i0 i1 hlt
              go_wp2_with fail
              refine (sort_own [a, at_ + 1] (by simp) v7 W3.heap.size w7 HO7.out (fun e => by cases e)).mono ?_
              rintro e w8 ⟨rfl, HC⟩
              have HCC := Lib.hid HC
              clear HC
              go_wp2_with fail
              refine HCC.out.mono ?_
              rintro e w9 ⟨A, cap, rfl, hcap, hnil, hRd, hBl⟩
              have HB9 := Lib.hid (hBl w w.heap.size HWS.out (Nat.le_trans HWS.out HS7.out) HB7.out)
              have HR9 := Lib.hid hRd
              have HC9 := Lib.hid hcap
              clear hcap hnil hRd hBl HCC
              go_wp2_with fail
              go_ret2
              exact ⟨A, cap, rfl, HC9.out, fun e => absurd e (by rw [fin_two]; split; (· simp); split <;> simp), HR9.out, HB9.out⟩
        · have hra : Cd.inR a = false := decide_eq_false ha
          have HA2 : Hid (∀ W, Calls Tryd.prog 42 #[.int .i64 a, .int .i64 1000001] W fun e w' => e = .returned (.bool false) ∧ W = w') := Lib.hid fun W => by
            have := below_any a 1000001 W
            rw [show bel a 1000001 = false from decide_eq_false (by omega)] at this
            exact this
          have e1 : Cd.tgtL op a at_ = [] := by unfold Cd.tgtL; rw [if_neg (fun h => by have := h.2.2 hJ; rw [hra] at this; cases this)]
          have e2 : Cd.tgtE op a at_ = 3 := by unfold Cd.tgtE; rw [if_pos hk, if_neg (fun h => by have := h.2 hJ; rw [hra] at this; cases this)]
          rw [e1, e2]
          rw [hJ] at HF
          clear e1 e2 hJ hrat hra hk hat ha
          go_enter Tryd.func17, Tryd.ntmps17
          go_wp2_with fail
          refine (HF.out _).mono ?_
          rintro e w2 ⟨FV, hFV, rfl, hb⟩
          have HB4 := Lib.hid (below_new (below_call HB1.out hb) (.cells #[.string ⟨WD.toArray⟩, FV, .int .i64 PO, .int .i64 PU, .bool true] 67))
          have HI4 := Lib.hid ((HB0.out.call hb).alloc (.cells #[.string ⟨WD.toArray⟩, FV, .int .i64 PO, .int .i64 PU, .bool true] 67))
          have HR4 := Lib.hid (Blk.new w2 67 #[.string ⟨WD.toArray⟩, FV, .int .i64 PO, .int .i64 PU, .bool true])
          obtain ⟨W3, hW3⟩ : ∃ V, w2.alloc (.cells #[.string ⟨WD.toArray⟩, FV, .int .i64 PO, .int .i64 PU, .bool true] 67) = V := ⟨_, rfl⟩
          rw [hW3] at HB4 HI4 HR4
          have HW3 := Lib.hid hW3
          have i0 := HI4.out.cell 0
          have i1 := HI4.out.cell 1
          have c4 := HR4.out.cell 4
          clear hb HF hW3 HB0 HB1 HR4
          rcases hFV with rfl | ⟨F, bs, rfl⟩
          all_goals
            go_wp2_with fail
            rw [HW3.out]
            clear HW3
            refine (HA.out _).mono ?_
            rintro e w3 ⟨rfl, rfl⟩
            go_wp2_with fail
            refine (HA2.out _).mono ?_
            rintro e w3 ⟨rfl, rfl⟩
            go_wp2_with fail
            go_ret2
            exact TQ.non HB4.out
    · have HA : Hid (∀ W, Calls Tryd.prog 42 #[.int .i64 at_, .int .i64 1000001] W fun e w' => e = .returned (.bool false) ∧ W = w') := Lib.hid fun W => by
        have := below_any at_ 1000001 W
        rw [show bel at_ 1000001 = false from decide_eq_false (by omega)] at this
        exact this
      have hrat : Cd.inR at_ = false := decide_eq_false hat
      have e1 : Cd.tgtL op a at_ = [] := by unfold Cd.tgtL; rw [if_neg (fun h => by have := h.2.1; rw [hrat] at this; cases this)]
      have e2 : Cd.tgtE op a at_ = 3 := by unfold Cd.tgtE; rw [if_pos hk, if_neg (fun h => by have := h.1; rw [hrat] at this; cases this)]
      rw [e1, e2]
      obtain ⟨J, hJ⟩ : ∃ r, Cd.jumps op = r := ⟨_, rfl⟩
      rw [hJ] at HF
      clear e1 e2 hrat hJ hk hat
      go_enter Tryd.func17, Tryd.ntmps17
      go_wp2_with fail
      refine (HF.out _).mono ?_
      rintro e w2 ⟨FV, hFV, rfl, hb⟩
      have HB4 := Lib.hid (below_new (below_call HB1.out hb) (.cells #[.string ⟨WD.toArray⟩, FV, .int .i64 PO, .int .i64 PU, .bool J] 67))
      have HI4 := Lib.hid ((HB0.out.call hb).alloc (.cells #[.string ⟨WD.toArray⟩, FV, .int .i64 PO, .int .i64 PU, .bool J] 67))
      have HR4 := Lib.hid (Blk.new w2 67 #[.string ⟨WD.toArray⟩, FV, .int .i64 PO, .int .i64 PU, .bool J])
      obtain ⟨W3, hW3⟩ : ∃ V, w2.alloc (.cells #[.string ⟨WD.toArray⟩, FV, .int .i64 PO, .int .i64 PU, .bool J] 67) = V := ⟨_, rfl⟩
      rw [hW3] at HB4 HI4 HR4
      have HW3 := Lib.hid hW3
      have i0 := HI4.out.cell 0
      have i1 := HI4.out.cell 1
      have c4 := HR4.out.cell 4
      clear hb HF hW3 HB0 HB1 HR4
      rcases hFV with rfl | ⟨F, bs, rfl⟩
      all_goals
        go_wp2_with fail
        rw [HW3.out]
        clear HW3
        refine (HA.out _).mono ?_
        rintro e w3 ⟨rfl, rfl⟩
        go_wp2_with fail
        go_ret2
        exact TQ.non HB4.out
  · have e1 : Cd.tgtL op a at_ = [] := by unfold Cd.tgtL; rw [if_neg (fun h => hk h.1)]
    have e2 : Cd.tgtE op a at_ = 2 := by unfold Cd.tgtE; rw [if_neg hk]
    rw [e1, e2]
    have HF := Lib.hid fun W => find_zero hk W
    clear e1 e2 hk
    go_enter Tryd.func17, Tryd.ntmps17
    go_wp2_with fail
    refine (HF.out _).mono ?_
    rintro e w2 ⟨rfl, hb⟩
    have HB2 := Lib.hid (below_call HB1.out hb)
    clear hb HF
    go_wp2_with fail
    go_ret2
    exact TQ.non (below_new HB2.out _)
end Go.Proofs.YtmmehfkiceelkaaDoor

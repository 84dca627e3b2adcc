/-
  LAYER 23: an instruction's string; what it pops and pushes.
-/
import Derived.Test.YtmmehfkiceelkaaDoorCd4
import Derived.BigQuiet
namespace Go.Proofs.YtmmehfkiceelkaaDoor
open Go.ChangeShapes Go.WideShapes Go.ChangeAt Go.RowKit Go.Shelf

theorem itoa_any (n : Int) (h0 : -9223372036854775808 ≤ n) (h1 : n ≤ 9223372036854775807) (w : World) (hG : Good w) :
    Calls Tryd.prog 32 #[.int .i64 n, .int .i64 10] w fun e w' => e = .returned (.string ⟨(Lib.itoa n).toArray⟩) ∧ Below w.heap.size w w' := by
  refine (Tryd.strconv_FormatInt_10 n h0 h1 _ hG.pow).mono ?_
  rintro e w' ⟨rfl, j, os, rfl⟩
  exact ⟨rfl, below_grow j os⟩
theorem fv_bare {G k : Nat} (h : Cd.bare k = true) : fv G k = .nilFunc := by
  unfold Cd.bare at h
  rcases (show k = 11 ∨ k = 12 ∨ k = 15 by simpa [or_assoc] using h) with rfl | rfl | rfl <;> rfl
theorem fv_func {G k : Nat} (h : Cd.bare k = false) (h1 : 1 ≤ k) (h2 : k ≤ 17) : ∃ F bs, fv G k = .func (.func F) #[] bs := by
  rcases (show k = 1 ∨ k = 2 ∨ k = 3 ∨ k = 4 ∨ k = 5 ∨ k = 6 ∨ k = 7 ∨ k = 8 ∨ k = 9 ∨ k = 10 ∨ k = 11 ∨ k = 12 ∨ k = 13 ∨ k = 14 ∨ k = 15 ∨ k = 16 ∨ k = 17 by omega) with rfl | rfl | rfl | rfl | rfl | rfl | rfl | rfl | rfl | rfl | rfl | rfl | rfl | rfl | rfl | rfl | rfl
  all_goals first | exact ⟨_, _, rfl⟩ | cases h
theorem known_nat {op : Int} (h : Cd.known op) : op = (op.toNat : Int) ∧ 1 ≤ op.toNat ∧ op.toNat ≤ 17 := by
  obtain ⟨h1, h2⟩ := h
  omega
theorem find_bare {op : Int} (h : Cd.known op) (hb : Cd.bare op.toNat = true) (w : World) :
    Calls Tryd.prog 31 #[.int .i64 op] w fun e w' => e = .returned (.tuple #[.agg #[.string ⟨(Cd.word op.toNat).toArray⟩, .nilFunc, .int .i64 (Cd.pops op.toNat), .int .i64 (Cd.push op.toNat), .bool (jmp op.toNat)], .bool true]) ∧ Below w.heap.size w w' := by
  obtain ⟨e, h1, h2⟩ := known_nat h
  have := find_some op.toNat h1 h2 w
  rw [← e] at this
  refine this.mono ?_
  rintro e w' ⟨rfl, _, hB⟩
  refine ⟨?_, hB⟩
  unfold rowC
  rw [fv_bare hb]
theorem find_func {op : Int} (h : Cd.known op) (hb : Cd.bare op.toNat = false) (w : World) :
    Calls Tryd.prog 31 #[.int .i64 op] w fun e w' => ∃ F bs, e = .returned (.tuple #[.agg #[.string ⟨(Cd.word op.toNat).toArray⟩, .func (.func F) #[] bs, .int .i64 (Cd.pops op.toNat), .int .i64 (Cd.push op.toNat), .bool (jmp op.toNat)], .bool true]) ∧ Below w.heap.size w w' := by
  obtain ⟨e, h1, h2⟩ := known_nat h
  have := find_some op.toNat h1 h2 w
  rw [← e] at this
  obtain ⟨F, bs, hF⟩ := fv_func (G := w.heap.size + 1) hb h1 h2
  refine this.mono ?_
  rintro e w' ⟨rfl, _, hB⟩
  refine ⟨F, bs, ?_, hB⟩
  unfold rowC
  rw [hF]
theorem find_zero {op : Int} (h : ¬ Cd.known op) (w : World) :
    Calls Tryd.prog 31 #[.int .i64 op] w fun e w' => e = .returned (.tuple #[.agg #[.string ⟨#[]⟩, .nilFunc, .int .i64 0, .int .i64 0, .bool false], .bool false]) ∧ Below w.heap.size w w' :=
  find_none op (by unfold Cd.known at h; omega) w

theorem eq_func (F : Fn) (a b : Array Value) (W : World) : (binOp .eql 65 (.func F a b) .nilFunc).run Tryd.prog W = .ok (.bool false) W := by kernel_rfl
theorem eq_nil (W : World) : (binOp .eql 65 .nilFunc .nilFunc).run Tryd.prog W = .ok (.bool true) W := by kernel_rfl
theorem ne_func (F : Fn) (a b : Array Value) (W : World) : (binOp .neq 65 (.func F a b) .nilFunc).run Tryd.prog W = .ok (.bool true) W := by kernel_rfl
theorem ne_nil (W : World) : (binOp .neq 65 .nilFunc .nilFunc).run Tryd.prog W = .ok (.bool false) W := by kernel_rfl
/-- An instruction's block, and its row's. -/
def RB (w : World) (g : Nat) (op a : Int) (RW : Array Value) (W : World) : Prop := Good W ∧ Below w.heap.size w W ∧ Blk W w.heap.size 23 #[.int .i64 op, .int .i64 a] ∧ Blk W g 67 RW
def IB (w : World) (op a : Int) (W : World) : Prop := Good W ∧ Below w.heap.size w W ∧ Blk W w.heap.size 23 #[.int .i64 op, .int .i64 a]
section
variable {w W W' : World} {op a : Int} {g : Nat} {RW : Array Value}
theorem IB.new (hG : Good w) : Hid (IB w op a (w.alloc (.cells #[.int .i64 op, .int .i64 a] 23))) := Lib.hid ⟨hG.alloc _, below_new (Below.refl _ _) _, Blk.new _ _ _⟩
theorem IB.call (h : Hid (IB w op a W)) (hb : Below W.heap.size W W') : Hid (IB w op a W') := Lib.hid ⟨h.out.1.call hb, below_call h.out.2.1 hb, h.out.2.2.call hb⟩
theorem IB.row (h : Hid (IB w op a W)) : Hid (RB w W.heap.size op a RW (W.alloc (.cells RW 67))) := Lib.hid ⟨h.out.1.alloc _, below_new h.out.2.1 _, h.out.2.2.alloc _, Blk.new _ _ _⟩
theorem RB.call (h : Hid (RB w g op a RW W)) (hb : Below W.heap.size W W') : Hid (RB w g op a RW W') := Lib.hid ⟨h.out.1.call hb, below_call h.out.2.1 hb, h.out.2.2.1.call hb, h.out.2.2.2.call hb⟩
theorem RB.drew (h : Hid (RB w g op a RW W)) : Hid (RB w g op a RW W.drew) := Lib.hid ⟨h.out.1.drew, h.out.2.1.drew, h.out.2.2.1.drew, h.out.2.2.2.drew⟩
theorem RB.limb {p q r : Prop} (h : p ∧ q ∧ r) : r := h.2.2
theorem RB.good (h : Hid (RB w g op a RW W)) : Good W := h.out.1
end
def iV (op a : Int) : Value := .agg #[.int .i64 op, .int .i64 a]
def txS (op a : Int) : List UInt8 := (Cd.text op a).getD []
def txE (op a : Int) : Int := if (Cd.text op a).isSome then 0 else 2
theorem text_f {op : Int} (a : Int) (hk : Cd.known op) (hb : Cd.bare op.toNat = false) : Cd.text op a = some (Cd.word op.toNat ++ 32 :: Lib.itoa a) := by unfold Cd.text; rw [if_pos hk, if_neg (by simp [hb])]
theorem text_0 {op : Int} (hk : Cd.known op) (hb : Cd.bare op.toNat = true) : Cd.text op 0 = some (Cd.word op.toNat) := by unfold Cd.text; rw [if_pos hk, if_pos hb, if_pos rfl]
theorem text_1 {op a : Int} (hb : Cd.bare op.toNat = true) (ha : a ≠ 0) : Cd.text op a = none := by
  unfold Cd.text
  by_cases hk : Cd.known op
  · rw [if_pos hk, if_pos hb, if_neg ha]
  · rw [if_neg hk]
theorem text_n {op : Int} (a : Int) (hk : ¬ Cd.known op) : Cd.text op a = none := by unfold Cd.text; rw [if_neg hk]
theorem word_len (k : Nat) : (Cd.word k).length ≤ 10 := by
  by_cases h : k < 18
  · have key : ∀ i : Fin 18, (Cd.word i.val).length ≤ 10 := by decide
    exact key ⟨k, h⟩
  · have : Cd.word k = [] := by unfold Cd.word; rw [List.getElem?_eq_none (by show 18 ≤ k; omega)]; rfl
    rw [this]; decide

set_option maxRecDepth 100000 in
set_option maxHeartbeats 1000000 in
theorem text_any (op a : Int) (a0 : -9223372036854775808 ≤ a) (a1 : a ≤ 9223372036854775807) (w : World) (hG : Good w) :
    Calls Tryd.prog 11 #[iV op a] w fun e w' => e = .returned (.tuple #[.string ⟨(txS op a).toArray⟩, .int .i64 (txE op a)]) ∧ Below w.heap.size w w' := by
  have HI := IB.new (op := op) (a := a) hG
  clear hG
  unfold iV
  have q1 := eq_func
  have q2 := eq_nil
  by_cases hk : Cd.known op
  · rcases hb : Cd.bare op.toNat with _ | _
    · have e1 : txS op a = Cd.word op.toNat ++ 32 :: Lib.itoa a := by unfold txS; rw [text_f a hk hb]; rfl
      have e2 : txE op a = 0 := by unfold txE; rw [text_f a hk hb]; rfl
      rw [e1, e2]
      have HF := Lib.hid fun W => find_func hk hb W
      have hl := word_len op.toNat
      have hl2 := Dec.itoa_length a0 a1
      obtain ⟨WD, hWD⟩ : ∃ R, Cd.word op.toNat = R := ⟨_, rfl⟩
      obtain ⟨PO, hPO⟩ : ∃ R, Cd.pops op.toNat = R := ⟨_, rfl⟩
      obtain ⟨PU, hPU⟩ : ∃ R, Cd.push op.toNat = R := ⟨_, rfl⟩
      obtain ⟨J, hJ⟩ : ∃ R, jmp op.toNat = R := ⟨_, rfl⟩
      rw [hWD] at hl ⊢
      rw [hWD, hPO, hPU, hJ] at HF
      clear e1 e2 hk hb hWD hPO hPU hJ
      have k1 : ¬ 9223372036854775807 < WD.length + 1 := by omega
      have k2 : ¬ 9223372036854775807 < WD.length + 1 + (Lib.itoa a).length := by omega
      clear hl hl2
      go_enter Tryd.func11, Tryd.ntmps11
      go_wp2_with fail
      refine (HF.out _).mono ?_
      rintro e w2 ⟨F, bs, rfl, hb⟩
      replace HI := IB.call HI hb
      clear hb HF
      have HR := IB.row (RW := #[.string ⟨WD.toArray⟩, .func (.func F) #[] bs, .int .i64 PO, .int .i64 PU, .bool J]) HI
      clear HI
      have c0 := HR.out.2.2.2.cell 0
      have c1 := HR.out.2.2.2.cell 1
      have i0 := HR.out.2.2.1.cell 0
      have i1 := HR.out.2.2.1.cell 1
      go_upto_region 6 with fail
      clear c0 c1 i0 i1 q1 q2
      refine wp_region_held_drew (S := fun W => W.cell? ⟨w.heap.size, 1, none⟩ = some (.int .i64 a) ∧ W.cell? ⟨w2.heap.size, 0, none⟩ = some (.string ⟨WD.toArray⟩) ∧ Hid (RB w w2.heap.size op a #[.string ⟨WD.toArray⟩, .func (.func F) #[] bs, .int .i64 PO, .int .i64 PU, .bool J] W)) (by kernel_rfl) ?_ (fun hHeld0 => ?_)
      · exact ⟨(RB.drew HR).out.2.2.1.cell 1, (RB.drew HR).out.2.2.2.cell 0, RB.drew HR⟩
      refine wpAnyH_take (i := 0) (oi := ⟨some 31, _, _, _, _, _⟩) (v := ?_) rfl (by kernel_rfl) (by kernel_rfl) (by kernel_rfl) (fun _ _ _ h => h) (Or.inl ⟨rfl, ?_⟩) (by assumption) ?_
      rotate_left
      · (intro w hSw; (try dsimp only at hSw); go_simp; (try with_reducible rfl))
      (try simp only [Act.put, List.setIfInBounds_toArray, List.set_cons_zero, List.set_cons_succ])
      refine wpAnyH_take (i := 1) (oi := ⟨some 32, _, _, _, _, _⟩) (v := ?_) rfl (by kernel_rfl) (by kernel_rfl) (by kernel_rfl) (fun _ _ _ h => h) (Or.inl ⟨rfl, ?_⟩) (by assumption) ?_
      rotate_left
      · (intro w hSw; (try dsimp only at hSw); go_simp; (try with_reducible rfl))
      (try simp only [Act.put, List.setIfInBounds_toArray, List.set_cons_zero, List.set_cons_succ])
      refine wpAnyH_take (i := 2) (oi := ⟨some 33, _, _, _, _, _⟩) (v := ?_) rfl (by kernel_rfl) (by kernel_rfl) (by kernel_rfl) (fun _ _ _ h => h) (Or.inl ⟨rfl, ?_⟩) (by assumption) ?_
      rotate_left
      · (intro w hSw; (try dsimp only at hSw); go_simp; (try with_reducible rfl))
      (try simp only [Act.put, List.setIfInBounds_toArray, List.set_cons_zero, List.set_cons_succ])
      refine wpAnyH_take (i := 3) (oi := ⟨some 34, _, _, _, _, _⟩) (v := ?_) rfl (by kernel_rfl) (by kernel_rfl) (by kernel_rfl) (fun _ _ _ h => h) (Or.inl ⟨rfl, ?_⟩) (by assumption) ?_
      rotate_left
      · (intro w hSw; (try dsimp only at hSw); go_simp; (try with_reducible rfl))
      (try simp only [Act.put, List.setIfInBounds_toArray, List.set_cons_zero, List.set_cons_succ])
      refine wpAnyH_take (i := 4) (oi := ⟨some 35, _, _, _, _, _⟩) (v := ?_) rfl (by kernel_rfl) (by kernel_rfl) (by kernel_rfl) (fun _ _ _ h => h) (Or.inl ⟨rfl, ?_⟩) (by assumption) ?_
      rotate_left
      · (intro w hSw; (try dsimp only at hSw); go_simp; (try with_reducible rfl))
      (try simp only [Act.put, List.setIfInBounds_toArray, List.set_cons_zero, List.set_cons_succ])
      refine wpAnyH_ready (rs := [5]) (by kernel_rfl) (by simp) ?_
      refine AllReadyH.cons (o := ⟨some 36, _, _, _, _, _⟩) rfl (fun K hK => ?_) AllReadyH.nil
      have hCur := RB.limb hHeld0
      go_simp
      refine (itoa_any a a0 a1 _ (RB.good hCur)).mono ?_
      rintro e w' ⟨rfl, hb⟩
      have hNew := RB.call hCur hb
      clear hb hCur
      go_wp2_with fail
      refine hK.out _ _ ?_ (fun hHeld1 => ?_)
      · exact ⟨hNew.out.2.2.1.cell 1, hNew.out.2.2.2.cell 0, hNew⟩
      clear hK K hHeld0
      (try simp only [Act.put, List.setIfInBounds_toArray, List.set_cons_zero, List.set_cons_succ])
      refine wpAnyH_take (i := 6) (oi := ⟨some 37, _, _, _, _, _⟩) (v := ?_) rfl (by kernel_rfl) (by kernel_rfl) (by kernel_rfl) (fun _ _ _ h => h) (Or.inl ⟨rfl, ?_⟩) (by assumption) ?_
      rotate_left
      · (intro w hSw; (try dsimp only at hSw); go_simp; (try with_reducible rfl))
      (try simp only [Act.put, List.setIfInBounds_toArray, List.set_cons_zero, List.set_cons_succ])
      refine wpAnyH_take (i := 7) (oi := ⟨some 2, _, _, _, _, _⟩) (v := ?_) rfl (by kernel_rfl) (by kernel_rfl) (by kernel_rfl) (fun _ _ _ h => h) (Or.inl ⟨rfl, ?_⟩) (by assumption) ?_
      rotate_left
      · (intro w hSw; (try dsimp only at hSw); go_simp; (try with_reducible rfl))
      (try simp only [Act.put, List.setIfInBounds_toArray, List.set_cons_zero, List.set_cons_succ])
      refine wpAnyH_take (i := 8) (oi := ⟨some 3, _, _, _, _, _⟩) (v := ?_) rfl (by kernel_rfl) (by kernel_rfl) (by kernel_rfl) (fun _ _ _ h => h) (Or.inl ⟨rfl, ?_⟩) (by assumption) ?_
      rotate_left
      · (intro w hSw; (try dsimp only at hSw); go_simp; (try with_reducible rfl))
      (try simp only [Act.put, List.setIfInBounds_toArray, List.set_cons_zero, List.set_cons_succ])
      refine wpAnyH_done (by kernel_rfl) ?_ _
      have HQ := RB.limb hHeld1
      go_wp2_with fail
      go_ret2
      exact ⟨ret_str_int (by rw [show (⟨#[32]⟩ : ByteArray) = ⟨[32].toArray⟩ from rfl, ByteArray.mk_append_mk, ByteArray.mk_append_mk, mk_inj]; simp) rfl, HQ.out.2.1⟩
    · by_cases ha : a = 0
      · have e1 : txS op a = Cd.word op.toNat := by unfold txS; rw [ha, text_0 hk hb]; rfl
        have e2 : txE op a = 0 := by unfold txE; rw [ha, text_0 hk hb]; rfl
        rw [e1, e2]
        have HF := Lib.hid fun W => find_bare hk hb W
        obtain ⟨WD, hWD⟩ : ∃ R, Cd.word op.toNat = R := ⟨_, rfl⟩
        obtain ⟨PO, hPO⟩ : ∃ R, Cd.pops op.toNat = R := ⟨_, rfl⟩
        obtain ⟨PU, hPU⟩ : ∃ R, Cd.push op.toNat = R := ⟨_, rfl⟩
        obtain ⟨J, hJ⟩ : ∃ R, jmp op.toNat = R := ⟨_, rfl⟩
        rw [hWD]
        rw [hWD, hPO, hPU, hJ] at HF
        clear e1 e2 hk hb hWD hPO hPU hJ
        subst ha
        go_enter Tryd.func11, Tryd.ntmps11
        go_wp2_with fail
        refine (HF.out _).mono ?_
        rintro e w2 ⟨rfl, hb⟩
        replace HI := IB.call HI hb
        clear hb HF
        have c1 := (HI.out.2.2.alloc (.cells #[.string ⟨WD.toArray⟩, .nilFunc, .int .i64 PO, .int .i64 PU, .bool J] 67)).cell 1
        go_wp2_with fail
        go_ret2
        exact ⟨rfl, below_new HI.out.2.1 _⟩
      · have e1 : txS op a = [] := by unfold txS; rw [text_1 hb ha]; rfl
        have e2 : txE op a = 2 := by unfold txE; rw [text_1 hb ha]; rfl
        rw [e1, e2]
        have HF := Lib.hid fun W => find_bare hk hb W
        obtain ⟨WD, hWD⟩ : ∃ R, Cd.word op.toNat = R := ⟨_, rfl⟩
        obtain ⟨PO, hPO⟩ : ∃ R, Cd.pops op.toNat = R := ⟨_, rfl⟩
        obtain ⟨PU, hPU⟩ : ∃ R, Cd.push op.toNat = R := ⟨_, rfl⟩
        obtain ⟨J, hJ⟩ : ∃ R, jmp op.toNat = R := ⟨_, rfl⟩
        rw [hWD, hPO, hPU, hJ] at HF
        clear e1 e2 hk hb hWD hPO hPU hJ
        go_enter Tryd.func11, Tryd.ntmps11
        go_wp2_with fail
        refine (HF.out _).mono ?_
        rintro e w2 ⟨rfl, hb⟩
        replace HI := IB.call HI hb
        clear hb HF
        have c1 := (HI.out.2.2.alloc (.cells #[.string ⟨WD.toArray⟩, .nilFunc, .int .i64 PO, .int .i64 PU, .bool J] 67)).cell 1
        go_wp2_with fail
        go_ret2
        exact ⟨rfl, below_new HI.out.2.1 _⟩
  · have e1 : txS op a = [] := by unfold txS; rw [text_n a hk]; rfl
    have e2 : txE op a = 2 := by unfold txE; rw [text_n a hk]; rfl
    rw [e1, e2]
    have HF := Lib.hid fun W => find_zero hk W
    clear e1 e2 hk
    go_enter Tryd.func11, Tryd.ntmps11
    go_wp2_with fail
    refine (HF.out _).mono ?_
    rintro e w2 ⟨rfl, hb⟩
    replace HI := IB.call HI hb
    clear hb HF
    go_wp2_with fail
    go_ret2
    exact ⟨rfl, below_new HI.out.2.1 _⟩

def efP (op : Int) : Int := if Cd.hasEff op then Cd.pops op.toNat else 0
def efQ (op : Int) : Int := if Cd.hasEff op then Cd.push op.toNat else 0
def efE (op : Int) : Int := if Cd.hasEff op then 0 else 2
set_option maxRecDepth 100000 in
set_option maxHeartbeats 1000000 in
theorem effect_any (op a : Int) (w : World) :
    Calls Tryd.prog 15 #[iV op a] w fun e w' => e = .returned (.tuple #[.int .i64 (efP op), .int .i64 (efQ op), .int .i64 (efE op)]) ∧ Below w.heap.size w w' := by
  unfold iV
  have hb0 := Blk.new w 23 #[.int .i64 op, .int .i64 a]
  have hB0 := below_new (Below.refl w.heap.size w) (.cells #[.int .i64 op, .int .i64 a] 23)
  have HB0 := Lib.hid hb0
  have HB1 := Lib.hid hB0
  clear hb0 hB0
  by_cases hk : Cd.known op
  · have hW : Hid (∃ R, Cd.word op.toNat = R) := Lib.hid ⟨_, rfl⟩
    obtain ⟨WD, hWD⟩ := hW.out
    obtain ⟨J, hJ⟩ : ∃ R, jmp op.toNat = R := ⟨_, rfl⟩
    obtain ⟨PO, hPO⟩ : ∃ R, Cd.pops op.toNat = R := ⟨_, rfl⟩
    obtain ⟨PU, hPU⟩ : ∃ R, Cd.push op.toNat = R := ⟨_, rfl⟩
    rcases hb : Cd.bare op.toNat with _ | _
    · have HF := Lib.hid fun W => find_func hk hb W
      rw [hWD, hPO, hPU, hJ] at HF
      by_cases h1 : op = 14
      · have e1 : efP op = 0 := by rw [h1]; rfl
        have e2 : efQ op = 0 := by rw [h1]; rfl
        have e3 : efE op = 2 := by rw [h1]; rfl
        rw [e1, e2, e3]
        clear e1 e2 e3 hk hW hWD hPO hPU hJ hb
        subst h1
        go_enter Tryd.func15, Tryd.ntmps15
        go_wp2_with fail
        refine (HF.out _).mono ?_
        rintro e w2 ⟨F, bs, rfl, hb⟩
        have i0 := ((HB0.out.call hb).alloc (.cells #[.string ⟨WD.toArray⟩, .func (.func F) #[] bs, .int .i64 PO, .int .i64 PU, .bool J] 67)).cell 0
        have HB2 := Lib.hid (below_call HB1.out hb)
        clear hb HF
        go_wp2_with fail
        go_ret3
        exact ⟨rfl, below_new HB2.out _⟩
      by_cases h2 : op = 16
      · have e1 : efP op = 0 := by rw [h2]; rfl
        have e2 : efQ op = 0 := by rw [h2]; rfl
        have e3 : efE op = 2 := by rw [h2]; rfl
        rw [e1, e2, e3]
        clear e1 e2 e3 hk hW hWD hPO hPU hJ hb
        subst h2
        go_enter Tryd.func15, Tryd.ntmps15
        go_wp2_with fail
        refine (HF.out _).mono ?_
        rintro e w2 ⟨F, bs, rfl, hb⟩
        have i0 := ((HB0.out.call hb).alloc (.cells #[.string ⟨WD.toArray⟩, .func (.func F) #[] bs, .int .i64 PO, .int .i64 PU, .bool J] 67)).cell 0
        have HB2 := Lib.hid (below_call HB1.out hb)
        clear hb HF
        go_wp2_with fail
        go_ret3
        exact ⟨rfl, below_new HB2.out _⟩
      have he : Cd.hasEff op := ⟨hk, h1, h2⟩
      have e1 : efP op = PO := by unfold efP; rw [if_pos he, hPO]
      have e2 : efQ op = PU := by unfold efQ; rw [if_pos he, hPU]
      have e3 : efE op = 0 := by unfold efE; rw [if_pos he]
      rw [e1, e2, e3]
      have b1 : (op == 14) = false := by simpa using h1
      have b2 : (op == 16) = false := by simpa using h2
      clear e1 e2 e3 he hk hW hWD hPO hPU hJ hb h1 h2
      go_enter Tryd.func15, Tryd.ntmps15
      go_wp2_with fail
      refine (HF.out _).mono ?_
      rintro e w2 ⟨F, bs, rfl, hb⟩
      have i0 := ((HB0.out.call hb).alloc (.cells #[.string ⟨WD.toArray⟩, .func (.func F) #[] bs, .int .i64 PO, .int .i64 PU, .bool J] 67)).cell 0
      have HB2 := Lib.hid (below_call HB1.out hb)
      clear hb HF
      go_upto_region 4 with fail
      clear i0
      have c2 := (Blk.new w2 67 #[.string ⟨WD.toArray⟩, .func (.func F) #[] bs, .int .i64 PO, .int .i64 PU, .bool J]).cell 2
      have c3 := (Blk.new w2 67 #[.string ⟨WD.toArray⟩, .func (.func F) #[] bs, .int .i64 PO, .int .i64 PU, .bool J]).cell 3
      go_region
      go_wp2_with fail
      go_ret3
      exact ⟨rfl, (below_new HB2.out _).drew⟩
    · have HF := Lib.hid fun W => find_bare hk hb W
      rw [hWD, hPO, hPU, hJ] at HF
      have h1 : op ≠ 14 := by rintro rfl; cases hb
      have h2 : op ≠ 16 := by rintro rfl; cases hb
      have he : Cd.hasEff op := ⟨hk, h1, h2⟩
      have e1 : efP op = PO := by unfold efP; rw [if_pos he, hPO]
      have e2 : efQ op = PU := by unfold efQ; rw [if_pos he, hPU]
      have e3 : efE op = 0 := by unfold efE; rw [if_pos he]
      rw [e1, e2, e3]
      have b1 : (op == 14) = false := by simpa using h1
      have b2 : (op == 16) = false := by simpa using h2
      clear e1 e2 e3 he hk hW hWD hPO hPU hJ hb h1 h2
      go_enter Tryd.func15, Tryd.ntmps15
      go_wp2_with fail
      refine (HF.out _).mono ?_
      rintro e w2 ⟨rfl, hb⟩
      have i0 := ((HB0.out.call hb).alloc (.cells #[.string ⟨WD.toArray⟩, .nilFunc, .int .i64 PO, .int .i64 PU, .bool J] 67)).cell 0
      have HB2 := Lib.hid (below_call HB1.out hb)
      clear hb HF
      go_upto_region 4 with fail
      clear i0
      have c2 := (Blk.new w2 67 #[.string ⟨WD.toArray⟩, .nilFunc, .int .i64 PO, .int .i64 PU, .bool J]).cell 2
      have c3 := (Blk.new w2 67 #[.string ⟨WD.toArray⟩, .nilFunc, .int .i64 PO, .int .i64 PU, .bool J]).cell 3
      go_region
      go_wp2_with fail
      go_ret3
      exact ⟨rfl, (below_new HB2.out _).drew⟩
  · have e1 : efP op = 0 := by unfold efP; rw [if_neg fun h => hk h.1]
    have e2 : efQ op = 0 := by unfold efQ; rw [if_neg fun h => hk h.1]
    have e3 : efE op = 2 := by unfold efE; rw [if_neg fun h => hk h.1]
    rw [e1, e2, e3]
    have HF := Lib.hid fun W => find_zero hk W
    clear e1 e2 e3 hk
    go_enter Tryd.func15, Tryd.ntmps15
    go_wp2_with fail
    refine (HF.out _).mono ?_
    rintro e w2 ⟨rfl, hb⟩
    have HB2 := Lib.hid (below_call HB1.out hb)
    clear hb HF
    go_wp2_with fail
    go_ret3
    exact ⟨rfl, below_new HB2.out _⟩
end Go.Proofs.YtmmehfkiceelkaaDoor

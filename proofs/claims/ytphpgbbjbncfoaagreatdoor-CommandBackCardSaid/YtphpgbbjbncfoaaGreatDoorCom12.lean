/-
  LAYER 42: command.Parse.
-/
import Derived.Test.YtphpgbbjbncfoaaGreatDoorCom11
namespace Go.Proofs.YtphpgbbjbncfoaaGreatDoor
open Go.ChangeShapes Go.WideShapes Go.ChangeAt Go.RowKit

/-- The first word of a line. -/
def fw (s : List UInt8) : List UInt8 := s.takeWhile (· != 32)
/-- The command that the functions of kind k read out of a line. -/
def candC (k : Nat) (s : List UInt8) : Cmd.C := { readC (Cmd.cls k) (s.drop (fw s).length) with kind := k }
def candB (k : Nat) (s : List UInt8) : Bool := readB (Cmd.cls k) (s.drop (fw s).length) && Cmd.okB (candC k s) && decide (Cmd.line k (candC k s) = s)
/-- Is this the kind, and does it give the line back? -/
def hits (k : Nat) (s : List UInt8) : Bool := decide (1 ≤ k ∧ (Cmd.words[k]?).getD [] = fw s) && candB k s
def parseAt (s : List UInt8) : Nat → Option Cmd.C
  | 0 => none
  | n + 1 => match parseAt s n with
    | some c => some c
    | none => if hits n s then some (candC n s) else none
def parse (s : List UInt8) : Option Cmd.C := if 20000 < s.length then none else parseAt s 16
def parseS (s : List UInt8) : Cmd.C := (parse s).getD Cmd.zero
def parseE (s : List UInt8) : Int := if (parse s).isSome = true then 0 else 7

theorem index_sp (s : List UInt8) : Lib.indexByte (s ++ [32]) 32 = ((fw s).length : Int) := by
  induction s with
  | nil => rfl
  | cons c r ih =>
    unfold fw at ih ⊢
    rw [List.cons_append, Lib.indexByte, List.takeWhile_cons]
    by_cases hc : c = 32
    · subst hc; rfl
    · have e1 : (c == 32) = false := by simpa using hc
      have e2 : (c != 32) = true := by simpa using hc
      rw [e1, e2, ih]
      have e3 : (((r.takeWhile (· != 32)).length : Int) == -1) = false := by simp
      rw [e3]
      simp
theorem fw_take (s : List UInt8) : s.take (fw s).length = fw s := by
  unfold fw
  induction s with
  | nil => rfl
  | cons c r ih =>
    rw [List.takeWhile_cons]
    split
    · simp [ih]
    · rfl
theorem fw_len (s : List UInt8) : (fw s).length ≤ s.length := by
  have := congrArg List.length (fw_take s)
  rw [List.length_take] at this
  omega
theorem numP_bounds (s : List UInt8) : -9223372036854775808 ≤ Num.numP s ∧ Num.numP s ≤ 9223372036854775807 := by
  cases h : Num.okP s with
  | true => exact (Num.okP_itoa h).2
  | false => 
    have := bad_parse h
    rw [(errP_none this).1]
    decide
theorem unqS_len (s : List UInt8) : (unqS s).length ≤ s.length := by
  cases h : Cmd.unq s with
  | none => rw [(unq_no h).1]; simp
  | some t =>
    have := Cmd.unq_iff.1 h
    rw [(unq_yes this).1, ← this]
    exact (Cmd.quote_len t).1
theorem cutR_len1 (s : List UInt8) : (cutR s).1.length ≤ s.length := by
  unfold cutR Lib.cut
  split
  · simp only [List.length_take]; omega
  · simp
theorem readC_sizes (cl : Nat) (s : List UInt8) : (readC cl s).val.length ≤ s.length ∧ (readC cl s).name.length ≤ s.length ∧ (readC cl s).a ≤ 9223372036854775807 ∧ -9223372036854775808 ≤ (readC cl s).a := by
  have h1 := behindSp_len s
  have h2 := unqS_len (behindSp s)
  have h3 := cutR_len1 (behindSp s)
  have h4 := numP_bounds (behindSp s)
  have h5 := numP_bounds (cutR (behindSp s)).2.1
  unfold readC
  split <;> simp [Cmd.zero] <;> omega

theorem form_at (k : Nat) (h : k < 16) : ∀ w, (Instr.index 81 (.agg formsL.toArray) (.int .i64 k)).run Tryz.prog w = .ok (.agg (formL k).toArray) w := by
  intro w
  rcases (show k = 0 ∨ k = 1 ∨ k = 2 ∨ k = 3 ∨ k = 4 ∨ k = 5 ∨ k = 6 ∨ k = 7 ∨ k = 8 ∨ k = 9 ∨ k = 10 ∨ k = 11 ∨ k = 12 ∨ k = 13 ∨ k = 14 ∨ k = 15 by omega) with rfl | rfl | rfl | rfl | rfl | rfl | rfl | rfl | rfl | rfl | rfl | rfl | rfl | rfl | rfl | rfl
  all_goals
    show _ = _
    kernel_rfl
theorem word_full (k : Nat) (h1 : 1 ≤ k) (h2 : k < 16) : ((Cmd.words[k]?).getD []).isEmpty = false := by
  have key : ∀ i : Fin 16, 1 ≤ i.val → ((Cmd.words[i.val]?).getD []).isEmpty = false := by decide
  exact key ⟨k, h2⟩ h1
theorem parseAt_skip {s : List UInt8} {k : Nat} (h : parseAt s k = none) (hh : hits k s = false) : parseAt s (k + 1) = none := by
  rw [parseAt, h, hh]
  rfl
theorem parseAt_hit {s : List UInt8} {k : Nat} (h : parseAt s k = none) (hh : hits k s = true) : parseAt s (k + 1) = some (candC k s) := by
  rw [parseAt, h, hh]
  rfl
theorem parseAt_more {s : List UInt8} {k : Nat} {c : Cmd.C} (h : parseAt s k = some c) : ∀ n, parseAt s (k + n) = some c
  | 0 => h
  | n + 1 => by rw [← Nat.add_assoc, parseAt, parseAt_more h n]
theorem formL_pos (k : Nat) (h : 1 ≤ k) : (formL k).toArray = #[.string ⟨((Cmd.words[k]?).getD []).toArray⟩, .int .i64 (Cmd.most k), .func (.func (fV (Cmd.cls k))) #[] #[], .func (.func (fP (Cmd.cls k))) #[] #[], .func (.func (fR (Cmd.cls k))) #[] #[]] := by
  unfold formL
  rw [if_neg (by omega)]

/-- What stands when a command was read: the result's block, the command's own. -/
def JI (w : World) (g : Nat) (cs : Array Value) (W : World) : Prop := Below w.heap.size w W ∧ Blk W w.heap.size 24 #[.int .i64 0, .int .i64 0, .string ⟨#[]⟩, .string ⟨#[]⟩] ∧ Blk W g 24 cs ∧ w.heap.size < g
theorem JI.kind {w W : World} {g : Nat} {x0 x1 x2 x3 y : Value} (h : Hid (JI w g #[x0, x1, x2, x3] W)) : Hid (JI w g #[y, x1, x2, x3] (W.setCell ⟨g, 0, none⟩ y)) :=
  Lib.hid ⟨h.out.1.setCell (Nat.le_of_lt h.out.2.2.2) _, h.out.2.1.far (Nat.ne_of_lt h.out.2.2.2) _, by simpa using h.out.2.2.1.set 0 y, h.out.2.2.2⟩
theorem JI.call {w W W' : World} {g : Nat} {cs : Array Value} (h : Hid (JI w g cs W)) (hb : Below W.heap.size W W') : Hid (JI w g cs W') :=
  Lib.hid ⟨below_call h.out.1 hb, h.out.2.1.call hb, h.out.2.2.1.call hb, h.out.2.2.2⟩
set_option maxHeartbeats 4000000 in
set_option maxRecDepth 20000 in
/-- command.Parse. -/
theorem parse_any (s : List UInt8) (hs : s.length ≤ 100000) (w : World) (hG : Good w) :
    Calls Tryz.prog 20 #[.string ⟨s.toArray⟩] w fun e w' => e = .returned (.tuple #[cV (parseS s), .int .i64 (parseE s)]) ∧ Below w.heap.size w w' := by
  by_cases hl : 20000 < s.length
  · have hp : parse s = none := by unfold parse; rw [if_pos hl]
    have HQ : Hid (parseS s = Cmd.zero ∧ parseE s = 7) := Lib.hid (by unfold parseS parseE; rw [hp]; exact ⟨rfl, rfl⟩)
    have hl' : (20000 : Int) < (s.length : Int) := by omega
    clear hp hG
    rw [HQ.out.1, HQ.out.2]
    go_enter Tryz.func20, Tryz.ntmps20
    go_wp2_with fail
    refine bodyPost_ret (results_cmd rfl _ _ w.heap.size _ _ rfl (heap_alloc_new w _) rfl) rfl ?_
    exact ⟨rfl, below_new (Below.refl _ _) _⟩
  · have hl' : ¬ (20000 : Int) < (s.length : Int) := by omega
    have hp : parse s = parseAt s 16 := by unfold parse; rw [if_neg hl]
    have HQ := Lib.hid hp
    have s1 : ¬ 9223372036854775807 < s.length + 1 := by omega
    have hIx : ∀ w, Calls Tryz.prog 40 #[.string ⟨(s ++ [32]).toArray⟩, .int .u8 32] w fun e w' => e = .returned (.int .i64 ((fw s).length : Int)) ∧ w' = w := fun w => by
      rw [← index_sp]
      exact Tryz.strings_IndexByte ⟨(s ++ [32]).toArray⟩ 32 w
    have HX := Lib.hid hIx
    have HG := Lib.hid (hG.alloc (.cells #[.int .i64 0, .int .i64 0, .string ⟨#[]⟩, .string ⟨#[]⟩] 24))
    obtain ⟨F, hF⟩ : ∃ F, (fw s).length = F := ⟨_, rfl⟩
    rw [hF] at HX
    have HGw := Lib.hid hG
    clear hp hG hl hIx
    go_enter Tryz.func20, Tryz.ntmps20
    go_wp2_with fail
    rw [show (⟨#[32]⟩ : ByteArray) = ⟨[32].toArray⟩ from rfl, ByteArray.mk_append_mk]
    refine (HX.out _).mono ?_
    rintro e w1 ⟨rfl, rfl⟩
    go_wp2_with fail
    refine (forms_any _).mono ?_
    rintro e w2 ⟨rfl, hb⟩
    have HB2 := Lib.hid (below_call (below_new (Below.refl w.heap.size w) _) hb)
    have HK2 := Lib.hid (blk_new _ _ _ _ hb)
    have HG2 := Lib.hid (HG.out.call hb)
    have HF := Lib.hid hF
    clear hb hF
    go_wp2_with fail
    go_loopw [19] (fun i wr => ∃ k : Nat, k ≤ 16 ∧ i = .int .i64 k ∧ Hid (parseAt s k = none) ∧ Hid (Good wr ∧ Below w.heap.size w wr ∧ Blk wr w.heap.size 24 #[.int .i64 0, .int .i64 0, .string ⟨#[]⟩, .string ⟨#[]⟩])) (fun i _ => 16 - (intOf i).toNat)
    case atStart => exact ⟨0, Nat.zero_le _, rfl, Lib.hid rfl, Lib.hid ⟨HG2.out, HB2.out, HK2.out⟩⟩
    case round =>
      obtain ⟨k, hk, rfl, HN, HI⟩ := hrel
      by_cases hlt : k < 16
      · by_cases hk0 : k = 0
        · subst hk0
          have hi := form_at 0 (by decide) wr
          rw [show (formL 0).toArray = #[.string ⟨#[]⟩, .int .i64 0, .nilFunc, .nilFunc, .nilFunc] from rfl, show ((0 : Nat) : Int) = 0 from rfl] at hi
          have HN2 := Lib.hid (parseAt_skip HN.out (by unfold hits; rw [decide_eq_false (by omega)]; rfl))
          have HI2 : Hid (Good (wr.alloc (.cells #[.string ⟨#[]⟩, .int .i64 0, .nilFunc, .nilFunc, .nilFunc] 72)).drew ∧ Below w.heap.size w (wr.alloc (.cells #[.string ⟨#[]⟩, .int .i64 0, .nilFunc, .nilFunc, .nilFunc] 72)).drew ∧ Blk (wr.alloc (.cells #[.string ⟨#[]⟩, .int .i64 0, .nilFunc, .nilFunc, .nilFunc] 72)).drew w.heap.size 24 #[.int .i64 0, .int .i64 0, .string ⟨#[]⟩, .string ⟨#[]⟩]) :=
            Lib.hid ⟨(HI.out.1.alloc _).drew, (below_new HI.out.2.1 _).drew, HI.out.2.2.alloc _⟩
          go_wp2_with fail
          go_region
          go_wp2_with fail
          go_roundw
          case rel => exact ⟨1, by omega, rfl, HN2, HI2⟩
          case measure => simp [intOf]
        · have k1 : (0 : Int) ≤ (k : Int) := by omega
          have k2 : (k : Int) < 16 := by omega
          have hi := form_at k hlt wr
          rw [formL_pos k (by omega)] at hi
          have H := Lib.hid (fm k (by omega) (by omega))
          have hwf := word_full k (by omega) hlt
          have hhit : hits k s = (decide ((Cmd.words[k]?).getD [] = fw s) && candB k s) := by
            unfold hits
            congr 1
            rw [decide_eq_decide]
            exact ⟨fun h => h.2, fun h => ⟨by omega, h⟩⟩
          have HH := Lib.hid hhit
          clear hhit
          have hx1 : (⟨s.toArray⟩ : ByteArray).extract 0 F = ⟨(fw s).toArray⟩ := by
            rw [mk_extract, ← HF.out, List.drop_zero, Nat.sub_zero, fw_take]
          have hFs : (F : Int) ≤ (s.length : Int) := by have := fw_len s; rw [HF.out] at this; omega
          generalize (Cmd.words[k]?).getD [] = W at *
          obtain ⟨FWs, hFW⟩ : ∃ x, fw s = x := ⟨_, rfl⟩
          rw [hFW] at hx1 HH
          have HFW := Lib.hid hFW
          clear hFW
          have HI2 : Hid (Good (wr.alloc (.cells #[.string ⟨W.toArray⟩, .int .i64 (Cmd.most k), .func (.func (fV (Cmd.cls k))) #[] #[], .func (.func (fP (Cmd.cls k))) #[] #[], .func (.func (fR (Cmd.cls k))) #[] #[]] 72)).drew ∧ Below w.heap.size w (wr.alloc (.cells #[.string ⟨W.toArray⟩, .int .i64 (Cmd.most k), .func (.func (fV (Cmd.cls k))) #[] #[], .func (.func (fP (Cmd.cls k))) #[] #[], .func (.func (fR (Cmd.cls k))) #[] #[]] 72)).drew ∧ Blk (wr.alloc (.cells #[.string ⟨W.toArray⟩, .int .i64 (Cmd.most k), .func (.func (fV (Cmd.cls k))) #[] #[], .func (.func (fP (Cmd.cls k))) #[] #[], .func (.func (fR (Cmd.cls k))) #[] #[]] 72)).drew w.heap.size 24 #[.int .i64 0, .int .i64 0, .string ⟨#[]⟩, .string ⟨#[]⟩]) :=
            Lib.hid ⟨(HI.out.1.alloc _).drew, (below_new HI.out.2.1 _).drew, HI.out.2.2.alloc _⟩
          by_cases hw : W = FWs
          · subst hw
            obtain ⟨R, hR⟩ : ∃ R, s.drop F = R := ⟨_, rfl⟩
            have hRl : R.length ≤ s.length := by rw [← hR, List.length_drop]; omega
            have hx2 : (⟨s.toArray⟩ : ByteArray).extract F s.length = ⟨R.toArray⟩ := by rw [mk_extract, ← hR, List.take_of_length_le (by rw [List.length_drop]; omega)]
            obtain ⟨⟨q, a, n, v⟩, hC⟩ : ∃ c, readC (Cmd.cls k) R = c := ⟨_, rfl⟩
            have hsz := readC_sizes (Cmd.cls k) R
            rw [hC] at hsz
            simp only at hsz
            have hcand : candC k s = ⟨(k : Int), a, n, v⟩ := by unfold candC; rw [HF.out, hR, hC]
            obtain ⟨B, hB⟩ : ∃ B, readB (Cmd.cls k) R = B := ⟨_, rfl⟩
            have hcb : candB k s = (B && Cmd.okB ⟨(k : Int), a, n, v⟩ && decide (Cmd.line k ⟨(k : Int), a, n, v⟩ = s)) := by unfold candB; rw [hcand, HF.out, hR, hB]
            have hr := fun w => H.out.r R w (by omega)
            rw [hC, hB] at hr
            have HR := Lib.hid hr
            have HCA := Lib.hid hcand
            have HCB := Lib.hid hcb
            clear hR hC hB hcand hcb hr
            have eR := H.out.eR
            generalize fV (Cmd.cls k) = FV at *
            generalize fP (Cmd.cls k) = FP at *
            generalize fR (Cmd.cls k) = FR at *
            unfold cV at HR
            go_wp2_with fail
            go_region
            go_wp2_with fail
            have HI3 : Hid (Good ((wr.alloc (.cells #[.string ⟨W.toArray⟩, .int .i64 (Cmd.most k), .func (.func FV) #[] #[], .func (.func FP) #[] #[], .func (.func FR) #[] #[]] 72)).alloc (.cells #[.int .i64 0, .int .i64 0, .string ⟨#[]⟩, .string ⟨#[]⟩] 24)).drew.drew ∧ Below w.heap.size w ((wr.alloc (.cells #[.string ⟨W.toArray⟩, .int .i64 (Cmd.most k), .func (.func FV) #[] #[], .func (.func FP) #[] #[], .func (.func FR) #[] #[]] 72)).alloc (.cells #[.int .i64 0, .int .i64 0, .string ⟨#[]⟩, .string ⟨#[]⟩] 24)).drew.drew ∧ Blk ((wr.alloc (.cells #[.string ⟨W.toArray⟩, .int .i64 (Cmd.most k), .func (.func FV) #[] #[], .func (.func FP) #[] #[], .func (.func FR) #[] #[]] 72)).alloc (.cells #[.int .i64 0, .int .i64 0, .string ⟨#[]⟩, .string ⟨#[]⟩] 24)).drew.drew w.heap.size 24 #[.int .i64 0, .int .i64 0, .string ⟨#[]⟩, .string ⟨#[]⟩] ∧ Blk ((wr.alloc (.cells #[.string ⟨W.toArray⟩, .int .i64 (Cmd.most k), .func (.func FV) #[] #[], .func (.func FP) #[] #[], .func (.func FR) #[] #[]] 72)).alloc (.cells #[.int .i64 0, .int .i64 0, .string ⟨#[]⟩, .string ⟨#[]⟩] 24)).drew.drew (wr.heap.size + 1) 24 #[.int .i64 0, .int .i64 0, .string ⟨#[]⟩, .string ⟨#[]⟩]) :=
              Lib.hid ⟨((HI.out.1.alloc _).alloc _).drew.drew, (below_new (below_new HI.out.2.1 _) _).drew.drew, (HI.out.2.2.alloc _).alloc _, heap_alloc2_new _ _ _⟩
            go_region_with (first
              | (refine (HR.out _ HI2.out.1.drew).mono ?_; rintro e w3 ⟨rfl, hb⟩)
              | (refine (HR.out _ HI3.out.1).mono ?_; rintro e w3 ⟨rfl, hb⟩; have z0 := (HI3.out.2.2.2.call hb).cell 0; have z1 := (HI3.out.2.2.2.call hb).cell 1; have z2 := (HI3.out.2.2.2.call hb).cell 2; have z3 := (HI3.out.2.2.2.call hb).cell 3; have y0 := (HI3.out.2.2.2.call hb).frozen 0; have y1 := (HI3.out.2.2.2.call hb).frozen 1; have y2 := (HI3.out.2.2.2.call hb).frozen 2; have y3 := (HI3.out.2.2.2.call hb).frozen 3))
            all_goals first
              | (have HJ : Hid (JI w w3.heap.size #[.int .i64 q, .int .i64 a, .string ⟨n.toArray⟩, .string ⟨v.toArray⟩] (w3.alloc (.cells #[.int .i64 q, .int .i64 a, .string ⟨n.toArray⟩, .string ⟨v.toArray⟩] 24))) := Lib.hid ⟨below_new (below_call HI2.out.2.1.drew hb) _, (HI2.out.2.2.drew.call hb).alloc _, Blk.new _ _ _, (HI2.out.2.2.drew.call hb).lt⟩
                 generalize w3.alloc (.cells #[.int .i64 q, .int .i64 a, .string ⟨n.toArray⟩, .string ⟨v.toArray⟩] 24) = W4 at HJ ⊢
                 generalize w3.heap.size = g7 at HJ ⊢)
              | (have HJ : Hid (JI w (wr.heap.size + 1) #[.int .i64 q, .int .i64 a, .string ⟨n.toArray⟩, .string ⟨v.toArray⟩] ((((w3.setCell ⟨wr.heap.size + 1, 0, none⟩ (.int .i64 q)).setCell ⟨wr.heap.size + 1, 1, none⟩ (.int .i64 a)).setCell ⟨wr.heap.size + 1, 2, none⟩ (.string ⟨n.toArray⟩)).setCell ⟨wr.heap.size + 1, 3, none⟩ (.string ⟨v.toArray⟩))) := Lib.hid ⟨below_put4 (below_call HI3.out.2.1 hb) (by have := HI.out.2.2.lt; omega), ((((HI3.out.2.2.1.call hb).far (by have := HI.out.2.2.lt; simp; omega) _).far (by have := HI.out.2.2.lt; simp; omega) _).far (by have := HI.out.2.2.lt; simp; omega) _).far (by have := HI.out.2.2.lt; simp; omega) _, (HI3.out.2.2.2.call hb).put4, by have := HI.out.2.2.lt; omega⟩
                 generalize (((w3.setCell ⟨wr.heap.size + 1, 0, none⟩ (.int .i64 q)).setCell ⟨wr.heap.size + 1, 1, none⟩ (.int .i64 a)).setCell ⟨wr.heap.size + 1, 2, none⟩ (.string ⟨n.toArray⟩)).setCell ⟨wr.heap.size + 1, 3, none⟩ (.string ⟨v.toArray⟩) = W4 at HJ ⊢
                 generalize wr.heap.size + 1 = g7 at HJ ⊢)
            all_goals (
              have c0 := HJ.out.2.2.1.cell 0
              have f0 := HJ.out.2.2.1.frozen 0
              have HJ2 : Hid (JI w g7 #[.int .i64 (k : Int), .int .i64 a, .string ⟨n.toArray⟩, .string ⟨v.toArray⟩] (W4.setCell ⟨g7, 0, none⟩ (.int .i64 (k : Int)))) := JI.kind HJ
              have e0 := HJ2.out.2.2.1.cell 0
              have e1 := HJ2.out.2.2.1.cell 1
              have e2 := HJ2.out.2.2.1.cell 2
              have e3 := HJ2.out.2.2.1.cell 3
              have HPr := Lib.hid (print_any ⟨(k : Int), a, n, v⟩ (by simp only; omega) (by simp only; omega) hsz.2.2.1 _ (HGw.out.below HJ2.out.1 (Nat.le_refl _)))
              obtain ⟨PS', hPS⟩ : ∃ x, Cmd.printS ⟨(k : Int), a, n, v⟩ = x := ⟨_, rfl⟩
              obtain ⟨PE', hPE⟩ : ∃ x, Cmd.printE ⟨(k : Int), a, n, v⟩ = x := ⟨_, rfl⟩
              rw [hPS, hPE] at HPr
              have HPS := Lib.hid hPS
              have HPE := Lib.hid hPE
              clear hPS hPE hi hb
              unfold cV at HPr
              go_wp2_with fail
              refine HPr.out.mono ?_
              rintro e w6 ⟨rfl, hb⟩
              have HJ6 := JI.call HJ2 hb
              clear hb c0 f0 e0 e1 e2 e3
              have e0 := HJ6.out.2.2.1.cell 0
              have e1 := HJ6.out.2.2.1.cell 1
              have e2 := HJ6.out.2.2.1.cell 2
              have e3 := HJ6.out.2.2.1.cell 3
              have r0 := HJ6.out.2.1.cell 0
              have r1 := HJ6.out.2.1.cell 1
              have r2 := HJ6.out.2.1.cell 2
              have r3 := HJ6.out.2.1.cell 3
              have q0 := HJ6.out.2.1.frozen 0
              have q1 := HJ6.out.2.1.frozen 1
              have q2 := HJ6.out.2.1.frozen 2
              have q3 := HJ6.out.2.1.frozen 3
              have HI6 : Hid (Good w6 ∧ Below w.heap.size w w6 ∧ Blk w6 w.heap.size 24 #[.int .i64 0, .int .i64 0, .string ⟨#[]⟩, .string ⟨#[]⟩]) := Lib.hid ⟨HGw.out.below HJ6.out.1 (Nat.le_refl _), HJ6.out.1, HJ6.out.2.1⟩
              have hmiss : candB k s = false → Hid (parseAt s (k + 1) = none) := fun h => Lib.hid (parseAt_skip HN.out (by rw [HH.out, h, Bool.and_false]))
              cases B with
              | false =>
                have HN2 := hmiss (by rw [HCB.out]; rfl)
                clear hmiss
                go_wp2_with fail
                go_roundw
                case rel => exact ⟨k + 1, by omega, by go_num, HN2, HI6⟩
                case measure => simp [intOf]; omega
              | true =>
                cases hok : Cmd.okB ⟨(k : Int), a, n, v⟩ with
                | false =>
                  have HN2 := hmiss (by rw [HCB.out, hok]; rfl)
                  have hPE2 : PE' = 2 := by rw [← HPE.out]; exact (print_no hok).2
                  subst hPE2
                  clear hmiss hok
                  go_wp2_with fail
                  go_roundw
                  case rel => exact ⟨k + 1, by omega, by go_num, HN2, HI6⟩
                  case measure => simp [intOf]; omega
                | true =>
                  have hPE2 : PE' = 0 := by rw [← HPE.out]; exact (print_yes hok).2
                  subst hPE2
                  have hPS2 : PS' = Cmd.line k ⟨(k : Int), a, n, v⟩ := by rw [← HPS.out]; exact (print_yes hok).1
                  by_cases hs2 : PS' = s
                  · have HRes : Hid (parseS s = ⟨(k : Int), a, n, v⟩ ∧ parseE s = 0) := Lib.hid (by
                      have h1 := parseAt_hit HN.out (by rw [HH.out, HCB.out, hok, decide_eq_true (show Cmd.line k ⟨(k : Int), a, n, v⟩ = s by rw [← hPS2]; exact hs2)]; simp)
                      rw [HCA.out] at h1
                      have h2 := parseAt_more h1 (15 - k)
                      rw [show k + 1 + (15 - k) = 16 by omega] at h2
                      unfold parseS parseE
                      rw [HQ.out, h2]
                      exact ⟨rfl, rfl⟩)
                    have hs3 : (PS' == s) = true := by simpa using hs2
                    clear hmiss hok hPS2 hs2
                    go_wp2_with fail
                    refine bodyPost_ret (results_cmd rfl _ _ w.heap.size _ _ rfl HJ6.out.2.1.put4 rfl) rfl ?_
                    exact ⟨by rw [HRes.out.1, HRes.out.2]; rfl, below_put4 HJ6.out.1 (Nat.le_refl _)⟩
                  · have HN2 := hmiss (by rw [HCB.out, hok, decide_eq_false (by rw [← hPS2]; exact hs2)]; rfl)
                    have hs3 : (PS' == s) = false := by simpa using hs2
                    clear hmiss hok hPS2 hs2
                    go_wp2_with fail
                    go_roundw
                    case rel => exact ⟨k + 1, by omega, by go_num, HN2, HI6⟩
                    case measure => simp [intOf]; omega)
          · have hwq : (W == FWs) = false := by simpa using hw
            have HN2 := Lib.hid (parseAt_skip HN.out (by rw [HH.out, decide_eq_false hw]; rfl))
            clear hw
            go_wp2_with fail
            go_region
            all_goals (
              go_wp2_with fail
              go_roundw
              case rel => exact ⟨k + 1, by omega, by go_num, HN2, HI2⟩
              case measure => simp [intOf]; omega)
      · obtain rfl : k = 16 := by omega
        have HR : Hid (parseS s = Cmd.zero ∧ parseE s = 7) := Lib.hid (by unfold parseS parseE; rw [HQ.out, HN.out]; exact ⟨rfl, rfl⟩)
        have c0 := HI.out.2.2.cell 0
        have c1 := HI.out.2.2.cell 1
        have c2 := HI.out.2.2.cell 2
        have c3 := HI.out.2.2.cell 3
        have f0 := HI.out.2.2.frozen 0
        have f1 := HI.out.2.2.frozen 1
        have f2 := HI.out.2.2.frozen 2
        have f3 := HI.out.2.2.frozen 3
        rw [show ((16 : Nat) : Int) = 16 from rfl]
        go_wp2_with fail
        refine bodyPost_ret (results_cmd rfl _ _ w.heap.size _ _ rfl HI.out.2.2.put4 rfl) rfl ?_
        exact ⟨by rw [HR.out.1, HR.out.2]; rfl, below_put4 HI.out.2.1 (Nat.le_refl _)⟩
end Go.Proofs.YtphpgbbjbncfoaaGreatDoor

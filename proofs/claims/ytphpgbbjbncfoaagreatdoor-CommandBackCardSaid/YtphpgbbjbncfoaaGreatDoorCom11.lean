/-
  LAYER 42: command.Print, command.Check.
-/
import Derived.Test.YtphpgbbjbncfoaaGreatDoorCom10
namespace Go.Proofs.YtphpgbbjbncfoaaGreatDoor
open Go.ChangeShapes Go.WideShapes Go.ChangeAt Go.RowKit

/-- What the walk of Print keeps: the command's block, the form's block. -/
def PI (w0 : World) (g0 : Nat) (cs0 : Array Value) (g1 : Nat) (cs1 : Array Value) (W : World) : Prop := Good W ∧ Below w0.heap.size w0 W ∧ Blk W g0 24 cs0 ∧ Blk W g1 72 cs1
section
variable {w0 W W' : World} {g0 g1 : Nat} {cs0 cs1 : Array Value}
theorem PI.good (h : Hid (PI w0 g0 cs0 g1 cs1 W)) : Good W := h.out.1
theorem PI.drew (h : Hid (PI w0 g0 cs0 g1 cs1 W)) : Hid (PI w0 g0 cs0 g1 cs1 W.drew) := Lib.hid ⟨h.out.1.drew, h.out.2.1.drew, h.out.2.2.1, h.out.2.2.2⟩
theorem PI.call (h : Hid (PI w0 g0 cs0 g1 cs1 W)) (hb : Below W.heap.size W W') : Hid (PI w0 g0 cs0 g1 cs1 W') := Lib.hid ⟨h.out.1.call hb, below_call h.out.2.1 hb, h.out.2.2.1.call hb, h.out.2.2.2.call hb⟩
end
/-- The cells that Print reads. -/
def PS (w0 : World) (g0 g1 : Nat) (x0 x1 x2 x3 y0 y1 y2 y3 y4 : Value) (W : World) : Prop :=
  W.cell? ⟨g0, 0, none⟩ = some x0 ∧ W.cell? ⟨g0, 1, none⟩ = some x1 ∧ W.cell? ⟨g0, 2, none⟩ = some x2 ∧ W.cell? ⟨g0, 3, none⟩ = some x3 ∧ W.cell? ⟨g1, 0, none⟩ = some y0 ∧ W.cell? ⟨g1, 1, none⟩ = some y1 ∧ W.cell? ⟨g1, 2, none⟩ = some y2 ∧ W.cell? ⟨g1, 3, none⟩ = some y3 ∧ Hid (PI w0 g0 #[x0, x1, x2, x3] g1 #[y0, y1, y2, y3, y4] W)
theorem PS.of {w0 W : World} {g0 g1 : Nat} {x0 x1 x2 x3 y0 y1 y2 y3 y4 : Value} (h : Hid (PI w0 g0 #[x0, x1, x2, x3] g1 #[y0, y1, y2, y3, y4] W)) : PS w0 g0 g1 x0 x1 x2 x3 y0 y1 y2 y3 y4 W :=
  ⟨h.out.2.2.1.cell 0, h.out.2.2.1.cell 1, h.out.2.2.1.cell 2, h.out.2.2.1.cell 3, h.out.2.2.2.cell 0, h.out.2.2.2.cell 1, h.out.2.2.2.cell 2, h.out.2.2.2.cell 3, h⟩
theorem PS.limb {w0 W : World} {g0 g1 : Nat} {x0 x1 x2 x3 y0 y1 y2 y3 y4 : Value} (h : PS w0 g0 g1 x0 x1 x2 x3 y0 y1 y2 y3 y4 W) : Hid (PI w0 g0 #[x0, x1, x2, x3] g1 #[y0, y1, y2, y3, y4] W) := h.2.2.2.2.2.2.2.2
theorem PI.limb8 {p0 p1 p2 p3 p4 p5 p6 p7 : Prop} {w0 W : World} {g0 g1 : Nat} {cs0 cs1 : Array Value} (h : p0 ∧ p1 ∧ p2 ∧ p3 ∧ p4 ∧ p5 ∧ p6 ∧ p7 ∧ Hid (PI w0 g0 cs0 g1 cs1 W)) : Hid (PI w0 g0 cs0 g1 cs1 W) := h.2.2.2.2.2.2.2.2
theorem print_no {c : Cmd.C} (h : Cmd.okB c = false) : Cmd.printS c = [] ∧ Cmd.printE c = 2 := by
  unfold Cmd.printS Cmd.printE Cmd.print
  rw [h]
  exact ⟨rfl, rfl⟩
theorem print_yes {c : Cmd.C} (h : Cmd.okB c = true) : Cmd.printS c = Cmd.line c.kind.toNat c ∧ Cmd.printE c = 0 := by
  unfold Cmd.printS Cmd.printE Cmd.print
  rw [h]
  exact ⟨rfl, rfl⟩
theorem text_len (cl : Nat) (c : Cmd.C) (hv : c.val.length ≤ 100000) (hn : c.name.length ≤ 100000) (h0 : 0 ≤ c.a) (h1 : c.a ≤ 9223372036854775807) : (Cmd.text cl c).length ≤ 1000000 := by
  have hlen : (Lib.itoa c.a).length ≤ 20 := by
    rw [Dec.itoa_nn h0]
    exact Dec.dec_length_le (by omega)
  have hq := (Cmd.quote_len c.val).2
  unfold Cmd.text
  split <;> simp <;> omega
theorem word_short (n : Nat) : ((Cmd.words[n]?).getD []).length ≤ 8 := by
  by_cases h : n < 16
  · have key : ∀ i : Fin 16, ((Cmd.words[i.val]?).getD []).length ≤ 8 := by decide
    exact key ⟨n, h⟩
  · rw [List.getElem?_eq_none (by show 16 ≤ n; omega)]
    decide

set_option maxHeartbeats 4000000 in
set_option maxRecDepth 20000 in
/-- command.Print. -/
theorem print_any (c : Cmd.C) (hv : c.val.length ≤ 100000) (hn : c.name.length ≤ 100000) (ha : c.a ≤ 9223372036854775807) (w : World) (hG : Good w) :
    Calls Tryz.prog 15 #[cV c] w fun e w' => e = .returned (.tuple #[.string ⟨(Cmd.printS c).toArray⟩, .int .i64 (Cmd.printE c)]) ∧ Below w.heap.size w w' := by
  by_cases hk : 1 ≤ c.kind ∧ c.kind ≤ 15
  · obtain ⟨k, a, n, v⟩ := c
    simp only at hv hn ha hk
    obtain ⟨m, rfl⟩ : ∃ m : Nat, k = m := ⟨k.toNat, by omega⟩
    have H := Lib.hid (fm m (by omega) (by omega))
    have hok : Cmd.okB ⟨(m : Int), a, n, v⟩ = (decide (0 ≤ a ∧ a ≤ Cmd.most m) && Cmd.valid (Cmd.cls m) ⟨(m : Int), a, n, v⟩ && decide (((Cmd.words[m]?).getD [] ++ Cmd.text (Cmd.cls m) ⟨(m : Int), a, n, v⟩).length ≤ 20000)) := by
      unfold Cmd.okB Cmd.line
      simp only [Int.toNat_natCast]
      congr 2
      rw [decide_eq_decide]
      omega
    have hline : Cmd.line ((m : Int).toNat) ⟨(m : Int), a, n, v⟩ = (Cmd.words[m]?).getD [] ++ Cmd.text (Cmd.cls m) ⟨(m : Int), a, n, v⟩ := rfl
    have hws := word_short m
    have htl := text_len (Cmd.cls m) ⟨(m : Int), a, n, v⟩ hv hn
    obtain ⟨P, hP⟩ : ∃ P, Cmd.printS ⟨(m : Int), a, n, v⟩ = P := ⟨_, rfl⟩
    obtain ⟨E, hE⟩ : ∃ E, Cmd.printE ⟨(m : Int), a, n, v⟩ = E := ⟨_, rfl⟩
    rw [hP, hE]
    have hno : Cmd.okB ⟨(m : Int), a, n, v⟩ = false → Hid (P = [] ∧ E = 2) := fun h => Lib.hid (by rw [← hP, ← hE]; exact print_no h)
    have hyes : Cmd.okB ⟨(m : Int), a, n, v⟩ = true → Hid (P = (Cmd.words[m]?).getD [] ++ Cmd.text (Cmd.cls m) ⟨(m : Int), a, n, v⟩ ∧ E = 0) := fun h => Lib.hid (by rw [← hP, ← hE]; exact print_yes h)
    generalize (Cmd.words[m]?).getD [] = W at *
    have HOK := Lib.hid hok
    have HNO := Lib.hid hno
    have HYES := Lib.hid hyes
    have HTL := Lib.hid htl
    have HG := Lib.hid (hG.alloc (.cells #[.int .i64 (m : Int), .int .i64 a, .string ⟨n.toArray⟩, .string ⟨v.toArray⟩] 24))
    clear hP hE hno hyes hok hline htl hG
    have eV := H.out.eV
    have eP := H.out.eP
    unfold cV
    go_enter Tryz.func15, Tryz.ntmps15
    go_wp2_with fail
    refine (H.out.of _).mono ?_
    rintro e w1 ⟨rfl, hb⟩
    generalize fV (Cmd.cls m) = FV at *
    generalize fP (Cmd.cls m) = FP at *
    generalize fR (Cmd.cls m) = FR at *
    have HP1 : Hid (PI w w.heap.size #[.int .i64 (m : Int), .int .i64 a, .string ⟨n.toArray⟩, .string ⟨v.toArray⟩] w1.heap.size #[.string ⟨W.toArray⟩, .int .i64 (Cmd.most m), .func (.func FV) #[] #[], .func (.func FP) #[] #[], .func (.func FR) #[] #[]] (w1.alloc (.cells #[.string ⟨W.toArray⟩, .int .i64 (Cmd.most m), .func (.func FV) #[] #[], .func (.func FP) #[] #[], .func (.func FR) #[] #[]] 72))) :=
      Lib.hid ⟨(HG.out.call hb).alloc _, below_new (below_call (below_new (Below.refl _ _) _) hb) _, (blk_new _ _ _ _ hb).alloc _, Blk.new _ _ _⟩
    clear hb
    obtain ⟨c0, c1, c2, c3, d0, d1, d2, d3, _⟩ := PS.of HP1
    by_cases h0 : a < 0
    · have HN := HNO.out (by rw [HOK.out, decide_eq_false (by omega)]; rfl)
      clear eV eP
      go_wp2_with fail
      go_ret2
      exact ⟨by rw [HN.out.1, HN.out.2]; rfl, HP1.out.2.1⟩
    · by_cases h1 : Cmd.most m < a
      · have HN := HNO.out (by rw [HOK.out, decide_eq_false (by omega)]; rfl)
        clear eV eP
        go_wp2_with fail
        go_ret2
        exact ⟨by rw [HN.out.1, HN.out.2]; rfl, HP1.out.2.1⟩
      · go_wp2_with fail
        refine (H.out.v ⟨(m : Int), a, n, v⟩ _ hv hn (PI.good HP1)).mono ?_
        rintro e w2 ⟨rfl, hb⟩
        have HP2 := PI.call HP1 hb
        clear hb c0 c1 c2 c3 d0 d1 d2 d3
        have hT := HTL.out (by omega) ha
        have hT2 := fun w => H.out.p ⟨(m : Int), a, n, v⟩ w hv hn (by simp only; omega) ha
        have hV : ∃ V, Cmd.valid (Cmd.cls m) ⟨(m : Int), a, n, v⟩ = V := ⟨_, rfl⟩
        obtain ⟨V, hV⟩ := hV
        generalize Cmd.text (Cmd.cls m) ⟨(m : Int), a, n, v⟩ = T at *
        rw [hV] at HOK ⊢
        have HT2 := Lib.hid hT2
        clear hT2 hV H HTL
        cases V with
        | false =>
          have HN := HNO.out (by rw [HOK.out]; simp)
          clear eV eP
          go_wp2_with fail
          go_ret2
          exact ⟨by rw [HN.out.1, HN.out.2]; rfl, HP2.out.2.1⟩
        | true =>
          have s1 : ¬ 9223372036854775807 < W.length + T.length := by omega
          have h0' : 0 ≤ a := by omega
          have hokk : Cmd.okB ⟨(m : Int), a, n, v⟩ = decide (W.length + T.length ≤ 20000) := by
            rw [HOK.out, decide_eq_true (by omega), List.length_append]
            rfl
          have HOK2 := Lib.hid hokk
          have hS := PS.of HP2
          have HS := Lib.hid hS
          clear hokk hS HOK HP1
          have HQ2 := Lib.hid HP2
          clear HP2
          obtain ⟨c0, c1, c2, c3, d0, d1, d2, d3, _⟩ := HS.out
          go_wp2_with fail
          clear c0 c1 c2 c3 d0 d1 d2 d3
          go_region_held3 (fun Z => Z.cell? ⟨w.heap.size, 0, none⟩ = some (.int .i64 (m : Int)) ∧ Z.cell? ⟨w.heap.size, 1, none⟩ = some (.int .i64 a) ∧ Z.cell? ⟨w.heap.size, 2, none⟩ = some (.string ⟨n.toArray⟩) ∧ Z.cell? ⟨w.heap.size, 3, none⟩ = some (.string ⟨v.toArray⟩) ∧ Z.cell? ⟨w1.heap.size, 0, none⟩ = some (.string ⟨W.toArray⟩) ∧ Z.cell? ⟨w1.heap.size, 1, none⟩ = some (.int .i64 (Cmd.most m)) ∧ Z.cell? ⟨w1.heap.size, 2, none⟩ = some (.func (.func FV) #[] #[]) ∧ Z.cell? ⟨w1.heap.size, 3, none⟩ = some (.func (.func FP) #[] #[]) ∧ Hid (PI w w.heap.size #[.int .i64 (m : Int), .int .i64 a, .string ⟨n.toArray⟩, .string ⟨v.toArray⟩] w1.heap.size #[.string ⟨W.toArray⟩, .int .i64 (Cmd.most m), .func (.func FV) #[] #[], .func (.func FP) #[] #[], .func (.func FR) #[] #[]] Z))
            (first | exact PS.of (PI.drew HQ2.out) | exact PS.of (PI.call (PI.limb8 (by assumption)) (by assumption)))
            (first | (refine (HT2.out _ (PI.good (PI.limb8 (by assumption)))).mono ?_; rintro e w' ⟨rfl, hb⟩))
          have HZ := PI.limb8 (by assumption)
          rw [ByteArray.mk_append_mk]
          have hXl : (W ++ T).length = W.length + T.length := List.length_append
          by_cases h20 : W.length + T.length ≤ 20000
          · have HY := HYES.out (by rw [HOK2.out, decide_eq_true h20])
            generalize W ++ T = X at *
            have l1 : ¬ (20000 : Int) < (X.length : Int) := by omega
            clear hXl h20
            go_wp2_with fail
            go_ret2
            exact ⟨by rw [HY.out.1, HY.out.2]; rfl, HZ.out.2.1⟩
          · have HN := HNO.out (by rw [HOK2.out, decide_eq_false h20])
            generalize W ++ T = X at *
            have l1 : (20000 : Int) < (X.length : Int) := by omega
            clear hXl h20
            go_wp2_with fail
            go_ret2
            exact ⟨by rw [HN.out.1, HN.out.2]; rfl, HZ.out.2.1⟩
  · obtain ⟨k, a, n, v⟩ := c
    simp only at hk
    have hok : Cmd.okB ⟨k, a, n, v⟩ = false := by
      unfold Cmd.okB
      simp only
      rw [decide_eq_false (by omega)]
      rfl
    have HN := Lib.hid (print_no hok)
    have H := Lib.hid (fun w => of_none k (by omega) w)
    clear hok
    unfold cV
    go_enter Tryz.func15, Tryz.ntmps15
    go_wp2_with fail
    refine (H.out _).mono ?_
    rintro e w1 ⟨rfl, hb⟩
    have HB := Lib.hid (below_new (below_call (below_new (Below.refl w.heap.size w) _) hb) (.cells (formL 0).toArray 72))
    clear hb
    rw [show (formL 0).toArray = #[.string ⟨#[]⟩, .int .i64 0, .nilFunc, .nilFunc, .nilFunc] from rfl] at HB ⊢
    go_wp2_with fail
    go_ret2
    exact ⟨by rw [HN.out.1, HN.out.2]; rfl, HB.out⟩

/-- command.Check. -/
theorem check_any (c : Cmd.C) (hv : c.val.length ≤ 100000) (hn : c.name.length ≤ 100000) (ha : c.a ≤ 9223372036854775807) (w : World) (hG : Good w) :
    Calls Tryz.prog 16 #[cV c] w fun e w' => e = .returned (.int .i64 (Cmd.printE c)) ∧ Below w.heap.size w w' := by
  obtain ⟨k, a, n, v⟩ := c
  have H := Lib.hid (fun w hG => print_any ⟨k, a, n, v⟩ hv hn ha w hG)
  have HG := Lib.hid (hG.alloc (.cells #[.int .i64 k, .int .i64 a, .string ⟨n.toArray⟩, .string ⟨v.toArray⟩] 24))
  clear hG
  generalize Cmd.printS ⟨k, a, n, v⟩ = S at *
  generalize Cmd.printE ⟨k, a, n, v⟩ = E at *
  unfold cV
  go_enter Tryz.func16, Tryz.ntmps16
  go_wp2_with fail
  refine (H.out _ HG.out).mono ?_
  rintro e w1 ⟨rfl, hb⟩
  have HB := Lib.hid (below_call (below_new (Below.refl w.heap.size w) _) hb)
  clear hb
  go_wp2_with fail
  go_ret
  exact ⟨rfl, HB.out⟩
end Go.Proofs.YtphpgbbjbncfoaaGreatDoor

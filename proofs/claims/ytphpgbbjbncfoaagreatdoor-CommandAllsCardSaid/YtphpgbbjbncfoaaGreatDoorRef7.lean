/-
  LAYER 42, THE REFERENCE: guess: the walk.
-/
import Derived.Test.YtphpgbbjbncfoaaGreatDoorRef6
import Derived.Test.YtphpgbbjbncfoaaGreatDoorRef5
import Derived.Test.YtphpgbbjbncfoaaGreatDoorComNW
import Derived.Deep.CutBlock
import Derived.Deep.DeepCutAuto
namespace Go.Proofs.YtphpgbbjbncfoaaGreatDoor
open Go.ChangeShapes Go.WideShapes Go.ChangeAt Go.RowKit

/-- What stands while a line is guessed: the result's block, the pieces, the command's block. -/
def GI (w : World) (g b o : Nat) (x0 x1 x2 x3 : Value) (ps : List (List UInt8)) (W : World) : Prop :=
  Below w.heap.size w W ∧ Blk W w.heap.size 24 #[.int .i64 0, .int .i64 0, .string ⟨#[]⟩, .string ⟨#[]⟩] ∧ Rd W g (some ⟨b, o, none⟩) (strsV ps) ∧ Blk W g 24 #[x0, x1, x2, x3] ∧ w.heap.size < g
section
variable {w W W' : World} {g b o : Nat} {x0 x1 x2 x3 : Value} {ps : List (List UInt8)}
theorem GI.call (h : Hid (GI w g b o x0 x1 x2 x3 ps W)) (hb : Below W.heap.size W W') : Hid (GI w g b o x0 x1 x2 x3 ps W') := Lib.hid ⟨below_call h.out.1 hb, h.out.2.1.call hb, h.out.2.2.1.below (hb.mono (Nat.le_of_lt h.out.2.2.2.1.lt)), h.out.2.2.2.1.call hb, h.out.2.2.2.2⟩
theorem GI.drew (h : Hid (GI w g b o x0 x1 x2 x3 ps W)) : Hid (GI w g b o x0 x1 x2 x3 ps W.drew) := Lib.hid ⟨h.out.1.drew, h.out.2.1.drew, h.out.2.2.1.drew, h.out.2.2.2.1.drew, h.out.2.2.2.2⟩
theorem GI.set (h : Hid (GI w g b o x0 x1 x2 x3 ps W)) (i : Nat) (u : Value) (cs : Array Value) (hc : #[x0, x1, x2, x3].setIfInBounds i u = cs) : Below w.heap.size w (W.setCell ⟨g, i, none⟩ u) ∧ Blk (W.setCell ⟨g, i, none⟩ u) w.heap.size 24 #[.int .i64 0, .int .i64 0, .string ⟨#[]⟩, .string ⟨#[]⟩] ∧ Rd (W.setCell ⟨g, i, none⟩ u) g (some ⟨b, o, none⟩) (strsV ps) ∧ Blk (W.setCell ⟨g, i, none⟩ u) g 24 cs ∧ w.heap.size < g :=
  ⟨h.out.1.setCell (p := ⟨g, i, none⟩) (Nat.le_of_lt h.out.2.2.2.2) u, h.out.2.1.far (by show w.heap.size ≠ g; have := h.out.2.2.2.2; omega) _, h.out.2.2.1.setCell (p := ⟨g, i, none⟩) (Nat.le_refl _) u, by rw [← hc]; exact h.out.2.2.2.1.set i u, h.out.2.2.2.2⟩
theorem GI.set0 (h : Hid (GI w g b o x0 x1 x2 x3 ps W)) (u : Value) : Hid (GI w g b o u x1 x2 x3 ps (W.setCell ⟨g, 0, none⟩ u)) := Lib.hid (GI.set h 0 u _ (by simp))
theorem GI.set1 (h : Hid (GI w g b o x0 x1 x2 x3 ps W)) (u : Value) : Hid (GI w g b o x0 u x2 x3 ps (W.setCell ⟨g, 1, none⟩ u)) := Lib.hid (GI.set h 1 u _ (by simp))
theorem GI.set2 (h : Hid (GI w g b o x0 x1 x2 x3 ps W)) (u : Value) : Hid (GI w g b o x0 x1 u x3 ps (W.setCell ⟨g, 2, none⟩ u)) := Lib.hid (GI.set h 2 u _ (by simp))
theorem GI.set3 (h : Hid (GI w g b o x0 x1 x2 x3 ps W)) (u : Value) : Hid (GI w g b o x0 x1 x2 u ps (W.setCell ⟨g, 3, none⟩ u)) := Lib.hid (GI.set h 3 u _ (by simp))
theorem GI.cells (h : Hid (GI w g b o x0 x1 x2 x3 ps W)) : W.cell? ⟨g, 0, none⟩ = some x0 ∧ W.cell? ⟨g, 1, none⟩ = some x1 ∧ W.cell? ⟨g, 2, none⟩ = some x2 ∧ W.cell? ⟨g, 3, none⟩ = some x3 ∧ (∀ i, W.frozen? ⟨g, i, none⟩ = false) :=
  ⟨h.out.2.2.2.1.cell 0, h.out.2.2.2.1.cell 1, h.out.2.2.2.1.cell 2, h.out.2.2.2.1.cell 3, fun i => h.out.2.2.2.1.frozen i⟩
theorem GI.res (h : Hid (GI w g b o x0 x1 x2 x3 ps W)) : W.cell? ⟨w.heap.size, 0, none⟩ = some (.int .i64 0) ∧ W.cell? ⟨w.heap.size, 1, none⟩ = some (.int .i64 0) ∧ W.cell? ⟨w.heap.size, 2, none⟩ = some (.string ⟨#[]⟩) ∧ W.cell? ⟨w.heap.size, 3, none⟩ = some (.string ⟨#[]⟩) ∧ (∀ i, W.frozen? ⟨w.heap.size, i, none⟩ = false) :=
  ⟨h.out.2.1.cell 0, h.out.2.1.cell 1, h.out.2.1.cell 2, h.out.2.1.cell 3, fun i => h.out.2.1.frozen i⟩
theorem GI.piece (h : Hid (GI w g b o x0 x1 x2 x3 ps W)) {i : Nat} {p : List UInt8} (hp : ps[i]? = some p) : W.cell? ⟨b, o + i, none⟩ = some (.string ⟨p.toArray⟩) := by
  obtain ⟨b', o', e, _, hc⟩ := h.out.2.2.1 (by intro e; have h2 := (List.getElem?_eq_some_iff.1 hp).1; have := congrArg List.length e; unfold strsV at this; rw [List.length_map, List.length_nil] at this; omega)
  injection e with e
  injection e with e1 e2
  subst e1 e2
  exact hc i _ (by unfold strsV; rw [List.getElem?_map, hp]; rfl)
theorem GI.limb {p0 q : Prop} (h : p0 ∧ q) : q := h.2
end

theorem piece_le {s : UInt8} (l : List UInt8) : ∀ p : List UInt8, p ∈ Sp.pieces s l → p.length ≤ l.length := by
  induction l with
  | nil => intro p hp; rw [show Sp.pieces s [] = [[]] from rfl, List.mem_singleton] at hp; rw [hp]; simp
  | cons c r ih =>
    intro p hp
    obtain ⟨q, qs, hq⟩ := Sp.pieces_ne (s := s) r
    by_cases hc : c = s
    · subst hc
      rw [Sp.pieces_sep] at hp
      rcases List.mem_cons.1 hp with rfl | hp
      · simp
      · have := ih p hp; rw [List.length_cons]; omega
    · rw [Sp.pieces_other hc hq] at hp
      rw [hq] at ih
      rcases List.mem_cons.1 hp with rfl | hp
      · have := ih q (by simp); rw [List.length_cons, List.length_cons]; omega
      · have := ih p (by simp [hp]); rw [List.length_cons]; omega
theorem pieces_two {s : UInt8} : ∀ {l p q : List UInt8} {qs : List (List UInt8)}, Sp.pieces s l = p :: q :: qs → ∃ r, l = p ++ s :: r
  | [], p, q, qs, h => by cases h
  | c :: l, p, q, qs, h => by
    obtain ⟨p', ps', hp⟩ := Sp.pieces_ne (s := s) l
    by_cases hc : c = s
    · subst hc
      rw [Sp.pieces_sep] at h
      injection h with h1 h2
      exact ⟨l, by rw [← h1]; rfl⟩
    · rw [Sp.pieces_other hc hp] at h
      injection h with h1 h2
      rw [h2] at hp
      obtain ⟨r, hr⟩ := pieces_two hp
      exact ⟨r, by rw [← h1, hr]; rfl⟩

set_option maxHeartbeats 3000000 in
set_option maxRecDepth 20000 in
theorem rguess_any (s : List UInt8) (hs : s.length ≤ 100000) (w : World) :
    Calls Tryz.prog 45 #[.string ⟨s.toArray⟩] w fun e w' => e = .returned (cV (rguess s)) ∧ Below w.heap.size w w' := by
  obtain ⟨ps, hps⟩ : ∃ ps, Sp.pieces 32 s = ps := ⟨_, rfl⟩
  obtain ⟨p0, pr, hp0⟩ := Sp.pieces_ne (s := 32) s
  rw [hps] at hp0
  have hps0 : ps[0]? = some p0 := by rw [hp0]; rfl
  have hhead : rhead s = p0 := by unfold rhead; rw [hps, hps0]; rfl
  have hpl1 : 1 ≤ ps.length := by rw [hp0]; simp
  have hpl2 : ps.length ≤ s.length + 1 := by rw [← hps]; exact Sp.pieces_le s
  obtain ⟨R, hR⟩ : ∃ R, rguess s = R := ⟨_, rfl⟩
  rw [hR]
  have HR := Lib.hid hR
  have HPS := Lib.hid hps
  have HHd := Lib.hid hhead
  have HSp : Hid (∀ W, Calls Tryz.prog 53 #[.string ⟨s.toArray⟩, .int .u8 32] W fun e w' => ∃ v, e = .returned v ∧ w'.ownsRow W.heap.size 9 1 v ps.length (strsV ps) ∧ Below W.heap.size W w') := Lib.hid fun W => by
    have := rsplit_any 32 s hs W
    rwa [hps] at this
  clear hR hps hp0 hhead
  go_enter Tryz.func45, Tryz.ntmps45
  go_wp2_with fail
  refine (HSp.out _).mono ?_
  rintro e w1 ⟨v, rfl, o1, hb⟩
  obtain ⟨A, cap, rfl, r1⟩ := own_slice o1
  obtain ⟨b, o, rfl, hbl, _⟩ := r1.at_ (j := 0) (by unfold strsV; rw [List.length_map]; omega)
  have HI : Hid (GI w w1.heap.size b o (.int .i64 0) (.int .i64 0) (.string ⟨#[]⟩) (.string ⟨#[]⟩) ps (w1.alloc (.cells #[.int .i64 0, .int .i64 0, .string ⟨#[]⟩, .string ⟨#[]⟩] 24))) := Lib.hid ⟨below_new (below_call (below_new (Below.refl w.heap.size w) _) hb) _, (blk_new _ _ _ _ hb).alloc _, r1.alloc (Nat.le_refl _) _, Blk.new _ _ _, by have := hb.size; rw [World.size_alloc] at this; omega⟩
  clear hb o1 r1 HSp hbl
  go_wp2_with fail
  go_loopw [5] (fun i wr => ∃ k : Nat, 1 ≤ k ∧ k ≤ 16 ∧ i = .int .i64 k ∧ Hid (GI w w1.heap.size b o (.int .i64 (rkindAt p0 (k - 1) : Int)) (.int .i64 0) (.string ⟨#[]⟩) (.string ⟨#[]⟩) ps wr)) (fun i _ => 16 - (intOf i).toNat)
  case atStart => exact ⟨1, Nat.le_refl _, by decide, rfl, HI⟩
  case round =>
    obtain ⟨k, hk1, hk, rfl, HI⟩ := hrel
    by_cases hlt : k ≤ 15
    · have l1 : (k : Int) ≤ 15 := by omega
      have HW : Hid (∀ W, Calls Tryz.prog 31 #[.int .i64 (k : Int)] W fun e w' => e = .returned (.string ⟨(Cmd.word' (k : Int)).toArray⟩) ∧ Below W.heap.size W w') := Lib.hid fun W => rword_any (k : Int) W
      obtain ⟨WD, hWD⟩ : ∃ x, Cmd.word' (k : Int) = x := ⟨_, rfl⟩
      rw [hWD] at HW
      have hw2 : (Cmd.words[k]?).getD [] = WD := by rw [← hWD, word_nat]
      have hstep : rkindAt p0 k = if WD = p0 then k else rkindAt p0 (k - 1) := by
        obtain ⟨n, rfl⟩ : ∃ n, k = n + 1 := ⟨k - 1, by omega⟩
        rw [rkindAt, hw2]
        rfl
      have HST := Lib.hid hstep
      clear hstep hw2 hWD
      have z1 : (0 : Int) < (ps.length : Int) := by omega
      have z2 : 0 < ps.length := by omega
      have z3 : ¬ ps = [] := by intro e; rw [e] at z2; simp at z2
      by_cases hwp : WD = p0
      · have e1 := eq_yes hwp
        have HN : Hid (rkindAt p0 (k + 1 - 1) = k) := Lib.hid (by rw [Nat.add_sub_cancel, HST.out, if_pos hwp])
        clear hwp
        go_wp2_with fail
        go_region_held3 (fun Z => Z.cell? ⟨b, o + 0, none⟩ = some (.string ⟨p0.toArray⟩) ∧ Z.cell? ⟨b, o, none⟩ = some (.string ⟨p0.toArray⟩) ∧ Hid (GI w w1.heap.size b o (.int .i64 (rkindAt p0 (k - 1) : Int)) (.int .i64 0) (.string ⟨#[]⟩) (.string ⟨#[]⟩) ps Z))
          (first | exact ⟨GI.piece (GI.drew HI) hps0, GI.piece (GI.drew HI) hps0, GI.drew HI⟩ | (have hx := GI.call (GI.limb (GI.limb (by assumption))) (by assumption); exact ⟨GI.piece hx hps0, GI.piece hx hps0, hx⟩))
          (first | (refine (HW.out _).mono ?_; rintro e w' ⟨rfl, hb⟩))
        have HZ := GI.limb (GI.limb (by assumption))
        obtain ⟨c0, c1, c2, c3, hf⟩ := GI.cells HZ
        have f0 := hf 0
        have HN2 := GI.set0 HZ (.int .i64 (k : Int))
        go_wp2_with fail
        go_roundw
        case rel => exact ⟨k + 1, by omega, by omega, by go_num, by rw [HN.out]; exact HN2⟩
        case measure => simp [intOf]; omega
      · have e1 := eq_no hwp
        have HN : Hid (rkindAt p0 (k + 1 - 1) = rkindAt p0 (k - 1)) := Lib.hid (by rw [Nat.add_sub_cancel, HST.out, if_neg hwp])
        clear hwp
        go_wp2_with fail
        go_region_held3 (fun Z => Z.cell? ⟨b, o + 0, none⟩ = some (.string ⟨p0.toArray⟩) ∧ Z.cell? ⟨b, o, none⟩ = some (.string ⟨p0.toArray⟩) ∧ Hid (GI w w1.heap.size b o (.int .i64 (rkindAt p0 (k - 1) : Int)) (.int .i64 0) (.string ⟨#[]⟩) (.string ⟨#[]⟩) ps Z))
          (first | exact ⟨GI.piece (GI.drew HI) hps0, GI.piece (GI.drew HI) hps0, GI.drew HI⟩ | (have hx := GI.call (GI.limb (GI.limb (by assumption))) (by assumption); exact ⟨GI.piece hx hps0, GI.piece hx hps0, hx⟩))
          (first | (refine (HW.out _).mono ?_; rintro e w' ⟨rfl, hb⟩))
        have HZ := GI.limb (GI.limb (by assumption))
        have HN2 := HZ
        go_wp2_with fail
        go_roundw
        case rel => exact ⟨k + 1, by omega, by omega, by go_num, by rw [HN.out]; exact HN2⟩
        case measure => simp [intOf]; omega
    · obtain rfl : k = 16 := by omega
      rw [show ((16 : Nat) : Int) = 16 from rfl]
      have hK : R = rguessK (rkindAt p0 15) s := by rw [← HR.out]; unfold rguess; rw [HHd.out]
      have hkl := rkind_le p0 15
      change Hid (GI w w1.heap.size b o (.int .i64 (rkindAt p0 15 : Int)) (.int .i64 0) (.string ⟨#[]⟩) (.string ⟨#[]⟩) ps wr) at HI
      generalize rkindAt p0 15 = m at *
      have HK := Lib.hid hK
      clear hK
      have HRest : Hid (rrest s = if 1 < ps.length then s.drop (p0.length + 1) else []) := Lib.hid (by unfold rrest; rw [HPS.out, HHd.out])
      have hrl : (rrest s).length ≤ s.length := by
        rw [HRest.out]
        split
        · rw [List.length_drop]; omega
        · simp
      obtain ⟨REST, hREST⟩ : ∃ x, rrest s = x := ⟨_, rfl⟩
      rw [hREST] at HRest hrl
      have HRR := Lib.hid hREST
      clear hREST
      have HP0 := Lib.hid (GI.piece HI hps0)
      go_upto_if 24 with fail
      go_cut [6] (fun s6 wx => s6 = .string ⟨REST.toArray⟩ ∧ wx = wr)
      case first =>
        have a0 := HP0.out
        have a00 : wr.cell? ⟨b, o, none⟩ = some (.string ⟨p0.toArray⟩) := by simpa using HP0.out
        have z1 : (0 : Int) < (ps.length : Int) := by omega
        have z2 : 0 < ps.length := by omega
        have z3 : ¬ ps = [] := by intro e; rw [e] at z2; simp at z2
        by_cases hl1 : 1 < ps.length
        · have y1 : (1 : Int) < (ps.length : Int) := by omega
          have hle : p0.length + 1 ≤ s.length := by
            have h0 := HPS.out
            match ps, hps0, hl1, h0 with
            | p :: q :: r, h1, _, h0 =>
              obtain ⟨r', hr'⟩ := pieces_two h0
              have : p = p0 := by simpa using h1
              subst this
              rw [hr']
              simp
          have y2 : (p0.length : Int) + 1 ≤ (s.length : Int) := by omega
          have y3 : (0 : Int) ≤ (p0.length : Int) + 1 := by omega
          have hcut : (⟨s.toArray⟩ : ByteArray).extract (p0.length + 1) s.length = ⟨REST.toArray⟩ := by
            rw [mk_extract, HRest.out, if_pos hl1, List.take_of_length_le (by rw [List.length_drop]; omega)]
          go_wp2_with fail
          go_meet
          exact ⟨rfl, rfl⟩
        · have y1 : ¬ (1 : Int) < (ps.length : Int) := by omega
          have hr : REST = [] := by rw [HRest.out, if_neg hl1]
          have HE := Lib.hid hr
          clear hr
          go_wp2_with fail
          go_meet
          exact ⟨by rw [HE.out], rfl⟩
      case rest =>
      obtain ⟨rfl, rfl⟩ := hcut
      clear HP0
      have n1 : ¬ w.heap.size = w1.heap.size := by have := HI.out.2.2.2.2; omega
      have n2 : ¬ w1.heap.size = w.heap.size := by have := HI.out.2.2.2.2; omega
      by_cases e : m = 1
      · have HV : Hid (R = ⟨m, 0, [], REST⟩) := Lib.hid (by rw [HK.out]; unfold rguessK; rw [if_pos e, HRR.out])
        have q1 : ((m : Int) == 1) = true := by simp; omega
        have q2 : ((m : Int) == 2) = false := by simp; omega
        have q15 : ((m : Int) == 15) = false := by simp; omega
        have q7 : ((m : Int) == 7) = false := by simp; omega
        have q10 : ((m : Int) == 10) = false := by simp; omega
        have q12 : ((m : Int) == 12) = false := by simp; omega
        have HM := Lib.hid e
        clear e
        obtain ⟨c0, c1, c2, c3, hf⟩ := GI.cells HI
        obtain ⟨r0, r1, r2, r3, hg⟩ := GI.res HI
        have f0 := hf 0
        have f1 := hf 1
        have f2 := hf 2
        have f3 := hf 3
        have g0 := hg 0
        have g1 := hg 1
        have g2 := hg 2
        have g3 := hg 3
        clear hf hg
        have HN := GI.set3 HI (.string ⟨REST.toArray⟩)
        go_wp2_with fail
        refine bodyPost_ret (results_cell_row rfl _ _ w.heap.size 24 _ (0, 0) _ rfl HN.out.2.1.put4 Tryz.underlying24 rfl (by kernel_rfl)) rfl ?_
        exact ⟨by rw [HV.out]; rfl, below_put4 HN.out.1 (Nat.le_refl _)⟩
      by_cases e : m = 2
      · have HV : Hid (R = ⟨m, 0, [], unqS REST⟩) := Lib.hid (by rw [HK.out]; unfold rguessK; rw [if_neg (by omega), if_pos (by omega), HRR.out])
        have q1 : ((m : Int) == 1) = false := by simp; omega
        have q2 : ((m : Int) == 2) = true := by simp; omega
        have q15 : ((m : Int) == 15) = false := by simp; omega
        have q7 : ((m : Int) == 7) = false := by simp; omega
        have q10 : ((m : Int) == 10) = false := by simp; omega
        have q12 : ((m : Int) == 12) = false := by simp; omega
        have HM := Lib.hid e
        clear e
        obtain ⟨c0, c1, c2, c3, hf⟩ := GI.cells HI
        obtain ⟨r0, r1, r2, r3, hg⟩ := GI.res HI
        have f0 := hf 0
        have f1 := hf 1
        have f2 := hf 2
        have f3 := hf 3
        have g0 := hg 0
        have g1 := hg 1
        have g2 := hg 2
        have g3 := hg 3
        clear hf hg
        go_wp2_with fail
        refine (runquote_any REST (by omega) _).mono ?_
        rintro e w5 ⟨rfl, hb⟩
        have HI5 := GI.call HI hb
        clear hb c0 c1 c2 c3 r0 r1 r2 r3 f0 f1 f2 f3 g0 g1 g2 g3
        have HN := GI.set3 HI5 (.string ⟨(unqS REST).toArray⟩)
        obtain ⟨c0, c1, c2, c3, hf⟩ := GI.cells HI5
        obtain ⟨r0, r1, r2, r3, hg⟩ := GI.res HI5
        have f0 := hf 0
        have f1 := hf 1
        have f2 := hf 2
        have f3 := hf 3
        have g0 := hg 0
        have g1 := hg 1
        have g2 := hg 2
        have g3 := hg 3
        clear hf hg
        generalize unqS REST = U at *
        go_wp2_with fail
        refine bodyPost_ret (results_cell_row rfl _ _ w.heap.size 24 _ (0, 0) _ rfl HN.out.2.1.put4 Tryz.underlying24 rfl (by kernel_rfl)) rfl ?_
        exact ⟨by rw [HV.out]; rfl, below_put4 HN.out.1 (Nat.le_refl _)⟩
      by_cases e : m = 15
      · have HV : Hid (R = ⟨m, 0, [], unqS REST⟩) := Lib.hid (by rw [HK.out]; unfold rguessK; rw [if_neg (by omega), if_pos (by omega), HRR.out])
        have q1 : ((m : Int) == 1) = false := by simp; omega
        have q2 : ((m : Int) == 2) = false := by simp; omega
        have q15 : ((m : Int) == 15) = true := by simp; omega
        have q7 : ((m : Int) == 7) = false := by simp; omega
        have q10 : ((m : Int) == 10) = false := by simp; omega
        have q12 : ((m : Int) == 12) = false := by simp; omega
        have HM := Lib.hid e
        clear e
        obtain ⟨c0, c1, c2, c3, hf⟩ := GI.cells HI
        obtain ⟨r0, r1, r2, r3, hg⟩ := GI.res HI
        have f0 := hf 0
        have f1 := hf 1
        have f2 := hf 2
        have f3 := hf 3
        have g0 := hg 0
        have g1 := hg 1
        have g2 := hg 2
        have g3 := hg 3
        clear hf hg
        go_wp2_with fail
        refine (runquote_any REST (by omega) _).mono ?_
        rintro e w5 ⟨rfl, hb⟩
        have HI5 := GI.call HI hb
        clear hb c0 c1 c2 c3 r0 r1 r2 r3 f0 f1 f2 f3 g0 g1 g2 g3
        have HN := GI.set3 HI5 (.string ⟨(unqS REST).toArray⟩)
        obtain ⟨c0, c1, c2, c3, hf⟩ := GI.cells HI5
        obtain ⟨r0, r1, r2, r3, hg⟩ := GI.res HI5
        have f0 := hf 0
        have f1 := hf 1
        have f2 := hf 2
        have f3 := hf 3
        have g0 := hg 0
        have g1 := hg 1
        have g2 := hg 2
        have g3 := hg 3
        clear hf hg
        generalize unqS REST = U at *
        go_wp2_with fail
        refine bodyPost_ret (results_cell_row rfl _ _ w.heap.size 24 _ (0, 0) _ rfl HN.out.2.1.put4 Tryz.underlying24 rfl (by kernel_rfl)) rfl ?_
        exact ⟨by rw [HV.out]; rfl, below_put4 HN.out.1 (Nat.le_refl _)⟩
      by_cases e : m = 7
      · have q1 : ((m : Int) == 1) = false := by simp; omega
        have q2 : ((m : Int) == 2) = false := by simp; omega
        have q15 : ((m : Int) == 15) = false := by simp; omega
        have q7 : ((m : Int) == 7) = true := by simp; omega
        have q10 : ((m : Int) == 10) = false := by simp; omega
        have q12 : ((m : Int) == 12) = false := by simp; omega
        by_cases h3 : ps.length = 3
        · obtain ⟨p1, hp1⟩ : ∃ p, ps[1]? = some p := ⟨_, List.getElem?_eq_getElem (by omega)⟩
          obtain ⟨p2, hp2⟩ : ∃ p, ps[2]? = some p := ⟨_, List.getElem?_eq_getElem (by omega)⟩
          have HV : Hid (R = ⟨m, rnum p2, p1, []⟩) := Lib.hid (by rw [HK.out]; unfold rguessK; rw [if_neg (by omega), if_neg (by omega), if_pos e, HPS.out, if_pos h3, hp1, hp2]; rfl)
          have hp2l : p2.length ≤ 999999 := by
            have h1 := HPS.out
            have : ∀ l p : List UInt8, p ∈ Sp.pieces 32 l → p.length ≤ l.length := piece_le
            have := this s p2 (by rw [h1]; exact List.mem_of_getElem? hp2)
            omega
          have HNu : Hid (∀ W, Calls Tryz.prog 80 #[.string ⟨p2.toArray⟩] W fun e w' => e = .returned (.int .i64 (rnum p2)) ∧ W = w') := Lib.hid fun W => rnumber_any p2 hp2l W
          have a1 := GI.piece HI hp1
          have a2 := GI.piece HI hp2
          have y1 : ((ps.length : Int) == 3) = true := by simp; omega
          have y2 : (1 : Int) < (ps.length : Int) := by omega
          have y3 : (2 : Int) < (ps.length : Int) := by omega
          have y2' : 1 < ps.length := by omega
          have y3' : 2 < ps.length := by omega
          have HM := Lib.hid e
          have H3 := Lib.hid h3
          clear e h3
          obtain ⟨c0, c1, c2, c3, hf⟩ := GI.cells HI
          obtain ⟨r0, r1, r2, r3, hg⟩ := GI.res HI
          have f0 := hf 0
          have f1 := hf 1
          have f2 := hf 2
          have f3 := hf 3
          have g0 := hg 0
          have g1 := hg 1
          have g2 := hg 2
          have g3 := hg 3
          clear hf hg
          generalize rnum p2 = RN at *
          go_upto_block 2 with fail
          go_cut [] (fun wx => Hid (GI w w1.heap.size b o (.int .i64 (m : Int)) (.int .i64 RN) (.string ⟨p1.toArray⟩) (.string ⟨#[]⟩) ps wx))
          case first =>
            go_wp2_with fail
            go_region_with (refine (HNu.out _).mono ?_; rintro e w' ⟨rfl, rfl⟩)
            all_goals
              go_wp2_with fail
              go_meet
              first | with_reducible exact GI.drew (GI.set1 (GI.set2 HI _) _) | with_reducible exact GI.drew (GI.set2 (GI.set1 HI _) _) | with_reducible exact GI.set1 (GI.set2 (GI.drew HI) _) _ | with_reducible exact GI.set2 (GI.set1 (GI.drew HI) _) _ | with_reducible exact GI.set1 (GI.set2 HI _) _
          case rest =>
          have HN := hcut
          clear hcut c0 c1 c2 c3 r0 r1 r2 r3 f0 f1 f2 f3 g0 g1 g2 g3 a1 a2
          obtain ⟨c0, c1, c2, c3, hf⟩ := GI.cells HN
          obtain ⟨r0, r1, r2, r3, hg⟩ := GI.res HN
          have f0 := hf 0
          have f1 := hf 1
          have f2 := hf 2
          have f3 := hf 3
          have g0 := hg 0
          have g1 := hg 1
          have g2 := hg 2
          have g3 := hg 3
          clear hf hg
          go_wp2_with fail
          refine bodyPost_ret (results_cell_row rfl _ _ w.heap.size 24 _ (0, 0) _ rfl HN.out.2.1.put4 Tryz.underlying24 rfl (by kernel_rfl)) rfl ?_
          exact ⟨by rw [HV.out]; rfl, below_put4 HN.out.1 (Nat.le_refl _)⟩
        · have HV : Hid (R = ⟨m, 0, [], []⟩) := Lib.hid (by rw [HK.out]; unfold rguessK; rw [if_neg (by omega), if_neg (by omega), if_pos e, HPS.out, if_neg h3])
          have y1 : ((ps.length : Int) == 3) = false := by simp; omega
          have HM := Lib.hid e
          clear e
          obtain ⟨c0, c1, c2, c3, hf⟩ := GI.cells HI
          obtain ⟨r0, r1, r2, r3, hg⟩ := GI.res HI
          have f0 := hf 0
          have f1 := hf 1
          have f2 := hf 2
          have f3 := hf 3
          have g0 := hg 0
          have g1 := hg 1
          have g2 := hg 2
          have g3 := hg 3
          clear hf hg
          go_wp2_with fail
          refine bodyPost_ret (results_cell_row rfl _ _ w.heap.size 24 _ (0, 0) _ rfl HI.out.2.1.put4 Tryz.underlying24 rfl (by kernel_rfl)) rfl ?_
          exact ⟨by rw [HV.out]; rfl, below_put4 HI.out.1 (Nat.le_refl _)⟩
      by_cases e : m = 10
      · have HV : Hid (R = ⟨m, rnum REST, [], []⟩) := Lib.hid (by rw [HK.out]; unfold rguessK; rw [if_neg (by omega), if_neg (by omega), if_neg (by omega), if_pos (by omega), HRR.out])
        have q1 : ((m : Int) == 1) = false := by simp; omega
        have q2 : ((m : Int) == 2) = false := by simp; omega
        have q15 : ((m : Int) == 15) = false := by simp; omega
        have q7 : ((m : Int) == 7) = false := by simp; omega
        have q10 : ((m : Int) == 10) = true := by simp; omega
        have q12 : ((m : Int) == 12) = false := by simp; omega
        have HM := Lib.hid e
        clear e
        obtain ⟨c0, c1, c2, c3, hf⟩ := GI.cells HI
        obtain ⟨r0, r1, r2, r3, hg⟩ := GI.res HI
        have f0 := hf 0
        have f1 := hf 1
        have f2 := hf 2
        have f3 := hf 3
        have g0 := hg 0
        have g1 := hg 1
        have g2 := hg 2
        have g3 := hg 3
        clear hf hg
        go_wp2_with fail
        refine (rnumber_any REST (by omega) _).mono ?_
        rintro e w5 ⟨rfl, rfl⟩
        generalize rnum REST = RN at *
        have HN := GI.set1 HI (.int .i64 RN)
        go_wp2_with fail
        refine bodyPost_ret (results_cell_row rfl _ _ w.heap.size 24 _ (0, 0) _ rfl HN.out.2.1.put4 Tryz.underlying24 rfl (by kernel_rfl)) rfl ?_
        exact ⟨by rw [HV.out]; rfl, below_put4 HN.out.1 (Nat.le_refl _)⟩
      by_cases e : m = 12
      · have HV : Hid (R = ⟨m, rnum REST, [], []⟩) := Lib.hid (by rw [HK.out]; unfold rguessK; rw [if_neg (by omega), if_neg (by omega), if_neg (by omega), if_pos (by omega), HRR.out])
        have q1 : ((m : Int) == 1) = false := by simp; omega
        have q2 : ((m : Int) == 2) = false := by simp; omega
        have q15 : ((m : Int) == 15) = false := by simp; omega
        have q7 : ((m : Int) == 7) = false := by simp; omega
        have q10 : ((m : Int) == 10) = false := by simp; omega
        have q12 : ((m : Int) == 12) = true := by simp; omega
        have HM := Lib.hid e
        clear e
        obtain ⟨c0, c1, c2, c3, hf⟩ := GI.cells HI
        obtain ⟨r0, r1, r2, r3, hg⟩ := GI.res HI
        have f0 := hf 0
        have f1 := hf 1
        have f2 := hf 2
        have f3 := hf 3
        have g0 := hg 0
        have g1 := hg 1
        have g2 := hg 2
        have g3 := hg 3
        clear hf hg
        go_wp2_with fail
        refine (rnumber_any REST (by omega) _).mono ?_
        rintro e w5 ⟨rfl, rfl⟩
        generalize rnum REST = RN at *
        have HN := GI.set1 HI (.int .i64 RN)
        go_wp2_with fail
        refine bodyPost_ret (results_cell_row rfl _ _ w.heap.size 24 _ (0, 0) _ rfl HN.out.2.1.put4 Tryz.underlying24 rfl (by kernel_rfl)) rfl ?_
        exact ⟨by rw [HV.out]; rfl, below_put4 HN.out.1 (Nat.le_refl _)⟩
      have HV : Hid (R = ⟨m, 0, [], []⟩) := Lib.hid (by rw [HK.out]; unfold rguessK; rw [if_neg (by omega), if_neg (by omega), if_neg (by omega), if_neg (by omega)])
      have q1 : ((m : Int) == 1) = false := by simp; omega
      have q2 : ((m : Int) == 2) = false := by simp; omega
      have q15 : ((m : Int) == 15) = false := by simp; omega
      have q7 : ((m : Int) == 7) = false := by simp; omega
      have q10 : ((m : Int) == 10) = false := by simp; omega
      have q12 : ((m : Int) == 12) = false := by simp; omega
      obtain ⟨c0, c1, c2, c3, hf⟩ := GI.cells HI
      obtain ⟨r0, r1, r2, r3, hg⟩ := GI.res HI
      have f0 := hf 0
      have f1 := hf 1
      have f2 := hf 2
      have f3 := hf 3
      have g0 := hg 0
      have g1 := hg 1
      have g2 := hg 2
      have g3 := hg 3
      clear hf hg
      go_wp2_with fail
      refine bodyPost_ret (results_cell_row rfl _ _ w.heap.size 24 _ (0, 0) _ rfl HI.out.2.1.put4 Tryz.underlying24 rfl (by kernel_rfl)) rfl ?_
      exact ⟨by rw [HV.out]; rfl, below_put4 HI.out.1 (Nat.le_refl _)⟩
end Go.Proofs.YtphpgbbjbncfoaaGreatDoor

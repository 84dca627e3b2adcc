/-
  LAYER 42, THE REFERENCE: split, number.
-/
import Derived.Test.YtphpgbbjbncfoaaGreatDoorRef2
import Derived.Laws.OwnMore
namespace Go.Proofs.YtphpgbbjbncfoaaGreatDoor
open Go.ChangeShapes Go.WideShapes Go.ChangeAt Go.RowKit

namespace Sp
/-- The pieces of a string between bytes s. -/
def pieces (s : UInt8) : List UInt8 → List (List UInt8)
  | [] => [[]]
  | c :: r => if c = s then [] :: pieces s r else match pieces s r with
    | p :: ps => (c :: p) :: ps
    | [] => [[c]]
variable {s : UInt8}
theorem pieces_ne (l : List UInt8) : ∃ p ps, pieces s l = p :: ps := by
  cases l with
  | nil => exact ⟨_, _, rfl⟩
  | cons c r =>
    unfold pieces
    split
    · exact ⟨_, _, rfl⟩
    · split <;> exact ⟨_, _, rfl⟩
theorem pieces_sep (r : List UInt8) : pieces s (s :: r) = [] :: pieces s r := by rw [pieces, if_pos rfl]
theorem pieces_other {c : UInt8} {r p : List UInt8} {ps : List (List UInt8)} (h : c ≠ s) (hp : pieces s r = p :: ps) : pieces s (c :: r) = (c :: p) :: ps := by rw [pieces, if_neg h, hp]
theorem pieces_split : ∀ (p r : List UInt8), (∀ c ∈ p, c ≠ s) → pieces s (p ++ s :: r) = p :: pieces s r
  | [], r, _ => pieces_sep r
  | c :: p, r, h => pieces_other (h c (by simp)) (pieces_split p r fun d hd => h d (by simp [hd]))
theorem pieces_end : ∀ (p : List UInt8), (∀ c ∈ p, c ≠ s) → pieces s p = [p]
  | [], _ => rfl
  | c :: p, h => pieces_other (h c (by simp)) (pieces_end p fun d hd => h d (by simp [hd]))
theorem pieces_le : ∀ l : List UInt8, (pieces s l).length ≤ l.length + 1
  | [] => Nat.le_refl _
  | c :: r => by
    have ih := pieces_le r
    obtain ⟨p, ps, hp⟩ := pieces_ne (s := s) r
    by_cases h : c = s
    · subst h
      rw [pieces_sep, List.length_cons, List.length_cons]
      omega
    · rw [pieces_other h hp, List.length_cons, List.length_cons]
      rw [hp, List.length_cons] at ih
      omega
theorem lin : ∀ l : List UInt8, pieces 10 l = Lin.pieces l
  | [] => rfl
  | c :: r => by
    have ih := lin r
    obtain ⟨p, ps, hp⟩ := Lin.pieces_ne r
    by_cases h : c = 10
    · subst h
      rw [pieces_sep, Lin.pieces_feed, ih]
    · rw [pieces_other h (ih.trans hp), Lin.pieces_other h hp]
/-- How far a split has come: what is done, and the piece that is read. -/
def Ph (s : UInt8) (l : List UInt8) (fr k : Nat) (done : List (List UInt8)) : Prop := if k ≤ l.length then (pieces s l = done ++ pieces s (l.drop fr) ∧ ∀ c ∈ (l.drop fr).take (k - fr), c ≠ s) else pieces s l = done
theorem Ph.start (l : List UInt8) : Ph s l 0 0 [] := by
  unfold Ph
  rw [if_pos (Nat.zero_le _)]
  exact ⟨rfl, by simp⟩
theorem Ph.on {l : List UInt8} {fr k : Nat} {done : List (List UInt8)} {c : UInt8} (h : Ph s l fr k done) (hf : fr ≤ k) (hc : l[k]? = some c) (hn : c ≠ s) : Ph s l fr (k + 1) done := by
  have hk := (List.getElem?_eq_some_iff.1 hc).1
  unfold Ph at h ⊢
  rw [if_pos (by omega)] at h ⊢
  refine ⟨h.1, ?_⟩
  have e : (l.drop fr).take (k + 1 - fr) = (l.drop fr).take (k - fr) ++ [c] := by
    rw [show k + 1 - fr = k - fr + 1 by omega]
    exact take_snoc (by rw [List.getElem?_drop, show fr + (k - fr) = k by omega]; exact hc)
  rw [e]
  intro d hd
  rcases List.mem_append.1 hd with hd | hd
  · exact h.2 d hd
  · rw [List.mem_singleton.1 hd]; exact hn
theorem Ph.sep {l : List UInt8} {fr k : Nat} {done : List (List UInt8)} (h : Ph s l fr k done) (hf : fr ≤ k) (hc : l[k]? = some s) : Ph s l (k + 1) (k + 1) (done ++ [(l.drop fr).take (k - fr)]) := by
  have hk := (List.getElem?_eq_some_iff.1 hc).1
  unfold Ph at h ⊢
  rw [if_pos (by omega)] at h ⊢
  have e : l.drop fr = (l.drop fr).take (k - fr) ++ s :: l.drop (k + 1) := by
    conv => lhs; rw [← List.take_append_drop (k - fr) (l.drop fr)]
    congr 1
    rw [List.drop_drop, show fr + (k - fr) = k by omega, List.drop_eq_getElem_cons hk]
    congr 1
    exact (List.getElem?_eq_some_iff.1 hc).2
  have e2 : pieces s (l.drop fr) = (l.drop fr).take (k - fr) :: pieces s (l.drop (k + 1)) := by
    conv => lhs; rw [e]
    exact pieces_split _ _ h.2
  exact ⟨by rw [h.1, e2]; simp, by simp⟩
theorem Ph.last {l : List UInt8} {fr : Nat} {done : List (List UInt8)} (h : Ph s l fr l.length done) : Ph s l (l.length + 1) (l.length + 1) (done ++ [(l.drop fr).take (l.length - fr)]) := by
  unfold Ph at h ⊢
  rw [if_pos (Nat.le_refl _)] at h
  rw [if_neg (by omega)]
  have e : (l.drop fr).take (l.length - fr) = l.drop fr := List.take_of_length_le (by rw [List.length_drop]; omega)
  rw [e] at h ⊢
  rw [h.1, pieces_end _ h.2]
end Sp

theorem info_str : (Tryz.prog.info? 9).map (fun i => (i.zero, i.size, i.bytes)) = some (some (.string ⟨#[]⟩), 1, 16) := by kernel_rfl
def strsV (ps : List (List UInt8)) : List Value := ps.map fun p => Value.string ⟨p.toArray⟩
theorem strsV_append (a b : List (List UInt8)) : strsV (a ++ b) = strsV a ++ strsV b := List.map_append

set_option maxHeartbeats 4000000 in
set_option maxRecDepth 20000 in
/-- The reference's split. -/
theorem rsplit_any (s : UInt8) (l : List UInt8) (hl : l.length ≤ 100000) (w : World) :
    Calls Tryz.prog 53 #[.string ⟨l.toArray⟩, .int .u8 (s.toNat : Int)] w fun e w' => ∃ v, e = .returned v ∧ w'.ownsRow w.heap.size 9 1 v (Sp.pieces s l).length (strsV (Sp.pieces s l)) ∧ Below w.heap.size w w' := by
  obtain ⟨i0, hi, hz0, hz1, hz2⟩ := info_parts info_str
  have HI : Hid (Below w.heap.size w w) := Lib.hid (Below.refl _ _)
  go_enter Tryz.func53, Tryz.ntmps53
  go_wp2_with fail
  go_loopw [5, 6, 7] (fun v f i wr => ∃ (fr k : Nat) (done : List (List UInt8)), fr ≤ k ∧ k ≤ l.length + 1 ∧ f = .int .i64 fr ∧ i = .int .i64 k ∧ Hid (Below w.heap.size w wr) ∧ Hid (wr.ownsRow w.heap.size 9 1 v done.length (strsV done)) ∧ Hid (Sp.Ph s l fr k done)) (fun _ _ i _ => l.length + 1 - (intOf i).toNat)
  case atStart => exact ⟨0, 0, [], Nat.le_refl _, Nat.zero_le _, rfl, rfl, HI, Lib.hid (World.ownsRow_nil _ _ _ _), Lib.hid (Sp.Ph.start l)⟩
  case round =>
    obtain ⟨fr, k, done, hf, hk, rfl, rfl, HI, HO, HP⟩ := hrel
    have HDL : Hid (k ≤ l.length → done.length ≤ l.length + 1) := Lib.hid fun h => by
      have h1 := HP.out
      unfold Sp.Ph at h1
      rw [if_pos h] at h1
      have h2 := congrArg List.length h1.1
      rw [List.length_append] at h2
      have := Sp.pieces_le (s := s) l
      omega
    by_cases hlt : k < l.length
    · obtain ⟨c, hc⟩ : ∃ c, l[k]? = some c := ⟨_, List.getElem?_eq_getElem hlt⟩
      have hx : ∀ h, ((⟨l.toArray⟩ : ByteArray)[k]'h) = c := fun h => (List.getElem?_eq_some_iff.1 hc).2
      have a1 : (k : Int) ≤ (l.length : Int) := by omega
      have a2 : ((k : Int) == (l.length : Int)) = false := by simp; omega
      have a2' : ¬ (k : Int) = (l.length : Int) := by omega
      have a3 : (0 : Int) ≤ (k : Int) := by omega
      have a4 : (k : Int) < (l.length : Int) := by omega
      have a5 : (fr : Int) ≤ (k : Int) := by omega
      have a6 : (0 : Int) ≤ (fr : Int) := by omega
      by_cases hs : c = s
      · have hs2 : ((c.toNat : Int) == (s.toNat : Int)) = true := by rw [hs]; simp
        have hP2 := HP.out.sep hf (by rw [hc, hs])
        have hcut := mk_extract l fr k
        have hdl := HDL.out (by omega)
        obtain ⟨p, hp⟩ : ∃ p, (l.drop fr).take (k - fr) = p := ⟨_, rfl⟩
        rw [hp] at hP2 hcut
        have HP2 := Lib.hid hP2
        have hown := HO.out
        clear hP2 hc hs hp
        go_wp2_with (at_builtin; refine wpList_append_own _ rfl _ _ 57 rfl w.heap.size 9 i0 (.string ⟨#[]⟩) 1 16 Tryz.underlying57 hi hz0 hz1 hz2 rfl (by decide) _ _ _ rfl (hown.alloc _) ⟨wr.heap.size, 0, none⟩ 1 1 [.string ⟨p.toArray⟩] rfl rfl ?c1 ?c2 ?c3 ?c4 ?c5 ?_)
        case c1 => exact one_news wr 9 (.string ⟨p.toArray⟩)
        case c2 => intro u hu; simp at hu; subst hu; rfl
        case c3 => unfold maxLen; omega
        case c4 => omega
        case c5 => have := HI.out.size; simp; omega
        intro v' w4 hown4 hg4 _
        have HO4 : Hid (w4.ownsRow w.heap.size 9 1 v' (done ++ [p]).length (strsV (done ++ [p]))) := Lib.hid (by rw [List.length_append, strsV_append]; exact hown4)
        have HI4 := Lib.hid ((below_new HI.out (.cells #[.string ⟨p.toArray⟩] 9)).grown hg4 (by have := HI.out.size; simp; omega) (fun g hg => (hown.lt g hg).1))
        clear hown hown4 hg4
        go_wp2_with fail
        go_roundw
        case rel => exact ⟨k + 1, k + 1, done ++ [p], Nat.le_refl _, by omega, by go_num, by go_num, HI4, HO4, HP2⟩
        case measure => simp [intOf]; omega
      · have hs2 : ((c.toNat : Int) == (s.toNat : Int)) = false := byte_ne hs
        have hs3 : ¬ (c.toNat : Int) = (s.toNat : Int) := by simpa using hs2
        have HP2 := Lib.hid (HP.out.on hf hc hs)
        clear hc hs
        go_wp2_with fail
        go_roundw
        case rel => exact ⟨fr, k + 1, done, by omega, by omega, rfl, by go_num, HI, HO, HP2⟩
        case measure => simp [intOf]; omega
    · by_cases hk2 : k = l.length
      · subst hk2
        have a1 : (l.length : Int) ≤ (l.length : Int) := by omega
        have a5 : (fr : Int) ≤ (l.length : Int) := by omega
        have a6 : (0 : Int) ≤ (fr : Int) := by omega
        have hP2 := HP.out.last
        have hcut := mk_extract l fr l.length
        have hdl := HDL.out (by omega)
        obtain ⟨p, hp⟩ : ∃ p, (l.drop fr).take (l.length - fr) = p := ⟨_, rfl⟩
        rw [hp] at hP2 hcut
        have HP2 := Lib.hid hP2
        have hown := HO.out
        clear hP2 hp
        go_wp2_with (at_builtin; refine wpList_append_own _ rfl _ _ 57 rfl w.heap.size 9 i0 (.string ⟨#[]⟩) 1 16 Tryz.underlying57 hi hz0 hz1 hz2 rfl (by decide) _ _ _ rfl (hown.alloc _) ⟨wr.heap.size, 0, none⟩ 1 1 [.string ⟨p.toArray⟩] rfl rfl ?c1 ?c2 ?c3 ?c4 ?c5 ?_)
        case c1 => exact one_news wr 9 (.string ⟨p.toArray⟩)
        case c2 => intro u hu; simp at hu; subst hu; rfl
        case c3 => unfold maxLen; omega
        case c4 => omega
        case c5 => have := HI.out.size; simp; omega
        intro v' w4 hown4 hg4 _
        have HO4 : Hid (w4.ownsRow w.heap.size 9 1 v' (done ++ [p]).length (strsV (done ++ [p]))) := Lib.hid (by rw [List.length_append, strsV_append]; exact hown4)
        have HI4 := Lib.hid ((below_new HI.out (.cells #[.string ⟨p.toArray⟩] 9)).grown hg4 (by have := HI.out.size; simp; omega) (fun g hg => (hown.lt g hg).1))
        clear hown hown4 hg4
        go_wp2_with fail
        go_roundw
        case rel => exact ⟨l.length + 1, l.length + 1, done ++ [p], Nat.le_refl _, by omega, by go_num, by go_num, HI4, HO4, HP2⟩
        case measure => simp [intOf]
      · obtain rfl : k = l.length + 1 := by omega
        have hP := HP.out
        unfold Sp.Ph at hP
        rw [if_neg (by omega)] at hP
        have a1 : ¬ ((l.length + 1 : Nat) : Int) ≤ (l.length : Int) := by omega
        have HPP := Lib.hid hP
        have hO := HO.out
        clear hP
        go_wp2_with fail
        go_ret
        exact ⟨_, rfl, by rw [HPP.out]; exact hO, HI.out⟩

/-! ### Numbers -/
def rnum (s : List UInt8) : Int := if errP s = 0 ∧ 0 ≤ Num.numP s ∧ Num.numP s ≤ 1000000000 then Num.numP s else -1
theorem rnumber_any (s : List UInt8) (hs : s.length ≤ 999999) (w : World) : Calls Tryz.prog 80 #[.string ⟨s.toArray⟩] w fun e w' => e = .returned (.int .i64 (rnum s)) ∧ w = w' := by
  have H : Hid (∀ W, Calls Tryz.prog 86 #[.string ⟨s.toArray⟩] W fun e w' => e = .returned (.tuple #[.int .i64 (Num.numP s), .int .i64 (errP s)]) ∧ W = w') := Lib.hid fun W => rparse_any s hs W
  have hb := numP_bounds s
  have he : errP s = 0 ∨ errP s = 7 := by unfold errP; split <;> simp
  obtain ⟨N, hN⟩ : ∃ N, Num.numP s = N := ⟨_, rfl⟩
  obtain ⟨R, hR⟩ : ∃ R, rnum s = R := ⟨_, rfl⟩
  obtain ⟨E, hE⟩ : ∃ E, errP s = E := ⟨_, rfl⟩
  have hRe : R = if E = 0 ∧ 0 ≤ N ∧ N ≤ 1000000000 then N else -1 := by rw [← hR, ← hN, ← hE]; rfl
  rw [hN] at H hb
  rw [hE] at H he
  rw [hR]
  clear hN hR hE
  have HR := Lib.hid hRe
  clear hRe
  rcases he with rfl | rfl
  · rcases (show N < 0 ∨ (¬ N < 0 ∧ 1000000000 < N) ∨ (0 ≤ N ∧ N ≤ 1000000000) by omega) with h | ⟨h, h2⟩ | ⟨h, h2⟩
    · have HV : Hid (R = -1) := Lib.hid (by rw [HR.out, if_neg (by omega)])
      go_enter Tryz.func80, Tryz.ntmps80
      go_wp2_with fail
      refine (H.out _).mono ?_
      rintro e w2 ⟨rfl, rfl⟩
      go_wp2_with fail
      go_ret
      exact ⟨by rw [HV.out]; rfl, rfl⟩
    · have HV : Hid (R = -1) := Lib.hid (by rw [HR.out, if_neg (by omega)])
      go_enter Tryz.func80, Tryz.ntmps80
      go_wp2_with fail
      refine (H.out _).mono ?_
      rintro e w2 ⟨rfl, rfl⟩
      go_wp2_with fail
      go_ret
      exact ⟨by rw [HV.out]; rfl, rfl⟩
    · have HV : Hid (R = N) := Lib.hid (by rw [HR.out, if_pos ⟨rfl, h, h2⟩])
      have z1 : ¬ N < 0 := by omega
      have z2 : ¬ 1000000000 < N := by omega
      go_enter Tryz.func80, Tryz.ntmps80
      go_wp2_with fail
      refine (H.out _).mono ?_
      rintro e w2 ⟨rfl, rfl⟩
      go_wp2_with fail
      go_ret
      exact ⟨by rw [HV.out]; rfl, rfl⟩
  · have HV : Hid (R = -1) := Lib.hid (by rw [HR.out, if_neg (by omega)])
    go_enter Tryz.func80, Tryz.ntmps80
    go_wp2_with fail
    refine (H.out _).mono ?_
    rintro e w2 ⟨rfl, rfl⟩
    go_wp2_with fail
    go_ret
    exact ⟨by rw [HV.out]; rfl, rfl⟩
end Go.Proofs.YtphpgbbjbncfoaaGreatDoor

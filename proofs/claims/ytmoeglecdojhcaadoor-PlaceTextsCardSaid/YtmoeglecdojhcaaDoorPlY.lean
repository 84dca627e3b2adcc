/-
  LAYER 1: places and lines are the document's: the statement's walk.
-/
import Derived.Test.YtmoeglecdojhcaaDoorPlZ
import Derived.Test.YtmoeglecdojhcaaDoorPlU
namespace Go.Proofs.YtmoeglecdojhcaaDoor
open Go.ChangeShapes Go.WideShapes Go.ChangeAt Go.RowKit

/-- The reference's lines, as a slice that is not nil. -/
theorem rlines_at (s : List UInt8) (hs : s.length ≤ 1000000) (m : Nat) (hm : (Lin.pieces s).length = m + 1) (w : World) :
    Calls Tryd.prog 33 #[.string ⟨s.toArray⟩] w fun e w' => ∃ g cap, e = .returned (.slice (some ⟨g, 0, none⟩) (m + 1) cap) ∧ (∀ j, j < m + 1 → w'.cell? ⟨g, j, none⟩ = (strV (Lin.pieces s))[j]?) ∧ Below w.heap.size w w' := by
  refine (rlines_any s hs w).mono ?_
  rintro e w' ⟨v, rfl, hown, hb⟩
  rw [hm] at hown
  obtain ⟨g, cap, rfl⟩ := ownsRow_succ hown
  exact ⟨g, cap, rfl, fun j hj => hown.cellAt j (by omega), hb⟩
theorem rcount_any (s : List UInt8) (hs : s.length ≤ 1000000) (w : World) :
    Calls Tryd.prog 19 #[.string ⟨s.toArray⟩] w fun e w' => e = .returned (.int .i64 (1 + (s.count 10 : Nat))) ∧ Below w.heap.size w w' := by
  have hm : (Lin.pieces s).length = s.count 10 + 1 := by rw [Lin.pieces_len]; omega
  have HL := Lib.hid (rlines_at s hs _ hm w)
  obtain ⟨m, hmm⟩ : ∃ m, s.count 10 = m := ⟨_, rfl⟩
  rw [hmm] at HL ⊢
  clear hm hmm
  go_enter Tryd.func19, Tryd.ntmps19
  go_wp2_with fail
  refine HL.out.mono ?_
  rintro e w2 ⟨g, cap, rfl, _, hb⟩
  have HB := Lib.hid hb
  clear hb
  go_wp2_with fail
  go_ret
  exact ⟨ret_int (by push_cast; omega), HB.out⟩
theorem rline_any (s : List UInt8) (hs : s.length ≤ 1000000) (k : Int) (w : World) :
    Calls Tryd.prog 17 #[.string ⟨s.toArray⟩, .int .i64 k] w fun e w' => e = .returned (.tuple #[.string ⟨(liS s k).toArray⟩, .int .i64 (liE s k)]) ∧ Below w.heap.size w w' := by
  have hm : (Lin.pieces s).length = s.count 10 + 1 := by rw [Lin.pieces_len]; omega
  have hcl : s.count 10 ≤ s.length := List.count_le_length
  have HL := Lib.hid (rlines_at s hs _ hm w)
  by_cases h : 1 ≤ k ∧ k ≤ (s.count 10 : Nat) + 1
  · obtain ⟨j, rfl⟩ : ∃ j : Nat, k = (j : Int) + 1 := ⟨(k - 1).toNat, by omega⟩
    obtain ⟨q, hq⟩ : ∃ q, (Lin.pieces s)[j]? = some q := ⟨_, List.getElem?_eq_getElem (by omega)⟩
    have hl : Pl.line s ((j : Int) + 1) = some q := by unfold Pl.line; rw [if_pos (by omega), show ((j : Int) + 1 - 1).toNat = j by omega]; exact hq
    have e1 : liS s ((j : Int) + 1) = q := by unfold liS; rw [hl]; rfl
    have e2 : liE s ((j : Int) + 1) = 0 := by unfold liE; rw [hl]; rfl
    rw [e1, e2]
    have hcell : (strV (Lin.pieces s))[j]? = some (.string ⟨q.toArray⟩) := by unfold strV; rw [List.getElem?_map, hq]; rfl
    obtain ⟨m, hmm⟩ : ∃ m, s.count 10 = m := ⟨_, rfl⟩
    rw [hmm] at HL h hcl
    have HCell := Lib.hid hcell
    have j1 : ¬ (j : Int) + 1 < 1 := by omega
    have j2 : ¬ (m : Int) + 1 < (j : Int) + 1 := by omega
    have j3 : (j : Int) < (m : Int) + 1 := by omega
    have hj : Hid (j < m + 1) := Lib.hid (by omega)
    clear hm hmm hl e1 e2 hcell hq h
    go_enter Tryd.func17, Tryd.ntmps17
    go_wp2_with fail
    refine HL.out.mono ?_
    rintro e w2 ⟨g, cap, rfl, hc, hb⟩
    have HB := Lib.hid hb
    have c0 := hc j hj.out
    rw [HCell.out] at c0
    clear hb hc
    go_wp2_with fail
    go_ret2
    exact ⟨rfl, HB.out⟩
  · have hl : Pl.line s k = none := line_none (by omega)
    have e1 : liS s k = [] := by unfold liS; rw [hl]; rfl
    have e2 : liE s k = 3 := by unfold liE; rw [hl]; rfl
    rw [e1, e2]
    obtain ⟨m, hmm⟩ : ∃ m, s.count 10 = m := ⟨_, rfl⟩
    rw [hmm] at HL h
    by_cases hk : k < 1
    · clear hm hmm hl e1 e2 h
      go_enter Tryd.func17, Tryd.ntmps17
      go_wp2_with fail
      refine HL.out.mono ?_
      rintro e w2 ⟨g, cap, rfl, _, hb⟩
      have HB := Lib.hid hb
      clear hb
      go_wp2_with fail
      go_ret2
      exact ⟨rfl, HB.out⟩
    · have hk2 : (m : Int) + 1 < k := by omega
      clear hm hmm hl e1 e2 h
      go_enter Tryd.func17, Tryd.ntmps17
      go_wp2_with fail
      refine HL.out.mono ?_
      rintro e w2 ⟨g, cap, rfl, _, hb⟩
      have HB := Lib.hid hb
      clear hb
      go_wp2_with fail
      go_ret2
      exact ⟨rfl, HB.out⟩

set_option maxHeartbeats 4000000 in
set_option maxRecDepth 100000 in
theorem placeTexts_walk (s : ByteArray) (_ : s.size ≤ maxLen) (o : Int) (o0 : -9223372036854775808 ≤ o) (o1 : o ≤ 9223372036854775807) (l : Int) (_ : -9223372036854775808 ≤ l) (_ : l ≤ 9223372036854775807) (c : Int) (_ : -9223372036854775808 ≤ c) (_ : c ≤ 9223372036854775807) (w : World) (hG : Good w) :
    Calls Tryd.prog 3 #[.string s, .int .i64 o, .int .i64 l, .int .i64 c] w fun e w' => e = .returned (.bool true) ∧ Below w.heap.size w w' := by
  obtain ⟨s, rfl⟩ : ∃ t : List UInt8, s = ⟨t.toArray⟩ := ⟨s.data.toList, rfl⟩
  have HI : Hid (FInv w w) := Lib.hid ⟨hG, Below.refl _ _⟩
  by_cases hs : 1000 < s.length
  · have k1 : (1000 : Int) < (s.length : Int) := by omega
    clear hG
    go_enter Tryd.func3, Tryd.ntmps3
    go_wp2_with fail
    refine (works_any _ (FInv.good HI)).mono ?_
    rintro e w2 ⟨rfl, b⟩
    replace HI := FInv.call HI b
    clear b
    go_wp2_with fail
    go_ret
    exact ⟨rfl, HI.out.2⟩
  have k1 : ¬ (1000 : Int) < (s.length : Int) := by omega
  have hof := fun W => of_any s (by omega) o o0 o1 W
  have hrof := fun W => rof_any s (by omega) o o0 o1 W
  have hos := fun W hG => offset_any s (by omega) l c W hG
  have hros := fun W => roffset_any s (by omega) l c W
  have hli := fun W hG => line_any s (by omega) l W hG
  have hrli := fun W => rline_any s (by omega) l W
  have hco := fun W => count_any s (by omega) W
  have hrco := fun W => rcount_any s (by omega) W
  unfold pV at hof hrof hos hros
  generalize ofL s o = A at hof hrof
  generalize ofC s o = B at hof hrof
  generalize ofE s o = E at hof hrof
  generalize ofsV s l c = V at hos hros
  generalize ofsE s l c = F at hos hros
  generalize liS s l = Q at hli hrli
  generalize liE s l = H at hli hrli
  generalize (1 + (s.count 10 : Nat) : Int) = M at hco hrco
  have Hof := Lib.hid hof
  have Hrof := Lib.hid hrof
  have Hos := Lib.hid hos
  have Hros := Lib.hid hros
  have Hli := Lib.hid hli
  have Hrli := Lib.hid hrli
  have Hco := Lib.hid hco
  have Hrco := Lib.hid hrco
  clear hof hrof hos hros hli hrli hco hrco hG hs
  go_enter Tryd.func3, Tryd.ntmps3
  go_wp2_with fail
  refine (Hof.out _).mono ?_
  rintro e w2 ⟨rfl, b⟩
  replace HI := FInv.alloc (FInv.call HI b) (.cells #[.int .i64 A, .int .i64 B] 24)
  have H1 : Hid (Blk (w2.alloc (.cells #[.int .i64 A, .int .i64 B] 24)) w2.heap.size 24 #[.int .i64 A, .int .i64 B]) := Lib.hid (Blk.new _ _ _)
  clear b
  go_wp2_with fail
  refine (Hrof.out _).mono ?_
  rintro e w3 ⟨rfl, b⟩
  replace HI := FInv.alloc (FInv.call HI b) (.cells #[.int .i64 A, .int .i64 B] 24)
  replace H1 := Lib.hid ((H1.out.call b).alloc (.cells #[.int .i64 A, .int .i64 B] 24))
  have H2 : Hid (Blk (w3.alloc (.cells #[.int .i64 A, .int .i64 B] 24)) w3.heap.size 24 #[.int .i64 A, .int .i64 B]) := Lib.hid (Blk.new _ _ _)
  clear b
  go_wp2_with fail
  refine (Hos.out _ (FInv.good HI)).mono ?_
  rintro e w4 ⟨rfl, b⟩
  replace HI := FInv.call HI b
  replace H1 := Lib.hid (H1.out.call b)
  replace H2 := Lib.hid (H2.out.call b)
  clear b
  go_wp2_with fail
  refine (Hros.out _).mono ?_
  rintro e w5 ⟨rfl, b⟩
  replace HI := FInv.call HI b
  replace H1 := Lib.hid (H1.out.call b)
  replace H2 := Lib.hid (H2.out.call b)
  clear b
  go_wp2_with fail
  refine (Hli.out _ (FInv.good HI)).mono ?_
  rintro e w6 ⟨rfl, b⟩
  replace HI := FInv.call HI b
  replace H1 := Lib.hid (H1.out.call b)
  replace H2 := Lib.hid (H2.out.call b)
  clear b
  go_wp2_with fail
  refine (Hrli.out _).mono ?_
  rintro e w7 ⟨rfl, b⟩
  replace HI := FInv.call HI b
  replace H1 := Lib.hid (H1.out.call b)
  replace H2 := Lib.hid (H2.out.call b)
  clear b
  have d0 := H1.out.cell 0
  have d1 := H1.out.cell 1
  have d2 := H2.out.cell 0
  have d3 := H2.out.cell 1
  go_wp2_with fail
  refine (Hco.out _).mono ?_
  rintro e w8 ⟨rfl, b⟩
  replace HI := FInv.call HI b
  clear b d0 d1 d2 d3 H1 H2
  go_wp2_with fail
  refine (Hrco.out _).mono ?_
  rintro e w9 ⟨rfl, b⟩
  replace HI := FInv.call HI b
  clear b
  go_wp2_with fail
  refine (works_any _ (FInv.good HI)).mono ?_
  rintro e w10 ⟨rfl, b⟩
  replace HI := FInv.call HI b
  clear b
  go_wp2_with fail
  go_ret
  exact ⟨rfl, HI.out.2⟩
end Go.Proofs.YtmoeglecdojhcaaDoor

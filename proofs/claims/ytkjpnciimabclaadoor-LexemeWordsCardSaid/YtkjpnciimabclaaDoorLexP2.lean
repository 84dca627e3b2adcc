/-
  LAYER 4: keywords and signs are the document's; what is returned is new memory: the statement's walk.
-/
import Derived.Test.YtkjpnciimabclaaDoorLexL2
import Derived.Test.YtkjpnciimabclaaDoorLexR1
namespace Go.Proofs.YtkjpnciimabclaaDoor
open Go.ChangeShapes Go.WideShapes Go.ChangeAt Go.RowKit

/-- A row of its own, as a block. -/
theorem own_blk {w : World} {base size n : Nat} {e : TypeId} {v : Value} {xs : List Value} (h : w.ownsRow base e size v n xs) (hn : 0 < n) :
    ∃ g cap cur, v = .slice (some ⟨g, 0, none⟩) n cap ∧ base ≤ g ∧ Blk w g e cur ∧ n ≤ cap ∧ ∀ (j : Nat) (u : Value), xs[j]? = some u → cur[j]? = some u := by
  rcases h.2 with ⟨_, h0⟩ | ⟨g, cap, cur, e1, hb, hh, hc, _, _, ht⟩
  · omega
  · refine ⟨g, cap, cur, e1, hb, hh, hc, fun j u hu => ?_⟩
    rw [← ht, List.getElem?_take] at hu
    split at hu
    · simpa using hu
    · cases hu
theorem FInv.of {w0 W : World} (h : Good w0) (hb : Below w0.heap.size w0 W) : Hid (FInv w0 W) := Lib.hid ⟨h.below hb (Nat.le_refl _), hb⟩

set_option maxHeartbeats 1000000 in
theorem lexemeWords_walk (s : ByteArray) (_ : s.size ≤ maxLen) (w : World) (hG : Good w) :
    Calls Tryd.prog 5 #[.string s] w fun e w' => e = .returned (.bool true) ∧ Below w.heap.size w w' := by
  obtain ⟨l, rfl⟩ : ∃ l : List UInt8, s = ⟨l.toArray⟩ := ⟨s.data.toList, rfl⟩
  have HI : Hid (FInv w w) := Lib.hid ⟨hG, Below.refl _ _⟩
  have HG := Lib.hid hG
  clear hG
  by_cases hbig : 100 < l.length
  · go_enter Tryd.func5, Tryd.ntmps5
    go_wp2_with fail
    refine (works_any _ (FInv.good HI)).mono ?_
    rintro e w1 ⟨rfl, b⟩
    have HI := FInv.call HI b
    clear b
    go_wp2_with fail
    go_ret
    exact ⟨rfl, HI.out.2⟩
  · go_enter Tryd.func5, Tryd.ntmps5
    go_wp2_with fail
    refine (signs_any _ (FInv.good HI)).mono ?_
    rintro e w1 ⟨v, rfl, hown, b⟩
    have HI := FInv.call HI b
    obtain ⟨g, cap, cur, rfl, hg, hB, hcap, hcur⟩ := own_blk hown (by decide)
    have HL0 := Lib.hid hB
    have hg1 := hB.lt
    have HC : Hid (∀ (j : Nat) (x : List UInt8), 0 ≤ j → Lex.signs[j]? = some x → cur[j]? = some (.string ⟨x.toArray⟩)) := Lib.hid fun j x _ hx => hcur j _ (by rw [List.getElem?_map, hx]; rfl)
    clear b hown hB hcur
    go_wp2_with fail
    refine (rsigns_any _).mono ?_
    rintro e w2 ⟨rfl, hw2⟩
    have HM : Hid (Blk w2 w1.heap.size 9 sgA) := Lib.hid (by rw [hw2]; exact Blk.new _ _ _)
    have HL : Hid (Blk w2 g 9 cur) := Lib.hid (by rw [hw2]; exact HL0.out.alloc _)
    have HI : Hid (FInv w w2) := by rw [hw2]; exact FInv.alloc HI _
    clear hw2 HL0
    go_wp2_with fail
    refine (reserved_any l _ (FInv.good HI)).mono ?_
    rintro e w3 ⟨rfl, rfl⟩
    obtain ⟨q, hq⟩ : ∃ q, decide (l ∈ Lex.keywords) = q := ⟨_, rfl⟩
    rw [hq]
    have hr := rreserved_any l w3
    rw [hq] at hr
    have HR := Lib.hid hr
    clear hr hq
    go_wp2_with fail
    refine HR.out.mono ?_
    rintro e w4 ⟨rfl, b⟩
    have HI := FInv.call HI b
    have HM := Lib.hid (HM.out.call b)
    have HL := Lib.hid (HL.out.call b)
    clear b HR
    have hqq : (!(q == q)) = false := by simp
    go_wp2_with fail
    go_loopw [5] (fun i wr => ∃ (k : Nat) (cu : Array Value), k ≤ 23 ∧ i = .int .i64 k ∧ Hid (FInv w wr) ∧ Hid (Blk wr w1.heap.size 9 sgA) ∧ Hid (Blk wr g 9 cu) ∧ Hid (∀ (j : Nat) (x : List UInt8), k ≤ j → Lex.signs[j]? = some x → cu[j]? = some (.string ⟨x.toArray⟩))) (fun i _ => 23 - (intOf i).toNat)
    case atStart => exact ⟨0, cur, Nat.zero_le _, rfl, HI, HM, HL, HC⟩
    case round =>
      obtain ⟨k, cu, hk, rfl, HI, HM, HL, HC⟩ := hrel
      by_cases hlt : k < 23
      · obtain ⟨x, hx⟩ : ∃ x, Lex.signs[k]? = some x := ⟨_, List.getElem?_eq_getElem (show k < Lex.signs.length from hlt)⟩
        have c0 : wr.cell? ⟨g, k, none⟩ = some (.string ⟨x.toArray⟩) := (HL.out.cell k).trans (HC.out k x (Nat.le_refl _) hx)
        have c1 : wr.cell? ⟨w1.heap.size, k, none⟩ = some (.string ⟨x.toArray⟩) := by
          rw [HM.out.cell k, List.getElem?_toArray, List.getElem?_map, hx]
          rfl
        have fz := HL.out.frozen k
        have hxx : (x == x) = true := by simp
        clear hx
        go_wp2_with fail
        go_quiet (fail)
        have HI := FInv.drewN HI nq
        have HM : Hid (Blk (wr.drewN nq) w1.heap.size 9 sgA) := HM
        have HL : Hid (Blk (wr.drewN nq) g 9 cu) := HL
        have c0 : (wr.drewN nq).cell? ⟨g, k, none⟩ = some (.string ⟨x.toArray⟩) := c0
        have fz := HL.out.frozen k
        generalize wr.drewN nq = wr at HM HL HI c0 fz ⊢
        go_wp2_with fail
        have HI := FInv.of HG.out ((HI.out.2).setCell (p := ⟨g, k, none⟩) hg (.string ⟨#[120]⟩))
        have HM := Lib.hid (HM.out.far (p := ⟨g, k, none⟩) (by show w1.heap.size ≠ g; omega) (.string ⟨#[120]⟩))
        have HL := Lib.hid (HL.out.set k (.string ⟨#[120]⟩))
        have HC : Hid (∀ (j : Nat) (x : List UInt8), k + 1 ≤ j → Lex.signs[j]? = some x → (cu.setIfInBounds k (.string ⟨#[120]⟩))[j]? = some (.string ⟨x.toArray⟩)) := Lib.hid fun j x hj hx => by
          rw [Array.getElem?_setIfInBounds_ne (by omega)]
          exact HC.out j x (by omega) hx
        go_roundw
        case rel => exact ⟨k + 1, _, hlt, by go_num, HI, HM, HL, HC⟩
        case measure => simp [intOf]; omega
      · obtain rfl : k = 23 := by omega
        rw [show ((23 : Nat) : Int) = 23 from rfl]
        clear HM HL HC
        go_wp2_with fail
        refine (signs_any _ (FInv.good HI)).mono ?_
        rintro e w5 ⟨v, rfl, hown, b⟩
        have HI := FInv.call HI b
        obtain ⟨g2, cap2, cur2, rfl, _, hB, hcap2, hcur⟩ := own_blk hown (by decide)
        have c0 : w5.cell? ⟨g2, 0, none⟩ = some (.string ⟨#[124, 124]⟩) := (hB.cell 0).trans (hcur 0 _ rfl)
        clear b hown hB hcur
        go_wp2_with fail
        refine (works_any _ (FInv.good HI)).mono ?_
        rintro e w6 ⟨rfl, b⟩
        have HI := FInv.call HI b
        clear b
        go_wp2_with fail
        go_ret
        exact ⟨rfl, HI.out.2⟩
end Go.Proofs.YtkjpnciimabclaaDoor

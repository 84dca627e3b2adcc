/-
  LAYER 23: what is decoded of any text: the statement's walk.
-/
import Derived.Test.YtmmehfkiceelkaaDoorCdW
namespace Go.Proofs.YtmmehfkiceelkaaDoor
open Go.ChangeShapes Go.WideShapes Go.ChangeAt Go.RowKit

set_option maxHeartbeats 4000000 in
set_option maxRecDepth 20000 in
theorem codeReads_walk (s : ByteArray) (_ : s.size ≤ maxLen) (w : World) (hG : Good w) :
    Calls Tryd.prog 5 #[.string s] w fun e w' => e = .returned (.bool true) ∧ Below w.heap.size w w' := by
  obtain ⟨s, rfl⟩ : ∃ l : List UInt8, s = ⟨l.toArray⟩ := ⟨s.data.toList, rfl⟩
  have HI : Hid (FInv w w) := Lib.hid ⟨hG, Below.refl _ _⟩
  clear hG
  by_cases hs : 200 < s.length
  · have k1 : (200 : Int) < (s.length : Int) := by omega
    go_enter Tryd.func5, Tryd.ntmps5
    go_wp2_with fail
    refine (works_any _ (FInv.good HI)).mono ?_
    rintro e w2 ⟨rfl, b⟩
    have HI := FInv.call HI b
    clear b
    go_wp2_with fail
    go_ret
    exact ⟨rfl, HI.out.2⟩
  have k1 : ¬ (200 : Int) < (s.length : Int) := by omega
  have HP : Hid (∀ W, Good W → Calls Tryd.prog 13 #[.string ⟨s.toArray⟩] W fun e w' => e = .returned (.tuple #[iV (prO s) (prA s), .int .i64 (prE s)]) ∧ Below W.heap.size W w') := Lib.hid fun W hG => parse_any s (by omega) W hG
  rcases hr : Cd.pread s with _ | ⟨op, a⟩
  · have e1 : prO s = 0 := by unfold prO; rw [hr]; rfl
    have e2 : prA s = 0 := by unfold prA; rw [hr]; rfl
    have e3 : prE s = 7 := by unfold prE; rw [hr]; rfl
    rw [e1, e2, e3] at HP
    unfold iV at HP
    clear e1 e2 e3 hr hs
    go_enter Tryd.func5, Tryd.ntmps5
    go_wp2_with fail
    refine (HP.out _ (FInv.good HI)).mono ?_
    rintro e w2 ⟨rfl, b⟩
    replace HI := FInv.alloc (FInv.call HI b) (.cells #[.int .i64 0, .int .i64 0] 23)
    clear b
    go_wp2_with fail
    refine (works_any _ (FInv.good HI)).mono ?_
    rintro e w3 ⟨rfl, b⟩
    have HI := FInv.call HI b
    clear b
    go_wp2_with fail
    go_ret
    exact ⟨rfl, HI.out.2⟩
  · obtain ⟨⟨a0, a1⟩, ht⟩ := Cd.pread_iff.1 hr
    have e1 : prO s = op := by unfold prO; rw [hr]; rfl
    have e2 : prA s = a := by unfold prA; rw [hr]; rfl
    have e3 : prE s = 0 := by unfold prE; rw [hr]; rfl
    have e4 : txS op a = s := by unfold txS; rw [ht]; rfl
    have e5 : txE op a = 0 := by unfold txE; rw [ht]; rfl
    have HX : Hid (∀ W, Good W → Calls Tryd.prog 11 #[iV op a] W fun e w' => e = .returned (.tuple #[.string ⟨(txS op a).toArray⟩, .int .i64 (txE op a)]) ∧ Below W.heap.size W w') := Lib.hid fun W hG => text_any op a a0 a1 W hG
    rw [e1, e2, e3] at HP
    rw [e4, e5] at HX
    unfold iV at HP HX
    clear e1 e2 e3 e4 e5 hr hs ht a0 a1
    go_enter Tryd.func5, Tryd.ntmps5
    go_wp2_with fail
    refine (HP.out _ (FInv.good HI)).mono ?_
    rintro e w2 ⟨rfl, b⟩
    replace HI := FInv.alloc (FInv.call HI b) (.cells #[.int .i64 op, .int .i64 a] 23)
    clear b
    go_wp2_with fail
    refine (HX.out _ (FInv.good HI)).mono ?_
    rintro e w3 ⟨rfl, b⟩
    replace HI := FInv.call HI b
    clear b
    go_wp2_with fail
    refine (works_any _ (FInv.good HI)).mono ?_
    rintro e w4 ⟨rfl, b⟩
    have HI := FInv.call HI b
    clear b
    go_wp2_with fail
    go_ret
    exact ⟨rfl, HI.out.2⟩
end Go.Proofs.YtmmehfkiceelkaaDoor

/-
  LAYER 23: what instructions pop, push, and where they go on: the statement's walk.
-/
import Derived.Test.YtmmehfkiceelkaaDoorCdR3
namespace Go.Proofs.YtmmehfkiceelkaaDoor
open Go.ChangeShapes Go.WideShapes Go.ChangeAt Go.RowKit

theorem tgt_len (op a at_ : Int) : (Cd.tgtL op a at_).length ≤ 2 := by
  unfold Cd.tgtL
  repeat' split
  all_goals simp
set_option maxHeartbeats 4000000 in
set_option maxRecDepth 20000 in
theorem codeEffects_walk (op : Int) (_ : -9223372036854775808 ≤ op) (_ : op ≤ 9223372036854775807) (a : Int) (_ : -9223372036854775808 ≤ a) (_ : a ≤ 9223372036854775807) (t : Int) (_ : -9223372036854775808 ≤ t) (_ : t ≤ 9223372036854775807) (w : World) (hG : Good w) :
    Calls Tryd.prog 4 #[.agg #[.int .i64 op, .int .i64 a], .int .i64 t] w fun e w' => e = .returned (.bool true) ∧ Below w.heap.size w w' := by
  have HI0 : Hid (FInv w w) := Lib.hid ⟨hG, Below.refl _ _⟩
  have HI := FInv.alloc HI0 (.cells #[.int .i64 op, .int .i64 a] 23)
  have HX := Lib.hid (Blk.new w 23 #[.int .i64 op, .int .i64 a])
  clear hG HI0
  have HF := Lib.hid fun W => effect_any op a W
  have HFr := Lib.hid fun W => reffect_any op a W
  have HT := Lib.hid fun W => targets_any op a t W
  have HTr := Lib.hid fun W => rtargets_any op a t W
  have hl := tgt_len op a t
  obtain ⟨P, hP⟩ : ∃ c, efP op = c := ⟨_, rfl⟩
  obtain ⟨Q, hQ⟩ : ∃ c, efQ op = c := ⟨_, rfl⟩
  obtain ⟨E, hE⟩ : ∃ c, efE op = c := ⟨_, rfl⟩
  obtain ⟨TL, hTL⟩ : ∃ c, Cd.tgtL op a t = c := ⟨_, rfl⟩
  obtain ⟨TE, hTE⟩ : ∃ c, Cd.tgtE op a t = c := ⟨_, rfl⟩
  rw [hP, hQ, hE] at HF HFr
  rw [hTL, hTE] at HT HTr
  rw [hTL] at hl
  unfold iV at HF HFr HT HTr
  clear hP hQ hE hTL hTE
  go_enter Tryd.func4, Tryd.ntmps4
  go_wp2_with fail
  refine (HF.out _).mono ?_
  rintro e w2 ⟨rfl, b⟩
  replace HI := FInv.call HI b
  replace HX := Lib.hid (HX.out.call b)
  have z0 := HX.out.cell 0
  have z1 := HX.out.cell 1
  clear b
  go_wp2_with fail
  clear z0 z1
  refine (HFr.out _).mono ?_
  rintro e w3 ⟨rfl, b⟩
  replace HI := FInv.call HI b
  replace HX := Lib.hid (HX.out.call b)
  have z0 := HX.out.cell 0
  have z1 := HX.out.cell 1
  clear b
  go_wp2_with fail
  clear z0 z1
  refine (HT.out _).mono ?_
  rintro e w4 ⟨A, c, rfl, _, _, hRd, b⟩
  replace HI := FInv.call HI b
  replace HX := Lib.hid (HX.out.call b)
  have z0 := HX.out.cell 0
  have z1 := HX.out.cell 1
  have HR := Lib.hid hRd
  clear b hRd
  go_wp2_with fail
  clear z0 z1
  refine (HTr.out _).mono ?_
  rintro e w5 ⟨B, d, rfl, _, _, hRd, b⟩
  replace HI := FInv.call HI b
  replace HR := Lib.hid (rd_call HR.out b)
  have HS := Lib.hid hRd
  clear b hRd HX
  go_wp2_with fail
  refine (eq_ints TL TL A c B d _ HR.out HS.out (by omega) (by omega)).mono ?_
  rintro e w6 ⟨rfl, b⟩
  replace HI := FInv.call HI b
  rw [show (TL == TL) = true from by simp]
  clear b
  go_wp2_with fail
  refine (works_any _ (FInv.good HI)).mono ?_
  rintro e w8 ⟨rfl, b⟩
  have HI := FInv.call HI b
  clear b
  go_wp2_with fail
  go_ret
  exact ⟨rfl, HI.out.2⟩
end Go.Proofs.YtmmehfkiceelkaaDoor

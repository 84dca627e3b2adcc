/-
  LAYER 42: commands are found again from their strings: the statement's walk.
-/
import Derived.Test.YtphpgbbjbncfoaaGreatDoorCom16
import Derived.Test.YtphpgbbjbncfoaaGreatDoorComW1
import Derived.Test.YtphpgbbjbncfoaaGreatDoorComNW
import Derived.Test.YtphpgbbjbncfoaaGreatDoorComWo
import Derived.Test.YtphpgbbjbncfoaaGreatDoorComG
import Derived.Deep.CutBlock
import Derived.Deep.DeepCutAuto
import Derived.Deep.RegionHeld3
namespace Go.Proofs.YtphpgbbjbncfoaaGreatDoor
open Go.ChangeShapes Go.WideShapes Go.ChangeAt Go.RowKit

/-- The arguments' blocks, in a good world. -/
def NB (w : World) (x0 x1 x2 y0 y1 y2 : Value) (W : World) : Prop := Good w ∧ Below w.heap.size w W ∧ Blk W w.heap.size 37 #[x0, x1, x2] ∧ Blk W (w.heap.size + 1) 37 #[y0, y1, y2]
/-- A command's block, laid later. -/
def Bx (w : World) (b : Nat) (cs : Array Value) (W : World) : Prop := w.heap.size + 1 < b ∧ Blk W b 24 cs
section
variable {w W W' : World} {x0 x1 x2 y0 y1 y2 : Value} {b b' : Nat} {cs cs' : Array Value}
theorem NB.new (hG : Good w) : Hid (NB w x0 x1 x2 y0 y1 y2 ((w.alloc (.cells #[x0, x1, x2] 37)).alloc (.cells #[y0, y1, y2] 37))) := Lib.hid ⟨hG, below_new (below_new (Below.refl _ _) _) _, (Blk.new _ _ _).alloc _, by
  have := Blk.new (w.alloc (.cells #[x0, x1, x2] 37)) 37 #[y0, y1, y2]
  rwa [World.size_alloc] at this⟩
theorem NB.call (h : Hid (NB w x0 x1 x2 y0 y1 y2 W)) (hb : Below W.heap.size W W') : Hid (NB w x0 x1 x2 y0 y1 y2 W') := Lib.hid ⟨h.out.1, below_call h.out.2.1 hb, h.out.2.2.1.call hb, h.out.2.2.2.call hb⟩
theorem NB.drew (h : Hid (NB w x0 x1 x2 y0 y1 y2 W)) : Hid (NB w x0 x1 x2 y0 y1 y2 W.drew) := Lib.hid ⟨h.out.1, h.out.2.1.drew, h.out.2.2.1.drew, h.out.2.2.2.drew⟩
theorem NB.alloc (h : Hid (NB w x0 x1 x2 y0 y1 y2 W)) (o : Obj) : Hid (NB w x0 x1 x2 y0 y1 y2 (W.alloc o)) := Lib.hid ⟨h.out.1, below_new h.out.2.1 _, h.out.2.2.1.alloc _, h.out.2.2.2.alloc _⟩
theorem NB.put4 (h : Hid (NB w x0 x1 x2 y0 y1 y2 W)) (hb : w.heap.size + 1 < b) (p q r s : Value) : Hid (NB w x0 x1 x2 y0 y1 y2 ((((W.setCell ⟨b, 0, none⟩ p).setCell ⟨b, 1, none⟩ q).setCell ⟨b, 2, none⟩ r).setCell ⟨b, 3, none⟩ s)) :=
  Lib.hid ⟨h.out.1, below_put4 h.out.2.1 (by omega), (((h.out.2.2.1.far (by show w.heap.size ≠ b; omega) _).far (by show w.heap.size ≠ b; omega) _).far (by show w.heap.size ≠ b; omega) _).far (by show w.heap.size ≠ b; omega) _, (((h.out.2.2.2.far (by show w.heap.size + 1 ≠ b; omega) _).far (by show w.heap.size + 1 ≠ b; omega) _).far (by show w.heap.size + 1 ≠ b; omega) _).far (by show w.heap.size + 1 ≠ b; omega) _⟩
theorem NB.cells (h : Hid (NB w x0 x1 x2 y0 y1 y2 W)) : W.cell? ⟨w.heap.size, 0, none⟩ = some x0 ∧ W.cell? ⟨w.heap.size, 1, none⟩ = some x1 ∧ W.cell? ⟨w.heap.size, 2, none⟩ = some x2 ∧ W.cell? ⟨w.heap.size + 1, 0, none⟩ = some y0 ∧ W.cell? ⟨w.heap.size + 1, 1, none⟩ = some y1 ∧ W.cell? ⟨w.heap.size + 1, 2, none⟩ = some y2 ∧ Hid (NB w x0 x1 x2 y0 y1 y2 W) := ⟨h.out.2.2.1.cell 0, h.out.2.2.1.cell 1, h.out.2.2.1.cell 2, h.out.2.2.2.cell 0, h.out.2.2.2.cell 1, h.out.2.2.2.cell 2, h⟩
theorem NB.limb {p0 p1 p2 p3 p4 p5 q : Prop} (h : p0 ∧ p1 ∧ p2 ∧ p3 ∧ p4 ∧ p5 ∧ q) : q := h.2.2.2.2.2.2
theorem NB.good (h : Hid (NB w x0 x1 x2 y0 y1 y2 W)) : Good W := h.out.1.below h.out.2.1 (Nat.le_refl _)
theorem Bx.new (h : Hid (NB w x0 x1 x2 y0 y1 y2 W)) (cs : Array Value) : Hid (Bx w W.heap.size cs (W.alloc (.cells cs 24))) := Lib.hid ⟨h.out.2.2.2.lt, Blk.new _ _ _⟩
theorem Bx.call (h : Hid (Bx w b cs W)) (hb : Below W.heap.size W W') : Hid (Bx w b cs W') := Lib.hid ⟨h.out.1, h.out.2.call hb⟩
theorem Bx.alloc (h : Hid (Bx w b cs W)) (o : Obj) : Hid (Bx w b cs (W.alloc o)) := Lib.hid ⟨h.out.1, h.out.2.alloc o⟩
theorem Bx.ne (h : Hid (Bx w b cs W)) : Hid (b ≠ W.heap.size) := Lib.hid (Nat.ne_of_lt h.out.2.lt)
theorem Bx.far (h : Hid (Bx w b cs W)) (hne : b ≠ b') (p q r s : Value) : Hid (Bx w b cs ((((W.setCell ⟨b', 0, none⟩ p).setCell ⟨b', 1, none⟩ q).setCell ⟨b', 2, none⟩ r).setCell ⟨b', 3, none⟩ s)) := Lib.hid ⟨h.out.1, (((h.out.2.far hne _).far hne _).far hne _).far hne _⟩
theorem Bx.put4 {x y z u : Value} (h : Hid (Bx w b #[x, y, z, u] W)) (p q r s : Value) : Hid (Bx w b #[p, q, r, s] ((((W.setCell ⟨b, 0, none⟩ p).setCell ⟨b, 1, none⟩ q).setCell ⟨b, 2, none⟩ r).setCell ⟨b, 3, none⟩ s)) := Lib.hid ⟨h.out.1, h.out.2.put4⟩
end

set_option maxHeartbeats 8000000 in
set_option maxRecDepth 100000 in
theorem back_main (k a k' a' : Int) (A A' : Option Addr) (nx cap ny cap' : Nat) (q1 a1 : Int) (n1 v1 : List UInt8) (q2 a2 : Int) (n2 v2 : List UInt8) (x : UInt8) (S T WD : List UInt8) (w : World) (hG : Good w)
    (hn : ¬ (300 : Int) < (nx : Int)) (hn' : ¬ (300 : Int) < (ny : Int))
    (HC : Hid (∀ W, Hid (NB w (.int .u8 k) (.int .u32 a) (.slice A nx cap) (.int .u8 k') (.int .u32 a') (.slice A' ny cap') W) → Calls Tryz.prog 18 #[.agg #[.int .u8 k, .int .u32 a, .slice A nx cap]] W fun e w' => e = .returned (.agg #[.int .i64 q1, .int .i64 a1, .string ⟨n1.toArray⟩, .string ⟨v1.toArray⟩]) ∧ Below W.heap.size W w'))
    (HD : Hid (∀ W, Hid (NB w (.int .u8 k) (.int .u32 a) (.slice A nx cap) (.int .u8 k') (.int .u32 a') (.slice A' ny cap') W) → Calls Tryz.prog 18 #[.agg #[.int .u8 k', .int .u32 a', .slice A' ny cap']] W fun e w' => e = .returned (.agg #[.int .i64 q2, .int .i64 a2, .string ⟨n2.toArray⟩, .string ⟨v2.toArray⟩]) ∧ Below W.heap.size W w'))
    (HP1 : Hid (∀ W, Good W → Calls Tryz.prog 15 #[.agg #[.int .i64 q1, .int .i64 a1, .string ⟨n1.toArray⟩, .string ⟨v1.toArray⟩]] W fun e w' => e = .returned (.tuple #[.string ⟨S.toArray⟩, .int .i64 0]) ∧ Below W.heap.size W w'))
    (HP2 : Hid (∀ W, Good W → Calls Tryz.prog 15 #[.agg #[.int .i64 q2, .int .i64 a2, .string ⟨n2.toArray⟩, .string ⟨v2.toArray⟩]] W fun e w' => e = .returned (.tuple #[.string ⟨T.toArray⟩, .int .i64 0]) ∧ Below W.heap.size W w'))
    (HPa : Hid (∀ W, Good W → Calls Tryz.prog 20 #[.string ⟨S.toArray⟩] W fun e w' => e = .returned (.tuple #[.agg #[.int .i64 q1, .int .i64 a1, .string ⟨n1.toArray⟩, .string ⟨v1.toArray⟩], .int .i64 0]) ∧ Below W.heap.size W w'))
    (HW : Hid (∀ W, Calls Tryz.prog 28 #[.int .i64 q1] W fun e w' => e = .returned (.string ⟨WD.toArray⟩) ∧ Below W.heap.size W w'))
    (HK1 : Hid (∀ W, Good W → Calls Tryz.prog 16 #[.agg #[.int .i64 q1, .int .i64 a1, .string ⟨n1.toArray⟩, .string ⟨v1.toArray⟩]] W fun e w' => e = .returned (.int .i64 0) ∧ Below W.heap.size W w'))
    (HK2 : Hid (∀ W, Good W → Calls Tryz.prog 16 #[.agg #[.int .i64 q2, .int .i64 a2, .string ⟨n2.toArray⟩, .string ⟨v2.toArray⟩]] W fun e w' => e = .returned (.int .i64 0) ∧ Below W.heap.size W w'))
    (HPl : Hid (∀ W, Calls Tryz.prog 26 #[.string ⟨S.toArray⟩] W fun e w' => e = .returned (.bool true) ∧ W = w'))
    (HST : Hid ((S = T ∧ q1 = q2 ∧ a1 = a2 ∧ n1 = n2 ∧ v1 = v2) ∨ (S ≠ T ∧ (q1 ≠ q2 ∨ a1 ≠ a2 ∨ n1 ≠ n2 ∨ v1 ≠ v2))))
    (HS0 : Hid (S[0]? = some x ∧ x ≠ 35 ∧ S.length ≤ 1000000 ∧ WD <+: S)) :
    Calls Tryz.prog 10 #[.agg #[.int .u8 k, .int .u32 a, .slice A nx cap], .agg #[.int .u8 k', .int .u32 a', .slice A' ny cap']] w fun e w' => e = .returned (.bool true) ∧ Below w.heap.size w w' := by
  have HN := NB.new (w := w) (x0 := .int .u8 k) (x1 := .int .u32 a) (x2 := .slice A nx cap) (y0 := .int .u8 k') (y1 := .int .u32 a') (y2 := .slice A' ny cap') hG
  have hg := hG.sz
  clear hG
  go_enter Tryz.func10, Tryz.ntmps10
  go_upto_region 3 with fail
  go_cut [5, 6] (fun s5 s6 wx => ∃ b5 b6, s5 = .pointer (some ⟨b5, 0, none⟩) ∧ s6 = .pointer (some ⟨b6, 0, none⟩) ∧ Hid (NB w (.int .u8 k) (.int .u32 a) (.slice A nx cap) (.int .u8 k') (.int .u32 a') (.slice A' ny cap') wx) ∧ Hid (Bx w b5 #[.int .i64 q1, .int .i64 a1, .string ⟨n1.toArray⟩, .string ⟨v1.toArray⟩] wx) ∧ Hid (Bx w b6 #[.int .i64 q2, .int .i64 a2, .string ⟨n2.toArray⟩, .string ⟨v2.toArray⟩] wx))
  case first =>
    refine wp_region_held_drew (S := fun W => W.cell? ⟨w.heap.size, 0, none⟩ = some (.int .u8 k) ∧ W.cell? ⟨w.heap.size, 1, none⟩ = some (.int .u32 a) ∧ W.cell? ⟨w.heap.size, 2, none⟩ = some (.slice A nx cap) ∧ W.cell? ⟨w.heap.size + 1, 0, none⟩ = some (.int .u8 k') ∧ W.cell? ⟨w.heap.size + 1, 1, none⟩ = some (.int .u32 a') ∧ W.cell? ⟨w.heap.size + 1, 2, none⟩ = some (.slice A' ny cap') ∧ Hid (NB w (.int .u8 k) (.int .u32 a) (.slice A nx cap) (.int .u8 k') (.int .u32 a') (.slice A' ny cap') W)) (by kernel_rfl) ?_ (fun hHeld0 => ?_)
    · exact NB.cells (NB.drew HN)
    clear HN
    obtain ⟨w0, ew0⟩ : ∃ V, World.drew ((w.alloc (.cells #[.int .u8 k, .int .u32 a, .slice A nx cap] 37)).alloc (.cells #[.int .u8 k', .int .u32 a', .slice A' ny cap'] 37)) = V := ⟨_, rfl⟩
    rw [ew0] at hHeld0 ⊢
    clear ew0
    refine wpAnyH_take (i := 0) (oi := ⟨some 25, _, _, _, _, _⟩) (v := ?_) rfl (by kernel_rfl) (by kernel_rfl) (by kernel_rfl) (fun _ _ _ h => h) (Or.inl ⟨rfl, ?_⟩) (by assumption) ?_
    rotate_left
    · (intro w hSw; (try dsimp only at hSw); go_simp; (try with_reducible rfl))
    (try simp only [Act.put, List.setIfInBounds_toArray, List.set_cons_zero, List.set_cons_succ])
    refine wpAnyH_take (i := 2) (oi := ⟨some 27, _, _, _, _, _⟩) (v := ?_) rfl (by kernel_rfl) (by kernel_rfl) (by kernel_rfl) (fun _ _ _ h => h) (Or.inl ⟨rfl, ?_⟩) (by assumption) ?_
    rotate_left
    · (intro w hSw; (try dsimp only at hSw); go_simp; (try with_reducible rfl))
    (try simp only [Act.put, List.setIfInBounds_toArray, List.set_cons_zero, List.set_cons_succ])
    refine wpAnyH_ready (rs := [1, 4, 5]) (by kernel_rfl) (by simp) ?_
    refine AllReadyH.cons (o := ⟨some 26, _, _, _, _, _⟩) rfl (fun K hK => ?_) ?_
    · have hCur := NB.limb hHeld0
      go_simp
      refine (HC.out _ hCur).mono ?_
      rintro e w1 ⟨rfl, hb⟩
      have hNew := NB.call hCur hb
      clear hb hCur hHeld0
      go_wp2_with fail
      refine hK.out _ _ ?_ (fun hHeld2 => ?_)
      · exact NB.cells hNew
      clear hK K hNew
      (try simp only [Act.put, List.setIfInBounds_toArray, List.set_cons_zero, List.set_cons_succ])
      refine wpAnyH_ready (rs := [3, 4, 5]) (by kernel_rfl) (by simp) ?_
      refine AllReadyH.cons (o := ⟨some 28, _, _, _, _, _⟩) rfl (fun K hK => ?_) ?_
      · have hCur := NB.limb hHeld2
        go_simp
        refine (HD.out _ hCur).mono ?_
        rintro e w3 ⟨rfl, hb⟩
        have hNew := NB.call hCur hb
        clear hb hCur hHeld2
        go_wp2_with fail
        refine hK.out _ _ ?_ (fun hHeld4 => ?_)
        · exact NB.cells hNew
        clear hK K hNew
        (try simp only [Act.put, List.setIfInBounds_toArray, List.set_cons_zero, List.set_cons_succ])
        refine wpAnyH_ready (rs := [4, 5]) (by kernel_rfl) (by simp) ?_
        refine AllReadyH.cons (o := ⟨some 5, _, _, _, _, _⟩) rfl (fun K hK => ?_) ?_
        · have hCur := NB.limb hHeld4
          have hNew := NB.alloc hCur (.cells #[.int .i64 0, .int .i64 0, .string ⟨#[]⟩, .string ⟨#[]⟩] 24)
          have hB5 := Bx.new hCur #[.int .i64 0, .int .i64 0, .string ⟨#[]⟩, .string ⟨#[]⟩]
          clear hCur
          go_simp
          try go_wp2_with fail
          refine hK.out _ _ ?_ (fun hHeld6 => ?_)
          · exact NB.cells hNew
          clear hK K hNew hHeld4
          (try simp only [Act.put, List.setIfInBounds_toArray, List.set_cons_zero, List.set_cons_succ])
          obtain ⟨w5, ew5⟩ : ∃ V, World.alloc w3 (.cells #[.int .i64 0, .int .i64 0, .string ⟨#[]⟩, .string ⟨#[]⟩] 24) = V := ⟨_, rfl⟩
          rw [ew5] at hHeld6 hB5 ⊢
          obtain ⟨b7, eb7⟩ : ∃ m, w3.heap.size = m := ⟨_, rfl⟩
          rw [eb7] at hB5 ⊢
          clear ew5 eb7
          refine wpAnyH_ready (rs := [5]) (by kernel_rfl) (by simp) ?_
          refine AllReadyH.cons (o := ⟨some 6, _, _, _, _, _⟩) rfl (fun K hK => ?_) ?_
          · have hCur := NB.limb hHeld6
            have hNew := NB.alloc hCur (.cells #[.int .i64 0, .int .i64 0, .string ⟨#[]⟩, .string ⟨#[]⟩] 24)
            have hB6 := Bx.new hCur #[.int .i64 0, .int .i64 0, .string ⟨#[]⟩, .string ⟨#[]⟩]
            have hNE := Bx.ne hB5
            replace hB5 := Bx.alloc hB5 (.cells #[.int .i64 0, .int .i64 0, .string ⟨#[]⟩, .string ⟨#[]⟩] 24)
            clear hCur
            go_simp
            try go_wp2_with fail
            refine hK.out _ _ ?_ (fun hHeld9 => ?_)
            · exact NB.cells hNew
            clear hK K hNew hHeld6
            (try simp only [Act.put, List.setIfInBounds_toArray, List.set_cons_zero, List.set_cons_succ])
            obtain ⟨w8, ew8⟩ : ∃ V, World.alloc w5 (.cells #[.int .i64 0, .int .i64 0, .string ⟨#[]⟩, .string ⟨#[]⟩] 24) = V := ⟨_, rfl⟩
            rw [ew8] at hHeld9 hB5 hB6 ⊢
            obtain ⟨b10, eb10⟩ : ∃ m, w5.heap.size = m := ⟨_, rfl⟩
            rw [eb10] at hB6 hNE ⊢
            clear ew8 eb10
            refine wpAnyH_ready (rs := [6]) (by kernel_rfl) (by simp) ?_
            refine AllReadyH.cons (o := ⟨none, _, _, _, _, _⟩) rfl (fun K hK => ?_) AllReadyH.nil
            have hCur := NB.limb hHeld9
            have c0 := hB5.out.2.cell 0
            have c1 := hB5.out.2.cell 1
            have c2 := hB5.out.2.cell 2
            have c3 := hB5.out.2.cell 3
            have f0 := hB5.out.2.frozen 0
            have f1 := hB5.out.2.frozen 1
            have f2 := hB5.out.2.frozen 2
            have f3 := hB5.out.2.frozen 3
            clear hHeld9
            go_simp
            try go_wp2_with fail
            refine hK.out _ _ ?_ (fun hHeld11 => ?_)
            · exact NB.cells (NB.put4 hCur hB5.out.1 (.int .i64 q1) (.int .i64 a1) (.string ⟨n1.toArray⟩) (.string ⟨v1.toArray⟩))
            replace hB6 := Bx.far hB6 hNE.out.symm (.int .i64 q1) (.int .i64 a1) (.string ⟨n1.toArray⟩) (.string ⟨v1.toArray⟩)
            replace hB5 := Bx.put4 hB5 (.int .i64 q1) (.int .i64 a1) (.string ⟨n1.toArray⟩) (.string ⟨v1.toArray⟩)
            clear hK K c0 c1 c2 c3 f0 f1 f2 f3 hCur
            (try simp only [Act.put, List.setIfInBounds_toArray, List.set_cons_zero, List.set_cons_succ])
            refine wpAnyH_ready (rs := [7]) (by kernel_rfl) (by simp) ?_
            refine AllReadyH.cons (o := ⟨none, _, _, _, _, _⟩) rfl (fun K hK => ?_) AllReadyH.nil
            have hCur := NB.limb hHeld11
            have c0 := hB6.out.2.cell 0
            have c1 := hB6.out.2.cell 1
            have c2 := hB6.out.2.cell 2
            have c3 := hB6.out.2.cell 3
            have f0 := hB6.out.2.frozen 0
            have f1 := hB6.out.2.frozen 1
            have f2 := hB6.out.2.frozen 2
            have f3 := hB6.out.2.frozen 3
            clear hHeld11
            go_simp
            try go_wp2_with fail
            refine hK.out _ _ ?_ (fun hHeld13 => ?_)
            · exact NB.cells (NB.put4 hCur hB6.out.1 (.int .i64 q2) (.int .i64 a2) (.string ⟨n2.toArray⟩) (.string ⟨v2.toArray⟩))
            replace hB5 := Bx.far hB5 hNE.out (.int .i64 q2) (.int .i64 a2) (.string ⟨n2.toArray⟩) (.string ⟨v2.toArray⟩)
            replace hB6 := Bx.put4 hB6 (.int .i64 q2) (.int .i64 a2) (.string ⟨n2.toArray⟩) (.string ⟨v2.toArray⟩)
            clear hK K c0 c1 c2 c3 f0 f1 f2 f3 hCur
            (try simp only [Act.put, List.setIfInBounds_toArray, List.set_cons_zero, List.set_cons_succ])
            refine wpAnyH_done (by kernel_rfl) ?_ _
            have hCur := NB.limb hHeld13
            clear hHeld13
            go_wp2_with fail
            go_meet
            exact ⟨_, _, rfl, rfl, hCur, hB5, hB6⟩
          exact AllReadyH.nil
        refine AllReadyH.cons (o := ⟨some 6, _, _, _, _, _⟩) rfl (fun K hK => ?_) ?_
        · have hCur := NB.limb hHeld4
          have hNew := NB.alloc hCur (.cells #[.int .i64 0, .int .i64 0, .string ⟨#[]⟩, .string ⟨#[]⟩] 24)
          have hB6 := Bx.new hCur #[.int .i64 0, .int .i64 0, .string ⟨#[]⟩, .string ⟨#[]⟩]
          clear hCur
          go_simp
          try go_wp2_with fail
          refine hK.out _ _ ?_ (fun hHeld16 => ?_)
          · exact NB.cells hNew
          clear hK K hNew hHeld4
          (try simp only [Act.put, List.setIfInBounds_toArray, List.set_cons_zero, List.set_cons_succ])
          obtain ⟨w15, ew15⟩ : ∃ V, World.alloc w3 (.cells #[.int .i64 0, .int .i64 0, .string ⟨#[]⟩, .string ⟨#[]⟩] 24) = V := ⟨_, rfl⟩
          rw [ew15] at hHeld16 hB6 ⊢
          obtain ⟨b17, eb17⟩ : ∃ m, w3.heap.size = m := ⟨_, rfl⟩
          rw [eb17] at hB6 ⊢
          clear ew15 eb17
          refine wpAnyH_ready (rs := [4]) (by kernel_rfl) (by simp) ?_
          refine AllReadyH.cons (o := ⟨some 5, _, _, _, _, _⟩) rfl (fun K hK => ?_) ?_
          · have hCur := NB.limb hHeld16
            have hNew := NB.alloc hCur (.cells #[.int .i64 0, .int .i64 0, .string ⟨#[]⟩, .string ⟨#[]⟩] 24)
            have hB5 := Bx.new hCur #[.int .i64 0, .int .i64 0, .string ⟨#[]⟩, .string ⟨#[]⟩]
            have hNE := Bx.ne hB6
            replace hB6 := Bx.alloc hB6 (.cells #[.int .i64 0, .int .i64 0, .string ⟨#[]⟩, .string ⟨#[]⟩] 24)
            clear hCur
            go_simp
            try go_wp2_with fail
            refine hK.out _ _ ?_ (fun hHeld19 => ?_)
            · exact NB.cells hNew
            clear hK K hNew hHeld16
            (try simp only [Act.put, List.setIfInBounds_toArray, List.set_cons_zero, List.set_cons_succ])
            obtain ⟨w18, ew18⟩ : ∃ V, World.alloc w15 (.cells #[.int .i64 0, .int .i64 0, .string ⟨#[]⟩, .string ⟨#[]⟩] 24) = V := ⟨_, rfl⟩
            rw [ew18] at hHeld19 hB5 hB6 ⊢
            obtain ⟨b20, eb20⟩ : ∃ m, w15.heap.size = m := ⟨_, rfl⟩
            rw [eb20] at hB5 hNE ⊢
            clear ew18 eb20
            refine wpAnyH_ready (rs := [6]) (by kernel_rfl) (by simp) ?_
            refine AllReadyH.cons (o := ⟨none, _, _, _, _, _⟩) rfl (fun K hK => ?_) AllReadyH.nil
            have hCur := NB.limb hHeld19
            have c0 := hB5.out.2.cell 0
            have c1 := hB5.out.2.cell 1
            have c2 := hB5.out.2.cell 2
            have c3 := hB5.out.2.cell 3
            have f0 := hB5.out.2.frozen 0
            have f1 := hB5.out.2.frozen 1
            have f2 := hB5.out.2.frozen 2
            have f3 := hB5.out.2.frozen 3
            clear hHeld19
            go_simp
            try go_wp2_with fail
            refine hK.out _ _ ?_ (fun hHeld21 => ?_)
            · exact NB.cells (NB.put4 hCur hB5.out.1 (.int .i64 q1) (.int .i64 a1) (.string ⟨n1.toArray⟩) (.string ⟨v1.toArray⟩))
            replace hB6 := Bx.far hB6 hNE.out (.int .i64 q1) (.int .i64 a1) (.string ⟨n1.toArray⟩) (.string ⟨v1.toArray⟩)
            replace hB5 := Bx.put4 hB5 (.int .i64 q1) (.int .i64 a1) (.string ⟨n1.toArray⟩) (.string ⟨v1.toArray⟩)
            clear hK K c0 c1 c2 c3 f0 f1 f2 f3 hCur
            (try simp only [Act.put, List.setIfInBounds_toArray, List.set_cons_zero, List.set_cons_succ])
            refine wpAnyH_ready (rs := [7]) (by kernel_rfl) (by simp) ?_
            refine AllReadyH.cons (o := ⟨none, _, _, _, _, _⟩) rfl (fun K hK => ?_) AllReadyH.nil
            have hCur := NB.limb hHeld21
            have c0 := hB6.out.2.cell 0
            have c1 := hB6.out.2.cell 1
            have c2 := hB6.out.2.cell 2
            have c3 := hB6.out.2.cell 3
            have f0 := hB6.out.2.frozen 0
            have f1 := hB6.out.2.frozen 1
            have f2 := hB6.out.2.frozen 2
            have f3 := hB6.out.2.frozen 3
            clear hHeld21
            go_simp
            try go_wp2_with fail
            refine hK.out _ _ ?_ (fun hHeld23 => ?_)
            · exact NB.cells (NB.put4 hCur hB6.out.1 (.int .i64 q2) (.int .i64 a2) (.string ⟨n2.toArray⟩) (.string ⟨v2.toArray⟩))
            replace hB5 := Bx.far hB5 hNE.out.symm (.int .i64 q2) (.int .i64 a2) (.string ⟨n2.toArray⟩) (.string ⟨v2.toArray⟩)
            replace hB6 := Bx.put4 hB6 (.int .i64 q2) (.int .i64 a2) (.string ⟨n2.toArray⟩) (.string ⟨v2.toArray⟩)
            clear hK K c0 c1 c2 c3 f0 f1 f2 f3 hCur
            (try simp only [Act.put, List.setIfInBounds_toArray, List.set_cons_zero, List.set_cons_succ])
            refine wpAnyH_done (by kernel_rfl) ?_ _
            have hCur := NB.limb hHeld23
            clear hHeld23
            go_wp2_with fail
            go_meet
            exact ⟨_, _, rfl, rfl, hCur, hB5, hB6⟩
          exact AllReadyH.nil
        exact AllReadyH.nil
      refine AllReadyH.cons (o := ⟨some 5, _, _, _, _, _⟩) rfl (fun K hK => ?_) ?_
      · have hCur := NB.limb hHeld2
        have hNew := NB.alloc hCur (.cells #[.int .i64 0, .int .i64 0, .string ⟨#[]⟩, .string ⟨#[]⟩] 24)
        have hB5 := Bx.new hCur #[.int .i64 0, .int .i64 0, .string ⟨#[]⟩, .string ⟨#[]⟩]
        clear hCur
        go_simp
        try go_wp2_with fail
        refine hK.out _ _ ?_ (fun hHeld26 => ?_)
        · exact NB.cells hNew
        clear hK K hNew hHeld2
        (try simp only [Act.put, List.setIfInBounds_toArray, List.set_cons_zero, List.set_cons_succ])
        obtain ⟨w25, ew25⟩ : ∃ V, World.alloc w1 (.cells #[.int .i64 0, .int .i64 0, .string ⟨#[]⟩, .string ⟨#[]⟩] 24) = V := ⟨_, rfl⟩
        rw [ew25] at hHeld26 hB5 ⊢
        obtain ⟨b27, eb27⟩ : ∃ m, w1.heap.size = m := ⟨_, rfl⟩
        rw [eb27] at hB5 ⊢
        clear ew25 eb27
        refine wpAnyH_ready (rs := [3, 5]) (by kernel_rfl) (by simp) ?_
        refine AllReadyH.cons (o := ⟨some 28, _, _, _, _, _⟩) rfl (fun K hK => ?_) ?_
        · have hCur := NB.limb hHeld26
          go_simp
          refine (HD.out _ hCur).mono ?_
          rintro e w28 ⟨rfl, hb⟩
          have hNew := NB.call hCur hb
          replace hB5 := Bx.call hB5 hb
          clear hb hCur hHeld26
          go_wp2_with fail
          refine hK.out _ _ ?_ (fun hHeld29 => ?_)
          · exact NB.cells hNew
          clear hK K hNew
          (try simp only [Act.put, List.setIfInBounds_toArray, List.set_cons_zero, List.set_cons_succ])
          refine wpAnyH_ready (rs := [5]) (by kernel_rfl) (by simp) ?_
          refine AllReadyH.cons (o := ⟨some 6, _, _, _, _, _⟩) rfl (fun K hK => ?_) ?_
          · have hCur := NB.limb hHeld29
            have hNew := NB.alloc hCur (.cells #[.int .i64 0, .int .i64 0, .string ⟨#[]⟩, .string ⟨#[]⟩] 24)
            have hB6 := Bx.new hCur #[.int .i64 0, .int .i64 0, .string ⟨#[]⟩, .string ⟨#[]⟩]
            have hNE := Bx.ne hB5
            replace hB5 := Bx.alloc hB5 (.cells #[.int .i64 0, .int .i64 0, .string ⟨#[]⟩, .string ⟨#[]⟩] 24)
            clear hCur
            go_simp
            try go_wp2_with fail
            refine hK.out _ _ ?_ (fun hHeld31 => ?_)
            · exact NB.cells hNew
            clear hK K hNew hHeld29
            (try simp only [Act.put, List.setIfInBounds_toArray, List.set_cons_zero, List.set_cons_succ])
            obtain ⟨w30, ew30⟩ : ∃ V, World.alloc w28 (.cells #[.int .i64 0, .int .i64 0, .string ⟨#[]⟩, .string ⟨#[]⟩] 24) = V := ⟨_, rfl⟩
            rw [ew30] at hHeld31 hB5 hB6 ⊢
            obtain ⟨b32, eb32⟩ : ∃ m, w28.heap.size = m := ⟨_, rfl⟩
            rw [eb32] at hB6 hNE ⊢
            clear ew30 eb32
            refine wpAnyH_ready (rs := [6]) (by kernel_rfl) (by simp) ?_
            refine AllReadyH.cons (o := ⟨none, _, _, _, _, _⟩) rfl (fun K hK => ?_) AllReadyH.nil
            have hCur := NB.limb hHeld31
            have c0 := hB5.out.2.cell 0
            have c1 := hB5.out.2.cell 1
            have c2 := hB5.out.2.cell 2
            have c3 := hB5.out.2.cell 3
            have f0 := hB5.out.2.frozen 0
            have f1 := hB5.out.2.frozen 1
            have f2 := hB5.out.2.frozen 2
            have f3 := hB5.out.2.frozen 3
            clear hHeld31
            go_simp
            try go_wp2_with fail
            refine hK.out _ _ ?_ (fun hHeld33 => ?_)
            · exact NB.cells (NB.put4 hCur hB5.out.1 (.int .i64 q1) (.int .i64 a1) (.string ⟨n1.toArray⟩) (.string ⟨v1.toArray⟩))
            replace hB6 := Bx.far hB6 hNE.out.symm (.int .i64 q1) (.int .i64 a1) (.string ⟨n1.toArray⟩) (.string ⟨v1.toArray⟩)
            replace hB5 := Bx.put4 hB5 (.int .i64 q1) (.int .i64 a1) (.string ⟨n1.toArray⟩) (.string ⟨v1.toArray⟩)
            clear hK K c0 c1 c2 c3 f0 f1 f2 f3 hCur
            (try simp only [Act.put, List.setIfInBounds_toArray, List.set_cons_zero, List.set_cons_succ])
            refine wpAnyH_ready (rs := [7]) (by kernel_rfl) (by simp) ?_
            refine AllReadyH.cons (o := ⟨none, _, _, _, _, _⟩) rfl (fun K hK => ?_) AllReadyH.nil
            have hCur := NB.limb hHeld33
            have c0 := hB6.out.2.cell 0
            have c1 := hB6.out.2.cell 1
            have c2 := hB6.out.2.cell 2
            have c3 := hB6.out.2.cell 3
            have f0 := hB6.out.2.frozen 0
            have f1 := hB6.out.2.frozen 1
            have f2 := hB6.out.2.frozen 2
            have f3 := hB6.out.2.frozen 3
            clear hHeld33
            go_simp
            try go_wp2_with fail
            refine hK.out _ _ ?_ (fun hHeld35 => ?_)
            · exact NB.cells (NB.put4 hCur hB6.out.1 (.int .i64 q2) (.int .i64 a2) (.string ⟨n2.toArray⟩) (.string ⟨v2.toArray⟩))
            replace hB5 := Bx.far hB5 hNE.out (.int .i64 q2) (.int .i64 a2) (.string ⟨n2.toArray⟩) (.string ⟨v2.toArray⟩)
            replace hB6 := Bx.put4 hB6 (.int .i64 q2) (.int .i64 a2) (.string ⟨n2.toArray⟩) (.string ⟨v2.toArray⟩)
            clear hK K c0 c1 c2 c3 f0 f1 f2 f3 hCur
            (try simp only [Act.put, List.setIfInBounds_toArray, List.set_cons_zero, List.set_cons_succ])
            refine wpAnyH_done (by kernel_rfl) ?_ _
            have hCur := NB.limb hHeld35
            clear hHeld35
            go_wp2_with fail
            go_meet
            exact ⟨_, _, rfl, rfl, hCur, hB5, hB6⟩
          exact AllReadyH.nil
        refine AllReadyH.cons (o := ⟨some 6, _, _, _, _, _⟩) rfl (fun K hK => ?_) ?_
        · have hCur := NB.limb hHeld26
          have hNew := NB.alloc hCur (.cells #[.int .i64 0, .int .i64 0, .string ⟨#[]⟩, .string ⟨#[]⟩] 24)
          have hB6 := Bx.new hCur #[.int .i64 0, .int .i64 0, .string ⟨#[]⟩, .string ⟨#[]⟩]
          have hNE := Bx.ne hB5
          replace hB5 := Bx.alloc hB5 (.cells #[.int .i64 0, .int .i64 0, .string ⟨#[]⟩, .string ⟨#[]⟩] 24)
          clear hCur
          go_simp
          try go_wp2_with fail
          refine hK.out _ _ ?_ (fun hHeld38 => ?_)
          · exact NB.cells hNew
          clear hK K hNew hHeld26
          (try simp only [Act.put, List.setIfInBounds_toArray, List.set_cons_zero, List.set_cons_succ])
          obtain ⟨w37, ew37⟩ : ∃ V, World.alloc w25 (.cells #[.int .i64 0, .int .i64 0, .string ⟨#[]⟩, .string ⟨#[]⟩] 24) = V := ⟨_, rfl⟩
          rw [ew37] at hHeld38 hB5 hB6 ⊢
          obtain ⟨b39, eb39⟩ : ∃ m, w25.heap.size = m := ⟨_, rfl⟩
          rw [eb39] at hB6 hNE ⊢
          clear ew37 eb39
          refine wpAnyH_ready (rs := [3]) (by kernel_rfl) (by simp) ?_
          refine AllReadyH.cons (o := ⟨some 28, _, _, _, _, _⟩) rfl (fun K hK => ?_) ?_
          · have hCur := NB.limb hHeld38
            go_simp
            refine (HD.out _ hCur).mono ?_
            rintro e w40 ⟨rfl, hb⟩
            have hNew := NB.call hCur hb
            replace hB5 := Bx.call hB5 hb
            replace hB6 := Bx.call hB6 hb
            clear hb hCur hHeld38
            go_wp2_with fail
            refine hK.out _ _ ?_ (fun hHeld41 => ?_)
            · exact NB.cells hNew
            clear hK K hNew
            (try simp only [Act.put, List.setIfInBounds_toArray, List.set_cons_zero, List.set_cons_succ])
            refine wpAnyH_ready (rs := [6]) (by kernel_rfl) (by simp) ?_
            refine AllReadyH.cons (o := ⟨none, _, _, _, _, _⟩) rfl (fun K hK => ?_) AllReadyH.nil
            have hCur := NB.limb hHeld41
            have c0 := hB5.out.2.cell 0
            have c1 := hB5.out.2.cell 1
            have c2 := hB5.out.2.cell 2
            have c3 := hB5.out.2.cell 3
            have f0 := hB5.out.2.frozen 0
            have f1 := hB5.out.2.frozen 1
            have f2 := hB5.out.2.frozen 2
            have f3 := hB5.out.2.frozen 3
            clear hHeld41
            go_simp
            try go_wp2_with fail
            refine hK.out _ _ ?_ (fun hHeld42 => ?_)
            · exact NB.cells (NB.put4 hCur hB5.out.1 (.int .i64 q1) (.int .i64 a1) (.string ⟨n1.toArray⟩) (.string ⟨v1.toArray⟩))
            replace hB6 := Bx.far hB6 hNE.out.symm (.int .i64 q1) (.int .i64 a1) (.string ⟨n1.toArray⟩) (.string ⟨v1.toArray⟩)
            replace hB5 := Bx.put4 hB5 (.int .i64 q1) (.int .i64 a1) (.string ⟨n1.toArray⟩) (.string ⟨v1.toArray⟩)
            clear hK K c0 c1 c2 c3 f0 f1 f2 f3 hCur
            (try simp only [Act.put, List.setIfInBounds_toArray, List.set_cons_zero, List.set_cons_succ])
            refine wpAnyH_ready (rs := [7]) (by kernel_rfl) (by simp) ?_
            refine AllReadyH.cons (o := ⟨none, _, _, _, _, _⟩) rfl (fun K hK => ?_) AllReadyH.nil
            have hCur := NB.limb hHeld42
            have c0 := hB6.out.2.cell 0
            have c1 := hB6.out.2.cell 1
            have c2 := hB6.out.2.cell 2
            have c3 := hB6.out.2.cell 3
            have f0 := hB6.out.2.frozen 0
            have f1 := hB6.out.2.frozen 1
            have f2 := hB6.out.2.frozen 2
            have f3 := hB6.out.2.frozen 3
            clear hHeld42
            go_simp
            try go_wp2_with fail
            refine hK.out _ _ ?_ (fun hHeld44 => ?_)
            · exact NB.cells (NB.put4 hCur hB6.out.1 (.int .i64 q2) (.int .i64 a2) (.string ⟨n2.toArray⟩) (.string ⟨v2.toArray⟩))
            replace hB5 := Bx.far hB5 hNE.out (.int .i64 q2) (.int .i64 a2) (.string ⟨n2.toArray⟩) (.string ⟨v2.toArray⟩)
            replace hB6 := Bx.put4 hB6 (.int .i64 q2) (.int .i64 a2) (.string ⟨n2.toArray⟩) (.string ⟨v2.toArray⟩)
            clear hK K c0 c1 c2 c3 f0 f1 f2 f3 hCur
            (try simp only [Act.put, List.setIfInBounds_toArray, List.set_cons_zero, List.set_cons_succ])
            refine wpAnyH_done (by kernel_rfl) ?_ _
            have hCur := NB.limb hHeld44
            clear hHeld44
            go_wp2_with fail
            go_meet
            exact ⟨_, _, rfl, rfl, hCur, hB5, hB6⟩
          exact AllReadyH.nil
        exact AllReadyH.nil
      refine AllReadyH.cons (o := ⟨some 6, _, _, _, _, _⟩) rfl (fun K hK => ?_) ?_
      · have hCur := NB.limb hHeld2
        have hNew := NB.alloc hCur (.cells #[.int .i64 0, .int .i64 0, .string ⟨#[]⟩, .string ⟨#[]⟩] 24)
        have hB6 := Bx.new hCur #[.int .i64 0, .int .i64 0, .string ⟨#[]⟩, .string ⟨#[]⟩]
        clear hCur
        go_simp
        try go_wp2_with fail
        refine hK.out _ _ ?_ (fun hHeld47 => ?_)
        · exact NB.cells hNew
        clear hK K hNew hHeld2
        (try simp only [Act.put, List.setIfInBounds_toArray, List.set_cons_zero, List.set_cons_succ])
        obtain ⟨w46, ew46⟩ : ∃ V, World.alloc w1 (.cells #[.int .i64 0, .int .i64 0, .string ⟨#[]⟩, .string ⟨#[]⟩] 24) = V := ⟨_, rfl⟩
        rw [ew46] at hHeld47 hB6 ⊢
        obtain ⟨b48, eb48⟩ : ∃ m, w1.heap.size = m := ⟨_, rfl⟩
        rw [eb48] at hB6 ⊢
        clear ew46 eb48
        refine wpAnyH_ready (rs := [3, 4]) (by kernel_rfl) (by simp) ?_
        refine AllReadyH.cons (o := ⟨some 28, _, _, _, _, _⟩) rfl (fun K hK => ?_) ?_
        · have hCur := NB.limb hHeld47
          go_simp
          refine (HD.out _ hCur).mono ?_
          rintro e w49 ⟨rfl, hb⟩
          have hNew := NB.call hCur hb
          replace hB6 := Bx.call hB6 hb
          clear hb hCur hHeld47
          go_wp2_with fail
          refine hK.out _ _ ?_ (fun hHeld50 => ?_)
          · exact NB.cells hNew
          clear hK K hNew
          (try simp only [Act.put, List.setIfInBounds_toArray, List.set_cons_zero, List.set_cons_succ])
          refine wpAnyH_ready (rs := [4]) (by kernel_rfl) (by simp) ?_
          refine AllReadyH.cons (o := ⟨some 5, _, _, _, _, _⟩) rfl (fun K hK => ?_) ?_
          · have hCur := NB.limb hHeld50
            have hNew := NB.alloc hCur (.cells #[.int .i64 0, .int .i64 0, .string ⟨#[]⟩, .string ⟨#[]⟩] 24)
            have hB5 := Bx.new hCur #[.int .i64 0, .int .i64 0, .string ⟨#[]⟩, .string ⟨#[]⟩]
            have hNE := Bx.ne hB6
            replace hB6 := Bx.alloc hB6 (.cells #[.int .i64 0, .int .i64 0, .string ⟨#[]⟩, .string ⟨#[]⟩] 24)
            clear hCur
            go_simp
            try go_wp2_with fail
            refine hK.out _ _ ?_ (fun hHeld52 => ?_)
            · exact NB.cells hNew
            clear hK K hNew hHeld50
            (try simp only [Act.put, List.setIfInBounds_toArray, List.set_cons_zero, List.set_cons_succ])
            obtain ⟨w51, ew51⟩ : ∃ V, World.alloc w49 (.cells #[.int .i64 0, .int .i64 0, .string ⟨#[]⟩, .string ⟨#[]⟩] 24) = V := ⟨_, rfl⟩
            rw [ew51] at hHeld52 hB5 hB6 ⊢
            obtain ⟨b53, eb53⟩ : ∃ m, w49.heap.size = m := ⟨_, rfl⟩
            rw [eb53] at hB5 hNE ⊢
            clear ew51 eb53
            refine wpAnyH_ready (rs := [6]) (by kernel_rfl) (by simp) ?_
            refine AllReadyH.cons (o := ⟨none, _, _, _, _, _⟩) rfl (fun K hK => ?_) AllReadyH.nil
            have hCur := NB.limb hHeld52
            have c0 := hB5.out.2.cell 0
            have c1 := hB5.out.2.cell 1
            have c2 := hB5.out.2.cell 2
            have c3 := hB5.out.2.cell 3
            have f0 := hB5.out.2.frozen 0
            have f1 := hB5.out.2.frozen 1
            have f2 := hB5.out.2.frozen 2
            have f3 := hB5.out.2.frozen 3
            clear hHeld52
            go_simp
            try go_wp2_with fail
            refine hK.out _ _ ?_ (fun hHeld54 => ?_)
            · exact NB.cells (NB.put4 hCur hB5.out.1 (.int .i64 q1) (.int .i64 a1) (.string ⟨n1.toArray⟩) (.string ⟨v1.toArray⟩))
            replace hB6 := Bx.far hB6 hNE.out (.int .i64 q1) (.int .i64 a1) (.string ⟨n1.toArray⟩) (.string ⟨v1.toArray⟩)
            replace hB5 := Bx.put4 hB5 (.int .i64 q1) (.int .i64 a1) (.string ⟨n1.toArray⟩) (.string ⟨v1.toArray⟩)
            clear hK K c0 c1 c2 c3 f0 f1 f2 f3 hCur
            (try simp only [Act.put, List.setIfInBounds_toArray, List.set_cons_zero, List.set_cons_succ])
            refine wpAnyH_ready (rs := [7]) (by kernel_rfl) (by simp) ?_
            refine AllReadyH.cons (o := ⟨none, _, _, _, _, _⟩) rfl (fun K hK => ?_) AllReadyH.nil
            have hCur := NB.limb hHeld54
            have c0 := hB6.out.2.cell 0
            have c1 := hB6.out.2.cell 1
            have c2 := hB6.out.2.cell 2
            have c3 := hB6.out.2.cell 3
            have f0 := hB6.out.2.frozen 0
            have f1 := hB6.out.2.frozen 1
            have f2 := hB6.out.2.frozen 2
            have f3 := hB6.out.2.frozen 3
            clear hHeld54
            go_simp
            try go_wp2_with fail
            refine hK.out _ _ ?_ (fun hHeld56 => ?_)
            · exact NB.cells (NB.put4 hCur hB6.out.1 (.int .i64 q2) (.int .i64 a2) (.string ⟨n2.toArray⟩) (.string ⟨v2.toArray⟩))
            replace hB5 := Bx.far hB5 hNE.out.symm (.int .i64 q2) (.int .i64 a2) (.string ⟨n2.toArray⟩) (.string ⟨v2.toArray⟩)
            replace hB6 := Bx.put4 hB6 (.int .i64 q2) (.int .i64 a2) (.string ⟨n2.toArray⟩) (.string ⟨v2.toArray⟩)
            clear hK K c0 c1 c2 c3 f0 f1 f2 f3 hCur
            (try simp only [Act.put, List.setIfInBounds_toArray, List.set_cons_zero, List.set_cons_succ])
            refine wpAnyH_done (by kernel_rfl) ?_ _
            have hCur := NB.limb hHeld56
            clear hHeld56
            go_wp2_with fail
            go_meet
            exact ⟨_, _, rfl, rfl, hCur, hB5, hB6⟩
          exact AllReadyH.nil
        refine AllReadyH.cons (o := ⟨some 5, _, _, _, _, _⟩) rfl (fun K hK => ?_) ?_
        · have hCur := NB.limb hHeld47
          have hNew := NB.alloc hCur (.cells #[.int .i64 0, .int .i64 0, .string ⟨#[]⟩, .string ⟨#[]⟩] 24)
          have hB5 := Bx.new hCur #[.int .i64 0, .int .i64 0, .string ⟨#[]⟩, .string ⟨#[]⟩]
          have hNE := Bx.ne hB6
          replace hB6 := Bx.alloc hB6 (.cells #[.int .i64 0, .int .i64 0, .string ⟨#[]⟩, .string ⟨#[]⟩] 24)
          clear hCur
          go_simp
          try go_wp2_with fail
          refine hK.out _ _ ?_ (fun hHeld59 => ?_)
          · exact NB.cells hNew
          clear hK K hNew hHeld47
          (try simp only [Act.put, List.setIfInBounds_toArray, List.set_cons_zero, List.set_cons_succ])
          obtain ⟨w58, ew58⟩ : ∃ V, World.alloc w46 (.cells #[.int .i64 0, .int .i64 0, .string ⟨#[]⟩, .string ⟨#[]⟩] 24) = V := ⟨_, rfl⟩
          rw [ew58] at hHeld59 hB5 hB6 ⊢
          obtain ⟨b60, eb60⟩ : ∃ m, w46.heap.size = m := ⟨_, rfl⟩
          rw [eb60] at hB5 hNE ⊢
          clear ew58 eb60
          refine wpAnyH_ready (rs := [3]) (by kernel_rfl) (by simp) ?_
          refine AllReadyH.cons (o := ⟨some 28, _, _, _, _, _⟩) rfl (fun K hK => ?_) ?_
          · have hCur := NB.limb hHeld59
            go_simp
            refine (HD.out _ hCur).mono ?_
            rintro e w61 ⟨rfl, hb⟩
            have hNew := NB.call hCur hb
            replace hB5 := Bx.call hB5 hb
            replace hB6 := Bx.call hB6 hb
            clear hb hCur hHeld59
            go_wp2_with fail
            refine hK.out _ _ ?_ (fun hHeld62 => ?_)
            · exact NB.cells hNew
            clear hK K hNew
            (try simp only [Act.put, List.setIfInBounds_toArray, List.set_cons_zero, List.set_cons_succ])
            refine wpAnyH_ready (rs := [6]) (by kernel_rfl) (by simp) ?_
            refine AllReadyH.cons (o := ⟨none, _, _, _, _, _⟩) rfl (fun K hK => ?_) AllReadyH.nil
            have hCur := NB.limb hHeld62
            have c0 := hB5.out.2.cell 0
            have c1 := hB5.out.2.cell 1
            have c2 := hB5.out.2.cell 2
            have c3 := hB5.out.2.cell 3
            have f0 := hB5.out.2.frozen 0
            have f1 := hB5.out.2.frozen 1
            have f2 := hB5.out.2.frozen 2
            have f3 := hB5.out.2.frozen 3
            clear hHeld62
            go_simp
            try go_wp2_with fail
            refine hK.out _ _ ?_ (fun hHeld63 => ?_)
            · exact NB.cells (NB.put4 hCur hB5.out.1 (.int .i64 q1) (.int .i64 a1) (.string ⟨n1.toArray⟩) (.string ⟨v1.toArray⟩))
            replace hB6 := Bx.far hB6 hNE.out (.int .i64 q1) (.int .i64 a1) (.string ⟨n1.toArray⟩) (.string ⟨v1.toArray⟩)
            replace hB5 := Bx.put4 hB5 (.int .i64 q1) (.int .i64 a1) (.string ⟨n1.toArray⟩) (.string ⟨v1.toArray⟩)
            clear hK K c0 c1 c2 c3 f0 f1 f2 f3 hCur
            (try simp only [Act.put, List.setIfInBounds_toArray, List.set_cons_zero, List.set_cons_succ])
            refine wpAnyH_ready (rs := [7]) (by kernel_rfl) (by simp) ?_
            refine AllReadyH.cons (o := ⟨none, _, _, _, _, _⟩) rfl (fun K hK => ?_) AllReadyH.nil
            have hCur := NB.limb hHeld63
            have c0 := hB6.out.2.cell 0
            have c1 := hB6.out.2.cell 1
            have c2 := hB6.out.2.cell 2
            have c3 := hB6.out.2.cell 3
            have f0 := hB6.out.2.frozen 0
            have f1 := hB6.out.2.frozen 1
            have f2 := hB6.out.2.frozen 2
            have f3 := hB6.out.2.frozen 3
            clear hHeld63
            go_simp
            try go_wp2_with fail
            refine hK.out _ _ ?_ (fun hHeld65 => ?_)
            · exact NB.cells (NB.put4 hCur hB6.out.1 (.int .i64 q2) (.int .i64 a2) (.string ⟨n2.toArray⟩) (.string ⟨v2.toArray⟩))
            replace hB5 := Bx.far hB5 hNE.out.symm (.int .i64 q2) (.int .i64 a2) (.string ⟨n2.toArray⟩) (.string ⟨v2.toArray⟩)
            replace hB6 := Bx.put4 hB6 (.int .i64 q2) (.int .i64 a2) (.string ⟨n2.toArray⟩) (.string ⟨v2.toArray⟩)
            clear hK K c0 c1 c2 c3 f0 f1 f2 f3 hCur
            (try simp only [Act.put, List.setIfInBounds_toArray, List.set_cons_zero, List.set_cons_succ])
            refine wpAnyH_done (by kernel_rfl) ?_ _
            have hCur := NB.limb hHeld65
            clear hHeld65
            go_wp2_with fail
            go_meet
            exact ⟨_, _, rfl, rfl, hCur, hB5, hB6⟩
          exact AllReadyH.nil
        exact AllReadyH.nil
      exact AllReadyH.nil
    refine AllReadyH.cons (o := ⟨some 5, _, _, _, _, _⟩) rfl (fun K hK => ?_) ?_
    · have hCur := NB.limb hHeld0
      have hNew := NB.alloc hCur (.cells #[.int .i64 0, .int .i64 0, .string ⟨#[]⟩, .string ⟨#[]⟩] 24)
      have hB5 := Bx.new hCur #[.int .i64 0, .int .i64 0, .string ⟨#[]⟩, .string ⟨#[]⟩]
      clear hCur
      go_simp
      try go_wp2_with fail
      refine hK.out _ _ ?_ (fun hHeld68 => ?_)
      · exact NB.cells hNew
      clear hK K hNew hHeld0
      (try simp only [Act.put, List.setIfInBounds_toArray, List.set_cons_zero, List.set_cons_succ])
      obtain ⟨w67, ew67⟩ : ∃ V, World.alloc w0 (.cells #[.int .i64 0, .int .i64 0, .string ⟨#[]⟩, .string ⟨#[]⟩] 24) = V := ⟨_, rfl⟩
      rw [ew67] at hHeld68 hB5 ⊢
      obtain ⟨b69, eb69⟩ : ∃ m, w0.heap.size = m := ⟨_, rfl⟩
      rw [eb69] at hB5 ⊢
      clear ew67 eb69
      refine wpAnyH_ready (rs := [1, 5]) (by kernel_rfl) (by simp) ?_
      refine AllReadyH.cons (o := ⟨some 26, _, _, _, _, _⟩) rfl (fun K hK => ?_) ?_
      · have hCur := NB.limb hHeld68
        go_simp
        refine (HC.out _ hCur).mono ?_
        rintro e w70 ⟨rfl, hb⟩
        have hNew := NB.call hCur hb
        replace hB5 := Bx.call hB5 hb
        clear hb hCur hHeld68
        go_wp2_with fail
        refine hK.out _ _ ?_ (fun hHeld71 => ?_)
        · exact NB.cells hNew
        clear hK K hNew
        (try simp only [Act.put, List.setIfInBounds_toArray, List.set_cons_zero, List.set_cons_succ])
        refine wpAnyH_ready (rs := [3, 5]) (by kernel_rfl) (by simp) ?_
        refine AllReadyH.cons (o := ⟨some 28, _, _, _, _, _⟩) rfl (fun K hK => ?_) ?_
        · have hCur := NB.limb hHeld71
          go_simp
          refine (HD.out _ hCur).mono ?_
          rintro e w72 ⟨rfl, hb⟩
          have hNew := NB.call hCur hb
          replace hB5 := Bx.call hB5 hb
          clear hb hCur hHeld71
          go_wp2_with fail
          refine hK.out _ _ ?_ (fun hHeld73 => ?_)
          · exact NB.cells hNew
          clear hK K hNew
          (try simp only [Act.put, List.setIfInBounds_toArray, List.set_cons_zero, List.set_cons_succ])
          refine wpAnyH_ready (rs := [5]) (by kernel_rfl) (by simp) ?_
          refine AllReadyH.cons (o := ⟨some 6, _, _, _, _, _⟩) rfl (fun K hK => ?_) ?_
          · have hCur := NB.limb hHeld73
            have hNew := NB.alloc hCur (.cells #[.int .i64 0, .int .i64 0, .string ⟨#[]⟩, .string ⟨#[]⟩] 24)
            have hB6 := Bx.new hCur #[.int .i64 0, .int .i64 0, .string ⟨#[]⟩, .string ⟨#[]⟩]
            have hNE := Bx.ne hB5
            replace hB5 := Bx.alloc hB5 (.cells #[.int .i64 0, .int .i64 0, .string ⟨#[]⟩, .string ⟨#[]⟩] 24)
            clear hCur
            go_simp
            try go_wp2_with fail
            refine hK.out _ _ ?_ (fun hHeld75 => ?_)
            · exact NB.cells hNew
            clear hK K hNew hHeld73
            (try simp only [Act.put, List.setIfInBounds_toArray, List.set_cons_zero, List.set_cons_succ])
            obtain ⟨w74, ew74⟩ : ∃ V, World.alloc w72 (.cells #[.int .i64 0, .int .i64 0, .string ⟨#[]⟩, .string ⟨#[]⟩] 24) = V := ⟨_, rfl⟩
            rw [ew74] at hHeld75 hB5 hB6 ⊢
            obtain ⟨b76, eb76⟩ : ∃ m, w72.heap.size = m := ⟨_, rfl⟩
            rw [eb76] at hB6 hNE ⊢
            clear ew74 eb76
            refine wpAnyH_ready (rs := [6]) (by kernel_rfl) (by simp) ?_
            refine AllReadyH.cons (o := ⟨none, _, _, _, _, _⟩) rfl (fun K hK => ?_) AllReadyH.nil
            have hCur := NB.limb hHeld75
            have c0 := hB5.out.2.cell 0
            have c1 := hB5.out.2.cell 1
            have c2 := hB5.out.2.cell 2
            have c3 := hB5.out.2.cell 3
            have f0 := hB5.out.2.frozen 0
            have f1 := hB5.out.2.frozen 1
            have f2 := hB5.out.2.frozen 2
            have f3 := hB5.out.2.frozen 3
            clear hHeld75
            go_simp
            try go_wp2_with fail
            refine hK.out _ _ ?_ (fun hHeld77 => ?_)
            · exact NB.cells (NB.put4 hCur hB5.out.1 (.int .i64 q1) (.int .i64 a1) (.string ⟨n1.toArray⟩) (.string ⟨v1.toArray⟩))
            replace hB6 := Bx.far hB6 hNE.out.symm (.int .i64 q1) (.int .i64 a1) (.string ⟨n1.toArray⟩) (.string ⟨v1.toArray⟩)
            replace hB5 := Bx.put4 hB5 (.int .i64 q1) (.int .i64 a1) (.string ⟨n1.toArray⟩) (.string ⟨v1.toArray⟩)
            clear hK K c0 c1 c2 c3 f0 f1 f2 f3 hCur
            (try simp only [Act.put, List.setIfInBounds_toArray, List.set_cons_zero, List.set_cons_succ])
            refine wpAnyH_ready (rs := [7]) (by kernel_rfl) (by simp) ?_
            refine AllReadyH.cons (o := ⟨none, _, _, _, _, _⟩) rfl (fun K hK => ?_) AllReadyH.nil
            have hCur := NB.limb hHeld77
            have c0 := hB6.out.2.cell 0
            have c1 := hB6.out.2.cell 1
            have c2 := hB6.out.2.cell 2
            have c3 := hB6.out.2.cell 3
            have f0 := hB6.out.2.frozen 0
            have f1 := hB6.out.2.frozen 1
            have f2 := hB6.out.2.frozen 2
            have f3 := hB6.out.2.frozen 3
            clear hHeld77
            go_simp
            try go_wp2_with fail
            refine hK.out _ _ ?_ (fun hHeld79 => ?_)
            · exact NB.cells (NB.put4 hCur hB6.out.1 (.int .i64 q2) (.int .i64 a2) (.string ⟨n2.toArray⟩) (.string ⟨v2.toArray⟩))
            replace hB5 := Bx.far hB5 hNE.out (.int .i64 q2) (.int .i64 a2) (.string ⟨n2.toArray⟩) (.string ⟨v2.toArray⟩)
            replace hB6 := Bx.put4 hB6 (.int .i64 q2) (.int .i64 a2) (.string ⟨n2.toArray⟩) (.string ⟨v2.toArray⟩)
            clear hK K c0 c1 c2 c3 f0 f1 f2 f3 hCur
            (try simp only [Act.put, List.setIfInBounds_toArray, List.set_cons_zero, List.set_cons_succ])
            refine wpAnyH_done (by kernel_rfl) ?_ _
            have hCur := NB.limb hHeld79
            clear hHeld79
            go_wp2_with fail
            go_meet
            exact ⟨_, _, rfl, rfl, hCur, hB5, hB6⟩
          exact AllReadyH.nil
        refine AllReadyH.cons (o := ⟨some 6, _, _, _, _, _⟩) rfl (fun K hK => ?_) ?_
        · have hCur := NB.limb hHeld71
          have hNew := NB.alloc hCur (.cells #[.int .i64 0, .int .i64 0, .string ⟨#[]⟩, .string ⟨#[]⟩] 24)
          have hB6 := Bx.new hCur #[.int .i64 0, .int .i64 0, .string ⟨#[]⟩, .string ⟨#[]⟩]
          have hNE := Bx.ne hB5
          replace hB5 := Bx.alloc hB5 (.cells #[.int .i64 0, .int .i64 0, .string ⟨#[]⟩, .string ⟨#[]⟩] 24)
          clear hCur
          go_simp
          try go_wp2_with fail
          refine hK.out _ _ ?_ (fun hHeld82 => ?_)
          · exact NB.cells hNew
          clear hK K hNew hHeld71
          (try simp only [Act.put, List.setIfInBounds_toArray, List.set_cons_zero, List.set_cons_succ])
          obtain ⟨w81, ew81⟩ : ∃ V, World.alloc w70 (.cells #[.int .i64 0, .int .i64 0, .string ⟨#[]⟩, .string ⟨#[]⟩] 24) = V := ⟨_, rfl⟩
          rw [ew81] at hHeld82 hB5 hB6 ⊢
          obtain ⟨b83, eb83⟩ : ∃ m, w70.heap.size = m := ⟨_, rfl⟩
          rw [eb83] at hB6 hNE ⊢
          clear ew81 eb83
          refine wpAnyH_ready (rs := [3]) (by kernel_rfl) (by simp) ?_
          refine AllReadyH.cons (o := ⟨some 28, _, _, _, _, _⟩) rfl (fun K hK => ?_) ?_
          · have hCur := NB.limb hHeld82
            go_simp
            refine (HD.out _ hCur).mono ?_
            rintro e w84 ⟨rfl, hb⟩
            have hNew := NB.call hCur hb
            replace hB5 := Bx.call hB5 hb
            replace hB6 := Bx.call hB6 hb
            clear hb hCur hHeld82
            go_wp2_with fail
            refine hK.out _ _ ?_ (fun hHeld85 => ?_)
            · exact NB.cells hNew
            clear hK K hNew
            (try simp only [Act.put, List.setIfInBounds_toArray, List.set_cons_zero, List.set_cons_succ])
            refine wpAnyH_ready (rs := [6]) (by kernel_rfl) (by simp) ?_
            refine AllReadyH.cons (o := ⟨none, _, _, _, _, _⟩) rfl (fun K hK => ?_) AllReadyH.nil
            have hCur := NB.limb hHeld85
            have c0 := hB5.out.2.cell 0
            have c1 := hB5.out.2.cell 1
            have c2 := hB5.out.2.cell 2
            have c3 := hB5.out.2.cell 3
            have f0 := hB5.out.2.frozen 0
            have f1 := hB5.out.2.frozen 1
            have f2 := hB5.out.2.frozen 2
            have f3 := hB5.out.2.frozen 3
            clear hHeld85
            go_simp
            try go_wp2_with fail
            refine hK.out _ _ ?_ (fun hHeld86 => ?_)
            · exact NB.cells (NB.put4 hCur hB5.out.1 (.int .i64 q1) (.int .i64 a1) (.string ⟨n1.toArray⟩) (.string ⟨v1.toArray⟩))
            replace hB6 := Bx.far hB6 hNE.out.symm (.int .i64 q1) (.int .i64 a1) (.string ⟨n1.toArray⟩) (.string ⟨v1.toArray⟩)
            replace hB5 := Bx.put4 hB5 (.int .i64 q1) (.int .i64 a1) (.string ⟨n1.toArray⟩) (.string ⟨v1.toArray⟩)
            clear hK K c0 c1 c2 c3 f0 f1 f2 f3 hCur
            (try simp only [Act.put, List.setIfInBounds_toArray, List.set_cons_zero, List.set_cons_succ])
            refine wpAnyH_ready (rs := [7]) (by kernel_rfl) (by simp) ?_
            refine AllReadyH.cons (o := ⟨none, _, _, _, _, _⟩) rfl (fun K hK => ?_) AllReadyH.nil
            have hCur := NB.limb hHeld86
            have c0 := hB6.out.2.cell 0
            have c1 := hB6.out.2.cell 1
            have c2 := hB6.out.2.cell 2
            have c3 := hB6.out.2.cell 3
            have f0 := hB6.out.2.frozen 0
            have f1 := hB6.out.2.frozen 1
            have f2 := hB6.out.2.frozen 2
            have f3 := hB6.out.2.frozen 3
            clear hHeld86
            go_simp
            try go_wp2_with fail
            refine hK.out _ _ ?_ (fun hHeld88 => ?_)
            · exact NB.cells (NB.put4 hCur hB6.out.1 (.int .i64 q2) (.int .i64 a2) (.string ⟨n2.toArray⟩) (.string ⟨v2.toArray⟩))
            replace hB5 := Bx.far hB5 hNE.out (.int .i64 q2) (.int .i64 a2) (.string ⟨n2.toArray⟩) (.string ⟨v2.toArray⟩)
            replace hB6 := Bx.put4 hB6 (.int .i64 q2) (.int .i64 a2) (.string ⟨n2.toArray⟩) (.string ⟨v2.toArray⟩)
            clear hK K c0 c1 c2 c3 f0 f1 f2 f3 hCur
            (try simp only [Act.put, List.setIfInBounds_toArray, List.set_cons_zero, List.set_cons_succ])
            refine wpAnyH_done (by kernel_rfl) ?_ _
            have hCur := NB.limb hHeld88
            clear hHeld88
            go_wp2_with fail
            go_meet
            exact ⟨_, _, rfl, rfl, hCur, hB5, hB6⟩
          exact AllReadyH.nil
        exact AllReadyH.nil
      refine AllReadyH.cons (o := ⟨some 6, _, _, _, _, _⟩) rfl (fun K hK => ?_) ?_
      · have hCur := NB.limb hHeld68
        have hNew := NB.alloc hCur (.cells #[.int .i64 0, .int .i64 0, .string ⟨#[]⟩, .string ⟨#[]⟩] 24)
        have hB6 := Bx.new hCur #[.int .i64 0, .int .i64 0, .string ⟨#[]⟩, .string ⟨#[]⟩]
        have hNE := Bx.ne hB5
        replace hB5 := Bx.alloc hB5 (.cells #[.int .i64 0, .int .i64 0, .string ⟨#[]⟩, .string ⟨#[]⟩] 24)
        clear hCur
        go_simp
        try go_wp2_with fail
        refine hK.out _ _ ?_ (fun hHeld91 => ?_)
        · exact NB.cells hNew
        clear hK K hNew hHeld68
        (try simp only [Act.put, List.setIfInBounds_toArray, List.set_cons_zero, List.set_cons_succ])
        obtain ⟨w90, ew90⟩ : ∃ V, World.alloc w67 (.cells #[.int .i64 0, .int .i64 0, .string ⟨#[]⟩, .string ⟨#[]⟩] 24) = V := ⟨_, rfl⟩
        rw [ew90] at hHeld91 hB5 hB6 ⊢
        obtain ⟨b92, eb92⟩ : ∃ m, w67.heap.size = m := ⟨_, rfl⟩
        rw [eb92] at hB6 hNE ⊢
        clear ew90 eb92
        refine wpAnyH_ready (rs := [1]) (by kernel_rfl) (by simp) ?_
        refine AllReadyH.cons (o := ⟨some 26, _, _, _, _, _⟩) rfl (fun K hK => ?_) ?_
        · have hCur := NB.limb hHeld91
          go_simp
          refine (HC.out _ hCur).mono ?_
          rintro e w93 ⟨rfl, hb⟩
          have hNew := NB.call hCur hb
          replace hB5 := Bx.call hB5 hb
          replace hB6 := Bx.call hB6 hb
          clear hb hCur hHeld91
          go_wp2_with fail
          refine hK.out _ _ ?_ (fun hHeld94 => ?_)
          · exact NB.cells hNew
          clear hK K hNew
          (try simp only [Act.put, List.setIfInBounds_toArray, List.set_cons_zero, List.set_cons_succ])
          refine wpAnyH_ready (rs := [3]) (by kernel_rfl) (by simp) ?_
          refine AllReadyH.cons (o := ⟨some 28, _, _, _, _, _⟩) rfl (fun K hK => ?_) ?_
          · have hCur := NB.limb hHeld94
            go_simp
            refine (HD.out _ hCur).mono ?_
            rintro e w95 ⟨rfl, hb⟩
            have hNew := NB.call hCur hb
            replace hB5 := Bx.call hB5 hb
            replace hB6 := Bx.call hB6 hb
            clear hb hCur hHeld94
            go_wp2_with fail
            refine hK.out _ _ ?_ (fun hHeld96 => ?_)
            · exact NB.cells hNew
            clear hK K hNew
            (try simp only [Act.put, List.setIfInBounds_toArray, List.set_cons_zero, List.set_cons_succ])
            refine wpAnyH_ready (rs := [6]) (by kernel_rfl) (by simp) ?_
            refine AllReadyH.cons (o := ⟨none, _, _, _, _, _⟩) rfl (fun K hK => ?_) AllReadyH.nil
            have hCur := NB.limb hHeld96
            have c0 := hB5.out.2.cell 0
            have c1 := hB5.out.2.cell 1
            have c2 := hB5.out.2.cell 2
            have c3 := hB5.out.2.cell 3
            have f0 := hB5.out.2.frozen 0
            have f1 := hB5.out.2.frozen 1
            have f2 := hB5.out.2.frozen 2
            have f3 := hB5.out.2.frozen 3
            clear hHeld96
            go_simp
            try go_wp2_with fail
            refine hK.out _ _ ?_ (fun hHeld97 => ?_)
            · exact NB.cells (NB.put4 hCur hB5.out.1 (.int .i64 q1) (.int .i64 a1) (.string ⟨n1.toArray⟩) (.string ⟨v1.toArray⟩))
            replace hB6 := Bx.far hB6 hNE.out.symm (.int .i64 q1) (.int .i64 a1) (.string ⟨n1.toArray⟩) (.string ⟨v1.toArray⟩)
            replace hB5 := Bx.put4 hB5 (.int .i64 q1) (.int .i64 a1) (.string ⟨n1.toArray⟩) (.string ⟨v1.toArray⟩)
            clear hK K c0 c1 c2 c3 f0 f1 f2 f3 hCur
            (try simp only [Act.put, List.setIfInBounds_toArray, List.set_cons_zero, List.set_cons_succ])
            refine wpAnyH_ready (rs := [7]) (by kernel_rfl) (by simp) ?_
            refine AllReadyH.cons (o := ⟨none, _, _, _, _, _⟩) rfl (fun K hK => ?_) AllReadyH.nil
            have hCur := NB.limb hHeld97
            have c0 := hB6.out.2.cell 0
            have c1 := hB6.out.2.cell 1
            have c2 := hB6.out.2.cell 2
            have c3 := hB6.out.2.cell 3
            have f0 := hB6.out.2.frozen 0
            have f1 := hB6.out.2.frozen 1
            have f2 := hB6.out.2.frozen 2
            have f3 := hB6.out.2.frozen 3
            clear hHeld97
            go_simp
            try go_wp2_with fail
            refine hK.out _ _ ?_ (fun hHeld99 => ?_)
            · exact NB.cells (NB.put4 hCur hB6.out.1 (.int .i64 q2) (.int .i64 a2) (.string ⟨n2.toArray⟩) (.string ⟨v2.toArray⟩))
            replace hB5 := Bx.far hB5 hNE.out (.int .i64 q2) (.int .i64 a2) (.string ⟨n2.toArray⟩) (.string ⟨v2.toArray⟩)
            replace hB6 := Bx.put4 hB6 (.int .i64 q2) (.int .i64 a2) (.string ⟨n2.toArray⟩) (.string ⟨v2.toArray⟩)
            clear hK K c0 c1 c2 c3 f0 f1 f2 f3 hCur
            (try simp only [Act.put, List.setIfInBounds_toArray, List.set_cons_zero, List.set_cons_succ])
            refine wpAnyH_done (by kernel_rfl) ?_ _
            have hCur := NB.limb hHeld99
            clear hHeld99
            go_wp2_with fail
            go_meet
            exact ⟨_, _, rfl, rfl, hCur, hB5, hB6⟩
          exact AllReadyH.nil
        exact AllReadyH.nil
      exact AllReadyH.nil
    refine AllReadyH.cons (o := ⟨some 6, _, _, _, _, _⟩) rfl (fun K hK => ?_) ?_
    · have hCur := NB.limb hHeld0
      have hNew := NB.alloc hCur (.cells #[.int .i64 0, .int .i64 0, .string ⟨#[]⟩, .string ⟨#[]⟩] 24)
      have hB6 := Bx.new hCur #[.int .i64 0, .int .i64 0, .string ⟨#[]⟩, .string ⟨#[]⟩]
      clear hCur
      go_simp
      try go_wp2_with fail
      refine hK.out _ _ ?_ (fun hHeld102 => ?_)
      · exact NB.cells hNew
      clear hK K hNew hHeld0
      (try simp only [Act.put, List.setIfInBounds_toArray, List.set_cons_zero, List.set_cons_succ])
      obtain ⟨w101, ew101⟩ : ∃ V, World.alloc w0 (.cells #[.int .i64 0, .int .i64 0, .string ⟨#[]⟩, .string ⟨#[]⟩] 24) = V := ⟨_, rfl⟩
      rw [ew101] at hHeld102 hB6 ⊢
      obtain ⟨b103, eb103⟩ : ∃ m, w0.heap.size = m := ⟨_, rfl⟩
      rw [eb103] at hB6 ⊢
      clear ew101 eb103
      refine wpAnyH_ready (rs := [1, 4]) (by kernel_rfl) (by simp) ?_
      refine AllReadyH.cons (o := ⟨some 26, _, _, _, _, _⟩) rfl (fun K hK => ?_) ?_
      · have hCur := NB.limb hHeld102
        go_simp
        refine (HC.out _ hCur).mono ?_
        rintro e w104 ⟨rfl, hb⟩
        have hNew := NB.call hCur hb
        replace hB6 := Bx.call hB6 hb
        clear hb hCur hHeld102
        go_wp2_with fail
        refine hK.out _ _ ?_ (fun hHeld105 => ?_)
        · exact NB.cells hNew
        clear hK K hNew
        (try simp only [Act.put, List.setIfInBounds_toArray, List.set_cons_zero, List.set_cons_succ])
        refine wpAnyH_ready (rs := [3, 4]) (by kernel_rfl) (by simp) ?_
        refine AllReadyH.cons (o := ⟨some 28, _, _, _, _, _⟩) rfl (fun K hK => ?_) ?_
        · have hCur := NB.limb hHeld105
          go_simp
          refine (HD.out _ hCur).mono ?_
          rintro e w106 ⟨rfl, hb⟩
          have hNew := NB.call hCur hb
          replace hB6 := Bx.call hB6 hb
          clear hb hCur hHeld105
          go_wp2_with fail
          refine hK.out _ _ ?_ (fun hHeld107 => ?_)
          · exact NB.cells hNew
          clear hK K hNew
          (try simp only [Act.put, List.setIfInBounds_toArray, List.set_cons_zero, List.set_cons_succ])
          refine wpAnyH_ready (rs := [4]) (by kernel_rfl) (by simp) ?_
          refine AllReadyH.cons (o := ⟨some 5, _, _, _, _, _⟩) rfl (fun K hK => ?_) ?_
          · have hCur := NB.limb hHeld107
            have hNew := NB.alloc hCur (.cells #[.int .i64 0, .int .i64 0, .string ⟨#[]⟩, .string ⟨#[]⟩] 24)
            have hB5 := Bx.new hCur #[.int .i64 0, .int .i64 0, .string ⟨#[]⟩, .string ⟨#[]⟩]
            have hNE := Bx.ne hB6
            replace hB6 := Bx.alloc hB6 (.cells #[.int .i64 0, .int .i64 0, .string ⟨#[]⟩, .string ⟨#[]⟩] 24)
            clear hCur
            go_simp
            try go_wp2_with fail
            refine hK.out _ _ ?_ (fun hHeld109 => ?_)
            · exact NB.cells hNew
            clear hK K hNew hHeld107
            (try simp only [Act.put, List.setIfInBounds_toArray, List.set_cons_zero, List.set_cons_succ])
            obtain ⟨w108, ew108⟩ : ∃ V, World.alloc w106 (.cells #[.int .i64 0, .int .i64 0, .string ⟨#[]⟩, .string ⟨#[]⟩] 24) = V := ⟨_, rfl⟩
            rw [ew108] at hHeld109 hB5 hB6 ⊢
            obtain ⟨b110, eb110⟩ : ∃ m, w106.heap.size = m := ⟨_, rfl⟩
            rw [eb110] at hB5 hNE ⊢
            clear ew108 eb110
            refine wpAnyH_ready (rs := [6]) (by kernel_rfl) (by simp) ?_
            refine AllReadyH.cons (o := ⟨none, _, _, _, _, _⟩) rfl (fun K hK => ?_) AllReadyH.nil
            have hCur := NB.limb hHeld109
            have c0 := hB5.out.2.cell 0
            have c1 := hB5.out.2.cell 1
            have c2 := hB5.out.2.cell 2
            have c3 := hB5.out.2.cell 3
            have f0 := hB5.out.2.frozen 0
            have f1 := hB5.out.2.frozen 1
            have f2 := hB5.out.2.frozen 2
            have f3 := hB5.out.2.frozen 3
            clear hHeld109
            go_simp
            try go_wp2_with fail
            refine hK.out _ _ ?_ (fun hHeld111 => ?_)
            · exact NB.cells (NB.put4 hCur hB5.out.1 (.int .i64 q1) (.int .i64 a1) (.string ⟨n1.toArray⟩) (.string ⟨v1.toArray⟩))
            replace hB6 := Bx.far hB6 hNE.out (.int .i64 q1) (.int .i64 a1) (.string ⟨n1.toArray⟩) (.string ⟨v1.toArray⟩)
            replace hB5 := Bx.put4 hB5 (.int .i64 q1) (.int .i64 a1) (.string ⟨n1.toArray⟩) (.string ⟨v1.toArray⟩)
            clear hK K c0 c1 c2 c3 f0 f1 f2 f3 hCur
            (try simp only [Act.put, List.setIfInBounds_toArray, List.set_cons_zero, List.set_cons_succ])
            refine wpAnyH_ready (rs := [7]) (by kernel_rfl) (by simp) ?_
            refine AllReadyH.cons (o := ⟨none, _, _, _, _, _⟩) rfl (fun K hK => ?_) AllReadyH.nil
            have hCur := NB.limb hHeld111
            have c0 := hB6.out.2.cell 0
            have c1 := hB6.out.2.cell 1
            have c2 := hB6.out.2.cell 2
            have c3 := hB6.out.2.cell 3
            have f0 := hB6.out.2.frozen 0
            have f1 := hB6.out.2.frozen 1
            have f2 := hB6.out.2.frozen 2
            have f3 := hB6.out.2.frozen 3
            clear hHeld111
            go_simp
            try go_wp2_with fail
            refine hK.out _ _ ?_ (fun hHeld113 => ?_)
            · exact NB.cells (NB.put4 hCur hB6.out.1 (.int .i64 q2) (.int .i64 a2) (.string ⟨n2.toArray⟩) (.string ⟨v2.toArray⟩))
            replace hB5 := Bx.far hB5 hNE.out.symm (.int .i64 q2) (.int .i64 a2) (.string ⟨n2.toArray⟩) (.string ⟨v2.toArray⟩)
            replace hB6 := Bx.put4 hB6 (.int .i64 q2) (.int .i64 a2) (.string ⟨n2.toArray⟩) (.string ⟨v2.toArray⟩)
            clear hK K c0 c1 c2 c3 f0 f1 f2 f3 hCur
            (try simp only [Act.put, List.setIfInBounds_toArray, List.set_cons_zero, List.set_cons_succ])
            refine wpAnyH_done (by kernel_rfl) ?_ _
            have hCur := NB.limb hHeld113
            clear hHeld113
            go_wp2_with fail
            go_meet
            exact ⟨_, _, rfl, rfl, hCur, hB5, hB6⟩
          exact AllReadyH.nil
        refine AllReadyH.cons (o := ⟨some 5, _, _, _, _, _⟩) rfl (fun K hK => ?_) ?_
        · have hCur := NB.limb hHeld105
          have hNew := NB.alloc hCur (.cells #[.int .i64 0, .int .i64 0, .string ⟨#[]⟩, .string ⟨#[]⟩] 24)
          have hB5 := Bx.new hCur #[.int .i64 0, .int .i64 0, .string ⟨#[]⟩, .string ⟨#[]⟩]
          have hNE := Bx.ne hB6
          replace hB6 := Bx.alloc hB6 (.cells #[.int .i64 0, .int .i64 0, .string ⟨#[]⟩, .string ⟨#[]⟩] 24)
          clear hCur
          go_simp
          try go_wp2_with fail
          refine hK.out _ _ ?_ (fun hHeld116 => ?_)
          · exact NB.cells hNew
          clear hK K hNew hHeld105
          (try simp only [Act.put, List.setIfInBounds_toArray, List.set_cons_zero, List.set_cons_succ])
          obtain ⟨w115, ew115⟩ : ∃ V, World.alloc w104 (.cells #[.int .i64 0, .int .i64 0, .string ⟨#[]⟩, .string ⟨#[]⟩] 24) = V := ⟨_, rfl⟩
          rw [ew115] at hHeld116 hB5 hB6 ⊢
          obtain ⟨b117, eb117⟩ : ∃ m, w104.heap.size = m := ⟨_, rfl⟩
          rw [eb117] at hB5 hNE ⊢
          clear ew115 eb117
          refine wpAnyH_ready (rs := [3]) (by kernel_rfl) (by simp) ?_
          refine AllReadyH.cons (o := ⟨some 28, _, _, _, _, _⟩) rfl (fun K hK => ?_) ?_
          · have hCur := NB.limb hHeld116
            go_simp
            refine (HD.out _ hCur).mono ?_
            rintro e w118 ⟨rfl, hb⟩
            have hNew := NB.call hCur hb
            replace hB5 := Bx.call hB5 hb
            replace hB6 := Bx.call hB6 hb
            clear hb hCur hHeld116
            go_wp2_with fail
            refine hK.out _ _ ?_ (fun hHeld119 => ?_)
            · exact NB.cells hNew
            clear hK K hNew
            (try simp only [Act.put, List.setIfInBounds_toArray, List.set_cons_zero, List.set_cons_succ])
            refine wpAnyH_ready (rs := [6]) (by kernel_rfl) (by simp) ?_
            refine AllReadyH.cons (o := ⟨none, _, _, _, _, _⟩) rfl (fun K hK => ?_) AllReadyH.nil
            have hCur := NB.limb hHeld119
            have c0 := hB5.out.2.cell 0
            have c1 := hB5.out.2.cell 1
            have c2 := hB5.out.2.cell 2
            have c3 := hB5.out.2.cell 3
            have f0 := hB5.out.2.frozen 0
            have f1 := hB5.out.2.frozen 1
            have f2 := hB5.out.2.frozen 2
            have f3 := hB5.out.2.frozen 3
            clear hHeld119
            go_simp
            try go_wp2_with fail
            refine hK.out _ _ ?_ (fun hHeld120 => ?_)
            · exact NB.cells (NB.put4 hCur hB5.out.1 (.int .i64 q1) (.int .i64 a1) (.string ⟨n1.toArray⟩) (.string ⟨v1.toArray⟩))
            replace hB6 := Bx.far hB6 hNE.out (.int .i64 q1) (.int .i64 a1) (.string ⟨n1.toArray⟩) (.string ⟨v1.toArray⟩)
            replace hB5 := Bx.put4 hB5 (.int .i64 q1) (.int .i64 a1) (.string ⟨n1.toArray⟩) (.string ⟨v1.toArray⟩)
            clear hK K c0 c1 c2 c3 f0 f1 f2 f3 hCur
            (try simp only [Act.put, List.setIfInBounds_toArray, List.set_cons_zero, List.set_cons_succ])
            refine wpAnyH_ready (rs := [7]) (by kernel_rfl) (by simp) ?_
            refine AllReadyH.cons (o := ⟨none, _, _, _, _, _⟩) rfl (fun K hK => ?_) AllReadyH.nil
            have hCur := NB.limb hHeld120
            have c0 := hB6.out.2.cell 0
            have c1 := hB6.out.2.cell 1
            have c2 := hB6.out.2.cell 2
            have c3 := hB6.out.2.cell 3
            have f0 := hB6.out.2.frozen 0
            have f1 := hB6.out.2.frozen 1
            have f2 := hB6.out.2.frozen 2
            have f3 := hB6.out.2.frozen 3
            clear hHeld120
            go_simp
            try go_wp2_with fail
            refine hK.out _ _ ?_ (fun hHeld122 => ?_)
            · exact NB.cells (NB.put4 hCur hB6.out.1 (.int .i64 q2) (.int .i64 a2) (.string ⟨n2.toArray⟩) (.string ⟨v2.toArray⟩))
            replace hB5 := Bx.far hB5 hNE.out.symm (.int .i64 q2) (.int .i64 a2) (.string ⟨n2.toArray⟩) (.string ⟨v2.toArray⟩)
            replace hB6 := Bx.put4 hB6 (.int .i64 q2) (.int .i64 a2) (.string ⟨n2.toArray⟩) (.string ⟨v2.toArray⟩)
            clear hK K c0 c1 c2 c3 f0 f1 f2 f3 hCur
            (try simp only [Act.put, List.setIfInBounds_toArray, List.set_cons_zero, List.set_cons_succ])
            refine wpAnyH_done (by kernel_rfl) ?_ _
            have hCur := NB.limb hHeld122
            clear hHeld122
            go_wp2_with fail
            go_meet
            exact ⟨_, _, rfl, rfl, hCur, hB5, hB6⟩
          exact AllReadyH.nil
        exact AllReadyH.nil
      refine AllReadyH.cons (o := ⟨some 5, _, _, _, _, _⟩) rfl (fun K hK => ?_) ?_
      · have hCur := NB.limb hHeld102
        have hNew := NB.alloc hCur (.cells #[.int .i64 0, .int .i64 0, .string ⟨#[]⟩, .string ⟨#[]⟩] 24)
        have hB5 := Bx.new hCur #[.int .i64 0, .int .i64 0, .string ⟨#[]⟩, .string ⟨#[]⟩]
        have hNE := Bx.ne hB6
        replace hB6 := Bx.alloc hB6 (.cells #[.int .i64 0, .int .i64 0, .string ⟨#[]⟩, .string ⟨#[]⟩] 24)
        clear hCur
        go_simp
        try go_wp2_with fail
        refine hK.out _ _ ?_ (fun hHeld125 => ?_)
        · exact NB.cells hNew
        clear hK K hNew hHeld102
        (try simp only [Act.put, List.setIfInBounds_toArray, List.set_cons_zero, List.set_cons_succ])
        obtain ⟨w124, ew124⟩ : ∃ V, World.alloc w101 (.cells #[.int .i64 0, .int .i64 0, .string ⟨#[]⟩, .string ⟨#[]⟩] 24) = V := ⟨_, rfl⟩
        rw [ew124] at hHeld125 hB5 hB6 ⊢
        obtain ⟨b126, eb126⟩ : ∃ m, w101.heap.size = m := ⟨_, rfl⟩
        rw [eb126] at hB5 hNE ⊢
        clear ew124 eb126
        refine wpAnyH_ready (rs := [1]) (by kernel_rfl) (by simp) ?_
        refine AllReadyH.cons (o := ⟨some 26, _, _, _, _, _⟩) rfl (fun K hK => ?_) ?_
        · have hCur := NB.limb hHeld125
          go_simp
          refine (HC.out _ hCur).mono ?_
          rintro e w127 ⟨rfl, hb⟩
          have hNew := NB.call hCur hb
          replace hB5 := Bx.call hB5 hb
          replace hB6 := Bx.call hB6 hb
          clear hb hCur hHeld125
          go_wp2_with fail
          refine hK.out _ _ ?_ (fun hHeld128 => ?_)
          · exact NB.cells hNew
          clear hK K hNew
          (try simp only [Act.put, List.setIfInBounds_toArray, List.set_cons_zero, List.set_cons_succ])
          refine wpAnyH_ready (rs := [3]) (by kernel_rfl) (by simp) ?_
          refine AllReadyH.cons (o := ⟨some 28, _, _, _, _, _⟩) rfl (fun K hK => ?_) ?_
          · have hCur := NB.limb hHeld128
            go_simp
            refine (HD.out _ hCur).mono ?_
            rintro e w129 ⟨rfl, hb⟩
            have hNew := NB.call hCur hb
            replace hB5 := Bx.call hB5 hb
            replace hB6 := Bx.call hB6 hb
            clear hb hCur hHeld128
            go_wp2_with fail
            refine hK.out _ _ ?_ (fun hHeld130 => ?_)
            · exact NB.cells hNew
            clear hK K hNew
            (try simp only [Act.put, List.setIfInBounds_toArray, List.set_cons_zero, List.set_cons_succ])
            refine wpAnyH_ready (rs := [6]) (by kernel_rfl) (by simp) ?_
            refine AllReadyH.cons (o := ⟨none, _, _, _, _, _⟩) rfl (fun K hK => ?_) AllReadyH.nil
            have hCur := NB.limb hHeld130
            have c0 := hB5.out.2.cell 0
            have c1 := hB5.out.2.cell 1
            have c2 := hB5.out.2.cell 2
            have c3 := hB5.out.2.cell 3
            have f0 := hB5.out.2.frozen 0
            have f1 := hB5.out.2.frozen 1
            have f2 := hB5.out.2.frozen 2
            have f3 := hB5.out.2.frozen 3
            clear hHeld130
            go_simp
            try go_wp2_with fail
            refine hK.out _ _ ?_ (fun hHeld131 => ?_)
            · exact NB.cells (NB.put4 hCur hB5.out.1 (.int .i64 q1) (.int .i64 a1) (.string ⟨n1.toArray⟩) (.string ⟨v1.toArray⟩))
            replace hB6 := Bx.far hB6 hNE.out (.int .i64 q1) (.int .i64 a1) (.string ⟨n1.toArray⟩) (.string ⟨v1.toArray⟩)
            replace hB5 := Bx.put4 hB5 (.int .i64 q1) (.int .i64 a1) (.string ⟨n1.toArray⟩) (.string ⟨v1.toArray⟩)
            clear hK K c0 c1 c2 c3 f0 f1 f2 f3 hCur
            (try simp only [Act.put, List.setIfInBounds_toArray, List.set_cons_zero, List.set_cons_succ])
            refine wpAnyH_ready (rs := [7]) (by kernel_rfl) (by simp) ?_
            refine AllReadyH.cons (o := ⟨none, _, _, _, _, _⟩) rfl (fun K hK => ?_) AllReadyH.nil
            have hCur := NB.limb hHeld131
            have c0 := hB6.out.2.cell 0
            have c1 := hB6.out.2.cell 1
            have c2 := hB6.out.2.cell 2
            have c3 := hB6.out.2.cell 3
            have f0 := hB6.out.2.frozen 0
            have f1 := hB6.out.2.frozen 1
            have f2 := hB6.out.2.frozen 2
            have f3 := hB6.out.2.frozen 3
            clear hHeld131
            go_simp
            try go_wp2_with fail
            refine hK.out _ _ ?_ (fun hHeld133 => ?_)
            · exact NB.cells (NB.put4 hCur hB6.out.1 (.int .i64 q2) (.int .i64 a2) (.string ⟨n2.toArray⟩) (.string ⟨v2.toArray⟩))
            replace hB5 := Bx.far hB5 hNE.out.symm (.int .i64 q2) (.int .i64 a2) (.string ⟨n2.toArray⟩) (.string ⟨v2.toArray⟩)
            replace hB6 := Bx.put4 hB6 (.int .i64 q2) (.int .i64 a2) (.string ⟨n2.toArray⟩) (.string ⟨v2.toArray⟩)
            clear hK K c0 c1 c2 c3 f0 f1 f2 f3 hCur
            (try simp only [Act.put, List.setIfInBounds_toArray, List.set_cons_zero, List.set_cons_succ])
            refine wpAnyH_done (by kernel_rfl) ?_ _
            have hCur := NB.limb hHeld133
            clear hHeld133
            go_wp2_with fail
            go_meet
            exact ⟨_, _, rfl, rfl, hCur, hB5, hB6⟩
          exact AllReadyH.nil
        exact AllReadyH.nil
      exact AllReadyH.nil
    exact AllReadyH.nil
  case rest =>
    obtain ⟨b5, b6, rfl, rfl, HI, H5, H6⟩ := hcut
    clear HN HC HD
    have e0 := H5.out.2.cell 0
    have e1 := H5.out.2.cell 1
    have e2 := H5.out.2.cell 2
    have e3 := H5.out.2.cell 3
    go_wp2_with fail
    refine (HP1.out _ (NB.good HI)).mono ?_
    rintro e w1 ⟨rfl, hb⟩
    have HI := NB.call HI hb
    have H5 := Bx.call H5 hb
    have H6 := Bx.call H6 hb
    clear hb e0 e1 e2 e3
    have e0 := H6.out.2.cell 0
    have e1 := H6.out.2.cell 1
    have e2 := H6.out.2.cell 2
    have e3 := H6.out.2.cell 3
    go_wp2_with fail
    refine (HP2.out _ (NB.good HI)).mono ?_
    rintro e w2 ⟨rfl, hb⟩
    have HI := NB.call HI hb
    have H5 := Bx.call H5 hb
    have H6 := Bx.call H6 hb
    clear hb e0 e1 e2 e3
    go_wp2_with fail
    refine (HPa.out _ (NB.good HI)).mono ?_
    rintro e w3 ⟨rfl, hb⟩
    have HI := NB.call HI hb
    have H5 := Bx.call H5 hb
    have H6 := Bx.call H6 hb
    clear hb
    have H7 := Bx.new HI #[.int .i64 q1, .int .i64 a1, .string ⟨n1.toArray⟩, .string ⟨v1.toArray⟩]
    replace HI := NB.alloc HI (.cells #[.int .i64 q1, .int .i64 a1, .string ⟨n1.toArray⟩, .string ⟨v1.toArray⟩] 24)
    replace H5 := Bx.alloc H5 (.cells #[.int .i64 q1, .int .i64 a1, .string ⟨n1.toArray⟩, .string ⟨v1.toArray⟩] 24)
    replace H6 := Bx.alloc H6 (.cells #[.int .i64 q1, .int .i64 a1, .string ⟨n1.toArray⟩, .string ⟨v1.toArray⟩] 24)
    have e0 := H5.out.2.cell 0
    go_wp2_with fail
    refine (HW.out _).mono ?_
    rintro e w4 ⟨rfl, hb⟩
    replace HI := NB.call HI hb
    replace H5 := Bx.call H5 hb
    replace H6 := Bx.call H6 hb
    replace H7 := Bx.call H7 hb
    clear hb e0
    obtain ⟨b7, hb7⟩ : ∃ m, w3.heap.size = m := ⟨_, rfl⟩
    rw [hb7] at H7 ⊢
    clear hb7
    by_cases h1 : q1 = q2
    · by_cases h2 : a1 = a2
      · by_cases h3 : n1 = n2
        · by_cases h4 : v1 = v2
          · obtain rfl : S = T := by rcases HST.out with h | h; exact h.1; exact absurd h.2 (by simp [h1, h2, h3, h4])
            subst h1 h2 h3 h4
            clear HST
            obtain ⟨h0, h35, hsz, hpre⟩ := HS0.out
            have hx : ∀ h, ((⟨S.toArray⟩ : ByteArray)[0]'h) = x := fun h => (List.getElem?_eq_some_iff.1 h0).2
            have hpos : 0 < S.length := (List.getElem?_eq_some_iff.1 h0).1
            have hx35 : ¬ (x.toNat : Int) = 35 := by
              have : x.toNat ≠ 35 := fun e => h35 (UInt8.toNat_inj.1 e)
              omega
            have hs0 : (S == []) = false := eq_no (fun e => by rw [e] at hpos; exact absurd hpos (by decide))
            have hle : WD.length ≤ S.length := hpre.length_le
            have hle2 : ¬ (S.length : Int) < (WD.length : Int) := by omega
            have hext : (⟨S.toArray⟩ : ByteArray).extract 0 WD.length = ⟨WD.toArray⟩ := by rw [mk_extract, List.drop_zero, Nat.sub_zero, ← List.prefix_iff_eq_take.1 hpre]
            clear h0 h35 hpre HS0
            have c50 := H5.out.2.cell 0
            have c51 := H5.out.2.cell 1
            have c52 := H5.out.2.cell 2
            have c53 := H5.out.2.cell 3
            have c60 := H6.out.2.cell 0
            have c61 := H6.out.2.cell 1
            have c62 := H6.out.2.cell 2
            have c63 := H6.out.2.cell 3
            have c70 := H7.out.2.cell 0
            have c71 := H7.out.2.cell 1
            have c72 := H7.out.2.cell 2
            have c73 := H7.out.2.cell 3
            go_wp2_with fail
            refine (HK1.out _ (NB.good HI)).mono ?_
            rintro e w5 ⟨rfl, hb⟩
            replace HI := NB.call HI hb
            replace H5 := Bx.call H5 hb
            replace H6 := Bx.call H6 hb
            replace H7 := Bx.call H7 hb
            clear hb c50 c51 c52 c53 c60 c61 c62 c63 c70 c71 c72 c73
            have c50 := H5.out.2.cell 0
            have c51 := H5.out.2.cell 1
            have c52 := H5.out.2.cell 2
            have c53 := H5.out.2.cell 3
            have c60 := H6.out.2.cell 0
            have c61 := H6.out.2.cell 1
            have c62 := H6.out.2.cell 2
            have c63 := H6.out.2.cell 3
            have c70 := H7.out.2.cell 0
            have c71 := H7.out.2.cell 1
            have c72 := H7.out.2.cell 2
            have c73 := H7.out.2.cell 3
            go_wp2_with fail
            refine (HK2.out _ (NB.good HI)).mono ?_
            rintro e w6 ⟨rfl, hb⟩
            replace HI := NB.call HI hb
            replace H5 := Bx.call H5 hb
            replace H6 := Bx.call H6 hb
            replace H7 := Bx.call H7 hb
            clear hb c50 c51 c52 c53 c60 c61 c62 c63 c70 c71 c72 c73
            have c50 := H5.out.2.cell 0
            have c51 := H5.out.2.cell 1
            have c52 := H5.out.2.cell 2
            have c53 := H5.out.2.cell 3
            have c60 := H6.out.2.cell 0
            have c61 := H6.out.2.cell 1
            have c62 := H6.out.2.cell 2
            have c63 := H6.out.2.cell 3
            have c70 := H7.out.2.cell 0
            have c71 := H7.out.2.cell 1
            have c72 := H7.out.2.cell 2
            have c73 := H7.out.2.cell 3
            go_wp2_with fail
            refine (HPl.out _).mono ?_
            rintro e w7 ⟨rfl, rfl⟩
            go_wp2_with fail
            refine (works_any _ (NB.good HI)).mono ?_
            rintro e w8 ⟨rfl, hb⟩
            replace HI := NB.call HI hb
            replace H5 := Bx.call H5 hb
            replace H6 := Bx.call H6 hb
            replace H7 := Bx.call H7 hb
            clear hb c50 c51 c52 c53 c60 c61 c62 c63 c70 c71 c72 c73
            go_wp2_with fail
            go_ret
            refine ⟨?_, HI.out.2.1⟩
            first
              | rfl
              | exact ret_bool (by simpa using hx35)
          · have hst := eq_no (a := S) (b := T) (by rcases HST.out with h | h; exact absurd h.2.2.2.2 h4; exact h.1)
            have hq := eq_no h4
            subst h1 h2 h3
            clear HST h4
            obtain ⟨h0, h35, hsz, hpre⟩ := HS0.out
            have hx : ∀ h, ((⟨S.toArray⟩ : ByteArray)[0]'h) = x := fun h => (List.getElem?_eq_some_iff.1 h0).2
            have hpos : 0 < S.length := (List.getElem?_eq_some_iff.1 h0).1
            have hx35 : ¬ (x.toNat : Int) = 35 := by
              have : x.toNat ≠ 35 := fun e => h35 (UInt8.toNat_inj.1 e)
              omega
            have hs0 : (S == []) = false := eq_no (fun e => by rw [e] at hpos; exact absurd hpos (by decide))
            have hle : WD.length ≤ S.length := hpre.length_le
            have hle2 : ¬ (S.length : Int) < (WD.length : Int) := by omega
            have hext : (⟨S.toArray⟩ : ByteArray).extract 0 WD.length = ⟨WD.toArray⟩ := by rw [mk_extract, List.drop_zero, Nat.sub_zero, ← List.prefix_iff_eq_take.1 hpre]
            clear h0 h35 hpre HS0
            have c50 := H5.out.2.cell 0
            have c51 := H5.out.2.cell 1
            have c52 := H5.out.2.cell 2
            have c53 := H5.out.2.cell 3
            have c60 := H6.out.2.cell 0
            have c61 := H6.out.2.cell 1
            have c62 := H6.out.2.cell 2
            have c63 := H6.out.2.cell 3
            have c70 := H7.out.2.cell 0
            have c71 := H7.out.2.cell 1
            have c72 := H7.out.2.cell 2
            have c73 := H7.out.2.cell 3
            go_wp2_with fail
            refine (HK1.out _ (NB.good HI)).mono ?_
            rintro e w5 ⟨rfl, hb⟩
            replace HI := NB.call HI hb
            replace H5 := Bx.call H5 hb
            replace H6 := Bx.call H6 hb
            replace H7 := Bx.call H7 hb
            clear hb c50 c51 c52 c53 c60 c61 c62 c63 c70 c71 c72 c73
            have c50 := H5.out.2.cell 0
            have c51 := H5.out.2.cell 1
            have c52 := H5.out.2.cell 2
            have c53 := H5.out.2.cell 3
            have c60 := H6.out.2.cell 0
            have c61 := H6.out.2.cell 1
            have c62 := H6.out.2.cell 2
            have c63 := H6.out.2.cell 3
            have c70 := H7.out.2.cell 0
            have c71 := H7.out.2.cell 1
            have c72 := H7.out.2.cell 2
            have c73 := H7.out.2.cell 3
            go_wp2_with fail
            refine (HK2.out _ (NB.good HI)).mono ?_
            rintro e w6 ⟨rfl, hb⟩
            replace HI := NB.call HI hb
            replace H5 := Bx.call H5 hb
            replace H6 := Bx.call H6 hb
            replace H7 := Bx.call H7 hb
            clear hb c50 c51 c52 c53 c60 c61 c62 c63 c70 c71 c72 c73
            have c50 := H5.out.2.cell 0
            have c51 := H5.out.2.cell 1
            have c52 := H5.out.2.cell 2
            have c53 := H5.out.2.cell 3
            have c60 := H6.out.2.cell 0
            have c61 := H6.out.2.cell 1
            have c62 := H6.out.2.cell 2
            have c63 := H6.out.2.cell 3
            have c70 := H7.out.2.cell 0
            have c71 := H7.out.2.cell 1
            have c72 := H7.out.2.cell 2
            have c73 := H7.out.2.cell 3
            go_wp2_with fail
            refine (HPl.out _).mono ?_
            rintro e w7 ⟨rfl, rfl⟩
            go_wp2_with fail
            refine (works_any _ (NB.good HI)).mono ?_
            rintro e w8 ⟨rfl, hb⟩
            replace HI := NB.call HI hb
            replace H5 := Bx.call H5 hb
            replace H6 := Bx.call H6 hb
            replace H7 := Bx.call H7 hb
            clear hb c50 c51 c52 c53 c60 c61 c62 c63 c70 c71 c72 c73
            go_wp2_with fail
            go_ret
            refine ⟨?_, HI.out.2.1⟩
            first
              | rfl
              | exact ret_bool (by simpa using hx35)
        · have hst := eq_no (a := S) (b := T) (by rcases HST.out with h | h; exact absurd h.2.2.2.1 h3; exact h.1)
          have hq := eq_no h3
          subst h1 h2
          clear HST h3
          obtain ⟨h0, h35, hsz, hpre⟩ := HS0.out
          have hx : ∀ h, ((⟨S.toArray⟩ : ByteArray)[0]'h) = x := fun h => (List.getElem?_eq_some_iff.1 h0).2
          have hpos : 0 < S.length := (List.getElem?_eq_some_iff.1 h0).1
          have hx35 : ¬ (x.toNat : Int) = 35 := by
            have : x.toNat ≠ 35 := fun e => h35 (UInt8.toNat_inj.1 e)
            omega
          have hs0 : (S == []) = false := eq_no (fun e => by rw [e] at hpos; exact absurd hpos (by decide))
          have hle : WD.length ≤ S.length := hpre.length_le
          have hle2 : ¬ (S.length : Int) < (WD.length : Int) := by omega
          have hext : (⟨S.toArray⟩ : ByteArray).extract 0 WD.length = ⟨WD.toArray⟩ := by rw [mk_extract, List.drop_zero, Nat.sub_zero, ← List.prefix_iff_eq_take.1 hpre]
          clear h0 h35 hpre HS0
          have c50 := H5.out.2.cell 0
          have c51 := H5.out.2.cell 1
          have c52 := H5.out.2.cell 2
          have c53 := H5.out.2.cell 3
          have c60 := H6.out.2.cell 0
          have c61 := H6.out.2.cell 1
          have c62 := H6.out.2.cell 2
          have c63 := H6.out.2.cell 3
          have c70 := H7.out.2.cell 0
          have c71 := H7.out.2.cell 1
          have c72 := H7.out.2.cell 2
          have c73 := H7.out.2.cell 3
          go_wp2_with fail
          refine (HK1.out _ (NB.good HI)).mono ?_
          rintro e w5 ⟨rfl, hb⟩
          replace HI := NB.call HI hb
          replace H5 := Bx.call H5 hb
          replace H6 := Bx.call H6 hb
          replace H7 := Bx.call H7 hb
          clear hb c50 c51 c52 c53 c60 c61 c62 c63 c70 c71 c72 c73
          have c50 := H5.out.2.cell 0
          have c51 := H5.out.2.cell 1
          have c52 := H5.out.2.cell 2
          have c53 := H5.out.2.cell 3
          have c60 := H6.out.2.cell 0
          have c61 := H6.out.2.cell 1
          have c62 := H6.out.2.cell 2
          have c63 := H6.out.2.cell 3
          have c70 := H7.out.2.cell 0
          have c71 := H7.out.2.cell 1
          have c72 := H7.out.2.cell 2
          have c73 := H7.out.2.cell 3
          go_wp2_with fail
          refine (HK2.out _ (NB.good HI)).mono ?_
          rintro e w6 ⟨rfl, hb⟩
          replace HI := NB.call HI hb
          replace H5 := Bx.call H5 hb
          replace H6 := Bx.call H6 hb
          replace H7 := Bx.call H7 hb
          clear hb c50 c51 c52 c53 c60 c61 c62 c63 c70 c71 c72 c73
          have c50 := H5.out.2.cell 0
          have c51 := H5.out.2.cell 1
          have c52 := H5.out.2.cell 2
          have c53 := H5.out.2.cell 3
          have c60 := H6.out.2.cell 0
          have c61 := H6.out.2.cell 1
          have c62 := H6.out.2.cell 2
          have c63 := H6.out.2.cell 3
          have c70 := H7.out.2.cell 0
          have c71 := H7.out.2.cell 1
          have c72 := H7.out.2.cell 2
          have c73 := H7.out.2.cell 3
          go_wp2_with fail
          refine (HPl.out _).mono ?_
          rintro e w7 ⟨rfl, rfl⟩
          go_wp2_with fail
          refine (works_any _ (NB.good HI)).mono ?_
          rintro e w8 ⟨rfl, hb⟩
          replace HI := NB.call HI hb
          replace H5 := Bx.call H5 hb
          replace H6 := Bx.call H6 hb
          replace H7 := Bx.call H7 hb
          clear hb c50 c51 c52 c53 c60 c61 c62 c63 c70 c71 c72 c73
          go_wp2_with fail
          go_ret
          refine ⟨?_, HI.out.2.1⟩
          first
            | rfl
            | exact ret_bool (by simpa using hx35)
      · have hst := eq_no (a := S) (b := T) (by rcases HST.out with h | h; exact absurd h.2.2.1 h2; exact h.1)
        have hq : (a1 == a2) = false := by simpa using h2
        subst h1
        clear HST h2
        obtain ⟨h0, h35, hsz, hpre⟩ := HS0.out
        have hx : ∀ h, ((⟨S.toArray⟩ : ByteArray)[0]'h) = x := fun h => (List.getElem?_eq_some_iff.1 h0).2
        have hpos : 0 < S.length := (List.getElem?_eq_some_iff.1 h0).1
        have hx35 : ¬ (x.toNat : Int) = 35 := by
          have : x.toNat ≠ 35 := fun e => h35 (UInt8.toNat_inj.1 e)
          omega
        have hs0 : (S == []) = false := eq_no (fun e => by rw [e] at hpos; exact absurd hpos (by decide))
        have hle : WD.length ≤ S.length := hpre.length_le
        have hle2 : ¬ (S.length : Int) < (WD.length : Int) := by omega
        have hext : (⟨S.toArray⟩ : ByteArray).extract 0 WD.length = ⟨WD.toArray⟩ := by rw [mk_extract, List.drop_zero, Nat.sub_zero, ← List.prefix_iff_eq_take.1 hpre]
        clear h0 h35 hpre HS0
        have c50 := H5.out.2.cell 0
        have c51 := H5.out.2.cell 1
        have c52 := H5.out.2.cell 2
        have c53 := H5.out.2.cell 3
        have c60 := H6.out.2.cell 0
        have c61 := H6.out.2.cell 1
        have c62 := H6.out.2.cell 2
        have c63 := H6.out.2.cell 3
        have c70 := H7.out.2.cell 0
        have c71 := H7.out.2.cell 1
        have c72 := H7.out.2.cell 2
        have c73 := H7.out.2.cell 3
        go_wp2_with fail
        refine (HK1.out _ (NB.good HI)).mono ?_
        rintro e w5 ⟨rfl, hb⟩
        replace HI := NB.call HI hb
        replace H5 := Bx.call H5 hb
        replace H6 := Bx.call H6 hb
        replace H7 := Bx.call H7 hb
        clear hb c50 c51 c52 c53 c60 c61 c62 c63 c70 c71 c72 c73
        have c50 := H5.out.2.cell 0
        have c51 := H5.out.2.cell 1
        have c52 := H5.out.2.cell 2
        have c53 := H5.out.2.cell 3
        have c60 := H6.out.2.cell 0
        have c61 := H6.out.2.cell 1
        have c62 := H6.out.2.cell 2
        have c63 := H6.out.2.cell 3
        have c70 := H7.out.2.cell 0
        have c71 := H7.out.2.cell 1
        have c72 := H7.out.2.cell 2
        have c73 := H7.out.2.cell 3
        go_wp2_with fail
        refine (HK2.out _ (NB.good HI)).mono ?_
        rintro e w6 ⟨rfl, hb⟩
        replace HI := NB.call HI hb
        replace H5 := Bx.call H5 hb
        replace H6 := Bx.call H6 hb
        replace H7 := Bx.call H7 hb
        clear hb c50 c51 c52 c53 c60 c61 c62 c63 c70 c71 c72 c73
        have c50 := H5.out.2.cell 0
        have c51 := H5.out.2.cell 1
        have c52 := H5.out.2.cell 2
        have c53 := H5.out.2.cell 3
        have c60 := H6.out.2.cell 0
        have c61 := H6.out.2.cell 1
        have c62 := H6.out.2.cell 2
        have c63 := H6.out.2.cell 3
        have c70 := H7.out.2.cell 0
        have c71 := H7.out.2.cell 1
        have c72 := H7.out.2.cell 2
        have c73 := H7.out.2.cell 3
        go_wp2_with fail
        refine (HPl.out _).mono ?_
        rintro e w7 ⟨rfl, rfl⟩
        go_wp2_with fail
        refine (works_any _ (NB.good HI)).mono ?_
        rintro e w8 ⟨rfl, hb⟩
        replace HI := NB.call HI hb
        replace H5 := Bx.call H5 hb
        replace H6 := Bx.call H6 hb
        replace H7 := Bx.call H7 hb
        clear hb c50 c51 c52 c53 c60 c61 c62 c63 c70 c71 c72 c73
        go_wp2_with fail
        go_ret
        refine ⟨?_, HI.out.2.1⟩
        first
          | rfl
          | exact ret_bool (by simpa using hx35)
    · have hst := eq_no (a := S) (b := T) (by rcases HST.out with h | h; exact absurd h.2.1 h1; exact h.1)
      have hq : (q1 == q2) = false := by simpa using h1
      clear HST h1
      obtain ⟨h0, h35, hsz, hpre⟩ := HS0.out
      have hx : ∀ h, ((⟨S.toArray⟩ : ByteArray)[0]'h) = x := fun h => (List.getElem?_eq_some_iff.1 h0).2
      have hpos : 0 < S.length := (List.getElem?_eq_some_iff.1 h0).1
      have hx35 : ¬ (x.toNat : Int) = 35 := by
        have : x.toNat ≠ 35 := fun e => h35 (UInt8.toNat_inj.1 e)
        omega
      have hs0 : (S == []) = false := eq_no (fun e => by rw [e] at hpos; exact absurd hpos (by decide))
      have hle : WD.length ≤ S.length := hpre.length_le
      have hle2 : ¬ (S.length : Int) < (WD.length : Int) := by omega
      have hext : (⟨S.toArray⟩ : ByteArray).extract 0 WD.length = ⟨WD.toArray⟩ := by rw [mk_extract, List.drop_zero, Nat.sub_zero, ← List.prefix_iff_eq_take.1 hpre]
      clear h0 h35 hpre HS0
      have c50 := H5.out.2.cell 0
      have c51 := H5.out.2.cell 1
      have c52 := H5.out.2.cell 2
      have c53 := H5.out.2.cell 3
      have c60 := H6.out.2.cell 0
      have c61 := H6.out.2.cell 1
      have c62 := H6.out.2.cell 2
      have c63 := H6.out.2.cell 3
      have c70 := H7.out.2.cell 0
      have c71 := H7.out.2.cell 1
      have c72 := H7.out.2.cell 2
      have c73 := H7.out.2.cell 3
      go_wp2_with fail
      refine (HK1.out _ (NB.good HI)).mono ?_
      rintro e w5 ⟨rfl, hb⟩
      replace HI := NB.call HI hb
      replace H5 := Bx.call H5 hb
      replace H6 := Bx.call H6 hb
      replace H7 := Bx.call H7 hb
      clear hb c50 c51 c52 c53 c60 c61 c62 c63 c70 c71 c72 c73
      have c50 := H5.out.2.cell 0
      have c51 := H5.out.2.cell 1
      have c52 := H5.out.2.cell 2
      have c53 := H5.out.2.cell 3
      have c60 := H6.out.2.cell 0
      have c61 := H6.out.2.cell 1
      have c62 := H6.out.2.cell 2
      have c63 := H6.out.2.cell 3
      have c70 := H7.out.2.cell 0
      have c71 := H7.out.2.cell 1
      have c72 := H7.out.2.cell 2
      have c73 := H7.out.2.cell 3
      go_wp2_with fail
      refine (HK2.out _ (NB.good HI)).mono ?_
      rintro e w6 ⟨rfl, hb⟩
      replace HI := NB.call HI hb
      replace H5 := Bx.call H5 hb
      replace H6 := Bx.call H6 hb
      replace H7 := Bx.call H7 hb
      clear hb c50 c51 c52 c53 c60 c61 c62 c63 c70 c71 c72 c73
      have c50 := H5.out.2.cell 0
      have c51 := H5.out.2.cell 1
      have c52 := H5.out.2.cell 2
      have c53 := H5.out.2.cell 3
      have c60 := H6.out.2.cell 0
      have c61 := H6.out.2.cell 1
      have c62 := H6.out.2.cell 2
      have c63 := H6.out.2.cell 3
      have c70 := H7.out.2.cell 0
      have c71 := H7.out.2.cell 1
      have c72 := H7.out.2.cell 2
      have c73 := H7.out.2.cell 3
      go_wp2_with fail
      refine (HPl.out _).mono ?_
      rintro e w7 ⟨rfl, rfl⟩
      go_wp2_with fail
      refine (works_any _ (NB.good HI)).mono ?_
      rintro e w8 ⟨rfl, hb⟩
      replace HI := NB.call HI hb
      replace H5 := Bx.call H5 hb
      replace H6 := Bx.call H6 hb
      replace H7 := Bx.call H7 hb
      clear hb c50 c51 c52 c53 c60 c61 c62 c63 c70 c71 c72 c73
      go_wp2_with fail
      go_ret
      refine ⟨?_, HI.out.2.1⟩
      first
        | rfl
        | exact ret_bool (by simpa using hx35)

theorem prefix_line (k : Nat) (c : Cmd.C) : (Cmd.words[k]?).getD [] <+: Cmd.line k c := ⟨Cmd.text (Cmd.cls k) c, rfl⟩
set_option maxRecDepth 100000 in
theorem commandBack_walk (k : Int) (k0 : 0 ≤ k) (k1 : k ≤ 255) (a : Int) (a0 : 0 ≤ a) (a1 : a ≤ 4294967295) (A : Option Addr) (cap : Nat) (l : List UInt8) (_ : l.length ≤ cap) (_ : cap ≤ maxLen) (w : World) (hrd : Rd w w.heap.size A (bytesV l))
    (k' : Int) (k0' : 0 ≤ k') (k1' : k' ≤ 255) (a' : Int) (a0' : 0 ≤ a') (a1' : a' ≤ 4294967295) (A' : Option Addr) (cap' : Nat) (l' : List UInt8) (_ : l'.length ≤ cap') (_ : cap' ≤ maxLen) (hrd' : Rd w w.heap.size A' (bytesV l')) (hG : Good w) :
    Calls Tryz.prog 10 #[.agg #[.int .u8 k, .int .u32 a, .slice A l.length cap], .agg #[.int .u8 k', .int .u32 a', .slice A' l'.length cap']] w fun e w' => e = .returned (.bool true) ∧ Below w.heap.size w w' := by
  have HN := NB.new (w := w) (x0 := .int .u8 k) (x1 := .int .u32 a) (x2 := .slice A l.length cap) (y0 := .int .u8 k') (y1 := .int .u32 a') (y2 := .slice A' l'.length cap') hG
  by_cases h : 300 < l.length
  · have k1 : (300 : Int) < (l.length : Int) := by omega
    clear hrd hrd' h
    have hg := hG.sz
    clear hG
    go_enter Tryz.func10, Tryz.ntmps10
    go_wp2_with fail
    refine (works_any _ (NB.good HN)).mono ?_
    rintro e w2 ⟨rfl, hb⟩
    replace HN := NB.call HN hb
    go_wp2_with fail
    go_ret
    exact ⟨rfl, HN.out.2.1⟩
  by_cases h' : 300 < l'.length
  · have k1 : ¬ (300 : Int) < (l.length : Int) := by omega
    have k2 : (300 : Int) < (l'.length : Int) := by omega
    clear hrd hrd' h h'
    have hg := hG.sz
    clear hG
    go_enter Tryz.func10, Tryz.ntmps10
    go_wp2_with fail
    refine (works_any _ (NB.good HN)).mono ?_
    rintro e w2 ⟨rfl, hb⟩
    replace HN := NB.call HN hb
    go_wp2_with fail
    go_ret
    exact ⟨rfl, HN.out.2.1⟩
  have ok1 := Cmd.cmdK_ok (Cmd.kindN k) a l Cmd.kindN_is.1 Cmd.kindN_is.2 (by omega)
  have ok2 := Cmd.cmdK_ok (Cmd.kindN k') a' l' Cmd.kindN_is.1 Cmd.kindN_is.2 (by omega)
  obtain ⟨z1, z2, z3, z4⟩ := Cmd.cmdK_size (Cmd.kindN k) a l (by omega)
  obtain ⟨y1, y2, y3, y4⟩ := Cmd.cmdK_size (Cmd.kindN k') a' l' (by omega)
  have HC := fun W (hW : Hid (NB w (.int .u8 k) (.int .u32 a) (.slice A l.length cap) (.int .u8 k') (.int .u32 a') (.slice A' l'.length cap') W)) => cmdN_any k k0 k1 a a0 a1 A cap l (by omega) W ((hrd.below hW.out.2.1).more hW.out.2.1.size) (NB.good hW)
  have HD := fun W (hW : Hid (NB w (.int .u8 k) (.int .u32 a) (.slice A l.length cap) (.int .u8 k') (.int .u32 a') (.slice A' l'.length cap') W)) => cmdN_any k' k0' k1' a' a0' a1' A' cap' l' (by omega) W ((hrd'.below hW.out.2.1).more hW.out.2.1.size) (NB.good hW)
  have e1 : Cmd.cmdN k a l = Cmd.cmdK (Cmd.kindN k) a l := rfl
  have e2 : Cmd.cmdN k' a' l' = Cmd.cmdK (Cmd.kindN k') a' l' := rfl
  rw [e1] at HC
  rw [e2] at HD
  clear e1 e2
  obtain ⟨c, hc⟩ : ∃ c, Cmd.cmdK (Cmd.kindN k) a l = c := ⟨_, rfl⟩
  obtain ⟨d, hd⟩ : ∃ d, Cmd.cmdK (Cmd.kindN k') a' l' = d := ⟨_, rfl⟩
  rw [hc] at HC ok1 z1 z2 z3 z4
  rw [hd] at HD ok2 y1 y2 y3 y4
  clear hc hd
  obtain ⟨p1, p2, p3⟩ := Cmd.print_ok ok1
  obtain ⟨r1, r2, r3⟩ := Cmd.print_ok ok2
  have hk := ok_kind ok1
  have HP1 := fun W hG => print_any c (by omega) (by omega) (by omega) W hG
  have HP2 := fun W hG => print_any d (by omega) (by omega) (by omega) W hG
  have HK1 := fun W hG => check_any c (by omega) (by omega) (by omega) W hG
  have HK2 := fun W hG => check_any d (by omega) (by omega) (by omega) W hG
  have HPa := fun W hG => parse_any (Cmd.line c.kind.toNat c) (by omega) W hG
  have HPl := fun W => lplain_any (Cmd.line c.kind.toNat c) W (by omega)
  have HW := fun W => word_any c.kind W
  have hw : Cmd.word' c.kind <+: Cmd.line c.kind.toNat c := by
    unfold Cmd.word'
    rw [if_pos (by omega)]
    exact prefix_line _ _
  have hpl : plainB (Cmd.line c.kind.toNat c) = true := decide_eq_true (Cmd.line_plain ok1)
  obtain ⟨b, r, hbr, hb35⟩ := Cmd.line_front ok1
  have hps : parse (Cmd.line c.kind.toNat c) = some c := parse_iff.2 p1
  have hp1 : parseS (Cmd.line c.kind.toNat c) = c := by unfold parseS; rw [hps]; rfl
  have hp2 : parseE (Cmd.line c.kind.toNat c) = 0 := by unfold parseE; rw [hps]; rfl
  have hST : (Cmd.line c.kind.toNat c = Cmd.line d.kind.toNat d ∧ c = d) ∨ (Cmd.line c.kind.toNat c ≠ Cmd.line d.kind.toNat d ∧ c ≠ d) := by
    by_cases e : c = d
    · subst e; exact .inl ⟨rfl, rfl⟩
    · exact .inr ⟨fun e2 => e (print_inj p1 (by rw [e2]; exact r1)), e⟩
  rw [hpl] at HPl
  rw [hp1, hp2] at HPa
  rw [p2, p3] at HP1
  rw [r2, r3] at HP2
  rw [p3] at HK1
  rw [r3] at HK2
  have h00 : (Cmd.line c.kind.toNat c)[0]? = some b := by rw [hbr]; rfl
  have hlen : (Cmd.line c.kind.toNat c).length ≤ 1000000 := by omega
  generalize Cmd.line c.kind.toNat c = S at *
  generalize Cmd.line d.kind.toNat d = T at *
  generalize Cmd.word' c.kind = WD at *
  obtain ⟨q1, m1, n1, v1⟩ := c
  obtain ⟨q2, m2, n2, v2⟩ := d
  unfold cV at HP1 HP2 HK1 HK2 HPa HC HD
  exact back_main k a k' a' A A' l.length cap l'.length cap' q1 m1 n1 v1 q2 m2 n2 v2 b S T WD w hG (by omega) (by omega) (Lib.hid HC) (Lib.hid HD) (Lib.hid HP1) (Lib.hid HP2) (Lib.hid HPa) (Lib.hid HW) (Lib.hid HK1) (Lib.hid HK2) (Lib.hid HPl)
    (Lib.hid (by
      rcases hST with ⟨h1, h2⟩ | ⟨h1, h2⟩
      · cases h2; exact .inl ⟨h1, rfl, rfl, rfl, rfl⟩
      · refine .inr ⟨h1, ?_⟩
        by_cases f1 : q1 = q2
        · by_cases f2 : m1 = m2
          · by_cases f3 : n1 = n2
            · by_cases f4 : v1 = v2
              · subst f1 f2 f3 f4; exact absurd rfl h2
              · exact .inr (.inr (.inr f4))
            · exact .inr (.inr (.inl f3))
          · exact .inr (.inl f2)
        · exact .inl f1)) (Lib.hid ⟨h00, hb35, hlen, hw⟩)
end Go.Proofs.YtphpgbbjbncfoaaGreatDoor

/-
  LAYER 1: the iterator of place.lines: the numbers of the lines, and the lines.
-/
import Derived.Test.YtmoeglecdojhcaaDoorPl6
namespace Go.Proofs.YtmoeglecdojhcaaDoor
open Go.ChangeShapes Go.WideShapes Go.ChangeAt Go.RowKit Go.Shelf
attribute [local go_sem] Oper.semAt_some

theorem room_none (k : Nat) : Fence.wide.room k := fun _ h => by cases h
theorem round_any {m m' : Nat} {P : Program} {l : Nat} {f : FuncId} {tmps : Array Value} {assign body : Code} {w : World} {R : Ending → World → Prop}
    (h : RoundIn Fence.wide m P l f tmps assign body w R) : RoundIn Fence.wide m' P l f tmps assign body w R := ⟨h.1, fun c cs _ => h.2 c cs (room_none _)⟩
theorem round_in {m : Nat} {P : Program} {l k : Nat} {f : FuncId} {tmps : Array Value} {assign body : Code} {w : World} {R : Ending → World → Prop}
    (h : RoundIn Fence.wide m P l f tmps assign body w R) : RoundIn (Fence.wide.inRound k) m P l f tmps assign body w R := h

/-- Lines with their numbers. -/
def num : Nat → List (List UInt8) → List (Nat × List UInt8)
  | _, [] => []
  | k, p :: r => (k, p) :: num (k + 1) r
theorem num_append : ∀ (a b : List (List UInt8)) (k : Nat), num k (a ++ b) = num k a ++ num (k + a.length) b
  | [], _, _ => rfl
  | p :: a, b, k => by rw [List.cons_append, num, num_append a b, num, List.cons_append, List.length_cons, show k + 1 + a.length = k + (a.length + 1) by omega]

theorem splitSeq_any (s : List UInt8) (w : World) :
    Calls Tryd.prog 51 #[.string ⟨s.toArray⟩, .string ⟨#[10]⟩] w fun e w' => e = .returned (.func (.func 74) #[] #[.pointer (some ⟨w.heap.size + 1, 0, none⟩), .pointer (some ⟨w.heap.size, 0, none⟩), .pointer (some ⟨w.heap.size + 2, 0, none⟩)]) ∧ w' = ((w.alloc (.cells #[.string ⟨s.toArray⟩] 9)).alloc (.cells #[.string ⟨#[10]⟩] 9)).alloc (.cells #[.int .i64 0] 3) := by
  have h2 : Calls Tryd.prog 61 #[.string ⟨s.toArray⟩, .string ⟨#[10]⟩, .int .i64 0] w fun e w' => e = .returned (.func (.func 74) #[] #[.pointer (some ⟨w.heap.size + 1, 0, none⟩), .pointer (some ⟨w.heap.size, 0, none⟩), .pointer (some ⟨w.heap.size + 2, 0, none⟩)]) ∧ w' = ((w.alloc (.cells #[.string ⟨s.toArray⟩] 9)).alloc (.cells #[.string ⟨#[10]⟩] 9)).alloc (.cells #[.int .i64 0] 3) := by
    go_enter Tryd.func61, Tryd.ntmps61
    go_wp2_with fail
    go_ret
    exact ⟨rfl, rfl⟩
  have H2 := Lib.hid h2
  clear h2
  go_enter Tryd.func51, Tryd.ntmps51
  go_wp2_with fail
  refine H2.out.mono ?_
  rintro e w' ⟨rfl, rfl⟩
  go_wp2_with fail
  go_ret
  exact ⟨rfl, rfl⟩
theorem lines_any (s : List UInt8) (w : World) :
    Calls Tryd.prog 32 #[.string ⟨s.toArray⟩] w fun e w' => e = .returned (.func (.func 50) #[] #[.pointer (some ⟨w.heap.size, 0, none⟩)]) ∧ w' = w.alloc (.cells #[.string ⟨s.toArray⟩] 9) := by
  go_enter Tryd.func32, Tryd.ntmps32
  go_wp2_with fail
  go_ret
  exact ⟨rfl, rfl⟩

set_option maxRecDepth 100000 in
set_option maxHeartbeats 2000000 in
theorem lines_seq (n : Nat) (hn : 3 ≤ n) (A B0 : Nat) (hA : A < B0) (s : List UInt8) (hs : s.length ≤ 1000000) :
    SeqZ Fence.wide n Tryd.prog 50 #[.pointer (some ⟨A, 0, none⟩)] (fun x : Nat × List UInt8 => #[.int .i64 (x.1 : Int), .string ⟨x.2.toArray⟩]) (fun k => B0 ≤ k) (fun W => Boxed W A 9 (.string ⟨s.toArray⟩) ∧ W.heap.size = B0) (num 1 (Lin.pieces s)) := by
  intro l J Jx W hR hJ hJx hY h0
  obtain ⟨b0, hB0⟩ := hR
  have c0 := b0.cell
  have hpl := Lin.pieces_le s
  refine callsIn_of_wp_marks Tryd.func50 rfl trivial ?_ rfl
  simp only [Tryd.ntmps50, List.size_toArray, List.length_cons, List.length_nil, Nat.reduceAdd, Nat.reduceSub, Array.replicate_succ, Array.replicate_zero, List.push_toArray, List.append_toArray, List.nil_append, List.cons_append]
  gi_wp2
  refine ⟨trivial, fun _ => by omega, (callsIn_wide.2 (splitSeq_any s _)).mono ?_⟩
  rintro e w' ⟨rfl, rfl⟩
  gi_wp2
  clear c0
  obtain ⟨W0, hW0⟩ : ∃ V, ((((W.alloc (.cells #[.func (.yield l) #[] #[]] 75)).alloc (.cells #[.int .i64 0] 3)).alloc (.cells #[.string ⟨s.toArray⟩] 9)).alloc (.cells #[.string ⟨#[10]⟩] 9)).alloc (.cells #[.int .i64 0] 3) = V := ⟨_, rfl⟩
  have hsz : W0.heap.size = B0 + 5 := by rw [← hW0]; simp [hB0]
  have hch : Chg (fun k => B0 ≤ k) W W0 := by rw [← hW0]; exact (((((Chg.refl _ W).alloc _).alloc _).alloc _).alloc _).alloc _
  have hby : Boxed W0 B0 75 (.func (.yield l) #[] #[]) := by
    rw [← hW0, ← hB0]; exact ((((Boxed.new W _ _).alloc _).alloc _).alloc _).alloc _
  have hbn : Boxed W0 (B0 + 1) 3 (.int .i64 0) := by
    have := Boxed.new (W.alloc (.cells #[.func (.yield l) #[] #[]] 75)) 3 (.int .i64 0)
    rw [World.size_alloc] at this
    rw [← hW0, ← hB0]; exact ((this.alloc _).alloc _).alloc _
  have hbs : SB (B0 + 1 + 1) s W0 := by
    have h1 := Boxed.new ((W.alloc (.cells #[.func (.yield l) #[] #[]] 75)).alloc (.cells #[.int .i64 0] 3)) 9 (.string ⟨s.toArray⟩)
    have h2 := Boxed.new (((W.alloc (.cells #[.func (.yield l) #[] #[]] 75)).alloc (.cells #[.int .i64 0] 3)).alloc (.cells #[.string ⟨s.toArray⟩] 9)) 9 (.string ⟨#[10]⟩)
    have h3 := Boxed.new ((((W.alloc (.cells #[.func (.yield l) #[] #[]] 75)).alloc (.cells #[.int .i64 0] 3)).alloc (.cells #[.string ⟨s.toArray⟩] 9)).alloc (.cells #[.string ⟨#[10]⟩] 9)) 3 (.int .i64 0)
    simp only [World.size_alloc] at h1 h2 h3
    rw [← hW0, ← hB0]
    exact ⟨(h1.alloc _).alloc _, h2.alloc _, h3⟩
  have hj0 : J [] W0 := hJ _ _ _ h0 hch
  rw [hW0]
  clear hW0 hch h0 b0 hB0
  refine wpIn_rangeFunc_Z rfl (by omega) (gf := 74) (lb := #[.pointer (some ⟨B0 + 1 + 1 + 1, 0, none⟩), .pointer (some ⟨B0 + 1 + 1, 0, none⟩), .pointer (some ⟨B0 + 1 + 1 + 2, 0, none⟩)]) rfl trivial (enters_of Tryd.func74 (by kernel_rfl) rfl)
    (split_seq (n - 1) (by omega) (B0 + 1 + 1) s hs) (fun W1 _ hc => ⟨hc.boxed hbs.1 (by simp), hc.boxed hbs.2.1 (by simp), hc.boxed hbs.2.2 (by simp)⟩) (fun k h1 h2 h3 => by omega) (fun _ => rfl)
    (fun pre W' => Boxed W' B0 75 (.func (.yield l) #[] #[]) ∧ Boxed W' (B0 + 1) 3 (.int .i64 (pre.length : Int)) ∧ J (num 1 pre) W')
    (fun c pre W' => c = .ret ∧ Jx (num 1 pre) W')
    (fun _ X Y h hc => ⟨hc.boxed h.1 (by omega), hc.boxed h.2.1 (by omega), hJ _ _ _ h.2.2 (hc.mono (fun k _ hz => by omega))⟩)
    (fun _ _ X Y h hc => ⟨h.1, hJx _ _ _ h.2 (hc.mono (fun k _ hz => by omega))⟩)
    ⟨hby, hbn, hj0⟩
    (fun x => { tmps := #[.func (.yield l) #[] #[], .pointer (some ⟨A, 0, none⟩), .pointer (some ⟨B0, 0, none⟩), .pointer (some ⟨B0 + 1, 0, none⟩), .string ⟨x.toArray⟩, .string ⟨s.toArray⟩, .func (.func 74) #[] #[.pointer (some ⟨B0 + 1 + 1 + 1, 0, none⟩), .pointer (some ⟨B0 + 1 + 1, 0, none⟩), .pointer (some ⟨B0 + 1 + 1 + 2, 0, none⟩)], .string ⟨x.toArray⟩, undef, undef, undef, undef, undef, undef, undef], defers := [] }) ?assign ?body ?done ?stop
  case assign =>
    intro l' x W' K hK
    gi_wp2
    exact hK
  case body =>
    rintro l' pre x post W1 hs1 ⟨hy1, hn1, hj1⟩ hx
    have hlen : pre.length + 1 ≤ (Lin.pieces s).length := by rw [hx, List.length_append, List.length_cons]; omega
    have hxn : num 1 (Lin.pieces s) = num 1 pre ++ (pre.length + 1, x) :: num (pre.length + 1 + 1) post := by rw [hx, num_append, num, Nat.add_comm 1 pre.length]
    have hb1 : (pre.length : Int) + 1 ≤ 1000001 := by omega
    have e0 := hy1.cell
    have e1 := hn1.cell
    have f1 := hn1.frozen
    have hj2 := hJ _ _ _ hj1 ((Chg.refl (fun k => B0 ≤ k) W1).setCell ⟨B0 + 1, 0, none⟩ (.int .i64 ((pre.length : Int) + 1)) (.inl (by simp)))
    have HBy : Hid (Boxed (W1.setCell ⟨B0 + 1, 0, none⟩ (.int .i64 ((pre.length : Int) + 1))) B0 75 (.func (.yield l) #[] #[])) := Lib.hid (hy1.other (by omega) _)
    have HBn : Hid (Boxed (W1.setCell ⟨B0 + 1, 0, none⟩ (.int .i64 ((pre.length : Int) + 1))) (B0 + 1) 3 (.int .i64 ((pre.length : Int) + 1))) := Lib.hid (box_set hn1 _)
    have e2 := HBy.out.cell
    have e3 := HBn.out.cell
    obtain ⟨fn, tmps, assign, body, hyy, hR⟩ := hY _ _ _ _ hj2 hxn
    dsimp only at hyy
    rw [Int.natCast_add, Int.natCast_one] at hyy
    have HR := Lib.hid (round_any (m' := n - 1 - 1 - 1) hR)
    have HC : Hid (Chg (fun k => ¬((B0 + 1 + 1 ≤ k ∧ k ≤ B0 + 1 + 1 + 2) ∨ W0.heap.size ≤ k)) W1 (W1.setCell ⟨B0 + 1, 0, none⟩ (.int .i64 ((pre.length : Int) + 1)))) := Lib.hid ((Chg.refl _ W1).setCell _ _ (.inl (by simp; omega)))
    have HX := Lib.hid hxn
    clear hR hj1 hj2 hxn hx hlen hy1 hn1 hY
    gi_wp2
    refine ⟨fun _ => by omega, (round_in HR.out).mono ?_⟩
    rintro e W3 (⟨rfl, hJ3, hk⟩ | ⟨rfl, hJx3, hk⟩)
    · have HE : Hid (Chg (fun k => ¬((B0 + 1 + 1 ≤ k ∧ k ≤ B0 + 1 + 1 + 2) ∨ W0.heap.size ≤ k)) W1 W3 ∧ Boxed W3 B0 75 (.func (.yield l) #[] #[]) ∧ Boxed W3 (B0 + 1) 3 (.int .i64 ((pre ++ [x]).length : Int)) ∧ J (num 1 (pre ++ [x])) W3) := Lib.hid ⟨HC.out.trans (hk.mono (fun k _ h => by omega)), hk.boxed HBy.out (by simp), by rw [List.length_append, List.length_singleton, Int.natCast_add]; exact hk.boxed HBn.out (by simp), by rw [num_append, num, num, Nat.add_comm 1 pre.length]; exact hJ3⟩
      clear hJ3 hk
      gi_wp2
      exact HE.out
    · have HE : Hid (Chg (fun k => ¬((B0 + 1 + 1 ≤ k ∧ k ≤ B0 + 1 + 1 + 2) ∨ W0.heap.size ≤ k)) W1 W3 ∧ Code.ret = Code.ret ∧ Jx (num 1 (pre ++ [x])) W3) := Lib.hid ⟨HC.out.trans (hk.mono (fun k _ h => by omega)), rfl, by rw [num_append, num, num, Nat.add_comm 1 pre.length]; exact hJx3⟩
      clear hJx3 hk
      gi_wp2
      exact ⟨HE.out.1, rfl, HE.out.2.2⟩
  case done =>
    rintro D W2 hD ⟨_, _, hj⟩ hK
    gi_wp2
    refine ⟨by simp, .inl ⟨_, _, rfl, run_takeDeferred hK, ?_⟩⟩
    exact ⟨_, results_none rfl _ _ _, ⟨_, rfl⟩, .inl (hJ _ _ _ hj ((Chg.refl _ _).putObj _ _ (.inl (by omega))))⟩
  case stop =>
    rintro D c pre W2 hD hpre ⟨rfl, hj⟩ hK
    gi_wp2
    refine ⟨by simp, .inl ⟨_, _, rfl, run_takeDeferred hK, ?_⟩⟩
    refine ⟨_, results_none rfl _ _ _, ⟨_, rfl⟩, .inr ⟨_, ?_, hJx _ _ _ hj ((Chg.refl _ _).putObj _ _ (.inl (by omega)))⟩⟩
    obtain ⟨post, hpost⟩ := hpre
    exact ⟨num (1 + pre.length) post, by rw [← hpost, num_append]⟩
end Go.Proofs.YtmoeglecdojhcaaDoor

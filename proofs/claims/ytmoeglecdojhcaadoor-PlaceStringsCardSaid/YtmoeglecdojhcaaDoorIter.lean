/-
  OF NO PROGRAM: a range over a function whose iterator keeps its state in cells: the iterator owns the blocks Z, turns these and new ones alone; a round leaves the blocks of Z as they lay.
-/
import Derived.RangeFuncNested
import Derived.RangeFuncBound
import Derived.RangeFuncCalls
import Derived.RangeFuncLeaves
import Derived.Shelf.Abstract
import Derived.WalkKit
import Derived.OwnWalkIn
import Derived.TacticsInMore
import Derived.LoopNIn
import Derived.LoopIn
import Derived.Test.YtmoeglecdojhcaaDoorGen2
namespace Go.Proofs.YtmoeglecdojhcaaDoor
open Go.ChangeShapes Go.WideShapes Go.ChangeAt Go.RowKit

/-- New blocks, and turns of blocks in Z. -/
structure Chg (Z : Nat → Prop) (A B : World) : Prop where
  os : B.os = A.os
  tape : B.tape = A.tape
  output : B.output = A.output
  size : A.heap.size ≤ B.heap.size
  same : ∀ k, k < A.heap.size → ¬ Z k → B.heap[k]? = A.heap[k]?
theorem Chg.refl (Z : Nat → Prop) (A : World) : Chg Z A A := ⟨rfl, rfl, rfl, Nat.le_refl _, fun _ _ _ => rfl⟩
theorem Chg.trans {Z : Nat → Prop} {A B C : World} (h : Chg Z A B) (k : Chg Z B C) : Chg Z A C :=
  ⟨k.os.trans h.os, k.tape.trans h.tape, k.output.trans h.output, Nat.le_trans h.size k.size, fun i hi hz => (k.same i (Nat.lt_of_lt_of_le hi h.size) hz).trans (h.same i hi hz)⟩
theorem Chg.mono {Z Z' : Nat → Prop} {A B : World} (h : Chg Z A B) (hz : ∀ k, k < A.heap.size → Z k → Z' k) : Chg Z' A B := ⟨h.os, h.tape, h.output, h.size, fun k hk hn => h.same k hk (fun e => hn (hz k hk e))⟩
theorem Chg.alloc {Z : Nat → Prop} {A B : World} (h : Chg Z A B) (o : Obj) : Chg Z A (B.alloc o) :=
  ⟨h.os, h.tape, h.output, by rw [World.size_alloc]; have := h.size; omega, fun k hk hz => (Below.heap_alloc B o k (Nat.lt_of_lt_of_le hk h.size)).trans (h.same k hk hz)⟩
theorem Chg.putObj {Z : Nat → Prop} {A B : World} (h : Chg Z A B) (r : Nat) (o : Obj) (hr : Z r ∨ A.heap.size ≤ r) : Chg Z A (B.putObj r o) :=
  ⟨h.os, h.tape, h.output, by rw [World.putObj_size]; exact h.size, fun k hk hz => (World.putObj_heap_other (fun e => by subst e; rcases hr with hr | hr; exact hz hr; omega)).trans (h.same k hk hz)⟩
theorem Chg.setCell {Z : Nat → Prop} {A B : World} (h : Chg Z A B) (a : Addr) (v : Value) (hr : Z a.block ∨ A.heap.size ≤ a.block) : Chg Z A (B.setCell a v) :=
  ⟨h.os, h.tape, h.output, by show A.heap.size ≤ (B.heap.modify _ _).size; rw [Array.size_modify]; exact h.size, fun k hk hz => (Below.heap_setCell B a v k (fun e => by subst e; rcases hr with hr | hr; exact hz hr; omega)).trans (h.same k hk hz)⟩
theorem Chg.drew {Z : Nat → Prop} {A B : World} (h : Chg Z A B) : Chg Z A B.drew := ⟨h.os, h.tape, h.output, h.size, h.same⟩
theorem Chg.of_below {Z : Nat → Prop} {A B : World} {n : Nat} (h : Below n A B) (hz : ∀ k, n ≤ k → k < A.heap.size → Z k) : Chg Z A B :=
  ⟨h.os, h.tape, h.output, h.size, fun k hk hn => h.block k (Nat.lt_of_not_le (fun hle => hn (hz k hle hk)))⟩
theorem Chg.below {Z : Nat → Prop} {A B : World} {n : Nat} (h : Chg Z A B) (hn : n ≤ A.heap.size) (hz : ∀ k, k < n → ¬ Z k) : Below n A B :=
  ⟨h.os, h.tape, h.output, h.size, fun k hk => h.same k (by omega) (hz k hk)⟩
theorem Chg.boxed {Z : Nat → Prop} {A B : World} (h : Chg Z A B) {k : Nat} {t : TypeId} {v : Value} (hb : Boxed A k t v) (hz : ¬ Z k) : Boxed B k t v := (h.same k hb.lt hz).trans hb

/-- The iterator's contract: its territory is Z; R0 is what it asks of the world in which it is called. -/
def SeqZ {α : Type} (F : Fence) (n : Nat) (P : Program) (g : Nat) (lb : Array Value) (encs : α → Array Value) (Z : Nat → Prop) (R0 : World → Prop) (xs : List α) : Prop :=
  ∀ (l : Nat) (J Jx : List α → World → Prop) (W : World), R0 W → (∀ s A B, J s A → Chg Z A B → J s B) → (∀ s A B, Jx s A → Chg Z A B → Jx s B) →
    (∀ pre x post W1, J pre W1 → xs = pre ++ x :: post → YieldAt F (n - 1) P l (encs x) W1 fun e W' =>
      (e = .returned (.bool true) ∧ J (pre ++ [x]) W' ∧ Chg (fun k => ¬ Z k) W1 W') ∨ (e = .returned (.bool false) ∧ Jx (pre ++ [x]) W' ∧ Chg (fun k => ¬ Z k) W1 W')) →
    J [] W →
    CallsIn F n P g (#[.func (.yield l) #[] #[]] ++ lb) W fun e W' => (∃ v, e = .returned v) ∧ (J xs W' ∨ (∃ pre, pre <+: xs ∧ Jx pre W'))

/-- How a round's body may be left: the blocks of Z and those laid since the loop began (B) lie as they lay. -/
def postZ {α : Type} (Z : Nat → Prop) (B : Nat) (I : List α → World → Prop) (Ix : Code → List α → World → Prop) (xs : List α) (W : World) : Exit → Act → World → Prop
  | .normal, _, W' => Chg (fun k => ¬ (Z k ∨ B ≤ k)) W W' ∧ I xs W'
  | .ret, _, W' => Chg (fun k => ¬ (Z k ∨ B ≤ k)) W W' ∧ Ix .ret xs W'
  | .exit id, _, W' => Chg (fun k => ¬ (Z k ∨ B ≤ k)) W W' ∧ Ix (.exit id) xs W'
  | .goto t, _, W' => Chg (fun k => ¬ (Z k ∨ B ≤ k)) W W' ∧ Ix (.goto t) xs W'
  | .panic _, _, _ => False
  | .outgrown, _, _ => False

variable {F : Fence} {n : Nat} {P : Program}

theorem wpIn_rangeFunc_Z {α : Type} {g : Operand} {ps : Array Tmp} {assign body : Code} {Q : Exit → Act → World → Prop} {a : Act} {w : World}
    (hro : F.round = none) (h1 : 1 ≤ n) {gf : Nat} {lb : Array Value} (hg : a.eval g = .func (.func gf) #[] lb) (hFg : F.fn gf) (eg : ∀ args w, (callFunc gf args).run P w = .ok (.enter gf args) w)
    {encs : α → Array Value} {Z : Nat → Prop} {R0 : World → Prop} {xs : List α} (hseq : SeqZ F (n - 1) P gf lb encs Z R0 xs)
    (hR0 : ∀ W, W.heap.size = w.heap.size + 2 → Chg (fun _ => False) w W → R0 W) (hZ : ∀ k, w.heap.size ≤ k → k < w.heap.size + 2 → ¬ Z k) (hps : ∀ x, (encs x).size = ps.size)
    (I : List α → World → Prop) (Ix : Code → List α → World → Prop) (hI : ∀ s A B, I s A → Chg (fun k => Z k ∨ w.heap.size ≤ k) A B → I s B) (hIx : ∀ c s A B, Ix c s A → Chg (fun k => Z k ∨ w.heap.size ≤ k) A B → Ix c s B) (h0 : I [] w) (a₁ : α → Act)
    (hassign : ∀ (l : Nat) (x : α) (W : World) (K : Act → World → Prop), K (a₁ x) W →
      assign.wpIn (F.inRound l) (n - 1 - 1) P (Exit.then K (fun _ _ _ => False)) { tmps := (ps.zip (encs x)).foldl (fun t (p, v) => t.setIfInBounds p v) a.tmps, defers := [] } W)
    (hbody : ∀ (l : Nat) (pre : List α) (x : α) (post : List α) (W : World), w.heap.size + 2 ≤ W.heap.size → I pre W → xs = pre ++ x :: post → body.wpIn (F.inRound l) (n - 1 - 1) P (postZ Z w.heap.size I Ix (pre ++ [x]) W) (a₁ x) W)
    (hdone : ∀ (D : Nat) (W : World), w.heap.size ≤ D → I xs W → W.heap[D]? = some (.deferred (some [])) → Q .normal { a with defers := { target := .collected D, args := #[] } :: a.defers } W)
    (hstop : ∀ (D : Nat) (c : Code) (pre : List α) (W : World), w.heap.size ≤ D → pre <+: xs → Ix c pre W → W.heap[D]? = some (.deferred (some [])) → c.wpIn F n P Q { a with defers := { target := .collected D, args := #[] } :: a.defers } W) :
    (Code.rangeFunc g ps assign body).wpIn F n P Q a w := by
  refine wpIn_rangeFunc ?_
  intro fn hfn
  rw [hro]
  obtain ⟨rec, hrec⟩ : ∃ rec : LoopState → Option Code → Loop, rec = fun st pe => { state := st, pending := pe, fn, tmps := a.tmps, params := ps, assign, body, defers := w.heap.size } := ⟨_, rfl⟩
  obtain ⟨W1, hW1⟩ : ∃ W1, (w.alloc (.deferred (some []))).alloc (.loop (rec .ready none)) = W1 := ⟨_, rfl⟩
  have hs1 : W1.heap.size = w.heap.size + 2 := by rw [← hW1]; simp
  have hk1 : Chg (fun _ => False) w W1 := by
    rw [← hW1]
    exact ((Chg.refl _ w).alloc _).alloc _
  have hL1 : W1.heap[w.heap.size + 1]? = some (.loop (rec .ready none)) := by
    rw [← hW1]; have := World.alloc_heap_new (w.alloc (.deferred (some []))) (.loop (rec .ready none)); rwa [World.size_alloc] at this
  have hK1 : W1.heap[w.heap.size]? = some (.deferred (some [])) := by
    rw [← hW1]; exact (Below.heap_alloc _ _ _ (by simp)).trans (World.alloc_heap_new w _)
  have hI1 : I [] W1 := hI _ _ _ h0 (hk1.mono (fun _ _ e => e.elim))
  refine ⟨w.heap.size + 1, [{ target := .collected w.heap.size, args := #[] }], W1, { target := .fn (.func gf) lb, args := #[.func (.yield (w.heap.size + 1)) #[] #[]] }, W1, gf,
    #[.func (.yield (w.heap.size + 1)) #[] #[]] ++ lb, W1, ?_, ?_, ?_, ?_, fun _ => h1, ?_⟩
  · rw [← hW1, hrec]; exact run_enterLoop_outer _ _ _ _ _
  · simp only [resolve, hg]
    simp [go_sem]
  · intro f' hf'; simp [Target.leads] at hf'; subst hf'; exact hFg
  · simp [invoke, go_sem, eg]
  · have hz0 := hZ w.heap.size (Nat.le_refl _) (by omega)
    have hz1 := hZ (w.heap.size + 1) (by omega) (by omega)
    have keep : ∀ {A B : World}, Chg Z A B → ∀ {k : Nat} {o : Obj}, ¬ Z k → A.heap[k]? = some o → B.heap[k]? = some o := fun hc k o hz h => (hc.same k (Array.getElem?_eq_some_iff.1 h).1 hz).trans h
    have wide : ∀ {A B : World}, Chg Z A B → Chg (fun k => Z k ∨ w.heap.size ≤ k) A B := fun hc => hc.mono (fun _ _ => .inl)
    have put : ∀ (A : World) (r : Nat) (o : Obj), w.heap.size ≤ r → Chg (fun k => Z k ∨ w.heap.size ≤ k) A (A.putObj r o) := fun A r o hr => (Chg.refl _ A).putObj r o (.inl (.inr hr))
    refine (hseq (w.heap.size + 1)
      (fun pre W => I pre W ∧ W.heap[w.heap.size + 1]? = some (.loop (rec .ready none)) ∧ W.heap[w.heap.size]? = some (.deferred (some [])))
      (fun pre W => ∃ c, Ix c pre W ∧ W.heap[w.heap.size + 1]? = some (.loop (rec .done (some c))) ∧ W.heap[w.heap.size]? = some (.deferred (some [])))
      W1 (hR0 W1 hs1 hk1)
      (fun s A B hs hc => ⟨hI s A B hs.1 (wide hc), keep hc hz1 hs.2.1, keep hc hz0 hs.2.2⟩)
      (fun s A B hs hc => by
        obtain ⟨c, hcc, hl, hk⟩ := hs
        exact ⟨c, hIx c s A B hcc (wide hc), keep hc hz1 hl, keep hc hz0 hk⟩)
      ?_ ⟨hI1, hL1, hK1⟩).mono ?_
    · -- ONE ROUND
      rintro pre x post W ⟨hi, hl, hk⟩ hlen
      have hlt : w.heap.size + 1 < W.heap.size := (Array.getElem?_eq_some_iff.1 hl).1
      have hy := run_yield (P := P) (args := encs x) hl (by rw [hrec]; exact hps x)
      rw [hrec] at hy
      refine ⟨fn, _, assign, body, hy, roundIn_of_wpIn hfn (hassign _ x W _ ⟨_, run_beginRound hl (by rw [hrec]), ?_⟩)⟩
      have hl2 : (W.putObj (w.heap.size + 1) (.loop { rec .ready none with state := .busy })).heap[w.heap.size + 1]? = some (.loop { rec .ready none with state := .busy }) := World.putObj_heap_same hlt
      have hk2 : (W.putObj (w.heap.size + 1) (.loop { rec .ready none with state := .busy })).heap[w.heap.size]? = some (.deferred (some [])) := (World.putObj_heap_other (by omega)).trans hk
      refine wpIn_mono (hbody _ pre x post _ (by rw [World.putObj_size]; omega) (hI _ _ _ hi (put _ _ _ (by omega))) hlen) ?_
      have hw2 : Chg (fun k => ¬ Z k) W (W.putObj (w.heap.size + 1) (.loop { rec .ready none with state := .busy })) := (Chg.refl _ W).putObj _ _ (.inl hz1)
      have fin : ∀ (jump : Option Code) (W3 : World), Chg (fun k => ¬ (Z k ∨ w.heap.size ≤ k)) (W.putObj (w.heap.size + 1) (.loop { rec .ready none with state := .busy })) W3 →
          (Instr.endRound (w.heap.size + 1) jump).run P W3 = .ok (.bool jump.isNone) (W3.putObj (w.heap.size + 1) (.loop (rec (if jump.isNone then .ready else .done) jump))) ∧
          W3.heap[w.heap.size + 1]? = some (.loop { rec .ready none with state := .busy }) ∧
          (W3.putObj (w.heap.size + 1) (.loop (rec (if jump.isNone then .ready else .done) jump))).heap[w.heap.size + 1]? = some (.loop (rec (if jump.isNone then .ready else .done) jump)) ∧
          (W3.putObj (w.heap.size + 1) (.loop (rec (if jump.isNone then .ready else .done) jump))).heap[w.heap.size]? = some (.deferred (some [])) ∧
          Chg (fun k => ¬ Z k) W (W3.putObj (w.heap.size + 1) (.loop (rec (if jump.isNone then .ready else .done) jump))) := fun jump W3 hk3 => by
        have hl3 := (hk3.same (w.heap.size + 1) (by rw [World.putObj_size]; omega) (by simp)).trans hl2
        have hd3 := (hk3.same w.heap.size (by rw [World.putObj_size]; omega) (by simp)).trans hk2
        have := run_endRound (P := P) jump hl3
        rw [hrec] at this ⊢
        exact ⟨this, by rw [hrec] at hl3; exact hl3, World.putObj_heap_same (Array.getElem?_eq_some_iff.1 hl3).1, (World.putObj_heap_other (by omega)).trans hd3,
          ((by rw [hrec] at hw2; exact hw2 : Chg (fun k => ¬ Z k) W _).trans (by rw [hrec] at hk3; exact hk3.mono (fun k _ h hz => h (.inl hz)))).putObj _ _ (.inl hz1)⟩
      rintro e a3 W3 hp
      cases e with
      | normal =>
        obtain ⟨hk3, hi3⟩ := hp
        obtain ⟨hr, hl3, hl4, hk4, hc4⟩ := fin none W3 hk3
        exact ⟨_, _, hr, .inl ⟨rfl, ⟨hI _ _ _ hi3 (put _ _ _ (by omega)), hl4, hk4⟩, hc4⟩⟩
      | ret =>
        obtain ⟨hk3, hi3⟩ := hp
        obtain ⟨hr, hl3, hl4, hk4, hc4⟩ := fin (some .ret) W3 hk3
        exact ⟨_, _, hr, .inr ⟨rfl, ⟨.ret, hIx _ _ _ _ hi3 (put _ _ _ (by omega)), hl4, hk4⟩, hc4⟩⟩
      | exit id =>
        obtain ⟨hk3, hi3⟩ := hp
        obtain ⟨hr, hl3, hl4, hk4, hc4⟩ := fin (some (.exit id)) W3 hk3
        exact ⟨_, _, hr, .inr ⟨rfl, ⟨.exit id, hIx _ _ _ _ hi3 (put _ _ _ (by omega)), hl4, hk4⟩, hc4⟩⟩
      | goto t =>
        obtain ⟨hk3, hi3⟩ := hp
        obtain ⟨hr, hl3, hl4, hk4, hc4⟩ := fin (some (.goto t)) W3 hk3
        exact ⟨_, _, hr, .inr ⟨rfl, ⟨.goto t, hIx _ _ _ _ hi3 (put _ _ _ (by omega)), hl4, hk4⟩, hc4⟩⟩
      | panic ch => exact hp.elim
      | outgrown => exact hp.elim
    · -- BEHIND THE ITERATOR
      rintro e W2 ⟨⟨v, rfl⟩, (⟨hi, hl, hk⟩ | ⟨pre, hSp, c, hi, hl, hk⟩)⟩
      · exact ⟨none, _, by have := run_endLoop (P := P) hl (by rw [hrec]; simp); rw [hrec] at this; exact this, hdone _ _ (Nat.le_refl _) (hI _ _ _ hi (put _ _ _ (by omega))) ((World.putObj_heap_other (by omega)).trans hk)⟩
      · exact ⟨some c, _, by have := run_endLoop (P := P) hl (by rw [hrec]; simp); rw [hrec] at this; exact this, hstop _ c pre _ (Nat.le_refl _) hSp (hIx c _ _ _ hi (put _ _ _ (by omega))) ((World.putObj_heap_other (by omega)).trans hk)⟩

end Go.Proofs.YtmoeglecdojhcaaDoor

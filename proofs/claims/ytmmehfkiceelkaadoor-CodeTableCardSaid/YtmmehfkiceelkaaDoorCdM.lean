/-
  LAYER 23, THE LAWS' HELPERS: a map of slices that a call lays, ranged over; operands beyond the limits.
-/
import Derived.Test.YtmmehfkiceelkaaDoorCdO
import Derived.Maps.RangeWalk
namespace Go.Proofs.YtmmehfkiceelkaaDoor
open Go.ChangeShapes Go.WideShapes Go.ChangeAt Go.RowKit Go.Shelf Go.Maps

/-- 'm[k] = v' of a map literal, at the operation. -/
theorem wpList_insert_own {H : Type} {P : Program} (w : World) {ops : Array Oper} {rest : List Oper} {o : Oper} {a : Act} {Q : Exit → Act → World → Prop}
    (hg : o.guard = none) (m x v : Operand) (t : TypeId) (hop : o.op = Op.insert t m x v)
    (k e : TypeId) (K : Keyed P k) (ht : P.underlying t = some (.map k e)) (R : Value → Option (DataW H × List MemPlace)) (b n : Nat) (D : DataW H)
    (hm : a.eval m = .map (some b)) (hown : w.ownsMap P k R b n D) (hn : n < maxLen) (key val : Value) (kl : Lit) (hx : a.eval x = key) (hv : a.eval v = val) (hkey : keyOf P k key = some kl)
    (d : DataW H) (ps : List MemPlace) (hval : R val = some (d, ps))
    (hK : ∀ w', w'.ownsMap P k R b (n + 1) (D.put kl d) → w.grownBy w' (some b) → wpList P ops Q rest (a.put o.dst undef) w') :
    wpList P ops Q (o :: rest) a w := by
  refine wpList_plain hg fun K' hK' => ?_
  obtain ⟨w', hrun, r1, r2⟩ := hown.update K ht hn hkey hval
  unfold Oper.wp
  simp [execOp, hop, hm, hx, hv, hrun, Result.andThen]
  exact hK' _ _ (hK w' r1 r2)

/-- A slice of two, by its block. -/
def sliceR (v : Value) : Option (DataW Unit × List MemPlace) := match v with
  | .slice (some ⟨g, 0, none⟩) 2 2 => some (.lit (.int .i64 g), [])
  | _ => none
theorem sliceR_mk (g : Nat) : sliceR (.slice (some ⟨g, 0, none⟩) 2 2) = some (.lit (.int .i64 g), []) := rfl
theorem sliceR_inv {v : Value} {y : DataW Unit × List MemPlace} (h : sliceR v = some y) : ∃ g : Nat, v = .slice (some ⟨g, 0, none⟩) 2 2 ∧ y.1 = .lit (.int .i64 (g : Int)) := by
  unfold sliceR at h
  split at h
  · cases h; exact ⟨_, rfl, rfl⟩
  · cases h
theorem keyLaw : Keyed Tryd.prog 3 := int_keyed Tryd.underlying3
/-- A map of such slices. -/
def Dm (ps : List (Int × Nat)) : DataW Unit := ps.foldl (fun D p => D.put (.int .i64 p.1) (.lit (.int .i64 (p.2 : Int)))) (.map [])
theorem Dm_snoc (ps : List (Int × Nat)) (p : Int × Nat) : Dm (ps ++ [p]) = (Dm ps).put (.int .i64 p.1) (.lit (.int .i64 (p.2 : Int))) := by
  unfold Dm
  rw [List.foldl_append]
  rfl
theorem fold_isMap : ∀ (ps : List (Int × Nat)) (D : DataW Unit), IsMap D → IsMap (ps.foldl (fun D p => D.put (.int .i64 p.1) (.lit (.int .i64 (p.2 : Int)))) D)
  | [], _, h => h
  | _ :: ps, _, h => fold_isMap ps _ (h.put _ _)
theorem Dm_isMap (ps : List (Int × Nat)) : IsMap (Dm ps) := fold_isMap ps _ isMap_empty
theorem Dm_at_rev : ∀ (rs : List (Int × Nat)) (x : Int), Maps.has (Dm rs.reverse) (.int .i64 x) = true → ∃ g, (x, g) ∈ rs ∧ ∀ zd, (Dm rs.reverse).atKey (.int .i64 x) zd = .lit (.int .i64 (g : Int))
  | [], x, h => by cases h
  | p :: rs, x, h => by
    rw [List.reverse_cons, Dm_snoc] at h
    by_cases hx : x = p.1
    · subst hx
      exact ⟨p.2, by simp, fun zd => by rw [List.reverse_cons, Dm_snoc]; exact atKey_put_same (Dm_isMap _) (by exact trivial) _ _⟩
    · have hne : (Lit.int .i64 x) ≠ .int .i64 p.1 := fun e => hx (by cases e; rfl)
      rw [has_put_other hne] at h
      obtain ⟨g, hg, hat⟩ := Dm_at_rev rs x h
      exact ⟨g, by simp [hg], fun zd => by rw [List.reverse_cons, Dm_snoc, atKey_put_other hne]; exact hat zd⟩
/-- What the map holds at a key that is there. -/
theorem Dm_at (ps : List (Int × Nat)) (x : Int) (h : Maps.has (Dm ps) (.int .i64 x) = true) : ∃ g, (x, g) ∈ ps ∧ ∀ zd, (Dm ps).atKey (.int .i64 x) zd = .lit (.int .i64 (g : Int)) := by
  obtain ⟨g, hg, hat⟩ := Dm_at_rev ps.reverse x (by rw [List.reverse_reverse]; exact h)
  rw [List.reverse_reverse] at hat
  exact ⟨g, List.mem_reverse.1 hg, hat⟩

/-- Operands beyond the limits. -/
def loF (m k : Int) : Int := if k = 4 then 13 - m else if k = 5 ∨ k = 13 then -m else -1 - m
def hiF (m k : Int) : Int := if k = 4 then 16 + m else if k = 5 then 12 + m else if k = 6 ∨ k = 7 ∨ k = 13 then 3 + m else if k = 11 ∨ k = 12 ∨ k = 15 then 1 + m else if k = 14 then 4 + m else if k = 16 then 2 + m else 5 + m
theorem beyond {m k : Int} (m0 : 0 ≤ m) (h1 : 2 ≤ k) (h2 : k ≤ 17) : Cd.right k (loF m k) 3 5 4 = false ∧ Cd.right k (hiF m k) 3 5 4 = false := by
  rcases (show k = 2 ∨ k = 3 ∨ k = 4 ∨ k = 5 ∨ k = 6 ∨ k = 7 ∨ k = 8 ∨ k = 9 ∨ k = 10 ∨ k = 11 ∨ k = 12 ∨ k = 13 ∨ k = 14 ∨ k = 15 ∨ k = 16 ∨ k = 17 by omega) with rfl | rfl | rfl | rfl | rfl | rfl | rfl | rfl | rfl | rfl | rfl | rfl | rfl | rfl | rfl | rfl
  all_goals
    unfold Cd.right loF hiF
    constructor <;> simp <;> omega

/-- The map under way: its slices' blocks. -/
def MP (w : World) (op : Int) (B : Nat) (m : Int) (ps : List (Int × Nat)) (W : World) : Prop :=
  (Good w ∧ IB w op 0 W) ∧ w.heap.size < B ∧ W.ownsMap Tryd.prog 3 sliceR B ps.length (Dm ps) ∧ ∀ p ∈ ps, (2 ≤ p.1 ∧ p.1 ≤ 17) ∧ p.2 ≠ B ∧ Blk W p.2 2 #[.int .i64 (loF m p.1), .int .i64 (hiF m p.1)]
theorem below_grown_none {w w' : World} (hb : Below w.heap.size w w') : w.grownBy w' none := ⟨hb.os, hb.tape, hb.output, hb.size, fun i hi _ => hb.block i hi⟩
section
variable {w W W' : World} {op m : Int} {B : Nat} {ps : List (Int × Nat)}
theorem MP.start (hG : Hid (Good w)) (h : Hid (IB w op 0 W)) : Hid (MP w op W.heap.size m [] (W.alloc (.map #[] 0))) := Lib.hid ⟨⟨hG.out, (IB.alloc h _).out⟩, h.out.2.2.lt, World.ownsMap_made _ _ _ _, fun p hp => by cases hp⟩
theorem MP.own (h : Hid (MP w op B m ps W)) : W.ownsMap Tryd.prog 3 sliceR B ps.length (Dm ps) := h.out.2.2.1
theorem MP.step {n : Nat} (h : Hid (MP w op B m ps W)) (hl : ps.length = n) {k x y : Int} (hk : 2 ≤ k ∧ k ≤ 17) (hx : x = loF m k) (hy : y = hiF m k) (ho : W'.ownsMap Tryd.prog 3 sliceR B (ps.length + 1) ((Dm ps).put (.int .i64 k) (.lit (.int .i64 (W.heap.size : Int))))) (hg : (W.alloc (.cells #[.int .i64 x, .int .i64 y] 2)).grownBy W' (some B)) :
    ∃ qs, Hid (MP w op B m qs W') ∧ qs.length = n + 1 := ⟨ps ++ [(k, W.heap.size)], Lib.hid (by
  obtain ⟨⟨hG, hi⟩, hlt, hown, hall⟩ := h.out
  have hBW : B < W.heap.size := hown.lt
  have hb : Below w.heap.size w W' := (below_new hi.2.1 _).grown hg (by have := hi.2.1.size; simp; omega) (fun j e => by cases e; omega)
  refine ⟨⟨hG, hG.below hb (Nat.le_refl _), hb, (hi.2.2.alloc _).grown hg (by simp; omega)⟩, hlt, ?_, ?_⟩
  · rw [Dm_snoc, List.length_append]
    exact ho
  · intro p hp
    rcases List.mem_append.1 hp with hp | hp
    · exact ⟨(hall p hp).1, (hall p hp).2.1, ((hall p hp).2.2.alloc _).grown hg (by simp; exact (hall p hp).2.1)⟩
    · obtain rfl := List.mem_singleton.1 hp
      subst hx hy
      exact ⟨hk, by show W.heap.size ≠ B; omega, (Blk.new W _ _).grown hg (by simp; omega)⟩), by rw [List.length_append, hl]; rfl⟩
/-- The range over the map under way. -/
def MR (w : World) (op : Int) (B r : Nat) (m : Int) (ps : List (Int × Nat)) (left : Lit → Bool) (cnt : Nat) (W : World) : Prop :=
  (Good w ∧ IB w op 0 W) ∧ w.heap.size < B ∧ w.heap.size < r ∧ W.ranges Tryd.prog 3 sliceR B r ps.length (Dm ps) left cnt ∧ (∀ kl, left kl = true → Maps.has (Dm ps) kl = true) ∧ ∀ p ∈ ps, (2 ≤ p.1 ∧ p.1 ≤ 17) ∧ p.2 ≠ r ∧ Blk W p.2 2 #[.int .i64 (loF m p.1), .int .i64 (hiF m p.1)]
theorem MR.start (h : Hid (MP w op B m ps W)) (hr : W'.ranges Tryd.prog 3 sliceR B W.heap.size ps.length (Dm ps) (Maps.has (Dm ps)) (Maps.size (Dm ps))) (hg : W.grownBy W' none) : Hid (MR w op B W.heap.size m ps (Maps.has (Dm ps)) (Maps.size (Dm ps)) W') := Lib.hid (by
  obtain ⟨⟨hG, hi⟩, hlt, hown, hall⟩ := h.out
  have hb : Below w.heap.size w W' := hi.2.1.grown hg hi.2.1.size (fun j e => by cases e)
  refine ⟨⟨hG, hG.below hb (Nat.le_refl _), hb, hi.2.2.grown hg (by simp)⟩, hlt, hi.2.2.lt, hr, fun _ h => h, fun p hp => ⟨(hall p hp).1, ?_, (hall p hp).2.2.grown hg (by simp)⟩⟩
  have := (hall p hp).2.2.lt
  omega)
variable {r cnt cnt' : Nat} {left left' : Lit → Bool}
theorem MR.rg (h : Hid (MR w op B r m ps left cnt W)) : W.ranges Tryd.prog 3 sliceR B r ps.length (Dm ps) left cnt := h.out.2.2.2.1
theorem MR.ib (h : Hid (MR w op B r m ps left cnt W)) : Hid (IB w op 0 W) := Lib.hid h.out.1.2
theorem MR.next (h : Hid (MR w op B r m ps left cnt W)) (hr : W'.ranges Tryd.prog 3 sliceR B r ps.length (Dm ps) left' cnt') (hl : ∀ kl, left' kl = true → left kl = true) (hg : W.grownBy W' (some r)) : Hid (MR w op B r m ps left' cnt' W') := Lib.hid (by
  obtain ⟨⟨hG, hi⟩, hlt, hlr, _, hle, hall⟩ := h.out
  have hb : Below w.heap.size w W' := hi.2.1.grown hg hi.2.1.size (fun j e => by cases e; omega)
  exact ⟨⟨hG, hG.below hb (Nat.le_refl _), hb, hi.2.2.grown hg (by simp; omega)⟩, hlt, hlr, hr, fun kl e => hle kl (hl kl e), fun p hp => ⟨(hall p hp).1, (hall p hp).2.1, (hall p hp).2.2.grown hg (by simp; exact (hall p hp).2.1)⟩⟩)
theorem MR.call (h : Hid (MR w op B r m ps left cnt W)) (hb : Below W.heap.size W W') : Hid (MR w op B r m ps left cnt W') := Lib.hid (by
  obtain ⟨⟨hG, hi⟩, hlt, hlr, hr, hle, hall⟩ := h.out
  exact ⟨⟨hG, (IB.call (Lib.hid hi) hb).out⟩, hlt, hlr, hr.kept (below_grown_none hb) (by simp) (by simp), hle, fun p hp => ⟨(hall p hp).1, (hall p hp).2.1, (hall p hp).2.2.call hb⟩⟩)
/-- The entry that has come. -/
theorem MR.at_ (h : Hid (MR w op B r m ps left cnt W)) {x : Int} {g : Nat} {y : DataW Unit × List MemPlace} (hl : left (.int .i64 x) = true) (hy : y.1 = .lit (.int .i64 (g : Int))) (hat : ∀ zd, (Dm ps).atKey (.int .i64 x) zd = y.1) :
    (2 ≤ x ∧ x ≤ 17) ∧ ∀ V, Hid (MR w op B r m ps left' cnt' V) → Blk V g 2 #[.int .i64 (loF m x), .int .i64 (hiF m x)] := by
  obtain ⟨g', hg', hat'⟩ := Dm_at ps x (h.out.2.2.2.2.1 _ hl)
  have e := (hat (.map [])).symm.trans (hat' (.map []))
  rw [hy] at e
  have eg : g = g' := by
    have e1 : ((g : Int)) = (g' : Int) := by cases e; rfl
    omega
  subst eg
  exact ⟨(h.out.2.2.2.2.2 _ hg').1, fun V hV => (hV.out.2.2.2.2.2 _ hg').2.2⟩
theorem one3_any (op a : Int) (w : World) : Calls Tryd.prog 23 #[iV op a, .int .i64 3, .int .i64 5, .int .i64 4] w fun e w' => e = .returned (.bool (Cd.right op a 3 5 4)) ∧ Below w.heap.size w w' :=
  one_any op a 3 5 4 (by decide) (by decide) (by decide) (by decide) w
end
end Go.Proofs.YtmmehfkiceelkaaDoor

/-
  LAYER 1: places to offsets; lines.
-/
import Derived.Test.YtmoeglecdojhcaaDoorPl7
import Derived.Laws.ResultCell
namespace Go.Proofs.YtmoeglecdojhcaaDoor
open Go.ChangeShapes Go.WideShapes Go.ChangeAt Go.RowKit Go.Shelf
attribute [local go_sem] Oper.semAt_some

/-- What Line answers. -/
def liS (s : List UInt8) (n : Int) : List UInt8 := (Pl.line s n).getD []
def liE (s : List UInt8) (n : Int) : Int := if (Pl.line s n).isSome then 0 else 3
/-- What Offset answers. -/
def ofsV (s : List UInt8) (l c : Int) : Int := (((Pl.off s l c).getD 0 : Nat) : Int)
def ofsE (s : List UInt8) (l c : Int) : Int := if (Pl.off s l c).isSome then 0 else 3

theorem linC_num : ∀ (pre : List (List UInt8)) (x : List UInt8) (post : List (List UInt8)) (L : Nat) (n : Int), (∀ y ∈ num L pre, (y.1 : Int) ≠ n) → ((L + pre.length : Nat) : Int) = n → Pl.linC (pre ++ x :: post) L n = some x
  | [], x, post, L, n, _, h => by rw [List.nil_append, Pl.linC, if_pos (by simpa using h)]
  | p :: pre, x, post, L, n, h0, h => by
    rw [List.cons_append, Pl.linC, if_neg (h0 (L, p) (by rw [num]; simp))]
    exact linC_num pre x post (L + 1) n (fun y hy => h0 y (by rw [num]; simp [hy])) (by rw [← h, List.length_cons]; push_cast; omega)
theorem linC_none : ∀ (ps : List (List UInt8)) (L : Nat) (n : Int), (∀ y ∈ num L ps, (y.1 : Int) ≠ n) → Pl.linC ps L n = none
  | [], _, _, _ => rfl
  | p :: ps, L, n, h => by
    rw [Pl.linC, if_neg (h (L, p) (by rw [num]; simp))]
    exact linC_none ps (L + 1) n fun y hy => h y (by rw [num]; simp [hy])
theorem num_snoc_inv {ps : List (List UInt8)} {pre : List (Nat × List UInt8)} {x : Nat × List UInt8} {post : List (Nat × List UInt8)} {L : Nat} (h : num L ps = pre ++ x :: post) : ∃ qs rs, ps = qs ++ x.2 :: rs ∧ pre = num L qs ∧ x.1 = L + qs.length ∧ post = num (L + qs.length + 1) rs := by
  induction ps generalizing pre L with
  | nil => cases pre <;> cases h
  | cons p ps ih =>
    cases pre with
    | nil =>
      rw [num, List.nil_append] at h
      injection h with h1 h2
      subst h1
      exact ⟨[], ps, rfl, rfl, rfl, h2.symm⟩
    | cons y pre =>
      rw [num, List.cons_append] at h
      injection h with h1 h2
      obtain ⟨qs, rs, e1, e2, e3, e4⟩ := ih h2
      subst h1
      exact ⟨p :: qs, rs, by rw [e1]; rfl, by rw [num, e2], by rw [e3, List.length_cons]; omega, by rw [e4, List.length_cons, show L + 1 + qs.length + 1 = L + (qs.length + 1) + 1 by omega]⟩

theorem bput {W : World} {B D : Nat} {t : TypeId} {v : Value} (h : Boxed W B t v) (hne : B ≠ D) (o : Obj) : Boxed (W.putObj D o) B t v := (World.putObj_heap_other hne).trans h
theorem below_put {n D : Nat} {w W : World} (h : Below n w W) (hD : n ≤ D) (o : Obj) : Below n w (W.putObj D o) := ⟨h.os, h.tape, h.output, by rw [World.putObj_size]; exact h.size, fun k hk => (World.putObj_heap_other (by omega)).trans (h.block k hk)⟩
set_option maxRecDepth 100000 in
set_option maxHeartbeats 2000000 in
theorem line_any (s : List UInt8) (hs : s.length ≤ 1000000) (k : Int) (w : World) (hG : Good w) :
    Calls Tryd.prog 16 #[.string ⟨s.toArray⟩, .int .i64 k] w fun e w' => e = .returned (.tuple #[.string ⟨(liS s k).toArray⟩, .int .i64 (liE s k)]) ∧ Below w.heap.size w w' := by
  refine (callsIn_wide (n := 9)).1 ?_
  have hg := hG.sz
  clear hG
  refine callsIn_of_wp_marks Tryd.func16 rfl trivial ?_ rfl
  simp only [Tryd.ntmps16, List.size_toArray, List.length_cons, List.length_nil, Nat.reduceAdd, Nat.reduceSub, Array.replicate_succ, Array.replicate_zero, List.push_toArray, List.append_toArray, List.nil_append, List.cons_append]
  gi_wp2
  refine ⟨trivial, (callsIn_wide.2 (lines_any s _)).mono ?_⟩
  rintro e w' ⟨rfl, rfl⟩
  gi_wp2
  obtain ⟨W0, hW0⟩ : ∃ V, (((w.alloc (.cells #[.int .i64 k] 3)).alloc (.cells #[.string ⟨#[]⟩] 9)).alloc (.cells #[.int .i64 0] 25)).alloc (.cells #[.string ⟨s.toArray⟩] 9) = V := ⟨_, rfl⟩
  have hB : Below w.heap.size w W0 := by rw [← hW0]; exact below_new (below_new (below_new (below_new (Below.refl _ _) _) _) _) _
  obtain ⟨G, hG⟩ : ∃ m, w.heap.size = m := ⟨_, rfl⟩
  have hsz : W0.heap.size = G + 4 := by rw [← hW0]; simp [hG]
  have h1 := Boxed.new w 3 (.int .i64 k)
  have h2 := Boxed.new (w.alloc (.cells #[.int .i64 k] 3)) 9 (.string ⟨#[]⟩)
  have h3 := Boxed.new ((w.alloc (.cells #[.int .i64 k] 3)).alloc (.cells #[.string ⟨#[]⟩] 9)) 25 (.int .i64 0)
  have h4 := Boxed.new (((w.alloc (.cells #[.int .i64 k] 3)).alloc (.cells #[.string ⟨#[]⟩] 9)).alloc (.cells #[.int .i64 0] 25)) 9 (.string ⟨s.toArray⟩)
  simp only [World.size_alloc] at h2 h3 h4
  have b0 := ((h1.alloc (.cells #[.string ⟨#[]⟩] 9)).alloc (.cells #[.int .i64 0] 25)).alloc (.cells #[.string ⟨s.toArray⟩] 9)
  have b1 := (h2.alloc (.cells #[.int .i64 0] 25)).alloc (.cells #[.string ⟨s.toArray⟩] 9)
  have b2 := h3.alloc (.cells #[.string ⟨s.toArray⟩] 9)
  rw [hW0] at b0 b1 b2 h4 ⊢
  rw [hG] at b0 b1 b2 h4 hB ⊢
  have HG := Lib.hid hG
  clear h1 h2 h3 hW0 hG hg
  refine wpIn_rangeFunc_Z rfl (by omega) (gf := 50) (lb := #[.pointer (some ⟨G + 1 + 1 + 1, 0, none⟩)]) rfl trivial (enters_of Tryd.func50 (by kernel_rfl) rfl)
    (lines_seq (9 - 1) (by omega) (G + 1 + 1 + 1) (W0.heap.size + 2) (by omega) s hs) (fun W1 hz hc => ⟨hc.boxed h4 (by simp), hz⟩) (fun k h1 h2 h3 => by omega) (fun _ => rfl)
    (fun pre W' => (Boxed W' G 3 (.int .i64 k) ∧ Boxed W' (G + 1) 9 (.string ⟨#[]⟩) ∧ Boxed W' (G + 1 + 1) 25 (.int .i64 0) ∧ Below G w W') ∧ Hid (∀ y ∈ pre, (y.1 : Int) ≠ k))
    (fun c _ W' => c = .ret ∧ Boxed W' (G + 1) 9 (.string ⟨(liS s k).toArray⟩) ∧ Boxed W' (G + 1 + 1) 25 (.int .i64 (liE s k)) ∧ Below G w W')
    (fun _ X Y h hc => ⟨⟨hc.boxed h.1.1 (by omega), hc.boxed h.1.2.1 (by omega), hc.boxed h.1.2.2.1 (by omega), h.1.2.2.2.trans (hc.below (Nat.le_of_lt h.1.1.lt) (fun k hk => by omega))⟩, h.2⟩)
    (fun _ _ X Y h hc => ⟨h.1, hc.boxed h.2.1 (by omega), hc.boxed h.2.2.1 (by omega), h.2.2.2.trans (hc.below (by have := h.2.1.lt; omega) (fun k hk => by omega))⟩)
    ⟨⟨b0, b1, b2, hB⟩, Lib.hid (by simp)⟩
    (fun x => { tmps := #[.string ⟨s.toArray⟩, .int .i64 k, undef, .pointer (some ⟨G, 0, none⟩), .pointer (some ⟨G + 1, 0, none⟩), .pointer (some ⟨G + 1 + 1, 0, none⟩), .int .i64 (x.1 : Int), .string ⟨x.2.toArray⟩, .string ⟨s.toArray⟩, .func (.func 50) #[] #[.pointer (some ⟨G + 1 + 1 + 1, 0, none⟩)], .int .i64 (x.1 : Int), .string ⟨x.2.toArray⟩, undef, undef, undef, undef], defers := [] }) ?assign ?body ?done ?stop
  case assign =>
    intro l' x W' K hK
    gi_wp2
    exact hK
  case body =>
    rintro l' pre x post W1 hs1 ⟨⟨d0, d1, d2, hB1⟩, hn⟩ hx
    have c0 := d0.cell
    have c1 := d1.cell
    have f1 := d1.frozen
    have c2 := d2.cell
    have f2 := d2.frozen
    obtain ⟨qs, rs, e1, e2, e3, _⟩ := num_snoc_inv hx
    by_cases hk : (x.1 : Int) = k
    · have hl : Pl.line s k = some x.2 := by
        rw [← Pl.linC_line, e1]
        exact linC_num qs x.2 rs 1 k (fun y hy => hn.out y (by rw [e2]; exact hy)) (by rw [← e3]; exact hk)
      have HF : Hid (Chg (fun k => ¬((W0.heap.size + 2 ≤ k) ∨ W0.heap.size ≤ k)) W1 ((W1.setCell ⟨G + 1, 0, none⟩ (.string ⟨x.2.toArray⟩)).setCell ⟨G + 1 + 1, 0, none⟩ (.int .i64 0)) ∧ Boxed ((W1.setCell ⟨G + 1, 0, none⟩ (.string ⟨x.2.toArray⟩)).setCell ⟨G + 1 + 1, 0, none⟩ (.int .i64 0)) (G + 1) 9 (.string ⟨(liS s k).toArray⟩) ∧ Boxed ((W1.setCell ⟨G + 1, 0, none⟩ (.string ⟨x.2.toArray⟩)).setCell ⟨G + 1 + 1, 0, none⟩ (.int .i64 0)) (G + 1 + 1) 25 (.int .i64 (liE s k)) ∧ Below G w ((W1.setCell ⟨G + 1, 0, none⟩ (.string ⟨x.2.toArray⟩)).setCell ⟨G + 1 + 1, 0, none⟩ (.int .i64 0))) := Lib.hid
        ⟨((Chg.refl _ W1).setCell _ _ (.inl (by simp; omega))).setCell _ _ (.inl (by simp; omega)), (by unfold liS; rw [hl]; exact (box_set d1 _).other (by omega) _), (by unfold liE; rw [hl]; exact box_set (d2.other (by omega) _) _), (hB1.setCell (p := ⟨G + 1, 0, none⟩) (by simp) _).setCell (p := ⟨G + 1 + 1, 0, none⟩) (by simp; omega) _⟩
      clear hx e1 e2 e3 hl d0 d1 d2 hB1
      gi_wp2
      exact ⟨HF.out.1, rfl, HF.out.2⟩
    · have HF : Hid ((Boxed W1 G 3 (.int .i64 k) ∧ Boxed W1 (G + 1) 9 (.string ⟨#[]⟩) ∧ Boxed W1 (G + 1 + 1) 25 (.int .i64 0) ∧ Below G w W1) ∧ Hid (∀ y ∈ pre ++ [x], (y.1 : Int) ≠ k)) := Lib.hid ⟨⟨d0, d1, d2, hB1⟩, Lib.hid (fun y hy => by
        rcases List.mem_append.1 hy with h | h
        · exact hn.out y h
        · rw [List.mem_singleton.1 h]; exact hk)⟩
      clear hx e1 e2 e3 d0 d1 d2 hB1
      gi_wp2
      exact ⟨Chg.refl _ _, HF.out⟩
  case done =>
    rintro D W2 hD ⟨⟨d0, d1, d2, hB1⟩, hn⟩ hK
    have hl : Pl.line s k = none := by rw [← Pl.linC_line]; exact linC_none _ _ _ hn.out
    have HL : Hid (liS s k = [] ∧ liE s k = 3) := Lib.hid (by unfold liS liE; rw [hl]; exact ⟨rfl, rfl⟩)
    have c1 := d1.cell
    have f1 := d1.frozen
    have c2 := d2.cell
    have f2 := d2.frozen
    clear hl hn
    gi_wp2
    have hK' := (KeepsOthers.setCell (W2.setCell ⟨G + 1, 0, none⟩ (.string ⟨#[]⟩)) ⟨G + 1 + 1, 0, none⟩ (.int .i64 3)).same D _ ((KeepsOthers.setCell W2 ⟨G + 1, 0, none⟩ (.string ⟨#[]⟩)).same D _ hK rfl) rfl
    refine ⟨by simp, .inl ⟨_, _, rfl, run_takeDeferred hK', ?_⟩⟩
    have r1 := (bput (D := D) ((box_set d1 (.string ⟨#[]⟩)).other (B' := G + 1 + 1) (by omega) (.int .i64 3)) (by omega) (.deferred none)).cell
    have r2 := (bput (D := D) (box_set (d2.other (B' := G + 1) (by omega) (.string ⟨#[]⟩)) (.int .i64 3)) (by omega) (.deferred none)).cell
    refine ⟨.tuple #[.string ⟨#[]⟩, .int .i64 3], ?_, by rw [HL.out.1, HL.out.2], ?_⟩
    · simp [results, Tryd.f16, go_sem, r1, r2]
    · rw [HG.out]
      exact below_put ((hB1.setCell (p := ⟨G + 1, 0, none⟩) (by simp) _).setCell (p := ⟨G + 1 + 1, 0, none⟩) (by simp; omega) _) (by omega) _
  case stop =>
    rintro D c pre W2 hD hpre ⟨rfl, d1, d2, hB1⟩ hK
    gi_wp2
    refine ⟨by simp, .inl ⟨_, _, rfl, run_takeDeferred hK, ?_⟩⟩
    have r1 := (bput (D := D) d1 (by omega) (.deferred none)).cell
    have r2 := (bput (D := D) d2 (by omega) (.deferred none)).cell
    refine ⟨.tuple #[.string ⟨(liS s k).toArray⟩, .int .i64 (liE s k)], ?_, rfl, ?_⟩
    · simp [results, Tryd.f16, go_sem, r1, r2]
    · rw [HG.out]
      exact below_put hB1 (by omega) _
end Go.Proofs.YtmoeglecdojhcaaDoor

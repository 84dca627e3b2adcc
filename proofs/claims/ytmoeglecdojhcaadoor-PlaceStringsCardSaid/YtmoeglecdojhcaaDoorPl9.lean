/-
  LAYER 1: places to offsets.
-/
import Derived.Test.YtmoeglecdojhcaaDoorPl8
namespace Go.Proofs.YtmoeglecdojhcaaDoor
open Go.ChangeShapes Go.WideShapes Go.ChangeAt Go.RowKit Go.Shelf
attribute [local go_sem] Oper.semAt_some

/-- Where a line begins. -/
def beg (pre : List (Nat × List UInt8)) : Nat := (pre.map fun y => y.2.length + 1).sum
theorem beg_snoc (pre : List (Nat × List UInt8)) (x : Nat × List UInt8) : beg (pre ++ [x]) = beg pre + (x.2.length + 1) := by unfold beg; simp
theorem beg_all : ∀ (s : List UInt8) (L : Nat), beg (num L (Lin.pieces s)) = s.length + 1
  | [], _ => rfl
  | b :: r, L => by
    obtain ⟨p, ps, hp⟩ := Lin.pieces_ne r
    by_cases hb : b = 10
    · subst hb
      have ih := beg_all r (L + 1)
      rw [Lin.pieces_feed, num]
      unfold beg at ih ⊢
      rw [List.map_cons, List.sum_cons, ih, List.length_cons]
      simp; omega
    · have ih := beg_all r L
      rw [Lin.pieces_other hb hp]
      rw [hp] at ih
      unfold beg at ih ⊢
      rw [num, List.map_cons, List.sum_cons] at ih ⊢
      simp only [List.length_cons] at ih ⊢
      omega
theorem beg_le {s : List UInt8} {pre : List (Nat × List UInt8)} {x : Nat × List UInt8} {post : List (Nat × List UInt8)} (h : num 1 (Lin.pieces s) = pre ++ x :: post) : beg pre + x.2.length ≤ s.length := by
  have h1 := beg_all s 1
  rw [h] at h1
  unfold beg at h1 ⊢
  rw [List.map_append, List.sum_append, List.map_cons, List.sum_cons] at h1
  omega
/-- Does a line hold the place? -/
def hitP (l c : Int) (y : Nat × List UInt8) : Prop := (y.1 : Int) = l ∧ 1 ≤ c ∧ c ≤ (y.2.length : Int) + 1
def noHit (l c : Int) (pre : List (Nat × List UInt8)) : Prop := ∀ y ∈ pre, ¬ hitP l c y
theorem offC_num : ∀ (pre : List (List UInt8)) (x : List UInt8) (post : List (List UInt8)) (L i : Nat) (l c : Int), (∀ y ∈ num L pre, ¬ hitP l c y) → hitP l c (L + pre.length, x) → Pl.offC (pre ++ x :: post) L i l c = some (i + beg (num L pre) + (c - 1).toNat)
  | [], x, post, L, i, l, c, _, h => by
    rw [List.nil_append, Pl.offC, if_pos (show (L : Int) = l ∧ 1 ≤ c ∧ c ≤ (x.length : Int) + 1 from h)]; rfl
  | p :: pre, x, post, L, i, l, c, h0, h => by
    rw [List.cons_append, Pl.offC, if_neg (show ¬ ((L : Int) = l ∧ 1 ≤ c ∧ c ≤ (p.length : Int) + 1) from h0 (L, p) (by rw [num]; simp)), offC_num pre x post (L + 1) (i + p.length + 1) l c (fun y hy => h0 y (by rw [num]; simp [hy])) (by rw [List.length_cons] at h; rw [show L + 1 + pre.length = L + (pre.length + 1) by omega]; exact h), num]
    unfold beg
    rw [List.map_cons, List.sum_cons]
    congr 1
    simp only
    omega
theorem offC_none : ∀ (ps : List (List UInt8)) (L i : Nat) (l c : Int), (∀ y ∈ num L ps, ¬ hitP l c y) → Pl.offC ps L i l c = none
  | [], _, _, _, _, _ => rfl
  | p :: ps, L, i, l, c, h => by
    rw [Pl.offC, if_neg (show ¬ ((L : Int) = l ∧ 1 ≤ c ∧ c ≤ (p.length : Int) + 1) from h (L, p) (by rw [num]; simp))]
    exact offC_none ps (L + 1) _ l c fun y hy => h y (by rw [num]; simp [hy])

set_option maxRecDepth 100000 in
set_option maxHeartbeats 4000000 in
theorem offset_any (s : List UInt8) (hs : s.length ≤ 1000000) (l c : Int) (w : World) (hG : Good w) :
    Calls Tryd.prog 14 #[.string ⟨s.toArray⟩, pV l c] w fun e w' => e = .returned (.tuple #[.int .i64 (ofsV s l c), .int .i64 (ofsE s l c)]) ∧ Below w.heap.size w w' := by
  refine (callsIn_wide (n := 9)).1 ?_
  have hg := hG.sz
  clear hG
  unfold pV
  refine callsIn_of_wp_marks Tryd.func14 rfl trivial ?_ rfl
  simp only [Tryd.ntmps14, List.size_toArray, List.length_cons, List.length_nil, Nat.reduceAdd, Nat.reduceSub, Array.replicate_succ, Array.replicate_zero, List.push_toArray, List.append_toArray, List.nil_append, List.cons_append]
  gi_wp2
  refine ⟨trivial, (callsIn_wide.2 (lines_any s _)).mono ?_⟩
  rintro e w' ⟨rfl, rfl⟩
  gi_wp2
  obtain ⟨W0, hW0⟩ : ∃ V, ((((w.alloc (.cells #[.int .i64 l, .int .i64 c] 24)).alloc (.cells #[.int .i64 0] 3)).alloc (.cells #[.int .i64 0] 25)).alloc (.cells #[.int .i64 0] 3)).alloc (.cells #[.string ⟨s.toArray⟩] 9) = V := ⟨_, rfl⟩
  have hB : Below w.heap.size w W0 := by rw [← hW0]; exact below_new (below_new (below_new (below_new (below_new (Below.refl _ _) _) _) _) _) _
  obtain ⟨G, hG⟩ : ∃ m, w.heap.size = m := ⟨_, rfl⟩
  have hsz : W0.heap.size = G + 5 := by rw [← hW0]; simp [hG]
  have h1 := Blk.new w 24 #[.int .i64 l, .int .i64 c]
  have h2 := Boxed.new (w.alloc (.cells #[.int .i64 l, .int .i64 c] 24)) 3 (.int .i64 0)
  have h3 := Boxed.new ((w.alloc (.cells #[.int .i64 l, .int .i64 c] 24)).alloc (.cells #[.int .i64 0] 3)) 25 (.int .i64 0)
  have h4 := Boxed.new (((w.alloc (.cells #[.int .i64 l, .int .i64 c] 24)).alloc (.cells #[.int .i64 0] 3)).alloc (.cells #[.int .i64 0] 25)) 3 (.int .i64 0)
  have h5 := Boxed.new ((((w.alloc (.cells #[.int .i64 l, .int .i64 c] 24)).alloc (.cells #[.int .i64 0] 3)).alloc (.cells #[.int .i64 0] 25)).alloc (.cells #[.int .i64 0] 3)) 9 (.string ⟨s.toArray⟩)
  simp only [World.size_alloc] at h2 h3 h4 h5
  have b0 := (((h1.alloc (.cells #[.int .i64 0] 3)).alloc (.cells #[.int .i64 0] 25)).alloc (.cells #[.int .i64 0] 3)).alloc (.cells #[.string ⟨s.toArray⟩] 9)
  have b1 := ((h2.alloc (.cells #[.int .i64 0] 25)).alloc (.cells #[.int .i64 0] 3)).alloc (.cells #[.string ⟨s.toArray⟩] 9)
  have b2 := (h3.alloc (.cells #[.int .i64 0] 3)).alloc (.cells #[.string ⟨s.toArray⟩] 9)
  have b3 := h4.alloc (.cells #[.string ⟨s.toArray⟩] 9)
  rw [hW0] at b0 b1 b2 b3 h5 ⊢
  rw [hG] at b0 b1 b2 b3 h5 hB ⊢
  have HG := Lib.hid hG
  clear h1 h2 h3 h4 hW0 hG hg
  refine wpIn_rangeFunc_Z rfl (by omega) (gf := 50) (lb := #[.pointer (some ⟨G + 1 + 1 + 1 + 1, 0, none⟩)]) rfl trivial (enters_of Tryd.func50 (by kernel_rfl) rfl)
    (lines_seq (9 - 1) (by omega) (G + 1 + 1 + 1 + 1) (W0.heap.size + 2) (by omega) s hs) (fun W1 hz hc => ⟨hc.boxed h5 (by simp), hz⟩) (fun k h1 h2 h3 => by omega) (fun _ => rfl)
    (fun pre W' => (Blk W' G 24 #[.int .i64 l, .int .i64 c] ∧ Boxed W' (G + 1) 3 (.int .i64 0) ∧ Boxed W' (G + 1 + 1) 25 (.int .i64 0) ∧ Boxed W' (G + 1 + 1 + 1) 3 (.int .i64 (beg pre : Int)) ∧ Below G w W') ∧ Hid (noHit l c pre))
    (fun c' _ W' => c' = .ret ∧ Boxed W' (G + 1) 3 (.int .i64 (ofsV s l c)) ∧ Boxed W' (G + 1 + 1) 25 (.int .i64 (ofsE s l c)) ∧ Below G w W')
    (fun _ X Y h hc => ⟨⟨(hc.same G h.1.1.lt (by omega)).trans h.1.1, hc.boxed h.1.2.1 (by omega), hc.boxed h.1.2.2.1 (by omega), hc.boxed h.1.2.2.2.1 (by omega), h.1.2.2.2.2.trans (hc.below (Nat.le_of_lt h.1.1.lt) (fun k hk => by omega))⟩, h.2⟩)
    (fun _ _ X Y h hc => ⟨h.1, hc.boxed h.2.1 (by omega), hc.boxed h.2.2.1 (by omega), h.2.2.2.trans (hc.below (by have := h.2.1.lt; omega) (fun k hk => by omega))⟩)
    ⟨⟨b0, b1, b2, b3, hB⟩, Lib.hid (by intro y hy; cases hy)⟩
    (fun x => { tmps := #[.string ⟨s.toArray⟩, .agg #[.int .i64 l, .int .i64 c], undef, .pointer (some ⟨G, 0, none⟩), .pointer (some ⟨G + 1, 0, none⟩), .pointer (some ⟨G + 1 + 1, 0, none⟩), .pointer (some ⟨G + 1 + 1 + 1, 0, none⟩), .int .i64 (x.1 : Int), .string ⟨x.2.toArray⟩, .string ⟨s.toArray⟩, .func (.func 50) #[] #[.pointer (some ⟨G + 1 + 1 + 1 + 1, 0, none⟩)], .int .i64 (x.1 : Int), .string ⟨x.2.toArray⟩, undef, undef, undef, undef, undef, undef, undef, undef, undef, undef, undef, undef, undef, undef, undef, undef, undef, undef, undef, undef, undef, undef, undef, undef, undef, undef, undef], defers := [] }) ?assign ?body ?done ?stop
  case assign =>
    intro l' x W' K hK
    gi_wp2
    exact hK
  case body =>
    rintro l' pre x post W1 hs1 ⟨⟨d0, d1, d2, d3, hB1⟩, hn⟩ hx
    have c0 := d0.cell 0
    have c1 := d0.cell 1
    have c2 := d1.cell
    have f2 := d1.frozen
    have c3 := d2.cell
    have f3 := d2.frozen
    have c4 := d3.cell
    have f4 := d3.frozen
    have hbl := beg_le hx
    have hb1 : (beg pre : Int) ≤ 1000000 := by omega
    have hb2 : (x.2.length : Int) ≤ 1000000 := by omega
    obtain ⟨qs, rs, e1, e2, e3, _⟩ := num_snoc_inv hx
    by_cases hk : hitP l c x
    · have ho : Pl.off s l c = some (beg pre + (c - 1).toNat) := by
        unfold Pl.off
        rw [e1, offC_num qs x.2 rs 1 0 l c (fun y hy => hn.out y (by rw [e2]; exact hy)) (by rw [← e3]; exact hk), e2, Nat.zero_add]
      obtain ⟨k1, k2, k3⟩ := hk
      have hv : (beg pre : Int) + c - 1 = ofsV s l c := by unfold ofsV; rw [ho]; simp only [Option.getD_some]; omega
      have he : ofsE s l c = 0 := by unfold ofsE; rw [ho]; rfl
      have HF : Hid (Chg (fun k => ¬((W0.heap.size + 2 ≤ k) ∨ W0.heap.size ≤ k)) W1 ((W1.setCell ⟨G + 1, 0, none⟩ (.int .i64 ((beg pre : Int) + c - 1))).setCell ⟨G + 1 + 1, 0, none⟩ (.int .i64 0)) ∧ Boxed ((W1.setCell ⟨G + 1, 0, none⟩ (.int .i64 ((beg pre : Int) + c - 1))).setCell ⟨G + 1 + 1, 0, none⟩ (.int .i64 0)) (G + 1) 3 (.int .i64 (ofsV s l c)) ∧ Boxed ((W1.setCell ⟨G + 1, 0, none⟩ (.int .i64 ((beg pre : Int) + c - 1))).setCell ⟨G + 1 + 1, 0, none⟩ (.int .i64 0)) (G + 1 + 1) 25 (.int .i64 (ofsE s l c)) ∧ Below G w ((W1.setCell ⟨G + 1, 0, none⟩ (.int .i64 ((beg pre : Int) + c - 1))).setCell ⟨G + 1 + 1, 0, none⟩ (.int .i64 0))) := Lib.hid
        ⟨((Chg.refl _ W1).setCell _ _ (.inl (by simp; omega))).setCell _ _ (.inl (by simp; omega)), (by rw [← hv]; exact (box_set d1 _).other (by omega) _), (by rw [he]; exact box_set (d2.other (by omega) _) _), (hB1.setCell (p := ⟨G + 1, 0, none⟩) (by simp) _).setCell (p := ⟨G + 1 + 1, 0, none⟩) (by simp; omega) _⟩
      have hc2 : c ≤ 1000001 := by omega
      clear hx e1 e2 e3 ho hv he d0 d1 d2 d3 hB1 hbl hsz
      gi_wp2
      exact ⟨HF.out.1, rfl, HF.out.2⟩
    · have HF : Hid (Chg (fun k => ¬((W0.heap.size + 2 ≤ k) ∨ W0.heap.size ≤ k)) W1 (W1.setCell ⟨G + 1 + 1 + 1, 0, none⟩ (.int .i64 ((beg pre : Int) + ((x.2.length : Int) + 1)))) ∧ (Blk (W1.setCell ⟨G + 1 + 1 + 1, 0, none⟩ (.int .i64 ((beg pre : Int) + ((x.2.length : Int) + 1)))) G 24 #[.int .i64 l, .int .i64 c] ∧ Boxed (W1.setCell ⟨G + 1 + 1 + 1, 0, none⟩ (.int .i64 ((beg pre : Int) + ((x.2.length : Int) + 1)))) (G + 1) 3 (.int .i64 0) ∧ Boxed (W1.setCell ⟨G + 1 + 1 + 1, 0, none⟩ (.int .i64 ((beg pre : Int) + ((x.2.length : Int) + 1)))) (G + 1 + 1) 25 (.int .i64 0) ∧ Boxed (W1.setCell ⟨G + 1 + 1 + 1, 0, none⟩ (.int .i64 ((beg pre : Int) + ((x.2.length : Int) + 1)))) (G + 1 + 1 + 1) 3 (.int .i64 (beg (pre ++ [x]) : Int)) ∧ Below G w (W1.setCell ⟨G + 1 + 1 + 1, 0, none⟩ (.int .i64 ((beg pre : Int) + ((x.2.length : Int) + 1))))) ∧ Hid (noHit l c (pre ++ [x]))) := Lib.hid
        ⟨(Chg.refl _ W1).setCell _ _ (.inl (by simp; omega)), ⟨d0.far (by simp; omega) _, d1.other (by omega) _, d2.other (by omega) _, (by rw [beg_snoc]; push_cast; exact box_set d3 _), hB1.setCell (p := ⟨G + 1 + 1 + 1, 0, none⟩) (by simp; omega) _⟩, Lib.hid (fun y hy => by
        rcases List.mem_append.1 hy with h | h
        · exact hn.out y h
        · rw [List.mem_singleton.1 h]; exact hk)⟩
      have hc : ¬ (x.1 : Int) = l ∨ ((x.1 : Int) = l ∧ c < 1) ∨ ((x.1 : Int) = l ∧ 1 ≤ c ∧ (x.2.length : Int) + 1 < c) := by
        unfold hitP at hk; omega
      clear hx e1 e2 e3 d0 d1 d2 d3 hB1 hk hbl hsz
      rcases hc with hc | ⟨hc, hc2⟩ | ⟨hc, hc2, hc3⟩
      · gi_wp2
        exact HF.out
      · gi_wp2
        exact HF.out
      · gi_wp2
        exact HF.out
  case done =>
    rintro D W2 hD ⟨⟨_, d1, d2, _, hB1⟩, hn⟩ hK
    have hl : Pl.off s l c = none := offC_none _ _ _ _ _ hn.out
    have HL : Hid (ofsV s l c = 0 ∧ ofsE s l c = 3) := Lib.hid (by unfold ofsV ofsE; rw [hl]; exact ⟨rfl, rfl⟩)
    have c1 := d1.cell
    have f1 := d1.frozen
    have c2 := d2.cell
    have f2 := d2.frozen
    clear hl hn
    gi_wp2
    have hK' := (KeepsOthers.setCell (W2.setCell ⟨G + 1, 0, none⟩ (.int .i64 0)) ⟨G + 1 + 1, 0, none⟩ (.int .i64 3)).same D _ ((KeepsOthers.setCell W2 ⟨G + 1, 0, none⟩ (.int .i64 0)).same D _ hK rfl) rfl
    refine ⟨by simp, .inl ⟨_, _, rfl, run_takeDeferred hK', ?_⟩⟩
    have r1 := (bput (D := D) ((box_set d1 (.int .i64 0)).other (B' := G + 1 + 1) (by omega) (.int .i64 3)) (by omega) (.deferred none)).cell
    have r2 := (bput (D := D) (box_set (d2.other (B' := G + 1) (by omega) (.int .i64 0)) (.int .i64 3)) (by omega) (.deferred none)).cell
    refine ⟨.tuple #[.int .i64 0, .int .i64 3], ?_, by rw [HL.out.1, HL.out.2], ?_⟩
    · simp [results, Tryd.f14, go_sem, r1, r2]
    · rw [HG.out]
      exact below_put ((hB1.setCell (p := ⟨G + 1, 0, none⟩) (by simp) _).setCell (p := ⟨G + 1 + 1, 0, none⟩) (by simp; omega) _) (by omega) _
  case stop =>
    rintro D c' pre W2 hD hpre ⟨rfl, d1, d2, hB1⟩ hK
    gi_wp2
    refine ⟨by simp, .inl ⟨_, _, rfl, run_takeDeferred hK, ?_⟩⟩
    have r1 := (bput (D := D) d1 (by omega) (.deferred none)).cell
    have r2 := (bput (D := D) d2 (by omega) (.deferred none)).cell
    refine ⟨.tuple #[.int .i64 (ofsV s l c), .int .i64 (ofsE s l c)], ?_, rfl, ?_⟩
    · simp [results, Tryd.f14, go_sem, r1, r2]
    · rw [HG.out]
      exact below_put hB1 (by omega) _
end Go.Proofs.YtmoeglecdojhcaaDoor

/-
  LAYER 1: the reference: the lines of a text.
-/
import Derived.Test.YtmoeglecdojhcaaDoorPlN
import Derived.Test.YtmoeglecdojhcaaDoorPlX
import Derived.Deep.RegionHeld3
import Derived.IntWalk
namespace Go.Proofs.YtmoeglecdojhcaaDoor
open Go.ChangeShapes Go.WideShapes Go.ChangeAt Go.RowKit

set_option maxHeartbeats 4000000 in
set_option maxRecDepth 100000 in
theorem rlines_any (s : List UInt8) (hs : s.length ≤ 1000000) (w : World) :
    Calls Tryd.prog 33 #[.string ⟨s.toArray⟩] w fun e w' => ∃ v, e = .returned v ∧ w'.ownsRow w.heap.size 9 1 v (Lin.pieces s).length (strV (Lin.pieces s)) ∧ Below w.heap.size w w' := by
  obtain ⟨i0, hi, hz0, hz1, hz2⟩ := info_parts info_str
  have hstart : (w.alloc (.cells #[.string ⟨#[]⟩] 9)).ownsRow w.heap.size 9 1 (.slice (some ⟨w.heap.size, 0, none⟩) 1 1) 1 (strV [[]]) := by
    exact World.ownsRow_lit w #[.string ⟨#[]⟩] 1 (Nat.le_refl _) (by unfold maxLen; omega) rfl
  have HS := Lib.hid hstart
  clear hstart
  go_enter Tryd.func33, Tryd.ntmps33
  go_wp2_with fail
  go_loopw [4, 3] (fun i v wr => ∃ (k n : Nat), k ≤ s.length ∧ i = .int .i64 k ∧ Hid (Below w.heap.size w wr) ∧ Hid (n = (Lin.pieces (s.take k)).length) ∧ Hid (wr.ownsRow w.heap.size 9 1 v n (strV (Lin.pieces (s.take k))))) (fun i _ _ => s.length - (intOf i).toNat)
  case atStart => exact ⟨0, 1, Nat.zero_le _, rfl, Lib.hid (below_new (Below.refl _ _) _), Lib.hid rfl, HS⟩
  case round =>
    clear HS
    obtain ⟨k, n, hk, rfl, HB, Hn, HO⟩ := hrel
    by_cases hlt : k < s.length
    · obtain ⟨b, hb⟩ : ∃ b, s[k]? = some b := ⟨_, List.getElem?_eq_getElem hlt⟩
      have hx : ∀ h, ((⟨s.toArray⟩ : ByteArray)[k]'h) = b := fun h => (List.getElem?_eq_some_iff.1 hb).2
      obtain ⟨ps, p, e1, e2⟩ := Pl.pieces_snoc (s.take k) b
      rw [← take_snoc hb] at e2
      have hpl := Lin.pieces_le (s.take k)
      rw [List.length_take] at hpl
      have hkl : (k : Int) < (s.length : Int) := by omega
      have hn1 : n ≤ 1000001 := by have := Hn.out; omega
      by_cases h10 : b = 10
      · have hb10 : (b.toNat : Int) = 10 := by rw [h10]; rfl
        rw [if_pos h10] at e2
        have HE : Hid (Lin.pieces (s.take (k + 1)) = Lin.pieces (s.take k) ++ [[]]) := Lib.hid (by rw [e2, e1]; simp)
        have hown2 := HO.out
        clear HO e1 e2 hb h10 hpl
        go_wp2_with (at_builtin; refine wpList_append_own _ rfl _ _ 47 rfl w.heap.size 9 i0 (.string ⟨#[]⟩) 1 16 Tryd.underlying47 hi hz0 hz1 hz2 rfl (by decide) _ _ _ rfl (hown2.alloc _) ⟨wr.heap.size, 0, none⟩ 1 1 [.string ⟨#[]⟩] rfl rfl ?c1 ?c2 ?c3 ?c4 ?c5 ?_)
        case c1 => exact one_news _ _ _
        case c2 => intro u hu; simp at hu; subst hu; rfl
        case c3 => unfold maxLen; omega
        case c4 => omega
        case c5 => have := HB.out.size; simp; omega
        intro v' w6 hown4 hg4 _
        have HO4 := Lib.hid hown4
        have HB4 := Lib.hid ((below_new HB.out _).grown hg4 (by have := HB.out.size; simp; omega) (fun g hg => (hown2.lt g hg).1))
        clear hown2 hown4 hg4 HB
        go_wp2_with fail
        go_roundw
        case rel =>
          refine ⟨k + 1, n + 1, by omega, by go_num, HB4, Lib.hid ?_, ?_⟩
          · rw [HE.out, List.length_append, Hn.out]; rfl
          · have h := HO4.out
            rw [HE.out]
            unfold strV at h ⊢
            rw [List.map_append]
            exact Lib.hid h
        case measure => simp [intOf]; omega
      · have hb10 : ¬ (b.toNat : Int) = 10 := by
          have : b.toNat ≠ 10 := fun e => h10 (UInt8.toNat_inj.1 e)
          omega
        rw [if_neg h10] at e2
        have hplen : p.length ≤ 1000000 := by
          have := piece_le (s.take k) p (by rw [e1]; simp)
          rw [List.length_take] at this
          omega
        obtain ⟨m, hm⟩ : ∃ m, ps.length = m := ⟨_, rfl⟩
        have hnm : n = m + 1 := by rw [Hn.out, e1, List.length_append, hm]; rfl
        subst hnm
        obtain ⟨g, cap, rfl⟩ := ownsRow_succ HO.out
        have hgB : Hid (w.heap.size ≤ g) := Lib.hid (HO.out.lt g rfl).1
        have hcell := HO.out.cellAt m (by omega)
        have hfr := HO.out.frozenAt m
        have hst := HO.out.stored m (.string ⟨(p ++ [b]).toArray⟩)
        have hv : (strV (Lin.pieces (s.take k)))[m]? = some (.string ⟨p.toArray⟩) := by
          rw [e1]; unfold strV; rw [List.map_append, List.getElem?_append_right (by simp [hm]), List.length_map, hm, Nat.sub_self]; rfl
        rw [hv] at hcell
        have hset : (strV (Lin.pieces (s.take k))).set m (.string ⟨(p ++ [b]).toArray⟩) = strV (Lin.pieces (s.take (k + 1))) := by
          rw [e1, e2]; unfold strV; rw [List.map_append, List.map_append, List.set_append_right _ _ (by simp [hm]), List.length_map, hm, Nat.sub_self]; rfl
        rw [hset] at hst
        have hsub : (⟨s.toArray⟩ : ByteArray).extract k (k + 1) = ⟨[b].toArray⟩ := by
          rw [mk_extract, show k + 1 - k = 1 by omega]
          obtain ⟨h1, h2⟩ := List.getElem?_eq_some_iff.1 hb
          rw [← List.getElem_cons_drop h1, h2]; rfl
        have hcat : (⟨p.toArray⟩ : ByteArray) ++ ⟨[b].toArray⟩ = ⟨(p ++ [b]).toArray⟩ := by rw [ByteArray.mk_append_mk]
        have k1 : ¬ 9223372036854775807 < p.length + 1 := by omega
        have hwr : IntKind.i64.wrap ((k : Int) + 1) = (k : Int) + 1 := IntWalk.i64_in _ (by omega)
        have hwm : IntKind.i64.wrap (m : Int) = (m : Int) := IntWalk.i64_in _ (by omega)
        have hm0 : (0 : Int) ≤ (m : Int) := by omega
        have hm1 : (m : Int) < (m : Int) + 1 := by omega
        have hk0 : (0 : Int) ≤ (k : Int) + 1 := by omega
        have hk1 : (k : Int) + 1 ≤ (s.length : Int) := by omega
        have hk2 : (k : Int) ≤ (k : Int) + 1 := by omega
        have HST := Lib.hid hst
        have HN2 : Hid (m + 1 = (Lin.pieces (s.take (k + 1))).length) := Lib.hid (by rw [e2, List.length_append, hm]; rfl)
        clear hst hset hv e1 e2 hb h10 hpl hm HO
        go_upto_region 7 with fail
        refine wp_region_held_drew (S := fun _ => True) (by kernel_rfl) trivial (fun hHeld0 => ?_)
        obtain ⟨w0, hw0⟩ : ∃ V, wr.drew = V := ⟨_, rfl⟩
        replace hcell : w0.cell? ⟨g, m, none⟩ = some (.string ⟨p.toArray⟩) := by rw [← hw0]; exact hcell
        replace hfr : w0.frozen? ⟨g, m, none⟩ = false := by rw [← hw0]; exact hfr
        replace HST : Hid ((w0.setCell ⟨g, m, none⟩ (.string ⟨(p ++ [b]).toArray⟩)).ownsRow w.heap.size 9 1 (.slice (some ⟨g, 0, none⟩) (m + 1) cap) (m + 1) (strV (Lin.pieces (s.take (k + 1)))) ∧ Below w.heap.size w (w0.setCell ⟨g, m, none⟩ (.string ⟨(p ++ [b]).toArray⟩))) := Lib.hid ⟨by rw [← hw0]; exact HST.out.1, by rw [← hw0]; exact (HB.out.drew).setCell (p := ⟨g, m, none⟩) hgB.out _⟩
        rw [hw0]
        clear hw0 HB hgB
        refine wpAnyH_take (i := 0) (oi := ⟨some 19, _, _, _, _, _⟩) (v := ?_) rfl (by kernel_rfl) (by kernel_rfl) (by kernel_rfl) (fun _ _ _ h => h) (Or.inl ⟨rfl, ?_⟩) (by assumption) ?_
        rotate_left
        · (intro w hSw; (try dsimp only at hSw); go_simp; (try with_reducible rfl))
        (try simp only [Act.put, List.setIfInBounds_toArray, List.set_cons_zero, List.set_cons_succ])
        refine wpAnyH_take (i := 1) (oi := ⟨some 20, _, _, _, _, _⟩) (v := ?_) rfl (by kernel_rfl) (by kernel_rfl) (by kernel_rfl) (fun _ _ _ h => h) (Or.inl ⟨rfl, ?_⟩) (by assumption) ?_
        rotate_left
        · (intro w hSw; (try dsimp only at hSw); go_simp; (try with_reducible rfl))
        (try simp only [Act.put, List.setIfInBounds_toArray, List.set_cons_zero, List.set_cons_succ])
        refine wpAnyH_take (i := 2) (oi := ⟨some 21, _, _, _, _, _⟩) (v := ?_) rfl (by kernel_rfl) (by kernel_rfl) (by kernel_rfl) (fun _ _ _ h => h) (Or.inl ⟨rfl, ?_⟩) (by assumption) ?_
        rotate_left
        · (intro w hSw; (try dsimp only at hSw); go_simp; (try with_reducible rfl))
        (try simp only [Act.put, List.setIfInBounds_toArray, List.set_cons_zero, List.set_cons_succ])
        refine wpAnyH_take (i := 3) (oi := ⟨some 22, _, _, _, _, _⟩) (v := ?_) rfl (by kernel_rfl) (by kernel_rfl) (by kernel_rfl) (fun _ _ _ h => h) (Or.inl ⟨rfl, ?_⟩) (by assumption) ?_
        rotate_left
        · (intro w hSw; (try dsimp only at hSw); go_simp; (try with_reducible rfl))
        (try simp only [Act.put, List.setIfInBounds_toArray, List.set_cons_zero, List.set_cons_succ])
        refine wpAnyH_take (i := 4) (oi := ⟨some 23, _, _, _, _, _⟩) (v := ?_) rfl (by kernel_rfl) (by kernel_rfl) (by kernel_rfl) (fun _ _ _ h => h) (Or.inl ⟨rfl, ?_⟩) (by assumption) ?_
        rotate_left
        · (intro w hSw; (try dsimp only at hSw); go_simp; (try with_reducible rfl))
        (try simp only [Act.put, List.setIfInBounds_toArray, List.set_cons_zero, List.set_cons_succ])
        refine wpAnyH_take (i := 5) (oi := ⟨some 24, _, _, _, _, _⟩) (v := ?_) rfl (by kernel_rfl) (by kernel_rfl) (by kernel_rfl) (fun _ _ _ h => h) (Or.inl ⟨rfl, ?_⟩) (by assumption) ?_
        rotate_left
        · (intro w hSw; (try dsimp only at hSw); go_simp; (try with_reducible rfl))
        (try simp only [Act.put, List.setIfInBounds_toArray, List.set_cons_zero, List.set_cons_succ])
        refine wpAnyH_take (i := 6) (oi := ⟨some 25, _, _, _, _, _⟩) (v := ?_) rfl (by kernel_rfl) (by kernel_rfl) (by kernel_rfl) (fun _ _ _ h => h) (Or.inl ⟨rfl, ?_⟩) (by assumption) ?_
        rotate_left
        · (intro w hSw; (try dsimp only at hSw); go_simp; (try with_reducible rfl))
        (try simp only [Act.put, List.setIfInBounds_toArray, List.set_cons_zero, List.set_cons_succ])
        refine wpAnyH_take (i := 7) (oi := ⟨some 26, _, _, _, _, _⟩) (v := ?_) rfl (by kernel_rfl) (by kernel_rfl) (by kernel_rfl) (fun _ _ _ h => h) (Or.inl ⟨rfl, ?_⟩) (by assumption) ?_
        rotate_left
        · (intro w hSw; (try dsimp only at hSw); go_simp; (try with_reducible rfl))
        (try simp only [Act.put, List.setIfInBounds_toArray, List.set_cons_zero, List.set_cons_succ])
        refine wpAnyH_take (i := 8) (oi := ⟨some 27, _, _, _, _, _⟩) (v := ?_) rfl (by kernel_rfl) (by kernel_rfl) (by kernel_rfl) (fun _ _ _ h => h) (Or.inl ⟨rfl, ?_⟩) (by assumption) ?_
        rotate_left
        · (intro w hSw; (try dsimp only at hSw); go_simp; (try with_reducible rfl))
        (try simp only [Act.put, List.setIfInBounds_toArray, List.set_cons_zero, List.set_cons_succ])
        refine wpAnyH_take (i := 10) (oi := ⟨some 29, _, _, _, _, _⟩) (v := ?_) rfl (by kernel_rfl) (by kernel_rfl) (by kernel_rfl) (fun _ _ _ h => h) (Or.inl ⟨rfl, ?_⟩) (by assumption) ?_
        rotate_left
        · (intro w hSw; (try dsimp only at hSw); go_simp; (try with_reducible rfl))
        (try simp only [Act.put, List.setIfInBounds_toArray, List.set_cons_zero, List.set_cons_succ])
        refine wpAnyH_take (i := 11) (oi := ⟨some 30, _, _, _, _, _⟩) (v := ?_) rfl (by kernel_rfl) (by kernel_rfl) (by kernel_rfl) (fun _ _ _ h => h) (Or.inl ⟨rfl, ?_⟩) (by assumption) ?_
        rotate_left
        · (intro w hSw; (try dsimp only at hSw); go_simp; (try with_reducible rfl))
        (try simp only [Act.put, List.setIfInBounds_toArray, List.set_cons_zero, List.set_cons_succ])
        refine wpAnyH_take (i := 12) (oi := ⟨some 31, _, _, _, _, _⟩) (v := ?_) rfl (by kernel_rfl) (by kernel_rfl) (by kernel_rfl) (fun _ _ _ h => h) (Or.inl ⟨rfl, ?_⟩) (by assumption) ?_
        rotate_left
        · (intro w hSw; (try dsimp only at hSw); go_simp; (try with_reducible rfl))
        (try simp only [Act.put, List.setIfInBounds_toArray, List.set_cons_zero, List.set_cons_succ])
        refine wpAnyH_take (i := 13) (oi := ⟨some 32, _, _, _, _, _⟩) (v := ?_) rfl (by kernel_rfl) (by kernel_rfl) (by kernel_rfl) (fun _ _ _ h => h) (Or.inl ⟨rfl, ?_⟩) (by assumption) ?_
        rotate_left
        · (intro w hSw; (try dsimp only at hSw); go_simp; (try with_reducible rfl))
        (try simp only [Act.put, List.setIfInBounds_toArray, List.set_cons_zero, List.set_cons_succ])
        refine wpAnyH_take (i := 14) (oi := ⟨some 33, _, _, _, _, _⟩) (v := ?_) rfl (by kernel_rfl) (by kernel_rfl) (by kernel_rfl) (fun _ _ _ h => h) (Or.inl ⟨rfl, ?_⟩) (by assumption) ?_
        rotate_left
        · (intro w hSw; (try dsimp only at hSw); go_simp; (try with_reducible rfl))
        (try simp only [Act.put, List.setIfInBounds_toArray, List.set_cons_zero, List.set_cons_succ])
        refine wpAnyH_ready (rs := [9]) (by kernel_rfl) (by simp) ?_
        refine AllReadyH.cons (o := ⟨some 28, _, _, _, _, _⟩) rfl (fun K hK => ?_) AllReadyH.nil
        go_simp
        try go_wp2_with fail
        refine hK.out _ _ trivial (fun hEnd => ?_)
        clear hK K hEnd
        (try simp only [Act.put, List.setIfInBounds_toArray, List.set_cons_zero, List.set_cons_succ])
        refine wpAnyH_take (i := 15) (oi := ⟨some 34, _, _, _, _, _⟩) (v := ?_) rfl (by kernel_rfl) (by kernel_rfl) (by kernel_rfl) (fun _ _ _ h => h) (Or.inl ⟨rfl, ?_⟩) (by assumption) ?_
        rotate_left
        · (intro w hSw; (try dsimp only at hSw); go_simp; (try with_reducible rfl))
        (try simp only [Act.put, List.setIfInBounds_toArray, List.set_cons_zero, List.set_cons_succ])
        refine wpAnyH_take (i := 16) (oi := ⟨some 35, _, _, _, _, _⟩) (v := ?_) rfl (by kernel_rfl) (by kernel_rfl) (by kernel_rfl) (fun _ _ _ h => h) (Or.inl ⟨rfl, ?_⟩) (by assumption) ?_
        rotate_left
        · (intro w hSw; (try dsimp only at hSw); go_simp; (try with_reducible rfl))
        (try simp only [Act.put, List.setIfInBounds_toArray, List.set_cons_zero, List.set_cons_succ])
        refine wpAnyH_ready (rs := [17]) (by kernel_rfl) (by simp) ?_
        refine AllReadyH.cons (o := ⟨none, _, _, _, _, _⟩) rfl (fun K hK => ?_) AllReadyH.nil
        go_simp
        try go_wp2_with fail
        refine hK.out _ _ trivial (fun hEnd => ?_)
        clear hK K hEnd
        (try simp only [Act.put, List.setIfInBounds_toArray, List.set_cons_zero, List.set_cons_succ])
        refine wpAnyH_done (by kernel_rfl) ?_ _
        go_wp2_with fail
        go_roundw
        case rel => exact ⟨k + 1, m + 1, by omega, by go_num, Lib.hid HST.out.2, HN2, Lib.hid HST.out.1⟩
        case measure => simp [intOf]; omega
    · have hks : k = s.length := by omega
      have hown := HO.out
      have hnn := Hn.out
      rw [hks, List.take_length] at hown hnn
      rw [hnn] at hown
      have HO2 := Lib.hid hown
      have hki : ¬ (k : Int) < (s.length : Int) := by omega
      clear hown hnn hks Hn HO hlt
      go_wp2_with fail
      go_ret
      exact ⟨_, rfl, HO2.out, HB.out⟩
end Go.Proofs.YtmoeglecdojhcaaDoor

/-
  LAYER 1: the reference: offsets to places and back.
-/
import Derived.Test.YtmoeglecdojhcaaDoorPlW
namespace Go.Proofs.YtmoeglecdojhcaaDoor
open Go.ChangeShapes Go.WideShapes Go.ChangeAt Go.RowKit

/-- Two blocks of places, laid one behind the other. -/
def RB (w : World) (cs ds : Array Value) (W : World) : Prop := Below w.heap.size w W ∧ Blk W w.heap.size 24 cs ∧ Blk W (w.heap.size + 1) 24 ds
section
variable {w W W' : World} {cs ds : Array Value}
theorem RB.new : Hid (RB w cs ds ((w.alloc (.cells cs 24)).alloc (.cells ds 24))) := by
  have h2 := Blk.new (w.alloc (.cells cs 24)) 24 ds
  rw [World.size_alloc] at h2
  exact Lib.hid ⟨below_new (below_new (Below.refl _ _) _) _, (Blk.new _ _ _).alloc _, h2⟩
theorem RB.set (h : Hid (RB w cs ds W)) (i : Nat) (u : Value) : Hid (RB w cs (ds.setIfInBounds i u) (W.setCell ⟨w.heap.size + 1, i, none⟩ u)) :=
  Lib.hid ⟨h.out.1.setCell (p := ⟨w.heap.size + 1, i, none⟩) (Nat.le_succ _) u, h.out.2.1.far (by show w.heap.size ≠ w.heap.size + 1; omega) u, h.out.2.2.set i u⟩
end
theorem take_row {s : List UInt8} {k : Nat} {b : UInt8} (h : s[k]? = some b) : (b = 10 → Pl.row (s.take (k + 1)) = Pl.row (s.take k) + 1 ∧ Pl.col (s.take (k + 1)) = 1) ∧ (b ≠ 10 → Pl.row (s.take (k + 1)) = Pl.row (s.take k) ∧ Pl.col (s.take (k + 1)) = Pl.col (s.take k) + 1) := by
  rw [take_snoc h, Pl.row_snoc, Pl.col_snoc]
  exact ⟨fun e => by rw [if_pos e, if_pos e]; exact ⟨rfl, rfl⟩, fun e => by rw [if_neg e, if_neg e]; exact ⟨rfl, rfl⟩⟩
theorem row_le (u : List UInt8) : Pl.row u ≤ 1 + u.length := by
  unfold Pl.row Pl.advR
  have : u.count 10 ≤ u.length := List.count_le_length
  omega

set_option maxHeartbeats 2000000 in
theorem rof_any (s : List UInt8) (hs : s.length ≤ 1000000) (o : Int) (o0 : -9223372036854775808 ≤ o) (o1 : o ≤ 9223372036854775807) (w : World) :
    Calls Tryd.prog 13 #[.string ⟨s.toArray⟩, .int .i64 o] w fun e w' => e = .returned (.tuple #[pV (ofL s o) (ofC s o), .int .i64 (ofE s o)]) ∧ Below w.heap.size w w' := by
  by_cases h : 0 ≤ o ∧ o ≤ s.length
  · obtain ⟨h0, h1⟩ := h
    obtain ⟨K, rfl⟩ : ∃ k : Nat, o = (k : Int) := ⟨o.toNat, by omega⟩
    have e1 : ofL s K = (Pl.row (s.take K) : Nat) := by unfold ofL; rw [if_pos ⟨h0, h1⟩]; rfl
    have e2 : ofC s K = (Pl.col (s.take K) : Nat) := by unfold ofC; rw [if_pos ⟨h0, h1⟩]; rfl
    have e3 : ofE s K = 0 := by unfold ofE; rw [if_pos ⟨h0, h1⟩]
    rw [e1, e2, e3]
    clear e1 e2 e3 o0 o1
    have HN := RB.new (w := w) (cs := #[.int .i64 0, .int .i64 0]) (ds := #[.int .i64 1, .int .i64 1])
    go_enter Tryd.func13, Tryd.ntmps13
    go_wp2_with fail
    go_loopw [7] (fun i wr => ∃ k R C : Nat, k ≤ K ∧ i = .int .i64 k ∧ Hid (RB w #[.int .i64 0, .int .i64 0] #[.int .i64 R, .int .i64 C] wr) ∧ Hid (R = Pl.row (s.take k) ∧ C = Pl.col (s.take k)) ∧ R ≤ 1000001 ∧ C ≤ 1000001) (fun i _ => K - (intOf i).toNat)
    case atStart => exact ⟨0, 1, 1, Nat.zero_le _, rfl, HN, Lib.hid ⟨rfl, rfl⟩, by omega, by omega⟩
    case round =>
      clear HN
      obtain ⟨k, R, C, hk, rfl, HR, HV, hr, hc⟩ := hrel
      have r0 := HR.out.2.2.cell 0
      have r1 := HR.out.2.2.cell 1
      have f0 := HR.out.2.2.frozen 0
      have f1 := HR.out.2.2.frozen 1
      by_cases hlt : k < K
      · obtain ⟨b, hb⟩ : ∃ b, s[k]? = some b := ⟨_, List.getElem?_eq_getElem (by omega)⟩
        have hx : ∀ h, ((⟨s.toArray⟩ : ByteArray)[k]'h) = b := fun h => (List.getElem?_eq_some_iff.1 hb).2
        obtain ⟨t1, t2⟩ := take_row hb
        have hle1 := row_le (s.take (k + 1))
        have hle2 := Pl.col_le (s.take (k + 1))
        rw [List.length_take] at hle1 hle2
        have hkl : (k : Int) < (s.length : Int) := by omega
        by_cases h10 : b = 10
        · have hb10 : (b.toNat : Int) = 10 := by rw [h10]; rfl
          obtain ⟨t3, t4⟩ := t1 h10
          have HV2 : Hid (R + 1 = Pl.row (s.take (k + 1)) ∧ 1 = Pl.col (s.take (k + 1))) := Lib.hid ⟨by rw [t3, HV.out.1], t4.symm⟩
          have hr2 : R + 1 ≤ 1000001 := by have := HV2.out.1; omega
          have HR2 := RB.set (RB.set (RB.set HR 1 (.int .i64 ((C : Int) + 1))) 0 (.int .i64 ((R : Int) + 1))) 1 (.int .i64 1)
          clear t1 t2 t3 t4 hb h10 hle1 hle2 HV HR
          go_wp2_with fail
          go_roundw
          case rel => exact ⟨k + 1, R + 1, 1, by omega, by go_num, by simpa using HR2, HV2, hr2, by omega⟩
          case measure => simp [intOf]; omega
        · have hb10 : ¬ (b.toNat : Int) = 10 := by
            have : b.toNat ≠ 10 := fun e => h10 (UInt8.toNat_inj.1 e)
            omega
          obtain ⟨t3, t4⟩ := t2 h10
          have HV2 : Hid (R = Pl.row (s.take (k + 1)) ∧ C + 1 = Pl.col (s.take (k + 1))) := Lib.hid ⟨by rw [t3, HV.out.1], by rw [t4, HV.out.2]⟩
          have hc2 : C + 1 ≤ 1000001 := by have := HV2.out.2; omega
          have HR2 := RB.set HR 1 (.int .i64 ((C : Int) + 1))
          clear t1 t2 t3 t4 hb h10 hle1 hle2 HV HR
          go_wp2_with fail
          go_roundw
          case rel => exact ⟨k + 1, R, C + 1, by omega, by go_num, by simpa using HR2, HV2, hr, hc2⟩
          case measure => simp [intOf]; omega
      · obtain rfl : k = K := by omega
        have q0 := HR.out.2.1.cell 0
        have q1 := HR.out.2.1.cell 1
        have g0 := HR.out.2.1.frozen 0
        have g1 := HR.out.2.1.frozen 1
        clear hlt
        go_wp2_with fail
        refine bodyPost_ret (results_place rfl _ _ w.heap.size _ _ rfl HR.out.2.1.put2 rfl) rfl ?_
        exact ⟨ret_place (by rw [HV.out.1]) (by rw [HV.out.2]) rfl, below_put2 HR.out.1 (Nat.le_refl _)⟩
  · have e1 : ofL s o = 0 := by unfold ofL; rw [if_neg h]
    have e2 : ofC s o = 0 := by unfold ofC; rw [if_neg h]
    have e3 : ofE s o = 3 := by unfold ofE; rw [if_neg h]
    rw [e1, e2, e3]
    clear e1 e2 e3
    by_cases h0 : o < 0
    · clear h
      go_enter Tryd.func13, Tryd.ntmps13
      go_wp2_with fail
      refine bodyPost_ret (results_place rfl _ _ w.heap.size _ _ rfl (heap_alloc_new w _) rfl) rfl ?_
      exact ⟨ret_place rfl rfl rfl, below_new (Below.refl _ _) _⟩
    · have h1 : (s.length : Int) < o := by omega
      have h0' : ¬ o < 0 := h0
      clear h
      go_enter Tryd.func13, Tryd.ntmps13
      go_wp2_with fail
      refine bodyPost_ret (results_place rfl _ _ w.heap.size _ _ rfl (heap_alloc_new w _) rfl) rfl ?_
      exact ⟨ret_place rfl rfl rfl, below_new (Below.refl _ _) _⟩

set_option maxHeartbeats 4000000 in
theorem roffset_any (s : List UInt8) (hs : s.length ≤ 1000000) (l c : Int) (w : World) :
    Calls Tryd.prog 15 #[.string ⟨s.toArray⟩, pV l c] w fun e w' => e = .returned (.tuple #[.int .i64 (ofsV s l c), .int .i64 (ofsE s l c)]) ∧ Below w.heap.size w w' := by
  have HN := RB.new (w := w) (cs := #[.int .i64 l, .int .i64 c]) (ds := #[.int .i64 1, .int .i64 1])
  unfold pV
  go_enter Tryd.func15, Tryd.ntmps15
  go_wp2_with fail
  go_loopw [7] (fun i wr => ∃ k L C : Nat, k ≤ s.length + 1 ∧ i = .int .i64 k ∧ Hid (RB w #[.int .i64 l, .int .i64 c] #[.int .i64 L, .int .i64 C] wr) ∧ L ≤ k + 1 ∧ C ≤ k + 1 ∧ Hid ((k ≤ s.length ∧ Pl.offR (s.drop k) k L C l c = Pl.off s l c) ∨ (k = s.length + 1 ∧ Pl.off s l c = none))) (fun i _ => s.length + 1 - (intOf i).toNat)
  case atStart => exact ⟨0, 1, 1, Nat.zero_le _, rfl, HN, by omega, by omega, Lib.hid (.inl ⟨Nat.zero_le _, Pl.offR_off s l c⟩)⟩
  case round =>
    clear HN
    obtain ⟨k, L, C, hk, rfl, HR, hL, hC, HV⟩ := hrel
    have p0 := HR.out.2.1.cell 0
    have p1 := HR.out.2.1.cell 1
    have r0 := HR.out.2.2.cell 0
    have r1 := HR.out.2.2.cell 1
    have f0 := HR.out.2.2.frozen 0
    have f1 := HR.out.2.2.frozen 1
    by_cases hlt : k ≤ s.length
    · have hoff : Pl.offR (s.drop k) k L C l c = Pl.off s l c := by rcases HV.out with h | h; exact h.2; omega
      have hki : ¬ (s.length : Int) < (k : Int) := by omega
      by_cases heq : (L : Int) = l ∧ (C : Int) = c
      · have ho : Pl.off s l c = some k := by
          rw [← hoff]
          cases hd : s.drop k with
          | nil => rw [Pl.offR, if_pos heq]
          | cons b r => rw [Pl.offR, if_pos heq]
        have HF : Hid (ofsV s l c = (k : Int) ∧ ofsE s l c = 0) := Lib.hid (by unfold ofsV ofsE; rw [ho]; exact ⟨rfl, rfl⟩)
        obtain ⟨h1, h2⟩ := heq
        subst h1 h2
        clear hoff ho HV
        go_wp2_with fail
        go_ret2
        exact ⟨by rw [HF.out.1, HF.out.2]; rfl, HR.out.1⟩
      · have hcase : ((L : Int) == l) = false ∨ ((L : Int) = l ∧ ((C : Int) == c) = false) := by
          by_cases h1 : (L : Int) = l
          · exact .inr ⟨h1, by simpa using fun e => heq ⟨h1, e⟩⟩
          · exact .inl (by simpa using h1)
        by_cases hlt2 : k < s.length
        · obtain ⟨b, hb⟩ : ∃ b, s[k]? = some b := ⟨_, List.getElem?_eq_getElem hlt2⟩
          have hx : ∀ h, ((⟨s.toArray⟩ : ByteArray)[k]'h) = b := fun h => (List.getElem?_eq_some_iff.1 hb).2
          have hd : s.drop k = b :: s.drop (k + 1) := by
            obtain ⟨h1, h2⟩ := List.getElem?_eq_some_iff.1 hb
            rw [← h2]; exact (List.getElem_cons_drop h1).symm
          rw [hd, Pl.offR, if_neg heq] at hoff
          have hki2 : (k : Int) < (s.length : Int) := by omega
          by_cases h10 : b = 10
          · rw [if_pos h10] at hoff
            have hb10 : (b.toNat : Int) = 10 := by rw [h10]; rfl
            have HV2 : Hid ((k + 1 ≤ s.length ∧ Pl.offR (s.drop (k + 1)) (k + 1) (L + 1) 1 l c = Pl.off s l c) ∨ (k + 1 = s.length + 1 ∧ Pl.off s l c = none)) := Lib.hid (.inl ⟨by omega, hoff⟩)
            have HR2 := RB.set (RB.set (RB.set HR 1 (.int .i64 ((C : Int) + 1))) 0 (.int .i64 ((L : Int) + 1))) 1 (.int .i64 1)
            clear hoff hd hb h10 heq HV HR
            rcases hcase with hne | ⟨rfl, hne⟩
            · go_wp2_with fail
              go_roundw
              case rel => exact ⟨k + 1, L + 1, 1, by omega, by go_num, by simpa using HR2, by omega, by omega, HV2⟩
              case measure => simp [intOf]; omega
            · go_wp2_with fail
              go_roundw
              case rel => exact ⟨k + 1, L + 1, 1, by omega, by go_num, by simpa using HR2, by omega, by omega, HV2⟩
              case measure => simp [intOf]; omega
          · rw [if_neg h10] at hoff
            have hb10 : ¬ (b.toNat : Int) = 10 := by
              have : b.toNat ≠ 10 := fun e => h10 (UInt8.toNat_inj.1 e)
              omega
            have HV2 : Hid ((k + 1 ≤ s.length ∧ Pl.offR (s.drop (k + 1)) (k + 1) L (C + 1) l c = Pl.off s l c) ∨ (k + 1 = s.length + 1 ∧ Pl.off s l c = none)) := Lib.hid (.inl ⟨by omega, hoff⟩)
            have HR2 := RB.set HR 1 (.int .i64 ((C : Int) + 1))
            clear hoff hd hb h10 heq HV HR
            rcases hcase with hne | ⟨rfl, hne⟩
            · go_wp2_with fail
              go_roundw
              case rel => exact ⟨k + 1, L, C + 1, by omega, by go_num, by simpa using HR2, by omega, by omega, HV2⟩
              case measure => simp [intOf]; omega
            · go_wp2_with fail
              go_roundw
              case rel => exact ⟨k + 1, L, C + 1, by omega, by go_num, by simpa using HR2, by omega, by omega, HV2⟩
              case measure => simp [intOf]; omega
        · obtain rfl : k = s.length := by omega
          rw [List.drop_length, Pl.offR, if_neg heq] at hoff
          have HV2 : Hid ((s.length + 1 ≤ s.length ∧ Pl.offR (s.drop (s.length + 1)) (s.length + 1) L (C + 1) l c = Pl.off s l c) ∨ (s.length + 1 = s.length + 1 ∧ Pl.off s l c = none)) := Lib.hid (.inr ⟨rfl, hoff.symm⟩)
          have HR2 := RB.set HR 1 (.int .i64 ((C : Int) + 1))
          clear hoff heq HV HR hlt2 hlt
          rcases hcase with hne | ⟨rfl, hne⟩
          · go_wp2_with fail
            go_roundw
            case rel => exact ⟨s.length + 1, L, C + 1, by omega, by go_num, by simpa using HR2, by omega, by omega, HV2⟩
            case measure => simp [intOf]
          · go_wp2_with fail
            go_roundw
            case rel => exact ⟨s.length + 1, L, C + 1, by omega, by go_num, by simpa using HR2, by omega, by omega, HV2⟩
            case measure => simp [intOf]
    · have hn : Pl.off s l c = none := by rcases HV.out with h | h; omega; exact h.2
      have HF : Hid (ofsV s l c = 0 ∧ ofsE s l c = 3) := Lib.hid (by unfold ofsV ofsE; rw [hn]; exact ⟨rfl, rfl⟩)
      have hki : (s.length : Int) < (k : Int) := by omega
      clear hn HV hlt
      go_wp2_with fail
      go_ret2
      exact ⟨by rw [HF.out.1, HF.out.2]; rfl, HR.out.1⟩
end Go.Proofs.YtmoeglecdojhcaaDoor

/-
  LAYER 42: scripts as the document says: the statement's walk.
-/
import Derived.Test.YtphpgbbjbncfoaaGreatDoorCom15
import Derived.Test.YtphpgbbjbncfoaaGreatDoorCom16
import Derived.Test.YtphpgbbjbncfoaaGreatDoorComW1
import Derived.Test.YtphpgbbjbncfoaaGreatDoorComGA
import Derived.Test.YtphpgbbjbncfoaaGreatDoorRef9
import Derived.Test.YtphpgbbjbncfoaaGreatDoorRef10
import Derived.Deep.CutBlock
import Derived.Deep.DeepCutAuto
namespace Go.Proofs.YtphpgbbjbncfoaaGreatDoor
open Go.ChangeShapes Go.WideShapes Go.ChangeAt Go.RowKit

theorem goAll_len : ∀ (ps : List (List UInt8)) (n : Nat) (out : List Cmd.C), out.length ≤ 500 → (goAll n out ps).1.length ≤ 500
  | [], _, _, h => h
  | p :: r, n, out, h => by
    rw [goAll]
    split
    · exact goAll_len r _ _ h
    · split
      · simp
      · split
        · simp
        · split
          · exact goAll_len r _ _ (by rw [List.length_append, List.length_singleton]; omega)
          · simp
theorem flat_len (l : List Cmd.C) : (l.flatMap cC).length = l.length * 4 := by
  induction l with
  | nil => rfl
  | cons c r ih => rw [List.flatMap_cons, List.length_append, ih, cC_len, List.length_cons]; omega
theorem rep_snoc (j : Nat) (l : List Cmd.C) : (List.replicate (j + 1) l).flatten = (List.replicate j l).flatten ++ l := by
  rw [List.replicate_succ', List.flatten_append]; simp
set_option maxHeartbeats 4000000 in
set_option maxRecDepth 20000 in
theorem alls_some (A : Option Addr) (cap : Nat) (l : List Cmd.C) (t : Int) (t0 : 0 ≤ t) (t1 : t ≤ 255) (s : List UInt8) (hl : ¬ 60 < l.length) (hs : (¬ 3000 < s.length ∨ ¬ s.length ≤ 20000) ∧ ¬ 20010 < s.length) (w : World) (hg : ∀ x ∈ l, okA x) (hrd : Rd w w.heap.size A (l.flatMap cC)) (hG : Good w) :
    Calls Tryz.prog 11 #[.slice A l.length cap, .int .u8 t, .string ⟨s.toArray⟩] w fun e w' => e = .returned (.bool true) ∧ Below w.heap.size w w' := by
  obtain ⟨i0, hi, hz0, hz1, hz2⟩ := info_parts info_cmd
  have HI : Hid (FInv w w) := Lib.hid ⟨hG, Below.refl _ _⟩
  have HR := Lib.hid hrd
  have HGo := Lib.hid hg
  have HG := Lib.hid hG
  clear hG hrd hg
  have k1 : ¬ (60 : Int) < (l.length : Int) := by omega
  have k4 : ¬ (20010 : Int) < (s.length : Int) := by omega
  have kk : ((3000 : Int) < (s.length : Int) ∧ ¬ (s.length : Int) ≤ 20000) ∨ ¬ (3000 : Int) < (s.length : Int) := by omega
  have hsl : s.length ≤ 100000 := by omega
  clear hs
  go_enter Tryz.func11, Tryz.ntmps11
  rcases kk with ⟨k2, k3⟩ | k2
  · go_wp2_with fail
    go_loopw [8] (fun i wr => ∃ k : Nat, k ≤ l.length ∧ i = .int .i64 k ∧ Hid (FInv w wr) ∧ Hid (∀ x ∈ l.take k, x.val.length ≤ 300 ∧ x.name.length ≤ 300)) (fun i _ => l.length - (intOf i).toNat)
    case atStart => exact ⟨0, Nat.zero_le _, rfl, HI, Lib.hid (by simp)⟩
    case round =>
      obtain ⟨k, hk, rfl, HI, HL⟩ := hrel
      by_cases hlt : k < l.length
      · obtain ⟨⟨q, a, n, v⟩, hv⟩ : ∃ v, l[k]? = some v := ⟨_, List.getElem?_eq_getElem hlt⟩
        obtain ⟨b1, o1, rfl, _, hc1⟩ := (HR.out.below HI.out.2).row (fun _ _ => cC_len _) hv (by decide)
        have x2 : wr.cell? ⟨b1, o1 + k * 4 + 2, none⟩ = some (.string ⟨n.toArray⟩) := hc1 2 _ rfl
        have x3 : wr.cell? ⟨b1, o1 + k * 4 + 3, none⟩ = some (.string ⟨v.toArray⟩) := hc1 3 _ rfl
        have j1 : (0 : Int) ≤ (k : Int) := by omega
        have j3 : (k : Int) < (l.length : Int) := by omega
        have HV := Lib.hid hv
        clear hc1 hv
        by_cases hvl : 300 < v.length
        · have z1 : (300 : Int) < (v.length : Int) := by omega
          go_wp2_with fail
          refine (works_any _ (FInv.good HI)).mono ?_
          rintro e w2 ⟨rfl, hb⟩
          have HI := FInv.call HI hb
          clear hb
          go_wp2_with fail
          go_ret
          exact ⟨rfl, HI.out.2⟩
        have z1 : ¬ (300 : Int) < (v.length : Int) := by omega
        by_cases hnl : 300 < n.length
        · have z2 : (300 : Int) < (n.length : Int) := by omega
          go_wp2_with fail
          refine (works_any _ (FInv.good HI)).mono ?_
          rintro e w2 ⟨rfl, hb⟩
          have HI := FInv.call HI hb
          clear hb
          go_wp2_with fail
          go_ret
          exact ⟨rfl, HI.out.2⟩
        have z2 : ¬ (300 : Int) < (n.length : Int) := by omega
        have HL2 : Hid (∀ x ∈ l.take (k + 1), x.val.length ≤ 300 ∧ x.name.length ≤ 300) := Lib.hid (by
          rw [take_snoc HV.out]
          intro y hy
          rcases List.mem_append.1 hy with hy | hy
          · exact HL.out y hy
          · rw [List.mem_singleton.1 hy]; exact ⟨by show v.length ≤ 300; omega, by show n.length ≤ 300; omega⟩)
        go_wp2_with fail
        go_roundw
        case rel => exact ⟨k + 1, by omega, by go_num, HI, HL2⟩
        case measure => simp [intOf]; omega
      · obtain rfl : k = l.length := by omega
        rw [List.take_length] at HL
        go_wp2_with fail
        obtain ⟨N, hN⟩ : ∃ N : Nat, t % 10 = N := ⟨(t % 10).toNat, by omega⟩
        have hN9 : N ≤ 9 := by omega
        go_loopw [7, 9] (fun v i wr => ∃ j : Nat, j ≤ N + 1 ∧ i = .int .i64 j ∧ Hid (FInv w wr) ∧ Hid (wr.ownsRow w.heap.size 24 4 v (j * l.length) ((List.replicate j l).flatten.flatMap cC)) ∧ (l = [] → v = .slice none 0 0)) (fun _ i _ => N + 1 - (intOf i).toNat)
        case atStart => exact ⟨0, Nat.zero_le _, rfl, HI, Lib.hid (by rw [Nat.zero_mul]; exact World.ownsRow_nil _ _ _ _), fun _ => rfl⟩
        case round =>
          obtain ⟨j, hj, rfl, HI, HO, hnil⟩ := hrel
          by_cases hjN : j ≤ N
          · have j1 : (j : Int) ≤ (N : Int) := by omega
            by_cases hne : l = []
            · subst hne
              obtain rfl := hnil rfl
              have HO2 : Hid (wr.ownsRow w.heap.size 24 4 (.slice none 0 0) ((j + 1) * ([] : List Cmd.C).length) ((List.replicate (j + 1) ([] : List Cmd.C)).flatten.flatMap cC)) := Lib.hid (by simp; exact World.ownsRow_nil _ _ _ _)
              cases A
              all_goals
                go_wp2_with fail
                (try go_wp2_with fail)
                go_roundw
                case rel => exact ⟨j + 1, by omega, by go_num, HI, HO2, by simp⟩
                case measure => simp [intOf]; omega
            · obtain ⟨b, o, rfl, _, hc⟩ := (HR.out.below HI.out.2) (by
                intro e
                cases l with
                | nil => exact hne rfl
                | cons c r => rw [List.flatMap_cons] at e; exact absurd e (by simp [cC]))
              have hown := HO.out
              have hjl : j * l.length ≤ 10 * 60 := Nat.mul_le_mul (by omega) (by omega)
              go_wp2_with (at_builtin; refine wpList_append_own _ rfl _ _ 22 rfl w.heap.size 24 i0 (.agg #[.int .i64 0, .int .i64 0, .string ⟨#[]⟩, .string ⟨#[]⟩]) 4 48 Tryz.underlying22 hi hz0 hz1 hz2 rfl (by decide) _ _ _ rfl hown ⟨b, o, none⟩ l.length cap (l.flatMap cC) rfl ?c1 ?c2 ?c3 ?c4 ?c5 ?c6 ?_)
              case c1 => exact flat_len l
              case c2 =>
                intro i u h
                have hh := hc i u h
                cases i with
                | zero => simpa [Addr.add] using hh
                | succ i => simpa [Addr.add] using hh
              case c3 =>
                intro u hu
                obtain ⟨c, _, hu⟩ := List.mem_flatMap.1 hu
                simp [cC] at hu
                rcases hu with rfl | rfl | rfl | rfl <;> rfl
              case c4 => unfold maxLen; omega
              case c5 => omega
              case c6 => exact HI.out.2.size
              intro v' w2 hown2 hg2 _
              have HI2 := FInv.of HG.out (HI.out.2.grown hg2 HI.out.2.size (fun g hg => (hown.lt g hg).1))
              have HO2 : Hid (w2.ownsRow w.heap.size 24 4 v' ((j + 1) * l.length) ((List.replicate (j + 1) l).flatten.flatMap cC)) := Lib.hid (by
                rw [Nat.succ_mul, rep_snoc, List.flatMap_append]
                exact hown2)
              clear hown hown2 hg2 hc
              go_wp2_with fail
              go_roundw
              case rel => exact ⟨j + 1, by omega, by go_num, HI2, HO2, fun e => absurd e hne⟩
              case measure => simp [intOf]; omega
          · have j1 : ¬ (j : Int) ≤ (N : Int) := by omega
            obtain rfl : j = N + 1 := by omega
            obtain ⟨al, hal⟩ : ∃ x, (List.replicate (N + 1) l).flatten = x := ⟨_, rfl⟩
            have hlen : (N + 1) * l.length = al.length := by rw [← hal]; simp
            have hao : ∀ c ∈ al, okC c ∧ -9223372036854775808 ≤ c.a := by
              intro c hc
              rw [← hal] at hc
              obtain ⟨m, hm, hcm⟩ := List.mem_flatten.1 hc
              rw [(List.mem_replicate.1 hm).2] at hcm
              have h1 := HL.out c hcm
              have h2 := HGo.out c hcm
              exact ⟨⟨by omega, by omega, h2.2⟩, h2.1⟩
            have hal9 : al.length ≤ 1000000 := by rw [← hlen]; exact Nat.le_trans (Nat.mul_le_mul (show N + 1 ≤ 10 by omega) (show l.length ≤ 60 by omega)) (by decide)
            rw [hal, hlen] at HO
            obtain ⟨A4, cap4, rfl, r4⟩ := own_slice HO.out
            have HR4 := Lib.hid r4
            clear r4 hal hlen
            go_wp2_with fail
            refine (printAll_any A4 cap4 al hal9 (fun c hc => (hao c hc).1) _ HR4.out (FInv.good HI)).mono ?_
            rintro e w3 ⟨rfl, hb⟩
            have HI := FInv.call HI hb
            have HR5 : Hid (Rd w3 w3.heap.size A4 (al.flatMap cC)) := Lib.hid ((HR4.out.below hb).more hb.size)
            clear hb
            go_wp2_with fail
            refine (rprintAll_any A4 cap4 al hal9 hao _ HR5.out).mono ?_
            rintro e w4 ⟨rfl, hb⟩
            have HI := FInv.call HI hb
            clear hb
            generalize scriptS al = PS at *
            generalize scriptE al = PE at *
            go_wp2_with fail
            refine (parseAll_any s hsl _ (FInv.good HI)).mono ?_
            rintro e w5 ⟨v5, rfl, o5, hb⟩
            obtain ⟨A5, cap5, rfl, r5⟩ := own_slice o5
            have HI := FInv.call HI hb
            have HR6 := Lib.hid r5
            clear hb o5 r5
            go_wp2_with fail
            refine (rparseAll_any s hsl _).mono ?_
            rintro e w6 ⟨v6, rfl, o6, hb⟩
            obtain ⟨A6, cap6, rfl, r6⟩ := own_slice o6
            have HI := FInv.call HI hb
            have HR6 := Lib.hid ((HR6.out.below hb).more hb.size)
            have HR7 := Lib.hid r6
            clear hb o6 r6
            have hrl : (allR s).1.length ≤ 1000000 := Nat.le_trans (goAll_len _ 0 [] (by simp)) (by decide)
            generalize allR s = AR at *
            obtain ⟨RL, RN, RE⟩ := AR
            simp only at HR6 HR7 hrl ⊢
            go_wp2_with fail
            refine (same_any A5 A6 cap5 cap6 RL RL hrl _ HR6.out HR7.out).mono ?_
            rintro e w7 ⟨rfl, hb⟩
            have HI := FInv.call HI hb
            clear hb
            rw [decide_eq_true rfl]
            go_wp2_with fail
            refine (works_any _ (FInv.good HI)).mono ?_
            rintro e w8 ⟨rfl, hb⟩
            have HI := FInv.call HI hb
            clear hb
            go_wp2_with fail
            go_ret
            exact ⟨rfl, HI.out.2⟩
  · go_wp2_with fail
    go_loopw [8] (fun i wr => ∃ k : Nat, k ≤ l.length ∧ i = .int .i64 k ∧ Hid (FInv w wr) ∧ Hid (∀ x ∈ l.take k, x.val.length ≤ 300 ∧ x.name.length ≤ 300)) (fun i _ => l.length - (intOf i).toNat)
    case atStart => exact ⟨0, Nat.zero_le _, rfl, HI, Lib.hid (by simp)⟩
    case round =>
      obtain ⟨k, hk, rfl, HI, HL⟩ := hrel
      by_cases hlt : k < l.length
      · obtain ⟨⟨q, a, n, v⟩, hv⟩ : ∃ v, l[k]? = some v := ⟨_, List.getElem?_eq_getElem hlt⟩
        obtain ⟨b1, o1, rfl, _, hc1⟩ := (HR.out.below HI.out.2).row (fun _ _ => cC_len _) hv (by decide)
        have x2 : wr.cell? ⟨b1, o1 + k * 4 + 2, none⟩ = some (.string ⟨n.toArray⟩) := hc1 2 _ rfl
        have x3 : wr.cell? ⟨b1, o1 + k * 4 + 3, none⟩ = some (.string ⟨v.toArray⟩) := hc1 3 _ rfl
        have j1 : (0 : Int) ≤ (k : Int) := by omega
        have j3 : (k : Int) < (l.length : Int) := by omega
        have HV := Lib.hid hv
        clear hc1 hv
        by_cases hvl : 300 < v.length
        · have z1 : (300 : Int) < (v.length : Int) := by omega
          go_wp2_with fail
          refine (works_any _ (FInv.good HI)).mono ?_
          rintro e w2 ⟨rfl, hb⟩
          have HI := FInv.call HI hb
          clear hb
          go_wp2_with fail
          go_ret
          exact ⟨rfl, HI.out.2⟩
        have z1 : ¬ (300 : Int) < (v.length : Int) := by omega
        by_cases hnl : 300 < n.length
        · have z2 : (300 : Int) < (n.length : Int) := by omega
          go_wp2_with fail
          refine (works_any _ (FInv.good HI)).mono ?_
          rintro e w2 ⟨rfl, hb⟩
          have HI := FInv.call HI hb
          clear hb
          go_wp2_with fail
          go_ret
          exact ⟨rfl, HI.out.2⟩
        have z2 : ¬ (300 : Int) < (n.length : Int) := by omega
        have HL2 : Hid (∀ x ∈ l.take (k + 1), x.val.length ≤ 300 ∧ x.name.length ≤ 300) := Lib.hid (by
          rw [take_snoc HV.out]
          intro y hy
          rcases List.mem_append.1 hy with hy | hy
          · exact HL.out y hy
          · rw [List.mem_singleton.1 hy]; exact ⟨by show v.length ≤ 300; omega, by show n.length ≤ 300; omega⟩)
        go_wp2_with fail
        go_roundw
        case rel => exact ⟨k + 1, by omega, by go_num, HI, HL2⟩
        case measure => simp [intOf]; omega
      · obtain rfl : k = l.length := by omega
        rw [List.take_length] at HL
        go_wp2_with fail
        obtain ⟨N, hN⟩ : ∃ N : Nat, t % 10 = N := ⟨(t % 10).toNat, by omega⟩
        have hN9 : N ≤ 9 := by omega
        go_loopw [7, 9] (fun v i wr => ∃ j : Nat, j ≤ N + 1 ∧ i = .int .i64 j ∧ Hid (FInv w wr) ∧ Hid (wr.ownsRow w.heap.size 24 4 v (j * l.length) ((List.replicate j l).flatten.flatMap cC)) ∧ (l = [] → v = .slice none 0 0)) (fun _ i _ => N + 1 - (intOf i).toNat)
        case atStart => exact ⟨0, Nat.zero_le _, rfl, HI, Lib.hid (by rw [Nat.zero_mul]; exact World.ownsRow_nil _ _ _ _), fun _ => rfl⟩
        case round =>
          obtain ⟨j, hj, rfl, HI, HO, hnil⟩ := hrel
          by_cases hjN : j ≤ N
          · have j1 : (j : Int) ≤ (N : Int) := by omega
            by_cases hne : l = []
            · subst hne
              obtain rfl := hnil rfl
              have HO2 : Hid (wr.ownsRow w.heap.size 24 4 (.slice none 0 0) ((j + 1) * ([] : List Cmd.C).length) ((List.replicate (j + 1) ([] : List Cmd.C)).flatten.flatMap cC)) := Lib.hid (by simp; exact World.ownsRow_nil _ _ _ _)
              cases A
              all_goals
                go_wp2_with fail
                (try go_wp2_with fail)
                go_roundw
                case rel => exact ⟨j + 1, by omega, by go_num, HI, HO2, by simp⟩
                case measure => simp [intOf]; omega
            · obtain ⟨b, o, rfl, _, hc⟩ := (HR.out.below HI.out.2) (by
                intro e
                cases l with
                | nil => exact hne rfl
                | cons c r => rw [List.flatMap_cons] at e; exact absurd e (by simp [cC]))
              have hown := HO.out
              have hjl : j * l.length ≤ 10 * 60 := Nat.mul_le_mul (by omega) (by omega)
              go_wp2_with (at_builtin; refine wpList_append_own _ rfl _ _ 22 rfl w.heap.size 24 i0 (.agg #[.int .i64 0, .int .i64 0, .string ⟨#[]⟩, .string ⟨#[]⟩]) 4 48 Tryz.underlying22 hi hz0 hz1 hz2 rfl (by decide) _ _ _ rfl hown ⟨b, o, none⟩ l.length cap (l.flatMap cC) rfl ?c1 ?c2 ?c3 ?c4 ?c5 ?c6 ?_)
              case c1 => exact flat_len l
              case c2 =>
                intro i u h
                have hh := hc i u h
                cases i with
                | zero => simpa [Addr.add] using hh
                | succ i => simpa [Addr.add] using hh
              case c3 =>
                intro u hu
                obtain ⟨c, _, hu⟩ := List.mem_flatMap.1 hu
                simp [cC] at hu
                rcases hu with rfl | rfl | rfl | rfl <;> rfl
              case c4 => unfold maxLen; omega
              case c5 => omega
              case c6 => exact HI.out.2.size
              intro v' w2 hown2 hg2 _
              have HI2 := FInv.of HG.out (HI.out.2.grown hg2 HI.out.2.size (fun g hg => (hown.lt g hg).1))
              have HO2 : Hid (w2.ownsRow w.heap.size 24 4 v' ((j + 1) * l.length) ((List.replicate (j + 1) l).flatten.flatMap cC)) := Lib.hid (by
                rw [Nat.succ_mul, rep_snoc, List.flatMap_append]
                exact hown2)
              clear hown hown2 hg2 hc
              go_wp2_with fail
              go_roundw
              case rel => exact ⟨j + 1, by omega, by go_num, HI2, HO2, fun e => absurd e hne⟩
              case measure => simp [intOf]; omega
          · have j1 : ¬ (j : Int) ≤ (N : Int) := by omega
            obtain rfl : j = N + 1 := by omega
            obtain ⟨al, hal⟩ : ∃ x, (List.replicate (N + 1) l).flatten = x := ⟨_, rfl⟩
            have hlen : (N + 1) * l.length = al.length := by rw [← hal]; simp
            have hao : ∀ c ∈ al, okC c ∧ -9223372036854775808 ≤ c.a := by
              intro c hc
              rw [← hal] at hc
              obtain ⟨m, hm, hcm⟩ := List.mem_flatten.1 hc
              rw [(List.mem_replicate.1 hm).2] at hcm
              have h1 := HL.out c hcm
              have h2 := HGo.out c hcm
              exact ⟨⟨by omega, by omega, h2.2⟩, h2.1⟩
            have hal9 : al.length ≤ 1000000 := by rw [← hlen]; exact Nat.le_trans (Nat.mul_le_mul (show N + 1 ≤ 10 by omega) (show l.length ≤ 60 by omega)) (by decide)
            rw [hal, hlen] at HO
            obtain ⟨A4, cap4, rfl, r4⟩ := own_slice HO.out
            have HR4 := Lib.hid r4
            clear r4 hal hlen
            go_wp2_with fail
            refine (printAll_any A4 cap4 al hal9 (fun c hc => (hao c hc).1) _ HR4.out (FInv.good HI)).mono ?_
            rintro e w3 ⟨rfl, hb⟩
            have HI := FInv.call HI hb
            have HR5 : Hid (Rd w3 w3.heap.size A4 (al.flatMap cC)) := Lib.hid ((HR4.out.below hb).more hb.size)
            clear hb
            go_wp2_with fail
            refine (rprintAll_any A4 cap4 al hal9 hao _ HR5.out).mono ?_
            rintro e w4 ⟨rfl, hb⟩
            have HI := FInv.call HI hb
            clear hb
            generalize scriptS al = PS at *
            generalize scriptE al = PE at *
            go_wp2_with fail
            refine (parseAll_any s hsl _ (FInv.good HI)).mono ?_
            rintro e w5 ⟨v5, rfl, o5, hb⟩
            obtain ⟨A5, cap5, rfl, r5⟩ := own_slice o5
            have HI := FInv.call HI hb
            have HR6 := Lib.hid r5
            clear hb o5 r5
            go_wp2_with fail
            refine (rparseAll_any s hsl _).mono ?_
            rintro e w6 ⟨v6, rfl, o6, hb⟩
            obtain ⟨A6, cap6, rfl, r6⟩ := own_slice o6
            have HI := FInv.call HI hb
            have HR6 := Lib.hid ((HR6.out.below hb).more hb.size)
            have HR7 := Lib.hid r6
            clear hb o6 r6
            have hrl : (allR s).1.length ≤ 1000000 := Nat.le_trans (goAll_len _ 0 [] (by simp)) (by decide)
            generalize allR s = AR at *
            obtain ⟨RL, RN, RE⟩ := AR
            simp only at HR6 HR7 hrl ⊢
            go_wp2_with fail
            refine (same_any A5 A6 cap5 cap6 RL RL hrl _ HR6.out HR7.out).mono ?_
            rintro e w7 ⟨rfl, hb⟩
            have HI := FInv.call HI hb
            clear hb
            rw [decide_eq_true rfl]
            go_wp2_with fail
            refine (works_any _ (FInv.good HI)).mono ?_
            rintro e w8 ⟨rfl, hb⟩
            have HI := FInv.call HI hb
            clear hb
            go_wp2_with fail
            go_ret
            exact ⟨rfl, HI.out.2⟩
set_option maxHeartbeats 4000000 in
set_option maxRecDepth 20000 in
theorem commandAlls_walk (w : World) (A : Option Addr) (cap : Nat) (l : List Cmd.C) (_ : l.length ≤ cap) (_ : cap ≤ maxLen) (hg : ∀ x ∈ l, okA x) (hrd : Rd w w.heap.size A (l.flatMap cC)) (t : Int) (t0 : 0 ≤ t) (t1 : t ≤ 255) (s : ByteArray) (_ : s.size ≤ maxLen) (hG : Good w) :
    Calls Tryz.prog 11 #[.slice A l.length cap, .int .u8 t, .string s] w fun e w' => e = .returned (.bool true) ∧ Below w.heap.size w w' := by
  obtain ⟨s, rfl⟩ : ∃ l : List UInt8, s = ⟨l.toArray⟩ := ⟨s.data.toList, rfl⟩
  by_cases h : ¬ 60 < l.length ∧ (¬ 3000 < s.length ∨ ¬ s.length ≤ 20000) ∧ ¬ 20010 < s.length
  · exact alls_some A cap l t t0 t1 s h.1 h.2 w hg hrd hG
  have HI : Hid (FInv w w) := Lib.hid ⟨hG, Below.refl _ _⟩
  clear hG hg hrd
  by_cases h1 : 60 < l.length
  · have k1 : (60 : Int) < (l.length : Int) := by omega
    go_enter Tryz.func11, Tryz.ntmps11
    go_wp2_with fail
    refine (works_any _ (FInv.good HI)).mono ?_
    rintro e w2 ⟨rfl, b⟩
    have HI := FInv.call HI b
    clear b
    go_wp2_with fail
    go_ret
    exact ⟨rfl, HI.out.2⟩
  by_cases h2 : 3000 < s.length ∧ s.length ≤ 20000
  · have k1 : ¬ (60 : Int) < (l.length : Int) := by omega
    have k2 : (3000 : Int) < (s.length : Int) := by omega
    have k3 : (s.length : Int) ≤ 20000 := by omega
    go_enter Tryz.func11, Tryz.ntmps11
    go_wp2_with fail
    refine (works_any _ (FInv.good HI)).mono ?_
    rintro e w2 ⟨rfl, b⟩
    have HI := FInv.call HI b
    clear b
    go_wp2_with fail
    go_ret
    exact ⟨rfl, HI.out.2⟩
  · have k1 : ¬ (60 : Int) < (l.length : Int) := by omega
    have k2 : (3000 : Int) < (s.length : Int) := by omega
    have k3 : ¬ (s.length : Int) ≤ 20000 := by omega
    have k4 : (20010 : Int) < (s.length : Int) := by omega
    go_enter Tryz.func11, Tryz.ntmps11
    go_wp2_with fail
    refine (works_any _ (FInv.good HI)).mono ?_
    rintro e w2 ⟨rfl, b⟩
    have HI := FInv.call HI b
    clear b
    go_wp2_with fail
    go_ret
    exact ⟨rfl, HI.out.2⟩
end Go.Proofs.YtphpgbbjbncfoaaGreatDoor

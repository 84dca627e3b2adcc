/-
  LAYER 42: as many, and as long, as is allowed: the statement's walk.
-/
import Derived.Test.YtphpgbbjbncfoaaGreatDoorComMP
import Derived.Test.YtphpgbbjbncfoaaGreatDoorComNW
import Derived.Test.YtphpgbbjbncfoaaGreatDoorCom16
namespace Go.Proofs.YtphpgbbjbncfoaaGreatDoor
open Go.ChangeShapes Go.WideShapes Go.ChangeAt Go.RowKit

set_option maxHeartbeats 16000000 in
set_option maxRecDepth 20000 in
theorem commandMany_walk (w : World) (more : Int) (h0 : 0 ≤ more) (h1 : more ≤ 255) (hG : Good w) :
    Calls Tryz.prog 3 #[.int .u8 more] w fun e w' => e = .returned (.bool true) ∧ Below w.heap.size w w' := by
  obtain ⟨i0, hi, hz0, hz1, hz2⟩ := info_parts info_cmd
  obtain ⟨j0, hj, hy0, hy1, hy2⟩ := info_parts info_u8
  have HI : Hid (FInv w w) := Lib.hid ⟨hG, Below.refl _ _⟩
  have HG := Lib.hid hG
  clear hG
  obtain ⟨N, hN⟩ : ∃ N : Nat, 501 + more % 20 = N := ⟨(501 + more % 20).toNat, by omega⟩
  have hN2 : 501 ≤ N ∧ N ≤ 520 := by omega
  have hNt : 501 + Int.tmod more 20 = N := by rw [Int.tmod_eq_emod_of_nonneg h0]; exact hN
  have hrow : Hid (∀ n, (madeCells (cC Cmd.zero).toArray (n * 4)).toList = (List.replicate n Cmd.zero).flatMap cC) := Lib.hid fun n => made_rows cC 4 Cmd.zero rfl (by decide) n
  obtain ⟨P, hP⟩ : ∃ P, script (many 500) = P := ⟨_, rfl⟩
  have hPl := many_len 500
  have hPs := many_says
  have hP1 := many_more1
  have hP2 := many_more2
  have hsg := script_good (cs := many 500) (by rw [many_length]; exact Nat.le_refl _) (many_ok 500)
  rw [hP] at hPl hPs hP1 hP2 hsg
  have HPs := Lib.hid hPs
  have HP1 := Lib.hid hP1
  have HP2 := Lib.hid hP2
  have HSg := Lib.hid hsg
  clear hP hPs hP1 hP2 hsg
  go_enter Tryz.func3, Tryz.ntmps3
  go_wp2_with (refine wpList_make_full _ rfl _ _ 22 rfl w.heap.size 24 i0 (.agg #[.int .i64 0, .int .i64 0, .string ⟨#[]⟩, .string ⟨#[]⟩]) 4 Tryz.underlying22 hi hz0 hz1 .i64 .i64 _ _ N rfl rfl (by omega) (by omega) (by rw [hz2]; omega) (by unfold maxLen; omega) (Nat.le_refl _) ?_)
  intro w2 hown hgr
  have hown' : w2.ownsRow w.heap.size 24 4 (.slice (some ⟨w.heap.size, 0, none⟩) N N) N ((turned stepC Cmd.zero N 0).flatMap cC) := by
    rw [turned_none, ← hrow.out]
    exact hown
  have HB : Hid (Blk w2 w.heap.size 24 ((turned stepC Cmd.zero N 0).flatMap cC).toArray) := Lib.hid (blk_of_made hown' (by omega))
  have HI := FInv.of HG.out ((Below.refl _ w).grown hgr (Nat.le_refl _) (fun g hg => by cases hg))
  clear hown hown' hgr
  go_wp2_with fail
  go_loopw [5] (fun i wr => ∃ k : Nat, k ≤ N ∧ i = .int .i64 k ∧ Hid (FInv w wr) ∧ Hid (Blk wr w.heap.size 24 ((turned stepC Cmd.zero N k).flatMap cC).toArray)) (fun i _ => N - (intOf i).toNat)
  case atStart => exact ⟨0, Nat.zero_le _, rfl, HI, HB⟩
  case round =>
    obtain ⟨k, hk, rfl, HI, HB⟩ := hrel
    by_cases hlt : k < N
    · have k1 : (0 : Int) ≤ (k : Int) := by omega
      have k2 : (k : Int) < (N : Int) := by omega
      have hat := flatMap_get cC 4 (turned stepC Cmd.zero N k) (fun _ _ => rfl) k 0 Cmd.zero (turned_at _ _ hlt) (by decide)
      rw [Nat.add_zero] at hat
      have s0 : wr.cell? ⟨w.heap.size, k * 4, none⟩ = some (.int .i64 0) := (HB.out.cell (k * 4)).trans (by rw [List.getElem?_toArray, hat]; rfl)
      have fr := HB.out.frozen (k * 4)
      have hset := flatMap_set cC 4 (fun _ => rfl) (turned stepC Cmd.zero N k) k 0 Cmd.zero stepC (.int .i64 3) (turned_at _ _ hlt) (by decide) rfl
      rw [turned_set _ _ hlt, Nat.add_zero] at hset
      have HB2 : Hid (Blk (wr.setCell ⟨w.heap.size, k * 4, none⟩ (.int .i64 3)) w.heap.size 24 ((turned stepC Cmd.zero N (k + 1)).flatMap cC).toArray) := Lib.hid (by rw [← hset]; exact blk_put HB.out _ _)
      have HI2 := FInv.of HG.out (HI.out.2.setCell (p := ⟨w.heap.size, k * 4, none⟩) (Nat.le_refl _) (.int .i64 3))
      clear hat hset
      go_wp2_with fail
      go_roundw
      case rel => exact ⟨k + 1, by omega, by go_num, HI2, HB2⟩
      case measure => simp [intOf]; omega
    · obtain rfl : k = N := by omega
      rw [turned_all] at HB
      have HR : Hid (Rd wr wr.heap.size (some ⟨w.heap.size, 0, none⟩) ((many k).flatMap cC)) := Lib.hid (rd_of_blk HB.out)
      have HR1 : Hid (Rd wr wr.heap.size (some ⟨w.heap.size, 0, none⟩) ((many 500).flatMap cC)) := Lib.hid (by
        have e : many k = many 500 ++ many (k - 500) := by
          unfold many
          rw [List.replicate_append_replicate]
          congr 1
          omega
        have h := HR.out
        rw [e, List.flatMap_append] at h
        have h2 := h.take ((many 500).flatMap cC).length
        rwa [List.take_left] at h2)
      have HPA : Hid (∀ W, Rd W W.heap.size (some ⟨w.heap.size, 0, none⟩) ((many 500).flatMap cC) → Good W → Calls Tryz.prog 13 #[.slice (some ⟨w.heap.size, 0, none⟩) 500 k] W fun e w' => e = .returned (.tuple #[.string ⟨P.toArray⟩, .int .i64 0]) ∧ Below W.heap.size W w') := Lib.hid fun W hr hg => by
        have := printAll_any (some ⟨w.heap.size, 0, none⟩) k (many 500) (by rw [many_length]; decide) (many_okC _) W hr hg
        rwa [HSg.out.1, HSg.out.2, many_length] at this
      have HPB : Hid (∀ W, Rd W W.heap.size (some ⟨w.heap.size, 0, none⟩) ((many k).flatMap cC) → Good W → Calls Tryz.prog 13 #[.slice (some ⟨w.heap.size, 0, none⟩) k k] W fun e w' => e = .returned (.tuple #[.string ⟨#[]⟩, .int .i64 10]) ∧ Below W.heap.size W w') := Lib.hid fun W hr hg => by
        have := printAll_any (some ⟨w.heap.size, 0, none⟩) k (many k) (by rw [many_length]; omega) (many_okC _) W hr hg
        have hm := script_many (cs := many k) (by rw [many_length]; omega)
        rwa [hm.1, hm.2, many_length] at this
      clear HB
      have z1 : (500 : Int) ≤ (k : Int) := by omega
      go_wp2_with fail
      refine (HPA.out _ HR1.out (FInv.good HI)).mono ?_
      rintro e w3 ⟨rfl, hb⟩
      have HI := FInv.call HI hb
      have HR := Lib.hid ((HR.out.below hb).more hb.size)
      clear hb HR1
      go_wp2_with fail
      refine (HPB.out _ HR.out (FInv.good HI)).mono ?_
      rintro e w4 ⟨rfl, hb⟩
      have HI := FInv.call HI hb
      clear hb HR HPA HPB
      go_wp2_with fail
      refine (parseAll_any P (by omega) _ (FInv.good HI)).mono ?_
      rintro e w5 ⟨v5, rfl, o, hb⟩
      rw [HPs.out] at o ⊢
      simp only at o ⊢
      rw [many_length] at o
      have HI := FInv.call HI hb
      obtain ⟨A5, k5, rfl, _⟩ := own_slice o
      clear hb o
      have y1 : ¬ 9223372036854775807 < P.length + 7 := by omega
      go_wp2_with fail
      rw [show (⟨P.toArray⟩ ++ ⟨#[10, 35, 10, 115, 116, 101, 112]⟩ : ByteArray) = ⟨(P ++ [10, 35, 10, 115, 116, 101, 112]).toArray⟩ from ByteArray.mk_append_mk _ _]
      refine (parseAll_any (P ++ [10, 35, 10, 115, 116, 101, 112]) (by rw [List.length_append]; show P.length + 7 ≤ _; omega) _ (FInv.good HI)).mono ?_
      rintro e w6 ⟨v6, rfl, _, hb⟩
      rw [HP1.out]
      have HI := FInv.call HI hb
      clear hb
      go_wp2_with fail
      rw [show (⟨P.toArray⟩ ++ ⟨#[110, 111, 116, 104, 105, 110, 103]⟩ : ByteArray) = ⟨(P ++ [110, 111, 116, 104, 105, 110, 103]).toArray⟩ from ByteArray.mk_append_mk _ _]
      refine (parseAll_any (P ++ [110, 111, 116, 104, 105, 110, 103]) (by rw [List.length_append]; show P.length + 7 ≤ _; omega) _ (FInv.good HI)).mono ?_
      rintro e w7 ⟨v7, rfl, _, hb⟩
      rw [HP2.out]
      have HI := FInv.call HI hb
      clear hb
      obtain ⟨n, HN19⟩ : ∃ n : Nat, Hid (n = 19995) := ⟨_, Lib.hid rfl⟩
      have hw7 : w.heap.size ≤ w7.heap.size := HI.out.2.size
      go_wp2_with (refine wpList_make_full _ rfl _ _ 30 rfl w.heap.size 5 j0 (.int .u8 0) 1 Tryz.underlying30 hj hy0 hy1 .i64 .i64 _ _ n rfl rfl (by have := HN19.out; omega) (by have := HN19.out; omega) (by have := HN19.out; rw [hy2]; omega) (by have := HN19.out; unfold maxLen; omega) HI.out.2.size ?_)
      intro w8 hown hgr
      have hown' : w8.ownsRow w.heap.size 5 1 (.slice (some ⟨w7.heap.size, 0, none⟩) n n) n (bytesV (turned 120 0 n 0)) := by
        rw [turned_none, bytesV_rep]
        have e := toList_madeCells_one (.int .u8 0) n
        (try rw [Nat.mul_one] at hown)
        show w8.ownsRow _ _ _ _ _ (List.replicate n (.int .u8 0))
        rw [← e]
        exact hown
      have HB : Hid (Blk w8 w7.heap.size 5 (bytesV (turned 120 0 n 0)).toArray) := Lib.hid (blk_of_made hown' (by have := HN19.out; omega))
      have HI := FInv.of HG.out (HI.out.2.grown hgr HI.out.2.size (fun g hg => by cases hg))
      have hn1 : n ≤ 19995 := by have := HN19.out; omega
      clear hown hown' hgr
      go_wp2_with fail
      go_loopw [17] (fun i wr => ∃ q : Nat, q ≤ n ∧ i = .int .i64 q ∧ Hid (FInv w wr) ∧ Hid (Blk wr w7.heap.size 5 (bytesV (turned 120 0 n q)).toArray)) (fun i _ => n - (intOf i).toNat)
      case atStart => exact ⟨0, Nat.zero_le _, rfl, HI, HB⟩
      case round =>
        obtain ⟨q, hq, rfl, HI, HB⟩ := hrel
        by_cases hqn : q < n
        · have k1 : (0 : Int) ≤ (q : Int) := by omega
          have k2 : (q : Int) < (n : Int) := by omega
          have s0 : wr.cell? ⟨w7.heap.size, q, none⟩ = some (.int .u8 0) := (HB.out.cell q).trans (by
            rw [List.getElem?_toArray]
            unfold bytesV
            rw [List.getElem?_map, turned_at _ _ hqn]
            rfl)
          have fr := HB.out.frozen q
          have HB2 : Hid (Blk (wr.setCell ⟨w7.heap.size, q, none⟩ (.int .u8 120)) w7.heap.size 5 (bytesV (turned 120 0 n (q + 1))).toArray) := Lib.hid (by
            have := blk_put HB.out q (.int .u8 ((120 : UInt8).toNat : Int))
            rw [bytesV_set, turned_set _ _ hqn] at this
            exact this)
          have HI2 := FInv.of HG.out (HI.out.2.setCell (p := ⟨w7.heap.size, q, none⟩) hw7 (.int .u8 120))
          go_wp2_with fail
          go_roundw
          case rel => exact ⟨q + 1, by omega, by go_num, HI2, HB2⟩
          case measure => simp [intOf]; omega
        · obtain rfl : q = n := by omega
          have hwr : w.heap.size ≤ wr.heap.size := HI.out.2.size
          rw [turned_all] at HB
          have hconv := run_rd_string wr wr.heap.size q (some ⟨w7.heap.size, 0, none⟩) (xs q) (rd_of_blk HB.out)
          rw [show (xs q).length = q from List.length_replicate] at hconv
          have hok := long_ok hn1
          have HPr : Hid (∀ W, Good W → Calls Tryz.prog 15 #[.agg #[.int .i64 2, .int .i64 0, .string ⟨#[]⟩, .string ⟨(xs q).toArray⟩]] W fun e w' => e = .returned (.tuple #[.string ⟨(longL q).toArray⟩, .int .i64 0]) ∧ Below W.heap.size W w') := Lib.hid fun W hg => by
            have := print_any (longC q) (by show (xs q).length ≤ _; rw [show (xs q).length = q from List.length_replicate]; omega) (by show 0 ≤ 100000; decide) (by show (0 : Int) ≤ _; decide) W hg
            rw [(Cmd.print_ok hok).2.1, (Cmd.print_ok hok).2.2] at this
            have e2 := ln_long q
            unfold ln at e2
            rw [e2] at this
            exact this
          have HPr2 : Hid (∀ W, Good W → Calls Tryz.prog 15 #[.agg #[.int .i64 2, .int .i64 0, .string ⟨#[]⟩, .string (⟨(xs q).toArray⟩ ++ ⟨#[120]⟩)]] W fun e w' => e = .returned (.tuple #[.string ⟨#[]⟩, .int .i64 2]) ∧ Below W.heap.size W w') := Lib.hid fun W hg => by
            have := print_any (longC (q + 1)) (by show (xs (q + 1)).length ≤ _; rw [show (xs (q + 1)).length = q + 1 from List.length_replicate]; omega) (by show 0 ≤ 100000; decide) (by show (0 : Int) ≤ _; decide) W hg
            have hb := print_no (long_bad (n := q + 1) (by have := HN19.out; omega))
            rw [hb.1, hb.2] at this
            have e3 : (⟨(xs q).toArray⟩ ++ ⟨#[120]⟩ : ByteArray) = ⟨(xs (q + 1)).toArray⟩ := by rw [← xs_snoc]; exact ByteArray.mk_append_mk _ _
            rw [e3]
            exact this
          have hTl := longL_len q
          have HS1 : Hid (allR ([115, 116, 101, 112, 10] ++ longL q ++ [10]) = ([stepC, longC q], 0, 0)) := Lib.hid (long_says hn1)
          have HS2 : Hid (allR ([115, 116, 101, 112, 10] ++ longL q ++ [120, 10]) = ([], 2, 9)) := Lib.hid (by
            have := long_wrong (n := q + 1) (by have := HN19.out; omega)
            rw [← longL_snoc] at this
            rw [← this]
            simp)
          have hXl : (xs q).length = q := List.length_replicate
          have hTe : ((longL q).length : Int) = 20000 := by
            have := HN19.out
            omega
          clear hTl
          generalize longL q = T at *
          generalize xs q = X at *
          generalize longC q = LC at *
          have u1 : ¬ 9223372036854775807 < 5 + T.length := by omega
          have u2 : ¬ 9223372036854775807 < 5 + T.length + 1 := by omega
          have u3 : ¬ 9223372036854775807 < 5 + T.length + 2 := by omega
          have u4 : ¬ 9223372036854775807 < X.length + 1 := by omega
          clear hok HB
          go_wp2_with fail
          have HI := FInv.alloc HI (.cells #[.int .i64 2, .int .i64 0, .string ⟨#[]⟩, .string ⟨X.toArray⟩] 24)
          have HK : Hid (Blk (wr.alloc (.cells #[.int .i64 2, .int .i64 0, .string ⟨#[]⟩, .string ⟨X.toArray⟩] 24)) wr.heap.size 24 #[.int .i64 2, .int .i64 0, .string ⟨#[]⟩, .string ⟨X.toArray⟩]) := Lib.hid (Blk.new _ _ _)
          refine (HPr.out _ (FInv.good HI)).mono ?_
          rintro e w9 ⟨rfl, hb⟩
          have HI := FInv.call HI hb
          have HK := Lib.hid (HK.out.call hb)
          clear hb hconv
          go_wp2_with fail
          rw [show (⟨#[115, 116, 101, 112, 10]⟩ ++ ⟨T.toArray⟩ ++ ⟨#[10]⟩ : ByteArray) = ⟨([115, 116, 101, 112, 10] ++ T ++ [10]).toArray⟩ by rw [show (⟨#[115, 116, 101, 112, 10]⟩ : ByteArray) = ⟨[115, 116, 101, 112, 10].toArray⟩ from rfl, show (⟨#[10]⟩ : ByteArray) = ⟨[10].toArray⟩ from rfl, ByteArray.mk_append_mk, ByteArray.mk_append_mk]]
          refine (parseAll_any ([115, 116, 101, 112, 10] ++ T ++ [10]) (by simp only [List.length_append, List.length_cons, List.length_nil]; omega) _ (FInv.good HI)).mono ?_
          rintro e w10 ⟨v10, rfl, _, hb⟩
          rw [HS1.out]
          have HI := FInv.call HI hb
          have HK := Lib.hid (HK.out.call hb)
          clear hb
          have d0 : w10.cell? ⟨wr.heap.size, 0, none⟩ = some (.int .i64 2) := HK.out.cell 0
          have d1 : w10.cell? ⟨wr.heap.size, 1, none⟩ = some (.int .i64 0) := HK.out.cell 1
          have d2 : w10.cell? ⟨wr.heap.size, 2, none⟩ = some (.string ⟨#[]⟩) := HK.out.cell 2
          have d3 : w10.cell? ⟨wr.heap.size, 3, none⟩ = some (.string ⟨X.toArray⟩) := HK.out.cell 3
          have f3 := HK.out.frozen 3
          have HI := FInv.of HG.out (HI.out.2.setCell (p := ⟨wr.heap.size, 3, none⟩) hwr (.string (⟨X.toArray⟩ ++ ⟨#[120]⟩)))
          go_wp2_with fail
          refine (HPr2.out _ (FInv.good HI)).mono ?_
          rintro e w11 ⟨rfl, hb⟩
          have HI := FInv.call HI hb
          clear hb d0 d1 d2 d3 f3 HK
          go_wp2_with fail
          rw [show (⟨#[115, 116, 101, 112, 10]⟩ ++ ⟨T.toArray⟩ ++ ⟨#[120, 10]⟩ : ByteArray) = ⟨([115, 116, 101, 112, 10] ++ T ++ [120, 10]).toArray⟩ by rw [show (⟨#[115, 116, 101, 112, 10]⟩ : ByteArray) = ⟨[115, 116, 101, 112, 10].toArray⟩ from rfl, show (⟨#[120, 10]⟩ : ByteArray) = ⟨[120, 10].toArray⟩ from rfl, ByteArray.mk_append_mk, ByteArray.mk_append_mk]]
          refine (parseAll_any ([115, 116, 101, 112, 10] ++ T ++ [120, 10]) (by simp only [List.length_append, List.length_cons, List.length_nil]; omega) _ (FInv.good HI)).mono ?_
          rintro e w12 ⟨v12, rfl, _, hb⟩
          rw [HS2.out]
          have HI := FInv.call HI hb
          clear hb
          obtain ⟨z, HZ⟩ : ∃ z : Nat, Hid (z = 5000) := ⟨_, Lib.hid rfl⟩
          go_wp2_with (refine wpList_make_full _ rfl _ _ 30 rfl w.heap.size 5 j0 (.int .u8 0) 1 Tryz.underlying30 hj hy0 hy1 .i64 .i64 _ _ z rfl rfl (by have := HZ.out; omega) (by have := HZ.out; omega) (by have := HZ.out; rw [hy2]; omega) (by have := HZ.out; unfold maxLen; omega) HI.out.2.size ?_)
          intro w13 hown hgr
          have hown' : w13.ownsRow w.heap.size 5 1 (.slice (some ⟨w12.heap.size, 0, none⟩) z z) z (bytesV (zs z)) := by
            unfold zs
            rw [bytesV_rep]
            have e := toList_madeCells_one (.int .u8 0) z
            (try rw [Nat.mul_one] at hown)
            show w13.ownsRow _ _ _ _ _ (List.replicate z (.int .u8 0))
            rw [← e]
            exact hown
          have hconv := run_own_string (P := Tryz.prog) w13 30 9 5 _ _ w.heap.size (zs z) Tryz.underlying30 Tryz.underlying5 Tryz.underlying9 (show z = (zs z).length from List.length_replicate.symm) hown'
          have HI := FInv.of HG.out (HI.out.2.grown hgr HI.out.2.size (fun g hg => by cases hg))
          have HChk : Hid (∀ W, Good W → Calls Tryz.prog 16 #[.agg #[.int .i64 15, .int .i64 0, .string ⟨#[]⟩, .string ⟨(zs z).toArray⟩]] W fun e w' => e = .returned (.int .i64 2) ∧ Below W.heap.size W w') := Lib.hid fun W hg => by
            have := check_any ⟨15, 0, [], zs z⟩ (by show (zs z).length ≤ _; have := HZ.out; rw [show (zs z).length = z from List.length_replicate]; omega) (by show 0 ≤ 100000; decide) (by show (0 : Int) ≤ _; decide) W hg
            rw [(print_no (zs_bad (n := z) (by have := HZ.out; omega))).2] at this
            exact this
          clear hown hown' hgr
          generalize zs z = Z at *
          have HI := FInv.alloc HI (.cells #[.int .i64 15, .int .i64 0, .string ⟨#[]⟩, .string ⟨Z.toArray⟩] 24)
          go_wp2_with fail
          refine (HChk.out _ (FInv.good HI)).mono ?_
          rintro e w14 ⟨rfl, hb⟩
          have HI := FInv.call HI hb
          clear hb hconv
          go_wp2_with fail
          refine (works_any _ (FInv.good HI)).mono ?_
          rintro e w15 ⟨rfl, hb⟩
          have HI := FInv.call HI hb
          clear hb
          go_wp2_with fail
          go_ret
          exact ⟨rfl, HI.out.2⟩
end Go.Proofs.YtphpgbbjbncfoaaGreatDoor

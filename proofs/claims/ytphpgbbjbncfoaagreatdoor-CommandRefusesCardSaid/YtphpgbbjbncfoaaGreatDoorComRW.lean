/-
  LAYER 42: commands that are not valid: the statement's walk.
-/
import Derived.Test.YtphpgbbjbncfoaaGreatDoorComNW
import Derived.Test.YtphpgbbjbncfoaaGreatDoorComR
import Derived.Test.YtphpgbbjbncfoaaGreatDoorComB
import Derived.Test.YtphpgbbjbncfoaaGreatDoorCom16
import Derived.Test.YtphpgbbjbncfoaaGreatDoorComG
import Derived.Deep.CutBlock
import Derived.Deep.DeepCutAuto
namespace Go.Proofs.YtphpgbbjbncfoaaGreatDoor
open Go.ChangeShapes Go.WideShapes Go.ChangeAt Go.RowKit

/-- A command that is not valid, of a bounded size, in block g. -/
def BadAt (w : World) (g : Nat) (c : Cmd.C) (W : World) : Prop := FInv w W ∧ Blk W g 24 (cC c).toArray ∧ Cmd.okB c = false ∧ okC c
theorem badAt_of {w W : World} {g : Nat} {q a : Int} {n v : List UInt8} {cs : Array Value} (h1 : Hid (FInv w W)) (h2 : Blk W g 24 cs) (e : cs = #[.int .i64 q, .int .i64 a, .string ⟨n.toArray⟩, .string ⟨v.toArray⟩]) (h3 : Cmd.okB ⟨q, a, n, v⟩ = false) (h4 : v.length ≤ 100000) (h5 : n.length ≤ 100000) (h6 : a ≤ 9223372036854775807) : ∃ c, Hid (BadAt w g c W) := by
  subst e
  exact ⟨⟨q, a, n, v⟩, Lib.hid ⟨h1.out, h2, h3, h4, h5, h6⟩⟩

set_option linter.unusedVariables false in
set_option maxHeartbeats 8000000 in
set_option maxRecDepth 20000 in
theorem refuses_some (k : Int) (k0 : 0 ≤ k) (k1 : k ≤ 255) (a : Int) (a0 : 0 ≤ a) (a1 : a ≤ 4294967295) (A : Option Addr) (cap : Nat) (l : List UInt8) (hl : l.length ≤ 100) (what : Int) (u0 : 0 ≤ what) (u1 : what ≤ 255) (far : Int) (f0 : 0 ≤ far) (f1 : far ≤ 65535) (w : World) (hrd : Rd w w.heap.size A (bytesV l)) (hG : Good w) :
    Calls Tryz.prog 4 #[nV k a A l.length cap, .int .u8 what, .int .u16 far] w fun e w' => e = .returned (.bool true) ∧ Below w.heap.size w w' := by
  have HI : Hid (FInv w w) := Lib.hid ⟨hG, Below.refl _ _⟩
  have hl1 : ¬ (100 : Int) < (l.length : Int) := by omega
  obtain ⟨m, hm⟩ : ∃ m, Cmd.kindN k = m := ⟨_, rfl⟩
  have hm2 := @Cmd.kindN_is k
  rw [hm] at hm2
  have hsz := Cmd.cmdK_size m a l (by omega)
  have hkd := Cmd.cmdK_kind m a l
  have HC : Hid (∀ W, Rd W W.heap.size A (bytesV l) → Good W → Calls Tryz.prog 18 #[nV k a A l.length cap] W fun e w' => e = .returned (cV (Cmd.cmdK m a l)) ∧ Below W.heap.size W w') := Lib.hid fun W h1 h2 => by
    have := cmdN_any k k0 k1 a a0 a1 A cap l (by omega) W h1 h2
    unfold Cmd.cmdN at this
    rwa [hm] at this
  obtain ⟨⟨q, b, n, v⟩, hc⟩ : ∃ c, Cmd.cmdK m a l = c := ⟨_, rfl⟩
  rw [hc] at HC hsz hkd
  simp only at hsz hkd
  subst hkd
  obtain ⟨hv1, hn1, hb0, hb1⟩ := hsz
  have HR := Lib.hid hrd
  have HGw := Lib.hid hG
  clear hc hm hrd hG
  obtain ⟨u, hu⟩ : ∃ u, what % 8 = u := ⟨_, rfl⟩
  have hu2 : Int.tmod what 8 = u := by rw [Int.tmod_eq_emod_of_nonneg u0]; exact hu
  have hu3 : 0 ≤ u ∧ u ≤ 7 := by omega
  unfold nV cV at *
  go_enter Tryz.func4, Tryz.ntmps4
  go_wp2_with fail
  have HI := FInv.alloc HI (.cells #[.int .u8 k, .int .u32 a, .slice A l.length cap] 37)
  refine (HC.out _ ((HR.out.below HI.out.2).more HI.out.2.size) (FInv.good HI)).mono ?_
  rintro e w1 ⟨rfl, hb⟩
  have HI := FInv.call HI hb
  have hg : w.heap.size < w1.heap.size := by have := hb.size; simp at this; omega
  clear hb HC HR
  go_upto_block 0 with fail
  go_cut [9] (fun s9 wx => ∃ c, Hid (BadAt w w1.heap.size c wx))
  case first =>
    have hr3 : 0 ≤ far % 3 ∧ far % 3 < 3 := by omega
    obtain ⟨r, hr⟩ : ∃ r, far % 3 = r := ⟨_, rfl⟩
    rw [hr] at hr3
    rcases (show u = 0 ∨ u = 1 ∨ u = 2 ∨ u = 3 ∨ u = 4 ∨ u = 5 ∨ u = 6 ∨ u = 7 by omega) with rfl | rfl | rfl | rfl | rfl | rfl | rfl | rfl
    · rcases (show r = 0 ∨ r = 1 ∨ r = 2 by omega) with rfl | rfl | rfl
      · go_wp2_with fail
        go_meet
        exact badAt_of (FInv.alloc (FInv.alloc HI (.cells #[.int .i64 0, .int .i64 b, .string ⟨n.toArray⟩, .string ⟨v.toArray⟩] 24)) _) ((Blk.new _ _ _).alloc _) rfl (Cmd.bad_kind (by simp only; omega)) (by omega) (by omega) (by omega)
      · go_wp2_with fail
        go_meet
        exact badAt_of (FInv.alloc (FInv.alloc HI (.cells #[.int .i64 (-1 - far), .int .i64 b, .string ⟨n.toArray⟩, .string ⟨v.toArray⟩] 24)) _) ((Blk.new _ _ _).alloc _) rfl (Cmd.bad_kind (by simp only; omega)) (by omega) (by omega) (by omega)
      · go_wp2_with fail
        go_meet
        exact badAt_of (FInv.alloc (FInv.alloc HI (.cells #[.int .i64 (16 + far), .int .i64 b, .string ⟨n.toArray⟩, .string ⟨v.toArray⟩] 24)) _) ((Blk.new _ _ _).alloc _) rfl (Cmd.bad_kind (by simp only; omega)) (by omega) (by omega) (by omega)
    · go_wp2_with fail
      go_meet
      exact badAt_of (FInv.alloc HI (.cells #[.int .i64 m, .int .i64 (-1 - far), .string ⟨n.toArray⟩, .string ⟨v.toArray⟩] 24)) (Blk.new _ _ _) rfl (Cmd.bad_neg (by simp only; omega)) (by omega) (by omega) (by omega)
    · go_wp2_with fail
      go_meet
      exact badAt_of (FInv.alloc HI (.cells #[.int .i64 m, .int .i64 (1000000001 + far), .string ⟨n.toArray⟩, .string ⟨v.toArray⟩] 24)) (Blk.new _ _ _) rfl (Cmd.bad_great (by simp only; omega)) (by omega) (by omega) (by omega)
    · go_wp2_with fail
      go_meet
      exact badAt_of (FInv.alloc HI (.cells #[.int .i64 m, .int .i64 b, .string ⟨#[49]⟩, .string ⟨v.toArray⟩] 24)) (Blk.new _ _ _) rfl (Cmd.bad_name1 _ _ _) (by omega) (by decide) (by omega)
    · by_cases h7 : m = 7
      · have q7 : ((m : Int) == 7) = true := by simp; omega
        have q7' : (m : Int) = 7 := by omega
        go_wp2_with fail
        go_meet
        exact badAt_of (FInv.alloc HI (.cells #[.int .i64 7, .int .i64 b, .string ⟨#[]⟩, .string ⟨v.toArray⟩] 24)) (Blk.new _ _ _) rfl (Cmd.bad_name0 _ _) (by omega) (by decide) (by omega)
      · have q7 : ((m : Int) == 7) = false := by simp; omega
        have q7' : ¬ (m : Int) = 7 := by omega
        go_wp2_with fail
        go_meet
        exact badAt_of (FInv.alloc HI (.cells #[.int .i64 m, .int .i64 b, .string ⟨#[102]⟩, .string ⟨v.toArray⟩] 24)) (Blk.new _ _ _) rfl (Cmd.bad_namef h7 _ _) (by omega) (by decide) (by omega)
    · by_cases h2 : m = 2
      · have q2 : ((m : Int) == 2) = true := by simp; omega
        go_wp2_with fail
        go_meet
        exact badAt_of (FInv.alloc HI (.cells #[.int .i64 2, .int .i64 1, .string ⟨n.toArray⟩, .string ⟨v.toArray⟩] 24)) (Blk.new _ _ _) rfl (Cmd.bad_a1 (m := 2) (.inl rfl) _ _) (by omega) (by omega) (by omega)
      · have q2 : ((m : Int) == 2) = false := by simp; omega
        by_cases h15 : m = 15
        · have q3 : ((m : Int) == 15) = true := by simp; omega
          go_wp2_with fail
          go_meet
          exact badAt_of (FInv.alloc HI (.cells #[.int .i64 15, .int .i64 1, .string ⟨n.toArray⟩, .string ⟨v.toArray⟩] 24)) (Blk.new _ _ _) rfl (Cmd.bad_a1 (m := 15) (.inr rfl) _ _) (by omega) (by omega) (by omega)
        · have q3 : ((m : Int) == 15) = false := by simp; omega
          go_wp2_with fail
          go_meet
          exact badAt_of (FInv.alloc HI (.cells #[.int .i64 m, .int .i64 b, .string ⟨n.toArray⟩, .string ⟨#[120]⟩] 24)) (Blk.new _ _ _) rfl (Cmd.bad_valx h2 h15 _ _) (by decide) (by omega) (by omega)
    · obtain ⟨f5, hf5⟩ : ∃ f5 : Nat, far % 5 = f5 := ⟨(far % 5).toNat, by omega⟩
      have hlt5 : f5 < 5 := by omega
      go_wp2_with fail
      have HI3 := FInv.alloc HI (.cells #[.int .i64 1, .int .i64 0, .string ⟨#[]⟩, .string ⟨#[49]⟩] 24)
      have HK3 : Hid (Blk (w1.alloc (.cells #[.int .i64 1, .int .i64 0, .string ⟨#[]⟩, .string ⟨#[49]⟩] 24)) w1.heap.size 24 #[.int .i64 1, .int .i64 0, .string ⟨#[]⟩, .string ⟨(Cmd.noughts 0).toArray⟩]) := Lib.hid (Blk.new _ _ _)
      go_loopw [9] (fun i wr => ∃ j : Nat, j ≤ 200 + f5 ∧ i = .int .i64 j ∧ Hid (FInv w wr) ∧ Hid (Blk wr w1.heap.size 24 #[.int .i64 1, .int .i64 0, .string ⟨#[]⟩, .string ⟨(Cmd.noughts j).toArray⟩])) (fun i _ => 300 - (intOf i).toNat)
      case atStart => exact ⟨0, Nat.zero_le _, rfl, HI3, HK3⟩
      case round =>
        obtain ⟨j, hj, rfl, HI3, HK3⟩ := hrel
        by_cases hjl : j < 200 + f5
        · have z1 : (j : Int) < 200 + (f5 : Int) := by omega
          have hnl := Cmd.noughts_len j
          have z2 : ¬ 9223372036854775807 < (Cmd.noughts j).length + 2 := by omega
          have d3 : wr.cell? ⟨w1.heap.size, 3, none⟩ = some (.string ⟨(Cmd.noughts j).toArray⟩) := HK3.out.cell 3
          have e3 := HK3.out.frozen 3
          have HK4 : Hid (Blk (wr.setCell ⟨w1.heap.size, 3, none⟩ (.string ⟨(Cmd.noughts (j + 1)).toArray⟩)) w1.heap.size 24 #[.int .i64 1, .int .i64 0, .string ⟨#[]⟩, .string ⟨(Cmd.noughts (j + 1)).toArray⟩]) := Lib.hid (by simpa using HK3.out.set 3 (.string ⟨(Cmd.noughts (j + 1)).toArray⟩))
          have HI4 : Hid (FInv w (wr.setCell ⟨w1.heap.size, 3, none⟩ (.string ⟨(Cmd.noughts (j + 1)).toArray⟩))) := FInv.of HGw.out (HI3.out.2.setCell (p := ⟨w1.heap.size, 3, none⟩) (Nat.le_of_lt hg) _)
          go_wp2_with fail
          rw [show (⟨#[44, 48]⟩ : ByteArray) = ⟨[44, 48].toArray⟩ from rfl, ByteArray.mk_append_mk]
          rw [show Cmd.noughts j ++ [44, 48] = Cmd.noughts (j + 1) from rfl]
          go_roundw
          case rel => exact ⟨j + 1, by omega, by go_num, HI4, HK4⟩
          case measure => simp [intOf]; omega
        · obtain rfl : j = 200 + f5 := by omega
          have z1 : ¬ ((200 + f5 : Nat) : Int) < 200 + (f5 : Int) := by omega
          go_wp2_with fail
          go_meet
          have hnl := Cmd.noughts_len (200 + f5)
          exact badAt_of HI3 HK3.out rfl (Cmd.bad_noughts (by omega) _ _) (by omega) (by decide) (by decide)
    · rcases (show r = 0 ∨ r = 1 ∨ r = 2 by omega) with rfl | rfl | rfl
      · go_wp2_with fail
        go_meet
        exact badAt_of (FInv.alloc (FInv.alloc HI (.cells #[.int .i64 7, .int .i64 (201 + far), .string ⟨#[102]⟩, .string ⟨#[]⟩] 24)) _) ((Blk.new _ _ _).alloc _) rfl (Cmd.bad_most (by show (200 : Int) < 201 + far; omega)) (by decide) (by decide) (by omega)
      · go_wp2_with fail
        go_meet
        exact badAt_of (FInv.alloc (FInv.alloc HI (.cells #[.int .i64 12, .int .i64 (201 + far), .string ⟨#[]⟩, .string ⟨#[]⟩] 24)) _) ((Blk.new _ _ _).alloc _) rfl (Cmd.bad_most (by show (200 : Int) < 201 + far; omega)) (by decide) (by decide) (by omega)
      · go_wp2_with fail
        go_meet
        exact badAt_of (FInv.alloc (FInv.alloc HI (.cells #[.int .i64 7, .int .i64 0, .string ⟨#[119, 104, 105, 108, 101]⟩, .string ⟨#[]⟩] 24)) _) ((Blk.new _ _ _).alloc _) rfl (Cmd.bad_while _ _) (by decide) (by decide) (by decide)
  case rest =>
    obtain ⟨c, HB⟩ := hcut
    obtain ⟨q2, b2, n2, v2⟩ := c
    have hK := HB.out.2.1
    have hbad := HB.out.2.2.1
    have hok := HB.out.2.2.2
    have HI3 : Hid (FInv w wc) := Lib.hid HB.out.1
    have HK : Hid (Blk wc w1.heap.size 24 #[.int .i64 q2, .int .i64 b2, .string ⟨n2.toArray⟩, .string ⟨v2.toArray⟩]) := Lib.hid hK
    have HBad := Lib.hid (print_no hbad)
    have HBd := Lib.hid hbad
    have HOk := Lib.hid hok
    have c0 : wc.cell? ⟨w1.heap.size, 0, none⟩ = some (.int .i64 q2) := HK.out.cell 0
    have c1 : wc.cell? ⟨w1.heap.size, 1, none⟩ = some (.int .i64 b2) := HK.out.cell 1
    have c2 : wc.cell? ⟨w1.heap.size, 2, none⟩ = some (.string ⟨n2.toArray⟩) := HK.out.cell 2
    have c3 : wc.cell? ⟨w1.heap.size, 3, none⟩ = some (.string ⟨v2.toArray⟩) := HK.out.cell 3
    clear hK hbad hok HB
    go_wp2_with fail
    refine (print_any ⟨q2, b2, n2, v2⟩ HOk.out.1 HOk.out.2.1 HOk.out.2.2 _ (FInv.good HI3)).mono ?_
    rintro e w2 ⟨rfl, hb⟩
    rw [HBad.out.1, HBad.out.2]
    have HI3 := FInv.call HI3 hb
    have HK := Lib.hid (HK.out.call hb)
    clear hb c0 c1 c2 c3
    have c0 : w2.cell? ⟨w1.heap.size, 0, none⟩ = some (.int .i64 q2) := HK.out.cell 0
    have c1 : w2.cell? ⟨w1.heap.size, 1, none⟩ = some (.int .i64 b2) := HK.out.cell 1
    have c2 : w2.cell? ⟨w1.heap.size, 2, none⟩ = some (.string ⟨n2.toArray⟩) := HK.out.cell 2
    have c3 : w2.cell? ⟨w1.heap.size, 3, none⟩ = some (.string ⟨v2.toArray⟩) := HK.out.cell 3
    go_wp2_with fail
    have hpa := printAll_any (some ⟨w2.heap.size, 0, none⟩) 2 [⟨3, 0, [], []⟩, ⟨q2, b2, n2, v2⟩] (by show 2 ≤ 1000000; decide) (fun c hc => by
      rcases List.mem_cons.1 hc with rfl | hc
      · exact ⟨by decide, by decide, by decide⟩
      · rw [List.mem_singleton.1 hc]; exact HOk.out) _ (rd_lit w2 24 [.int .i64 3, .int .i64 0, .string ⟨#[]⟩, .string ⟨#[]⟩, .int .i64 q2, .int .i64 b2, .string ⟨n2.toArray⟩, .string ⟨v2.toArray⟩]) (FInv.good HI3 |>.alloc _)
    rw [(script_bad (cs := [⟨3, 0, [], []⟩, ⟨q2, b2, n2, v2⟩]) (by show 2 ≤ 500; decide) (c := ⟨q2, b2, n2, v2⟩) (by simp) HBd.out).1, (script_bad (cs := [⟨3, 0, [], []⟩, ⟨q2, b2, n2, v2⟩]) (by show 2 ≤ 500; decide) (c := ⟨q2, b2, n2, v2⟩) (by simp) HBd.out).2] at hpa
    refine hpa.mono ?_
    rintro e w3 ⟨rfl, hb⟩
    have HI3 := FInv.call (FInv.alloc HI3 _) hb
    have HK := Lib.hid ((HK.out.alloc _).call hb)
    clear hb c0 c1 c2 c3 hpa
    have c0 : w3.cell? ⟨w1.heap.size, 0, none⟩ = some (.int .i64 q2) := HK.out.cell 0
    have c1 : w3.cell? ⟨w1.heap.size, 1, none⟩ = some (.int .i64 b2) := HK.out.cell 1
    have c2 : w3.cell? ⟨w1.heap.size, 2, none⟩ = some (.string ⟨n2.toArray⟩) := HK.out.cell 2
    have c3 : w3.cell? ⟨w1.heap.size, 3, none⟩ = some (.string ⟨v2.toArray⟩) := HK.out.cell 3
    go_wp2_with fail
    refine (check_any ⟨q2, b2, n2, v2⟩ HOk.out.1 HOk.out.2.1 HOk.out.2.2 _ (FInv.good HI3)).mono ?_
    rintro e w4 ⟨rfl, hb⟩
    rw [HBad.out.2]
    have HI3 := FInv.call HI3 hb
    clear hb c0 c1 c2 c3 HK
    go_wp2_with fail
    refine (name_any [49] (by decide) _ (FInv.good HI3)).mono ?_
    rintro e w5 ⟨rfl, hb⟩
    rw [Cmd.name_one]
    have HI3 := FInv.call HI3 hb
    clear hb
    go_wp2_with fail
    refine (works_any _ (FInv.good HI3)).mono ?_
    rintro e w6 ⟨rfl, hb⟩
    have HI3 := FInv.call HI3 hb
    clear hb
    go_wp2_with fail
    go_ret
    exact ⟨rfl, HI3.out.2⟩

set_option maxRecDepth 20000 in
theorem commandRefuses_walk (w : World) (k : Int) (k0 : 0 ≤ k) (k1 : k ≤ 255) (a : Int) (a0 : 0 ≤ a) (a1 : a ≤ 4294967295) (A : Option Addr) (cap : Nat) (l : List UInt8) (_ : l.length ≤ cap) (_ : cap ≤ maxLen) (hrd : Rd w w.heap.size A (bytesV l)) (what : Int) (u0 : 0 ≤ what) (u1 : what ≤ 255) (far : Int) (f0 : 0 ≤ far) (f1 : far ≤ 65535) (hG : Good w) :
    Calls Tryz.prog 4 #[.agg #[.int .u8 k, .int .u32 a, .slice A l.length cap], .int .u8 what, .int .u16 far] w fun e w' => e = .returned (.bool true) ∧ Below w.heap.size w w' := by
  by_cases hl : l.length ≤ 100
  · exact refuses_some k k0 k1 a a0 a1 A cap l hl what u0 u1 far f0 f1 w hrd hG
  · have HI : Hid (FInv w w) := Lib.hid ⟨hG, Below.refl _ _⟩
    have hl1 : (100 : Int) < (l.length : Int) := by omega
    clear hG hrd
    go_enter Tryz.func4, Tryz.ntmps4
    go_wp2_with fail
    have HI := FInv.alloc HI (.cells #[.int .u8 k, .int .u32 a, .slice A l.length cap] 37)
    refine (works_any _ (FInv.good HI)).mono ?_
    rintro e w2 ⟨rfl, b⟩
    have HI := FInv.call HI b
    clear b
    go_wp2_with fail
    go_ret
    exact ⟨rfl, HI.out.2⟩
end Go.Proofs.YtphpgbbjbncfoaaGreatDoor

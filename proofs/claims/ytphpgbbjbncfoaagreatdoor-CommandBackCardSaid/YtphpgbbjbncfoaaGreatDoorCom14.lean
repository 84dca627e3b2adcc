/-
  LAYER 42: command.ParseAll, the walk.
-/
import Derived.Test.YtphpgbbjbncfoaaGreatDoorCom13
namespace Go.Proofs.YtphpgbbjbncfoaaGreatDoor
open Go.ChangeShapes Go.WideShapes Go.ChangeAt Go.RowKit

set_option maxHeartbeats 4000000 in
set_option maxRecDepth 20000 in
/-- command.ParseAll. -/
theorem parseAll_any (s : List UInt8) (hs : s.length ≤ 100000) (w : World) (hG : Good w) :
    Calls Tryz.prog 14 #[.string ⟨s.toArray⟩] w fun e w' => ∃ v, e = .returned (.tuple #[v, .int .i64 (allR s).2.1, .int .i64 (allR s).2.2]) ∧ w'.ownsRow w.heap.size 24 4 v (allR s).1.length ((allR s).1.flatMap cC) ∧ Below w.heap.size w w' := by
  obtain ⟨i0, hi, hz0, hz1, hz2⟩ := info_parts info_cmd
  have HI : Hid (FInv w w) := Lib.hid ⟨hG, Below.refl _ _⟩
  have HG := Lib.hid hG
  clear hG
  obtain ⟨⟨RL, RN, RE⟩, hR⟩ : ∃ r, allR s = r := ⟨_, rfl⟩
  rw [hR]
  simp only
  unfold allR at hR
  obtain ⟨ps, hps⟩ : ∃ ps, Lin.pieces s = ps := ⟨_, rfl⟩
  have hsp := fun W (hW : Good W) => splitL_any s (by omega) W hW
  rw [hps] at hsp hR
  have HSP := Lib.hid hsp
  have HR := Lib.hid hR
  have hpl : ps.length ≤ 100001 := by rw [← hps]; have := Lin.pieces_le s; omega
  have HPP : Hid (∀ p ∈ ps, p.length ≤ 100000) := Lib.hid fun p hp => by have := piece_lenL s p (by rw [hps]; exact hp); omega
  clear hsp hps hR
  go_enter Tryz.func14, Tryz.ntmps14
  go_wp2_with fail
  refine (HSP.out _ (FInv.good HI)).mono ?_
  rintro e w1 ⟨rfl, hw1⟩
  have HB : Hid (Blk w1 w.heap.size 9 (ps.map fun p => Value.string ⟨p.toArray⟩).toArray) := Lib.hid (by rw [hw1]; exact Blk.new _ _ _)
  have HI : Hid (FInv w w1) := by rw [hw1]; exact FInv.alloc HI _
  have hsz : w.heap.size + 1 ≤ w1.heap.size := by rw [hw1]; simp
  clear hw1 HSP
  go_wp2_with fail
  go_loopw [5, 13] (fun v i wr => ∃ (k : Nat) (out : List Cmd.C), k ≤ ps.length ∧ i = .int .i64 k ∧ out.length ≤ k ∧ Hid (FInv w wr) ∧ w.heap.size + 1 ≤ wr.heap.size ∧ Hid (Blk wr w.heap.size 9 (ps.map fun p => Value.string ⟨p.toArray⟩).toArray) ∧ Hid (wr.ownsRow (w.heap.size + 1) 24 4 v out.length (out.flatMap cC)) ∧ Hid (goAll k out (ps.drop k) = (RL, RN, RE))) (fun _ i _ => ps.length - (intOf i).toNat)
  case atStart => exact ⟨0, [], Nat.zero_le _, rfl, Nat.le_refl _, HI, hsz, HB, Lib.hid (World.ownsRow_nil _ _ _ _), HR⟩
  case round =>
    obtain ⟨k, out, hk, rfl, hol, HI, hsz, HB, HO, HA⟩ := hrel
    by_cases hlt : k < ps.length
    · obtain ⟨p, hp⟩ : ∃ p, ps[k]? = some p := ⟨_, List.getElem?_eq_getElem hlt⟩
      have c0 : wr.cell? ⟨w.heap.size, k, none⟩ = some (.string ⟨p.toArray⟩) := by
        rw [HB.out.cell k, List.getElem?_toArray, List.getElem?_map, hp]
        rfl
      have hpl2 := HPP.out p (List.mem_of_getElem? hp)
      have HD : Hid (ps.drop k = p :: ps.drop (k + 1)) := Lib.hid (by rw [List.drop_eq_getElem_cons hlt, (List.getElem?_eq_some_iff.1 hp).2])
      clear hp
      by_cases he : p = []
      · have hE : p.isEmpty = true := by rw [he]; rfl
        have HN : Hid (goAll (k + 1) out (ps.drop (k + 1)) = (RL, RN, RE)) := Lib.hid (by rw [← HA.out, HD.out, go_skip (by unfold skipB; rw [hE]; rfl)])
        clear he
        go_wp2_with fail
        go_roundw
        case rel => exact ⟨k + 1, out, hlt, by go_num, by omega, HI, hsz, HB, HO, HN⟩
        case measure => simp [intOf]; omega
      · have hE : p.isEmpty = false := by cases p with
          | nil => exact absurd rfl he
          | cons a r => rfl
        have hp0 : 0 < p.length := List.length_pos_iff.2 he
        obtain ⟨ch, hch⟩ : ∃ c, p[0]? = some c := ⟨_, List.getElem?_eq_getElem hp0⟩
        have hx : ∀ h, ((⟨p.toArray⟩ : ByteArray)[0]'h) = ch := fun h => (List.getElem?_eq_some_iff.1 hch).2
        have HH : Hid (p.head? = some ch) := Lib.hid (by rw [List.head?_eq_getElem?]; exact hch)
        clear hch he
        by_cases h35 : ch = 35
        · subst h35
          have HN : Hid (goAll (k + 1) out (ps.drop (k + 1)) = (RL, RN, RE)) := Lib.hid (by rw [← HA.out, HD.out, go_skip (by unfold skipB; rw [hE, HH.out]; rfl)])
          go_wp2_with fail
          go_roundw
          case rel => exact ⟨k + 1, out, hlt, by go_num, by omega, HI, hsz, HB, HO, HN⟩
          case measure => simp [intOf]; omega
        · have b1 := byte_ne (d := 35) h35
          have b2 : ¬ (ch.toNat : Int) = 35 := by simpa using b1
          have b3 : ((ch.toNat : Int) == 35) = false := b1
          have HSK : Hid (skipB p = false) := Lib.hid (by unfold skipB; rw [hE, HH.out]; simpa using h35)
          clear b1 h35
          obtain ⟨PC, hPC⟩ : ∃ x, parseS p = x := ⟨_, rfl⟩
          obtain ⟨PE, hPE⟩ : ∃ x, parseE p = x := ⟨_, rfl⟩
          have HPC := Lib.hid hPC
          have HPE := Lib.hid hPE
          clear hPC hPE
          go_wp2_with fail
          refine (parse_any p (by omega) _ (FInv.good HI)).mono ?_
          rintro e w2 ⟨rfl, b⟩
          rw [HPC.out, HPE.out]
          have HI := FInv.call HI b
          have HB := Lib.hid (HB.out.call b)
          have hown2 := own_below HO.out b
          have hsz2 := b.size
          clear b c0 HO
          obtain ⟨q, a, n, v⟩ := PC
          unfold cV
          have HI := FInv.alloc HI (.cells #[.int .i64 q, .int .i64 a, .string ⟨n.toArray⟩, .string ⟨v.toArray⟩] 24)
          have HB := Lib.hid (HB.out.alloc (.cells #[.int .i64 q, .int .i64 a, .string ⟨n.toArray⟩, .string ⟨v.toArray⟩] 24))
          have HO2 := Lib.hid (hown2.alloc (.cells #[.int .i64 q, .int .i64 a, .string ⟨n.toArray⟩, .string ⟨v.toArray⟩] 24))
          obtain ⟨A5, cap5, hA5, _⟩ := own_slice hown2
          clear hown2
          subst hA5
          by_cases h5 : out.length = 500
          · have h5' : ((out.length : Int) == 500) = true := by simp; omega
            have h5'' : (out.length : Int) = 500 := by omega
            have HF := Lib.hid (by have := HA.out; rw [HD.out, go_many HSK.out h5] at this; exact this : ([], (k : Int) + 1, 10) = (RL, RN, RE))
            go_wp2_with fail
            go_ret3
            have hF := HF.out
            cases hF
            exact ⟨_, rfl, World.ownsRow_nil _ _ _ _, HI.out.2⟩
          · have h5' : ((out.length : Int) == 500) = false := by simp; omega
            have h5'' : ¬ (out.length : Int) = 500 := by omega
            by_cases h20 : 20000 < p.length
            · have hl : (20000 : Int) < (p.length : Int) := by omega
              have HF := Lib.hid (by have := HA.out; rw [HD.out, go_long HSK.out h5 h20] at this; exact this : ([], (k : Int) + 1, 9) = (RL, RN, RE))
              go_wp2_with fail
              go_ret3
              have hF := HF.out
              cases hF
              exact ⟨_, rfl, World.ownsRow_nil _ _ _ _, HI.out.2⟩
            · have hl : ¬ (20000 : Int) < (p.length : Int) := by omega
              by_cases hpe : PE = 0
              · subst hpe
                have HN : Hid (goAll (k + 1) (out ++ [⟨q, a, n, v⟩]) (ps.drop (k + 1)) = (RL, RN, RE)) := Lib.hid (by rw [← HA.out, HD.out, go_good HSK.out h5 h20 HPE.out, HPC.out])
                have hown3 := HO2.out
                go_wp2_with (at_builtin; refine wpList_append_own _ rfl _ _ 22 rfl (w.heap.size + 1) 24 i0 (.agg #[.int .i64 0, .int .i64 0, .string ⟨#[]⟩, .string ⟨#[]⟩]) 4 48 Tryz.underlying22 hi hz0 hz1 hz2 rfl (by decide) _ _ _ rfl (hown3.alloc _) ⟨w2.heap.size + 1, 0, none⟩ 1 1 [.int .i64 q, .int .i64 a, .string ⟨n.toArray⟩, .string ⟨v.toArray⟩] rfl rfl ?c1 ?c2 ?c3 ?c4 ?c5 ?_)
                case c1 =>
                  have := news_all (w2.alloc (.cells #[.int .i64 q, .int .i64 a, .string ⟨n.toArray⟩, .string ⟨v.toArray⟩] 24)) 24 [.int .i64 q, .int .i64 a, .string ⟨n.toArray⟩, .string ⟨v.toArray⟩]
                  rwa [World.size_alloc] at this
                case c2 => intro u hu; simp at hu; rcases hu with rfl | rfl | rfl | rfl <;> rfl
                case c3 => unfold maxLen; omega
                case c4 => omega
                case c5 => simp; omega
                intro v' w4 hown4 hg4 _
                have HO4 := Lib.hid hown4
                have HI4 := FInv.of HG.out ((below_new HI.out.2 _).grown hg4 (by have := HI.out.2.size; simp at this ⊢; omega) (fun g hg => by have := (hown3.lt g hg).1; omega))
                have HB4 := Lib.hid ((HB.out.alloc _).grown hg4 (fun e => by have := (hown3.lt _ e.symm).1; omega))
                have hsz4 : w.heap.size + 1 ≤ w4.heap.size := by have := hg4.size; simp at this; omega
                clear hown3 hown4 hg4
                go_wp2_with fail
                go_roundw
                case rel =>
                  refine ⟨k + 1, out ++ [⟨q, a, n, v⟩], hlt, by go_num, by simp; omega, HI4, hsz4, HB4, ?_, HN⟩
                  rw [List.length_append, List.flatMap_append]
                  exact HO4
                case measure => simp [intOf]; omega
              · have hpe' : (PE == 0) = false := by simpa using hpe
                have HF := Lib.hid (by have := HA.out; rw [HD.out, go_form HSK.out h5 h20 (by rw [HPE.out]; exact hpe), HPE.out] at this; exact this : ([], (k : Int) + 1, PE) = (RL, RN, RE))
                go_wp2_with fail
                go_ret3
                have hF := HF.out
                cases hF
                exact ⟨_, rfl, World.ownsRow_nil _ _ _ _, HI.out.2⟩
    · obtain rfl : k = ps.length := by omega
      have hA := HA.out
      rw [List.drop_length, goAll] at hA
      have HZ := Lib.hid hA
      clear hA
      cases HZ.out
      have hO := HO.out
      go_wp2_with fail
      go_ret3
      exact ⟨_, rfl, own_base hO (Nat.le_succ _), HI.out.2⟩
end Go.Proofs.YtphpgbbjbncfoaaGreatDoor

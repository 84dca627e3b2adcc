/-
  LAYER 42, THE REFERENCE: ParseAll, the walk.
-/
import Derived.Test.YtphpgbbjbncfoaaGreatDoorCom13
import Derived.Test.YtphpgbbjbncfoaaGreatDoorRef8
namespace Go.Proofs.YtphpgbbjbncfoaaGreatDoor
open Go.ChangeShapes Go.WideShapes Go.ChangeAt Go.RowKit

theorem rd_piece {W : World} {n b o : Nat} {ps : List (List UInt8)} {i : Nat} {p : List UInt8} (h : Rd W n (some ⟨b, o, none⟩) (strsV ps)) (hp : ps[i]? = some p) : W.cell? ⟨b, o + i, none⟩ = some (.string ⟨p.toArray⟩) := by
  obtain ⟨b', o', e, _, hc⟩ := h (by intro e; have h2 := (List.getElem?_eq_some_iff.1 hp).1; have := congrArg List.length e; unfold strsV at this; rw [List.length_map, List.length_nil] at this; omega)
  injection e with e
  injection e with e1 e2
  subst e1 e2
  exact hc i _ (by unfold strsV; rw [List.getElem?_map, hp]; rfl)
theorem linp_pos (s : List UInt8) : 0 < (Lin.pieces s).length := by
  obtain ⟨q, qs, hq⟩ := Lin.pieces_ne s
  rw [hq]; simp
set_option maxHeartbeats 4000000 in
set_option maxRecDepth 20000 in
/-- The reference's ParseAll. -/
theorem rparseAll_any (s : List UInt8) (hs : s.length ≤ 100000) (w : World) :
    Calls Tryz.prog 33 #[.string ⟨s.toArray⟩] w fun e w' => ∃ v, e = .returned (.tuple #[v, .int .i64 (allR s).2.1, .int .i64 (allR s).2.2]) ∧ w'.ownsRow w.heap.size 24 4 v (allR s).1.length ((allR s).1.flatMap cC) ∧ Below w.heap.size w w' := by
  obtain ⟨i0, hi, hz0, hz1, hz2⟩ := info_parts info_cmd
  obtain ⟨⟨RL, RN, RE⟩, hR⟩ : ∃ r, allR s = r := ⟨_, rfl⟩
  rw [hR]
  simp only
  unfold allR at hR
  obtain ⟨ps, hps⟩ : ∃ ps, Lin.pieces s = ps := ⟨_, rfl⟩
  have HSP : Hid (∀ W, Calls Tryz.prog 53 #[.string ⟨s.toArray⟩, .int .u8 10] W fun e w' => ∃ v, e = .returned v ∧ w'.ownsRow W.heap.size 9 1 v ps.length (strsV ps) ∧ Below W.heap.size W w') := Lib.hid fun W => by
    have := rsplit_any 10 s hs W
    rw [Sp.lin, hps] at this
    exact this
  rw [hps] at hR
  have HR := Lib.hid hR
  have hpl : ps.length ≤ 100001 := by rw [← hps]; have := Lin.pieces_le s; omega
  have HPP : Hid (∀ p ∈ ps, p.length ≤ 100000) := Lib.hid fun p hp => by have := piece_lenL s p (by rw [hps]; exact hp); omega
  have hps0 : 0 < ps.length := by rw [← hps]; exact linp_pos s
  clear hps hR
  go_enter Tryz.func33, Tryz.ntmps33
  go_wp2_with fail
  refine (HSP.out _).mono ?_
  rintro e w1 ⟨v, rfl, o1, hb⟩
  obtain ⟨A, cap, rfl, r1⟩ := own_slice o1
  obtain ⟨b, o, rfl, hbl, _⟩ := r1.at_ (j := 0) (by unfold strsV; rw [List.length_map]; omega)
  have HRd := Lib.hid r1
  have HW1 := Lib.hid hb
  have hle : w.heap.size ≤ w1.heap.size := hb.size
  have HI : Hid (Below w1.heap.size w1 w1) := Lib.hid (Below.refl _ _)
  clear o1 r1 hb HSP hbl
  go_wp2_with fail
  go_loopw [6, 7] (fun v i wr => ∃ (k : Nat) (out : List Cmd.C), k ≤ ps.length ∧ i = .int .i64 k ∧ out.length ≤ k ∧ Hid (Below w1.heap.size w1 wr) ∧ Hid (wr.ownsRow w1.heap.size 24 4 v out.length (out.flatMap cC)) ∧ Hid (goAll k out (ps.drop k) = (RL, RN, RE))) (fun _ i _ => ps.length - (intOf i).toNat)
  case atStart => exact ⟨0, [], Nat.zero_le _, rfl, Nat.le_refl _, HI, Lib.hid (World.ownsRow_nil _ _ _ _), HR⟩
  case round =>
    obtain ⟨k, out, hk, rfl, hol, HI, HO, HA⟩ := hrel
    by_cases hlt : k < ps.length
    · obtain ⟨p, hp⟩ : ∃ p, ps[k]? = some p := ⟨_, List.getElem?_eq_getElem hlt⟩
      have c0 : wr.cell? ⟨b, o + k, none⟩ = some (.string ⟨p.toArray⟩) := rd_piece (HRd.out.below HI.out) hp
      have y1 : (k : Int) < (ps.length : Int) := by omega
      have y2 : ¬ ps = [] := by intro e; rw [e] at hlt; simp at hlt
      have hpl2 := HPP.out p (List.mem_of_getElem? hp)
      have HD : Hid (ps.drop k = p :: ps.drop (k + 1)) := Lib.hid (by rw [List.drop_eq_getElem_cons hlt, (List.getElem?_eq_some_iff.1 hp).2])
      clear hp
      by_cases he : p = []
      · have hE : p.isEmpty = true := by rw [he]; rfl
        have HN : Hid (goAll (k + 1) out (ps.drop (k + 1)) = (RL, RN, RE)) := Lib.hid (by rw [← HA.out, HD.out, go_skip (by unfold skipB; rw [hE]; rfl)])
        clear he
        go_wp2_with fail
        go_roundw
        case rel => exact ⟨k + 1, out, hlt, by go_num, by omega, HI, HO, HN⟩
        case measure => simp [intOf]; omega
      · have hE : p.isEmpty = false := by cases p with
          | nil => exact absurd rfl he
          | cons a r => rfl
        have hp0 : 0 < p.length := List.length_pos_iff.2 he
        obtain ⟨ch, hch⟩ : ∃ c, p[0]? = some c := ⟨_, List.getElem?_eq_getElem hp0⟩
        have hx : ∀ h, ((⟨p.toArray⟩ : ByteArray)[0]'h) = ch := fun h => (List.getElem?_eq_some_iff.1 hch).2
        have HH : Hid (p.head? = some ch) := Lib.hid (by rw [List.head?_eq_getElem?]; exact hch)
        clear hch he
        by_cases h35 : ch = 35
        · subst h35
          have HN : Hid (goAll (k + 1) out (ps.drop (k + 1)) = (RL, RN, RE)) := Lib.hid (by rw [← HA.out, HD.out, go_skip (by unfold skipB; rw [hE, HH.out]; rfl)])
          go_wp2_with fail
          go_roundw
          case rel => exact ⟨k + 1, out, hlt, by go_num, by omega, HI, HO, HN⟩
          case measure => simp [intOf]; omega
        · have b1 := byte_ne (d := 35) h35
          have b2 : ¬ (ch.toNat : Int) = 35 := by simpa using b1
          have b3 : ((ch.toNat : Int) == 35) = false := b1
          have HSK : Hid (skipB p = false) := Lib.hid (by unfold skipB; rw [hE, HH.out]; simpa using h35)
          clear b1 h35
          obtain ⟨PC, hPC⟩ : ∃ x, parseS p = x := ⟨_, rfl⟩
          obtain ⟨PE, hPE⟩ : ∃ x, parseE p = x := ⟨_, rfl⟩
          have HPC := Lib.hid hPC
          have HPE := Lib.hid hPE
          clear hPC hPE
          have hO0 := HO.out
          obtain ⟨A4, cap4, hA4, _⟩ := own_slice hO0
          subst hA4
          clear hO0
          by_cases h5 : out.length = 500
          · have h5' : ((out.length : Int) == 500) = true := by simp; omega
            have h5'' : (out.length : Int) = 500 := by omega
            have HF := Lib.hid (by have := HA.out; rw [HD.out, go_many HSK.out h5] at this; exact this : ([], (k : Int) + 1, 10) = (RL, RN, RE))
            go_wp2_with fail
            go_ret3
            have hF := HF.out
            cases hF
            exact ⟨_, rfl, World.ownsRow_nil _ _ _ _, below_call HW1.out HI.out⟩
          · have h5' : ((out.length : Int) == 500) = false := by simp; omega
            have h5'' : ¬ (out.length : Int) = 500 := by omega
            by_cases h20 : 20000 < p.length
            · have hl : (20000 : Int) < (p.length : Int) := by omega
              have HF := Lib.hid (by have := HA.out; rw [HD.out, go_long HSK.out h5 h20] at this; exact this : ([], (k : Int) + 1, 9) = (RL, RN, RE))
              go_wp2_with fail
              go_ret3
              have hF := HF.out
              cases hF
              exact ⟨_, rfl, World.ownsRow_nil _ _ _ _, below_call HW1.out HI.out⟩
            · have hl : ¬ (20000 : Int) < (p.length : Int) := by omega
              have hp7 : PE = 0 ∨ PE = 7 := by rw [← HPE.out]; unfold parseE; split <;> simp
              go_wp2_with fail
              refine (rcparse_any p (by omega) _).mono ?_
              rintro e w2 ⟨rfl, b⟩
              rw [HPC.out, HPE.out]
              have HI := Lib.hid (below_call HI.out b)
              have hown2 := own_below HO.out b
              have hsz2 := b.size
              clear b c0 HO
              obtain ⟨q, a, n, v⟩ := PC
              unfold cV
              have HI := Lib.hid (below_new HI.out (.cells #[.int .i64 q, .int .i64 a, .string ⟨n.toArray⟩, .string ⟨v.toArray⟩] 24))
              have HO2 := Lib.hid (hown2.alloc (.cells #[.int .i64 q, .int .i64 a, .string ⟨n.toArray⟩, .string ⟨v.toArray⟩] 24))
              clear hown2
              by_cases hpe : PE = 0
              · subst hpe
                have HN : Hid (goAll (k + 1) (out ++ [⟨q, a, n, v⟩]) (ps.drop (k + 1)) = (RL, RN, RE)) := Lib.hid (by rw [← HA.out, HD.out, go_good HSK.out h5 h20 HPE.out, HPC.out])
                have hown3 := HO2.out
                go_wp2_with (at_builtin; refine wpList_append_own _ rfl _ _ 22 rfl w1.heap.size 24 i0 (.agg #[.int .i64 0, .int .i64 0, .string ⟨#[]⟩, .string ⟨#[]⟩]) 4 48 Tryz.underlying22 hi hz0 hz1 hz2 rfl (by decide) _ _ _ rfl (hown3.alloc _) ⟨w2.heap.size + 1, 0, none⟩ 1 1 [.int .i64 q, .int .i64 a, .string ⟨n.toArray⟩, .string ⟨v.toArray⟩] rfl rfl ?c1 ?c2 ?c3 ?c4 ?c5 ?_)
                case c1 =>
                  have := news_all (w2.alloc (.cells #[.int .i64 q, .int .i64 a, .string ⟨n.toArray⟩, .string ⟨v.toArray⟩] 24)) 24 [.int .i64 q, .int .i64 a, .string ⟨n.toArray⟩, .string ⟨v.toArray⟩]
                  rwa [World.size_alloc] at this
                case c2 => intro u hu; simp at hu; rcases hu with rfl | rfl | rfl | rfl <;> rfl
                case c3 => unfold maxLen; omega
                case c4 => have := HI.out.size; simp at this ⊢; omega
                case c5 => have := HI.out.size; simp at this ⊢; omega
                intro v' w4 hown4 hg4 _
                have HO4 := Lib.hid hown4
                have HI4 := Lib.hid ((below_new HI.out _).grown hg4 (by have := HI.out.size; simp at this ⊢; omega) (fun g hg => by have := (hown3.lt g hg).1; omega))
                clear hown3 hown4 hg4
                go_wp2_with fail
                go_roundw
                case rel =>
                  refine ⟨k + 1, out ++ [⟨q, a, n, v⟩], hlt, by go_num, by simp; omega, HI4, ?_, HN⟩
                  rw [List.length_append, List.flatMap_append]
                  exact HO4
                case measure => simp [intOf]; omega
              · obtain rfl : PE = 7 := by omega
                have HF := Lib.hid (by have := HA.out; rw [HD.out, go_form HSK.out h5 h20 (by rw [HPE.out]; exact hpe), HPE.out] at this; exact this : ([], (k : Int) + 1, 7) = (RL, RN, RE))
                clear hpe hp7
                go_wp2_with fail
                go_ret3
                have hF := HF.out
                cases hF
                exact ⟨_, rfl, World.ownsRow_nil _ _ _ _, below_call HW1.out HI.out⟩
    · obtain rfl : k = ps.length := by omega
      have hA := HA.out
      rw [List.drop_length, goAll] at hA
      have HZ := Lib.hid hA
      clear hA
      cases HZ.out
      have hO := HO.out
      go_wp2_with fail
      go_ret3
      exact ⟨_, rfl, own_base hO hle, below_call HW1.out HI.out⟩
end Go.Proofs.YtphpgbbjbncfoaaGreatDoor

/-
  LAYER 4: the tokens of a text, in the program.
-/
import Derived.Test.YtkjpnciimabclaaDoorLex4
namespace Go.Proofs.YtkjpnciimabclaaDoor
open Go.ChangeShapes Go.WideShapes Go.ChangeAt Go.RowKit

def cellsT (t : Lex.Tok) : List Value := [.int .i64 t.kind, .string ⟨t.text.toArray⟩, .int .i64 t.off]
theorem cellsT_len (t : Lex.Tok) : (cellsT t).length = 3 := rfl
theorem info_tok : (Tryd.prog.info? 32).map (fun i => (i.zero, i.size, i.bytes)) = some (some (.agg #[.int .i64 0, .string ⟨#[]⟩, .int .i64 0]), 3, 32) := by kernel_rfl

set_option maxHeartbeats 4000000 in
set_option maxRecDepth 100000 in
/-- lexeme.Scan. -/
theorem scan_any (l : List UInt8) (hl : l.length ≤ 1000000) (w : World) (hG : Good w) :
    Calls Tryd.prog 10 #[.string ⟨l.toArray⟩] w fun e w' => ∃ v, e = .returned (.tuple #[v, .int .i64 (Lex.offs (Lex.scan l)), .int .i64 (Lex.errn (Lex.scan l))]) ∧ w'.ownsRow w.heap.size 32 3 v (Lex.toks (Lex.scan l)).length ((Lex.toks (Lex.scan l)).flatMap cellsT) ∧ Below w.heap.size w w' := by
  obtain ⟨i0, hi, hz0, hz1, hz2⟩ := info_parts info_tok
  obtain ⟨S, hS⟩ : ∃ S, Lex.scan l = S := ⟨_, rfl⟩
  rw [hS]
  have HS := Lib.hid hS
  clear hS
  have HG := Lib.hid hG
  clear hG
  go_enter Tryd.func10, Tryd.ntmps10
  go_wp2_with fail
  refine (skip_any l (by omega) _).mono ?_
  rintro e w1 ⟨rfl, rfl⟩
  go_wp2_with fail
  go_loopw [5, 6] (fun v i wr => ∃ (k : Nat) (ts : List Lex.Tok), k ≤ l.length ∧ ts.length ≤ k ∧ i = .int .i64 k ∧ wr.ownsRow w1.heap.size 32 3 v ts.length (ts.flatMap cellsT) ∧ Below w1.heap.size w1 wr ∧ Hid (Lex.At l k ts)) (fun _ i _ => l.length - (intOf i).toNat)
  case atStart => exact ⟨Lex.skip l, [], Lex.skip_le l, Nat.zero_le _, rfl, by simpa using World.ownsRow_nil _ _ _ _, Below.refl _ _, Lib.hid (Lex.at_start l)⟩
  case round =>
    obtain ⟨k, ts, hk, hts, rfl, hown, hnx, HA⟩ := hrel
    have hGr := HG.out.below hnx (Nat.le_refl _)
    have HB := Lib.hid hnx
    have HO := Lib.hid hown
    clear hnx hown
    by_cases hlt : k < l.length
    · have cut := @extract_end l k
      have hF := first_any (l.drop k) (by rw [Ne, List.drop_eq_nil_iff]; omega) (by rw [List.length_drop]; omega) wr hGr
      obtain ⟨K, T, hKT⟩ : ∃ K T, Lex.first (l.drop k) = (K, T) := ⟨_, _, rfl⟩
      rw [hKT] at hF
      have HKT := Lib.hid hKT
      have HF := Lib.hid hF
      clear hKT hF
      obtain ⟨dk, hdk⟩ : ∃ x, l.drop k = x := ⟨_, rfl⟩
      rw [hdk] at cut HF
      have HD := Lib.hid hdk
      clear hdk
      go_wp2_with fail
      refine HF.out.mono ?_
      rintro e w2 ⟨rfl, b2⟩
      have hG2 := hGr.call b2
      have K2 := Lib.hid (below_call HB.out b2)
      have hown2 := own_below HO.out b2
      clear b2 hGr
      simp only
      by_cases hz : K = 0
      · subst hz
        have hb := Lex.at_bad HA.out hlt (by rw [HKT.out])
        rw [HS.out] at hb
        subst hb
        go_wp2_with fail
        go_ret3
        exact ⟨.slice none 0 0, rfl, by simpa [Lex.toks] using World.ownsRow_nil _ _ _ _, K2.out⟩
      · obtain ⟨s1, s2, s3⟩ := Lex.at_step HA.out hlt (by rw [HKT.out]; exact hz)
        rw [HKT.out] at s1 s2 s3
        simp only at s1 s2 s3
        have HA3 := Lib.hid s3
        clear s3
        have S1 := Lib.hid s1
        have S2 := Lib.hid s2
        clear s1 s2
        go_wp2_with (at_builtin; refine wpList_append_own _ rfl _ _ 23 rfl w1.heap.size 32 i0 (.agg #[.int .i64 0, .string ⟨#[]⟩, .int .i64 0]) 3 32 Tryd.underlying23 hi hz0 hz1 hz2 rfl (by decide) _ _ _ rfl (hown2.alloc _) ⟨w2.heap.size, 0, none⟩ 1 1 [.int .i64 K, .string ⟨T.toArray⟩, .int .i64 k] rfl rfl ?c1 ?c2 ?c3 ?c4 ?c5 ?_)
        case c1 => exact news_all _ _ [_, _, _]
        case c2 => intro u hu; simp at hu; rcases hu with rfl | rfl | rfl <;> rfl
        case c3 => unfold maxLen; omega
        case c4 => omega
        case c5 => have := K2.out.size; simp; omega
        intro v' w4 hown4 hg4 _
        have HO4 := Lib.hid hown4
        have K4 := Lib.hid ((below_new K2.out _).grown hg4 (by have := K2.out.size; simp; omega) (fun g hg => (hown2.lt g hg).1))
        clear hown2 hown4 hg4
        have s1 := S1.out
        have cut2 := @extract_end l (k + T.length)
        go_wp2_with fail
        refine (skip_any (l.drop (k + T.length)) (by rw [List.length_drop]; omega) _).mono ?_
        rintro e w5 ⟨rfl, rfl⟩
        have s2 := Lex.skip_le (l.drop (k + T.length))
        rw [List.length_drop] at s2
        have s3 := HA3.out.1
        have s4 := S2.out
        have s5 := HA3.out.2.1
        obtain ⟨J, hJ⟩ : ∃ J, Lex.skip (l.drop (k + T.length)) = J := ⟨_, rfl⟩
        rw [hJ] at s2 s3 s5 HA3
        have HJ := Lib.hid hJ
        rw [hJ]
        clear hJ
        go_wp2_with fail
        go_roundw
        case rel =>
          refine ⟨k + T.length + J, ts ++ [⟨K, T, k⟩], s3, s5, by go_num, ?_, K4.out, HA3⟩
          have := HO4.out
          simpa [cellsT] using this
        case measure => simp [intOf]; omega
    · obtain rfl : k = l.length := by omega
      have hb := Lex.at_end HA.out
      rw [HS.out] at hb
      subst hb
      go_wp2_with fail
      go_ret3
      exact ⟨_, rfl, HO.out, HB.out⟩
end Go.Proofs.YtkjpnciimabclaaDoor

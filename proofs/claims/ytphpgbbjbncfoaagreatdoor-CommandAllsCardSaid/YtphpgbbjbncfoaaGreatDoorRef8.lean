/-
  LAYER 42, THE REFERENCE: Print, Parse.
-/
import Derived.Test.YtphpgbbjbncfoaaGreatDoorRef3
import Derived.Test.YtphpgbbjbncfoaaGreatDoorRef7
namespace Go.Proofs.YtphpgbbjbncfoaaGreatDoor
open Go.ChangeShapes Go.WideShapes Go.ChangeAt Go.RowKit

set_option maxHeartbeats 1000000 in
set_option maxRecDepth 20000 in
theorem rprint_bad (c : Cmd.C) (a0 : -9223372036854775808 ≤ c.a) (a1 : c.a ≤ 9223372036854775807) (hn : c.name.length ≤ 100000) (hv : c.val.length ≤ 100000) (h : Cmd.okB c = false) (w : World) :
    Calls Tryz.prog 29 #[cV c] w fun e w' => e = .returned (.tuple #[.string ⟨#[]⟩, .int .i64 2]) ∧ Below w.heap.size w w' := by
  have HC : Hid (∀ W, Calls Tryz.prog 30 #[cV c] W fun e w' => e = .returned (.int .i64 2) ∧ Below W.heap.size W w') := Lib.hid fun W => by
    have := rcheck_any c a0 a1 hn hv W
    rwa [(print_no h).2] at this
  obtain ⟨q, a, n, v⟩ := c
  unfold cV at HC ⊢
  clear h
  go_enter Tryz.func29, Tryz.ntmps29
  go_wp2_with fail
  refine (HC.out _).mono ?_
  rintro e w1 ⟨rfl, hb⟩
  have HB := Lib.hid (below_call (below_new (Below.refl w.heap.size w) _) hb)
  clear hb
  go_wp2_with fail
  go_ret2
  exact ⟨rfl, HB.out⟩
set_option maxHeartbeats 3000000 in
set_option maxRecDepth 100000 in
theorem rprint_good (m : Nat) (a : Int) (n v : List UInt8) (hn : n.length ≤ 100000) (hv : v.length ≤ 100000) (h : Cmd.okB ⟨m, a, n, v⟩ = true) (m1 : 1 ≤ m) (m2 : m ≤ 15) (a0 : 0 ≤ a) (a1 : a ≤ 9223372036854775807) (w : World) :
    Calls Tryz.prog 29 #[.agg #[.int .i64 (m : Int), .int .i64 a, .string ⟨n.toArray⟩, .string ⟨v.toArray⟩]] w fun e w' => e = .returned (.tuple #[.string ⟨(Cmd.line m ⟨m, a, n, v⟩).toArray⟩, .int .i64 0]) ∧ Below w.heap.size w w' := by
  have HC : Hid (∀ W, Calls Tryz.prog 30 #[.agg #[.int .i64 (m : Int), .int .i64 a, .string ⟨n.toArray⟩, .string ⟨v.toArray⟩]] W fun e w' => e = .returned (.int .i64 0) ∧ Below W.heap.size W w') := Lib.hid fun W => by
    have := rcheck_any ⟨m, a, n, v⟩ (by simp only; omega) a1 hn hv W
    rwa [(print_yes h).2] at this
  have HW : Hid (∀ W, Calls Tryz.prog 31 #[.int .i64 (m : Int)] W fun e w' => e = .returned (.string ⟨(Cmd.word' (m : Int)).toArray⟩) ∧ Below W.heap.size W w') := Lib.hid fun W => rword_any (m : Int) W
  obtain ⟨WD, hWD⟩ : ∃ x, Cmd.word' (m : Int) = x := ⟨_, rfl⟩
  rw [hWD] at HW
  have HT : Hid (∀ W, Calls Tryz.prog 49 #[.agg #[.int .i64 (m : Int), .int .i64 a, .string ⟨n.toArray⟩, .string ⟨v.toArray⟩]] W fun e w' => e = .returned (.string ⟨(Cmd.text (Cmd.cls m) ⟨m, a, n, v⟩).toArray⟩) ∧ Below W.heap.size W w') := Lib.hid fun W => rtext_any ⟨m, a, n, v⟩ (by simp only; omega) (by simp only; omega) a0 a1 hn hv W
  have htl := text_len (Cmd.cls m) ⟨m, a, n, v⟩ hv hn a0 a1
  have hwl : WD.length ≤ 8 := by
    rw [← hWD, show Cmd.word' (m : Int) = (Cmd.words[m]?).getD [] by unfold Cmd.word'; rw [if_pos (by omega), Int.toNat_natCast]]
    exact word_short m
  have HL : Hid (Cmd.line m ⟨m, a, n, v⟩ = WD ++ Cmd.text (Cmd.cls m) ⟨m, a, n, v⟩) := Lib.hid (by
    unfold Cmd.line
    rw [← hWD, show Cmd.word' (m : Int) = (Cmd.words[m]?).getD [] by unfold Cmd.word'; rw [if_pos (by omega), Int.toNat_natCast]])
  obtain ⟨T, hT⟩ : ∃ x, Cmd.text (Cmd.cls m) ⟨m, a, n, v⟩ = x := ⟨_, rfl⟩
  rw [hT] at HT htl HL
  clear hT hWD h
  have z : ¬ 9223372036854775807 < WD.length + T.length := by omega
  go_enter Tryz.func29, Tryz.ntmps29
  go_wp2_with fail
  refine (HC.out _).mono ?_
  rintro e w1 ⟨rfl, hb⟩
  have HW0 := CBk.call CBk.new hb
  clear hb
  go_wp2_with fail
  refine wp_region_held_drew (S := fun W => W.cell? ⟨w.heap.size, 0, none⟩ = some (.int .i64 (m : Int)) ∧ W.cell? ⟨w.heap.size, 1, none⟩ = some (.int .i64 a) ∧ W.cell? ⟨w.heap.size, 2, none⟩ = some (.string ⟨n.toArray⟩) ∧ W.cell? ⟨w.heap.size, 3, none⟩ = some (.string ⟨v.toArray⟩) ∧ Hid (CBk w (.int .i64 (m : Int)) (.int .i64 a) (.string ⟨n.toArray⟩) (.string ⟨v.toArray⟩) W)) (by kernel_rfl) ?_ (fun hHeld0 => ?_)
  · exact CBk.cells (CBk.drew HW0)
  clear HW0
  refine wpAnyH_take (i := 0) (oi := ⟨some 7, _, _, _, _, _⟩) (v := ?_) rfl (by kernel_rfl) (by kernel_rfl) (by kernel_rfl) (fun _ _ _ h => h) (Or.inl ⟨rfl, ?_⟩) (by assumption) ?_
  rotate_left
  · (intro w hSw; (try dsimp only at hSw); go_simp; (try with_reducible rfl))
  (try simp only [Act.put, List.setIfInBounds_toArray, List.set_cons_zero, List.set_cons_succ])
  refine wpAnyH_take (i := 1) (oi := ⟨some 8, _, _, _, _, _⟩) (v := ?_) rfl (by kernel_rfl) (by kernel_rfl) (by kernel_rfl) (fun _ _ _ h => h) (Or.inl ⟨rfl, ?_⟩) (by assumption) ?_
  rotate_left
  · (intro w hSw; (try dsimp only at hSw); go_simp; (try with_reducible rfl))
  (try simp only [Act.put, List.setIfInBounds_toArray, List.set_cons_zero, List.set_cons_succ])
  refine wpAnyH_take (i := 3) (oi := ⟨some 10, _, _, _, _, _⟩) (v := ?_) rfl (by kernel_rfl) (by kernel_rfl) (by kernel_rfl) (fun _ _ _ h => h) (Or.inl ⟨rfl, ?_⟩) (by assumption) ?_
  rotate_left
  · (intro w hSw; (try dsimp only at hSw); go_simp; (try with_reducible rfl))
  (try simp only [Act.put, List.setIfInBounds_toArray, List.set_cons_zero, List.set_cons_succ])
  refine wpAnyH_ready (rs := [2]) (by kernel_rfl) (by simp) ?_
  refine AllReadyH.cons (o := ⟨some 9, _, _, _, _, _⟩) rfl (fun K hK => ?_) AllReadyH.nil
  go_simp
  refine (HW.out _).mono ?_
  rintro e w' ⟨rfl, hb⟩
  have hCall := CBk.call (CBk.limb hHeld0) hb
  clear hb
  go_wp2_with fail
  refine hK.out _ _ ?_ (fun hHeld1 => ?_)
  · exact CBk.cells hCall
  clear hK K hCall hHeld0
  (try simp only [Act.put, List.setIfInBounds_toArray, List.set_cons_zero, List.set_cons_succ])
  refine wpAnyH_ready (rs := [4]) (by kernel_rfl) (by simp) ?_
  refine AllReadyH.cons (o := ⟨some 11, _, _, _, _, _⟩) rfl (fun K hK => ?_) AllReadyH.nil
  go_simp
  refine (HT.out _).mono ?_
  rintro e w' ⟨rfl, hb⟩
  have hCall := CBk.call (CBk.limb hHeld1) hb
  clear hb
  go_wp2_with fail
  refine hK.out _ _ ?_ (fun hHeld2 => ?_)
  · exact CBk.cells hCall
  clear hK K hCall hHeld1
  (try simp only [Act.put, List.setIfInBounds_toArray, List.set_cons_zero, List.set_cons_succ])
  refine wpAnyH_take (i := 5) (oi := ⟨some 12, _, _, _, _, _⟩) (v := ?_) rfl (by kernel_rfl) (by kernel_rfl) (by kernel_rfl) (fun _ _ _ h => h) (Or.inl ⟨rfl, ?_⟩) (by assumption) ?_
  rotate_left
  · (intro w hSw; (try dsimp only at hSw); go_simp; (try with_reducible rfl))
  (try simp only [Act.put, List.setIfInBounds_toArray, List.set_cons_zero, List.set_cons_succ])
  refine wpAnyH_take (i := 6) (oi := ⟨some 2, _, _, _, _, _⟩) (v := ?_) rfl (by kernel_rfl) (by kernel_rfl) (by kernel_rfl) (fun _ _ _ h => h) (Or.inl ⟨rfl, ?_⟩) (by assumption) ?_
  rotate_left
  · (intro w hSw; (try dsimp only at hSw); go_simp; (try with_reducible rfl))
  (try simp only [Act.put, List.setIfInBounds_toArray, List.set_cons_zero, List.set_cons_succ])
  refine wpAnyH_take (i := 7) (oi := ⟨some 3, _, _, _, _, _⟩) (v := ?_) rfl (by kernel_rfl) (by kernel_rfl) (by kernel_rfl) (fun _ _ _ h => h) (Or.inl ⟨rfl, ?_⟩) (by assumption) ?_
  rotate_left
  · (intro w hSw; (try dsimp only at hSw); go_simp; (try with_reducible rfl))
  (try simp only [Act.put, List.setIfInBounds_toArray, List.set_cons_zero, List.set_cons_succ])
  refine wpAnyH_done (by kernel_rfl) ?_ _
  have HZ := CBk.limb hHeld2
  clear hHeld2
  (try go_wp2_with fail)
  go_ret2
  exact ⟨by rw [HL.out, ← ByteArray.mk_append_mk]; rfl, HZ.out.1⟩
/-- The reference's Print. -/
theorem rprint_any (c : Cmd.C) (a0 : -9223372036854775808 ≤ c.a) (a1 : c.a ≤ 9223372036854775807) (hn : c.name.length ≤ 100000) (hv : c.val.length ≤ 100000) (w : World) :
    Calls Tryz.prog 29 #[cV c] w fun e w' => e = .returned (.tuple #[.string ⟨(Cmd.printS c).toArray⟩, .int .i64 (Cmd.printE c)]) ∧ Below w.heap.size w w' := by
  cases h : Cmd.okB c with
  | false => rw [(print_no h).1, (print_no h).2]; exact rprint_bad c a0 a1 hn hv h w
  | true =>
    rw [(print_yes h).1, (print_yes h).2]
    obtain ⟨q, a, n, v⟩ := c
    have hk : 1 ≤ q ∧ q ≤ 15 ∧ 0 ≤ a := by
      unfold Cmd.okB at h
      rw [Bool.and_eq_true, Bool.and_eq_true] at h
      have := of_decide_eq_true h.1.1
      simp only at this
      omega
    obtain ⟨m, rfl⟩ : ∃ m : Nat, q = m := ⟨q.toNat, by omega⟩
    exact rprint_good m a n v hn hv h (by omega) (by omega) hk.2.2 a1 w

set_option maxHeartbeats 2000000 in
set_option maxRecDepth 20000 in
/-- The reference's Parse. -/
theorem rcparse_any (s : List UInt8) (hs : s.length ≤ 100000) (w : World) :
    Calls Tryz.prog 21 #[.string ⟨s.toArray⟩] w fun e w' => e = .returned (.tuple #[cV (parseS s), .int .i64 (parseE s)]) ∧ Below w.heap.size w w' := by
  by_cases hl : 20000 < s.length
  · have hp : parse s = none := by unfold parse; rw [if_pos hl]
    have HQ : Hid (parseS s = Cmd.zero ∧ parseE s = 7) := Lib.hid (by unfold parseS parseE; rw [hp]; exact ⟨rfl, rfl⟩)
    have hl' : (20000 : Int) < (s.length : Int) := by omega
    clear hp hl
    rw [HQ.out.1, HQ.out.2]
    go_enter Tryz.func21, Tryz.ntmps21
    go_wp2_with fail
    refine bodyPost_ret (results_cmd rfl _ _ w.heap.size _ _ rfl (heap_alloc_new w _) rfl) rfl ?_
    exact ⟨rfl, below_new (Below.refl _ _) _⟩
  · have hl' : ¬ (20000 : Int) < (s.length : Int) := by omega
    have HG : Hid (∀ W, Calls Tryz.prog 45 #[.string ⟨s.toArray⟩] W fun e w' => e = .returned (cV (rguess s)) ∧ Below W.heap.size W w') := Lib.hid fun W => rguess_any s hs W
    have hz := rguess_sizes s
    obtain ⟨⟨q, a, n, v⟩, hC⟩ : ∃ c, rguess s = c := ⟨_, rfl⟩
    rw [hC] at HG hz
    simp only at hz
    have hgood : Cmd.okB ⟨q, a, n, v⟩ = true → Cmd.line q.toNat ⟨q, a, n, v⟩ = s → parseS s = ⟨q, a, n, v⟩ ∧ parseE s = 0 := fun h1 h2 => by
      have := rparse_good (s := s) (by rw [hC]; exact h1) (by rw [hC]; exact h2)
      rwa [hC] at this
    have hbad : ¬ (Cmd.okB ⟨q, a, n, v⟩ = true ∧ Cmd.line q.toNat ⟨q, a, n, v⟩ = s) → parseS s = Cmd.zero ∧ parseE s = 7 := fun h => rparse_bad (by rw [hC]; exact h)
    have HP : Hid (∀ W, Calls Tryz.prog 29 #[cV ⟨q, a, n, v⟩] W fun e w' => e = .returned (.tuple #[.string ⟨(Cmd.printS ⟨q, a, n, v⟩).toArray⟩, .int .i64 (Cmd.printE ⟨q, a, n, v⟩)]) ∧ Below W.heap.size W w') := Lib.hid fun W => rprint_any ⟨q, a, n, v⟩ hz.2.2.1 hz.2.2.2.1 (by simp only; omega) (by simp only; omega) W
    have HGood := Lib.hid hgood
    have HBad := Lib.hid hbad
    clear hgood hbad hC hz hl
    unfold cV at HG HP
    go_enter Tryz.func21, Tryz.ntmps21
    go_wp2_with fail
    refine (HG.out _).mono ?_
    rintro e w1 ⟨rfl, hb⟩
    have HJ : Hid (JI w w1.heap.size #[.int .i64 q, .int .i64 a, .string ⟨n.toArray⟩, .string ⟨v.toArray⟩] (w1.alloc (.cells #[.int .i64 q, .int .i64 a, .string ⟨n.toArray⟩, .string ⟨v.toArray⟩] 24))) := Lib.hid ⟨below_new (below_call (below_new (Below.refl w.heap.size w) _) hb) _, (blk_new _ _ _ _ hb).alloc _, Blk.new _ _ _, by have := hb.size; rw [World.size_alloc] at this; omega⟩
    clear hb
    go_wp2_with fail
    refine (HP.out _).mono ?_
    rintro e w6 ⟨rfl, hb⟩
    have HJ6 := JI.call HJ hb
    clear hb HJ
    have e0 := HJ6.out.2.2.1.cell 0
    have e1 := HJ6.out.2.2.1.cell 1
    have e2 := HJ6.out.2.2.1.cell 2
    have e3 := HJ6.out.2.2.1.cell 3
    have r0 := HJ6.out.2.1.cell 0
    have r1 := HJ6.out.2.1.cell 1
    have r2 := HJ6.out.2.1.cell 2
    have r3 := HJ6.out.2.1.cell 3
    have q0 := HJ6.out.2.1.frozen 0
    have q1 := HJ6.out.2.1.frozen 1
    have q2 := HJ6.out.2.1.frozen 2
    have q3 := HJ6.out.2.1.frozen 3
    cases hok : Cmd.okB ⟨q, a, n, v⟩ with
    | false =>
      have HR := Lib.hid (HBad.out (by rw [hok]; rintro ⟨h, _⟩; cases h))
      rw [(print_no hok).1, (print_no hok).2]
      clear hok
      go_wp2_with fail
      refine bodyPost_ret (results_cmd rfl _ _ w.heap.size _ _ rfl HJ6.out.2.1.put4 rfl) rfl ?_
      exact ⟨by rw [HR.out.1, HR.out.2]; rfl, below_put4 HJ6.out.1 (Nat.le_refl _)⟩
    | true =>
      rw [(print_yes hok).1, (print_yes hok).2]
      by_cases hs2 : Cmd.line q.toNat ⟨q, a, n, v⟩ = s
      · have HR := Lib.hid (HGood.out hok hs2)
        simp only [hs2]
        have hs3 : (s == s) = true := by simp
        clear hok hs2
        go_wp2_with fail
        refine bodyPost_ret (results_cmd rfl _ _ w.heap.size _ _ rfl HJ6.out.2.1.put4 rfl) rfl ?_
        exact ⟨by rw [HR.out.1, HR.out.2]; rfl, below_put4 HJ6.out.1 (Nat.le_refl _)⟩
      · have HR := Lib.hid (HBad.out (fun h => hs2 h.2))
        simp only
        generalize Cmd.line q.toNat ⟨q, a, n, v⟩ = L at *
        have hs3 : (L == s) = false := by simpa using hs2
        clear hok hs2
        go_wp2_with fail
        refine bodyPost_ret (results_cmd rfl _ _ w.heap.size _ _ rfl HJ6.out.2.1.put4 rfl) rfl ?_
        exact ⟨by rw [HR.out.1, HR.out.2]; rfl, below_put4 HJ6.out.1 (Nat.le_refl _)⟩
end Go.Proofs.YtphpgbbjbncfoaaGreatDoor

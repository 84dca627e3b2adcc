/-
  LAYER 2: lists of numbers, in the program and in the reference.
-/
import Derived.Test.YtphpgbbjbncfoaaGreatDoorCNum3
import Derived.BigQuiet
import Derived.Deep.QuietTactic
namespace Go.Proofs.YtphpgbbjbncfoaaGreatDoor
open Go.ChangeShapes Go.WideShapes Go.ChangeAt Go.RowKit

theorem info_i64 : (Tryz.prog.info? 2).map (fun i => (i.zero, i.size, i.bytes)) = some (some (.int .i64 0), 1, 8) := by kernel_rfl
def numsL (l : List UInt8) : List Int := (Num.list l).getD []
def errL (l : List UInt8) : Int := if (Num.list l).isSome = true then 0 else 7
theorem numsL_some {l : List UInt8} {ns : List Int} (h : Num.list l = some ns) : numsL l = ns ∧ errL l = 0 := by unfold numsL errL; rw [h]; exact ⟨rfl, rfl⟩
theorem numsL_none {l : List UInt8} (h : Num.list l = none) : numsL l = [] ∧ errL l = 7 := by unfold numsL errL; rw [h]; exact ⟨rfl, rfl⟩
def ints (ns : List Int) : List Value := ns.map (.int .i64)
theorem own_base {w : World} {b b' size n : Nat} {e : TypeId} {v : Value} {xs : List Value} (h : w.ownsRow b e size v n xs) (hb : b' ≤ b) : w.ownsRow b' e size v n xs :=
  ⟨h.1, h.2.imp_right fun ⟨g, cap, cur, e1, h1, h2⟩ => ⟨g, cap, cur, e1, by omega, h2⟩⟩
theorem errP_ok {p : List UInt8} (h : Num.okP p = true) : errP p = 0 := by unfold errP; rw [if_pos h]
theorem errP_bad {p : List UInt8} (h : Num.okP p = false) : errP p = 7 := by unfold errP; rw [if_neg (by rw [h]; decide)]
theorem bad_parse {p : List UInt8} (h : Num.okP p = false) : Num.parse p = none := by
  cases hp : Num.parse p with
  | none => rfl
  | some n => rw [(Num.okP_some hp).1] at h; cases h
theorem list_all {l : List UInt8} {done : List (List UInt8)} (h0 : l ≠ []) (h : Num.pieces l = done) (ha : ∀ p ∈ done, Num.okP p = true) : Num.list l = some (done.map Num.numP) := by
  unfold Num.list
  rw [if_neg h0, h, if_pos (by rw [List.all_eq_true]; exact ha)]
theorem all_more {done : List (List UInt8)} {p : List UInt8} (ha : ∀ p ∈ done, Num.okP p = true) (h : Num.okP p = true) : ∀ q ∈ done ++ [p], Num.okP q = true := by
  intro q hq
  rcases List.mem_append.1 hq with hq | hq
  · exact ha q hq
  · rw [List.mem_singleton.1 hq]; exact h
theorem piece_len : ∀ (l p : List UInt8), p ∈ Num.pieces l → p.length ≤ l.length
  | [], p, h => by
    rw [show Num.pieces [] = [[]] from rfl, List.mem_singleton] at h
    subst h
    simp
  | c :: r, p, h => by
    have ih := piece_len r
    obtain ⟨q, qs, hq⟩ := Num.pieces_ne r
    by_cases hc : c = 44
    · subst hc
      rw [Num.pieces_comma] at h
      rcases List.mem_cons.1 h with rfl | h
      · simp
      · have := ih p h
        rw [List.length_cons]
        omega
    · rw [Num.pieces_other hc hq] at h
      rw [hq] at ih
      rcases List.mem_cons.1 h with rfl | h
      · have := ih q (by simp)
        rw [List.length_cons, List.length_cons]
        omega
      · have := ih p (by simp [h])
        rw [List.length_cons]
        omega

/-- strings.Split at a comma. -/
theorem split_any (l : List UInt8) (hl : l.length ≤ 1000000) (w : World) (hG : Good w) :
    Calls Tryz.prog 37 #[.string ⟨l.toArray⟩, .string ⟨#[44]⟩] w fun e w' => e = .returned (.slice (some ⟨w.heap.size, 0, none⟩) (Num.pieces l).length (Num.pieces l).length) ∧ w' = w.alloc (.cells ((Num.pieces l).map fun p => Value.string ⟨p.toArray⟩).toArray 9) := by
  obtain ⟨m, hm⟩ := hG.ml
  have h := Tryz.strings_Split ⟨l.toArray⟩ ⟨#[44]⟩ m w (by show l.length < _; omega) hm (by decide)
  have e1 := Num.splitB_pieces l
  have e2 := Lib.splitB_all ⟨#[44]⟩ (by decide) 0 _ ⟨l.toArray⟩ rfl
  rw [e1, List.length_map] at e2
  rw [e1, ← e2, List.map_map] at h
  exact h

set_option maxHeartbeats 1000000 in
/-- number.List. -/
theorem nlist_any (l : List UInt8) (hl : l.length ≤ 100000) (w : World) (hG : Good w) :
    Calls Tryz.prog 99 #[.string ⟨l.toArray⟩] w fun e w' => ∃ v, e = .returned (.tuple #[v, .int .i64 (errL l)]) ∧ w'.ownsRow w.heap.size 2 1 v (numsL l).length (ints (numsL l)) ∧ Below w.heap.size w w' := by
  obtain ⟨i0, hi, hz0, hz1, hz2⟩ := info_parts info_i64
  have HI : Hid (FInv w w) := Lib.hid ⟨hG, Below.refl _ _⟩
  have HG := Lib.hid hG
  clear hG
  by_cases h0 : l = []
  · subst h0
    go_enter Tryz.func99, Tryz.ntmps99
    go_wp2_with fail
    go_ret2
    exact ⟨_, rfl, World.ownsRow_nil _ _ _ _, HI.out.2⟩
  · have hE : l.isEmpty = false := by cases l with | nil => exact absurd rfl h0 | cons c r => rfl
    have H0 := Lib.hid h0
    clear h0
    obtain ⟨E, hE1⟩ : ∃ E, errL l = E := ⟨_, rfl⟩
    obtain ⟨NS, hN1⟩ : ∃ E, numsL l = E := ⟨_, rfl⟩
    rw [hE1, hN1]
    have HE := Lib.hid hE1
    have HNS := Lib.hid hN1
    clear hE1 hN1
    obtain ⟨ps, hps⟩ : ∃ ps, Num.pieces l = ps := ⟨_, rfl⟩
    have hsp := fun W (hW : Good W) => split_any l (by omega) W hW
    rw [hps] at hsp
    have HSP := Lib.hid hsp
    have HPS := Lib.hid hps
    have hpl : ps.length ≤ 100001 := by rw [← hps]; have := Num.pieces_le l; omega
    have HPP : Hid (∀ p ∈ ps, p.length ≤ 100000) := Lib.hid fun p hp => by have := piece_len l p (by rw [hps]; exact hp); omega
    clear hsp hps
    go_enter Tryz.func99, Tryz.ntmps99
    go_wp2_with fail
    refine (HSP.out _ (FInv.good HI)).mono ?_
    rintro e w1 ⟨rfl, hw1⟩
    have HB : Hid (Blk w1 w.heap.size 9 (ps.map fun p => Value.string ⟨p.toArray⟩).toArray) := Lib.hid (by rw [hw1]; exact Blk.new _ _ _)
    have HI : Hid (FInv w w1) := by rw [hw1]; exact FInv.alloc HI _
    have hsz : w.heap.size + 1 ≤ w1.heap.size := by rw [hw1]; simp
    clear hw1 HSP
    go_wp2_with fail
    go_loopw [4, 14] (fun v i wr => ∃ k : Nat, k ≤ ps.length ∧ i = .int .i64 k ∧ Hid (FInv w wr) ∧ w.heap.size + 1 ≤ wr.heap.size ∧ Hid (Blk wr w.heap.size 9 (ps.map fun p => Value.string ⟨p.toArray⟩).toArray) ∧ Hid (wr.ownsRow (w.heap.size + 1) 2 1 v k (ints ((ps.take k).map Num.numP))) ∧ Hid (∀ p ∈ ps.take k, Num.okP p = true)) (fun _ i _ => ps.length - (intOf i).toNat)
    case atStart => exact ⟨0, Nat.zero_le _, rfl, HI, hsz, HB, Lib.hid (World.ownsRow_nil _ _ _ _), Lib.hid (by simp)⟩
    case round =>
      obtain ⟨k, hk, rfl, HI, hsz, HB, HO, HA⟩ := hrel
      by_cases hlt : k < ps.length
      · obtain ⟨p, hp⟩ : ∃ p, ps[k]? = some p := ⟨_, List.getElem?_eq_getElem hlt⟩
        have c0 : wr.cell? ⟨w.heap.size, k, none⟩ = some (.string ⟨p.toArray⟩) := by
          rw [HB.out.cell k, List.getElem?_toArray, List.getElem?_map, hp]
          rfl
        have hpl2 := HPP.out p (List.mem_of_getElem? hp)
        have HPk := Lib.hid hp
        clear hp
        cases ho : Num.okP p with
        | true =>
          have hn := Num.okP_itoa ho
          have HOk := Lib.hid ho
          have HE2 := Lib.hid (errP_ok ho)
          obtain ⟨N, hN⟩ : ∃ N, Num.numP p = N := ⟨_, rfl⟩
          have HN := Lib.hid hN
          clear ho hn
          go_wp2_with fail
          refine (nparse_any p (by omega) _ (FInv.good HI)).mono ?_
          rintro e w2 ⟨rfl, b⟩
          rw [HN.out, HE2.out]
          have HI := FInv.call HI b
          have HB := Lib.hid (HB.out.call b)
          have hown2 := own_below HO.out b
          have hsz2 := b.size
          clear b c0 hN HO
          go_wp2_with (at_builtin; refine wpList_append_own _ rfl _ _ 91 rfl (w.heap.size + 1) 2 i0 (.int .i64 0) 1 8 Tryz.underlying91 hi hz0 hz1 hz2 rfl (by decide) _ _ _ rfl (hown2.alloc _) ⟨w2.heap.size, 0, none⟩ 1 1 [.int .i64 N] rfl rfl ?c1 ?c2 ?c3 ?c4 ?c5 ?_)
          case c1 => exact one_news _ _ _
          case c2 => intro u hu; simp at hu; subst hu; rfl
          case c3 => unfold maxLen; omega
          case c4 => omega
          case c5 => have := HI.out.2.size; simp; omega
          intro v' w4 hown4 hg4 _
          have HO4 := Lib.hid hown4
          have HI4 := FInv.of HG.out ((below_new HI.out.2 _).grown hg4 (by have := HI.out.2.size; simp; omega) (fun g hg => by have := (hown2.lt g hg).1; omega))
          have HB4 := Lib.hid ((HB.out.alloc _).grown hg4 (fun e => by have := (hown2.lt _ e.symm).1; omega))
          have hsz4 : w.heap.size + 1 ≤ w4.heap.size := by have := hg4.size; simp at this; omega
          clear hown2 hown4 hg4 HI HB hsz2 hsz
          go_wp2_with fail
          go_roundw
          case rel =>
            refine ⟨k + 1, hlt, by go_num, HI4, hsz4, HB4, ?_, ?_⟩
            · rw [take_snoc HPk.out, List.map_append, List.map_singleton, HN.out]
              have h := HO4.out
              simpa [ints] using Lib.hid h
            · rw [take_snoc HPk.out]
              exact Lib.hid (all_more HA.out HOk.out)
          case measure => simp [intOf]; omega
        | false =>
          have HZ : Hid (Num.list l = none) := Lib.hid (Num.list_bad (by rw [HPS.out]; exact List.mem_of_getElem? HPk.out) (bad_parse ho) H0.out)
          have HE2 := Lib.hid (errP_bad ho)
          clear ho
          go_wp2_with fail
          refine (nparse_any p (by omega) _ (FInv.good HI)).mono ?_
          rintro e w2 ⟨rfl, b⟩
          rw [HE2.out]
          have HI := FInv.call HI b
          clear b c0 HB HO
          go_wp2_with fail
          go_ret2
          obtain ⟨q1, q2⟩ := numsL_none HZ.out
          refine ⟨.slice none 0 0, ?_, ?_, HI.out.2⟩
          · rw [← HE.out, q2]; rfl
          · rw [← HNS.out, q1]; exact World.ownsRow_nil _ _ _ _
      · obtain rfl : k = ps.length := by omega
        have hA := HA.out
        rw [List.take_length] at hA
        have HZ := Lib.hid (list_all H0.out HPS.out hA)
        clear hA
        go_wp2_with fail
        go_ret2
        obtain ⟨q1, q2⟩ := numsL_some HZ.out
        refine ⟨_, by rw [← HE.out, q2]; rfl, ?_, HI.out.2⟩
        have h := HO.out
        rw [List.take_length] at h
        rw [← HNS.out, q1, List.length_map]
        exact own_base h (Nat.le_succ _)

/-! ### The reference's List -/
/-- How far the reference has come: what is done, and the piece that is read. -/
def Ph (l : List UInt8) (fr k : Nat) (done : List (List UInt8)) : Prop := if k ≤ l.length then (Num.pieces l = done ++ Num.pieces (l.drop fr) ∧ ∀ c ∈ (l.drop fr).take (k - fr), c ≠ 44) else Num.pieces l = done
theorem Ph.start (l : List UInt8) : Ph l 0 0 [] := by
  unfold Ph
  rw [if_pos (Nat.zero_le _)]
  exact ⟨rfl, by simp⟩
theorem Ph.on {l : List UInt8} {fr k : Nat} {done : List (List UInt8)} {c : UInt8} (h : Ph l fr k done) (hf : fr ≤ k) (hc : l[k]? = some c) (hn : c ≠ 44) : Ph l fr (k + 1) done := by
  have hk := (List.getElem?_eq_some_iff.1 hc).1
  unfold Ph at h ⊢
  rw [if_pos (by omega)] at h ⊢
  refine ⟨h.1, ?_⟩
  have e : (l.drop fr).take (k + 1 - fr) = (l.drop fr).take (k - fr) ++ [c] := by
    rw [show k + 1 - fr = k - fr + 1 by omega]
    exact take_snoc (by rw [List.getElem?_drop, show fr + (k - fr) = k by omega]; exact hc)
  rw [e]
  intro d hd
  rcases List.mem_append.1 hd with hd | hd
  · exact h.2 d hd
  · rw [List.mem_singleton.1 hd]; exact hn
theorem Ph.comma {l : List UInt8} {fr k : Nat} {done : List (List UInt8)} (h : Ph l fr k done) (hf : fr ≤ k) (hc : l[k]? = some 44) : Ph l (k + 1) (k + 1) (done ++ [(l.drop fr).take (k - fr)]) ∧ (l.drop fr).take (k - fr) ∈ Num.pieces l := by
  have hk := (List.getElem?_eq_some_iff.1 hc).1
  unfold Ph at h ⊢
  rw [if_pos (by omega)] at h ⊢
  have e : l.drop fr = (l.drop fr).take (k - fr) ++ 44 :: l.drop (k + 1) := by
    conv => lhs; rw [← List.take_append_drop (k - fr) (l.drop fr)]
    congr 1
    rw [List.drop_drop, show fr + (k - fr) = k by omega, List.drop_eq_getElem_cons hk]
    congr 1
    exact (List.getElem?_eq_some_iff.1 hc).2
  have e2 : Num.pieces (l.drop fr) = (l.drop fr).take (k - fr) :: Num.pieces (l.drop (k + 1)) := by
    conv => lhs; rw [e]
    exact Num.pieces_split _ _ h.2
  refine ⟨⟨by rw [h.1, e2]; simp, by simp⟩, by rw [h.1, e2]; simp⟩
theorem Ph.last {l : List UInt8} {fr : Nat} {done : List (List UInt8)} (h : Ph l fr l.length done) : Ph l (l.length + 1) (l.length + 1) (done ++ [(l.drop fr).take (l.length - fr)]) ∧ (l.drop fr).take (l.length - fr) ∈ Num.pieces l := by
  unfold Ph at h ⊢
  rw [if_pos (Nat.le_refl _)] at h
  rw [if_neg (by omega)]
  have e : (l.drop fr).take (l.length - fr) = l.drop fr := List.take_of_length_le (by rw [List.length_drop]; omega)
  rw [e] at h ⊢
  have e2 := Num.pieces_end _ h.2
  exact ⟨by rw [h.1, e2], by rw [h.1, e2]; simp⟩

set_option maxHeartbeats 2000000 in
set_option maxRecDepth 20000 in
/-- The reference's List: the same. -/
theorem rlist_any (l : List UInt8) (hl : l.length ≤ 100000) (w : World) :
    Calls Tryz.prog 52 #[.string ⟨l.toArray⟩] w fun e w' => ∃ v, e = .returned (.tuple #[v, .int .i64 (errL l)]) ∧ w'.ownsRow w.heap.size 2 1 v (numsL l).length (ints (numsL l)) ∧ Below w.heap.size w w' := by
  obtain ⟨i0, hi, hz0, hz1, hz2⟩ := info_parts info_i64
  have HI : Hid (Below w.heap.size w w) := Lib.hid (Below.refl _ _)
  by_cases h0 : l = []
  · subst h0
    go_enter Tryz.func52, Tryz.ntmps52
    go_wp2_with fail
    go_loopw [4, 5, 6] (fun v f i wr => v = .slice none 0 0 ∧ i = .int .i64 0 ∧ Hid (Below w.heap.size w wr)) (fun _ _ _ _ => 0)
    case atStart => exact ⟨rfl, rfl, HI⟩
    case round =>
      obtain ⟨rfl, rfl, HI⟩ := hrel
      go_wp2_with fail
      go_ret2
      exact ⟨_, rfl, World.ownsRow_nil _ _ _ _, HI.out⟩
  · have hE : l.isEmpty = false := by cases l with | nil => exact absurd rfl h0 | cons c r => rfl
    have H0 := Lib.hid h0
    clear h0
    obtain ⟨E, hE1⟩ : ∃ E, errL l = E := ⟨_, rfl⟩
    obtain ⟨NS, hN1⟩ : ∃ E, numsL l = E := ⟨_, rfl⟩
    rw [hE1, hN1]
    have HE := Lib.hid hE1
    have HNS := Lib.hid hN1
    clear hE1 hN1
    go_enter Tryz.func52, Tryz.ntmps52
    go_wp2_with fail
    go_loopw [4, 5, 6] (fun v f i wr => ∃ (fr k : Nat) (done : List (List UInt8)), fr ≤ k ∧ k ≤ l.length + 1 ∧ f = .int .i64 fr ∧ i = .int .i64 k ∧ Hid (Below w.heap.size w wr) ∧ Hid (wr.ownsRow w.heap.size 2 1 v done.length (ints (done.map Num.numP))) ∧ Hid (Ph l fr k done) ∧ Hid (∀ p ∈ done, Num.okP p = true)) (fun _ _ i _ => l.length + 1 - (intOf i).toNat)
    case atStart => exact ⟨0, 0, [], Nat.le_refl _, Nat.zero_le _, rfl, rfl, HI, Lib.hid (World.ownsRow_nil _ _ _ _), Lib.hid (Ph.start l), Lib.hid (by simp)⟩
    case round =>
      obtain ⟨fr, k, done, hf, hk, rfl, rfl, HI, HO, HP, HA⟩ := hrel
      have HDL : Hid (k ≤ l.length → done.length ≤ l.length + 1) := Lib.hid fun h => by
        have h1 := HP.out
        unfold Ph at h1
        rw [if_pos h] at h1
        have h2 := congrArg List.length h1.1
        rw [List.length_append] at h2
        have := Num.pieces_le l
        omega
      by_cases hlt : k < l.length
      · obtain ⟨c, hc⟩ : ∃ c, l[k]? = some c := ⟨_, List.getElem?_eq_getElem hlt⟩
        have hx : ∀ h, ((⟨l.toArray⟩ : ByteArray)[k]'h) = c := fun h => (List.getElem?_eq_some_iff.1 hc).2
        by_cases h44 : c = 44
        · have h44' : (c.toNat : Int) = 44 := by rw [h44]; rfl
          rw [h44] at hc
          obtain ⟨n1, n2⟩ := HP.out.comma hf hc
          have hcut := mk_extract l fr k
          have hdl := HDL.out (by omega)
          obtain ⟨p, hp⟩ : ∃ p, (l.drop fr).take (k - fr) = p := ⟨_, rfl⟩
          rw [hp] at n1 n2 hcut
          have hpl : p.length ≤ 100000 := by rw [← hp]; have := List.length_take_le (k - fr) (l.drop fr); omega
          have HPN := Lib.hid n1
          have HMem := Lib.hid n2
          clear n1 n2 hc h44 hp
          cases ho : Num.okP p with
          | true =>
            have HOk := Lib.hid ho
            have HE2 := Lib.hid (errP_ok ho)
            obtain ⟨N, hN⟩ : ∃ N, Num.numP p = N := ⟨_, rfl⟩
            have HN := Lib.hid hN
            clear ho hN
            go_wp2_with fail
            refine (rparse_any p (by omega) _).mono ?_
            rintro e w2 ⟨rfl, rfl⟩
            rw [HN.out, HE2.out]
            have hown2 := HO.out
            clear HO
            go_wp2_with (at_builtin; refine wpList_append_own _ rfl _ _ 91 rfl w.heap.size 2 i0 (.int .i64 0) 1 8 Tryz.underlying91 hi hz0 hz1 hz2 rfl (by decide) _ _ _ rfl (hown2.alloc _) ⟨wr.heap.size, 0, none⟩ 1 1 [.int .i64 N] rfl rfl ?c1 ?c2 ?c3 ?c4 ?c5 ?_)
            case c1 => exact one_news _ _ _
            case c2 => intro u hu; simp at hu; subst hu; rfl
            case c3 => unfold maxLen; omega
            case c4 => omega
            case c5 => have := HI.out.size; simp; omega
            intro v' w4 hown4 hg4 _
            have HO4 := Lib.hid hown4
            have HI4 := Lib.hid ((below_new HI.out _).grown hg4 (by have := HI.out.size; simp; omega) (fun g hg => (hown2.lt g hg).1))
            clear hown2 hown4 hg4 HI
            go_wp2_with fail
            go_roundw
            case rel =>
              refine ⟨k + 1, k + 1, done ++ [p], by omega, by omega, by go_num, by go_num, HI4, ?_, HPN, Lib.hid (all_more HA.out HOk.out)⟩
              rw [List.length_append, List.map_append, List.map_singleton, HN.out]
              have h := HO4.out
              simpa [ints] using Lib.hid h
            case measure => simp [intOf]; omega
          | false =>
            have HZ : Hid (Num.list l = none) := Lib.hid (Num.list_bad HMem.out (bad_parse ho) H0.out)
            have HE2 := Lib.hid (errP_bad ho)
            clear ho
            go_wp2_with fail
            refine (rparse_any p (by omega) _).mono ?_
            rintro e w2 ⟨rfl, rfl⟩
            rw [HE2.out]
            clear HO
            go_wp2_with fail
            go_ret2
            obtain ⟨q1, q2⟩ := numsL_none HZ.out
            refine ⟨.slice none 0 0, ?_, ?_, HI.out⟩
            · rw [← HE.out, q2]; rfl
            · rw [← HNS.out, q1]; exact World.ownsRow_nil _ _ _ _
        · have h44' : ((c.toNat : Int) == 44) = false := by
            simp
            intro h
            exact h44 (UInt8.toNat_inj.1 (by rw [show (44 : UInt8).toNat = 44 from rfl]; omega))
          have HPN := Lib.hid (HP.out.on hf hc h44)
          clear hc h44
          go_wp2_with fail
          go_roundw
          case rel => exact ⟨fr, k + 1, done, by omega, by omega, rfl, by go_num, HI, HO, HPN, HA⟩
          case measure => simp [intOf]; omega
      · by_cases hend : k = l.length
        · subst hend
          obtain ⟨n1, n2⟩ := HP.out.last
          have hcut := mk_extract l fr l.length
          have hdl := HDL.out (by omega)
          obtain ⟨p, hp⟩ : ∃ p, (l.drop fr).take (l.length - fr) = p := ⟨_, rfl⟩
          rw [hp] at n1 n2 hcut
          have hpl : p.length ≤ 100000 := by rw [← hp]; have := List.length_take_le (l.length - fr) (l.drop fr); omega
          have HPN := Lib.hid n1
          have HMem := Lib.hid n2
          clear n1 n2 hp
          cases ho : Num.okP p with
          | true =>
            have HOk := Lib.hid ho
            have HE2 := Lib.hid (errP_ok ho)
            obtain ⟨N, hN⟩ : ∃ N, Num.numP p = N := ⟨_, rfl⟩
            have HN := Lib.hid hN
            clear ho hN
            go_wp2_with fail
            refine (rparse_any p (by omega) _).mono ?_
            rintro e w2 ⟨rfl, rfl⟩
            rw [HN.out, HE2.out]
            have hown2 := HO.out
            clear HO
            go_wp2_with (at_builtin; refine wpList_append_own _ rfl _ _ 91 rfl w.heap.size 2 i0 (.int .i64 0) 1 8 Tryz.underlying91 hi hz0 hz1 hz2 rfl (by decide) _ _ _ rfl (hown2.alloc _) ⟨wr.heap.size, 0, none⟩ 1 1 [.int .i64 N] rfl rfl ?c1 ?c2 ?c3 ?c4 ?c5 ?_)
            case c1 => exact one_news _ _ _
            case c2 => intro u hu; simp at hu; subst hu; rfl
            case c3 => unfold maxLen; omega
            case c4 => omega
            case c5 => have := HI.out.size; simp; omega
            intro v' w4 hown4 hg4 _
            have HO4 := Lib.hid hown4
            have HI4 := Lib.hid ((below_new HI.out _).grown hg4 (by have := HI.out.size; simp; omega) (fun g hg => (hown2.lt g hg).1))
            clear hown2 hown4 hg4 HI
            go_wp2_with fail
            go_roundw
            case rel =>
              refine ⟨l.length + 1, l.length + 1, done ++ [p], by omega, by omega, by go_num, by go_num, HI4, ?_, HPN, Lib.hid (all_more HA.out HOk.out)⟩
              rw [List.length_append, List.map_append, List.map_singleton, HN.out]
              have h := HO4.out
              simpa [ints] using Lib.hid h
            case measure => simp [intOf]
          | false =>
            have HZ : Hid (Num.list l = none) := Lib.hid (Num.list_bad HMem.out (bad_parse ho) H0.out)
            have HE2 := Lib.hid (errP_bad ho)
            clear ho
            go_wp2_with fail
            refine (rparse_any p (by omega) _).mono ?_
            rintro e w2 ⟨rfl, rfl⟩
            rw [HE2.out]
            clear HO
            go_wp2_with fail
            go_ret2
            obtain ⟨q1, q2⟩ := numsL_none HZ.out
            refine ⟨.slice none 0 0, ?_, ?_, HI.out⟩
            · rw [← HE.out, q2]; rfl
            · rw [← HNS.out, q1]; exact World.ownsRow_nil _ _ _ _
        · obtain rfl : k = l.length + 1 := by omega
          have hq : Num.pieces l = done := by
            have h1 := HP.out
            unfold Ph at h1
            rwa [if_neg (by omega)] at h1
          have HZ := Lib.hid (list_all H0.out hq HA.out)
          clear hq
          go_wp2_with fail
          go_ret2
          obtain ⟨q1, q2⟩ := numsL_some HZ.out
          refine ⟨_, by rw [← HE.out, q2]; rfl, ?_, HI.out⟩
          rw [← HNS.out, q1, List.length_map]
          exact HO.out
end Go.Proofs.YtphpgbbjbncfoaaGreatDoor

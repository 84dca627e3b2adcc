/-
  LAYER 23: what is decoded as an instruction.
-/
import Derived.Test.YtmmehfkiceelkaaDoorCd6
import Derived.Lib.AtoiAllCases
import Derived.Lib.ParseIntBTie
namespace Go.Proofs.YtmmehfkiceelkaaDoor
open Go.ChangeShapes Go.WideShapes Go.ChangeAt Go.RowKit Go.Shelf

theorem ret_i {k : IntKind} {x x' : Int} (h : x = x') : Ending.returned (.int k x) = .returned (.int k x') := by rw [h]
/-- The first row that is meant. -/
def ix (p : Nat → Bool) : Int := match (List.range 18).find? p with
  | some k => (k : Int)
  | none => -1
theorem ix_at {p : Nat → Bool} {k : Nat} (h : k < 18) (hp : p k = true) (hn : ∀ j, j < k → p j = false) : ix p = (k : Int) := by
  unfold ix
  rw [show (List.range 18).find? p = some k from List.find?_range_eq_some.2 ⟨hp, by simpa using h, fun j hj => by simpa using hn j hj⟩]
theorem ix_none {p : Nat → Bool} (hn : ∀ j, j < 18 → p j = false) : ix p = -1 := by
  unfold ix
  rw [show (List.range 18).find? p = none from List.find?_range_eq_none.2 fun j hj => by simpa using hn j hj]
set_option maxRecDepth 100000 in
theorem pc_any (G k g : Nat) (A : List UInt8) (W : World) (hc : W.cell? ⟨g, 0, none⟩ = some (.string ⟨A.toArray⟩)) :
    Calls Tryd.prog 39 #[.agg (rowC G k).toArray, .pointer (some ⟨g, 0, none⟩)] W fun e W' => e = .returned (.bool (Cd.word k == A)) ∧ Below W.heap.size W W' := by
  unfold rowC
  obtain ⟨WD, hWD⟩ : ∃ R, Cd.word k = R := ⟨_, rfl⟩
  obtain ⟨PO, hPO⟩ : ∃ R, Cd.pops k = R := ⟨_, rfl⟩
  obtain ⟨PU, hPU⟩ : ∃ R, Cd.push k = R := ⟨_, rfl⟩
  obtain ⟨J, hJ⟩ : ∃ R, jmp k = R := ⟨_, rfl⟩
  obtain ⟨FV, hFV⟩ : ∃ R, fv G k = R := ⟨_, rfl⟩
  rw [hWD, hPO, hPU, hJ, hFV]
  clear hWD hPO hPU hJ hFV
  have hlt := lt_of_cell hc
  have c0 := (Below.alloc (Below.refl W.heap.size W) (Nat.le_refl _) (.cells #[.string ⟨WD.toArray⟩, FV, .int .i64 PO, .int .i64 PU, .bool J] 67)).cell (p := ⟨g, 0, none⟩) hlt |>.trans hc
  clear hc hlt
  go_enter Tryd.func39, Tryd.ntmps39
  go_wp2_with fail
  go_ret
  exact ⟨rfl, below_new (Below.refl _ _) _⟩
set_option maxRecDepth 100000 in
set_option maxHeartbeats 1000000 in
theorem ixRows_any (G : Nat) (F : FuncId) (x : Value) (p : Nat → Bool) (b : Nat) (w : World) (hE : ∀ args w, (callFunc F args).run Tryd.prog w = .ok (.enter F args) w)
    (hp : ∀ k, k < 18 → ∀ W, Below w.heap.size w W → Calls Tryd.prog F #[.agg (rowC G k).toArray, x] W fun e W' => e = .returned (.bool (p k)) ∧ Below W.heap.size W W') (hb : Blk w b 67 (rowsC G).toArray) :
    Calls Tryd.prog 37 #[.slice (some ⟨b, 0, none⟩) 18 18, .func (.func F) #[] #[x]] w fun e w' => e = .returned (.int .i64 (ix p)) ∧ Below w.heap.size w w' := by
  have HP := Lib.hid hp
  have HBk := Lib.hid hb
  have HB0 := Lib.hid (Below.refl w.heap.size w)
  clear hp hb
  obtain ⟨R, hR⟩ : ∃ r, ix p = r := ⟨_, rfl⟩
  rw [hR]
  have HR := Lib.hid hR
  clear hR
  go_enter Tryd.func37, Tryd.ntmps37
  go_wp2_with fail
  go_loopw [8] (fun i wr => ∃ k : Nat, k ≤ 18 ∧ i = .int .i64 k ∧ Hid (Below w.heap.size w wr) ∧ Hid (∀ j, j < k → p j = false)) (fun i _ => 18 - (intOf i).toNat)
  case atStart => exact ⟨0, Nat.zero_le _, rfl, HB0, Lib.hid (fun j hj => absurd hj (Nat.not_lt_zero _))⟩
  case round =>
    obtain ⟨k, hk, rfl, HB, HT⟩ := hrel
    by_cases hlt : k < 18
    · have hrg := rows_range (HBk.out.below HB.out HBk.out.lt) hlt
      have HC := HP.out k hlt wr HB.out
      unfold rowC at hrg HC
      obtain ⟨WD, hWD⟩ : ∃ R, Cd.word k = R := ⟨_, rfl⟩
      obtain ⟨PO, hPO⟩ : ∃ R, Cd.pops k = R := ⟨_, rfl⟩
      obtain ⟨PU, hPU⟩ : ∃ R, Cd.push k = R := ⟨_, rfl⟩
      obtain ⟨J, hJ⟩ : ∃ R, jmp k = R := ⟨_, rfl⟩
      obtain ⟨FV, hFV⟩ : ∃ R, fv G k = R := ⟨_, rfl⟩
      rw [hWD, hPO, hPU, hJ, hFV] at hrg HC
      clear hWD hPO hPU hJ hFV
      have c0 : wr.cell? ⟨b, k * 5, none⟩ = some (.string ⟨WD.toArray⟩) := hrg 0 _ rfl
      have c1 : wr.cell? ⟨b, k * 5 + 1, none⟩ = some FV := hrg 1 _ rfl
      have c2 : wr.cell? ⟨b, k * 5 + 2, none⟩ = some (.int .i64 PO) := hrg 2 _ rfl
      have c3 : wr.cell? ⟨b, k * 5 + 3, none⟩ = some (.int .i64 PU) := hrg 3 _ rfl
      have c4 : wr.cell? ⟨b, k * 5 + 4, none⟩ = some (.bool J) := hrg 4 _ rfl
      have HC2 := Lib.hid HC
      clear hrg HC
      have j1 : (0 : Int) ≤ (k : Int) := by omega
      have j3 : (k : Int) < 18 := by omega
      have j4 : (k : Int) + 1 ≤ 9223372036854775807 := by omega
      go_wp2_with fail
      refine HC2.out.mono ?_
      rintro e w2 ⟨rfl, hb⟩
      have HB2 := Lib.hid (below_call HB.out hb)
      clear hb c0 c1 c2 c3 c4 HC2
      rcases hpk : p k with _ | _
      · have HT2 : Hid (∀ j, j < k + 1 → p j = false) := Lib.hid (fun j hj => by
          rcases Nat.lt_succ_iff_lt_or_eq.1 hj with h | h
          · exact HT.out j h
          · rw [h]; exact hpk)
        clear hpk
        go_wp2_with fail
        go_roundw
        case rel => exact ⟨k + 1, by omega, by go_num, HB2, HT2⟩
        case measure => simp [intOf]; omega
      · have HQ := Lib.hid (ix_at hlt hpk HT.out)
        clear hpk
        go_wp2_with fail
        go_ret
        exact ⟨ret_i (HQ.out.symm.trans HR.out), HB2.out⟩
    · obtain rfl : k = 18 := by omega
      have HQ := Lib.hid (ix_none HT.out)
      rw [show ((18 : Nat) : Int) = 18 from rfl]
      go_wp2_with fail
      go_ret
      exact ⟨ret_i (HQ.out.symm.trans HR.out), HB.out⟩
theorem ix_word (A : List UInt8) : ix (fun k => Cd.word k == A) = Cd.findW A := by
  unfold Cd.findW
  rcases h : Cd.words.findIdx? (· == A) with _ | k
  · refine ix_none fun j hj => ?_
    rw [List.findIdx?_eq_none_iff] at h
    have hw : Cd.words[j]? = some (Cd.word j) := by
      unfold Cd.word
      rw [List.getElem?_eq_getElem (show j < Cd.words.length from hj)]
      rfl
    exact h _ (List.mem_of_getElem? hw)
  · rw [List.findIdx?_eq_some_iff_getElem] at h
    obtain ⟨hk, h1, h2⟩ := h
    have hw : ∀ j (hj : j < Cd.words.length), Cd.word j = Cd.words[j] := fun j hj => by
      unfold Cd.word
      rw [List.getElem?_eq_getElem hj]
      rfl
    refine ix_at hk (by show (Cd.word k == A) = true; rw [hw k hk]; exact h1) fun j hj => ?_
    show (Cd.word j == A) = false
    rw [hw j (by omega)]
    simpa using h2 j hj

theorem parseInt_any (l : List UInt8) (hl : l.length ≤ 1000000) (w : World) (hG : Good w) :
    Calls Tryd.prog 40 #[.string ⟨l.toArray⟩, .int .i64 10, .int .i64 64] w fun e w' => Below w.heap.size w w' ∧ ∃ v, (e = .returned (.tuple #[.int .i64 v, .nilIface]) ∧ Hid (-9223372036854775808 ≤ v ∧ v ≤ 9223372036854775807 ∧ (∀ n, Cd.okA n → l = Lib.itoa n → v = n) ∧ (l = [] → v = 0))) ∨ (∃ N, e = .returned (.tuple #[.int .i64 v, .iface 110 (.pointer (some ⟨N, 0, none⟩))]) ∧ Hid (∀ n, Cd.okA n → l = Lib.itoa n → (0 : Int) = n)) := by
  obtain ⟨t1, p1, h1⟩ := hG.es
  obtain ⟨t2, p2, h2⟩ := hG.er
  have hd : (⟨l.toArray⟩ : ByteArray).data.toList = l := rfl
  have hsz : (⟨l.toArray⟩ : ByteArray).size ≤ 1000000 := by rw [mk_size]; exact hl
  rcases h : Lib.atoiAll l with v | _ | _
  · refine (Tryd.strconv_ParseInt_10_at64_ok ⟨l.toArray⟩ (by omega) v (by rw [hd, Lib.parseIntB_64]; exact h) w).mono ?_
    rintro e w' ⟨rfl, hb⟩
    refine ⟨below_bytes hb, v, .inl ⟨rfl, Lib.hid ⟨(Lib.atoiAll_bounds h).1, (Lib.atoiAll_bounds h).2, fun n hn e => ?_, fun e => ?_⟩⟩⟩
    · rw [e, Dec.atoi_itoa hn.1 hn.2] at h
      injection h with h
      exact h.symm
    · rw [e] at h
      cases h
  · have hp : Lib.parseIntB 64 l = Lib.parseIntB 64 [] := by rw [Lib.parseIntB_64, h]; rfl
    refine (Tryd.strconv_ParseInt_10_at64_syntax_var ⟨l.toArray⟩ (by omega) (by rw [hd]; exact hp) t1 p1 w h1).mono ?_
    rintro e w' ⟨N, rfl, _, _, hb⟩
    refine ⟨hb, 0, .inr ⟨N, rfl, Lib.hid fun n hn e => ?_⟩⟩
    rw [e, Dec.atoi_itoa hn.1 hn.2] at h
    cases h
  · refine (Tryd.strconv_ParseInt_10_at64_range_var ⟨l.toArray⟩ (by omega) (by rw [hd, Lib.parseIntB_64]; exact h) t2 p2 w h2).mono ?_
    rintro e w' ⟨N, rfl, _, _, hb⟩
    refine ⟨hb, _, .inr ⟨N, rfl, Lib.hid fun n hn e => ?_⟩⟩
    rw [e, Dec.atoi_itoa hn.1 hn.2] at h
    cases h
theorem cut_any (l : List UInt8) (hl : l.length ≤ 1000000) (w : World) (hG : Good w) :
    Calls Tryd.prog 36 #[.string ⟨l.toArray⟩, .string ⟨#[32]⟩] w fun e w' => e = .returned (.tuple #[.string ⟨(Cd.cut l).1.toArray⟩, .string ⟨(Cd.cut l).2.1.toArray⟩, .bool (Cd.cut l).2.2]) ∧ Below w.heap.size w w' := by
  obtain ⟨m, hm⟩ := hG.ml
  refine (Tryd.strings_Cut ⟨l.toArray⟩ ⟨#[32]⟩ m w (by rw [mk_size]; omega) hm).mono ?_
  rintro e w' ⟨rfl, k, rfl⟩
  refine ⟨?_, ⟨rfl, rfl, rfl, Nat.le_refl _, fun _ _ => rfl⟩⟩
  rw [show (⟨l.toArray⟩ : ByteArray).data.toList = l from rfl, show (⟨#[32]⟩ : ByteArray).data.toList = [32] from rfl, Cd.cut_lib]
theorem cut_len : ∀ s : List UInt8, (Cd.cut s).1.length ≤ s.length ∧ (Cd.cut s).2.1.length ≤ s.length
  | [] => by decide
  | b :: r => by
    have := cut_len r
    rw [Cd.cut]
    split
    · simp only [List.length_nil, List.length_cons]; omega
    · simp only [List.length_cons]; omega
theorem instr_size : (Tryd.prog.info? 23).map (·.size) = some 2 := by kernel_rfl
theorem results_instr {fn : Func} {p u : Tmp} (h : fn.results = #[.cell p 23, .tmp u]) (tmps : Array Value) (w : World) (g : Nat) (cs : Array Value) (fr : Nat × Nat)
    (hp : tmps.getD p undef = .pointer (some ⟨g, 0, none⟩)) (hg : w.heap[g]? = some (.cells cs 23 fr)) (hs : cs.size = 2) :
    (results fn tmps).run Tryd.prog w = .ok (.tuple #[.agg cs, tmps.getD u undef]) w := by
  rw [results_cell_tmp h, hp]
  have hl := run_loadVar_row (P := Tryd.prog) w g 23 23 cs fr _ hg Tryd.underlying23 rfl (by rw [instr_size, hs])
  simp [asAddr, Result.andThen, hl]
theorem Blk.put2 {w : World} {g : Nat} {T : TypeId} {x y a b : Value} (h : Blk w g T #[x, y]) : Blk ((w.setCell ⟨g, 0, none⟩ a).setCell ⟨g, 1, none⟩ b) g T #[a, b] := by
  have := (h.set 0 a).set 1 b
  simpa using this
theorem below_put2 {w0 w : World} {n g : Nat} {a b : Value} (h : Below n w0 w) (hg : n ≤ g) : Below n w0 ((w.setCell ⟨g, 0, none⟩ a).setCell ⟨g, 1, none⟩ b) :=
  (h.setCell hg a).setCell hg b
/-- What Parse answers. -/
def prO (s : List UInt8) : Int := ((Cd.pread s).map (·.1)).getD 0
def prA (s : List UInt8) : Int := ((Cd.pread s).map (·.2)).getD 0
def prE (s : List UInt8) : Int := if (Cd.pread s).isSome then 0 else 7
theorem QI.new {w : World} (hG : Good w) : Hid (IB w 0 0 (w.alloc (.cells #[.int .i64 0, .int .i64 0] 23))) := IB.new hG
theorem IB.good {w W : World} {op a : Int} (h : Hid (IB w op a W)) : Good W := h.out.1
theorem IB.alloc {w W : World} {op a : Int} (h : Hid (IB w op a W)) (o : Obj) : Hid (IB w op a (W.alloc o)) := Lib.hid ⟨h.out.1.alloc o, below_new h.out.2.1 _, h.out.2.2.alloc _⟩

set_option maxRecDepth 100000 in
set_option maxHeartbeats 2000000 in
theorem parse_any (s : List UInt8) (hs : s.length ≤ 1000000) (w : World) (hG : Good w) :
    Calls Tryd.prog 13 #[.string ⟨s.toArray⟩] w fun e w' => e = .returned (.tuple #[iV (prO s) (prA s), .int .i64 (prE s)]) ∧ Below w.heap.size w w' := by
  have HP := QI.new hG
  clear hG
  obtain ⟨n1, n2⟩ := cut_len s
  have hheld := fun op a h1 h2 h3 h4 => @Cd.pread_held s op a h1 h2 h3 h4
  have HCut : Hid (∀ W, Good W → Calls Tryd.prog 36 #[.string ⟨s.toArray⟩, .string ⟨#[32]⟩] W fun e w' => e = .returned (.tuple #[.string ⟨(Cd.cut s).1.toArray⟩, .string ⟨(Cd.cut s).2.1.toArray⟩, .bool (Cd.cut s).2.2]) ∧ Below W.heap.size W w') := Lib.hid fun W hG => cut_any s hs W hG
  obtain ⟨A, hA⟩ : ∃ c, (Cd.cut s).1 = c := ⟨_, rfl⟩
  obtain ⟨B, hB⟩ : ∃ c, (Cd.cut s).2.1 = c := ⟨_, rfl⟩
  obtain ⟨D, hD⟩ : ∃ c, (Cd.cut s).2.2 = c := ⟨_, rfl⟩
  rw [hA, hB] at hheld
  rw [hA, hB, hD] at HCut
  rw [hA] at n1
  rw [hB] at n2
  have HH := Lib.hid hheld
  clear hheld hA hB hD
  go_enter Tryd.func13, Tryd.ntmps13
  go_wp2_with fail
  refine (HCut.out _ (IB.good HP)).mono ?_
  rintro e w2 ⟨rfl, hb⟩
  replace HP := IB.call HP hb
  clear hb
  have HP2 := IB.alloc HP (.cells #[.string ⟨A.toArray⟩] 9)
  have HW := Lib.hid (Blk.new w2 9 #[.string ⟨A.toArray⟩])
  have HT := table_any (w2.alloc (.cells #[.string ⟨A.toArray⟩] 9))
  rw [World.size_alloc] at HT
  have HTT := Lib.hid HT
  clear HT
  go_wp2_with fail
  refine HTT.out.mono ?_
  rintro e w3 ⟨rfl, hrows, _, hb⟩
  replace HP2 := IB.call HP2 (by rw [World.size_alloc]; exact hb)
  have HW2 := Lib.hid (HW.out.below hb (Nat.lt_succ_self _))
  have HRW := Lib.hid hrows
  clear hb hrows HP HW HTT
  go_wp2_with fail
  refine (ixRows_any (w2.heap.size + 1) 39 (.pointer (some ⟨w2.heap.size, 0, none⟩)) (fun k => Cd.word k == A) (w2.heap.size + 1 + 8) _ (enters_of Tryd.func39 (by kernel_rfl) rfl) (fun k hk W hW => pc_any (w2.heap.size + 1) k w2.heap.size A W ((HW2.out.call hW).cell 0)) HRW.out).mono ?_
  rintro e w4 ⟨rfl, hb⟩
  rw [ix_word]
  replace HP2 := IB.call HP2 hb
  clear hb HW2 HRW
  obtain ⟨OP, hOP⟩ : ∃ c, Cd.findW A = c := ⟨_, rfl⟩
  have hOw : ∀ k : Nat, 1 ≤ k → k < 18 → A = Cd.word k → OP = (k : Int) := fun k _ hk e => by rw [← hOP, e]; exact Cd.findW_word hk
  have HOw := Lib.hid hOw
  rw [hOP]
  clear hOP hOw
  go_wp2_with fail
  refine (parseInt_any B (by omega) _ (IB.good HP2)).mono ?_
  rintro e w5 ⟨hb, v, ⟨rfl, HV⟩ | ⟨N, rfl, HV⟩⟩
  · replace HP2 := IB.call HP2 hb
    obtain ⟨b1, b2, b3, b4⟩ := HV.out
    have HR := Lib.hid (HH.out OP v ⟨b1, b2⟩ HOw.out b3 b4)
    clear hb b3 b4 HV HOw HH
    go_wp2_with fail
    have HP3 := IB.alloc HP2 (.cells #[.int .i64 OP, .int .i64 v] 23)
    have HN := Lib.hid (Blk.new w5 23 #[.int .i64 OP, .int .i64 v])
    refine (text_any OP v b1 b2 _ (IB.good HP3)).mono ?_
    rintro e w6 ⟨rfl, hb⟩
    replace HP3 := IB.call HP3 hb
    have HN2 := Lib.hid (HN.out.call hb)
    clear hb HP2 HN
    have r0 := HP3.out.2.2.cell 0
    have r1 := HP3.out.2.2.cell 1
    have fr0 := HP3.out.2.2.frozen 0
    have fr1 := HP3.out.2.2.frozen 1
    have c0 := HN2.out.cell 0
    have c1 := HN2.out.cell 1
    rcases ht : Cd.text OP v with _ | t
    · have e1 : txS OP v = [] := by unfold txS; rw [ht]; rfl
      have e2 : txE OP v = 2 := by unfold txE; rw [ht]; rfl
      rw [e1, e2]
      have hR := HR.out
      rw [ht, if_neg (by simp)] at hR
      have HF : Hid (prO s = 0 ∧ prA s = 0 ∧ prE s = 7) := Lib.hid (by unfold prO prA prE; rw [hR]; exact ⟨rfl, rfl, rfl⟩)
      clear e1 e2 hR ht HR
      go_wp2_with fail
      refine bodyPost_ret (results_instr rfl _ _ w.heap.size _ _ rfl HP3.out.2.2.put2 rfl) rfl ?_
      exact ⟨by rw [HF.out.1, HF.out.2.1, HF.out.2.2]; rfl, below_put2 HP3.out.2.1 (Nat.le_refl _)⟩
    · have e1 : txS OP v = t := by unfold txS; rw [ht]; rfl
      have e2 : txE OP v = 0 := by unfold txE; rw [ht]; rfl
      rw [e1, e2]
      have hR := HR.out
      rw [ht] at hR
      clear e1 e2 ht HR
      by_cases hts : t = s
      · subst hts
        rw [if_pos rfl] at hR
        have HF : Hid (prO t = OP ∧ prA t = v ∧ prE t = 0) := Lib.hid (by unfold prO prA prE; rw [hR]; exact ⟨rfl, rfl, rfl⟩)
        clear hR
        go_wp2_with fail
        refine bodyPost_ret (results_instr rfl _ _ w.heap.size _ _ rfl HP3.out.2.2.put2 rfl) rfl ?_
        exact ⟨by rw [HF.out.1, HF.out.2.1, HF.out.2.2]; rfl, below_put2 HP3.out.2.1 (Nat.le_refl _)⟩
      · rw [if_neg (by simpa using hts)] at hR
        have HF : Hid (prO s = 0 ∧ prA s = 0 ∧ prE s = 7) := Lib.hid (by unfold prO prA prE; rw [hR]; exact ⟨rfl, rfl, rfl⟩)
        have hne : (t == s) = false := by simpa using hts
        clear hR hts
        go_wp2_with fail
        refine bodyPost_ret (results_instr rfl _ _ w.heap.size _ _ rfl HP3.out.2.2.put2 rfl) rfl ?_
        exact ⟨by rw [HF.out.1, HF.out.2.1, HF.out.2.2]; rfl, below_put2 HP3.out.2.1 (Nat.le_refl _)⟩
  · replace HP2 := IB.call HP2 hb
    have HR := Lib.hid (HH.out OP 0 ⟨by decide, by decide⟩ HOw.out HV.out (fun _ => rfl))
    clear hb HV HOw HH
    go_wp2_with fail
    have HP3 := IB.alloc HP2 (.cells #[.int .i64 OP, .int .i64 0] 23)
    have HN := Lib.hid (Blk.new w5 23 #[.int .i64 OP, .int .i64 0])
    refine (text_any OP 0 (by decide) (by decide) _ (IB.good HP3)).mono ?_
    rintro e w6 ⟨rfl, hb⟩
    replace HP3 := IB.call HP3 hb
    have HN2 := Lib.hid (HN.out.call hb)
    clear hb HP2 HN
    have r0 := HP3.out.2.2.cell 0
    have r1 := HP3.out.2.2.cell 1
    have fr0 := HP3.out.2.2.frozen 0
    have fr1 := HP3.out.2.2.frozen 1
    have c0 := HN2.out.cell 0
    have c1 := HN2.out.cell 1
    rcases ht : Cd.text OP 0 with _ | t
    · have e1 : txS OP 0 = [] := by unfold txS; rw [ht]; rfl
      have e2 : txE OP 0 = 2 := by unfold txE; rw [ht]; rfl
      rw [e1, e2]
      have hR := HR.out
      rw [ht, if_neg (by simp)] at hR
      have HF : Hid (prO s = 0 ∧ prA s = 0 ∧ prE s = 7) := Lib.hid (by unfold prO prA prE; rw [hR]; exact ⟨rfl, rfl, rfl⟩)
      clear e1 e2 hR ht HR
      go_wp2_with fail
      refine bodyPost_ret (results_instr rfl _ _ w.heap.size _ _ rfl HP3.out.2.2.put2 rfl) rfl ?_
      exact ⟨by rw [HF.out.1, HF.out.2.1, HF.out.2.2]; rfl, below_put2 HP3.out.2.1 (Nat.le_refl _)⟩
    · have e1 : txS OP 0 = t := by unfold txS; rw [ht]; rfl
      have e2 : txE OP 0 = 0 := by unfold txE; rw [ht]; rfl
      rw [e1, e2]
      have hR := HR.out
      rw [ht] at hR
      clear e1 e2 ht HR
      by_cases hts : t = s
      · subst hts
        rw [if_pos rfl] at hR
        have HF : Hid (prO t = OP ∧ prA t = 0 ∧ prE t = 0) := Lib.hid (by unfold prO prA prE; rw [hR]; exact ⟨rfl, rfl, rfl⟩)
        clear hR
        go_wp2_with fail
        refine bodyPost_ret (results_instr rfl _ _ w.heap.size _ _ rfl HP3.out.2.2.put2 rfl) rfl ?_
        exact ⟨by rw [HF.out.1, HF.out.2.1, HF.out.2.2]; rfl, below_put2 HP3.out.2.1 (Nat.le_refl _)⟩
      · rw [if_neg (by simpa using hts)] at hR
        have HF : Hid (prO s = 0 ∧ prA s = 0 ∧ prE s = 7) := Lib.hid (by unfold prO prA prE; rw [hR]; exact ⟨rfl, rfl, rfl⟩)
        have hne : (t == s) = false := by simpa using hts
        clear hR hts
        go_wp2_with fail
        refine bodyPost_ret (results_instr rfl _ _ w.heap.size _ _ rfl HP3.out.2.2.put2 rfl) rfl ?_
        exact ⟨by rw [HF.out.1, HF.out.2.1, HF.out.2.2]; rfl, below_put2 HP3.out.2.1 (Nat.le_refl _)⟩
end Go.Proofs.YtmmehfkiceelkaaDoor

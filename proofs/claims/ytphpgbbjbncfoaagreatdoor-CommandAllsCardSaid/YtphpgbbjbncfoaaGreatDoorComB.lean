/-
  LAYER 42: the library's string builder as this dump keeps it; command.PrintAll.
-/
import Derived.Test.YtphpgbbjbncfoaaGreatDoorComN
import Derived.Test.YtphpgbbjbncfoaaGreatDoorCom13
namespace Go.Proofs.YtphpgbbjbncfoaaGreatDoor
open Go.ChangeShapes Go.WideShapes Go.ChangeAt Go.RowKit

theorem size_bld : (Tryz.prog.info? 61).map (·.size) = some 2 := by kernel_rfl
theorem lies_bld : liesAt Tryz.prog Tryz.prog.depth 61 (2 / Tryz.prog.cellsOf 61) 0 61 1 = true := by kernel_rfl
abbrev BldAt (B b : Nat) (p : Value) (bs : List Value) (w : World) : Prop := Lib.BuilderAt 61 5 B b p bs w
abbrev IsBld (B b : Nat) (bs : List Value) (w : World) : Prop := Lib.IsBuilder 61 5 B b bs w

set_option maxHeartbeats 1000000 in
set_option maxRecDepth 100000 in
theorem bcheck_used (b : Nat) (w : World) (h0 : w.cell? ⟨b, 0, none⟩ = some (.pointer (some ⟨b, 0, none⟩))) :
    Calls Tryz.prog 54 #[.pointer (some ⟨b, 0, none⟩)] w fun e w' => e = .returned (.tuple #[]) ∧ w' = w := by
  obtain ⟨j, hj, _⟩ := Option.map_eq_some_iff.1 size_bld
  go_enter Tryz.func54, Tryz.ntmps54
  go_wp2
  rw [Lib.run_neq_ptr_same w _ Tryz.underlying59 hj]
  go_wp2
  go_end0
  exact ⟨rfl, rfl⟩

set_option maxHeartbeats 1000000 in
set_option maxRecDepth 100000 in
theorem bcheck_fresh (b : Nat) (w : World) (h0 : w.cell? ⟨b, 0, none⟩ = some (.pointer none)) (hsh : w.shape? b = some (61, 2)) (hfz : w.frozen? ⟨b, 0, none⟩ = false) :
    Calls Tryz.prog 54 #[.pointer (some ⟨b, 0, none⟩)] w fun e w' => e = .returned (.tuple #[]) ∧ w' = w.setCell ⟨b, 0, none⟩ (.pointer (some ⟨b, 0, none⟩)) := by
  obtain ⟨j, hj, hjs⟩ := Option.map_eq_some_iff.1 size_bld
  go_enter Tryz.func54, Tryz.ntmps54
  go_wp2
  rw [Lib.run_to_unsafe w ⟨b, 0, none⟩ Tryz.underlying59 Tryz.underlying114 hj (by rw [hjs]; decide) hsh (Nat.zero_lt_succ 1)]
  simp only [Result.andThen]
  rw [Oper.upon_value]
  go_wp2
  rw [run_callFunc_extern Tryz.func87 (by kernel_rfl) (by kernel_rfl) (by kernel_rfl) (e := Extern.AbiNoEscape.same) (by kernel_rfl)]
  rw [Lib.run_noEscape]
  simp only [Result.andThen]
  rw [Oper.upon_value]
  go_wp2
  rw [Lib.run_from_unsafe w ⟨b, 0, none⟩ Tryz.underlying114 Tryz.underlying59 hj hsh lies_bld]
  simp only [Result.andThen]
  rw [Oper.upon_value]
  go_wp2
  go_end0
  exact ⟨rfl, rfl⟩

theorem bcheck_any (B b : Nat) (bs : List Value) (w : World) (h : IsBld B b bs w) :
    Calls Tryz.prog 54 #[.pointer (some ⟨b, 0, none⟩)] w fun e w' => e = .returned (.tuple #[]) ∧ (BldAt B b (.pointer (some ⟨b, 0, none⟩)) bs w' ∧ Below B w w') := by
  rcases h with h | h
  · refine (bcheck_fresh b w h.cell0 h.shape h.frozen0).mono ?_
    rintro e w' ⟨rfl, rfl⟩
    exact ⟨rfl, h.used _, (Below.refl B w).setCell (p := ⟨b, 0, none⟩) h.1 _⟩
  · refine (bcheck_used b w h.cell0).mono ?_
    rintro e w' ⟨rfl, rfl⟩
    exact ⟨rfl, h, Below.refl B _⟩

set_option maxHeartbeats 2000000 in
set_option maxRecDepth 100000 in
theorem bwrite_any (B b : Nat) (bs : List Value) (s : ByteArray) (w : World) (h : IsBld B b bs w) (hlen : bs.length + s.size ≤ 140737488355328) (hBw : B ≤ w.heap.size) :
    Calls Tryz.prog 35 #[.pointer (some ⟨b, 0, none⟩), .string s] w fun e w' => e = .returned (.tuple #[.int .i64 s.size, .nilIface]) ∧ (BldAt B b (.pointer (some ⟨b, 0, none⟩)) (bs ++ Lib.strCells s) w' ∧ Below B w w') := by
  obtain ⟨i0, hi, hz0, hz1, hz2⟩ := info_parts info_u8
  go_enter Tryz.func35, Tryz.ntmps35
  go_wp2_with fail
  refine (bcheck_any B b bs _ h).mono ?_
  rintro e w1 ⟨rfl, h1, hb1⟩
  obtain ⟨hB, v, hbk, hown, hne⟩ := h1
  have c0 : w1.cell? ⟨b, 0, none⟩ = some (.pointer (some ⟨b, 0, none⟩)) := by rw [Lib.cell_of_heap hbk]; rfl
  have c1 : w1.cell? ⟨b, 1, none⟩ = some v := by rw [Lib.cell_of_heap hbk]; rfl
  go_wp2_with (at_builtin; refine Lib.wpList_append_own_string _ rfl _ _ 30 9 rfl B 5 i0 Tryz.underlying30 Tryz.underlying9 hi hz0 hz1 hz2 _ _ _ rfl hown s rfl ?c3 ?c4 ?c5 ?_)
  case c3 => unfold maxLen; omega
  case c4 => omega
  case c5 => have := hb1.size; omega
  intro v' w2 hown' hgrow _
  have hlt : b < w1.heap.size := by
    rcases Nat.lt_or_ge b w1.heap.size with h' | h'
    · exact h'
    · simp [Array.getElem?_eq_none h'] at hbk
  have hb2 : w2.heap[b]? = some (.cells #[.pointer (some ⟨b, 0, none⟩), v] 61 (0, 0)) := by
    rw [hgrow.block b hlt (fun e => hne e.symm)]
    exact hbk
  have d0 : w2.cell? ⟨b, 0, none⟩ = some (.pointer (some ⟨b, 0, none⟩)) := by rw [Lib.cell_of_heap hb2]; rfl
  have d1 : w2.cell? ⟨b, 1, none⟩ = some v := by rw [Lib.cell_of_heap hb2]; rfl
  have f1 : w2.frozen? ⟨b, 1, none⟩ = false := Lib.frozen_of_heap hb2 1
  obtain ⟨ao, n', cap, rfl⟩ : ∃ ao n' cap, v' = .slice ao n' cap := by
    rcases hown'.2 with ⟨hv, _⟩ | ⟨g, cap, cur, hv, _⟩
    · exact ⟨_, _, _, hv⟩
    · exact ⟨_, _, _, hv⟩
  go_wp2
  go_ret2
  refine ⟨rfl, ?_, ?_⟩
  · exact Lib.BuilderAt.put (T := 61) (e := 5) hB hb2 (bs' := bs ++ Lib.strCells s) (by simpa [Lib.strCells_length] using hown') (by decide)
  · exact (hb1.grown hgrow (by have := hb1.size; omega) (fun k hk => (hown.lt k hk).1)).setCell (p := ⟨b, 1, none⟩) hB _

theorem isBld_call {B b : Nat} {bs : List Value} {w w' : World} (h : IsBld B b bs w) (hb : Below w.heap.size w w') : IsBld B b bs w' := by
  have key : ∀ p, BldAt B b p bs w → BldAt B b p bs w' := fun p h => by
    have hlt := h.lt
    obtain ⟨h1, v, h2, h3, h4⟩ := h
    exact ⟨h1, v, (hb.block b hlt).trans h2, own_below h3 hb, h4⟩
  rcases h with h | h
  · exact .inl (key _ h)
  · exact .inr (key _ h)
theorem str_cells (l : List UInt8) : Lib.strCells ⟨l.toArray⟩ = Lib.byteCells l := by
  unfold Lib.strCells Lib.byteCells
  simp
theorem byte_cells_append (l m : List UInt8) : Lib.byteCells (l ++ m) = Lib.byteCells l ++ Lib.byteCells m := by
  unfold Lib.byteCells
  simp

/-! ### What PrintAll returns -/
def ln (c : Cmd.C) : List UInt8 := Cmd.line c.kind.toNat c
def script (cs : List Cmd.C) : List UInt8 := cs.flatMap fun c => ln c ++ [10]
def scriptE (cs : List Cmd.C) : Int := if 500 < cs.length then 10 else if ∀ c ∈ cs, Cmd.okB c = true then 0 else 2
def scriptS (cs : List Cmd.C) : List UInt8 := if scriptE cs = 0 then script cs else []
theorem script_many {cs : List Cmd.C} (h : 500 < cs.length) : scriptE cs = 10 ∧ scriptS cs = [] := by
  have e : scriptE cs = 10 := by unfold scriptE; rw [if_pos h]
  exact ⟨e, by unfold scriptS; rw [e]; rfl⟩
theorem script_good {cs : List Cmd.C} (h : cs.length ≤ 500) (h2 : ∀ c ∈ cs, Cmd.okB c = true) : scriptE cs = 0 ∧ scriptS cs = script cs := by
  have e : scriptE cs = 0 := by unfold scriptE; rw [if_neg (by omega), if_pos h2]
  exact ⟨e, by unfold scriptS; rw [e]; rfl⟩
theorem script_bad {cs : List Cmd.C} (h : cs.length ≤ 500) {c : Cmd.C} (hm : c ∈ cs) (h2 : Cmd.okB c = false) : scriptE cs = 2 ∧ scriptS cs = [] := by
  have e : scriptE cs = 2 := by
    unfold scriptE
    rw [if_neg (by omega), if_neg (fun hh => by rw [hh c hm] at h2; cases h2)]
  exact ⟨e, by unfold scriptS; rw [e]; rfl⟩
theorem script_snoc (cs : List Cmd.C) (c : Cmd.C) : script (cs ++ [c]) = script cs ++ (ln c ++ [10]) := by
  unfold script
  rw [List.flatMap_append]
  simp
def okC (c : Cmd.C) : Prop := c.val.length ≤ 100000 ∧ c.name.length ≤ 100000 ∧ c.a ≤ 9223372036854775807

set_option maxHeartbeats 4000000 in
set_option maxRecDepth 20000 in
/-- command.PrintAll. -/
theorem printAll_any (A : Option Addr) (cap : Nat) (cs : List Cmd.C) (hcl : cs.length ≤ 1000000) (hok : ∀ c ∈ cs, okC c) (w : World) (hrd : Rd w w.heap.size A (cs.flatMap cC)) (hG : Good w) :
    Calls Tryz.prog 13 #[.slice A cs.length cap] w fun e w' => e = .returned (.tuple #[.string ⟨(scriptS cs).toArray⟩, .int .i64 (scriptE cs)]) ∧ Below w.heap.size w w' := by
  have HI : Hid (FInv w w) := Lib.hid ⟨hG, Below.refl _ _⟩
  have HR := Lib.hid hrd
  have HO := Lib.hid hok
  have HG := Lib.hid hG
  clear hG hrd hok
  obtain ⟨S, hS⟩ : ∃ S, scriptS cs = S := ⟨_, rfl⟩
  obtain ⟨E, hE⟩ : ∃ E, scriptE cs = E := ⟨_, rfl⟩
  rw [hS, hE]
  have HS := Lib.hid hS
  have HE := Lib.hid hE
  clear hS hE
  by_cases hlen : 500 < cs.length
  · have l1 : (500 : Int) < (cs.length : Int) := by omega
    have HF : Hid (S = [] ∧ E = 10) := Lib.hid (by rw [← HS.out, ← HE.out]; exact ⟨(script_many hlen).2, (script_many hlen).1⟩)
    clear hlen
    go_enter Tryz.func13, Tryz.ntmps13
    go_wp2_with fail
    go_ret2
    exact ⟨by rw [HF.out.1, HF.out.2]; rfl, HI.out.2⟩
  · have l1 : ¬ (500 : Int) < (cs.length : Int) := by omega
    go_enter Tryz.func13, Tryz.ntmps13
    go_wp2_with fail
    have HB : Hid (IsBld w.heap.size w.heap.size (Lib.byteCells (script (cs.take 0))) (w.alloc (.cells #[.pointer none, .slice none 0 0] 61))) := Lib.hid (Lib.fresh_isBuilder _ _ w)
    have HI := FInv.alloc HI (.cells #[.pointer none, .slice none 0 0] 61)
    go_loopw [14] (fun i wr => ∃ k : Nat, k ≤ cs.length ∧ i = .int .i64 k ∧ Hid (FInv w wr) ∧ w.heap.size < wr.heap.size ∧ Hid (IsBld w.heap.size w.heap.size (Lib.byteCells (script (cs.take k))) wr) ∧ Hid (∀ c ∈ cs.take k, Cmd.okB c = true)) (fun i _ => cs.length - (intOf i).toNat)
    case atStart => exact ⟨0, Nat.zero_le _, rfl, HI, by simp, HB, Lib.hid (by simp)⟩
    case round =>
      obtain ⟨k, hk, rfl, HI, hsz, HB, HA⟩ := hrel
      by_cases hlt : k < cs.length
      · obtain ⟨⟨q, a, n, v⟩, hv⟩ : ∃ v, cs[k]? = some v := ⟨_, List.getElem?_eq_getElem hlt⟩
        obtain ⟨b1, o1, rfl, _, hc1⟩ := (HR.out.below HI.out.2).row (fun _ _ => cC_len _) hv (by decide)
        have x0 : wr.cell? ⟨b1, o1 + k * 4, none⟩ = some (.int .i64 q) := hc1 0 _ rfl
        have x1 : wr.cell? ⟨b1, o1 + k * 4 + 1, none⟩ = some (.int .i64 a) := hc1 1 _ rfl
        have x2 : wr.cell? ⟨b1, o1 + k * 4 + 2, none⟩ = some (.string ⟨n.toArray⟩) := hc1 2 _ rfl
        have x3 : wr.cell? ⟨b1, o1 + k * 4 + 3, none⟩ = some (.string ⟨v.toArray⟩) := hc1 3 _ rfl
        have k1 : (0 : Int) ≤ (k : Int) := by omega
        have k3 : (k : Int) < (cs.length : Int) := by omega
        have hoc := HO.out _ (List.mem_of_getElem? hv)
        have HV := Lib.hid hv
        have HOC := Lib.hid hoc
        clear hc1 hv hoc
        have HI := FInv.alloc HI (.cells #[.int .i64 q, .int .i64 a, .string ⟨n.toArray⟩, .string ⟨v.toArray⟩] 24)
        have HB := Lib.hid (isBld_call HB.out (below_new (Below.refl _ _) (.cells #[.int .i64 q, .int .i64 a, .string ⟨n.toArray⟩, .string ⟨v.toArray⟩] 24)))
        go_wp2_with fail
        refine (print_any ⟨q, a, n, v⟩ HOC.out.1 HOC.out.2.1 HOC.out.2.2 _ (FInv.good HI)).mono ?_
        rintro e w2 ⟨rfl, b⟩
        have HI := FInv.call HI b
        have HB := Lib.hid (isBld_call HB.out b)
        have hsz2 := b.size
        clear b x0 x1 x2 x3
        rw [World.size_alloc] at hsz2
        cases hok : Cmd.okB ⟨q, a, n, v⟩ with
        | false =>
          have HF : Hid (S = [] ∧ E = 2) := Lib.hid (by rw [← HS.out, ← HE.out]; exact ⟨(script_bad (by omega) (List.mem_of_getElem? HV.out) hok).2, (script_bad (by omega) (List.mem_of_getElem? HV.out) hok).1⟩)
          rw [(print_no hok).1, (print_no hok).2]
          clear hok
          go_wp2_with fail
          go_ret2
          exact ⟨by rw [HF.out.1, HF.out.2]; rfl, HI.out.2⟩
        | true =>
          have HA2 : Hid (∀ c ∈ cs.take (k + 1), Cmd.okB c = true) := Lib.hid (by
            rw [take_snoc HV.out]
            intro c hc
            rcases List.mem_append.1 hc with hc | hc
            · exact HA.out c hc
            · rw [List.mem_singleton.1 hc]; exact hok)
          have hL : (ln ⟨q, a, n, v⟩).length ≤ 20000 := (ok_kind hok).2.2.2.2.2
          have HSC : Hid (script (cs.take (k + 1)) = script (cs.take k) ++ (ln ⟨q, a, n, v⟩ ++ [10])) := Lib.hid (by rw [take_snoc HV.out, script_snoc])
          have hsl : (script (cs.take k)).length ≤ 20001 * k := by
            have key : ∀ l : List Cmd.C, (∀ c ∈ l, Cmd.okB c = true) → (script l).length ≤ 20001 * l.length := by
              intro l
              induction l with
              | nil => intro _; exact Nat.le_refl _
              | cons c r ih =>
                intro h
                have h1 := ih fun d hd => h d (by simp [hd])
                have h2 : (ln c).length ≤ 20000 := (ok_kind (h c (by simp))).2.2.2.2.2
                show (ln c ++ [10] ++ script r).length ≤ _
                rw [List.length_append, List.length_append, List.length_cons]
                simp
                omega
            have := key _ HA.out
            rw [List.length_take] at this
            have h4 : min k cs.length = k := by omega
            rw [h4] at this
            exact this
          rw [(print_yes hok).1, (print_yes hok).2]
          change Hid (script (cs.take (k + 1)) = script (cs.take k) ++ (Cmd.line q.toNat ⟨q, a, n, v⟩ ++ [10])) at HSC
          change (Cmd.line q.toNat ⟨q, a, n, v⟩).length ≤ 20000 at hL
          generalize Cmd.line q.toNat ⟨q, a, n, v⟩ = L at *
          have s1 : ¬ 9223372036854775807 < L.length + 1 := by omega
          clear hok
          go_wp2_with fail
          rw [show (⟨#[10]⟩ : ByteArray) = ⟨[10].toArray⟩ from rfl, ByteArray.mk_append_mk]
          have hw := bwrite_any w.heap.size w.heap.size _ ⟨(L ++ [10]).toArray⟩ _ HB.out (by
            rw [Lib.byteCells_length]
            show _ + (L ++ [10]).length ≤ _
            rw [List.length_append, List.length_singleton]
            omega) (by omega)
          rw [str_cells, ← byte_cells_append, ← HSC.out] at hw
          refine hw.mono ?_
          rintro e w3 ⟨rfl, hbl, b⟩
          have HI3 := FInv.of HG.out (HI.out.2.trans b)
          have hsz3 := b.size
          go_wp2_with fail
          go_roundw
          case rel => exact ⟨k + 1, hlt, by go_num, HI3, by omega, Lib.hid (.inr hbl), HA2⟩
          case measure => simp [intOf]; omega
      · obtain rfl : k = cs.length := by omega
        have hA := HA.out
        rw [List.take_length] at hA HB
        have HF : Hid (S = script cs ∧ E = 0) := Lib.hid (by rw [← HS.out, ← HE.out]; exact ⟨(script_good (by omega) hA).2, (script_good (by omega) hA).1⟩)
        go_wp2_with fail
        refine (Tryz.Builder_String_any w.heap.size w.heap.size (script cs) _ HB.out (Nat.le_of_lt hsz)).mono ?_
        rintro e w2 ⟨rfl, b⟩
        go_wp2_with fail
        go_ret2
        exact ⟨by rw [HF.out.1, HF.out.2]; rfl, HI.out.2.trans b⟩
end Go.Proofs.YtphpgbbjbncfoaaGreatDoor

/-
  LAYER 42, THE REFERENCE: PrintAll.
-/
import Derived.Test.YtphpgbbjbncfoaaGreatDoorComB
import Derived.Test.YtphpgbbjbncfoaaGreatDoorRef8
namespace Go.Proofs.YtphpgbbjbncfoaaGreatDoor
open Go.ChangeShapes Go.WideShapes Go.ChangeAt Go.RowKit

theorem rscript_short : ∀ l : List Cmd.C, (∀ c ∈ l, Cmd.okB c = true) → (script l).length ≤ 20001 * l.length := by
  intro l
  induction l with
  | nil => intro _; exact Nat.le_refl _
  | cons c r ih =>
    intro h
    have h1 := ih fun d hd => h d (by simp [hd])
    have h2 : (ln c).length ≤ 20000 := (ok_kind (h c (by simp))).2.2.2.2.2
    show (ln c ++ [10] ++ script r).length ≤ _
    rw [List.length_append, List.length_append, List.length_cons]
    simp
    omega
set_option maxHeartbeats 4000000 in
set_option maxRecDepth 20000 in
/-- The reference's PrintAll. -/
theorem rprintAll_any (A : Option Addr) (cap : Nat) (cs : List Cmd.C) (hcl : cs.length ≤ 1000000) (hok : ∀ c ∈ cs, okC c ∧ -9223372036854775808 ≤ c.a) (w : World) (hrd : Rd w w.heap.size A (cs.flatMap cC)) :
    Calls Tryz.prog 32 #[.slice A cs.length cap] w fun e w' => e = .returned (.tuple #[.string ⟨(scriptS cs).toArray⟩, .int .i64 (scriptE cs)]) ∧ Below w.heap.size w w' := by
  obtain ⟨i0, hi, hz0, hz1, hz2⟩ := info_parts info_u8
  have HR := Lib.hid hrd
  have HO := Lib.hid hok
  clear hrd hok
  obtain ⟨S, hS⟩ : ∃ S, scriptS cs = S := ⟨_, rfl⟩
  obtain ⟨E, hE⟩ : ∃ E, scriptE cs = E := ⟨_, rfl⟩
  rw [hS, hE]
  have HS := Lib.hid hS
  have HE := Lib.hid hE
  clear hS hE
  by_cases hlen : 500 < cs.length
  · have l1 : (500 : Int) < (cs.length : Int) := by omega
    have HF : Hid (S = [] ∧ E = 10) := Lib.hid (by rw [← HS.out, ← HE.out]; exact ⟨(script_many hlen).2, (script_many hlen).1⟩)
    clear hlen
    go_enter Tryz.func32, Tryz.ntmps32
    go_wp2_with fail
    go_ret2
    exact ⟨by rw [HF.out.1, HF.out.2]; rfl, Below.refl _ _⟩
  · have l1 : ¬ (500 : Int) < (cs.length : Int) := by omega
    go_enter Tryz.func32, Tryz.ntmps32
    go_wp2_with fail
    go_loopw [4, 5] (fun u4 i wr => ∃ k : Nat, k ≤ cs.length ∧ i = .int .i64 k ∧ Hid (wr.ownsRow w.heap.size 5 1 u4 (script (cs.take k)).length (bytesV (script (cs.take k)))) ∧ Hid (Below w.heap.size w wr) ∧ Hid (∀ c ∈ cs.take k, Cmd.okB c = true)) (fun _ i _ => cs.length - (intOf i).toNat)
    case atStart => exact ⟨0, Nat.zero_le _, rfl, Lib.hid (World.ownsRow_nil w _ _ _), Lib.hid (Below.refl _ _), Lib.hid (by simp)⟩
    case round =>
      obtain ⟨k, hk, rfl, HW, HB, HA⟩ := hrel
      by_cases hlt : k < cs.length
      · obtain ⟨⟨q, a, n, v⟩, hv⟩ : ∃ v, cs[k]? = some v := ⟨_, List.getElem?_eq_getElem hlt⟩
        obtain ⟨b1, o1, rfl, _, hc1⟩ := (HR.out.below HB.out).row (fun _ _ => cC_len _) hv (by decide)
        have x0 : wr.cell? ⟨b1, o1 + k * 4, none⟩ = some (.int .i64 q) := hc1 0 _ rfl
        have x1 : wr.cell? ⟨b1, o1 + k * 4 + 1, none⟩ = some (.int .i64 a) := hc1 1 _ rfl
        have x2 : wr.cell? ⟨b1, o1 + k * 4 + 2, none⟩ = some (.string ⟨n.toArray⟩) := hc1 2 _ rfl
        have x3 : wr.cell? ⟨b1, o1 + k * 4 + 3, none⟩ = some (.string ⟨v.toArray⟩) := hc1 3 _ rfl
        have k1 : (0 : Int) ≤ (k : Int) := by omega
        have k3 : (k : Int) < (cs.length : Int) := by omega
        have hoc := HO.out _ (List.mem_of_getElem? hv)
        have HV := Lib.hid hv
        have HOC := Lib.hid hoc
        clear hc1 hv hoc
        go_wp2_with fail
        refine (rprint_any ⟨q, a, n, v⟩ HOC.out.2 HOC.out.1.2.2 HOC.out.1.2.1 HOC.out.1.1 _).mono ?_
        rintro e w2 ⟨rfl, hb⟩
        have hown := own_below HW.out hb
        have HB := Lib.hid (HB.out.trans (hb.mono HB.out.size))
        clear hb x0 x1 x2 x3
        cases hok : Cmd.okB ⟨q, a, n, v⟩ with
        | false =>
          have HF : Hid (S = [] ∧ E = 2) := Lib.hid (by rw [← HS.out, ← HE.out]; exact ⟨(script_bad (by omega) (List.mem_of_getElem? HV.out) hok).2, (script_bad (by omega) (List.mem_of_getElem? HV.out) hok).1⟩)
          rw [(print_no hok).1, (print_no hok).2]
          clear hok
          go_wp2_with fail
          go_ret2
          exact ⟨by rw [HF.out.1, HF.out.2]; rfl, HB.out⟩
        | true =>
          have HA2 : Hid (∀ c ∈ cs.take (k + 1), Cmd.okB c = true) := Lib.hid (by
            rw [take_snoc HV.out]
            intro c hc
            rcases List.mem_append.1 hc with hc | hc
            · exact HA.out c hc
            · rw [List.mem_singleton.1 hc]; exact hok)
          have hL : (ln ⟨q, a, n, v⟩).length ≤ 20000 := (ok_kind hok).2.2.2.2.2
          have HSC : Hid (script (cs.take (k + 1)) = script (cs.take k) ++ (ln ⟨q, a, n, v⟩ ++ [10])) := Lib.hid (by rw [take_snoc HV.out, script_snoc])
          have hsl : (script (cs.take k)).length ≤ 20001 * k := by
            have := rscript_short _ HA.out
            rw [List.length_take] at this
            have h4 : min k cs.length = k := by omega
            rw [h4] at this
            exact this
          rw [(print_yes hok).1, (print_yes hok).2]
          change Hid (script (cs.take (k + 1)) = script (cs.take k) ++ (Cmd.line q.toNat ⟨q, a, n, v⟩ ++ [10])) at HSC
          change (Cmd.line q.toNat ⟨q, a, n, v⟩).length ≤ 20000 at hL
          simp only
          generalize Cmd.line q.toNat ⟨q, a, n, v⟩ = L at *
          clear hok
          go_wp2_with (at_builtin; refine Lib.wpList_append_own_string _ rfl _ _ 30 9 rfl w.heap.size 5 i0 Tryz.underlying30 Tryz.underlying9 hi hz0 hz1 hz2 _ _ _ rfl hown ⟨L.toArray⟩ rfl ?c3 ?c4 ?c5 ?_)
          case c3 => unfold maxLen; show _ + L.length ≤ _; omega
          case c4 => show _ + L.length ≤ _; omega
          case c5 => exact HB.out.size
          intro v' w3 hown' hgrow _
          have hown3 : w3.ownsRow w.heap.size 5 1 v' ((script (cs.take k)).length + L.length) (bytesV (script (cs.take k) ++ L)) := by
            rw [bytesV_append]
            exact hown'
          have HB3 := Lib.hid (HB.out.grown hgrow HB.out.size (fun g hg => (hown.lt g hg).1))
          have hl3 : (script (cs.take k) ++ L).length = (script (cs.take k)).length + L.length := List.length_append
          obtain ⟨A3, cap3, hA3, _⟩ := own_slice hown3
          subst hA3
          clear hown hown' hgrow
          go_wp2_with (at_builtin; refine wpList_append_own _ rfl _ _ 30 rfl w.heap.size 5 i0 (.int .u8 0) 1 1 Tryz.underlying30 hi hz0 hz1 hz2 rfl (by decide) _ _ _ rfl (hown3.alloc _) ⟨w3.heap.size, 0, none⟩ 1 1 [.int .u8 10] rfl rfl ?d1 ?d2 ?d3 ?d4 ?d5 ?_)
          case d1 => exact news_all _ _ _
          case d2 => intro u hu; simp at hu; subst hu; rfl
          case d3 => unfold maxLen; omega
          case d4 => omega
          case d5 => have := HB3.out.size; simp at this ⊢; omega
          intro v4 w4 hown4 hg4 _
          have HB4 := Lib.hid ((below_new HB3.out _).grown hg4 (by have := HB3.out.size; simp at this ⊢; omega) (fun g hg => (hown3.lt g hg).1))
          have HO4 := Lib.hid hown4
          clear hown3 hown4 hg4
          go_wp2_with fail
          go_roundw
          case rel =>
            refine ⟨k + 1, by omega, by go_num, Lib.hid ?_, HB4, HA2⟩
            have := HO4.out
            rw [HSC.out, ← List.append_assoc, List.length_append, List.length_append, bytesV_append]
            exact this
          case measure => simp [intOf]; omega
      · obtain rfl : k = cs.length := by omega
        rw [List.take_length] at HW HA
        have HF : Hid (S = script cs ∧ E = 0) := Lib.hid (by rw [← HS.out, ← HE.out]; exact ⟨(script_good (by omega) HA.out).2, (script_good (by omega) HA.out).1⟩)
        have hconv := run_own_string (P := Tryz.prog) wr 30 9 5 _ _ w.heap.size (script cs) Tryz.underlying30 Tryz.underlying5 Tryz.underlying9 rfl HW.out
        go_wp2_with fail
        go_ret2
        exact ⟨by rw [HF.out.1, HF.out.2]; rfl, HB.out⟩
end Go.Proofs.YtphpgbbjbncfoaaGreatDoor

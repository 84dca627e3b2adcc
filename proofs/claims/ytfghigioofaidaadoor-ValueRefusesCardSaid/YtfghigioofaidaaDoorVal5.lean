/-
  LAYER 16: the strings of lists, in the reference.
-/
import Derived.Test.YtfghigioofaidaaDoorVal4
namespace Go.Proofs.YtfghigioofaidaaDoor
open Go.ChangeShapes Go.WideShapes Go.ChangeAt Go.RowKit

theorem info_byte : (Tryd.prog.info? 5).map (fun i => (i.zero, i.size, i.bytes)) = some (some (.int .u8 0), 1, 1) := by kernel_rfl

/-- What the first k strings come to. -/
def J (l : List (Int × Int)) (k : Nat) : List UInt8 := Lib.join ((l.take k).map fun v => Val.txt v.1 v.2) [32]
theorem join_snoc : ∀ (xs : List (List UInt8)) (x : List UInt8), xs ≠ [] → Lib.join (xs ++ [x]) [32] = Lib.join xs [32] ++ [32] ++ x
  | [], _, h => absurd rfl h
  | y :: ys, x, _ => by
    rw [List.cons_append, Lib.join_cons, Lib.join_cons]
    simp [Lib.joinTail]
theorem J_one {l : List (Int × Int)} {t n : Int} (h : l[0]? = some (t, n)) : J l 1 = Val.txt t n := by
  unfold J
  rw [take_snoc h]
  simp [Lib.join_one]
theorem J_succ {l : List (Int × Int)} {k : Nat} {t n : Int} (h : l[k]? = some (t, n)) (hk : 0 < k) : J l (k + 1) = J l k ++ [32] ++ Val.txt t n := by
  unfold J
  rw [take_snoc h, List.map_append]
  exact join_snoc _ _ (by
    intro e
    have := congrArg List.length e
    have hk' := (List.getElem?_eq_some_iff.1 h).1
    rw [List.length_map, List.length_take, List.length_nil] at this
    omega)
theorem J_nought (l : List (Int × Int)) : J l 0 = [] := rfl
theorem J_short (l : List (Int × Int)) (k : Nat) (hk : k ≤ l.length) (hg : ∀ v ∈ l, -9223372036854775808 ≤ v.2 ∧ v.2 ≤ 9223372036854775807) : (J l k).length ≤ 22 * k := by
  have := join_bound ((l.take k).map fun v => Val.txt v.1 v.2) 21 (by
    intro x hx
    obtain ⟨v, hv, rfl⟩ := List.mem_map.1 hx
    have := hg v (List.mem_of_mem_take hv)
    exact txt_short _ _ this.1 this.2)
  unfold J
  rw [List.length_map, List.length_take] at this
  omega

set_option maxHeartbeats 1000000 in
/-- The reference's List: the same. -/
theorem rlist_any (A : Option Addr) (cap : Nat) (l : List (Int × Int)) (hl : l.length ≤ 1000000) (hg : ∀ v ∈ l, -9223372036854775808 ≤ v.2 ∧ v.2 ≤ 9223372036854775807) (w : World) (hrd : Rd w w.heap.size A (l.flatMap cellsV)) :
    Calls Tryd.prog 18 #[.slice A l.length cap] w fun e w' => e = .returned (.tuple #[.string ⟨(Val.lst l).toArray⟩, .int .i64 (Val.lstE l)]) ∧ Below w.heap.size w w' := by
  obtain ⟨i0, hi, hz0, hz1, hz2⟩ := info_parts info_byte
  have HG := Lib.hid hg
  have HR := Lib.hid hrd
  clear hg hrd
  go_enter Tryd.func18, Tryd.ntmps18
  go_wp2_with fail
  go_loopw [4, 5] (fun v i wr => ∃ k : Nat, k ≤ l.length ∧ i = .int .i64 k ∧ wr.ownsRow w.heap.size 5 1 v (J l k).length (bytesV (J l k)) ∧ Below w.heap.size w wr ∧ Hid (∀ v ∈ l.take k, Val.chk v.1 v.2 = 0)) (fun _ i _ => l.length - (intOf i).toNat)
  case atStart => exact ⟨0, Nat.zero_le _, rfl, World.ownsRow_nil _ _ _ _, Below.refl _ _, Lib.hid (by simp)⟩
  case round =>
    obtain ⟨k, hk, rfl, hown, hnx, hok⟩ := hrel
    have HB := Lib.hid hnx
    have HO := Lib.hid hown
    have hJ := J_short l k hk HG.out
    clear hnx hown
    by_cases hlt : k < l.length
    · obtain ⟨⟨t, n⟩, hv⟩ : ∃ v, l[k]? = some v := ⟨_, List.getElem?_eq_getElem hlt⟩
      obtain ⟨b, off, rfl, hbB, hc⟩ := (HR.out.below HB.out).row (fun _ _ => cellsV_len _) hv (by decide)
      have e1 : wr.cell? ⟨b, off + k * 2, none⟩ = some (.int .i64 t) := hc 0 _ rfl
      have e2 : wr.cell? ⟨b, off + k * 2 + 1, none⟩ = some (.int .i64 n) := hc 1 _ rfl
      have hb := HG.out (t, n) (List.mem_of_getElem? hv)
      simp only at hb
      have HV := Lib.hid hv
      clear hc hv
      rcases Val.chk_two t n with hck | hck
      · have HC := Lib.hid hck
        clear hck
        have hts := txt_short t n hb.1 hb.2
        have hnext : Hid (∀ v ∈ l.take (k + 1), Val.chk v.1 v.2 = 0) := Lib.hid (by
          rw [take_snoc HV.out]
          intro v hv
          rcases List.mem_append.1 hv with hv | hv
          · exact hok.out v hv
          · rw [List.mem_singleton.1 hv]; exact HC.out)
        by_cases h0 : k = 0
        · subst h0
          have e3 : wr.cell? ⟨b, off, none⟩ = some (.int .i64 t) := by simpa using e1
          have e4 : wr.cell? ⟨b, off + 1, none⟩ = some (.int .i64 n) := by simpa using e2
          clear e1 e2
          go_wp2_with fail
          refine (rtext_any t n hb.1 hb.2 _).mono ?_
          rintro e w2 ⟨rfl, hb2⟩
          rw [HC.out]
          have hown2 := own_below HO.out hb2
          have HB2 := Lib.hid hb2
          have hsz := hb2.size
          clear hb2
          go_wp2_with (at_builtin; refine Go.Lib.wpList_append_own_string _ rfl _ _ 53 9 rfl w.heap.size 5 i0 Tryd.underlying53 Tryd.underlying9 hi hz0 hz1 hz2 _ _ _ rfl hown2 ⟨(Val.txt t n).toArray⟩ rfl ?c1 ?c2 ?c3 ?_)
          case c1 => rw [mk_size]; unfold maxLen; omega
          case c2 => rw [mk_size]; omega
          case c3 => have := HB.out.size; omega
          intro v' w3 hown3 hg3 _
          have HO3 := Lib.hid hown3
          have HB3 := Lib.hid ((HB.out.trans (HB2.out.mono HB.out.size)).grown hg3 (by have := HB.out.size; omega) (fun g hg => (hown2.lt g hg).1))
          clear hown2 hown3 hg3
          go_wp2_with fail
          go_roundw
          case rel =>
            refine ⟨1, by omega, by go_num, ?_, HB3.out, hnext⟩
            have := HO3.out
            rw [J_one HV.out]
            simpa [J_nought, bytesV_str, mk_size, bytesV] using this
          case measure => simp [intOf]; omega
        · have hk0 : 0 < k := by omega
          go_wp2_with fail
          refine (rtext_any t n hb.1 hb.2 _).mono ?_
          rintro e w2 ⟨rfl, hb2⟩
          rw [HC.out]
          have hown2 := own_below HO.out hb2
          have HB2 := Lib.hid hb2
          have hsz := hb2.size
          clear hb2
          go_wp2_with (at_builtin; refine wpList_append_own _ rfl _ _ 53 rfl w.heap.size 5 i0 (.int .u8 0) 1 1 Tryd.underlying53 hi hz0 hz1 hz2 rfl (by decide) _ _ _ rfl (hown2.alloc _) ⟨w2.heap.size, 0, none⟩ 1 1 [.int .u8 32] rfl rfl ?d1 ?d2 ?d3 ?d4 ?d5 ?_)
          case d1 => exact one_news _ _ _
          case d2 => intro u hu; simp at hu; subst hu; rfl
          case d3 => unfold maxLen; omega
          case d4 => omega
          case d5 => have := HB.out.size; simp; omega
          intro v' w3 hown3 hg3 _
          have hb3 : Below w.heap.size w w3 := (((HB.out.trans (HB2.out.mono HB.out.size)).alloc (by have := HB.out.size; omega) _).grown hg3 (by have := HB.out.size; simp; omega) (fun g hg => (hown2.lt g hg).1))
          have HB3 := Lib.hid hb3
          have hsz3 := hb3.size
          clear hown2 hg3 hb3
          go_wp2_with (at_builtin; refine Go.Lib.wpList_append_own_string _ rfl _ _ 53 9 rfl w.heap.size 5 i0 Tryd.underlying53 Tryd.underlying9 hi hz0 hz1 hz2 _ _ _ rfl hown3 ⟨(Val.txt t n).toArray⟩ rfl ?f1 ?f2 ?f3 ?_)
          case f1 => rw [mk_size]; unfold maxLen; omega
          case f2 => rw [mk_size]; omega
          case f3 => omega
          intro v'' w4 hown4 hg4 _
          have HO4 := Lib.hid hown4
          have HB4 := Lib.hid (HB3.out.grown hg4 hsz3 (fun g hg => (hown3.lt g hg).1))
          clear hown3 hown4 hg4
          go_wp2_with fail
          go_roundw
          case rel =>
            refine ⟨k + 1, by omega, by go_num, ?_, HB4.out, hnext⟩
            have := HO4.out
            rw [show (J l (k + 1)).length = (J l k).length + 1 + (Val.txt t n).length by rw [J_succ HV.out hk0, List.length_append, List.length_append]; rfl, show bytesV (J l (k + 1)) = bytesV (J l k) ++ Value.int .u8 32 :: bytesV (Val.txt t n) by rw [J_succ HV.out hk0, bytesV_append, bytesV_append, List.append_assoc]; rfl]
            exact this
          case measure => simp [intOf]; omega
      · have HC := Lib.hid hck
        clear hck
        go_wp2_with fail
        refine (rtext_any t n hb.1 hb.2 _).mono ?_
        rintro e w2 ⟨rfl, hb2⟩
        rw [HC.out]
        go_wp2_with fail
        go_ret2
        obtain ⟨q1, q2⟩ := lst_bad HV.out HC.out
        exact ⟨by rw [q1, q2]; rfl, HB.out.trans (hb2.mono HB.out.size)⟩
    · obtain rfl : k = l.length := by omega
      rw [List.take_length] at hok
      have hall := hok.out
      have hconv := run_own_string (P := Tryd.prog) wr 53 9 5 u4 _ w.heap.size (J l l.length) Tryd.underlying53 Tryd.underlying5 Tryd.underlying9 rfl HO.out
      clear hok
      go_wp2_with fail
      go_ret2
      obtain ⟨q1, q2⟩ := lst_ok hall
      exact ⟨by rw [q1, q2, ← show J l l.length = Lib.join (l.map fun v => Val.txt v.1 v.2) [32] by unfold J; rw [List.take_length]]; rfl, HB.out⟩
end Go.Proofs.YtfghigioofaidaaDoor

/-
  LAYER 16: the strings of lists, in the program.
-/
import Derived.Test.YtfghigioofaidaaDoorVal3
namespace Go.Proofs.YtfghigioofaidaaDoor
open Go.ChangeShapes Go.WideShapes Go.ChangeAt Go.RowKit

def cellsV (v : Int × Int) : List Value := [.int .i64 v.1, .int .i64 v.2]
theorem cellsV_len (v : Int × Int) : (cellsV v).length = 2 := rfl

theorem info_str : (Tryd.prog.info? 9).map (fun i => (i.zero, i.size, i.bytes)) = some (some (.string ⟨#[]⟩), 1, 16) := by kernel_rfl

theorem join_bound (xs : List (List UInt8)) (m : Nat) (h : ∀ x ∈ xs, x.length ≤ m) : (Lib.join xs [32]).length ≤ xs.length * (m + 1) := by
  cases xs with
  | nil => simp [Lib.join_nil]
  | cons x r =>
    rw [Lib.join_length]
    have : Lib.lens (x :: r) ≤ (x :: r).length * m := by
      have key : ∀ ys : List (List UInt8), (∀ y ∈ ys, y.length ≤ m) → Lib.lens ys ≤ ys.length * m := by
        intro ys
        induction ys with
        | nil => intro _; simp [Lib.lens]
        | cons y ys ih =>
          intro hy
          have h1 := ih (fun z hz => hy z (by simp [hz]))
          have h2 := hy y (by simp)
          simp only [Lib.lens, List.map_cons, List.sum_cons, List.length_cons] at h1 ⊢
          rw [Nat.add_mul]
          omega
      exact key _ h
    simp only [List.length_cons, List.length_nil] at this ⊢
    rw [Nat.mul_add]
    omega

/-- strings.Join of a slice of the call's own, nil too. -/
theorem join_own (v : Value) (n base : Nat) (xs : List (List UInt8)) (sep : ByteArray) (w : World) (hn : n = xs.length) (hown : w.ownsRow base 9 1 v n (xs.map fun s => .string ⟨s.toArray⟩))
    (hN : xs.length ≤ 1000000) (hlen : (Lib.join xs sep.data.toList).length ≤ 140737488355328) :
    Calls Tryd.prog 23 #[v, .string sep] w fun e w' => e = .returned (.string ⟨(Lib.join xs sep.data.toList).toArray⟩) ∧ Below w.heap.size w w' := by
  subst hn
  rcases hown.2 with ⟨rfl, h0⟩ | ⟨g, cap, cur, rfl, _, hh, hnc, _, _, _⟩
  · obtain rfl : xs = [] := List.eq_nil_of_length_eq_zero h0
    exact (Tryd.strings_Join_none none 0 sep w).mono fun e w' ⟨he, hw⟩ => ⟨he, hw ▸ Below.refl _ _⟩
  · have hcells : ∀ (j : Nat) x, (xs.map fun s => (⟨s.toArray⟩ : ByteArray))[j]? = some x → w.cell? ⟨g, 0 + j, none⟩ = some (.string x) := by
      intro j x hj
      have := hown.cells (g := g) rfl j (.string x) (by
        rw [List.getElem?_map] at hj ⊢
        cases hx : xs[j]? with
        | none => rw [hx] at hj; cases hj
        | some y => rw [hx] at hj; simp at hj ⊢; rw [hj])
      rw [Go.WideShapes.add_plain] at this
      exact this
    have e1 : (xs.map fun s => (⟨s.toArray⟩ : ByteArray)).map (·.data.toList) = xs := by
      rw [List.map_map]
      exact (List.map_congr_left (fun s _ => rfl)).trans (List.map_id xs)
    have := Tryd.strings_Join g 0 cap (xs.map fun s => ⟨s.toArray⟩) sep w hcells (Array.getElem?_eq_some_iff.1 hh).1 (by simp; omega) (by simpa using hnc) (by rw [e1]; exact hlen)
    rw [e1, List.length_map] at this
    exact this

theorem txt_short (t n : Int) (h0 : -9223372036854775808 ≤ n) (h1 : n ≤ 9223372036854775807) : (Val.txt t n).length ≤ 21 := by
  have := Dec.itoa_length h0 h1
  unfold Val.txt
  split
  · split
    · split <;> decide
    · split
      · simp; omega
      · omega
  · simp

theorem lst_bad {l : List (Int × Int)} {k : Nat} {t n : Int} (hv : l[k]? = some (t, n)) (hc : Val.chk t n = 2) : Val.lst l = [] ∧ Val.lstE l = 2 := by
  have : ¬ Val.allOk l = true := by
    intro h
    unfold Val.allOk at h
    have := List.all_eq_true.1 h (t, n) (List.mem_of_getElem? hv)
    simp [hc] at this
  unfold Val.lst Val.lstE
  rw [if_neg this, if_neg this]
  exact ⟨rfl, rfl⟩
theorem lst_ok {l : List (Int × Int)} (h : ∀ v ∈ l, Val.chk v.1 v.2 = 0) : Val.lst l = Lib.join (l.map fun v => Val.txt v.1 v.2) [32] ∧ Val.lstE l = 0 := by
  have : Val.allOk l = true := by
    unfold Val.allOk
    rw [List.all_eq_true]
    intro v hv
    simp [h v hv]
  unfold Val.lst Val.lstE
  rw [if_pos this, if_pos this]
  exact ⟨rfl, rfl⟩

theorem take_snoc {α : Type} {l : List α} {k : Nat} {x : α} (h : l[k]? = some x) : l.take (k + 1) = l.take k ++ [x] := by
  obtain ⟨hk, rfl⟩ := List.getElem?_eq_some_iff.1 h
  exact List.take_succ_eq_append_getElem hk

set_option maxHeartbeats 1000000 in
/-- value.List: the strings with a space between two of them; or the error of the first value that is wrong. -/
theorem list_any (A : Option Addr) (cap : Nat) (l : List (Int × Int)) (hl : l.length ≤ 1000000) (hg : ∀ v ∈ l, -9223372036854775808 ≤ v.2 ∧ v.2 ≤ 9223372036854775807) (w : World) (hG : Good w) (hrd : Rd w w.heap.size A (l.flatMap cellsV)) :
    Calls Tryd.prog 17 #[.slice A l.length cap] w fun e w' => e = .returned (.tuple #[.string ⟨(Val.lst l).toArray⟩, .int .i64 (Val.lstE l)]) ∧ Below w.heap.size w w' := by
  obtain ⟨i0, hi, hz0, hz1, hz2⟩ := info_parts info_str
  have HG := Lib.hid hg
  have HR := Lib.hid hrd
  clear hg hrd
  go_enter Tryd.func17, Tryd.ntmps17
  go_wp2_with fail
  go_loopw [4, 11] (fun v i wr => ∃ k : Nat, k ≤ l.length ∧ i = .int .i64 k ∧ wr.ownsRow w.heap.size 9 1 v k ((l.take k).map fun v => .string ⟨(Val.txt v.1 v.2).toArray⟩) ∧ Below w.heap.size w wr ∧ Hid (∀ v ∈ l.take k, Val.chk v.1 v.2 = 0)) (fun _ i _ => l.length - (intOf i).toNat)
  case atStart => exact ⟨0, Nat.zero_le _, rfl, by simpa using World.ownsRow_nil _ _ _ _, Below.refl _ _, Lib.hid (by simp)⟩
  case round =>
    obtain ⟨k, hk, rfl, hown, hnx, hok⟩ := hrel
    have hGr := hG.below hnx (Nat.le_refl _)
    have HB := Lib.hid hnx
    have HO := Lib.hid hown
    clear hnx hown
    by_cases hlt : k < l.length
    · obtain ⟨⟨t, n⟩, hv⟩ : ∃ v, l[k]? = some v := ⟨_, List.getElem?_eq_getElem hlt⟩
      obtain ⟨b, off, rfl, hbB, hc⟩ := (HR.out.below HB.out).row (fun _ _ => cellsV_len _) hv (by decide)
      have e1 : wr.cell? ⟨b, off + k * 2, none⟩ = some (.int .i64 t) := hc 0 _ rfl
      have e2 : wr.cell? ⟨b, off + k * 2 + 1, none⟩ = some (.int .i64 n) := hc 1 _ rfl
      have hb := HG.out (t, n) (List.mem_of_getElem? hv)
      simp only at hb
      have HV := Lib.hid hv
      clear hc hv
      rcases Val.chk_two t n with hck | hck
      · have HC := Lib.hid hck
        clear hck
        go_wp2_with fail
        refine (text_any t n hb.1 hb.2 _ (hGr.alloc _)).mono ?_
        rintro e w2 ⟨rfl, hb2⟩
        rw [HC.out]
        have hb2' := behind hb2
        have hown2 := own_below HO.out hb2'
        have HB2 := Lib.hid hb2'
        have hsz := hb2'.size
        clear hb2 hb2' hGr
        go_wp2_with (at_builtin; refine wpList_append_own _ rfl _ _ 40 rfl w.heap.size 9 i0 (.string ⟨#[]⟩) 1 16 Tryd.underlying40 hi hz0 hz1 hz2 rfl (by decide) _ _ _ rfl (hown2.alloc _) ⟨w2.heap.size, 0, none⟩ 1 1 [.string ⟨(Val.txt t n).toArray⟩] rfl rfl ?c1 ?c2 ?c3 ?c4 ?c5 ?_)
        case c1 => exact one_news _ _ _
        case c2 => intro u hu; simp at hu; subst hu; rfl
        case c3 => unfold maxLen; omega
        case c4 => omega
        case c5 => have := HB.out.size; simp; omega
        intro v' w3 hown3 hg3 _
        have HO3 := Lib.hid hown3
        have hb3 : Below w.heap.size w w3 := (((HB.out.trans (HB2.out.mono HB.out.size)).alloc (by have := HB.out.size; omega) _).grown hg3 (by have := HB.out.size; simp; omega) (fun g hg => (hown2.lt g hg).1))
        have HB3 := Lib.hid hb3
        clear hown2 hown3 hg3 hb3
        go_wp2_with fail
        go_roundw
        case rel =>
          refine ⟨k + 1, by omega, by go_num, ?_, HB3.out, Lib.hid ?_⟩
          · rw [take_snoc HV.out, List.map_append, List.map_take]
            exact HO3.out
          · rw [take_snoc HV.out]
            intro v hv
            rcases List.mem_append.1 hv with hv | hv
            · exact hok.out v hv
            · rw [List.mem_singleton.1 hv]; exact HC.out
        case measure => simp [intOf]; omega
      · have HC := Lib.hid hck
        clear hck
        go_wp2_with fail
        refine (text_any t n hb.1 hb.2 _ (hGr.alloc _)).mono ?_
        rintro e w2 ⟨rfl, hb2⟩
        rw [HC.out]
        go_wp2_with fail
        go_ret2
        obtain ⟨q1, q2⟩ := lst_bad HV.out HC.out
        exact ⟨by rw [q1, q2]; rfl, HB.out.trans ((behind hb2).mono HB.out.size)⟩
    · obtain rfl : k = l.length := by omega
      rw [List.take_length] at hok
      have hall := hok.out
      have HO2 := HO.out
      rw [List.take_length] at HO2
      have hj := join_own u4 l.length w.heap.size (l.map fun v => Val.txt v.1 v.2) ⟨#[32]⟩ wr (by simp) (by rw [List.map_map]; exact HO2) (by simpa using hl) (by
        have := join_bound (l.map fun v => Val.txt v.1 v.2) 21 (by
          intro x hx
          obtain ⟨v, hv, rfl⟩ := List.mem_map.1 hx
          exact txt_short _ _ (HG.out v hv).1 (HG.out v hv).2)
        rw [List.length_map] at this
        show (Lib.join _ [32]).length ≤ _
        omega)
      have HJ := Lib.hid hj
      clear hj HO2 hok
      go_wp2_with fail
      refine HJ.out.mono ?_
      rintro e w2 ⟨rfl, hb2⟩
      go_wp2_with fail
      go_ret2
      obtain ⟨q1, q2⟩ := lst_ok hall
      exact ⟨by rw [q1, q2]; rfl, HB.out.trans (hb2.mono HB.out.size)⟩
end Go.Proofs.YtfghigioofaidaaDoor

/-
  LAYER 2: numbers are found again from their strings; what is decoded has the string that was decoded: the two statements' walks.
-/
import Derived.Test.YtdogdpjgkhcndaaDoorNum5
import Derived.Deep.RegionHeld3
namespace Go.Proofs.YtdogdpjgkhcndaaDoor
open Go.ChangeShapes Go.WideShapes Go.ChangeAt Go.RowKit

def cellsI (x : Int) : List Value := [.int .i64 x]
def okI (x : Int) : Prop := -9223372036854775808 ≤ x ∧ x ≤ 9223372036854775807
set_option maxRecDepth 100000 in
theorem int_row {H : Type} {enc : TypeId × Value → H} {w : World} {sp : Nat → Bool} {held : Bool} (n : Nat) (cs : List Value) (x : DataW H × List MemPlace) (h : DataW.trod enc Tryd.prog w 0 sp held n 2 cs = some x) (_ : cs.length = 1) : ∃ y : Int, cs = cellsI y ∧ okI y := by
  obtain ⟨i, e, _, wi⟩ := DataW.trod_int Tryd.underlying2 h
  refine ⟨i, e, ?_⟩
  have bi : -9223372036854775808 ≤ i ∧ i ≤ 9223372036854775807 := by simpa [Lit.wf, IntKind.min, IntKind.max, IntKind.signed, IntKind.bits] using wi
  exact bi
set_option maxRecDepth 100000 in
theorem numberBack_rows0 {H : Type} {enc : TypeId × Value → H} {w : World} {sp : Nat → Bool} {held : Bool} {b0 : Nat} {v : Value} {d : DataW H} {p : List MemPlace} (hv : Value.okWide Tryd.prog w .any b0 38 v) (h : DataW.Trod enc Tryd.prog w 0 sp held 38 v d p) :
    ∃ (A : Option Addr) (cap : Nat) (l : List Int), v = .slice A l.length cap ∧ l.length ≤ cap ∧ cap ≤ maxLen ∧ (∀ x ∈ l, okI x) ∧ (∀ x ∈ l, (cellsI x).length = 1) ∧ Rd w w.heap.size A (l.flatMap cellsI) := by
  have hr := @int_row H enc w sp held
  have h1 : Tryd.prog.cellsOf 2 = 1 := by kernel_rfl
  have h2 := Tryd.underlying38
  exact open_rows cellsI okI h2 h1 (by decide) hr hv h
theorem flat_ints (l : List Int) : l.flatMap cellsI = ints l := by
  induction l with
  | nil => rfl
  | cons x r ih => rw [List.flatMap_cons, ih]; rfl

/-- A number, its string, and what is decoded from it. -/
structure Elt (x : Int) (T : List UInt8) : Prop where
  tx : ∀ W, Good W → Calls Tryd.prog 23 #[.int .i64 x] W fun e w' => e = .returned (.string ⟨T.toArray⟩) ∧ Below W.heap.size W w'
  ps : ∀ W, Good W → Calls Tryd.prog 19 #[.string ⟨T.toArray⟩] W fun e w' => e = .returned (.tuple #[.int .i64 x, .int .i64 0]) ∧ Below W.heap.size W w'
  l1 : 1 ≤ T.length
  l2 : T.length ≤ 20
  it : T = Lib.itoa x
theorem elt_of {x : Int} (h : okI x) : ∃ T, Elt x T := by
  have hl := Dec.itoa_length h.1 h.2
  refine ⟨Lib.itoa x, ⟨fun W hG => ntext_any x h.1 h.2 W hG, fun W hG => ?_, List.length_pos_iff.2 (Dec.itoa_ne x), hl, rfl⟩⟩
  have h1 := nparse_any (Lib.itoa x) (by omega) W hG
  obtain ⟨e1, e2⟩ := errP_some (Num.parse_itoa h.1 h.2)
  rwa [e1, e2] at h1

def BInv (w : World) (b o : Nat) (x : Int) (W : World) : Prop := FInv w W ∧ b < W.heap.size ∧ W.cell? ⟨b, o, none⟩ = some (.int .i64 x)
section
variable {w W W' : World} {b o : Nat} {x : Int}
theorem BInv.cells (h : Hid (BInv w b o x W)) : W.cell? ⟨b, o, none⟩ = some (.int .i64 x) ∧ Hid (BInv w b o x W) := ⟨h.out.2.2, h⟩
theorem BInv.call (h : Hid (BInv w b o x W)) (hb : Below W.heap.size W W') : Hid (BInv w b o x W') := Lib.hid ⟨(FInv.call (Lib.hid h.out.1) hb).out, Nat.lt_of_lt_of_le h.out.2.1 hb.size, (hb.cell (p := ⟨b, o, none⟩) h.out.2.1).trans h.out.2.2⟩
theorem BInv.drew (h : Hid (BInv w b o x W)) : Hid (BInv w b o x W.drew) := Lib.hid ⟨(FInv.drew (Lib.hid h.out.1)).out, h.out.2.1, h.out.2.2⟩
theorem BInv.good (h : Hid (BInv w b o x W)) : Good W := h.out.1.1
theorem BInv.limb {p0 q : Prop} (h : p0 ∧ q) : q := h.2
theorem BInv.fin {p0 : Prop} (h : p0 ∧ Hid (BInv w b o x W)) : Hid (FInv w W) := Lib.hid h.2.out.1
end

def jn (l : List Int) (k : Nat) : List UInt8 := Num.joined ((l.take k).map Lib.itoa)
theorem jn_one {l : List Int} {x : Int} (h : l[0]? = some x) : jn l 1 = Lib.itoa x := by
  unfold jn
  rw [take_snoc h]
  rfl
theorem jn_succ {l : List Int} {k : Nat} {x : Int} (h : l[k]? = some x) (hk : 0 < k) : jn l (k + 1) = jn l k ++ [44] ++ Lib.itoa x := by
  unfold jn
  rw [take_snoc h, List.map_append, List.map_singleton, Num.joined_snoc _ _ (by
    intro e
    have := congrArg List.length e
    have hk' := (List.getElem?_eq_some_iff.1 h).1
    rw [List.length_map, List.length_take, List.length_nil] at this
    omega)]
  simp
theorem jn_len {l : List Int} (hg : ∀ x ∈ l, okI x) (k : Nat) (hk : k ≤ l.length) : (jn l k).length ≤ 21 * k := by
  have := Num.joined_len 20 ((l.take k).map Lib.itoa) (by
    intro p hp
    obtain ⟨x, hx, rfl⟩ := List.mem_map.1 hp
    have := hg x (List.mem_of_mem_take hx)
    exact Dec.itoa_length this.1 this.2)
  rw [List.length_map, List.length_take] at this
  unfold jn
  omega

theorem same_yes (l : List Int) (hl : l.length ≤ 1000000) (A B : Option Addr) (c1 c2 : Nat) (w : World) (h1 : Rd w w.heap.size A (ints l)) (h2 : Rd w w.heap.size B (ints l)) :
    Calls Tryd.prog 25 #[.slice A l.length c1, .slice B l.length c2] w fun e w' => e = .returned (.bool true) ∧ Below w.heap.size w w' := by
  have h := same_any l l hl hl A B c1 c2 w h1 h2
  rwa [decide_eq_true (rfl : l = l)] at h

set_option maxHeartbeats 4000000 in
set_option maxRecDepth 100000 in
theorem numberBack_walk (w : World) (A : Option Addr) (cap : Nat) (l : List Int) (_ : l.length ≤ cap) (_ : cap ≤ maxLen) (hg : ∀ x ∈ l, okI x) (hrd : Rd w w.heap.size A (l.flatMap cellsI)) (n : Int) (n0 : -9223372036854775808 ≤ n) (n1 : n ≤ 9223372036854775807) (hG : Good w) :
    Calls Tryd.prog 8 #[.slice A l.length cap, .int .i64 n] w fun e w' => e = .returned (.bool true) ∧ Below w.heap.size w w' := by
  rw [flat_ints] at hrd
  have HI : Hid (FInv w w) := Lib.hid ⟨hG, Below.refl _ _⟩
  have HR := Lib.hid hrd
  have HOk := Lib.hid hg
  clear hG hrd hg
  by_cases hbig : 100 < l.length
  · go_enter Tryd.func8, Tryd.ntmps8
    go_wp2_with fail
    refine (works_any _ (FInv.good HI)).mono ?_
    rintro e w1 ⟨rfl, b⟩
    have HI := FInv.call HI b
    clear b
    go_wp2_with fail
    go_ret
    exact ⟨rfl, HI.out.2⟩
  obtain ⟨TN, hTN⟩ := elt_of (x := n) ⟨n0, n1⟩
  have HTN := Lib.hid hTN
  clear hTN
  go_enter Tryd.func8, Tryd.ntmps8
  go_wp2_with fail
  go_loopw [5, 6] (fun s i wr => ∃ (k : Nat), k ≤ l.length ∧ s = .string ⟨(jn l k).toArray⟩ ∧ i = .int .i64 k ∧ Hid (FInv w wr)) (fun _ i _ => l.length - (intOf i).toNat)
  case atStart => exact ⟨0, Nat.zero_le _, rfl, rfl, HI⟩
  case round =>
    obtain ⟨k, hk, rfl, rfl, HI⟩ := hrel
    have hjl := jn_len HOk.out k hk
    by_cases hlt : k < l.length
    · obtain ⟨x, hx⟩ : ∃ x, l[k]? = some x := ⟨_, List.getElem?_eq_getElem hlt⟩
      have hxo := HOk.out x (List.mem_of_getElem? hx)
      obtain ⟨T, hT⟩ := elt_of hxo
      obtain ⟨b, off, rfl, hbB, c0⟩ := ints_at (HR.out.below HI.out.2) hx
      have hl1 := hT.l1
      have hl2 := hT.l2
      have HT := Lib.hid hT
      have HX := Lib.hid hx
      have HB : Hid (BInv w b (off + k) x wr) := Lib.hid ⟨HI.out, Nat.lt_of_lt_of_le hbB HI.out.2.size, c0⟩
      have k0 : (0 : Int) ≤ (k : Int) := by omega
      have k1 : (k : Int) < (l.length : Int) := by omega
      have hTe : T.isEmpty = false := by cases T with | nil => simp at hl1 | cons c r => rfl
      have hT20 : decide ((20 : Int) < (T.length : Int)) = false := by simp; omega
      have hNX : Hid (0 < k → (⟨(jn l k).toArray⟩ ++ ⟨#[44]⟩ ++ ⟨T.toArray⟩ : ByteArray) = ⟨(jn l (k + 1)).toArray⟩) := Lib.hid fun h => by
        rw [jn_succ HX.out h, ← HT.out.it, show (⟨#[44]⟩ : ByteArray) = ⟨[44].toArray⟩ from rfl, ByteArray.mk_append_mk, ByteArray.mk_append_mk]
      have hNX0 : Hid (k = 0 → (⟨(jn l k).toArray⟩ ++ ⟨T.toArray⟩ : ByteArray) = ⟨(jn l (k + 1)).toArray⟩) := Lib.hid fun h => by
        subst h
        rw [jn_one HX.out, ← HT.out.it, ByteArray.mk_append_mk]
        rfl
      have l1 : ¬ 9223372036854775807 < (jn l k).length + 1 := by omega
      have l2 : ¬ 9223372036854775807 < (jn l k).length + 1 + T.length := by omega
      have l3 : ¬ 9223372036854775807 < (jn l k).length + T.length := by omega
      clear hx hT hxo hl1 hl2
      go_wp2_with fail
      refine (HT.out.tx _ (BInv.good HB)).mono ?_
      rintro e w1 ⟨rfl, b1⟩
      have HB := BInv.call HB b1
      clear b1 c0
      go_wp2_with fail
      refine (HT.out.ps _ (BInv.good HB)).mono ?_
      rintro e w2 ⟨rfl, b2⟩
      have HB := BInv.call HB b2
      clear b2
      by_cases he : x = n
      · subst he
        have he3 : T = TN := HT.out.it.trans HTN.out.it.symm
        subst he3
        go_wp2_with fail
        go_region_held3 (fun W => W.cell? ⟨b, off + k, none⟩ = some (.int .i64 x) ∧ Hid (BInv w b (off + k) x W))
          (first | exact BInv.cells (BInv.drew (by assumption)) | exact BInv.cells (BInv.call (BInv.limb (by assumption)) (by assumption)))
          (first | (go_at_call 23; refine (HTN.out.tx _ (BInv.good (BInv.limb (by assumption)))).mono ?_; rintro e w' ⟨rfl, hb⟩))
        have HI2 := BInv.fin (by assumption)
        by_cases hk0 : k = 0
        · have HF := Lib.hid (hNX0.out hk0)
          subst hk0
          go_wp2_with fail
          go_roundw
          case rel => exact ⟨1, by omega, by rw [HF.out], rfl, HI2⟩
          case measure => simp [intOf]; omega
        · have HF := Lib.hid (hNX.out (by omega))
          have hk2 : (0 : Int) < (k : Int) := by omega
          go_wp2_with fail
          go_roundw
          case rel => exact ⟨k + 1, hlt, by rw [HF.out], by go_num, HI2⟩
          case measure => simp [intOf]; omega
      · have he2 : (x == n) = false := by simpa using he
        have he3 : (T == TN) = false := by
          have : T ≠ TN := by
            rw [HT.out.it, HTN.out.it]
            exact fun h => he (Dec.itoa_inj h)
          simpa using this
        clear he
        go_wp2_with fail
        go_region_held3 (fun W => W.cell? ⟨b, off + k, none⟩ = some (.int .i64 x) ∧ Hid (BInv w b (off + k) x W))
          (first | exact BInv.cells (BInv.drew (by assumption)) | exact BInv.cells (BInv.call (BInv.limb (by assumption)) (by assumption)))
          (first | (go_at_call 23; refine (HTN.out.tx _ (BInv.good (BInv.limb (by assumption)))).mono ?_; rintro e w' ⟨rfl, hb⟩))
        have HI2 := BInv.fin (by assumption)
        by_cases hk0 : k = 0
        · have HF := Lib.hid (hNX0.out hk0)
          subst hk0
          go_wp2_with fail
          go_roundw
          case rel => exact ⟨1, by omega, by rw [HF.out], rfl, HI2⟩
          case measure => simp [intOf]; omega
        · have HF := Lib.hid (hNX.out (by omega))
          have hk2 : (0 : Int) < (k : Int) := by omega
          go_wp2_with fail
          go_roundw
          case rel => exact ⟨k + 1, hlt, by rw [HF.out], by go_num, HI2⟩
          case measure => simp [intOf]; omega
    · obtain rfl : k = l.length := by omega
      have h5 := fun W hW => nlist_any (jn l l.length) (by omega) W hW
      have hb := Num.list_back (ns := l) HOk.out
      have hj : jn l l.length = Num.joined (l.map Lib.itoa) := by unfold jn; rw [List.take_length]
      rw [← hj] at hb
      obtain ⟨q1, q2⟩ := numsL_some hb
      rw [q1, q2] at h5
      have H5 := Lib.hid h5
      clear h5 hb hj q1 q2 hlt hk
      go_wp2_with fail
      refine (H5.out _ (FInv.good HI)).mono ?_
      rintro e w1 ⟨v1, rfl, o1, b1⟩
      have HI := FInv.call HI b1
      obtain ⟨A1, c1, rfl, r1⟩ := own_slice o1
      have HS := Lib.hid (same_yes l (by omega) A A1 cap c1 w1 ((HR.out.below HI.out.2).more HI.out.2.size) r1)
      clear b1 o1 r1
      go_wp2_with fail
      refine HS.out.mono ?_
      rintro e w2 ⟨rfl, b2⟩
      have HI := FInv.call HI b2
      clear b2 HS
      go_wp2_with fail
      refine (works_any _ (FInv.good HI)).mono ?_
      rintro e w3 ⟨rfl, b⟩
      have HI := FInv.call HI b
      clear b
      go_wp2_with fail
      go_ret
      exact ⟨rfl, HI.out.2⟩
end Go.Proofs.YtdogdpjgkhcndaaDoor

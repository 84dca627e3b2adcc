/-
  LAYER 23: an operand's function; whether a list of instructions is right.
-/
import Derived.Test.YtmmehfkiceelkaaDoorCd5
namespace Go.Proofs.YtmmehfkiceelkaaDoor
open Go.ChangeShapes Go.WideShapes Go.ChangeAt Go.RowKit Go.Shelf

theorem find_right {op : Int} (h : Cd.known op) (hb : Cd.bare op.toNat = false) (w : World) :
    Calls Tryd.prog 31 #[.int .i64 op] w fun e w' => ∃ F bs, e = .returned (.tuple #[.agg #[.string ⟨(Cd.word op.toNat).toArray⟩, .func (.func F) #[] bs, .int .i64 (Cd.pops op.toNat), .int .i64 (Cd.push op.toNat), .bool (jmp op.toNat)], .bool true]) ∧ Below w.heap.size w w' ∧
      (∀ args w, (callFunc F args).run Tryd.prog w = .ok (.enter F args) w) ∧
      ((bs = #[] ∧ ∀ (a n s c : Int) (W : World), Below w'.heap.size w' W → Calls Tryd.prog F #[.int .i64 a, szV n s c] W fun e W' => e = .returned (.bool (Cd.right op a n s c)) ∧ Below W.heap.size W W') ∨
       (∃ x y, bs = #[x, y] ∧ ∀ (a n s c : Int) (W : World), Below w'.heap.size w' W → Calls Tryd.prog F #[.int .i64 a, szV n s c, x, y] W fun e W' => e = .returned (.bool (Cd.right op a n s c)) ∧ Below W.heap.size W W')) := by
  obtain ⟨h1, h2⟩ := h
  rcases (show op = 1 ∨ op = 2 ∨ op = 3 ∨ op = 4 ∨ op = 5 ∨ op = 6 ∨ op = 7 ∨ op = 8 ∨ op = 9 ∨ op = 10 ∨ op = 11 ∨ op = 12 ∨ op = 13 ∨ op = 14 ∨ op = 15 ∨ op = 16 ∨ op = 17 by omega) with rfl | rfl | rfl | rfl | rfl | rfl | rfl | rfl | rfl | rfl | rfl | rfl | rfl | rfl | rfl | rfl | rfl
  · have HS := find_some 1 (by omega) (by omega) w
    rw [show ((1 : Nat) : Int) = 1 from rfl] at HS
    refine HS.mono ?_
    rintro e w' ⟨rfl, hx, hB⟩
    exact ⟨_, _, rfl, hB, enters_of Tryd.func50 (by kernel_rfl) rfl, .inl ⟨rfl, fun a n s c W hW => const_any a n s c W⟩⟩
  · have HS := find_some 2 (by omega) (by omega) w
    rw [show ((2 : Nat) : Int) = 2 from rfl] at HS
    refine HS.mono ?_
    rintro e w' ⟨rfl, hx, hB⟩
    exact ⟨_, _, rfl, hB, enters_of Tryd.func51 (by kernel_rfl) rfl, .inl ⟨rfl, fun a n s c W hW => slot_any a n s c W⟩⟩
  · have HS := find_some 3 (by omega) (by omega) w
    rw [show ((3 : Nat) : Int) = 3 from rfl] at HS
    refine HS.mono ?_
    rintro e w' ⟨rfl, hx, hB⟩
    exact ⟨_, _, rfl, hB, enters_of Tryd.func51 (by kernel_rfl) rfl, .inl ⟨rfl, fun a n s c W hW => slot_any a n s c W⟩⟩
  · have HS := find_some 4 (by omega) (by omega) w
    rw [show ((4 : Nat) : Int) = 4 from rfl] at HS
    refine HS.mono ?_
    rintro e w' ⟨rfl, hx, hB⟩
    exact ⟨_, _, rfl, hB, enters_of Tryd.func65 (by kernel_rfl) rfl, .inr ⟨_, _, rfl, fun a n s c W hW => span1_any a n s c 14 15 _ _ W ((hx 0 14 rfl).call hW) ((hx 1 15 rfl).call hW)⟩⟩
  · have HS := find_some 5 (by omega) (by omega) w
    rw [show ((5 : Nat) : Int) = 5 from rfl] at HS
    refine HS.mono ?_
    rintro e w' ⟨rfl, hx, hB⟩
    exact ⟨_, _, rfl, hB, enters_of Tryd.func65 (by kernel_rfl) rfl, .inr ⟨_, _, rfl, fun a n s c W hW => span1_any a n s c 1 11 _ _ W ((hx 2 1 rfl).call hW) ((hx 3 11 rfl).call hW)⟩⟩
  · have HS := find_some 6 (by omega) (by omega) w
    rw [show ((6 : Nat) : Int) = 6 from rfl] at HS
    refine HS.mono ?_
    rintro e w' ⟨rfl, hx, hB⟩
    exact ⟨_, _, rfl, hB, enters_of Tryd.func53 (by kernel_rfl) rfl, .inl ⟨rfl, fun a n s c W hW => target_any a n s c W⟩⟩
  · have HS := find_some 7 (by omega) (by omega) w
    rw [show ((7 : Nat) : Int) = 7 from rfl] at HS
    refine HS.mono ?_
    rintro e w' ⟨rfl, hx, hB⟩
    exact ⟨_, _, rfl, hB, enters_of Tryd.func53 (by kernel_rfl) rfl, .inl ⟨rfl, fun a n s c W hW => target_any a n s c W⟩⟩
  · have HS := find_some 8 (by omega) (by omega) w
    rw [show ((8 : Nat) : Int) = 8 from rfl] at HS
    refine HS.mono ?_
    rintro e w' ⟨rfl, hx, hB⟩
    exact ⟨_, _, rfl, hB, enters_of Tryd.func51 (by kernel_rfl) rfl, .inl ⟨rfl, fun a n s c W hW => slot_any a n s c W⟩⟩
  · have HS := find_some 9 (by omega) (by omega) w
    rw [show ((9 : Nat) : Int) = 9 from rfl] at HS
    refine HS.mono ?_
    rintro e w' ⟨rfl, hx, hB⟩
    exact ⟨_, _, rfl, hB, enters_of Tryd.func51 (by kernel_rfl) rfl, .inl ⟨rfl, fun a n s c W hW => slot_any a n s c W⟩⟩
  · have HS := find_some 10 (by omega) (by omega) w
    rw [show ((10 : Nat) : Int) = 10 from rfl] at HS
    refine HS.mono ?_
    rintro e w' ⟨rfl, hx, hB⟩
    exact ⟨_, _, rfl, hB, enters_of Tryd.func51 (by kernel_rfl) rfl, .inl ⟨rfl, fun a n s c W hW => slot_any a n s c W⟩⟩
  · cases hb
  · cases hb
  · have HS := find_some 13 (by omega) (by omega) w
    rw [show ((13 : Nat) : Int) = 13 from rfl] at HS
    refine HS.mono ?_
    rintro e w' ⟨rfl, hx, hB⟩
    exact ⟨_, _, rfl, hB, enters_of Tryd.func65 (by kernel_rfl) rfl, .inr ⟨_, _, rfl, fun a n s c W hW => span1_any a n s c 1 2 _ _ W ((hx 4 1 rfl).call hW) ((hx 5 2 rfl).call hW)⟩⟩
  · have HS := find_some 14 (by omega) (by omega) w
    rw [show ((14 : Nat) : Int) = 14 from rfl] at HS
    refine HS.mono ?_
    rintro e w' ⟨rfl, hx, hB⟩
    exact ⟨_, _, rfl, hB, enters_of Tryd.func54 (by kernel_rfl) rfl, .inl ⟨rfl, fun a n s c W hW => callee_any a n s c W⟩⟩
  · cases hb
  · have HS := find_some 16 (by omega) (by omega) w
    rw [show ((16 : Nat) : Int) = 16 from rfl] at HS
    refine HS.mono ?_
    rintro e w' ⟨rfl, hx, hB⟩
    exact ⟨_, _, rfl, hB, enters_of Tryd.func65 (by kernel_rfl) rfl, .inr ⟨_, _, rfl, fun a n s c W hW => span1_any a n s c 0 1 _ _ W ((hx 6 0 rfl).call hW) ((hx 7 1 rfl).call hW)⟩⟩
  · have HS := find_some 17 (by omega) (by omega) w
    rw [show ((17 : Nat) : Int) = 17 from rfl] at HS
    refine HS.mono ?_
    rintro e w' ⟨rfl, hx, hB⟩
    exact ⟨_, _, rfl, hB, enters_of Tryd.func51 (by kernel_rfl) rfl, .inl ⟨rfl, fun a n s c W hW => slot_any a n s c W⟩⟩

/-- An instruction's cells. -/
def iC (x : Int × Int) : List Value := [.int .i64 x.1, .int .i64 x.2]
theorem iC_len (x : Int × Int) : (iC x).length = 2 := rfl
/-- The first instruction that is not right. -/
def chF (l : List (Int × Int)) (s c : Int) : Option Nat := l.findIdx? fun x => !Cd.right x.1 x.2 l.length s c
def chI (l : List (Int × Int)) (s c : Int) : Int := if s < 0 ∨ c < 0 then 0 else ((chF l s c).map fun k => (k : Int)).getD 0
def chE (l : List (Int × Int)) (s c : Int) : Int := if s < 0 ∨ c < 0 then 3 else if (chF l s c).isSome then 2 else 0
theorem ret_ii {k k' : IntKind} {x x' y y' : Int} (h1 : x = x') (h2 : y = y') : Ending.returned (.tuple #[.int k x, .int k' y]) = .returned (.tuple #[.int k x', .int k' y']) := by rw [h1, h2]
theorem bad_at {l : List (Int × Int)} {s c : Int} (hs : 0 ≤ s) (hc : 0 ≤ c) {k : Nat} {op a : Int} (hv : l[k]? = some (op, a)) (ht : ∀ x ∈ l.take k, Cd.right x.1 x.2 l.length s c = true) (hr : Cd.right op a l.length s c = false) :
    chI l s c = (k : Int) ∧ chE l s c = 2 := by
  have hf : chF l s c = some k := by
    unfold chF
    rw [List.findIdx?_eq_some_iff_getElem]
    obtain ⟨hk, e⟩ := List.getElem?_eq_some_iff.1 hv
    refine ⟨hk, by rw [e]; simpa using hr, fun j hj => ?_⟩
    have : l[j] ∈ l.take k := by
      rw [List.mem_take_iff_getElem]
      exact ⟨j, by omega, rfl⟩
    simpa using ht _ this
  unfold chI chE
  rw [if_neg (by omega), if_neg (by omega), hf]
  exact ⟨rfl, rfl⟩
theorem good_at {l : List (Int × Int)} {s c : Int} {k : Nat} {op a : Int} (hv : l[k]? = some (op, a)) (ht : ∀ x ∈ l.take k, Cd.right x.1 x.2 l.length s c = true) (hr : Cd.right op a l.length s c = true) :
    ∀ x ∈ l.take (k + 1), Cd.right x.1 x.2 l.length s c = true := by
  rw [take_snoc hv]
  intro y hy
  rcases List.mem_append.1 hy with hy | hy
  · exact ht y hy
  · rw [List.mem_singleton.1 hy]; exact hr
theorem all_good {l : List (Int × Int)} {s c : Int} (hs : 0 ≤ s) (hc : 0 ≤ c) (ht : ∀ x ∈ l.take l.length, Cd.right x.1 x.2 l.length s c = true) : chI l s c = 0 ∧ chE l s c = 0 := by
  rw [List.take_length] at ht
  have hf : chF l s c = none := by
    unfold chF
    rw [List.findIdx?_eq_none_iff]
    intro x hx
    simpa using ht x hx
  unfold chI chE
  rw [if_neg (by omega), if_neg (by omega), hf]
  exact ⟨rfl, rfl⟩
theorem right_bare {op : Int} (a n s c : Int) (hk : Cd.known op) (hb : Cd.bare op.toNat = true) : Cd.right op a n s c = decide (a = 0) := by
  have h : op = 11 ∨ op = 12 ∨ op = 15 := by
    unfold Cd.bare at hb
    have h : op.toNat = 11 ∨ op.toNat = 12 ∨ op.toNat = 15 := by simpa [or_assoc] using hb
    have := hk.1
    omega
  rcases h with rfl | rfl | rfl <;> rfl
theorem right_none {op : Int} (a n s c : Int) (hk : ¬ Cd.known op) : Cd.right op a n s c = false := by
  unfold Cd.known at hk
  unfold Cd.right
  repeat rw [if_neg (by omega)]

set_option maxRecDepth 100000 in
set_option maxHeartbeats 2000000 in
theorem check_any (l : List (Int × Int)) (A : Option Addr) (cap : Nat) (s c : Int) (hl : l.length ≤ 4611686018427387904) (w : World) (hR : Rd w w.heap.size A (l.flatMap iC)) :
    Calls Tryd.prog 20 #[.slice A l.length cap, .int .i64 s, .int .i64 c] w fun e w' => e = .returned (.tuple #[.int .i64 (chI l s c), .int .i64 (chE l s c)]) ∧ Below w.heap.size w w' := by
  have HR := Lib.hid hR
  clear hR
  by_cases hs : s < 0
  · have e1 : chI l s c = 0 := by unfold chI; rw [if_pos (.inl hs)]
    have e2 : chE l s c = 3 := by unfold chE; rw [if_pos (.inl hs)]
    rw [e1, e2]
    clear e1 e2
    go_enter Tryd.func20, Tryd.ntmps20
    go_wp2_with fail
    go_ret2
    exact ⟨rfl, Below.refl _ _⟩
  by_cases hc : c < 0
  · have e1 : chI l s c = 0 := by unfold chI; rw [if_pos (.inr hc)]
    have e2 : chE l s c = 3 := by unfold chE; rw [if_pos (.inr hc)]
    rw [e1, e2]
    clear e1 e2
    go_enter Tryd.func20, Tryd.ntmps20
    go_wp2_with fail
    go_ret2
    exact ⟨rfl, Below.refl _ _⟩
  have HS1 := Lib.hid (show 0 ≤ s by omega)
  have HS2 := Lib.hid (show 0 ≤ c by omega)
  obtain ⟨RI, hRI⟩ : ∃ r, chI l s c = r := ⟨_, rfl⟩
  obtain ⟨RE, hRE⟩ : ∃ r, chE l s c = r := ⟨_, rfl⟩
  rw [hRI, hRE]
  have HRI := Lib.hid hRI
  have HRE := Lib.hid hRE
  clear hRI hRE
  have HB0 := Lib.hid (below_new (Below.refl w.heap.size w) (.cells #[.int .i64 l.length, .int .i64 s, .int .i64 c] 88))
  have HZ0 := Lib.hid (Blk.new w 88 #[.int .i64 l.length, .int .i64 s, .int .i64 c])
  have q1 := eq_func
  have q2 := eq_nil
  have q3 := ne_func
  have q4 := ne_nil
  go_enter Tryd.func20, Tryd.ntmps20
  go_wp2_with fail
  go_loopw [26] (fun i wr => ∃ k : Nat, k ≤ l.length ∧ i = .int .i64 k ∧ Hid (Below w.heap.size w wr) ∧ Hid (Blk wr w.heap.size 88 #[.int .i64 l.length, .int .i64 s, .int .i64 c]) ∧ Hid (∀ x ∈ l.take k, Cd.right x.1 x.2 l.length s c = true)) (fun i _ => l.length - (intOf i).toNat)
  case atStart => exact ⟨0, Nat.zero_le _, rfl, HB0, HZ0, Lib.hid (by simp)⟩
  case round =>
    obtain ⟨k, hk, rfl, HB, HZ, HT⟩ := hrel
    by_cases hlt : k < l.length
    · obtain ⟨⟨op, a⟩, hv⟩ : ∃ v, l[k]? = some v := ⟨_, List.getElem?_eq_getElem hlt⟩
      obtain ⟨b1, o1, rfl, _, hc1⟩ := (HR.out.below HB.out).row (fun _ _ => iC_len _) hv (by decide)
      have x0 : wr.cell? ⟨b1, o1 + k * 2, none⟩ = some (.int .i64 op) := hc1 0 _ rfl
      have x1 : wr.cell? ⟨b1, o1 + k * 2 + 1, none⟩ = some (.int .i64 a) := hc1 1 _ rfl
      have j1 : (0 : Int) ≤ (k : Int) := by omega
      have j3 : (k : Int) < (l.length : Int) := by omega
      have j4 : (k : Int) + 1 ≤ 9223372036854775807 := by omega
      clear hc1
      by_cases hkn : Cd.known op
      · rcases hb : Cd.bare op.toNat with _ | _
        · have HF := Lib.hid fun W => find_right hkn hb W
          have hW : Hid (∃ R, Cd.word op.toNat = R) := Lib.hid ⟨_, rfl⟩
          obtain ⟨WD, hWD⟩ := hW.out
          obtain ⟨J, hJ⟩ : ∃ R, jmp op.toNat = R := ⟨_, rfl⟩
          obtain ⟨PO, hPO⟩ : ∃ R, Cd.pops op.toNat = R := ⟨_, rfl⟩
          obtain ⟨PU, hPU⟩ : ∃ R, Cd.push op.toNat = R := ⟨_, rfl⟩
          rw [hWD, hPO, hPU, hJ] at HF
          clear hW hWD hPO hPU hJ hb hkn
          go_wp2_with fail
          refine (HF.out _).mono ?_
          rintro e w2 ⟨F, bs, rfl, hb, hE, hR⟩
          have HB1 := Lib.hid (below_new HB.out (.cells #[.int .i64 op, .int .i64 a] 23))
          have HZ3 := Lib.hid ((HZ.out.alloc (.cells #[.int .i64 op, .int .i64 a] 23)).call hb)
          have HB3 := Lib.hid (below_call HB1.out hb)
          have hi3 := (Blk.new wr 23 #[.int .i64 op, .int .i64 a]).call hb
          have i1 := (hi3.alloc (.cells #[.string ⟨WD.toArray⟩, .func (.func F) #[] bs, .int .i64 PO, .int .i64 PU, .bool J] 67)).cell 1
          have HZ4 := Lib.hid (HZ3.out.alloc (.cells #[.string ⟨WD.toArray⟩, .func (.func F) #[] bs, .int .i64 PO, .int .i64 PU, .bool J] 67))
          clear hb hi3
          rcases hR with ⟨rfl, hX⟩ | ⟨xx, yy, rfl, hX⟩
          · skip
            have HX := Lib.hid hX
            clear hX
            have z0 := HZ4.out.cell 0
            have z1 := HZ4.out.cell 1
            have z2 := HZ4.out.cell 2
            have j9 := ne_func (.func F) #[] #[]
            go_wp2_with fail
            refine (HX.out a l.length s c _ (below_new (Below.refl _ _) _)).mono ?_
            rintro e w4 ⟨rfl, hb⟩
            have HB4 := Lib.hid (below_call (below_new HB3.out (.cells #[.string ⟨WD.toArray⟩, .func (.func F) #[] #[], .int .i64 PO, .int .i64 PU, .bool J] 67)) hb)
            have HZ5 := Lib.hid (HZ4.out.call hb)
            clear hb i1 z0 z1 z2 HX HF hE
            rcases hr : Cd.right op a l.length s c with _ | _
            · have HE := Lib.hid (bad_at HS1.out HS2.out hv HT.out hr)
              clear hv hr
              go_wp2_with fail
              go_ret2
              exact ⟨ret_ii (HE.out.1.symm.trans HRI.out) (HE.out.2.symm.trans HRE.out), HB4.out⟩
            · have HT2 := Lib.hid (good_at hv HT.out hr)
              clear hv hr
              have HB5 := HB4
              go_wp2_with fail
              go_roundw
              case rel => exact ⟨k + 1, by omega, by go_num, HB5, HZ5, HT2⟩
              case measure => simp [intOf]; omega
          · skip
            have HX := Lib.hid hX
            clear hX
            have z0 := HZ4.out.cell 0
            have z1 := HZ4.out.cell 1
            have z2 := HZ4.out.cell 2
            have j9 := ne_func (.func F) #[] #[xx, yy]
            go_wp2_with fail
            refine (HX.out a l.length s c _ (below_new (Below.refl _ _) _)).mono ?_
            rintro e w4 ⟨rfl, hb⟩
            have HB4 := Lib.hid (below_call (below_new HB3.out (.cells #[.string ⟨WD.toArray⟩, .func (.func F) #[] #[xx, yy], .int .i64 PO, .int .i64 PU, .bool J] 67)) hb)
            have HZ5 := Lib.hid (HZ4.out.call hb)
            clear hb i1 z0 z1 z2 HX HF hE
            rcases hr : Cd.right op a l.length s c with _ | _
            · have HE := Lib.hid (bad_at HS1.out HS2.out hv HT.out hr)
              clear hv hr
              go_wp2_with fail
              go_ret2
              exact ⟨ret_ii (HE.out.1.symm.trans HRI.out) (HE.out.2.symm.trans HRE.out), HB4.out⟩
            · have HT2 := Lib.hid (good_at hv HT.out hr)
              clear hv hr
              have HB5 := HB4
              go_wp2_with fail
              go_roundw
              case rel => exact ⟨k + 1, by omega, by go_num, HB5, HZ5, HT2⟩
              case measure => simp [intOf]; omega
        · have HF := Lib.hid fun W => find_bare hkn hb W
          have hrt := right_bare a l.length s c hkn hb
          have hW : Hid (∃ R, Cd.word op.toNat = R) := Lib.hid ⟨_, rfl⟩
          obtain ⟨WD, hWD⟩ := hW.out
          obtain ⟨J, hJ⟩ : ∃ R, jmp op.toNat = R := ⟨_, rfl⟩
          obtain ⟨PO, hPO⟩ : ∃ R, Cd.pops op.toNat = R := ⟨_, rfl⟩
          obtain ⟨PU, hPU⟩ : ∃ R, Cd.push op.toNat = R := ⟨_, rfl⟩
          rw [hWD, hPO, hPU, hJ] at HF
          clear hW hWD hPO hPU hJ hb hkn
          go_wp2_with fail
          refine (HF.out _).mono ?_
          rintro e w2 ⟨rfl, hb⟩
          have HB1 := Lib.hid (below_new HB.out (.cells #[.int .i64 op, .int .i64 a] 23))
          have HZ3 := Lib.hid ((HZ.out.alloc (.cells #[.int .i64 op, .int .i64 a] 23)).call hb)
          have HB3 := Lib.hid (below_call HB1.out hb)
          have hi3 := (Blk.new wr 23 #[.int .i64 op, .int .i64 a]).call hb
          have i1 := (hi3.alloc (.cells #[.string ⟨WD.toArray⟩, .nilFunc, .int .i64 PO, .int .i64 PU, .bool J] 67)).cell 1
          have HZ4 := Lib.hid (HZ3.out.alloc (.cells #[.string ⟨WD.toArray⟩, .nilFunc, .int .i64 PO, .int .i64 PU, .bool J] 67))
          clear hb hi3
          by_cases ha : a = 0
          · have HT2 := Lib.hid (good_at hv HT.out (hrt.trans (decide_eq_true ha)))
            clear hrt hv
            subst ha
            have HB5 := Lib.hid (below_new HB3.out (.cells #[.string ⟨WD.toArray⟩, .nilFunc, .int .i64 PO, .int .i64 PU, .bool J] 67))
            go_wp2_with fail
            go_roundw
            case rel => exact ⟨k + 1, by omega, by go_num, HB5, HZ4, HT2⟩
            case measure => simp [intOf]; omega
          · have HE := Lib.hid (bad_at HS1.out HS2.out hv HT.out (hrt.trans (decide_eq_false ha)))
            clear hrt hv
            go_wp2_with fail
            go_ret2
            exact ⟨ret_ii (HE.out.1.symm.trans HRI.out) (HE.out.2.symm.trans HRE.out), below_new HB3.out _⟩
      · have HF := Lib.hid fun W => find_zero hkn W
        have HE := Lib.hid (bad_at HS1.out HS2.out hv HT.out (right_none a l.length s c hkn))
        clear hv hkn
        go_wp2_with fail
        refine (HF.out _).mono ?_
        rintro e w2 ⟨rfl, hb⟩
        have HB1 := Lib.hid (below_new HB.out (.cells #[.int .i64 op, .int .i64 a] 23))
        have HB3 := Lib.hid (below_call HB1.out hb)
        clear hb
        go_wp2_with fail
        go_ret2
        exact ⟨ret_ii (HE.out.1.symm.trans HRI.out) (HE.out.2.symm.trans HRE.out), below_new HB3.out _⟩
    · obtain rfl : k = l.length := by omega
      have HE := Lib.hid (all_good HS1.out HS2.out HT.out)
      go_wp2_with fail
      go_ret2
      exact ⟨ret_ii (HE.out.1.symm.trans HRI.out) (HE.out.2.symm.trans HRE.out), HB.out⟩
end Go.Proofs.YtmmehfkiceelkaaDoor

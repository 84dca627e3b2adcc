/-
  LAYER 2: what is decoded has the string that was decoded: the statement's walk.
-/
import Derived.Test.YtdogdpjgkhcndaaDoorNumE
namespace Go.Proofs.YtdogdpjgkhcndaaDoor
open Go.ChangeShapes Go.WideShapes Go.ChangeAt Go.RowKit

set_option maxHeartbeats 4000000 in
set_option maxRecDepth 100000 in
theorem numberReads_walk (s : ByteArray) (_ : s.size ≤ maxLen) (w : World) (hG : Good w) :
    Calls Tryd.prog 9 #[.string s] w fun e w' => e = .returned (.bool true) ∧ Below w.heap.size w w' := by
  obtain ⟨l, rfl⟩ : ∃ l : List UInt8, s = ⟨l.toArray⟩ := ⟨s.data.toList, rfl⟩
  have HI : Hid (FInv w w) := Lib.hid ⟨hG, Below.refl _ _⟩
  clear hG
  by_cases hbig : 300 < l.length
  · go_enter Tryd.func9, Tryd.ntmps9
    go_wp2_with fail
    refine (works_any _ (FInv.good HI)).mono ?_
    rintro e w1 ⟨rfl, b⟩
    have HI := FInv.call HI b
    clear b
    go_wp2_with fail
    go_ret
    exact ⟨rfl, HI.out.2⟩
  have h1 := fun W hW => nparse_any l (by omega) W hW
  have h2 := fun W hW => nlist_any l (by omega) W hW
  have hll : (l == l) = true := by simp
  cases hq : Num.list l with
  | none =>
    obtain ⟨p1, p2⟩ := errP_none (Num.list_none hq)
    obtain ⟨q1, q2⟩ := numsL_none hq
    rw [p1, p2] at h1
    rw [q1, q2] at h2
    have H1 := Lib.hid h1
    have H2 := Lib.hid h2
    clear h1 h2 p1 p2 q1 q2 hq
    go_enter Tryd.func9, Tryd.ntmps9
    go_wp2_with fail
    refine (H1.out _ (FInv.good HI)).mono ?_
    rintro e w1 ⟨rfl, b⟩
    have HI := FInv.call HI b
    clear b
    go_wp2_with fail
    refine (H2.out _ (FInv.good HI)).mono ?_
    rintro e w2 ⟨v, rfl, o, b⟩
    have HI := FInv.call HI b
    obtain ⟨A, cp, rfl, _⟩ := own_slice o
    clear b o
    go_wp2_with fail
    refine (works_any _ (FInv.good HI)).mono ?_
    rintro e w3 ⟨rfl, b⟩
    have HI := FInv.call HI b
    clear b
    go_wp2_with fail
    go_ret
    exact ⟨rfl, HI.out.2⟩
  | some ns =>
    obtain ⟨r1, r2, r3, r4⟩ := Num.list_reads hq
    obtain ⟨q1, q2⟩ := numsL_some hq
    rw [q1, q2] at h2
    have HJ : Hid (jn ns ns.length = l) := Lib.hid (by unfold jn; rw [List.take_length]; exact r1)
    have HOk : Hid (∀ x ∈ ns, okI x) := Lib.hid r2
    have H2 := Lib.hid h2
    cases hp : Num.parse l with
    | some n =>
      obtain ⟨p1, p2⟩ := errP_some hp
      obtain ⟨t1, t2, t3⟩ := Num.parse_iff.1 hp
      rw [hp] at r3
      have hlen : ns.length = 1 := r3.1 rfl
      have h3 := fun W hW => ntext_any n t2 t3 W hW
      rw [t1] at h3
      rw [p1, p2] at h1
      have H1 := Lib.hid h1
      have H3 := Lib.hid h3
      have hn1 : ((ns.length : Int) == 1) = true := by simp; omega
      clear h1 h2 h3 p1 p2 q1 q2 hq hp r1 r2 r3 t1 t2 t3 hlen
      go_enter Tryd.func9, Tryd.ntmps9
      go_wp2_with fail
      refine (H1.out _ (FInv.good HI)).mono ?_
      rintro e w1 ⟨rfl, b⟩
      have HI := FInv.call HI b
      clear b
      go_wp2_with fail
      refine (H3.out _ (FInv.good HI)).mono ?_
      rintro e w2 ⟨rfl, b⟩
      have HI := FInv.call HI b
      clear b
      go_wp2_with fail
      refine (H2.out _ (FInv.good HI)).mono ?_
      rintro e w3 ⟨v, rfl, o, b⟩
      have HI := FInv.call HI b
      obtain ⟨A, cp, rfl, r⟩ := own_slice o
      have HR := Lib.hid r
      clear b o r
      go_wp2_with fail
      go_loopw [7, 8] (fun s i wr => ∃ (k : Nat), k ≤ ns.length ∧ s = .string ⟨(jn ns k).toArray⟩ ∧ i = .int .i64 k ∧ Hid (FInv w wr) ∧ Hid (Rd wr w3.heap.size A (ints ns)) ∧ w3.heap.size ≤ wr.heap.size) (fun _ i _ => ns.length - (intOf i).toNat)
      case atStart => exact ⟨0, Nat.zero_le _, rfl, rfl, HI, HR, Nat.le_refl _⟩
      case round =>
        obtain ⟨k, hk, rfl, rfl, HI, HR, hsz⟩ := hrel
        have hjl := jn_len HOk.out k hk
        by_cases hlt : k < ns.length
        · obtain ⟨x, hx⟩ : ∃ x, ns[k]? = some x := ⟨_, List.getElem?_eq_getElem hlt⟩
          have hxo := HOk.out x (List.mem_of_getElem? hx)
          obtain ⟨T, hT⟩ := elt_of hxo
          obtain ⟨b, off, rfl, hbB, c0⟩ := ints_at HR.out hx
          have hl2 := hT.l2
          have HT := Lib.hid hT
          have k0 : (0 : Int) ≤ (k : Int) := by omega
          have k1 : (k : Int) < (ns.length : Int) := by omega
          have l1 : ¬ 9223372036854775807 < (jn ns k).length + 1 := by omega
          have l2 : ¬ 9223372036854775807 < (jn ns k).length + 1 + T.length := by omega
          have l3 : ¬ 9223372036854775807 < (jn ns k).length + T.length := by omega
          by_cases hk0 : k = 0
          · have HF : Hid ((⟨(jn ns k).toArray⟩ ++ ⟨T.toArray⟩ : ByteArray) = ⟨(jn ns (k + 1)).toArray⟩) := Lib.hid (by
              subst hk0
              rw [jn_one hx, ← HT.out.it, ByteArray.mk_append_mk]
              rfl)
            subst hk0
            have c0 : wr.cell? ⟨b, off, none⟩ = some (.int .i64 x) := by simpa using c0
            clear hx hT hxo
            go_wp2_with fail
            refine (HT.out.tx _ (FInv.good HI)).mono ?_
            rintro e w4 ⟨rfl, b4⟩
            have HI := FInv.call HI b4
            have HR := Lib.hid (HR.out.keep (w' := w4) fun p hp => b4.cell (Nat.lt_of_lt_of_le hp hsz))
            have hsz4 := Nat.le_trans hsz b4.size
            clear b4 c0
            go_wp2_with fail
            go_roundw
            case rel => exact ⟨1, by omega, by rw [HF.out], rfl, HI, HR, hsz4⟩
            case measure => simp [intOf]; omega
          · have HF : Hid ((⟨(jn ns k).toArray⟩ ++ ⟨#[44]⟩ ++ ⟨T.toArray⟩ : ByteArray) = ⟨(jn ns (k + 1)).toArray⟩) := Lib.hid (by
              rw [jn_succ hx (by omega), ← HT.out.it, show (⟨#[44]⟩ : ByteArray) = ⟨[44].toArray⟩ from rfl, ByteArray.mk_append_mk, ByteArray.mk_append_mk])
            have hk2 : (0 : Int) < (k : Int) := by omega
            clear hx hT hxo
            go_wp2_with fail
            refine (HT.out.tx _ (FInv.good HI)).mono ?_
            rintro e w4 ⟨rfl, b4⟩
            have HI := FInv.call HI b4
            have HR := Lib.hid (HR.out.keep (w' := w4) fun p hp => b4.cell (Nat.lt_of_lt_of_le hp hsz))
            have hsz4 := Nat.le_trans hsz b4.size
            clear b4 c0
            go_wp2_with fail
            go_roundw
            case rel => exact ⟨k + 1, hlt, by rw [HF.out], by go_num, HI, HR, hsz4⟩
            case measure => simp [intOf]; omega
        · obtain rfl : k = ns.length := by omega
          have HJ2 := HJ
          rw [HJ.out]
          clear HR hlt hk HJ hjl
          go_wp2_with fail
          refine (works_any _ (FInv.good HI)).mono ?_
          rintro e w5 ⟨rfl, b⟩
          have HI := FInv.call HI b
          clear b
          go_wp2_with fail
          go_ret
          exact ⟨rfl, HI.out.2⟩
    | none =>
      obtain ⟨p1, p2⟩ := errP_none hp
      rw [hp] at r3
      have hlen : ¬ ns.length = 1 := fun h => by
        have := r3.2 h
        cases this
      rw [p1, p2] at h1
      have H1 := Lib.hid h1
      have hn1 : ((ns.length : Int) == 1) = false := by simp; omega
      clear h1 h2 p1 p2 q1 q2 hq hp r1 r2 r3 hlen
      go_enter Tryd.func9, Tryd.ntmps9
      go_wp2_with fail
      refine (H1.out _ (FInv.good HI)).mono ?_
      rintro e w1 ⟨rfl, b⟩
      have HI := FInv.call HI b
      clear b
      go_wp2_with fail
      refine (H2.out _ (FInv.good HI)).mono ?_
      rintro e w3 ⟨v, rfl, o, b⟩
      have HI := FInv.call HI b
      obtain ⟨A, cp, rfl, r⟩ := own_slice o
      have HR := Lib.hid r
      clear b o r
      go_wp2_with fail
      go_loopw [7, 8] (fun s i wr => ∃ (k : Nat), k ≤ ns.length ∧ s = .string ⟨(jn ns k).toArray⟩ ∧ i = .int .i64 k ∧ Hid (FInv w wr) ∧ Hid (Rd wr w3.heap.size A (ints ns)) ∧ w3.heap.size ≤ wr.heap.size) (fun _ i _ => ns.length - (intOf i).toNat)
      case atStart => exact ⟨0, Nat.zero_le _, rfl, rfl, HI, HR, Nat.le_refl _⟩
      case round =>
        obtain ⟨k, hk, rfl, rfl, HI, HR, hsz⟩ := hrel
        have hjl := jn_len HOk.out k hk
        by_cases hlt : k < ns.length
        · obtain ⟨x, hx⟩ : ∃ x, ns[k]? = some x := ⟨_, List.getElem?_eq_getElem hlt⟩
          have hxo := HOk.out x (List.mem_of_getElem? hx)
          obtain ⟨T, hT⟩ := elt_of hxo
          obtain ⟨b, off, rfl, hbB, c0⟩ := ints_at HR.out hx
          have hl2 := hT.l2
          have HT := Lib.hid hT
          have k0 : (0 : Int) ≤ (k : Int) := by omega
          have k1 : (k : Int) < (ns.length : Int) := by omega
          have l1 : ¬ 9223372036854775807 < (jn ns k).length + 1 := by omega
          have l2 : ¬ 9223372036854775807 < (jn ns k).length + 1 + T.length := by omega
          have l3 : ¬ 9223372036854775807 < (jn ns k).length + T.length := by omega
          by_cases hk0 : k = 0
          · have HF : Hid ((⟨(jn ns k).toArray⟩ ++ ⟨T.toArray⟩ : ByteArray) = ⟨(jn ns (k + 1)).toArray⟩) := Lib.hid (by
              subst hk0
              rw [jn_one hx, ← HT.out.it, ByteArray.mk_append_mk]
              rfl)
            subst hk0
            have c0 : wr.cell? ⟨b, off, none⟩ = some (.int .i64 x) := by simpa using c0
            clear hx hT hxo
            go_wp2_with fail
            refine (HT.out.tx _ (FInv.good HI)).mono ?_
            rintro e w4 ⟨rfl, b4⟩
            have HI := FInv.call HI b4
            have HR := Lib.hid (HR.out.keep (w' := w4) fun p hp => b4.cell (Nat.lt_of_lt_of_le hp hsz))
            have hsz4 := Nat.le_trans hsz b4.size
            clear b4 c0
            go_wp2_with fail
            go_roundw
            case rel => exact ⟨1, by omega, by rw [HF.out], rfl, HI, HR, hsz4⟩
            case measure => simp [intOf]; omega
          · have HF : Hid ((⟨(jn ns k).toArray⟩ ++ ⟨#[44]⟩ ++ ⟨T.toArray⟩ : ByteArray) = ⟨(jn ns (k + 1)).toArray⟩) := Lib.hid (by
              rw [jn_succ hx (by omega), ← HT.out.it, show (⟨#[44]⟩ : ByteArray) = ⟨[44].toArray⟩ from rfl, ByteArray.mk_append_mk, ByteArray.mk_append_mk])
            have hk2 : (0 : Int) < (k : Int) := by omega
            clear hx hT hxo
            go_wp2_with fail
            refine (HT.out.tx _ (FInv.good HI)).mono ?_
            rintro e w4 ⟨rfl, b4⟩
            have HI := FInv.call HI b4
            have HR := Lib.hid (HR.out.keep (w' := w4) fun p hp => b4.cell (Nat.lt_of_lt_of_le hp hsz))
            have hsz4 := Nat.le_trans hsz b4.size
            clear b4 c0
            go_wp2_with fail
            go_roundw
            case rel => exact ⟨k + 1, hlt, by rw [HF.out], by go_num, HI, HR, hsz4⟩
            case measure => simp [intOf]; omega
        · obtain rfl : k = ns.length := by omega
          have HJ2 := HJ
          rw [HJ.out]
          clear HR hlt hk HJ hjl
          go_wp2_with fail
          refine (works_any _ (FInv.good HI)).mono ?_
          rintro e w5 ⟨rfl, b⟩
          have HI := FInv.call HI b
          clear b
          go_wp2_with fail
          go_ret
          exact ⟨rfl, HI.out.2⟩
end Go.Proofs.YtdogdpjgkhcndaaDoor

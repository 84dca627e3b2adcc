/-
  LAYER 2: strings of numbers, and what strings are decoded to, are the document's: the statement's walk.
-/
import Derived.Test.YtdogdpjgkhcndaaDoorNum5
namespace Go.Proofs.YtdogdpjgkhcndaaDoor
open Go.ChangeShapes Go.WideShapes Go.ChangeAt Go.RowKit

theorem numsL_len (l : List UInt8) : (numsL l).length ≤ l.length + 1 := by
  cases h : Num.list l with
  | none => rw [(numsL_none h).1]; simp
  | some ns => rw [(numsL_some h).1]; exact (Num.list_reads h).2.2.2

set_option maxHeartbeats 1000000 in
theorem numberTexts_walk (n : Int) (n0 : -9223372036854775808 ≤ n) (n1 : n ≤ 9223372036854775807) (s : ByteArray) (_ : s.size ≤ maxLen) (w : World) (hG : Good w) :
    Calls Tryd.prog 7 #[.int .i64 n, .string s] w fun e w' => e = .returned (.bool true) ∧ Below w.heap.size w w' := by
  obtain ⟨l, rfl⟩ : ∃ l : List UInt8, s = ⟨l.toArray⟩ := ⟨s.data.toList, rfl⟩
  have HI : Hid (FInv w w) := Lib.hid ⟨hG, Below.refl _ _⟩
  clear hG
  by_cases hbig : 1000 < l.length
  · go_enter Tryd.func7, Tryd.ntmps7
    go_wp2_with fail
    refine (works_any _ (FInv.good HI)).mono ?_
    rintro e w1 ⟨rfl, b⟩
    have HI := FInv.call HI b
    clear b
    go_wp2_with fail
    go_ret
    exact ⟨rfl, HI.out.2⟩
  · have h1 := fun W hW => nparse_any l (by omega) W hW
    have h2 := fun W => rparse_any l (by omega) W
    have h3 := fun W hW => nlist_any l (by omega) W hW
    have h4 := fun W => rlist_any l (by omega) W
    have h5 := fun W hW => ntext_any n n0 n1 W hW
    have h6 := fun W => rntext_any n n0 n1 W
    have hlen := numsL_len l
    generalize Num.numP l = X at h1 h2
    generalize errP l = E at h1 h2
    generalize numsL l = NS at h3 h4 hlen
    generalize errL l = F at h3 h4
    generalize Lib.itoa n = T at h5 h6
    have H1 := Lib.hid h1
    have H2 := Lib.hid h2
    have H3 := Lib.hid h3
    have H4 := Lib.hid h4
    have H5 := Lib.hid h5
    have H6 := Lib.hid h6
    clear h1 h2 h3 h4 h5 h6
    go_enter Tryd.func7, Tryd.ntmps7
    go_wp2_with fail
    refine (H1.out _ (FInv.good HI)).mono ?_
    rintro e w1 ⟨rfl, b⟩
    have HI := FInv.call HI b
    clear b
    go_wp2_with fail
    refine (H2.out _).mono ?_
    rintro e w2 ⟨rfl, rfl⟩
    go_wp2_with fail
    refine (H3.out _ (FInv.good HI)).mono ?_
    rintro e w3 ⟨v3, rfl, o3, b⟩
    have HI := FInv.call HI b
    obtain ⟨A3, k3, rfl, r3⟩ := own_slice o3
    clear b o3
    go_wp2_with fail
    refine (H4.out _).mono ?_
    rintro e w4 ⟨v4, rfl, o4, b⟩
    have HI := FInv.call HI b
    have R3 := Lib.hid ((r3.below b).more b.size)
    obtain ⟨A4, k4, rfl, r4⟩ := own_slice o4
    have R4 := Lib.hid r4
    clear b o4 r3 r4
    go_wp2_with fail
    refine (H5.out _ (FInv.good HI)).mono ?_
    rintro e w5 ⟨rfl, b⟩
    have HI := FInv.call HI b
    have R3 := Lib.hid ((R3.out.below b).more b.size)
    have R4 := Lib.hid ((R4.out.below b).more b.size)
    clear b
    go_wp2_with fail
    refine (H6.out _).mono ?_
    rintro e w6 ⟨rfl, rfl⟩
    go_wp2_with fail
    have hs := same_any NS NS (by omega) (by omega) A3 A4 k3 k4 _ R3.out R4.out
    rw [decide_eq_true (rfl : NS = NS)] at hs
    refine hs.mono ?_
    rintro e w7 ⟨rfl, b⟩
    have HI := FInv.call HI b
    clear b R3 R4 hs
    go_wp2_with fail
    refine (works_any _ (FInv.good HI)).mono ?_
    rintro e w8 ⟨rfl, b⟩
    have HI := FInv.call HI b
    clear b
    go_wp2_with fail
    go_ret
    exact ⟨rfl, HI.out.2⟩
end Go.Proofs.YtdogdpjgkhcndaaDoor

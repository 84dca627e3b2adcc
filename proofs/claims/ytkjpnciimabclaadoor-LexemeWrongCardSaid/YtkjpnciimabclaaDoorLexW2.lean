/-
  LAYER 4: where something stands that begins no token, the text is wrong, at this offset: the statement's walk.
-/
import Derived.Test.YtkjpnciimabclaaDoorLexK5
import Derived.Test.YtkjpnciimabclaaDoorLexW1
namespace Go.Proofs.YtkjpnciimabclaaDoor
open Go.ChangeShapes Go.WideShapes Go.ChangeAt Go.RowKit

def WInv (w : World) (b o : Nat) (p : Pc) (W : World) : Prop := FInv w W ∧ PcAt W b o p
theorem WInv.cells {w W : World} {b o : Nat} {pk pn pg pb : Int} (h : Hid (WInv w b o (pk, pn, pg, pb) W)) : W.cell? ⟨b, o, none⟩ = some (.int .u8 pk) ∧ W.cell? ⟨b, o + 1, none⟩ = some (.int .u8 pn) ∧ W.cell? ⟨b, o + 2, none⟩ = some (.int .u8 pg) ∧ W.cell? ⟨b, o + 3, none⟩ = some (.int .u64 pb) ∧ Hid (WInv w b o (pk, pn, pg, pb) W) :=
  ⟨h.out.2.2 0 _ rfl, h.out.2.2 1 _ rfl, h.out.2.2 2 _ rfl, h.out.2.2 3 _ rfl, h⟩
theorem WInv.call {w W W' : World} {b o : Nat} {p : Pc} (h : Hid (WInv w b o p W)) (hb : Below W.heap.size W W') : Hid (WInv w b o p W') := Lib.hid ⟨(FInv.call (Lib.hid h.out.1) hb).out, (PcAt.call (Lib.hid h.out.2) hb).out⟩
theorem WInv.drew {w W : World} {b o : Nat} {p : Pc} (h : Hid (WInv w b o p W)) : Hid (WInv w b o p W.drew) := Lib.hid ⟨(FInv.drew (Lib.hid h.out.1)).out, h.out.2⟩
theorem WInv.good {w W : World} {b o : Nat} {p : Pc} (h : Hid (WInv w b o p W)) : Good W := h.out.1.1
theorem WInv.limb {p0 p1 p2 p3 q : Prop} (h : p0 ∧ p1 ∧ p2 ∧ p3 ∧ q) : q := h.2.2.2.2

theorem WInv.fin {p0 p1 p2 p3 : Prop} {w W : World} {b o : Nat} {p : Pc} (h : p0 ∧ p1 ∧ p2 ∧ p3 ∧ Hid (WInv w b o p W)) : Hid (FInv w W) := Lib.hid h.2.2.2.2.out.1

theorem wrong_text {is : List Lex.Item} {x : List UInt8} (h : Lex.Items is) (hx : x ≠ []) (h0 : (Lex.first x).1 = 0) (h1 : Lex.rest false x = x) : wrongB (Lex.txt is [] ++ [10] ++ x) ((Lex.txt is []).length + 1) = true := by
  have h2 := Lex.wrong_back (is := is) (e := 10 :: x) (x := x) (fun i hi => ⟨(gaps_ok _ (h i hi).1).1, (h i hi).2.1⟩) (fun i hi => (gaps_ok _ (h i (List.mem_of_mem_tail hi)).1).2.1) (by rw [Lex.rest_white (by decide), h1]) hx h0 (.inr ⟨10, x, rfl, by decide⟩)
  rw [Lex.txt_end] at h2
  rw [List.append_assoc]
  refine wrongB_of ?_
  show Lex.scan (Lex.txt is [] ++ 10 :: x) = _
  rw [h2]
  congr 1
  simp
  omega

theorem wrong_at_ {l : List UInt8} {a : Int} {w : World} {s : ByteArray} {R : Ending → World → Prop} (h : Calls Tryd.prog 20 #[.string ⟨l.toArray⟩, .int .i64 a] w R) (hs : s = ⟨l.toArray⟩) : Calls Tryd.prog 20 #[.string s, .int .i64 a] w R := by
  rw [hs]
  exact h
theorem cat4 (a b c d : List UInt8) : (⟨a.toArray⟩ ++ ⟨b.toArray⟩ ++ ⟨c.toArray⟩ ++ ⟨d.toArray⟩ : ByteArray) = ⟨(a ++ b ++ (c ++ d)).toArray⟩ := by
  rw [ByteArray.mk_append_mk, ByteArray.mk_append_mk, ByteArray.mk_append_mk, List.append_assoc (a ++ b)]
theorem cat5 (a b c1 c2 d : List UInt8) : (⟨a.toArray⟩ ++ ⟨b.toArray⟩ ++ (⟨c1.toArray⟩ ++ ⟨c2.toArray⟩) ++ ⟨d.toArray⟩ : ByteArray) = ⟨(a ++ b ++ (c1 ++ c2 ++ d)).toArray⟩ := by
  rw [ByteArray.mk_append_mk c1, cat4]
theorem tok_field (K : Int) (S : ByteArray) (w : World) : (Instr.field 32 (.agg #[.int .i64 K, .string S, .int .i64 0]) 1).run Tryd.prog w = .ok (.string S) w := by
  show _ = _
  kernel_rfl

set_option maxHeartbeats 8000000 in
set_option maxRecDepth 100000 in
theorem lexemeWrong_walk (w : World) (A : Option Addr) (cap : Nat) (l : List Pc) (_ : l.length ≤ cap) (_ : cap ≤ maxLen) (hg : ∀ x ∈ l, Pc.Ok x) (hrd : Rd w w.heap.size A (l.flatMap cellsP)) (more : ByteArray) (_ : more.size ≤ maxLen) (what : Int) (l0 : 0 ≤ what) (l1 : what ≤ 255) (hG : Good w) :
    Calls Tryd.prog 7 #[.slice A l.length cap, .string more, .int .u8 what] w fun e w' => e = .returned (.bool true) ∧ Below w.heap.size w w' := by
  obtain ⟨ms, rfl⟩ : ∃ ms : List UInt8, more = ⟨ms.toArray⟩ := ⟨more.data.toList, rfl⟩
  have HI : Hid (FInv w w) := Lib.hid ⟨hG, Below.refl _ _⟩
  have HR := Lib.hid hrd
  have HOk := Lib.hid hg
  clear hG hrd hg
  by_cases hbig : 20 < l.length
  · go_enter Tryd.func7, Tryd.ntmps7
    go_wp2_with fail
    refine (works_any _ (FInv.good HI)).mono ?_
    rintro e w1 ⟨rfl, b⟩
    have HI := FInv.call HI b
    clear b
    go_wp2_with fail
    go_ret
    exact ⟨rfl, HI.out.2⟩
  by_cases hbig2 : 100 < ms.length
  · go_enter Tryd.func7, Tryd.ntmps7
    go_wp2_with fail
    refine (works_any _ (FInv.good HI)).mono ?_
    rintro e w1 ⟨rfl, b⟩
    have HI := FInv.call HI b
    clear b
    go_wp2_with fail
    go_ret
    exact ⟨rfl, HI.out.2⟩
  go_enter Tryd.func7, Tryd.ntmps7
  go_wp2_with fail
  go_loopw [7, 8] (fun s i wr => ∃ (is : List Lex.Item), is.length ≤ l.length ∧ s = .string ⟨(Lex.txt is []).toArray⟩ ∧ i = .int .i64 is.length ∧ Hid (FInv w wr) ∧ Hid (Lex.Items is)) (fun _ i _ => l.length - (intOf i).toNat)
  case atStart => exact ⟨[], Nat.zero_le _, rfl, rfl, HI, Lib.hid (fun i hi => by cases hi)⟩
  case round =>
    obtain ⟨is, hk, rfl, rfl, HI, HIt⟩ := hrel
    obtain ⟨k, hkk⟩ : ∃ k, is.length = k := ⟨_, rfl⟩
    have hjl := Lex.items_len HIt.out
    rw [hkk] at hk hjl ⊢
    have HKK := Lib.hid hkk
    clear hkk
    by_cases hlt : k < l.length
    · obtain ⟨⟨pk, pn, pg, pb⟩, hx⟩ : ∃ x, l[k]? = some x := ⟨_, List.getElem?_eq_getElem hlt⟩
      obtain ⟨b, off, rfl, hbB, hc⟩ := (HR.out.below HI.out.2).row (fun _ _ => cellsP_len _) hx (by decide)
      obtain ⟨q0, q1, q2, q3⟩ := HOk.out _ (List.mem_of_getElem? hx)
      simp only at q0 q1 q2 q3
      have HW : Hid (WInv w b (off + k * 4) (pk, pn, pg, pb) wr) := Lib.hid ⟨HI.out, Nat.lt_of_lt_of_le hbB HI.out.2.size, hc⟩
      obtain ⟨e0, e1, e2, e3, _⟩ := WInv.cells HW
      have hk0 : (0 : Int) ≤ (k : Int) := by omega
      have hk1 : (k : Int) < (l.length : Int) := by omega
      have hjs : (Lex.txt is []).length ≤ 800 := by omega
      have hfield := tok_field
      clear hc hx
      go_wp2_with fail
      go_region_held3 (fun W => W.cell? ⟨b, off + k * 4, none⟩ = some (.int .u8 pk) ∧ W.cell? ⟨b, off + k * 4 + 1, none⟩ = some (.int .u8 pn) ∧ W.cell? ⟨b, off + k * 4 + 2, none⟩ = some (.int .u8 pg) ∧ W.cell? ⟨b, off + k * 4 + 3, none⟩ = some (.int .u64 pb) ∧ Hid (WInv w b (off + k * 4) (pk, pn, pg, pb) W))
        (first | exact WInv.cells (WInv.drew (by assumption)) | exact WInv.cells (WInv.drew (WInv.limb (by assumption))) | exact WInv.cells (WInv.call (by assumption) (by assumption)) | exact WInv.cells (WInv.call (WInv.limb (by assumption)) (by assumption)))
        (first | (go_at_call 18; refine (gap_any pk pn pg pb q2.1 _).mono ?_; rintro e w' ⟨⟨G, rfl, hG1⟩, hb⟩; have hGl := (gaps_ok _ hG1).2.2; have HG1 := Lib.hid hG1; clear hG1; have l2 : ¬ 9223372036854775807 < (Lex.txt is []).length + G.length := by omega) | (go_at_call 19; refine (token_any pk pn pg pb q0.1 q1.1 q1.2 q3.1 q3.2 _ ?_).mono ?_; (first | exact WInv.good (by assumption) | exact WInv.good (WInv.limb (by assumption))); rintro e w' ⟨⟨K, T, rfl, hT1, hT2⟩, hb⟩; have HT := Lib.hid hT1; clear hT1; have l3 : ¬ 9223372036854775807 < (Lex.txt is []).length + G.length + T.length := by omega))
      go_wp2_with fail
      have HIt2 := Lib.hid (Lex.items_more (i := ⟨G, K, T⟩) HIt.out ⟨HG1.out, HT.out, hT2⟩)
      go_roundw
      case rel =>
        refine ⟨is ++ [⟨G, K, T⟩], by simp [HKK.out]; omega, ?_, by simp [HKK.out], WInv.fin (by assumption), HIt2⟩
        rw [ByteArray.mk_append_mk, ByteArray.mk_append_mk, Lex.txt_snoc, List.append_nil, Lex.txt_end is (G ++ T)]
        simp
      case measure => simp [intOf]; omega
    · obtain rfl : k = l.length := by omega
      clear hlt hk
      obtain ⟨q, hq, hq1⟩ : ∃ q : Nat, what % 20 = (q : Int) ∧ q < 20 := ⟨(what % 20).toNat, by omega, by omega⟩
      obtain ⟨txt0, ht0⟩ : ∃ x, Lex.txt is [] = x := ⟨_, rfl⟩
      rw [ht0] at hjl ⊢
      have HT0 := Lib.hid ht0
      clear ht0
      have hms : ms.length ≤ 100 := by omega
      have htx : txt0.length ≤ 800 := by omega
      have l2 : ¬ 9223372036854775807 < txt0.length + 1 := by omega
      rcases (show q = 0 ∨ q = 1 ∨ q = 2 ∨ q = 3 ∨ q = 4 ∨ q = 5 ∨ q = 6 ∨ q = 7 ∨ q = 8 ∨ q = 9 ∨ q = 10 ∨ q = 11 ∨ q = 12 ∨ q = 13 ∨ q = 14 ∨ q = 15 ∨ q = 16 ∨ q = 17 ∨ q = 18 ∨ q = 19 by omega) with rfl | rfl | rfl | rfl | rfl | rfl | rfl | rfl | rfl | rfl | rfl | rfl | rfl | rfl | rfl | rfl | rfl | rfl | rfl | rfl
      · have hq2 : what.tmod 20 = 0 := by rw [Int.tmod_eq_emod_of_nonneg l0]; exact hq
        have hq3 : what % 20 = 0 := hq
        have l3 : ¬ 9223372036854775807 < txt0.length + 1 + 1 := by omega
        have l4 : ¬ 9223372036854775807 < txt0.length + 1 + 1 + ms.length := by omega
        obtain ⟨y1, y2, y3⟩ := Lex.bad0 ms
        have hb := wrong_text HIt.out y1 y2 y3
        rw [HT0.out] at hb
        have HB := Lib.hid hb
        clear hb y1 y2 y3
        go_wp2_with fail
        have HI := FInv.alloc HI (.cells #[.string ⟨#[36]⟩, .string ⟨#[0]⟩, .string ⟨#[38]⟩, .string ⟨#[124]⟩, .string ⟨#[34]⟩, .string ⟨#[39]⟩, .string ⟨#[95]⟩, .string ⟨#[48, 48]⟩, .string ⟨#[48, 49]⟩, .string ⟨#[49, 97]⟩, .string ⟨#[49, 95]⟩, .string ⟨#[57, 50, 50, 51, 51, 55, 50, 48, 51, 54, 56, 53, 52, 55, 55, 53, 56, 48, 56]⟩, .string ⟨#[49, 48, 48, 48, 48, 48, 48, 48, 48, 48, 48, 48, 48, 48, 48, 48, 48, 48, 48, 48]⟩, .string ⟨#[97, 98, 99, 100, 101, 102, 103, 104, 105, 106, 107, 108, 109, 110, 111, 112, 113]⟩, .string ⟨#[255]⟩, .string ⟨#[46]⟩, .string ⟨#[58]⟩, .string ⟨#[35]⟩, .string ⟨#[64]⟩, .string ⟨#[126]⟩] 9)
        have hh := wrong_any (txt0 ++ [10] ++ ([36] ++ ms)) (txt0.length + 1) (by simp; omega) _ (FInv.good HI)
        rw [HB.out, show ((txt0.length + 1 : Nat) : Int) = (txt0.length : Int) + 1 from by simp] at hh
        refine (wrong_at_ hh (cat4 txt0 [10] [36] ms)).mono ?_
        rintro e w4 ⟨rfl, b4⟩
        have HI := FInv.call HI b4
        clear b4
        go_wp2_with fail
        refine (works_any _ (FInv.good HI)).mono ?_
        rintro e w5 ⟨rfl, b5⟩
        have HI := FInv.call HI b5
        clear b5
        go_wp2_with fail
        go_ret
        exact ⟨rfl, HI.out.2⟩
      · have hq2 : what.tmod 20 = 1 := by rw [Int.tmod_eq_emod_of_nonneg l0]; exact hq
        have hq3 : what % 20 = 1 := hq
        have l3 : ¬ 9223372036854775807 < txt0.length + 1 + 1 := by omega
        have l4 : ¬ 9223372036854775807 < txt0.length + 1 + 1 + ms.length := by omega
        obtain ⟨y1, y2, y3⟩ := Lex.bad1 ms
        have hb := wrong_text HIt.out y1 y2 y3
        rw [HT0.out] at hb
        have HB := Lib.hid hb
        clear hb y1 y2 y3
        go_wp2_with fail
        have HI := FInv.alloc HI (.cells #[.string ⟨#[36]⟩, .string ⟨#[0]⟩, .string ⟨#[38]⟩, .string ⟨#[124]⟩, .string ⟨#[34]⟩, .string ⟨#[39]⟩, .string ⟨#[95]⟩, .string ⟨#[48, 48]⟩, .string ⟨#[48, 49]⟩, .string ⟨#[49, 97]⟩, .string ⟨#[49, 95]⟩, .string ⟨#[57, 50, 50, 51, 51, 55, 50, 48, 51, 54, 56, 53, 52, 55, 55, 53, 56, 48, 56]⟩, .string ⟨#[49, 48, 48, 48, 48, 48, 48, 48, 48, 48, 48, 48, 48, 48, 48, 48, 48, 48, 48, 48]⟩, .string ⟨#[97, 98, 99, 100, 101, 102, 103, 104, 105, 106, 107, 108, 109, 110, 111, 112, 113]⟩, .string ⟨#[255]⟩, .string ⟨#[46]⟩, .string ⟨#[58]⟩, .string ⟨#[35]⟩, .string ⟨#[64]⟩, .string ⟨#[126]⟩] 9)
        have hh := wrong_any (txt0 ++ [10] ++ ([0] ++ ms)) (txt0.length + 1) (by simp; omega) _ (FInv.good HI)
        rw [HB.out, show ((txt0.length + 1 : Nat) : Int) = (txt0.length : Int) + 1 from by simp] at hh
        refine (wrong_at_ hh (cat4 txt0 [10] [0] ms)).mono ?_
        rintro e w4 ⟨rfl, b4⟩
        have HI := FInv.call HI b4
        clear b4
        go_wp2_with fail
        refine (works_any _ (FInv.good HI)).mono ?_
        rintro e w5 ⟨rfl, b5⟩
        have HI := FInv.call HI b5
        clear b5
        go_wp2_with fail
        go_ret
        exact ⟨rfl, HI.out.2⟩
      · have hq2 : what.tmod 20 = 2 := by rw [Int.tmod_eq_emod_of_nonneg l0]; exact hq
        have hq3 : what % 20 = 2 := hq
        have l3 : ¬ 9223372036854775807 < txt0.length + 1 + 2 := by omega
        have l4 : ¬ 9223372036854775807 < txt0.length + 1 + 2 + ms.length := by omega
        obtain ⟨y1, y2, y3⟩ := Lex.bad2 ms
        have hb := wrong_text HIt.out y1 y2 y3
        rw [HT0.out] at hb
        have HB := Lib.hid hb
        clear hb y1 y2 y3
        go_wp2_with fail
        have HI := FInv.alloc HI (.cells #[.string ⟨#[36]⟩, .string ⟨#[0]⟩, .string ⟨#[38]⟩, .string ⟨#[124]⟩, .string ⟨#[34]⟩, .string ⟨#[39]⟩, .string ⟨#[95]⟩, .string ⟨#[48, 48]⟩, .string ⟨#[48, 49]⟩, .string ⟨#[49, 97]⟩, .string ⟨#[49, 95]⟩, .string ⟨#[57, 50, 50, 51, 51, 55, 50, 48, 51, 54, 56, 53, 52, 55, 55, 53, 56, 48, 56]⟩, .string ⟨#[49, 48, 48, 48, 48, 48, 48, 48, 48, 48, 48, 48, 48, 48, 48, 48, 48, 48, 48, 48]⟩, .string ⟨#[97, 98, 99, 100, 101, 102, 103, 104, 105, 106, 107, 108, 109, 110, 111, 112, 113]⟩, .string ⟨#[255]⟩, .string ⟨#[46]⟩, .string ⟨#[58]⟩, .string ⟨#[35]⟩, .string ⟨#[64]⟩, .string ⟨#[126]⟩] 9)
        have hh := wrong_any (txt0 ++ [10] ++ ([38, 32] ++ ms)) (txt0.length + 1) (by simp; omega) _ (FInv.good HI)
        rw [HB.out, show ((txt0.length + 1 : Nat) : Int) = (txt0.length : Int) + 1 from by simp] at hh
        refine (wrong_at_ hh (cat5 txt0 [10] [38] [32] ms)).mono ?_
        rintro e w4 ⟨rfl, b4⟩
        have HI := FInv.call HI b4
        clear b4
        go_wp2_with fail
        refine (works_any _ (FInv.good HI)).mono ?_
        rintro e w5 ⟨rfl, b5⟩
        have HI := FInv.call HI b5
        clear b5
        go_wp2_with fail
        go_ret
        exact ⟨rfl, HI.out.2⟩
      · have hq2 : what.tmod 20 = 3 := by rw [Int.tmod_eq_emod_of_nonneg l0]; exact hq
        have hq3 : what % 20 = 3 := hq
        have l3 : ¬ 9223372036854775807 < txt0.length + 1 + 2 := by omega
        have l4 : ¬ 9223372036854775807 < txt0.length + 1 + 2 + ms.length := by omega
        obtain ⟨y1, y2, y3⟩ := Lex.bad3 ms
        have hb := wrong_text HIt.out y1 y2 y3
        rw [HT0.out] at hb
        have HB := Lib.hid hb
        clear hb y1 y2 y3
        go_wp2_with fail
        have HI := FInv.alloc HI (.cells #[.string ⟨#[36]⟩, .string ⟨#[0]⟩, .string ⟨#[38]⟩, .string ⟨#[124]⟩, .string ⟨#[34]⟩, .string ⟨#[39]⟩, .string ⟨#[95]⟩, .string ⟨#[48, 48]⟩, .string ⟨#[48, 49]⟩, .string ⟨#[49, 97]⟩, .string ⟨#[49, 95]⟩, .string ⟨#[57, 50, 50, 51, 51, 55, 50, 48, 51, 54, 56, 53, 52, 55, 55, 53, 56, 48, 56]⟩, .string ⟨#[49, 48, 48, 48, 48, 48, 48, 48, 48, 48, 48, 48, 48, 48, 48, 48, 48, 48, 48, 48]⟩, .string ⟨#[97, 98, 99, 100, 101, 102, 103, 104, 105, 106, 107, 108, 109, 110, 111, 112, 113]⟩, .string ⟨#[255]⟩, .string ⟨#[46]⟩, .string ⟨#[58]⟩, .string ⟨#[35]⟩, .string ⟨#[64]⟩, .string ⟨#[126]⟩] 9)
        have hh := wrong_any (txt0 ++ [10] ++ ([124, 32] ++ ms)) (txt0.length + 1) (by simp; omega) _ (FInv.good HI)
        rw [HB.out, show ((txt0.length + 1 : Nat) : Int) = (txt0.length : Int) + 1 from by simp] at hh
        refine (wrong_at_ hh (cat5 txt0 [10] [124] [32] ms)).mono ?_
        rintro e w4 ⟨rfl, b4⟩
        have HI := FInv.call HI b4
        clear b4
        go_wp2_with fail
        refine (works_any _ (FInv.good HI)).mono ?_
        rintro e w5 ⟨rfl, b5⟩
        have HI := FInv.call HI b5
        clear b5
        go_wp2_with fail
        go_ret
        exact ⟨rfl, HI.out.2⟩
      · have hq2 : what.tmod 20 = 4 := by rw [Int.tmod_eq_emod_of_nonneg l0]; exact hq
        have hq3 : what % 20 = 4 := hq
        have l3 : ¬ 9223372036854775807 < txt0.length + 1 + 1 := by omega
        have l4 : ¬ 9223372036854775807 < txt0.length + 1 + 1 + ms.length := by omega
        obtain ⟨y1, y2, y3⟩ := Lex.bad4 ms
        have hb := wrong_text HIt.out y1 y2 y3
        rw [HT0.out] at hb
        have HB := Lib.hid hb
        clear hb y1 y2 y3
        go_wp2_with fail
        have HI := FInv.alloc HI (.cells #[.string ⟨#[36]⟩, .string ⟨#[0]⟩, .string ⟨#[38]⟩, .string ⟨#[124]⟩, .string ⟨#[34]⟩, .string ⟨#[39]⟩, .string ⟨#[95]⟩, .string ⟨#[48, 48]⟩, .string ⟨#[48, 49]⟩, .string ⟨#[49, 97]⟩, .string ⟨#[49, 95]⟩, .string ⟨#[57, 50, 50, 51, 51, 55, 50, 48, 51, 54, 56, 53, 52, 55, 55, 53, 56, 48, 56]⟩, .string ⟨#[49, 48, 48, 48, 48, 48, 48, 48, 48, 48, 48, 48, 48, 48, 48, 48, 48, 48, 48, 48]⟩, .string ⟨#[97, 98, 99, 100, 101, 102, 103, 104, 105, 106, 107, 108, 109, 110, 111, 112, 113]⟩, .string ⟨#[255]⟩, .string ⟨#[46]⟩, .string ⟨#[58]⟩, .string ⟨#[35]⟩, .string ⟨#[64]⟩, .string ⟨#[126]⟩] 9)
        have hh := wrong_any (txt0 ++ [10] ++ ([34] ++ ms)) (txt0.length + 1) (by simp; omega) _ (FInv.good HI)
        rw [HB.out, show ((txt0.length + 1 : Nat) : Int) = (txt0.length : Int) + 1 from by simp] at hh
        refine (wrong_at_ hh (cat4 txt0 [10] [34] ms)).mono ?_
        rintro e w4 ⟨rfl, b4⟩
        have HI := FInv.call HI b4
        clear b4
        go_wp2_with fail
        refine (works_any _ (FInv.good HI)).mono ?_
        rintro e w5 ⟨rfl, b5⟩
        have HI := FInv.call HI b5
        clear b5
        go_wp2_with fail
        go_ret
        exact ⟨rfl, HI.out.2⟩
      · have hq2 : what.tmod 20 = 5 := by rw [Int.tmod_eq_emod_of_nonneg l0]; exact hq
        have hq3 : what % 20 = 5 := hq
        have l3 : ¬ 9223372036854775807 < txt0.length + 1 + 1 := by omega
        have l4 : ¬ 9223372036854775807 < txt0.length + 1 + 1 + ms.length := by omega
        obtain ⟨y1, y2, y3⟩ := Lex.bad5 ms
        have hb := wrong_text HIt.out y1 y2 y3
        rw [HT0.out] at hb
        have HB := Lib.hid hb
        clear hb y1 y2 y3
        go_wp2_with fail
        have HI := FInv.alloc HI (.cells #[.string ⟨#[36]⟩, .string ⟨#[0]⟩, .string ⟨#[38]⟩, .string ⟨#[124]⟩, .string ⟨#[34]⟩, .string ⟨#[39]⟩, .string ⟨#[95]⟩, .string ⟨#[48, 48]⟩, .string ⟨#[48, 49]⟩, .string ⟨#[49, 97]⟩, .string ⟨#[49, 95]⟩, .string ⟨#[57, 50, 50, 51, 51, 55, 50, 48, 51, 54, 56, 53, 52, 55, 55, 53, 56, 48, 56]⟩, .string ⟨#[49, 48, 48, 48, 48, 48, 48, 48, 48, 48, 48, 48, 48, 48, 48, 48, 48, 48, 48, 48]⟩, .string ⟨#[97, 98, 99, 100, 101, 102, 103, 104, 105, 106, 107, 108, 109, 110, 111, 112, 113]⟩, .string ⟨#[255]⟩, .string ⟨#[46]⟩, .string ⟨#[58]⟩, .string ⟨#[35]⟩, .string ⟨#[64]⟩, .string ⟨#[126]⟩] 9)
        have hh := wrong_any (txt0 ++ [10] ++ ([39] ++ ms)) (txt0.length + 1) (by simp; omega) _ (FInv.good HI)
        rw [HB.out, show ((txt0.length + 1 : Nat) : Int) = (txt0.length : Int) + 1 from by simp] at hh
        refine (wrong_at_ hh (cat4 txt0 [10] [39] ms)).mono ?_
        rintro e w4 ⟨rfl, b4⟩
        have HI := FInv.call HI b4
        clear b4
        go_wp2_with fail
        refine (works_any _ (FInv.good HI)).mono ?_
        rintro e w5 ⟨rfl, b5⟩
        have HI := FInv.call HI b5
        clear b5
        go_wp2_with fail
        go_ret
        exact ⟨rfl, HI.out.2⟩
      · have hq2 : what.tmod 20 = 6 := by rw [Int.tmod_eq_emod_of_nonneg l0]; exact hq
        have hq3 : what % 20 = 6 := hq
        have l3 : ¬ 9223372036854775807 < txt0.length + 1 + 1 := by omega
        have l4 : ¬ 9223372036854775807 < txt0.length + 1 + 1 + ms.length := by omega
        obtain ⟨y1, y2, y3⟩ := Lex.bad6 ms
        have hb := wrong_text HIt.out y1 y2 y3
        rw [HT0.out] at hb
        have HB := Lib.hid hb
        clear hb y1 y2 y3
        go_wp2_with fail
        have HI := FInv.alloc HI (.cells #[.string ⟨#[36]⟩, .string ⟨#[0]⟩, .string ⟨#[38]⟩, .string ⟨#[124]⟩, .string ⟨#[34]⟩, .string ⟨#[39]⟩, .string ⟨#[95]⟩, .string ⟨#[48, 48]⟩, .string ⟨#[48, 49]⟩, .string ⟨#[49, 97]⟩, .string ⟨#[49, 95]⟩, .string ⟨#[57, 50, 50, 51, 51, 55, 50, 48, 51, 54, 56, 53, 52, 55, 55, 53, 56, 48, 56]⟩, .string ⟨#[49, 48, 48, 48, 48, 48, 48, 48, 48, 48, 48, 48, 48, 48, 48, 48, 48, 48, 48, 48]⟩, .string ⟨#[97, 98, 99, 100, 101, 102, 103, 104, 105, 106, 107, 108, 109, 110, 111, 112, 113]⟩, .string ⟨#[255]⟩, .string ⟨#[46]⟩, .string ⟨#[58]⟩, .string ⟨#[35]⟩, .string ⟨#[64]⟩, .string ⟨#[126]⟩] 9)
        have hh := wrong_any (txt0 ++ [10] ++ ([95] ++ ms)) (txt0.length + 1) (by simp; omega) _ (FInv.good HI)
        rw [HB.out, show ((txt0.length + 1 : Nat) : Int) = (txt0.length : Int) + 1 from by simp] at hh
        refine (wrong_at_ hh (cat4 txt0 [10] [95] ms)).mono ?_
        rintro e w4 ⟨rfl, b4⟩
        have HI := FInv.call HI b4
        clear b4
        go_wp2_with fail
        refine (works_any _ (FInv.good HI)).mono ?_
        rintro e w5 ⟨rfl, b5⟩
        have HI := FInv.call HI b5
        clear b5
        go_wp2_with fail
        go_ret
        exact ⟨rfl, HI.out.2⟩
      · have hq2 : what.tmod 20 = 7 := by rw [Int.tmod_eq_emod_of_nonneg l0]; exact hq
        have hq3 : what % 20 = 7 := hq
        have l3 : ¬ 9223372036854775807 < txt0.length + 1 + 3 := by omega
        have l4 : ¬ 9223372036854775807 < txt0.length + 1 + 3 + ms.length := by omega
        obtain ⟨y1, y2, y3⟩ := Lex.bad7 ms
        have hb := wrong_text HIt.out y1 y2 y3
        rw [HT0.out] at hb
        have HB := Lib.hid hb
        clear hb y1 y2 y3
        go_wp2_with fail
        have HI := FInv.alloc HI (.cells #[.string ⟨#[36]⟩, .string ⟨#[0]⟩, .string ⟨#[38]⟩, .string ⟨#[124]⟩, .string ⟨#[34]⟩, .string ⟨#[39]⟩, .string ⟨#[95]⟩, .string ⟨#[48, 48]⟩, .string ⟨#[48, 49]⟩, .string ⟨#[49, 97]⟩, .string ⟨#[49, 95]⟩, .string ⟨#[57, 50, 50, 51, 51, 55, 50, 48, 51, 54, 56, 53, 52, 55, 55, 53, 56, 48, 56]⟩, .string ⟨#[49, 48, 48, 48, 48, 48, 48, 48, 48, 48, 48, 48, 48, 48, 48, 48, 48, 48, 48, 48]⟩, .string ⟨#[97, 98, 99, 100, 101, 102, 103, 104, 105, 106, 107, 108, 109, 110, 111, 112, 113]⟩, .string ⟨#[255]⟩, .string ⟨#[46]⟩, .string ⟨#[58]⟩, .string ⟨#[35]⟩, .string ⟨#[64]⟩, .string ⟨#[126]⟩] 9)
        have hh := wrong_any (txt0 ++ [10] ++ ([48, 48, 32] ++ ms)) (txt0.length + 1) (by simp; omega) _ (FInv.good HI)
        rw [HB.out, show ((txt0.length + 1 : Nat) : Int) = (txt0.length : Int) + 1 from by simp] at hh
        refine (wrong_at_ hh (cat5 txt0 [10] [48, 48] [32] ms)).mono ?_
        rintro e w4 ⟨rfl, b4⟩
        have HI := FInv.call HI b4
        clear b4
        go_wp2_with fail
        refine (works_any _ (FInv.good HI)).mono ?_
        rintro e w5 ⟨rfl, b5⟩
        have HI := FInv.call HI b5
        clear b5
        go_wp2_with fail
        go_ret
        exact ⟨rfl, HI.out.2⟩
      · have hq2 : what.tmod 20 = 8 := by rw [Int.tmod_eq_emod_of_nonneg l0]; exact hq
        have hq3 : what % 20 = 8 := hq
        have l3 : ¬ 9223372036854775807 < txt0.length + 1 + 3 := by omega
        have l4 : ¬ 9223372036854775807 < txt0.length + 1 + 3 + ms.length := by omega
        obtain ⟨y1, y2, y3⟩ := Lex.bad8 ms
        have hb := wrong_text HIt.out y1 y2 y3
        rw [HT0.out] at hb
        have HB := Lib.hid hb
        clear hb y1 y2 y3
        go_wp2_with fail
        have HI := FInv.alloc HI (.cells #[.string ⟨#[36]⟩, .string ⟨#[0]⟩, .string ⟨#[38]⟩, .string ⟨#[124]⟩, .string ⟨#[34]⟩, .string ⟨#[39]⟩, .string ⟨#[95]⟩, .string ⟨#[48, 48]⟩, .string ⟨#[48, 49]⟩, .string ⟨#[49, 97]⟩, .string ⟨#[49, 95]⟩, .string ⟨#[57, 50, 50, 51, 51, 55, 50, 48, 51, 54, 56, 53, 52, 55, 55, 53, 56, 48, 56]⟩, .string ⟨#[49, 48, 48, 48, 48, 48, 48, 48, 48, 48, 48, 48, 48, 48, 48, 48, 48, 48, 48, 48]⟩, .string ⟨#[97, 98, 99, 100, 101, 102, 103, 104, 105, 106, 107, 108, 109, 110, 111, 112, 113]⟩, .string ⟨#[255]⟩, .string ⟨#[46]⟩, .string ⟨#[58]⟩, .string ⟨#[35]⟩, .string ⟨#[64]⟩, .string ⟨#[126]⟩] 9)
        have hh := wrong_any (txt0 ++ [10] ++ ([48, 49, 32] ++ ms)) (txt0.length + 1) (by simp; omega) _ (FInv.good HI)
        rw [HB.out, show ((txt0.length + 1 : Nat) : Int) = (txt0.length : Int) + 1 from by simp] at hh
        refine (wrong_at_ hh (cat5 txt0 [10] [48, 49] [32] ms)).mono ?_
        rintro e w4 ⟨rfl, b4⟩
        have HI := FInv.call HI b4
        clear b4
        go_wp2_with fail
        refine (works_any _ (FInv.good HI)).mono ?_
        rintro e w5 ⟨rfl, b5⟩
        have HI := FInv.call HI b5
        clear b5
        go_wp2_with fail
        go_ret
        exact ⟨rfl, HI.out.2⟩
      · have hq2 : what.tmod 20 = 9 := by rw [Int.tmod_eq_emod_of_nonneg l0]; exact hq
        have hq3 : what % 20 = 9 := hq
        have l3 : ¬ 9223372036854775807 < txt0.length + 1 + 2 := by omega
        have l4 : ¬ 9223372036854775807 < txt0.length + 1 + 2 + ms.length := by omega
        obtain ⟨y1, y2, y3⟩ := Lex.bad9 ms
        have hb := wrong_text HIt.out y1 y2 y3
        rw [HT0.out] at hb
        have HB := Lib.hid hb
        clear hb y1 y2 y3
        go_wp2_with fail
        have HI := FInv.alloc HI (.cells #[.string ⟨#[36]⟩, .string ⟨#[0]⟩, .string ⟨#[38]⟩, .string ⟨#[124]⟩, .string ⟨#[34]⟩, .string ⟨#[39]⟩, .string ⟨#[95]⟩, .string ⟨#[48, 48]⟩, .string ⟨#[48, 49]⟩, .string ⟨#[49, 97]⟩, .string ⟨#[49, 95]⟩, .string ⟨#[57, 50, 50, 51, 51, 55, 50, 48, 51, 54, 56, 53, 52, 55, 55, 53, 56, 48, 56]⟩, .string ⟨#[49, 48, 48, 48, 48, 48, 48, 48, 48, 48, 48, 48, 48, 48, 48, 48, 48, 48, 48, 48]⟩, .string ⟨#[97, 98, 99, 100, 101, 102, 103, 104, 105, 106, 107, 108, 109, 110, 111, 112, 113]⟩, .string ⟨#[255]⟩, .string ⟨#[46]⟩, .string ⟨#[58]⟩, .string ⟨#[35]⟩, .string ⟨#[64]⟩, .string ⟨#[126]⟩] 9)
        have hh := wrong_any (txt0 ++ [10] ++ ([49, 97] ++ ms)) (txt0.length + 1) (by simp; omega) _ (FInv.good HI)
        rw [HB.out, show ((txt0.length + 1 : Nat) : Int) = (txt0.length : Int) + 1 from by simp] at hh
        refine (wrong_at_ hh (cat4 txt0 [10] [49, 97] ms)).mono ?_
        rintro e w4 ⟨rfl, b4⟩
        have HI := FInv.call HI b4
        clear b4
        go_wp2_with fail
        refine (works_any _ (FInv.good HI)).mono ?_
        rintro e w5 ⟨rfl, b5⟩
        have HI := FInv.call HI b5
        clear b5
        go_wp2_with fail
        go_ret
        exact ⟨rfl, HI.out.2⟩
      · have hq2 : what.tmod 20 = 10 := by rw [Int.tmod_eq_emod_of_nonneg l0]; exact hq
        have hq3 : what % 20 = 10 := hq
        have l3 : ¬ 9223372036854775807 < txt0.length + 1 + 2 := by omega
        have l4 : ¬ 9223372036854775807 < txt0.length + 1 + 2 + ms.length := by omega
        obtain ⟨y1, y2, y3⟩ := Lex.bad10 ms
        have hb := wrong_text HIt.out y1 y2 y3
        rw [HT0.out] at hb
        have HB := Lib.hid hb
        clear hb y1 y2 y3
        go_wp2_with fail
        have HI := FInv.alloc HI (.cells #[.string ⟨#[36]⟩, .string ⟨#[0]⟩, .string ⟨#[38]⟩, .string ⟨#[124]⟩, .string ⟨#[34]⟩, .string ⟨#[39]⟩, .string ⟨#[95]⟩, .string ⟨#[48, 48]⟩, .string ⟨#[48, 49]⟩, .string ⟨#[49, 97]⟩, .string ⟨#[49, 95]⟩, .string ⟨#[57, 50, 50, 51, 51, 55, 50, 48, 51, 54, 56, 53, 52, 55, 55, 53, 56, 48, 56]⟩, .string ⟨#[49, 48, 48, 48, 48, 48, 48, 48, 48, 48, 48, 48, 48, 48, 48, 48, 48, 48, 48, 48]⟩, .string ⟨#[97, 98, 99, 100, 101, 102, 103, 104, 105, 106, 107, 108, 109, 110, 111, 112, 113]⟩, .string ⟨#[255]⟩, .string ⟨#[46]⟩, .string ⟨#[58]⟩, .string ⟨#[35]⟩, .string ⟨#[64]⟩, .string ⟨#[126]⟩] 9)
        have hh := wrong_any (txt0 ++ [10] ++ ([49, 95] ++ ms)) (txt0.length + 1) (by simp; omega) _ (FInv.good HI)
        rw [HB.out, show ((txt0.length + 1 : Nat) : Int) = (txt0.length : Int) + 1 from by simp] at hh
        refine (wrong_at_ hh (cat4 txt0 [10] [49, 95] ms)).mono ?_
        rintro e w4 ⟨rfl, b4⟩
        have HI := FInv.call HI b4
        clear b4
        go_wp2_with fail
        refine (works_any _ (FInv.good HI)).mono ?_
        rintro e w5 ⟨rfl, b5⟩
        have HI := FInv.call HI b5
        clear b5
        go_wp2_with fail
        go_ret
        exact ⟨rfl, HI.out.2⟩
      · have hq2 : what.tmod 20 = 11 := by rw [Int.tmod_eq_emod_of_nonneg l0]; exact hq
        have hq3 : what % 20 = 11 := hq
        have l3 : ¬ 9223372036854775807 < txt0.length + 1 + 19 := by omega
        have l4 : ¬ 9223372036854775807 < txt0.length + 1 + 19 + ms.length := by omega
        obtain ⟨y1, y2, y3⟩ := Lex.bad11 ms
        have hb := wrong_text HIt.out y1 y2 y3
        rw [HT0.out] at hb
        have HB := Lib.hid hb
        clear hb y1 y2 y3
        go_wp2_with fail
        have HI := FInv.alloc HI (.cells #[.string ⟨#[36]⟩, .string ⟨#[0]⟩, .string ⟨#[38]⟩, .string ⟨#[124]⟩, .string ⟨#[34]⟩, .string ⟨#[39]⟩, .string ⟨#[95]⟩, .string ⟨#[48, 48]⟩, .string ⟨#[48, 49]⟩, .string ⟨#[49, 97]⟩, .string ⟨#[49, 95]⟩, .string ⟨#[57, 50, 50, 51, 51, 55, 50, 48, 51, 54, 56, 53, 52, 55, 55, 53, 56, 48, 56]⟩, .string ⟨#[49, 48, 48, 48, 48, 48, 48, 48, 48, 48, 48, 48, 48, 48, 48, 48, 48, 48, 48, 48]⟩, .string ⟨#[97, 98, 99, 100, 101, 102, 103, 104, 105, 106, 107, 108, 109, 110, 111, 112, 113]⟩, .string ⟨#[255]⟩, .string ⟨#[46]⟩, .string ⟨#[58]⟩, .string ⟨#[35]⟩, .string ⟨#[64]⟩, .string ⟨#[126]⟩] 9)
        have hh := wrong_any (txt0 ++ [10] ++ ([57, 50, 50, 51, 51, 55, 50, 48, 51, 54, 56, 53, 52, 55, 55, 53, 56, 48, 56] ++ ms)) (txt0.length + 1) (by simp; omega) _ (FInv.good HI)
        rw [HB.out, show ((txt0.length + 1 : Nat) : Int) = (txt0.length : Int) + 1 from by simp] at hh
        refine (wrong_at_ hh (cat4 txt0 [10] [57, 50, 50, 51, 51, 55, 50, 48, 51, 54, 56, 53, 52, 55, 55, 53, 56, 48, 56] ms)).mono ?_
        rintro e w4 ⟨rfl, b4⟩
        have HI := FInv.call HI b4
        clear b4
        go_wp2_with fail
        refine (works_any _ (FInv.good HI)).mono ?_
        rintro e w5 ⟨rfl, b5⟩
        have HI := FInv.call HI b5
        clear b5
        go_wp2_with fail
        go_ret
        exact ⟨rfl, HI.out.2⟩
      · have hq2 : what.tmod 20 = 12 := by rw [Int.tmod_eq_emod_of_nonneg l0]; exact hq
        have hq3 : what % 20 = 12 := hq
        have l3 : ¬ 9223372036854775807 < txt0.length + 1 + 20 := by omega
        have l4 : ¬ 9223372036854775807 < txt0.length + 1 + 20 + ms.length := by omega
        obtain ⟨y1, y2, y3⟩ := Lex.bad12 ms
        have hb := wrong_text HIt.out y1 y2 y3
        rw [HT0.out] at hb
        have HB := Lib.hid hb
        clear hb y1 y2 y3
        go_wp2_with fail
        have HI := FInv.alloc HI (.cells #[.string ⟨#[36]⟩, .string ⟨#[0]⟩, .string ⟨#[38]⟩, .string ⟨#[124]⟩, .string ⟨#[34]⟩, .string ⟨#[39]⟩, .string ⟨#[95]⟩, .string ⟨#[48, 48]⟩, .string ⟨#[48, 49]⟩, .string ⟨#[49, 97]⟩, .string ⟨#[49, 95]⟩, .string ⟨#[57, 50, 50, 51, 51, 55, 50, 48, 51, 54, 56, 53, 52, 55, 55, 53, 56, 48, 56]⟩, .string ⟨#[49, 48, 48, 48, 48, 48, 48, 48, 48, 48, 48, 48, 48, 48, 48, 48, 48, 48, 48, 48]⟩, .string ⟨#[97, 98, 99, 100, 101, 102, 103, 104, 105, 106, 107, 108, 109, 110, 111, 112, 113]⟩, .string ⟨#[255]⟩, .string ⟨#[46]⟩, .string ⟨#[58]⟩, .string ⟨#[35]⟩, .string ⟨#[64]⟩, .string ⟨#[126]⟩] 9)
        have hh := wrong_any (txt0 ++ [10] ++ ([49, 48, 48, 48, 48, 48, 48, 48, 48, 48, 48, 48, 48, 48, 48, 48, 48, 48, 48, 48] ++ ms)) (txt0.length + 1) (by simp; omega) _ (FInv.good HI)
        rw [HB.out, show ((txt0.length + 1 : Nat) : Int) = (txt0.length : Int) + 1 from by simp] at hh
        refine (wrong_at_ hh (cat4 txt0 [10] [49, 48, 48, 48, 48, 48, 48, 48, 48, 48, 48, 48, 48, 48, 48, 48, 48, 48, 48, 48] ms)).mono ?_
        rintro e w4 ⟨rfl, b4⟩
        have HI := FInv.call HI b4
        clear b4
        go_wp2_with fail
        refine (works_any _ (FInv.good HI)).mono ?_
        rintro e w5 ⟨rfl, b5⟩
        have HI := FInv.call HI b5
        clear b5
        go_wp2_with fail
        go_ret
        exact ⟨rfl, HI.out.2⟩
      · have hq2 : what.tmod 20 = 13 := by rw [Int.tmod_eq_emod_of_nonneg l0]; exact hq
        have hq3 : what % 20 = 13 := hq
        have l3 : ¬ 9223372036854775807 < txt0.length + 1 + 17 := by omega
        have l4 : ¬ 9223372036854775807 < txt0.length + 1 + 17 + ms.length := by omega
        obtain ⟨y1, y2, y3⟩ := Lex.bad13 ms
        have hb := wrong_text HIt.out y1 y2 y3
        rw [HT0.out] at hb
        have HB := Lib.hid hb
        clear hb y1 y2 y3
        go_wp2_with fail
        have HI := FInv.alloc HI (.cells #[.string ⟨#[36]⟩, .string ⟨#[0]⟩, .string ⟨#[38]⟩, .string ⟨#[124]⟩, .string ⟨#[34]⟩, .string ⟨#[39]⟩, .string ⟨#[95]⟩, .string ⟨#[48, 48]⟩, .string ⟨#[48, 49]⟩, .string ⟨#[49, 97]⟩, .string ⟨#[49, 95]⟩, .string ⟨#[57, 50, 50, 51, 51, 55, 50, 48, 51, 54, 56, 53, 52, 55, 55, 53, 56, 48, 56]⟩, .string ⟨#[49, 48, 48, 48, 48, 48, 48, 48, 48, 48, 48, 48, 48, 48, 48, 48, 48, 48, 48, 48]⟩, .string ⟨#[97, 98, 99, 100, 101, 102, 103, 104, 105, 106, 107, 108, 109, 110, 111, 112, 113]⟩, .string ⟨#[255]⟩, .string ⟨#[46]⟩, .string ⟨#[58]⟩, .string ⟨#[35]⟩, .string ⟨#[64]⟩, .string ⟨#[126]⟩] 9)
        have hh := wrong_any (txt0 ++ [10] ++ ([97, 98, 99, 100, 101, 102, 103, 104, 105, 106, 107, 108, 109, 110, 111, 112, 113] ++ ms)) (txt0.length + 1) (by simp; omega) _ (FInv.good HI)
        rw [HB.out, show ((txt0.length + 1 : Nat) : Int) = (txt0.length : Int) + 1 from by simp] at hh
        refine (wrong_at_ hh (cat4 txt0 [10] [97, 98, 99, 100, 101, 102, 103, 104, 105, 106, 107, 108, 109, 110, 111, 112, 113] ms)).mono ?_
        rintro e w4 ⟨rfl, b4⟩
        have HI := FInv.call HI b4
        clear b4
        go_wp2_with fail
        refine (works_any _ (FInv.good HI)).mono ?_
        rintro e w5 ⟨rfl, b5⟩
        have HI := FInv.call HI b5
        clear b5
        go_wp2_with fail
        go_ret
        exact ⟨rfl, HI.out.2⟩
      · have hq2 : what.tmod 20 = 14 := by rw [Int.tmod_eq_emod_of_nonneg l0]; exact hq
        have hq3 : what % 20 = 14 := hq
        have l3 : ¬ 9223372036854775807 < txt0.length + 1 + 1 := by omega
        have l4 : ¬ 9223372036854775807 < txt0.length + 1 + 1 + ms.length := by omega
        obtain ⟨y1, y2, y3⟩ := Lex.bad14 ms
        have hb := wrong_text HIt.out y1 y2 y3
        rw [HT0.out] at hb
        have HB := Lib.hid hb
        clear hb y1 y2 y3
        go_wp2_with fail
        have HI := FInv.alloc HI (.cells #[.string ⟨#[36]⟩, .string ⟨#[0]⟩, .string ⟨#[38]⟩, .string ⟨#[124]⟩, .string ⟨#[34]⟩, .string ⟨#[39]⟩, .string ⟨#[95]⟩, .string ⟨#[48, 48]⟩, .string ⟨#[48, 49]⟩, .string ⟨#[49, 97]⟩, .string ⟨#[49, 95]⟩, .string ⟨#[57, 50, 50, 51, 51, 55, 50, 48, 51, 54, 56, 53, 52, 55, 55, 53, 56, 48, 56]⟩, .string ⟨#[49, 48, 48, 48, 48, 48, 48, 48, 48, 48, 48, 48, 48, 48, 48, 48, 48, 48, 48, 48]⟩, .string ⟨#[97, 98, 99, 100, 101, 102, 103, 104, 105, 106, 107, 108, 109, 110, 111, 112, 113]⟩, .string ⟨#[255]⟩, .string ⟨#[46]⟩, .string ⟨#[58]⟩, .string ⟨#[35]⟩, .string ⟨#[64]⟩, .string ⟨#[126]⟩] 9)
        have hh := wrong_any (txt0 ++ [10] ++ ([255] ++ ms)) (txt0.length + 1) (by simp; omega) _ (FInv.good HI)
        rw [HB.out, show ((txt0.length + 1 : Nat) : Int) = (txt0.length : Int) + 1 from by simp] at hh
        refine (wrong_at_ hh (cat4 txt0 [10] [255] ms)).mono ?_
        rintro e w4 ⟨rfl, b4⟩
        have HI := FInv.call HI b4
        clear b4
        go_wp2_with fail
        refine (works_any _ (FInv.good HI)).mono ?_
        rintro e w5 ⟨rfl, b5⟩
        have HI := FInv.call HI b5
        clear b5
        go_wp2_with fail
        go_ret
        exact ⟨rfl, HI.out.2⟩
      · have hq2 : what.tmod 20 = 15 := by rw [Int.tmod_eq_emod_of_nonneg l0]; exact hq
        have hq3 : what % 20 = 15 := hq
        have l3 : ¬ 9223372036854775807 < txt0.length + 1 + 1 := by omega
        have l4 : ¬ 9223372036854775807 < txt0.length + 1 + 1 + ms.length := by omega
        obtain ⟨y1, y2, y3⟩ := Lex.bad15 ms
        have hb := wrong_text HIt.out y1 y2 y3
        rw [HT0.out] at hb
        have HB := Lib.hid hb
        clear hb y1 y2 y3
        go_wp2_with fail
        have HI := FInv.alloc HI (.cells #[.string ⟨#[36]⟩, .string ⟨#[0]⟩, .string ⟨#[38]⟩, .string ⟨#[124]⟩, .string ⟨#[34]⟩, .string ⟨#[39]⟩, .string ⟨#[95]⟩, .string ⟨#[48, 48]⟩, .string ⟨#[48, 49]⟩, .string ⟨#[49, 97]⟩, .string ⟨#[49, 95]⟩, .string ⟨#[57, 50, 50, 51, 51, 55, 50, 48, 51, 54, 56, 53, 52, 55, 55, 53, 56, 48, 56]⟩, .string ⟨#[49, 48, 48, 48, 48, 48, 48, 48, 48, 48, 48, 48, 48, 48, 48, 48, 48, 48, 48, 48]⟩, .string ⟨#[97, 98, 99, 100, 101, 102, 103, 104, 105, 106, 107, 108, 109, 110, 111, 112, 113]⟩, .string ⟨#[255]⟩, .string ⟨#[46]⟩, .string ⟨#[58]⟩, .string ⟨#[35]⟩, .string ⟨#[64]⟩, .string ⟨#[126]⟩] 9)
        have hh := wrong_any (txt0 ++ [10] ++ ([46] ++ ms)) (txt0.length + 1) (by simp; omega) _ (FInv.good HI)
        rw [HB.out, show ((txt0.length + 1 : Nat) : Int) = (txt0.length : Int) + 1 from by simp] at hh
        refine (wrong_at_ hh (cat4 txt0 [10] [46] ms)).mono ?_
        rintro e w4 ⟨rfl, b4⟩
        have HI := FInv.call HI b4
        clear b4
        go_wp2_with fail
        refine (works_any _ (FInv.good HI)).mono ?_
        rintro e w5 ⟨rfl, b5⟩
        have HI := FInv.call HI b5
        clear b5
        go_wp2_with fail
        go_ret
        exact ⟨rfl, HI.out.2⟩
      · have hq2 : what.tmod 20 = 16 := by rw [Int.tmod_eq_emod_of_nonneg l0]; exact hq
        have hq3 : what % 20 = 16 := hq
        have l3 : ¬ 9223372036854775807 < txt0.length + 1 + 1 := by omega
        have l4 : ¬ 9223372036854775807 < txt0.length + 1 + 1 + ms.length := by omega
        obtain ⟨y1, y2, y3⟩ := Lex.bad16 ms
        have hb := wrong_text HIt.out y1 y2 y3
        rw [HT0.out] at hb
        have HB := Lib.hid hb
        clear hb y1 y2 y3
        go_wp2_with fail
        have HI := FInv.alloc HI (.cells #[.string ⟨#[36]⟩, .string ⟨#[0]⟩, .string ⟨#[38]⟩, .string ⟨#[124]⟩, .string ⟨#[34]⟩, .string ⟨#[39]⟩, .string ⟨#[95]⟩, .string ⟨#[48, 48]⟩, .string ⟨#[48, 49]⟩, .string ⟨#[49, 97]⟩, .string ⟨#[49, 95]⟩, .string ⟨#[57, 50, 50, 51, 51, 55, 50, 48, 51, 54, 56, 53, 52, 55, 55, 53, 56, 48, 56]⟩, .string ⟨#[49, 48, 48, 48, 48, 48, 48, 48, 48, 48, 48, 48, 48, 48, 48, 48, 48, 48, 48, 48]⟩, .string ⟨#[97, 98, 99, 100, 101, 102, 103, 104, 105, 106, 107, 108, 109, 110, 111, 112, 113]⟩, .string ⟨#[255]⟩, .string ⟨#[46]⟩, .string ⟨#[58]⟩, .string ⟨#[35]⟩, .string ⟨#[64]⟩, .string ⟨#[126]⟩] 9)
        have hh := wrong_any (txt0 ++ [10] ++ ([58] ++ ms)) (txt0.length + 1) (by simp; omega) _ (FInv.good HI)
        rw [HB.out, show ((txt0.length + 1 : Nat) : Int) = (txt0.length : Int) + 1 from by simp] at hh
        refine (wrong_at_ hh (cat4 txt0 [10] [58] ms)).mono ?_
        rintro e w4 ⟨rfl, b4⟩
        have HI := FInv.call HI b4
        clear b4
        go_wp2_with fail
        refine (works_any _ (FInv.good HI)).mono ?_
        rintro e w5 ⟨rfl, b5⟩
        have HI := FInv.call HI b5
        clear b5
        go_wp2_with fail
        go_ret
        exact ⟨rfl, HI.out.2⟩
      · have hq2 : what.tmod 20 = 17 := by rw [Int.tmod_eq_emod_of_nonneg l0]; exact hq
        have hq3 : what % 20 = 17 := hq
        have l3 : ¬ 9223372036854775807 < txt0.length + 1 + 1 := by omega
        have l4 : ¬ 9223372036854775807 < txt0.length + 1 + 1 + ms.length := by omega
        obtain ⟨y1, y2, y3⟩ := Lex.bad17 ms
        have hb := wrong_text HIt.out y1 y2 y3
        rw [HT0.out] at hb
        have HB := Lib.hid hb
        clear hb y1 y2 y3
        go_wp2_with fail
        have HI := FInv.alloc HI (.cells #[.string ⟨#[36]⟩, .string ⟨#[0]⟩, .string ⟨#[38]⟩, .string ⟨#[124]⟩, .string ⟨#[34]⟩, .string ⟨#[39]⟩, .string ⟨#[95]⟩, .string ⟨#[48, 48]⟩, .string ⟨#[48, 49]⟩, .string ⟨#[49, 97]⟩, .string ⟨#[49, 95]⟩, .string ⟨#[57, 50, 50, 51, 51, 55, 50, 48, 51, 54, 56, 53, 52, 55, 55, 53, 56, 48, 56]⟩, .string ⟨#[49, 48, 48, 48, 48, 48, 48, 48, 48, 48, 48, 48, 48, 48, 48, 48, 48, 48, 48, 48]⟩, .string ⟨#[97, 98, 99, 100, 101, 102, 103, 104, 105, 106, 107, 108, 109, 110, 111, 112, 113]⟩, .string ⟨#[255]⟩, .string ⟨#[46]⟩, .string ⟨#[58]⟩, .string ⟨#[35]⟩, .string ⟨#[64]⟩, .string ⟨#[126]⟩] 9)
        have hh := wrong_any (txt0 ++ [10] ++ ([35] ++ ms)) (txt0.length + 1) (by simp; omega) _ (FInv.good HI)
        rw [HB.out, show ((txt0.length + 1 : Nat) : Int) = (txt0.length : Int) + 1 from by simp] at hh
        refine (wrong_at_ hh (cat4 txt0 [10] [35] ms)).mono ?_
        rintro e w4 ⟨rfl, b4⟩
        have HI := FInv.call HI b4
        clear b4
        go_wp2_with fail
        refine (works_any _ (FInv.good HI)).mono ?_
        rintro e w5 ⟨rfl, b5⟩
        have HI := FInv.call HI b5
        clear b5
        go_wp2_with fail
        go_ret
        exact ⟨rfl, HI.out.2⟩
      · have hq2 : what.tmod 20 = 18 := by rw [Int.tmod_eq_emod_of_nonneg l0]; exact hq
        have hq3 : what % 20 = 18 := hq
        have l3 : ¬ 9223372036854775807 < txt0.length + 1 + 1 := by omega
        have l4 : ¬ 9223372036854775807 < txt0.length + 1 + 1 + ms.length := by omega
        obtain ⟨y1, y2, y3⟩ := Lex.bad18 ms
        have hb := wrong_text HIt.out y1 y2 y3
        rw [HT0.out] at hb
        have HB := Lib.hid hb
        clear hb y1 y2 y3
        go_wp2_with fail
        have HI := FInv.alloc HI (.cells #[.string ⟨#[36]⟩, .string ⟨#[0]⟩, .string ⟨#[38]⟩, .string ⟨#[124]⟩, .string ⟨#[34]⟩, .string ⟨#[39]⟩, .string ⟨#[95]⟩, .string ⟨#[48, 48]⟩, .string ⟨#[48, 49]⟩, .string ⟨#[49, 97]⟩, .string ⟨#[49, 95]⟩, .string ⟨#[57, 50, 50, 51, 51, 55, 50, 48, 51, 54, 56, 53, 52, 55, 55, 53, 56, 48, 56]⟩, .string ⟨#[49, 48, 48, 48, 48, 48, 48, 48, 48, 48, 48, 48, 48, 48, 48, 48, 48, 48, 48, 48]⟩, .string ⟨#[97, 98, 99, 100, 101, 102, 103, 104, 105, 106, 107, 108, 109, 110, 111, 112, 113]⟩, .string ⟨#[255]⟩, .string ⟨#[46]⟩, .string ⟨#[58]⟩, .string ⟨#[35]⟩, .string ⟨#[64]⟩, .string ⟨#[126]⟩] 9)
        have hh := wrong_any (txt0 ++ [10] ++ ([64] ++ ms)) (txt0.length + 1) (by simp; omega) _ (FInv.good HI)
        rw [HB.out, show ((txt0.length + 1 : Nat) : Int) = (txt0.length : Int) + 1 from by simp] at hh
        refine (wrong_at_ hh (cat4 txt0 [10] [64] ms)).mono ?_
        rintro e w4 ⟨rfl, b4⟩
        have HI := FInv.call HI b4
        clear b4
        go_wp2_with fail
        refine (works_any _ (FInv.good HI)).mono ?_
        rintro e w5 ⟨rfl, b5⟩
        have HI := FInv.call HI b5
        clear b5
        go_wp2_with fail
        go_ret
        exact ⟨rfl, HI.out.2⟩
      · have hq2 : what.tmod 20 = 19 := by rw [Int.tmod_eq_emod_of_nonneg l0]; exact hq
        have hq3 : what % 20 = 19 := hq
        have l3 : ¬ 9223372036854775807 < txt0.length + 1 + 1 := by omega
        have l4 : ¬ 9223372036854775807 < txt0.length + 1 + 1 + ms.length := by omega
        obtain ⟨y1, y2, y3⟩ := Lex.bad19 ms
        have hb := wrong_text HIt.out y1 y2 y3
        rw [HT0.out] at hb
        have HB := Lib.hid hb
        clear hb y1 y2 y3
        go_wp2_with fail
        have HI := FInv.alloc HI (.cells #[.string ⟨#[36]⟩, .string ⟨#[0]⟩, .string ⟨#[38]⟩, .string ⟨#[124]⟩, .string ⟨#[34]⟩, .string ⟨#[39]⟩, .string ⟨#[95]⟩, .string ⟨#[48, 48]⟩, .string ⟨#[48, 49]⟩, .string ⟨#[49, 97]⟩, .string ⟨#[49, 95]⟩, .string ⟨#[57, 50, 50, 51, 51, 55, 50, 48, 51, 54, 56, 53, 52, 55, 55, 53, 56, 48, 56]⟩, .string ⟨#[49, 48, 48, 48, 48, 48, 48, 48, 48, 48, 48, 48, 48, 48, 48, 48, 48, 48, 48, 48]⟩, .string ⟨#[97, 98, 99, 100, 101, 102, 103, 104, 105, 106, 107, 108, 109, 110, 111, 112, 113]⟩, .string ⟨#[255]⟩, .string ⟨#[46]⟩, .string ⟨#[58]⟩, .string ⟨#[35]⟩, .string ⟨#[64]⟩, .string ⟨#[126]⟩] 9)
        have hh := wrong_any (txt0 ++ [10] ++ ([126] ++ ms)) (txt0.length + 1) (by simp; omega) _ (FInv.good HI)
        rw [HB.out, show ((txt0.length + 1 : Nat) : Int) = (txt0.length : Int) + 1 from by simp] at hh
        refine (wrong_at_ hh (cat4 txt0 [10] [126] ms)).mono ?_
        rintro e w4 ⟨rfl, b4⟩
        have HI := FInv.call HI b4
        clear b4
        go_wp2_with fail
        refine (works_any _ (FInv.good HI)).mono ?_
        rintro e w5 ⟨rfl, b5⟩
        have HI := FInv.call HI b5
        clear b5
        go_wp2_with fail
        go_ret
        exact ⟨rfl, HI.out.2⟩
end Go.Proofs.YtkjpnciimabclaaDoor


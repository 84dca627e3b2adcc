/-
  LAYER 2: what is refused: the statement's walk.
-/
import Derived.Test.YtdogdpjgkhcndaaDoorNumE
namespace Go.Proofs.YtdogdpjgkhcndaaDoor
open Go.ChangeShapes Go.WideShapes Go.ChangeAt Go.RowKit

/-! ### Strings that are no numbers -/
def badOnes (s : List UInt8) : List (List UInt8) := [[], [45], 43 :: s, 48 :: s, 32 :: s, s ++ [32], s ++ [46], 45 :: 45 :: s, s ++ [45], s ++ [101, 49], [45, 48], s ++ [0]]
theorem no_dig {c : UInt8} (h : c.toNat < 48 ∨ 57 < c.toNat) : ¬ Dec.isDig c := by unfold Dec.isDig; omega
theorem behind_bad {s r : List UInt8} {c : UInt8} (h0 : s ≠ []) (hc : ¬ Dec.isDig c) : Num.parse (s ++ c :: r) = none :=
  Num.bad_byte (k := s.length) (c := c) (by simp) hc (fun e => absurd (List.eq_nil_of_length_eq_zero e) h0)
theorem minus_alone : Num.parse [45] = none := Num.parse_none fun n _ _ e => by
  by_cases hn : n < 0
  · rw [Dec.itoa_neg hn] at e
    exact Dec.dec_ne _ (List.cons.inj e).2
  · rw [Dec.itoa_nn (by omega)] at e
    exact Num.no_minus e
theorem zero_front {a : Int} : Num.parse (48 :: Lib.itoa a) = none := Num.parse_none fun n _ _ e => by
  by_cases hn : n < 0
  · rw [Dec.itoa_neg hn] at e
    exact absurd (List.cons.inj e).1 (by decide)
  · rw [Dec.itoa_nn (by omega)] at e
    by_cases h0 : n.toNat = 0
    · rw [h0, Dec.dec_small (by decide)] at e
      exact Dec.itoa_ne a (List.cons.inj e).2.symm
    · obtain ⟨c, r, e2, h1, _⟩ := Dec.dec_head n.toNat (by omega)
      rw [e2] at e
      rw [(List.cons.inj e).1] at h1
      exact absurd h1 (by decide)
theorem badOnes_none (a : Int) : ∀ x ∈ badOnes (Lib.itoa a), Num.parse x = none := by
  have h0 := Dec.itoa_ne a
  have z := @zero_front a
  generalize Lib.itoa a = s at h0 z ⊢
  intro x hx
  simp only [badOnes, List.mem_cons, List.not_mem_nil, or_false] at hx
  rcases hx with rfl | rfl | rfl | rfl | rfl | rfl | rfl | rfl | rfl | rfl | rfl | rfl
  · exact Num.parse_nil
  · exact minus_alone
  · exact Num.bad_byte (k := 0) (c := 43) rfl (by unfold Dec.isDig; decide) (fun _ => by decide)
  · exact z
  · exact Num.bad_byte (k := 0) (c := 32) rfl (by unfold Dec.isDig; decide) (fun _ => by decide)
  · exact behind_bad h0 (by unfold Dec.isDig; decide)
  · exact behind_bad h0 (by unfold Dec.isDig; decide)
  · exact Num.bad_byte (k := 1) (c := 45) rfl (by unfold Dec.isDig; decide) (fun h => by cases h)
  · exact behind_bad h0 (by unfold Dec.isDig; decide)
  · exact behind_bad h0 (by unfold Dec.isDig; decide)
  · exact Num.minus_nought
  · exact behind_bad h0 (by unfold Dec.isDig; decide)
theorem badOnes_len (s : List UInt8) (hs : s.length ≤ 20) : ∀ x ∈ badOnes s, x.length ≤ 30 := by
  intro x hx
  simp only [badOnes, List.mem_cons, List.not_mem_nil, or_false] at hx
  rcases hx with rfl | rfl | rfl | rfl | rfl | rfl | rfl | rfl | rfl | rfl | rfl | rfl <;> simp <;> omega
def badLists (s : List UInt8) : List (List UInt8) := [[44], s ++ [44], 44 :: s, s ++ [44, 44] ++ s, s ++ [44, 32] ++ s, s ++ [59] ++ s]
theorem no_comma {c : UInt8} {s : List UInt8} (hc : c ≠ 44) (hs : ∀ d ∈ s, d ≠ 44) : ∀ d ∈ c :: s, d ≠ 44 := by
  intro d hd
  rcases List.mem_cons.1 hd with rfl | hd
  · exact hc
  · exact hs d hd
theorem no_comma2 {r s : List UInt8} (hr : ∀ d ∈ r, d ≠ 44) (hs : ∀ d ∈ s, d ≠ 44) : ∀ d ∈ r ++ s, d ≠ 44 := by
  intro d hd
  rcases List.mem_append.1 hd with hd | hd
  · exact hr d hd
  · exact hs d hd
theorem badLists_none (a : Int) : ∀ x ∈ badLists (Lib.itoa a), Num.list x = none := by
  have h0 := Dec.itoa_ne a
  have hc := Num.itoa_comma a
  generalize Lib.itoa a = s at h0 hc ⊢
  intro x hx
  simp only [badLists, List.mem_cons, List.not_mem_nil, or_false] at hx
  rcases hx with rfl | rfl | rfl | rfl | rfl | rfl
  · exact Num.list_bad (p := []) (by rw [Num.pieces_comma]; simp) Num.parse_nil (by simp)
  · exact Num.list_bad (p := []) (by rw [Num.pieces_split s [] hc]; simp [show Num.pieces [] = [[]] from rfl]) Num.parse_nil (by simp)
  · exact Num.list_bad (p := []) (by rw [Num.pieces_comma]; simp) Num.parse_nil (by simp)
  · exact Num.list_bad (p := []) (by rw [List.append_assoc, show [44, 44] ++ s = 44 :: (44 :: s) from rfl, Num.pieces_split s _ hc, Num.pieces_comma]; simp) Num.parse_nil (by simp [h0])
  · refine Num.list_bad (p := 32 :: s) (by rw [List.append_assoc, show [44, 32] ++ s = 44 :: (32 :: s) from rfl, Num.pieces_split s _ hc, Num.pieces_end (32 :: s) (no_comma (by decide) hc)]; simp) ?_ (by simp [h0])
    exact Num.bad_byte (k := 0) (c := 32) rfl (by unfold Dec.isDig; decide) (fun _ => by decide)
  · refine Num.list_bad (p := s ++ [59] ++ s) (by rw [Num.pieces_end _ (by rw [List.append_assoc]; exact no_comma2 hc (no_comma (by decide) hc))]; simp) ?_ (by simp [h0])
    rw [List.append_assoc]
    exact behind_bad h0 (by unfold Dec.isDig; decide)
theorem badLists_len (s : List UInt8) (hs : s.length ≤ 20) : ∀ x ∈ badLists s, x.length ≤ 60 := by
  intro x hx
  simp only [badLists, List.mem_cons, List.not_mem_nil, or_false] at hx
  rcases hx with rfl | rfl | rfl | rfl | rfl | rfl <;> simp <;> omega
def strs (l : List (List UInt8)) : Array Value := (l.map fun x => Value.string ⟨x.toArray⟩).toArray
theorem strs_at {w : World} {g : Nat} {T : TypeId} {l : List (List UInt8)} (h : Blk w g T (strs l)) {k : Nat} {x : List UInt8} (hx : l[k]? = some x) : w.cell? ⟨g, k, none⟩ = some (.string ⟨x.toArray⟩) := by
  rw [h.cell k]
  unfold strs
  rw [List.getElem?_toArray, List.getElem?_map, hx]
  rfl
abbrev onesA (s : List UInt8) : Array Value := #[.string ⟨#[]⟩, .string ⟨#[45]⟩, .string (⟨#[43]⟩ ++ ⟨s.toArray⟩), .string (⟨#[48]⟩ ++ ⟨s.toArray⟩), .string (⟨#[32]⟩ ++ ⟨s.toArray⟩), .string (⟨s.toArray⟩ ++ ⟨#[32]⟩), .string (⟨s.toArray⟩ ++ ⟨#[46]⟩), .string (⟨#[45, 45]⟩ ++ ⟨s.toArray⟩), .string (⟨s.toArray⟩ ++ ⟨#[45]⟩), .string (⟨s.toArray⟩ ++ ⟨#[101, 49]⟩), .string ⟨#[45, 48]⟩, .string (⟨s.toArray⟩ ++ ⟨#[0]⟩)]
abbrev listsA (s : List UInt8) : Array Value := #[.string ⟨#[44]⟩, .string (⟨s.toArray⟩ ++ ⟨#[44]⟩), .string (⟨#[44]⟩ ++ ⟨s.toArray⟩), .string (⟨s.toArray⟩ ++ ⟨#[44, 44]⟩ ++ ⟨s.toArray⟩), .string (⟨s.toArray⟩ ++ ⟨#[44, 32]⟩ ++ ⟨s.toArray⟩), .string (⟨s.toArray⟩ ++ ⟨#[59]⟩ ++ ⟨s.toArray⟩)]
theorem lit_l (x : UInt8) (s : List UInt8) : (⟨#[x]⟩ ++ ⟨s.toArray⟩ : ByteArray) = ⟨(x :: s).toArray⟩ := by rw [show (⟨#[x]⟩ : ByteArray) = ⟨[x].toArray⟩ from rfl, ByteArray.mk_append_mk]; rfl
theorem lit_l2 (x y : UInt8) (s : List UInt8) : (⟨#[x, y]⟩ ++ ⟨s.toArray⟩ : ByteArray) = ⟨(x :: y :: s).toArray⟩ := by rw [show (⟨#[x, y]⟩ : ByteArray) = ⟨[x, y].toArray⟩ from rfl, ByteArray.mk_append_mk]; rfl
theorem lit_r (x : UInt8) (s : List UInt8) : (⟨s.toArray⟩ ++ ⟨#[x]⟩ : ByteArray) = ⟨(s ++ [x]).toArray⟩ := by rw [show (⟨#[x]⟩ : ByteArray) = ⟨[x].toArray⟩ from rfl, ByteArray.mk_append_mk]
theorem lit_r2 (x y : UInt8) (s : List UInt8) : (⟨s.toArray⟩ ++ ⟨#[x, y]⟩ : ByteArray) = ⟨(s ++ [x, y]).toArray⟩ := by rw [show (⟨#[x, y]⟩ : ByteArray) = ⟨[x, y].toArray⟩ from rfl, ByteArray.mk_append_mk]
theorem ones_strs (s : List UInt8) : onesA s = strs (badOnes s) := by
  unfold onesA strs badOnes
  rw [lit_l, lit_l, lit_l, lit_r, lit_r, lit_l2, lit_r, lit_r2, lit_r]
  rfl
theorem lists_strs (s : List UInt8) : listsA s = strs (badLists s) := by
  unfold listsA strs badLists
  rw [lit_r, lit_l, lit_r2, lit_r2, lit_r, ByteArray.mk_append_mk, ByteArray.mk_append_mk, ByteArray.mk_append_mk]
  rfl

set_option maxHeartbeats 8000000 in
set_option maxRecDepth 100000 in
theorem numberRefuses_walk (far : Int) (f0 : 0 ≤ far) (f1 : far ≤ 65535) (a : Int) (a0 : -9223372036854775808 ≤ a) (a1 : a ≤ 9223372036854775807) (b : Int) (b0 : -9223372036854775808 ≤ b) (b1 : b ≤ 9223372036854775807) (front : ByteArray) (_ : front.size ≤ maxLen) (w : World) (hG : Good w) :
    Calls Tryd.prog 10 #[.int .u16 far, .int .i64 a, .int .i64 b, .string front] w fun e w' => e = .returned (.bool true) ∧ Below w.heap.size w w' := by
  obtain ⟨fr, rfl⟩ : ∃ l : List UInt8, front = ⟨l.toArray⟩ := ⟨front.data.toList, rfl⟩
  have HI : Hid (FInv w w) := Lib.hid ⟨hG, Below.refl _ _⟩
  clear hG
  by_cases hbig : 100 < fr.length
  · go_enter Tryd.func10, Tryd.ntmps10
    go_wp2_with fail
    refine (works_any _ (FInv.good HI)).mono ?_
    rintro e w1 ⟨rfl, b⟩
    have HI := FInv.call HI b
    clear b
    go_wp2_with fail
    go_ret
    exact ⟨rfl, HI.out.2⟩
  obtain ⟨T, hT⟩ := elt_of (x := a) ⟨a0, a1⟩
  have hbo := badOnes_none a
  have hbl := badLists_none a
  rw [← hT.it] at hbo hbl
  have HT := Lib.hid hT
  have HBO := Lib.hid hbo
  have HBL := Lib.hid hbl
  have hT2 := hT.l2
  have HDo : Hid (∀ op, (op ≤ 0 ∨ 6 ≤ op) → ∀ W, Calls Tryd.prog 11 #[.int .i64 op, .int .i64 a, .int .i64 b] W fun e w' => e = .returned (.tuple #[.int .i64 0, .int .i64 0, .int .i64 2]) ∧ W = w') := Lib.hid fun op hop W => by
    have h := do_any op a b a0 a1 b0 b1 W
    have e1 : doN op a b = 0 := by
      unfold doN
      rw [if_neg (by omega), if_neg (by omega), if_neg (by omega), if_neg (by omega), if_neg (by omega)]
    have e2 : doT op b = 0 := by
      unfold doT
      rw [if_neg (by omega)]
    have e3 : doE op = 2 := by
      unfold doE
      rw [if_neg (by omega)]
    rwa [e1, e2, e3] at h
  have HCm : Hid (∀ op, (op < 6 ∨ 11 < op) → ∀ W, Good W → Calls Tryd.prog 13 #[.int .i64 op, .int .i64 a, .int .i64 b] W fun e w' => e = .returned (.tuple #[.bool false, .int .i64 2]) ∧ W = w') := Lib.hid fun op hop W hG => by
    have h := compare_any op a b W hG
    obtain ⟨e1, e2⟩ := cmp_out op a b hop
    rwa [e1, e2] at h
  have lT1 : ¬ 9223372036854775807 < T.length + 1 := by omega
  have lT2 : ¬ 9223372036854775807 < T.length + 2 := by omega
  have lT3 : ¬ 9223372036854775807 < 1 + T.length := by omega
  have lT4 : ¬ 9223372036854775807 < 2 + T.length := by omega
  have lT5 : ¬ 9223372036854775807 < T.length + 2 + T.length := by omega
  have lT6 : ¬ 9223372036854775807 < T.length + 1 + T.length := by omega
  have lT7 : ¬ 9223372036854775807 < fr.length + T.length := by omega
  clear hT hbo hbl
  go_enter Tryd.func10, Tryd.ntmps10
  go_wp2_with fail
  have HS1 : Hid (Blk (w.alloc (.cells #[.int .i64 (-far), .int .i64 (6 + far)] 3)) w.heap.size 3 #[.int .i64 (-far), .int .i64 (6 + far)]) := Lib.hid (Blk.new _ _ _)
  have HI := FInv.alloc HI (.cells #[.int .i64 (-far), .int .i64 (6 + far)] 3)
  go_loopw [42] (fun i wr => ∃ k : Nat, k ≤ 2 ∧ i = .int .i64 k ∧ Hid (FInv w wr) ∧ Hid (Blk wr w.heap.size 3 #[.int .i64 (-far), .int .i64 (6 + far)])) (fun i _ => 2 - (intOf i).toNat)
  case atStart => exact ⟨0, by omega, rfl, HI, HS1⟩
  case round =>
    obtain ⟨k, hk, rfl, HI, HS1⟩ := hrel
    rcases (show k = 0 ∨ k = 1 ∨ k = 2 by omega) with rfl | rfl | rfl
    · have c0 : wr.cell? ⟨w.heap.size, 0, none⟩ = some (.int .i64 (-far)) := HS1.out.cell 0
      go_wp2_with fail
      refine (HDo.out _ (.inl (by omega)) _).mono ?_
      rintro e w1 ⟨rfl, rfl⟩
      go_wp2_with fail
      go_roundw
      case rel => exact ⟨1, by omega, rfl, HI, HS1⟩
      case measure => simp [intOf]
    · have c0 : wr.cell? ⟨w.heap.size, 1, none⟩ = some (.int .i64 (6 + far)) := HS1.out.cell 1
      go_wp2_with fail
      refine (HDo.out _ (.inr (by omega)) _).mono ?_
      rintro e w1 ⟨rfl, rfl⟩
      go_wp2_with fail
      go_roundw
      case rel => exact ⟨2, by omega, rfl, HI, HS1⟩
      case measure => simp [intOf]
    · rw [show ((2 : Nat) : Int) = 2 from rfl]
      clear HS1 HDo hk
      go_wp2_with fail
      have HS2 : Hid (Blk (wr.alloc (.cells #[.int .i64 (5 - far), .int .i64 (12 + far)] 3)) wr.heap.size 3 #[.int .i64 (5 - far), .int .i64 (12 + far)]) := Lib.hid (Blk.new _ _ _)
      have HI := FInv.alloc HI (.cells #[.int .i64 (5 - far), .int .i64 (12 + far)] 3)
      obtain ⟨g2, hg2⟩ : ∃ x : Nat, wr.heap.size = x := ⟨_, rfl⟩
      rw [hg2] at HS2 ⊢
      clear hg2
      go_loopw [71] (fun i wr => ∃ k : Nat, k ≤ 2 ∧ i = .int .i64 k ∧ Hid (FInv w wr) ∧ Hid (Blk wr g2 3 #[.int .i64 (5 - far), .int .i64 (12 + far)])) (fun i _ => 2 - (intOf i).toNat)
      case atStart => exact ⟨0, by omega, rfl, HI, HS2⟩
      case round =>
        obtain ⟨k, hk, rfl, HI, HS2⟩ := hrel
        rcases (show k = 0 ∨ k = 1 ∨ k = 2 by omega) with rfl | rfl | rfl
        · have c0 : wr.cell? ⟨g2, 0, none⟩ = some (.int .i64 (5 - far)) := HS2.out.cell 0
          go_wp2_with fail
          refine (HCm.out _ (.inl (by omega)) _ (FInv.good HI)).mono ?_
          rintro e w1 ⟨rfl, rfl⟩
          go_wp2_with fail
          go_roundw
          case rel => exact ⟨1, by omega, rfl, HI, HS2⟩
          case measure => simp [intOf]
        · have c0 : wr.cell? ⟨g2, 1, none⟩ = some (.int .i64 (12 + far)) := HS2.out.cell 1
          go_wp2_with fail
          refine (HCm.out _ (.inr (by omega)) _ (FInv.good HI)).mono ?_
          rintro e w1 ⟨rfl, rfl⟩
          go_wp2_with fail
          go_roundw
          case rel => exact ⟨2, by omega, rfl, HI, HS2⟩
          case measure => simp [intOf]
        · rw [show ((2 : Nat) : Int) = 2 from rfl]
          clear HS2 HCm hk
          go_wp2_with fail
          refine (HT.out.tx _ (FInv.good HI)).mono ?_
          rintro e w2 ⟨rfl, b⟩
          have HI := FInv.call HI b
          clear b
          go_wp2_with fail
          have HS3 : Hid (Blk (w2.alloc (.cells (onesA T) 9)) w2.heap.size 9 (strs (badOnes T))) := Lib.hid (by rw [← ones_strs]; exact Blk.new _ _ _)
          have HI := FInv.alloc HI (.cells (onesA T) 9)
          obtain ⟨g3, hg3⟩ : ∃ x : Nat, w2.heap.size = x := ⟨_, rfl⟩
          rw [hg3] at HS3 ⊢
          clear hg3
          go_loopw [110] (fun i wr => ∃ k : Nat, k ≤ 12 ∧ i = .int .i64 k ∧ Hid (FInv w wr) ∧ Hid (Blk wr g3 9 (strs (badOnes T)))) (fun i _ => 12 - (intOf i).toNat)
          case atStart => exact ⟨0, by omega, rfl, HI, HS3⟩
          case round =>
            obtain ⟨k, hk, rfl, HI, HS3⟩ := hrel
            by_cases hlt : k < 12
            · obtain ⟨x, hx⟩ : ∃ x, (badOnes T)[k]? = some x := ⟨_, List.getElem?_eq_getElem (show k < (badOnes T).length from hlt)⟩
              have c0 := strs_at HS3.out hx
              have hm := List.mem_of_getElem? hx
              have hl := badOnes_len T hT2 x hm
              obtain ⟨p1, p2⟩ := errP_none (HBO.out x hm)
              have h1 := fun W hW => nparse_any x (by omega) W hW
              rw [p1, p2] at h1
              have H1 := Lib.hid h1
              clear h1 p1 p2 hx hm
              go_wp2_with fail
              refine (H1.out _ (FInv.good HI)).mono ?_
              rintro e w3 ⟨rfl, b⟩
              have HI := FInv.call HI b
              have HS3 := Lib.hid (HS3.out.call b)
              clear b c0
              go_wp2_with fail
              go_roundw
              case rel => exact ⟨k + 1, hlt, by go_num, HI, HS3⟩
              case measure => simp [intOf]; omega
            · obtain rfl : k = 12 := by omega
              rw [show ((12 : Nat) : Int) = 12 from rfl]
              clear HS3 HBO hk hlt
              go_wp2_with fail
              have HS4 : Hid (Blk (wr.alloc (.cells (listsA T) 9)) wr.heap.size 9 (strs (badLists T))) := Lib.hid (by rw [← lists_strs]; exact Blk.new _ _ _)
              have HI := FInv.alloc HI (.cells (listsA T) 9)
              obtain ⟨g4, hg4⟩ : ∃ x : Nat, wr.heap.size = x := ⟨_, rfl⟩
              rw [hg4] at HS4 ⊢
              clear hg4
              go_loopw [144] (fun i wr => ∃ k : Nat, k ≤ 6 ∧ i = .int .i64 k ∧ Hid (FInv w wr) ∧ Hid (Blk wr g4 9 (strs (badLists T)))) (fun i _ => 6 - (intOf i).toNat)
              case atStart => exact ⟨0, by omega, rfl, HI, HS4⟩
              case round =>
                obtain ⟨k, hk, rfl, HI, HS4⟩ := hrel
                by_cases hlt : k < 6
                · obtain ⟨x, hx⟩ : ∃ x, (badLists T)[k]? = some x := ⟨_, List.getElem?_eq_getElem (show k < (badLists T).length from hlt)⟩
                  have c0 := strs_at HS4.out hx
                  have hm := List.mem_of_getElem? hx
                  have hl := badLists_len T hT2 x hm
                  obtain ⟨p1, p2⟩ := numsL_none (HBL.out x hm)
                  have h1 := fun W hW => nlist_any x (by omega) W hW
                  rw [p1, p2] at h1
                  have H1 := Lib.hid h1
                  clear h1 p1 p2 hx hm
                  go_wp2_with fail
                  refine (H1.out _ (FInv.good HI)).mono ?_
                  rintro e w3 ⟨v, rfl, o, b⟩
                  have HI := FInv.call HI b
                  have HS4 := Lib.hid (HS4.out.call b)
                  obtain ⟨A, cp, rfl, _⟩ := own_slice o
                  clear b c0 o
                  go_wp2_with fail
                  go_roundw
                  case rel => exact ⟨k + 1, hlt, by go_num, HI, HS4⟩
                  case measure => simp [intOf]; omega
                · obtain rfl : k = 6 := by omega
                  rw [show ((6 : Nat) : Int) = 6 from rfl]
                  clear HS4 HBL hk hlt
                  by_cases hne : fr = []
                  · subst hne
                    go_wp2_with fail
                    refine (works_any _ (FInv.good HI)).mono ?_
                    rintro e w4 ⟨rfl, b⟩
                    have HI := FInv.call HI b
                    clear b
                    go_wp2_with fail
                    go_ret
                    exact ⟨rfl, HI.out.2⟩
                  · obtain ⟨c, hc⟩ : ∃ c, fr[fr.length - 1]? = some c := ⟨_, List.getElem?_eq_getElem (by have := List.length_pos_iff.2 hne; omega)⟩
                    have hx : ∀ h, ((⟨fr.toArray⟩ : ByteArray)[fr.length - 1]'h) = c := fun h => (List.getElem?_eq_some_iff.1 hc).2
                    have hE : fr.isEmpty = false := by cases fr with | nil => exact absurd rfl hne | cons x r => rfl
                    have hpos : 1 ≤ fr.length := List.length_pos_iff.2 hne
                    by_cases h45 : c = 45
                    · have q1 : (c.toNat : Int) = 45 := by rw [h45]; rfl
                      clear hc hne h45
                      go_wp2_with fail
                      refine (works_any _ (FInv.good HI)).mono ?_
                      rintro e w4 ⟨rfl, b⟩
                      have HI := FInv.call HI b
                      clear b
                      go_wp2_with fail
                      go_ret
                      exact ⟨rfl, HI.out.2⟩
                    · have q1 : ((c.toNat : Int) == 45) = false := by
                        simp
                        intro h
                        exact h45 (UInt8.toNat_inj.1 (by rw [show (45 : UInt8).toNat = 45 from rfl]; omega))
                      have q1b : ¬ (c.toNat : Int) = 45 := by simpa using q1
                      have hb : ¬ Dec.isDig c → Num.parse (fr ++ T) = none := fun hd => Num.bad_byte (k := fr.length - 1) (c := c) (by rw [List.getElem?_append_left (by omega)]; exact hc) hd (fun _ => h45)
                      have hlen : (fr ++ T).length ≤ 1000 := by rw [List.length_append]; omega
                      clear hc hne h45
                      rcases (show c.toNat < 48 ∨ (48 ≤ c.toNat ∧ c.toNat ≤ 57) ∨ 57 < c.toNat by omega) with h | ⟨h, h2⟩ | h
                      · obtain ⟨p1, p2⟩ := errP_none (hb (no_dig (.inl h)))
                        have h1 := fun W hW => nparse_any (fr ++ T) (by omega) W hW
                        rw [p1, p2] at h1
                        have H1 := Lib.hid h1
                        have q2 : (c.toNat : Int) < 48 := by omega
                        clear h1 p1 p2 hb h
                        go_wp2_with fail
                        rw [ByteArray.mk_append_mk]
                        refine (H1.out _ (FInv.good HI)).mono ?_
                        rintro e w3 ⟨rfl, b⟩
                        have HI := FInv.call HI b
                        clear b
                        go_wp2_with fail
                        refine (works_any _ (FInv.good HI)).mono ?_
                        rintro e w4 ⟨rfl, b⟩
                        have HI := FInv.call HI b
                        clear b
                        go_wp2_with fail
                        go_ret
                        exact ⟨rfl, HI.out.2⟩
                      · have q2 : (48 : Int) ≤ (c.toNat : Int) := by omega
                        have q3 : (c.toNat : Int) ≤ 57 := by omega
                        clear hb h h2
                        go_wp2_with fail
                        refine (works_any _ (FInv.good HI)).mono ?_
                        rintro e w4 ⟨rfl, b⟩
                        have HI := FInv.call HI b
                        clear b
                        go_wp2_with fail
                        go_ret
                        exact ⟨rfl, HI.out.2⟩
                      · obtain ⟨p1, p2⟩ := errP_none (hb (no_dig (.inr h)))
                        have h1 := fun W hW => nparse_any (fr ++ T) (by omega) W hW
                        rw [p1, p2] at h1
                        have H1 := Lib.hid h1
                        have q2 : (57 : Int) < (c.toNat : Int) := by omega
                        have q3 : ¬ (c.toNat : Int) < 48 := by omega
                        clear h1 p1 p2 hb h
                        go_wp2_with fail
                        rw [ByteArray.mk_append_mk]
                        refine (H1.out _ (FInv.good HI)).mono ?_
                        rintro e w3 ⟨rfl, b⟩
                        have HI := FInv.call HI b
                        clear b
                        go_wp2_with fail
                        refine (works_any _ (FInv.good HI)).mono ?_
                        rintro e w4 ⟨rfl, b⟩
                        have HI := FInv.call HI b
                        clear b
                        go_wp2_with fail
                        go_ret
                        exact ⟨rfl, HI.out.2⟩
end Go.Proofs.YtdogdpjgkhcndaaDoor

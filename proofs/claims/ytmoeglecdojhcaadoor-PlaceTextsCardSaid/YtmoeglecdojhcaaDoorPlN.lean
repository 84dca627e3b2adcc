/-
  LAYER 1: the lines are the text: the statement's walk.
-/
import Derived.Test.YtmoeglecdojhcaaDoorPlF
import Derived.Test.YtmoeglecdojhcaaDoorPl6
namespace Go.Proofs.YtmoeglecdojhcaaDoor
open Go.ChangeShapes Go.WideShapes Go.ChangeAt Go.RowKit

theorem info_str : (Tryd.prog.info? 9).map (fun i => (i.zero, i.size, i.bytes)) = some (some (.string ⟨#[]⟩), 1, 16) := by kernel_rfl
def strV (l : List (List UInt8)) : List Value := l.map fun p => .string ⟨p.toArray⟩
/-- strings.Join of a slice of the call's own. -/
theorem join_own (v : Value) (n base : Nat) (xs : List (List UInt8)) (sep : ByteArray) (w : World) (hn : n = xs.length) (hown : w.ownsRow base 9 1 v n (strV xs))
    (hN : xs.length ≤ 1000000) (hlen : (Lib.join xs sep.data.toList).length ≤ 140737488355328) :
    Calls Tryd.prog 29 #[v, .string sep] w fun e w' => e = .returned (.string ⟨(Lib.join xs sep.data.toList).toArray⟩) ∧ Below w.heap.size w w' := by
  subst hn
  unfold strV at hown
  rcases hown.2 with ⟨rfl, h0⟩ | ⟨g, cap, cur, rfl, _, hh, hnc, _, _, _⟩
  · obtain rfl : xs = [] := List.eq_nil_of_length_eq_zero h0
    exact (Tryd.strings_Join_none none 0 sep w).mono fun e w' ⟨he, hw⟩ => ⟨he, hw ▸ Below.refl _ _⟩
  · have hcells : ∀ (j : Nat) x, (xs.map fun s => (⟨s.toArray⟩ : ByteArray))[j]? = some x → w.cell? ⟨g, 0 + j, none⟩ = some (.string x) := by
      intro j x hj
      have := hown.cells (g := g) rfl j (.string x) (by
        rw [List.getElem?_map] at hj ⊢
        cases hx : xs[j]? with
        | none => rw [hx] at hj; cases hj
        | some y => rw [hx] at hj; simp at hj ⊢; rw [hj])
      rw [Go.WideShapes.add_plain] at this
      exact this
    have e1 : (xs.map fun s => (⟨s.toArray⟩ : ByteArray)).map (·.data.toList) = xs := by
      rw [List.map_map]
      exact (List.map_congr_left (fun s _ => rfl)).trans (List.map_id xs)
    have := Tryd.strings_Join g 0 cap (xs.map fun s => ⟨s.toArray⟩) sep w hcells (Array.getElem?_eq_some_iff.1 hh).1 (by simp; omega) (by simpa using hnc) (by rw [e1]; exact hlen)
    rw [e1, List.length_map] at this
    exact this
theorem join_lines : ∀ xs : List (List UInt8), Lib.join xs [10] = Lin.joined xs
  | [] => rfl
  | [p] => by simp [Lib.join, Lin.joined, List.intercalate]
  | p :: q :: r => by
    have ih := join_lines (q :: r)
    rw [Lin.joined, ← ih]
    simp [Lib.join, List.intercalate, List.intersperse]
theorem no_feed {q : List UInt8} (h : ∀ c ∈ q, c ≠ 10) : decide (0 ≤ Lib.indexByte q 10) = false := by
  rcases index_at10 q with ⟨h1, _⟩ | ⟨p, r, rfl, _, _⟩
  · rw [h1]; rfl
  · exact absurd rfl (h 10 (by simp))

set_option maxHeartbeats 8000000 in
set_option maxRecDepth 100000 in
theorem placeLines_walk (s : ByteArray) (_ : s.size ≤ maxLen) (w : World) (hG : Good w) :
    Calls Tryd.prog 9 #[.string s] w fun e w' => e = .returned (.bool true) ∧ Below w.heap.size w w' := by
  obtain ⟨s, rfl⟩ : ∃ t : List UInt8, s = ⟨t.toArray⟩ := ⟨s.data.toList, rfl⟩
  have HI : Hid (FInv w w) := Lib.hid ⟨hG, Below.refl _ _⟩
  by_cases hs : 200 < s.length
  · have k1 : (200 : Int) < (s.length : Int) := by omega
    clear hG
    go_enter Tryd.func9, Tryd.ntmps9
    go_wp2_with fail
    refine (works_any _ (FInv.good HI)).mono ?_
    rintro e w2 ⟨rfl, b⟩
    replace HI := FInv.call HI b
    clear b
    go_wp2_with fail
    go_ret
    exact ⟨rfl, HI.out.2⟩
  have k1 : ¬ (200 : Int) < (s.length : Int) := by omega
  have hcl : s.count 10 ≤ s.length := List.count_le_length
  have hlen := Lin.pieces_len s
  have HC : Hid (∀ W, Calls Tryd.prog 18 #[.string ⟨s.toArray⟩] W fun e w' => e = .returned (.int .i64 (1 + (s.count 10 : Nat))) ∧ Below W.heap.size W w') := Lib.hid fun W => count_any s (by omega) W
  have HCC : Hid (∀ W, Calls Tryd.prog 27 #[.string ⟨s.toArray⟩, .string ⟨#[10]⟩] W fun e w' => e = .returned (.int .i64 (s.count 10 : Nat)) ∧ w' = W) := Lib.hid fun W => by have := Tryd.strings_Count_one ⟨s.toArray⟩ 10 W; rw [count_list] at this; exact this
  have HLI : Hid (∀ (k : Nat) (q : List UInt8) W, Good W → (Lin.pieces s)[k]? = some q → Calls Tryd.prog 16 #[.string ⟨s.toArray⟩, .int .i64 ((k : Int) + 1)] W fun e w' => e = .returned (.tuple #[.string ⟨q.toArray⟩, .int .i64 0]) ∧ Below W.heap.size W w') := Lib.hid fun k q W hG hq => by
    have := line_any s (by omega) ((k : Int) + 1) W hG
    have e : Pl.line s ((k : Int) + 1) = some q := by unfold Pl.line; rw [if_pos (by omega), show ((k : Int) + 1 - 1).toNat = k by omega]; exact hq
    unfold liS liE at this
    rw [e] at this
    exact this
  have HJ : Hid (∀ v W, W.ownsRow w.heap.size 9 1 v (Lin.pieces s).length (strV (Lin.pieces s)) → Calls Tryd.prog 29 #[v, .string ⟨#[10]⟩] W fun e w' => e = .returned (.string ⟨s.toArray⟩) ∧ Below W.heap.size W w') := Lib.hid fun v W hown => by
    have e : Lib.join (Lin.pieces s) (⟨#[10]⟩ : ByteArray).data.toList = s := by
      show Lib.join (Lin.pieces s) [10] = s
      rw [join_lines, Lin.joined_pieces]
    have := join_own v _ w.heap.size (Lin.pieces s) ⟨#[10]⟩ W rfl hown (by omega) (by rw [e]; omega)
    rw [e] at this
    exact this
  have HNF : Hid (∀ p ∈ Lin.pieces s, ∀ c ∈ p, c ≠ 10) := Lib.hid (Lin.pieces_none s)
  obtain ⟨N, hN⟩ : ∃ N, (Lin.pieces s).length = N := ⟨_, rfl⟩
  obtain ⟨M, hM⟩ : ∃ M, s.count 10 = M := ⟨_, rfl⟩
  rw [hN, hM] at hlen
  rw [hM] at HC HCC hcl
  rw [hN] at HJ
  obtain ⟨PS, hPS⟩ : ∃ P, Lin.pieces s = P := ⟨_, rfl⟩
  rw [hPS] at HLI HJ HNF hN
  have HLen := Lib.hid hlen
  have HN := Lib.hid hN
  have hM2 : (M : Int) ≤ 200 := by omega
  obtain ⟨i0, hi, hz0, hz1, hz2⟩ := info_parts info_str
  have HGw := Lib.hid hG
  clear hG hs hM hPS hN hlen hcl
  go_enter Tryd.func9, Tryd.ntmps9
  go_wp2_with fail
  refine (HC.out _).mono ?_
  rintro e w2 ⟨rfl, b⟩
  replace HI := FInv.call HI b
  clear b
  go_wp2_with fail
  refine (HCC.out _).mono ?_
  rintro e w3 ⟨rfl, rfl⟩
  go_wp2_with fail
  go_loopw [20, 4] (fun i v wr => ∃ k : Nat, k ≤ N ∧ i = .int .i64 k ∧ Hid (FInv w wr) ∧ Hid (wr.ownsRow w.heap.size 9 1 v k (strV (PS.take k)))) (fun i _ _ => N - (intOf i).toNat)
  case atStart => exact ⟨0, Nat.zero_le _, rfl, HI, Lib.hid (World.ownsRow_nil _ _ _ _)⟩
  case round =>
    clear HI
    obtain ⟨k, hk, rfl, HI, HO⟩ := hrel
    have hnm : N = 1 + M := HLen.out
    by_cases hlt : k < N
    · obtain ⟨q, hq⟩ : ∃ q, PS[k]? = some q := ⟨_, List.getElem?_eq_getElem (by rw [HN.out]; exact hlt)⟩
      have HQ := Lib.hid hq
      have hnf := no_feed (HNF.out q (List.mem_of_getElem? hq))
      have HCo : Hid (∀ W, Calls Tryd.prog 28 #[.string ⟨q.toArray⟩, .string ⟨#[10]⟩] W fun e w' => e = .returned (.bool false) ∧ w' = W) := Lib.hid fun W => by
        have := Tryd.strings_Contains_one ⟨q.toArray⟩ 10 W
        rw [show (⟨q.toArray⟩ : ByteArray).data.toList = q from rfl, hnf] at this
        exact this
      have k2 : (k : Int) < 1 + (M : Int) := by omega
      clear hq hnf hnm
      go_wp2_with fail
      refine (HLI.out k q _ (FInv.good HI) HQ.out).mono ?_
      rintro e w4 ⟨rfl, b⟩
      replace HI := FInv.call HI b
      replace HO := Lib.hid (own_below HO.out b)
      clear b
      go_wp2_with fail
      refine (HCo.out _).mono ?_
      rintro e w5 ⟨rfl, rfl⟩
      have hown2 := HO.out
      clear HO
      go_wp2_with (at_builtin; refine wpList_append_own _ rfl _ _ 47 rfl w.heap.size 9 i0 (.string ⟨#[]⟩) 1 16 Tryd.underlying47 hi hz0 hz1 hz2 rfl (by decide) _ _ _ rfl (hown2.alloc _) ⟨w5.heap.size, 0, none⟩ 1 1 [.string ⟨q.toArray⟩] rfl rfl ?c1 ?c2 ?c3 ?c4 ?c5 ?_)
      case c1 => exact one_news _ _ _
      case c2 => intro u hu; simp at hu; subst hu; rfl
      case c3 => unfold maxLen; omega
      case c4 => omega
      case c5 => have := HI.out.2.size; simp; omega
      intro v' w6 hown4 hg4 _
      have HO4 := Lib.hid hown4
      have HB4 := (below_new HI.out.2 _).grown hg4 (by have := HI.out.2.size; simp; omega) (fun g hg => (hown2.lt g hg).1)
      have HI4 : Hid (FInv w w6) := FInv.of HGw.out HB4
      clear hown2 hown4 hg4 HI HB4
      go_wp2_with fail
      go_roundw
      case rel =>
        refine ⟨k + 1, by omega, by go_num, HI4, ?_⟩
        have h := HO4.out
        rw [take_snoc HQ.out]
        unfold strV at h ⊢
        rw [List.map_append]
        exact Lib.hid h
      case measure => simp [intOf]; omega
    · have k2 : ¬ (k : Int) < 1 + (M : Int) := by omega
      have hkn : k = N := by omega
      have hown := HO.out
      rw [hkn, List.take_of_length_le (by rw [HN.out]; omega)] at hown
      have HO2 := Lib.hid hown
      clear hown hkn hnm
      go_wp2_with fail
      refine (HJ.out _ _ HO2.out).mono ?_
      rintro e w4 ⟨rfl, b⟩
      replace HI := FInv.call HI b
      clear b
      go_wp2_with fail
      refine (works_any _ (FInv.good HI)).mono ?_
      rintro e w5 ⟨rfl, b⟩
      replace HI := FInv.call HI b
      clear b
      go_wp2_with fail
      go_ret
      exact ⟨rfl, HI.out.2⟩
end Go.Proofs.YtmoeglecdojhcaaDoor

/-
  LAYER 4: rows of tokens by numbers; tokens that are written one behind the other are found again: the statement's walk.
-/
import Derived.Test.YtkjpnciimabclaaDoorLexK4
import Derived.Lib.SmallJoins
namespace Go.Proofs.YtkjpnciimabclaaDoor
open Go.ChangeShapes Go.WideShapes Go.ChangeAt Go.RowKit

abbrev Pc := Int × Int × Int × Int
def cellsP (p : Pc) : List Value := [.int .u8 p.1, .int .u8 p.2.1, .int .u8 p.2.2.1, .int .u64 p.2.2.2]
theorem cellsP_len (p : Pc) : (cellsP p).length = 4 := rfl
def Pc.Ok (p : Pc) : Prop := (0 ≤ p.1 ∧ p.1 ≤ 255) ∧ (0 ≤ p.2.1 ∧ p.2.1 ≤ 255) ∧ (0 ≤ p.2.2.1 ∧ p.2.2.1 ≤ 255) ∧ (0 ≤ p.2.2.2 ∧ p.2.2.2 ≤ 18446744073709551615)
/-- One row of pieces. -/
theorem piece_row {H : Type} {enc : TypeId × Value → H} {w : World} {sp : Nat → Bool} {held : Bool} (n : Nat) (cs : List Value) (x : DataW H × List MemPlace) (h : DataW.trod enc Tryd.prog w 0 sp held n 40 cs = some x) (hl : cs.length = 4) : ∃ y : Pc, cs = cellsP y ∧ Pc.Ok y := by
  obtain ⟨a, b, c, d, rfl⟩ : ∃ a b c d, cs = [a, b, c, d] := by
    match cs, hl with
    | [a, b, c, d], _ => exact ⟨a, b, c, d, rfl⟩
  obtain ⟨y0, y1, y2, y3, m, _, _, h0, h1, h2, h3⟩ := Go.Joins.trod_struct4 Tryd.underlying40 h
  have k0 : Tryd.prog.cellsOf 5 = 1 := by kernel_rfl
  have k1 : Tryd.prog.cellsOf 38 = 1 := by kernel_rfl
  obtain ⟨i, ei, _, wi⟩ := DataW.trod_int Tryd.underlying5 (by simpa [k0] using h0)
  obtain ⟨j, ej, _, wj⟩ := DataW.trod_int Tryd.underlying5 (by simpa [k0] using h1)
  obtain ⟨k, ek, _, wk⟩ := DataW.trod_int Tryd.underlying5 (by simpa [k0] using h2)
  obtain ⟨u, eu, _, wu⟩ := DataW.trod_int Tryd.underlying38 (by simpa [k0, k1] using h3)
  have bi : 0 ≤ i ∧ i ≤ 255 := by simpa [Lit.wf, IntKind.min, IntKind.max, IntKind.signed, IntKind.bits] using wi
  have bj : 0 ≤ j ∧ j ≤ 255 := by simpa [Lit.wf, IntKind.min, IntKind.max, IntKind.signed, IntKind.bits] using wj
  have bk : 0 ≤ k ∧ k ≤ 255 := by simpa [Lit.wf, IntKind.min, IntKind.max, IntKind.signed, IntKind.bits] using wk
  have bu : 0 ≤ u ∧ u ≤ 18446744073709551615 := by simpa [Lit.wf, IntKind.min, IntKind.max, IntKind.signed, IntKind.bits] using wu
  refine ⟨(i, j, k, u), ?_, bi, bj, bk, bu⟩
  have e0 : a = .int .u8 i := by simpa using ei
  have e1 : b = .int .u8 j := by simpa using ej
  have e2 : c = .int .u8 k := by simpa using ek
  have e3 : d = .int .u64 u := by simpa using eu
  rw [e0, e1, e2, e3]
  rfl
theorem lexemeBack_rows0 {H : Type} {enc : TypeId × Value → H} {w : World} {sp : Nat → Bool} {held : Bool} {b0 : Nat} {v : Value} {d : DataW H} {p : List MemPlace} (hv : Value.okWide Tryd.prog w .any b0 37 v) (h : DataW.Trod enc Tryd.prog w 0 sp held 37 v d p) :
    ∃ (A : Option Addr) (cap : Nat) (l : List Pc), v = .slice A l.length cap ∧ l.length ≤ cap ∧ cap ≤ maxLen ∧ (∀ x ∈ l, Pc.Ok x) ∧ (∀ x ∈ l, (cellsP x).length = 4) ∧ Rd w w.heap.size A (l.flatMap cellsP) :=
  open_rows cellsP Pc.Ok Tryd.underlying37 (by kernel_rfl) (by decide) piece_row hv h
theorem lexemeWrong_rows0 {H : Type} {enc : TypeId × Value → H} {w : World} {sp : Nat → Bool} {held : Bool} {b0 : Nat} {v : Value} {d : DataW H} {p : List MemPlace} (hv : Value.okWide Tryd.prog w .any b0 37 v) (h : DataW.Trod enc Tryd.prog w 0 sp held 37 v d p) :
    ∃ (A : Option Addr) (cap : Nat) (l : List Pc), v = .slice A l.length cap ∧ l.length ≤ cap ∧ cap ≤ maxLen ∧ (∀ x ∈ l, Pc.Ok x) ∧ (∀ x ∈ l, (cellsP x).length = 4) ∧ Rd w w.heap.size A (l.flatMap cellsP) := lexemeBack_rows0 hv h
theorem piece_info : (Tryd.prog.info? 40).map (fun i => (i.zero, i.size, i.bytes)) = some (some (.agg #[.int .u8 0, .int .u8 0, .int .u8 0, .int .u64 0]), 4, 16) := by kernel_rfl

/-- The cells of a piece. -/
def PcAt (W : World) (b o : Nat) (p : Pc) : Prop := b < W.heap.size ∧ ∀ (r : Nat) (u : Value), (cellsP p)[r]? = some u → W.cell? ⟨b, o + r, none⟩ = some u
theorem PcAt.call {W W' : World} {b o : Nat} {p : Pc} (h : Hid (PcAt W b o p)) (hb : Below W.heap.size W W') : Hid (PcAt W' b o p) := Lib.hid ⟨Nat.lt_of_lt_of_le h.out.1 hb.size, fun r u hu => (hb.cell (p := ⟨b, o + r, none⟩) h.out.1).trans (h.out.2 r u hu)⟩

namespace Lex
def Items (is : List Item) : Prop := ∀ i ∈ is, i.gap ∈ gaps ∧ Tk i.kind i.text ∧ i.text.length ≤ 20
theorem items_len : ∀ {is : List Item}, Items is → (txt is []).length ≤ 40 * is.length
  | [], _ => by simp [txt]
  | i :: r, h => by
    have h1 := h i (by simp)
    have h2 := (gaps_ok _ h1.1).2.2
    have h3 := items_len (is := r) fun j hj => h j (by simp [hj])
    show (i.gap ++ i.text ++ txt r []).length ≤ _
    simp only [List.length_append, List.length_cons]
    omega
theorem items_more {is : List Item} {i : Item} (h : Items is) (h1 : i.gap ∈ gaps ∧ Tk i.kind i.text ∧ i.text.length ≤ 20) : Items (is ++ [i]) := by
  intro j hj
  rcases List.mem_append.1 hj with hj | hj
  · exact h j hj
  · rw [List.mem_singleton.1 hj]; exact h1
theorem items_back {is : List Item} {e : List UInt8} (h : Items is) (he : rest false e = []) (hs : Sep e) : scan (txt is e) = .ok (toksAt 0 is) :=
  back (fun i hi => ⟨(gaps_ok _ (h i hi).1).1, (h i hi).2.1⟩) (fun i hi => (gaps_ok _ (h i (List.mem_of_mem_tail hi)).1).2.1) he hs
end Lex

set_option maxHeartbeats 4000000 in
set_option maxRecDepth 100000 in
theorem lexemeBack_walk (w : World) (A : Option Addr) (cap : Nat) (l : List Pc) (_ : l.length ≤ cap) (_ : cap ≤ maxLen) (hg : ∀ x ∈ l, Pc.Ok x) (hrd : Rd w w.heap.size A (l.flatMap cellsP)) (last : Int) (l0 : 0 ≤ last) (_ : last ≤ 255) (hG : Good w) :
    Calls Tryd.prog 6 #[.slice A l.length cap, .int .u8 last] w fun e w' => e = .returned (.bool true) ∧ Below w.heap.size w w' := by
  obtain ⟨i0, hi, hz0, hz1, hz2⟩ := info_parts info_tok
  have HI : Hid (FInv w w) := Lib.hid ⟨hG, Below.refl _ _⟩
  have HG := Lib.hid hG
  have HR := Lib.hid hrd
  have HOk := Lib.hid hg
  clear hG hrd hg
  by_cases hbig : 40 < l.length
  · go_enter Tryd.func6, Tryd.ntmps6
    go_wp2_with fail
    refine (works_any _ (FInv.good HI)).mono ?_
    rintro e w1 ⟨rfl, b⟩
    have HI := FInv.call HI b
    clear b
    go_wp2_with fail
    go_ret
    exact ⟨rfl, HI.out.2⟩
  · go_enter Tryd.func6, Tryd.ntmps6
    go_wp2_with fail
    go_loopw [5, 6, 7] (fun s v i wr => ∃ (is : List Lex.Item), is.length ≤ l.length ∧ s = .string ⟨(Lex.txt is []).toArray⟩ ∧ i = .int .i64 is.length ∧ wr.ownsRow w.heap.size 32 3 v is.length ((Lex.toksAt 0 is).flatMap cellsT) ∧ Hid (FInv w wr) ∧ Hid (Lex.Items is)) (fun _ _ i _ => l.length - (intOf i).toNat)
    case atStart => exact ⟨[], Nat.zero_le _, rfl, rfl, World.ownsRow_nil _ _ _ _, HI, Lib.hid (fun i hi => by cases hi)⟩
    case round =>
      obtain ⟨is, hk, rfl, rfl, hown, HI, HIt⟩ := hrel
      have HO := Lib.hid hown
      clear hown
      obtain ⟨k, hkk⟩ : ∃ k, is.length = k := ⟨_, rfl⟩
      have hjl := Lex.items_len HIt.out
      rw [hkk] at hk HO hjl ⊢
      have HKK := Lib.hid hkk
      clear hkk
      by_cases hlt : k < l.length
      · obtain ⟨⟨pk, pn, pg, pb⟩, hx⟩ : ∃ x, l[k]? = some x := ⟨_, List.getElem?_eq_getElem hlt⟩
        obtain ⟨b, off, rfl, hbB, hc⟩ := (HR.out.below HI.out.2).row (fun _ _ => cellsP_len _) hx (by decide)
        obtain ⟨q0, q1, q2, q3⟩ := HOk.out _ (List.mem_of_getElem? hx)
        simp only at q0 q1 q2 q3
        have HP : Hid (PcAt wr b (off + k * 4) (pk, pn, pg, pb)) := Lib.hid ⟨Nat.lt_of_lt_of_le hbB HI.out.2.size, hc⟩
        have e0 : wr.cell? ⟨b, off + k * 4, none⟩ = some (.int .u8 pk) := hc 0 _ rfl
        have e1 : wr.cell? ⟨b, off + k * 4 + 1, none⟩ = some (.int .u8 pn) := hc 1 _ rfl
        have e2 : wr.cell? ⟨b, off + k * 4 + 2, none⟩ = some (.int .u8 pg) := hc 2 _ rfl
        have e3 : wr.cell? ⟨b, off + k * 4 + 3, none⟩ = some (.int .u64 pb) := hc 3 _ rfl
        clear hc hx
        go_wp2_with fail
        refine (gap_any pk pn pg pb q2.1 _).mono ?_
        rintro e w1 ⟨⟨G, rfl, hG1⟩, b1⟩
        have hGl := (gaps_ok _ hG1).2.2
        have HG1 := Lib.hid hG1
        have HI := FInv.call HI b1
        have HO := Lib.hid (own_below HO.out b1)
        have HP := PcAt.call HP b1
        clear hG1 b1 e0 e1 e2 e3
        have e0 : w1.cell? ⟨b, off + k * 4, none⟩ = some (.int .u8 pk) := HP.out.2 0 _ rfl
        have e1 : w1.cell? ⟨b, off + k * 4 + 1, none⟩ = some (.int .u8 pn) := HP.out.2 1 _ rfl
        have e2 : w1.cell? ⟨b, off + k * 4 + 2, none⟩ = some (.int .u8 pg) := HP.out.2 2 _ rfl
        have e3 : w1.cell? ⟨b, off + k * 4 + 3, none⟩ = some (.int .u64 pb) := HP.out.2 3 _ rfl
        have l1 : ¬ 9223372036854775807 < (Lex.txt is []).length + G.length := by omega
        go_wp2_with fail
        refine (token_any pk pn pg pb q0.1 q1.1 q1.2 q3.1 q3.2 _ (FInv.good HI)).mono ?_
        rintro e w2 ⟨⟨K, T, rfl, hT1, hT2⟩, b2⟩
        have HT := Lib.hid hT1
        have HI := FInv.call HI b2
        have hown2 := own_below HO.out b2
        clear hT1 b2 e0 e1 e2 e3 HP
        have l2 : ¬ 9223372036854775807 < (Lex.txt is []).length + G.length + T.length := by omega
        go_wp2_with (at_builtin; refine wpList_append_own _ rfl _ _ 23 rfl w.heap.size 32 i0 (.agg #[.int .i64 0, .string ⟨#[]⟩, .int .i64 0]) 3 32 Tryd.underlying23 hi hz0 hz1 hz2 rfl (by decide) _ _ _ rfl ((hown2.alloc _).alloc _) ⟨w2.heap.size + 1, 0, none⟩ 1 1 [.int .i64 K, .string ⟨T.toArray⟩, .int .i64 (((Lex.txt is []).length : Int) + (G.length : Int))] rfl rfl ?c1 ?c2 ?c3 ?c4 ?c5 ?_)
        case c1 =>
          have := news_all (w2.alloc (.cells #[.int .i64 K, .string ⟨T.toArray⟩, .int .i64 (((Lex.txt is []).length : Int) + (G.length : Int))] 32)) 32 [.int .i64 K, .string ⟨T.toArray⟩, .int .i64 (((Lex.txt is []).length : Int) + (G.length : Int))]
          rwa [World.size_alloc] at this
        case c2 => intro u hu; simp at hu; rcases hu with rfl | rfl | rfl <;> rfl
        case c3 => unfold maxLen; omega
        case c4 => omega
        case c5 => have := HI.out.2.size; simp; omega
        intro v' w4 hown4 hg4 _
        have HO4 := Lib.hid hown4
        have HI4 := FInv.of HG.out ((below_new (below_new HI.out.2 _) _).grown hg4 (by have := HI.out.2.size; simp; omega) (fun g hg => (hown2.lt g hg).1))
        have hT : w4.cell? ⟨w2.heap.size, 1, none⟩ = some (.string ⟨T.toArray⟩) := by
          have B1 := (Blk.new w2 32 #[.int .i64 K, .string ⟨T.toArray⟩, .int .i64 (((Lex.txt is []).length : Int) + (G.length : Int))]).alloc (.cells #[.int .i64 K, .string ⟨T.toArray⟩, .int .i64 (((Lex.txt is []).length : Int) + (G.length : Int))] 32)
          exact (B1.grown hg4 (fun e => by have := (hown2.lt _ e.symm).2; omega)).cell 1
        clear hown2 hown4 hg4
        have HIt2 := Lib.hid (Lex.items_more (i := ⟨G, K, T⟩) HIt.out ⟨HG1.out, HT.out, hT2⟩)
        go_wp2_with fail
        go_roundw
        case rel =>
          refine ⟨is ++ [⟨G, K, T⟩], by simp [HKK.out]; omega, ?_, by simp [HKK.out], ?_, HI4, HIt2⟩
          · rw [ByteArray.mk_append_mk, ByteArray.mk_append_mk, Lex.txt_snoc, List.append_nil, Lex.txt_end is (G ++ T)]
            simp
          · rw [Lex.toks_snoc, List.flatMap_append, List.length_append, HKK.out]
            have h := HO4.out
            simpa [cellsT] using h
        case measure => simp [intOf]; omega
      · obtain rfl : k = l.length := by omega
        clear hlt hk
        have HIt := HIt
        obtain ⟨q, hq, hq1⟩ : ∃ q : Nat, last % 5 = (q : Int) ∧ q < 5 := ⟨(last % 5).toNat, by omega, by omega⟩
        obtain ⟨A2, c2, rfl, r2⟩ := own_slice HO.out
        have R2 := Lib.hid r2
        clear r2 HO
        obtain ⟨txt0, ht0⟩ : ∃ x, Lex.txt is [] = x := ⟨_, rfl⟩
        rw [ht0] at hjl ⊢
        have HT0 := Lib.hid ht0
        clear ht0
        rcases (show q = 0 ∨ q = 1 ∨ q = 2 ∨ q = 3 ∨ q = 4 by omega) with rfl | rfl | rfl | rfl | rfl
        · have hq2 : last.tmod 5 = 0 := by rw [Int.tmod_eq_emod_of_nonneg l0]; exact hq
          have hq3 : last % 5 = 0 := hq
          have l3 : ¬ 9223372036854775807 < txt0.length + 0 := by omega
          have hb : hasB (txt0 ++ []) (Lex.toksAt 0 is) = true := by
            rw [← HT0.out, ← Lex.txt_end]
            exact hasB_of (Lex.items_back HIt.out rfl (.inl rfl))
          have HB := Lib.hid hb
          clear hb
          go_wp2_with fail
          have hh := has_any (txt0 ++ []) (by simp; omega) A2 c2 (Lex.toksAt 0 is) (wr.alloc (.cells #[.string ⟨#[]⟩, .string ⟨#[32]⟩, .string ⟨#[10]⟩, .string ⟨#[32, 47, 47]⟩, .string ⟨#[32, 47, 47, 32, 101, 110, 100]⟩] 9)) ((R2.out.alloc (Nat.le_refl _) _).more (by simp)) ((FInv.good HI).alloc _)
          rw [Lex.toks_len, HKK.out, HB.out] at hh
          have HI := FInv.alloc HI (.cells #[.string ⟨#[]⟩, .string ⟨#[32]⟩, .string ⟨#[10]⟩, .string ⟨#[32, 47, 47]⟩, .string ⟨#[32, 47, 47, 32, 101, 110, 100]⟩] 9)
          refine hh.mono ?_
          rintro e w4 ⟨rfl, b4⟩
          have HI := FInv.call HI b4
          clear b4
          go_wp2_with fail
          refine (works_any _ (FInv.good HI)).mono ?_
          rintro e w5 ⟨rfl, b5⟩
          have HI := FInv.call HI b5
          clear b5
          go_wp2_with fail
          go_ret
          exact ⟨rfl, HI.out.2⟩
        · have hq2 : last.tmod 5 = 1 := by rw [Int.tmod_eq_emod_of_nonneg l0]; exact hq
          have hq3 : last % 5 = 1 := hq
          have l3 : ¬ 9223372036854775807 < txt0.length + 1 := by omega
          have hb : hasB (txt0 ++ [32]) (Lex.toksAt 0 is) = true := by
            rw [← HT0.out, ← Lex.txt_end]
            exact hasB_of (Lex.items_back HIt.out rfl (.inr ⟨_, _, rfl, by decide⟩))
          have HB := Lib.hid hb
          clear hb
          go_wp2_with fail
          have hh := has_any (txt0 ++ [32]) (by simp; omega) A2 c2 (Lex.toksAt 0 is) (wr.alloc (.cells #[.string ⟨#[]⟩, .string ⟨#[32]⟩, .string ⟨#[10]⟩, .string ⟨#[32, 47, 47]⟩, .string ⟨#[32, 47, 47, 32, 101, 110, 100]⟩] 9)) ((R2.out.alloc (Nat.le_refl _) _).more (by simp)) ((FInv.good HI).alloc _)
          rw [Lex.toks_len, HKK.out, HB.out] at hh
          have HI := FInv.alloc HI (.cells #[.string ⟨#[]⟩, .string ⟨#[32]⟩, .string ⟨#[10]⟩, .string ⟨#[32, 47, 47]⟩, .string ⟨#[32, 47, 47, 32, 101, 110, 100]⟩] 9)
          refine hh.mono ?_
          rintro e w4 ⟨rfl, b4⟩
          have HI := FInv.call HI b4
          clear b4
          go_wp2_with fail
          refine (works_any _ (FInv.good HI)).mono ?_
          rintro e w5 ⟨rfl, b5⟩
          have HI := FInv.call HI b5
          clear b5
          go_wp2_with fail
          go_ret
          exact ⟨rfl, HI.out.2⟩
        · have hq2 : last.tmod 5 = 2 := by rw [Int.tmod_eq_emod_of_nonneg l0]; exact hq
          have hq3 : last % 5 = 2 := hq
          have l3 : ¬ 9223372036854775807 < txt0.length + 1 := by omega
          have hb : hasB (txt0 ++ [10]) (Lex.toksAt 0 is) = true := by
            rw [← HT0.out, ← Lex.txt_end]
            exact hasB_of (Lex.items_back HIt.out rfl (.inr ⟨_, _, rfl, by decide⟩))
          have HB := Lib.hid hb
          clear hb
          go_wp2_with fail
          have hh := has_any (txt0 ++ [10]) (by simp; omega) A2 c2 (Lex.toksAt 0 is) (wr.alloc (.cells #[.string ⟨#[]⟩, .string ⟨#[32]⟩, .string ⟨#[10]⟩, .string ⟨#[32, 47, 47]⟩, .string ⟨#[32, 47, 47, 32, 101, 110, 100]⟩] 9)) ((R2.out.alloc (Nat.le_refl _) _).more (by simp)) ((FInv.good HI).alloc _)
          rw [Lex.toks_len, HKK.out, HB.out] at hh
          have HI := FInv.alloc HI (.cells #[.string ⟨#[]⟩, .string ⟨#[32]⟩, .string ⟨#[10]⟩, .string ⟨#[32, 47, 47]⟩, .string ⟨#[32, 47, 47, 32, 101, 110, 100]⟩] 9)
          refine hh.mono ?_
          rintro e w4 ⟨rfl, b4⟩
          have HI := FInv.call HI b4
          clear b4
          go_wp2_with fail
          refine (works_any _ (FInv.good HI)).mono ?_
          rintro e w5 ⟨rfl, b5⟩
          have HI := FInv.call HI b5
          clear b5
          go_wp2_with fail
          go_ret
          exact ⟨rfl, HI.out.2⟩
        · have hq2 : last.tmod 5 = 3 := by rw [Int.tmod_eq_emod_of_nonneg l0]; exact hq
          have hq3 : last % 5 = 3 := hq
          have l3 : ¬ 9223372036854775807 < txt0.length + 3 := by omega
          have hb : hasB (txt0 ++ [32, 47, 47]) (Lex.toksAt 0 is) = true := by
            rw [← HT0.out, ← Lex.txt_end]
            exact hasB_of (Lex.items_back HIt.out rfl (.inr ⟨_, _, rfl, by decide⟩))
          have HB := Lib.hid hb
          clear hb
          go_wp2_with fail
          have hh := has_any (txt0 ++ [32, 47, 47]) (by simp; omega) A2 c2 (Lex.toksAt 0 is) (wr.alloc (.cells #[.string ⟨#[]⟩, .string ⟨#[32]⟩, .string ⟨#[10]⟩, .string ⟨#[32, 47, 47]⟩, .string ⟨#[32, 47, 47, 32, 101, 110, 100]⟩] 9)) ((R2.out.alloc (Nat.le_refl _) _).more (by simp)) ((FInv.good HI).alloc _)
          rw [Lex.toks_len, HKK.out, HB.out] at hh
          have HI := FInv.alloc HI (.cells #[.string ⟨#[]⟩, .string ⟨#[32]⟩, .string ⟨#[10]⟩, .string ⟨#[32, 47, 47]⟩, .string ⟨#[32, 47, 47, 32, 101, 110, 100]⟩] 9)
          refine hh.mono ?_
          rintro e w4 ⟨rfl, b4⟩
          have HI := FInv.call HI b4
          clear b4
          go_wp2_with fail
          refine (works_any _ (FInv.good HI)).mono ?_
          rintro e w5 ⟨rfl, b5⟩
          have HI := FInv.call HI b5
          clear b5
          go_wp2_with fail
          go_ret
          exact ⟨rfl, HI.out.2⟩
        · have hq2 : last.tmod 5 = 4 := by rw [Int.tmod_eq_emod_of_nonneg l0]; exact hq
          have hq3 : last % 5 = 4 := hq
          have l3 : ¬ 9223372036854775807 < txt0.length + 7 := by omega
          have hb : hasB (txt0 ++ [32, 47, 47, 32, 101, 110, 100]) (Lex.toksAt 0 is) = true := by
            rw [← HT0.out, ← Lex.txt_end]
            exact hasB_of (Lex.items_back HIt.out rfl (.inr ⟨_, _, rfl, by decide⟩))
          have HB := Lib.hid hb
          clear hb
          go_wp2_with fail
          have hh := has_any (txt0 ++ [32, 47, 47, 32, 101, 110, 100]) (by simp; omega) A2 c2 (Lex.toksAt 0 is) (wr.alloc (.cells #[.string ⟨#[]⟩, .string ⟨#[32]⟩, .string ⟨#[10]⟩, .string ⟨#[32, 47, 47]⟩, .string ⟨#[32, 47, 47, 32, 101, 110, 100]⟩] 9)) ((R2.out.alloc (Nat.le_refl _) _).more (by simp)) ((FInv.good HI).alloc _)
          rw [Lex.toks_len, HKK.out, HB.out] at hh
          have HI := FInv.alloc HI (.cells #[.string ⟨#[]⟩, .string ⟨#[32]⟩, .string ⟨#[10]⟩, .string ⟨#[32, 47, 47]⟩, .string ⟨#[32, 47, 47, 32, 101, 110, 100]⟩] 9)
          refine hh.mono ?_
          rintro e w4 ⟨rfl, b4⟩
          have HI := FInv.call HI b4
          clear b4
          go_wp2_with fail
          refine (works_any _ (FInv.good HI)).mono ?_
          rintro e w5 ⟨rfl, b5⟩
          have HI := FInv.call HI b5
          clear b5
          go_wp2_with fail
          go_ret
          exact ⟨rfl, HI.out.2⟩
end Go.Proofs.YtkjpnciimabclaaDoor

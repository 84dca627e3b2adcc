/-
  LAYER 4: the tokens of a text stand one behind the other; joined by spaces they are found again: the statement's walk.
-/
import Derived.Test.YtkjpnciimabclaaDoorLexL2
import Derived.Test.YtkjpnciimabclaaDoorLexO1
import Derived.Test.YtkjpnciimabclaaDoorLexR2
import Derived.Deep.RegionHeld3
import Derived.Deep.AppendLies
namespace Go.Proofs.YtkjpnciimabclaaDoor
open Go.ChangeShapes Go.WideShapes Go.ChangeAt Go.RowKit

namespace Lex
def joinItems : List Tok → List Item
  | [] => []
  | t :: us => ⟨[], t.kind, t.text⟩ :: us.map fun t => ⟨[32], t.kind, t.text⟩
theorem join_snoc : ∀ (ts : List Tok) (t : Tok), joinItems (ts ++ [t]) = joinItems ts ++ [⟨if ts.length = 0 then [] else [32], t.kind, t.text⟩]
  | [], _ => rfl
  | _ :: us, _ => by simp [joinItems]
def J (ts : List Tok) (k : Nat) : List UInt8 := txt (joinItems (ts.take k)) []
def W (ts : List Tok) (k : Nat) : List Tok := toksAt 0 (joinItems (ts.take k))
theorem J_step {ts : List Tok} {k : Nat} {t : Tok} (h : ts[k]? = some t) : J ts (k + 1) = J ts k ++ (if k = 0 then [] else [32]) ++ t.text ∧ W ts (k + 1) = W ts k ++ [⟨t.kind, t.text, (J ts k ++ (if k = 0 then [] else [32])).length⟩] := by
  have hk := (List.getElem?_eq_some_iff.1 h).1
  have hl : (ts.take k).length = k := by rw [List.length_take]; omega
  unfold J W
  rw [take_snoc h, join_snoc, hl, txt_snoc, txt_end, toks_snoc]
  simp
theorem J_over {ts : List Tok} : J ts (ts.length + 1) = J ts ts.length ∧ W ts (ts.length + 1) = W ts ts.length := by
  unfold J W
  rw [List.take_of_length_le (by omega), List.take_length]
  exact ⟨rfl, rfl⟩
theorem join_len (ts : List Tok) : (joinItems ts).length = ts.length := by cases ts <;> simp [joinItems]
theorem W_len {ts : List Tok} {k : Nat} (h : k ≤ ts.length) : (W ts k).length = k := by
  unfold W
  rw [toks_len, join_len, List.length_take]
  omega
theorem J_len {ts : List Tok} (h : ∀ t ∈ ts, t.text.length ≤ 400) : ∀ k, k ≤ ts.length → (J ts k).length ≤ 401 * k
  | 0, _ => by simp [J, joinItems, txt]
  | k + 1, hk => by
    obtain ⟨t, ht⟩ : ∃ t, ts[k]? = some t := ⟨_, List.getElem?_eq_getElem hk⟩
    have h1 := J_len h k (by omega)
    have h2 := h t (List.mem_of_getElem? ht)
    rw [(J_step ht).1, List.length_append, List.length_append]
    split
    · simp; omega
    · simp; omega
theorem chain_tk {l : List UInt8} : ∀ {ts : List Tok} {fr : Nat}, Chain l fr ts → ∀ t ∈ ts, Tk t.kind t.text ∧ t.text.length ≤ l.length
  | [], _, _, _, h => by simp at h
  | t :: us, fr, ⟨_, _, hk, hf, _, hc⟩, u, hu => by
    rcases List.mem_cons.1 hu with rfl | hu
    · have h0 : (first (l.drop u.off)).1 ≠ 0 := by rw [hf]; exact hk
      have h1 := first_tk h0
      have h2 := first_le h0
      rw [hf, List.length_drop] at h2
      rw [hf] at h1
      exact ⟨h1, Nat.le_trans h2 (Nat.sub_le _ _)⟩
    · exact chain_tk hc u hu
theorem gap_none : Gap [] := fun _ => rfl
theorem gap_space : Gap [32] := fun _ => rest_white (by decide)
/-- Joined by spaces they are found again. -/
theorem join_back {ts : List Tok} (h : ∀ t ∈ ts, Tk t.kind t.text) : scan (J ts ts.length) = .ok (W ts ts.length) := by
  unfold J W
  rw [List.take_length]
  refine back ?_ ?_ rfl (.inl rfl)
  · cases ts with
    | nil => intro i hi; simp [joinItems] at hi
    | cons t us =>
      intro i hi
      rcases List.mem_cons.1 hi with rfl | hi
      · exact ⟨gap_none, h t (by simp)⟩
      · obtain ⟨u, hu, rfl⟩ := List.mem_map.1 hi
        exact ⟨gap_space, h u (by simp [hu])⟩
  · cases ts with
    | nil => intro i hi; simp [joinItems] at hi
    | cons t us =>
      intro i hi
      obtain ⟨u, _, rfl⟩ := List.mem_map.1 hi
      exact ⟨32, [], rfl, by decide⟩
end Lex

set_option maxHeartbeats 8000000 in
set_option maxRecDepth 100000 in
theorem lexemeOrder_walk (s : ByteArray) (_ : s.size ≤ maxLen) (w : World) (hG : Good w) :
    Calls Tryd.prog 4 #[.string s] w fun e w' => e = .returned (.bool true) ∧ Below w.heap.size w w' := by
  obtain ⟨l, rfl⟩ : ∃ l : List UInt8, s = ⟨l.toArray⟩ := ⟨s.data.toList, rfl⟩
  obtain ⟨i0, hi, hz0, hz1, hz2⟩ := info_parts info_tok
  have HI : Hid (FInv w w) := Lib.hid ⟨hG, Below.refl _ _⟩
  have HG := Lib.hid hG
  clear hG
  by_cases hbig : 400 < l.length
  · go_enter Tryd.func4, Tryd.ntmps4
    go_wp2_with fail
    refine (works_any _ (FInv.good HI)).mono ?_
    rintro e w1 ⟨rfl, b⟩
    have HI := FInv.call HI b
    clear b
    go_wp2_with fail
    go_ret
    exact ⟨rfl, HI.out.2⟩
  · go_enter Tryd.func4, Tryd.ntmps4
    go_wp2_with fail
    refine (scan_any l (by omega) _ (FInv.good HI)).mono ?_
    rintro e w1 ⟨v, rfl, hown, b⟩
    have HI := FInv.call HI b
    have hw1 := b.size
    obtain ⟨A1, c1, rfl, r1⟩ := own_slice hown
    have R1 := Lib.hid r1
    clear b hown r1
    cases hS : Lex.scan l with
    | error o =>
      rw [hS] at R1
      simp only [Lex.toks, Lex.offs, Lex.errn]
      have ho := Lex.wrong_lt hS
      clear hS R1
      go_wp2_with fail
      refine (works_any _ (FInv.good HI)).mono ?_
      rintro e w2 ⟨rfl, b⟩
      have HI := FInv.call HI b
      clear b
      go_wp2_with fail
      go_ret
      exact ⟨rfl, HI.out.2⟩
    | ok ts =>
      rw [hS] at R1
      simp only [Lex.toks, Lex.offs, Lex.errn] at R1 ⊢
      rw [show ((0 : Nat) : Int) = 0 from rfl]
      have hlen := scan_len hS
      have hch := Lex.chain_scan hS
      have HT := Lib.hid (Lex.chain_tk hch)
      have HC : Hid (0 ≤ ts.length → Lex.Chain l 0 (ts.drop 0)) := Lib.hid fun _ => hch
      have HJ := Lib.hid (Lex.J_len (ts := ts) (fun t ht => by have := (HT.out t ht).2; omega))
      clear hS hch
      go_wp2_with fail
      go_loopw [6, 7, 8, 9] (fun f j v i wr => ∃ (k fr : Nat), k ≤ ts.length + 1 ∧ f = .int .i64 fr ∧ j = .string ⟨(Lex.J ts k).toArray⟩ ∧ i = .int .i64 k ∧ wr.ownsRow w1.heap.size 32 3 v (Lex.W ts k).length ((Lex.W ts k).flatMap cellsT) ∧ Hid (FInv w wr) ∧ Hid (Rd wr w1.heap.size A1 (ts.flatMap cellsT)) ∧ w1.heap.size ≤ wr.heap.size ∧ Hid (k ≤ ts.length → Lex.Chain l fr (ts.drop k))) (fun _ _ _ i _ => ts.length + 1 - (intOf i).toNat)
      case atStart => exact ⟨0, 0, by omega, rfl, rfl, rfl, by simpa [Lex.W, Lex.joinItems, Lex.toksAt] using World.ownsRow_nil _ _ _ _, HI, R1, Nat.le_refl _, HC⟩
      case round =>
        obtain ⟨k, fr, hk, rfl, rfl, rfl, hown, HI, HR, hsz, HC⟩ := hrel
        have HO := Lib.hid hown
        clear hown
        by_cases hlt : k < ts.length
        · obtain ⟨t, hx⟩ : ∃ x, ts[k]? = some x := ⟨_, List.getElem?_eq_getElem hlt⟩
          have hdr : ts.drop k = t :: ts.drop (k + 1) := by
            obtain ⟨h, rfl⟩ := List.getElem?_eq_some_iff.1 hx
            exact List.drop_eq_getElem_cons h
          have hch := HC.out (by omega)
          rw [hdr] at hch
          obtain ⟨q1, q2, q3, q4, q5, q6⟩ := hch
          have q0 : (Lex.first (l.drop t.off)).1 ≠ 0 := by rw [q4]; exact q3
          obtain ⟨p0, p1⟩ := Lex.first_fits q0
          have p2 := Lex.first_le q0
          rw [q4] at p0 p1 p2
          rw [List.length_drop] at p2
          simp only at p0 p1 p2
          have p3 : t.off + t.text.length ≤ l.length := by omega
          have hpiece : Lex.blank false ((l.drop fr).take (t.off - fr)) = true := by
            have := Lex.rest_cut (l.drop fr) false
            unfold Lex.blank
            rw [show t.off - fr = (l.drop fr).length - (Lex.rest false (l.drop fr)).length from by rw [q2]; unfold Lex.skip; omega, this]
            rfl
          have HP := Lib.hid hpiece
          have HC' : Hid (k + 1 ≤ ts.length → Lex.Chain l (t.off + t.text.length) (ts.drop (k + 1))) := Lib.hid fun _ => q6
          obtain ⟨s1, s2⟩ := Lex.J_step hx
          have S1 := Lib.hid s1
          have S2 := Lib.hid s2
          have hjl := HJ.out k (by omega)
          have hwl := Lex.W_len (ts := ts) (k := k) (by omega)
          have hfo : fr ≤ t.off := by omega
          have hne : t.text ≠ [] := by intro h; rw [h] at p0; simp at p0
          obtain ⟨b, off, rfl, hbB, hc⟩ := HR.out.row (fun _ _ => cellsT_len _) hx (by decide)
          obtain ⟨K, T, O⟩ := t
          simp only at *
          have e0 : wr.cell? ⟨b, off + k * 3, none⟩ = some (.int .i64 K) := hc 0 _ rfl
          have e1 : wr.cell? ⟨b, off + k * 3 + 1, none⟩ = some (.string ⟨T.toArray⟩) := hc 1 _ rfl
          have e2 : wr.cell? ⟨b, off + k * 3 + 2, none⟩ = some (.int .i64 O) := hc 2 _ rfl
          have cutT : (⟨l.toArray⟩ : ByteArray).extract O (O + T.length) = ⟨T.toArray⟩ := by rw [extract_mid, Nat.add_sub_cancel_left, ← p1]
          have cutG : (⟨l.toArray⟩ : ByteArray).extract fr O = ⟨((l.drop fr).take (O - fr)).toArray⟩ := extract_mid
          have g0 : IntKind.i64.wrap ((O : Int) + (T.length : Int)) = (O : Int) + (T.length : Int) := by rw [IntKind.wrap_i64]; omega
          have g1 : decide (O < fr) = false := by simp; omega
          have g2 : decide ((l.length : Int) < (O : Int) + (T.length : Int)) = false := by simp; omega
          have g3 : (T == []) = false := by simpa using hne
          have g4 : (T == T) = true := by simp
          clear hc hx hdr q1 q2 q3 q4 q5 q6 q0 p1 hpiece s1 s2 HC
          go_wp2_with fail
          go_quiet (fail)
          have HI := FInv.drewN HI nq
          have HR : Hid (Rd (wr.drewN nq) w1.heap.size (some ⟨b, off, none⟩) (ts.flatMap cellsT)) := HR
          have HO : Hid ((wr.drewN nq).ownsRow w1.heap.size 32 3 u8 (Lex.W ts k).length ((Lex.W ts k).flatMap cellsT)) := HO
          have e0 : (wr.drewN nq).cell? ⟨b, off + k * 3, none⟩ = some (.int .i64 K) := e0
          have e1 : (wr.drewN nq).cell? ⟨b, off + k * 3 + 1, none⟩ = some (.string ⟨T.toArray⟩) := e1
          have e2 : (wr.drewN nq).cell? ⟨b, off + k * 3 + 2, none⟩ = some (.int .i64 O) := e2
          have hsz : w1.heap.size ≤ (wr.drewN nq).heap.size := hsz
          generalize wr.drewN nq = wr at HI HR HO e0 e1 e2 hsz ⊢
          have ag : Value.ownBlock u8 ≠ some b := fun h => by have := (HO.out.lt b h).1; omega
          clear g0 g1 g2 g3 g4
          go_wp2_with fail
          refine (blank_any _ (by rw [List.length_take, List.length_drop]; omega) _).mono ?_
          rintro e w3 ⟨rfl, rfl⟩
          rw [HP.out]
          by_cases hk0 : k = 0
          · subst hk0
            simp only [Nat.zero_mul, Nat.add_zero] at e0 e1 e2
            have l1 : ¬ 9223372036854775807 < (Lex.J ts 0).length + T.length := by omega
            have HJs : Hid (Lex.J ts (0 + 1) = Lex.J ts 0 ++ T) := Lib.hid (by rw [S1.out, if_pos rfl, List.append_nil])
            have HWs : Hid (Lex.W ts (0 + 1) = Lex.W ts 0 ++ [⟨K, T, (Lex.J ts 0).length⟩]) := Lib.hid (by rw [S2.out, if_pos rfl, List.append_nil])
            clear S1 S2
            go_wp2_with fail
            go_region_held3 (fun w' => w'.cell? ⟨b, off, none⟩ = some (.int .i64 K) ∧ w'.cell? ⟨b, off + 1, none⟩ = some (.string ⟨T.toArray⟩))
              (first
                | go_keep
                | (go_split_ands
                   refine ⟨?_, ?_⟩
                   · (rw [hgrow.cell_far _ (by simp; omega) (Ne.symm ag)]; assumption)
                   · (rw [hgrow.cell_far _ (by simp; omega) (Ne.symm ag)]; assumption)))
              ((refine step_append_lies _ (by rfl) _ _ _ (by rfl) w1.heap.size 32 i0 _ 3 32 Tryd.underlying23 hi hz0 hz1 hz2 rfl (by omega) u8 (Lex.W ts 0).length ((Lex.W ts 0).flatMap cellsT) (by rfl) ((HO.out.alloc _).drew)
                  ⟨w3.heap.size, 0, none⟩ 1 1 [.int .i64 K, .string ⟨T.toArray⟩, .int .i64 ((Lex.J ts 0).length : Nat)] (by rfl) (by rfl) (World.news_of_block (cs := #[.int .i64 K, .string ⟨T.toArray⟩, .int .i64 ((Lex.J ts 0).length : Nat)]) (t := 32) (fr := (0, 0)) (heap_alloc_new w3 _)) (by simp [Value.oneCell'])
                  (by omega) (by unfold maxLen; omega) (by omega) (by simp; omega) (w3.heap.size + 1) (by simp) ?_; intro gg cap2 w4 hown4 hgrow hat hlt4))
            have HB4 := (((below_new HI.out.2 _).drew).grown hgrow (by have := HI.out.2.size; simp; omega) (fun g hg => by have := (HO.out.lt g hg).1; omega))
            have HI4 := FInv.of HG.out HB4
            have HR4 := Lib.hid (((HR.out.alloc hsz _).drew).grown hgrow (by simp; omega) (fun g hg => (HO.out.lt g hg).1))
            have hsz4 : w1.heap.size ≤ w4.heap.size := by have := hgrow.size; simp at this; omega
            have e1' : w4.cell? ⟨b, off + 1, none⟩ = some (.string ⟨T.toArray⟩) := by
              rw [hgrow.cell_far _ (by simp; omega) (Ne.symm ag)]
              exact (World.cell?_alloc_lt _ _ _ (by show b < w3.heap.size; omega)).trans e1
            have HO4 := Lib.hid hown4
            clear hown4 hgrow hat hlt4 HB4 e0 e1 e2 HI HR HO hi hz0 hz1 hz2
            go_wp2_with fail
            go_roundw
            case rel =>
              refine ⟨0 + 1, O + T.length, by omega, by go_num, ?_, by go_num, ?_, HI4, HR4, hsz4, HC'⟩
              · rw [ByteArray.mk_append_mk, HJs.out]
              · rw [HWs.out, List.flatMap_append, List.length_append]
                exact HO4.out
            case measure => simp [intOf]
          · have k0 : 0 < k := by omega
            have l1 : ¬ 9223372036854775807 < (Lex.J ts k).length + 1 := by omega
            have l2 : ¬ 9223372036854775807 < (Lex.J ts k).length + 1 + T.length := by omega
            have HJs : Hid (Lex.J ts (k + 1) = Lex.J ts k ++ [32] ++ T) := Lib.hid (by rw [S1.out, if_neg hk0])
            have HWs : Hid (Lex.W ts (k + 1) = Lex.W ts k ++ [⟨K, T, (Lex.J ts k).length + 1⟩]) := Lib.hid (by rw [S2.out, if_neg hk0, List.length_append]; rfl)
            clear S1 S2
            go_wp2_with fail
            go_region_held3 (fun w' => w'.cell? ⟨b, off + k * 3, none⟩ = some (.int .i64 K) ∧ w'.cell? ⟨b, off + k * 3 + 1, none⟩ = some (.string ⟨T.toArray⟩))
              (first
                | go_keep
                | (go_split_ands
                   refine ⟨?_, ?_⟩
                   · (rw [hgrow.cell_far _ (by simp; omega) (Ne.symm ag)]; assumption)
                   · (rw [hgrow.cell_far _ (by simp; omega) (Ne.symm ag)]; assumption)))
              ((refine step_append_lies _ (by rfl) _ _ _ (by rfl) w1.heap.size 32 i0 _ 3 32 Tryd.underlying23 hi hz0 hz1 hz2 rfl (by omega) u8 (Lex.W ts k).length ((Lex.W ts k).flatMap cellsT) (by rfl) ((HO.out.alloc _).drew)
                  ⟨w3.heap.size, 0, none⟩ 1 1 [.int .i64 K, .string ⟨T.toArray⟩, .int .i64 (((Lex.J ts k).length + 1) : Nat)] (by rfl) (by rfl) (World.news_of_block (cs := #[.int .i64 K, .string ⟨T.toArray⟩, .int .i64 (((Lex.J ts k).length + 1) : Nat)]) (t := 32) (fr := (0, 0)) (heap_alloc_new w3 _)) (by simp [Value.oneCell'])
                  (by omega) (by unfold maxLen; omega) (by omega) (by simp; omega) (w3.heap.size + 1) (by simp) ?_; intro gg cap2 w4 hown4 hgrow hat hlt4))
            have HB4 := (((below_new HI.out.2 _).drew).grown hgrow (by have := HI.out.2.size; simp; omega) (fun g hg => by have := (HO.out.lt g hg).1; omega))
            have HI4 := FInv.of HG.out HB4
            have HR4 := Lib.hid (((HR.out.alloc hsz _).drew).grown hgrow (by simp; omega) (fun g hg => (HO.out.lt g hg).1))
            have hsz4 : w1.heap.size ≤ w4.heap.size := by have := hgrow.size; simp at this; omega
            have e1' : w4.cell? ⟨b, off + k * 3 + 1, none⟩ = some (.string ⟨T.toArray⟩) := by
              rw [hgrow.cell_far _ (by simp; omega) (Ne.symm ag)]
              exact (World.cell?_alloc_lt _ _ _ (by show b < w3.heap.size; omega)).trans e1
            have HO4 := Lib.hid hown4
            clear hown4 hgrow hat hlt4 HB4 e0 e1 e2 HI HR HO hi hz0 hz1 hz2
            go_wp2_with fail
            go_roundw
            case rel =>
              refine ⟨k + 1, O + T.length, by omega, by go_num, ?_, by go_num, ?_, HI4, HR4, hsz4, HC'⟩
              · rw [show (⟨#[32]⟩ : ByteArray) = ⟨[32].toArray⟩ from rfl, ByteArray.mk_append_mk, ByteArray.mk_append_mk, HJs.out]
              · rw [HWs.out, List.flatMap_append, List.length_append]
                have h := HO4.out
                rw [hwl] at h ⊢
                exact h
            case measure => simp [intOf]; omega
        · by_cases hkn : k = ts.length
          · subst hkn
            have hch := HC.out (Nat.le_refl _)
            rw [List.drop_length] at hch
            obtain ⟨q1, q2⟩ := hch
            have HP : Hid (Lex.blank false (l.drop fr) = true) := Lib.hid (by unfold Lex.blank; rw [q2]; rfl)
            have cutG := @extract_end l fr
            obtain ⟨j1, j2⟩ := Lex.J_over (ts := ts)
            have J1 := Lib.hid j1
            have J2 := Lib.hid j2
            clear q2 j1 j2 HC hlt
            go_wp2_with fail
            refine (blank_any _ (by rw [List.length_drop]; omega) _).mono ?_
            rintro e w3 ⟨rfl, rfl⟩
            rw [HP.out]
            go_wp2_with fail
            go_roundw
            case rel =>
              refine ⟨ts.length + 1, fr, by omega, rfl, ?_, by go_num, ?_, HI, HR, hsz, Lib.hid (fun h => by omega)⟩
              · rw [J1.out]
              · rw [J2.out]
                exact HO.out
            case measure => simp [intOf]
          · obtain rfl : k = ts.length + 1 := by omega
            rw [Lex.J_over.1]
            rw [Lex.J_over.2] at HO
            have hb : hasB (Lex.J ts ts.length) (Lex.W ts ts.length) = true := hasB_of (Lex.join_back fun t ht => (HT.out t ht).1)
            have HB := Lib.hid hb
            have hjl := HJ.out ts.length (Nat.le_refl _)
            obtain ⟨A2, c2, rfl, r2⟩ := own_slice HO.out
            have R2 := Lib.hid r2
            clear hb r2 HC
            have hc : ((ts.length + 1 : Nat) : Int) = (ts.length : Int) + 1 := by simp
            go_wp2_with fail
            refine (has_any (Lex.J ts ts.length) (by omega) A2 c2 (Lex.W ts ts.length) _ R2.out (FInv.good HI)).mono ?_
            rintro e w4 ⟨rfl, b4⟩
            rw [HB.out]
            have HI := FInv.call HI b4
            clear b4
            go_wp2_with fail
            refine (works_any _ (FInv.good HI)).mono ?_
            rintro e w5 ⟨rfl, b5⟩
            have HI := FInv.call HI b5
            clear b5
            go_wp2_with fail
            go_ret
            exact ⟨rfl, HI.out.2⟩
end Go.Proofs.YtkjpnciimabclaaDoor

/-
  LAYER 16: the law ValueRefuses.
-/
import Derived.Test.YtfghigioofaidaaDoorVal12
import Derived.OwnWalk
namespace Go.Proofs.YtfghigioofaidaaDoor
open Go.ChangeShapes Go.WideShapes Go.ChangeAt Go.RowKit

/-- What a loop of ValueRefuses keeps: the old memory, the table that it goes over. -/
def RInv (w0 : World) (g : Nat) (T : TypeId) (cs : Array Value) (W : World) : Prop := Good w0 ∧ Below w0.heap.size w0 W ∧ Blk W g T cs
section
variable {w0 W W' : World} {g : Nat} {T : TypeId} {cs : Array Value}
theorem RInv.call (h : Hid (RInv w0 g T cs W)) (hb : Below W.heap.size W W') : Hid (RInv w0 g T cs W') := by
  obtain ⟨h1, h2, h3⟩ := h.out
  exact Lib.hid ⟨h1, below_call h2 hb, h3.call hb⟩
theorem RInv.alloc (h : Hid (RInv w0 g T cs W)) (o : Obj) : Hid (RInv w0 g T cs (W.alloc o)) := by
  obtain ⟨h1, h2, h3⟩ := h.out
  exact Lib.hid ⟨h1, below_new h2 o, h3.alloc o⟩
theorem RInv.set (h : Hid (RInv w0 g T cs W)) {p : Addr} (hg : g < p.block) (h0 : w0.heap.size ≤ g) (u : Value) : Hid (RInv w0 g T cs (W.setCell p u)) := by
  obtain ⟨h1, h2, h3⟩ := h.out
  exact Lib.hid ⟨h1, h2.setCell (by omega) u, h3.far (by omega) u⟩
theorem RInv.drew (h : Hid (RInv w0 g T cs W)) : Hid (RInv w0 g T cs W.drew) := by
  obtain ⟨h1, h2, h3⟩ := h.out
  exact Lib.hid ⟨h1, h2.drew, h3.drew⟩
theorem RInv.good (h : Hid (RInv w0 g T cs W)) : Good W := h.out.1.below h.out.2.1 (Nat.le_refl _)
theorem RInv.was (h : Hid (RInv w0 g T cs W)) : Below w0.heap.size w0 W := h.out.2.1
theorem RInv.blk (h : Hid (RInv w0 g T cs W)) : Blk W g T cs := h.out.2.2
end
/-- A row of values. -/
def rowA (l : List (Int × Int)) : Array Value := (l.flatMap cellsV).toArray
theorem rowA_at {l : List (Int × Int)} {j : Nat} {t n : Int} (h : l[j]? = some (t, n)) : (rowA l)[j * 2]? = some (.int .i64 t) ∧ (rowA l)[j * 2 + 1]? = some (.int .i64 n) := by
  unfold rowA
  induction l generalizing j with
  | nil => simp at h
  | cons x r ih =>
    match j with
    | 0 =>
      simp at h
      subst h
      simp [cellsV]
    | j + 1 =>
      have := ih (j := j) (by simpa using h)
      simp only [List.getElem?_toArray] at this ⊢
      rw [show (j + 1) * 2 + 1 = (j * 2 + 1) + 2 by omega, show (j + 1) * 2 = j * 2 + 2 by omega, List.flatMap_cons, List.getElem?_append_right (by simp [cellsV]), List.getElem?_append_right (by simp [cellsV])]
      simpa [cellsV] using this
theorem flat_set (a b : Int) : ∀ {l : List (Int × Int)} {j : Nat} {t n : Int} (_ : l[j]? = some (t, n)), (l.flatMap cellsV).set (j * 2) (.int .i64 a) = (l.set j (a, n)).flatMap cellsV ∧ ((l.flatMap cellsV).set (j * 2) (.int .i64 a)).set (j * 2 + 1) (.int .i64 b) = (l.set j (a, b)).flatMap cellsV
  | [], j, _, _, h => by simp at h
  | x :: r, 0, t, n, h => by
    simp at h
    subst h
    simp [cellsV]
  | x :: r, j + 1, t, n, h => by
    have := flat_set a b (l := r) (j := j) (by simpa using h)
    rw [show (j + 1) * 2 + 1 = (j * 2 + 1) + 1 + 1 by omega, show (j + 1) * 2 = j * 2 + 1 + 1 by omega]
    simp only [List.flatMap_cons, cellsV, List.cons_append, List.nil_append, List.set_cons_succ] at this ⊢
    exact ⟨by rw [this.1], by rw [this.2]⟩
theorem rowA_set {l : List (Int × Int)} {j : Nat} {t n : Int} (h : l[j]? = some (t, n)) (a b : Int) : (rowA l).setIfInBounds (j * 2) (.int .i64 a) = rowA (l.set j (a, n)) ∧ ((rowA l).setIfInBounds (j * 2) (.int .i64 a)).setIfInBounds (j * 2 + 1) (.int .i64 b) = rowA (l.set j (a, b)) := by
  have := flat_set a b h
  unfold rowA
  simp only [List.setIfInBounds_toArray]
  rw [this.1, ← this.2, this.1]
  exact ⟨rfl, rfl⟩
theorem flat_nought (n : Nat) : (List.replicate n ((0 : Int), (0 : Int))).flatMap cellsV = List.replicate (n * 2) (.int .i64 0) := by
  induction n with
  | zero => rfl
  | succ n ih =>
    rw [List.replicate_succ, List.flatMap_cons, ih, show (n + 1) * 2 = n * 2 + 1 + 1 by omega, List.replicate_succ, List.replicate_succ]
    rfl
theorem made_nought (n : Nat) : (madeCells #[.int .i64 0, .int .i64 0] (n * 2)).toList = (List.replicate n ((0 : Int), (0 : Int))).flatMap cellsV := by
  rw [flat_nought, List.eq_replicate_iff]
  refine ⟨by simp [madeCells], fun x hx => ?_⟩
  simp only [madeCells, Array.toList_map, List.mem_map] at hx
  obtain ⟨i, _, rfl⟩ := hx
  rcases (show i % 2 = 0 ∨ i % 2 = 1 by omega) with h | h <;> simp [h]
/-- A row just made, as a block. -/
theorem blk_of_made {w : World} {base g n : Nat} {T : TypeId} (h : w.ownsRow base T 2 (.slice (some ⟨g, 0, none⟩) n n) n (madeCells #[.int .i64 0, .int .i64 0] (n * 2)).toList) (hn : 0 < n) : Blk w g T (rowA (List.replicate n (0, 0))) := by
  rcases h.2 with ⟨_, h0⟩ | ⟨g', cap, cur, e, _, hh, _, _, hsz, ht⟩
  · omega
  · injection e with e1 _ e2
    injection e1 with e1
    injection e1 with e1
    subst e1 e2
    have : cur = rowA (List.replicate n (0, 0)) := by
      apply Array.toList_inj.1
      rw [made_nought] at ht
      unfold rowA
      rw [← ht, List.take_of_length_le (by simp [hsz])]
    rw [this] at hh
    exact hh
theorem bad_of {t : Int} (h : t ≤ 0 ∨ 4 ≤ t) (n : Int) : Val.chk t n = 2 := by
  unfold Val.chk
  rw [if_neg (by omega), if_neg (by omega), if_neg (by omega)]
theorem bad_parts {t n : Int} (h : Val.chk t n = 2) : Val.ofT t n = 0 ∧ Val.ofN t n = 0 ∧ Val.txt t n = [] := by
  unfold Val.ofT Val.ofN Val.txt
  rw [h]
  exact ⟨rfl, rfl, rfl⟩
theorem tab1 {far : Int} (h0 : 0 ≤ far) (k : Nat) (hk : k < 3) : ∃ t, (#[.int .i64 (-far), .int .i64 (4 + far), .int .i64 (4611686018427387904 + far)] : Array Value)[k]? = some (.int .i64 t) ∧ ∀ n, Val.chk t n = 2 := by
  match k, hk with
  | 0, _ => exact ⟨_, rfl, bad_of (by omega)⟩
  | 1, _ => exact ⟨_, rfl, bad_of (by omega)⟩
  | 2, _ => exact ⟨_, rfl, bad_of (by omega)⟩

theorem row_step (j q : Nat) (h : j < q + 1) : (List.replicate j ((1 : Int), (0 : Int)) ++ List.replicate (q + 1 - j) (0, 0))[j]? = some (0, 0) ∧ (List.replicate j ((1 : Int), (0 : Int)) ++ List.replicate (q + 1 - j) (0, 0)).set j (1, 0) = List.replicate (j + 1) (1, 0) ++ List.replicate (q + 1 - (j + 1)) (0, 0) := by
  obtain ⟨r, hr⟩ : ∃ r, q + 1 - j = r + 1 := ⟨q - j, by omega⟩
  rw [hr, show q + 1 - (j + 1) = r by omega]
  constructor
  · rw [List.getElem?_append_right (by simp)]
    simp
  · rw [List.set_append_right _ _ (by simp)]
    rw [List.replicate_succ' (n := j)]
    simp [List.replicate_succ]
theorem rd_of_blk {w : World} {g : Nat} {T : TypeId} {l : List (Int × Int)} (h : Blk w g T (rowA l)) : Rd w w.heap.size (some ⟨g, 0, none⟩) (l.flatMap cellsV) := fun _ => by
  refine ⟨g, 0, rfl, h.lt, fun j u hu => ?_⟩
  rw [Nat.zero_add]
  exact (h.cell j).trans (by unfold rowA; rw [List.getElem?_toArray]; exact hu)
theorem tab3 (k : Nat) (hk : k < 3) : ∃ t, (#[.int .i64 1, .int .i64 2, .int .i64 3] : Array Value)[k]? = some (.int .i64 t) ∧ Val.chk t 0 = 0 := by
  match k, hk with
  | 0, _ => exact ⟨_, rfl, by decide⟩
  | 1, _ => exact ⟨_, rfl, by decide⟩
  | 2, _ => exact ⟨_, rfl, by decide⟩
def tabA2 (far : Int) : Array Value := #[.int .i64 2, .int .i64 (2 + far), .int .i64 2, .int .i64 (-1 - far), .int .i64 3, .int .i64 (-1 - far), .int .i64 0, .int .i64 far]
theorem tab2 {far : Int} (h0 : 0 ≤ far) (h1 : far ≤ 4294967295) (k : Nat) (hk : k < 4) : ∃ t n, (tabA2 far)[k * 2]? = some (.int .i64 t) ∧ (tabA2 far)[k * 2 + 1]? = some (.int .i64 n) ∧ Val.chk t n = 2 ∧ -9223372036854775808 ≤ n ∧ n ≤ 9223372036854775807 := by
  match k, hk with
  | 0, _ => exact ⟨_, _, rfl, rfl, by unfold Val.chk; simp; omega, by omega, by omega⟩
  | 1, _ => exact ⟨_, _, rfl, rfl, by unfold Val.chk; simp; omega, by omega, by omega⟩
  | 2, _ => exact ⟨_, _, rfl, rfl, by unfold Val.chk; simp; omega, by omega, by omega⟩
  | 3, _ => exact ⟨_, _, rfl, rfl, by unfold Val.chk; simp, by omega, by omega⟩

set_option maxRecDepth 20000 in
set_option maxHeartbeats 4000000 in
theorem valueRefuses_walk (far : Int) (f0 : 0 ≤ far) (f1 : far ≤ 4294967295) (at_ : Int) (a0 : 0 ≤ at_) (a1 : at_ ≤ 255) (many : Int) (m0 : 0 ≤ many) (_ : many ≤ 255) (w : World) (hG : Good w) :
    Calls Tryd.prog 7 #[.int .u32 far, .int .u8 at_, .int .u8 many] w fun e w' => e = .returned (.bool true) ∧ Below w.heap.size w w' := by
  have I0 : Hid (RInv w w.heap.size 3 #[.int .i64 (-far), .int .i64 (4 + far), .int .i64 (4611686018427387904 + far)] (w.alloc (.cells #[.int .i64 (-far), .int .i64 (4 + far), .int .i64 (4611686018427387904 + far)] 3))) := Lib.hid ⟨hG, below_new (Below.refl _ _) _, Blk.new _ _ _⟩
  clear hG
  obtain ⟨i0, hi, hz0, hz1, hz2⟩ := info_parts info_val
  go_enter Tryd.func7, Tryd.ntmps7
  go_wp2_with fail
  go_loopw [41] (fun i wr => ∃ k : Nat, k ≤ 3 ∧ i = .int .i64 k ∧ Hid (RInv w w.heap.size 3 #[.int .i64 (-far), .int .i64 (4 + far), .int .i64 (4611686018427387904 + far)] wr)) (fun i _ => 3 - (intOf i).toNat)
  case atStart => exact ⟨0, by omega, rfl, I0⟩
  case round =>
    obtain ⟨k, hk, rfl, HI⟩ := hrel
    by_cases hlt : k < 3
    · obtain ⟨t, ht, hbad⟩ := tab1 f0 k hlt
      have c0 : wr.cell? ⟨w.heap.size, k, none⟩ = some (.int .i64 t) := (RInv.blk HI).cell k |>.trans ht
      have HX := Lib.hid hbad
      clear ht hbad
      go_wp2_with fail
      refine (default_any t _).mono ?_
      rintro e w1 ⟨rfl, b1⟩
      rw [(bad_parts (HX.out 0)).1, (bad_parts (HX.out 0)).2.1, HX.out 0]
      have HI := RInv.alloc (RInv.call HI b1) (.cells #[.int .i64 0, .int .i64 0] 23)
      clear b1
      go_wp2_with fail
      refine (of_any t far _).mono ?_
      rintro e w2 ⟨rfl, b2⟩
      rw [(bad_parts (HX.out far)).1, (bad_parts (HX.out far)).2.1, HX.out far]
      have HI := RInv.alloc (RInv.call HI b2) (.cells #[.int .i64 0, .int .i64 0] 23)
      clear b2
      go_wp2_with fail
      refine (text_any t far (by omega) (by omega) _ (RInv.good HI)).mono ?_
      rintro e w3 ⟨rfl, b3⟩
      rw [(bad_parts (HX.out far)).2.2, HX.out far]
      have HI := RInv.call HI b3
      clear b3
      go_wp2_with fail
      exact ⟨⟨k + 1, hlt, by go_num, HI⟩, by simp [intOf]; omega⟩
    · obtain rfl : k = 3 := by omega
      rw [show ((3 : Nat) : Int) = 3 from rfl]
      obtain ⟨q, hq, hq1⟩ : ∃ q : Nat, many.tmod 20 = (q : Int) ∧ q < 20 := by
        have := Int.tmod_eq_emod_of_nonneg (b := 20) m0
        exact ⟨(many.tmod 20).toNat, by omega, by omega⟩
      have HT := RInv.alloc HI (.cells #[.int .i64 2, .int .i64 (2 + far), .int .i64 2, .int .i64 (-1 - far), .int .i64 3, .int .i64 (-1 - far), .int .i64 0, .int .i64 far] 23)
      have I1 : Hid (RInv w wr.heap.size 23 (tabA2 far) (wr.alloc (.cells #[.int .i64 2, .int .i64 (2 + far), .int .i64 2, .int .i64 (-1 - far), .int .i64 3, .int .i64 (-1 - far), .int .i64 0, .int .i64 far] 23))) := Lib.hid ⟨HT.out.1, HT.out.2.1, Blk.new _ _ _⟩
      have hB := (RInv.was HI).size
      clear HT HI
      go_wp2_with fail
      go_loopw [91] (fun i wq => ∃ k : Nat, k ≤ 4 ∧ i = .int .i64 k ∧ Hid (RInv w wr.heap.size 23 (tabA2 far) wq)) (fun i _ => 4 - (intOf i).toNat)
      case atStart => exact ⟨0, by omega, rfl, I1⟩
      case round =>
        obtain ⟨k, hk, rfl, HI⟩ := hrel
        rename World => wq
        have HI0 := HI
        by_cases hlt : k < 4
        · obtain ⟨t, n, ht, hn, hbad, n0, n1⟩ := tab2 f0 f1 k hlt
          have c0 : wq.cell? ⟨wr.heap.size, k * 2, none⟩ = some (.int .i64 t) := (RInv.blk HI).cell (k * 2) |>.trans ht
          have c1 : wq.cell? ⟨wr.heap.size, k * 2 + 1, none⟩ = some (.int .i64 n) := (RInv.blk HI).cell (k * 2 + 1) |>.trans hn
          have HX := Lib.hid hbad
          clear ht hn hbad
          have HI := RInv.alloc HI (.cells #[.int .i64 t, .int .i64 n] 23)
          have P := Lib.hid (Blk.new wq 23 #[.int .i64 t, .int .i64 n])
          have gP : wr.heap.size < wq.heap.size := (RInv.blk HI0).lt
          go_wp2_with fail
          refine (of_any t n _).mono ?_
          rintro e w1 ⟨rfl, b1⟩
          rw [(bad_parts HX.out).1, (bad_parts HX.out).2.1, HX.out]
          have HI := RInv.alloc (RInv.call HI b1) (.cells #[.int .i64 0, .int .i64 0] 23)
          have P := Lib.hid ((P.out.call b1).alloc (.cells #[.int .i64 0, .int .i64 0] 23))
          have R := Lib.hid (Blk.new w1 23 #[.int .i64 0, .int .i64 0])
          have gR : wq.heap.size < w1.heap.size := by
            have := b1.size
            simp only [World.size_alloc] at this
            omega
          clear b1
          go_wp2_with (refine wpList_make_full _ rfl _ _ 33 rfl w.heap.size 23 i0 (.agg #[.int .i64 0, .int .i64 0]) 2 Tryd.underlying33 hi hz0 hz1 .i64 .i64 _ _ (q + 1) rfl rfl (by omega) (by omega) (by rw [hz2]; omega) (by unfold maxLen; omega) (RInv.was HI).size ?_)
          intro w2 hown hgr
          have S := blk_of_made hown (by omega)
          have hbl := (Below.refl _ (w1.alloc (.cells #[.int .i64 0, .int .i64 0] 23))).grown hgr (Nat.le_refl _) (fun g hg => by cases hg)
          have HI := RInv.call HI hbl
          have P := Lib.hid (P.out.call hbl)
          have R := Lib.hid (R.out.call hbl)
          have S := Lib.hid S
          clear hown hgr hbl
          go_wp2_with fail
          go_loopw [21] (fun i wu => ∃ j : Nat, j ≤ q + 1 ∧ i = .int .i64 j ∧ Hid (RInv w wr.heap.size 23 (tabA2 far) wu) ∧ Hid (Blk wu wq.heap.size 23 #[.int .i64 t, .int .i64 n]) ∧ Hid (Blk wu w1.heap.size 23 #[.int .i64 0, .int .i64 0]) ∧ Hid (Blk wu (w1.heap.size + 1) 23 (rowA (List.replicate j (1, 0) ++ List.replicate (q + 1 - j) (0, 0))))) (fun i _ => q + 1 - (intOf i).toNat)
          case atStart => exact ⟨0, by omega, rfl, HI, P, R, S⟩
          case round =>
            obtain ⟨j, hj, rfl, HI, P, R, S⟩ := hrel
            rename World => wu
            by_cases hlt2 : j < q + 1
            · have hrow := row_step j q hlt2
              have s0 := (S.out.cell (j * 2)).trans (rowA_at hrow.1).1
              have fr := S.out.frozen (j * 2)
              go_wp2_with fail
              refine ⟨⟨j + 1, hlt2, by go_num, RInv.set HI (by show wr.heap.size < w1.heap.size + 1; omega) hB _, Lib.hid (P.out.far (by show wq.heap.size ≠ w1.heap.size + 1; omega) _), Lib.hid (R.out.far (by show w1.heap.size ≠ w1.heap.size + 1; omega) _), Lib.hid ?_⟩, by simp [intOf]; omega⟩
              have := S.out.set (j * 2) (.int .i64 1)
              rw [(rowA_set hrow.1 1 0).1, hrow.2] at this
              exact this
            · obtain rfl : j = q + 1 := by omega
              rw [Nat.sub_self, List.replicate_zero, List.append_nil] at S
              obtain ⟨p, hp, hp1⟩ : ∃ p : Nat, at_.tmod ((q : Int) + 1) = (p : Int) ∧ p < q + 1 := by
                have h1 := Int.tmod_eq_emod_of_nonneg (b := (q : Int) + 1) a0
                have h2 := Int.emod_lt_of_pos at_ (b := (q : Int) + 1) (by omega)
                have h3 := Int.emod_nonneg at_ (b := (q : Int) + 1) (by omega)
                exact ⟨(at_.tmod ((q : Int) + 1)).toNat, by omega, by omega⟩
              have hrow : (List.replicate (q + 1) ((1 : Int), (0 : Int)))[p]? = some (1, 0) := by rw [List.getElem?_replicate, if_pos hp1]
              have s0 := (S.out.cell (p * 2)).trans (rowA_at hrow).1
              have s1 := (S.out.cell (p * 2 + 1)).trans (rowA_at hrow).2
              have fr0 := S.out.frozen (p * 2)
              have fr1 := S.out.frozen (p * 2 + 1)
              have p0 := P.out.cell 0
              have p1 := P.out.cell 1
              have hnz : ¬ ((q : Int) + 1 = 0) := by omega
              have hp2 : (p : Int) < (q : Int) + 1 := by omega
              have hp3 : (0 : Int) ≤ (p : Int) := by omega
              go_wp2_with fail
              go_region
              have HI := RInv.drew (RInv.set (RInv.set HI (p := ⟨w1.heap.size + 1, p * 2, none⟩) (by show wr.heap.size < w1.heap.size + 1; omega) hB (.int .i64 t)) (p := ⟨w1.heap.size + 1, p * 2 + 1, none⟩) (by show wr.heap.size < w1.heap.size + 1; omega) hB (.int .i64 n))
              have P := Lib.hid ((P.out.far (p := ⟨w1.heap.size + 1, p * 2, none⟩) (by show wq.heap.size ≠ w1.heap.size + 1; omega) (.int .i64 t)).far (p := ⟨w1.heap.size + 1, p * 2 + 1, none⟩) (by show wq.heap.size ≠ w1.heap.size + 1; omega) (.int .i64 n)).drew
              have R := Lib.hid ((R.out.far (p := ⟨w1.heap.size + 1, p * 2, none⟩) (by show w1.heap.size ≠ w1.heap.size + 1; omega) (.int .i64 t)).far (p := ⟨w1.heap.size + 1, p * 2 + 1, none⟩) (by show w1.heap.size ≠ w1.heap.size + 1; omega) (.int .i64 n)).drew
              have S1 := ((S.out.set (p * 2) (.int .i64 t)).set (p * 2 + 1) (.int .i64 n)).drew
              rw [(rowA_set hrow t n).2] at S1
              have hL := list_any (some ⟨w1.heap.size + 1, 0, none⟩) (q + 1) ((List.replicate (q + 1) ((1 : Int), (0 : Int))).set p (t, n)) (by simp; omega) (by
                intro v hv
                rcases List.mem_or_eq_of_mem_set hv with hv | rfl
                · rw [List.eq_of_mem_replicate hv]
                  simp
                · exact ⟨n0, n1⟩) _ (RInv.good HI) (rd_of_blk S1)
              obtain ⟨q1, q2⟩ := lst_bad (l := (List.replicate (q + 1) ((1 : Int), (0 : Int))).set p (t, n)) (k := p) (by rw [List.getElem?_set_self (by simpa using hp1)]) HX.out
              rw [q1, q2, List.length_set, List.length_replicate] at hL
              have HL := Lib.hid hL
              clear hL q1 q2 S1 S hrow s0 s1 fr0 fr1 p0 p1
              go_wp2_with fail
              refine HL.out.mono ?_
              rintro e w5 ⟨rfl, b5⟩
              have HI := RInv.call HI b5
              have P := Lib.hid (P.out.call b5)
              have R := Lib.hid (R.out.call b5)
              have p0 := P.out.cell 0
              have p1 := P.out.cell 1
              have r0 := R.out.cell 0
              have r1 := R.out.cell 1
              clear b5
              go_wp2_with fail
              refine (check_any t n _).mono ?_
              rintro e w6 ⟨rfl, b6⟩
              rw [HX.out]
              have HI := RInv.call HI b6
              clear b6
              go_wp2_with fail
              go_roundw
              case rel => exact ⟨k + 1, hlt, by go_num, HI⟩
              case measure => simp [intOf]; omega
        · obtain rfl : k = 4 := by omega
          rw [show ((4 : Nat) : Int) = 4 from rfl]
          have I2 : Hid (RInv w wq.heap.size 3 #[.int .i64 1, .int .i64 2, .int .i64 3] (wq.alloc (.cells #[.int .i64 1, .int .i64 2, .int .i64 3] 3))) := Lib.hid ⟨HI.out.1, below_new HI.out.2.1 _, Blk.new _ _ _⟩
          clear HI HI0
          go_wp2_with fail
          go_loopw [154] (fun i wv => ∃ k : Nat, k ≤ 3 ∧ i = .int .i64 k ∧ Hid (RInv w wq.heap.size 3 #[.int .i64 1, .int .i64 2, .int .i64 3] wv)) (fun i _ => 3 - (intOf i).toNat)
          case atStart => exact ⟨0, by omega, rfl, I2⟩
          case round =>
            obtain ⟨k, hk, rfl, HI⟩ := hrel
            rename World => wv
            by_cases hlt : k < 3
            · obtain ⟨t, ht, hgood⟩ := tab3 k hlt
              have c0 : wv.cell? ⟨wq.heap.size, k, none⟩ = some (.int .i64 t) := (RInv.blk HI).cell k |>.trans ht
              have e1 : Val.ofT t 0 = t := by unfold Val.ofT; rw [if_pos hgood]
              have e2 : Val.ofN t 0 = 0 := by unfold Val.ofN; rw [if_pos hgood]
              have E1 := Lib.hid e1
              have E2 := Lib.hid e2
              have HX := Lib.hid hgood
              clear ht hgood e1 e2
              go_wp2_with fail
              refine (default_any t _).mono ?_
              rintro e w1 ⟨rfl, b1⟩
              rw [E1.out, E2.out, HX.out]
              have R := Lib.hid (Blk.new w1 23 #[.int .i64 t, .int .i64 0])
              have HI := RInv.alloc (RInv.call HI b1) (.cells #[.int .i64 t, .int .i64 0] 23)
              clear b1
              go_wp2_with fail
              refine (check_any t 0 _).mono ?_
              rintro e w2 ⟨rfl, b2⟩
              rw [HX.out]
              have HI := RInv.call HI b2
              have R := Lib.hid (R.out.call b2)
              clear b2
              go_wp2_with fail
              go_roundw
              case rel => exact ⟨k + 1, hlt, by go_num, HI⟩
              case measure => simp [intOf]; omega
            · obtain rfl : k = 3 := by omega
              go_wp2_with fail
              refine (works_any _ (RInv.good HI)).mono ?_
              rintro e w3 ⟨rfl, b3⟩
              have HI := RInv.call HI b3
              clear b3
              go_wp2_with fail
              go_ret
              exact ⟨rfl, RInv.was HI⟩
end Go.Proofs.YtfghigioofaidaaDoor

/-
  PLAIN LAWS OF LAYER 42: as many, and as long, as is allowed; rows that a call made.
-/
import Derived.Test.YtphpgbbjbncfoaaGreatDoorComS
import Derived.Laws.OwnMore
import Derived.OwnWalk
namespace Go.Proofs.YtphpgbbjbncfoaaGreatDoor
open Go.ChangeShapes Go.WideShapes Go.ChangeAt Go.RowKit

/-! ### Rows -/
theorem flatMap_set {α : Type} (f : α → List Value) (k : Nat) (hf : ∀ x, (f x).length = k) : ∀ (l : List α) (i r : Nat) (x y : α) (v : Value), l[i]? = some x → r < k → f y = (f x).set r v → (l.flatMap f).set (i * k + r) v = (l.set i y).flatMap f
  | [], i, r, x, y, v, h, _, _ => by simp at h
  | z :: l, 0, r, x, y, v, h, hr, hy => by
    simp at h
    subst h
    rw [List.set_cons_zero, List.flatMap_cons, List.flatMap_cons, Nat.zero_mul, Nat.zero_add, List.set_append_left _ _ (by rw [hf]; exact hr), hy]
  | z :: l, i + 1, r, x, y, v, h, hr, hy => by
    simp at h
    rw [List.set_cons_succ, List.flatMap_cons, List.flatMap_cons, List.set_append_right _ _ (by rw [hf, Nat.add_mul]; omega), hf, show (i + 1) * k + r - k = i * k + r by rw [Nat.add_mul]; omega, flatMap_set f k hf l i r x y v h hr hy]
theorem flat_same {α : Type} (f : α → List Value) (k : Nat) (x : α) (hf : (f x).length = k) : ∀ (n j : Nat), j < n * k → ((List.replicate n x).flatMap f)[j]? = (f x)[j % k]?
  | 0, j, h => by omega
  | n + 1, j, h => by
    rw [List.replicate_succ, List.flatMap_cons]
    by_cases hj : j < k
    · rw [List.getElem?_append_left (by omega), Nat.mod_eq_of_lt hj]
    · rw [List.getElem?_append_right (by omega), hf, flat_same f k x hf n (j - k) (by rw [Nat.add_mul] at h; omega)]
      congr 1
      have : j = j - k + k := by omega
      conv => rhs; rw [this]
      rw [Nat.add_mod_right]
theorem made_rows {α : Type} (f : α → List Value) (k : Nat) (x : α) (hf : (f x).length = k) (hk : 0 < k) (n : Nat) : (madeCells (f x).toArray (n * k)).toList = (List.replicate n x).flatMap f := by
  apply List.ext_getElem?
  intro j
  by_cases hj : j < n * k
  · rw [flat_same f k x hf n j hj]
    have hm : j % k < (f x).length := by rw [hf]; exact Nat.mod_lt _ hk
    unfold madeCells
    rw [Array.getElem?_toList, Array.getElem?_map, Array.getElem?_range, if_pos hj, Option.map_some, List.size_toArray, hf, List.getElem?_eq_getElem hm]
    congr 1
    rw [getElem!_pos _ _ (by simpa using hm)]
    simp
  · have h1 : (madeCells (f x).toArray (n * k)).toList.length = n * k := by simp [madeCells]
    rw [List.getElem?_eq_none (by omega), List.getElem?_eq_none (by rw [flatMap_length f k _ (fun y hy => by rw [List.eq_of_mem_replicate hy]; exact hf), List.length_replicate]; omega)]
theorem blk_of_made {w : World} {base g n k : Nat} {T : TypeId} {xs : List Value} (h : w.ownsRow base T k (.slice (some ⟨g, 0, none⟩) n n) n xs) (hn : 0 < n) : Blk w g T xs.toArray := by
  rcases h.2 with ⟨_, h0⟩ | ⟨g', cap, cur, e, _, hh, _, _, hsz, ht⟩
  · omega
  · injection e with e1 _ e2
    injection e1 with e1
    injection e1 with e1
    subst e1 e2
    have : cur = xs.toArray := by
      apply Array.toList_inj.1
      rw [← ht, List.take_of_length_le (by simp [hsz])]
    rw [this] at hh
    exact hh
theorem rd_of_blk {w : World} {g : Nat} {T : TypeId} {xs : List Value} (h : Blk w g T xs.toArray) : Rd w w.heap.size (some ⟨g, 0, none⟩) xs := fun _ => by
  refine ⟨g, 0, rfl, h.lt, fun j u hu => ?_⟩
  rw [Nat.zero_add]
  exact (h.cell j).trans (by rw [List.getElem?_toArray]; exact hu)
theorem blk_put {w : World} {g : Nat} {T : TypeId} {xs : List Value} (h : Blk w g T xs.toArray) (i : Nat) (u : Value) : Blk (w.setCell ⟨g, i, none⟩ u) g T (xs.set i u).toArray := by
  have := h.set i u
  rwa [List.setIfInBounds_toArray] at this
/-- So many are turned. -/
def turned {α : Type} (a b : α) (n k : Nat) : List α := List.replicate k a ++ List.replicate (n - k) b
theorem turned_at {α : Type} (a b : α) {n k : Nat} (h : k < n) : (turned a b n k)[k]? = some b := by
  unfold turned
  rw [List.getElem?_append_right (by simp)]
  obtain ⟨r, hr⟩ : ∃ r, n - k = r + 1 := ⟨n - k - 1, by omega⟩
  rw [hr]
  simp
theorem turned_set {α : Type} (a b : α) {n k : Nat} (h : k < n) : (turned a b n k).set k a = turned a b n (k + 1) := by
  unfold turned
  obtain ⟨r, hr⟩ : ∃ r, n - k = r + 1 := ⟨n - k - 1, by omega⟩
  rw [hr, show n - (k + 1) = r by omega, List.set_append_right _ _ (by simp), List.replicate_succ' (n := k)]
  simp [List.replicate_succ]
theorem turned_none {α : Type} (a b : α) (n : Nat) : turned a b n 0 = List.replicate n b := by simp [turned]
theorem turned_all {α : Type} (a b : α) (n : Nat) : turned a b n n = List.replicate n a := by simp [turned]

/-! ### Many commands, long ones -/
def stepC : Cmd.C := ⟨3, 0, [], []⟩
theorem step_ok : Cmd.okB stepC = true := by decide +kernel
theorem ln_step : ln stepC = [115, 116, 101, 112] := by decide +kernel
def many (n : Nat) : List Cmd.C := List.replicate n stepC
theorem many_length (n : Nat) : (many n).length = n := List.length_replicate
theorem many_ok (n : Nat) : ∀ c ∈ many n, Cmd.okB c = true := fun c hc => by rw [List.eq_of_mem_replicate hc]; exact step_ok
theorem many_okC (n : Nat) : ∀ c ∈ many n, okC c := fun c hc => by rw [List.eq_of_mem_replicate hc]; exact ⟨by decide, by decide, by decide⟩
theorem many_len (n : Nat) : (script (many n)).length = 5 * n := by
  induction n with
  | zero => rfl
  | succ n ih =>
    have : script (many (n + 1)) = ln stepC ++ [10] ++ script (many n) := rfl
    rw [this, List.length_append, ih, ln_step]
    simp
    omega
theorem many_says : allR (script (many 500)) = (many 500, 0, 0) := by
  rw [← asIt_txt, allR_items (asIt_good (many_ok _)) (by rw [asIt_cs, many_length]; exact Nat.le_refl _), asIt_cs]
theorem many_more1 : allR (script (many 500) ++ [10, 35, 10, 115, 116, 101, 112]) = ([], 503, 10) := by
  have h : ∀ i ∈ asIt (many 500) ++ [(([] : List UInt8), (none : Option Cmd.C)), ([35], none)], GoodIt i := good_append (asIt_good (many_ok _)) (by
    intro i hi
    simp only [List.mem_cons, List.not_mem_nil, or_false] at hi
    rcases hi with rfl | rfl
    · exact .inr ⟨rfl, by decide, by decide⟩
    · exact .inr ⟨rfl, by decide, by decide⟩)
  have e := allR_many (is := asIt (many 500) ++ [([], none), ([35], none)]) h (by rw [itCs_append, asIt_cs, List.length_append, many_length]; rfl) (b := [115, 116, 101, 112]) (r := []) (by decide) (by decide) (.inl rfl)
  rw [itTxt_append, asIt_txt, List.append_nil, List.length_append, asIt_len] at e
  have e2 : script (many 500) ++ itTxt [([], none), ([35], none)] ++ [115, 116, 101, 112] = script (many 500) ++ [10, 35, 10, 115, 116, 101, 112] := by rw [List.append_assoc]; rfl
  rw [e2] at e
  rw [e, many_length]
  rfl
theorem many_more2 : allR (script (many 500) ++ [110, 111, 116, 104, 105, 110, 103]) = ([], 501, 10) := by
  have e := allR_many (asIt_good (many_ok 500)) (by rw [asIt_cs, many_length]) (b := [110, 111, 116, 104, 105, 110, 103]) (r := []) (by decide) (by decide) (.inl rfl)
  rw [asIt_txt, List.append_nil, asIt_len, many_length] at e
  rw [e]
  rfl
def xs (n : Nat) : List UInt8 := List.replicate n 120
theorem quote_xs (n : Nat) : Cmd.quote (xs n) = xs n := by
  induction n with
  | zero => rfl
  | succ n ih =>
    show Cmd.q1 120 ++ Cmd.quote (xs n) = _
    rw [ih]
    rfl
def longC (n : Nat) : Cmd.C := ⟨2, 0, [], xs n⟩
def longL (n : Nat) : List UInt8 := [108, 111, 97, 100, 32] ++ xs n
theorem ln_long (n : Nat) : ln (longC n) = longL n := by
  show [108, 111, 97, 100] ++ (32 :: Cmd.quote (xs n)) = _
  rw [quote_xs]
  rfl
theorem longL_len (n : Nat) : (longL n).length = 5 + n := by simp [longL, xs]; omega
theorem long_ok {n : Nat} (h : n ≤ 19995) : Cmd.okB (longC n) = true := by
  refine Cmd.ok_of (m := 2) rfl (by decide) (by decide) (Int.le_refl 0) (Int.le_refl 0) ?_ ?_
  · show (true && decide ((xs n).length ≤ 20000)) = true
    simp [xs]
    omega
  · have := longL_len n
    rw [← ln_long] at this
    show (ln (longC n)).length ≤ 20000
    omega
theorem long_bad {n : Nat} (h : 19995 < n) : Cmd.okB (longC n) = false := by
  unfold Cmd.okB
  have := longL_len n
  rw [← ln_long] at this
  have h2 : decide ((Cmd.line (longC n).kind.toNat (longC n)).length ≤ 20000) = false := decide_eq_false (by show ¬ (ln (longC n)).length ≤ 20000; omega)
  rw [h2, Bool.and_false]
theorem xs_snoc (n : Nat) : xs n ++ [120] = xs (n + 1) := by unfold xs; rw [List.replicate_succ']
theorem longL_snoc (n : Nat) : longL n ++ [120] = longL (n + 1) := by unfold longL; rw [List.append_assoc, xs_snoc]
theorem longL_feed (n : Nat) : ∀ c ∈ longL n, c ≠ 10 := by
  intro c hc
  rcases List.mem_append.1 hc with hc | hc
  · exact (show ∀ c ∈ ([108, 111, 97, 100, 32] : List UInt8), c ≠ 10 by decide) c hc
  · rw [List.eq_of_mem_replicate hc]; decide
theorem long_says {n : Nat} (h : n ≤ 19995) : allR ([115, 116, 101, 112, 10] ++ longL n ++ [10]) = ([stepC, longC n], 0, 0) := by
  have hg : ∀ c ∈ [stepC, longC n], Cmd.okB c = true := by
    intro c hc
    simp only [List.mem_cons, List.not_mem_nil, or_false] at hc
    rcases hc with rfl | rfl
    · exact step_ok
    · exact long_ok h
  have e := allR_items (asIt_good hg) (by rw [asIt_cs]; show 2 ≤ 500; decide)
  rw [asIt_txt, asIt_cs] at e
  rw [← e]
  show _ = allR (ln stepC ++ [10] ++ (ln (longC n) ++ [10] ++ []))
  rw [ln_step, ln_long]
  simp
theorem long_wrong {n : Nat} (h : 19995 < n) : allR ([115, 116, 101, 112, 10] ++ longL n ++ [10]) = ([], 2, 9) := by
  have hg : ∀ c ∈ [stepC], Cmd.okB c = true := by simpa using step_ok
  have e := allR_long (asIt_good hg) (by rw [asIt_cs]; decide) (b := longL n) (r := [10]) rfl (by rw [longL_len]; omega) (longL_feed n) (.inr ⟨[], rfl⟩)
  rw [asIt_txt, asIt_len] at e
  have e2 : script [stepC] ++ (longL n ++ [10]) = [115, 116, 101, 112, 10] ++ longL n ++ [10] := by
    show ln stepC ++ [10] ++ [] ++ _ = _
    rw [ln_step]
    simp
  rw [e2] at e
  rw [e]
  rfl
def zs (n : Nat) : List UInt8 := List.replicate n 0
theorem quote_zs (n : Nat) : (Cmd.quote (zs n)).length = 4 * n := by
  induction n with
  | zero => rfl
  | succ n ih =>
    show (Cmd.q1 0 ++ Cmd.quote (zs n)).length = _
    rw [List.length_append, ih]
    show 4 + 4 * n = _
    omega
theorem zs_bad {n : Nat} (h : 5000 ≤ n) : Cmd.okB ⟨15, 0, [], zs n⟩ = false := by
  unfold Cmd.okB
  have h3 : (Cmd.line 15 ⟨15, 0, [], zs n⟩).length = 5 + 4 * n := by
    show ([101, 100, 105, 116] ++ (32 :: Cmd.quote (zs n))).length = _
    have := quote_zs n
    simp only [List.length_append, List.length_cons, List.length_nil]
    omega
  have h2 : decide ((Cmd.line (Int.toNat 15) ⟨15, 0, [], zs n⟩).length ≤ 20000) = false := decide_eq_false (by show ¬ (Cmd.line 15 _).length ≤ 20000; omega)
  show (_ && decide ((Cmd.line (Int.toNat 15) ⟨15, 0, [], zs n⟩).length ≤ 20000)) = false
  rw [h2, Bool.and_false]
theorem bytesV_rep (n : Nat) (c : UInt8) : bytesV (List.replicate n c) = List.replicate n (.int .u8 (c.toNat : Int)) := List.map_replicate
theorem bytesV_set (l : List UInt8) (i : Nat) (c : UInt8) : (bytesV l).set i (.int .u8 (c.toNat : Int)) = bytesV (l.set i c) := by
  unfold bytesV
  rw [List.map_set]
end Go.Proofs.YtphpgbbjbncfoaaGreatDoor

/-
  LAYER 23, THE LAWS' HELPERS: an instruction on its own; the first that is not right.
-/
import Derived.Test.YtmmehfkiceelkaaDoorCdL
import Derived.Laws.OwnMore
import Derived.OwnWalk
namespace Go.Proofs.YtmmehfkiceelkaaDoor
open Go.ChangeShapes Go.WideShapes Go.ChangeAt Go.RowKit Go.Shelf

/-! ### Rows -/
theorem flatMap_set {α : Type} (f : α → List Value) (k : Nat) (hf : ∀ x, (f x).length = k) : ∀ (l : List α) (i r : Nat) (x y : α) (v : Value), l[i]? = some x → r < k → f y = (f x).set r v → (l.flatMap f).set (i * k + r) v = (l.set i y).flatMap f
  | [], i, r, x, y, v, h, _, _ => by simp at h
  | z :: l, 0, r, x, y, v, h, hr, hy => by
    simp at h
    subst h
    rw [List.set_cons_zero, List.flatMap_cons, List.flatMap_cons, Nat.zero_mul, Nat.zero_add, List.set_append_left _ _ (by rw [hf]; exact hr), hy]
  | z :: l, i + 1, r, x, y, v, h, hr, hy => by
    simp at h
    rw [List.set_cons_succ, List.flatMap_cons, List.flatMap_cons, List.set_append_right _ _ (by rw [hf, Nat.add_mul]; omega), hf, show (i + 1) * k + r - k = i * k + r by rw [Nat.add_mul]; omega, flatMap_set f k hf l i r x y v h hr hy]
theorem flat_same {α : Type} (f : α → List Value) (k : Nat) (x : α) (hf : (f x).length = k) : ∀ (n j : Nat), j < n * k → ((List.replicate n x).flatMap f)[j]? = (f x)[j % k]?
  | 0, j, h => by omega
  | n + 1, j, h => by
    rw [List.replicate_succ, List.flatMap_cons]
    by_cases hj : j < k
    · rw [List.getElem?_append_left (by omega), Nat.mod_eq_of_lt hj]
    · rw [List.getElem?_append_right (by omega), hf, flat_same f k x hf n (j - k) (by rw [Nat.add_mul] at h; omega)]
      congr 1
      have : j = j - k + k := by omega
      conv => rhs; rw [this]
      rw [Nat.add_mod_right]
theorem made_rows {α : Type} (f : α → List Value) (k : Nat) (x : α) (hf : (f x).length = k) (hk : 0 < k) (n : Nat) : (madeCells (f x).toArray (n * k)).toList = (List.replicate n x).flatMap f := by
  apply List.ext_getElem?
  intro j
  by_cases hj : j < n * k
  · rw [flat_same f k x hf n j hj]
    have hm : j % k < (f x).length := by rw [hf]; exact Nat.mod_lt _ hk
    unfold madeCells
    rw [Array.getElem?_toList, Array.getElem?_map, Array.getElem?_range, if_pos hj, Option.map_some, List.size_toArray, hf, List.getElem?_eq_getElem hm]
    congr 1
    rw [getElem!_pos _ _ (by simpa using hm)]
    simp
  · have h1 : (madeCells (f x).toArray (n * k)).toList.length = n * k := by simp [madeCells]
    rw [List.getElem?_eq_none (by omega), List.getElem?_eq_none (by rw [flatMap_length f k _ (fun y hy => by rw [List.eq_of_mem_replicate hy]; exact hf), List.length_replicate]; omega)]
theorem blk_of_made {w : World} {base g n k : Nat} {T : TypeId} {xs : List Value} (h : w.ownsRow base T k (.slice (some ⟨g, 0, none⟩) n n) n xs) (hn : 0 < n) : Blk w g T xs.toArray := by
  rcases h.2 with ⟨_, h0⟩ | ⟨g', cap, cur, e, _, hh, _, _, hsz, ht⟩
  · omega
  · injection e with e1 _ e2
    injection e1 with e1
    injection e1 with e1
    subst e1 e2
    have : cur = xs.toArray := by
      apply Array.toList_inj.1
      rw [← ht, List.take_of_length_le (by simp [hsz])]
    rw [this] at hh
    exact hh
theorem rd_of_blk {w : World} {g : Nat} {T : TypeId} {xs : List Value} (h : Blk w g T xs.toArray) : Rd w w.heap.size (some ⟨g, 0, none⟩) xs := fun _ => by
  refine ⟨g, 0, rfl, h.lt, fun j u hu => ?_⟩
  rw [Nat.zero_add]
  exact (h.cell j).trans (by rw [List.getElem?_toArray]; exact hu)
theorem blk_put {w : World} {g : Nat} {T : TypeId} {xs : List Value} (h : Blk w g T xs.toArray) (i : Nat) (u : Value) : Blk (w.setCell ⟨g, i, none⟩ u) g T (xs.set i u).toArray := by
  have := h.set i u
  rwa [List.setIfInBounds_toArray] at this
/-- So many are turned. -/
def turned {α : Type} (a b : α) (n k : Nat) : List α := List.replicate k a ++ List.replicate (n - k) b
theorem turned_at {α : Type} (a b : α) {n k : Nat} (h : k < n) : (turned a b n k)[k]? = some b := by
  unfold turned
  rw [List.getElem?_append_right (by simp)]
  obtain ⟨r, hr⟩ : ∃ r, n - k = r + 1 := ⟨n - k - 1, by omega⟩
  rw [hr]
  simp
theorem turned_set {α : Type} (a b : α) {n k : Nat} (h : k < n) : (turned a b n k).set k a = turned a b n (k + 1) := by
  unfold turned
  obtain ⟨r, hr⟩ : ∃ r, n - k = r + 1 := ⟨n - k - 1, by omega⟩
  rw [hr, show n - (k + 1) = r by omega, List.set_append_right _ _ (by simp), List.replicate_succ' (n := k)]
  simp [List.replicate_succ]
theorem turned_none {α : Type} (a b : α) (n : Nat) : turned a b n 0 = List.replicate n b := by simp [turned]
theorem turned_all {α : Type} (a b : α) (n : Nat) : turned a b n n = List.replicate n a := by simp [turned]

theorem set_same {α : Type} {m : List α} {k : Nat} {x : α} (h : m[k]? = some x) : m.set k x = m := by
  obtain ⟨hk, rfl⟩ := List.getElem?_eq_some_iff.1 h
  exact List.set_getElem_self hk
theorem turned_past {α : Type} (a b : α) {n k : Nat} : (turned a b n (k + 1))[k]? = some a := by
  unfold turned
  rw [List.getElem?_append_left (by simp), List.getElem?_replicate, if_pos (by omega)]
theorem info_instr' : (Tryd.prog.info? 23).map (fun i => (i.zero, i.size, i.bytes)) = some (some (.agg #[.int .i64 0, .int .i64 0]), 2, 16) := by kernel_rfl
theorem iC_set0 (n k : Nat) (h : k < n) : ((turned (16, 0) (0, 0) n k).flatMap iC).set (k * 2) (.int .i64 16) = (turned (16, 0) (0, 0) n (k + 1)).flatMap iC := by
  have hset := flatMap_set iC 2 iC_len (turned (16, 0) (0, 0) n k) k 0 (0, 0) (16, 0) (.int .i64 16) (turned_at _ _ h) (by decide) rfl
  rw [turned_set _ _ h, Nat.add_zero] at hset
  exact hset
theorem iC_set1 (n k : Nat) : ((turned (16, 0) (0, 0) n (k + 1)).flatMap iC).set (k * 2 + 1) (.int .i64 0) = (turned (16, 0) (0, 0) n (k + 1)).flatMap iC := by
  have hp : (turned ((16, 0) : Int × Int) (0, 0) n (k + 1))[k]? = some (16, 0) := turned_past _ _
  have hset := flatMap_set iC 2 iC_len (turned (16, 0) (0, 0) n (k + 1)) k 1 (16, 0) (16, 0) (.int .i64 0) hp (by decide) rfl
  rw [hset, set_same hp]
theorem iC_one (op a : Int) (n : Nat) (hn : 0 < n) : (((List.replicate n ((16, 0) : Int × Int)).flatMap iC).set 0 (.int .i64 op)).set 1 (.int .i64 a) = (oneL op a n).flatMap iC := by
  obtain ⟨m, rfl⟩ : ∃ m, n = m + 1 := ⟨n - 1, by omega⟩
  rfl

set_option maxRecDepth 100000 in
set_option maxHeartbeats 2000000 in
/-- rewindlaw23.one. -/
theorem one_any (op a : Int) (n : Nat) (s c : Int) (hn : 0 < n) (hn2 : n ≤ 1000) (hs : 0 ≤ s) (hc : 0 ≤ c) (w : World) :
    Calls Tryd.prog 23 #[iV op a, .int .i64 n, .int .i64 s, .int .i64 c] w fun e w' => e = .returned (.bool (Cd.right op a n s c)) ∧ Below w.heap.size w w' := by
  obtain ⟨i0, hi, hz0, hz1, hz2⟩ := info_parts info_instr'
  have HPl := Lib.hid (one_plain op a s c n hn hs hc)
  have HB0 := Lib.hid (below_new (Below.refl w.heap.size w) (.cells #[.int .i64 op, .int .i64 a] 23))
  have HX0 := Lib.hid (Blk.new w 23 #[.int .i64 op, .int .i64 a])
  have hrow : Hid ((madeCells (iC (0, 0)).toArray (n * 2)).toList = (List.replicate n (0, 0)).flatMap iC) := Lib.hid (made_rows iC 2 (0, 0) rfl (by decide) n)
  have HCk := Lib.hid fun A cap W hR => check_any (oneL op a n) A cap s c (by rw [oneL_len hn]; omega) W hR
  rw [oneL_len hn] at HCk
  obtain ⟨CI, hCI⟩ : ∃ x, chI (oneL op a n) s c = x := ⟨_, rfl⟩
  obtain ⟨CE, hCE⟩ : ∃ x, chE (oneL op a n) s c = x := ⟨_, rfl⟩
  obtain ⟨RR, hRR⟩ : ∃ x, Cd.right op a n s c = x := ⟨_, rfl⟩
  rw [hCI, hCE] at HCk
  rw [hCE, hRR] at HPl
  rw [hRR]
  clear hCI hCE hRR hs hc
  unfold iV
  have HN := Lib.hid hn
  go_enter Tryd.func23, Tryd.ntmps23
  go_wp2_with (refine wpList_make_full _ rfl _ _ 45 rfl (w.heap.size + 1) 23 i0 (.agg #[.int .i64 0, .int .i64 0]) 2 Tryd.underlying45 hi hz0 hz1 .i64 .i64 _ _ n rfl rfl (by omega) (by omega) (by rw [hz2]; omega) (by unfold maxLen; omega) (by simp) ?_)
  intro w2 hown hgr
  have hown' : w2.ownsRow (w.heap.size + 1) 23 2 (.slice (some ⟨w.heap.size + 1, 0, none⟩) n n) n ((turned (16, 0) (0, 0) n 0).flatMap iC) := by
    rw [turned_none, ← hrow.out]
    exact hown
  have HB : Hid (Blk w2 (w.heap.size + 1) 23 ((turned (16, 0) (0, 0) n 0).flatMap iC).toArray) := Lib.hid (blk_of_made hown' hn)
  have HI : Hid (Below w.heap.size w w2) := Lib.hid (HB0.out.grown hgr (by simp) (fun g hg => by cases hg))
  have HX : Hid (Blk w2 w.heap.size 23 #[.int .i64 op, .int .i64 a]) := Lib.hid (HX0.out.grown hgr (by simp))
  clear hown hown' hgr HB0 HX0
  go_wp2_with fail
  go_loopw [17] (fun i wr => ∃ k : Nat, k ≤ n ∧ i = .int .i64 k ∧ Hid (Below w.heap.size w wr) ∧ Hid (Blk wr w.heap.size 23 #[.int .i64 op, .int .i64 a]) ∧ Hid (Blk wr (w.heap.size + 1) 23 ((turned (16, 0) (0, 0) n k).flatMap iC).toArray)) (fun i _ => n - (intOf i).toNat)
  case atStart => exact ⟨0, Nat.zero_le _, rfl, HI, HX, HB⟩
  case round =>
    clear HI HX HB
    obtain ⟨k, hk, rfl, HI, HX, HB⟩ := hrel
    by_cases hlt : k < n
    · have k1 : (0 : Int) ≤ (k : Int) := by omega
      have k2 : (k : Int) < (n : Int) := by omega
      have hat := fun r (h : r < 2) => flatMap_get iC 2 (turned (16, 0) (0, 0) n k) (fun _ _ => rfl) k r (0, 0) (turned_at _ _ hlt) h
      have s0 : wr.cell? ⟨w.heap.size + 1, k * 2, none⟩ = some (.int .i64 0) := (HB.out.cell (k * 2)).trans (by rw [List.getElem?_toArray]; exact hat 0 (by decide))
      have s1 : wr.cell? ⟨w.heap.size + 1, k * 2 + 1, none⟩ = some (.int .i64 0) := (HB.out.cell (k * 2 + 1)).trans (by rw [List.getElem?_toArray]; exact hat 1 (by decide))
      have fr0 := HB.out.frozen (k * 2)
      have fr1 := HB.out.frozen (k * 2 + 1)
      have HB2 : Hid (Blk ((wr.setCell ⟨w.heap.size + 1, k * 2, none⟩ (.int .i64 16)).setCell ⟨w.heap.size + 1, k * 2 + 1, none⟩ (.int .i64 0)) (w.heap.size + 1) 23 ((turned (16, 0) (0, 0) n (k + 1)).flatMap iC).toArray) := Lib.hid (by
        have h1 := blk_put HB.out (k * 2) (.int .i64 16)
        rw [iC_set0 n k hlt] at h1
        have h2 := blk_put h1 (k * 2 + 1) (.int .i64 0)
        rw [iC_set1 n k] at h2
        exact h2)
      have HI2 : Hid (Below w.heap.size w ((wr.setCell ⟨w.heap.size + 1, k * 2, none⟩ (.int .i64 16)).setCell ⟨w.heap.size + 1, k * 2 + 1, none⟩ (.int .i64 0))) := Lib.hid ((HI.out.setCell (p := ⟨w.heap.size + 1, k * 2, none⟩) (Nat.le_succ _) _).setCell (p := ⟨w.heap.size + 1, k * 2 + 1, none⟩) (Nat.le_succ _) _)
      have HX2 : Hid (Blk ((wr.setCell ⟨w.heap.size + 1, k * 2, none⟩ (.int .i64 16)).setCell ⟨w.heap.size + 1, k * 2 + 1, none⟩ (.int .i64 0)) w.heap.size 23 #[.int .i64 op, .int .i64 a]) := Lib.hid ((HX.out.far (p := ⟨w.heap.size + 1, k * 2, none⟩) (by show w.heap.size ≠ w.heap.size + 1; omega) _).far (p := ⟨w.heap.size + 1, k * 2 + 1, none⟩) (by show w.heap.size ≠ w.heap.size + 1; omega) _)
      clear hat
      go_wp2_with fail
      go_roundw
      case rel => exact ⟨k + 1, by omega, by go_num, HI2, HX2, HB2⟩
      case measure => simp [intOf]; omega
    · obtain rfl : k = n := by omega
      rw [turned_all] at HB
      have k0 : (0 : Int) < (k : Int) := by have := HN.out; omega
      have z0 := HX.out.cell 0
      have z1 := HX.out.cell 1
      have s0 : wr.cell? ⟨w.heap.size + 1, 0, none⟩ = some (.int .i64 16) := (HB.out.cell 0).trans (by rw [List.getElem?_toArray]; obtain ⟨m, rfl⟩ : ∃ m, k = m + 1 := ⟨k - 1, by have := HN.out; omega⟩; rfl)
      have s1 : wr.cell? ⟨w.heap.size + 1, 1, none⟩ = some (.int .i64 0) := (HB.out.cell 1).trans (by rw [List.getElem?_toArray]; obtain ⟨m, rfl⟩ : ∃ m, k = m + 1 := ⟨k - 1, by have := HN.out; omega⟩; rfl)
      have fr0 := HB.out.frozen 0
      have fr1 := HB.out.frozen 1
      have HB2 : Hid (Blk ((wr.setCell ⟨w.heap.size + 1, 0, none⟩ (.int .i64 op)).setCell ⟨w.heap.size + 1, 1, none⟩ (.int .i64 a)) (w.heap.size + 1) 23 ((oneL op a k).flatMap iC).toArray) := Lib.hid (by
        have h1 := blk_put (blk_put HB.out 0 (.int .i64 op)) 1 (.int .i64 a)
        rw [iC_one op a k HN.out] at h1
        exact h1)
      have HI2 : Hid (Below w.heap.size w ((wr.setCell ⟨w.heap.size + 1, 0, none⟩ (.int .i64 op)).setCell ⟨w.heap.size + 1, 1, none⟩ (.int .i64 a))) := Lib.hid ((HI.out.setCell (p := ⟨w.heap.size + 1, 0, none⟩) (Nat.le_succ _) _).setCell (p := ⟨w.heap.size + 1, 1, none⟩) (Nat.le_succ _) _)
      clear HB HI HX
      go_wp2_with fail
      refine (HCk.out _ _ _ (rd_of_blk HB2.out)).mono ?_
      rintro e w4 ⟨rfl, b⟩
      have HI3 := Lib.hid (below_call HI2.out b)
      clear b z0 z1 s0 s1 fr0 fr1 HB2
      rcases RR with _ | _
      · have hE : CE = 2 := by rw [HPl.out]; rfl
        subst hE
        go_wp2_with fail
        go_ret
        exact ⟨rfl, HI3.out⟩
      · have hE : CE = 0 := by rw [HPl.out]; rfl
        subst hE
        go_wp2_with fail
        go_ret
        exact ⟨rfl, HI3.out⟩

/-- The first that is meant. -/
def ixL (l : List (Int × Int)) (p : Int × Int → Bool) : Int := match l.findIdx? p with
  | some k => (k : Int)
  | none => -1
theorem ixL_at {l : List (Int × Int)} {p : Int × Int → Bool} {k : Nat} {v : Int × Int} (hv : l[k]? = some v) (hp : p v = true) (hn : ∀ x ∈ l.take k, p x = false) : ixL l p = (k : Int) := by
  have hf : l.findIdx? p = some k := by
    rw [List.findIdx?_eq_some_iff_getElem]
    obtain ⟨hk, e⟩ := List.getElem?_eq_some_iff.1 hv
    refine ⟨hk, by rw [e]; exact hp, fun j hj => ?_⟩
    have : l[j] ∈ l.take k := by
      rw [List.mem_take_iff_getElem]
      exact ⟨j, by omega, rfl⟩
    rw [hn _ this]
    decide
  unfold ixL
  rw [hf]
theorem ixL_none {l : List (Int × Int)} {p : Int × Int → Bool} (hn : ∀ x ∈ l.take l.length, p x = false) : ixL l p = -1 := by
  rw [List.take_length] at hn
  unfold ixL
  rw [List.findIdx?_eq_none_iff.2 hn]
theorem ixL_chF (l : List (Int × Int)) (s c : Int) : ixL l (fun x => !Cd.right x.1 x.2 l.length s c) = match chF l s c with | some k => (k : Int) | none => -1 := rfl
set_option maxRecDepth 100000 in
set_option maxHeartbeats 1000000 in
/-- slices.IndexFunc at instructions. -/
theorem ixI_any (l : List (Int × Int)) (A : Option Addr) (cap : Nat) (F : FuncId) (x y z : Value) (p : Int × Int → Bool) (hl : l.length ≤ 1000) (w : World) (hE : ∀ args w, (callFunc F args).run Tryd.prog w = .ok (.enter F args) w)
    (hp : ∀ (k : Nat) (op a : Int), l[k]? = some (op, a) → ∀ W, Below w.heap.size w W → Calls Tryd.prog F #[iV op a, x, y, z] W fun e W' => e = .returned (.bool (p (op, a))) ∧ Below W.heap.size W W') (hR : Rd w w.heap.size A (l.flatMap iC)) :
    Calls Tryd.prog 21 #[.slice A l.length cap, .func (.func F) #[] #[x, y, z]] w fun e w' => e = .returned (.int .i64 (ixL l p)) ∧ Below w.heap.size w w' := by
  have HP := Lib.hid hp
  have HRd := Lib.hid hR
  have HB0 := Lib.hid (Below.refl w.heap.size w)
  clear hp hR
  obtain ⟨R, hR⟩ : ∃ r, ixL l p = r := ⟨_, rfl⟩
  rw [hR]
  have HR := Lib.hid hR
  clear hR
  go_enter Tryd.func21, Tryd.ntmps21
  go_wp2_with fail
  go_loopw [8] (fun i wr => ∃ k : Nat, k ≤ l.length ∧ i = .int .i64 k ∧ Hid (Below w.heap.size w wr) ∧ Hid (∀ v ∈ l.take k, p v = false)) (fun i _ => l.length - (intOf i).toNat)
  case atStart => exact ⟨0, Nat.zero_le _, rfl, HB0, Lib.hid (by simp)⟩
  case round =>
    obtain ⟨k, hk, rfl, HB, HT⟩ := hrel
    by_cases hlt : k < l.length
    · obtain ⟨⟨op, a⟩, hv⟩ : ∃ v, l[k]? = some v := ⟨_, List.getElem?_eq_getElem hlt⟩
      obtain ⟨b1, o1, rfl, _, hc1⟩ := (HRd.out.below HB.out).row (fun _ _ => iC_len _) hv (by decide)
      have x0 : wr.cell? ⟨b1, o1 + k * 2, none⟩ = some (.int .i64 op) := hc1 0 _ rfl
      have x1 : wr.cell? ⟨b1, o1 + k * 2 + 1, none⟩ = some (.int .i64 a) := hc1 1 _ rfl
      have HC := HP.out k op a hv wr HB.out
      unfold iV at HC
      have HC2 := Lib.hid HC
      have j1 : (0 : Int) ≤ (k : Int) := by omega
      have j3 : (k : Int) < (l.length : Int) := by omega
      have j4 : (k : Int) + 1 ≤ 9223372036854775807 := by omega
      clear hc1 HC
      go_wp2_with fail
      refine HC2.out.mono ?_
      rintro e w2 ⟨rfl, hb⟩
      have HB2 := Lib.hid (below_call HB.out hb)
      clear hb x0 x1 HC2
      rcases hpk : p (op, a) with _ | _
      · have HT2 : Hid (∀ v ∈ l.take (k + 1), p v = false) := Lib.hid (by
          rw [take_snoc hv]
          intro y hy
          rcases List.mem_append.1 hy with hy | hy
          · exact HT.out y hy
          · rw [List.mem_singleton.1 hy]; exact hpk)
        clear hpk hv
        go_wp2_with fail
        go_roundw
        case rel => exact ⟨k + 1, by omega, by go_num, HB2, HT2⟩
        case measure => simp [intOf]; omega
      · have HQ := Lib.hid (ixL_at hv hpk HT.out)
        clear hpk hv
        go_wp2_with fail
        go_ret
        exact ⟨ret_i (HQ.out.symm.trans HR.out), HB2.out⟩
    · obtain rfl : k = l.length := by omega
      have HQ := Lib.hid (ixL_none HT.out)
      go_wp2_with fail
      go_ret
      exact ⟨ret_i (HQ.out.symm.trans HR.out), HB.out⟩

set_option maxRecDepth 100000 in
/-- The closure of CodeLists. -/
theorem clos_any (op a : Int) (A : Option Addr) (n cap : Nat) (s c : Int) (g1 g2 g3 : Nat) (hn : 0 < n) (hn2 : n ≤ 1000) (hs : 0 ≤ s) (hc : 0 ≤ c) (w : World)
    (h1 : w.cell? ⟨g1, 0, none⟩ = some (.slice A n cap)) (h2 : w.cell? ⟨g2, 0, none⟩ = some (.int .i64 s)) (h3 : w.cell? ⟨g3, 0, none⟩ = some (.int .i64 c)) :
    Calls Tryd.prog 22 #[iV op a, .pointer (some ⟨g1, 0, none⟩), .pointer (some ⟨g2, 0, none⟩), .pointer (some ⟨g3, 0, none⟩)] w fun e w' => e = .returned (.bool (!Cd.right op a n s c)) ∧ Below w.heap.size w w' := by
  have HO := Lib.hid fun W => one_any op a n s c hn hn2 hs hc W
  obtain ⟨RR, hRR⟩ : ∃ x, Cd.right op a n s c = x := ⟨_, rfl⟩
  rw [hRR] at HO ⊢
  unfold iV at HO ⊢
  have hA := Below.alloc (Below.refl w.heap.size w) (Nat.le_refl _) (.cells #[.int .i64 op, .int .i64 a] 23)
  have HB := Lib.hid (below_new (Below.refl w.heap.size w) (.cells #[.int .i64 op, .int .i64 a] 23))
  have d1 := (hA.cell (p := ⟨g1, 0, none⟩) (lt_of_cell h1)).trans h1
  have d2 := (hA.cell (p := ⟨g2, 0, none⟩) (lt_of_cell h2)).trans h2
  have d3 := (hA.cell (p := ⟨g3, 0, none⟩) (lt_of_cell h3)).trans h3
  clear hA h1 h2 h3 hRR hs hc hn
  go_enter Tryd.func22, Tryd.ntmps22
  go_wp2_with fail
  refine (HO.out _).mono ?_
  rintro e w2 ⟨rfl, b⟩
  have HB2 := Lib.hid (below_call HB.out b)
  clear b
  go_wp2_with fail
  go_ret
  exact ⟨rfl, HB2.out⟩
end Go.Proofs.YtmmehfkiceelkaaDoor

/-
  OF NO PROGRAM: from a walk that ends in 'true' and turns nothing that was there, to a law's row (what is asked behind the call; an input that fits); small words on memory.
-/
import Derived.WalkKit
import Derived.ProofKit
import Derived.OpenShut
import Derived.Handy
import Derived.WalkLawsBesides
import Derived.WalkSpells
import Derived.Deep.DeepHandedRow
import Derived.Deep.Slices
import Derived.Deep.Fields
import Derived.Lay
import Derived.LaidMore
import Derived.Lib.LaidTab
import Derived.Stop.LaidErr
import Derived.Lib.Hide
import Derived.Lib.Strings
import Derived.Laws.Concat
import Derived.Laws.IdiomStrings
import Derived.Lib.AppendStr
import Derived.Sort.Grow
import Derived.Deep.Draws
namespace Go.Proofs.YtmmehfkiceelkaaDoor
open Go.ChangeShapes Go.WideShapes Go.ChangeAt Go.RowKit

section
variable {H : Type} {enc : TypeId × Value → H} {P : Program}

/-- The arguments read behind the call as they read before it. -/
theorem args_again (hl : laidOutB P = true) {W W' : World} (hb : Below W.heap.size W W') :
    ∀ {ts : List TypeId} {vs : List Value} {ds : List (DataW H)} {ps : List MemPlace}, (ts.all fun t => P.readableRec t && decide (t < P.types.size)) = true → (∀ x ∈ ps, x.block < W.heap.size) →
    DataW.TrodAll enc P W 0 (fun _ => true) true ts vs ds ps → DataW.TrodAll enc P W' 0 (fun b => decide (b < W.heap.size)) true ts vs ds ps
  | [], vs, ds, ps, _, _, h => by
    obtain ⟨rfl, rfl, rfl⟩ := trodAll_nil h
    exact trodAll_mk0
  | t :: ts, vs, ds, ps, hr, hlt, h => by
    obtain ⟨v, vs1, d, ds1, a, b, rfl, rfl, rfl, h1, h2⟩ := trodAll_cons h
    simp only [List.all_cons, Bool.and_eq_true, decide_eq_true_eq] at hr
    exact ⟨a, b, Below.trod hl hr.1.1 hr.1.2 h1 hb (fun x hx => hlt x (by simp [hx])), args_again hl hb hr.2 (fun x hx => hlt x (by simp [hx])) h2, rfl⟩

/-- WHAT A LAW's ROW ASKS BEHIND THE CALL: out of 'true' and 'nothing that was there has turned'. -/
theorem post_law {f : Func} {s : ChangeSpec} {W W' : World} {args : Array Value} {ds gs : List (DataW H)} {before : List MemPlace} {tb : TypeId}
    (hl : laidOutB P = true) (hrt : f.resultTypes = #[tb]) (htb : P.underlying tb = some .bool)
    (hread : (f.params.toList.all fun t => P.readableRec t && decide (t < P.types.size)) = true)
    (hvn : s.vars = []) (hres : (s.fn H (ds ++ gs)).results = [.lit (.bool true)]) (hargs : (s.fn H (ds ++ gs)).args = ds) (hvs : (s.fn H (ds ++ gs)).vars = [])
    (hW : DataW.Whole enc P f.params.toList s.vars false W args.toList ds gs before)
    (hb : Below W.heap.size W W') : s.post enc P f false true false false W args (.bool true) W' := by
  have hlt : ∀ p ∈ before, p.block < W.heap.size := fun p hp => hW.lt p hp
  have hW' := hW
  obtain ⟨p, q, hA, hV, rfl, _, _⟩ := hW
  rw [hvn] at hV
  obtain ⟨rfl, rfl⟩ := trodVars_none hV
  refine ⟨ds, [], p ++ [], [], p, [], hW', ?_, ?_, ?_, hb.frame _, fun h => by cases h⟩
  · rw [hres, hrt]
    exact trodAll_cons_mk (shut_bool htb true) trodAll_mk0
  · rw [hargs]
    exact args_again hl hb hread (fun x hx => hlt x (by simp [hx])) hA
  · rw [hvs, hvn]
    exact rfl

/-- AN INPUT THAT FITS: in the world in which the listed variables lie. -/
theorem row_witness {C : Checked} {os : Os} {f : FuncId} {fn : Func} {s : OpenSpec} {laid : List (String × DataW Unit)} (args : Array Value)
    (hsh : ((World.laidAll C.prog os laid).forCall (fun _ _ => 0) ⟨#[], args, []⟩).Shaped C.prog)
    (hok : Input.okWideB C.prog ((World.laidAll C.prog os laid).forCall (fun _ _ => 0) ⟨#[], args, []⟩) f ⟨#[], args, []⟩ = true)
    (hrow : s.preRow enc C.prog fn [] false laid ((World.laidAll C.prog os laid).forCall (fun _ _ => 0) ⟨#[], args, []⟩).memory args) :
    ∃ (w : World) (tape : Tape) (i : Input), w.os = os ∧ (w.forCall tape i).Shaped C.prog ∧ i.vars = [] ∧ Input.okWide C.prog (w.forCall tape i) .any w.heap.size f i ∧
      s.preRow enc C.prog fn [] false laid (w.forCall tape i).memory i.args ∧ ({} : Assume).holds C.prog (lone (Frame.enter C.prog f i.args .normal) [] (w.forCall tape i)) :=
  ⟨World.laidAll C.prog os laid, fun _ _ => 0, ⟨#[], args, []⟩, World.laidAll_os _ _ _, hsh, (Input.okWide_of_okWideB (base := 0) hok).1, (Input.okWide_of_okWideB hok).2, hrow, by
    simp only [Assume.holds]
    exact ⟨by simp, by simp, fun _ => Modest.zero, by simp, by simp⟩⟩
end

/-- What the head of a list of listed variables says: the cells, and that they read as the datum. -/
theorem laidHead {P : Program} {W : World} {name : String} {d : DataW Unit} {rest : List (String × DataW Unit)} {g : Nat} {t : TypeId}
    (hg : P.globalNamed name = some g) (hty : (P.globals[g]?).map (·.type) = some t) (h : laidMet P ((name, d) :: rest) W) :
    ∃ cs fuel p, W.var? P name = some cs ∧ DataW.trod (fun _ => ()) P W 0 (fun _ => true) false fuel t cs.toList = some (d, p) := by
  obtain ⟨ps, ⟨g', t', cs, fuel, p, q, hg', ht', hvar, hd, _, _⟩, _⟩ := h
  obtain rfl := Option.some.inj (hg.symm.trans hg')
  obtain rfl := Option.some.inj (hty.symm.trans ht')
  exact ⟨cs, fuel, p, hvar, hd⟩

/-- An array of strings that reads as these strings holds them, cell for cell. -/
theorem cells_of_strs {H : Type} {enc : TypeId × Value → H} {P : Program} {w : World} {base : Nat} {sp : Nat → Bool} {held : Bool} {fuel : Nat} {t e : TypeId} {n : Nat} {cs : List Value} {ss : List (List UInt8)} {p : List MemPlace}
    (ht : P.underlying t = some (.array n e)) (he : P.underlying e = some .string) (hce : P.cellsOf e = 1) (hct : P.cellsOf t = n)
    (h : DataW.trod enc P w base sp held fuel t cs = some (.agg (ss.map fun s => .lit (.string s)), p)) : cs = ss.map fun s => Value.string ⟨s.toArray⟩ := by
  obtain ⟨xs, m, _, hx, hl, hxl, hel⟩ := DataW.trod_array ht h
  rw [hct] at hl
  have hxs : xs.map (·.1) = ss.map fun s => (DataW.lit (.string s) : DataW H) := by
    have := (Prod.mk.inj hx).1
    injection this with this
    exact this.symm
  have hsl : ss.length = n := by
    have := congrArg List.length hxs
    simp at this
    omega
  apply List.ext_getElem?
  intro i
  by_cases hi : i < n
  · have h1 := hel i hi
    rw [hce, Nat.mul_one] at h1
    have hxi : xs[i]? = some (xs[i]'(by omega)) := List.getElem?_eq_getElem _
    rw [hxi] at h1
    obtain ⟨s, e1, e2, _⟩ := DataW.trod_string he h1
    have hci : cs[i]? = some (.string s) := by
      have := congrArg (·[0]?) e1
      simpa [List.getElem?_take, List.getElem?_drop] using this
    have h2 : (xs.map (·.1))[i]? = some (DataW.lit (.string s.data.toList) : DataW H) := by
      rw [List.getElem?_map, hxi]
      simp [e2]
    rw [hxs] at h2
    simp only [List.getElem?_map, Option.map_eq_some_iff, DataW.lit.injEq, Lit.string.injEq] at h2
    obtain ⟨s', hs', rfl⟩ := h2
    rw [hci, List.getElem?_map, hs']
    simp
  · rw [List.getElem?_eq_none (by omega), List.getElem?_eq_none (by simp; omega)]

theorem ret_int {k : IntKind} {a b : Int} (h : a = b) : Ending.returned (.int k a) = .returned (.int k b) := by rw [h]
theorem ret_bool {a b : Bool} (h : a = b) : Ending.returned (.bool a) = .returned (.bool b) := by rw [h]
theorem ret_str {a b : ByteArray} (h : a = b) : Ending.returned (.string a) = .returned (.string b) := by rw [h]
theorem ret_str_int {a b : ByteArray} {k : IntKind} {x y : Int} (h : a = b) (e : x = y) : Ending.returned (.tuple #[.string a, .int k x]) = .returned (.tuple #[.string b, .int k y]) := by rw [h, e]

/-! ### Strings as lists of bytes -/
theorem mk_inj {a b : List UInt8} : (⟨a.toArray⟩ : ByteArray) = ⟨b.toArray⟩ ↔ a = b := by
  constructor
  · intro h
    have := congrArg (fun x : ByteArray => x.data.toList) h
    simpa using this
  · intro h; rw [h]
theorem mk_of (s : ByteArray) : (⟨s.data.toList.toArray⟩ : ByteArray) = s := by
  cases s; simp
theorem mk_extract (l : List UInt8) (i j : Nat) : (⟨l.toArray⟩ : ByteArray).extract i j = ⟨((l.drop i).take (j - i)).toArray⟩ :=
  ByteArray.ext (Array.toList_inj.1 (by rw [Go.Lib.extract_data]))
theorem mk_size (l : List UInt8) : (⟨l.toArray⟩ : ByteArray).size = l.length := rfl
theorem size_list (s : ByteArray) : s.data.toList.length = s.size := rfl

/-! ### Words on memory -/

/-- All old cells and marks read as before: two rules for the walk. -/
theorem bcell {B : Nat} {W w : World} (hb : Below B W w) : (∀ b o, b < B → w.cell? ⟨b, o, none⟩ = W.cell? ⟨b, o, none⟩) ∧ (∀ b o, b < B → w.frozen? ⟨b, o, none⟩ = W.frozen? ⟨b, o, none⟩) :=
  ⟨fun b o h => hb.cell (p := ⟨b, o, none⟩) h, fun b o h => hb.frozen (p := ⟨b, o, none⟩) h⟩

/-- A cell that was there still holds what it held. -/
theorem kept {B : Nat} {W w : World} (hb : Below B W w) {p : Addr} {v : Value} (hp : p.block < B) (h : W.cell? p = some v) : w.cell? p = some v := (hb.cell hp).trans h
/-- The box of a parameter, behind a call. -/
theorem boxed {w w1 : World} {cs : Array Value} {T : TypeId} (hb : Below (w.alloc (.cells cs T)).heap.size (w.alloc (.cells cs T)) w1) (i : Nat) (v : Value) (h : cs[i]? = some v) : w1.cell? ⟨w.heap.size, i, none⟩ = some v :=
  kept hb (by simp) (by rw [cell_of_row _ _ _ _ _ _ (heap_alloc_new w _)]; exact h)
/-- From the world behind a box on to the one before it. -/
theorem behind {w w1 : World} {o : Obj} (hb : Below (w.alloc o).heap.size (w.alloc o) w1) : Below w.heap.size w w1 :=
  ((Below.refl _ _).alloc (Nat.le_refl _) o).trans (hb.mono (by simp))

theorem below_grow {w : World} (k : Nat) (os : Array Obj) : Below w.heap.size w (Go.Sort.grow (w.drewN k) os) :=
  ⟨rfl, rfl, rfl, by simp [Go.Sort.grow], fun b hb => by
    show (w.heap ++ os)[b]? = _
    rw [Array.getElem?_append_left hb]⟩

/-- Block g is just the cells cs of element type T, none frozen. -/
def Blk (w : World) (g : Nat) (T : TypeId) (cs : Array Value) : Prop := w.heap[g]? = some (.cells cs T (0, 0))
section
variable {w w' : World} {g : Nat} {T : TypeId} {cs : Array Value}
theorem Blk.lt (h : Blk w g T cs) : g < w.heap.size := (Array.getElem?_eq_some_iff.1 h).1
theorem Blk.new (w : World) (T : TypeId) (cs : Array Value) : Blk (w.alloc (.cells cs T)) w.heap.size T cs := heap_alloc_new w _
theorem Blk.cell (h : Blk w g T cs) (i : Nat) : w.cell? ⟨g, i, none⟩ = cs[i]? := cell_of_row w g i cs T (0, 0) h
theorem Blk.frozen (h : Blk w g T cs) (i : Nat) : w.frozen? ⟨g, i, none⟩ = false := by
  unfold Blk at h
  simp [World.frozen?, h]
theorem Blk.drew (h : Blk w g T cs) : Blk w.drew g T cs := h
theorem Blk.drewN (h : Blk w g T cs) (n : Nat) : Blk (w.drewN n) g T cs := h
theorem Blk.alloc (h : Blk w g T cs) (o : Obj) : Blk (w.alloc o) g T cs := (Below.heap_alloc w o g h.lt).trans h
theorem Blk.below {B : Nat} (h : Blk w g T cs) (hb : Below B w w') (hg : g < B) : Blk w' g T cs := (hb.block g hg).trans h
theorem Blk.grown {row : Option Nat} (h : Blk w g T cs) (hb : w.grownBy w' row) (hg : some g ≠ row) : Blk w' g T cs := (hb.block g h.lt hg).trans h
theorem Blk.set (h : Blk w g T cs) (i : Nat) (u : Value) : Blk (w.setCell ⟨g, i, none⟩ u) g T (cs.setIfInBounds i u) := by
  unfold Blk at h ⊢
  simp [World.setCell, Array.getElem?_modify, h]
theorem Blk.far (h : Blk w g T cs) {p : Addr} (hp : g ≠ p.block) (u : Value) : Blk (w.setCell p u) g T cs := (Below.heap_setCell w p u g hp).trans h
end

/-- A call behind what was kept so far; a new block behind it. -/
theorem below_call {a w w' : World} (h : Below a.heap.size a w) (hb : Below w.heap.size w w') : Below a.heap.size a w' := h.trans (hb.mono h.size)
theorem below_new {a w : World} (h : Below a.heap.size a w) (o : Obj) : Below a.heap.size a (w.alloc o) := h.alloc h.size o
theorem Blk.call {w w' : World} {g : Nat} {T : TypeId} {cs : Array Value} (h : Blk w g T cs) (hb : Below w.heap.size w w') : Blk w' g T cs := h.below hb h.lt

theorem lt_of_cell {w : World} {a : Addr} {v : Value} (h : w.cell? a = some v) : a.block < w.heap.size := by
  unfold World.cell? at h
  split at h
  · rename_i hh
    exact (Array.getElem?_eq_some_iff.1 hh).1
  · cases h

/-- What is owned stays owned behind a call. -/
theorem own_below {w w' : World} {base size n : Nat} {e : TypeId} {v : Value} {xs : List Value} (h : w.ownsRow base e size v n xs) (hb : Below w.heap.size w w') : w'.ownsRow base e size v n xs := by
  have hg : w.grownBy w' none := ⟨hb.os, hb.tape, hb.output, hb.size, fun i hi _ => hb.block i hi⟩
  refine h.kept hg ?_
  cases hv : v.ownBlock with
  | none => exact .inl rfl
  | some k => exact .inr (by simp)
/-- One new cell, for an append of one element. -/
theorem one_news (w : World) (T : TypeId) (u : Value) : ∀ (j : Nat) (x : Value), [u][j]? = some x → (w.alloc (.cells #[u] T)).cell? ((⟨w.heap.size, 0, none⟩ : Addr).add j) = some x := by
  intro j x hj
  match j, hj with
  | 0, hj =>
    simp at hj
    subst hj
    simp [Addr.add, World.cell?_alloc_new]

/-- A slice's cells, whatever its address (nil too): they lie below block B. -/
def Rd (w : World) (B : Nat) (A : Option Addr) (cells : List Value) : Prop :=
  cells ≠ [] → ∃ b off, A = some ⟨b, off, none⟩ ∧ b < B ∧ ∀ (j : Nat) (u : Value), cells[j]? = some u → w.cell? ⟨b, off + j, none⟩ = some u

section
variable {w w' : World} {B B' : Nat} {A : Option Addr} {cs : List Value}
theorem Rd.nil (w : World) (B : Nat) (A : Option Addr) : Rd w B A [] := fun h => absurd rfl h
theorem Rd.keep (h : Rd w B A cs) (hk : ∀ p : Addr, p.block < B → w'.cell? p = w.cell? p) : Rd w' B A cs := fun hn => by
  obtain ⟨b, off, e, hb, hc⟩ := h hn
  exact ⟨b, off, e, hb, fun j u hu => (hk ⟨b, off + j, none⟩ hb).trans (hc j u hu)⟩
theorem Rd.below (h : Rd w B A cs) (hb : Below B w w') : Rd w' B A cs := h.keep fun _ hp => hb.cell hp
theorem Rd.more (h : Rd w B A cs) (hB : B ≤ B') : Rd w B' A cs := fun hn => by
  obtain ⟨b, off, e, hb, hc⟩ := h hn
  exact ⟨b, off, e, by omega, hc⟩
theorem Rd.drew (h : Rd w B A cs) : Rd w.drew B A cs := h
theorem Rd.alloc (h : Rd w B A cs) (hB : B ≤ w.heap.size) (o : Obj) : Rd (w.alloc o) B A cs := h.keep fun p hp => World.cell?_alloc_lt w o p (by omega)
theorem Rd.setCell (h : Rd w B A cs) {p : Addr} (hB : B ≤ p.block) (u : Value) : Rd (w.setCell p u) B A cs :=
  h.keep fun q hq => World.cell?_setCell_other w p q u (fun e => by subst e; omega)
theorem Rd.grown (h : Rd w B A cs) {row : Option Nat} (hg : w.grownBy w' row) (hB : B ≤ w.heap.size) (hr : ∀ g, row = some g → B ≤ g) : Rd w' B A cs :=
  h.keep fun p hp => World.cell?_of_block (hg.block p.block (by omega) (fun e => by have := hr _ e.symm; omega))
/-- What lies at place j. -/
theorem Rd.at_ (h : Rd w B A cs) {j : Nat} (hj : j < cs.length) : ∃ b off, A = some ⟨b, off, none⟩ ∧ b < B ∧ w.cell? ⟨b, off + j, none⟩ = some cs[j] := by
  obtain ⟨b, off, e, hb, hc⟩ := h (by intro e; rw [e] at hj; simp at hj)
  exact ⟨b, off, e, hb, hc j _ (List.getElem?_eq_getElem hj)⟩
/-- Behind a cut at k elements of one cell: the model's own address. -/
theorem Rd.cut (h : Rd w B A cs) (k cap : Nat) (hc : cs.length ≤ cap) : Rd w B (if cap = k then A else A.map (·.add k)) (cs.drop k) := fun hn => by
  have hl : k < cs.length := by
    rcases Nat.lt_or_ge k cs.length with h | h
    · exact h
    · exact absurd (List.drop_eq_nil_of_le h) hn
  obtain ⟨b, off, e, hb, hcell⟩ := h (by intro e; rw [e] at hl; simp at hl)
  rw [if_neg (by omega), e]
  refine ⟨b, off + k, ?_, hb, fun j u hu => ?_⟩
  · simp [Addr.add]
  · rw [List.getElem?_drop] at hu
    rw [Nat.add_assoc]
    exact hcell _ u hu
theorem Rd.take (h : Rd w B A cs) (k : Nat) : Rd w B A (cs.take k) := fun hn => by
  obtain ⟨b, off, e, hb, hcell⟩ := h (by rintro rfl; simp at hn)
  refine ⟨b, off, e, hb, fun j u hu => hcell j u ?_⟩
  rw [List.getElem?_take] at hu
  split at hu
  · exact hu
  · cases hu
theorem Rd.of_own {base size n c : Nat} {e : TypeId} (h : w.ownsRow base e size (.slice A n c) n cs) : Rd w w.heap.size A cs := fun hn => by
  have hl := h.1
  have hn0 : 0 < n := by
    rcases Nat.eq_zero_or_pos n with e0 | e0
    · subst e0
      exact absurd (List.eq_nil_of_length_eq_zero (by simpa using hl)) hn
    · exact e0
  rcases h.2 with ⟨hv, e0⟩ | ⟨g, cap, cur, hv, _, hh, _, _, _, _⟩
  · omega
  · have hA : A = some ⟨g, 0, none⟩ := by injection hv
    subst hA
    refine ⟨g, 0, rfl, (Array.getElem?_eq_some_iff.1 hh).1, fun j u hu => ?_⟩
    have := h.cells (g := g) rfl j u hu
    rw [Go.WideShapes.add_plain] at this
    exact this
end

/-- A slice literal. -/
theorem rd_lit (w : World) (T : TypeId) (l : List Value) : Rd (w.alloc (.cells l.toArray T)) (w.alloc (.cells l.toArray T)).heap.size (some ⟨w.heap.size, 0, none⟩) l := fun _ =>
  ⟨w.heap.size, 0, rfl, by simp, fun j u hu => by rw [Nat.zero_add, (Blk.new w T l.toArray).cell j]; simpa using hu⟩

/-- A string's bytes as cells. -/
def bytesV (l : List UInt8) : List Value := l.map fun c => .int .u8 (c.toNat : Int)
theorem bytesV_append (a b : List UInt8) : bytesV (a ++ b) = bytesV a ++ bytesV b := List.map_append
theorem bytesV_str (s : ByteArray) : Go.Lib.strCells s = bytesV s.data.toList := rfl
theorem bytesV_one (l : List UInt8) : ∀ u ∈ bytesV l, u.oneCell' = true := by
  intro u hu
  obtain ⟨c, _, rfl⟩ := List.mem_map.1 hu
  rfl
/-- 'string(b)' of a row of the call's own, nil too. -/
theorem run_own_string {P : Program} (w : World) (src dst e : TypeId) (v : Value) (n base : Nat) (l : List UInt8) (hs : P.underlying src = some (.slice e)) (he : P.underlying e = some (.int .u8)) (hd : P.underlying dst = some .string)
    (hn : n = l.length) (hown : w.ownsRow base e 1 v n (bytesV l)) : (convert src dst v).run P w = .ok (.string ⟨l.toArray⟩) w := by
  subst hn
  rcases hown.2 with ⟨rfl, h0⟩ | ⟨g, cap, cur, rfl, _, _, _, _, _, _⟩
  · obtain rfl : l = [] := List.eq_nil_of_length_eq_zero h0
    rw [run_convert_bytes_string w src dst e none 0 0 hs he hd]
    simp [Conv.bytesToString]
    rfl
  · exact run_convert_bytes_back w src dst e ⟨g, 0, none⟩ cap l hs he hd (fun j hj => by
      have := hown.cells (g := g) rfl j (.int .u8 (l[j].toNat : Int)) (by simp [bytesV, hj])
      exact this)

theorem flatMap_at {α : Type} (f : α → List Value) (k : Nat) (hk : 0 < k) : ∀ (l : List α), (∀ x ∈ l, (f x).length = k) → ∀ (j : Nat) (u : Value), (l.flatMap f)[j]? = some u → ∃ i x, l[i]? = some x ∧ j = i * k + j % k ∧ (f x)[j % k]? = some u
  | [], _, j, u, h => by simp at h
  | x :: l, hl, j, u, h => by
    have hx := hl x (by simp)
    rw [List.flatMap_cons] at h
    by_cases hj : j < k
    · rw [List.getElem?_append_left (by omega)] at h
      exact ⟨0, x, rfl, by rw [Nat.mod_eq_of_lt hj]; omega, by rw [Nat.mod_eq_of_lt hj]; exact h⟩
    · rw [List.getElem?_append_right (by omega), hx] at h
      obtain ⟨i, y, hi, e, hu⟩ := flatMap_at f k hk l (fun z hz => hl z (by simp [hz])) (j - k) u h
      have hm : (j - k) % k = j % k := by
        conv => rhs; rw [show j = j - k + k by omega]
        rw [Nat.add_mod_right]
      rw [hm] at e hu
      exact ⟨i + 1, y, hi, by rw [Nat.add_mul]; omega, hu⟩

theorem flatMap_length {α : Type} (f : α → List Value) (k : Nat) : ∀ (l : List α), (∀ x ∈ l, (f x).length = k) → (l.flatMap f).length = l.length * k
  | [], _ => by simp
  | x :: l, h => by
    rw [List.flatMap_cons, List.length_append, h x (by simp), flatMap_length f k l (fun z hz => h z (by simp [hz])), List.length_cons, Nat.add_mul]
    omega
theorem flatMap_get {α : Type} (f : α → List Value) (k : Nat) : ∀ (l : List α), (∀ x ∈ l, (f x).length = k) → ∀ (i r : Nat) (x : α), l[i]? = some x → r < k → (l.flatMap f)[i * k + r]? = (f x)[r]?
  | [], _, i, r, x, h, _ => by simp at h
  | y :: l, hl, i, r, x, h, hr => by
    have hy := hl y (by simp)
    rw [List.flatMap_cons]
    cases i with
    | zero =>
      simp at h
      subst h
      rw [List.getElem?_append_left (by omega)]
      simp
    | succ i =>
      simp at h
      rw [List.getElem?_append_right (by rw [Nat.add_mul]; omega), hy, show (i + 1) * k + r - k = i * k + r by rw [Nat.add_mul]; omega]
      exact flatMap_get f k l (fun z hz => hl z (by simp [hz])) i r x h hr

/-- The cells of element i. -/
theorem Rd.row {α : Type} {f : α → List Value} {k : Nat} {w : World} {B : Nat} {A : Option Addr} {l : List α} (h : Rd w B A (l.flatMap f)) (hf : ∀ x ∈ l, (f x).length = k) {i : Nat} {x : α} (hx : l[i]? = some x) (hk : 0 < k) :
    ∃ b off, A = some ⟨b, off, none⟩ ∧ b < B ∧ ∀ (r : Nat) (u : Value), (f x)[r]? = some u → w.cell? ⟨b, off + i * k + r, none⟩ = some u := by
  have hxl := hf x (List.mem_of_getElem? hx)
  have hil := (List.getElem?_eq_some_iff.1 hx).1
  obtain ⟨b, off, e, hb, hc⟩ := h (by
    intro e
    have := congrArg List.length e
    rw [flatMap_length f k l hf, List.length_nil] at this
    rcases Nat.mul_eq_zero.1 this with h0 | h0 <;> omega)
  refine ⟨b, off, e, hb, fun r u hu => ?_⟩
  have hr : r < k := by rw [← hxl]; exact (List.getElem?_eq_some_iff.1 hu).1
  have := hc (i * k + r) u (by rw [flatMap_get f k l hf i r x hx hr]; exact hu)
  rw [← Nat.add_assoc] at this
  exact this

section
variable {H : Type} {enc : TypeId × Value → H} {P : Program} {w : World} {sp : Nat → Bool} {held : Bool}
/-- A SLICE THAT CAME IN, as a list of what its elements are. -/
theorem open_rows {α : Type} [Inhabited α] {t e : TypeId} {k b0 : Nat} {v : Value} {d : DataW H} {p : List MemPlace} (cellsOf : α → List Value) (good : α → Prop)
    (ht : P.underlying t = some (.slice e)) (hC : P.cellsOf e = k) (hk : 0 < k)
    (hrow : ∀ n cs x, DataW.trod enc P w 0 sp held n e cs = some x → cs.length = k → ∃ y : α, cs = cellsOf y ∧ good y)
    (hv : Value.okWide P w .any b0 t v) (h : DataW.Trod enc P w 0 sp held t v d p) :
    ∃ (A : Option Addr) (cap : Nat) (l : List α), v = .slice A l.length cap ∧ l.length ≤ cap ∧ cap ≤ maxLen ∧ (∀ x ∈ l, good x) ∧ (∀ x ∈ l, (cellsOf x).length = k) ∧ Rd w w.heap.size A (l.flatMap cellsOf) := by
  obtain ⟨a0, len, cap, rfl⟩ := okWide_slice ht hv
  obtain ⟨fuel, hf⟩ := h
  rcases Go.Deep.open_slice ht hf with ⟨hcs, _⟩ | ⟨a, len', cap', m, n, D, Pl, hcs, _, hl, hm, hmm, _, hel⟩
  · simp [Value.cells] at hcs
    obtain ⟨rfl, rfl, rfl⟩ := hcs
    exact ⟨none, 0, [], rfl, Nat.le_refl _, by simp, by simp, by simp, Rd.nil _ _ _⟩
  · simp [Value.cells] at hcs
    obtain ⟨rfl, rfl, rfl⟩ := hcs
    have hle : len ≤ m := by rw [hmm]; split <;> omega
    have hex : ∀ i, i < len → ∃ y : α, (cellsOf y).length = k ∧ good y ∧ ∀ r, r < k → w.cell? ((a.add (i * k)).add r) = (cellsOf y)[r]? := by
      intro i hi
      obtain ⟨cs', h1, h2⟩ := hel i (by omega)
      rw [hC] at h1
      obtain ⟨_, hlen, hat⟩ := World.cells?_some h1
      obtain ⟨y, rfl, hg⟩ := hrow n cs' _ h2 hlen
      exact ⟨y, hlen, hg, fun r hr => hat r hr⟩
    obtain ⟨f, hf'⟩ := Go.Deep.choose_lt hex
    have hkl : ∀ x ∈ (List.range len).map f, (cellsOf x).length = k := by
      intro x hx
      obtain ⟨i, hi, rfl⟩ := List.mem_map.1 hx
      exact (hf' i (List.mem_range.1 hi)).1
    refine ⟨some a, cap, (List.range len).map f, by simp, by simpa using hl, hm, ?_, hkl, fun hn => ?_⟩
    · intro x hx
      obtain ⟨i, hi, rfl⟩ := List.mem_map.1 hx
      exact (hf' i (List.mem_range.1 hi)).2.1
    · have hpos : 0 < len := by
        rcases Nat.eq_zero_or_pos len with e0 | e0
        · subst e0; simp at hn
        · exact e0
      have h0 := (hf' 0 hpos).2.2 0 hk
      have hc0 : w.cell? ((a.add (0 * k)).add 0) = some ((cellsOf (f 0))[0]'(by rw [(hf' 0 hpos).1]; exact hk)) := by
        rw [h0]; exact List.getElem?_eq_getElem _
      have hc1 : w.cell? a = some ((cellsOf (f 0))[0]'(by rw [(hf' 0 hpos).1]; exact hk)) := by
        simpa [Addr.add] using hc0
      obtain ⟨b, off, spot⟩ := a
      have hspot : spot = none := World.cell?_spot hc1
      subst hspot
      refine ⟨b, off, rfl, lt_of_cell hc1, fun j u hu => ?_⟩
      obtain ⟨i, x, hi, ej, hu'⟩ := flatMap_at cellsOf k hk _ hkl j u hu
      have hil : i < len := by
        have := (List.getElem?_eq_some_iff.1 hi).1
        simpa using this
      have hx : x = f i := by
        have := hi
        simp [hil] at this
        exact this.symm
      subst hx
      have := (hf' i hil).2.2 (j % k) (Nat.mod_lt _ hk)
      rw [hu', Go.WideShapes.add_plain, Go.WideShapes.add_plain] at this
      rw [show off + j = off + i * k + j % k by omega]
      exact this
end

end Go.Proofs.YtmmehfkiceelkaaDoor

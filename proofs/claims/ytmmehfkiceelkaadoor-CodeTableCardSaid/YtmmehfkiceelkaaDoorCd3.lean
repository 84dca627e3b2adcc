/-
  LAYER 23: the table, and a row of it.
-/
import Derived.Test.YtmmehfkiceelkaaDoorCd2
namespace Go.Proofs.YtmmehfkiceelkaaDoor
open Go.ChangeShapes Go.WideShapes Go.ChangeAt Go.RowKit Go.Shelf

def ptr (b : Nat) : Value := .pointer (some ⟨b, 0, none⟩)
def sp1 (b : Nat) : Value := .func (.func 65) #[] #[ptr b, ptr (b + 1)]
def slV : Value := .func (.func 51) #[] #[]
def tgV : Value := .func (.func 53) #[] #[]
/-- The functions of the table: the spans' bounds lie from G on. -/
def fvs (G : Nat) : List Value := [.nilFunc, .func (.func 50) #[] #[], slV, slV, sp1 G, sp1 (G + 2), tgV, tgV, slV, slV, slV, .nilFunc, .nilFunc, sp1 (G + 4), .func (.func 54) #[] #[], .nilFunc, sp1 (G + 6), slV]
def fv (G k : Nat) : Value := ((fvs G)[k]?).getD .nilFunc
def jmp (k : Nat) : Bool := k == 6 || k == 7
def rowC (G k : Nat) : List Value := [.string ⟨(Cd.word k).toArray⟩, fv G k, .int .i64 (Cd.pops k), .int .i64 (Cd.push k), .bool (jmp k)]
def rowsC (G : Nat) : List Value := (List.range 18).flatMap (rowC G)
/-- The bounds of the four spans. -/
def bnd : List Int := [14, 15, 1, 11, 1, 2, 0, 1]
/-- Boxes of numbers, one behind the other. -/
def Ws : World → List Int → World
  | w, [] => w
  | w, x :: r => Ws (w.alloc (.cells #[.int .i64 x] 2)) r
theorem Ws_size : ∀ (l : List Int) (w : World), (Ws w l).heap.size = w.heap.size + l.length
  | [], _ => rfl
  | x :: r, w => by rw [Ws, Ws_size r, World.size_alloc, List.length_cons]; omega
theorem Ws_keep {g : Nat} {T : TypeId} {cs : Array Value} : ∀ (l : List Int) (w : World), Blk w g T cs → Blk (Ws w l) g T cs
  | [], _, h => h
  | _ :: r, _, h => Ws_keep r _ (h.alloc _)
theorem Ws_below {n : Nat} {w0 : World} : ∀ (l : List Int) (w : World), n ≤ w.heap.size → Below n w0 w → Below n w0 (Ws w l)
  | [], _, _, h => h
  | _ :: r, w, hn, h => Ws_below r _ (by rw [World.size_alloc]; omega) (h.alloc hn _)
theorem Ws_at : ∀ (l : List Int) (w : World) (j : Nat) (x : Int), l[j]? = some x → Blk (Ws w l) (w.heap.size + j) 2 #[.int .i64 x]
  | [], _, _, _, h => by cases h
  | y :: r, w, 0, x, h => by
    cases h
    exact Ws_keep r _ (Blk.new w _ _)
  | y :: r, w, j + 1, x, h => by
    have := Ws_at r (w.alloc (.cells #[.int .i64 y] 2)) j x h
    rw [World.size_alloc] at this
    rw [show w.heap.size + (j + 1) = w.heap.size + 1 + j by omega]
    exact this
set_option maxHeartbeats 2000000 in
set_option maxRecDepth 100000 in
theorem table_any (w : World) : Calls Tryd.prog 38 #[] w fun e w' => e = .returned (.slice (some ⟨w.heap.size + 8, 0, none⟩) 18 18) ∧ Blk w' (w.heap.size + 8) 67 (rowsC w.heap.size).toArray ∧ (∀ (j : Nat) (x : Int), bnd[j]? = some x → Blk w' (w.heap.size + j) 2 #[.int .i64 x]) ∧ Below w.heap.size w w' := by
  go_enter Tryd.func38, Tryd.ntmps38
  go_wp2_with fail
  refine (span_any 14 15 _).mono ?_
  rintro e w2 ⟨rfl, rfl⟩
  go_wp2_with fail
  refine (span_any 1 11 _).mono ?_
  rintro e w2 ⟨rfl, rfl⟩
  go_wp2_with fail
  refine (span_any 1 2 _).mono ?_
  rintro e w2 ⟨rfl, rfl⟩
  go_wp2_with fail
  refine (span_any 0 1 _).mono ?_
  rintro e w2 ⟨rfl, rfl⟩
  go_wp2_with fail
  go_ret
  have hsz : (Ws w bnd).heap.size = w.heap.size + 8 := Ws_size bnd w
  refine ⟨rfl, ?_, ?_, ?_⟩
  · have h := Blk.new (Ws w bnd) 67 (rowsC w.heap.size).toArray
    rw [hsz] at h
    exact h
  · intro j x hj
    exact (Ws_at bnd w j x hj).alloc _
  · have h := Ws_below (n := w.heap.size) bnd w (Nat.le_refl _) (Below.refl _ w)
    exact h.alloc (by rw [hsz]; omega) _
end Go.Proofs.YtmmehfkiceelkaaDoor

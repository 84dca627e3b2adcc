/-
  GENERAL LAWS, MORE: an input that fits, where a listed variable holds functions; the functions of such a table.
-/
import Derived.Test.YtmmehfkiceelkaaDoorGen2
import Derived.LaidHandle
import Derived.LaidMore
namespace Go.Proofs.YtmmehfkiceelkaaDoor
open Go.ChangeShapes Go.WideShapes Go.ChangeAt Go.RowKit

/-- The plain data of a list, laid over a world by the function. -/
theorem laidMet_from {P : Program} {w0 : World} {laid : List (String × DataW Unit)} (args : Array Value) (hf : w0.layFits P laid [] = true) (hi : w0.layIfaces P laid (w0.layVars P laid) = true) :
    laidMet P laid ((w0.layVars P laid).forCall (fun _ _ => 0) ⟨#[], args, []⟩).memory := by
  have e1 : (laid.filter fun x => (laid.map (·.1)).contains x.1) = laid := List.filter_eq_self.2 fun x hx => List.contains_iff_mem.2 (List.mem_map.2 ⟨x, hx, rfl⟩)
  have e2 : (laid.filter fun x => !(laid.map (·.1)).contains x.1) = [] := List.filter_eq_nil_iff.2 fun x hx => by rw [List.contains_iff_mem.2 (List.mem_map.2 ⟨x, hx, rfl⟩)]; simp
  have h : laidMet P laid (w0.layVars P laid) := laidMet_layVars (w0 := w0) (laid.map (·.1)) [] (by rw [e1]) (by rw [e1]; exact hf) (by rw [e1]; exact hi) (by rw [e2]; exact LaidIn.none)
  exact h.of_heap (by simp [World.memory, World.forCall, Input.heap])

/-- AN INPUT THAT FITS: in a world of one's own. -/
theorem row_witness_at {H : Type} {enc : TypeId × Value → H} {C : Checked} {os : Os} {f : FuncId} {fn : Func} {s : OpenSpec} {laid : List (String × DataW Unit)} (w : World) (args : Array Value) (hos : w.os = os)
    (hsh : (w.forCall (fun _ _ => 0) ⟨#[], args, []⟩).Shaped C.prog)
    (hok : Input.okWideB C.prog (w.forCall (fun _ _ => 0) ⟨#[], args, []⟩) f ⟨#[], args, []⟩ = true)
    (hrow : s.preRow enc C.prog fn [] false laid (w.forCall (fun _ _ => 0) ⟨#[], args, []⟩).memory args) :
    ∃ (w : World) (tape : Tape) (i : Input), w.os = os ∧ (w.forCall tape i).Shaped C.prog ∧ i.vars = [] ∧ Input.okWide C.prog (w.forCall tape i) .any w.heap.size f i ∧
      s.preRow enc C.prog fn [] false laid (w.forCall tape i).memory i.args ∧ ({} : Assume).holds C.prog (lone (Frame.enter C.prog f i.args .normal) [] (w.forCall tape i)) :=
  ⟨w, fun _ _ => 0, ⟨#[], args, []⟩, hos, hsh, (Input.okWide_of_okWideB (base := 0) hok).1, (Input.okWide_of_okWideB hok).2, hrow, by
    simp only [Assume.holds]
    exact ⟨by simp, by simp, fun _ => Modest.zero, by simp, by simp⟩⟩

/-- What lies at place i of an array of functions. -/
theorem func_at {P : Program} {w : World} {sp : Nat → Bool} {fuel n : Nat} {t e : TypeId} {cs : List Value} {ds : List (DataW (List UInt8))} {p : List MemPlace}
    (ht : P.underlying t = some (.array n e)) (hce : P.cellsOf e = 1) (hct : P.cellsOf t = n)
    (h : DataW.trod (funcToken P) P w 0 sp true fuel t cs = some (.agg ds, p)) {i : Nat} {d : DataW (List UInt8)} (hd : ds[i]? = some d) :
    ∃ v m q, cs[i]? = some v ∧ DataW.trod (funcToken P) P w 0 sp true m e [v] = some (d, q) := by
  obtain ⟨xs, m, _, hx, hl, hxl, hel⟩ := DataW.trod_array ht h
  rw [hct] at hl
  have hxs : xs.map (·.1) = ds := by
    have := (Prod.mk.inj hx).1
    injection this with this
    exact this.symm
  have hsl : ds.length = n := by rw [← hxs]; simpa using hxl
  have hi : i < n := by rw [← hsl]; exact (List.getElem?_eq_some_iff.1 hd).1
  have h1 := hel i hi
  rw [hce, Nat.mul_one] at h1
  have hci : (cs.drop i).take 1 = [cs[i]'(by omega)] := by
    rw [List.drop_eq_getElem_cons (by omega)]
    rfl
  rw [hci] at h1
  have hxi : xs[i]? = some (xs[i]'(by omega)) := List.getElem?_eq_getElem _
  rw [hxi] at h1
  rw [← hxs, List.getElem?_map, hxi] at hd
  simp only [Option.map_some, Option.some.injEq] at hd
  refine ⟨cs[i]'(by omega), m, (xs[i]'(by omega)).2, List.getElem?_eq_getElem _, ?_⟩
  rw [h1, ← hd]
end Go.Proofs.YtmmehfkiceelkaaDoor

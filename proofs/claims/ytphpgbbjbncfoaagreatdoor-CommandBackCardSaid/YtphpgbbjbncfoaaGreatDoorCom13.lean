/-
  LAYER 42: command.ParseAll.
-/
import Derived.Test.YtphpgbbjbncfoaaGreatDoorComQ
import Derived.Test.YtphpgbbjbncfoaaGreatDoorComL
namespace Go.Proofs.YtphpgbbjbncfoaaGreatDoor
open Go.ChangeShapes Go.WideShapes Go.ChangeAt Go.RowKit

/-- A command's cells. -/
def cC (c : Cmd.C) : List Value := [.int .i64 c.kind, .int .i64 c.a, .string ⟨c.name.toArray⟩, .string ⟨c.val.toArray⟩]
theorem cC_len (c : Cmd.C) : (cC c).length = 4 := rfl
/-- Is a line skipped? -/
def skipB (p : List UInt8) : Bool := p.isEmpty || p.head? == some 35
/-- What a script says from line number i on. -/
def goAll : Nat → List Cmd.C → List (List UInt8) → List Cmd.C × Int × Int
  | _, out, [] => (out, 0, 0)
  | i, out, p :: r => if skipB p = true then goAll (i + 1) out r else if out.length = 500 then ([], (i : Int) + 1, 10) else if 20000 < p.length then ([], (i : Int) + 1, 9) else if parseE p = 0 then goAll (i + 1) (out ++ [parseS p]) r else ([], (i : Int) + 1, parseE p)
def allR (s : List UInt8) : List Cmd.C × Int × Int := goAll 0 [] (Lin.pieces s)
theorem info_cmd : (Tryz.prog.info? 24).map (fun i => (i.zero, i.size, i.bytes)) = some (some (.agg #[.int .i64 0, .int .i64 0, .string ⟨#[]⟩, .string ⟨#[]⟩]), 4, 48) := by kernel_rfl
/-- strings.Split at a line feed. -/
theorem splitL_any (l : List UInt8) (hl : l.length ≤ 1000000) (w : World) (hG : Good w) :
    Calls Tryz.prog 37 #[.string ⟨l.toArray⟩, .string ⟨#[10]⟩] w fun e w' => e = .returned (.slice (some ⟨w.heap.size, 0, none⟩) (Lin.pieces l).length (Lin.pieces l).length) ∧ w' = w.alloc (.cells ((Lin.pieces l).map fun p => Value.string ⟨p.toArray⟩).toArray 9) := by
  obtain ⟨m, hm⟩ := hG.ml
  have h := Tryz.strings_Split ⟨l.toArray⟩ ⟨#[10]⟩ m w (by show l.length < _; omega) hm (by decide)
  have e1 := Lin.splitB_pieces l
  have e2 := Lib.splitB_all ⟨#[10]⟩ (by decide) 0 _ ⟨l.toArray⟩ rfl
  rw [e1, List.length_map] at e2
  rw [e1, ← e2, List.map_map] at h
  exact h
theorem piece_lenL : ∀ (l p : List UInt8), p ∈ Lin.pieces l → p.length ≤ l.length
  | [], p, h => by
    rw [show Lin.pieces [] = [[]] from rfl, List.mem_singleton] at h
    subst h
    simp
  | c :: r, p, h => by
    have ih := piece_lenL r
    obtain ⟨q, qs, hq⟩ := Lin.pieces_ne r
    by_cases hc : c = 10
    · subst hc
      rw [Lin.pieces_feed] at h
      rcases List.mem_cons.1 h with rfl | h
      · simp
      · have := ih p h
        rw [List.length_cons]
        omega
    · rw [Lin.pieces_other hc hq] at h
      rw [hq] at ih
      rcases List.mem_cons.1 h with rfl | h
      · have := ih q (by simp)
        rw [List.length_cons, List.length_cons]
        omega
      · have := ih p (by simp [h])
        rw [List.length_cons]
        omega
theorem go_skip {i : Nat} {out : List Cmd.C} {p : List UInt8} {r : List (List UInt8)} (h : skipB p = true) : goAll i out (p :: r) = goAll (i + 1) out r := by rw [goAll, if_pos h]
theorem go_many {i : Nat} {out : List Cmd.C} {p : List UInt8} {r : List (List UInt8)} (h : skipB p = false) (h2 : out.length = 500) : goAll i out (p :: r) = ([], (i : Int) + 1, 10) := by rw [goAll, if_neg (by rw [h]; decide), if_pos h2]
theorem go_long {i : Nat} {out : List Cmd.C} {p : List UInt8} {r : List (List UInt8)} (h : skipB p = false) (h2 : out.length ≠ 500) (h3 : 20000 < p.length) : goAll i out (p :: r) = ([], (i : Int) + 1, 9) := by rw [goAll, if_neg (by rw [h]; decide), if_neg h2, if_pos h3]
theorem go_good {i : Nat} {out : List Cmd.C} {p : List UInt8} {r : List (List UInt8)} (h : skipB p = false) (h2 : out.length ≠ 500) (h3 : ¬ 20000 < p.length) (h4 : parseE p = 0) : goAll i out (p :: r) = goAll (i + 1) (out ++ [parseS p]) r := by rw [goAll, if_neg (by rw [h]; decide), if_neg h2, if_neg h3, if_pos h4]
theorem go_form {i : Nat} {out : List Cmd.C} {p : List UInt8} {r : List (List UInt8)} (h : skipB p = false) (h2 : out.length ≠ 500) (h3 : ¬ 20000 < p.length) (h4 : parseE p ≠ 0) : goAll i out (p :: r) = ([], (i : Int) + 1, parseE p) := by rw [goAll, if_neg (by rw [h]; decide), if_neg h2, if_neg h3, if_neg h4]
end Go.Proofs.YtphpgbbjbncfoaaGreatDoor

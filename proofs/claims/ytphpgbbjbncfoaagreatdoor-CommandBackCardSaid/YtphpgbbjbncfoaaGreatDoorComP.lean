/-
  PLAIN LAWS OF LAYER 42 (commands): what a command's string is.
-/
import Derived.Test.YtphpgbbjbncfoaaGreatDoorCom
namespace Go.Proofs.YtphpgbbjbncfoaaGreatDoor.Cmd
open Go.Lib Go.Proofs.YtphpgbbjbncfoaaGreatDoor.Dec

structure C where
  kind : Int
  a : Int
  name : List UInt8
  val : List UInt8
deriving DecidableEq
def zero : C := ⟨0, 0, [], []⟩
def words : List (List UInt8) := [[], [105, 110, 112, 117, 116], [108, 111, 97, 100], [115, 116, 101, 112], [110, 101, 120, 116], [102, 105, 110, 105, 115, 104], [99, 111, 110, 116, 105, 110, 117, 101], [98, 114, 101, 97, 107], [98, 97, 99, 107], [114, 101, 119, 105, 110, 100], [103, 111, 116, 111], [119, 104, 101, 114, 101], [118, 97, 114, 115], [111, 117, 116, 112, 117, 116], [108, 105, 115, 116], [101, 100, 105, 116]]
def cls (k : Nat) : Nat := if k = 1 then 1 else if k = 2 ∨ k = 15 then 2 else if k = 7 then 3 else if k = 10 ∨ k = 12 then 4 else 0
def most (k : Nat) : Int := if k = 10 then 1000000000 else if k = 7 ∨ k = 12 then 200 else 0
def word' (k : Int) : List UInt8 := if 0 ≤ k then (words[k.toNat]?).getD [] else []
def listB (l : List UInt8) : Bool := match Num.list l with | some n => decide (n.length ≤ 200) | none => false
def valid (cl : Nat) (c : C) : Bool :=
  match cl with
  | 1 => listB c.val && c.name.isEmpty
  | 2 => c.name.isEmpty && decide (c.val.length ≤ 20000)
  | 3 => nameB c.name && c.val.isEmpty
  | _ => c.name.isEmpty && c.val.isEmpty
def text (cl : Nat) (c : C) : List UInt8 :=
  match cl with
  | 1 => 32 :: c.val
  | 2 => 32 :: quote c.val
  | 3 => 32 :: (c.name ++ 32 :: itoa c.a)
  | 4 => 32 :: itoa c.a
  | _ => []
def line (k : Nat) (c : C) : List UInt8 := (words[k]?).getD [] ++ text (cls k) c
def okB (c : C) : Bool := decide (1 ≤ c.kind ∧ c.kind ≤ 15 ∧ 0 ≤ c.a ∧ c.a ≤ most c.kind.toNat) && valid (cls c.kind.toNat) c && decide ((line c.kind.toNat c).length ≤ 20000)
def print (c : C) : Option (List UInt8) := if okB c = true then some (line c.kind.toNat c) else none
def printS (c : C) : List UInt8 := (print c).getD []
def printE (c : C) : Int := if okB c = true then 0 else 2
end Go.Proofs.YtphpgbbjbncfoaaGreatDoor.Cmd

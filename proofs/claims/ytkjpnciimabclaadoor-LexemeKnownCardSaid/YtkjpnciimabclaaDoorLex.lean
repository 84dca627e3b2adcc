/-
  PLAIN LAWS OF LAYER 4 (tokens): what stands behind white space and comments, the token that a text begins with, the tokens of a text; tokens that are written one behind the other, with white space or comments between them, are found again.
-/
import Derived.Test.YtkjpnciimabclaaDoorDec
namespace Go.Proofs.YtkjpnciimabclaaDoor.Lex
open Go.Lib Go.Proofs.YtkjpnciimabclaaDoor.Dec

def white (c : UInt8) : Bool := decide (c.toNat = 32 ∨ c.toNat = 9 ∨ c.toNat = 13 ∨ c.toNat = 10)
def dig (c : UInt8) : Bool := decide (48 ≤ c.toNat ∧ c.toNat ≤ 57)
def letr (c : UInt8) : Bool := decide ((65 ≤ c.toNat ∧ c.toNat ≤ 90) ∨ (97 ≤ c.toNat ∧ c.toNat ≤ 122))
def word (c : UInt8) : Bool := letr c || dig c || decide (c.toNat = 95)

/-- What is left behind white space and comments; true: inside a comment. -/
def rest : Bool → List UInt8 → List UInt8
  | _, [] => []
  | true, c :: r => if c = 10 then rest false r else rest true r
  | false, c :: r => if white c = true then rest false r else if c = 47 ∧ r.head? = some 47 then rest true r else c :: r

def keywords : List (List UInt8) := [[102, 117, 110, 99], [118, 97, 114], [105, 102], [101, 108, 115, 101], [119, 104, 105, 108, 101], [114, 101, 116, 117, 114, 110], [112, 114, 105, 110, 116], [114, 101, 97, 100], [110, 101, 119], [108, 101, 110], [105, 110, 116], [98, 111, 111, 108], [97, 114, 114, 97, 121], [116, 114, 117, 101], [102, 97, 108, 115, 101]]
def signs : List (List UInt8) := [[124, 124], [38, 38], [61, 61], [33, 61], [60, 61], [62, 61], [40], [41], [123], [125], [91], [93], [44], [59], [61], [60], [62], [43], [45], [42], [47], [37], [33]]

/-- Digits that are a number, with what follows. -/
def numOk (d r : List UInt8) : Bool := (match parseIntB 64 d with | .ok n => decide (itoa n = d) | _ => false) && (match r with | [] => true | c :: _ => !word c)

/-- The token that a text begins with: its kind (0: none) and its text. -/
def first (l : List UInt8) : Int × List UInt8 :=
  match l with
  | [] => (0, [])
  | c :: _ =>
    if letr c = true then
      if (l.takeWhile word) ∈ keywords then (3, l.takeWhile word) else if (l.takeWhile word).length ≤ 16 then (1, l.takeWhile word) else (0, [])
    else if dig c = true then
      if numOk (l.takeWhile dig) (l.drop (l.takeWhile dig).length) = true then (2, l.takeWhile dig) else (0, [])
    else match signs.find? (fun x => x.isPrefixOf l) with
      | some x => (4, x)
      | none => (0, [])

structure Tok where
  kind : Int
  text : List UInt8
  off : Nat
  deriving DecidableEq, Inhabited

/-- How many bytes of white space and comments a text begins with. -/
def skip (l : List UInt8) : Nat := l.length - (rest false l).length

def pre (t : Tok) : Except Nat (List Tok) → Except Nat (List Tok)
  | .ok ts => .ok (t :: ts)
  | .error e => .error e

/-- The tokens of a text that begins with one, from an offset on; or the offset that is wrong. The fuel: more than there are bytes is enough. -/
def scanR : Nat → Nat → List UInt8 → Except Nat (List Tok)
  | 0, _, _ => .ok []
  | _ + 1, _, [] => .ok []
  | f + 1, p, c :: r =>
    if (first (c :: r)).1 = 0 then .error p
    else pre ⟨(first (c :: r)).1, (first (c :: r)).2, p⟩ (scanR f (p + (first (c :: r)).2.length + skip ((c :: r).drop (first (c :: r)).2.length)) (rest false ((c :: r).drop (first (c :: r)).2.length)))

/-- The tokens of a text; or the offset that is wrong. -/
def scan (l : List UInt8) : Except Nat (List Tok) := scanR (l.length + 1) (skip l) (rest false l)

def toks : Except Nat (List Tok) → List Tok
  | .ok ts => ts
  | .error _ => []
def offs : Except Nat (List Tok) → Nat
  | .ok _ => 0
  | .error e => e
def errn : Except Nat (List Tok) → Int
  | .ok _ => 0
  | .error _ => 7
end Go.Proofs.YtkjpnciimabclaaDoor.Lex

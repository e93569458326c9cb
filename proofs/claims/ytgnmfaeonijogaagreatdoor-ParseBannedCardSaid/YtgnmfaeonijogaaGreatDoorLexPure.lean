/- The lexer of the given program as plain Lean functions on lists: no Go in sight. -/
import Derived.Test.YtgnmfaeonijogaaGreatDoorPure
namespace Go.Proofs.YtgnmfaeonijogaaGreatDoor.Lx
open Pp (Bytes Tok)

def digit (c : UInt8) : Bool := decide (48 ≤ c) && decide (c ≤ 57)
def letter (c : UInt8) : Bool := (decide (97 ≤ c) && decide (c ≤ 122)) || ((decide (65 ≤ c) && decide (c ≤ 90)) || c == 95)
def wordy (c : UInt8) : Bool := letter c || digit c
def noLine (c : UInt8) : Bool := c != 10

/-- The byte at a place; 0: there is none. -/
def peek (S : Bytes) (i : Nat) : UInt8 := S.getD i 0
/-- As many bytes on as are of a kind. -/
def skip (p : UInt8 → Bool) (S : Bytes) (i : Nat) : Nat := i + ((S.drop i).takeWhile p).length
def part (S : Bytes) (i j : Nat) : Bytes := (S.drop i).take (j - i)

def words : List Bytes := [[66, 69, 71, 73, 78], [69, 78, 68], [102, 117, 110, 99, 116, 105, 111, 110], [105, 102], [101, 108, 115, 101], [119, 104, 105, 108, 101], [102, 111, 114], [105, 110], [98, 114, 101, 97, 107], [99, 111, 110, 116, 105, 110, 117, 101], [110, 101, 120, 116], [101, 120, 105, 116], [114, 101, 116, 117, 114, 110], [100, 101, 108, 101, 116, 101], [112, 114, 105, 110, 116], [112, 114, 105, 110, 116, 102]]
def builtins : List Bytes := [[108, 101, 110, 103, 116, 104], [115, 117, 98, 115, 116, 114], [105, 110, 100, 101, 120], [115, 112, 108, 105, 116], [115, 117, 98], [103, 115, 117, 98], [109, 97, 116, 99, 104], [116, 111, 108, 111, 119, 101, 114], [116, 111, 117, 112, 112, 101, 114], [105, 110, 116], [115, 112, 114, 105, 110, 116, 102], [114, 97, 110, 100], [115, 114, 97, 110, 100]]
def banned : List Bytes := [[103, 101, 116, 108, 105, 110, 101], [115, 121, 115, 116, 101, 109], [99, 108, 111, 115, 101], [102, 102, 108, 117, 115, 104], [115, 121, 115, 116, 105, 109, 101], [115, 116, 114, 102, 116, 105, 109, 101]]
/-- Does a slash begin a pattern here? -/
def slash (out : List Tok) : Bool :=
  match out.getLast? with
  | none => true
  | some t =>
    if t.kind = 2 ∨ t.kind = 3 ∨ t.kind = 4 ∨ t.kind = 5 then false
    else if t.kind = 9 then t.text != [108, 101, 110, 103, 116, 104]
    else if t.kind = 8 then !([[41], [93], [43, 43], [45, 45]] : List Bytes).contains t.text
    else true

/-- What a step comes to: tokens and a place; or the place of an error. -/
inductive Res where
  | ok (out : List Tok) (i : Nat)
  | bad (i : Nat)

def number (S : Bytes) (out : List Tok) (i : Nat) : Res :=
  let j := skip digit S i
  let k := if peek S j = 46 then skip digit S (j + 1) else j
  .ok (out ++ [⟨2, part S i k, i⟩]) k

def inString (c : UInt8) : Option Bytes :=
  if c = 110 then some [10] else if c = 116 then some [9] else if c = 34 ∨ c = 92 ∨ c = 47 then some [c] else none
def inRegex (c : UInt8) : Option Bytes :=
  if c = 47 then some [47] else if c = 10 then none else some [92, c]

/-- Up to a sign: the text so far is b, the place i. -/
def quotedF (kind : Int) (fin : UInt8) (how : UInt8 → Option Bytes) (S : Bytes) (out : List Tok) (from_ : Nat) : Nat → Bytes → Nat → Res
  | 0, _, _ => .bad from_
  | f + 1, b, i =>
    if S.length ≤ i ∨ peek S i = 10 then .bad from_
    else if peek S i = fin then .ok (out ++ [⟨kind, b, from_⟩]) (i + 1)
    else if peek S i = 92 then
      match how (peek S (i + 1)) with
      | none => .bad i
      | some t => if S.length ≤ i + 1 then .bad i else quotedF kind fin how S out from_ f (b ++ t) (i + 2)
    else quotedF kind fin how S out from_ f (b ++ [peek S i]) (i + 1)
def quoted (kind : Int) (fin : UInt8) (how : UInt8 → Option Bytes) (S : Bytes) (out : List Tok) (i : Nat) : Res :=
  quotedF kind fin how S out i (S.length + 1) [] (i + 1)

def wordKind (S : Bytes) (s : Bytes) (k : Nat) : Int :=
  if words.contains s then 7 else if builtins.contains s then 9 else if banned.contains s then 10 else if peek S k = 40 then 6 else 5
def word (S : Bytes) (out : List Tok) (i : Nat) : Res :=
  let k := skip wordy S i
  .ok (out ++ [⟨wordKind S (part S i k) k, part S i k, i⟩]) k

def twos : Bytes := [32, 43, 61, 32, 45, 61, 32, 42, 61, 32, 47, 61, 32, 37, 61, 32, 61, 61, 32, 60, 61, 32, 62, 61, 32, 33, 61, 32, 43, 43, 32, 45, 45, 32, 38, 38, 32, 124, 124, 32, 62, 62, 32, 33, 126, 32]
def ones : Bytes := [123, 125, 40, 41, 91, 93, 59, 44, 43, 45, 42, 47, 37, 33, 62, 60, 124, 63, 58, 126, 36, 61]
def sign (S : Bytes) (out : List Tok) (i : Nat) : Res :=
  let two := part S i (i + 2)
  if two.length = 2 ∧ Pp.sub twos ([32] ++ two ++ [32]) = true then .ok (out ++ [⟨8, two, i⟩]) (i + 2)
  else if ones.contains (peek S i) then .ok (out ++ [⟨8, two.take 1, i⟩]) (i + 1)
  else .bad i

def next (S : Bytes) (out : List Tok) (i : Nat) : Res :=
  let c := peek S i
  if c = 32 ∨ c = 9 ∨ c = 13 then .ok out (i + 1)
  else if c = 35 then .ok out (skip noLine S i)
  else if c = 92 ∧ peek S (i + 1) = 10 then .ok out (i + 2)
  else if c = 10 then .ok (out ++ [⟨1, [], i⟩]) (i + 1)
  else if digit c = true ∨ (c = 46 ∧ digit (peek S (i + 1)) = true) then number S out i
  else if letter c then word S out i
  else if c = 34 then quoted 3 34 inString S out i
  else if c = 47 ∧ slash out = true then quoted 4 47 inRegex S out i
  else sign S out i

/-- The tokens of a text from a place on; or the place of an error. -/
def lexF (S : Bytes) : Nat → List Tok → Nat → Res
  | 0, _, i => .bad i
  | f + 1, out, i =>
    if i < S.length then
      match next S out i with
      | .bad j => .bad j
      | .ok out2 j => lexF S f out2 j
    else .ok (out ++ [⟨0, [], i⟩]) i
def lex (S : Bytes) : Res := lexF S (S.length + 1) [] 0

/-- A program's tree: the tree, the place, the error. -/
def parse (rx : Bytes → Int) (k : Nat) (S : Bytes) : Option (Pp.Node × Int × Int) :=
  if 4000 < S.length then some (Pp.node0, 0, 12)
  else match lex S with
    | .bad i => some (Pp.node0, i, 9)
    | .ok T _ => Pp.parseT rx k T

end Go.Proofs.YtgnmfaeonijogaaGreatDoor.Lx

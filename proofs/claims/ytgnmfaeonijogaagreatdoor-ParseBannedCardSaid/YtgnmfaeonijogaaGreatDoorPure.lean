/- The parser of the given program as plain Lean functions on lists: no Go in sight. 'none': the fuel is spent, or a depth passes a bound that no text reaches. -/
namespace Go.Proofs.YtgnmfaeonijogaaGreatDoor.Pp

abbrev Bytes := List UInt8

structure Tok where
  kind : Int
  text : Bytes
  pos : Int

def tok0 : Tok := ⟨0, [], 0⟩

inductive Node where
  | mk (op text : Bytes) (pos : Int) (kids : List Node)

def Node.op : Node → Bytes | .mk o _ _ _ => o
def Node.text : Node → Bytes | .mk _ t _ _ => t
def Node.pos : Node → Int | .mk _ _ p _ => p
def Node.kids : Node → List Node | .mk _ _ _ k => k

/-- What the parser holds: its place, its depth, the mark 'flat', the first error and its place. -/
structure PS where
  i : Nat
  deep : Int
  flat : Bool
  err : Int
  bad : Int

section
variable (T : List Tok)

def cur (s : PS) : Tok := if s.err = 0 then T.getD s.i tok0 else tok0
def ahead (n : Nat) (s : PS) : Tok := if s.err = 0 ∧ s.i + n < T.length then T.getD (s.i + n) tok0 else tok0
def isBad (t : Tok) : Bool := t.kind == 10 || (t.kind == 8 && t.text == [124])
def fail (s : PS) : PS :=
  if s.err = 0 then (if isBad (T.getD s.i tok0) then { s with err := 10, bad := (T.getD s.i tok0).pos } else { s with err := 9, bad := (T.getD s.i tok0).pos }) else s
def at_ (l : List Bytes) (s : PS) : Bool := ((cur T s).kind == 8 || (cur T s).kind == 7) && l.contains (cur T s).text
def step (s : PS) : PS := if s.err = 0 ∧ s.i + 1 < T.length then { s with i := s.i + 1 } else s
def accept (x : Bytes) (s : PS) : PS := if at_ T [x] s then step T s else s
def expect (x : Bytes) (s : PS) : PS := if at_ T [x] s then step T s else fail T s
def linesF : Nat → PS → PS
  | 0, s => s
  | k + 1, s => if (cur T s).kind = 1 then linesF k (step T s) else s
def lines (s : PS) : PS := linesF T T.length s
def down (s : PS) : Option PS :=
  if s.deep < 1000000 then
    some (if 50 < s.deep + 1 ∧ s.err = 0 then { s with deep := s.deep + 1, err := 14, bad := (T.getD s.i tok0).pos } else { s with deep := s.deep + 1 })
  else none
def up (s : PS) : PS := { s with deep := s.deep - 1 }
def name (kinds : List Int) (s : PS) : Tok × PS := if kinds.contains (cur T s).kind then (cur T s, step T s) else (tok0, fail T s)
end

def place (n : Node) : Bool := ([[118, 97, 114], [105, 110, 100, 101, 120], [102, 105, 101, 108, 100]] : List Bytes).contains n.op
def leaf (op : Bytes) (t : Tok) (kids : List Node) : Node := .mk op t.text t.pos kids
def node (op : Bytes) (kids : List Node) : Node := .mk op [] 0 kids
def node0 : Node := .mk [] [] 0 []

/-- Does one text stand within another? -/
def sub : Bytes → Bytes → Bool
  | [], x => x.isEmpty
  | a :: r, x => x.isPrefixOf (a :: r) || sub r x

/-- A small table of texts: the empty text where there is none. -/
def look : List (Bytes × Bytes) → Bytes → Bytes
  | [], _ => []
  | (a, b) :: r, x => if a = x then b else look r x

section
variable (T : List Tok) (E : PS → Option (Node × PS))

def listL (fin : Bytes) : Nat → List Node → PS → Option (List Node × PS)
  | 0, _, _ => none
  | k + 1, out, s =>
    if s.err = 0 ∧ at_ T [fin] s = false then
      match E (if out = [] then s else lines T (expect T [44] s)) with
      | none => none
      | some (n, s2) => listL fin k (out ++ [n]) (lines T s2)
    else some (out, s)
def list (k : Nat) (fin : Bytes) (s : PS) : Option (List Node × PS) :=
  match listL T E fin k [] (lines T { s with flat := false }) with
  | none => none
  | some (out, s2) => some (out, { expect T fin s2 with flat := s.flat })
def inside (fin : Bytes) (s : PS) : Option (Node × PS) :=
  match E (lines T { s with flat := false }) with
  | none => none
  | some (n, s2) => some (n, { expect T fin (lines T s2) with flat := s.flat })
end

def wrong (t : Tok) (is : Bool) (e : Int) (s : PS) : PS := if is = true ∧ s.err = 0 then { s with err := e, bad := t.pos } else s
def setName : List Node → List Node
  | a :: b :: r => a :: .mk [110, 97, 109, 101] b.text b.pos b.kids :: r
  | l => l
def op1 (l : List Node) : Bytes := (l.getD 1 node0).op

/-- What a builtin's arguments have to be; which, behind that. -/
def builtinArgs (t : Tok) (args : List Node) (s : PS) : List Node × PS :=
  let n := args.length
  if t.text = [108, 101, 110, 103, 116, 104] then (args, wrong t (decide (1 < n)) 9 s)
  else if t.text = [115, 117, 98, 115, 116, 114] then (args, wrong t (decide (n < 2) || decide (3 < n)) 9 s)
  else if t.text = [115, 112, 108, 105, 116] then
    let s1 := wrong t (decide (n < 2) || decide (3 < n) || op1 args != [118, 97, 114]) 9 s
    (if s1.err = 0 then setName args else args, s1)
  else if t.text = [115, 117, 98] ∨ t.text = [103, 115, 117, 98] then
    (if n = 2 then args ++ [node [102, 105, 101, 108, 100] [.mk [110, 117, 109] [48] t.pos []]] else args,
      wrong t (decide (n < 2) || decide (3 < n) || (decide (n = 3) && !place (args.getD 2 node0))) 9 s)
  else if t.text = [105, 110, 100, 101, 120] ∨ t.text = [109, 97, 116, 99, 104] then (args, wrong t (decide (n ≠ 2)) 9 s)
  else if t.text = [115, 112, 114, 105, 110, 116, 102] then (args, wrong t (decide (n < 1)) 9 s)
  else if t.text = [114, 97, 110, 100] then (args, wrong t (decide (n ≠ 0)) 9 s)
  else if t.text = [115, 114, 97, 110, 100] then (args, wrong t (decide (n ≠ 1)) 9 (wrong t (decide (n = 0)) 10 s))
  else (args, wrong t (decide (n ≠ 1)) 9 s)

section
variable (rx : Bytes → Int) (T : List Tok) (E : PS → Option (Node × PS))

def builtin (k : Nat) (s : PS) : Option (Node × PS) :=
  let t := cur T s
  let s1 := step T s
  if t.text = [108, 101, 110, 103, 116, 104] ∧ at_ T [[40]] s1 = false then some (leaf [98, 117, 105, 108, 116, 105, 110] t [], s1)
  else match list T E k [41] (expect T [40] s1) with
    | none => none
    | some (args, s2) => some (leaf [98, 117, 105, 108, 116, 105, 110] t (builtinArgs t args s2).1, (builtinArgs t args s2).2)

/-- A thing that binds closest, or one with ++ or -- about it: over the things that bind closest. -/
def post (P : PS → Option (Node × PS)) (s : PS) : Option (Node × PS) :=
  if at_ T [[43, 43]] s then
    match P (step T s) with
    | none => none
    | some (n, s2) => some (if place n then (node [112, 114, 101, 105, 110, 99] [n], s2) else (node0, fail T s2))
  else if at_ T [[45, 45]] s then
    match P (step T s) with
    | none => none
    | some (n, s2) => some (if place n then (node [112, 114, 101, 100, 101, 99] [n], s2) else (node0, fail T s2))
  else match P s with
    | none => none
    | some (n, s2) => some (if place n = false then (n, s2)
        else if at_ T [[43, 43]] s2 then (node [112, 111, 115, 116, 105, 110, 99] [n], step T s2)
        else if at_ T [[45, 45]] s2 then (node [112, 111, 115, 116, 100, 101, 99] [n], step T s2)
        else (n, s2))

def primaryG (k : Nat) (P : PS → Option (Node × PS)) (s : PS) : Option (Node × PS) :=
  let t := cur T s
  if t.kind = 2 then some (leaf [110, 117, 109] t [], step T s)
  else if t.kind = 3 then some (leaf [115, 116, 114] t [], step T s)
  else if t.kind = 4 then some (leaf [114, 101] t [], step T (if rx t.text = 0 then s else fail T s))
  else if t.kind = 5 then
    if at_ T [[91]] (step T s) then
      match inside T E [93] (step T (step T s)) with
      | none => none
      | some (n, s2) => some (leaf [105, 110, 100, 101, 120] t [n], s2)
    else some (leaf [118, 97, 114] t [], step T s)
  else if t.kind = 6 then
    match list T E k [41] (expect T [40] (step T s)) with
    | none => none
    | some (args, s2) => some (leaf [99, 97, 108, 108] t args, s2)
  else if t.kind = 9 then builtin T E k s
  else if at_ T [[40]] s then inside T E [41] (step T s)
  else if at_ T [[36]] s then
    match down T (step T s) with
    | none => none
    | some s1 =>
      match (if at_ T [[43, 43], [45, 45]] s1 then post T P s1 else P s1) with
      | none => none
      | some (n, s2) => some (node [102, 105, 101, 108, 100] [n], up s2)
  else some (node0, fail T s)

def primary (k : Nat) : Nat → PS → Option (Node × PS)
  | 0, _ => none
  | j + 1, s => primaryG rx T E k (primary k j) s

def signOp (s : PS) : Bytes :=
  if at_ T [[33]] s then [110, 111, 116] else if at_ T [[45]] s then [110, 101, 103] else if at_ T [[43]] s then [112, 108, 117, 115] else []

def unary (k : Nat) : Nat → PS → Option (Node × PS)
  | 0, _ => none
  | j + 1, s =>
    if signOp T s = [] then post T (primary rx T E k k) s
    else match down T (step T s) with
      | none => none
      | some s1 =>
        match unary k j s1 with
        | none => none
        | some (n, s2) => some (node (signOp T s) [n], up s2)
end

section
variable (T : List Tok) (next : PS → Option (Node × PS))

def chainL (lns : Bool) (ops : List (Bytes × Bytes)) : Nat → Node → PS → Option (Node × PS)
  | 0, _, _ => none
  | k + 1, n, s =>
    if (cur T s).kind ≠ 8 ∨ look ops (cur T s).text = [] then some (n, s)
    else match next (if lns then lines T (step T s) else step T s) with
      | none => none
      | some (m, s2) => chainL lns ops k (node (look ops (cur T s).text) [n, m]) s2
def chain (k : Nat) (lns : Bool) (ops : List (Bytes × Bytes)) (s : PS) : Option (Node × PS) :=
  match next s with
  | none => none
  | some (n, s2) => chainL T next lns ops k n s2

def catL : Nat → Node → PS → Option (Node × PS)
  | 0, _, _ => none
  | k + 1, n, s =>
    if ([2, 3, 5, 6, 9] : List Int).contains (cur T s).kind = false ∧ at_ T [[36], [40]] s = false then some (n, s)
    else match next s with
      | none => none
      | some (m, s2) => catL k (node [99, 97, 116] [n, m]) s2
def cat (k : Nat) (s : PS) : Option (Node × PS) :=
  match next s with
  | none => none
  | some (n, s2) => catL T next k n s2

def relOps : List (Bytes × Bytes) := [([60], [108, 101, 115, 115]), ([60, 61], [108, 101, 115, 115, 101, 113]), ([61, 61], [101, 113, 117, 97, 108]),
  ([33, 61], [110, 111, 116, 101, 113, 117, 97, 108]), ([62], [103, 114, 101, 97, 116, 101, 114]), ([62, 61], [103, 114, 101, 97, 116, 101, 114, 101, 113])]
def rel (s : PS) : Option (Node × PS) :=
  match next s with
  | none => none
  | some (n, s2) =>
    if (cur T s2).kind ≠ 8 ∨ look relOps (cur T s2).text = [] ∨ ((cur T s2).text = [62] ∧ s2.flat = true) then some (n, s2)
    else match next (step T s2) with
      | none => none
      | some (m, s3) => some (node (look relOps (cur T s2).text) [n, m], s3)

def inL : Nat → Node → PS → Option (Node × PS)
  | 0, _, _ => none
  | k + 1, n, s =>
    if at_ T [[105, 110]] s then inL k (leaf [105, 110] (name T [5] (step T s)).1 [n]) (name T [5] (step T s)).2
    else some (n, s)
def in_ (k : Nat) (s : PS) : Option (Node × PS) :=
  match next s with
  | none => none
  | some (n, s2) => inL T k n s2
end

def mulOps : List (Bytes × Bytes) := [([42], [109, 117, 108]), ([47], [100, 105, 118]), ([37], [109, 111, 100])]
def addOps : List (Bytes × Bytes) := [([43], [97, 100, 100]), ([45], [115, 117, 98])]
def matchOps : List (Bytes × Bytes) := [([126], [109, 97, 116, 99, 104]), ([33, 126], [110, 111, 109, 97, 116, 99, 104])]
def andOps : List (Bytes × Bytes) := [([38, 38], [97, 110, 100])]
def orOps : List (Bytes × Bytes) := [([124, 124], [111, 114])]
def assignOps : List Bytes := [[61], [43, 61], [45, 61], [42, 61], [47, 61], [37, 61]]

section
variable (rx : Bytes → Int) (T : List Tok) (E : PS → Option (Node × PS)) (k : Nat)
def mulF : PS → Option (Node × PS) := chain T (unary rx T E k k) k false mulOps
def addF : PS → Option (Node × PS) := chain T (mulF rx T E k) k false addOps
def catF : PS → Option (Node × PS) := cat T (addF rx T E k) k
def relF : PS → Option (Node × PS) := rel T (catF rx T E k)
def matchF : PS → Option (Node × PS) := chain T (relF rx T E k) k false matchOps
def inF : PS → Option (Node × PS) := in_ T (matchF rx T E k) k
def andF : PS → Option (Node × PS) := chain T (inF rx T E k) k true andOps
def orF : PS → Option (Node × PS) := chain T (andF rx T E k) k true orOps

def exprG (s : PS) : Option (Node × PS) :=
  match down T s with
  | none => none
  | some s0 =>
    match orF rx T E k s0 with
    | none => none
    | some (n, s1) =>
      if at_ T [[63]] s1 then
        match E (lines T (step T s1)) with
        | none => none
        | some (a, s2) =>
          match E (lines T (expect T [58] (lines T s2))) with
          | none => none
          | some (b, s3) => some (node [99, 111, 110, 100] [n, a, b], up s3)
      else if place n = true ∧ (cur T s1).kind = 8 ∧ assignOps.contains (cur T s1).text = true then
        match E (lines T (step T s1)) with
        | none => none
        | some (m, s2) => some (.mk [97, 115, 115, 105, 103, 110] (cur T s1).text 0 [n, m], up s2)
      else some (n, up s1)
end

def expr (rx : Bytes → Int) (T : List Tok) : Nat → PS → Option (Node × PS)
  | 0, _ => none
  | k + 1, s => exprG rx T (expr rx T k) k s

section
variable (rx : Bytes → Int) (T : List Tok) (E : PS → Option (Node × PS)) (k : Nat)

def over (s : PS) : Bool := at_ T [[59], [125], [41]] s || (cur T s).kind == 1 || (cur T s).kind == 0

def listedL : Nat → Nat → Int → Bool
  | 0, _, _ => false
  | f + 1, i, deep =>
    if i < T.length then
      let t := T.getD i tok0
      let deep := if t.kind = 8 ∧ t.text = [40] then deep + 1 else if t.kind = 8 ∧ t.text = [41] then deep - 1 else deep
      if deep = 0 then
        let x := T.getD (min (i + 1) (T.length - 1)) tok0
        x.kind == 0 || x.kind == 1 || (x.kind == 8 && sub [32, 59, 32, 125, 32, 62, 32, 62, 62, 32] ([32] ++ x.text ++ [32]))
      else listedL f (i + 1) deep
    else false
def listed (s : PS) : Bool := at_ T [[40]] s && listedL T (T.length + 1) s.i 0

def outL : Nat → List Node → PS → Option (List Node × PS)
  | 0, _, _ => none
  | j + 1, out, s =>
    if s.err = 0 ∧ over T s = false ∧ at_ T [[62], [62, 62]] s = false then
      match E (if out = [] then s else lines T (expect T [44] s)) with
      | none => none
      | some (n, s2) => outL j (out ++ [n]) s2
    else some (out, s)
def toOp (s : PS) : Bytes := if at_ T [[62]] s then [116, 111] else if at_ T [[62, 62]] s then [97, 112, 112, 101, 110, 100] else []
def noneN : Node := node [110, 111, 110, 101] []
def outTo (s : PS) : Option (Node × PS) :=
  if toOp T s = [] then some (noneN, s)
  else match catF rx T E k (step T s) with
    | none => none
    | some (n, s2) => some (node (toOp T s) [n], s2)
def outputEnd (op : Bytes) (args : List Node) (s : PS) : Option (Node × PS) :=
  match outTo rx T E k s with
  | none => none
  | some (to, s1) =>
    some (node op (to :: args), if op = [112, 114, 105, 110, 116, 102] ∧ args = [] then fail T { s1 with flat := false } else { s1 with flat := false })
def output (op : Bytes) (s : PS) : Option (Node × PS) :=
  match (if listed T { s with flat := true } then list T E k [41] (step T { s with flat := true }) else outL T E k [] { s with flat := true }) with
  | none => none
  | some (args, s1) => outputEnd rx T E k op args s1

def simple (s : PS) : Option (Node × PS) :=
  let t := cur T s
  if t.kind ≠ 7 then
    match E s with
    | none => none
    | some (n, s1) => some (node [101, 120, 112, 114] [n], s1)
  else if t.text = [98, 114, 101, 97, 107] ∨ t.text = [99, 111, 110, 116, 105, 110, 117, 101] ∨ t.text = [110, 101, 120, 116] then some (.mk t.text [] t.pos [], step T s)
  else if t.text = [101, 120, 105, 116] ∨ t.text = [114, 101, 116, 117, 114, 110] then
    if over T (step T s) then some (.mk t.text [] t.pos [], step T s)
    else match E (step T s) with
      | none => none
      | some (n, s1) => some (.mk t.text [] t.pos [n], s1)
  else if t.text = [100, 101, 108, 101, 116, 101] then
    let x := name T [5] (step T s)
    if at_ T [[91]] x.2 then
      match inside T E [93] (step T x.2) with
      | none => none
      | some (n, s1) => some (node [100, 101, 108, 101, 116, 101] [leaf [105, 110, 100, 101, 120] x.1 [n]], s1)
    else some (node [100, 101, 108, 101, 116, 101] [leaf [110, 97, 109, 101] x.1 []], x.2)
  else if t.text = [112, 114, 105, 110, 116] ∨ t.text = [112, 114, 105, 110, 116, 102] then output rx T E k t.text (step T s)
  else some (node0, fail T s)

def fin (s : PS) : PS :=
  if at_ T [[59]] s then step T s
  else if at_ T [[125]] s then s
  else if (cur T s).kind = 1 then step T s
  else fail T s

def skipF : Nat → PS → PS
  | 0, s => s
  | j + 1, s => if at_ T [[59]] s = true ∨ (cur T s).kind = 1 then skipF j (step T s) else s
def skip (s : PS) : PS := skipF T T.length s
end

section
variable (rx : Bytes → Int) (T : List Tok) (E S : PS → Option (Node × PS)) (k : Nat)

def body (s : PS) : Option (Node × PS) := S (lines T s)

def choice (s : PS) : Option (Node × PS) :=
  match inside T E [41] (expect T [40] s) with
  | none => none
  | some (c, s1) =>
    match body T S s1 with
    | none => none
    | some (b, s2) =>
      let s3 := lines T s2
      let s4 := if at_ T [[59]] s3 then lines T (step T s3) else s3
      if at_ T [[101, 108, 115, 101]] s4 then
        match body T S (step T s4) with
        | none => none
        | some (e, s5) => some (node [105, 102] [c, b, e], s5)
      else some (node [105, 102] [c, b], if s4.err = 0 then { s4 with i := s2.i } else s4)

def isForin (s : PS) : Bool :=
  (cur T s).kind == 5 && (ahead T 1 s).kind == 7 && (ahead T 1 s).text == [105, 110] && (ahead T 2 s).kind == 5 && (ahead T 3 s).kind == 8 && (ahead T 3 s).text == [41]

def optSimple (stop : Bytes) (s : PS) : Option (Node × PS) := if at_ T [stop] s then some (noneN, s) else simple rx T E k s
def optExpr (stop : Bytes) (s : PS) : Option (Node × PS) := if at_ T [stop] s then some (noneN, s) else E s

def loop (s0 : PS) : Option (Node × PS) :=
  let s := expect T [40] s0
  if isForin T s then
    let key := name T [5] s
    let arr := name T [5] (step T key.2)
    match body T S (step T arr.2) with
    | none => none
    | some (b, s1) => some (leaf [102, 111, 114, 105, 110] key.1 [leaf [110, 97, 109, 101] arr.1 [], b], s1)
  else match optSimple rx T E k [59] s with
    | none => none
    | some (a, s1) =>
      match optExpr T E [59] (lines T (expect T [59] s1)) with
      | none => none
      | some (b, s2) =>
        match optSimple rx T E k [41] (lines T (expect T [59] s2)) with
        | none => none
        | some (c, s3) =>
          match body T S (expect T [41] s3) with
          | none => none
          | some (d, s4) => some (node [102, 111, 114] [a, b, c, d], s4)

def blockL : Nat → List Node → PS → Option (List Node × PS)
  | 0, _, _ => none
  | j + 1, out, s =>
    if s.err = 0 then
      if at_ T [[125]] (skip T s) then some (out, step T (skip T s))
      else match S (skip T s) with
        | none => none
        | some (n, s2) => blockL j (out ++ [n]) s2
    else some (out, s)
def block (s : PS) : Option (Node × PS) :=
  match blockL T S k [] (expect T [123] s) with
  | none => none
  | some (out, s1) => some (node [98, 108, 111, 99, 107] out, s1)

def stmtG (s : PS) : Option (Node × PS) :=
  match down T s with
  | none => none
  | some s0 =>
    match (
      if at_ T [[123]] s0 then block T S k s0
      else if at_ T [[59]] s0 then some (node [101, 109, 112, 116, 121] [], step T s0)
      else if at_ T [[105, 102]] s0 then choice T E S (step T s0)
      else if at_ T [[119, 104, 105, 108, 101]] s0 then
        match inside T E [41] (expect T [40] (step T s0)) with
        | none => none
        | some (c, s1) =>
          match body T S s1 with
          | none => none
          | some (b, s2) => some (node [119, 104, 105, 108, 101] [c, b], s2)
      else if at_ T [[102, 111, 114]] s0 then loop rx T E S k (step T s0)
      else match simple rx T E k s0 with
        | none => none
        | some (n, s1) => some (n, fin T s1)) with
    | none => none
    | some (n, s1) => some (n, up s1)
end

def stmt (rx : Bytes → Int) (T : List Tok) : Nat → PS → Option (Node × PS)
  | 0, _ => none
  | k + 1, s => stmtG rx T (expr rx T k) (stmt rx T k) k s

section
variable (T : List Tok) (E S : PS → Option (Node × PS)) (k : Nat)

/-- The names of a function, up to the closing sign. -/
def paramsL : Nat → List Node → PS → Option (List Node × PS)
  | 0, _, _ => none
  | j + 1, out, s =>
    if s.err = 0 ∧ at_ T [[41]] s = false then
      let s1 := if out = [] then s else lines T (expect T [44] s)
      let x := name T [5] s1
      paramsL j (out ++ [leaf [112, 97, 114, 97, 109] x.1 []]) (lines T x.2)
    else some (out, s)

def item (s : PS) : Option (Node × PS) :=
  if at_ T [[66, 69, 71, 73, 78]] s then
    match block T S k (step T s) with
    | none => none
    | some (b, s1) => some (node [98, 101, 103, 105, 110] [b], s1)
  else if at_ T [[69, 78, 68]] s then
    match block T S k (step T s) with
    | none => none
    | some (b, s1) => some (node [101, 110, 100] [b], s1)
  else if at_ T [[102, 117, 110, 99, 116, 105, 111, 110]] s then
    let x := name T [5, 6] (step T s)
    match paramsL T k [] (lines T (expect T [40] x.2)) with
    | none => none
    | some (ps, s1) =>
      match block T S k (lines T (expect T [41] s1)) with
      | none => none
      | some (b, s2) => some (leaf [102, 117, 110, 99] x.1 (ps ++ [b]), s2)
  else if at_ T [[123]] s then
    match block T S k s with
    | none => none
    | some (b, s1) => some (node [114, 117, 108, 101] [node [97, 108, 119, 97, 121, 115] [], b], s1)
  else match E s with
    | none => none
    | some (n, s1) =>
      if at_ T [[123]] s1 then
        match block T S k s1 with
        | none => none
        | some (b, s2) => some (node [114, 117, 108, 101] [n, b], s2)
      else some (node [114, 117, 108, 101] [n, node [100, 101, 102, 97, 117, 108, 116] []],
        if (cur T s1).kind = 1 ∨ (cur T s1).kind = 0 ∨ at_ T [[59]] s1 = true then s1 else fail T s1)

def itemsL : Nat → List Node → PS → Option (List Node × PS)
  | 0, _, _ => none
  | j + 1, out, s =>
    if s.err = 0 then
      if (cur T (skip T s)).kind = 0 then some (out, skip T s)
      else match item T E S k (skip T s) with
        | none => none
        | some (n, s2) => itemsL j (out ++ [n]) s2
    else some (out, s)
end

/-- A program's tree, out of its tokens: the tree, the place, the error. -/
def parseT (rx : Bytes → Int) (k : Nat) (T : List Tok) : Option (Node × Int × Int) :=
  match itemsL T (expr rx T k) (stmt rx T k) k k [] ⟨0, 0, false, 0, 0⟩ with
  | none => none
  | some (out, s) => if s.err = 0 then some (node [112, 114, 111, 103, 114, 97, 109] out, 0, 0) else some (node0, s.bad, s.err)

end Go.Proofs.YtgnmfaeonijogaaGreatDoor.Pp

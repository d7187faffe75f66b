/- D: a deterministic evaluator of Go code with slices as values: the definitions. -/
import Derived.Below
import Derived.Scope
import Derived.Orders
import Derived.Laws.StructEq
import Derived.Lib.FrozenHead
namespace Go.Proofs.YtcknfhhbijlobaaDoor.D
open Go
set_option linter.unusedVariables false

/-- Values. 'sl': a slice that is only ever appended to: it bears its elements. 'hs': a slice of a block that may be written. 'ip': a pointer to cells that are not written any more. -/
inductive DV where
  | bool (b : Bool)
  | int (k : IntKind) (n : Int)
  | flt (k : FloatKind) (n : Nat)
  | str (s : List UInt8)
  | nilp
  | ptr (b off : Nat)
  | ip (cs : List DV)
  | nils
  | sl (id sz off : Nat) (es : List DV)
  | hs (b sz off len : Nat)
  | sd (id sz off : Nat) (es : List DV)
  | nilm
  | mp (b : Nat)
  | fn (f : Fn) (first cap : List DV)
  | nilf
  | nili
  | ifc (t : TypeId) (v : DV)
  | agg (cs : List DV)
  | tup (vs : List DV)
  deriving Inhabited

def DV.cells : DV → List DV
  | .agg cs => cs
  | v => [v]
def flat : List DV → List DV
  | [] => []
  | e :: es => e.cells ++ flat es
def DV.one : DV → Bool
  | .agg _ | .tup _ => false
  | _ => true
abbrev undefD : DV := .tup []

inductive DObj where
  | cells (T : TypeId) (cs : List DV)
  | row (T : TypeId) (cs : List DV)
  | tip (T : TypeId) (n : Nat) (cl : Bool)
  | iter (s : List UInt8) (pos : Nat)
  | map (es : List (DV × DV))
  deriving Inhabited

structure DH where
  next : Nat
  m : Nat → Option DObj

def DH.set (H : DH) (b : Nat) (o : DObj) : DH := { H with m := fun i => if i = b then some o else H.m i }
def DH.new (H : DH) (o : DObj) : DH := { next := H.next + 1, m := fun i => if i = H.next then some o else H.m i }
/-- A row that may be written goes on under a new number; the elder one is no more. -/
def DH.mov (H : DH) (b : Nat) (o : DObj) : DH := { next := H.next + 1, m := fun i => if i = H.next then some o else if i = b then none else H.m i }

/-- What of the types is asked. -/
structure Tab where
  und : TypeId → Option TypeDesc
  size : TypeId → Option Nat
  bytes : TypeId → Option Nat
  zero : TypeId → Option DV
  flatEq : TypeId → Option (List Nat)
  lies : TypeId → Nat → Nat → TypeId → Bool
  wr : TypeId → Bool

abbrev Orc := FuncId → List DV → DH → Option (DV × DH)

def constD : Value → Option DV
  | .bool b => some (.bool b)
  | .int k n => some (.int k n)
  | .float k n => some (.flt k n)
  | .string s => some (.str s.data.toList)
  | .pointer none => some .nilp
  | .slice none 0 0 => some .nils
  | .map none => some .nilm
  | .nilFunc => some .nilf
  | .nilIface => some .nili
  | .tuple vs => if vs.size = 0 then some (.tup []) else none
  | _ => none

def opd (σ : Nat → DV) : Operand → Option DV
  | .tmp t => some (σ t)
  | .const v => constD v
  | .func f => some (.fn (.func f) [] [])
  | .global _ => none

def isAggD : TypeDesc → Bool
  | .struct _ | .array _ _ => true
  | _ => false

def takeVar (g : Bool) (n : Nat) (cs : List DV) : Option DV :=
  if g then (if n ≤ cs.length then some (.agg (cs.take n)) else none) else cs.head?

def cellsAt (H : DH) : DV → Option (List DV)
  | .ptr b off => match H.m b with
    | some (.cells _ cs) => some (cs.drop off)
    | some (.row _ cs) => some (cs.drop off)
    | _ => none
  | .ip cs => some cs
  | _ => none

def loadD (T : Tab) (t : TypeId) (a : DV) (H : DH) : Option DV :=
  match T.und t, T.size t, cellsAt H a with
  | some d, some n, some cs => takeVar (isAggD d) n cs
  | _, _, _ => none

def storeD (T : Tab) (t : TypeId) (a v : DV) (H : DH) : Option DH :=
  match a, T.size t with
  | .ptr b off, some n => match H.m b with
    | some (.cells ty cs) =>
      if v.cells.length = n ∧ off + n ≤ cs.length ∧ v.cells.all DV.one = true then some (H.set b (.cells ty (cs.take off ++ v.cells ++ cs.drop (off + n)))) else none
    | some (.row ty cs) =>
      if v.cells.length = n ∧ off + n ≤ cs.length ∧ v.cells.all DV.one = true then some (H.set b (.row ty (cs.take off ++ v.cells ++ cs.drop (off + n)))) else none
    | _ => none
  | _, _ => none

def bytesLessD : List UInt8 → List UInt8 → Bool := Op.bytesLess

def strOp (op : BinOp) (x y : List UInt8) : Option DV :=
  match op with
  | .add => if ((x.length + y.length : Nat) : Int) > 9223372036854775807 then none else some (.str (x ++ y))
  | .eql => some (.bool (x == y))
  | .neq => some (.bool (!(x == y)))
  | .lss => some (.bool (Op.bytesLess x y))
  | .leq => some (.bool (Op.bytesLess x y || x == y))
  | .gtr => some (.bool (!(Op.bytesLess x y || x == y)))
  | .geq => some (.bool (!Op.bytesLess x y))
  | _ => none

def intOp (op : BinOp) (k : IntKind) (a b : Int) : Option DV :=
  match op with
  | .add => some (.int k (k.wrap (a + b)))
  | .sub => some (.int k (k.wrap (a - b)))
  | .mul => some (.int k (k.wrap (a * b)))
  | .quo => if b = 0 then none else some (.int k (k.wrap (a.tdiv b)))
  | .rem => if b = 0 then none else some (.int k (a.tmod b))
  | .and => some (.int k (k.wrap (BitVec.ofInt k.bits a &&& BitVec.ofInt k.bits b).toNat))
  | .or => some (.int k (k.wrap (BitVec.ofInt k.bits a ||| BitVec.ofInt k.bits b).toNat))
  | .xor => some (.int k (k.wrap (BitVec.ofInt k.bits a ^^^ BitVec.ofInt k.bits b).toNat))
  | .andNot => some (.int k (k.wrap (BitVec.ofInt k.bits a &&& ~~~BitVec.ofInt k.bits b).toNat))
  | .eql => some (.bool (a == b))
  | .neq => some (.bool (a != b))
  | .lss => some (.bool (a < b))
  | .leq => some (.bool (a ≤ b))
  | .gtr => some (.bool (a > b))
  | .geq => some (.bool (a ≥ b))
  | _ => none

def shiftOp (op : BinOp) (k : IntKind) (x y : Int) : Option DV :=
  if y < 0 then none else
  match op with
  | .shl => some (.int k (k.wrap (x * 2 ^ min y.toNat k.bits)))
  | .shr => some (.int k (x.fdiv (2 ^ min y.toNat k.bits)))
  | _ => none

def eqOp (op : BinOp) (b : Bool) : Option DV :=
  match op with
  | .eql => some (.bool b)
  | .neq => some (.bool (!b))
  | _ => none

def cellEq : Nat → DV → DV → Option Bool
  | 1, .int k a, .int k' b => if k = k' then some (a == b) else none
  | 2, .str a, .str b => some (a == b)
  | 0, .bool a, .bool b => some (a == b)
  | _, _, _ => none
def cellsEq : List Nat → List DV → List DV → Option Bool
  | [], [], [] => some true
  | k :: ks, x :: xs, y :: ys => match cellEq k x y, cellsEq ks xs ys with
    | some a, some b => some (a && b)
    | _, _ => none
  | _, _, _ => none

def isShift : BinOp → Bool
  | .shl | .shr => true
  | _ => false

def isConstO : Operand → Bool
  | .const _ => true
  | _ => false

def binD (T : Tab) (op : BinOp) (xT : TypeId) (x y : Operand) (vx vy : DV) : Option DV :=
  match vx, vy with
  | .int k a, .int k' b => if isShift op then shiftOp op k a b else if k = k' then intOp op k a b else none
  | .str a, .str b => if isShift op then none else strOp op a b
  | .bool a, .bool b => match T.und xT with | some .bool => eqOp op (a == b) | _ => none
  | .nilp, .nilp => match T.und xT with | some (.pointer _) => eqOp op true | _ => none
  | .nilp, .ptr _ _ => match T.und xT with | some (.pointer _) => eqOp op false | _ => none
  | .ptr _ _, .nilp => match T.und xT with | some (.pointer _) => eqOp op false | _ => none
  | .ptr b o, .ptr b' o' => match T.und xT with | some (.pointer e) => (match T.size e with | some n => if b = b' ∧ n ≠ 0 then eqOp op (o == o') else none | none => none) | _ => none
  | .nils, .nils => match T.und xT with | some (.slice _) => eqOp op true | _ => none
  | .nils, .sl _ _ _ _ => match T.und xT with | some (.slice _) => eqOp op false | _ => none
  | .sl _ _ _ _, .nils => match T.und xT with | some (.slice _) => eqOp op false | _ => none
  | .nils, .hs _ _ _ _ => match T.und xT with | some (.slice _) => eqOp op false | _ => none
  | .hs _ _ _ _, .nils => match T.und xT with | some (.slice _) => eqOp op false | _ => none
  | .nilf, .nilf => match T.und xT with | some (.func _ _ _) => eqOp op true | _ => none
  | .fn _ _ _, .nilf => match T.und xT with | some (.func _ _ _) => eqOp op false | _ => none
  | .nili, .nili => match T.und xT with | some (.interface _) => if isConstO x || isConstO y then eqOp op true else none | _ => none
  | .ifc _ _, .nili => match T.und xT with | some (.interface _) => eqOp op false | _ => none
  | .agg xs, .agg ys => match T.flatEq xT with | some ks => (match cellsEq ks xs ys with | some b => eqOp op b | none => none) | none => none
  | _, _ => none

def unD (op : UnOp) (v : DV) : Option DV :=
  match op, v with
  | .neg, .int k n => some (.int k (k.wrap (0 - n)))
  | .xor, .int k n => some (.int k (k.wrap (BitVec.ofInt k.bits (if k.signed then -1 else k.max) ^^^ BitVec.ofInt k.bits n).toNat))
  | .not, .bool b => some (.bool (!b))
  | _, _ => none

def byteDV (b : UInt8) : DV := .int .u8 b.toNat
def bytesOf : List DV → Option (List UInt8)
  | [] => some []
  | .int .u8 n :: r => match bytesOf r with
    | some l => some (UInt8.ofNat n.toNat :: l)
    | none => none
  | _ => none

/-- A new slice of whole elements. -/
def newSl (H : DH) (T : TypeId) (cl : Bool) (sz : Nat) (es : List DV) : DV × DH := (.sl H.next sz 0 es, H.new (.tip T es.length cl))
/-- A new row that may be written. -/
def newHs (H : DH) (T : TypeId) (sz len : Nat) (cs : List DV) : DV × DH := (.hs H.next sz 0 len, H.new (.row T cs))

def convD (T : Tab) (src dst : TypeId) (v : DV) (H : DH) : Option (DV × DH) :=
  match T.und dst, v with
  | some (.int k), .int _ n => some (.int k (k.wrap n), H)
  | some .string, .str s => some (.str s, H)
  | some (.slice e), .str s =>
    match T.und e, T.size e with
    | some (.int .u8), some 1 => if s.length < 9223372036854775808 then some (newSl H e false 1 (s.map byteDV)) else none
    | _, _ => none
  | some .unsafePointer, .ptr b off => match T.und src with
    | some (.pointer t) => match T.size t, H.m b with
      | some n, some (.cells _ cs) => if n ≠ 0 ∧ off < cs.length then some (.ptr b off, H) else none
      | _, _ => none
    | _ => none
  | some (.pointer u), .ptr b off => match T.und src with
    | some .unsafePointer => match H.m b with
      | some (.cells t cs) => if T.lies t cs.length off u = true then some (.ptr b off, H) else none
      | _ => none
    | _ => none
  | some .string, .nils => match T.und src with
    | some (.slice e) => (match T.und e with | some (.int .u8) => some (.str [], H) | _ => none)
    | _ => none
  | some .string, .sl _ sz _ es => match T.und src with
    | some (.slice e) => (match T.und e, bytesOf es with | some (.int .u8), some l => if sz = 1 then some (.str l, H) else none | _, _ => none)
    | _ => none
  | _, _ => none

def fillD (place : Nat → Option (Nat × Nat)) (cells : List DV) : List (Nat × DV) → Option (List DV)
  | [] => some cells
  | (i, v) :: rest =>
    match place i with
    | none => none
    | some (off, size) =>
      if v.cells.length ≠ size ∨ off + v.cells.length > cells.length then none
      else fillD place (cells.take off ++ v.cells ++ cells.drop (off + v.cells.length)) rest

def optOpd (σ : Nat → DV) : Option Operand → Option (Option DV)
  | none => some none
  | some l => (opd σ l).map some
def opds (σ : Nat → DV) : List Operand → Option (List DV)
  | [] => some []
  | x :: r => match opd σ x, opds σ r with
    | some v, some l => some (v :: l)
    | _, _ => none
def opdParts (σ : Nat → DV) : List (Nat × Operand) → Option (List (Nat × DV))
  | [] => some []
  | (i, x) :: r => match opd σ x, opdParts σ r with
    | some v, some l => some ((i, v) :: l)
    | _, _ => none

def fieldPlaces (T : Tab) : List Field → Option (List (Nat × Nat))
  | [] => some []
  | f :: r => match T.size f.type, fieldPlaces T r with
    | some n, some l => some ((f.offset, n) :: l)
    | _, _ => none

def buildD (T : Tab) (t : TypeId) (parts : List (Nat × DV)) : Option DV :=
  match T.und t, T.zero t with
  | some (.struct fs), some z =>
    match fieldPlaces T fs.toList with
    | some ps => match fillD (fun i => ps[i]?) z.cells parts with
      | some cs => some (.agg cs)
      | none => none
    | none => none
  | some (.array _ e), some z =>
    match T.size e with
    | some n => match fillD (fun i => some (i * n, n)) z.cells parts with
      | some cs => some (.agg cs)
      | none => none
    | none => none
  | _, _ => none

/-- All elements of a literal, in order, none missing. -/
def dense (g : Bool) (n : Nat) (i : Nat) : List (Nat × DV) → Option (List DV)
  | [] => some []
  | (j, v) :: r =>
    if j = i ∧ v.cells.length = n ∧ (g = true ↔ v.one = false) ∧ v.cells.all DV.one = true then
      match dense g n (i + 1) r with
      | some l => some (v :: l)
      | none => none
    else none

def buildSliceD (T : Tab) (t : TypeId) (len : Nat) (parts : List (Nat × DV)) (H : DH) : Option (DV × DH) :=
  match T.und t with
  | some (.slice e) =>
    match T.und e, T.size e, T.zero e with
    | some d, some n, some z =>
      match dense (isAggD d) n 0 parts with
      | some es => if es.length = len ∧ 0 < n ∧ z.cells.length = n ∧ len * n ≤ 16777216 then some (newSl H e true n es) else none
      | none => none
    | _, _, _ => none
  | _ => none

def fieldAtD (T : Tab) (s : TypeId) (a : DV) (f : Nat) : Option DV :=
  match T.und s with
  | some (.struct fs) => match fs[f]? with
    | some fd => match T.size fd.type with
      | some n => if n = 0 then none else match a with
        | .ptr b off => some (.ptr b (off + fd.offset))
        | .ip cs => some (.ip (cs.drop fd.offset))
        | _ => none
      | none => none
    | none => none
  | _ => none

def fieldD (T : Tab) (s : TypeId) (a : DV) (f : Nat) : Option DV :=
  match T.und s, a with
  | some (.struct fs), .agg cs => match fs[f]? with
    | some fd => match T.und fd.type, T.size fd.type with
      | some d, some n => takeVar (isAggD d) n (cs.drop fd.offset)
      | _, _ => none
    | none => none
  | _, _ => none

def indexAtD (T : Tab) (t : TypeId) (x i : DV) : Option DV :=
  match T.und t, x, i with
  | some (.slice e), .sl _ sz _ es, .int _ i =>
    if T.size e = some sz ∧ 0 ≤ i then (match es[i.toNat]? with | some v => some (.ip v.cells) | none => none) else none
  | some (.slice e), .hs b sz off len, .int _ i =>
    if T.size e = some sz ∧ 0 ≤ i ∧ i < len then some (.ptr b (off + i.toNat * sz)) else none
  | some (.array len e), .ptr b off, .int _ i =>
    match T.size e with
    | some sz => if 0 ≤ i ∧ i < len then some (.ptr b (off + i.toNat * sz)) else none
    | none => none
  | _, _, _ => none

def indexD (T : Tab) (t : TypeId) (x i : DV) : Option DV :=
  match T.und t, x, i with
  | some .string, .str s, .int _ i => if 0 ≤ i then (match s[i.toNat]? with | some b => some (byteDV b) | none => none) else none
  | some (.array len e), .agg cs, .int _ i =>
    match T.und e, T.size e with
    | some d, some sz => if 0 ≤ i ∧ i < len then takeVar (isAggD d) sz (cs.drop (i.toNat * sz)) else none
    | _, _ => none
  | _, _, _ => none

def boundD (x : Option DV) (dflt top : Nat) : Option Nat :=
  match x with
  | none => some dflt
  | some (.int _ i) => if 0 ≤ i ∧ i ≤ top then some i.toNat else none
  | _ => none

def sliceD (T : Tab) (t : TypeId) (x : DV) (lo hi : Option DV) : Option DV :=
  match T.und t, x with
  | some .string, .str s =>
    match boundD hi s.length s.length with
    | some h => match boundD lo 0 h with
      | some l => some (.str ((s.take h).drop l))
      | none => none
    | none => none
  | some (.slice e), .sl id sz off es =>
    if T.size e = some sz then
      match boundD hi es.length es.length with
      | some h => match boundD lo 0 h with
        | some l => some (.sl id sz (off + l) ((es.take h).drop l))
        | none => none
      | none => none
    else none
  | some (.slice e), .hs b sz off len =>
    if T.size e = some sz then
      match boundD hi len len with
      | some h => match boundD lo 0 h with
        | some l => some (.hs b sz (off + l * sz) (h - l))
        | none => none
      | none => none
    else none
  | some (.slice e), .nils =>
    match boundD hi 0 0, T.size e with
    | some h, some _ => match boundD lo 0 h with
      | some l => some .nils
      | none => none
    | _, _ => none
  | _, _ => none

def lenD (T : Tab) (H : DH) (t : TypeId) : DV → Option DV
  | .str s => match T.und t with | some .string => some (.int .i64 s.length) | _ => none
  | .nils => match T.und t with | some (.slice _) => some (.int .i64 0) | _ => none
  | .sl _ _ _ es => match T.und t with | some (.slice _) => some (.int .i64 es.length) | _ => none
  | .hs _ _ _ n => match T.und t with | some (.slice _) => some (.int .i64 n) | _ => none
  | .nilm => match T.und t with | some (.map _ _) => some (.int .i64 0) | _ => none
  | .mp b => match T.und t, H.m b with | some (.map _ _), some (.map es) => some (.int .i64 es.length) | _, _ => none
  | _ => none

/-- The elements that are appended. -/
def elemsOf (sz : Nat) : DV → Option (List DV)
  | .nils => some []
  | .sl _ n _ es => if n = sz then some es else none
  | .str s => if sz = 1 then some (s.map byteDV) else none
  | _ => none

def srcOk : TypeDesc → Bool
  | .slice _ | .string => true
  | _ => false

def appendD (T : Tab) (t u : TypeId) (s x : DV) (H : DH) : Option (DV × DH) :=
  match T.und t with
  | some (.slice e) =>
    match T.size e, T.bytes e, T.und u, T.zero e with
    | some n, some by_, some du, some z =>
      match elemsOf n x with
      | some new =>
        if 0 < n ∧ srcOk du = true ∧ z.cells.length = n then
          match s with
          | .nils => if new.length * by_ ≤ 140737488355328 ∧ new.length < 9223372036854775808 then (if new.isEmpty = true then some (.nils, H) else if T.wr e = true then some (newHs H e n new.length (flat new)) else some (newSl H e true n new)) else none
          | .hs b sz off len =>
            match H.m b with
            | some (.row e' cs) =>
              if sz = n ∧ e' = e ∧ off + len * n ≤ cs.length ∧ (len + new.length) * by_ ≤ 140737488355328 ∧ len + new.length < 9223372036854775808 ∧ new ≠ [] then
                some (.hs H.next sz 0 (len + new.length), H.mov b (.row e ((cs.drop off).take (len * n) ++ flat new)))
              else none
            | _ => none
          | .sl id sz off es =>
            match H.m id with
            | some (.tip e' k cl) =>
              if sz = n ∧ e' = e ∧ k = off + es.length ∧ (es.length + new.length) * by_ ≤ 140737488355328 ∧ es.length + new.length < 9223372036854775808 then
                some (.sl id sz off (es ++ new), H.set id (.tip e (k + new.length) cl))
              else none
            | _ => none
          | _ => none
        else none
      | none => none
    | _, _, _, _ => none
  | _ => none

def maxD (x y : DV) : Option DV :=
  match x, y with
  | .int k a, .int _ b => some (.int k (if b > a then b else a))
  | _, _ => none
def minD (x y : DV) : Option DV :=
  match x, y with
  | .int k a, .int _ b => some (.int k (if b < a then b else a))
  | _, _ => none

/-- make, of a slice. -/
def makeSliceD (T : Tab) (t : TypeId) (l c : DV) (H : DH) : Option (DV × DH) :=
  match T.und t, l, c with
  | some (.slice e), .int .i64 l, .int .i64 c =>
    match T.size e, T.bytes e, T.zero e with
    | some n, some by_, some z =>
      if 0 ≤ l ∧ l ≤ c ∧ c < 9223372036854775808 ∧ by_ * c ≤ 140737488355328 ∧ 0 < n ∧ z.cells.length = n ∧ z.cells.all DV.one = true then some (newHs H e n l.toNat (flat (List.replicate l.toNat z))) else none
    | _, _, _ => none
  | _, _, _ => none

/-- unsafe.SliceData, unsafe.String: at a slice that was never cut, and that is not empty. -/
def dataD : DV → Option DV
  | .nils => some .nilp
  | .sl id sz off es => if es.isEmpty = true then none else some (.sd id sz off es)
  | _ => none
def unsafeStrD (T : Tab) (H : DH) (pt : TypeId) (p n : DV) : Option DV :=
  match p, n with
  | .nilp, .int .i64 i => if i = 0 then some (.str []) else none
  | .sd id sz off es, .int .i64 i =>
    match T.und pt, H.m id, bytesOf es with
    | some (.pointer e), some (.tip e' k true), some l =>
      if e' = e ∧ sz = 1 ∧ T.size e = some 1 ∧ k = off + es.length ∧ i = es.length ∧ es.length < 9223372036854775808 then some (.str l) else none
    | _, _, _ => none
  | _, _ => none

def builtinD (T : Tab) (b : Builtin) (argTypes : List TypeId) (args : List DV) (H : DH) : Option (DV × DH) :=
  match b, argTypes, args with
  | .len, t :: _, [x] => match lenD T H t x with | some v => some (v, H) | none => none
  | .append, [t, u], [s, x] => appendD T t u s x H
  | .unsafeSliceData, _, [x] => match dataD x with | some v => some (v, H) | none => none
  | .unsafeString, [t, _], [x, y] => match unsafeStrD T H t x y with | some v => some (v, H) | none => none
  | .max, _, [x, y] => match maxD x y with | some v => some (v, H) | none => none
  | .min, _, [x, y] => match minD x y with | some v => some (v, H) | none => none
  | _, _, _ => none

def callD (T : Tab) (E : Orc) (σ : Nat → DV) (c : Call) (H : DH) : Option (DV × DH) :=
  match opds σ c.args.toList with
  | some args =>
    match c.callee with
    | .builtin b => builtinD T b c.argTypes.toList args H
    | .value f => match opd σ f with
      | some (.fn (.func g) first cap) => E g (first ++ args ++ cap) H
      | _ => none
    | .invoke _ _ => none
  | none => none

def rangeD (T : Tab) (t : TypeId) (x : DV) (H : DH) : Option (DV × DH) :=
  match T.und t, x with
  | some .string, .str s => some (.ptr H.next 0, H.new (.iter s 0))
  | _, _ => none

def nextD (it : DV) (isString : Bool) (H : DH) : Option (DV × DH) :=
  match it, isString with
  | .ptr b 0, true => match H.m b with
    | some (.iter s pos) =>
      if pos < s.length then
        some (.tup [.bool true, .int .i64 pos, .int .i32 (Utf8.decode ⟨s.toArray⟩ pos).1], H.set b (.iter s (pos + (Utf8.decode ⟨s.toArray⟩ pos).2)))
      else some (.tup [.bool false], H)
    | _ => none
  | _, _ => none

def evalOp (T : Tab) (E : Orc) (o : Op) (σ : Nat → DV) (H : DH) : Option (DV × DH) :=
  match o with
  | .move x | .assign x => (opd σ x).map (·, H)
  | .pick c a b => match opd σ c with
    | some (.bool t) => (opd σ (if t then a else b)).map (·, H)
    | _ => none
  | .alloc e => match T.zero e with
    | some z => if z.cells.all DV.one then some (.ptr H.next 0, H.new (.cells e z.cells)) else none
    | none => none
  | .box e x => match opd σ x with
    | some v => if v.cells.all DV.one then some (.ptr H.next 0, H.new (.cells e v.cells)) else none
    | none => none
  | .build t ps => match opdParts σ ps.toList with
    | some l => (buildD T t l).map (·, H)
    | none => none
  | .buildSlice t n ps => match opdParts σ ps.toList with
    | some l => buildSliceD T t n l H
    | none => none
  | .load t a => match opd σ a with
    | some v => (loadD T t v H).map (·, H)
    | none => none
  | .store t a x => match opd σ a, opd σ x with
    | some p, some v => (storeD T t p v H).map (undefD, ·)
    | _, _ => none
  | .nilCheck x => match opd σ x with
    | some (.ptr b o) => some (.ptr b o, H)
    | some (.ip cs) => some (.ip cs, H)
    | some (.fn (.func f) a b) => some (.fn (.func f) a b, H)
    | _ => none
  | .binOp op t x y _ => match opd σ x, opd σ y with
    | some a, some b => (binD T op t x y a b).map (·, H)
    | _, _ => none
  | .unOp op _ x => match opd σ x with
    | some a => (unD op a).map (·, H)
    | none => none
  | .convert s d x => match opd σ x, T.und s with
    | some v, some _ => convD T s d v H
    | _, _ => none
  | .slice t x lo hi mx => match opd σ x, mx with
    | some v, none =>
      match optOpd σ lo, optOpd σ hi with
      | some l, some h => (sliceD T t v l h).map (·, H)
      | _, _ => none
    | _, _ => none
  | .fieldAddr s x f => match opd σ x with
    | some v => (fieldAtD T s v f).map (·, H)
    | none => none
  | .field s x f => match opd σ x with
    | some v => (fieldD T s v f).map (·, H)
    | none => none
  | .indexAddr t x i => match opd σ x, opd σ i with
    | some v, some j => (indexAtD T t v j).map (·, H)
    | _, _ => none
  | .index t x i => match opd σ x, opd σ i with
    | some v, some j => (indexD T t v j).map (·, H)
    | _, _ => none
  | .extract x i => match opd σ x with
    | some (.tup vs) => (vs[i]?).map (·, H)
    | _ => none
  | .makeSlice t x y => match opd σ x, opd σ y with
    | some l, some c => makeSliceD T t l c H
    | _, _ => none
  | .makeFunc f a b => match opds σ a.toList, opds σ b.toList with
    | some x, some y => some (.fn f x y, H)
    | _, _ => none
  | .call c => callD T E σ c H
  | .range t x => match opd σ x with
    | some v => rangeD T t v H
    | none => none
  | .next it s => match opd σ it with
    | some v => nextD v s H
    | none => none
  | _ => none

def upd (σ : Nat → DV) (d : Nat) (v : DV) : Nat → DV := fun i => if i = d then v else σ i
def put (σ : Nat → DV) (d : Option Tmp) (v : DV) : Nat → DV :=
  match d with
  | some d => upd σ d v
  | none => σ

def wantedD (ops : Array Oper) (o : Oper) (σ : Nat → DV) : Option Bool :=
  match o.guard with
  | none => some true
  | some (j, want) => match (ops[j]?).bind (·.dst) with
    | none => some false
    | some d => match σ d with
      | .bool b => some (b == want)
      | .tup [] => some false
      | _ => none

abbrev St := (Nat → DV) × DH

def evalOps (T : Tab) (E : Orc) (ops : Array Oper) : List Oper → St → Option St
  | [], s => some s
  | o :: r, s =>
    match wantedD ops o s.1 with
    | some true => match evalOp T E o.op s.1 s.2 with
      | some (v, H) => evalOps T E ops r (put s.1 o.dst v, H)
      | none => none
    | some false => evalOps T E ops r (put s.1 o.dst undefD, s.2)
    | none => none

inductive Out where
  | norm
  | exit (id : Nat)
  | goto (l : Nat)
  | ret
  deriving DecidableEq

inductive Work where
  | code (c : Code)
  | sc (body rest : Code)
  | call (f : FuncId) (args : List DV)

def frame0 (args : List DV) : Nat → DV := fun i => args.getD i undefD

def resD (T : Tab) (σ : Nat → DV) (H : DH) : List ResultVar → Option (List DV)
  | [] => some []
  | .tmp t :: r => match resD T σ H r with | some l => some (σ t :: l) | none => none
  | .cell a t :: r => match loadD T t (σ a) H, resD T σ H r with | some v, some l => some (v :: l) | _, _ => none
def resOne : List DV → DV
  | [v] => v
  | vs => .tup vs

/-- The loud operations of a region are in a chain, and no load floats beside them: then any order gives what the text's order gives. -/
def pureOp (o : Op) : Bool :=
  match o with
  | .move _ | .assign _ | .pick _ _ _ | .build _ _ | .nilCheck _ | .binOp .. | .unOp .. | .slice .. | .fieldAddr .. | .field .. | .indexAddr .. | .index .. | .extract .. | .makeFunc .. => true
  | .call { callee := .builtin .max, .. } | .call { callee := .builtin .min, .. } => true
  | _ => false

/-- Every temporary that is written lies in the frame. -/
def bnd (N : Nat) : Code → Bool
  | .region _ ops _ => ops.toList.all fun o => match o.dst with | some d => decide (d < N) | none => true
  | .seq a b => bnd N a && bnd N b
  | .cond _ a b => bnd N a && bnd N b
  | .block _ a => bnd N a
  | .loop a => bnd N a
  | .scope a => bnd N a
  | _ => true


/-! Regions that draw their order. -/
/-- The temporaries that an operation looks at, a guard's with them. -/
def reads (ops : Array Oper) (o : Oper) : List Tmp :=
  (o.op.operands.toList.filterMap fun | .tmp t => some t | _ => none) ++
  (match o.guard with
   | some (g, _) => ((ops[g]?).bind (·.dst)).toList
   | none => [])

/-- Does not touch the heap of the evaluator at all. -/
def isPure : Op → Bool
  | .move _ | .assign _ | .pick _ _ _ | .build _ _ | .nilCheck _ | .binOp _ _ _ _ _ | .unOp _ _ _ | .slice _ _ _ _ _ | .fieldAddr _ _ _ | .field _ _ _ | .indexAddr _ _ _ | .index _ _ _ | .extract _ _ | .makeFunc _ _ _ => true
  | .call { callee := .builtin .max, .. } | .call { callee := .builtin .min, .. } | .call { callee := .builtin .unsafeSliceData, .. } => true
  | _ => false
/-- Reads the heap, and leaves it. -/
def isRead : Op → Bool
  | .load _ _ => true
  | .call { callee := .builtin .len, .. } => true
  | _ => false

def edgesOf (o : Oper) : List Nat := (o.after.toList.filter (Region.binds .any)).map (·.on)
/-- One operation. -/
def one (T : Tab) (E : Orc) (ops : Array Oper) (o : Oper) (s : St) : Option (DV × DH) :=
  match wantedD ops o s.1 with
  | some true => evalOp T E o.op s.1 s.2
  | some false => some (undefD, s.2)
  | none => none

def loud (o : Op) : Bool := !(isPure o || isRead o)

/-- i comes ahead of j in every order. -/
inductive BF (ops : Array Oper) : Nat → Nat → Prop
  | edge {j : Nat} {o : Oper} {e : Edge} (h : ops[j]? = some o) (he : e ∈ o.after) (hb : Region.binds .any e = true) : BF ops e.on j
  | step {i j : Nat} {o : Oper} {e : Edge} (h : ops[j]? = some o) (he : e ∈ o.after) (hb : Region.binds .any e = true) (hi : BF ops i e.on) : BF ops i j

def mask (acc : List Nat) (es : List Nat) : Nat := es.foldl (fun s e => s ||| 2 ^ e ||| acc.getD e 0) 0
def masks (l : List Oper) : List Nat := l.foldl (fun acc o => acc ++ [mask acc (edgesOf o)]) []

def ord (m : List Nat) (i j : Nat) : Bool := (m.getD j 0).testBit i || (m.getD i 0).testBit j

/-- The look: 'rl': no load floats beside what is loud. -/
def drawLook (rl : Bool) (ops : Array Oper) : Bool :=
  let l := ops.toList
  let m := masks l
  l.zipIdx.all fun (o, i) =>
    (edgesOf o).all (fun e => decide (e < i)) &&
    l.zipIdx.all fun (p, j) =>
      i == j ||
      ((match o.dst with | some d => p.dst != some d && (!(reads ops p).contains d || ord m i j) | none => true) &&
       (isPure o.op || isPure p.op || (isRead o.op && isRead p.op) || (!rl && (isRead o.op || isRead p.op)) || ord m i j))

/-- Where an operation may stand among those that are loud: ahead of k of the text's. -/
def Win (ops : Array Oper) (i k : Nat) : Prop := ∀ (j : Nat) (p : Oper), ops[j]? = some p → loud p.op = true → (BF ops j i → j < k) ∧ (BF ops i j → k ≤ j)
/-- Loads float beside what is loud, and read the same wherever they may stand. -/
def Floats (T : Tab) (E : Orc) (ops : Array Oper) (s : St) : Prop := drawLook false ops = true ∧
  ∀ (i : Nat) (o : Oper), ops[i]? = some o → isRead o.op = true → ∀ k, k ≤ ops.size → Win ops i k → ∀ si v H' sk, evalOps T E ops (ops.toList.take i) s = some si → one T E ops o si = some (v, H') →
    evalOps T E ops (ops.toList.take k) s = some sk → one T E ops o (si.1, sk.2) = some (v, sk.2)

open Classical in
/-- One step of the evaluator, over the evaluator with less fuel. 'ext': functions that are taken by what they are known to give. -/
noncomputable def evalW (P : Program) (T : Tab) (ext : FuncId → Option (List DV → DH → Option (DV × DH))) (draw : Array Oper → Bool) : Nat → Work → St → Option (Out × St × DV)
  | 0, _, _ => none
  | n + 1, w, s =>
    let E : Orc := fun f args H => match ext f with
      | some e => e args H
      | none => match evalW P T ext draw n (.call f args) (fun _ => undefD, H) with
        | some (_, s', v) => some (v, s'.2)
        | none => none
    match w with
    | .call f args =>
      match P.funcs[f]? with
      | none => none
      | some fn => match fn.body with
        | none => none
        | some c =>
          if args.length ≤ fn.ntmps ∧ bnd fn.ntmps c = true then
            match evalW P T ext draw n (.code c) (frame0 args, s.2) with
            | some (.norm, s', _) | some (.ret, s', _) => match resD T s'.1 s'.2 fn.results.toList with
              | some vs => some (.norm, s', resOne vs)
              | none => none
            | _ => none
          else none
    | .code c =>
      match c with
      | .skip | .label _ => some (.norm, s, undefD)
      | .ret => some (.ret, s, undefD)
      | .exit id => some (.exit id, s, undefD)
      | .goto l => some (.goto l, s, undefD)
      | .seq a b => match evalW P T ext draw n (.code a) s with
        | some (.norm, s', _) => evalW P T ext draw n (.code b) s'
        | r => r
      | .cond x a b => match opd s.1 x with
        | some (.bool t) => evalW P T ext draw n (.code (if t then a else b)) s
        | _ => none
      | .block id body => match evalW P T ext draw n (.code body) s with
        | some (.exit id', s', v) => if id' = id then some (.norm, s', v) else some (.exit id', s', v)
        | r => r
      | .loop body => match evalW P T ext draw n (.code body) s with
        | some (.norm, s', _) => evalW P T ext draw n (.code (.loop body)) s'
        | r => r
      | .scope body => evalW P T ext draw n (.sc body body) s
      | .region _ ops dr =>
        if dr = true ∧ ¬ (draw ops = true ∨ Floats T E ops s) then none else
        match evalOps T E ops ops.toList s with
        | some s' => some (.norm, s', undefD)
        | none => none
      | _ => none
    | .sc body rest =>
      match evalW P T ext draw n (.code rest) s with
      | some (.goto l, s', v) => match findLabel body l with
        | some rest' => evalW P T ext draw n (.sc body rest') s'
        | none => some (.goto l, s', v)
      | r => r
end Go.Proofs.YtcknfhhbijlobaaDoor.D

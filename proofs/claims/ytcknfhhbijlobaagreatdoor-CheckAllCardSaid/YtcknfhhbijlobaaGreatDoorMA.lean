import Derived.Below
import Derived.Scope
import Derived.Orders
import Derived.Laws.StructEq
import Derived.Lib.FrozenHead
import Derived.Laws.BytesString
namespace Go.Proofs.YtcknfhhbijlobaaGreatDoor.D
open Go
set_option linter.unusedVariables false
inductive DV where
 | bool (b : Bool)
 | int (k : IntKind) (n : Int)
 | flt (k : FloatKind) (n : Nat)
 | str (s : List UInt8)
 | nilp
 | ptr (b off : Nat)
 | ip (cs : List DV)
 | nils
 | sl (id sz off : Nat) (es : List DV)
 | hs (b sz off len : Nat)
 | sd (id sz off : Nat) (es : List DV)
 | nilm
 | mp (b : Nat)
 | fn (f : Fn) (first cap : List DV)
 | nilf
 | nili
 | ifc (t : TypeId) (v : DV)
 | agg (cs : List DV)
 | tup (vs : List DV)
 deriving Inhabited
def DV.cells : DV → List DV
 | .agg cs => cs
 | v => [v]
def flat : List DV → List DV
 | [] => []
 | e :: es => e.cells ++ flat es
def DV.one : DV → Bool
 | .agg _ | .tup _ => false
 | _ => true
abbrev undefD : DV := .tup []
inductive DObj where
 | cells (T : TypeId) (cs : List DV)
 | row (T : TypeId) (cs : List DV)
 | tip (T : TypeId) (n : Nat) (cl : Bool)
 | iter (s : List UInt8) (pos : Nat)
 | map (es : List (DV × DV))
 deriving Inhabited
structure DH where
 next : Nat
 m : Nat → Option DObj
def DH.set (H : DH) (b : Nat) (o : DObj) : DH := { H with m := fun i => if i = b then some o else H.m i }
def DH.new (H : DH) (o : DObj) : DH := { next := H.next + 1, m := fun i => if i = H.next then some o else H.m i }
def DH.mov (H : DH) (b : Nat) (o : DObj) : DH := { next := H.next + 1, m := fun i => if i = H.next then some o else if i = b then none else H.m i }
structure Tab where
 und : TypeId → Option TypeDesc
 size : TypeId → Option Nat
 bytes : TypeId → Option Nat
 zero : TypeId → Option DV
 flatEq : TypeId → Option (List Nat)
 lies : TypeId → Nat → Nat → TypeId → Bool
 wr : TypeId → Bool
abbrev Orc := FuncId → List DV → DH → Option (DV × DH)
def constD : Value → Option DV
 | .bool b => some (.bool b)
 | .int k n => some (.int k n)
 | .float k n => some (.flt k n)
 | .string s => some (.str s.data.toList)
 | .pointer none => some .nilp
 | .slice none 0 0 => some .nils
 | .map none => some .nilm
 | .nilFunc => some .nilf
 | .nilIface => some .nili
 | .tuple vs => if vs.size = 0 then some (.tup []) else none
 | _ => none
def opd (σ : Nat → DV) : Operand → Option DV
 | .tmp t => some (σ t)
 | .const v => constD v
 | .func f => some (.fn (.func f) [] [])
 | .global _ => none
def isAggD : TypeDesc → Bool
 | .struct _ | .array _ _ => true
 | _ => false
def takeVar (g : Bool) (n : Nat) (cs : List DV) : Option DV :=
 if g then (if n ≤ cs.length then some (.agg (cs.take n)) else none) else cs.head?
def cellsAt (H : DH) : DV → Option (List DV)
 | .ptr b off => match H.m b with
  | some (.cells _ cs) => some (cs.drop off)
  | some (.row _ cs) => some (cs.drop off)
  | _ => none
 | .ip cs => some cs
 | _ => none
def loadD (T : Tab) (t : TypeId) (a : DV) (H : DH) : Option DV :=
 match T.und t, T.size t, cellsAt H a with
 | some d, some n, some cs => takeVar (isAggD d) n cs
 | _, _, _ => none
def storeD (T : Tab) (t : TypeId) (a v : DV) (H : DH) : Option DH :=
 match a, T.size t with
 | .ptr b off, some n => match H.m b with
  | some (.cells ty cs) =>
   if v.cells.length = n ∧ off + n ≤ cs.length ∧ v.cells.all DV.one = true then some (H.set b (.cells ty (cs.take off ++ v.cells ++ cs.drop (off + n)))) else none
  | some (.row ty cs) =>
   if v.cells.length = n ∧ off + n ≤ cs.length ∧ v.cells.all DV.one = true then some (H.set b (.row ty (cs.take off ++ v.cells ++ cs.drop (off + n)))) else none
  | _ => none
 | _, _ => none
def strOp (op : BinOp) (x y : List UInt8) : Option DV :=
 match op with
 | .add => if ((x.length + y.length : Nat) : Int) > 9223372036854775807 then none else some (.str (x ++ y))
 | .eql => some (.bool (x == y))
 | .neq => some (.bool (!(x == y)))
 | .lss => some (.bool (Op.bytesLess x y))
 | .leq => some (.bool (Op.bytesLess x y || x == y))
 | .gtr => some (.bool (!(Op.bytesLess x y || x == y)))
 | .geq => some (.bool (!Op.bytesLess x y))
 | _ => none
def intOp (op : BinOp) (k : IntKind) (a b : Int) : Option DV :=
 match op with
 | .add => some (.int k (k.wrap (a + b)))
 | .sub => some (.int k (k.wrap (a - b)))
 | .mul => some (.int k (k.wrap (a * b)))
 | .quo => if b = 0 then none else some (.int k (k.wrap (a.tdiv b)))
 | .rem => if b = 0 then none else some (.int k (a.tmod b))
 | .and => some (.int k (k.wrap (BitVec.ofInt k.bits a &&& BitVec.ofInt k.bits b).toNat))
 | .or => some (.int k (k.wrap (BitVec.ofInt k.bits a ||| BitVec.ofInt k.bits b).toNat))
 | .xor => some (.int k (k.wrap (BitVec.ofInt k.bits a ^^^ BitVec.ofInt k.bits b).toNat))
 | .andNot => some (.int k (k.wrap (BitVec.ofInt k.bits a &&& ~~~BitVec.ofInt k.bits b).toNat))
 | .eql => some (.bool (a == b))
 | .neq => some (.bool (a != b))
 | .lss => some (.bool (a < b))
 | .leq => some (.bool (a ≤ b))
 | .gtr => some (.bool (a > b))
 | .geq => some (.bool (a ≥ b))
 | _ => none
def shiftOp (op : BinOp) (k : IntKind) (x y : Int) : Option DV :=
 if y < 0 then none else
 match op with
 | .shl => some (.int k (k.wrap (x * 2 ^ min y.toNat k.bits)))
 | .shr => some (.int k (x.fdiv (2 ^ min y.toNat k.bits)))
 | _ => none
def eqOp (op : BinOp) (b : Bool) : Option DV :=
 match op with
 | .eql => some (.bool b)
 | .neq => some (.bool (!b))
 | _ => none
def cellEq : Nat → DV → DV → Option Bool
 | 1, .int k a, .int k' b => if k = k' then some (a == b) else none
 | 2, .str a, .str b => some (a == b)
 | 0, .bool a, .bool b => some (a == b)
 | _, _, _ => none
def cellsEq : List Nat → List DV → List DV → Option Bool
 | [], [], [] => some true
 | k :: ks, x :: xs, y :: ys => match cellEq k x y, cellsEq ks xs ys with
  | some a, some b => some (a && b)
  | _, _ => none
 | _, _, _ => none
def isShift : BinOp → Bool
 | .shl | .shr => true
 | _ => false
def isConstO : Operand → Bool
 | .const _ => true
 | _ => false
def binD (T : Tab) (op : BinOp) (xT : TypeId) (x y : Operand) (vx vy : DV) : Option DV :=
 match vx, vy with
 | .int k a, .int k' b => if isShift op then shiftOp op k a b else if k = k' then intOp op k a b else none
 | .str a, .str b => if isShift op then none else strOp op a b
 | .bool a, .bool b => match T.und xT with | some .bool => eqOp op (a == b) | _ => none
 | .nilp, .nilp => match T.und xT with | some (.pointer _) => eqOp op true | _ => none
 | .nilp, .ptr _ _ => match T.und xT with | some (.pointer _) => eqOp op false | _ => none
 | .ptr _ _, .nilp => match T.und xT with | some (.pointer _) => eqOp op false | _ => none
 | .ptr b o, .ptr b' o' => match T.und xT with | some (.pointer e) => (match T.size e with | some n => if b = b' ∧ n ≠ 0 then eqOp op (o == o') else none | none => none) | _ => none
 | .nils, .nils => match T.und xT with | some (.slice _) => eqOp op true | _ => none
 | .nils, .sl _ _ _ _ => match T.und xT with | some (.slice _) => eqOp op false | _ => none
 | .sl _ _ _ _, .nils => match T.und xT with | some (.slice _) => eqOp op false | _ => none
 | .nils, .hs _ _ _ _ => match T.und xT with | some (.slice _) => eqOp op false | _ => none
 | .hs _ _ _ _, .nils => match T.und xT with | some (.slice _) => eqOp op false | _ => none
 | .nilf, .nilf => match T.und xT with | some (.func _ _ _) => eqOp op true | _ => none
 | .fn _ _ _, .nilf => match T.und xT with | some (.func _ _ _) => eqOp op false | _ => none
 | .nili, .nili => match T.und xT with | some (.interface _) => if isConstO x || isConstO y then eqOp op true else none | _ => none
 | .ifc _ _, .nili => match T.und xT with | some (.interface _) => eqOp op false | _ => none
 | .agg xs, .agg ys => match T.flatEq xT with | some ks => (match cellsEq ks xs ys with | some b => eqOp op b | none => none) | none => none
 | _, _ => none
def unD (op : UnOp) (v : DV) : Option DV :=
 match op, v with
 | .neg, .int k n => some (.int k (k.wrap (0 - n)))
 | .xor, .int k n => some (.int k (k.wrap (BitVec.ofInt k.bits (if k.signed then -1 else k.max) ^^^ BitVec.ofInt k.bits n).toNat))
 | .not, .bool b => some (.bool (!b))
 | _, _ => none
def byteDV (b : UInt8) : DV := .int .u8 b.toNat
def bytesOf : List DV → Option (List UInt8)
 | [] => some []
 | .int .u8 n :: r => match bytesOf r with
  | some l => some (UInt8.ofNat n.toNat :: l)
  | none => none
 | _ => none
def newSl (H : DH) (T : TypeId) (cl : Bool) (sz : Nat) (es : List DV) : DV × DH := (.sl H.next sz 0 es, H.new (.tip T es.length cl))
def newHs (H : DH) (T : TypeId) (sz len : Nat) (cs : List DV) : DV × DH := (.hs H.next sz 0 len, H.new (.row T cs))
def convD (T : Tab) (src dst : TypeId) (v : DV) (H : DH) : Option (DV × DH) :=
 match T.und dst, v with
 | some (.int k), .int _ n => some (.int k (k.wrap n), H)
 | some .string, .str s => some (.str s, H)
 | some (.slice e), .str s =>
  match T.und e, T.size e with
  | some (.int .u8), some 1 => if s.length < 9223372036854775808 then some (newSl H e false 1 (s.map byteDV)) else none
  | _, _ => none
 | some .unsafePointer, .ptr b off => match T.und src with
  | some (.pointer t) => match T.size t, H.m b with
   | some n, some (.cells _ cs) => if n ≠ 0 ∧ off < cs.length then some (.ptr b off, H) else none
   | _, _ => none
  | _ => none
 | some (.pointer u), .ptr b off => match T.und src with
  | some .unsafePointer => match H.m b with
   | some (.cells t cs) => if T.lies t cs.length off u = true then some (.ptr b off, H) else none
   | _ => none
  | _ => none
 | some .string, .nils => match T.und src with
  | some (.slice e) => (match T.und e with | some (.int .u8) => some (.str [], H) | _ => none)
  | _ => none
 | some .string, .sl _ sz _ es => match T.und src with
  | some (.slice e) => (match T.und e, bytesOf es with | some (.int .u8), some l => if sz = 1 then some (.str l, H) else none | _, _ => none)
  | _ => none
 | _, _ => none
def fillD (place : Nat → Option (Nat × Nat)) (cells : List DV) : List (Nat × DV) → Option (List DV)
 | [] => some cells
 | (i, v) :: rest =>
  match place i with
  | none => none
  | some (off, size) =>
   if v.cells.length ≠ size ∨ off + v.cells.length > cells.length then none
   else fillD place (cells.take off ++ v.cells ++ cells.drop (off + v.cells.length)) rest
def optOpd (σ : Nat → DV) : Option Operand → Option (Option DV)
 | none => some none
 | some l => (opd σ l).map some
def opds (σ : Nat → DV) : List Operand → Option (List DV)
 | [] => some []
 | x :: r => match opd σ x, opds σ r with
  | some v, some l => some (v :: l)
  | _, _ => none
def opdParts (σ : Nat → DV) : List (Nat × Operand) → Option (List (Nat × DV))
 | [] => some []
 | (i, x) :: r => match opd σ x, opdParts σ r with
  | some v, some l => some ((i, v) :: l)
  | _, _ => none
def fieldPlaces (T : Tab) : List Field → Option (List (Nat × Nat))
 | [] => some []
 | f :: r => match T.size f.type, fieldPlaces T r with
  | some n, some l => some ((f.offset, n) :: l)
  | _, _ => none
def buildD (T : Tab) (t : TypeId) (parts : List (Nat × DV)) : Option DV :=
 match T.und t, T.zero t with
 | some (.struct fs), some z =>
  match fieldPlaces T fs.toList with
  | some ps => match fillD (fun i => ps[i]?) z.cells parts with
   | some cs => some (.agg cs)
   | none => none
  | none => none
 | some (.array _ e), some z =>
  match T.size e with
  | some n => match fillD (fun i => some (i * n, n)) z.cells parts with
   | some cs => some (.agg cs)
   | none => none
  | none => none
 | _, _ => none
def dense (g : Bool) (n : Nat) (i : Nat) : List (Nat × DV) → Option (List DV)
 | [] => some []
 | (j, v) :: r =>
  if j = i ∧ v.cells.length = n ∧ (g = true ↔ v.one = false) ∧ v.cells.all DV.one = true then
   match dense g n (i + 1) r with
   | some l => some (v :: l)
   | none => none
  else none
def buildSliceD (T : Tab) (t : TypeId) (len : Nat) (parts : List (Nat × DV)) (H : DH) : Option (DV × DH) :=
 match T.und t with
 | some (.slice e) =>
  match T.und e, T.size e, T.zero e with
  | some d, some n, some z =>
   match dense (isAggD d) n 0 parts with
   | some es => if es.length = len ∧ 0 < n ∧ z.cells.length = n ∧ len * n ≤ 16777216 then some (newSl H e true n es) else none
   | none => none
  | _, _, _ => none
 | _ => none
def fieldAtD (T : Tab) (s : TypeId) (a : DV) (f : Nat) : Option DV :=
 match T.und s with
 | some (.struct fs) => match fs[f]? with
  | some fd => match T.size fd.type with
   | some n => if n = 0 then none else match a with
    | .ptr b off => some (.ptr b (off + fd.offset))
    | .ip cs => some (.ip (cs.drop fd.offset))
    | _ => none
   | none => none
  | none => none
 | _ => none
def fieldD (T : Tab) (s : TypeId) (a : DV) (f : Nat) : Option DV :=
 match T.und s, a with
 | some (.struct fs), .agg cs => match fs[f]? with
  | some fd => match T.und fd.type, T.size fd.type with
   | some d, some n => takeVar (isAggD d) n (cs.drop fd.offset)
   | _, _ => none
  | none => none
 | _, _ => none
def indexAtD (T : Tab) (t : TypeId) (x i : DV) : Option DV :=
 match T.und t, x, i with
 | some (.slice e), .sl _ sz _ es, .int _ i =>
  if T.size e = some sz ∧ 0 ≤ i then (match es[i.toNat]? with | some v => some (.ip v.cells) | none => none) else none
 | some (.slice e), .hs b sz off len, .int _ i =>
  if T.size e = some sz ∧ 0 ≤ i ∧ i < len then some (.ptr b (off + i.toNat * sz)) else none
 | some (.array len e), .ptr b off, .int _ i =>
  match T.size e with
  | some sz => if 0 ≤ i ∧ i < len then some (.ptr b (off + i.toNat * sz)) else none
  | none => none
 | _, _, _ => none
def indexD (T : Tab) (t : TypeId) (x i : DV) : Option DV :=
 match T.und t, x, i with
 | some .string, .str s, .int _ i => if 0 ≤ i then (match s[i.toNat]? with | some b => some (byteDV b) | none => none) else none
 | some (.array len e), .agg cs, .int _ i =>
  match T.und e, T.size e with
  | some d, some sz => if 0 ≤ i ∧ i < len then takeVar (isAggD d) sz (cs.drop (i.toNat * sz)) else none
  | _, _ => none
 | _, _, _ => none
def boundD (x : Option DV) (dflt top : Nat) : Option Nat :=
 match x with
 | none => some dflt
 | some (.int _ i) => if 0 ≤ i ∧ i ≤ top then some i.toNat else none
 | _ => none
def sliceD (T : Tab) (t : TypeId) (x : DV) (lo hi : Option DV) : Option DV :=
 match T.und t, x with
 | some .string, .str s =>
  match boundD hi s.length s.length with
  | some h => match boundD lo 0 h with
   | some l => some (.str ((s.take h).drop l))
   | none => none
  | none => none
 | some (.slice e), .sl id sz off es =>
  if T.size e = some sz then
   match boundD hi es.length es.length with
   | some h => match boundD lo 0 h with
    | some l => some (.sl id sz (off + l) ((es.take h).drop l))
    | none => none
   | none => none
  else none
 | some (.slice e), .hs b sz off len =>
  if T.size e = some sz then
   match boundD hi len len with
   | some h => match boundD lo 0 h with
    | some l => some (.hs b sz (off + l * sz) (h - l))
    | none => none
   | none => none
  else none
 | some (.slice e), .nils =>
  match boundD hi 0 0, T.size e with
  | some h, some _ => match boundD lo 0 h with
   | some l => some .nils
   | none => none
  | _, _ => none
 | _, _ => none
def lenD (T : Tab) (H : DH) (t : TypeId) : DV → Option DV
 | .str s => match T.und t with | some .string => some (.int .i64 s.length) | _ => none
 | .nils => match T.und t with | some (.slice _) => some (.int .i64 0) | _ => none
 | .sl _ _ _ es => match T.und t with | some (.slice _) => some (.int .i64 es.length) | _ => none
 | .hs _ _ _ n => match T.und t with | some (.slice _) => some (.int .i64 n) | _ => none
 | .nilm => match T.und t with | some (.map _ _) => some (.int .i64 0) | _ => none
 | .mp b => match T.und t, H.m b with | some (.map _ _), some (.map es) => some (.int .i64 es.length) | _, _ => none
 | _ => none
def elemsOf (sz : Nat) : DV → Option (List DV)
 | .nils => some []
 | .sl _ n _ es => if n = sz then some es else none
 | .str s => if sz = 1 then some (s.map byteDV) else none
 | _ => none
def srcOk : TypeDesc → Bool
 | .slice _ | .string => true
 | _ => false
def appendD (T : Tab) (t u : TypeId) (s x : DV) (H : DH) : Option (DV × DH) :=
 match T.und t with
 | some (.slice e) =>
  match T.size e, T.bytes e, T.und u, T.zero e with
  | some n, some by_, some du, some z =>
   match elemsOf n x with
   | some new =>
    if 0 < n ∧ srcOk du = true ∧ z.cells.length = n then
     match s with
     | .nils => if new.length * by_ ≤ 140737488355328 ∧ new.length < 9223372036854775808 then (if new.isEmpty = true then some (.nils, H) else if T.wr e = true then some (newHs H e n new.length (flat new)) else some (newSl H e true n new)) else none
     | .hs b sz off len =>
      match H.m b with
      | some (.row e' cs) =>
       if sz = n ∧ e' = e ∧ off + len * n ≤ cs.length ∧ (len + new.length) * by_ ≤ 140737488355328 ∧ len + new.length < 9223372036854775808 ∧ new ≠ [] then
        some (.hs H.next sz 0 (len + new.length), H.mov b (.row e ((cs.drop off).take (len * n) ++ flat new)))
       else none
      | _ => none
     | .sl id sz off es =>
      match H.m id with
      | some (.tip e' k cl) =>
       if sz = n ∧ e' = e ∧ k = off + es.length ∧ (es.length + new.length) * by_ ≤ 140737488355328 ∧ es.length + new.length < 9223372036854775808 then
        some (.sl id sz off (es ++ new), H.set id (.tip e (k + new.length) cl))
       else none
      | _ => none
     | _ => none
    else none
   | none => none
  | _, _, _, _ => none
 | _ => none
def maxD (x y : DV) : Option DV :=
 match x, y with
 | .int k a, .int _ b => some (.int k (if b > a then b else a))
 | _, _ => none
def minD (x y : DV) : Option DV :=
 match x, y with
 | .int k a, .int _ b => some (.int k (if b < a then b else a))
 | _, _ => none
def makeSliceD (T : Tab) (t : TypeId) (l c : DV) (H : DH) : Option (DV × DH) :=
 match T.und t, l, c with
 | some (.slice e), .int .i64 l, .int .i64 c =>
  match T.size e, T.bytes e, T.zero e with
  | some n, some by_, some z =>
   if 0 ≤ l ∧ l ≤ c ∧ c < 9223372036854775808 ∧ by_ * c ≤ 140737488355328 ∧ 0 < n ∧ z.cells.length = n ∧ z.cells.all DV.one = true then some (newHs H e n l.toNat (flat (List.replicate l.toNat z))) else none
  | _, _, _ => none
 | _, _, _ => none
def dataD : DV → Option DV
 | .nils => some .nilp
 | .sl id sz off es => if es.isEmpty = true then none else some (.sd id sz off es)
 | _ => none
def unsafeStrD (T : Tab) (H : DH) (pt : TypeId) (p n : DV) : Option DV :=
 match p, n with
 | .nilp, .int .i64 i => if i = 0 then some (.str []) else none
 | .sd id sz off es, .int .i64 i =>
  match T.und pt, H.m id, bytesOf es with
  | some (.pointer e), some (.tip e' k true), some l =>
   if e' = e ∧ sz = 1 ∧ T.size e = some 1 ∧ k = off + es.length ∧ i = es.length ∧ es.length < 9223372036854775808 then some (.str l) else none
  | _, _, _ => none
 | _, _ => none
def builtinD (T : Tab) (b : Builtin) (argTypes : List TypeId) (args : List DV) (H : DH) : Option (DV × DH) :=
 match b, argTypes, args with
 | .len, t :: _, [x] => match lenD T H t x with | some v => some (v, H) | none => none
 | .append, [t, u], [s, x] => appendD T t u s x H
 | .unsafeSliceData, _, [x] => match dataD x with | some v => some (v, H) | none => none
 | .unsafeString, [t, _], [x, y] => match unsafeStrD T H t x y with | some v => some (v, H) | none => none
 | .max, _, [x, y] => match maxD x y with | some v => some (v, H) | none => none
 | .min, _, [x, y] => match minD x y with | some v => some (v, H) | none => none
 | _, _, _ => none
def callD (T : Tab) (E : Orc) (σ : Nat → DV) (c : Call) (H : DH) : Option (DV × DH) :=
 match opds σ c.args.toList with
 | some args =>
  match c.callee with
  | .builtin b => builtinD T b c.argTypes.toList args H
  | .value f => match opd σ f with
   | some (.fn (.func g) first cap) => E g (first ++ args ++ cap) H
   | _ => none
  | .invoke _ _ => none
 | none => none
def rangeD (T : Tab) (t : TypeId) (x : DV) (H : DH) : Option (DV × DH) :=
 match T.und t, x with
 | some .string, .str s => some (.ptr H.next 0, H.new (.iter s 0))
 | _, _ => none
def nextD (it : DV) (isString : Bool) (H : DH) : Option (DV × DH) :=
 match it, isString with
 | .ptr b 0, true => match H.m b with
  | some (.iter s pos) =>
   if pos < s.length then
    some (.tup [.bool true, .int .i64 pos, .int .i32 (Utf8.decode ⟨s.toArray⟩ pos).1], H.set b (.iter s (pos + (Utf8.decode ⟨s.toArray⟩ pos).2)))
   else some (.tup [.bool false], H)
  | _ => none
 | _, _ => none
def sameD : TypeDesc → DV → DV → Option Bool
 | .int _, .int k a, .int k' b => if k = k' then some (a == b) else none
 | .string, .str a, .str b => some (a == b)
 | .bool, .bool a, .bool b => some (a == b)
 | _, _, _ => none
def findD (d : TypeDesc) (k : DV) : List (DV × DV) → Option (Option DV)
 | [] => some none
 | (x, v) :: r => match sameD d k x with
  | some true => some (some v)
  | some false => findD d k r
  | none => none
def insD (d : TypeDesc) (k u : DV) : List (DV × DV) → Option (List (DV × DV))
 | [] => some [(k, u)]
 | (x, v) :: r => match sameD d k x with
  | some true => some ((k, u) :: r)
  | some false => match insD d k u r with
   | some l => some ((x, v) :: l)
   | none => none
  | none => none
def plainKey : TypeDesc → DV → Bool
 | .int _, .int _ _ => true
 | .string, .str _ => true
 | .bool, .bool _ => true
 | _, _ => false
def entriesD (H : DH) : DV → Option (List (DV × DV))
 | .nilm => some []
 | .mp b => match H.m b with
  | some (.map es) => some es
  | _ => none
 | _ => none
def lookupD (T : Tab) (t : TypeId) (x i : DV) (ok : Bool) (H : DH) : Option DV :=
 match T.und t with
 | some (.map kt et) => match T.und kt, T.zero et, entriesD H x with
  | some d, some z, some es =>
   if plainKey d i = true then
    match findD d i es with
    | some (some v) => some (if ok then .tup [v, .bool true] else v)
    | some none => some (if ok then .tup [z, .bool false] else z)
    | none => none
   else none
  | _, _, _ => none
 | _ => none
def updateD (T : Tab) (t : TypeId) (x k v : DV) (H : DH) : Option DH :=
 match T.und t, x with
 | some (.map kt et), .mp b => match T.und kt, H.m b with
  | some d, some (.map es) =>
   if plainKey d k = true then
    match insD d k v es with
    | some l => some (H.set b (.map l))
    | none => none
   else none
  | _, _ => none
 | _, _ => none
def makeMapD (T : Tab) (t : TypeId) (n : Option DV) (H : DH) : Option (DV × DH) :=
 match n with
 | none => some (.mp H.next, H.new (.map []))
 | some (.int .i64 _) => match T.und t with
  | some (.map _ _) => some (.mp H.next, H.new (.map []))
  | _ => none
 | _ => none
def evalOp (T : Tab) (E : Orc) (o : Op) (σ : Nat → DV) (H : DH) : Option (DV × DH) :=
 match o with
 | .move x | .assign x => (opd σ x).map (·, H)
 | .pick c a b => match opd σ c with
  | some (.bool t) => (opd σ (if t then a else b)).map (·, H)
  | _ => none
 | .alloc e => match T.zero e with
  | some z => if z.cells.all DV.one then some (.ptr H.next 0, H.new (.cells e z.cells)) else none
  | none => none
 | .box e x => match opd σ x with
  | some v => if v.cells.all DV.one then some (.ptr H.next 0, H.new (.cells e v.cells)) else none
  | none => none
 | .build t ps => match opdParts σ ps.toList with
  | some l => (buildD T t l).map (·, H)
  | none => none
 | .buildSlice t n ps => match opdParts σ ps.toList with
  | some l => buildSliceD T t n l H
  | none => none
 | .load t a => match opd σ a with
  | some v => (loadD T t v H).map (·, H)
  | none => none
 | .store t a x => match opd σ a, opd σ x with
  | some p, some v => (storeD T t p v H).map (undefD, ·)
  | _, _ => none
 | .nilCheck x => match opd σ x with
  | some (.ptr b o) => some (.ptr b o, H)
  | some (.ip cs) => some (.ip cs, H)
  | some (.fn (.func f) a b) => some (.fn (.func f) a b, H)
  | _ => none
 | .binOp op t x y _ => match opd σ x, opd σ y with
  | some a, some b => (binD T op t x y a b).map (·, H)
  | _, _ => none
 | .unOp op _ x => match opd σ x with
  | some a => (unD op a).map (·, H)
  | none => none
 | .convert s d x => match opd σ x, T.und s with
  | some v, some _ => convD T s d v H
  | _, _ => none
 | .slice t x lo hi mx => match opd σ x, mx with
  | some v, none =>
   match optOpd σ lo, optOpd σ hi with
   | some l, some h => (sliceD T t v l h).map (·, H)
   | _, _ => none
  | _, _ => none
 | .fieldAddr s x f => match opd σ x with
  | some v => (fieldAtD T s v f).map (·, H)
  | none => none
 | .field s x f => match opd σ x with
  | some v => (fieldD T s v f).map (·, H)
  | none => none
 | .indexAddr t x i => match opd σ x, opd σ i with
  | some v, some j => (indexAtD T t v j).map (·, H)
  | _, _ => none
 | .index t x i => match opd σ x, opd σ i with
  | some v, some j => (indexD T t v j).map (·, H)
  | _, _ => none
 | .extract x i => match opd σ x with
  | some (.tup vs) => (vs[i]?).map (·, H)
  | _ => none
 | .makeSlice t x y => match opd σ x, opd σ y with
  | some l, some c => makeSliceD T t l c H
  | _, _ => none
 | .makeFunc f a b => match opds σ a.toList, opds σ b.toList with
  | some x, some y => some (.fn f x y, H)
  | _, _ => none
 | .call c => callD T E σ c H
 | .makeMap t n => match optOpd σ n with
  | some v => makeMapD T t v H
  | none => none
 | .mapUpdate t x k v | .insert t x k v => match opd σ x, opd σ k, opd σ v with
  | some a, some b, some c => (updateD T t a b c H).map (undefD, ·)
  | _, _, _ => none
 | .lookup t x i ok => match opd σ x, opd σ i with
  | some a, some b => (lookupD T t a b ok H).map (·, H)
  | _, _ => none
 | .range t x => match opd σ x with
  | some v => rangeD T t v H
  | none => none
 | .next it s => match opd σ it with
  | some v => nextD v s H
  | none => none
 | _ => none
def upd (σ : Nat → DV) (d : Nat) (v : DV) : Nat → DV := fun i => if i = d then v else σ i
def put (σ : Nat → DV) (d : Option Tmp) (v : DV) : Nat → DV :=
 match d with
 | some d => upd σ d v
 | none => σ
def wantedD (ops : Array Oper) (o : Oper) (σ : Nat → DV) : Option Bool :=
 match o.guard with
 | none => some true
 | some (j, want) => match (ops[j]?).bind (·.dst) with
  | none => some false
  | some d => match σ d with
   | .bool b => some (b == want)
   | .tup [] => some false
   | _ => none
abbrev St := (Nat → DV) × DH
def evalOps (T : Tab) (E : Orc) (ops : Array Oper) : List Oper → St → Option St
 | [], s => some s
 | o :: r, s =>
  match wantedD ops o s.1 with
  | some true => match evalOp T E o.op s.1 s.2 with
   | some (v, H) => evalOps T E ops r (put s.1 o.dst v, H)
   | none => none
  | some false => evalOps T E ops r (put s.1 o.dst undefD, s.2)
  | none => none
inductive Out where
 | norm
 | exit (id : Nat)
 | goto (l : Nat)
 | ret
 deriving DecidableEq
inductive Work where
 | code (c : Code)
 | sc (body rest : Code)
 | call (f : FuncId) (args : List DV)
def frame0 (args : List DV) : Nat → DV := fun i => args.getD i undefD
def resD (T : Tab) (σ : Nat → DV) (H : DH) : List ResultVar → Option (List DV)
 | [] => some []
 | .tmp t :: r => match resD T σ H r with | some l => some (σ t :: l) | none => none
 | .cell a t :: r => match loadD T t (σ a) H, resD T σ H r with | some v, some l => some (v :: l) | _, _ => none
def resOne : List DV → DV
 | [v] => v
 | vs => .tup vs
def pureOp (o : Op) : Bool :=
 match o with
 | .move _ | .assign _ | .pick _ _ _ | .build _ _ | .nilCheck _ | .binOp .. | .unOp .. | .slice .. | .fieldAddr .. | .field .. | .indexAddr .. | .index .. | .extract .. | .makeFunc .. => true
 | .call { callee := .builtin .max, .. } | .call { callee := .builtin .min, .. } => true
 | _ => false
def bnd (N : Nat) : Code → Bool
 | .region _ ops _ => ops.toList.all fun o => match o.dst with | some d => decide (d < N) | none => true
 | .seq a b => bnd N a && bnd N b
 | .cond _ a b => bnd N a && bnd N b
 | .block _ a => bnd N a
 | .loop a => bnd N a
 | .scope a => bnd N a
 | _ => true
def reads (ops : Array Oper) (o : Oper) : List Tmp :=
 (o.op.operands.toList.filterMap fun | .tmp t => some t | _ => none) ++
 (match o.guard with
  | some (g, _) => ((ops[g]?).bind (·.dst)).toList
  | none => [])
def isPure : Op → Bool
 | .move _ | .assign _ | .pick _ _ _ | .build _ _ | .nilCheck _ | .binOp _ _ _ _ _ | .unOp _ _ _ | .slice _ _ _ _ _ | .fieldAddr _ _ _ | .field _ _ _ | .indexAddr _ _ _ | .index _ _ _ | .extract _ _ | .makeFunc _ _ _ => true
 | .call { callee := .builtin .max, .. } | .call { callee := .builtin .min, .. } | .call { callee := .builtin .unsafeSliceData, .. } => true
 | _ => false
def isRead : Op → Bool
 | .load _ _ => true
 | .lookup _ _ _ _ => true
 | .call { callee := .builtin .len, .. } => true
 | _ => false
def edgesOf (o : Oper) : List Nat := (o.after.toList.filter (Region.binds .any)).map (·.on)
def one (T : Tab) (E : Orc) (ops : Array Oper) (o : Oper) (s : St) : Option (DV × DH) :=
 match wantedD ops o s.1 with
 | some true => evalOp T E o.op s.1 s.2
 | some false => some (undefD, s.2)
 | none => none
def loud (o : Op) : Bool := !(isPure o || isRead o)
inductive BF (ops : Array Oper) : Nat → Nat → Prop
 | edge {j : Nat} {o : Oper} {e : Edge} (h : ops[j]? = some o) (he : e ∈ o.after) (hb : Region.binds .any e = true) : BF ops e.on j
 | step {i j : Nat} {o : Oper} {e : Edge} (h : ops[j]? = some o) (he : e ∈ o.after) (hb : Region.binds .any e = true) (hi : BF ops i e.on) : BF ops i j
def mask (acc : List Nat) (es : List Nat) : Nat := es.foldl (fun s e => s ||| 2 ^ e ||| acc.getD e 0) 0
def masks (l : List Oper) : List Nat := l.foldl (fun acc o => acc ++ [mask acc (edgesOf o)]) []
def ord (m : List Nat) (i j : Nat) : Bool := (m.getD j 0).testBit i || (m.getD i 0).testBit j
def earlyOk (o : Oper) : Bool := (match o.op with | .alloc _ => true | _ => false) && o.guard.isNone && o.dst.isSome
def lookF (f : Nat) (rl : Bool) (ops : Array Oper) : Bool :=
 let l := ops.toList
 let m := masks l
 l.zipIdx.all fun (o, i) =>
  (edgesOf o).all (fun e => decide (e < i)) &&
  (i != f || earlyOk o) &&
  l.zipIdx.all fun (p, j) =>
   i == j ||
   ((match o.dst with | some d => p.dst != some d && (!(reads ops p).contains d || (ord m i j && (i != f || loud p.op))) | none => true) &&
    (isPure o.op || isPure p.op || (isRead o.op && isRead p.op) || (!rl && (isRead o.op || isRead p.op)) || (i == f && (decide (j < i) || !loud p.op)) || (i != f && j == f) || ord m i j))
def drawLook (rl : Bool) (ops : Array Oper) : Bool := lookF ops.size rl ops
def Win (f : Nat) (ops : Array Oper) (i k : Nat) : Prop := ∀ (j : Nat) (p : Oper), ops[j]? = some p → loud p.op = true → j ≠ f → (BF ops j i → j < k) ∧ (BF ops i j → k ≤ j)
def Floats (T : Tab) (E : Orc) (ops : Array Oper) (s : St) : Prop := ∃ f, lookF f false ops = true ∧
 ∀ (i : Nat) (o : Oper), ops[i]? = some o → isRead o.op = true → ∀ k, k ≤ ops.size → Win f ops i k → ∀ si v H' sk, evalOps T E ops (ops.toList.take i) s = some si → one T E ops o si = some (v, H') →
  evalOps T E ops (ops.toList.take k) s = some sk → one T E ops o (si.1, sk.2) = some (v, sk.2)
open Classical in
noncomputable def evalW (P : Program) (T : Tab) (ext : FuncId → Option (List DV → DH → Option (DV × DH))) (draw : Array Oper → Bool) : Nat → Work → St → Option (Out × St × DV)
 | 0, _, _ => none
 | n + 1, w, s =>
  let E : Orc := fun f args H => match ext f with
   | some e => e args H
   | none => match evalW P T ext draw n (.call f args) (fun _ => undefD, H) with
    | some (_, s', v) => some (v, s'.2)
    | none => none
  match w with
  | .call f args =>
   match P.funcs[f]? with
   | none => none
   | some fn => match fn.body with
    | none => none
    | some c =>
     if args.length ≤ fn.ntmps ∧ bnd fn.ntmps c = true then
      match evalW P T ext draw n (.code c) (frame0 args, s.2) with
      | some (.norm, s', _) | some (.ret, s', _) => match resD T s'.1 s'.2 fn.results.toList with
       | some vs => some (.norm, s', resOne vs)
       | none => none
      | _ => none
     else none
  | .code c =>
   match c with
   | .skip | .label _ => some (.norm, s, undefD)
   | .ret => some (.ret, s, undefD)
   | .exit id => some (.exit id, s, undefD)
   | .goto l => some (.goto l, s, undefD)
   | .seq a b => match evalW P T ext draw n (.code a) s with
    | some (.norm, s', _) => evalW P T ext draw n (.code b) s'
    | r => r
   | .cond x a b => match opd s.1 x with
    | some (.bool t) => evalW P T ext draw n (.code (if t then a else b)) s
    | _ => none
   | .block id body => match evalW P T ext draw n (.code body) s with
    | some (.exit id', s', v) => if id' = id then some (.norm, s', v) else some (.exit id', s', v)
    | r => r
   | .loop body => match evalW P T ext draw n (.code body) s with
    | some (.norm, s', _) => evalW P T ext draw n (.code (.loop body)) s'
    | r => r
   | .scope body => evalW P T ext draw n (.sc body body) s
   | .region _ ops dr =>
    if dr = true ∧ ¬ (draw ops = true ∨ Floats T E ops s) then none else
    match evalOps T E ops ops.toList s with
    | some s' => some (.norm, s', undefD)
    | none => none
   | _ => none
  | .sc body rest =>
   match evalW P T ext draw n (.code rest) s with
   | some (.goto l, s', v) => match findLabel body l with
    | some rest' => evalW P T ext draw n (.sc body rest') s'
    | none => some (.goto l, s', v)
   | r => r
end Go.Proofs.YtcknfhhbijlobaaGreatDoor.D
namespace Go.Proofs.YtcknfhhbijlobaaGreatDoor.D
open Go
set_option linter.unusedVariables false
structure Ghost where
 im : Nat → Nat → Option Value
 ρ : Nat → Option (Nat × Nat)
 place : Nat → Nat → Option (Nat × Nat × Nat)
structure Ghost.le (G G' : Ghost) : Prop where
 im : ∀ B o v, G.im B o = some v → G'.im B o = some v
 ρ : ∀ b x, G.ρ b = some x → G'.ρ b = some x
 place : ∀ b e x, G.place b e = some x → G'.place b e = some x
theorem Ghost.le.refl (G : Ghost) : G.le G := ⟨fun _ _ _ h => h, fun _ _ h => h, fun _ _ _ h => h⟩
theorem Ghost.le.trans {A B C : Ghost} (h : A.le B) (k : B.le C) : A.le C :=
 ⟨fun _ _ _ x => k.im _ _ _ (h.im _ _ _ x), fun _ _ x => k.ρ _ _ (h.ρ _ _ x), fun _ _ _ x => k.place _ _ _ (h.place _ _ _ x)⟩
inductive V (G : Ghost) : DV → Value → Prop
 | bool (b) : V G (.bool b) (.bool b)
 | int (k n) : V G (.int k n) (.int k n)
 | flt (k n) : V G (.flt k n) (.float k n)
 | str (s : List UInt8) : V G (.str s) (.string ⟨s.toArray⟩)
 | nilp : V G .nilp (.pointer none)
 | ptr {b off B s : Nat} (h : G.ρ b = some (B, s)) : V G (.ptr b off) (.pointer (some ⟨B, s + off, none⟩))
 | ip {cs : List DV} {vs : List Value} {B o : Nat} (hl : cs.length = vs.length) (hi : ∀ (i : Nat) (v : Value), vs[i]? = some v → G.im B (o + i) = some v)
   (hv : ∀ (i : Nat) (d : DV) (v : Value), cs[i]? = some d → vs[i]? = some v → V G d v) : V G (.ip cs) (.pointer (some ⟨B, o, none⟩))
 | nils : V G .nils (.slice none 0 0)
 | sl {id sz off : Nat} {es : List DV} {vs : List Value} {B o cap len : Nat} (hsz : 0 < sz) (he : ∀ e ∈ es, e.cells.length = sz) (ho : (flat es).all DV.one = true)
   (hl : (flat es).length = vs.length) (hi : ∀ (i : Nat) (v : Value), vs[i]? = some v → G.im B (o + i) = some v)
   (hv : ∀ (i : Nat) (d : DV) (v : Value), (flat es)[i]? = some d → vs[i]? = some v → V G d v) (hn : len = es.length) (hcap : len ≤ cap)
   (hp : cap = 0 ∨ id = 0 ∨ ∃ e p pc, off + len ≤ e ∧ G.place id e = some (B, p, pc) ∧ o + (e - off) * sz = p ∧ o + cap * sz ≤ pc) :
   V G (.sl id sz off es) (.slice (some ⟨B, o, none⟩) len cap)
 | hs {b sz off len B s o cap : Nat} (h : G.ρ b = some (B, s)) (hcap : len ≤ cap) (hp : cap = 0 ∨ (o = s + off ∧ ∃ p pc, G.place b 0 = some (B, p, pc) ∧ o + cap * sz ≤ pc)) : V G (.hs b sz off len) (.slice (some ⟨B, o, none⟩) len cap)
 | sd {id sz off : Nat} {es : List DV} {vs : List Value} {B o cap : Nat} (hne : es ≠ []) (hsz : 0 < sz) (he : ∀ e ∈ es, e.cells.length = sz)
   (hl : (flat es).length = vs.length) (hi : ∀ (i : Nat) (v : Value), vs[i]? = some v → G.im B (o + i) = some v)
   (hv : ∀ (i : Nat) (d : DV) (v : Value), (flat es)[i]? = some d → vs[i]? = some v → V G d v)
   (hp : id = 0 ∨ ∃ e p pc, off + es.length ≤ e ∧ G.place id e = some (B, p, pc) ∧ o + (e - off) * sz = p ∧ o + cap * sz ≤ pc) (hcap : es.length ≤ cap) :
   V G (.sd id sz off es) (.pointer (some ⟨B, o, none⟩))
 | nilm : V G .nilm (.map none)
 | mp {b B s : Nat} (h : G.ρ b = some (B, s)) : V G (.mp b) (.map (some B))
 | fn {f : Fn} {a b : List DV} {x y : List Value} (ha : a.length = x.length) (hb : b.length = y.length)
   (hx : ∀ (i : Nat) (d : DV) (v : Value), a[i]? = some d → x[i]? = some v → V G d v) (hy : ∀ (i : Nat) (d : DV) (v : Value), b[i]? = some d → y[i]? = some v → V G d v) :
   V G (.fn f a b) (.func f x.toArray y.toArray)
 | nilf : V G .nilf .nilFunc
 | nili : V G .nili .nilIface
 | ifc {t : TypeId} {v : DV} {v' : Value} (h : V G v v') : V G (.ifc t v) (.iface t v')
 | agg {cs : List DV} {vs : List Value} (hl : cs.length = vs.length) (hv : ∀ (i : Nat) (d : DV) (v : Value), cs[i]? = some d → vs[i]? = some v → V G d v) : V G (.agg cs) (.agg vs.toArray)
 | tup {cs : List DV} {vs : List Value} (hl : cs.length = vs.length) (hv : ∀ (i : Nat) (d : DV) (v : Value), cs[i]? = some d → vs[i]? = some v → V G d v) : V G (.tup cs) (.tuple vs.toArray)
theorem V.mono {G G' : Ghost} (h : G.le G') {d : DV} {v : Value} (hv : V G d v) : V G' d v := by
 induction hv with
 | bool b => exact .bool b
 | int k n => exact .int k n
 | flt k n => exact .flt k n
 | str s => exact .str s
 | nilp => exact .nilp
 | ptr h1 => exact .ptr (h.ρ _ _ h1)
 | ip hl hi _ ih => exact .ip hl (fun i v e => h.im _ _ _ (hi i v e)) ih
 | nils => exact .nils
 | sl hsz he ho hl hi _ hn hcap hp ih =>
  exact .sl hsz he ho hl (fun i v e => h.im _ _ _ (hi i v e)) ih hn hcap (hp.imp id fun x => x.imp id fun ⟨e, p, pc, a, b, c, d⟩ => ⟨e, p, pc, a, h.place _ _ _ b, c, d⟩)
 | hs h1 hcap hp => exact .hs (h.ρ _ _ h1) hcap (hp.imp id fun ⟨a, p, pc, b, c⟩ => ⟨a, p, pc, h.place _ _ _ b, c⟩)
 | sd hne hsz he hl hi _ hp hcap ih =>
  exact .sd hne hsz he hl (fun i v e => h.im _ _ _ (hi i v e)) ih (hp.imp id fun ⟨e, p, pc, a, b, c, d⟩ => ⟨e, p, pc, a, h.place _ _ _ b, c, d⟩) hcap
 | nilm => exact .nilm
 | mp h1 => exact .mp (h.ρ _ _ h1)
 | fn ha hb _ _ ih1 ih2 => exact .fn ha hb ih1 ih2
 | nilf => exact .nilf
 | nili => exact .nili
 | ifc _ ih => exact .ifc ih
 | agg hl _ ih => exact .agg hl ih
 | tup hl _ ih => exact .tup hl ih
def VL (G : Ghost) (ds : List DV) (vs : List Value) : Prop := ds.length = vs.length ∧ ∀ (i : Nat) (d : DV) (v : Value), ds[i]? = some d → vs[i]? = some v → V G d v
theorem VL.mono {G G' : Ghost} (h : G.le G') {d : List DV} {v : List Value} (hv : VL G d v) : VL G' d v := ⟨hv.1, fun i a b x y => (hv.2 i a b x y).mono h⟩
theorem VL.nil (G : Ghost) : VL G [] [] := ⟨rfl, fun i d v h => by simp at h⟩
theorem VL.cons {G : Ghost} {d : DV} {v : Value} {ds : List DV} {vs : List Value} (h : V G d v) (t : VL G ds vs) : VL G (d :: ds) (v :: vs) :=
 ⟨by simp [t.1], fun i a b x y => by
  cases i with
  | zero => simp at x y; subst x; subst y; exact h
  | succ i => simp at x y; exact t.2 i a b x y⟩
theorem VL.cons_inv {G : Ghost} {d : DV} {ds : List DV} {vs : List Value} (h : VL G (d :: ds) vs) : ∃ v vs', vs = v :: vs' ∧ V G d v ∧ VL G ds vs' := by
 cases vs with
 | nil => have := h.1; simp at this
 | cons v vs' => exact ⟨v, vs', rfl, h.2 0 d v rfl rfl, ⟨by have := h.1; simpa using this, fun i a b x y => h.2 (i + 1) a b (by simpa using x) (by simpa using y)⟩⟩
theorem VL.nil_inv {G : Ghost} {vs : List Value} (h : VL G [] vs) : vs = [] := by
 have := h.1; simp at this; exact List.eq_nil_of_length_eq_zero this.symm
theorem VL.append {G : Ghost} {a b : List DV} {x y : List Value} (h : VL G a x) (k : VL G b y) : VL G (a ++ b) (x ++ y) := by
 induction a generalizing x with
 | nil => rw [h.nil_inv]; exact k
 | cons d ds ih => obtain ⟨v, vs', rfl, h1, h2⟩ := h.cons_inv; exact .cons h1 (ih h2)
theorem VL.drop {G : Ghost} {a : List DV} {x : List Value} (h : VL G a x) (n : Nat) : VL G (a.drop n) (x.drop n) :=
 ⟨by simp [h.1], fun i d v e1 e2 => h.2 (n + i) d v (by simpa using e1) (by simpa using e2)⟩
theorem VL.take {G : Ghost} {a : List DV} {x : List Value} (h : VL G a x) (n : Nat) : VL G (a.take n) (x.take n) :=
 ⟨by simp [h.1], fun i d v e1 e2 => by
  rw [List.getElem?_take] at e1 e2
  split at e1
  ·rename_i hi; rw [if_pos hi] at e2; exact h.2 i d v e1 e2
  ·cases e1⟩
theorem VL.get {G : Ghost} {a : List DV} {x : List Value} (h : VL G a x) {i : Nat} {d : DV} (hi : a[i]? = some d) : ∃ v, x[i]? = some v ∧ V G d v := by
 have hlt : i < a.length := (List.getElem?_eq_some_iff.1 hi).1
 have hlt' : i < x.length := by rw [← h.1]; exact hlt
 exact ⟨x[i], List.getElem?_eq_getElem hlt', h.2 i d _ hi (List.getElem?_eq_getElem hlt')⟩
theorem VL.head {G : Ghost} {a : List DV} {x : List Value} (h : VL G a x) {d : DV} (hi : a.head? = some d) : ∃ v, x[0]? = some v ∧ V G d v :=
 h.get (by rw [← List.head?_eq_getElem?]; exact hi)
theorem V.cells {G : Ghost} {d : DV} {v : Value} (h : V G d v) : VL G d.cells v.cells.toList := by
 cases h with
 | agg hl hv => exact ⟨by simpa [DV.cells, Value.cells] using hl, fun i a b x y => hv i a b (by simpa [DV.cells] using x) (by simpa [Value.cells] using y)⟩
 | _ => exact .cons (by constructor <;> assumption) (.nil _)
theorem V.one {G : Ghost} {d : DV} {v : Value} (h : V G d v) (ho : d.one = true) : v.oneCell' = true := by
 cases h <;> first | rfl | simp [DV.one] at ho
theorem VL.ones {G : Ghost} {ds : List DV} {vs : List Value} (h : VL G ds vs) (ho : ds.all DV.one = true) : ∀ v ∈ vs, v.oneCell' = true := by
 induction ds generalizing vs with
 | nil => rw [h.nil_inv]; simp
 | cons d ds ih =>
  obtain ⟨v, vs', rfl, h1, h2⟩ := h.cons_inv
  simp at ho
  intro u hu
  cases hu with
  | head => exact h1.one ho.1
  | tail _ hu => exact ih h2 (by simpa using ho.2) u hu
def Born (ms : Array MapEntry) (clk : Nat) : Prop := (ms.toList.map (·.born)).Nodup ∧ ∀ e ∈ ms.toList, e.born < clk
def ownR (G : Ghost) (H : DH) (b : Nat) : Option Nat :=
 match H.m b with
 | some (.tip _ n _) => (G.place b n).map (·.1)
 | some _ => (G.ρ b).map (·.1)
 | none => none
structure Rel (G : Ghost) (H : DH) (w : World) : Prop where
 wf : ∀ b, H.next ≤ b → H.m b = none ∧ G.ρ b = none ∧ ∀ e, G.place b e = none
 im : ∀ B o v, G.im B o = some v → ∃ c T fr, w.heap[B]? = some (.cells c T fr) ∧ c[o]? = some v
 cells : ∀ b T cs, H.m b = some (.cells T cs) → ∀ B s, G.ρ b = some (B, s) →
  (∃ pre vs post T' fr, w.heap[B]? = some (.cells (pre ++ vs ++ post).toArray T' fr) ∧ pre.length = s ∧ VL G cs vs ∧ (∀ o, s ≤ o → o < s + cs.length → ¬ (fr.1 ≤ o ∧ o < fr.2)) ∧ post = [] ∧ pre = [] ∧ T' = T) ∧ ∀ o, G.im B o = none
 rows : ∀ b T cs, H.m b = some (.row T cs) → ∀ B s, G.ρ b = some (B, s) →
  (∃ p pc c fr vs, G.place b 0 = some (B, p, pc) ∧ w.heap[B]? = some (.cells c T fr) ∧ s + cs.length ≤ pc ∧ pc ≤ c.size ∧ VL G cs vs ∧ (∀ (i : Nat) (v : Value), vs[i]? = some v → c[s + i]? = some v) ∧ (∀ o, s ≤ o → o < pc → ¬ (fr.1 ≤ o ∧ o < fr.2))) ∧ ∀ o, G.im B o = none
 tips : ∀ b T n cl, H.m b = some (.tip T n cl) → (∀ e, G.place b e ≠ none → e ≤ n) ∧ ∀ B p pc, G.place b n = some (B, p, pc) →
  (∃ c T' fr, w.heap[B]? = some (.cells c T' fr) ∧ pc ≤ c.size ∧ p ≤ pc ∧ (∀ o, p ≤ o → o < pc → ¬ (fr.1 ≤ o ∧ o < fr.2)) ∧ T' = T ∧ (cl = true → fr.2 ≤ p)) ∧ ∀ o, p ≤ o → G.im B o = none
 iters : ∀ b s pos, H.m b = some (.iter s pos) → ∀ B x, G.ρ b = some (B, x) → x = 0 ∧ w.heap[B]? = some (.stringIter ⟨s.toArray⟩ pos) ∧ ∀ o, G.im B o = none
 maps : ∀ b es, H.m b = some (.map es) → ∀ B x, G.ρ b = some (B, x) → x = 0 ∧ (∃ ms clk, w.heap[B]? = some (.map ms clk) ∧ VL G (es.map (·.1)) (ms.toList.map (·.key)) ∧ VL G (es.map (·.2)) (ms.toList.map (·.val)) ∧ Born ms clk) ∧ ∀ o, G.im B o = none
 inj : ∀ b b' B, ownR G H b = some B → ownR G H b' = some B → b = b'
 z : 0 < H.next ∧ H.m 0 = none
theorem Rel.own_lt {G : Ghost} {H : DH} {w : World} (r : Rel G H w) {b B : Nat} (h : ownR G H b = some B) : B < w.heap.size := by
 have lt : ∀ {o : Obj}, w.heap[B]? = some o → B < w.heap.size := fun h => (Array.getElem?_eq_some_iff.1 h).1
 unfold ownR at h
 cases hm : H.m b with
 | none => simp [hm] at h
 | some o =>
  cases o with
  | cells T cs =>
   simp only [hm, Option.map_eq_some_iff] at h
   obtain ⟨⟨B', s⟩, hp, rfl⟩ := h
   obtain ⟨⟨_, _, _, _, _, h, _⟩, _⟩ := r.cells b T cs hm _ _ hp
   exact lt h
  | row T cs =>
   simp only [hm, Option.map_eq_some_iff] at h
   obtain ⟨⟨B', s⟩, hp, rfl⟩ := h
   obtain ⟨⟨_, _, _, _, _, _, h, _⟩, _⟩ := r.rows b T cs hm _ _ hp
   exact lt h
  | tip T n cl =>
   simp only [hm, Option.map_eq_some_iff] at h
   obtain ⟨⟨B', p, pc⟩, hp, rfl⟩ := h
   obtain ⟨⟨_, _, _, h, _⟩, _⟩ := (r.tips b T n cl hm).2 _ _ _ hp
   exact lt h
  | iter s pos =>
   simp only [hm, Option.map_eq_some_iff] at h
   obtain ⟨⟨B', s'⟩, hp, rfl⟩ := h
   exact lt (r.iters b s pos hm _ _ hp).2.1
  | map es =>
   simp only [hm, Option.map_eq_some_iff] at h
   obtain ⟨⟨B', s'⟩, hp, rfl⟩ := h
   obtain ⟨_, ⟨ms, clk, h, _⟩, _⟩ := r.maps b es hm _ _ hp
   exact lt h
theorem Rel.heap {G : Ghost} {H : DH} {w w' : World} (r : Rel G H w) (h : ∀ B, B < w.heap.size → w'.heap[B]? = w.heap[B]?) : Rel G H w' := by
 have k : ∀ {B : Nat} {o : Obj}, w.heap[B]? = some o → w'.heap[B]? = some o := fun e => (h _ (Array.getElem?_eq_some_iff.1 e).1).trans e
 refine ⟨r.wf, ?_, ?_, ?_, ?_, ?_, ?_, r.inj, r.z⟩
 ·intro B o v e
  obtain ⟨c, T, fr, h1, h2⟩ := r.im B o v e
  exact ⟨c, T, fr, k h1, h2⟩
 ·intro b T cs hm B s hp
  obtain ⟨⟨pre, vs, post, T', fr, h1, h2⟩, h3⟩ := r.cells b T cs hm B s hp
  exact ⟨⟨pre, vs, post, T', fr, k h1, h2⟩, h3⟩
 ·intro b T cs hm B s hp
  obtain ⟨⟨p, pc, c, fr, vs, h0, h1, h2⟩, h3⟩ := r.rows b T cs hm B s hp
  exact ⟨⟨p, pc, c, fr, vs, h0, k h1, h2⟩, h3⟩
 ·intro b T n cl hm
  obtain ⟨h0, h9⟩ := r.tips b T n cl hm
  refine ⟨h0, fun B p pc hp => ?_⟩
  obtain ⟨⟨c, T', fr, h1, h2⟩, h3⟩ := h9 B p pc hp
  exact ⟨⟨c, T', fr, k h1, h2⟩, h3⟩
 ·intro b s pos hm B x hp
  obtain ⟨h1, h2, h3⟩ := r.iters b s pos hm B x hp
  exact ⟨h1, k h2, h3⟩
 ·intro b es hm B x hp
  obtain ⟨h1, ⟨ms, clk, h2, h3⟩, h4⟩ := r.maps b es hm B x hp
  exact ⟨h1, ⟨ms, clk, k h2, h3⟩, h4⟩
structure Step (G : Ghost) (H : DH) (w : World) (G' : Ghost) (H' : DH) (w' : World) : Prop where
 le : G.le G'
 rel : Rel G' H' w'
 os : w'.os = w.os
 tape : w'.tape = w.tape
 output : w'.output = w.output
 size : w.heap.size ≤ w'.heap.size
 blk : ∀ B, B < w.heap.size → (∀ b, ownR G H b ≠ some B) → w'.heap[B]? = w.heap[B]?
 own : ∀ b B, ownR G' H' b = some B → (∃ b', ownR G H b' = some B) ∨ w.heap.size ≤ B
 imf : ∀ B, B < w.heap.size → (∀ b, ownR G H b ≠ some B) → ∀ o, G'.im B o = G.im B o
theorem Step.refl {G : Ghost} {H : DH} {w : World} (r : Rel G H w) : Step G H w G H w :=
 ⟨.refl G, r, rfl, rfl, rfl, Nat.le_refl _, fun _ _ _ => rfl, fun b B h => .inl ⟨b, h⟩, fun _ _ _ _ => rfl⟩
theorem Step.trans {G1 G2 G3 : Ghost} {H1 H2 H3 : DH} {w1 w2 w3 : World} (a : Step G1 H1 w1 G2 H2 w2) (b : Step G2 H2 w2 G3 H3 w3) : Step G1 H1 w1 G3 H3 w3 := by
 refine ⟨a.le.trans b.le, b.rel, b.os.trans a.os, b.tape.trans a.tape, b.output.trans a.output, Nat.le_trans a.size b.size, ?_, ?_, ?_⟩
 ·intro B hB hn
  refine (b.blk B (Nat.lt_of_lt_of_le hB a.size) fun x hx => ?_).trans (a.blk B hB hn)
  rcases a.own x B hx with ⟨b', h⟩ | h
  ·exact hn b' h
  ·omega
 ·intro x B hx
  rcases b.own x B hx with ⟨b', h⟩ | h
  ·exact a.own b' B h
  ·right; have := a.size; omega
 ·intro B hB hn q
  refine (b.imf B (Nat.lt_of_lt_of_le hB a.size) (fun x hx => ?_) q).trans (a.imf B hB hn q)
  rcases a.own x B hx with ⟨b', h⟩ | h
  ·exact hn b' h
  ·omega
theorem Step.of_heap {G : Ghost} {H : DH} {w w' : World} (r : Rel G H w) (hs : w.heap.size ≤ w'.heap.size) (h : ∀ B, B < w.heap.size → w'.heap[B]? = w.heap[B]?)
  (os : w'.os = w.os) (tape : w'.tape = w.tape) (output : w'.output = w.output) : Step G H w G H w' :=
 ⟨.refl G, r.heap h, os, tape, output, hs, fun B hB _ => h B hB, fun b B hb => .inl ⟨b, hb⟩, fun _ _ _ _ => rfl⟩
theorem Step.drew {G : Ghost} {H : DH} {w : World} (r : Rel G H w) : Step G H w G H w.drew := .of_heap r (Nat.le_refl _) (fun _ _ => rfl) rfl rfl rfl
theorem Step.alloc {G : Ghost} {H : DH} {w : World} (r : Rel G H w) (o : Obj) : Step G H w G H (w.alloc o) :=
 .of_heap r (by simp) (fun B hB => heap_alloc_old w o B hB) rfl rfl rfl
theorem Step.newBlock {G : Ghost} {H : DH} {w : World} (r : Rel G H w) (o : Obj) (d : DObj) (x : Nat)
  (hd : ∀ T n cl, d ≠ .tip T n cl) (hd2 : ∀ T cs, d ≠ .row T cs)
  (hcells : ∀ T cs, d = .cells T cs → ∃ pre vs post T' fr, o = .cells (pre ++ vs ++ post).toArray T' fr ∧ pre.length = x ∧ VL G cs vs ∧ (∀ o, x ≤ o → o < x + cs.length → ¬ (fr.1 ≤ o ∧ o < fr.2)) ∧ post = [] ∧ pre = [] ∧ T' = T)
  (hiter : ∀ s pos, d = .iter s pos → x = 0 ∧ o = .stringIter ⟨s.toArray⟩ pos)
  (hmap : ∀ es, d = .map es → x = 0 ∧ ∃ ms clk, o = .map ms clk ∧ VL G (es.map (·.1)) (ms.toList.map (·.key)) ∧ VL G (es.map (·.2)) (ms.toList.map (·.val)) ∧ Born ms clk) :
  Step G H w { G with ρ := fun b => if b = H.next then some (w.heap.size, x) else G.ρ b } (H.new d) (w.alloc o) ∧
   ({ G with ρ := fun b => if b = H.next then some (w.heap.size, x) else G.ρ b } : Ghost).ρ H.next = some (w.heap.size, x) := by
 refine ⟨?_, by simp⟩
 have hle : G.le { G with ρ := fun b => if b = H.next then some (w.heap.size, x) else G.ρ b } := by
  refine ⟨fun _ _ _ h => h, fun b y h => ?_, fun _ _ _ h => h⟩
  show (if b = H.next then some (w.heap.size, x) else G.ρ b) = some y
  rw [if_neg]
  ·exact h
  ·intro e; subst e; rw [(r.wf H.next (Nat.le_refl _)).2.1] at h; cases h
 have hnew : (w.alloc o).heap[w.heap.size]? = some o := heap_alloc_new w o
 have hold : ∀ B, B < w.heap.size → (w.alloc o).heap[B]? = w.heap[B]? := fun B hB => heap_alloc_old w o B hB
 have kk : ∀ {B : Nat} {o' : Obj}, w.heap[B]? = some o' → (w.alloc o).heap[B]? = some o' := fun e => (hold _ (Array.getElem?_eq_some_iff.1 e).1).trans e
 have himnone : ∀ q, G.im w.heap.size q = none := by
  intro q
  cases hq : G.im w.heap.size q with
  | none => rfl
  | some v =>
   obtain ⟨c, T, fr, h1, _⟩ := r.im _ _ _ hq
   have := (Array.getElem?_eq_some_iff.1 h1).1
   omega
 have hownNew : ∀ b, b ≠ H.next → ownR { G with ρ := fun b => if b = H.next then some (w.heap.size, x) else G.ρ b } (H.new d) b = ownR G H b := by
  intro b hb
  simp [ownR, DH.new, hb]
 have hownAt : ownR { G with ρ := fun b => if b = H.next then some (w.heap.size, x) else G.ρ b } (H.new d) H.next = some w.heap.size := by
  cases d <;> simp [ownR, DH.new]
  exact absurd rfl (hd _ _ _)
 refine ⟨hle, ⟨?_, ?_, ?_, ?_, ?_, ?_, ?_, ?_, by have := r.z; refine ⟨Nat.succ_pos _, ?_⟩; show (if 0 = H.next then _ else _) = _; rw [if_neg (by omega)]; exact this.2⟩, rfl, rfl, rfl, by simp, fun B hB _ => hold B hB, ?_, fun _ _ _ _ => rfl⟩
 ·intro b hb
  have hb' : H.next + 1 ≤ b := hb
  have := r.wf b (by omega)
  have hne : b ≠ H.next := by omega
  simpa [DH.new, hne] using this
 ·intro B q v h
  obtain ⟨c, T, fr, h1, h2⟩ := r.im B q v h
  exact ⟨c, T, fr, kk h1, h2⟩
 ·intro b T cs hm B s hp
  by_cases hb : b = H.next
  ·subst hb
   simp [DH.new] at hm
   simp at hp
   obtain ⟨rfl, rfl⟩ := hp
   obtain ⟨pre, vs, post, T', fr, rfl, h1, h2, h3⟩ := hcells T cs hm
   exact ⟨⟨pre, vs, post, T', fr, hnew, h1, h2.mono hle, h3⟩, himnone⟩
  ·simp [DH.new, hb] at hm hp
   obtain ⟨⟨pre, vs, post, T', fr, h1, h2, h3, h4⟩, h5⟩ := r.cells b T cs hm B s hp
   exact ⟨⟨pre, vs, post, T', fr, kk h1, h2, h3.mono hle, h4⟩, h5⟩
 ·intro b T cs hm B s hp
  by_cases hb : b = H.next
  ·subst hb
   simp [DH.new] at hm
   exact absurd hm (hd2 T cs)
  ·simp [DH.new, hb] at hm hp
   obtain ⟨⟨p, pc, c, fr, vs, h0, h1, h2, h3, h4, h5⟩, h6⟩ := r.rows b T cs hm B s hp
   exact ⟨⟨p, pc, c, fr, vs, h0, kk h1, h2, h3, h4.mono hle, h5⟩, h6⟩
 ·intro b T n cl hm
  by_cases hb : b = H.next
  ·subst hb
   simp [DH.new] at hm
   exact absurd hm (hd T n cl)
  ·simp [DH.new, hb] at hm
   obtain ⟨h0, h9⟩ := r.tips b T n cl hm
   refine ⟨h0, fun B p pc hp => ?_⟩
   obtain ⟨⟨c, T', fr, h1, h2⟩, h3⟩ := h9 B p pc hp
   exact ⟨⟨c, T', fr, kk h1, h2⟩, h3⟩
 ·intro b s pos hm B y hp
  by_cases hb : b = H.next
  ·subst hb
   simp [DH.new] at hm
   simp at hp
   obtain ⟨rfl, rfl⟩ := hp
   obtain ⟨h1, rfl⟩ := hiter s pos hm
   exact ⟨h1, hnew, himnone⟩
  ·simp [DH.new, hb] at hm hp
   obtain ⟨h1, h2, h3⟩ := r.iters b s pos hm B y hp
   exact ⟨h1, kk h2, h3⟩
 ·intro b es hm B y hp
  by_cases hb : b = H.next
  ·subst hb
   simp [DH.new] at hm
   simp at hp
   obtain ⟨rfl, rfl⟩ := hp
   obtain ⟨h1, ms, clk, rfl, h2, h3⟩ := hmap es hm
   exact ⟨h1, ⟨ms, clk, hnew, h2.mono hle, h3.1.mono hle, h3.2⟩, himnone⟩
  ·simp [DH.new, hb] at hm hp
   obtain ⟨h1, ⟨ms, clk, h2, h3, h3', hbn⟩, h4⟩ := r.maps b es hm B y hp
   exact ⟨h1, ⟨ms, clk, kk h2, h3.mono hle, h3'.mono hle, hbn⟩, h4⟩
 ·intro b b' B h h'
  by_cases hb : b = H.next
  ·subst hb
   rw [hownAt] at h
   obtain rfl := Option.some.inj h
   by_cases hb' : b' = H.next
   ·exact hb'.symm
   ·rw [hownNew b' hb'] at h'
    have := r.own_lt h'
    omega
  ·rw [hownNew b hb] at h
   by_cases hb' : b' = H.next
   ·subst hb'
    rw [hownAt] at h'
    obtain rfl := Option.some.inj h'
    have := r.own_lt h
    omega
   ·rw [hownNew b' hb'] at h'
    exact r.inj b b' B h h'
 ·intro b B h
  by_cases hb : b = H.next
  ·subst hb
   rw [hownAt] at h
   obtain rfl := Option.some.inj h
   exact .inr (Nat.le_refl _)
  ·rw [hownNew b hb] at h
   exact .inl ⟨b, h⟩
end Go.Proofs.YtcknfhhbijlobaaGreatDoor.D
namespace Go.Proofs.YtcknfhhbijlobaaGreatDoor.D
open Go
set_option linter.unusedVariables false
theorem flat_append (a b : List DV) : flat (a ++ b) = flat a ++ flat b := by
 induction a with
 | nil => rfl
 | cons x a ih => simp [flat, ih]
theorem flat_length {sz : Nat} {es : List DV} (h : ∀ e ∈ es, e.cells.length = sz) : (flat es).length = es.length * sz := by
 induction es with
 | nil => simp [flat]
 | cons e es ih =>
  simp only [flat, List.length_append, List.length_cons]
  rw [h e (by simp), ih fun x hx => h x (by simp [hx]), Nat.add_mul]
  omega
theorem Rel.imCell {G : Ghost} {H : DH} {w : World} (r : Rel G H w) {B o : Nat} {v : Value} (h : G.im B o = some v) : w.cell? ⟨B, o, none⟩ = some v := by
 obtain ⟨c, T, fr, h1, h2⟩ := r.im B o v h
 simp [World.cell?, h1, h2]
theorem Rel.im_lt {G : Ghost} {H : DH} {w : World} (r : Rel G H w) {B o : Nat} {v : Value} (h : G.im B o = some v) : B < w.heap.size := by
 obtain ⟨c, T, fr, h1, h2⟩ := r.im B o v h
 exact (Array.getElem?_eq_some_iff.1 h1).1
theorem Step.newSlice {G : Ghost} {H : DH} {w : World} (r : Rel G H w) {sz : Nat} {es : List DV} {vs post : List Value} {cap : Nat} {T' : TypeId} {cl : Bool} {fr : Nat × Nat}
  (hsz : 0 < sz) (he : ∀ e ∈ es, e.cells.length = sz) (hone : (flat es).all DV.one = true) (hv : VL G (flat es) vs) (hc : (vs ++ post).length = cap * sz) (hfr : ∀ o, vs.length ≤ o → o < cap * sz → ¬ (fr.1 ≤ o ∧ o < fr.2)) (hcl : cl = true → fr.2 ≤ vs.length) :
  ∃ G', Step G H w G' (newSl H T' cl sz es).2 (w.alloc (.cells (vs ++ post).toArray T' fr)) ∧ V G' (newSl H T' cl sz es).1 (.slice (some ⟨w.heap.size, 0, none⟩) es.length cap) := by
 have hlen : vs.length = es.length * sz := by rw [← hv.1, flat_length he]
 have hncap : es.length ≤ cap := by
  have : es.length * sz ≤ cap * sz := by rw [← hlen, ← hc]; simp
  exact Nat.le_of_mul_le_mul_right this hsz
 generalize ho : (Obj.cells (vs ++ post).toArray T' fr) = o
 have hnew : (w.alloc o).heap[w.heap.size]? = some o := heap_alloc_new w o
 have hold : ∀ B, B < w.heap.size → (w.alloc o).heap[B]? = w.heap[B]? := fun B hB => heap_alloc_old w o B hB
 have kk : ∀ {B : Nat} {o' : Obj}, w.heap[B]? = some o' → (w.alloc o).heap[B]? = some o' := fun e => (hold _ (Array.getElem?_eq_some_iff.1 e).1).trans e
 have hnx := r.wf H.next (Nat.le_refl _)
 let G' : Ghost := { im := fun B o => if B = w.heap.size then vs[o]? else G.im B o, ρ := G.ρ, place := fun b e => if b = H.next ∧ e = es.length then some (w.heap.size, vs.length, cap * sz) else G.place b e }
 have hle : G.le G' := by
  refine ⟨fun B q v h => ?_, fun _ _ h => h, fun b e x h => ?_⟩
  ·show (if B = w.heap.size then vs[q]? else G.im B q) = some v
   rw [if_neg (by have := r.im_lt h; omega)]; exact h
  ·show (if b = H.next ∧ e = es.length then _ else G.place b e) = some x
   rw [if_neg]
   ·exact h
   ·rintro ⟨rfl, _⟩; rw [hnx.2.2 e] at h; cases h
 have himold : ∀ B, B < w.heap.size → ∀ q, G'.im B q = G.im B q := fun B hB q => if_neg (by omega)
 have hownNew : ∀ b, b ≠ H.next → ownR G' (H.new (.tip T' es.length cl)) b = ownR G H b := by
  intro b hb
  simp [ownR, DH.new, hb, G']
 have hownAt : ownR G' (H.new (.tip T' es.length cl)) H.next = some w.heap.size := by simp [ownR, DH.new, G']
 refine ⟨G', ⟨hle, ⟨?_, ?_, ?_, ?_, ?_, ?_, ?_, ?_, by have := r.z; refine ⟨Nat.succ_pos _, ?_⟩; show (if 0 = H.next then _ else _) = _; rw [if_neg (by omega)]; exact this.2⟩, rfl, rfl, rfl, by simp, fun B hB _ => hold B hB, ?_, fun B hB _ q => himold B hB q⟩, ?_⟩
 ·intro b hb
  have hb' : H.next + 1 ≤ b := hb
  have := r.wf b (by omega)
  have hne : b ≠ H.next := by omega
  simpa [newSl, DH.new, hne, G'] using this
 ·intro B q v h
  by_cases hB : B = w.heap.size
  ·subst hB
   have hq : vs[q]? = some v := by simpa [G'] using h
   refine ⟨_, T', fr, by rw [hnew, ← ho], ?_⟩
   simp only [List.getElem?_toArray]
   rw [List.getElem?_append_left (List.getElem?_eq_some_iff.1 hq).1]
   exact hq
  ·have h' : G.im B q = some v := by simpa [G', hB] using h
   obtain ⟨c, T, fr, h1, h2⟩ := r.im B q v h'
   exact ⟨c, T, fr, kk h1, h2⟩
 ·intro b T cs hm B s hp
  by_cases hb : b = H.next
  ·subst hb; simp [newSl, DH.new] at hm
  ·simp [newSl, DH.new, hb] at hm
   have hp' : G.ρ b = some (B, s) := hp
   obtain ⟨⟨pre, vs', post', T'', fr', h1, h2, h3, h4⟩, h5⟩ := r.cells b T cs hm B s hp'
   exact ⟨⟨pre, vs', post', T'', fr', kk h1, h2, h3.mono hle, h4⟩, fun q => by rw [himold B (Array.getElem?_eq_some_iff.1 h1).1]; exact h5 q⟩
 ·intro b T cs hm B s hp
  by_cases hb : b = H.next
  ·subst hb; simp [newSl, DH.new] at hm
  ·simp [newSl, DH.new, hb] at hm
   have hp' : G.ρ b = some (B, s) := hp
   obtain ⟨⟨p, pc, c, fr, vs', h0, h1, h2, h3, h4, h5⟩, h6⟩ := r.rows b T cs hm B s hp'
   exact ⟨⟨p, pc, c, fr, vs', by simpa [G', hb] using h0, kk h1, h2, h3, h4.mono hle, h5⟩, fun q => by rw [himold B (Array.getElem?_eq_some_iff.1 h1).1]; exact h6 q⟩
 ·intro b T n cl' hm
  by_cases hb : b = H.next
  ·subst hb
   simp [newSl, DH.new] at hm
   obtain ⟨rfl, rfl, rfl⟩ := hm
   refine ⟨fun e h => ?_, fun B p pc hp => ?_⟩
   ·by_cases he' : e = es.length
    ·omega
    ·exfalso; apply h; simp [G', he', hnx.2.2 e]
   ·have hp' : w.heap.size = B ∧ vs.length = p ∧ cap * sz = pc := by simpa [G'] using hp
    obtain ⟨rfl, rfl, rfl⟩ := hp'
    refine ⟨⟨_, T', fr, by rw [hnew, ← ho], by simp [← hc], by rw [← hc]; simp, hfr, rfl, hcl⟩, fun q hq => ?_⟩
    show (if w.heap.size = w.heap.size then vs[q]? else _) = none
    rw [if_pos rfl]
    exact List.getElem?_eq_none hq
  ·simp [newSl, DH.new, hb] at hm
   obtain ⟨h0, h9⟩ := r.tips b T n cl' hm
   refine ⟨fun e h => h0 e (by simpa [G', hb] using h), fun B p pc hp => ?_⟩
   have hp' : G.place b n = some (B, p, pc) := by simpa [G', hb] using hp
   obtain ⟨⟨c, T', fr, h1, h2⟩, h3⟩ := h9 B p pc hp'
   exact ⟨⟨c, T', fr, kk h1, h2⟩, fun q hq => by rw [himold B (Array.getElem?_eq_some_iff.1 h1).1]; exact h3 q hq⟩
 ·intro b s pos hm B y hp
  by_cases hb : b = H.next
  ·subst hb; simp [newSl, DH.new] at hm
  ·simp [newSl, DH.new, hb] at hm
   obtain ⟨h1, h2, h3⟩ := r.iters b s pos hm B y hp
   exact ⟨h1, kk h2, fun q => by rw [himold B (Array.getElem?_eq_some_iff.1 h2).1]; exact h3 q⟩
 ·intro b es' hm B y hp
  by_cases hb : b = H.next
  ·subst hb; simp [newSl, DH.new] at hm
  ·simp [newSl, DH.new, hb] at hm
   obtain ⟨h1, ⟨ms, clk, h2, h3, h3', hbn⟩, h4⟩ := r.maps b es' hm B y hp
   exact ⟨h1, ⟨ms, clk, kk h2, h3.mono hle, h3'.mono hle, hbn⟩, fun q => by rw [himold B (Array.getElem?_eq_some_iff.1 h2).1]; exact h4 q⟩
 ·intro b b' B h h'
  simp only [newSl] at h h'
  by_cases hb : b = H.next
  ·subst hb
   rw [hownAt] at h
   obtain rfl := Option.some.inj h
   by_cases hb' : b' = H.next
   ·exact hb'.symm
   ·rw [hownNew b' hb'] at h'
    have := r.own_lt h'
    omega
  ·rw [hownNew b hb] at h
   by_cases hb' : b' = H.next
   ·subst hb'
    rw [hownAt] at h'
    obtain rfl := Option.some.inj h'
    have := r.own_lt h
    omega
   ·rw [hownNew b' hb'] at h'
    exact r.inj b b' B h h'
 ·intro b B h
  simp only [newSl] at h
  by_cases hb : b = H.next
  ·subst hb
   rw [hownAt] at h
   obtain rfl := Option.some.inj h
   exact .inr (Nat.le_refl _)
  ·rw [hownNew b hb] at h
   exact .inl ⟨b, h⟩
 ·refine V.sl (vs := vs) (B := w.heap.size) (o := 0) hsz he hone hv.1 (fun i v h => ?_) (fun i d v a b => (hv.2 i d v a b).mono hle) rfl hncap (.inr (.inr ⟨es.length, vs.length, cap * sz, by omega, ?_, ?_, by omega⟩))
  ·show (if w.heap.size = w.heap.size then vs[0 + i]? else _) = some v
   rw [if_pos rfl, Nat.zero_add]; exact h
  ·show (if _ then _ else _) = _
   rw [if_pos ⟨rfl, rfl⟩]
  ·rw [hlen]; simp
def putBlk (w : World) (B : Nat) (o : Obj) : World := { w with heap := w.heap.setIfInBounds B o }
theorem putBlk_at {w : World} {B : Nat} {o o' : Obj} (h : w.heap[B]? = some o') : (putBlk w B o).heap[B]? = some o := by
 have := (Array.getElem?_eq_some_iff.1 h).1
 simp [putBlk, this]
theorem putBlk_ne {w : World} {B B' : Nat} {o : Obj} (h : B' ≠ B) : (putBlk w B o).heap[B']? = w.heap[B']? := by
 simp [putBlk, Array.getElem?_setIfInBounds_ne (Ne.symm h)]
theorem Step.setBlk {G : Ghost} {H : DH} {w : World} (r : Rel G H w) (b0 B0 : Nat) (o : Obj) (d : DObj) (hown : ownR G H b0 = some B0) (hnt : ∀ T n cl, H.m b0 ≠ some (.tip T n cl)) (hd : ∀ T n cl, d ≠ .tip T n cl)
  (hcells : ∀ T cs, d = .cells T cs → ∀ s, G.ρ b0 = some (B0, s) → ∃ pre vs post T' fr, o = .cells (pre ++ vs ++ post).toArray T' fr ∧ pre.length = s ∧ VL G cs vs ∧ (∀ o, s ≤ o → o < s + cs.length → ¬ (fr.1 ≤ o ∧ o < fr.2)) ∧ post = [] ∧ pre = [] ∧ T' = T)
  (hrow : ∀ T cs, d = .row T cs → ∃ p pc c fr vs s, G.ρ b0 = some (B0, s) ∧ G.place b0 0 = some (B0, p, pc) ∧ o = .cells c T fr ∧ s + cs.length ≤ pc ∧ pc ≤ c.size ∧ VL G cs vs ∧ (∀ (i : Nat) (v : Value), vs[i]? = some v → c[s + i]? = some v) ∧ (∀ o, s ≤ o → o < pc → ¬ (fr.1 ≤ o ∧ o < fr.2)))
  (hiter : ∀ s pos, d = .iter s pos → ∀ x, G.ρ b0 = some (B0, x) → x = 0 ∧ o = .stringIter ⟨s.toArray⟩ pos)
  (hmap : ∀ es, d = .map es → ∀ x, G.ρ b0 = some (B0, x) → x = 0 ∧ ∃ ms clk, o = .map ms clk ∧ VL G (es.map (·.1)) (ms.toList.map (·.key)) ∧ VL G (es.map (·.2)) (ms.toList.map (·.val)) ∧ Born ms clk) :
  Step G H w G (H.set b0 d) (putBlk w B0 o) := by
 have hlt := r.own_lt hown
 obtain ⟨o', ho'⟩ : ∃ o', w.heap[B0]? = some o' := ⟨_, Array.getElem?_eq_getElem hlt⟩
 have hat : (putBlk w B0 o).heap[B0]? = some o := putBlk_at ho'
 have hρ : ∃ s0, G.ρ b0 = some (B0, s0) ∧ ∀ q, G.im B0 q = none := by
  unfold ownR at hown
  cases hm : H.m b0 with
  | none => simp [hm] at hown
  | some ob =>
   cases ob with
   | tip T n cl => exact absurd hm (hnt T n cl)
   | cells T cs =>
    simp only [hm, Option.map_eq_some_iff] at hown
    obtain ⟨⟨B', s⟩, hp, rfl⟩ := hown
    exact ⟨s, hp, (r.cells b0 T cs hm _ _ hp).2⟩
   | row T cs =>
    simp only [hm, Option.map_eq_some_iff] at hown
    obtain ⟨⟨B', s⟩, hp, rfl⟩ := hown
    exact ⟨s, hp, (r.rows b0 T cs hm _ _ hp).2⟩
   | iter s pos =>
    simp only [hm, Option.map_eq_some_iff] at hown
    obtain ⟨⟨B', s'⟩, hp, rfl⟩ := hown
    exact ⟨s', hp, (r.iters b0 s pos hm _ _ hp).2.2⟩
   | map es =>
    simp only [hm, Option.map_eq_some_iff] at hown
    obtain ⟨⟨B', s'⟩, hp, rfl⟩ := hown
    exact ⟨s', hp, (r.maps b0 es hm _ _ hp).2.2⟩
 obtain ⟨s0, hp0, him0⟩ := hρ
 have hownEq : ∀ b, ownR G (H.set b0 d) b = ownR G H b := by
  intro b
  by_cases hb : b = b0
  ·subst hb
   rw [hown]
   cases d <;> simp [ownR, DH.set, hp0]
   exact absurd rfl (hd _ _ _)
  ·simp [ownR, DH.set, hb]
 have hne : ∀ b B, b ≠ b0 → ownR G H b = some B → B ≠ B0 := fun b B hb h e => hb (r.inj b b0 B0 (e ▸ h) hown)
 refine ⟨.refl G, ⟨?_, ?_, ?_, ?_, ?_, ?_, ?_, ?_, ⟨r.z.1, by show (if 0 = b0 then _ else _) = _; rw [if_neg]; exact r.z.2; rintro rfl; simp [ownR, r.z.2] at hown⟩⟩, rfl, rfl, rfl, by simp [putBlk], fun B hB hn => putBlk_ne fun e => hn b0 (e ▸ hown), fun b B h => .inl ⟨b, by rwa [hownEq] at h⟩, fun _ _ _ _ => rfl⟩
 ·intro b hb
  have hb' : H.next ≤ b := hb
  have := r.wf b hb'
  have hne : b ≠ b0 := by rintro rfl; rw [this.2.1] at hp0; cases hp0
  simpa [DH.set, hne] using this
 ·intro B q v h
  have hB : B ≠ B0 := by rintro rfl; rw [him0 q] at h; cases h
  obtain ⟨c, T, fr, h1, h2⟩ := r.im B q v h
  exact ⟨c, T, fr, by rw [putBlk_ne hB]; exact h1, h2⟩
 ·intro b T cs hm B s hp
  by_cases hb : b = b0
  ·subst hb
   simp [DH.set] at hm
   rw [hp0] at hp
   obtain ⟨rfl, rfl⟩ : B0 = B ∧ s0 = s := by simpa using hp
   obtain ⟨pre, vs, post, T', fr, rfl, h1, h2, h3⟩ := hcells T cs hm s0 hp0
   exact ⟨⟨pre, vs, post, T', fr, hat, h1, h2, h3⟩, him0⟩
  ·simp [DH.set, hb] at hm
   obtain ⟨⟨pre, vs, post, T', fr, h1, h2⟩, h3⟩ := r.cells b T cs hm B s hp
   exact ⟨⟨pre, vs, post, T', fr, by rw [putBlk_ne (hne b B hb (by simp [ownR, hm, hp]))]; exact h1, h2⟩, h3⟩
 ·intro b T cs hm B s hp
  by_cases hb : b = b0
  ·subst hb
   simp [DH.set] at hm
   rw [hp0] at hp
   obtain ⟨rfl, rfl⟩ : B0 = B ∧ s0 = s := by simpa using hp
   obtain ⟨p, pc, c, fr, vs, s', g0, g1, rfl, g2⟩ := hrow T cs hm
   rw [hp0] at g0
   obtain rfl : s0 = s' := by simpa using g0
   exact ⟨⟨p, pc, c, fr, vs, g1, hat, g2⟩, him0⟩
  ·simp [DH.set, hb] at hm
   obtain ⟨⟨p, pc, c, fr, vs, h0, h1, h2⟩, h3⟩ := r.rows b T cs hm B s hp
   exact ⟨⟨p, pc, c, fr, vs, h0, by rw [putBlk_ne (hne b B hb (by simp [ownR, hm, hp]))]; exact h1, h2⟩, h3⟩
 ·intro b T n cl hm
  by_cases hb : b = b0
  ·subst hb
   simp [DH.set] at hm
   exact absurd hm (hd T n cl)
  ·simp [DH.set, hb] at hm
   obtain ⟨h0, h9⟩ := r.tips b T n cl hm
   refine ⟨h0, fun B p pc hp => ?_⟩
   obtain ⟨⟨c, T', fr, h1, h2⟩, h3⟩ := h9 B p pc hp
   exact ⟨⟨c, T', fr, by rw [putBlk_ne (hne b B hb (by simp [ownR, hm, hp]))]; exact h1, h2⟩, h3⟩
 ·intro b s pos hm B x hp
  by_cases hb : b = b0
  ·subst hb
   simp [DH.set] at hm
   rw [hp0] at hp
   obtain ⟨rfl, rfl⟩ : B0 = B ∧ s0 = x := by simpa using hp
   obtain ⟨h1, rfl⟩ := hiter s pos hm s0 hp0
   exact ⟨h1, hat, him0⟩
  ·simp [DH.set, hb] at hm
   obtain ⟨h1, h2, h3⟩ := r.iters b s pos hm B x hp
   exact ⟨h1, by rw [putBlk_ne (hne b B hb (by simp [ownR, hm, hp]))]; exact h2, h3⟩
 ·intro b es hm B x hp
  by_cases hb : b = b0
  ·subst hb
   simp [DH.set] at hm
   rw [hp0] at hp
   obtain ⟨rfl, rfl⟩ : B0 = B ∧ s0 = x := by simpa using hp
   obtain ⟨h1, ms, clk, rfl, h2⟩ := hmap es hm s0 hp0
   exact ⟨h1, ⟨ms, clk, hat, h2⟩, him0⟩
  ·simp [DH.set, hb] at hm
   obtain ⟨h1, ⟨ms, clk, h2, h3⟩, h4⟩ := r.maps b es hm B x hp
   exact ⟨h1, ⟨ms, clk, by rw [putBlk_ne (hne b B hb (by simp [ownR, hm, hp]))]; exact h2, h3⟩, h4⟩
 ·intro b b' B h h'
  rw [hownEq] at h h'
  exact r.inj b b' B h h'
theorem Step.appendIn {G : Ghost} {H : DH} {w : World} (r : Rel G H w) {id k m B p pc : Nat} {c : Array Value} {T' T0 : TypeId} {cl : Bool} {fr : Nat × Nat} {nv : List Value}
  (hm : H.m id = some (.tip T0 k cl)) (hp : G.place id k = some (B, p, pc)) (hc : w.heap[B]? = some (.cells c T' fr)) (hroom : p + nv.length ≤ pc) (hnv : m = 0 → nv = []) :
  ∃ G', Step G H w G' (H.set id (.tip T0 (k + m) cl)) (putBlk w B (.cells (c.toList.take p ++ nv ++ c.toList.drop (p + nv.length)).toArray T' fr)) ∧
   (∀ i v, nv[i]? = some v → G'.im B (p + i) = some v) ∧ G'.place id (k + m) = some (B, p + nv.length, pc) := by
 obtain ⟨h0, h9⟩ := r.tips id T0 k cl hm
 obtain ⟨⟨c', T'', fr', h1, h2, h3, h4, h6, h7⟩, h5⟩ := h9 B p pc hp
 rw [hc] at h1
 obtain ⟨rfl, rfl, rfl⟩ : c = c' ∧ T' = T'' ∧ fr = fr' := by simpa using h1
 generalize ho : (Obj.cells (c.toList.take p ++ nv ++ c.toList.drop (p + nv.length)).toArray T' fr) = o
 have hown : ownR G H id = some B := by simp [ownR, hm, hp]
 have hat : (putBlk w B o).heap[B]? = some o := putBlk_at hc
 let G' : Ghost := { im := fun B' q => if B' = B ∧ p ≤ q ∧ q < p + nv.length then nv[q - p]? else G.im B' q, ρ := G.ρ, place := fun b e => if b = id ∧ e = k + m then some (B, p + nv.length, pc) else G.place b e }
 have hle : G.le G' := by
  refine ⟨fun B' q v h => ?_, fun _ _ h => h, fun b e x h => ?_⟩
  ·show (if B' = B ∧ p ≤ q ∧ q < p + nv.length then nv[q - p]? else G.im B' q) = some v
   rw [if_neg]
   ·exact h
   ·rintro ⟨rfl, hq, _⟩; rw [h5 q hq] at h; cases h
  ·show (if b = id ∧ e = k + m then _ else G.place b e) = some x
   by_cases hb : b = id ∧ e = k + m
   ·obtain ⟨rfl, rfl⟩ := hb
    have := h0 (k + m) (by rw [h]; simp)
    have hm0 : m = 0 := by omega
    subst hm0
    rw [if_pos ⟨rfl, rfl⟩]
    rw [hnv rfl]
    rw [Nat.add_zero, hp] at h
    rw [← h]; simp
   ·rw [if_neg hb]; exact h
 have hownNew : ∀ b, ownR G' (H.set id (.tip T0 (k + m) cl)) b = ownR G H b := by
  intro b
  by_cases hb : b = id
  ·subst hb; rw [hown]; simp [ownR, DH.set, G']
  ·simp [ownR, DH.set, hb, G']
 have hne : ∀ b B', b ≠ id → ownR G H b = some B' → B' ≠ B := fun b B' hb h e => hb (r.inj b id B (e ▸ h) hown)
 have himB : ∀ B', B' ≠ B → ∀ q, G'.im B' q = G.im B' q := fun B' h q => if_neg fun x => h x.1
 have hsize : o = .cells (c.toList.take p ++ nv ++ c.toList.drop (p + nv.length)).toArray T' fr := ho.symm
 have hpc : p ≤ c.toList.length := by simp; omega
 refine ⟨G', ⟨hle, ⟨?_, ?_, ?_, ?_, ?_, ?_, ?_, ?_, ⟨r.z.1, by show (if 0 = id then _ else _) = _; rw [if_neg]; exact r.z.2; rintro rfl; rw [r.z.2] at hm; cases hm⟩⟩, rfl, rfl, rfl, by simp [putBlk], fun B' hB hn => putBlk_ne fun e => hn id (e ▸ hown), fun b B' h => .inl ⟨b, by rwa [hownNew] at h⟩, fun B' _ hn q => himB B' (fun e => hn id (e ▸ hown)) q⟩, ?_, ?_⟩
 ·intro b hb
  have hb' : H.next ≤ b := hb
  have := r.wf b hb'
  have hne : b ≠ id := by rintro rfl; rw [this.1] at hm; cases hm
  simpa [DH.set, hne, G'] using this
 ·intro B' q v h
  by_cases hin : B' = B ∧ p ≤ q ∧ q < p + nv.length
  ·obtain ⟨rfl, hq1, hq2⟩ := hin
   have hv : nv[q - p]? = some v := by simpa [G', hq1, hq2] using h
   refine ⟨_, T', fr, by rw [hat, hsize], ?_⟩
   simp only [List.getElem?_toArray]
   have e1 : (c.toList.take p).length = p := by simp; omega
   rw [List.getElem?_append_left (by simp; omega), List.getElem?_append_right (by omega), e1]
   exact hv
  ·have h' : G.im B' q = some v := by
    have : G'.im B' q = G.im B' q := if_neg hin
    rw [this] at h; exact h
   obtain ⟨c', T, fr', h1', h2'⟩ := r.im B' q v h'
   by_cases hB : B' = B
   ·subst hB
    rw [hc] at h1'
    obtain ⟨rfl, rfl, rfl⟩ : c = c' ∧ T' = T ∧ fr = fr' := by simpa using h1'
    have hq : q < p := by
     rcases Nat.lt_or_ge q p with hq | hq
     ·exact hq
     ·rw [h5 q hq] at h'; cases h'
    refine ⟨_, T', fr, by rw [hat, hsize], ?_⟩
    simp only [List.getElem?_toArray]
    rw [List.append_assoc, List.getElem?_append_left (by simp; omega), List.getElem?_take, if_pos hq]
    simpa using h2'
   ·exact ⟨c', T, fr', by rw [putBlk_ne hB]; exact h1', h2'⟩
 ·intro b T cs hmb B' s hpb
  have hb : b ≠ id := by rintro rfl; simp [DH.set] at hmb
  simp [DH.set, hb] at hmb
  have hpb' : G.ρ b = some (B', s) := hpb
  obtain ⟨⟨pre, vs, post, T2, fr2, g1, g2, g3, g4⟩, g5⟩ := r.cells b T cs hmb B' s hpb'
  have hBB := hne b B' hb (by simp [ownR, hmb, hpb'])
  exact ⟨⟨pre, vs, post, T2, fr2, by rw [putBlk_ne hBB]; exact g1, g2, g3.mono hle, g4⟩, fun q => by rw [himB B' hBB]; exact g5 q⟩
 ·intro b T cs hmb B' s hpb
  have hb : b ≠ id := by rintro rfl; simp [DH.set] at hmb
  simp [DH.set, hb] at hmb
  have hpb' : G.ρ b = some (B', s) := hpb
  obtain ⟨⟨p2, pc2, c2, fr2, vs, g0, g1, g2, g3, g4, g5⟩, g6⟩ := r.rows b T cs hmb B' s hpb'
  have hBB := hne b B' hb (by simp [ownR, hmb, hpb'])
  exact ⟨⟨p2, pc2, c2, fr2, vs, by simpa [G', hb] using g0, by rw [putBlk_ne hBB]; exact g1, g2, g3, g4.mono hle, g5⟩, fun q => by rw [himB B' hBB]; exact g6 q⟩
 ·intro b T n cl' hmb
  by_cases hb : b = id
  ·subst hb
   simp [DH.set] at hmb
   obtain ⟨rfl, rfl, rfl⟩ := hmb
   refine ⟨fun e h => ?_, fun B' p' pc' hp' => ?_⟩
   ·by_cases he' : e = k + m
    ·omega
    ·have := h0 e (by simpa [G', he'] using h)
     omega
   ·have hp'' : B = B' ∧ p + nv.length = p' ∧ pc = pc' := by simpa [G'] using hp'
    obtain ⟨rfl, rfl, rfl⟩ := hp''
    refine ⟨⟨_, T', fr, by rw [hat, hsize], ?_, hroom, fun q hq hq' => h4 q (by omega) hq', h6, fun hc => Nat.le_trans (h7 hc) (Nat.le_add_right _ _)⟩, fun q hq => ?_⟩
    ·simp; omega
    ·show (if _ then _ else _) = none
     rw [if_neg (by omega)]
     exact h5 q (by omega)
  ·simp [DH.set, hb] at hmb
   obtain ⟨g0, g9⟩ := r.tips b T n cl' hmb
   refine ⟨fun e h => g0 e (by simpa [G', hb] using h), fun B' p' pc' hp' => ?_⟩
   have hp'' : G.place b n = some (B', p', pc') := by simpa [G', hb] using hp'
   obtain ⟨⟨c2, T2, fr2, g1, g2⟩, g3⟩ := g9 B' p' pc' hp''
   have hBB := hne b B' hb (by simp [ownR, hmb, hp''])
   exact ⟨⟨c2, T2, fr2, by rw [putBlk_ne hBB]; exact g1, g2⟩, fun q hq => by rw [himB B' hBB]; exact g3 q hq⟩
 ·intro b s pos hmb B' x hpb
  have hb : b ≠ id := by rintro rfl; simp [DH.set] at hmb
  simp [DH.set, hb] at hmb
  have hpb' : G.ρ b = some (B', x) := hpb
  obtain ⟨g1, g2, g3⟩ := r.iters b s pos hmb B' x hpb'
  have hBB := hne b B' hb (by simp [ownR, hmb, hpb'])
  exact ⟨g1, by rw [putBlk_ne hBB]; exact g2, fun q => by rw [himB B' hBB]; exact g3 q⟩
 ·intro b es hmb B' x hpb
  have hb : b ≠ id := by rintro rfl; simp [DH.set] at hmb
  simp [DH.set, hb] at hmb
  have hpb' : G.ρ b = some (B', x) := hpb
  obtain ⟨g1, ⟨ms, clk, g2, g3, g3', hbn⟩, g4⟩ := r.maps b es hmb B' x hpb'
  have hBB := hne b B' hb (by simp [ownR, hmb, hpb'])
  exact ⟨g1, ⟨ms, clk, by rw [putBlk_ne hBB]; exact g2, g3.mono hle, g3'.mono hle, hbn⟩, fun q => by rw [himB B' hBB]; exact g4 q⟩
 ·intro b b' B' h h'
  rw [hownNew] at h h'
  exact r.inj b b' B' h h'
 ·intro i v h
  show (if B = B ∧ p ≤ p + i ∧ p + i < p + nv.length then nv[p + i - p]? else _) = some v
  rw [if_pos ⟨rfl, by omega, by have := (List.getElem?_eq_some_iff.1 h).1; omega⟩]
  simpa using h
 ·show (if _ then _ else _) = _
  rw [if_pos ⟨rfl, rfl⟩]
theorem Step.appendNew {G : Ghost} {H : DH} {w : World} (r : Rel G H w) {id k m : Nat} {T' : TypeId} {cl : Bool} {vs post : List Value} (hm : H.m id = some (.tip T' k cl)) (hpos : 0 < m) :
  ∃ G', Step G H w G' (H.set id (.tip T' (k + m) cl)) (w.alloc (.cells (vs ++ post).toArray T' (0, 0))) ∧
   (∀ i v, vs[i]? = some v → G'.im w.heap.size i = some v) ∧ G'.place id (k + m) = some (w.heap.size, vs.length, (vs ++ post).length) := by
 obtain ⟨h0, h9⟩ := r.tips id T' k cl hm
 generalize ho : (Obj.cells (vs ++ post).toArray T' (0, 0)) = o
 have hnew : (w.alloc o).heap[w.heap.size]? = some o := heap_alloc_new w o
 have hold : ∀ B, B < w.heap.size → (w.alloc o).heap[B]? = w.heap[B]? := fun B hB => heap_alloc_old w o B hB
 have kk : ∀ {B : Nat} {o' : Obj}, w.heap[B]? = some o' → (w.alloc o).heap[B]? = some o' := fun e => (hold _ (Array.getElem?_eq_some_iff.1 e).1).trans e
 let G' : Ghost := { im := fun B q => if B = w.heap.size then vs[q]? else G.im B q, ρ := G.ρ, place := fun b e => if b = id ∧ e = k + m then some (w.heap.size, vs.length, (vs ++ post).length) else G.place b e }
 have hle : G.le G' := by
  refine ⟨fun B q v h => ?_, fun _ _ h => h, fun b e x h => ?_⟩
  ·show (if B = w.heap.size then vs[q]? else G.im B q) = some v
   rw [if_neg (by have := r.im_lt h; omega)]; exact h
  ·show (if b = id ∧ e = k + m then _ else G.place b e) = some x
   rw [if_neg]
   ·exact h
   ·rintro ⟨rfl, rfl⟩; have := h0 (k + m) (by rw [h]; simp); omega
 have himold : ∀ B, B < w.heap.size → ∀ q, G'.im B q = G.im B q := fun B hB q => if_neg (by omega)
 have hownNew : ∀ b, b ≠ id → ownR G' (H.set id (.tip T' (k + m) cl)) b = ownR G H b := by
  intro b hb
  simp [ownR, DH.set, hb, G']
 have hownAt : ownR G' (H.set id (.tip T' (k + m) cl)) id = some w.heap.size := by simp [ownR, DH.set, G']
 refine ⟨G', ⟨hle, ⟨?_, ?_, ?_, ?_, ?_, ?_, ?_, ?_, ⟨r.z.1, by show (if 0 = id then _ else _) = _; rw [if_neg]; exact r.z.2; rintro rfl; rw [r.z.2] at hm; cases hm⟩⟩, rfl, rfl, rfl, by simp, fun B hB _ => hold B hB, ?_, fun B hB _ q => himold B hB q⟩, ?_, ?_⟩
 ·intro b hb
  have hb' : H.next ≤ b := hb
  have := r.wf b hb'
  have hne : b ≠ id := by rintro rfl; rw [this.1] at hm; cases hm
  simpa [DH.set, hne, G'] using this
 ·intro B q v h
  by_cases hB : B = w.heap.size
  ·subst hB
   have hq : vs[q]? = some v := by simpa [G'] using h
   refine ⟨_, T', (0, 0), by rw [hnew, ← ho], ?_⟩
   simp only [List.getElem?_toArray]
   rw [List.getElem?_append_left (List.getElem?_eq_some_iff.1 hq).1]
   exact hq
  ·have h' : G.im B q = some v := by simpa [G', hB] using h
   obtain ⟨c, T, fr, h1, h2⟩ := r.im B q v h'
   exact ⟨c, T, fr, kk h1, h2⟩
 ·intro b T cs hmb B s hpb
  have hb : b ≠ id := by rintro rfl; simp [DH.set] at hmb
  simp [DH.set, hb] at hmb
  have hpb' : G.ρ b = some (B, s) := hpb
  obtain ⟨⟨pre, vs', post', T'', fr', h1, h2, h3, h4⟩, h5⟩ := r.cells b T cs hmb B s hpb'
  exact ⟨⟨pre, vs', post', T'', fr', kk h1, h2, h3.mono hle, h4⟩, fun q => by rw [himold B (Array.getElem?_eq_some_iff.1 h1).1]; exact h5 q⟩
 ·intro b T cs hmb B s hpb
  have hb : b ≠ id := by rintro rfl; simp [DH.set] at hmb
  simp [DH.set, hb] at hmb
  have hpb' : G.ρ b = some (B, s) := hpb
  obtain ⟨⟨p2, pc2, c2, fr2, vs', g0, g1, g2, g3, g4, g5⟩, g6⟩ := r.rows b T cs hmb B s hpb'
  exact ⟨⟨p2, pc2, c2, fr2, vs', by simpa [G', hb] using g0, kk g1, g2, g3, g4.mono hle, g5⟩, fun q => by rw [himold B (Array.getElem?_eq_some_iff.1 g1).1]; exact g6 q⟩
 ·intro b T n cl' hmb
  by_cases hb : b = id
  ·subst hb
   simp [DH.set] at hmb
   obtain ⟨rfl, rfl, rfl⟩ := hmb
   refine ⟨fun e h => ?_, fun B p pc hp => ?_⟩
   ·by_cases he' : e = k + m
    ·omega
    ·have := h0 e (by simpa [G', he'] using h)
     omega
   ·have hp' : w.heap.size = B ∧ vs.length = p ∧ (vs ++ post).length = pc := by simpa [G'] using hp
    obtain ⟨rfl, rfl, rfl⟩ := hp'
    refine ⟨⟨_, T', (0, 0), by rw [hnew, ← ho], by simp, by simp, by simp, rfl, fun _ => Nat.zero_le _⟩, fun q hq => ?_⟩
    show (if w.heap.size = w.heap.size then vs[q]? else _) = none
    rw [if_pos rfl]
    exact List.getElem?_eq_none hq
  ·simp [DH.set, hb] at hmb
   obtain ⟨h0, h9⟩ := r.tips b T n cl' hmb
   refine ⟨fun e h => h0 e (by simpa [G', hb] using h), fun B p pc hp => ?_⟩
   have hp' : G.place b n = some (B, p, pc) := by simpa [G', hb] using hp
   obtain ⟨⟨c, T', fr, h1, h2⟩, h3⟩ := h9 B p pc hp'
   exact ⟨⟨c, T', fr, kk h1, h2⟩, fun q hq => by rw [himold B (Array.getElem?_eq_some_iff.1 h1).1]; exact h3 q hq⟩
 ·intro b s pos hmb B y hpb
  have hb : b ≠ id := by rintro rfl; simp [DH.set] at hmb
  simp [DH.set, hb] at hmb
  obtain ⟨h1, h2, h3⟩ := r.iters b s pos hmb B y hpb
  exact ⟨h1, kk h2, fun q => by rw [himold B (Array.getElem?_eq_some_iff.1 h2).1]; exact h3 q⟩
 ·intro b es' hmb B y hpb
  have hb : b ≠ id := by rintro rfl; simp [DH.set] at hmb
  simp [DH.set, hb] at hmb
  obtain ⟨h1, ⟨ms, clk, h2, h3, h3', hbn⟩, h4⟩ := r.maps b es' hmb B y hpb
  exact ⟨h1, ⟨ms, clk, kk h2, h3.mono hle, h3'.mono hle, hbn⟩, fun q => by rw [himold B (Array.getElem?_eq_some_iff.1 h2).1]; exact h4 q⟩
 ·intro b b' B h h'
  by_cases hb : b = id
  ·subst hb
   rw [hownAt] at h
   obtain rfl := Option.some.inj h
   by_cases hb' : b' = b
   ·exact hb'.symm
   ·rw [hownNew b' hb'] at h'
    have := r.own_lt h'
    omega
  ·rw [hownNew b hb] at h
   by_cases hb' : b' = id
   ·subst hb'
    rw [hownAt] at h'
    obtain rfl := Option.some.inj h'
    have := r.own_lt h
    omega
   ·rw [hownNew b' hb'] at h'
    exact r.inj b b' B h h'
 ·intro b B h
  by_cases hb : b = id
  ·subst hb
   rw [hownAt] at h
   obtain rfl := Option.some.inj h
   exact .inr (Nat.le_refl _)
  ·rw [hownNew b hb] at h
   exact .inl ⟨b, h⟩
 ·intro i v h
  show (if w.heap.size = w.heap.size then vs[i]? else _) = some v
  rw [if_pos rfl]; exact h
 ·show (if _ then _ else _) = _
  rw [if_pos ⟨rfl, rfl⟩]
theorem Step.row {G : Ghost} {H : DH} {w w' : World} (r : Rel G H w) {b0 : Nat} {B s pc : Nat} {T : TypeId} {cs : List DV} {c : Array Value} {fr : Nat × Nat} {vs : List Value} {H' : DH}
  (hH : H'.next = H.next + 1 ∧ H'.m H.next = some (.row T cs) ∧ ∀ i, i ≠ H.next → H'.m i = H.m i ∨ (i = b0 ∧ H'.m i = none))
  (hB : ownR G H b0 = some B ∧ H'.m b0 = none ∧ (∀ q, G.im B q = none) ∨ B = w.heap.size)
  (hat : w'.heap[B]? = some (.cells c T fr)) (hother : ∀ B', B' < w.heap.size → B' ≠ B → w'.heap[B']? = w.heap[B']?) (hsz : w.heap.size ≤ w'.heap.size)
  (h1 : s + cs.length ≤ pc) (h2 : pc ≤ c.size) (h3 : VL G cs vs) (h4 : ∀ (i : Nat) (v : Value), vs[i]? = some v → c[s + i]? = some v) (h5 : ∀ o, s ≤ o → o < pc → ¬ (fr.1 ≤ o ∧ o < fr.2))
  (os : w'.os = w.os) (tape : w'.tape = w.tape) (output : w'.output = w.output) :
  ∃ G', Step G H w G' H' w' ∧ G'.ρ H.next = some (B, s) ∧ G'.place H.next 0 = some (B, s, pc) := by
 obtain ⟨hn, hnew, hold⟩ := hH
 have hnx := r.wf H.next (Nat.le_refl _)
 let G' : Ghost := { im := G.im, ρ := fun b => if b = H.next then some (B, s) else G.ρ b, place := fun b e => if b = H.next ∧ e = 0 then some (B, s, pc) else G.place b e }
 have hle : G.le G' := by
  refine ⟨fun _ _ _ h => h, fun b x h => ?_, fun b e x h => ?_⟩
  ·show (if b = H.next then _ else G.ρ b) = some x
   rw [if_neg]
   ·exact h
   ·rintro rfl; rw [hnx.2.1] at h; cases h
  ·show (if b = H.next ∧ e = 0 then _ else G.place b e) = some x
   rw [if_neg]
   ·exact h
   ·rintro ⟨rfl, _⟩; rw [hnx.2.2 e] at h; cases h
 have keep : ∀ {i : Nat} {o : DObj}, i ≠ H.next → H'.m i = some o → H.m i = some o := by
  intro i o hi h
  rcases hold i hi with e | ⟨_, e⟩
  ·rw [← e]; exact h
  ·rw [e] at h; cases h
 have himB : ∀ q, G.im B q = none := by
  rcases hB with h | rfl
  ·exact h.2.2
  ·intro q
   cases hq : G.im w.heap.size q with
   | none => rfl
   | some v => have := r.im_lt hq; omega
 have hownOld : ∀ b B', b ≠ H.next → ownR G' H' b = some B' → ownR G H b = some B' := by
  intro b B' hb h
  unfold ownR at h ⊢
  cases hm : H'.m b with
  | none => rw [hm] at h; cases h
  | some o =>
   rw [hm] at h
   rw [keep hb hm]
   cases o <;> simpa [G', hb] using h
 have hownNew : ownR G' H' H.next = some B := by simp [ownR, hnew, G']
 have hneB : ∀ b B', b ≠ H.next → H'.m b ≠ none → ownR G H b = some B' → B' ≠ B := by
  rintro b B' hb hm ho rfl
  rcases hB with h | h
  ·have := r.inj _ _ _ ho h.1
   subst this
   exact hm h.2.1
  ·have := r.own_lt ho
   omega
 have kk : ∀ {B' : Nat} {o : Obj}, B' ≠ B → w.heap[B']? = some o → w'.heap[B']? = some o := fun hb e => (hother _ (Array.getElem?_eq_some_iff.1 e).1 hb).trans e
 refine ⟨G', ⟨hle, ⟨?_, ?_, ?_, ?_, ?_, ?_, ?_, ?_, ?_⟩, os, tape, output, hsz, ?_, ?_, fun _ _ _ _ => rfl⟩, by simp [G'], by simp [G']⟩
 ·intro b hb
  rw [hn] at hb
  have := r.wf b (by omega)
  have hne : b ≠ H.next := by omega
  refine ⟨?_, by simpa [G', hne] using this.2.1, fun e => by simpa [G', hne] using this.2.2 e⟩
  rcases hold b hne with e | ⟨_, e⟩
  ·rw [e]; exact this.1
  ·exact e
 ·intro B' o v h
  obtain ⟨c', T', fr', g1, g2⟩ := r.im B' o v h
  exact ⟨c', T', fr', kk (by rintro rfl; rw [himB o] at h; cases h) g1, g2⟩
 ·intro b T' cs' hm B' s' hp
  have hb : b ≠ H.next := by rintro rfl; rw [hnew] at hm; cases hm
  have hm' := keep hb hm
  have hp' : G.ρ b = some (B', s') := by simpa [G', hb] using hp
  obtain ⟨⟨pre, vs', post, T'', fr', g1, g2, g3, g4⟩, g5⟩ := r.cells b T' cs' hm' B' s' hp'
  exact ⟨⟨pre, vs', post, T'', fr', kk (hneB b B' hb (by rw [hm]; simp) (by simp [ownR, hm', hp'])) g1, g2, g3.mono hle, g4⟩, g5⟩
 ·intro b T' cs' hm B' s' hp
  by_cases hb : b = H.next
  ·subst hb
   rw [hnew] at hm
   obtain ⟨rfl, rfl⟩ : T = T' ∧ cs = cs' := by simpa using hm
   obtain ⟨rfl, rfl⟩ : B = B' ∧ s = s' := by simpa [G'] using hp
   exact ⟨⟨s, pc, c, fr, vs, by simp [G'], hat, h1, h2, h3.mono hle, h4, h5⟩, himB⟩
  ·have hm' := keep hb hm
   have hp' : G.ρ b = some (B', s') := by simpa [G', hb] using hp
   obtain ⟨⟨p2, pc2, c2, fr2, vs2, g0, g1, g2, g3, g4, g5⟩, g6⟩ := r.rows b T' cs' hm' B' s' hp'
   exact ⟨⟨p2, pc2, c2, fr2, vs2, by simpa [G', hb] using g0, kk (hneB b B' hb (by rw [hm]; simp) (by simp [ownR, hm', hp'])) g1, g2, g3, g4.mono hle, g5⟩, g6⟩
 ·intro b T' n cl hm
  have hb : b ≠ H.next := by rintro rfl; rw [hnew] at hm; cases hm
  have hm' := keep hb hm
  obtain ⟨h0, h9⟩ := r.tips b T' n cl hm'
  refine ⟨fun e h => h0 e (by simpa [G', hb] using h), fun B' p pc hp => ?_⟩
  have hp' : G.place b n = some (B', p, pc) := by simpa [G', hb] using hp
  obtain ⟨⟨c', T'', fr', g1, g2⟩, g3⟩ := h9 B' p pc hp'
  exact ⟨⟨c', T'', fr', kk (hneB b B' hb (by rw [hm]; simp) (by simp [ownR, hm', hp'])) g1, g2⟩, g3⟩
 ·intro b s' pos hm B' x hp
  have hb : b ≠ H.next := by rintro rfl; rw [hnew] at hm; cases hm
  have hm' := keep hb hm
  have hp' : G.ρ b = some (B', x) := by simpa [G', hb] using hp
  obtain ⟨g1, g2, g3⟩ := r.iters b s' pos hm' B' x hp'
  exact ⟨g1, kk (hneB b B' hb (by rw [hm]; simp) (by simp [ownR, hm', hp'])) g2, g3⟩
 ·intro b es hm B' x hp
  have hb : b ≠ H.next := by rintro rfl; rw [hnew] at hm; cases hm
  have hm' := keep hb hm
  have hp' : G.ρ b = some (B', x) := by simpa [G', hb] using hp
  obtain ⟨g1, ⟨ms, clk, g2, g3, g3', hbn⟩, g4⟩ := r.maps b es hm' B' x hp'
  exact ⟨g1, ⟨ms, clk, kk (hneB b B' hb (by rw [hm]; simp) (by simp [ownR, hm', hp'])) g2, g3.mono hle, g3'.mono hle, hbn⟩, g4⟩
 ·intro b b' B' h h'
  have live : ∀ {x : Nat}, ownR G' H' x = some B' → H'.m x ≠ none := by
   intro x hx e
   simp [ownR, e] at hx
  by_cases hb : b = H.next
  ·subst hb
   rw [hownNew] at h
   obtain rfl := Option.some.inj h
   by_cases hb' : b' = H.next
   ·exact hb'.symm
   ·exact absurd rfl (hneB b' _ hb' (live h') (hownOld b' _ hb' h'))
  ·by_cases hb' : b' = H.next
   ·subst hb'
    rw [hownNew] at h'
    obtain rfl := Option.some.inj h'
    exact absurd rfl (hneB b _ hb (live h) (hownOld b _ hb h))
   ·exact r.inj b b' B' (hownOld b _ hb h) (hownOld b' _ hb' h')
 ·have hz0 := r.z
  refine ⟨by rw [hn]; exact Nat.succ_pos _, ?_⟩
  rcases hold 0 (by omega) with e | ⟨_, e⟩
  ·rw [e]; exact hz0.2
  ·exact e
 ·intro B' hlt hno
  by_cases hbb : B' = B
  ·subst hbb
   rcases hB with h | h
   ·exact absurd h.1 (hno b0)
   ·omega
  ·exact hother B' hlt hbb
 ·intro b B' h
  by_cases hb : b = H.next
  ·subst hb
   rw [hownNew] at h
   obtain rfl := Option.some.inj h
   rcases hB with h | h
   ·exact .inl ⟨b0, h.1⟩
   ·exact .inr (Nat.le_of_eq h.symm)
  ·exact .inl ⟨b, hownOld b _ hb h⟩
end Go.Proofs.YtcknfhhbijlobaaGreatDoor.D
namespace Go.Proofs.YtcknfhhbijlobaaGreatDoor.D
open Go
set_option linter.unusedVariables false
structure TabOk (P : Program) (T : Tab) : Prop where
 und : ∀ t d, T.und t = some d → P.underlying t = some d
 size : ∀ t n, T.size t = some n → ∃ i, P.info? t = some i ∧ i.size = n
 bytes : ∀ t n, T.bytes t = some n → ∃ i, P.info? t = some i ∧ i.bytes = n
 zero : ∀ t z, T.zero t = some z → ∃ i v, P.info? t = some i ∧ i.zero = some v ∧ ∀ G, V G z v
 flatEq : ∀ t ks, T.flatEq t = some ks → ∀ (G : Ghost) (xs ys : List DV) (vx vy : List Value) (w : World) (b : Bool) (x y : Operand), VL G xs vx → VL G ys vy → cellsEq ks xs ys = some b →
  (do eqGuard .eql t x y (.agg vx.toArray) (.agg vy.toArray); binOp .eql t (.agg vx.toArray) (.agg vy.toArray)).run P w = .ok (.bool b) w ∧
  (do eqGuard .neq t x y (.agg vx.toArray) (.agg vy.toArray); binOp .neq t (.agg vx.toArray) (.agg vy.toArray)).run P w = .ok (.bool (!b)) w
 lies : ∀ t n off u, T.lies t n off u = true → liesAt P P.depth t (n / P.cellsOf t) off u 1 = true ∧ ∃ i, P.info? u = some i
def GoodV (P : Program) (G : Ghost) (H : DH) (w : World) (H' : DH) (d : DV) : Result Value → Prop
 | .ok v w' => ∃ G', V G' d v ∧ Step G H w G' H' w'
 | _ => False
def Good (P : Program) (G : Ghost) (H : DH) (w : World) (H' : DH) (d : DV) : Result Next → Prop
 | .ok (.value v) w' => ∃ G', V G' d v ∧ Step G H w G' H' w'
 | .ok .skip w' => d = undefD ∧ ∃ G', Step G H w G' H' w'
 | .ok (.enter f args) w' => Calls P f args w' fun e w'' => ∃ v G', e = .returned v ∧ V G' d v ∧ Step G H w G' H' w''
 | _ => False
section
variable {P : Program} {T : Tab} {G : Ghost} {H H' : DH} {w : World} {d : DV}
theorem good_v {s : Sem Value} (h : GoodV P G H w H' d (s.run P w)) : Good P G H w H' d ((do let x ← s; pure (Next.value x) : Sem Next).run P w) := by
 rw [Sem.run_bind]
 cases hr : s.run P w with
 | ok v w' => rw [hr] at h; exact h
 | halt x w' => rw [hr] at h; exact h.elim
theorem good_ok {v : Value} (r : Rel G H w) (h : V G d v) {R : Result Value} (e : R = .ok v w) : GoodV P G H w H d R := by subst e; exact ⟨G, h, .refl r⟩
def SlotsOk (G : Ghost) (σ : Nat → DV) (a : Act) : Prop := ∀ t, V G (σ t) (a.tmps.getD t undef)
theorem SlotsOk.mono {G G' : Ghost} (h : G.le G') {σ : Nat → DV} {a : Act} (s : SlotsOk G σ a) : SlotsOk G' σ a := fun t => (s t).mono h
theorem constD_ok {v : Value} (h : constD v = some d) : V G d v := by
 unfold constD at h
 split at h
 ·cases h; exact .bool _
 ·cases h; exact .int _ _
 ·cases h; exact .flt _ _
 ·rename_i s; cases h; exact V.str s.data.toList
 ·cases h; exact .nilp
 ·cases h; exact .nils
 ·cases h; exact .nilm
 ·cases h; exact .nilf
 ·cases h; exact .nili
 ·rename_i vs
  split at h
  ·rename_i hs
   cases h
   obtain rfl : vs = #[] := by simpa using hs
   exact V.tup (cs := []) (vs := []) rfl (fun i d v h => by simp at h)
  ·cases h
 ·cases h
theorem opd_ok {σ : Nat → DV} {a : Act} (hs : SlotsOk G σ a) {x : Operand} (h : opd σ x = some d) : V G d (a.eval x) := by
 cases x with
 | tmp t => simp only [opd, Option.some.injEq] at h; subst h; exact hs t
 | const v => exact constD_ok h
 | global g => simp [opd] at h
 | func f =>
  simp only [opd, Option.some.injEq] at h; subst h
  exact V.fn (x := []) (y := []) rfl rfl (fun i d v h => by simp at h) (fun i d v h => by simp at h)
theorem opds_ok {σ : Nat → DV} {a : Act} (hs : SlotsOk G σ a) {xs : List Operand} {ds : List DV} (h : opds σ xs = some ds) : VL G ds (xs.map a.eval) := by
 induction xs generalizing ds with
 | nil => simp [opds] at h; subst h; exact .nil _
 | cons x xs ih =>
  simp only [opds] at h
  split at h
  ·rename_i v l e1 e2
   cases h
   exact .cons (opd_ok hs e1) (ih e2)
  ·cases h
theorem addr_add (B o n : Nat) : (⟨B, o, none⟩ : Addr).add n = ⟨B, o + n, none⟩ := by unfold Addr.add; split <;> simp_all
theorem cellsAt_ok (r : Rel G H w) {a : DV} {v : Value} (hv : V G a v) {cs : List DV} (h : cellsAt H a = some cs) :
  ∃ B o vs, v = .pointer (some ⟨B, o, none⟩) ∧ VL G cs vs ∧ ∀ (i : Nat) (u : Value), vs[i]? = some u → w.cell? ⟨B, o + i, none⟩ = some u := by
 cases hv with
 | ptr hρ =>
  rename_i b off B s
  simp only [cellsAt] at h
  split at h
  ·rename_i T cs' hm
   cases h
   obtain ⟨⟨pre, vs, post, T', fr, h1, h2, h3, h4⟩, h5⟩ := r.cells b T cs' hm B s hρ
   refine ⟨B, s + off, vs.drop off, rfl, h3.drop off, fun i u hu => ?_⟩
   rw [List.getElem?_drop] at hu
   simp only [World.cell?, h1, Option.isSome_none, Bool.false_eq_true, if_false, List.getElem?_toArray]
   rw [List.append_assoc, List.getElem?_append_right (by omega), h2, show s + off + i - s = off + i by omega, List.getElem?_append_left (List.getElem?_eq_some_iff.1 hu).1]
   exact hu
  ·rename_i T cs' hm
   cases h
   obtain ⟨⟨p, pc, c, fr, vs, h0, h1, h2, h3, h4, h6, h7⟩, h5⟩ := r.rows b T cs' hm B s hρ
   refine ⟨B, s + off, vs.drop off, rfl, h4.drop off, fun i u hu => ?_⟩
   rw [List.getElem?_drop] at hu
   have := h6 _ _ hu
   rw [← Nat.add_assoc] at this
   simp [World.cell?, h1, this]
  ·cases h
 | ip hl hi hv =>
  rename_i cs' vs B o
  simp only [cellsAt, Option.some.injEq] at h; subst h
  exact ⟨B, o, vs, rfl, ⟨hl, hv⟩, fun i u hu => r.imCell (hi i u hu)⟩
 | _ => simp [cellsAt] at h
theorem run_isAgg (TO : TabOk P T) {t : TypeId} {td : TypeDesc} (h : T.und t = some td) (w : World) : (isAgg t).run P w = .ok (isAggD td) w := by
 simp only [isAgg, Sem.run_bind, run_underlying (TO.und _ _ h), Result.andThen_ok]
 cases td <;> rfl
theorem run_sizeOf' (TO : TabOk P T) {t : TypeId} {n : Nat} (h : T.size t = some n) (w : World) : (sizeOf t).run P w = .ok n w := by
 obtain ⟨i, h1, h2⟩ := TO.size _ _ h
 simp [sizeOf, typeInfo, h1, h2]
theorem load_run (TO : TabOk P T) (r : Rel G H w) {t : TypeId} {a : DV} {va : Value} (hv : V G a va) (h : loadD T t a H = some d) :
  ∃ v, (Instr.loadAt t va).run P w = .ok v w ∧ V G d v := by
 unfold loadD at h
 split at h
 ·rename_i td n cs e1 e2 e3
  obtain ⟨B, o, vs, rfl, hvl, hc⟩ := cellsAt_ok r hv e3
  unfold takeVar at h
  by_cases hg : isAggD td = true
  ·rw [if_pos hg] at h
   split at h
   ·rename_i hn
    cases h
    have hl := run_loadCells_list (P := P) w ⟨B, o, none⟩ (vs.take n) (fun j v hj => by
     rw [addr_add]
     rw [List.getElem?_take] at hj
     split at hj
     ·exact hc j v hj
     ·cases hj)
    have hlen : (vs.take n).length = n := by simp [← hvl.1]; omega
    rw [hlen] at hl
    refine ⟨.agg (vs.take n).toArray, ?_, V.agg (vs := vs.take n) ?_ ?_⟩
    rotate_left
    ·exact (hvl.take n).1
    ·exact (hvl.take n).2
    ·simp [Instr.loadAt, Instr.sureAddr, loadVar, run_isAgg TO e1, hg, run_sizeOf' TO e2, hl]
   ·cases h
  ·rw [if_neg hg] at h
   obtain ⟨u, hu, hvu⟩ := hvl.head h
   refine ⟨u, ?_, hvu⟩
   have := hc 0 u hu
   simp only [Nat.add_zero] at this
   simp [Instr.loadAt, Instr.sureAddr, loadVar, run_isAgg TO e1, hg, this]
 ·cases h
theorem load_ok (TO : TabOk P T) (r : Rel G H w) {t : TypeId} {a : DV} {va : Value} (hv : V G a va) (h : loadD T t a H = some d) :
  GoodV P G H w H d ((Instr.loadAt t va).run P w) := by
 obtain ⟨v, h1, h2⟩ := load_run TO r hv h
 exact good_ok r h2 h1
theorem arr_set_self {α : Type} {a : Array α} {k : Nat} {x : α} (h : a[k]? = some x) : a.setIfInBounds k x = a := by
 apply Array.ext_getElem?
 intro j
 rw [Array.getElem?_setIfInBounds]
 split
 ·rename_i hk; subst hk
  obtain ⟨h1, h2⟩ := Array.getElem?_eq_some_iff.1 h
  simp [h1, h2]
 ·rfl
theorem run_storeCells_free (P : Program) (B : Nat) (T' : TypeId) (fr : Nat × Nat) : ∀ (vs : List Value) (i o : Nat) (cur : Array Value) (w : World), w.heap[B]? = some (.cells cur T' fr) →
  (∀ q, o + i ≤ q → q < o + i + vs.length → ¬ (fr.1 ≤ q ∧ q < fr.2)) → o + i + vs.length ≤ cur.size → (∀ v ∈ vs, v.oneCell' = true) →
  (storeCells ⟨B, o, none⟩ vs i).run P w = .ok () (putBlk w B (.cells (cur.toList.take (o + i) ++ vs ++ cur.toList.drop (o + i + vs.length)).toArray T' fr))
 | [], i, o, cur, w, hg, _, _, _ => by
  have hlt := (Array.getElem?_eq_some_iff.1 hg).1
  have hv := (Array.getElem?_eq_some_iff.1 hg).2
  simp only [storeCells, List.append_nil, List.length_nil, Nat.add_zero, List.take_append_drop, Array.toArray_toList, Sem.run_pure]
  congr 1
  unfold putBlk
  rw [arr_set_self hg]
 | v :: rest, i, o, cur, w, hg, hfz, hl, h1 => by
  have hi : o + i < cur.size := by simp at hl; omega
  have hcell : w.cell? ⟨B, o + i, none⟩ = some cur[o + i] := by simp [World.cell?, hg, hi]
  have hfro : w.frozen? ⟨B, o + i, none⟩ = false := by
   have := hfz (o + i) (Nat.le_refl _) (by simp)
   simp only [World.frozen?, hg]
   simpa using this
  have hsc : w.setCell ⟨B, o + i, none⟩ v = putBlk w B (.cells (cur.setIfInBounds (o + i) v) T' fr) := by
   have hlt := (Array.getElem?_eq_some_iff.1 hg).1
   have hv := (Array.getElem?_eq_some_iff.1 hg).2
   unfold World.setCell putBlk
   congr 1
   apply Array.ext_getElem?
   intro k
   rw [Array.getElem?_modify, Array.getElem?_setIfInBounds]
   by_cases hk : B = k
   ·subst hk; simp [hlt, hv]
   ·simp [hk]
  have hst : (store ((⟨B, o, none⟩ : Addr).add i) v).run P w = .ok () (putBlk w B (.cells (cur.setIfInBounds (o + i) v) T' fr)) := by
   rw [addr_add, run_store P w _ v _ (h1 v (by simp)), hcell]
   simp [hfro, hsc]
  have ih := run_storeCells_free P B T' fr rest (i + 1) o (cur.setIfInBounds (o + i) v) (putBlk w B (.cells (cur.setIfInBounds (o + i) v) T' fr)) (putBlk_at hg)
   (fun q hq1 hq2 => hfz q (by omega) (by simp; omega)) (by simp at hl ⊢; omega) (fun x hx => h1 x (by simp [hx]))
  simp only [storeCells, Sem.run_bind, hst, Result.andThen_ok, ih]
  congr 1
  have e := list_seg_step cur.toList (o + i) v rest (by simp at hl ⊢; omega)
  have hpp : ∀ o1 o2, putBlk (putBlk w B o1) B o2 = putBlk w B o2 := by
   intro o1 o2
   unfold putBlk
   simp [Array.setIfInBounds_setIfInBounds]
  rw [hpp]
  congr 2
  simpa [Array.toList_setIfInBounds, Nat.add_assoc] using e
theorem store_ok (TO : TabOk P T) (r : Rel G H w) {t : TypeId} {a v : DV} {va vv : Value} (ha : V G a va) (hv : V G v vv) (h : storeD T t a v H = some H') :
  ∃ w', (Instr.storeAt t va vv).run P w = .ok () w' ∧ Step G H w G H' w' := by
 unfold storeD at h
 split at h
 ·rename_i b off n e2
  split at h
  ·rename_i ty cs hm
   split at h
   ·rename_i hc
    obtain ⟨hc1, hc2, hc3⟩ := hc
    cases h
    cases ha with
    | ptr hρ =>
     rename_i B s
     obtain ⟨⟨pre, vs, post, T', fr, h1, h2, h3, h4⟩, h5⟩ := r.cells b ty cs hm B s hρ
     have hvl := hv.cells
     have hn : vv.cells.toList.length = n := by rw [← hvl.1]; exact hc1
     have hvs : vs.length = cs.length := h3.1.symm
     have hst := run_storeCells_free P B T' fr vv.cells.toList 0 (s + off) _ w h1 (fun q hq1 hq2 => h4.1 q (by omega) (by rw [hn] at hq2; omega)) (by rw [hn]; simp; omega) (hvl.ones hc3)
     refine ⟨putBlk w B (.cells (pre ++ (vs.take off ++ vv.cells.toList ++ vs.drop (off + n)) ++ post).toArray T' fr), ?_, ?_⟩
     rotate_left
     ·refine Step.setBlk r b B (.cells _ T' fr) _ (by simp [ownR, hm, hρ]) (fun T n cl => by rw [hm]; simp) (fun T n cl => by simp) ?_ (fun T cs h => by cases h) (fun s pos h => by cases h) (fun es h => by cases h)
      intro T2 cs2 e s' hs'
      rw [hρ] at hs'
      obtain rfl : s = s' := by simpa using hs'
      cases e
      refine ⟨pre, vs.take off ++ vv.cells.toList ++ vs.drop (off + n), post, T', fr, rfl, h2, ((h3.take off).append hvl).append (h3.drop (off + n)), fun o ho1 ho2 => h4.1 o ho1 ?_, h4.2⟩
      simp at ho2 ⊢
      omega
     ·simp only [Instr.storeAt, Instr.sureAddr, storeVar, Sem.run_bind, Sem.run_pure, Result.andThen_ok, run_sizeOf' TO e2]
      have hn' : vv.cells.size = n := by simpa using hn
      simp only [hn', ne_eq, not_true_eq_false, if_false]
      rw [hst]
      congr 3
      have g1 : (pre ++ vs ++ post).toArray.toList.take (s + off + 0) = pre ++ vs.take off := by
       simp only [List.toList_toArray, Nat.add_zero]
       rw [List.append_assoc, ← h2, List.take_append, Nat.add_sub_cancel_left, List.take_of_length_le (by omega), List.take_append_of_le_length (by omega)]
      have g2 : (pre ++ vs ++ post).toArray.toList.drop (s + off + 0 + vv.cells.toList.length) = vs.drop (off + n) ++ post := by
       simp only [List.toList_toArray, Nat.add_zero, hn]
       rw [List.append_assoc, show s + off + n = pre.length + (off + n) by omega, List.drop_append, List.drop_of_length_le (by omega : pre.length ≤ pre.length + (off + n)), Nat.add_sub_cancel_left, List.nil_append, List.drop_append_of_le_length (by omega)]
      rw [g1, g2]
      simp [List.append_assoc]
   ·cases h
  ·rename_i ty cs hm
   split at h
   ·rename_i hc
    obtain ⟨hc1, hc2, hc3⟩ := hc
    cases h
    cases ha with
    | ptr hρ =>
     rename_i B s
     obtain ⟨⟨p, pc, c, fr, vs, h0, h1, h2, h3, h4, h6, h7⟩, h5⟩ := r.rows b ty cs hm B s hρ
     have hvl := hv.cells
     have hn : vv.cells.toList.length = n := by rw [← hvl.1]; exact hc1
     have hvs : vs.length = cs.length := h4.1.symm
     have hst := run_storeCells_free P B ty fr vv.cells.toList 0 (s + off) _ w h1 (fun q hq1 hq2 => h7 q (by omega) (by rw [hn] at hq2; omega)) (by rw [hn]; omega) (hvl.ones hc3)
     simp only [Nat.add_zero] at hst
     refine ⟨_, ?_, Step.setBlk r b B (.cells (c.toList.take (s + off) ++ vv.cells.toList ++ c.toList.drop (s + off + vv.cells.toList.length)).toArray ty fr) _ (by simp [ownR, hm, hρ]) (fun T n cl => by rw [hm]; simp) (fun T n cl => by simp) (fun T cs h => by cases h) ?_ (fun s pos h => by cases h) (fun es h => by cases h)⟩
     ·simp only [Instr.storeAt, Instr.sureAddr, storeVar, Sem.run_bind, Sem.run_pure, Result.andThen_ok, run_sizeOf' TO e2]
      have hn' : vv.cells.size = n := by simpa using hn
      simp only [hn', ne_eq, not_true_eq_false, if_false]
      exact hst
     ·intro T2 cs2 e
      cases e
      have hvv : (vs.take off ++ vv.cells.toList ++ vs.drop (off + n)).length = cs.length := by simp only [List.length_append, List.length_take, List.length_drop, hn]; omega
      have hcc : (cs.take off ++ v.cells ++ cs.drop (off + n)).length = cs.length := by simp only [List.length_append, List.length_take, List.length_drop]; omega
      refine ⟨p, pc, _, fr, vs.take off ++ vv.cells.toList ++ vs.drop (off + n), s, hρ, h0, rfl, by omega, ?_, ((h4.take off).append hvl).append (h4.drop (off + n)), fun i u hu => ?_, h7⟩
      ·simp only [List.size_toArray, List.length_append, List.length_take, List.length_drop, Array.length_toList, hn]; omega
      ·have hi := (List.getElem?_eq_some_iff.1 hu).1
       rw [hvv] at hi
       simp only [List.getElem?_toArray]
       have hl1 : (c.toList.take (s + off)).length = s + off := by simp; omega
       have hl2 : (vs.take off).length = off := by simp; omega
       rcases Nat.lt_or_ge i off with q | q
       ·rw [List.append_assoc, List.getElem?_append_left (by omega)] at hu ⊢
        rw [List.getElem?_take, if_pos (by omega)] at hu ⊢
        simpa using h6 _ _ hu
       ·rw [List.append_assoc, List.getElem?_append_right (by omega)] at hu ⊢
        rw [hl1, show s + i - (s + off) = i - off by omega]
        rw [hl2] at hu
        rcases Nat.lt_or_ge (i - off) n with q2 | q2
        ·rw [List.getElem?_append_left (by omega)] at hu ⊢
         exact hu
        ·rw [List.getElem?_append_right (by omega)] at hu ⊢
         rw [List.getElem?_drop] at hu ⊢
         rw [hn] at hu ⊢
         have := h6 _ _ hu
         rw [Array.getElem?_toList, show s + off + n + (i - off - n) = s + (off + n + (i - off - n)) by omega]
         exact this
   ·cases h
  ·cases h
 ·cases h
end
end Go.Proofs.YtcknfhhbijlobaaGreatDoor.D
namespace Go.Proofs.YtcknfhhbijlobaaGreatDoor.D
open Go
set_option linter.unusedVariables false
set_option linter.unusedSimpArgs false
section
variable {P : Program} {T : Tab} {G : Ghost} {H H' : DH} {w : World} {d : DV}
theorem int_ok {op : BinOp} {k : IntKind} {a b : Int} {t : TypeId} (hs : isShift op = false) (h : intOp op k a b = some d) :
  ∃ v, (∀ G, V G d v) ∧ ∀ w x y, (do eqGuard op t x y (.int k a) (.int k b); binOp op t (.int k a) (.int k b)).run P w = .ok v w := by
 cases op <;> simp only [intOp, isShift] at h hs <;> first
  | (cases hs; done)
  | (cases h; exact ⟨_, fun _ => .int _ _, fun w x y => by simp [eqGuard, binOp, Op.intArith, Op.intBits]⟩)
  | (cases h; exact ⟨_, fun _ => .bool _, fun w x y => by simp [eqGuard, binOp, Op.intCmp]⟩)
  | (split at h
     ·cases h
     ·rename_i hb; cases h; exact ⟨_, fun _ => .int _ _, fun w x y => by simp [eqGuard, binOp, Op.intDiv, hb]⟩)
  | (cases h; done)
theorem shift_ok {op : BinOp} {k k' : IntKind} {a b : Int} {t : TypeId} (hs : isShift op = true) (h : shiftOp op k a b = some d) :
  ∃ v, (∀ G, V G d v) ∧ ∀ w x y, (do eqGuard op t x y (.int k a) (.int k' b); binOp op t (.int k a) (.int k' b)).run P w = .ok v w := by
 unfold shiftOp at h
 split at h
 ·cases h
 ·rename_i hb
  cases op <;> simp only [isShift] at h hs <;> first
   | (cases hs; done)
   | (cases h; exact ⟨_, fun _ => .int _ _, fun w x y => by simp [eqGuard, binOp, Op.shift, hb]⟩)
theorem ba_toList (s : List UInt8) : (⟨s.toArray⟩ : ByteArray).toList = s := by
 rw [ByteArray.toList_eq]
theorem ba_append (a b : List UInt8) : (⟨a.toArray⟩ : ByteArray) ++ ⟨b.toArray⟩ = ⟨(a ++ b).toArray⟩ := by
 apply ByteArray.ext
 simp
theorem ba_size (s : List UInt8) : (⟨s.toArray⟩ : ByteArray).size = s.length := by simp [ByteArray.size]
theorem str_ok {op : BinOp} {a b : List UInt8} {t : TypeId} (hs : isShift op = false) (h : strOp op a b = some d) :
  ∃ v, (∀ G, V G d v) ∧ ∀ w x y, (do eqGuard op t x y (.string ⟨a.toArray⟩) (.string ⟨b.toArray⟩); binOp op t (.string ⟨a.toArray⟩) (.string ⟨b.toArray⟩)).run P w = .ok v w := by
 cases op <;> simp only [strOp, isShift] at h hs <;> first
  | (cases hs; done)
  | (cases h; exact ⟨_, fun _ => .bool _, fun w x y => by simp [eqGuard, binOp, Op.stringOp, ba_toList]⟩)
  | (cases h; done)
  | (split at h
     ·cases h
     ·rename_i hb
      cases h
      refine ⟨.string ⟨(a ++ b).toArray⟩, fun _ => .str _, fun w x y => ?_⟩
      have hm : IntKind.i64.max = 9223372036854775807 := by decide
      simp only [eqGuard, binOp, Op.stringOp, ba_size, hm]
      simp only [Sem.run_bind, Sem.run_ite, hb, if_false, ba_append]
      rfl)
theorem eqOp_ok {op : BinOp} {b : Bool} {t : TypeId} {va vb : Value} (h : eqOp op b = some d)
  (hg : ∀ w x y, (eqGuard op t x y va vb).run P w = .ok () w) (he : ∀ w, (Op.equal t va vb).run P w = .ok b w)
  (hb : op = .eql ∨ op = .neq → ∀ w, (binOp op t va vb).run P w = ((Op.equal t va vb).run P w).andThen fun r w' => .ok (.bool (if op = .eql then r else !r)) w') :
  ∃ v, (∀ G, V G d v) ∧ ∀ w x y, (do eqGuard op t x y va vb; binOp op t va vb).run P w = .ok v w := by
 cases op <;> simp only [eqOp] at h <;> first
  | (cases h; done)
  | (cases h; exact ⟨_, fun _ => .bool _, fun w x y => by simp [hg, hb, he]⟩)
theorem eq_bool_in (d : Nat) {t : TypeId} {a b : Bool} (h : P.underlying t = some .bool) (w : World) : (Op.equalIn (d + 1) t (.bool a) (.bool b)).run P w = .ok (a == b) w := by
 simp only [Op.equalIn, Sem.run_bind, run_underlying h, Result.andThen_ok]; rfl
theorem eq_bool {t : TypeId} {a b : Bool} (h : P.underlying t = some .bool) (w : World) : (Op.equal t (.bool a) (.bool b)).run P w = .ok (a == b) w := eq_bool_in 9999 h w
theorem eq_ptr0_in (d : Nat) {t e : TypeId} {b : Option Addr} (h : P.underlying t = some (.pointer e)) (w : World) : (Op.equalIn (d + 1) t (.pointer none) (.pointer b)).run P w = .ok b.isNone w := by
 simp only [Op.equalIn, Sem.run_bind, run_underlying h, Result.andThen_ok]; cases b <;> rfl
theorem eq_ptr0 {t e : TypeId} {b : Option Addr} (h : P.underlying t = some (.pointer e)) (w : World) : (Op.equal t (.pointer none) (.pointer b)).run P w = .ok b.isNone w := eq_ptr0_in 9999 h w
theorem eq_ptr1_in (d : Nat) {t e : TypeId} {b : Addr} (h : P.underlying t = some (.pointer e)) (w : World) : (Op.equalIn (d + 1) t (.pointer (some b)) (.pointer none)).run P w = .ok false w := by
 simp only [Op.equalIn, Sem.run_bind, run_underlying h, Result.andThen_ok]; rfl
theorem eq_ptr1 {t e : TypeId} {b : Addr} (h : P.underlying t = some (.pointer e)) (w : World) : (Op.equal t (.pointer (some b)) (.pointer none)).run P w = .ok false w := eq_ptr1_in 9999 h w
theorem eq_ptr2_in (d : Nat) {t e : TypeId} {B s o o' : Nat} (h : P.underlying t = some (.pointer e)) (hs : ∀ w, ∃ n, (sizeOf e).run P w = .ok n w ∧ n ≠ 0) (w : World) :
  (Op.equalIn (d + 1) t (.pointer (some ⟨B, s + o, none⟩)) (.pointer (some ⟨B, s + o', none⟩))).run P w = .ok (o == o') w := by
 obtain ⟨n, h1, h2⟩ := hs w
 simp only [Op.equalIn, Sem.run_bind, run_underlying h, Result.andThen_ok, h1, h2, ne_eq, not_false_eq_true, if_true]
 simp [sameAddr]
 have he : (⟨B, s + o, none⟩ : Addr) = ⟨B, s + o', none⟩ ↔ o = o' := by simp
 by_cases h : o = o'
 ·simp [h]
 ·rw [beq_eq_false_iff_ne.2 h, beq_eq_false_iff_ne.2 fun e => h (he.1 e)]
theorem eq_ptr2 {t e : TypeId} {B s o o' : Nat} (h : P.underlying t = some (.pointer e)) (hs : ∀ w, ∃ n, (sizeOf e).run P w = .ok n w ∧ n ≠ 0) (w : World) :
  (Op.equal t (.pointer (some ⟨B, s + o, none⟩)) (.pointer (some ⟨B, s + o', none⟩))).run P w = .ok (o == o') w := eq_ptr2_in 9999 h hs w
theorem eq_sl0_in (d : Nat) {t e : TypeId} {b : Option Addr} {n m : Nat} (h : P.underlying t = some (.slice e)) (w : World) : (Op.equalIn (d + 1) t (.slice none 0 0) (.slice b n m)).run P w = .ok b.isNone w := by
 simp only [Op.equalIn, Sem.run_bind, run_underlying h, Result.andThen_ok]; cases b <;> rfl
theorem eq_sl0 {t e : TypeId} {b : Option Addr} {n m : Nat} (h : P.underlying t = some (.slice e)) (w : World) : (Op.equal t (.slice none 0 0) (.slice b n m)).run P w = .ok b.isNone w := eq_sl0_in 9999 h w
theorem eq_sl1_in (d : Nat) {t e : TypeId} {b : Addr} {n m : Nat} (h : P.underlying t = some (.slice e)) (w : World) : (Op.equalIn (d + 1) t (.slice (some b) n m) (.slice none 0 0)).run P w = .ok false w := by
 simp only [Op.equalIn, Sem.run_bind, run_underlying h, Result.andThen_ok]; rfl
theorem eq_sl1 {t e : TypeId} {b : Addr} {n m : Nat} (h : P.underlying t = some (.slice e)) (w : World) : (Op.equal t (.slice (some b) n m) (.slice none 0 0)).run P w = .ok false w := eq_sl1_in 9999 h w
theorem eq_fn0_in (d : Nat) {t : TypeId} {x y : Array TypeId} {z : Bool} (h : P.underlying t = some (.func x y z)) (w : World) : (Op.equalIn (d + 1) t .nilFunc .nilFunc).run P w = .ok true w := by
 simp only [Op.equalIn, Sem.run_bind, run_underlying h, Result.andThen_ok]; rfl
theorem eq_fn0 {t : TypeId} {x y : Array TypeId} {z : Bool} (h : P.underlying t = some (.func x y z)) (w : World) : (Op.equal t .nilFunc .nilFunc).run P w = .ok true w := eq_fn0_in 9999 h w
theorem eq_fn1_in (d : Nat) {t : TypeId} {x y : Array TypeId} {z : Bool} {f : Fn} {u v : Array Value} (h : P.underlying t = some (.func x y z)) (w : World) : (Op.equalIn (d + 1) t (.func f u v) .nilFunc).run P w = .ok false w := by
 simp only [Op.equalIn, Sem.run_bind, run_underlying h, Result.andThen_ok]; rfl
theorem eq_fn1 {t : TypeId} {x y : Array TypeId} {z : Bool} {f : Fn} {u v : Array Value} (h : P.underlying t = some (.func x y z)) (w : World) : (Op.equal t (.func f u v) .nilFunc).run P w = .ok false w := eq_fn1_in 9999 h w
theorem eq_if0_in (d : Nat) {t : TypeId} {ms : Array (String × TypeId)} (h : P.underlying t = some (.interface ms)) (w : World) : (Op.equalIn (d + 1) t .nilIface .nilIface).run P w = .ok true w := by
 simp only [Op.equalIn, Sem.run_bind, run_underlying h, Result.andThen_ok]; rfl
theorem eq_if0 {t : TypeId} {ms : Array (String × TypeId)} (h : P.underlying t = some (.interface ms)) (w : World) : (Op.equal t .nilIface .nilIface).run P w = .ok true w := eq_if0_in 9999 h w
theorem eq_if1_in (d : Nat) {t u : TypeId} {v : Value} {ms : Array (String × TypeId)} (h : P.underlying t = some (.interface ms)) (w : World) : (Op.equalIn (d + 1) t (.iface u v) .nilIface).run P w = .ok false w := by
 simp only [Op.equalIn, Sem.run_bind, run_underlying h, Result.andThen_ok]; rfl
theorem eq_if1 {t u : TypeId} {v : Value} {ms : Array (String × TypeId)} (h : P.underlying t = some (.interface ms)) (w : World) : (Op.equal t (.iface u v) .nilIface).run P w = .ok false w := eq_if1_in 9999 h w
theorem guard_ok {op : BinOp} {t : TypeId} {x y : Operand} {a b : Value} (h1 : ∀ u v, a = .agg u → b = .agg v → False) (h2 : a = .nilIface → b = .nilIface → isConstO x = true ∨ isConstO y = true) (w : World) :
  (eqGuard op t x y a b).run P w = .ok () w := by
 unfold eqGuard
 cases op <;> simp only [Bool.not_false, Bool.not_true, if_true, Bool.false_eq_true, if_false] <;> first | rfl | skip
 all_goals
  split
  ·rename_i e1 e2
   have := h2 rfl rfl
   cases x <;> cases y <;> first
    | rfl
    | (simp [isConstO] at this; done)
  ·exact (h1 _ _ rfl rfl).elim
  ·rfl
theorem bin_ok (TO : TabOk P T) (r : Rel G H w) {op : BinOp} {t : TypeId} {x y : Operand} {a b : DV} {va vb : Value} (ha : V G a va) (hb : V G b vb)
  (h : binD T op t x y a b = some d) : GoodV P G H w H d ((do eqGuard op t x y va vb; binOp op t va vb).run P w) := by
 have fin : (∃ v, (∀ G, V G d v) ∧ ∀ w x y, (do eqGuard op t x y va vb; binOp op t va vb).run P w = .ok v w) →
   GoodV P G H w H d ((do eqGuard op t x y va vb; binOp op t va vb).run P w) := fun ⟨v, h1, h2⟩ => good_ok r (h1 G) (h2 w x y)
 unfold binD at h
 split at h
 ·cases ha; cases hb
  split at h
  ·rename_i hs; exact fin (shift_ok hs h)
  ·rename_i hs
   split at h
   ·rename_i hk; subst hk; exact fin (int_ok (by simpa using hs) h)
   ·cases h
 ·cases ha; cases hb
  split at h
  ·cases h
  ·rename_i hs; exact fin (str_ok (by simpa using hs) h)
 ·cases ha; cases hb
  split at h
  ·rename_i e
   exact fin (eqOp_ok h (fun w x y => guard_ok (by simp) (by simp) w) (eq_bool (TO.und _ _ e)) (by rintro (rfl | rfl) <;> intro w <;> simp [binOp]))
  ·cases h
 ·cases ha; cases hb
  split at h
  ·rename_i e
   exact fin (eqOp_ok h (fun w x y => guard_ok (by simp) (by simp) w) (eq_ptr0 (TO.und _ _ e)) (by rintro (rfl | rfl) <;> intro w <;> simp [binOp]))
  ·cases h
 ·cases ha; cases hb
  split at h
  ·rename_i e
   exact fin (eqOp_ok h (fun w x y => guard_ok (by simp) (by simp) w) (eq_ptr0 (TO.und _ _ e)) (by rintro (rfl | rfl) <;> intro w <;> simp [binOp]))
  ·cases h
 ·cases ha; cases hb
  split at h
  ·rename_i e
   exact fin (eqOp_ok h (fun w x y => guard_ok (by simp) (by simp) w) (eq_ptr1 (TO.und _ _ e)) (by rintro (rfl | rfl) <;> intro w <;> simp [binOp]))
  ·cases h
 ·rename_i b o b' o'
  split at h
  ·rename_i e1 e
   split at h
   ·rename_i n e2
    split at h
    ·rename_i hc
     obtain ⟨rfl, hn⟩ := hc
     cases ha with
     | ptr h1 =>
      cases hb with
      | ptr h2 =>
       rw [h1] at h2
       cases h2
       exact fin (eqOp_ok h (fun w x y => guard_ok (by simp) (by simp) w) (eq_ptr2 (TO.und _ _ e) (by
        intro w
        obtain ⟨i, i1, i2⟩ := TO.size _ _ e2
        exact ⟨n, by simp [sizeOf, typeInfo, i1, i2], hn⟩)) (by rintro (rfl | rfl) <;> intro w <;> simp [binOp]))
    ·cases h
   ·cases h
  ·cases h
 ·cases ha; cases hb
  split at h
  ·rename_i e
   exact fin (eqOp_ok h (fun w x y => guard_ok (by simp) (by simp) w) (eq_sl0 (TO.und _ _ e)) (by rintro (rfl | rfl) <;> intro w <;> simp [binOp]))
  ·cases h
 ·cases ha; cases hb
  split at h
  ·rename_i e
   exact fin (eqOp_ok h (fun w x y => guard_ok (by simp) (by simp) w) (eq_sl0 (TO.und _ _ e)) (by rintro (rfl | rfl) <;> intro w <;> simp [binOp]))
  ·cases h
 ·cases ha; cases hb
  split at h
  ·rename_i e
   exact fin (eqOp_ok h (fun w x y => guard_ok (by simp) (by simp) w) (eq_sl1 (TO.und _ _ e)) (by rintro (rfl | rfl) <;> intro w <;> simp [binOp]))
  ·cases h
 ·cases ha; cases hb
  split at h
  ·rename_i e
   exact fin (eqOp_ok h (fun w x y => guard_ok (by simp) (by simp) w) (eq_sl0 (TO.und _ _ e)) (by rintro (rfl | rfl) <;> intro w <;> simp [binOp]))
  ·cases h
 ·cases ha; cases hb
  split at h
  ·rename_i e
   exact fin (eqOp_ok h (fun w x y => guard_ok (by simp) (by simp) w) (eq_sl1 (TO.und _ _ e)) (by rintro (rfl | rfl) <;> intro w <;> simp [binOp]))
  ·cases h
 ·cases ha; cases hb
  split at h
  ·rename_i e
   exact fin (eqOp_ok h (fun w x y => guard_ok (by simp) (by simp) w) (eq_fn0 (TO.und _ _ e)) (by rintro (rfl | rfl) <;> intro w <;> simp [binOp]))
  ·cases h
 ·cases ha; cases hb
  split at h
  ·rename_i e
   exact fin (eqOp_ok h (fun w x y => guard_ok (by simp) (by simp) w) (eq_fn1 (TO.und _ _ e)) (by rintro (rfl | rfl) <;> intro w <;> simp [binOp]))
  ·cases h
 ·cases ha; cases hb
  split at h
  ·rename_i e
   split at h
   ·rename_i hc
    have hc' : isConstO x = true ∨ isConstO y = true := by simpa using hc
    have hg := guard_ok (P := P) (op := op) (t := t) (x := x) (y := y) (a := .nilIface) (b := .nilIface) (by simp) (fun _ _ => hc') w
    cases op <;> simp only [eqOp] at h <;> first
     | (cases h; done)
     | (cases h; exact good_ok r (.bool _) (by simp [hg, binOp, eq_if0 (TO.und _ _ e)]))
   ·cases h
  ·cases h
 ·cases ha; cases hb
  split at h
  ·rename_i e
   exact fin (eqOp_ok h (fun w x y => guard_ok (by simp) (by simp) w) (eq_if1 (TO.und _ _ e)) (by rintro (rfl | rfl) <;> intro w <;> simp [binOp]))
  ·cases h
 ·split at h
  ·rename_i ks hf
   split at h
   ·rename_i bb hcb
    cases ha with
    | agg hl1 hv1 =>
     cases hb with
     | agg hl2 hv2 =>
      have := TO.flatEq t ks hf G _ _ _ _ w bb x y ⟨hl1, hv1⟩ ⟨hl2, hv2⟩ hcb
      cases op <;> simp only [eqOp] at h <;> first
       | (cases h; done)
       | (cases h; exact good_ok r (.bool _) this.1)
       | (cases h; exact good_ok r (.bool _) this.2)
   ·cases h
  ·cases h
 ·cases h
theorem un_ok (r : Rel G H w) {op : UnOp} {a : DV} {va : Value} (ha : V G a va) (h : unD op a = some d) : GoodV P G H w H d ((Op.unary op va).run P w) := by
 unfold unD at h
 split at h
 ·cases ha; cases h; exact good_ok r (.int _ _) (by simp [Op.unary, Op.intArith])
 ·cases ha; cases h; exact good_ok r (.int _ _) (by simp [Op.unary, Op.intBits])
 ·cases ha; cases h; exact good_ok r (.bool _) (by simp [Op.unary])
 ·cases h
theorem ba_get (s : List UInt8) (i : Nat) : (⟨s.toArray⟩ : ByteArray)[i]? = s[i]? := by
 by_cases h : i < s.length
 ·have h1 : i < (⟨s.toArray⟩ : ByteArray).size := by rw [ba_size]; exact h
  rw [getElem?_pos (⟨s.toArray⟩ : ByteArray) i h1, List.getElem?_eq_getElem h]
  rfl
 ·have h1 : ¬ i < (⟨s.toArray⟩ : ByteArray).size := by rw [ba_size]; exact h
  rw [getElem?_neg (⟨s.toArray⟩ : ByteArray) i h1, List.getElem?_eq_none (by omega)]
end
end Go.Proofs.YtcknfhhbijlobaaGreatDoor.D
namespace Go.Proofs.YtcknfhhbijlobaaGreatDoor.D
open Go
set_option linter.unusedVariables false
set_option linter.unusedSimpArgs false
section
variable {P : Program} {T : Tab} {G : Ghost} {H H' : DH} {w : World} {d : DV}
theorem alloc_ok (TO : TabOk P T) (r : Rel G H w) {e : TypeId} {z : DV} (hz : T.zero e = some z) :
  GoodV P G H w (H.new (.cells e z.cells)) (.ptr H.next 0) ((Instr.alloc e true (.tuple #[])).run P w) := by
 obtain ⟨i, v, h1, h2, h3⟩ := TO.zero _ _ hz
 have hs := Step.newBlock r (.cells v.cells e) (.cells e z.cells) 0 (fun T n cl => by simp) (fun T cs => by simp) (fun T cs h => by
  cases h
  exact ⟨[], v.cells.toList, [], e, (0, 0), by simp, rfl, (h3 G).cells, by simp, rfl, rfl, rfl⟩) (fun s pos h => by cases h) (fun es h => by cases h)
 have hrun : (Instr.alloc e true (.tuple #[])).run P w = .ok (.pointer (some ⟨w.heap.size, 0, none⟩)) (w.alloc (.cells v.cells e)) := by
  simp [Instr.alloc, zeroValue, typeInfo, h1, h2, newVar, newRow]
 rw [hrun]
 exact ⟨_, by have := V.ptr (off := 0) hs.2; simpa using this, hs.1⟩
theorem box_ok (r : Rel G H w) {e : TypeId} {x : DV} {vx : Value} (hv : V G x vx) :
  GoodV P G H w (H.new (.cells e x.cells)) (.ptr H.next 0) ((Instr.box e vx).run P w) := by
 have hs := Step.newBlock r (.cells vx.cells e) (.cells e x.cells) 0 (fun T n cl => by simp) (fun T cs => by simp) (fun T cs h => by
  cases h
  exact ⟨[], vx.cells.toList, [], e, (0, 0), by simp, rfl, hv.cells, by simp, rfl, rfl, rfl⟩) (fun s pos h => by cases h) (fun es h => by cases h)
 have hrun : (Instr.box e vx).run P w = .ok (.pointer (some ⟨w.heap.size, 0, none⟩)) (w.alloc (.cells vx.cells e)) := by
  simp [Instr.box, newVar, newRow]
 rw [hrun]
 exact ⟨_, by have := V.ptr (off := 0) hs.2; simpa using this, hs.1⟩
theorem nilCheck_ok (r : Rel G H w) {a : DV} {va : Value} (hv : V G a va) (h : a = d) (hk : (∃ b o, a = .ptr b o) ∨ (∃ cs, a = .ip cs) ∨ ∃ f x y, a = .fn (.func f) x y) (x : Operand) (ρ : Operand → Value) (hx : ρ x = va) (ty : TypeId) (pos : String) (after : Array Edge) (g : Option (Nat × Bool)) (dst : Option Tmp) :
  Good P G H w H d ((execOp ρ { dst := dst, op := .nilCheck x, type := ty, pos := pos, after := after, guard := g }).run P w) := by
 subst h
 simp only [execOp, hx]
 rcases hk with ⟨b, o, rfl⟩ | ⟨cs, rfl⟩ | ⟨f, x, y, rfl⟩
 ·cases hv with
  | ptr h => exact ⟨G, .ptr h, .refl r⟩
 ·cases hv with
  | ip h1 h2 h3 => exact ⟨G, .ip h1 h2 h3, .refl r⟩
 ·cases hv with
  | fn h1 h2 h3 h4 => exact ⟨G, .fn h1 h2 h3 h4, .refl r⟩
theorem fieldAt_ok (TO : TabOk P T) (r : Rel G H w) {s : TypeId} {a : DV} {va : Value} {f : Nat} (hv : V G a va) (h : fieldAtD T s a f = some d) :
  GoodV P G H w H d ((Instr.fieldAt s va f).run P w) := by
 unfold fieldAtD at h
 split at h
 ·rename_i fs e1
  split at h
  ·rename_i fd e2
   split at h
   ·rename_i n e3
    split at h
    ·cases h
    ·rename_i hn
     split at h
     ·cases hv with
      | ptr hρ =>
       cases h
       refine good_ok r (V.ptr hρ) ?_
       simp [Instr.fieldAt, run_underlying (TO.und _ _ e1), e2, Instr.sureAddr, fieldPlace, run_sizeOf' TO e3, hn, addr_add, Nat.add_assoc]
     ·cases hv with
      | ip h1 h2 h3 =>
       rename_i cs _ vs B o
       cases h
       refine good_ok r (V.ip (vs := vs.drop fd.offset) (B := B) (o := o + fd.offset) (by simp [h1]) (fun i v hi => ?_) (fun i d v a b => h3 (fd.offset + i) d v (by simpa using a) (by simpa using b))) ?_
       ·rw [Nat.add_assoc]; exact h2 _ _ (by simpa using hi)
       ·simp [Instr.fieldAt, run_underlying (TO.und _ _ e1), e2, Instr.sureAddr, fieldPlace, run_sizeOf' TO e3, hn, addr_add]
     ·cases h
   ·cases h
  ·cases h
 ·cases h
theorem part_ok (TO : TabOk P T) (r : Rel G H w) {t : TypeId} {td : TypeDesc} {n off : Nat} {cs : List DV} {vs : List Value} (e1 : T.und t = some td) (e2 : T.size t = some n) (hv : VL G cs vs)
  (h : takeVar (isAggD td) n (cs.drop off) = some d) : GoodV P G H w H d ((part t vs.toArray off).run P w) := by
 unfold takeVar at h
 by_cases hg : isAggD td = true
 ·rw [if_pos hg] at h
  split at h
  ·rename_i hn
   cases h
   have := (hv.drop off).take n
   refine good_ok r (V.agg this.1 this.2) ?_
   simp only [part, Sem.run_bind, run_isAgg TO e1, hg, Result.andThen_ok, if_true, run_sizeOf' TO e2, Sem.run_pure]
   congr 2
   apply Array.toList_inj.1
   simp [List.take_drop]
   try rw [List.drop_take]
   try (congr 1; omega)
  ·cases h
 ·rw [if_neg hg] at h
  obtain ⟨v, h1, h2⟩ := (hv.drop off).head h
  refine good_ok r h2 ?_
  have h3 : vs[off]? = some v := by simpa using h1
  simp [part, run_isAgg TO e1, hg, h3]
theorem field_ok (TO : TabOk P T) (r : Rel G H w) {s : TypeId} {a : DV} {va : Value} {f : Nat} (hv : V G a va) (h : fieldD T s a f = some d) :
  GoodV P G H w H d ((Instr.field s va f).run P w) := by
 unfold fieldD at h
 split at h
 ·rename_i fs cs e1
  split at h
  ·rename_i fd e2
   split at h
   ·rename_i td n e3 e4
    cases hv with
    | agg hl hv =>
     have := part_ok (P := P) TO r e3 e4 ⟨hl, hv⟩ h
     simpa [Instr.field, run_underlying (TO.und _ _ e1), e2, asAgg] using this
   ·cases h
  ·cases h
 ·cases h
theorem flat_get {sz : Nat} {es : List DV} (he : ∀ e ∈ es, e.cells.length = sz) {i : Nat} {e : DV} (h : es[i]? = some e) : ∃ a b, flat es = a ++ e.cells ++ b ∧ a.length = i * sz := by
 induction es generalizing i with
 | nil => simp at h
 | cons x es ih =>
  cases i with
  | zero =>
   simp at h; subst h
   exact ⟨[], flat es, by simp [flat], by simp⟩
  | succ i =>
   simp at h
   obtain ⟨a, b, h1, h2⟩ := ih (fun y hy => he y (by simp [hy])) h
   refine ⟨x.cells ++ a, b, by simp [flat, h1], ?_⟩
   rw [List.length_append, he x (by simp), h2, Nat.add_mul]; omega
theorem indexAt_ok (TO : TabOk P T) (r : Rel G H w) {t : TypeId} {x i : DV} {vx vi : Value} (hx : V G x vx) (hi : V G i vi) (h : indexAtD T t x i = some d) :
  GoodV P G H w H d ((Instr.indexAt t vx vi).run P w) := by
 unfold indexAtD at h
 split at h
 ·rename_i e id sz off es k n e1
  split at h
  ·rename_i hc
   obtain ⟨hc1, hc2⟩ := hc
   split at h
   ·rename_i v hv
    cases h
    cases hi
    cases hx with
    | sl hsz he ho hl him hvv hn hcap hp =>
     rename_i vs B o cap len
     obtain ⟨a, b, h1, h2⟩ := flat_get he hv
     have hlt := (List.getElem?_eq_some_iff.1 hv).1
     have hw : (0 : Int) ≤ n ∧ n < (len : Int) := by omega
     refine good_ok r (V.ip (vs := (vs.drop (n.toNat * sz)).take v.cells.length) (B := B) (o := o + n.toNat * sz) ?_ ?_ ?_) ?_
     ·have : vs.length = (flat es).length := hl.symm
      rw [List.length_take, List.length_drop, this, h1]
      simp [h2]
     ·intro j u hj
      rw [List.getElem?_take] at hj
      split at hj
      ·rw [Nat.add_assoc]; exact him _ _ (by simpa using hj)
      ·cases hj
     ·intro j d u hj hu
      rw [List.getElem?_take] at hu
      split at hu
      ·refine hvv (n.toNat * sz + j) d u ?_ (by simpa using hu)
       rw [h1, List.append_assoc, List.getElem?_append_right (by omega), h2, Nat.add_sub_cancel_left, List.getElem?_append_left (List.getElem?_eq_some_iff.1 hj).1]
       exact hj
      ·cases hu
     ·simp [Instr.indexAt, asIntOf, run_underlying (TO.und _ _ e1), hw, run_sizeOf' TO hc1, addr_add]
   ·cases h
  ·cases h
 ·rename_i e b sz off len k n e1
  split at h
  ·rename_i hc
   obtain ⟨hc1, hc2, hc3⟩ := hc
   cases h
   cases hi
   cases hx with
   | hs hρ hcap hp =>
    rename_i B s o cap
    have ho : o = s + off := by
     rcases hp with h | h
     ·omega
     ·exact h.1
    subst ho
    refine good_ok r (V.ptr hρ) ?_
    simp [Instr.indexAt, asIntOf, run_underlying (TO.und _ _ e1), hc2, hc3, run_sizeOf' TO hc1, addr_add, Nat.add_assoc]
  ·cases h
 ·rename_i len e b off k n e1
  split at h
  ·rename_i sz e2
   split at h
   ·rename_i hc
    cases h
    cases hi
    cases hx with
    | ptr hρ =>
     refine good_ok r (V.ptr hρ) ?_
     simp [Instr.indexAt, asIntOf, run_underlying (TO.und _ _ e1), hc, run_sizeOf' TO e2, addr_add, Nat.add_assoc, Instr.sureAddr]
   ·cases h
  ·cases h
 ·cases h
theorem index_ok (TO : TabOk P T) (r : Rel G H w) {t : TypeId} {x i : DV} {vx vi : Value} (hx : V G x vx) (hi : V G i vi) (h : indexD T t x i = some d) :
  GoodV P G H w H d ((Instr.index t vx vi).run P w) := by
 unfold indexD at h
 split at h
 ·rename_i s k n e1
  split at h
  ·rename_i hc
   split at h
   ·rename_i b hb
    cases h
    cases hi
    cases hx
    refine good_ok r (V.int .u8 _) ?_
    simp [Instr.index, asIntOf, run_underlying (TO.und _ _ e1), hc, ba_get, hb]
   ·cases h
  ·cases h
 ·rename_i len e cs k n e1
  split at h
  ·rename_i td sz e2 e3
   split at h
   ·rename_i hc
    cases hi
    cases hx with
    | agg hl hv =>
     have := part_ok (P := P) TO r e2 e3 ⟨hl, hv⟩ h
     simpa [Instr.index, asIntOf, run_underlying (TO.und _ _ e1), hc, run_sizeOf' TO e3] using this
   ·cases h
  ·cases h
 ·cases h
theorem extract_ok (r : Rel G H w) {x : List DV} {vx : Value} {i : Nat} (hx : V G (.tup x) vx) (h : x[i]? = some d) : GoodV P G H w H d ((Instr.extract vx i).run P w) := by
 cases hx with
 | tup hl hv =>
  obtain ⟨v, h1, h2⟩ := VL.get ⟨hl, hv⟩ h
  exact good_ok r h2 (by simp [Instr.extract, h1])
theorem makeFunc_ok (r : Rel G H w) {f : Fn} {a b : List DV} {x y : List Value} (ha : VL G a x) (hb : VL G b y) : GoodV P G H w H (.fn f a b) ((Instr.makeFunc f x.toArray y.toArray).run P w) :=
 good_ok r (.fn ha.1 hb.1 ha.2 hb.2) rfl
theorem len_ok (TO : TabOk P T) (r : Rel G H w) {t ty : TypeId} {x : DV} {vx : Value} {rest : List TypeId} (hx : V G x vx) (h : lenD T H t x = some d) :
  GoodV P G H w H d ((Builtin.len_ (t :: rest).toArray ty #[vx]).run P w) := by
 unfold lenD at h
 split at h
 ·split at h
  ·rename_i e; cases h; cases hx
   exact good_ok r (.int _ _) (by simp [Builtin.len_, run_underlying (TO.und _ _ e), goInt, ba_size])
  ·cases h
 ·split at h
  ·rename_i e; cases h; cases hx
   exact good_ok r (.int _ _) (by simp [Builtin.len_, run_underlying (TO.und _ _ e), goInt])
  ·cases h
 ·split at h
  ·rename_i e; cases h
   cases hx with
   | sl hsz he ho hl him hvv hn hcap hp =>
    subst hn
    exact good_ok r (.int _ _) (by simp [Builtin.len_, run_underlying (TO.und _ _ e), goInt])
  ·cases h
 ·split at h
  ·rename_i e; cases h; cases hx
   exact good_ok r (.int _ _) (by simp [Builtin.len_, run_underlying (TO.und _ _ e), goInt])
  ·cases h
 ·split at h
  ·rename_i e; cases h; cases hx
   exact good_ok r (.int _ _) (by simp [Builtin.len_, run_underlying (TO.und _ _ e), goInt])
  ·cases h
 ·split at h
  ·rename_i es e hm
   cases h
   cases hx with
   | mp hρ =>
    obtain ⟨h1, ⟨ms, clk, h2, h3, h4⟩, h5⟩ := r.maps _ _ hm _ _ hρ
    have hlen : ms.size = es.length := by have := h3.1; simpa using this.symm
    refine good_ok r (.int _ _) ?_
    simp [Builtin.len_, run_underlying (TO.und _ _ e), goInt, getObj, Sem.run, h2, hlen]
  ·cases h
 ·cases h
theorem max_ok (r : Rel G H w) {x y : DV} {vx vy : Value} {ts : Array TypeId} {ty : TypeId} (hx : V G x vx) (hy : V G y vy) (h : maxD x y = some d) : GoodV P G H w H d ((Builtin.max_ ts ty #[vx, vy]).run P w) := by
 unfold maxD at h
 split at h
 ·cases h; cases hx; cases hy
  refine good_ok r (.int _ _) ?_
  simp [Builtin.max_, Builtin.max2]
 ·cases h
theorem min_ok (r : Rel G H w) {x y : DV} {vx vy : Value} {ts : Array TypeId} {ty : TypeId} (hx : V G x vx) (hy : V G y vy) (h : minD x y = some d) : GoodV P G H w H d ((Builtin.min_ ts ty #[vx, vy]).run P w) := by
 unfold minD at h
 split at h
 ·cases h; cases hx; cases hy
  refine good_ok r (.int _ _) ?_
  simp [Builtin.min_, Builtin.min2]
 ·cases h
theorem range_ok (TO : TabOk P T) (r : Rel G H w) {t : TypeId} {x : DV} {vx : Value} (hx : V G x vx) (h : rangeD T t x H = some (d, H')) : GoodV P G H w H' d ((Instr.range t vx).run P w) := by
 unfold rangeD at h
 split at h
 ·rename_i s e
  cases h
  cases hx
  have hs := Step.newBlock r (.stringIter ⟨s.toArray⟩ 0) (.iter s 0) 0 (fun T n cl => by simp) (fun T cs => by simp) (fun T cs h => by cases h) (fun s pos h => by cases h; exact ⟨rfl, rfl⟩) (fun es h => by cases h)
  have hrun : (Instr.range t (.string ⟨s.toArray⟩)).run P w = .ok (.pointer (some ⟨w.heap.size, 0, none⟩)) (w.alloc (.stringIter ⟨s.toArray⟩ 0)) := by
   simp [Instr.range, run_underlying (TO.und _ _ e)]
  rw [hrun]
  exact ⟨_, by have := V.ptr (off := 0) hs.2; simpa using this, hs.1⟩
 ·cases h
theorem next_ok (r : Rel G H w) {it : DV} {vi : Value} {b : Bool} {ty : TypeId} (hi : V G it vi) (h : nextD it b H = some (d, H')) : GoodV P G H w H' d ((Instr.next vi b ty).run P w) := by
 unfold nextD at h
 split at h
 ·rename_i b
  split at h
  ·rename_i s pos hm
   cases hi with
   | ptr hρ =>
    rename_i B s0
    obtain ⟨rfl, h2, h3⟩ := r.iters b s pos hm B s0 hρ
    split at h
    ·rename_i hp
     cases h
     have hown : ownR G H b = some B := by simp [ownR, hm, hρ]
     have hs := Step.setBlk r b B (.stringIter ⟨s.toArray⟩ (pos + (Utf8.decode ⟨s.toArray⟩ pos).2)) (.iter s (pos + (Utf8.decode ⟨s.toArray⟩ pos).2)) hown (fun T n cl => by rw [hm]; simp) (fun T n cl => by simp)
      (fun T cs h => by cases h) (fun T cs h => by cases h) (fun s' pos' h x hx => by cases h; rw [hρ] at hx; cases hx; exact ⟨rfl, rfl⟩) (fun es h => by cases h)
     have hrun : (Instr.next (.pointer (some ⟨B, 0 + 0, none⟩)) true ty).run P w = .ok (.tuple #[.bool true, .int .i64 pos, .int .i32 (Utf8.decode ⟨s.toArray⟩ pos).1]) (putBlk w B (.stringIter ⟨s.toArray⟩ (pos + (Utf8.decode ⟨s.toArray⟩ pos).2))) := by
      simp [Instr.next, getObj, setObj, Sem.run, h2, ba_size, hp, goInt, putBlk]
     rw [hrun]
     exact ⟨G, V.tup (vs := [_, _, _]) rfl (VL.cons (.bool _) (.cons (.int _ _) (.cons (.int _ _) (.nil _)))).2, hs⟩
    ·rename_i hp
     cases h
     refine good_ok r (V.tup (vs := [_]) rfl (VL.cons (.bool false) (.nil _)).2) ?_
     simp [Instr.next, getObj, Sem.run, h2, ba_size, hp]
  ·cases h
 ·cases h
end
end Go.Proofs.YtcknfhhbijlobaaGreatDoor.D
namespace Go.Proofs.YtcknfhhbijlobaaGreatDoor.D
open Go
set_option linter.unusedVariables false
set_option linter.unusedSimpArgs false
section
variable {P : Program} {T : Tab} {G : Ghost} {H H' : DH} {w : World} {d : DV}
theorem DH.set_self {H : DH} {b : Nat} {o : DObj} (h : H.m b = some o) : H.set b o = H := by
 unfold DH.set
 cases H with
 | mk next m =>
  congr 1
  funext i
  split
  ·rename_i e; subst e; exact h.symm
  ·rfl
theorem flat_bytes (l : List UInt8) : flat (l.map byteDV) = l.map byteDV := by
 induction l with
 | nil => rfl
 | cons b l ih => simp [flat, byteDV, DV.cells, ih]
theorem VL_bytes (G : Ghost) (l : List UInt8) : VL G (l.map byteDV) (l.map fun b => Value.int .u8 (b.toNat : Int)) := by
 induction l with
 | nil => exact .nil _
 | cons b l ih => exact .cons (.int _ _) ih
theorem ones_bytes (l : List UInt8) : (flat (l.map byteDV)).all DV.one = true := by
 rw [flat_bytes]; simp [byteDV, DV.one]
theorem firstCells_slice {n m : Nat} {B o cap : Nat} {nv : List Value} (hl : nv.length = m * n) (h : ∀ (i : Nat) (v : Value), nv[i]? = some v → w.cell? ⟨B, o + i, none⟩ = some v) :
  (Builtin.firstCells n m (.slice (some ⟨B, o, none⟩) m cap)).run P w = .ok nv.toArray w := by
 have := run_loadCells_list (P := P) w ⟨B, o, none⟩ nv (fun j v hj => by rw [addr_add]; exact h j v hj)
 rw [hl] at this
 simpa [Builtin.firstCells] using this
theorem elems_ok (r : Rel G H w) {n : Nat} {x : DV} {vx : Value} {new : List DV} (hx : V G x vx) (hn : 0 < n) (h : elemsOf n x = some new) :
  ∃ nv, VL G (flat new) nv ∧ (∀ e ∈ new, e.cells.length = n) ∧ (flat new).all DV.one = true ∧ (∀ w, (Builtin.lenOf vx).run P w = .ok new.length w) ∧
   ∀ w', (∀ B, B < w.heap.size → w'.heap[B]? = w.heap[B]?) → (Builtin.firstCells n new.length vx).run P w' = .ok nv.toArray w' := by
 unfold elemsOf at h
 split at h
 ·cases h; cases hx
  exact ⟨[], .nil _, by simp, by simp [flat], fun w => by simp [Builtin.lenOf], fun w' _ => by simp [Builtin.firstCells]⟩
 ·split at h
  ·rename_i hsz
   cases h
   cases hx with
   | sl hsz' he ho hl him hvv hln hcap hp =>
    rename_i vs B o cap len
    subst hsz; subst hln
    refine ⟨vs, ⟨hl, hvv⟩, he, ho, fun w => by simp [Builtin.lenOf], fun w' hw' => firstCells_slice (by rw [← hl, flat_length he]) fun i v hv => ?_⟩
    have := him i v hv
    obtain ⟨c, T, fr, h1, h2⟩ := r.im _ _ _ this
    have h3 := (hw' B (r.im_lt this)).trans h1
    simp [World.cell?, h3, h2]
  ·cases h
 ·split at h
  ·rename_i s hs1
   cases h; cases hx
   subst hs1
   refine ⟨s.map fun b => Value.int .u8 (b.toNat : Int), by rw [flat_bytes]; exact VL_bytes G s, by simp [byteDV, DV.cells], ones_bytes s, fun w => by simp [Builtin.lenOf, ba_size], fun w' _ => ?_⟩
   have : (⟨s.toArray⟩ : ByteArray).extract 0 s.length = ⟨s.toArray⟩ := by
    have := ByteArray.extract_zero_size (b := ⟨s.toArray⟩)
    rwa [ba_size] at this
   simp [Builtin.firstCells, this]
  ·cases h
 ·cases h
theorem zeroCells_len (z : Array Value) (n : Nat) : (Builtin.zeroCells z n).toList.length = n * z.size := by simp [Builtin.zeroCells]
theorem run_append_new {t u ty e : TypeId} {i : TypeInfo} {z : Value} {du : TypeDesc} (ht : P.underlying t = some (.slice e)) (hu : P.underlying u = some du) (hdu : srcOk du = true)
  (hi : P.info? e = some i) (hz : i.zero = some z) {base : Option Addr} {len cap m : Nat} {vx : Value} {ov nv : List Value}
  (hlx : ∀ w, (Builtin.lenOf vx).run P w = .ok m w) (hov : (Builtin.firstCells i.size len (.slice base len cap)).run P w.drew = .ok ov.toArray w.drew) (hnv : (Builtin.firstCells i.size m vx).run P w.drew = .ok nv.toArray w.drew)
  (hneed : cap < len + m) (hb : (len + m) * i.bytes ≤ 140737488355328) (h63 : len + m < 9223372036854775808) :
  (Builtin.append_ #[t, u] ty #[.slice base len cap, vx]).run P w =
   .ok (.slice (some ⟨w.heap.size, 0, none⟩) (len + m) (grownCap w (len + m) cap e)) (w.drew.alloc (.cells ((ov ++ nv) ++ (Builtin.zeroCells z.cells (grownCap w (len + m) cap e - (len + m))).toList).toArray e (0, 0))) := by
 have hn : ¬ (len + m ≤ cap) := by omega
 have h63' : ¬ (9223372036854775807 < (len : Int) + (m : Int)) := by omega
 have h48 := growslice_fits hneed hb
 have h48' : ¬ (281474976710656 < Builtin.nextslicecap (len + m) cap * i.bytes) := by omega
 have hcat : ov.toArray ++ nv.toArray ++ Builtin.zeroCells z.cells (grownCap w (len + m) cap e - (len + m)) = ((ov ++ nv) ++ (Builtin.zeroCells z.cells (grownCap w (len + m) cap e - (len + m))).toList).toArray := by
  apply Array.toList_inj.1
  simp
 rw [← hcat]
 obtain ⟨e2, rfl⟩ | rfl : (∃ e2, du = .slice e2) ∨ du = .string := by cases du <;> simp [srcOk] at hdu ⊢
 all_goals
  simp only [Builtin.append_, List.getElem?_toArray, List.getElem?_cons_zero, List.getElem?_cons_succ, Sem.run_bind, run_underlying ht, run_underlying hu, Result.andThen_ok, sizeOf, typeInfo, run_program, hi, Sem.run_pure, hlx]
  simp [hn, h63', h48', Question.forced, hov, hnv, zeroValue, typeInfo, hi, hz, newRow, grownCap, hlx]
  congr 2
  apply Array.toList_inj.1
  simp
theorem append_ok (TO : TabOk P T) (r : Rel G H w) {t u ty : TypeId} {s x : DV} {vs vx : Value} (hs : V G s vs) (hx : V G x vx) (h : appendD T t u s x H = some (d, H')) :
  GoodV P G H w H' d ((Builtin.append_ #[t, u] ty #[vs, vx]).run P w) := by
 unfold appendD at h
 split at h
 ·rename_i e e1
  split at h
  ·rename_i n by_ du z e2 e3 e4 e5
   split at h
   ·rename_i new hnew
    split at h
    ·rename_i hc
     obtain ⟨hn, hdu, hzl⟩ := hc
     obtain ⟨nv, hnvl, hne, hno, hlx, hfx⟩ := elems_ok r hx hn hnew
     obtain ⟨i, i1, i2⟩ := TO.size _ _ e2
     obtain ⟨i', j1, j2⟩ := TO.bytes _ _ e3
     obtain ⟨i'', zv, k1, k2, k3⟩ := TO.zero _ _ e5
     rw [i1] at j1 k1
     obtain rfl := Option.some.inj j1
     obtain rfl := Option.some.inj k1
     subst i2; subst j2
     have hzs : zv.cells.size = i.size := by have := (k3 G).cells.1; simp [hzl] at this; omega
     have hnvlen : nv.length = new.length * i.size := by rw [← hnvl.1, flat_length hne]
     cases s <;> first | (cases h; done) | skip
     ·
      cases hs
      simp only at h
      by_cases hb : new.length * i.bytes ≤ 140737488355328 ∧ new.length < 9223372036854775808
      ·rw [if_pos hb] at h
       by_cases h0 : new.isEmpty = true
       ·rw [if_pos h0] at h
        have hdH := Prod.mk.inj (Option.some.inj h)
        rw [← hdH.1, ← hdH.2]
        have h00 : new.length = 0 := by simpa using h0
        have hlx0 : ∀ w, (Builtin.lenOf vx).run P w = .ok 0 w := fun w => by have := hlx w; rwa [h00] at this
        have hfx0 : (Builtin.firstCells i.size 0 vx).run P w = .ok #[] w := by
         have := hfx w (fun _ _ => rfl)
         rw [h00] at this
         rw [this]
         have : nv = [] := List.eq_nil_of_length_eq_zero (by rw [hnvlen, h00]; simp)
         rw [this]
        refine good_ok r .nils ?_
        obtain ⟨e2', rfl⟩ | rfl : (∃ e2, du = .slice e2) ∨ du = .string := by cases du <;> simp [srcOk] at hdu ⊢
        all_goals
         simp [Builtin.append_, run_underlying (TO.und _ _ e1), run_underlying (TO.und _ _ e4), sizeOf, typeInfo, i1, hlx0, hfx0]
       ·rw [if_neg h0] at h
        have hpos : 0 < new.length := by cases new with | nil => exact absurd rfl h0 | cons a b => simp
        rw [run_append_new (TO.und _ _ e1) (TO.und _ _ e4) hdu i1 k2 (ov := []) hlx (by simp [Builtin.firstCells]) (hfx _ (fun _ _ => rfl)) (by omega) (by simpa using hb.1) (by simpa using hb.2)]
        simp only [Nat.zero_add, List.nil_append]
        have hge := grownCap_ge w new.length 0 e
        have hst := Step.drew r
        by_cases hwr : T.wr e = true
        ·rw [if_pos hwr] at h
         have hdH := Prod.mk.inj (Option.some.inj h)
         rw [← hdH.1, ← hdH.2]
         obtain ⟨G', st, g1, g2⟩ := Step.row (w := w.drew) (w' := w.drew.alloc (.cells (nv ++ (Builtin.zeroCells zv.cells (grownCap w new.length 0 e - new.length)).toList).toArray e (0, 0))) hst.rel (b0 := H.next) (B := w.heap.size) (s := 0)
          (pc := grownCap w new.length 0 e * i.size) (T := e) (cs := flat new) (c := (nv ++ (Builtin.zeroCells zv.cells (grownCap w new.length 0 e - new.length)).toList).toArray) (fr := (0, 0)) (vs := nv) (H' := (newHs H e i.size new.length (flat new)).2)
          ⟨rfl, by simp [newHs, DH.new], fun q hq => .inl (by simp [newHs, DH.new, hq])⟩ (.inr rfl) (heap_alloc_new w.drew _) (fun B' h1 _ => heap_alloc_old w.drew _ B' h1) (by simp)
          (by rw [hnvl.1, hnvlen]; simp only [Nat.zero_add]; exact Nat.mul_le_mul_right _ hge)
          (by simp only [List.size_toArray, List.length_append, zeroCells_len, hnvlen, hzs, ← Nat.add_mul]; apply Nat.le_of_eq; congr 1; omega) hnvl
          (fun j v hj => by simp only [Nat.zero_add, List.getElem?_toArray]; rw [List.getElem?_append_left (List.getElem?_eq_some_iff.1 hj).1]; exact hj) (by simp) rfl rfl rfl
         refine ⟨G', V.hs g1 hge (.inr ⟨rfl, 0, _, g2, by simp⟩), hst.trans st⟩
        rw [if_neg hwr] at h
        have hdH := Prod.mk.inj (Option.some.inj h)
        rw [← hdH.1, ← hdH.2]
        obtain ⟨G', st, hv⟩ := Step.newSlice (w := w.drew) hst.rel (es := new) (post := (Builtin.zeroCells zv.cells (grownCap w new.length 0 e - new.length)).toList) (cap := grownCap w new.length 0 e) (T' := e) (fr := (0, 0)) (cl := true) hn hne hno hnvl
         (by rw [List.length_append, zeroCells_len, hnvlen, hzs, ← Nat.add_mul]; congr 1; omega) (by simp) (by simp)
        exact ⟨G', hv, hst.trans st⟩
      ·rw [if_neg hb] at h; cases h
     rotate_left
     ·rename_i bb sz off len
      simp only at h
      cases hm : H.m bb with
      | none => simp [hm] at h
      | some ob =>
       cases ob with
       | cells _ _ => simp [hm] at h
       | iter _ _ => simp [hm] at h
       | map _ => simp [hm] at h
       | tip _ _ _ => simp [hm] at h
       | row e' cs =>
        simp only [hm] at h
        by_cases hb : sz = i.size ∧ e' = e ∧ off + len * i.size ≤ cs.length ∧ (len + new.length) * i.bytes ≤ 140737488355328 ∧ len + new.length < 9223372036854775808 ∧ new ≠ []
        ·rw [if_pos hb] at h
         have hdH := Prod.mk.inj (Option.some.inj h)
         rw [← hdH.1, ← hdH.2]
         obtain ⟨rfl, rfl, hcl, hb1, hb2, hne0⟩ := hb
         have hpos : 0 < new.length := List.length_pos_iff.2 hne0
         cases hs with
         | hs hρ hcap hp =>
          rename_i B s o cap
          obtain ⟨⟨p, pc, c, fr, vs, c0, c1, c2, c3, c4, c5, c6⟩, c7⟩ := r.rows bb _ _ hm _ _ hρ
          have hown : ownR G H bb = some B := by simp [ownR, hm, hρ]
          have hlo : ((vs.drop off).take (len * i.size)).length = len * i.size := by rw [List.length_take, List.length_drop, ← c4.1]; omega
          have hVL : VL G ((cs.drop off).take (len * i.size) ++ flat new) ((vs.drop off).take (len * i.size) ++ nv) := ((c4.drop off).take _).append hnvl
          have hcell : ∀ (j : Nat) (v : Value), ((vs.drop off).take (len * i.size))[j]? = some v → c[s + off + j]? = some v := by
           intro j v hj
           rw [List.getElem?_take] at hj
           split at hj
           ·rw [List.getElem?_drop] at hj
            rw [Nat.add_assoc]; exact c5 _ _ hj
           ·cases hj
          have hnext : bb ≠ H.next := by rintro rfl; rw [(r.wf _ (Nat.le_refl _)).1] at hm; cases hm
          by_cases hroom : len + new.length ≤ cap
          ·obtain ⟨rfl, p', pc', q1, q2⟩ : o = s + off ∧ ∃ p pc, G.place bb 0 = some (B, p, pc) ∧ o + cap * i.size ≤ pc := by
            rcases hp with h | h
            ·omega
            ·exact h
           rw [c0] at q1
           obtain ⟨rfl, rfl⟩ : p = p' ∧ pc = pc' := by simpa using q1
           have hroom' : s + off + len * i.size + nv.length ≤ pc := by
            have := Nat.mul_le_mul_right i.size hroom
            rw [Nat.add_mul] at this
            omega
           have hst := run_storeCells_free P B e' fr nv 0 (s + off + len * i.size) c w c1 (fun q hq1 hq2 => c6 q (by omega) (by omega)) (by omega) (hnvl.ones hno)
           simp only [Nat.add_zero] at hst
           have hf := hfx w (fun _ _ => rfl)
           have hrun : (Builtin.append_ #[t, u] ty #[.slice (some ⟨B, s + off, none⟩) len cap, vx]).run P w = .ok (.slice (some ⟨B, s + off, none⟩) (len + new.length) cap)
             (putBlk w B (.cells (c.toList.take (s + off + len * i.size) ++ nv ++ c.toList.drop (s + off + len * i.size + nv.length)).toArray e' fr)) := by
            obtain ⟨e2', rfl⟩ | rfl : (∃ e2, du = .slice e2) ∨ du = .string := by cases du <;> simp [srcOk] at hdu ⊢
            all_goals
             simp [Builtin.append_, run_underlying (TO.und _ _ e1), run_underlying (TO.und _ _ e4), sizeOf, typeInfo, i1, hlx, hf, hroom, addr_add, hst]
           rw [hrun]
           have hcl2 : (c.toList.take (s + off + len * i.size)).length = s + off + len * i.size := by simp; omega
           obtain ⟨G', st, g1, g2⟩ := Step.row (w := w) (w' := putBlk w B (.cells (c.toList.take (s + off + len * i.size) ++ nv ++ c.toList.drop (s + off + len * i.size + nv.length)).toArray e' fr)) r (b0 := bb) (B := B) (s := s + off)
            (pc := pc) (T := e') (cs := (cs.drop off).take (len * i.size) ++ flat new) (c := (c.toList.take (s + off + len * i.size) ++ nv ++ c.toList.drop (s + off + len * i.size + nv.length)).toArray) (fr := fr) (vs := (vs.drop off).take (len * i.size) ++ nv)
            (H' := H.mov bb (.row e' ((cs.drop off).take (len * i.size) ++ flat new)))
            ⟨rfl, by simp [DH.mov], fun q hq => by by_cases hqb : q = bb; exact .inr ⟨hqb, by simp [DH.mov, hq, hqb, hnext]⟩; exact .inl (by simp [DH.mov, hq, hqb])⟩
            (.inl ⟨hown, by simp [DH.mov, hnext], c7⟩) (putBlk_at c1) (fun B' _ h => putBlk_ne h) (by simp [putBlk])
            (by rw [hVL.1, List.length_append, hlo]; omega) (by simp only [List.size_toArray, List.length_append, List.length_take, List.length_drop, Array.length_toList]; omega) hVL
            (fun j v hj => by
             simp only [List.getElem?_toArray]
             by_cases hjl : j < len * i.size
             ·rw [List.getElem?_append_left (by omega)] at hj
              rw [List.append_assoc, List.getElem?_append_left (by omega), List.getElem?_take, if_pos (by omega), Array.getElem?_toList]
              exact hcell j v hj
             ·rw [List.getElem?_append_right (by omega), hlo] at hj
              have := (List.getElem?_eq_some_iff.1 hj).1
              rw [List.append_assoc, List.getElem?_append_right (by omega), hcl2, show s + off + j - (s + off + len * i.size) = j - len * i.size by omega, List.getElem?_append_left (by omega)]
              exact hj) (fun q hq1 hq2 => c6 q (by omega) hq2) rfl rfl rfl
           exact ⟨G', V.hs g1 hroom (.inr ⟨rfl, _, _, g2, q2⟩), st⟩
          ·have hold : (Builtin.firstCells i.size len (.slice (some ⟨B, o, none⟩) len cap)).run P w.drew = .ok ((vs.drop off).take (len * i.size)).toArray w.drew := by
            refine firstCells_slice (w := w.drew) hlo fun j v hj => ?_
            have hj1 := (List.getElem?_eq_some_iff.1 hj).1
            obtain ⟨rfl, _⟩ : o = s + off ∧ True := by
             rcases hp with h | h
             ·exfalso
              have : len = 0 := by omega
              subst this
              simp at hj1
             ·exact ⟨h.1, trivial⟩
            have := hcell j v hj
            simp [World.cell?, show w.drew.heap = w.heap from rfl, c1, this]
           rw [run_append_new (TO.und _ _ e1) (TO.und _ _ e4) hdu i1 k2 (ov := (vs.drop off).take (len * i.size)) hlx hold (hfx _ (fun _ _ => rfl)) (by omega) hb1 hb2]
           have hge := grownCap_ge w (len + new.length) cap e'
           have hst := Step.drew r
           obtain ⟨G', st, g1, g2⟩ := Step.row (w := w.drew) (w' := w.drew.alloc (.cells (((vs.drop off).take (len * i.size) ++ nv) ++ (Builtin.zeroCells zv.cells (grownCap w (len + new.length) cap e' - (len + new.length))).toList).toArray e' (0, 0))) hst.rel (b0 := bb) (B := w.heap.size) (s := 0)
            (pc := grownCap w (len + new.length) cap e' * i.size) (T := e') (cs := (cs.drop off).take (len * i.size) ++ flat new) (c := (((vs.drop off).take (len * i.size) ++ nv) ++ (Builtin.zeroCells zv.cells (grownCap w (len + new.length) cap e' - (len + new.length))).toList).toArray) (fr := (0, 0)) (vs := (vs.drop off).take (len * i.size) ++ nv)
            (H' := H.mov bb (.row e' ((cs.drop off).take (len * i.size) ++ flat new)))
            ⟨rfl, by simp [DH.mov], fun q hq => by by_cases hqb : q = bb; exact .inr ⟨hqb, by simp [DH.mov, hq, hqb, hnext]⟩; exact .inl (by simp [DH.mov, hq, hqb])⟩
            (.inr rfl) (heap_alloc_new w.drew _) (fun B' h1 _ => heap_alloc_old w.drew _ B' h1) (by simp)
            (by rw [hVL.1, List.length_append, hlo, hnvlen, ← Nat.add_mul, Nat.zero_add]; exact Nat.mul_le_mul_right _ hge)
            (by simp only [List.size_toArray, List.length_append, zeroCells_len, hlo, hnvlen, hzs, ← Nat.add_mul]; apply Nat.le_of_eq; congr 1; omega) hVL
            (fun j v hj => by simp only [Nat.zero_add, List.getElem?_toArray]; rw [List.getElem?_append_left (List.getElem?_eq_some_iff.1 hj).1]; exact hj) (by simp) rfl rfl rfl
           exact ⟨G', V.hs g1 hge (.inr ⟨rfl, _, _, g2, by simp⟩), hst.trans st⟩
        ·rw [if_neg hb] at h; cases h
     ·rename_i id sz off es
      simp only at h
      cases hm : H.m id with
      | none => simp [hm] at h
      | some ob =>
       cases ob with
       | cells _ _ => simp [hm] at h
       | row _ _ => simp [hm] at h
       | iter _ _ => simp [hm] at h
       | map _ => simp [hm] at h
       | tip e' k cl =>
        simp only [hm] at h
        by_cases hb : sz = i.size ∧ e' = e ∧ k = off + es.length ∧ (es.length + new.length) * i.bytes ≤ 140737488355328 ∧ es.length + new.length < 9223372036854775808
        ·rw [if_pos hb] at h
         have hdH := Prod.mk.inj (Option.some.inj h)
         rw [← hdH.1, ← hdH.2]
         obtain ⟨rfl, rfl, rfl, hb1, hb2⟩ := hb
         cases hs with
         | sl hsz he ho hl him hvv hln hcap hp =>
          rename_i vs B o cap len
          subst hln
          have hvslen : vs.length = es.length * i.size := by rw [← hl, flat_length he]
          by_cases hm0 : new.length = 0
          ·have hnn : new = [] := List.eq_nil_of_length_eq_zero hm0
           have hH : H.set id (.tip e' (off + es.length + new.length) cl) = H := DH.set_self (by rw [hm0]; simpa using hm)
           rw [hH]
           refine good_ok r (by rw [hnn, List.append_nil]; exact V.sl hsz he ho hl him hvv rfl hcap hp) (v := .slice (some ⟨B, o, none⟩) es.length cap) ?_
           have hlx0 : ∀ w, (Builtin.lenOf vx).run P w = .ok 0 w := fun w => by have := hlx w; rwa [hm0] at this
           have hf : (Builtin.firstCells i.size 0 vx).run P w = .ok #[] w := by
            have := hfx w (fun _ _ => rfl)
            rw [hm0] at this
            rw [this]
            have : nv = [] := List.eq_nil_of_length_eq_zero (by rw [hnvlen, hm0]; simp)
            rw [this]
           obtain ⟨e2', rfl⟩ | rfl : (∃ e2, du = .slice e2) ∨ du = .string := by cases du <;> simp [srcOk] at hdu ⊢
           all_goals
            simp [Builtin.append_, run_underlying (TO.und _ _ e1), run_underlying (TO.und _ _ e4), sizeOf, typeInfo, i1, hlx0, hf, hcap, storeCells]
          ·by_cases hroom : es.length + new.length ≤ cap
           ·
            rcases hp with hp | hp | ⟨e', p, pc, q1, q2, q3, q4⟩
            ·omega
            ·subst hp; rw [r.z.2] at hm; cases hm
            ·obtain ⟨t0, t9⟩ := r.tips id _ _ _ hm
             have hek : e' = off + es.length := by have := t0 e' (by rw [q2]; simp); omega
             subst hek
             obtain ⟨⟨c, T', fr, c1, c2, c3, c4, c6⟩, c5⟩ := t9 _ _ _ q2
             have hp' : o + es.length * i.size = p := by rw [← q3]; congr 2; omega
             have hroom' : p + nv.length ≤ pc := by
              rw [← hp', hnvlen, Nat.add_assoc, ← Nat.add_mul]
              exact Nat.le_trans (Nat.add_le_add_left (Nat.mul_le_mul_right _ hroom) o) q4
             obtain ⟨G', st, g1, g2⟩ := Step.appendIn r (m := new.length) hm q2 c1 hroom' (fun h => absurd h hm0)
             have hst := run_storeCells_free P B T' fr nv 0 p c w c1 (fun q hq1 hq2 => c4 q (by omega) (by omega)) (by omega) (hnvl.ones hno)
             have hf := hfx w (fun _ _ => rfl)
             have hrun : (Builtin.append_ #[t, u] ty #[.slice (some ⟨B, o, none⟩) es.length cap, vx]).run P w = .ok (.slice (some ⟨B, o, none⟩) (es.length + new.length) cap)
               (putBlk w B (.cells (c.toList.take p ++ nv ++ c.toList.drop (p + nv.length)).toArray T' fr)) := by
              obtain ⟨e2', rfl⟩ | rfl : (∃ e2, du = .slice e2) ∨ du = .string := by cases du <;> simp [srcOk] at hdu ⊢
              all_goals
               simp only [Nat.add_zero] at hst
               simp [Builtin.append_, run_underlying (TO.und _ _ e1), run_underlying (TO.und _ _ e4), sizeOf, typeInfo, i1, hlx, hf, hroom, addr_add, hp', hst]
             rw [hrun]
             refine ⟨G', ?_, st⟩
             refine V.sl (vs := vs ++ nv) hsz (fun x hx => ?_) ?_ ?_ ?_ ?_ (by simp) (by simpa using hroom) (.inr (.inr ⟨off + es.length + new.length, p + nv.length, pc, by omega, g2, ?_, q4⟩))
             ·rcases List.mem_append.1 hx with h | h
              ·exact he x h
              ·exact hne x h
             ·rw [flat_append, List.all_append, ho, hno]; rfl
             ·rw [flat_append, List.length_append, List.length_append, hl, hnvl.1]
             ·intro j v hj
              by_cases hjl : j < vs.length
              ·rw [List.getElem?_append_left hjl] at hj
               exact st.le.im _ _ _ (him j v hj)
              ·rw [List.getElem?_append_right (by omega)] at hj
               have := g1 _ _ hj
               rw [show o + j = p + (j - vs.length) by rw [← hp', ← hvslen]; omega]
               exact this
             ·rw [flat_append]
              exact ((VL.mono st.le ⟨hl, hvv⟩).append (hnvl.mono st.le)).2
             ·rw [← hp', hnvlen, show off + es.length + new.length - off = es.length + new.length by omega, Nat.add_mul]
              omega
           ·
            have hold : (Builtin.firstCells i.size es.length (.slice (some ⟨B, o, none⟩) es.length cap)).run P w.drew = .ok vs.toArray w.drew :=
             firstCells_slice (w := w.drew) hvslen fun j v hj => (Step.drew r).rel.imCell (him j v hj)
            rw [run_append_new (TO.und _ _ e1) (TO.und _ _ e4) hdu i1 k2 (ov := vs) hlx hold (hfx _ (fun _ _ => rfl)) (by omega) hb1 hb2]
            have hge := grownCap_ge w (es.length + new.length) cap e'
            have hst := Step.drew r
            obtain ⟨G', st, g1, g2⟩ := Step.appendNew (w := w.drew) hst.rel (m := new.length) (vs := vs ++ nv) (post := (Builtin.zeroCells zv.cells (grownCap w (es.length + new.length) cap e' - (es.length + new.length))).toList) (T' := e') hm (by omega)
            refine ⟨G', ?_, hst.trans st⟩
            have hvn : (vs ++ nv).length = (es.length + new.length) * i.size := by rw [List.length_append, hvslen, hnvlen, Nat.add_mul]
            refine V.sl (vs := vs ++ nv) hsz (fun x hx => ?_) ?_ ?_ ?_ ?_ (by simp) hge (.inr (.inr ⟨off + es.length + new.length, _, _, by omega, g2, ?_, ?_⟩))
            ·rcases List.mem_append.1 hx with h | h
             ·exact he x h
             ·exact hne x h
            ·rw [flat_append, List.all_append, ho, hno]; rfl
            ·rw [flat_append, List.length_append, List.length_append, hl, hnvl.1]
            ·intro j v hj
             rw [Nat.zero_add]
             exact g1 j v hj
            ·rw [flat_append]
             exact ((VL.mono (hst.trans st).le ⟨hl, hvv⟩).append (hnvl.mono (hst.trans st).le)).2
            ·rw [hvn, Nat.zero_add]; congr 1; omega
            ·rw [List.length_append, hvn, zeroCells_len, hzs, ← Nat.add_mul, Nat.zero_add]
             apply Nat.le_of_eq; congr 1; omega
        ·rw [if_neg hb] at h; cases h
    ·cases h
   ·cases h
  ·cases h
 ·cases h
end
end Go.Proofs.YtcknfhhbijlobaaGreatDoor.D

import Derived.Test.YtcknfhhbijlobaaDoorPar2
import Derived.Test.YtcknfhhbijlobaaDoorLexM
namespace Go.Proofs.YtcknfhhbijlobaaDoor.D
open Go
set_option linter.unusedVariables false
set_option linter.unusedSimpArgs false
set_option maxRecDepth 100000

/- The plain model of the parser. -/
def shapesL : List (List UInt8) := [[],
  [108, 101, 116, 32, 110, 32, 61, 32, 116, 32, 59],
  [103, 114, 101, 101, 116, 32, 116, 32, 59],
  [115, 101, 110, 100, 32, 116, 32, 116, 32, 59],
  [99, 97, 112, 115, 32, 116, 32, 116, 32, 59],
  [105, 102, 32, 119, 32, 116, 32, 123],
  [112, 105, 112, 101, 32, 105, 32, 123],
  [97, 117, 116, 104, 32, 110, 32, 116, 32, 116, 32, 59],
  [100, 97, 116, 97, 32, 116, 32, 116, 32, 59],
  [98, 111, 100, 121, 32, 110, 32, 116, 32, 116, 32, 59],
  [103, 101, 116, 32, 110, 32, 116, 32, 59],
  [112, 117, 116, 32, 116, 32, 116, 32, 59],
  [116, 105, 109, 101, 111, 117, 116, 32, 105, 32, 59],
  [108, 97, 98, 101, 108, 32, 110, 32, 59],
  [103, 111, 116, 111, 32, 110, 32, 59],
  [111, 110, 32, 110, 32, 59],
  [112, 114, 105, 110, 116, 32, 116, 32, 59],
  [115, 116, 111, 112, 32, 59]] 
def shapeL (k : Nat) : List UInt8 := shapesL.getD k []
/-- A statement's shape: its first word, its parts. -/
def headsL : List (List UInt8) := [[],
  [108, 101, 116],
  [103, 114, 101, 101, 116],
  [115, 101, 110, 100],
  [99, 97, 112, 115],
  [105, 102],
  [112, 105, 112, 101],
  [97, 117, 116, 104],
  [100, 97, 116, 97],
  [98, 111, 100, 121],
  [103, 101, 116],
  [112, 117, 116],
  [116, 105, 109, 101, 111, 117, 116],
  [108, 97, 98, 101, 108],
  [103, 111, 116, 111],
  [111, 110],
  [112, 114, 105, 110, 116],
  [115, 116, 111, 112]]
def partsL : List (List (List UInt8)) := [[],
  [[110], [61], [116], [59]],
  [[116], [59]],
  [[116], [116], [59]],
  [[116], [116], [59]],
  [[119], [116], [123]],
  [[105], [123]],
  [[110], [116], [116], [59]],
  [[116], [116], [59]],
  [[110], [116], [116], [59]],
  [[110], [116], [59]],
  [[116], [116], [59]],
  [[105], [59]],
  [[110], [59]],
  [[110], [59]],
  [[110], [59]],
  [[116], [59]],
  [[59]]]
theorem shapes_words : ∀ k, k < 18 → 0 < k → wordsB (shapeL k) = headsL.getD k [] :: partsL.getD k [] := by decide
theorem shapes_no9 : ∀ s ∈ shapesL, (9 : UInt8) ∉ s := by decide
def kindT (t : List UInt8) : Option Nat := headsL.findIdx? fun h => !h.isEmpty && h == t

structure Stm where
  kind : Nat
  s : List UInt8
  t : List UInt8
  u : List UInt8
  n : Nat
  at_ : Nat
  l : List Nat
  m : List Nat
structure Fr where
  s : Stm
  other : Bool
structure PSt where
  ts : List Tok
  R : List Stm
  top : List Nat
  os : List Fr
inductive PRes where
  | ok (R : List Stm) (top : List Nat)
  | bad (pos e : Nat)
inductive WRes where
  | bad (pos e : Nat)
  | whole (s : Stm) (ts : List Tok)
  | opens (s : Stm) (ts : List Tok)

def wordsW : List (List UInt8) := [[99, 97, 112], [99, 111, 100, 101], [116, 101, 120, 116]]
/-- Whether a token may stand where a part of a shape asks for one: 0, or what is wrong. -/
def mustE (part : List UInt8) (nopen : Nat) (k : Tok) : Nat :=
  if part = [110] then (if k.kind = 1 then 0 else 20)
  else if part = [119] then (if k.kind = 1 ∧ k.text ∈ wordsW then 0 else 20)
  else if part = [116] then (if k.kind = 3 then 0 else 20)
  else if part = [105] then (if k.kind = 2 then 0 else 20)
  else if part = [123] ∧ 8 ≤ nopen ∧ k.kind = 4 ∧ k.text = part then 21
  else if k.kind = 4 ∧ k.text = part then 0 else 20
def isText (part : List UInt8) : Prop := part = [110] ∨ part = [119] ∨ part = [116]
instance (part : List UInt8) : Decidable (isText part) := by unfold isText; exact inferInstance
def putP (part : List UInt8) (to : Nat) (s : Stm) (w : List UInt8) : Stm :=
  if isText part then (match to with | 0 => { s with s := w } | 1 => { s with t := w } | _ => { s with u := w })
  else if part = [105] then { s with n := numD w } else s
def wordsP : List (List UInt8) → Nat → Stm → Nat → List Tok → WRes
  | [], _, s, _, ts => .whole s ts
  | _ :: _, _, _, _, [] => .bad 0 0
  | p :: r, no, s, to, k :: ts =>
    if mustE p no k ≠ 0 then .bad k.pos (mustE p no k)
    else if p = [123] then .opens s ts
    else wordsP r no (putP p to s k.text) (if isText p then to + 1 else to) ts
def addOs (n : Nat) : List Fr → List Fr
  | [] => []
  | [f] => [if f.other then { f with s := { f.s with m := f.s.m ++ [n] } } else { f with s := { f.s with l := f.s.l ++ [n] } }]
  | f :: r => f :: addOs n r
def wholeP (st : PSt) (s : Stm) : PSt :=
  { st with R := st.R ++ [s], top := if st.os.isEmpty then st.top ++ [st.R.length] else st.top, os := addOs st.R.length st.os }
def oneP (st : PSt) (k : Tok) (ts : List Tok) : PSt ⊕ PRes :=
  match (if k.kind = 1 then kindT k.text else none) with
  | none => .inr (.bad k.pos 20)
  | some kd => match wordsP (partsL.getD kd []) st.os.length ⟨kd, [], [], [], 0, k.pos, [], []⟩ (if kd = 2 then 1 else 0) ts with
    | .bad p e => .inr (.bad p e)
    | .whole s ts' => .inl (wholeP { st with ts := ts' } s)
    | .opens s ts' => .inl { st with ts := ts', os := st.os ++ [⟨s, false⟩] }
def elseW : List UInt8 := [101, 108, 115, 101]
def closeP (st : PSt) (f : Fr) (ts : List Tok) : PSt ⊕ PRes :=
  match ts with
  | k :: k2 :: ts2 =>
    if f.s.kind = 5 ∧ f.other = false ∧ k.kind = 1 ∧ k.text = elseW then
      (if mustE [123] (st.os.length - 1) k2 ≠ 0 then .inr (.bad k2.pos (mustE [123] (st.os.length - 1) k2))
       else .inl { st with ts := ts2, os := st.os.dropLast ++ [{ f with other := true }] })
    else .inl (wholeP { st with ts := ts, os := st.os.dropLast } f.s)
  | ts => .inl (wholeP { st with ts := ts, os := st.os.dropLast } f.s)
def stepP (st : PSt) : PSt ⊕ PRes :=
  match st.ts with
  | [] => .inr (.bad 0 0)
  | k :: ts =>
    match st.os.getLast? with
    | none => if k.kind = 0 then .inr (.ok st.R st.top) else oneP st k ts
    | some f => if k.kind = 4 ∧ k.text = [125] then closeP st f ts else oneP st k ts
def goP : Nat → PSt → PRes
  | 0, _ => .bad 0 0
  | n + 1, st => match stepP st with
    | .inl st' => goP n st'
    | .inr r => r
def runP (st : PSt) : PRes := goP (st.ts.length + 1) st
def modeW : List (List UInt8) := [[115, 109, 116, 112], [112, 111, 112, 51], [102, 116, 112]]
def modeL (s : List UInt8) : Nat := if s = [115, 109, 116, 112] then 1 else if s = [112, 111, 112, 51] then 2 else if s = [102, 116, 112] then 3 else 0
end Go.Proofs.YtcknfhhbijlobaaDoor.D

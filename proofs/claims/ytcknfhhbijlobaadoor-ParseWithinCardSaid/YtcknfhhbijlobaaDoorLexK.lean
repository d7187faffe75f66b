/- Quoting, in plain Lean. -/
import Derived.Test.YtcknfhhbijlobaaDoorLexM
namespace Go.Proofs.YtcknfhhbijlobaaDoor.D
open Go
set_option linter.unusedVariables false
set_option linter.unusedSimpArgs false
set_option maxRecDepth 100000

def unesc (c : UInt8) : Option UInt8 := if c = 92 then some 92 else if c = 34 then some 34 else if c = 10 then some 110 else if c = 13 then some 114 else if c = 9 then some 116 else none
def qz (acc : List UInt8) : List UInt8 → Option (List UInt8)
  | [] => some (acc ++ [34])
  | c :: r => match unesc c with
    | some x => qz (acc ++ [92] ++ [x]) r
    | none => if c.toNat < 32 ∨ 126 < c.toNat then none else qz (acc ++ [c]) r
def quoteL (s : List UInt8) : Option (List UInt8) := if 100 < s.length then none else qz [34] s
def quoteV : Option (List UInt8) → DV
  | some l => .tup [.str l, .bool true]
  | none => .tup [.str [], .bool false]
end Go.Proofs.YtcknfhhbijlobaaDoor.D

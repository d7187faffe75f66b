/-
  DERIVED. GIVEN WITH THE SEED: THE CARDS: each row of YtcknfhhbijlobaaDoorRows.lean that lists a variable, with what it lists TIED to the program's text (the seventh form; the later family's looks); each row that meets fmt, with fmt's text TOLD by the authors' own Lean function (tested against real Go, not proved from fmt's source: count such statements apart). THE CARD IS WHAT COUNTS. Prove the row's statement (the work); the ties are given (YtcknfhhbijlobaaDoorTie.lean); close each card by the builder's one call (the guide's Derived/Test/ToyasCard.lean, 'card_holds'). Laid BY PROGRAM, IN A SANDBOX (cutbox-door.mjs). By AI agents, Wed Nov 11 2026. No macro, syntax, notation, axiom, sorry.
-/
import Derived.Test.YtcknfhhbijlobaaDoorRows
import GoSem.ClaimSeven
namespace Go.Proofs.YtcknfhhbijlobaaDoor
namespace Rows

/-- THE TIED CARD OF 'rejoinderlaw15.ParseWithin'. -/
def parseWithinCard : Claim7 := { stood := { row := parseWithinRow, standIns := [], harness := (true, "028c4bfc20e67e6af1c2aa0e7949a8cc5fcd219e9a4d6c851bbe553526b32546"), looks := true }, kinds := [], alts := [], laidByText := true, laidKinds := [.data, .data, .data, .data, .sentinel, .sentinel, .pinned], laidTests := true, laidLooks := .later }
def ParseWithinCardSaid : Prop := Claim7.holds Tryd.pinned (.plain (OpenSpec.ofChange parseWithinSpec)) parseWithinCard

/-- THE TIED CARD OF 'rejoinderlaw15.ParseJoins'. -/
def parseJoinsCard : Claim7 := { stood := { row := parseJoinsRow, standIns := [], harness := (true, "028c4bfc20e67e6af1c2aa0e7949a8cc5fcd219e9a4d6c851bbe553526b32546"), looks := true }, kinds := [], alts := [], laidByText := true, laidKinds := [.data, .data, .data, .data, .sentinel, .sentinel, .pinned], laidTests := true, laidLooks := .later }
def ParseJoinsCardSaid : Prop := Claim7.holds Tryd.pinned (.plain (OpenSpec.ofChange parseJoinsSpec)) parseJoinsCard

/-- THE TIED CARD OF 'rejoinderlaw15.ParseDeep'. -/
def parseDeepCard : Claim7 := { stood := { row := parseDeepRow, standIns := [], harness := (true, "028c4bfc20e67e6af1c2aa0e7949a8cc5fcd219e9a4d6c851bbe553526b32546"), looks := true }, kinds := [], alts := [], laidByText := true, laidKinds := [.data, .data, .data, .data, .sentinel, .sentinel, .pinned], laidTests := true, laidLooks := .later }
def ParseDeepCardSaid : Prop := Claim7.holds Tryd.pinned (.plain (OpenSpec.ofChange parseDeepSpec)) parseDeepCard

/-- THE TIED CARD OF 'rejoinderlaw15.ParseShapes'. -/
def parseShapesCard : Claim7 := { stood := { row := parseShapesRow, standIns := [], harness := (true, "028c4bfc20e67e6af1c2aa0e7949a8cc5fcd219e9a4d6c851bbe553526b32546"), looks := true }, kinds := [], alts := [], laidByText := true, laidKinds := [.data, .data, .data, .data, .sentinel, .sentinel, .pinned], laidTests := true, laidLooks := .later }
def ParseShapesCardSaid : Prop := Claim7.holds Tryd.pinned (.plain (OpenSpec.ofChange parseShapesSpec)) parseShapesCard

/-- THE TIED CARD OF 'rejoinderlaw15.ParseModes'. -/
def parseModesCard : Claim7 := { stood := { row := parseModesRow, standIns := [], harness := (true, "028c4bfc20e67e6af1c2aa0e7949a8cc5fcd219e9a4d6c851bbe553526b32546"), looks := true }, kinds := [], alts := [], laidByText := true, laidKinds := [.data, .data, .data, .data, .sentinel, .sentinel, .pinned], laidTests := true, laidLooks := .later }
def ParseModesCardSaid : Prop := Claim7.holds Tryd.pinned (.plain (OpenSpec.ofChange parseModesSpec)) parseModesCard

/-- THE SECOND FORM's CARD OF 'rejoinderlaw15.ParseWithin'. -/
def parseWithinUptoCard : Claim7 := { stood := { row := parseWithinUptoRow, standIns := [], harness := (true, "028c4bfc20e67e6af1c2aa0e7949a8cc5fcd219e9a4d6c851bbe553526b32546"), looks := true }, kinds := [], alts := [], laidByText := true, laidKinds := [.data, .data, .data, .data, .sentinel, .sentinel, .pinned], laidTests := true, laidLooks := .later }
def ParseWithinUptoCardSaid : Prop := Claim7.holds Tryd.pinned (.plain (OpenSpec.upto parseWithinSpec)) parseWithinUptoCard

/-- THE SECOND FORM's CARD OF 'rejoinderlaw15.ParseJoins'. -/
def parseJoinsUptoCard : Claim7 := { stood := { row := parseJoinsUptoRow, standIns := [], harness := (true, "028c4bfc20e67e6af1c2aa0e7949a8cc5fcd219e9a4d6c851bbe553526b32546"), looks := true }, kinds := [], alts := [], laidByText := true, laidKinds := [.data, .data, .data, .data, .sentinel, .sentinel, .pinned], laidTests := true, laidLooks := .later }
def ParseJoinsUptoCardSaid : Prop := Claim7.holds Tryd.pinned (.plain (OpenSpec.upto parseJoinsSpec)) parseJoinsUptoCard

/-- THE SECOND FORM's CARD OF 'rejoinderlaw15.ParseDeep'. -/
def parseDeepUptoCard : Claim7 := { stood := { row := parseDeepUptoRow, standIns := [], harness := (true, "028c4bfc20e67e6af1c2aa0e7949a8cc5fcd219e9a4d6c851bbe553526b32546"), looks := true }, kinds := [], alts := [], laidByText := true, laidKinds := [.data, .data, .data, .data, .sentinel, .sentinel, .pinned], laidTests := true, laidLooks := .later }
def ParseDeepUptoCardSaid : Prop := Claim7.holds Tryd.pinned (.plain (OpenSpec.upto parseDeepSpec)) parseDeepUptoCard

/-- THE SECOND FORM's CARD OF 'rejoinderlaw15.ParseShapes'. -/
def parseShapesUptoCard : Claim7 := { stood := { row := parseShapesUptoRow, standIns := [], harness := (true, "028c4bfc20e67e6af1c2aa0e7949a8cc5fcd219e9a4d6c851bbe553526b32546"), looks := true }, kinds := [], alts := [], laidByText := true, laidKinds := [.data, .data, .data, .data, .sentinel, .sentinel, .pinned], laidTests := true, laidLooks := .later }
def ParseShapesUptoCardSaid : Prop := Claim7.holds Tryd.pinned (.plain (OpenSpec.upto parseShapesSpec)) parseShapesUptoCard

/-- THE SECOND FORM's CARD OF 'rejoinderlaw15.ParseModes'. -/
def parseModesUptoCard : Claim7 := { stood := { row := parseModesUptoRow, standIns := [], harness := (true, "028c4bfc20e67e6af1c2aa0e7949a8cc5fcd219e9a4d6c851bbe553526b32546"), looks := true }, kinds := [], alts := [], laidByText := true, laidKinds := [.data, .data, .data, .data, .sentinel, .sentinel, .pinned], laidTests := true, laidLooks := .later }
def ParseModesUptoCardSaid : Prop := Claim7.holds Tryd.pinned (.plain (OpenSpec.upto parseModesSpec)) parseModesUptoCard
end Rows
end Go.Proofs.YtcknfhhbijlobaaDoor

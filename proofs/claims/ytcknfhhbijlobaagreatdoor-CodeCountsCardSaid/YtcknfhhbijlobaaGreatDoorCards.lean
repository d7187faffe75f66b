/-
  DERIVED. GIVEN WITH THE SEED: THE CARDS: each row of YtcknfhhbijlobaaGreatDoorRows.lean that lists a variable, with what it lists TIED to the program's text (the seventh form; the later family's looks); each row that meets fmt, with fmt's text TOLD by the authors' own Lean function (tested against real Go, not proved from fmt's source: count such statements apart). THE CARD IS WHAT COUNTS. Prove the row's statement (the work); the ties are given (YtcknfhhbijlobaaGreatDoorTie.lean); close each card by the builder's one call (the guide's Derived/Test/ToyasCard.lean, 'card_holds'). Laid BY PROGRAM, IN A SANDBOX (cutbox-door.mjs). By AI agents, Wed Nov 11 2026. No macro, syntax, notation, axiom, sorry.
-/
import Derived.Test.YtcknfhhbijlobaaGreatDoorRows
import GoSem.ClaimSeven
namespace Go.Proofs.YtcknfhhbijlobaaGreatDoor
namespace Rows

/-- THE TIED CARD OF 'rejoinderlaw15.ParseAll'. -/
def parseAllCard : Claim7 := { stood := { row := parseAllRow, standIns := [], harness := (true, "8ce72ab2e840c79346b94783a1ab2f3f1077f06bb183ec1d6c654322289f8d06"), looks := true }, kinds := [], alts := [], laidByText := true, laidKinds := [.data, .data, .data, .data, .sentinel, .sentinel, .pinned], laidTests := true, laidLooks := .later }
def ParseAllCardSaid : Prop := Claim7.holds Tryz.pinned (.plain (OpenSpec.ofChange parseAllSpec)) parseAllCard

/-- THE TIED CARD OF 'rejoinderlaw17.CheckAll'. -/
def checkAllCard : Claim7 := { stood := { row := checkAllRow, standIns := [], harness := (true, "8ce72ab2e840c79346b94783a1ab2f3f1077f06bb183ec1d6c654322289f8d06"), looks := true }, kinds := [], alts := [], laidByText := true, laidKinds := [.data, .data, .data, .data, .sentinel, .sentinel, .pinned], laidTests := true, laidLooks := .later }
def CheckAllCardSaid : Prop := Claim7.holds Tryz.pinned (.plain (OpenSpec.ofChange checkAllSpec)) checkAllCard

/-- THE TIED CARD OF 'rejoinderlaw17.CheckNames'. -/
def checkNamesCard : Claim7 := { stood := { row := checkNamesRow, standIns := [], harness := (true, "8ce72ab2e840c79346b94783a1ab2f3f1077f06bb183ec1d6c654322289f8d06"), looks := true }, kinds := [], alts := [], laidByText := true, laidKinds := [.data, .data, .data, .data, .sentinel, .sentinel, .pinned], laidTests := true, laidLooks := .later }
def CheckNamesCardSaid : Prop := Claim7.holds Tryz.pinned (.plain (OpenSpec.ofChange checkNamesSpec)) checkNamesCard

/-- THE TIED CARD OF 'rejoinderlaw17.CheckModes'. -/
def checkModesCard : Claim7 := { stood := { row := checkModesRow, standIns := [], harness := (true, "8ce72ab2e840c79346b94783a1ab2f3f1077f06bb183ec1d6c654322289f8d06"), looks := true }, kinds := [], alts := [], laidByText := true, laidKinds := [.data, .data, .data, .data, .sentinel, .sentinel, .pinned], laidTests := true, laidLooks := .later }
def CheckModesCardSaid : Prop := Claim7.holds Tryz.pinned (.plain (OpenSpec.ofChange checkModesSpec)) checkModesCard

/-- THE TIED CARD OF 'rejoinderlaw17.CheckLabels'. -/
def checkLabelsCard : Claim7 := { stood := { row := checkLabelsRow, standIns := [], harness := (true, "8ce72ab2e840c79346b94783a1ab2f3f1077f06bb183ec1d6c654322289f8d06"), looks := true }, kinds := [], alts := [], laidByText := true, laidKinds := [.data, .data, .data, .data, .sentinel, .sentinel, .pinned], laidTests := true, laidLooks := .later }
def CheckLabelsCardSaid : Prop := Claim7.holds Tryz.pinned (.plain (OpenSpec.ofChange checkLabelsSpec)) checkLabelsCard

/-- THE TIED CARD OF 'rejoinderlaw17.CheckCodes'. -/
def checkCodesCard : Claim7 := { stood := { row := checkCodesRow, standIns := [], harness := (true, "8ce72ab2e840c79346b94783a1ab2f3f1077f06bb183ec1d6c654322289f8d06"), looks := true }, kinds := [], alts := [], laidByText := true, laidKinds := [.data, .data, .data, .data, .sentinel, .sentinel, .pinned], laidTests := true, laidLooks := .later }
def CheckCodesCardSaid : Prop := Claim7.holds Tryz.pinned (.plain (OpenSpec.ofChange checkCodesSpec)) checkCodesCard

/-- THE TIED CARD OF 'rejoinderlaw18.CodeAll'. -/
def codeAllCard : Claim7 := { stood := { row := codeAllRow, standIns := [], harness := (true, "8ce72ab2e840c79346b94783a1ab2f3f1077f06bb183ec1d6c654322289f8d06"), looks := true }, kinds := [], alts := [], laidByText := true, laidKinds := [.data, .data, .data, .data, .sentinel, .sentinel, .pinned], laidTests := true, laidLooks := .later }
def CodeAllCardSaid : Prop := Claim7.holds Tryz.pinned (.plain (OpenSpec.ofChange codeAllSpec)) codeAllCard

/-- THE TIED CARD OF 'rejoinderlaw18.CodeGoes'. -/
def codeGoesCard : Claim7 := { stood := { row := codeGoesRow, standIns := [], harness := (true, "8ce72ab2e840c79346b94783a1ab2f3f1077f06bb183ec1d6c654322289f8d06"), looks := true }, kinds := [], alts := [], laidByText := true, laidKinds := [.data, .data, .data, .data, .sentinel, .sentinel, .pinned], laidTests := true, laidLooks := .later }
def CodeGoesCardSaid : Prop := Claim7.holds Tryz.pinned (.plain (OpenSpec.ofChange codeGoesSpec)) codeGoesCard

/-- THE TIED CARD OF 'rejoinderlaw18.CodeCounts'. -/
def codeCountsCard : Claim7 := { stood := { row := codeCountsRow, standIns := [], harness := (true, "8ce72ab2e840c79346b94783a1ab2f3f1077f06bb183ec1d6c654322289f8d06"), looks := true }, kinds := [], alts := [], laidByText := true, laidKinds := [.data, .data, .data, .data, .sentinel, .sentinel, .pinned], laidTests := true, laidLooks := .later }
def CodeCountsCardSaid : Prop := Claim7.holds Tryz.pinned (.plain (OpenSpec.ofChange codeCountsSpec)) codeCountsCard

/-- THE TIED CARD OF 'rejoinderlaw18.CodeBranches'. -/
def codeBranchesCard : Claim7 := { stood := { row := codeBranchesRow, standIns := [], harness := (true, "8ce72ab2e840c79346b94783a1ab2f3f1077f06bb183ec1d6c654322289f8d06"), looks := true }, kinds := [], alts := [], laidByText := true, laidKinds := [.data, .data, .data, .data, .sentinel, .sentinel, .pinned], laidTests := true, laidLooks := .later }
def CodeBranchesCardSaid : Prop := Claim7.holds Tryz.pinned (.plain (OpenSpec.ofChange codeBranchesSpec)) codeBranchesCard

/-- THE TIED CARD OF 'rejoinderlaw18.CodeJumps'. -/
def codeJumpsCard : Claim7 := { stood := { row := codeJumpsRow, standIns := [], harness := (true, "8ce72ab2e840c79346b94783a1ab2f3f1077f06bb183ec1d6c654322289f8d06"), looks := true }, kinds := [], alts := [], laidByText := true, laidKinds := [.data, .data, .data, .data, .sentinel, .sentinel, .pinned], laidTests := true, laidLooks := .later }
def CodeJumpsCardSaid : Prop := Claim7.holds Tryz.pinned (.plain (OpenSpec.ofChange codeJumpsSpec)) codeJumpsCard

/-- THE SECOND FORM's CARD OF 'rejoinderlaw15.ParseAll'. -/
def parseAllUptoCard : Claim7 := { stood := { row := parseAllUptoRow, standIns := [], harness := (true, "8ce72ab2e840c79346b94783a1ab2f3f1077f06bb183ec1d6c654322289f8d06"), looks := true }, kinds := [], alts := [], laidByText := true, laidKinds := [.data, .data, .data, .data, .sentinel, .sentinel, .pinned], laidTests := true, laidLooks := .later }
def ParseAllUptoCardSaid : Prop := Claim7.holds Tryz.pinned (.plain (OpenSpec.upto parseAllSpec)) parseAllUptoCard

/-- THE SECOND FORM's CARD OF 'rejoinderlaw17.CheckAll'. -/
def checkAllUptoCard : Claim7 := { stood := { row := checkAllUptoRow, standIns := [], harness := (true, "8ce72ab2e840c79346b94783a1ab2f3f1077f06bb183ec1d6c654322289f8d06"), looks := true }, kinds := [], alts := [], laidByText := true, laidKinds := [.data, .data, .data, .data, .sentinel, .sentinel, .pinned], laidTests := true, laidLooks := .later }
def CheckAllUptoCardSaid : Prop := Claim7.holds Tryz.pinned (.plain (OpenSpec.upto checkAllSpec)) checkAllUptoCard

/-- THE SECOND FORM's CARD OF 'rejoinderlaw17.CheckNames'. -/
def checkNamesUptoCard : Claim7 := { stood := { row := checkNamesUptoRow, standIns := [], harness := (true, "8ce72ab2e840c79346b94783a1ab2f3f1077f06bb183ec1d6c654322289f8d06"), looks := true }, kinds := [], alts := [], laidByText := true, laidKinds := [.data, .data, .data, .data, .sentinel, .sentinel, .pinned], laidTests := true, laidLooks := .later }
def CheckNamesUptoCardSaid : Prop := Claim7.holds Tryz.pinned (.plain (OpenSpec.upto checkNamesSpec)) checkNamesUptoCard

/-- THE SECOND FORM's CARD OF 'rejoinderlaw17.CheckModes'. -/
def checkModesUptoCard : Claim7 := { stood := { row := checkModesUptoRow, standIns := [], harness := (true, "8ce72ab2e840c79346b94783a1ab2f3f1077f06bb183ec1d6c654322289f8d06"), looks := true }, kinds := [], alts := [], laidByText := true, laidKinds := [.data, .data, .data, .data, .sentinel, .sentinel, .pinned], laidTests := true, laidLooks := .later }
def CheckModesUptoCardSaid : Prop := Claim7.holds Tryz.pinned (.plain (OpenSpec.upto checkModesSpec)) checkModesUptoCard

/-- THE SECOND FORM's CARD OF 'rejoinderlaw17.CheckLabels'. -/
def checkLabelsUptoCard : Claim7 := { stood := { row := checkLabelsUptoRow, standIns := [], harness := (true, "8ce72ab2e840c79346b94783a1ab2f3f1077f06bb183ec1d6c654322289f8d06"), looks := true }, kinds := [], alts := [], laidByText := true, laidKinds := [.data, .data, .data, .data, .sentinel, .sentinel, .pinned], laidTests := true, laidLooks := .later }
def CheckLabelsUptoCardSaid : Prop := Claim7.holds Tryz.pinned (.plain (OpenSpec.upto checkLabelsSpec)) checkLabelsUptoCard

/-- THE SECOND FORM's CARD OF 'rejoinderlaw17.CheckCodes'. -/
def checkCodesUptoCard : Claim7 := { stood := { row := checkCodesUptoRow, standIns := [], harness := (true, "8ce72ab2e840c79346b94783a1ab2f3f1077f06bb183ec1d6c654322289f8d06"), looks := true }, kinds := [], alts := [], laidByText := true, laidKinds := [.data, .data, .data, .data, .sentinel, .sentinel, .pinned], laidTests := true, laidLooks := .later }
def CheckCodesUptoCardSaid : Prop := Claim7.holds Tryz.pinned (.plain (OpenSpec.upto checkCodesSpec)) checkCodesUptoCard

/-- THE SECOND FORM's CARD OF 'rejoinderlaw18.CodeAll'. -/
def codeAllUptoCard : Claim7 := { stood := { row := codeAllUptoRow, standIns := [], harness := (true, "8ce72ab2e840c79346b94783a1ab2f3f1077f06bb183ec1d6c654322289f8d06"), looks := true }, kinds := [], alts := [], laidByText := true, laidKinds := [.data, .data, .data, .data, .sentinel, .sentinel, .pinned], laidTests := true, laidLooks := .later }
def CodeAllUptoCardSaid : Prop := Claim7.holds Tryz.pinned (.plain (OpenSpec.upto codeAllSpec)) codeAllUptoCard

/-- THE SECOND FORM's CARD OF 'rejoinderlaw18.CodeGoes'. -/
def codeGoesUptoCard : Claim7 := { stood := { row := codeGoesUptoRow, standIns := [], harness := (true, "8ce72ab2e840c79346b94783a1ab2f3f1077f06bb183ec1d6c654322289f8d06"), looks := true }, kinds := [], alts := [], laidByText := true, laidKinds := [.data, .data, .data, .data, .sentinel, .sentinel, .pinned], laidTests := true, laidLooks := .later }
def CodeGoesUptoCardSaid : Prop := Claim7.holds Tryz.pinned (.plain (OpenSpec.upto codeGoesSpec)) codeGoesUptoCard

/-- THE SECOND FORM's CARD OF 'rejoinderlaw18.CodeCounts'. -/
def codeCountsUptoCard : Claim7 := { stood := { row := codeCountsUptoRow, standIns := [], harness := (true, "8ce72ab2e840c79346b94783a1ab2f3f1077f06bb183ec1d6c654322289f8d06"), looks := true }, kinds := [], alts := [], laidByText := true, laidKinds := [.data, .data, .data, .data, .sentinel, .sentinel, .pinned], laidTests := true, laidLooks := .later }
def CodeCountsUptoCardSaid : Prop := Claim7.holds Tryz.pinned (.plain (OpenSpec.upto codeCountsSpec)) codeCountsUptoCard

/-- THE SECOND FORM's CARD OF 'rejoinderlaw18.CodeBranches'. -/
def codeBranchesUptoCard : Claim7 := { stood := { row := codeBranchesUptoRow, standIns := [], harness := (true, "8ce72ab2e840c79346b94783a1ab2f3f1077f06bb183ec1d6c654322289f8d06"), looks := true }, kinds := [], alts := [], laidByText := true, laidKinds := [.data, .data, .data, .data, .sentinel, .sentinel, .pinned], laidTests := true, laidLooks := .later }
def CodeBranchesUptoCardSaid : Prop := Claim7.holds Tryz.pinned (.plain (OpenSpec.upto codeBranchesSpec)) codeBranchesUptoCard

/-- THE SECOND FORM's CARD OF 'rejoinderlaw18.CodeJumps'. -/
def codeJumpsUptoCard : Claim7 := { stood := { row := codeJumpsUptoRow, standIns := [], harness := (true, "8ce72ab2e840c79346b94783a1ab2f3f1077f06bb183ec1d6c654322289f8d06"), looks := true }, kinds := [], alts := [], laidByText := true, laidKinds := [.data, .data, .data, .data, .sentinel, .sentinel, .pinned], laidTests := true, laidLooks := .later }
def CodeJumpsUptoCardSaid : Prop := Claim7.holds Tryz.pinned (.plain (OpenSpec.upto codeJumpsSpec)) codeJumpsUptoCard
end Rows
end Go.Proofs.YtcknfhhbijlobaaGreatDoor

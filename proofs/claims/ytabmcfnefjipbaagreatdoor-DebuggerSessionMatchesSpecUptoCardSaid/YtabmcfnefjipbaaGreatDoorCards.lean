/-
  DERIVED. GIVEN WITH THE SEED: THE CARDS: each row of YtabmcfnefjipbaaGreatDoorRows.lean that lists a variable, with what it lists TIED to the program's text (the seventh form; the later family's looks); each row that meets fmt, with fmt's text TOLD by the authors' own Lean function (tested against real Go, not proved from fmt's source: count such statements apart). THE CARD IS WHAT COUNTS. Prove the row's statement (the work); the ties are given (YtabmcfnefjipbaaGreatDoorTie.lean); close each card by the builder's one call (the guide's Derived/Test/ToyasCard.lean, 'card_holds'). Laid BY PROGRAM, IN A SANDBOX (cutbox-door.mjs). By AI agents, Wed Nov 11 2026. No macro, syntax, notation, axiom, sorry.
-/
import Derived.Test.YtabmcfnefjipbaaGreatDoorRows
import GoSem.ClaimSeven
namespace Go.Proofs.YtabmcfnefjipbaaGreatDoor
namespace Rows

/-- THE TIED CARD OF 'brindlewoodlaw6.ProfileStacksMatchSpec'. -/
def profileStacksMatchSpecCard : Claim7 := { stood := { row := profileStacksMatchSpecRow, standIns := [], harness := (true, "af2c06db23ef88e155f79cbb498bac0256fba931e875a0488cf6f05c1d226af0"), looks := true }, kinds := [], alts := [], laidByText := true, laidKinds := [.data, .data, .data, .data, .pinned], laidTests := true, laidLooks := .later }
def ProfileStacksMatchSpecCardSaid : Prop := Claim7.holds Tryz.pinned (.plain (OpenSpec.ofChange profileStacksMatchSpecSpec)) profileStacksMatchSpecCard

/-- THE TIED CARD OF 'brindlewoodlaw6.DebuggerMoveMatchesSpec'. -/
def debuggerMoveMatchesSpecCard : Claim7 := { stood := { row := debuggerMoveMatchesSpecRow, standIns := [], harness := (true, "af2c06db23ef88e155f79cbb498bac0256fba931e875a0488cf6f05c1d226af0"), looks := true }, kinds := [], alts := [], laidByText := true, laidKinds := [.data, .data, .data, .data, .sentinel, .sentinel, .pinned], laidTests := true, laidLooks := .later }
def DebuggerMoveMatchesSpecCardSaid : Prop := Claim7.holds Tryz.pinned (.plain (OpenSpec.ofChange debuggerMoveMatchesSpecSpec)) debuggerMoveMatchesSpecCard

/-- THE TIED CARD OF 'brindlewoodlaw6.DebuggerStackMatchesSpec'. -/
def debuggerStackMatchesSpecCard : Claim7 := { stood := { row := debuggerStackMatchesSpecRow, standIns := [], harness := (true, "af2c06db23ef88e155f79cbb498bac0256fba931e875a0488cf6f05c1d226af0"), looks := true }, kinds := [], alts := [], laidByText := true, laidKinds := [.data, .data, .data, .data, .sentinel, .sentinel, .pinned], laidTests := true, laidLooks := .later }
def DebuggerStackMatchesSpecCardSaid : Prop := Claim7.holds Tryz.pinned (.plain (OpenSpec.ofChange debuggerStackMatchesSpecSpec)) debuggerStackMatchesSpecCard

/-- THE TIED CARD OF 'brindlewoodlaw6.DebuggerSessionMatchesSpec'. -/
def debuggerSessionMatchesSpecCard : Claim7 := { stood := { row := debuggerSessionMatchesSpecRow, standIns := [], harness := (true, "af2c06db23ef88e155f79cbb498bac0256fba931e875a0488cf6f05c1d226af0"), looks := true }, kinds := [], alts := [], laidByText := true, laidKinds := [.data, .data, .data, .data, .sentinel, .sentinel, .pinned], laidTests := true, laidLooks := .later }
def DebuggerSessionMatchesSpecCardSaid : Prop := Claim7.holds Tryz.pinned (.plain (OpenSpec.ofChange debuggerSessionMatchesSpecSpec)) debuggerSessionMatchesSpecCard

/-- THE TIED CARD OF 'brindlewoodlaw6.DebuggerStepsVisitAll'. -/
def debuggerStepsVisitAllCard : Claim7 := { stood := { row := debuggerStepsVisitAllRow, standIns := [], harness := (true, "af2c06db23ef88e155f79cbb498bac0256fba931e875a0488cf6f05c1d226af0"), looks := true }, kinds := [], alts := [], laidByText := true, laidKinds := [.data, .data, .data, .data, .sentinel, .sentinel, .pinned], laidTests := true, laidLooks := .later }
def DebuggerStepsVisitAllCardSaid : Prop := Claim7.holds Tryz.pinned (.plain (OpenSpec.ofChange debuggerStepsVisitAllSpec)) debuggerStepsVisitAllCard

/-- THE TIED CARD OF 'brindlewoodlaw6.DebuggerOverSkipsCalls'. -/
def debuggerOverSkipsCallsCard : Claim7 := { stood := { row := debuggerOverSkipsCallsRow, standIns := [], harness := (true, "af2c06db23ef88e155f79cbb498bac0256fba931e875a0488cf6f05c1d226af0"), looks := true }, kinds := [], alts := [], laidByText := true, laidKinds := [.data, .data, .data, .data, .sentinel, .sentinel, .pinned], laidTests := true, laidLooks := .later }
def DebuggerOverSkipsCallsCardSaid : Prop := Claim7.holds Tryz.pinned (.plain (OpenSpec.ofChange debuggerOverSkipsCallsSpec)) debuggerOverSkipsCallsCard

/-- THE TIED CARD OF 'brindlewoodlaw6.DebuggerBreakpointsStop'. -/
def debuggerBreakpointsStopCard : Claim7 := { stood := { row := debuggerBreakpointsStopRow, standIns := [], harness := (true, "af2c06db23ef88e155f79cbb498bac0256fba931e875a0488cf6f05c1d226af0"), looks := true }, kinds := [], alts := [], laidByText := true, laidKinds := [.data, .data, .data, .data, .sentinel, .sentinel, .pinned], laidTests := true, laidLooks := .later }
def DebuggerBreakpointsStopCardSaid : Prop := Claim7.holds Tryz.pinned (.plain (OpenSpec.ofChange debuggerBreakpointsStopSpec)) debuggerBreakpointsStopCard

/-- THE TIED CARD OF 'brindlewoodlaw6.DebuggerChangesMatchSpec'. -/
def debuggerChangesMatchSpecCard : Claim7 := { stood := { row := debuggerChangesMatchSpecRow, standIns := [], harness := (true, "af2c06db23ef88e155f79cbb498bac0256fba931e875a0488cf6f05c1d226af0"), looks := true }, kinds := [], alts := [], laidByText := true, laidKinds := [.data, .data, .data, .data, .sentinel, .sentinel, .pinned], laidTests := true, laidLooks := .later }
def DebuggerChangesMatchSpecCardSaid : Prop := Claim7.holds Tryz.pinned (.plain (OpenSpec.ofChange debuggerChangesMatchSpecSpec)) debuggerChangesMatchSpecCard

/-- THE TIED CARD OF 'brindlewoodlaw6.DebuggerChangesAreShown'. -/
def debuggerChangesAreShownCard : Claim7 := { stood := { row := debuggerChangesAreShownRow, standIns := [], harness := (true, "af2c06db23ef88e155f79cbb498bac0256fba931e875a0488cf6f05c1d226af0"), looks := true }, kinds := [], alts := [], laidByText := true, laidKinds := [.data, .data, .data, .data, .sentinel, .sentinel, .pinned], laidTests := true, laidLooks := .later }
def DebuggerChangesAreShownCardSaid : Prop := Claim7.holds Tryz.pinned (.plain (OpenSpec.ofChange debuggerChangesAreShownSpec)) debuggerChangesAreShownCard

/-- THE SECOND FORM's CARD OF 'brindlewoodlaw6.ProfileStacksMatchSpec'. -/
def profileStacksMatchSpecUptoCard : Claim7 := { stood := { row := profileStacksMatchSpecUptoRow, standIns := [], harness := (true, "af2c06db23ef88e155f79cbb498bac0256fba931e875a0488cf6f05c1d226af0"), looks := true }, kinds := [], alts := [], laidByText := true, laidKinds := [.data, .data, .data, .data, .pinned], laidTests := true, laidLooks := .later }
def ProfileStacksMatchSpecUptoCardSaid : Prop := Claim7.holds Tryz.pinned (.plain (OpenSpec.upto profileStacksMatchSpecSpec)) profileStacksMatchSpecUptoCard

/-- THE SECOND FORM's CARD OF 'brindlewoodlaw6.DebuggerMoveMatchesSpec'. -/
def debuggerMoveMatchesSpecUptoCard : Claim7 := { stood := { row := debuggerMoveMatchesSpecUptoRow, standIns := [], harness := (true, "af2c06db23ef88e155f79cbb498bac0256fba931e875a0488cf6f05c1d226af0"), looks := true }, kinds := [], alts := [], laidByText := true, laidKinds := [.data, .data, .data, .data, .sentinel, .sentinel, .pinned], laidTests := true, laidLooks := .later }
def DebuggerMoveMatchesSpecUptoCardSaid : Prop := Claim7.holds Tryz.pinned (.plain (OpenSpec.upto debuggerMoveMatchesSpecSpec)) debuggerMoveMatchesSpecUptoCard

/-- THE SECOND FORM's CARD OF 'brindlewoodlaw6.DebuggerStackMatchesSpec'. -/
def debuggerStackMatchesSpecUptoCard : Claim7 := { stood := { row := debuggerStackMatchesSpecUptoRow, standIns := [], harness := (true, "af2c06db23ef88e155f79cbb498bac0256fba931e875a0488cf6f05c1d226af0"), looks := true }, kinds := [], alts := [], laidByText := true, laidKinds := [.data, .data, .data, .data, .sentinel, .sentinel, .pinned], laidTests := true, laidLooks := .later }
def DebuggerStackMatchesSpecUptoCardSaid : Prop := Claim7.holds Tryz.pinned (.plain (OpenSpec.upto debuggerStackMatchesSpecSpec)) debuggerStackMatchesSpecUptoCard

/-- THE SECOND FORM's CARD OF 'brindlewoodlaw6.DebuggerSessionMatchesSpec'. -/
def debuggerSessionMatchesSpecUptoCard : Claim7 := { stood := { row := debuggerSessionMatchesSpecUptoRow, standIns := [], harness := (true, "af2c06db23ef88e155f79cbb498bac0256fba931e875a0488cf6f05c1d226af0"), looks := true }, kinds := [], alts := [], laidByText := true, laidKinds := [.data, .data, .data, .data, .sentinel, .sentinel, .pinned], laidTests := true, laidLooks := .later }
def DebuggerSessionMatchesSpecUptoCardSaid : Prop := Claim7.holds Tryz.pinned (.plain (OpenSpec.upto debuggerSessionMatchesSpecSpec)) debuggerSessionMatchesSpecUptoCard

/-- THE SECOND FORM's CARD OF 'brindlewoodlaw6.DebuggerStepsVisitAll'. -/
def debuggerStepsVisitAllUptoCard : Claim7 := { stood := { row := debuggerStepsVisitAllUptoRow, standIns := [], harness := (true, "af2c06db23ef88e155f79cbb498bac0256fba931e875a0488cf6f05c1d226af0"), looks := true }, kinds := [], alts := [], laidByText := true, laidKinds := [.data, .data, .data, .data, .sentinel, .sentinel, .pinned], laidTests := true, laidLooks := .later }
def DebuggerStepsVisitAllUptoCardSaid : Prop := Claim7.holds Tryz.pinned (.plain (OpenSpec.upto debuggerStepsVisitAllSpec)) debuggerStepsVisitAllUptoCard

/-- THE SECOND FORM's CARD OF 'brindlewoodlaw6.DebuggerOverSkipsCalls'. -/
def debuggerOverSkipsCallsUptoCard : Claim7 := { stood := { row := debuggerOverSkipsCallsUptoRow, standIns := [], harness := (true, "af2c06db23ef88e155f79cbb498bac0256fba931e875a0488cf6f05c1d226af0"), looks := true }, kinds := [], alts := [], laidByText := true, laidKinds := [.data, .data, .data, .data, .sentinel, .sentinel, .pinned], laidTests := true, laidLooks := .later }
def DebuggerOverSkipsCallsUptoCardSaid : Prop := Claim7.holds Tryz.pinned (.plain (OpenSpec.upto debuggerOverSkipsCallsSpec)) debuggerOverSkipsCallsUptoCard

/-- THE SECOND FORM's CARD OF 'brindlewoodlaw6.DebuggerBreakpointsStop'. -/
def debuggerBreakpointsStopUptoCard : Claim7 := { stood := { row := debuggerBreakpointsStopUptoRow, standIns := [], harness := (true, "af2c06db23ef88e155f79cbb498bac0256fba931e875a0488cf6f05c1d226af0"), looks := true }, kinds := [], alts := [], laidByText := true, laidKinds := [.data, .data, .data, .data, .sentinel, .sentinel, .pinned], laidTests := true, laidLooks := .later }
def DebuggerBreakpointsStopUptoCardSaid : Prop := Claim7.holds Tryz.pinned (.plain (OpenSpec.upto debuggerBreakpointsStopSpec)) debuggerBreakpointsStopUptoCard

/-- THE SECOND FORM's CARD OF 'brindlewoodlaw6.DebuggerChangesMatchSpec'. -/
def debuggerChangesMatchSpecUptoCard : Claim7 := { stood := { row := debuggerChangesMatchSpecUptoRow, standIns := [], harness := (true, "af2c06db23ef88e155f79cbb498bac0256fba931e875a0488cf6f05c1d226af0"), looks := true }, kinds := [], alts := [], laidByText := true, laidKinds := [.data, .data, .data, .data, .sentinel, .sentinel, .pinned], laidTests := true, laidLooks := .later }
def DebuggerChangesMatchSpecUptoCardSaid : Prop := Claim7.holds Tryz.pinned (.plain (OpenSpec.upto debuggerChangesMatchSpecSpec)) debuggerChangesMatchSpecUptoCard

/-- THE SECOND FORM's CARD OF 'brindlewoodlaw6.DebuggerChangesAreShown'. -/
def debuggerChangesAreShownUptoCard : Claim7 := { stood := { row := debuggerChangesAreShownUptoRow, standIns := [], harness := (true, "af2c06db23ef88e155f79cbb498bac0256fba931e875a0488cf6f05c1d226af0"), looks := true }, kinds := [], alts := [], laidByText := true, laidKinds := [.data, .data, .data, .data, .sentinel, .sentinel, .pinned], laidTests := true, laidLooks := .later }
def DebuggerChangesAreShownUptoCardSaid : Prop := Claim7.holds Tryz.pinned (.plain (OpenSpec.upto debuggerChangesAreShownSpec)) debuggerChangesAreShownUptoCard
end Rows
end Go.Proofs.YtabmcfnefjipbaaGreatDoor

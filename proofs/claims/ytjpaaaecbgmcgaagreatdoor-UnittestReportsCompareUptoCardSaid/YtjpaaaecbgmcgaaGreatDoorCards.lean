/-
  DERIVED. GIVEN WITH THE SEED: THE CARDS: each row of YtjpaaaecbgmcgaaGreatDoorRows.lean that lists a variable, with what it lists TIED to the program's text (the seventh form; the later family's looks); each row that meets fmt, with fmt's text TOLD by the authors' own Lean function (tested against real Go, not proved from fmt's source: count such statements apart). THE CARD IS WHAT COUNTS. Prove the row's statement (the work); the ties are given (YtjpaaaecbgmcgaaGreatDoorTie.lean); close each card by the builder's one call (the guide's Derived/Test/ToyasCard.lean, 'card_holds'). Laid BY PROGRAM, IN A SANDBOX (cutbox-door.mjs). By AI agents, Wed Nov 11 2026. No macro, syntax, notation, axiom, sorry.
-/
import Derived.Test.YtjpaaaecbgmcgaaGreatDoorRows
import GoSem.ClaimSeven
namespace Go.Proofs.YtjpaaaecbgmcgaaGreatDoor
namespace Rows

/-- THE TIED CARD OF 'brindlewoodlaw6.UnittestReportMatchesSpec'. -/
def unittestReportMatchesSpecCard : Claim7 := { stood := { row := unittestReportMatchesSpecRow, standIns := [], harness := (true, "6e30115fad282758654610a1f273a761d501e028ba0302b2b0206ed98138c94d"), looks := true }, kinds := [], alts := [], laidByText := true, laidKinds := [.data, .data, .data, .data, .sentinel, .sentinel, .listed, .data, .pinned], laidTests := true, laidLooks := .later }
def UnittestReportMatchesSpecCardSaid : Prop := Claim7.holds Tryz.pinned (.plain (OpenSpec.ofChange unittestReportMatchesSpecSpec)) unittestReportMatchesSpecCard

/-- THE TIED CARD OF 'brindlewoodlaw6.UnittestCompareMatchesSpec'. -/
def unittestCompareMatchesSpecCard : Claim7 := { stood := { row := unittestCompareMatchesSpecRow, standIns := [], harness := (true, "6e30115fad282758654610a1f273a761d501e028ba0302b2b0206ed98138c94d"), looks := true }, kinds := [], alts := [], laidByText := true, laidKinds := [.data, .data, .data, .data, .sentinel, .sentinel, .listed, .data, .pinned], laidTests := true, laidLooks := .later }
def UnittestCompareMatchesSpecCardSaid : Prop := Claim7.holds Tryz.pinned (.plain (OpenSpec.ofChange unittestCompareMatchesSpecSpec)) unittestCompareMatchesSpecCard

/-- THE TIED CARD OF 'brindlewoodlaw6.UnittestReportsCompare'. -/
def unittestReportsCompareCard : Claim7 := { stood := { row := unittestReportsCompareRow, standIns := [], harness := (true, "6e30115fad282758654610a1f273a761d501e028ba0302b2b0206ed98138c94d"), looks := true }, kinds := [], alts := [], laidByText := true, laidKinds := [.data, .data, .data, .data, .sentinel, .sentinel, .listed, .data, .pinned], laidTests := true, laidLooks := .later }
def UnittestReportsCompareCardSaid : Prop := Claim7.holds Tryz.pinned (.plain (OpenSpec.ofChange unittestReportsCompareSpec)) unittestReportsCompareCard

/-- THE SECOND FORM's CARD OF 'brindlewoodlaw6.UnittestReportMatchesSpec'. -/
def unittestReportMatchesSpecUptoCard : Claim7 := { stood := { row := unittestReportMatchesSpecUptoRow, standIns := [], harness := (true, "6e30115fad282758654610a1f273a761d501e028ba0302b2b0206ed98138c94d"), looks := true }, kinds := [], alts := [], laidByText := true, laidKinds := [.data, .data, .data, .data, .sentinel, .sentinel, .listed, .data, .pinned], laidTests := true, laidLooks := .later }
def UnittestReportMatchesSpecUptoCardSaid : Prop := Claim7.holds Tryz.pinned (.plain (OpenSpec.upto unittestReportMatchesSpecSpec)) unittestReportMatchesSpecUptoCard

/-- THE SECOND FORM's CARD OF 'brindlewoodlaw6.UnittestCompareMatchesSpec'. -/
def unittestCompareMatchesSpecUptoCard : Claim7 := { stood := { row := unittestCompareMatchesSpecUptoRow, standIns := [], harness := (true, "6e30115fad282758654610a1f273a761d501e028ba0302b2b0206ed98138c94d"), looks := true }, kinds := [], alts := [], laidByText := true, laidKinds := [.data, .data, .data, .data, .sentinel, .sentinel, .listed, .data, .pinned], laidTests := true, laidLooks := .later }
def UnittestCompareMatchesSpecUptoCardSaid : Prop := Claim7.holds Tryz.pinned (.plain (OpenSpec.upto unittestCompareMatchesSpecSpec)) unittestCompareMatchesSpecUptoCard

/-- THE SECOND FORM's CARD OF 'brindlewoodlaw6.UnittestReportsCompare'. -/
def unittestReportsCompareUptoCard : Claim7 := { stood := { row := unittestReportsCompareUptoRow, standIns := [], harness := (true, "6e30115fad282758654610a1f273a761d501e028ba0302b2b0206ed98138c94d"), looks := true }, kinds := [], alts := [], laidByText := true, laidKinds := [.data, .data, .data, .data, .sentinel, .sentinel, .listed, .data, .pinned], laidTests := true, laidLooks := .later }
def UnittestReportsCompareUptoCardSaid : Prop := Claim7.holds Tryz.pinned (.plain (OpenSpec.upto unittestReportsCompareSpec)) unittestReportsCompareUptoCard
end Rows
end Go.Proofs.YtjpaaaecbgmcgaaGreatDoor

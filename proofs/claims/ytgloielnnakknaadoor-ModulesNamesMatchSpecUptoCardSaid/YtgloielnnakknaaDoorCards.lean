/-
  DERIVED. GIVEN WITH THE SEED: THE CARDS: each row of YtgloielnnakknaaDoorRows.lean that lists a variable, with what it lists TIED to the program's text (the seventh form; the later family's looks); each row that meets fmt, with fmt's text TOLD by the authors' own Lean function (tested against real Go, not proved from fmt's source: count such statements apart). THE CARD IS WHAT COUNTS. Prove the row's statement (the work); the ties are given (YtgloielnnakknaaDoorTie.lean); close each card by the builder's one call (the guide's Derived/Test/ToyasCard.lean, 'card_holds'). Laid BY PROGRAM, IN A SANDBOX (cutbox-door.mjs). By AI agents, Wed Nov 11 2026. No macro, syntax, notation, axiom, sorry.
-/
import Derived.Test.YtgloielnnakknaaDoorRows
import GoSem.ClaimSeven
namespace Go.Proofs.YtgloielnnakknaaDoor
namespace Rows

/-- THE TIED CARD OF 'brindlewoodlaw6.ModulesChainMatchesSpec'. -/
def modulesChainMatchesSpecCard : Claim7 := { stood := { row := modulesChainMatchesSpecRow, standIns := [], harness := (true, "86329e8a206566e4ae8b7d0a2a633dbf0b58c32db404e29160605fbb8348547a"), looks := false }, kinds := [], alts := [], laidByText := true, laidKinds := [.data, .pinned], laidTests := true, laidLooks := .later }
def ModulesChainMatchesSpecCardSaid : Prop := Claim7.holds Tryd.pinned (.plain (OpenSpec.ofChange modulesChainMatchesSpecSpec)) modulesChainMatchesSpecCard

/-- THE TIED CARD OF 'brindlewoodlaw6.ModulesLoadMatchesSpec'. -/
def modulesLoadMatchesSpecCard : Claim7 := { stood := { row := modulesLoadMatchesSpecRow, standIns := [], harness := (true, "86329e8a206566e4ae8b7d0a2a633dbf0b58c32db404e29160605fbb8348547a"), looks := false }, kinds := [], alts := [], laidByText := true, laidKinds := [.data, .pinned], laidTests := true, laidLooks := .later }
def ModulesLoadMatchesSpecCardSaid : Prop := Claim7.holds Tryd.pinned (.plain (OpenSpec.ofChange modulesLoadMatchesSpecSpec)) modulesLoadMatchesSpecCard

/-- THE TIED CARD OF 'brindlewoodlaw6.ModulesNamesMatchSpec'. -/
def modulesNamesMatchSpecCard : Claim7 := { stood := { row := modulesNamesMatchSpecRow, standIns := [], harness := (true, "86329e8a206566e4ae8b7d0a2a633dbf0b58c32db404e29160605fbb8348547a"), looks := false }, kinds := [], alts := [], laidByText := true, laidKinds := [.data, .pinned], laidTests := true, laidLooks := .later }
def ModulesNamesMatchSpecCardSaid : Prop := Claim7.holds Tryd.pinned (.plain (OpenSpec.ofChange modulesNamesMatchSpecSpec)) modulesNamesMatchSpecCard

/-- THE TIED CARD OF 'brindlewoodlaw6.ModulesRunOnce'. -/
def modulesRunOnceCard : Claim7 := { stood := { row := modulesRunOnceRow, standIns := [], harness := (true, "86329e8a206566e4ae8b7d0a2a633dbf0b58c32db404e29160605fbb8348547a"), looks := false }, kinds := [], alts := [], laidByText := true, laidKinds := [.data, .pinned], laidTests := true, laidLooks := .later }
def ModulesRunOnceCardSaid : Prop := Claim7.holds Tryd.pinned (.plain (OpenSpec.ofChange modulesRunOnceSpec)) modulesRunOnceCard

/-- THE TIED CARD OF 'brindlewoodlaw6.ModulesDefinitionsStay'. -/
def modulesDefinitionsStayCard : Claim7 := { stood := { row := modulesDefinitionsStayRow, standIns := [], harness := (true, "86329e8a206566e4ae8b7d0a2a633dbf0b58c32db404e29160605fbb8348547a"), looks := false }, kinds := [], alts := [], laidByText := true, laidKinds := [.data, .pinned], laidTests := true, laidLooks := .later }
def ModulesDefinitionsStayCardSaid : Prop := Claim7.holds Tryd.pinned (.plain (OpenSpec.ofChange modulesDefinitionsStaySpec)) modulesDefinitionsStayCard

/-- THE SECOND FORM's CARD OF 'brindlewoodlaw6.ModulesChainMatchesSpec'. -/
def modulesChainMatchesSpecUptoCard : Claim7 := { stood := { row := modulesChainMatchesSpecUptoRow, standIns := [], harness := (true, "86329e8a206566e4ae8b7d0a2a633dbf0b58c32db404e29160605fbb8348547a"), looks := false }, kinds := [], alts := [], laidByText := true, laidKinds := [.data, .pinned], laidTests := true, laidLooks := .later }
def ModulesChainMatchesSpecUptoCardSaid : Prop := Claim7.holds Tryd.pinned (.plain (OpenSpec.upto modulesChainMatchesSpecSpec)) modulesChainMatchesSpecUptoCard

/-- THE SECOND FORM's CARD OF 'brindlewoodlaw6.ModulesLoadMatchesSpec'. -/
def modulesLoadMatchesSpecUptoCard : Claim7 := { stood := { row := modulesLoadMatchesSpecUptoRow, standIns := [], harness := (true, "86329e8a206566e4ae8b7d0a2a633dbf0b58c32db404e29160605fbb8348547a"), looks := false }, kinds := [], alts := [], laidByText := true, laidKinds := [.data, .pinned], laidTests := true, laidLooks := .later }
def ModulesLoadMatchesSpecUptoCardSaid : Prop := Claim7.holds Tryd.pinned (.plain (OpenSpec.upto modulesLoadMatchesSpecSpec)) modulesLoadMatchesSpecUptoCard

/-- THE SECOND FORM's CARD OF 'brindlewoodlaw6.ModulesNamesMatchSpec'. -/
def modulesNamesMatchSpecUptoCard : Claim7 := { stood := { row := modulesNamesMatchSpecUptoRow, standIns := [], harness := (true, "86329e8a206566e4ae8b7d0a2a633dbf0b58c32db404e29160605fbb8348547a"), looks := false }, kinds := [], alts := [], laidByText := true, laidKinds := [.data, .pinned], laidTests := true, laidLooks := .later }
def ModulesNamesMatchSpecUptoCardSaid : Prop := Claim7.holds Tryd.pinned (.plain (OpenSpec.upto modulesNamesMatchSpecSpec)) modulesNamesMatchSpecUptoCard

/-- THE SECOND FORM's CARD OF 'brindlewoodlaw6.ModulesRunOnce'. -/
def modulesRunOnceUptoCard : Claim7 := { stood := { row := modulesRunOnceUptoRow, standIns := [], harness := (true, "86329e8a206566e4ae8b7d0a2a633dbf0b58c32db404e29160605fbb8348547a"), looks := false }, kinds := [], alts := [], laidByText := true, laidKinds := [.data, .pinned], laidTests := true, laidLooks := .later }
def ModulesRunOnceUptoCardSaid : Prop := Claim7.holds Tryd.pinned (.plain (OpenSpec.upto modulesRunOnceSpec)) modulesRunOnceUptoCard

/-- THE SECOND FORM's CARD OF 'brindlewoodlaw6.ModulesDefinitionsStay'. -/
def modulesDefinitionsStayUptoCard : Claim7 := { stood := { row := modulesDefinitionsStayUptoRow, standIns := [], harness := (true, "86329e8a206566e4ae8b7d0a2a633dbf0b58c32db404e29160605fbb8348547a"), looks := false }, kinds := [], alts := [], laidByText := true, laidKinds := [.data, .pinned], laidTests := true, laidLooks := .later }
def ModulesDefinitionsStayUptoCardSaid : Prop := Claim7.holds Tryd.pinned (.plain (OpenSpec.upto modulesDefinitionsStaySpec)) modulesDefinitionsStayUptoCard
end Rows
end Go.Proofs.YtgloielnnakknaaDoor

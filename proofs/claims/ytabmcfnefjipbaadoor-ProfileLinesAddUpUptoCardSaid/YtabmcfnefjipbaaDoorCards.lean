/-
  DERIVED. GIVEN WITH THE SEED: THE CARDS: each row of YtabmcfnefjipbaaDoorRows.lean that lists a variable, with what it lists TIED to the program's text (the seventh form; the later family's looks); each row that meets fmt, with fmt's text TOLD by the authors' own Lean function (tested against real Go, not proved from fmt's source: count such statements apart). THE CARD IS WHAT COUNTS. Prove the row's statement (the work); the ties are given (YtabmcfnefjipbaaDoorTie.lean); close each card by the builder's one call (the guide's Derived/Test/ToyasCard.lean, 'card_holds'). Laid BY PROGRAM, IN A SANDBOX (cutbox-door.mjs). By AI agents, Wed Nov 11 2026. No macro, syntax, notation, axiom, sorry.
-/
import Derived.Test.YtabmcfnefjipbaaDoorRows
import GoSem.ClaimSeven
namespace Go.Proofs.YtabmcfnefjipbaaDoor
namespace Rows

/-- THE TIED CARD OF 'brindlewoodlaw6.ProfileCostsMatchSpec'. -/
def profileCostsMatchSpecCard : Claim7 := { stood := { row := profileCostsMatchSpecRow, standIns := [], harness := (true, "de468d6c9e2238bbd0e78823285e3dfff5d7d263ee7fca7fd4de8bdd3822dd7b"), looks := false }, kinds := [], alts := [], laidByText := true, laidKinds := [.data, .data, .data, .data, .pinned], laidTests := true, laidLooks := .later }
def ProfileCostsMatchSpecCardSaid : Prop := Claim7.holds Tryd.pinned (.plain (OpenSpec.ofChange profileCostsMatchSpecSpec)) profileCostsMatchSpecCard

/-- THE TIED CARD OF 'brindlewoodlaw6.ProfileLinesMatchSpec'. -/
def profileLinesMatchSpecCard : Claim7 := { stood := { row := profileLinesMatchSpecRow, standIns := [], harness := (true, "de468d6c9e2238bbd0e78823285e3dfff5d7d263ee7fca7fd4de8bdd3822dd7b"), looks := false }, kinds := [], alts := [], laidByText := true, laidKinds := [.data, .data, .data, .data, .pinned], laidTests := true, laidLooks := .later }
def ProfileLinesMatchSpecCardSaid : Prop := Claim7.holds Tryd.pinned (.plain (OpenSpec.ofChange profileLinesMatchSpecSpec)) profileLinesMatchSpecCard

/-- THE TIED CARD OF 'brindlewoodlaw6.ProfileAddsUp'. -/
def profileAddsUpCard : Claim7 := { stood := { row := profileAddsUpRow, standIns := [], harness := (true, "de468d6c9e2238bbd0e78823285e3dfff5d7d263ee7fca7fd4de8bdd3822dd7b"), looks := false }, kinds := [], alts := [], laidByText := true, laidKinds := [.data, .data, .data, .data, .pinned], laidTests := true, laidLooks := .later }
def ProfileAddsUpCardSaid : Prop := Claim7.holds Tryd.pinned (.plain (OpenSpec.ofChange profileAddsUpSpec)) profileAddsUpCard

/-- THE TIED CARD OF 'brindlewoodlaw6.ProfileLinesAddUp'. -/
def profileLinesAddUpCard : Claim7 := { stood := { row := profileLinesAddUpRow, standIns := [], harness := (true, "de468d6c9e2238bbd0e78823285e3dfff5d7d263ee7fca7fd4de8bdd3822dd7b"), looks := false }, kinds := [], alts := [], laidByText := true, laidKinds := [.data, .data, .data, .data, .pinned], laidTests := true, laidLooks := .later }
def ProfileLinesAddUpCardSaid : Prop := Claim7.holds Tryd.pinned (.plain (OpenSpec.ofChange profileLinesAddUpSpec)) profileLinesAddUpCard

/-- THE SECOND FORM's CARD OF 'brindlewoodlaw6.ProfileCostsMatchSpec'. -/
def profileCostsMatchSpecUptoCard : Claim7 := { stood := { row := profileCostsMatchSpecUptoRow, standIns := [], harness := (true, "de468d6c9e2238bbd0e78823285e3dfff5d7d263ee7fca7fd4de8bdd3822dd7b"), looks := false }, kinds := [], alts := [], laidByText := true, laidKinds := [.data, .data, .data, .data, .pinned], laidTests := true, laidLooks := .later }
def ProfileCostsMatchSpecUptoCardSaid : Prop := Claim7.holds Tryd.pinned (.plain (OpenSpec.upto profileCostsMatchSpecSpec)) profileCostsMatchSpecUptoCard

/-- THE SECOND FORM's CARD OF 'brindlewoodlaw6.ProfileLinesMatchSpec'. -/
def profileLinesMatchSpecUptoCard : Claim7 := { stood := { row := profileLinesMatchSpecUptoRow, standIns := [], harness := (true, "de468d6c9e2238bbd0e78823285e3dfff5d7d263ee7fca7fd4de8bdd3822dd7b"), looks := false }, kinds := [], alts := [], laidByText := true, laidKinds := [.data, .data, .data, .data, .pinned], laidTests := true, laidLooks := .later }
def ProfileLinesMatchSpecUptoCardSaid : Prop := Claim7.holds Tryd.pinned (.plain (OpenSpec.upto profileLinesMatchSpecSpec)) profileLinesMatchSpecUptoCard

/-- THE SECOND FORM's CARD OF 'brindlewoodlaw6.ProfileAddsUp'. -/
def profileAddsUpUptoCard : Claim7 := { stood := { row := profileAddsUpUptoRow, standIns := [], harness := (true, "de468d6c9e2238bbd0e78823285e3dfff5d7d263ee7fca7fd4de8bdd3822dd7b"), looks := false }, kinds := [], alts := [], laidByText := true, laidKinds := [.data, .data, .data, .data, .pinned], laidTests := true, laidLooks := .later }
def ProfileAddsUpUptoCardSaid : Prop := Claim7.holds Tryd.pinned (.plain (OpenSpec.upto profileAddsUpSpec)) profileAddsUpUptoCard

/-- THE SECOND FORM's CARD OF 'brindlewoodlaw6.ProfileLinesAddUp'. -/
def profileLinesAddUpUptoCard : Claim7 := { stood := { row := profileLinesAddUpUptoRow, standIns := [], harness := (true, "de468d6c9e2238bbd0e78823285e3dfff5d7d263ee7fca7fd4de8bdd3822dd7b"), looks := false }, kinds := [], alts := [], laidByText := true, laidKinds := [.data, .data, .data, .data, .pinned], laidTests := true, laidLooks := .later }
def ProfileLinesAddUpUptoCardSaid : Prop := Claim7.holds Tryd.pinned (.plain (OpenSpec.upto profileLinesAddUpSpec)) profileLinesAddUpUptoCard
end Rows
end Go.Proofs.YtabmcfnefjipbaaDoor

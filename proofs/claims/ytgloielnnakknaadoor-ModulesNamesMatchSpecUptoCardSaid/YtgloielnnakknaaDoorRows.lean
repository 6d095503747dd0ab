/-
  NARROWER THAN 'FOR EVERY INPUT', by the rows' own cells (each row's printed sentence says how): ModulesChainMatchesSpec: laid · ModulesLoadMatchesSpec: laid · ModulesNamesMatchSpec: laid · ModulesRunOnce: laid · ModulesDefinitionsStay: laid.
  DERIVED. THE GIVEN ROWS OF THIS SEAT. 5 by the template 'for every input the law returns true; each argument reads behind the call as it read before'; 0 by the template 'total and deterministic' (their statements: YtgloielnnakknaaDoorTotals.lean).
  GIVEN WITH THE SEED: the statements are not yours to turn. If you find one false, say at which input.
  Laid BY PROGRAM, IN A SANDBOX (cutbox-rows.mjs): the forced cells as the released guide's own fill.sh prints them over the translation 878e33727347b755… (all of the seat's roots in one cut). By AI agents, Wed Nov 11 2026. No macro, syntax, notation, axiom, sorry.
-/
import Derived.Test.YtgloielnnakknaaDoorChecked
import GoSem.PinnedTables
import GoSem.Claim
import GoSem.ClaimJoined
import GoSem.ClaimMapViews
import Derived.JoinedTies
import Derived.KernelRfl
namespace Go.Proofs.YtgloielnnakknaaDoor
/- THE CELL 'sum', in the pinned program and in every row, IS THE sha256 OF THE DUMP (.gsa) THAT YtgloielnnakknaaDoorProg.lean LOADS. Nothing in Lean hashes anything: it is a label: what it is worth is what the hold of that sum in a sandbox is worth. -/
noncomputable def Tryd.pinned : Pinned := { name := "ytgloielnnakknaadoor", sum := "878e33727347b755a762daca8fd6604259fb925725becc72251ca70cd5b9ea3e", checked := Tryd.checked }
namespace Rows
def none {H : Type} : Left H := { results := [], args := [] }

/- WHAT THE LISTED PACKAGE-LEVEL VARIABLES READ AS WHEN THE CALL BEGINS. Each datum BY PROGRAM (the guide's laid-datum.mjs) off the statement by which the dump's own 'gosem.cut.vars' lays the variable. In a bare row this is a premise. The card (YtgloielnnakknaaDoorCards.lean) ties it to the program's text. -/
def laid_unicode_utf8_acceptRanges {H : Type} : DataW H := .agg [.agg [.lit (.int .u8 128), .lit (.int .u8 191)], .agg [.lit (.int .u8 160), .lit (.int .u8 191)], .agg [.lit (.int .u8 128), .lit (.int .u8 159)], .agg [.lit (.int .u8 144), .lit (.int .u8 191)], .agg [.lit (.int .u8 128), .lit (.int .u8 143)], .agg [.lit (.int .u8 0), .lit (.int .u8 0)], .agg [.lit (.int .u8 0), .lit (.int .u8 0)], .agg [.lit (.int .u8 0), .lit (.int .u8 0)], .agg [.lit (.int .u8 0), .lit (.int .u8 0)], .agg [.lit (.int .u8 0), .lit (.int .u8 0)], .agg [.lit (.int .u8 0), .lit (.int .u8 0)], .agg [.lit (.int .u8 0), .lit (.int .u8 0)], .agg [.lit (.int .u8 0), .lit (.int .u8 0)], .agg [.lit (.int .u8 0), .lit (.int .u8 0)], .agg [.lit (.int .u8 0), .lit (.int .u8 0)], .agg [.lit (.int .u8 0), .lit (.int .u8 0)]]
/-- One of Go's own tables, pinned by name: the form's constant. -/
def laid_unicode_utf8_first : DataW Unit := Go.Pinned.utf8First

/-- 'brindlewoodlaw6.ModulesChainMatchesSpec': WHATEVER THE INPUT: true; the input reads as it did. -/
def modulesChainMatchesSpecSpec : ChangeSpec := { name := "modulesChainMatchesSpec", fn := fun _ => fun
  | [d] => { results := [.lit (.bool true)], args := [d] }
  | _ => none }
def modulesChainMatchesSpecRow : OpenClaim := { program := "ytgloielnnakknaadoor", sum := "878e33727347b755a762daca8fd6604259fb925725becc72251ca70cd5b9ea3e", func := "brindlewood/brindlewoodlaw6.ModulesChainMatchesSpec", spec := "modulesChainMatchesSpec", inPlace := ["internal/bytealg.CountString", "internal/bytealg.IndexByteString", "internal/bytealg.IndexString", "internal/abi.NoEscape"], unfollowed := true, recurses := true, named := ["unicode/utf8.first", "unicode/utf8.acceptRanges", "internal/bytealg.MaxLen"], apart := false, laid := [("unicode/utf8.acceptRanges", laid_unicode_utf8_acceptRanges), ("unicode/utf8.first", laid_unicode_utf8_first)] }
def ModulesChainMatchesSpecSaid : Prop := modulesChainMatchesSpecRow.holds Tryd.pinned (OpenSpec.ofChange modulesChainMatchesSpecSpec)

/-- ITS FALSE NEIGHBOUR: 'it returns false'. Refute it at one input. -/
def modulesChainMatchesSpecWrong : ChangeSpec := { name := "modulesChainMatchesSpec", fn := fun _ => fun
  | [d] => { results := [.lit (.bool false)], args := [d] }
  | _ => none }
def ModulesChainMatchesSpecWrongFalsely : Prop := modulesChainMatchesSpecRow.holds Tryd.pinned (OpenSpec.ofChange modulesChainMatchesSpecWrong)

/-- 'brindlewoodlaw6.ModulesLoadMatchesSpec': WHATEVER THE INPUT: true; the input reads as it did. -/
def modulesLoadMatchesSpecSpec : ChangeSpec := { name := "modulesLoadMatchesSpec", fn := fun _ => fun
  | [d] => { results := [.lit (.bool true)], args := [d] }
  | _ => none }
def modulesLoadMatchesSpecRow : OpenClaim := { program := "ytgloielnnakknaadoor", sum := "878e33727347b755a762daca8fd6604259fb925725becc72251ca70cd5b9ea3e", func := "brindlewood/brindlewoodlaw6.ModulesLoadMatchesSpec", spec := "modulesLoadMatchesSpec", inPlace := ["internal/bytealg.CountString", "internal/bytealg.IndexByteString", "internal/bytealg.IndexString", "internal/abi.NoEscape"], unfollowed := true, recurses := true, named := ["unicode/utf8.first", "unicode/utf8.acceptRanges", "internal/bytealg.MaxLen"], apart := false, laid := [("unicode/utf8.acceptRanges", laid_unicode_utf8_acceptRanges), ("unicode/utf8.first", laid_unicode_utf8_first)] }
def ModulesLoadMatchesSpecSaid : Prop := modulesLoadMatchesSpecRow.holds Tryd.pinned (OpenSpec.ofChange modulesLoadMatchesSpecSpec)

/-- ITS FALSE NEIGHBOUR: 'it returns false'. Refute it at one input. -/
def modulesLoadMatchesSpecWrong : ChangeSpec := { name := "modulesLoadMatchesSpec", fn := fun _ => fun
  | [d] => { results := [.lit (.bool false)], args := [d] }
  | _ => none }
def ModulesLoadMatchesSpecWrongFalsely : Prop := modulesLoadMatchesSpecRow.holds Tryd.pinned (OpenSpec.ofChange modulesLoadMatchesSpecWrong)

/-- 'brindlewoodlaw6.ModulesNamesMatchSpec': WHATEVER THE INPUT: true; the input reads as it did. -/
def modulesNamesMatchSpecSpec : ChangeSpec := { name := "modulesNamesMatchSpec", fn := fun _ => fun
  | [d] => { results := [.lit (.bool true)], args := [d] }
  | _ => none }
def modulesNamesMatchSpecRow : OpenClaim := { program := "ytgloielnnakknaadoor", sum := "878e33727347b755a762daca8fd6604259fb925725becc72251ca70cd5b9ea3e", func := "brindlewood/brindlewoodlaw6.ModulesNamesMatchSpec", spec := "modulesNamesMatchSpec", inPlace := ["internal/bytealg.CountString", "internal/bytealg.IndexByteString", "internal/bytealg.IndexString", "internal/abi.NoEscape"], unfollowed := true, recurses := true, named := ["unicode/utf8.first", "unicode/utf8.acceptRanges", "internal/bytealg.MaxLen"], apart := false, laid := [("unicode/utf8.acceptRanges", laid_unicode_utf8_acceptRanges), ("unicode/utf8.first", laid_unicode_utf8_first)] }
def ModulesNamesMatchSpecSaid : Prop := modulesNamesMatchSpecRow.holds Tryd.pinned (OpenSpec.ofChange modulesNamesMatchSpecSpec)

/-- ITS FALSE NEIGHBOUR: 'it returns false'. Refute it at one input. -/
def modulesNamesMatchSpecWrong : ChangeSpec := { name := "modulesNamesMatchSpec", fn := fun _ => fun
  | [d] => { results := [.lit (.bool false)], args := [d] }
  | _ => none }
def ModulesNamesMatchSpecWrongFalsely : Prop := modulesNamesMatchSpecRow.holds Tryd.pinned (OpenSpec.ofChange modulesNamesMatchSpecWrong)

/-- 'brindlewoodlaw6.ModulesRunOnce': WHATEVER THE INPUT: true; the input reads as it did. -/
def modulesRunOnceSpec : ChangeSpec := { name := "modulesRunOnce", fn := fun _ => fun
  | [d] => { results := [.lit (.bool true)], args := [d] }
  | _ => none }
def modulesRunOnceRow : OpenClaim := { program := "ytgloielnnakknaadoor", sum := "878e33727347b755a762daca8fd6604259fb925725becc72251ca70cd5b9ea3e", func := "brindlewood/brindlewoodlaw6.ModulesRunOnce", spec := "modulesRunOnce", inPlace := ["internal/bytealg.CountString", "internal/bytealg.IndexByteString", "internal/bytealg.IndexString", "internal/abi.NoEscape"], unfollowed := true, recurses := true, named := ["unicode/utf8.first", "unicode/utf8.acceptRanges", "internal/bytealg.MaxLen"], apart := false, laid := [("unicode/utf8.acceptRanges", laid_unicode_utf8_acceptRanges), ("unicode/utf8.first", laid_unicode_utf8_first)] }
def ModulesRunOnceSaid : Prop := modulesRunOnceRow.holds Tryd.pinned (OpenSpec.ofChange modulesRunOnceSpec)

/-- ITS FALSE NEIGHBOUR: 'it returns false'. Refute it at one input. -/
def modulesRunOnceWrong : ChangeSpec := { name := "modulesRunOnce", fn := fun _ => fun
  | [d] => { results := [.lit (.bool false)], args := [d] }
  | _ => none }
def ModulesRunOnceWrongFalsely : Prop := modulesRunOnceRow.holds Tryd.pinned (OpenSpec.ofChange modulesRunOnceWrong)

/-- 'brindlewoodlaw6.ModulesDefinitionsStay': WHATEVER THE INPUT: true; the input reads as it did. -/
def modulesDefinitionsStaySpec : ChangeSpec := { name := "modulesDefinitionsStay", fn := fun _ => fun
  | [d1, d2] => { results := [.lit (.bool true)], args := [d1, d2] }
  | _ => none }
def modulesDefinitionsStayRow : OpenClaim := { program := "ytgloielnnakknaadoor", sum := "878e33727347b755a762daca8fd6604259fb925725becc72251ca70cd5b9ea3e", func := "brindlewood/brindlewoodlaw6.ModulesDefinitionsStay", spec := "modulesDefinitionsStay", inPlace := ["internal/bytealg.CountString", "internal/bytealg.IndexByteString", "internal/bytealg.IndexString", "internal/abi.NoEscape"], unfollowed := true, recurses := true, named := ["unicode/utf8.first", "unicode/utf8.acceptRanges", "internal/bytealg.MaxLen"], apart := false, laid := [("unicode/utf8.acceptRanges", laid_unicode_utf8_acceptRanges), ("unicode/utf8.first", laid_unicode_utf8_first)] }
def ModulesDefinitionsStaySaid : Prop := modulesDefinitionsStayRow.holds Tryd.pinned (OpenSpec.ofChange modulesDefinitionsStaySpec)

/-- ITS FALSE NEIGHBOUR: 'it returns false'. Refute it at one input. -/
def modulesDefinitionsStayWrong : ChangeSpec := { name := "modulesDefinitionsStay", fn := fun _ => fun
  | [d1, d2] => { results := [.lit (.bool false)], args := [d1, d2] }
  | _ => none }
def ModulesDefinitionsStayWrongFalsely : Prop := modulesDefinitionsStayRow.holds Tryd.pinned (OpenSpec.ofChange modulesDefinitionsStayWrong)

/- THE SECOND FORM. 'bulk': how many values and letters a reading holds, each counted each time it is reached (what is shared counts as often as it is met; a slice's spare places count too). A statement '..UptoSaid' is the law's where the arguments, and the package variables that the reading takes, are together of bulk at most 1048576: NARROWER than '..Said'. Prove '..Said' where nothing that the law and all that it calls make is longer than what came in: it says more and counts as full. Else prove '..UptoSaid'. A law counts once. -/
mutual
def uptoBulk {H : Type} : DataW H → Nat
  | .lit (.string bytes) => bytes.length + 1
  | .lit _ => 1
  | .nil => 1
  | .ptr d => uptoBulk d + 1
  | .slice elems spare => uptoBulkAll elems + uptoBulkAll spare + 1
  | .agg parts => uptoBulkAll parts + 1
  | .iface _ d => uptoBulk d + 1
  | .map entries => uptoBulkEntries entries + 1
  | .held _ => 1
def uptoBulkAll {H : Type} : List (DataW H) → Nat
  | [] => 0
  | d :: r => uptoBulk d + uptoBulkAll r
def uptoBulkEntries {H : Type} : List (Lit × DataW H) → Nat
  | [] => 0
  | x :: r => uptoBulkEntry x + uptoBulkEntries r
def uptoBulkEntry {H : Type} : Lit × DataW H → Nat
  | (.string bytes, d) => bytes.length + uptoBulk d + 1
  | (_, d) => uptoBulk d + 1
 end
def uptoSmall : (H : Type) → List (DataW H) → Bool := fun _ ds => decide (uptoBulkAll ds ≤ 1048576)
def OpenSpec.upto (s : _root_.Go.ChangeSpec) : _root_.Go.OpenSpec := { _root_.Go.OpenSpec.ofChange s with cond := some uptoSmall }

/-- 'brindlewoodlaw6.ModulesChainMatchesSpec', WHERE WHAT IT READS IS OF BULK AT MOST 1048576: true; the input reads as it did. -/
def modulesChainMatchesSpecUptoRow : OpenClaim := { program := "ytgloielnnakknaadoor", sum := "878e33727347b755a762daca8fd6604259fb925725becc72251ca70cd5b9ea3e", func := "brindlewood/brindlewoodlaw6.ModulesChainMatchesSpec", spec := "modulesChainMatchesSpec", inPlace := ["internal/bytealg.CountString", "internal/bytealg.IndexByteString", "internal/bytealg.IndexString", "internal/abi.NoEscape"], unfollowed := true, recurses := true, named := ["unicode/utf8.first", "unicode/utf8.acceptRanges", "internal/bytealg.MaxLen"], apart := false, laid := [("unicode/utf8.acceptRanges", laid_unicode_utf8_acceptRanges), ("unicode/utf8.first", laid_unicode_utf8_first)], narrowed := true }
def ModulesChainMatchesSpecUptoSaid : Prop := modulesChainMatchesSpecUptoRow.holds Tryd.pinned (OpenSpec.upto modulesChainMatchesSpecSpec)

/-- 'brindlewoodlaw6.ModulesLoadMatchesSpec', WHERE WHAT IT READS IS OF BULK AT MOST 1048576: true; the input reads as it did. -/
def modulesLoadMatchesSpecUptoRow : OpenClaim := { program := "ytgloielnnakknaadoor", sum := "878e33727347b755a762daca8fd6604259fb925725becc72251ca70cd5b9ea3e", func := "brindlewood/brindlewoodlaw6.ModulesLoadMatchesSpec", spec := "modulesLoadMatchesSpec", inPlace := ["internal/bytealg.CountString", "internal/bytealg.IndexByteString", "internal/bytealg.IndexString", "internal/abi.NoEscape"], unfollowed := true, recurses := true, named := ["unicode/utf8.first", "unicode/utf8.acceptRanges", "internal/bytealg.MaxLen"], apart := false, laid := [("unicode/utf8.acceptRanges", laid_unicode_utf8_acceptRanges), ("unicode/utf8.first", laid_unicode_utf8_first)], narrowed := true }
def ModulesLoadMatchesSpecUptoSaid : Prop := modulesLoadMatchesSpecUptoRow.holds Tryd.pinned (OpenSpec.upto modulesLoadMatchesSpecSpec)

/-- 'brindlewoodlaw6.ModulesNamesMatchSpec', WHERE WHAT IT READS IS OF BULK AT MOST 1048576: true; the input reads as it did. -/
def modulesNamesMatchSpecUptoRow : OpenClaim := { program := "ytgloielnnakknaadoor", sum := "878e33727347b755a762daca8fd6604259fb925725becc72251ca70cd5b9ea3e", func := "brindlewood/brindlewoodlaw6.ModulesNamesMatchSpec", spec := "modulesNamesMatchSpec", inPlace := ["internal/bytealg.CountString", "internal/bytealg.IndexByteString", "internal/bytealg.IndexString", "internal/abi.NoEscape"], unfollowed := true, recurses := true, named := ["unicode/utf8.first", "unicode/utf8.acceptRanges", "internal/bytealg.MaxLen"], apart := false, laid := [("unicode/utf8.acceptRanges", laid_unicode_utf8_acceptRanges), ("unicode/utf8.first", laid_unicode_utf8_first)], narrowed := true }
def ModulesNamesMatchSpecUptoSaid : Prop := modulesNamesMatchSpecUptoRow.holds Tryd.pinned (OpenSpec.upto modulesNamesMatchSpecSpec)

/-- 'brindlewoodlaw6.ModulesRunOnce', WHERE WHAT IT READS IS OF BULK AT MOST 1048576: true; the input reads as it did. -/
def modulesRunOnceUptoRow : OpenClaim := { program := "ytgloielnnakknaadoor", sum := "878e33727347b755a762daca8fd6604259fb925725becc72251ca70cd5b9ea3e", func := "brindlewood/brindlewoodlaw6.ModulesRunOnce", spec := "modulesRunOnce", inPlace := ["internal/bytealg.CountString", "internal/bytealg.IndexByteString", "internal/bytealg.IndexString", "internal/abi.NoEscape"], unfollowed := true, recurses := true, named := ["unicode/utf8.first", "unicode/utf8.acceptRanges", "internal/bytealg.MaxLen"], apart := false, laid := [("unicode/utf8.acceptRanges", laid_unicode_utf8_acceptRanges), ("unicode/utf8.first", laid_unicode_utf8_first)], narrowed := true }
def ModulesRunOnceUptoSaid : Prop := modulesRunOnceUptoRow.holds Tryd.pinned (OpenSpec.upto modulesRunOnceSpec)

/-- 'brindlewoodlaw6.ModulesDefinitionsStay', WHERE WHAT IT READS IS OF BULK AT MOST 1048576: true; the input reads as it did. -/
def modulesDefinitionsStayUptoRow : OpenClaim := { program := "ytgloielnnakknaadoor", sum := "878e33727347b755a762daca8fd6604259fb925725becc72251ca70cd5b9ea3e", func := "brindlewood/brindlewoodlaw6.ModulesDefinitionsStay", spec := "modulesDefinitionsStay", inPlace := ["internal/bytealg.CountString", "internal/bytealg.IndexByteString", "internal/bytealg.IndexString", "internal/abi.NoEscape"], unfollowed := true, recurses := true, named := ["unicode/utf8.first", "unicode/utf8.acceptRanges", "internal/bytealg.MaxLen"], apart := false, laid := [("unicode/utf8.acceptRanges", laid_unicode_utf8_acceptRanges), ("unicode/utf8.first", laid_unicode_utf8_first)], narrowed := true }
def ModulesDefinitionsStayUptoSaid : Prop := modulesDefinitionsStayUptoRow.holds Tryd.pinned (OpenSpec.upto modulesDefinitionsStaySpec)

end Rows
end Go.Proofs.YtgloielnnakknaaDoor

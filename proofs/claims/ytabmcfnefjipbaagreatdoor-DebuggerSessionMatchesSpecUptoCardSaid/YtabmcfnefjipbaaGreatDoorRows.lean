/-
  NARROWER THAN 'FOR EVERY INPUT', by the rows' own cells (each row's printed sentence says how): ProfileStacksMatchSpec: laid · DebuggerMoveMatchesSpec: laid · DebuggerStackMatchesSpec: laid · DebuggerSessionMatchesSpec: laid · DebuggerStepsVisitAll: laid · DebuggerOverSkipsCalls: laid · DebuggerBreakpointsStop: laid · DebuggerChangesMatchSpec: laid · DebuggerChangesAreShown: laid.
  DERIVED. THE GIVEN ROWS OF THIS SEAT. 9 by the template 'for every input the law returns true; each argument reads behind the call as it read before'; 0 by the template 'total and deterministic' (their statements: YtabmcfnefjipbaaGreatDoorTotals.lean).
  GIVEN WITH THE SEED: the statements are not yours to turn. If you find one false, say at which input.
  Laid BY PROGRAM, IN A SANDBOX (cutbox-rows.mjs): the forced cells as the released guide's own fill.sh prints them over the translation 8f4b027fae11dadb… (all of the seat's roots in one cut). By AI agents, Wed Nov 11 2026. No macro, syntax, notation, axiom, sorry.
-/
import Derived.Test.YtabmcfnefjipbaaGreatDoorChecked
import GoSem.PinnedTables
import GoSem.Claim
import GoSem.ClaimJoined
import GoSem.ClaimMapViews
import Derived.JoinedTies
import Derived.KernelRfl
namespace Go.Proofs.YtabmcfnefjipbaaGreatDoor
/- THE CELL 'sum', in the pinned program and in every row, IS THE sha256 OF THE DUMP (.gsa) THAT YtabmcfnefjipbaaGreatDoorProg.lean LOADS. Nothing in Lean hashes anything: it is a label: what it is worth is what the hold of that sum in a sandbox is worth. -/
noncomputable def Tryz.pinned : Pinned := { name := "ytabmcfnefjipbaagreatdoor", sum := "8f4b027fae11dadbb910e164c2efab26ca1206a62d1f018ab9983b1c6e436dae", checked := Tryz.checked }
namespace Rows
def none {H : Type} : Left H := { results := [], args := [] }

/- WHAT THE LISTED PACKAGE-LEVEL VARIABLES READ AS WHEN THE CALL BEGINS. Each datum BY PROGRAM (the guide's laid-datum.mjs) off the statement by which the dump's own 'gosem.cut.vars' lays the variable. In a bare row this is a premise. The card (YtabmcfnefjipbaaGreatDoorCards.lean) ties it to the program's text. -/
def laid_math_bits_deBruijn32tab {H : Type} : DataW H := .agg [.lit (.int .u8 0), .lit (.int .u8 1), .lit (.int .u8 28), .lit (.int .u8 2), .lit (.int .u8 29), .lit (.int .u8 14), .lit (.int .u8 24), .lit (.int .u8 3), .lit (.int .u8 30), .lit (.int .u8 22), .lit (.int .u8 20), .lit (.int .u8 15), .lit (.int .u8 25), .lit (.int .u8 17), .lit (.int .u8 4), .lit (.int .u8 8), .lit (.int .u8 31), .lit (.int .u8 27), .lit (.int .u8 13), .lit (.int .u8 23), .lit (.int .u8 21), .lit (.int .u8 19), .lit (.int .u8 16), .lit (.int .u8 7), .lit (.int .u8 26), .lit (.int .u8 12), .lit (.int .u8 18), .lit (.int .u8 6), .lit (.int .u8 11), .lit (.int .u8 5), .lit (.int .u8 10), .lit (.int .u8 9)]
def laid_math_bits_deBruijn64tab {H : Type} : DataW H := .agg [.lit (.int .u8 0), .lit (.int .u8 1), .lit (.int .u8 56), .lit (.int .u8 2), .lit (.int .u8 57), .lit (.int .u8 49), .lit (.int .u8 28), .lit (.int .u8 3), .lit (.int .u8 61), .lit (.int .u8 58), .lit (.int .u8 42), .lit (.int .u8 50), .lit (.int .u8 38), .lit (.int .u8 29), .lit (.int .u8 17), .lit (.int .u8 4), .lit (.int .u8 62), .lit (.int .u8 47), .lit (.int .u8 59), .lit (.int .u8 36), .lit (.int .u8 45), .lit (.int .u8 43), .lit (.int .u8 51), .lit (.int .u8 22), .lit (.int .u8 53), .lit (.int .u8 39), .lit (.int .u8 33), .lit (.int .u8 30), .lit (.int .u8 24), .lit (.int .u8 18), .lit (.int .u8 12), .lit (.int .u8 5), .lit (.int .u8 63), .lit (.int .u8 55), .lit (.int .u8 48), .lit (.int .u8 27), .lit (.int .u8 60), .lit (.int .u8 41), .lit (.int .u8 37), .lit (.int .u8 16), .lit (.int .u8 46), .lit (.int .u8 35), .lit (.int .u8 44), .lit (.int .u8 21), .lit (.int .u8 52), .lit (.int .u8 32), .lit (.int .u8 23), .lit (.int .u8 11), .lit (.int .u8 54), .lit (.int .u8 26), .lit (.int .u8 40), .lit (.int .u8 15), .lit (.int .u8 34), .lit (.int .u8 20), .lit (.int .u8 31), .lit (.int .u8 10), .lit (.int .u8 25), .lit (.int .u8 14), .lit (.int .u8 19), .lit (.int .u8 9), .lit (.int .u8 13), .lit (.int .u8 8), .lit (.int .u8 7), .lit (.int .u8 6)]
def laid_internal_strconv_uint64pow10 {H : Type} : DataW H := .agg [.lit (.int .u64 1), .lit (.int .u64 10), .lit (.int .u64 100), .lit (.int .u64 1000), .lit (.int .u64 10000), .lit (.int .u64 100000), .lit (.int .u64 1000000), .lit (.int .u64 10000000), .lit (.int .u64 100000000), .lit (.int .u64 1000000000), .lit (.int .u64 10000000000), .lit (.int .u64 100000000000), .lit (.int .u64 1000000000000), .lit (.int .u64 10000000000000), .lit (.int .u64 100000000000000), .lit (.int .u64 1000000000000000), .lit (.int .u64 10000000000000000), .lit (.int .u64 100000000000000000), .lit (.int .u64 1000000000000000000), .lit (.int .u64 10000000000000000000)]
def laid_unicode_utf8_acceptRanges {H : Type} : DataW H := .agg [.agg [.lit (.int .u8 128), .lit (.int .u8 191)], .agg [.lit (.int .u8 160), .lit (.int .u8 191)], .agg [.lit (.int .u8 128), .lit (.int .u8 159)], .agg [.lit (.int .u8 144), .lit (.int .u8 191)], .agg [.lit (.int .u8 128), .lit (.int .u8 143)], .agg [.lit (.int .u8 0), .lit (.int .u8 0)], .agg [.lit (.int .u8 0), .lit (.int .u8 0)], .agg [.lit (.int .u8 0), .lit (.int .u8 0)], .agg [.lit (.int .u8 0), .lit (.int .u8 0)], .agg [.lit (.int .u8 0), .lit (.int .u8 0)], .agg [.lit (.int .u8 0), .lit (.int .u8 0)], .agg [.lit (.int .u8 0), .lit (.int .u8 0)], .agg [.lit (.int .u8 0), .lit (.int .u8 0)], .agg [.lit (.int .u8 0), .lit (.int .u8 0)], .agg [.lit (.int .u8 0), .lit (.int .u8 0)], .agg [.lit (.int .u8 0), .lit (.int .u8 0)]]
/-- One of Go's own tables, pinned by name: the form's constant. -/
def laid_unicode_utf8_first : DataW Unit := Go.Pinned.utf8First
def laid_strconv_ErrRange {H : Type} : DataW H := .iface "*errors.errorString" (.ptr (.agg [.lit (.string [118, 97, 108, 117, 101, 32, 111, 117, 116, 32, 111, 102, 32, 114, 97, 110, 103, 101])]))
def laid_strconv_ErrSyntax {H : Type} : DataW H := .iface "*errors.errorString" (.ptr (.agg [.lit (.string [105, 110, 118, 97, 108, 105, 100, 32, 115, 121, 110, 116, 97, 120])]))

/-- 'brindlewoodlaw6.ProfileStacksMatchSpec': WHATEVER THE INPUT: true; the input reads as it did. -/
def profileStacksMatchSpecSpec : ChangeSpec := { name := "profileStacksMatchSpec", fn := fun _ => fun
  | [d1, d2] => { results := [.lit (.bool true)], args := [d1, d2] }
  | _ => none }
def profileStacksMatchSpecRow : OpenClaim := { program := "ytabmcfnefjipbaagreatdoor", sum := "8f4b027fae11dadbb910e164c2efab26ca1206a62d1f018ab9983b1c6e436dae", func := "brindlewood/brindlewoodlaw6.ProfileStacksMatchSpec", spec := "profileStacksMatchSpec", inPlace := ["internal/bytealg.CountString", "internal/bytealg.IndexByteString", "internal/bytealg.IndexString", "internal/abi.NoEscape", "internal/bytealg.MakeNoZero", "internal/bytealg.abigen_runtime_cmpstring"], unfollowed := true, recurses := true, named := ["unicode/utf8.first", "unicode/utf8.acceptRanges", "internal/bytealg.MaxLen", "internal/strconv.uint64pow10", "math/bits.deBruijn32tab", "math/bits.deBruijn64tab"], plainKeys := false, apart := false, laid := [("math/bits.deBruijn32tab", laid_math_bits_deBruijn32tab), ("math/bits.deBruijn64tab", laid_math_bits_deBruijn64tab), ("internal/strconv.uint64pow10", laid_internal_strconv_uint64pow10), ("unicode/utf8.acceptRanges", laid_unicode_utf8_acceptRanges), ("unicode/utf8.first", laid_unicode_utf8_first)] }
def ProfileStacksMatchSpecSaid : Prop := profileStacksMatchSpecRow.holds Tryz.pinned (OpenSpec.ofChange profileStacksMatchSpecSpec)

/-- ITS FALSE NEIGHBOUR: 'it returns false'. Refute it at one input. -/
def profileStacksMatchSpecWrong : ChangeSpec := { name := "profileStacksMatchSpec", fn := fun _ => fun
  | [d1, d2] => { results := [.lit (.bool false)], args := [d1, d2] }
  | _ => none }
def ProfileStacksMatchSpecWrongFalsely : Prop := profileStacksMatchSpecRow.holds Tryz.pinned (OpenSpec.ofChange profileStacksMatchSpecWrong)

/-- 'brindlewoodlaw6.DebuggerMoveMatchesSpec': WHATEVER THE INPUT: true; the input reads as it did. -/
def debuggerMoveMatchesSpecSpec : ChangeSpec := { name := "debuggerMoveMatchesSpec", fn := fun _ => fun
  | [d1, d2, d3, d4] => { results := [.lit (.bool true)], args := [d1, d2, d3, d4] }
  | _ => none }
def debuggerMoveMatchesSpecRow : OpenClaim := { program := "ytabmcfnefjipbaagreatdoor", sum := "8f4b027fae11dadbb910e164c2efab26ca1206a62d1f018ab9983b1c6e436dae", func := "brindlewood/brindlewoodlaw6.DebuggerMoveMatchesSpec", spec := "debuggerMoveMatchesSpec", inPlace := ["internal/bytealg.CountString", "internal/bytealg.IndexByteString", "internal/bytealg.IndexString", "internal/abi.NoEscape", "internal/bytealg.MakeNoZero"], unfollowed := true, recurses := true, named := ["unicode/utf8.first", "unicode/utf8.acceptRanges", "internal/bytealg.MaxLen", "internal/strconv.uint64pow10", "math/bits.deBruijn32tab", "math/bits.deBruijn64tab", "strconv.ErrSyntax", "strconv.ErrRange"], plainKeys := false, apart := false, laid := [("math/bits.deBruijn32tab", laid_math_bits_deBruijn32tab), ("math/bits.deBruijn64tab", laid_math_bits_deBruijn64tab), ("internal/strconv.uint64pow10", laid_internal_strconv_uint64pow10), ("unicode/utf8.acceptRanges", laid_unicode_utf8_acceptRanges), ("strconv.ErrRange", laid_strconv_ErrRange), ("strconv.ErrSyntax", laid_strconv_ErrSyntax), ("unicode/utf8.first", laid_unicode_utf8_first)] }
def DebuggerMoveMatchesSpecSaid : Prop := debuggerMoveMatchesSpecRow.holds Tryz.pinned (OpenSpec.ofChange debuggerMoveMatchesSpecSpec)

/-- ITS FALSE NEIGHBOUR: 'it returns false'. Refute it at one input. -/
def debuggerMoveMatchesSpecWrong : ChangeSpec := { name := "debuggerMoveMatchesSpec", fn := fun _ => fun
  | [d1, d2, d3, d4] => { results := [.lit (.bool false)], args := [d1, d2, d3, d4] }
  | _ => none }
def DebuggerMoveMatchesSpecWrongFalsely : Prop := debuggerMoveMatchesSpecRow.holds Tryz.pinned (OpenSpec.ofChange debuggerMoveMatchesSpecWrong)

/-- 'brindlewoodlaw6.DebuggerStackMatchesSpec': WHATEVER THE INPUT: true; the input reads as it did. -/
def debuggerStackMatchesSpecSpec : ChangeSpec := { name := "debuggerStackMatchesSpec", fn := fun _ => fun
  | [d1, d2, d3] => { results := [.lit (.bool true)], args := [d1, d2, d3] }
  | _ => none }
def debuggerStackMatchesSpecRow : OpenClaim := { program := "ytabmcfnefjipbaagreatdoor", sum := "8f4b027fae11dadbb910e164c2efab26ca1206a62d1f018ab9983b1c6e436dae", func := "brindlewood/brindlewoodlaw6.DebuggerStackMatchesSpec", spec := "debuggerStackMatchesSpec", inPlace := ["internal/bytealg.CountString", "internal/bytealg.IndexByteString", "internal/bytealg.IndexString", "internal/abi.NoEscape", "internal/bytealg.MakeNoZero"], unfollowed := true, recurses := true, named := ["unicode/utf8.first", "unicode/utf8.acceptRanges", "internal/bytealg.MaxLen", "internal/strconv.uint64pow10", "math/bits.deBruijn32tab", "math/bits.deBruijn64tab", "strconv.ErrSyntax", "strconv.ErrRange"], plainKeys := false, apart := false, laid := [("math/bits.deBruijn32tab", laid_math_bits_deBruijn32tab), ("math/bits.deBruijn64tab", laid_math_bits_deBruijn64tab), ("internal/strconv.uint64pow10", laid_internal_strconv_uint64pow10), ("unicode/utf8.acceptRanges", laid_unicode_utf8_acceptRanges), ("strconv.ErrRange", laid_strconv_ErrRange), ("strconv.ErrSyntax", laid_strconv_ErrSyntax), ("unicode/utf8.first", laid_unicode_utf8_first)] }
def DebuggerStackMatchesSpecSaid : Prop := debuggerStackMatchesSpecRow.holds Tryz.pinned (OpenSpec.ofChange debuggerStackMatchesSpecSpec)

/-- ITS FALSE NEIGHBOUR: 'it returns false'. Refute it at one input. -/
def debuggerStackMatchesSpecWrong : ChangeSpec := { name := "debuggerStackMatchesSpec", fn := fun _ => fun
  | [d1, d2, d3] => { results := [.lit (.bool false)], args := [d1, d2, d3] }
  | _ => none }
def DebuggerStackMatchesSpecWrongFalsely : Prop := debuggerStackMatchesSpecRow.holds Tryz.pinned (OpenSpec.ofChange debuggerStackMatchesSpecWrong)

/-- 'brindlewoodlaw6.DebuggerSessionMatchesSpec': WHATEVER THE INPUT: true; the input reads as it did. -/
def debuggerSessionMatchesSpecSpec : ChangeSpec := { name := "debuggerSessionMatchesSpec", fn := fun _ => fun
  | [d1, d2] => { results := [.lit (.bool true)], args := [d1, d2] }
  | _ => none }
def debuggerSessionMatchesSpecRow : OpenClaim := { program := "ytabmcfnefjipbaagreatdoor", sum := "8f4b027fae11dadbb910e164c2efab26ca1206a62d1f018ab9983b1c6e436dae", func := "brindlewood/brindlewoodlaw6.DebuggerSessionMatchesSpec", spec := "debuggerSessionMatchesSpec", inPlace := ["internal/bytealg.CountString", "internal/bytealg.IndexByteString", "internal/bytealg.IndexString", "internal/abi.NoEscape", "internal/bytealg.MakeNoZero"], unfollowed := true, recurses := true, named := ["unicode/utf8.first", "unicode/utf8.acceptRanges", "internal/bytealg.MaxLen", "internal/strconv.uint64pow10", "math/bits.deBruijn32tab", "math/bits.deBruijn64tab", "strconv.ErrSyntax", "strconv.ErrRange"], plainKeys := false, apart := false, laid := [("math/bits.deBruijn32tab", laid_math_bits_deBruijn32tab), ("math/bits.deBruijn64tab", laid_math_bits_deBruijn64tab), ("internal/strconv.uint64pow10", laid_internal_strconv_uint64pow10), ("unicode/utf8.acceptRanges", laid_unicode_utf8_acceptRanges), ("strconv.ErrRange", laid_strconv_ErrRange), ("strconv.ErrSyntax", laid_strconv_ErrSyntax), ("unicode/utf8.first", laid_unicode_utf8_first)] }
def DebuggerSessionMatchesSpecSaid : Prop := debuggerSessionMatchesSpecRow.holds Tryz.pinned (OpenSpec.ofChange debuggerSessionMatchesSpecSpec)

/-- ITS FALSE NEIGHBOUR: 'it returns false'. Refute it at one input. -/
def debuggerSessionMatchesSpecWrong : ChangeSpec := { name := "debuggerSessionMatchesSpec", fn := fun _ => fun
  | [d1, d2] => { results := [.lit (.bool false)], args := [d1, d2] }
  | _ => none }
def DebuggerSessionMatchesSpecWrongFalsely : Prop := debuggerSessionMatchesSpecRow.holds Tryz.pinned (OpenSpec.ofChange debuggerSessionMatchesSpecWrong)

/-- 'brindlewoodlaw6.DebuggerStepsVisitAll': WHATEVER THE INPUT: true; the input reads as it did. -/
def debuggerStepsVisitAllSpec : ChangeSpec := { name := "debuggerStepsVisitAll", fn := fun _ => fun
  | [d] => { results := [.lit (.bool true)], args := [d] }
  | _ => none }
def debuggerStepsVisitAllRow : OpenClaim := { program := "ytabmcfnefjipbaagreatdoor", sum := "8f4b027fae11dadbb910e164c2efab26ca1206a62d1f018ab9983b1c6e436dae", func := "brindlewood/brindlewoodlaw6.DebuggerStepsVisitAll", spec := "debuggerStepsVisitAll", inPlace := ["internal/bytealg.CountString", "internal/bytealg.IndexByteString", "internal/bytealg.IndexString", "internal/abi.NoEscape", "internal/bytealg.MakeNoZero"], unfollowed := true, recurses := true, named := ["unicode/utf8.first", "unicode/utf8.acceptRanges", "internal/bytealg.MaxLen", "internal/strconv.uint64pow10", "math/bits.deBruijn32tab", "math/bits.deBruijn64tab", "strconv.ErrSyntax", "strconv.ErrRange"], plainKeys := false, apart := false, laid := [("math/bits.deBruijn32tab", laid_math_bits_deBruijn32tab), ("math/bits.deBruijn64tab", laid_math_bits_deBruijn64tab), ("internal/strconv.uint64pow10", laid_internal_strconv_uint64pow10), ("unicode/utf8.acceptRanges", laid_unicode_utf8_acceptRanges), ("strconv.ErrRange", laid_strconv_ErrRange), ("strconv.ErrSyntax", laid_strconv_ErrSyntax), ("unicode/utf8.first", laid_unicode_utf8_first)] }
def DebuggerStepsVisitAllSaid : Prop := debuggerStepsVisitAllRow.holds Tryz.pinned (OpenSpec.ofChange debuggerStepsVisitAllSpec)

/-- ITS FALSE NEIGHBOUR: 'it returns false'. Refute it at one input. -/
def debuggerStepsVisitAllWrong : ChangeSpec := { name := "debuggerStepsVisitAll", fn := fun _ => fun
  | [d] => { results := [.lit (.bool false)], args := [d] }
  | _ => none }
def DebuggerStepsVisitAllWrongFalsely : Prop := debuggerStepsVisitAllRow.holds Tryz.pinned (OpenSpec.ofChange debuggerStepsVisitAllWrong)

/-- 'brindlewoodlaw6.DebuggerOverSkipsCalls': WHATEVER THE INPUT: true; the input reads as it did. -/
def debuggerOverSkipsCallsSpec : ChangeSpec := { name := "debuggerOverSkipsCalls", fn := fun _ => fun
  | [d1, d2] => { results := [.lit (.bool true)], args := [d1, d2] }
  | _ => none }
def debuggerOverSkipsCallsRow : OpenClaim := { program := "ytabmcfnefjipbaagreatdoor", sum := "8f4b027fae11dadbb910e164c2efab26ca1206a62d1f018ab9983b1c6e436dae", func := "brindlewood/brindlewoodlaw6.DebuggerOverSkipsCalls", spec := "debuggerOverSkipsCalls", inPlace := ["internal/bytealg.CountString", "internal/bytealg.IndexByteString", "internal/bytealg.IndexString", "internal/abi.NoEscape", "internal/bytealg.MakeNoZero"], unfollowed := true, recurses := true, named := ["unicode/utf8.first", "unicode/utf8.acceptRanges", "internal/bytealg.MaxLen", "internal/strconv.uint64pow10", "math/bits.deBruijn32tab", "math/bits.deBruijn64tab", "strconv.ErrSyntax", "strconv.ErrRange"], plainKeys := false, apart := false, laid := [("math/bits.deBruijn32tab", laid_math_bits_deBruijn32tab), ("math/bits.deBruijn64tab", laid_math_bits_deBruijn64tab), ("internal/strconv.uint64pow10", laid_internal_strconv_uint64pow10), ("unicode/utf8.acceptRanges", laid_unicode_utf8_acceptRanges), ("strconv.ErrRange", laid_strconv_ErrRange), ("strconv.ErrSyntax", laid_strconv_ErrSyntax), ("unicode/utf8.first", laid_unicode_utf8_first)] }
def DebuggerOverSkipsCallsSaid : Prop := debuggerOverSkipsCallsRow.holds Tryz.pinned (OpenSpec.ofChange debuggerOverSkipsCallsSpec)

/-- ITS FALSE NEIGHBOUR: 'it returns false'. Refute it at one input. -/
def debuggerOverSkipsCallsWrong : ChangeSpec := { name := "debuggerOverSkipsCalls", fn := fun _ => fun
  | [d1, d2] => { results := [.lit (.bool false)], args := [d1, d2] }
  | _ => none }
def DebuggerOverSkipsCallsWrongFalsely : Prop := debuggerOverSkipsCallsRow.holds Tryz.pinned (OpenSpec.ofChange debuggerOverSkipsCallsWrong)

/-- 'brindlewoodlaw6.DebuggerBreakpointsStop': WHATEVER THE INPUT: true; the input reads as it did. -/
def debuggerBreakpointsStopSpec : ChangeSpec := { name := "debuggerBreakpointsStop", fn := fun _ => fun
  | [d1, d2] => { results := [.lit (.bool true)], args := [d1, d2] }
  | _ => none }
def debuggerBreakpointsStopRow : OpenClaim := { program := "ytabmcfnefjipbaagreatdoor", sum := "8f4b027fae11dadbb910e164c2efab26ca1206a62d1f018ab9983b1c6e436dae", func := "brindlewood/brindlewoodlaw6.DebuggerBreakpointsStop", spec := "debuggerBreakpointsStop", inPlace := ["internal/bytealg.CountString", "internal/bytealg.IndexByteString", "internal/bytealg.IndexString", "internal/abi.NoEscape", "internal/bytealg.MakeNoZero"], unfollowed := true, recurses := true, named := ["unicode/utf8.first", "unicode/utf8.acceptRanges", "internal/bytealg.MaxLen", "internal/strconv.uint64pow10", "math/bits.deBruijn32tab", "math/bits.deBruijn64tab", "strconv.ErrSyntax", "strconv.ErrRange"], plainKeys := false, apart := false, laid := [("math/bits.deBruijn32tab", laid_math_bits_deBruijn32tab), ("math/bits.deBruijn64tab", laid_math_bits_deBruijn64tab), ("internal/strconv.uint64pow10", laid_internal_strconv_uint64pow10), ("unicode/utf8.acceptRanges", laid_unicode_utf8_acceptRanges), ("strconv.ErrRange", laid_strconv_ErrRange), ("strconv.ErrSyntax", laid_strconv_ErrSyntax), ("unicode/utf8.first", laid_unicode_utf8_first)] }
def DebuggerBreakpointsStopSaid : Prop := debuggerBreakpointsStopRow.holds Tryz.pinned (OpenSpec.ofChange debuggerBreakpointsStopSpec)

/-- ITS FALSE NEIGHBOUR: 'it returns false'. Refute it at one input. -/
def debuggerBreakpointsStopWrong : ChangeSpec := { name := "debuggerBreakpointsStop", fn := fun _ => fun
  | [d1, d2] => { results := [.lit (.bool false)], args := [d1, d2] }
  | _ => none }
def DebuggerBreakpointsStopWrongFalsely : Prop := debuggerBreakpointsStopRow.holds Tryz.pinned (OpenSpec.ofChange debuggerBreakpointsStopWrong)

/-- 'brindlewoodlaw6.DebuggerChangesMatchSpec': WHATEVER THE INPUT: true; the input reads as it did. -/
def debuggerChangesMatchSpecSpec : ChangeSpec := { name := "debuggerChangesMatchSpec", fn := fun _ => fun
  | [d1, d2, d3, d4] => { results := [.lit (.bool true)], args := [d1, d2, d3, d4] }
  | _ => none }
def debuggerChangesMatchSpecRow : OpenClaim := { program := "ytabmcfnefjipbaagreatdoor", sum := "8f4b027fae11dadbb910e164c2efab26ca1206a62d1f018ab9983b1c6e436dae", func := "brindlewood/brindlewoodlaw6.DebuggerChangesMatchSpec", spec := "debuggerChangesMatchSpec", inPlace := ["internal/bytealg.CountString", "internal/bytealg.IndexByteString", "internal/bytealg.IndexString", "internal/abi.NoEscape", "internal/bytealg.MakeNoZero"], unfollowed := true, recurses := true, named := ["unicode/utf8.first", "unicode/utf8.acceptRanges", "internal/bytealg.MaxLen", "internal/strconv.uint64pow10", "math/bits.deBruijn32tab", "math/bits.deBruijn64tab", "strconv.ErrSyntax", "strconv.ErrRange"], plainKeys := false, apart := false, laid := [("math/bits.deBruijn32tab", laid_math_bits_deBruijn32tab), ("math/bits.deBruijn64tab", laid_math_bits_deBruijn64tab), ("internal/strconv.uint64pow10", laid_internal_strconv_uint64pow10), ("unicode/utf8.acceptRanges", laid_unicode_utf8_acceptRanges), ("strconv.ErrRange", laid_strconv_ErrRange), ("strconv.ErrSyntax", laid_strconv_ErrSyntax), ("unicode/utf8.first", laid_unicode_utf8_first)] }
def DebuggerChangesMatchSpecSaid : Prop := debuggerChangesMatchSpecRow.holds Tryz.pinned (OpenSpec.ofChange debuggerChangesMatchSpecSpec)

/-- ITS FALSE NEIGHBOUR: 'it returns false'. Refute it at one input. -/
def debuggerChangesMatchSpecWrong : ChangeSpec := { name := "debuggerChangesMatchSpec", fn := fun _ => fun
  | [d1, d2, d3, d4] => { results := [.lit (.bool false)], args := [d1, d2, d3, d4] }
  | _ => none }
def DebuggerChangesMatchSpecWrongFalsely : Prop := debuggerChangesMatchSpecRow.holds Tryz.pinned (OpenSpec.ofChange debuggerChangesMatchSpecWrong)

/-- 'brindlewoodlaw6.DebuggerChangesAreShown': WHATEVER THE INPUT: true; the input reads as it did. -/
def debuggerChangesAreShownSpec : ChangeSpec := { name := "debuggerChangesAreShown", fn := fun _ => fun
  | [d1, d2, d3] => { results := [.lit (.bool true)], args := [d1, d2, d3] }
  | _ => none }
def debuggerChangesAreShownRow : OpenClaim := { program := "ytabmcfnefjipbaagreatdoor", sum := "8f4b027fae11dadbb910e164c2efab26ca1206a62d1f018ab9983b1c6e436dae", func := "brindlewood/brindlewoodlaw6.DebuggerChangesAreShown", spec := "debuggerChangesAreShown", inPlace := ["internal/bytealg.CountString", "internal/bytealg.IndexByteString", "internal/bytealg.IndexString", "internal/abi.NoEscape", "internal/bytealg.MakeNoZero"], unfollowed := true, recurses := true, named := ["unicode/utf8.first", "unicode/utf8.acceptRanges", "internal/bytealg.MaxLen", "internal/strconv.uint64pow10", "math/bits.deBruijn32tab", "math/bits.deBruijn64tab", "strconv.ErrSyntax", "strconv.ErrRange"], plainKeys := false, apart := false, laid := [("math/bits.deBruijn32tab", laid_math_bits_deBruijn32tab), ("math/bits.deBruijn64tab", laid_math_bits_deBruijn64tab), ("internal/strconv.uint64pow10", laid_internal_strconv_uint64pow10), ("unicode/utf8.acceptRanges", laid_unicode_utf8_acceptRanges), ("strconv.ErrRange", laid_strconv_ErrRange), ("strconv.ErrSyntax", laid_strconv_ErrSyntax), ("unicode/utf8.first", laid_unicode_utf8_first)] }
def DebuggerChangesAreShownSaid : Prop := debuggerChangesAreShownRow.holds Tryz.pinned (OpenSpec.ofChange debuggerChangesAreShownSpec)

/-- ITS FALSE NEIGHBOUR: 'it returns false'. Refute it at one input. -/
def debuggerChangesAreShownWrong : ChangeSpec := { name := "debuggerChangesAreShown", fn := fun _ => fun
  | [d1, d2, d3] => { results := [.lit (.bool false)], args := [d1, d2, d3] }
  | _ => none }
def DebuggerChangesAreShownWrongFalsely : Prop := debuggerChangesAreShownRow.holds Tryz.pinned (OpenSpec.ofChange debuggerChangesAreShownWrong)

/- THE SECOND FORM. 'bulk': how many values and letters a reading holds, each counted each time it is reached (what is shared counts as often as it is met; a slice's spare places count too). A statement '..UptoSaid' is the law's where the arguments, and the package variables that the reading takes, are together of bulk at most 1048576: NARROWER than '..Said'. Prove '..Said' where nothing that the law and all that it calls make is longer than what came in: it says more and counts as full. Else prove '..UptoSaid'. A law counts once. -/
mutual
def uptoBulk {H : Type} : DataW H → Nat
  | .lit (.string bytes) => bytes.length + 1
  | .lit _ => 1
  | .nil => 1
  | .ptr d => uptoBulk d + 1
  | .slice elems spare => uptoBulkAll elems + uptoBulkAll spare + 1
  | .agg parts => uptoBulkAll parts + 1
  | .iface _ d => uptoBulk d + 1
  | .map entries => uptoBulkEntries entries + 1
  | .held _ => 1
def uptoBulkAll {H : Type} : List (DataW H) → Nat
  | [] => 0
  | d :: r => uptoBulk d + uptoBulkAll r
def uptoBulkEntries {H : Type} : List (Lit × DataW H) → Nat
  | [] => 0
  | x :: r => uptoBulkEntry x + uptoBulkEntries r
def uptoBulkEntry {H : Type} : Lit × DataW H → Nat
  | (.string bytes, d) => bytes.length + uptoBulk d + 1
  | (_, d) => uptoBulk d + 1
 end
def uptoSmall : (H : Type) → List (DataW H) → Bool := fun _ ds => decide (uptoBulkAll ds ≤ 1048576)
def OpenSpec.upto (s : _root_.Go.ChangeSpec) : _root_.Go.OpenSpec := { _root_.Go.OpenSpec.ofChange s with cond := some uptoSmall }

/-- 'brindlewoodlaw6.ProfileStacksMatchSpec', WHERE WHAT IT READS IS OF BULK AT MOST 1048576: true; the input reads as it did. -/
def profileStacksMatchSpecUptoRow : OpenClaim := { program := "ytabmcfnefjipbaagreatdoor", sum := "8f4b027fae11dadbb910e164c2efab26ca1206a62d1f018ab9983b1c6e436dae", func := "brindlewood/brindlewoodlaw6.ProfileStacksMatchSpec", spec := "profileStacksMatchSpec", inPlace := ["internal/bytealg.CountString", "internal/bytealg.IndexByteString", "internal/bytealg.IndexString", "internal/abi.NoEscape", "internal/bytealg.MakeNoZero", "internal/bytealg.abigen_runtime_cmpstring"], unfollowed := true, recurses := true, named := ["unicode/utf8.first", "unicode/utf8.acceptRanges", "internal/bytealg.MaxLen", "internal/strconv.uint64pow10", "math/bits.deBruijn32tab", "math/bits.deBruijn64tab"], plainKeys := false, apart := false, laid := [("math/bits.deBruijn32tab", laid_math_bits_deBruijn32tab), ("math/bits.deBruijn64tab", laid_math_bits_deBruijn64tab), ("internal/strconv.uint64pow10", laid_internal_strconv_uint64pow10), ("unicode/utf8.acceptRanges", laid_unicode_utf8_acceptRanges), ("unicode/utf8.first", laid_unicode_utf8_first)], narrowed := true }
def ProfileStacksMatchSpecUptoSaid : Prop := profileStacksMatchSpecUptoRow.holds Tryz.pinned (OpenSpec.upto profileStacksMatchSpecSpec)

/-- 'brindlewoodlaw6.DebuggerMoveMatchesSpec', WHERE WHAT IT READS IS OF BULK AT MOST 1048576: true; the input reads as it did. -/
def debuggerMoveMatchesSpecUptoRow : OpenClaim := { program := "ytabmcfnefjipbaagreatdoor", sum := "8f4b027fae11dadbb910e164c2efab26ca1206a62d1f018ab9983b1c6e436dae", func := "brindlewood/brindlewoodlaw6.DebuggerMoveMatchesSpec", spec := "debuggerMoveMatchesSpec", inPlace := ["internal/bytealg.CountString", "internal/bytealg.IndexByteString", "internal/bytealg.IndexString", "internal/abi.NoEscape", "internal/bytealg.MakeNoZero"], unfollowed := true, recurses := true, named := ["unicode/utf8.first", "unicode/utf8.acceptRanges", "internal/bytealg.MaxLen", "internal/strconv.uint64pow10", "math/bits.deBruijn32tab", "math/bits.deBruijn64tab", "strconv.ErrSyntax", "strconv.ErrRange"], plainKeys := false, apart := false, laid := [("math/bits.deBruijn32tab", laid_math_bits_deBruijn32tab), ("math/bits.deBruijn64tab", laid_math_bits_deBruijn64tab), ("internal/strconv.uint64pow10", laid_internal_strconv_uint64pow10), ("unicode/utf8.acceptRanges", laid_unicode_utf8_acceptRanges), ("strconv.ErrRange", laid_strconv_ErrRange), ("strconv.ErrSyntax", laid_strconv_ErrSyntax), ("unicode/utf8.first", laid_unicode_utf8_first)], narrowed := true }
def DebuggerMoveMatchesSpecUptoSaid : Prop := debuggerMoveMatchesSpecUptoRow.holds Tryz.pinned (OpenSpec.upto debuggerMoveMatchesSpecSpec)

/-- 'brindlewoodlaw6.DebuggerStackMatchesSpec', WHERE WHAT IT READS IS OF BULK AT MOST 1048576: true; the input reads as it did. -/
def debuggerStackMatchesSpecUptoRow : OpenClaim := { program := "ytabmcfnefjipbaagreatdoor", sum := "8f4b027fae11dadbb910e164c2efab26ca1206a62d1f018ab9983b1c6e436dae", func := "brindlewood/brindlewoodlaw6.DebuggerStackMatchesSpec", spec := "debuggerStackMatchesSpec", inPlace := ["internal/bytealg.CountString", "internal/bytealg.IndexByteString", "internal/bytealg.IndexString", "internal/abi.NoEscape", "internal/bytealg.MakeNoZero"], unfollowed := true, recurses := true, named := ["unicode/utf8.first", "unicode/utf8.acceptRanges", "internal/bytealg.MaxLen", "internal/strconv.uint64pow10", "math/bits.deBruijn32tab", "math/bits.deBruijn64tab", "strconv.ErrSyntax", "strconv.ErrRange"], plainKeys := false, apart := false, laid := [("math/bits.deBruijn32tab", laid_math_bits_deBruijn32tab), ("math/bits.deBruijn64tab", laid_math_bits_deBruijn64tab), ("internal/strconv.uint64pow10", laid_internal_strconv_uint64pow10), ("unicode/utf8.acceptRanges", laid_unicode_utf8_acceptRanges), ("strconv.ErrRange", laid_strconv_ErrRange), ("strconv.ErrSyntax", laid_strconv_ErrSyntax), ("unicode/utf8.first", laid_unicode_utf8_first)], narrowed := true }
def DebuggerStackMatchesSpecUptoSaid : Prop := debuggerStackMatchesSpecUptoRow.holds Tryz.pinned (OpenSpec.upto debuggerStackMatchesSpecSpec)

/-- 'brindlewoodlaw6.DebuggerSessionMatchesSpec', WHERE WHAT IT READS IS OF BULK AT MOST 1048576: true; the input reads as it did. -/
def debuggerSessionMatchesSpecUptoRow : OpenClaim := { program := "ytabmcfnefjipbaagreatdoor", sum := "8f4b027fae11dadbb910e164c2efab26ca1206a62d1f018ab9983b1c6e436dae", func := "brindlewood/brindlewoodlaw6.DebuggerSessionMatchesSpec", spec := "debuggerSessionMatchesSpec", inPlace := ["internal/bytealg.CountString", "internal/bytealg.IndexByteString", "internal/bytealg.IndexString", "internal/abi.NoEscape", "internal/bytealg.MakeNoZero"], unfollowed := true, recurses := true, named := ["unicode/utf8.first", "unicode/utf8.acceptRanges", "internal/bytealg.MaxLen", "internal/strconv.uint64pow10", "math/bits.deBruijn32tab", "math/bits.deBruijn64tab", "strconv.ErrSyntax", "strconv.ErrRange"], plainKeys := false, apart := false, laid := [("math/bits.deBruijn32tab", laid_math_bits_deBruijn32tab), ("math/bits.deBruijn64tab", laid_math_bits_deBruijn64tab), ("internal/strconv.uint64pow10", laid_internal_strconv_uint64pow10), ("unicode/utf8.acceptRanges", laid_unicode_utf8_acceptRanges), ("strconv.ErrRange", laid_strconv_ErrRange), ("strconv.ErrSyntax", laid_strconv_ErrSyntax), ("unicode/utf8.first", laid_unicode_utf8_first)], narrowed := true }
def DebuggerSessionMatchesSpecUptoSaid : Prop := debuggerSessionMatchesSpecUptoRow.holds Tryz.pinned (OpenSpec.upto debuggerSessionMatchesSpecSpec)

/-- 'brindlewoodlaw6.DebuggerStepsVisitAll', WHERE WHAT IT READS IS OF BULK AT MOST 1048576: true; the input reads as it did. -/
def debuggerStepsVisitAllUptoRow : OpenClaim := { program := "ytabmcfnefjipbaagreatdoor", sum := "8f4b027fae11dadbb910e164c2efab26ca1206a62d1f018ab9983b1c6e436dae", func := "brindlewood/brindlewoodlaw6.DebuggerStepsVisitAll", spec := "debuggerStepsVisitAll", inPlace := ["internal/bytealg.CountString", "internal/bytealg.IndexByteString", "internal/bytealg.IndexString", "internal/abi.NoEscape", "internal/bytealg.MakeNoZero"], unfollowed := true, recurses := true, named := ["unicode/utf8.first", "unicode/utf8.acceptRanges", "internal/bytealg.MaxLen", "internal/strconv.uint64pow10", "math/bits.deBruijn32tab", "math/bits.deBruijn64tab", "strconv.ErrSyntax", "strconv.ErrRange"], plainKeys := false, apart := false, laid := [("math/bits.deBruijn32tab", laid_math_bits_deBruijn32tab), ("math/bits.deBruijn64tab", laid_math_bits_deBruijn64tab), ("internal/strconv.uint64pow10", laid_internal_strconv_uint64pow10), ("unicode/utf8.acceptRanges", laid_unicode_utf8_acceptRanges), ("strconv.ErrRange", laid_strconv_ErrRange), ("strconv.ErrSyntax", laid_strconv_ErrSyntax), ("unicode/utf8.first", laid_unicode_utf8_first)], narrowed := true }
def DebuggerStepsVisitAllUptoSaid : Prop := debuggerStepsVisitAllUptoRow.holds Tryz.pinned (OpenSpec.upto debuggerStepsVisitAllSpec)

/-- 'brindlewoodlaw6.DebuggerOverSkipsCalls', WHERE WHAT IT READS IS OF BULK AT MOST 1048576: true; the input reads as it did. -/
def debuggerOverSkipsCallsUptoRow : OpenClaim := { program := "ytabmcfnefjipbaagreatdoor", sum := "8f4b027fae11dadbb910e164c2efab26ca1206a62d1f018ab9983b1c6e436dae", func := "brindlewood/brindlewoodlaw6.DebuggerOverSkipsCalls", spec := "debuggerOverSkipsCalls", inPlace := ["internal/bytealg.CountString", "internal/bytealg.IndexByteString", "internal/bytealg.IndexString", "internal/abi.NoEscape", "internal/bytealg.MakeNoZero"], unfollowed := true, recurses := true, named := ["unicode/utf8.first", "unicode/utf8.acceptRanges", "internal/bytealg.MaxLen", "internal/strconv.uint64pow10", "math/bits.deBruijn32tab", "math/bits.deBruijn64tab", "strconv.ErrSyntax", "strconv.ErrRange"], plainKeys := false, apart := false, laid := [("math/bits.deBruijn32tab", laid_math_bits_deBruijn32tab), ("math/bits.deBruijn64tab", laid_math_bits_deBruijn64tab), ("internal/strconv.uint64pow10", laid_internal_strconv_uint64pow10), ("unicode/utf8.acceptRanges", laid_unicode_utf8_acceptRanges), ("strconv.ErrRange", laid_strconv_ErrRange), ("strconv.ErrSyntax", laid_strconv_ErrSyntax), ("unicode/utf8.first", laid_unicode_utf8_first)], narrowed := true }
def DebuggerOverSkipsCallsUptoSaid : Prop := debuggerOverSkipsCallsUptoRow.holds Tryz.pinned (OpenSpec.upto debuggerOverSkipsCallsSpec)

/-- 'brindlewoodlaw6.DebuggerBreakpointsStop', WHERE WHAT IT READS IS OF BULK AT MOST 1048576: true; the input reads as it did. -/
def debuggerBreakpointsStopUptoRow : OpenClaim := { program := "ytabmcfnefjipbaagreatdoor", sum := "8f4b027fae11dadbb910e164c2efab26ca1206a62d1f018ab9983b1c6e436dae", func := "brindlewood/brindlewoodlaw6.DebuggerBreakpointsStop", spec := "debuggerBreakpointsStop", inPlace := ["internal/bytealg.CountString", "internal/bytealg.IndexByteString", "internal/bytealg.IndexString", "internal/abi.NoEscape", "internal/bytealg.MakeNoZero"], unfollowed := true, recurses := true, named := ["unicode/utf8.first", "unicode/utf8.acceptRanges", "internal/bytealg.MaxLen", "internal/strconv.uint64pow10", "math/bits.deBruijn32tab", "math/bits.deBruijn64tab", "strconv.ErrSyntax", "strconv.ErrRange"], plainKeys := false, apart := false, laid := [("math/bits.deBruijn32tab", laid_math_bits_deBruijn32tab), ("math/bits.deBruijn64tab", laid_math_bits_deBruijn64tab), ("internal/strconv.uint64pow10", laid_internal_strconv_uint64pow10), ("unicode/utf8.acceptRanges", laid_unicode_utf8_acceptRanges), ("strconv.ErrRange", laid_strconv_ErrRange), ("strconv.ErrSyntax", laid_strconv_ErrSyntax), ("unicode/utf8.first", laid_unicode_utf8_first)], narrowed := true }
def DebuggerBreakpointsStopUptoSaid : Prop := debuggerBreakpointsStopUptoRow.holds Tryz.pinned (OpenSpec.upto debuggerBreakpointsStopSpec)

/-- 'brindlewoodlaw6.DebuggerChangesMatchSpec', WHERE WHAT IT READS IS OF BULK AT MOST 1048576: true; the input reads as it did. -/
def debuggerChangesMatchSpecUptoRow : OpenClaim := { program := "ytabmcfnefjipbaagreatdoor", sum := "8f4b027fae11dadbb910e164c2efab26ca1206a62d1f018ab9983b1c6e436dae", func := "brindlewood/brindlewoodlaw6.DebuggerChangesMatchSpec", spec := "debuggerChangesMatchSpec", inPlace := ["internal/bytealg.CountString", "internal/bytealg.IndexByteString", "internal/bytealg.IndexString", "internal/abi.NoEscape", "internal/bytealg.MakeNoZero"], unfollowed := true, recurses := true, named := ["unicode/utf8.first", "unicode/utf8.acceptRanges", "internal/bytealg.MaxLen", "internal/strconv.uint64pow10", "math/bits.deBruijn32tab", "math/bits.deBruijn64tab", "strconv.ErrSyntax", "strconv.ErrRange"], plainKeys := false, apart := false, laid := [("math/bits.deBruijn32tab", laid_math_bits_deBruijn32tab), ("math/bits.deBruijn64tab", laid_math_bits_deBruijn64tab), ("internal/strconv.uint64pow10", laid_internal_strconv_uint64pow10), ("unicode/utf8.acceptRanges", laid_unicode_utf8_acceptRanges), ("strconv.ErrRange", laid_strconv_ErrRange), ("strconv.ErrSyntax", laid_strconv_ErrSyntax), ("unicode/utf8.first", laid_unicode_utf8_first)], narrowed := true }
def DebuggerChangesMatchSpecUptoSaid : Prop := debuggerChangesMatchSpecUptoRow.holds Tryz.pinned (OpenSpec.upto debuggerChangesMatchSpecSpec)

/-- 'brindlewoodlaw6.DebuggerChangesAreShown', WHERE WHAT IT READS IS OF BULK AT MOST 1048576: true; the input reads as it did. -/
def debuggerChangesAreShownUptoRow : OpenClaim := { program := "ytabmcfnefjipbaagreatdoor", sum := "8f4b027fae11dadbb910e164c2efab26ca1206a62d1f018ab9983b1c6e436dae", func := "brindlewood/brindlewoodlaw6.DebuggerChangesAreShown", spec := "debuggerChangesAreShown", inPlace := ["internal/bytealg.CountString", "internal/bytealg.IndexByteString", "internal/bytealg.IndexString", "internal/abi.NoEscape", "internal/bytealg.MakeNoZero"], unfollowed := true, recurses := true, named := ["unicode/utf8.first", "unicode/utf8.acceptRanges", "internal/bytealg.MaxLen", "internal/strconv.uint64pow10", "math/bits.deBruijn32tab", "math/bits.deBruijn64tab", "strconv.ErrSyntax", "strconv.ErrRange"], plainKeys := false, apart := false, laid := [("math/bits.deBruijn32tab", laid_math_bits_deBruijn32tab), ("math/bits.deBruijn64tab", laid_math_bits_deBruijn64tab), ("internal/strconv.uint64pow10", laid_internal_strconv_uint64pow10), ("unicode/utf8.acceptRanges", laid_unicode_utf8_acceptRanges), ("strconv.ErrRange", laid_strconv_ErrRange), ("strconv.ErrSyntax", laid_strconv_ErrSyntax), ("unicode/utf8.first", laid_unicode_utf8_first)], narrowed := true }
def DebuggerChangesAreShownUptoSaid : Prop := debuggerChangesAreShownUptoRow.holds Tryz.pinned (OpenSpec.upto debuggerChangesAreShownSpec)

end Rows
end Go.Proofs.YtabmcfnefjipbaaGreatDoor

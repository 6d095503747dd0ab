/-
  No cell of these rows narrows 'for every input' (looked for: loops, veiled, ifaces, maps, wideKeys, modest, calm, conditions, laid).
  DERIVED. THE GIVEN ROWS OF THIS SEAT. 8 by the template 'for every input the law returns true; each argument reads behind the call as it read before'; 0 by the template 'total and deterministic' (their statements: YtgiebofmfkacgaaTotals.lean).
  GIVEN WITH THE SEED: the statements are not yours to turn. If you find one false, say at which input.
  Laid BY PROGRAM, IN A SANDBOX (cutbox-rows.mjs): the forced cells as the released guide's own fill.sh prints them over the translation 956420f24e4ff0f7… (all of the seat's roots in one cut). By AI agents, Wed Nov 11 2026. No macro, syntax, notation, axiom, sorry.
-/
import Derived.Test.YtgiebofmfkacgaaChecked
import GoSem.Claim
import GoSem.ClaimJoined
import GoSem.ClaimMapViews
import Derived.JoinedTies
import Derived.KernelRfl
namespace Go.Proofs.Ytgiebofmfkacgaa
/- THE CELL 'sum', in the pinned program and in every row, IS THE sha256 OF THE DUMP (.gsa) THAT YtgiebofmfkacgaaProg.lean LOADS. Nothing in Lean hashes anything: it is a label: what it is worth is what the hold of that sum in a sandbox is worth. -/
noncomputable def Try.pinned : Pinned := { name := "ytgiebofmfkacgaa", sum := "956420f24e4ff0f77ec2fc9e8abee502900d81a8d9c3619c57bf1ae9f6e9e438", checked := Try.checked }
namespace Rows
def none {H : Type} : Left H := { results := [], args := [] }

/-- 'brindlewoodlaw6.EventloopSleepMatchesSpec': WHATEVER THE INPUT: true; the input reads as it did. -/
def eventloopSleepMatchesSpecSpec : ChangeSpec := { name := "eventloopSleepMatchesSpec", fn := fun _ => fun
  | [d1, d2, d3] => { results := [.lit (.bool true)], args := [d1, d2, d3] }
  | _ => none }
def eventloopSleepMatchesSpecRow : OpenClaim := { program := "ytgiebofmfkacgaa", sum := "956420f24e4ff0f77ec2fc9e8abee502900d81a8d9c3619c57bf1ae9f6e9e438", func := "brindlewood/brindlewoodlaw6.EventloopSleepMatchesSpec", spec := "eventloopSleepMatchesSpec", inPlace := ["slices.overlaps[brindlewood/api.Timer]"], unfollowed := true, recurses := true, apart := false }
def EventloopSleepMatchesSpecSaid : Prop := eventloopSleepMatchesSpecRow.holds Try.pinned (OpenSpec.ofChange eventloopSleepMatchesSpecSpec)

/-- ITS FALSE NEIGHBOUR: 'it returns false'. Refute it at one input. -/
def eventloopSleepMatchesSpecWrong : ChangeSpec := { name := "eventloopSleepMatchesSpec", fn := fun _ => fun
  | [d1, d2, d3] => { results := [.lit (.bool false)], args := [d1, d2, d3] }
  | _ => none }
def EventloopSleepMatchesSpecWrongFalsely : Prop := eventloopSleepMatchesSpecRow.holds Try.pinned (OpenSpec.ofChange eventloopSleepMatchesSpecWrong)

/-- 'brindlewoodlaw6.EventloopNextMatchesSpec': WHATEVER THE INPUT: true; the input reads as it did. -/
def eventloopNextMatchesSpecSpec : ChangeSpec := { name := "eventloopNextMatchesSpec", fn := fun _ => fun
  | [d] => { results := [.lit (.bool true)], args := [d] }
  | _ => none }
def eventloopNextMatchesSpecRow : OpenClaim := { program := "ytgiebofmfkacgaa", sum := "956420f24e4ff0f77ec2fc9e8abee502900d81a8d9c3619c57bf1ae9f6e9e438", func := "brindlewood/brindlewoodlaw6.EventloopNextMatchesSpec", spec := "eventloopNextMatchesSpec", inPlace := ["slices.overlaps[brindlewood/api.Timer]"], unfollowed := true, recurses := true, apart := false }
def EventloopNextMatchesSpecSaid : Prop := eventloopNextMatchesSpecRow.holds Try.pinned (OpenSpec.ofChange eventloopNextMatchesSpecSpec)

/-- ITS FALSE NEIGHBOUR: 'it returns false'. Refute it at one input. -/
def eventloopNextMatchesSpecWrong : ChangeSpec := { name := "eventloopNextMatchesSpec", fn := fun _ => fun
  | [d] => { results := [.lit (.bool false)], args := [d] }
  | _ => none }
def EventloopNextMatchesSpecWrongFalsely : Prop := eventloopNextMatchesSpecRow.holds Try.pinned (OpenSpec.ofChange eventloopNextMatchesSpecWrong)

/-- 'brindlewoodlaw6.EventloopEmpties': WHATEVER THE INPUT: true; the input reads as it did. -/
def eventloopEmptiesSpec : ChangeSpec := { name := "eventloopEmpties", fn := fun _ => fun
  | [d] => { results := [.lit (.bool true)], args := [d] }
  | _ => none }
def eventloopEmptiesRow : OpenClaim := { program := "ytgiebofmfkacgaa", sum := "956420f24e4ff0f77ec2fc9e8abee502900d81a8d9c3619c57bf1ae9f6e9e438", func := "brindlewood/brindlewoodlaw6.EventloopEmpties", spec := "eventloopEmpties", inPlace := ["slices.overlaps[brindlewood/api.Timer]"], unfollowed := true, recurses := true, apart := false }
def EventloopEmptiesSaid : Prop := eventloopEmptiesRow.holds Try.pinned (OpenSpec.ofChange eventloopEmptiesSpec)

/-- ITS FALSE NEIGHBOUR: 'it returns false'. Refute it at one input. -/
def eventloopEmptiesWrong : ChangeSpec := { name := "eventloopEmpties", fn := fun _ => fun
  | [d] => { results := [.lit (.bool false)], args := [d] }
  | _ => none }
def EventloopEmptiesWrongFalsely : Prop := eventloopEmptiesRow.holds Try.pinned (OpenSpec.ofChange eventloopEmptiesWrong)

/-- 'brindlewoodlaw6.EventloopWakeMatchesSpec': WHATEVER THE INPUT: true; the input reads as it did. -/
def eventloopWakeMatchesSpecSpec : ChangeSpec := { name := "eventloopWakeMatchesSpec", fn := fun _ => fun
  | [d1, d2] => { results := [.lit (.bool true)], args := [d1, d2] }
  | _ => none }
def eventloopWakeMatchesSpecRow : OpenClaim := { program := "ytgiebofmfkacgaa", sum := "956420f24e4ff0f77ec2fc9e8abee502900d81a8d9c3619c57bf1ae9f6e9e438", func := "brindlewood/brindlewoodlaw6.EventloopWakeMatchesSpec", spec := "eventloopWakeMatchesSpec", inPlace := ["slices.overlaps[brindlewood/api.Timer]"], unfollowed := true, recurses := true, apart := false }
def EventloopWakeMatchesSpecSaid : Prop := eventloopWakeMatchesSpecRow.holds Try.pinned (OpenSpec.ofChange eventloopWakeMatchesSpecSpec)

/-- ITS FALSE NEIGHBOUR: 'it returns false'. Refute it at one input. -/
def eventloopWakeMatchesSpecWrong : ChangeSpec := { name := "eventloopWakeMatchesSpec", fn := fun _ => fun
  | [d1, d2] => { results := [.lit (.bool false)], args := [d1, d2] }
  | _ => none }
def EventloopWakeMatchesSpecWrongFalsely : Prop := eventloopWakeMatchesSpecRow.holds Try.pinned (OpenSpec.ofChange eventloopWakeMatchesSpecWrong)

/-- 'brindlewoodlaw6.EventloopWakingWins': WHATEVER THE INPUT: true; the input reads as it did. -/
def eventloopWakingWinsSpec : ChangeSpec := { name := "eventloopWakingWins", fn := fun _ => fun
  | [d1, d2] => { results := [.lit (.bool true)], args := [d1, d2] }
  | _ => none }
def eventloopWakingWinsRow : OpenClaim := { program := "ytgiebofmfkacgaa", sum := "956420f24e4ff0f77ec2fc9e8abee502900d81a8d9c3619c57bf1ae9f6e9e438", func := "brindlewood/brindlewoodlaw6.EventloopWakingWins", spec := "eventloopWakingWins", inPlace := ["slices.overlaps[brindlewood/api.Timer]"], unfollowed := true, recurses := true, apart := false }
def EventloopWakingWinsSaid : Prop := eventloopWakingWinsRow.holds Try.pinned (OpenSpec.ofChange eventloopWakingWinsSpec)

/-- ITS FALSE NEIGHBOUR: 'it returns false'. Refute it at one input. -/
def eventloopWakingWinsWrong : ChangeSpec := { name := "eventloopWakingWins", fn := fun _ => fun
  | [d1, d2] => { results := [.lit (.bool false)], args := [d1, d2] }
  | _ => none }
def EventloopWakingWinsWrongFalsely : Prop := eventloopWakingWinsRow.holds Try.pinned (OpenSpec.ofChange eventloopWakingWinsWrong)

/-- 'brindlewoodlaw6.EventloopSimulateMatchesSpec': WHATEVER THE INPUT: true; the input reads as it did. -/
def eventloopSimulateMatchesSpecSpec : ChangeSpec := { name := "eventloopSimulateMatchesSpec", fn := fun _ => fun
  | [d] => { results := [.lit (.bool true)], args := [d] }
  | _ => none }
def eventloopSimulateMatchesSpecRow : OpenClaim := { program := "ytgiebofmfkacgaa", sum := "956420f24e4ff0f77ec2fc9e8abee502900d81a8d9c3619c57bf1ae9f6e9e438", func := "brindlewood/brindlewoodlaw6.EventloopSimulateMatchesSpec", spec := "eventloopSimulateMatchesSpec", inPlace := ["slices.overlaps[brindlewood/api.Timer]"], unfollowed := true, recurses := true, apart := false }
def EventloopSimulateMatchesSpecSaid : Prop := eventloopSimulateMatchesSpecRow.holds Try.pinned (OpenSpec.ofChange eventloopSimulateMatchesSpecSpec)

/-- ITS FALSE NEIGHBOUR: 'it returns false'. Refute it at one input. -/
def eventloopSimulateMatchesSpecWrong : ChangeSpec := { name := "eventloopSimulateMatchesSpec", fn := fun _ => fun
  | [d] => { results := [.lit (.bool false)], args := [d] }
  | _ => none }
def EventloopSimulateMatchesSpecWrongFalsely : Prop := eventloopSimulateMatchesSpecRow.holds Try.pinned (OpenSpec.ofChange eventloopSimulateMatchesSpecWrong)

/-- 'brindlewoodlaw6.EventloopTasksLiveOnce': WHATEVER THE INPUT: true; the input reads as it did. -/
def eventloopTasksLiveOnceSpec : ChangeSpec := { name := "eventloopTasksLiveOnce", fn := fun _ => fun
  | [d] => { results := [.lit (.bool true)], args := [d] }
  | _ => none }
def eventloopTasksLiveOnceRow : OpenClaim := { program := "ytgiebofmfkacgaa", sum := "956420f24e4ff0f77ec2fc9e8abee502900d81a8d9c3619c57bf1ae9f6e9e438", func := "brindlewood/brindlewoodlaw6.EventloopTasksLiveOnce", spec := "eventloopTasksLiveOnce", inPlace := ["slices.overlaps[brindlewood/api.Timer]"], unfollowed := true, recurses := true, apart := false }
def EventloopTasksLiveOnceSaid : Prop := eventloopTasksLiveOnceRow.holds Try.pinned (OpenSpec.ofChange eventloopTasksLiveOnceSpec)

/-- ITS FALSE NEIGHBOUR: 'it returns false'. Refute it at one input. -/
def eventloopTasksLiveOnceWrong : ChangeSpec := { name := "eventloopTasksLiveOnce", fn := fun _ => fun
  | [d] => { results := [.lit (.bool false)], args := [d] }
  | _ => none }
def EventloopTasksLiveOnceWrongFalsely : Prop := eventloopTasksLiveOnceRow.holds Try.pinned (OpenSpec.ofChange eventloopTasksLiveOnceWrong)

/-- 'brindlewoodlaw6.EventloopDelaysScale': WHATEVER THE INPUT: true; the input reads as it did. -/
def eventloopDelaysScaleSpec : ChangeSpec := { name := "eventloopDelaysScale", fn := fun _ => fun
  | [d1, d2] => { results := [.lit (.bool true)], args := [d1, d2] }
  | _ => none }
def eventloopDelaysScaleRow : OpenClaim := { program := "ytgiebofmfkacgaa", sum := "956420f24e4ff0f77ec2fc9e8abee502900d81a8d9c3619c57bf1ae9f6e9e438", func := "brindlewood/brindlewoodlaw6.EventloopDelaysScale", spec := "eventloopDelaysScale", inPlace := ["slices.overlaps[brindlewood/api.Timer]"], unfollowed := true, recurses := true, apart := false }
def EventloopDelaysScaleSaid : Prop := eventloopDelaysScaleRow.holds Try.pinned (OpenSpec.ofChange eventloopDelaysScaleSpec)

/-- ITS FALSE NEIGHBOUR: 'it returns false'. Refute it at one input. -/
def eventloopDelaysScaleWrong : ChangeSpec := { name := "eventloopDelaysScale", fn := fun _ => fun
  | [d1, d2] => { results := [.lit (.bool false)], args := [d1, d2] }
  | _ => none }
def EventloopDelaysScaleWrongFalsely : Prop := eventloopDelaysScaleRow.holds Try.pinned (OpenSpec.ofChange eventloopDelaysScaleWrong)

/- THE SECOND FORM. 'bulk': how many values and letters a reading holds, each counted each time it is reached (what is shared counts as often as it is met; a slice's spare places count too). A statement '..UptoSaid' is the law's where the arguments, and the package variables that the reading takes, are together of bulk at most 1048576: NARROWER than '..Said'. Prove '..Said' where nothing that the law and all that it calls make is longer than what came in: it says more and counts as full. Else prove '..UptoSaid'. A law counts once. -/
mutual
def uptoBulk {H : Type} : DataW H → Nat
  | .lit (.string bytes) => bytes.length + 1
  | .lit _ => 1
  | .nil => 1
  | .ptr d => uptoBulk d + 1
  | .slice elems spare => uptoBulkAll elems + uptoBulkAll spare + 1
  | .agg parts => uptoBulkAll parts + 1
  | .iface _ d => uptoBulk d + 1
  | .map entries => uptoBulkEntries entries + 1
  | .held _ => 1
def uptoBulkAll {H : Type} : List (DataW H) → Nat
  | [] => 0
  | d :: r => uptoBulk d + uptoBulkAll r
def uptoBulkEntries {H : Type} : List (Lit × DataW H) → Nat
  | [] => 0
  | x :: r => uptoBulkEntry x + uptoBulkEntries r
def uptoBulkEntry {H : Type} : Lit × DataW H → Nat
  | (.string bytes, d) => bytes.length + uptoBulk d + 1
  | (_, d) => uptoBulk d + 1
 end
def uptoSmall : (H : Type) → List (DataW H) → Bool := fun _ ds => decide (uptoBulkAll ds ≤ 1048576)
def OpenSpec.upto (s : _root_.Go.ChangeSpec) : _root_.Go.OpenSpec := { _root_.Go.OpenSpec.ofChange s with cond := some uptoSmall }

/-- 'brindlewoodlaw6.EventloopSleepMatchesSpec', WHERE WHAT IT READS IS OF BULK AT MOST 1048576: true; the input reads as it did. -/
def eventloopSleepMatchesSpecUptoRow : OpenClaim := { program := "ytgiebofmfkacgaa", sum := "956420f24e4ff0f77ec2fc9e8abee502900d81a8d9c3619c57bf1ae9f6e9e438", func := "brindlewood/brindlewoodlaw6.EventloopSleepMatchesSpec", spec := "eventloopSleepMatchesSpec", inPlace := ["slices.overlaps[brindlewood/api.Timer]"], unfollowed := true, recurses := true, apart := false, narrowed := true }
def EventloopSleepMatchesSpecUptoSaid : Prop := eventloopSleepMatchesSpecUptoRow.holds Try.pinned (OpenSpec.upto eventloopSleepMatchesSpecSpec)

/-- 'brindlewoodlaw6.EventloopNextMatchesSpec', WHERE WHAT IT READS IS OF BULK AT MOST 1048576: true; the input reads as it did. -/
def eventloopNextMatchesSpecUptoRow : OpenClaim := { program := "ytgiebofmfkacgaa", sum := "956420f24e4ff0f77ec2fc9e8abee502900d81a8d9c3619c57bf1ae9f6e9e438", func := "brindlewood/brindlewoodlaw6.EventloopNextMatchesSpec", spec := "eventloopNextMatchesSpec", inPlace := ["slices.overlaps[brindlewood/api.Timer]"], unfollowed := true, recurses := true, apart := false, narrowed := true }
def EventloopNextMatchesSpecUptoSaid : Prop := eventloopNextMatchesSpecUptoRow.holds Try.pinned (OpenSpec.upto eventloopNextMatchesSpecSpec)

/-- 'brindlewoodlaw6.EventloopEmpties', WHERE WHAT IT READS IS OF BULK AT MOST 1048576: true; the input reads as it did. -/
def eventloopEmptiesUptoRow : OpenClaim := { program := "ytgiebofmfkacgaa", sum := "956420f24e4ff0f77ec2fc9e8abee502900d81a8d9c3619c57bf1ae9f6e9e438", func := "brindlewood/brindlewoodlaw6.EventloopEmpties", spec := "eventloopEmpties", inPlace := ["slices.overlaps[brindlewood/api.Timer]"], unfollowed := true, recurses := true, apart := false, narrowed := true }
def EventloopEmptiesUptoSaid : Prop := eventloopEmptiesUptoRow.holds Try.pinned (OpenSpec.upto eventloopEmptiesSpec)

/-- 'brindlewoodlaw6.EventloopWakeMatchesSpec', WHERE WHAT IT READS IS OF BULK AT MOST 1048576: true; the input reads as it did. -/
def eventloopWakeMatchesSpecUptoRow : OpenClaim := { program := "ytgiebofmfkacgaa", sum := "956420f24e4ff0f77ec2fc9e8abee502900d81a8d9c3619c57bf1ae9f6e9e438", func := "brindlewood/brindlewoodlaw6.EventloopWakeMatchesSpec", spec := "eventloopWakeMatchesSpec", inPlace := ["slices.overlaps[brindlewood/api.Timer]"], unfollowed := true, recurses := true, apart := false, narrowed := true }
def EventloopWakeMatchesSpecUptoSaid : Prop := eventloopWakeMatchesSpecUptoRow.holds Try.pinned (OpenSpec.upto eventloopWakeMatchesSpecSpec)

/-- 'brindlewoodlaw6.EventloopWakingWins', WHERE WHAT IT READS IS OF BULK AT MOST 1048576: true; the input reads as it did. -/
def eventloopWakingWinsUptoRow : OpenClaim := { program := "ytgiebofmfkacgaa", sum := "956420f24e4ff0f77ec2fc9e8abee502900d81a8d9c3619c57bf1ae9f6e9e438", func := "brindlewood/brindlewoodlaw6.EventloopWakingWins", spec := "eventloopWakingWins", inPlace := ["slices.overlaps[brindlewood/api.Timer]"], unfollowed := true, recurses := true, apart := false, narrowed := true }
def EventloopWakingWinsUptoSaid : Prop := eventloopWakingWinsUptoRow.holds Try.pinned (OpenSpec.upto eventloopWakingWinsSpec)

/-- 'brindlewoodlaw6.EventloopSimulateMatchesSpec', WHERE WHAT IT READS IS OF BULK AT MOST 1048576: true; the input reads as it did. -/
def eventloopSimulateMatchesSpecUptoRow : OpenClaim := { program := "ytgiebofmfkacgaa", sum := "956420f24e4ff0f77ec2fc9e8abee502900d81a8d9c3619c57bf1ae9f6e9e438", func := "brindlewood/brindlewoodlaw6.EventloopSimulateMatchesSpec", spec := "eventloopSimulateMatchesSpec", inPlace := ["slices.overlaps[brindlewood/api.Timer]"], unfollowed := true, recurses := true, apart := false, narrowed := true }
def EventloopSimulateMatchesSpecUptoSaid : Prop := eventloopSimulateMatchesSpecUptoRow.holds Try.pinned (OpenSpec.upto eventloopSimulateMatchesSpecSpec)

/-- 'brindlewoodlaw6.EventloopTasksLiveOnce', WHERE WHAT IT READS IS OF BULK AT MOST 1048576: true; the input reads as it did. -/
def eventloopTasksLiveOnceUptoRow : OpenClaim := { program := "ytgiebofmfkacgaa", sum := "956420f24e4ff0f77ec2fc9e8abee502900d81a8d9c3619c57bf1ae9f6e9e438", func := "brindlewood/brindlewoodlaw6.EventloopTasksLiveOnce", spec := "eventloopTasksLiveOnce", inPlace := ["slices.overlaps[brindlewood/api.Timer]"], unfollowed := true, recurses := true, apart := false, narrowed := true }
def EventloopTasksLiveOnceUptoSaid : Prop := eventloopTasksLiveOnceUptoRow.holds Try.pinned (OpenSpec.upto eventloopTasksLiveOnceSpec)

/-- 'brindlewoodlaw6.EventloopDelaysScale', WHERE WHAT IT READS IS OF BULK AT MOST 1048576: true; the input reads as it did. -/
def eventloopDelaysScaleUptoRow : OpenClaim := { program := "ytgiebofmfkacgaa", sum := "956420f24e4ff0f77ec2fc9e8abee502900d81a8d9c3619c57bf1ae9f6e9e438", func := "brindlewood/brindlewoodlaw6.EventloopDelaysScale", spec := "eventloopDelaysScale", inPlace := ["slices.overlaps[brindlewood/api.Timer]"], unfollowed := true, recurses := true, apart := false, narrowed := true }
def EventloopDelaysScaleUptoSaid : Prop := eventloopDelaysScaleUptoRow.holds Try.pinned (OpenSpec.upto eventloopDelaysScaleSpec)

end Rows
end Go.Proofs.Ytgiebofmfkacgaa

/-
  No cell of these rows narrows 'for every input' (looked for: loops, veiled, ifaces, maps, wideKeys, modest, calm, conditions, laid).
  DERIVED. THE GIVEN ROWS OF THIS SEAT. 10 by the template 'for every input the law returns true; each argument reads behind the call as it read before'; 0 by the template 'total and deterministic' (their statements: YtgkcfeaknehopaaTotals.lean).
  GIVEN WITH THE SEED: the statements are not yours to turn. If you find one false, say at which input.
  Laid BY PROGRAM, IN A SANDBOX (cutbox-rows.mjs): the forced cells as the released guide's own fill.sh prints them over the translation ac41a66041b7c92d… (all of the seat's roots in one cut). By AI agents, Wed Nov 11 2026. No macro, syntax, notation, axiom, sorry.
-/
import Derived.Test.YtgkcfeaknehopaaChecked
import GoSem.Claim
import GoSem.ClaimJoined
import GoSem.ClaimMapViews
import Derived.JoinedTies
import Derived.KernelRfl
namespace Go.Proofs.Ytgkcfeaknehopaa
/- THE CELL 'sum', in the pinned program and in every row, IS THE sha256 OF THE DUMP (.gsa) THAT YtgkcfeaknehopaaProg.lean LOADS. Nothing in Lean hashes anything: it is a label: what it is worth is what the hold of that sum in a sandbox is worth. -/
noncomputable def Try.pinned : Pinned := { name := "ytgkcfeaknehopaa", sum := "ac41a66041b7c92d98557051e3185a2c882925e4db762ec1b15851414e42d984", checked := Try.checked }
namespace Rows
def none {H : Type} : Left H := { results := [], args := [] }

/-- 'laws.FnExactWarmAt': WHATEVER THE INPUT: true; the input reads as it did. -/
def fnExactWarmAtSpec : ChangeSpec := { name := "fnExactWarmAt", fn := fun _ => fun
  | [d1, d2] => { results := [.lit (.bool true)], args := [d1, d2] }
  | _ => none }
def fnExactWarmAtRow : OpenClaim := { program := "ytgkcfeaknehopaa", sum := "ac41a66041b7c92d98557051e3185a2c882925e4db762ec1b15851414e42d984", func := "loop.example/g01309/laws.FnExactWarmAt", spec := "fnExactWarmAt", unfollowed := true, recurses := true, apart := false }
def FnExactWarmAtSaid : Prop := fnExactWarmAtRow.holds Try.pinned (OpenSpec.ofChange fnExactWarmAtSpec)

/-- ITS FALSE NEIGHBOUR: 'it returns false'. Refute it at one input. -/
def fnExactWarmAtWrong : ChangeSpec := { name := "fnExactWarmAt", fn := fun _ => fun
  | [d1, d2] => { results := [.lit (.bool false)], args := [d1, d2] }
  | _ => none }
def FnExactWarmAtWrongFalsely : Prop := fnExactWarmAtRow.holds Try.pinned (OpenSpec.ofChange fnExactWarmAtWrong)

/-- 'laws.FnExactJoinRods': WHATEVER THE INPUT: true; the input reads as it did. -/
def fnExactJoinRodsSpec : ChangeSpec := { name := "fnExactJoinRods", fn := fun _ => fun
  | [d1, d2] => { results := [.lit (.bool true)], args := [d1, d2] }
  | _ => none }
def fnExactJoinRodsRow : OpenClaim := { program := "ytgkcfeaknehopaa", sum := "ac41a66041b7c92d98557051e3185a2c882925e4db762ec1b15851414e42d984", func := "loop.example/g01309/laws.FnExactJoinRods", spec := "fnExactJoinRods", unfollowed := true, recurses := true, apart := false }
def FnExactJoinRodsSaid : Prop := fnExactJoinRodsRow.holds Try.pinned (OpenSpec.ofChange fnExactJoinRodsSpec)

/-- ITS FALSE NEIGHBOUR: 'it returns false'. Refute it at one input. -/
def fnExactJoinRodsWrong : ChangeSpec := { name := "fnExactJoinRods", fn := fun _ => fun
  | [d1, d2] => { results := [.lit (.bool false)], args := [d1, d2] }
  | _ => none }
def FnExactJoinRodsWrongFalsely : Prop := fnExactJoinRodsRow.holds Try.pinned (OpenSpec.ofChange fnExactJoinRodsWrong)

/-- 'laws.FnExactSafeTick': WHATEVER THE INPUT: true; the input reads as it did. -/
def fnExactSafeTickSpec : ChangeSpec := { name := "fnExactSafeTick", fn := fun _ => fun
  | [d1, d2, d3] => { results := [.lit (.bool true)], args := [d1, d2, d3] }
  | _ => none }
def fnExactSafeTickRow : OpenClaim := { program := "ytgkcfeaknehopaa", sum := "ac41a66041b7c92d98557051e3185a2c882925e4db762ec1b15851414e42d984", func := "loop.example/g01309/laws.FnExactSafeTick", spec := "fnExactSafeTick", unfollowed := true, recurses := true, apart := false }
def FnExactSafeTickSaid : Prop := fnExactSafeTickRow.holds Try.pinned (OpenSpec.ofChange fnExactSafeTickSpec)

/-- ITS FALSE NEIGHBOUR: 'it returns false'. Refute it at one input. -/
def fnExactSafeTickWrong : ChangeSpec := { name := "fnExactSafeTick", fn := fun _ => fun
  | [d1, d2, d3] => { results := [.lit (.bool false)], args := [d1, d2, d3] }
  | _ => none }
def FnExactSafeTickWrongFalsely : Prop := fnExactSafeTickRow.holds Try.pinned (OpenSpec.ofChange fnExactSafeTickWrong)

/-- 'laws.FnExactWaveBelow': WHATEVER THE INPUT: true; the input reads as it did. -/
def fnExactWaveBelowSpec : ChangeSpec := { name := "fnExactWaveBelow", fn := fun _ => fun
  | [d1, d2] => { results := [.lit (.bool true)], args := [d1, d2] }
  | _ => none }
def fnExactWaveBelowRow : OpenClaim := { program := "ytgkcfeaknehopaa", sum := "ac41a66041b7c92d98557051e3185a2c882925e4db762ec1b15851414e42d984", func := "loop.example/g01309/laws.FnExactWaveBelow", spec := "fnExactWaveBelow", inPlace := ["math.Float32frombits", "math.Float64frombits", "math.Float64bits", "math.archTrunc"], unfollowed := true, recurses := true, apart := false }
def FnExactWaveBelowSaid : Prop := fnExactWaveBelowRow.holds Try.pinned (OpenSpec.ofChange fnExactWaveBelowSpec)

/-- ITS FALSE NEIGHBOUR: 'it returns false'. Refute it at one input. -/
def fnExactWaveBelowWrong : ChangeSpec := { name := "fnExactWaveBelow", fn := fun _ => fun
  | [d1, d2] => { results := [.lit (.bool false)], args := [d1, d2] }
  | _ => none }
def FnExactWaveBelowWrongFalsely : Prop := fnExactWaveBelowRow.holds Try.pinned (OpenSpec.ofChange fnExactWaveBelowWrong)

/-- 'laws.FnExactFlowsInRod': WHATEVER THE INPUT: true; the input reads as it did. -/
def fnExactFlowsInRodSpec : ChangeSpec := { name := "fnExactFlowsInRod", fn := fun _ => fun
  | [d1, d2, d3] => { results := [.lit (.bool true)], args := [d1, d2, d3] }
  | _ => none }
def fnExactFlowsInRodRow : OpenClaim := { program := "ytgkcfeaknehopaa", sum := "ac41a66041b7c92d98557051e3185a2c882925e4db762ec1b15851414e42d984", func := "loop.example/g01309/laws.FnExactFlowsInRod", spec := "fnExactFlowsInRod", unfollowed := true, recurses := true, apart := false }
def FnExactFlowsInRodSaid : Prop := fnExactFlowsInRodRow.holds Try.pinned (OpenSpec.ofChange fnExactFlowsInRodSpec)

/-- ITS FALSE NEIGHBOUR: 'it returns false'. Refute it at one input. -/
def fnExactFlowsInRodWrong : ChangeSpec := { name := "fnExactFlowsInRod", fn := fun _ => fun
  | [d1, d2, d3] => { results := [.lit (.bool false)], args := [d1, d2, d3] }
  | _ => none }
def FnExactFlowsInRodWrongFalsely : Prop := fnExactFlowsInRodRow.holds Try.pinned (OpenSpec.ofChange fnExactFlowsInRodWrong)

/-- 'laws.FnExactStepRod': WHATEVER THE INPUT: true; the input reads as it did. -/
def fnExactStepRodSpec : ChangeSpec := { name := "fnExactStepRod", fn := fun _ => fun
  | [d1, d2, d3, d4] => { results := [.lit (.bool true)], args := [d1, d2, d3, d4] }
  | _ => none }
def fnExactStepRodRow : OpenClaim := { program := "ytgkcfeaknehopaa", sum := "ac41a66041b7c92d98557051e3185a2c882925e4db762ec1b15851414e42d984", func := "loop.example/g01309/laws.FnExactStepRod", spec := "fnExactStepRod", unfollowed := true, recurses := true, apart := false }
def FnExactStepRodSaid : Prop := fnExactStepRodRow.holds Try.pinned (OpenSpec.ofChange fnExactStepRodSpec)

/-- ITS FALSE NEIGHBOUR: 'it returns false'. Refute it at one input. -/
def fnExactStepRodWrong : ChangeSpec := { name := "fnExactStepRod", fn := fun _ => fun
  | [d1, d2, d3, d4] => { results := [.lit (.bool false)], args := [d1, d2, d3, d4] }
  | _ => none }
def FnExactStepRodWrongFalsely : Prop := fnExactStepRodRow.holds Try.pinned (OpenSpec.ofChange fnExactStepRodWrong)

/-- 'laws.FnExactRowsRod': WHATEVER THE INPUT: true; the input reads as it did. -/
def fnExactRowsRodSpec : ChangeSpec := { name := "fnExactRowsRod", fn := fun _ => fun
  | [d1, d2, d3, d4] => { results := [.lit (.bool true)], args := [d1, d2, d3, d4] }
  | _ => none }
def fnExactRowsRodRow : OpenClaim := { program := "ytgkcfeaknehopaa", sum := "ac41a66041b7c92d98557051e3185a2c882925e4db762ec1b15851414e42d984", func := "loop.example/g01309/laws.FnExactRowsRod", spec := "fnExactRowsRod", unfollowed := true, recurses := true, apart := false }
def FnExactRowsRodSaid : Prop := fnExactRowsRodRow.holds Try.pinned (OpenSpec.ofChange fnExactRowsRodSpec)

/-- ITS FALSE NEIGHBOUR: 'it returns false'. Refute it at one input. -/
def fnExactRowsRodWrong : ChangeSpec := { name := "fnExactRowsRod", fn := fun _ => fun
  | [d1, d2, d3, d4] => { results := [.lit (.bool false)], args := [d1, d2, d3, d4] }
  | _ => none }
def FnExactRowsRodWrongFalsely : Prop := fnExactRowsRodRow.holds Try.pinned (OpenSpec.ofChange fnExactRowsRodWrong)

/-- 'laws.FnExactAnswerOfRod': WHATEVER THE INPUT: true; the input reads as it did. -/
def fnExactAnswerOfRodSpec : ChangeSpec := { name := "fnExactAnswerOfRod", fn := fun _ => fun
  | [d1, d2] => { results := [.lit (.bool true)], args := [d1, d2] }
  | _ => none }
def fnExactAnswerOfRodRow : OpenClaim := { program := "ytgkcfeaknehopaa", sum := "ac41a66041b7c92d98557051e3185a2c882925e4db762ec1b15851414e42d984", func := "loop.example/g01309/laws.FnExactAnswerOfRod", spec := "fnExactAnswerOfRod", unfollowed := true, recurses := true, apart := false }
def FnExactAnswerOfRodSaid : Prop := fnExactAnswerOfRodRow.holds Try.pinned (OpenSpec.ofChange fnExactAnswerOfRodSpec)

/-- ITS FALSE NEIGHBOUR: 'it returns false'. Refute it at one input. -/
def fnExactAnswerOfRodWrong : ChangeSpec := { name := "fnExactAnswerOfRod", fn := fun _ => fun
  | [d1, d2] => { results := [.lit (.bool false)], args := [d1, d2] }
  | _ => none }
def FnExactAnswerOfRodWrongFalsely : Prop := fnExactAnswerOfRodRow.holds Try.pinned (OpenSpec.ofChange fnExactAnswerOfRodWrong)

/-- 'laws.FnExactSteadyRod': WHATEVER THE INPUT: true; the input reads as it did. -/
def fnExactSteadyRodSpec : ChangeSpec := { name := "fnExactSteadyRod", fn := fun _ => fun
  | [d1, d2, d3] => { results := [.lit (.bool true)], args := [d1, d2, d3] }
  | _ => none }
def fnExactSteadyRodRow : OpenClaim := { program := "ytgkcfeaknehopaa", sum := "ac41a66041b7c92d98557051e3185a2c882925e4db762ec1b15851414e42d984", func := "loop.example/g01309/laws.FnExactSteadyRod", spec := "fnExactSteadyRod", unfollowed := true, recurses := true, apart := false }
def FnExactSteadyRodSaid : Prop := fnExactSteadyRodRow.holds Try.pinned (OpenSpec.ofChange fnExactSteadyRodSpec)

/-- ITS FALSE NEIGHBOUR: 'it returns false'. Refute it at one input. -/
def fnExactSteadyRodWrong : ChangeSpec := { name := "fnExactSteadyRod", fn := fun _ => fun
  | [d1, d2, d3] => { results := [.lit (.bool false)], args := [d1, d2, d3] }
  | _ => none }
def FnExactSteadyRodWrongFalsely : Prop := fnExactSteadyRodRow.holds Try.pinned (OpenSpec.ofChange fnExactSteadyRodWrong)

/-- 'laws.FnExactRunRod': WHATEVER THE INPUT: true; the input reads as it did. -/
def fnExactRunRodSpec : ChangeSpec := { name := "fnExactRunRod", fn := fun _ => fun
  | [d1, d2, d3, d4, d5, d6] => { results := [.lit (.bool true)], args := [d1, d2, d3, d4, d5, d6] }
  | _ => none }
def fnExactRunRodRow : OpenClaim := { program := "ytgkcfeaknehopaa", sum := "ac41a66041b7c92d98557051e3185a2c882925e4db762ec1b15851414e42d984", func := "loop.example/g01309/laws.FnExactRunRod", spec := "fnExactRunRod", unfollowed := true, recurses := true, apart := false }
def FnExactRunRodSaid : Prop := fnExactRunRodRow.holds Try.pinned (OpenSpec.ofChange fnExactRunRodSpec)

/-- ITS FALSE NEIGHBOUR: 'it returns false'. Refute it at one input. -/
def fnExactRunRodWrong : ChangeSpec := { name := "fnExactRunRod", fn := fun _ => fun
  | [d1, d2, d3, d4, d5, d6] => { results := [.lit (.bool false)], args := [d1, d2, d3, d4, d5, d6] }
  | _ => none }
def FnExactRunRodWrongFalsely : Prop := fnExactRunRodRow.holds Try.pinned (OpenSpec.ofChange fnExactRunRodWrong)

/- THE SECOND FORM. 'bulk': how many values and letters a reading holds, each counted each time it is reached (what is shared counts as often as it is met; a slice's spare places count too). A statement '..UptoSaid' is the law's where the arguments, and the package variables that the reading takes, are together of bulk at most 1048576: NARROWER than '..Said'. Prove '..Said' where nothing that the law and all that it calls make is longer than what came in: it says more and counts as full. Else prove '..UptoSaid'. A law counts once. -/
mutual
def uptoBulk {H : Type} : DataW H → Nat
  | .lit (.string bytes) => bytes.length + 1
  | .lit _ => 1
  | .nil => 1
  | .ptr d => uptoBulk d + 1
  | .slice elems spare => uptoBulkAll elems + uptoBulkAll spare + 1
  | .agg parts => uptoBulkAll parts + 1
  | .iface _ d => uptoBulk d + 1
  | .map entries => uptoBulkEntries entries + 1
  | .held _ => 1
def uptoBulkAll {H : Type} : List (DataW H) → Nat
  | [] => 0
  | d :: r => uptoBulk d + uptoBulkAll r
def uptoBulkEntries {H : Type} : List (Lit × DataW H) → Nat
  | [] => 0
  | x :: r => uptoBulkEntry x + uptoBulkEntries r
def uptoBulkEntry {H : Type} : Lit × DataW H → Nat
  | (.string bytes, d) => bytes.length + uptoBulk d + 1
  | (_, d) => uptoBulk d + 1
 end
def uptoSmall : (H : Type) → List (DataW H) → Bool := fun _ ds => decide (uptoBulkAll ds ≤ 1048576)
def OpenSpec.upto (s : _root_.Go.ChangeSpec) : _root_.Go.OpenSpec := { _root_.Go.OpenSpec.ofChange s with cond := some uptoSmall }

/-- 'laws.FnExactWarmAt', WHERE WHAT IT READS IS OF BULK AT MOST 1048576: true; the input reads as it did. -/
def fnExactWarmAtUptoRow : OpenClaim := { program := "ytgkcfeaknehopaa", sum := "ac41a66041b7c92d98557051e3185a2c882925e4db762ec1b15851414e42d984", func := "loop.example/g01309/laws.FnExactWarmAt", spec := "fnExactWarmAt", unfollowed := true, recurses := true, apart := false, narrowed := true }
def FnExactWarmAtUptoSaid : Prop := fnExactWarmAtUptoRow.holds Try.pinned (OpenSpec.upto fnExactWarmAtSpec)

/-- 'laws.FnExactJoinRods', WHERE WHAT IT READS IS OF BULK AT MOST 1048576: true; the input reads as it did. -/
def fnExactJoinRodsUptoRow : OpenClaim := { program := "ytgkcfeaknehopaa", sum := "ac41a66041b7c92d98557051e3185a2c882925e4db762ec1b15851414e42d984", func := "loop.example/g01309/laws.FnExactJoinRods", spec := "fnExactJoinRods", unfollowed := true, recurses := true, apart := false, narrowed := true }
def FnExactJoinRodsUptoSaid : Prop := fnExactJoinRodsUptoRow.holds Try.pinned (OpenSpec.upto fnExactJoinRodsSpec)

/-- 'laws.FnExactSafeTick', WHERE WHAT IT READS IS OF BULK AT MOST 1048576: true; the input reads as it did. -/
def fnExactSafeTickUptoRow : OpenClaim := { program := "ytgkcfeaknehopaa", sum := "ac41a66041b7c92d98557051e3185a2c882925e4db762ec1b15851414e42d984", func := "loop.example/g01309/laws.FnExactSafeTick", spec := "fnExactSafeTick", unfollowed := true, recurses := true, apart := false, narrowed := true }
def FnExactSafeTickUptoSaid : Prop := fnExactSafeTickUptoRow.holds Try.pinned (OpenSpec.upto fnExactSafeTickSpec)

/-- 'laws.FnExactWaveBelow', WHERE WHAT IT READS IS OF BULK AT MOST 1048576: true; the input reads as it did. -/
def fnExactWaveBelowUptoRow : OpenClaim := { program := "ytgkcfeaknehopaa", sum := "ac41a66041b7c92d98557051e3185a2c882925e4db762ec1b15851414e42d984", func := "loop.example/g01309/laws.FnExactWaveBelow", spec := "fnExactWaveBelow", inPlace := ["math.Float32frombits", "math.Float64frombits", "math.Float64bits", "math.archTrunc"], unfollowed := true, recurses := true, apart := false, narrowed := true }
def FnExactWaveBelowUptoSaid : Prop := fnExactWaveBelowUptoRow.holds Try.pinned (OpenSpec.upto fnExactWaveBelowSpec)

/-- 'laws.FnExactFlowsInRod', WHERE WHAT IT READS IS OF BULK AT MOST 1048576: true; the input reads as it did. -/
def fnExactFlowsInRodUptoRow : OpenClaim := { program := "ytgkcfeaknehopaa", sum := "ac41a66041b7c92d98557051e3185a2c882925e4db762ec1b15851414e42d984", func := "loop.example/g01309/laws.FnExactFlowsInRod", spec := "fnExactFlowsInRod", unfollowed := true, recurses := true, apart := false, narrowed := true }
def FnExactFlowsInRodUptoSaid : Prop := fnExactFlowsInRodUptoRow.holds Try.pinned (OpenSpec.upto fnExactFlowsInRodSpec)

/-- 'laws.FnExactStepRod', WHERE WHAT IT READS IS OF BULK AT MOST 1048576: true; the input reads as it did. -/
def fnExactStepRodUptoRow : OpenClaim := { program := "ytgkcfeaknehopaa", sum := "ac41a66041b7c92d98557051e3185a2c882925e4db762ec1b15851414e42d984", func := "loop.example/g01309/laws.FnExactStepRod", spec := "fnExactStepRod", unfollowed := true, recurses := true, apart := false, narrowed := true }
def FnExactStepRodUptoSaid : Prop := fnExactStepRodUptoRow.holds Try.pinned (OpenSpec.upto fnExactStepRodSpec)

/-- 'laws.FnExactRowsRod', WHERE WHAT IT READS IS OF BULK AT MOST 1048576: true; the input reads as it did. -/
def fnExactRowsRodUptoRow : OpenClaim := { program := "ytgkcfeaknehopaa", sum := "ac41a66041b7c92d98557051e3185a2c882925e4db762ec1b15851414e42d984", func := "loop.example/g01309/laws.FnExactRowsRod", spec := "fnExactRowsRod", unfollowed := true, recurses := true, apart := false, narrowed := true }
def FnExactRowsRodUptoSaid : Prop := fnExactRowsRodUptoRow.holds Try.pinned (OpenSpec.upto fnExactRowsRodSpec)

/-- 'laws.FnExactAnswerOfRod', WHERE WHAT IT READS IS OF BULK AT MOST 1048576: true; the input reads as it did. -/
def fnExactAnswerOfRodUptoRow : OpenClaim := { program := "ytgkcfeaknehopaa", sum := "ac41a66041b7c92d98557051e3185a2c882925e4db762ec1b15851414e42d984", func := "loop.example/g01309/laws.FnExactAnswerOfRod", spec := "fnExactAnswerOfRod", unfollowed := true, recurses := true, apart := false, narrowed := true }
def FnExactAnswerOfRodUptoSaid : Prop := fnExactAnswerOfRodUptoRow.holds Try.pinned (OpenSpec.upto fnExactAnswerOfRodSpec)

/-- 'laws.FnExactSteadyRod', WHERE WHAT IT READS IS OF BULK AT MOST 1048576: true; the input reads as it did. -/
def fnExactSteadyRodUptoRow : OpenClaim := { program := "ytgkcfeaknehopaa", sum := "ac41a66041b7c92d98557051e3185a2c882925e4db762ec1b15851414e42d984", func := "loop.example/g01309/laws.FnExactSteadyRod", spec := "fnExactSteadyRod", unfollowed := true, recurses := true, apart := false, narrowed := true }
def FnExactSteadyRodUptoSaid : Prop := fnExactSteadyRodUptoRow.holds Try.pinned (OpenSpec.upto fnExactSteadyRodSpec)

/-- 'laws.FnExactRunRod', WHERE WHAT IT READS IS OF BULK AT MOST 1048576: true; the input reads as it did. -/
def fnExactRunRodUptoRow : OpenClaim := { program := "ytgkcfeaknehopaa", sum := "ac41a66041b7c92d98557051e3185a2c882925e4db762ec1b15851414e42d984", func := "loop.example/g01309/laws.FnExactRunRod", spec := "fnExactRunRod", unfollowed := true, recurses := true, apart := false, narrowed := true }
def FnExactRunRodUptoSaid : Prop := fnExactRunRodUptoRow.holds Try.pinned (OpenSpec.upto fnExactRunRodSpec)

end Rows
end Go.Proofs.Ytgkcfeaknehopaa

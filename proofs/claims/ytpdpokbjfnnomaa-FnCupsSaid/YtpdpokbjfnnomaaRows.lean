/-
  No cell of these rows narrows 'for every input' (looked for: loops, veiled, ifaces, maps, wideKeys, modest, calm, conditions, laid).
  DERIVED. THE GIVEN ROWS OF THIS SEAT. 10 by the template 'for every input the law returns true; each argument reads behind the call as it read before'; 0 by the template 'total and deterministic' (their statements: YtpdpokbjfnnomaaTotals.lean).
  GIVEN WITH THE SEED: the statements are not yours to turn. If you find one false, say at which input.
  Laid BY PROGRAM, IN A SANDBOX (cutbox-rows.mjs): the forced cells as the released guide's own fill.sh prints them over the translation b0e014bf6a610f0e… (all of the seat's roots in one cut). By AI agents, Wed Nov 11 2026. No macro, syntax, notation, axiom, sorry.
-/
import Derived.Test.YtpdpokbjfnnomaaChecked
import GoSem.Claim
import GoSem.ClaimJoined
import GoSem.ClaimMapViews
import Derived.JoinedTies
import Derived.KernelRfl
namespace Go.Proofs.Ytpdpokbjfnnomaa
/- THE CELL 'sum', in the pinned program and in every row, IS THE sha256 OF THE DUMP (.gsa) THAT YtpdpokbjfnnomaaProg.lean LOADS. Nothing in Lean hashes anything: it is a label: what it is worth is what the hold of that sum in a sandbox is worth. -/
noncomputable def Try.pinned : Pinned := { name := "ytpdpokbjfnnomaa", sum := "b0e014bf6a610f0e31a06caa837f28692c1a9de5feeaf950697ad30cd3726b3e", checked := Try.checked }
namespace Rows
def none {H : Type} : Left H := { results := [], args := [] }

/-- 'laws.FnExactValidCup': WHATEVER THE INPUT: true; the input reads as it did. -/
def fnExactValidCupSpec : ChangeSpec := { name := "fnExactValidCup", fn := fun _ => fun
  | [d] => { results := [.lit (.bool true)], args := [d] }
  | _ => none }
def fnExactValidCupRow : OpenClaim := { program := "ytpdpokbjfnnomaa", sum := "b0e014bf6a610f0e31a06caa837f28692c1a9de5feeaf950697ad30cd3726b3e", func := "loop.example/g01309/laws.FnExactValidCup", spec := "fnExactValidCup", apart := false }
def FnExactValidCupSaid : Prop := fnExactValidCupRow.holds Try.pinned (OpenSpec.ofChange fnExactValidCupSpec)

/-- ITS FALSE NEIGHBOUR: 'it returns false'. Refute it at one input. -/
def fnExactValidCupWrong : ChangeSpec := { name := "fnExactValidCup", fn := fun _ => fun
  | [d] => { results := [.lit (.bool false)], args := [d] }
  | _ => none }
def FnExactValidCupWrongFalsely : Prop := fnExactValidCupRow.holds Try.pinned (OpenSpec.ofChange fnExactValidCupWrong)

/-- 'laws.FnExactFreezePoint': WHATEVER THE INPUT: true; the input reads as it did. -/
def fnExactFreezePointSpec : ChangeSpec := { name := "fnExactFreezePoint", fn := fun _ => fun
  | [d] => { results := [.lit (.bool true)], args := [d] }
  | _ => none }
def fnExactFreezePointRow : OpenClaim := { program := "ytpdpokbjfnnomaa", sum := "b0e014bf6a610f0e31a06caa837f28692c1a9de5feeaf950697ad30cd3726b3e", func := "loop.example/g01309/laws.FnExactFreezePoint", spec := "fnExactFreezePoint", apart := false }
def FnExactFreezePointSaid : Prop := fnExactFreezePointRow.holds Try.pinned (OpenSpec.ofChange fnExactFreezePointSpec)

/-- ITS FALSE NEIGHBOUR: 'it returns false'. Refute it at one input. -/
def fnExactFreezePointWrong : ChangeSpec := { name := "fnExactFreezePoint", fn := fun _ => fun
  | [d] => { results := [.lit (.bool false)], args := [d] }
  | _ => none }
def FnExactFreezePointWrongFalsely : Prop := fnExactFreezePointRow.holds Try.pinned (OpenSpec.ofChange fnExactFreezePointWrong)

/-- 'laws.FnExactValidStuff': WHATEVER THE INPUT: true; the input reads as it did. -/
def fnExactValidStuffSpec : ChangeSpec := { name := "fnExactValidStuff", fn := fun _ => fun
  | [d] => { results := [.lit (.bool true)], args := [d] }
  | _ => none }
def fnExactValidStuffRow : OpenClaim := { program := "ytpdpokbjfnnomaa", sum := "b0e014bf6a610f0e31a06caa837f28692c1a9de5feeaf950697ad30cd3726b3e", func := "loop.example/g01309/laws.FnExactValidStuff", spec := "fnExactValidStuff", unfollowed := true, recurses := true, apart := false }
def FnExactValidStuffSaid : Prop := fnExactValidStuffRow.holds Try.pinned (OpenSpec.ofChange fnExactValidStuffSpec)

/-- ITS FALSE NEIGHBOUR: 'it returns false'. Refute it at one input. -/
def fnExactValidStuffWrong : ChangeSpec := { name := "fnExactValidStuff", fn := fun _ => fun
  | [d] => { results := [.lit (.bool false)], args := [d] }
  | _ => none }
def FnExactValidStuffWrongFalsely : Prop := fnExactValidStuffRow.holds Try.pinned (OpenSpec.ofChange fnExactValidStuffWrong)

/-- 'laws.FnExactMeltedInCup': WHATEVER THE INPUT: true; the input reads as it did. -/
def fnExactMeltedInCupSpec : ChangeSpec := { name := "fnExactMeltedInCup", fn := fun _ => fun
  | [d] => { results := [.lit (.bool true)], args := [d] }
  | _ => none }
def fnExactMeltedInCupRow : OpenClaim := { program := "ytpdpokbjfnnomaa", sum := "b0e014bf6a610f0e31a06caa837f28692c1a9de5feeaf950697ad30cd3726b3e", func := "loop.example/g01309/laws.FnExactMeltedInCup", spec := "fnExactMeltedInCup", apart := false }
def FnExactMeltedInCupSaid : Prop := fnExactMeltedInCupRow.holds Try.pinned (OpenSpec.ofChange fnExactMeltedInCupSpec)

/-- ITS FALSE NEIGHBOUR: 'it returns false'. Refute it at one input. -/
def fnExactMeltedInCupWrong : ChangeSpec := { name := "fnExactMeltedInCup", fn := fun _ => fun
  | [d] => { results := [.lit (.bool false)], args := [d] }
  | _ => none }
def FnExactMeltedInCupWrongFalsely : Prop := fnExactMeltedInCupRow.holds Try.pinned (OpenSpec.ofChange fnExactMeltedInCupWrong)

/-- 'laws.FnExactBrineShare': WHATEVER THE INPUT: true; the input reads as it did. -/
def fnExactBrineShareSpec : ChangeSpec := { name := "fnExactBrineShare", fn := fun _ => fun
  | [d1, d2] => { results := [.lit (.bool true)], args := [d1, d2] }
  | _ => none }
def fnExactBrineShareRow : OpenClaim := { program := "ytpdpokbjfnnomaa", sum := "b0e014bf6a610f0e31a06caa837f28692c1a9de5feeaf950697ad30cd3726b3e", func := "loop.example/g01309/laws.FnExactBrineShare", spec := "fnExactBrineShare", apart := false }
def FnExactBrineShareSaid : Prop := fnExactBrineShareRow.holds Try.pinned (OpenSpec.ofChange fnExactBrineShareSpec)

/-- ITS FALSE NEIGHBOUR: 'it returns false'. Refute it at one input. -/
def fnExactBrineShareWrong : ChangeSpec := { name := "fnExactBrineShare", fn := fun _ => fun
  | [d1, d2] => { results := [.lit (.bool false)], args := [d1, d2] }
  | _ => none }
def FnExactBrineShareWrongFalsely : Prop := fnExactBrineShareRow.holds Try.pinned (OpenSpec.ofChange fnExactBrineShareWrong)

/-- 'laws.FnExactHeatCup': WHATEVER THE INPUT: true; the input reads as it did. -/
def fnExactHeatCupSpec : ChangeSpec := { name := "fnExactHeatCup", fn := fun _ => fun
  | [d1, d2] => { results := [.lit (.bool true)], args := [d1, d2] }
  | _ => none }
def fnExactHeatCupRow : OpenClaim := { program := "ytpdpokbjfnnomaa", sum := "b0e014bf6a610f0e31a06caa837f28692c1a9de5feeaf950697ad30cd3726b3e", func := "loop.example/g01309/laws.FnExactHeatCup", spec := "fnExactHeatCup", apart := false }
def FnExactHeatCupSaid : Prop := fnExactHeatCupRow.holds Try.pinned (OpenSpec.ofChange fnExactHeatCupSpec)

/-- ITS FALSE NEIGHBOUR: 'it returns false'. Refute it at one input. -/
def fnExactHeatCupWrong : ChangeSpec := { name := "fnExactHeatCup", fn := fun _ => fun
  | [d1, d2] => { results := [.lit (.bool false)], args := [d1, d2] }
  | _ => none }
def FnExactHeatCupWrongFalsely : Prop := fnExactHeatCupRow.holds Try.pinned (OpenSpec.ofChange fnExactHeatCupWrong)

/-- 'laws.FnExactMixCups': WHATEVER THE INPUT: true; the input reads as it did. -/
def fnExactMixCupsSpec : ChangeSpec := { name := "fnExactMixCups", fn := fun _ => fun
  | [d1, d2] => { results := [.lit (.bool true)], args := [d1, d2] }
  | _ => none }
def fnExactMixCupsRow : OpenClaim := { program := "ytpdpokbjfnnomaa", sum := "b0e014bf6a610f0e31a06caa837f28692c1a9de5feeaf950697ad30cd3726b3e", func := "loop.example/g01309/laws.FnExactMixCups", spec := "fnExactMixCups", apart := false }
def FnExactMixCupsSaid : Prop := fnExactMixCupsRow.holds Try.pinned (OpenSpec.ofChange fnExactMixCupsSpec)

/-- ITS FALSE NEIGHBOUR: 'it returns false'. Refute it at one input. -/
def fnExactMixCupsWrong : ChangeSpec := { name := "fnExactMixCups", fn := fun _ => fun
  | [d1, d2] => { results := [.lit (.bool false)], args := [d1, d2] }
  | _ => none }
def FnExactMixCupsWrongFalsely : Prop := fnExactMixCupsRow.holds Try.pinned (OpenSpec.ofChange fnExactMixCupsWrong)

/-- 'laws.FnExactSameStuff': WHATEVER THE INPUT: true; the input reads as it did. -/
def fnExactSameStuffSpec : ChangeSpec := { name := "fnExactSameStuff", fn := fun _ => fun
  | [d1, d2] => { results := [.lit (.bool true)], args := [d1, d2] }
  | _ => none }
def fnExactSameStuffRow : OpenClaim := { program := "ytpdpokbjfnnomaa", sum := "b0e014bf6a610f0e31a06caa837f28692c1a9de5feeaf950697ad30cd3726b3e", func := "loop.example/g01309/laws.FnExactSameStuff", spec := "fnExactSameStuff", inPlace := ["math.Float32bits", "math.Float64bits"], unfollowed := true, recurses := true, apart := false }
def FnExactSameStuffSaid : Prop := fnExactSameStuffRow.holds Try.pinned (OpenSpec.ofChange fnExactSameStuffSpec)

/-- ITS FALSE NEIGHBOUR: 'it returns false'. Refute it at one input. -/
def fnExactSameStuffWrong : ChangeSpec := { name := "fnExactSameStuff", fn := fun _ => fun
  | [d1, d2] => { results := [.lit (.bool false)], args := [d1, d2] }
  | _ => none }
def FnExactSameStuffWrongFalsely : Prop := fnExactSameStuffRow.holds Try.pinned (OpenSpec.ofChange fnExactSameStuffWrong)

/-- 'laws.FnExactWarmOfCup': WHATEVER THE INPUT: true; the input reads as it did. -/
def fnExactWarmOfCupSpec : ChangeSpec := { name := "fnExactWarmOfCup", fn := fun _ => fun
  | [d] => { results := [.lit (.bool true)], args := [d] }
  | _ => none }
def fnExactWarmOfCupRow : OpenClaim := { program := "ytpdpokbjfnnomaa", sum := "b0e014bf6a610f0e31a06caa837f28692c1a9de5feeaf950697ad30cd3726b3e", func := "loop.example/g01309/laws.FnExactWarmOfCup", spec := "fnExactWarmOfCup", apart := false }
def FnExactWarmOfCupSaid : Prop := fnExactWarmOfCupRow.holds Try.pinned (OpenSpec.ofChange fnExactWarmOfCupSpec)

/-- ITS FALSE NEIGHBOUR: 'it returns false'. Refute it at one input. -/
def fnExactWarmOfCupWrong : ChangeSpec := { name := "fnExactWarmOfCup", fn := fun _ => fun
  | [d] => { results := [.lit (.bool false)], args := [d] }
  | _ => none }
def FnExactWarmOfCupWrongFalsely : Prop := fnExactWarmOfCupRow.holds Try.pinned (OpenSpec.ofChange fnExactWarmOfCupWrong)

/-- 'laws.FnCups': WHATEVER THE INPUT: true; the input reads as it did. -/
def fnCupsSpec : ChangeSpec := { name := "fnCups", fn := fun _ => fun
  | [d1, d2] => { results := [.lit (.bool true)], args := [d1, d2] }
  | _ => none }
def fnCupsRow : OpenClaim := { program := "ytpdpokbjfnnomaa", sum := "b0e014bf6a610f0e31a06caa837f28692c1a9de5feeaf950697ad30cd3726b3e", func := "loop.example/g01309/laws.FnCups", spec := "fnCups", apart := false }
def FnCupsSaid : Prop := fnCupsRow.holds Try.pinned (OpenSpec.ofChange fnCupsSpec)

/-- ITS FALSE NEIGHBOUR: 'it returns false'. Refute it at one input. -/
def fnCupsWrong : ChangeSpec := { name := "fnCups", fn := fun _ => fun
  | [d1, d2] => { results := [.lit (.bool false)], args := [d1, d2] }
  | _ => none }
def FnCupsWrongFalsely : Prop := fnCupsRow.holds Try.pinned (OpenSpec.ofChange fnCupsWrong)

/- THE SECOND FORM. 'bulk': how many values and letters a reading holds, each counted each time it is reached (what is shared counts as often as it is met; a slice's spare places count too). A statement '..UptoSaid' is the law's where the arguments, and the package variables that the reading takes, are together of bulk at most 1048576: NARROWER than '..Said'. Prove '..Said' where nothing that the law and all that it calls make is longer than what came in: it says more and counts as full. Else prove '..UptoSaid'. A law counts once. -/
mutual
def uptoBulk {H : Type} : DataW H → Nat
  | .lit (.string bytes) => bytes.length + 1
  | .lit _ => 1
  | .nil => 1
  | .ptr d => uptoBulk d + 1
  | .slice elems spare => uptoBulkAll elems + uptoBulkAll spare + 1
  | .agg parts => uptoBulkAll parts + 1
  | .iface _ d => uptoBulk d + 1
  | .map entries => uptoBulkEntries entries + 1
  | .held _ => 1
def uptoBulkAll {H : Type} : List (DataW H) → Nat
  | [] => 0
  | d :: r => uptoBulk d + uptoBulkAll r
def uptoBulkEntries {H : Type} : List (Lit × DataW H) → Nat
  | [] => 0
  | x :: r => uptoBulkEntry x + uptoBulkEntries r
def uptoBulkEntry {H : Type} : Lit × DataW H → Nat
  | (.string bytes, d) => bytes.length + uptoBulk d + 1
  | (_, d) => uptoBulk d + 1
 end
def uptoSmall : (H : Type) → List (DataW H) → Bool := fun _ ds => decide (uptoBulkAll ds ≤ 1048576)
def OpenSpec.upto (s : _root_.Go.ChangeSpec) : _root_.Go.OpenSpec := { _root_.Go.OpenSpec.ofChange s with cond := some uptoSmall }

/-- 'laws.FnExactValidCup', WHERE WHAT IT READS IS OF BULK AT MOST 1048576: true; the input reads as it did. -/
def fnExactValidCupUptoRow : OpenClaim := { program := "ytpdpokbjfnnomaa", sum := "b0e014bf6a610f0e31a06caa837f28692c1a9de5feeaf950697ad30cd3726b3e", func := "loop.example/g01309/laws.FnExactValidCup", spec := "fnExactValidCup", apart := false, narrowed := true }
def FnExactValidCupUptoSaid : Prop := fnExactValidCupUptoRow.holds Try.pinned (OpenSpec.upto fnExactValidCupSpec)

/-- 'laws.FnExactFreezePoint', WHERE WHAT IT READS IS OF BULK AT MOST 1048576: true; the input reads as it did. -/
def fnExactFreezePointUptoRow : OpenClaim := { program := "ytpdpokbjfnnomaa", sum := "b0e014bf6a610f0e31a06caa837f28692c1a9de5feeaf950697ad30cd3726b3e", func := "loop.example/g01309/laws.FnExactFreezePoint", spec := "fnExactFreezePoint", apart := false, narrowed := true }
def FnExactFreezePointUptoSaid : Prop := fnExactFreezePointUptoRow.holds Try.pinned (OpenSpec.upto fnExactFreezePointSpec)

/-- 'laws.FnExactValidStuff', WHERE WHAT IT READS IS OF BULK AT MOST 1048576: true; the input reads as it did. -/
def fnExactValidStuffUptoRow : OpenClaim := { program := "ytpdpokbjfnnomaa", sum := "b0e014bf6a610f0e31a06caa837f28692c1a9de5feeaf950697ad30cd3726b3e", func := "loop.example/g01309/laws.FnExactValidStuff", spec := "fnExactValidStuff", unfollowed := true, recurses := true, apart := false, narrowed := true }
def FnExactValidStuffUptoSaid : Prop := fnExactValidStuffUptoRow.holds Try.pinned (OpenSpec.upto fnExactValidStuffSpec)

/-- 'laws.FnExactMeltedInCup', WHERE WHAT IT READS IS OF BULK AT MOST 1048576: true; the input reads as it did. -/
def fnExactMeltedInCupUptoRow : OpenClaim := { program := "ytpdpokbjfnnomaa", sum := "b0e014bf6a610f0e31a06caa837f28692c1a9de5feeaf950697ad30cd3726b3e", func := "loop.example/g01309/laws.FnExactMeltedInCup", spec := "fnExactMeltedInCup", apart := false, narrowed := true }
def FnExactMeltedInCupUptoSaid : Prop := fnExactMeltedInCupUptoRow.holds Try.pinned (OpenSpec.upto fnExactMeltedInCupSpec)

/-- 'laws.FnExactBrineShare', WHERE WHAT IT READS IS OF BULK AT MOST 1048576: true; the input reads as it did. -/
def fnExactBrineShareUptoRow : OpenClaim := { program := "ytpdpokbjfnnomaa", sum := "b0e014bf6a610f0e31a06caa837f28692c1a9de5feeaf950697ad30cd3726b3e", func := "loop.example/g01309/laws.FnExactBrineShare", spec := "fnExactBrineShare", apart := false, narrowed := true }
def FnExactBrineShareUptoSaid : Prop := fnExactBrineShareUptoRow.holds Try.pinned (OpenSpec.upto fnExactBrineShareSpec)

/-- 'laws.FnExactHeatCup', WHERE WHAT IT READS IS OF BULK AT MOST 1048576: true; the input reads as it did. -/
def fnExactHeatCupUptoRow : OpenClaim := { program := "ytpdpokbjfnnomaa", sum := "b0e014bf6a610f0e31a06caa837f28692c1a9de5feeaf950697ad30cd3726b3e", func := "loop.example/g01309/laws.FnExactHeatCup", spec := "fnExactHeatCup", apart := false, narrowed := true }
def FnExactHeatCupUptoSaid : Prop := fnExactHeatCupUptoRow.holds Try.pinned (OpenSpec.upto fnExactHeatCupSpec)

/-- 'laws.FnExactMixCups', WHERE WHAT IT READS IS OF BULK AT MOST 1048576: true; the input reads as it did. -/
def fnExactMixCupsUptoRow : OpenClaim := { program := "ytpdpokbjfnnomaa", sum := "b0e014bf6a610f0e31a06caa837f28692c1a9de5feeaf950697ad30cd3726b3e", func := "loop.example/g01309/laws.FnExactMixCups", spec := "fnExactMixCups", apart := false, narrowed := true }
def FnExactMixCupsUptoSaid : Prop := fnExactMixCupsUptoRow.holds Try.pinned (OpenSpec.upto fnExactMixCupsSpec)

/-- 'laws.FnExactSameStuff', WHERE WHAT IT READS IS OF BULK AT MOST 1048576: true; the input reads as it did. -/
def fnExactSameStuffUptoRow : OpenClaim := { program := "ytpdpokbjfnnomaa", sum := "b0e014bf6a610f0e31a06caa837f28692c1a9de5feeaf950697ad30cd3726b3e", func := "loop.example/g01309/laws.FnExactSameStuff", spec := "fnExactSameStuff", inPlace := ["math.Float32bits", "math.Float64bits"], unfollowed := true, recurses := true, apart := false, narrowed := true }
def FnExactSameStuffUptoSaid : Prop := fnExactSameStuffUptoRow.holds Try.pinned (OpenSpec.upto fnExactSameStuffSpec)

/-- 'laws.FnExactWarmOfCup', WHERE WHAT IT READS IS OF BULK AT MOST 1048576: true; the input reads as it did. -/
def fnExactWarmOfCupUptoRow : OpenClaim := { program := "ytpdpokbjfnnomaa", sum := "b0e014bf6a610f0e31a06caa837f28692c1a9de5feeaf950697ad30cd3726b3e", func := "loop.example/g01309/laws.FnExactWarmOfCup", spec := "fnExactWarmOfCup", apart := false, narrowed := true }
def FnExactWarmOfCupUptoSaid : Prop := fnExactWarmOfCupUptoRow.holds Try.pinned (OpenSpec.upto fnExactWarmOfCupSpec)

/-- 'laws.FnCups', WHERE WHAT IT READS IS OF BULK AT MOST 1048576: true; the input reads as it did. -/
def fnCupsUptoRow : OpenClaim := { program := "ytpdpokbjfnnomaa", sum := "b0e014bf6a610f0e31a06caa837f28692c1a9de5feeaf950697ad30cd3726b3e", func := "loop.example/g01309/laws.FnCups", spec := "fnCups", apart := false, narrowed := true }
def FnCupsUptoSaid : Prop := fnCupsUptoRow.holds Try.pinned (OpenSpec.upto fnCupsSpec)

end Rows
end Go.Proofs.Ytpdpokbjfnnomaa

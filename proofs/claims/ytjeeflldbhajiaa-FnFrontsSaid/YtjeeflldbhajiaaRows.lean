/-
  No cell of these rows narrows 'for every input' (looked for: loops, veiled, ifaces, maps, wideKeys, modest, calm, conditions, laid).
  DERIVED. THE GIVEN ROWS OF THIS SEAT. 12 by the template 'for every input the law returns true; each argument reads behind the call as it read before'; 0 by the template 'total and deterministic' (their statements: YtjeeflldbhajiaaTotals.lean).
  GIVEN WITH THE SEED: the statements are not yours to turn. If you find one false, say at which input.
  Laid BY PROGRAM, IN A SANDBOX (cutbox-rows.mjs): the forced cells as the released guide's own fill.sh prints them over the translation 7023afea8793d962… (all of the seat's roots in one cut). By AI agents, Wed Nov 11 2026. No macro, syntax, notation, axiom, sorry.
-/
import Derived.Test.YtjeeflldbhajiaaChecked
import GoSem.Claim
import GoSem.ClaimJoined
import GoSem.ClaimMapViews
import Derived.JoinedTies
import Derived.KernelRfl
namespace Go.Proofs.Ytjeeflldbhajiaa
/- THE CELL 'sum', in the pinned program and in every row, IS THE sha256 OF THE DUMP (.gsa) THAT YtjeeflldbhajiaaProg.lean LOADS. Nothing in Lean hashes anything: it is a label: what it is worth is what the hold of that sum in a sandbox is worth. -/
noncomputable def Try.pinned : Pinned := { name := "ytjeeflldbhajiaa", sum := "7023afea8793d962162e9ca4535f3843c069baeb5a36d61e2bbe159422c46824", checked := Try.checked }
namespace Rows
def none {H : Type} : Left H := { results := [], args := [] }

/-- 'laws.FnExactSameBar': WHATEVER THE INPUT: true; the input reads as it did. -/
def fnExactSameBarSpec : ChangeSpec := { name := "fnExactSameBar", fn := fun _ => fun
  | [d1, d2] => { results := [.lit (.bool true)], args := [d1, d2] }
  | _ => none }
def fnExactSameBarRow : OpenClaim := { program := "ytjeeflldbhajiaa", sum := "7023afea8793d962162e9ca4535f3843c069baeb5a36d61e2bbe159422c46824", func := "loop.example/g01309/laws.FnExactSameBar", spec := "fnExactSameBar", inPlace := ["math.Float32bits", "math.Float64bits"], unfollowed := true, recurses := true, apart := false }
def FnExactSameBarSaid : Prop := fnExactSameBarRow.holds Try.pinned (OpenSpec.ofChange fnExactSameBarSpec)

/-- ITS FALSE NEIGHBOUR: 'it returns false'. Refute it at one input. -/
def fnExactSameBarWrong : ChangeSpec := { name := "fnExactSameBar", fn := fun _ => fun
  | [d1, d2] => { results := [.lit (.bool false)], args := [d1, d2] }
  | _ => none }
def FnExactSameBarWrongFalsely : Prop := fnExactSameBarRow.holds Try.pinned (OpenSpec.ofChange fnExactSameBarWrong)

/-- 'laws.FnExactValidBar': WHATEVER THE INPUT: true; the input reads as it did. -/
def fnExactValidBarSpec : ChangeSpec := { name := "fnExactValidBar", fn := fun _ => fun
  | [d] => { results := [.lit (.bool true)], args := [d] }
  | _ => none }
def fnExactValidBarRow : OpenClaim := { program := "ytjeeflldbhajiaa", sum := "7023afea8793d962162e9ca4535f3843c069baeb5a36d61e2bbe159422c46824", func := "loop.example/g01309/laws.FnExactValidBar", spec := "fnExactValidBar", unfollowed := true, recurses := true, apart := false }
def FnExactValidBarSaid : Prop := fnExactValidBarRow.holds Try.pinned (OpenSpec.ofChange fnExactValidBarSpec)

/-- ITS FALSE NEIGHBOUR: 'it returns false'. Refute it at one input. -/
def fnExactValidBarWrong : ChangeSpec := { name := "fnExactValidBar", fn := fun _ => fun
  | [d] => { results := [.lit (.bool false)], args := [d] }
  | _ => none }
def FnExactValidBarWrongFalsely : Prop := fnExactValidBarRow.holds Try.pinned (OpenSpec.ofChange fnExactValidBarWrong)

/-- 'laws.FnExactMostTick': WHATEVER THE INPUT: true; the input reads as it did. -/
def fnExactMostTickSpec : ChangeSpec := { name := "fnExactMostTick", fn := fun _ => fun
  | [d] => { results := [.lit (.bool true)], args := [d] }
  | _ => none }
def fnExactMostTickRow : OpenClaim := { program := "ytjeeflldbhajiaa", sum := "7023afea8793d962162e9ca4535f3843c069baeb5a36d61e2bbe159422c46824", func := "loop.example/g01309/laws.FnExactMostTick", spec := "fnExactMostTick", unfollowed := true, recurses := true, apart := false }
def FnExactMostTickSaid : Prop := fnExactMostTickRow.holds Try.pinned (OpenSpec.ofChange fnExactMostTickSpec)

/-- ITS FALSE NEIGHBOUR: 'it returns false'. Refute it at one input. -/
def fnExactMostTickWrong : ChangeSpec := { name := "fnExactMostTick", fn := fun _ => fun
  | [d] => { results := [.lit (.bool false)], args := [d] }
  | _ => none }
def FnExactMostTickWrongFalsely : Prop := fnExactMostTickRow.holds Try.pinned (OpenSpec.ofChange fnExactMostTickWrong)

/-- 'laws.FnExactHeatInBar': WHATEVER THE INPUT: true; the input reads as it did. -/
def fnExactHeatInBarSpec : ChangeSpec := { name := "fnExactHeatInBar", fn := fun _ => fun
  | [d] => { results := [.lit (.bool true)], args := [d] }
  | _ => none }
def fnExactHeatInBarRow : OpenClaim := { program := "ytjeeflldbhajiaa", sum := "7023afea8793d962162e9ca4535f3843c069baeb5a36d61e2bbe159422c46824", func := "loop.example/g01309/laws.FnExactHeatInBar", spec := "fnExactHeatInBar", unfollowed := true, recurses := true, apart := false }
def FnExactHeatInBarSaid : Prop := fnExactHeatInBarRow.holds Try.pinned (OpenSpec.ofChange fnExactHeatInBarSpec)

/-- ITS FALSE NEIGHBOUR: 'it returns false'. Refute it at one input. -/
def fnExactHeatInBarWrong : ChangeSpec := { name := "fnExactHeatInBar", fn := fun _ => fun
  | [d] => { results := [.lit (.bool false)], args := [d] }
  | _ => none }
def FnExactHeatInBarWrongFalsely : Prop := fnExactHeatInBarRow.holds Try.pinned (OpenSpec.ofChange fnExactHeatInBarWrong)

/-- 'laws.FnExactMeltedOfBar': WHATEVER THE INPUT: true; the input reads as it did. -/
def fnExactMeltedOfBarSpec : ChangeSpec := { name := "fnExactMeltedOfBar", fn := fun _ => fun
  | [d] => { results := [.lit (.bool true)], args := [d] }
  | _ => none }
def fnExactMeltedOfBarRow : OpenClaim := { program := "ytjeeflldbhajiaa", sum := "7023afea8793d962162e9ca4535f3843c069baeb5a36d61e2bbe159422c46824", func := "loop.example/g01309/laws.FnExactMeltedOfBar", spec := "fnExactMeltedOfBar", unfollowed := true, recurses := true, apart := false }
def FnExactMeltedOfBarSaid : Prop := fnExactMeltedOfBarRow.holds Try.pinned (OpenSpec.ofChange fnExactMeltedOfBarSpec)

/-- ITS FALSE NEIGHBOUR: 'it returns false'. Refute it at one input. -/
def fnExactMeltedOfBarWrong : ChangeSpec := { name := "fnExactMeltedOfBar", fn := fun _ => fun
  | [d] => { results := [.lit (.bool false)], args := [d] }
  | _ => none }
def FnExactMeltedOfBarWrongFalsely : Prop := fnExactMeltedOfBarRow.holds Try.pinned (OpenSpec.ofChange fnExactMeltedOfBarWrong)

/-- 'laws.FnExactFrontsOf': WHATEVER THE INPUT: true; the input reads as it did. -/
def fnExactFrontsOfSpec : ChangeSpec := { name := "fnExactFrontsOf", fn := fun _ => fun
  | [d] => { results := [.lit (.bool true)], args := [d] }
  | _ => none }
def fnExactFrontsOfRow : OpenClaim := { program := "ytjeeflldbhajiaa", sum := "7023afea8793d962162e9ca4535f3843c069baeb5a36d61e2bbe159422c46824", func := "loop.example/g01309/laws.FnExactFrontsOf", spec := "fnExactFrontsOf", unfollowed := true, recurses := true, apart := false }
def FnExactFrontsOfSaid : Prop := fnExactFrontsOfRow.holds Try.pinned (OpenSpec.ofChange fnExactFrontsOfSpec)

/-- ITS FALSE NEIGHBOUR: 'it returns false'. Refute it at one input. -/
def fnExactFrontsOfWrong : ChangeSpec := { name := "fnExactFrontsOf", fn := fun _ => fun
  | [d] => { results := [.lit (.bool false)], args := [d] }
  | _ => none }
def FnExactFrontsOfWrongFalsely : Prop := fnExactFrontsOfRow.holds Try.pinned (OpenSpec.ofChange fnExactFrontsOfWrong)

/-- 'laws.FnExactFlowsInBar': WHATEVER THE INPUT: true; the input reads as it did. -/
def fnExactFlowsInBarSpec : ChangeSpec := { name := "fnExactFlowsInBar", fn := fun _ => fun
  | [d] => { results := [.lit (.bool true)], args := [d] }
  | _ => none }
def fnExactFlowsInBarRow : OpenClaim := { program := "ytjeeflldbhajiaa", sum := "7023afea8793d962162e9ca4535f3843c069baeb5a36d61e2bbe159422c46824", func := "loop.example/g01309/laws.FnExactFlowsInBar", spec := "fnExactFlowsInBar", unfollowed := true, recurses := true, apart := false }
def FnExactFlowsInBarSaid : Prop := fnExactFlowsInBarRow.holds Try.pinned (OpenSpec.ofChange fnExactFlowsInBarSpec)

/-- ITS FALSE NEIGHBOUR: 'it returns false'. Refute it at one input. -/
def fnExactFlowsInBarWrong : ChangeSpec := { name := "fnExactFlowsInBar", fn := fun _ => fun
  | [d] => { results := [.lit (.bool false)], args := [d] }
  | _ => none }
def FnExactFlowsInBarWrongFalsely : Prop := fnExactFlowsInBarRow.holds Try.pinned (OpenSpec.ofChange fnExactFlowsInBarWrong)

/-- 'laws.FnExactEvenBar': WHATEVER THE INPUT: true; the input reads as it did. -/
def fnExactEvenBarSpec : ChangeSpec := { name := "fnExactEvenBar", fn := fun _ => fun
  | [d1, d2, d3, d4, d5] => { results := [.lit (.bool true)], args := [d1, d2, d3, d4, d5] }
  | _ => none }
def fnExactEvenBarRow : OpenClaim := { program := "ytjeeflldbhajiaa", sum := "7023afea8793d962162e9ca4535f3843c069baeb5a36d61e2bbe159422c46824", func := "loop.example/g01309/laws.FnExactEvenBar", spec := "fnExactEvenBar", unfollowed := true, recurses := true, apart := false }
def FnExactEvenBarSaid : Prop := fnExactEvenBarRow.holds Try.pinned (OpenSpec.ofChange fnExactEvenBarSpec)

/-- ITS FALSE NEIGHBOUR: 'it returns false'. Refute it at one input. -/
def fnExactEvenBarWrong : ChangeSpec := { name := "fnExactEvenBar", fn := fun _ => fun
  | [d1, d2, d3, d4, d5] => { results := [.lit (.bool false)], args := [d1, d2, d3, d4, d5] }
  | _ => none }
def FnExactEvenBarWrongFalsely : Prop := fnExactEvenBarRow.holds Try.pinned (OpenSpec.ofChange fnExactEvenBarWrong)

/-- 'laws.FnExactStepBar': WHATEVER THE INPUT: true; the input reads as it did. -/
def fnExactStepBarSpec : ChangeSpec := { name := "fnExactStepBar", fn := fun _ => fun
  | [d1, d2, d3, d4, d5, d6] => { results := [.lit (.bool true)], args := [d1, d2, d3, d4, d5, d6] }
  | _ => none }
def fnExactStepBarRow : OpenClaim := { program := "ytjeeflldbhajiaa", sum := "7023afea8793d962162e9ca4535f3843c069baeb5a36d61e2bbe159422c46824", func := "loop.example/g01309/laws.FnExactStepBar", spec := "fnExactStepBar", unfollowed := true, recurses := true, apart := false }
def FnExactStepBarSaid : Prop := fnExactStepBarRow.holds Try.pinned (OpenSpec.ofChange fnExactStepBarSpec)

/-- ITS FALSE NEIGHBOUR: 'it returns false'. Refute it at one input. -/
def fnExactStepBarWrong : ChangeSpec := { name := "fnExactStepBar", fn := fun _ => fun
  | [d1, d2, d3, d4, d5, d6] => { results := [.lit (.bool false)], args := [d1, d2, d3, d4, d5, d6] }
  | _ => none }
def FnExactStepBarWrongFalsely : Prop := fnExactStepBarRow.holds Try.pinned (OpenSpec.ofChange fnExactStepBarWrong)

/-- 'laws.FnExactRunBar': WHATEVER THE INPUT: true; the input reads as it did. -/
def fnExactRunBarSpec : ChangeSpec := { name := "fnExactRunBar", fn := fun _ => fun
  | [d1, d2, d3, d4, d5, d6, d7] => { results := [.lit (.bool true)], args := [d1, d2, d3, d4, d5, d6, d7] }
  | _ => none }
def fnExactRunBarRow : OpenClaim := { program := "ytjeeflldbhajiaa", sum := "7023afea8793d962162e9ca4535f3843c069baeb5a36d61e2bbe159422c46824", func := "loop.example/g01309/laws.FnExactRunBar", spec := "fnExactRunBar", unfollowed := true, recurses := true, apart := false }
def FnExactRunBarSaid : Prop := fnExactRunBarRow.holds Try.pinned (OpenSpec.ofChange fnExactRunBarSpec)

/-- ITS FALSE NEIGHBOUR: 'it returns false'. Refute it at one input. -/
def fnExactRunBarWrong : ChangeSpec := { name := "fnExactRunBar", fn := fun _ => fun
  | [d1, d2, d3, d4, d5, d6, d7] => { results := [.lit (.bool false)], args := [d1, d2, d3, d4, d5, d6, d7] }
  | _ => none }
def FnExactRunBarWrongFalsely : Prop := fnExactRunBarRow.holds Try.pinned (OpenSpec.ofChange fnExactRunBarWrong)

/-- 'laws.FnBars': WHATEVER THE INPUT: true; the input reads as it did. -/
def fnBarsSpec : ChangeSpec := { name := "fnBars", fn := fun _ => fun
  | [d1, d2] => { results := [.lit (.bool true)], args := [d1, d2] }
  | _ => none }
def fnBarsRow : OpenClaim := { program := "ytjeeflldbhajiaa", sum := "7023afea8793d962162e9ca4535f3843c069baeb5a36d61e2bbe159422c46824", func := "loop.example/g01309/laws.FnBars", spec := "fnBars", inPlace := ["math.Float32bits", "math.Float64bits"], unfollowed := true, recurses := true, apart := false }
def FnBarsSaid : Prop := fnBarsRow.holds Try.pinned (OpenSpec.ofChange fnBarsSpec)

/-- ITS FALSE NEIGHBOUR: 'it returns false'. Refute it at one input. -/
def fnBarsWrong : ChangeSpec := { name := "fnBars", fn := fun _ => fun
  | [d1, d2] => { results := [.lit (.bool false)], args := [d1, d2] }
  | _ => none }
def FnBarsWrongFalsely : Prop := fnBarsRow.holds Try.pinned (OpenSpec.ofChange fnBarsWrong)

/-- 'laws.FnFronts': WHATEVER THE INPUT: true; the input reads as it did. -/
def fnFrontsSpec : ChangeSpec := { name := "fnFronts", fn := fun _ => fun
  | [d1, d2] => { results := [.lit (.bool true)], args := [d1, d2] }
  | _ => none }
def fnFrontsRow : OpenClaim := { program := "ytjeeflldbhajiaa", sum := "7023afea8793d962162e9ca4535f3843c069baeb5a36d61e2bbe159422c46824", func := "loop.example/g01309/laws.FnFronts", spec := "fnFronts", inPlace := ["math.Float64frombits", "math.sqrt"], unfollowed := true, recurses := true, apart := false }
def FnFrontsSaid : Prop := fnFrontsRow.holds Try.pinned (OpenSpec.ofChange fnFrontsSpec)

/-- ITS FALSE NEIGHBOUR: 'it returns false'. Refute it at one input. -/
def fnFrontsWrong : ChangeSpec := { name := "fnFronts", fn := fun _ => fun
  | [d1, d2] => { results := [.lit (.bool false)], args := [d1, d2] }
  | _ => none }
def FnFrontsWrongFalsely : Prop := fnFrontsRow.holds Try.pinned (OpenSpec.ofChange fnFrontsWrong)

/- THE SECOND FORM. 'bulk': how many values and letters a reading holds, each counted each time it is reached (what is shared counts as often as it is met; a slice's spare places count too). A statement '..UptoSaid' is the law's where the arguments, and the package variables that the reading takes, are together of bulk at most 1048576: NARROWER than '..Said'. Prove '..Said' where nothing that the law and all that it calls make is longer than what came in: it says more and counts as full. Else prove '..UptoSaid'. A law counts once. -/
mutual
def uptoBulk {H : Type} : DataW H → Nat
  | .lit (.string bytes) => bytes.length + 1
  | .lit _ => 1
  | .nil => 1
  | .ptr d => uptoBulk d + 1
  | .slice elems spare => uptoBulkAll elems + uptoBulkAll spare + 1
  | .agg parts => uptoBulkAll parts + 1
  | .iface _ d => uptoBulk d + 1
  | .map entries => uptoBulkEntries entries + 1
  | .held _ => 1
def uptoBulkAll {H : Type} : List (DataW H) → Nat
  | [] => 0
  | d :: r => uptoBulk d + uptoBulkAll r
def uptoBulkEntries {H : Type} : List (Lit × DataW H) → Nat
  | [] => 0
  | x :: r => uptoBulkEntry x + uptoBulkEntries r
def uptoBulkEntry {H : Type} : Lit × DataW H → Nat
  | (.string bytes, d) => bytes.length + uptoBulk d + 1
  | (_, d) => uptoBulk d + 1
 end
def uptoSmall : (H : Type) → List (DataW H) → Bool := fun _ ds => decide (uptoBulkAll ds ≤ 1048576)
def OpenSpec.upto (s : _root_.Go.ChangeSpec) : _root_.Go.OpenSpec := { _root_.Go.OpenSpec.ofChange s with cond := some uptoSmall }

/-- 'laws.FnExactSameBar', WHERE WHAT IT READS IS OF BULK AT MOST 1048576: true; the input reads as it did. -/
def fnExactSameBarUptoRow : OpenClaim := { program := "ytjeeflldbhajiaa", sum := "7023afea8793d962162e9ca4535f3843c069baeb5a36d61e2bbe159422c46824", func := "loop.example/g01309/laws.FnExactSameBar", spec := "fnExactSameBar", inPlace := ["math.Float32bits", "math.Float64bits"], unfollowed := true, recurses := true, apart := false, narrowed := true }
def FnExactSameBarUptoSaid : Prop := fnExactSameBarUptoRow.holds Try.pinned (OpenSpec.upto fnExactSameBarSpec)

/-- 'laws.FnExactValidBar', WHERE WHAT IT READS IS OF BULK AT MOST 1048576: true; the input reads as it did. -/
def fnExactValidBarUptoRow : OpenClaim := { program := "ytjeeflldbhajiaa", sum := "7023afea8793d962162e9ca4535f3843c069baeb5a36d61e2bbe159422c46824", func := "loop.example/g01309/laws.FnExactValidBar", spec := "fnExactValidBar", unfollowed := true, recurses := true, apart := false, narrowed := true }
def FnExactValidBarUptoSaid : Prop := fnExactValidBarUptoRow.holds Try.pinned (OpenSpec.upto fnExactValidBarSpec)

/-- 'laws.FnExactMostTick', WHERE WHAT IT READS IS OF BULK AT MOST 1048576: true; the input reads as it did. -/
def fnExactMostTickUptoRow : OpenClaim := { program := "ytjeeflldbhajiaa", sum := "7023afea8793d962162e9ca4535f3843c069baeb5a36d61e2bbe159422c46824", func := "loop.example/g01309/laws.FnExactMostTick", spec := "fnExactMostTick", unfollowed := true, recurses := true, apart := false, narrowed := true }
def FnExactMostTickUptoSaid : Prop := fnExactMostTickUptoRow.holds Try.pinned (OpenSpec.upto fnExactMostTickSpec)

/-- 'laws.FnExactHeatInBar', WHERE WHAT IT READS IS OF BULK AT MOST 1048576: true; the input reads as it did. -/
def fnExactHeatInBarUptoRow : OpenClaim := { program := "ytjeeflldbhajiaa", sum := "7023afea8793d962162e9ca4535f3843c069baeb5a36d61e2bbe159422c46824", func := "loop.example/g01309/laws.FnExactHeatInBar", spec := "fnExactHeatInBar", unfollowed := true, recurses := true, apart := false, narrowed := true }
def FnExactHeatInBarUptoSaid : Prop := fnExactHeatInBarUptoRow.holds Try.pinned (OpenSpec.upto fnExactHeatInBarSpec)

/-- 'laws.FnExactMeltedOfBar', WHERE WHAT IT READS IS OF BULK AT MOST 1048576: true; the input reads as it did. -/
def fnExactMeltedOfBarUptoRow : OpenClaim := { program := "ytjeeflldbhajiaa", sum := "7023afea8793d962162e9ca4535f3843c069baeb5a36d61e2bbe159422c46824", func := "loop.example/g01309/laws.FnExactMeltedOfBar", spec := "fnExactMeltedOfBar", unfollowed := true, recurses := true, apart := false, narrowed := true }
def FnExactMeltedOfBarUptoSaid : Prop := fnExactMeltedOfBarUptoRow.holds Try.pinned (OpenSpec.upto fnExactMeltedOfBarSpec)

/-- 'laws.FnExactFrontsOf', WHERE WHAT IT READS IS OF BULK AT MOST 1048576: true; the input reads as it did. -/
def fnExactFrontsOfUptoRow : OpenClaim := { program := "ytjeeflldbhajiaa", sum := "7023afea8793d962162e9ca4535f3843c069baeb5a36d61e2bbe159422c46824", func := "loop.example/g01309/laws.FnExactFrontsOf", spec := "fnExactFrontsOf", unfollowed := true, recurses := true, apart := false, narrowed := true }
def FnExactFrontsOfUptoSaid : Prop := fnExactFrontsOfUptoRow.holds Try.pinned (OpenSpec.upto fnExactFrontsOfSpec)

/-- 'laws.FnExactFlowsInBar', WHERE WHAT IT READS IS OF BULK AT MOST 1048576: true; the input reads as it did. -/
def fnExactFlowsInBarUptoRow : OpenClaim := { program := "ytjeeflldbhajiaa", sum := "7023afea8793d962162e9ca4535f3843c069baeb5a36d61e2bbe159422c46824", func := "loop.example/g01309/laws.FnExactFlowsInBar", spec := "fnExactFlowsInBar", unfollowed := true, recurses := true, apart := false, narrowed := true }
def FnExactFlowsInBarUptoSaid : Prop := fnExactFlowsInBarUptoRow.holds Try.pinned (OpenSpec.upto fnExactFlowsInBarSpec)

/-- 'laws.FnExactEvenBar', WHERE WHAT IT READS IS OF BULK AT MOST 1048576: true; the input reads as it did. -/
def fnExactEvenBarUptoRow : OpenClaim := { program := "ytjeeflldbhajiaa", sum := "7023afea8793d962162e9ca4535f3843c069baeb5a36d61e2bbe159422c46824", func := "loop.example/g01309/laws.FnExactEvenBar", spec := "fnExactEvenBar", unfollowed := true, recurses := true, apart := false, narrowed := true }
def FnExactEvenBarUptoSaid : Prop := fnExactEvenBarUptoRow.holds Try.pinned (OpenSpec.upto fnExactEvenBarSpec)

/-- 'laws.FnExactStepBar', WHERE WHAT IT READS IS OF BULK AT MOST 1048576: true; the input reads as it did. -/
def fnExactStepBarUptoRow : OpenClaim := { program := "ytjeeflldbhajiaa", sum := "7023afea8793d962162e9ca4535f3843c069baeb5a36d61e2bbe159422c46824", func := "loop.example/g01309/laws.FnExactStepBar", spec := "fnExactStepBar", unfollowed := true, recurses := true, apart := false, narrowed := true }
def FnExactStepBarUptoSaid : Prop := fnExactStepBarUptoRow.holds Try.pinned (OpenSpec.upto fnExactStepBarSpec)

/-- 'laws.FnExactRunBar', WHERE WHAT IT READS IS OF BULK AT MOST 1048576: true; the input reads as it did. -/
def fnExactRunBarUptoRow : OpenClaim := { program := "ytjeeflldbhajiaa", sum := "7023afea8793d962162e9ca4535f3843c069baeb5a36d61e2bbe159422c46824", func := "loop.example/g01309/laws.FnExactRunBar", spec := "fnExactRunBar", unfollowed := true, recurses := true, apart := false, narrowed := true }
def FnExactRunBarUptoSaid : Prop := fnExactRunBarUptoRow.holds Try.pinned (OpenSpec.upto fnExactRunBarSpec)

/-- 'laws.FnBars', WHERE WHAT IT READS IS OF BULK AT MOST 1048576: true; the input reads as it did. -/
def fnBarsUptoRow : OpenClaim := { program := "ytjeeflldbhajiaa", sum := "7023afea8793d962162e9ca4535f3843c069baeb5a36d61e2bbe159422c46824", func := "loop.example/g01309/laws.FnBars", spec := "fnBars", inPlace := ["math.Float32bits", "math.Float64bits"], unfollowed := true, recurses := true, apart := false, narrowed := true }
def FnBarsUptoSaid : Prop := fnBarsUptoRow.holds Try.pinned (OpenSpec.upto fnBarsSpec)

/-- 'laws.FnFronts', WHERE WHAT IT READS IS OF BULK AT MOST 1048576: true; the input reads as it did. -/
def fnFrontsUptoRow : OpenClaim := { program := "ytjeeflldbhajiaa", sum := "7023afea8793d962162e9ca4535f3843c069baeb5a36d61e2bbe159422c46824", func := "loop.example/g01309/laws.FnFronts", spec := "fnFronts", inPlace := ["math.Float64frombits", "math.sqrt"], unfollowed := true, recurses := true, apart := false, narrowed := true }
def FnFrontsUptoSaid : Prop := fnFrontsUptoRow.holds Try.pinned (OpenSpec.upto fnFrontsSpec)

end Rows
end Go.Proofs.Ytjeeflldbhajiaa

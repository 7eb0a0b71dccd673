/-
  No cell of these rows narrows 'for every input' (looked for: loops, veiled, ifaces, maps, wideKeys, modest, calm, conditions, laid).
  DERIVED. THE GIVEN ROWS OF THIS SEAT. 12 by the template 'for every input the law returns true; each argument reads behind the call as it read before'; 0 by the template 'total and deterministic' (their statements: YthdmamcbceblpaaTotals.lean).
  GIVEN WITH THE SEED: the statements are not yours to turn. If you find one false, say at which input.
  Laid BY PROGRAM, IN A SANDBOX (cutbox-rows.mjs): the forced cells as the released guide's own fill.sh prints them over the translation 12c93a023002cf35… (all of the seat's roots in one cut). By AI agents, Wed Nov 11 2026. No macro, syntax, notation, axiom, sorry.
-/
import Derived.Test.YthdmamcbceblpaaChecked
import GoSem.Claim
import GoSem.ClaimJoined
import GoSem.ClaimMapViews
import Derived.JoinedTies
import Derived.KernelRfl
namespace Go.Proofs.Ythdmamcbceblpaa
/- THE CELL 'sum', in the pinned program and in every row, IS THE sha256 OF THE DUMP (.gsa) THAT YthdmamcbceblpaaProg.lean LOADS. Nothing in Lean hashes anything: it is a label: what it is worth is what the hold of that sum in a sandbox is worth. -/
noncomputable def Try.pinned : Pinned := { name := "ythdmamcbceblpaa", sum := "12c93a023002cf3543c886208a1782c8485efdf5c0c9b9ae32defcd0227df895", checked := Try.checked }
namespace Rows
def none {H : Type} : Left H := { results := [], args := [] }

/-- 'laws.FnExactValidPlate': WHATEVER THE INPUT: true; the input reads as it did. -/
def fnExactValidPlateSpec : ChangeSpec := { name := "fnExactValidPlate", fn := fun _ => fun
  | [d] => { results := [.lit (.bool true)], args := [d] }
  | _ => none }
def fnExactValidPlateRow : OpenClaim := { program := "ythdmamcbceblpaa", sum := "12c93a023002cf3543c886208a1782c8485efdf5c0c9b9ae32defcd0227df895", func := "loop.example/g01309/laws.FnExactValidPlate", spec := "fnExactValidPlate", unfollowed := true, recurses := true, apart := false }
def FnExactValidPlateSaid : Prop := fnExactValidPlateRow.holds Try.pinned (OpenSpec.ofChange fnExactValidPlateSpec)

/-- ITS FALSE NEIGHBOUR: 'it returns false'. Refute it at one input. -/
def fnExactValidPlateWrong : ChangeSpec := { name := "fnExactValidPlate", fn := fun _ => fun
  | [d] => { results := [.lit (.bool false)], args := [d] }
  | _ => none }
def FnExactValidPlateWrongFalsely : Prop := fnExactValidPlateRow.holds Try.pinned (OpenSpec.ofChange fnExactValidPlateWrong)

/-- 'laws.FnExactSamePlate': WHATEVER THE INPUT: true; the input reads as it did. -/
def fnExactSamePlateSpec : ChangeSpec := { name := "fnExactSamePlate", fn := fun _ => fun
  | [d1, d2] => { results := [.lit (.bool true)], args := [d1, d2] }
  | _ => none }
def fnExactSamePlateRow : OpenClaim := { program := "ythdmamcbceblpaa", sum := "12c93a023002cf3543c886208a1782c8485efdf5c0c9b9ae32defcd0227df895", func := "loop.example/g01309/laws.FnExactSamePlate", spec := "fnExactSamePlate", inPlace := ["math.Float32bits", "math.Float64bits"], unfollowed := true, recurses := true, apart := false }
def FnExactSamePlateSaid : Prop := fnExactSamePlateRow.holds Try.pinned (OpenSpec.ofChange fnExactSamePlateSpec)

/-- ITS FALSE NEIGHBOUR: 'it returns false'. Refute it at one input. -/
def fnExactSamePlateWrong : ChangeSpec := { name := "fnExactSamePlate", fn := fun _ => fun
  | [d1, d2] => { results := [.lit (.bool false)], args := [d1, d2] }
  | _ => none }
def FnExactSamePlateWrongFalsely : Prop := fnExactSamePlateRow.holds Try.pinned (OpenSpec.ofChange fnExactSamePlateWrong)

/-- 'laws.FnExactRangeOfPlate': WHATEVER THE INPUT: true; the input reads as it did. -/
def fnExactRangeOfPlateSpec : ChangeSpec := { name := "fnExactRangeOfPlate", fn := fun _ => fun
  | [d] => { results := [.lit (.bool true)], args := [d] }
  | _ => none }
def fnExactRangeOfPlateRow : OpenClaim := { program := "ythdmamcbceblpaa", sum := "12c93a023002cf3543c886208a1782c8485efdf5c0c9b9ae32defcd0227df895", func := "loop.example/g01309/laws.FnExactRangeOfPlate", spec := "fnExactRangeOfPlate", unfollowed := true, recurses := true, apart := false }
def FnExactRangeOfPlateSaid : Prop := fnExactRangeOfPlateRow.holds Try.pinned (OpenSpec.ofChange fnExactRangeOfPlateSpec)

/-- ITS FALSE NEIGHBOUR: 'it returns false'. Refute it at one input. -/
def fnExactRangeOfPlateWrong : ChangeSpec := { name := "fnExactRangeOfPlate", fn := fun _ => fun
  | [d] => { results := [.lit (.bool false)], args := [d] }
  | _ => none }
def FnExactRangeOfPlateWrongFalsely : Prop := fnExactRangeOfPlateRow.holds Try.pinned (OpenSpec.ofChange fnExactRangeOfPlateWrong)

/-- 'laws.FnExactGainOfPlate': WHATEVER THE INPUT: true; the input reads as it did. -/
def fnExactGainOfPlateSpec : ChangeSpec := { name := "fnExactGainOfPlate", fn := fun _ => fun
  | [d] => { results := [.lit (.bool true)], args := [d] }
  | _ => none }
def fnExactGainOfPlateRow : OpenClaim := { program := "ythdmamcbceblpaa", sum := "12c93a023002cf3543c886208a1782c8485efdf5c0c9b9ae32defcd0227df895", func := "loop.example/g01309/laws.FnExactGainOfPlate", spec := "fnExactGainOfPlate", unfollowed := true, recurses := true, apart := false }
def FnExactGainOfPlateSaid : Prop := fnExactGainOfPlateRow.holds Try.pinned (OpenSpec.ofChange fnExactGainOfPlateSpec)

/-- ITS FALSE NEIGHBOUR: 'it returns false'. Refute it at one input. -/
def fnExactGainOfPlateWrong : ChangeSpec := { name := "fnExactGainOfPlate", fn := fun _ => fun
  | [d] => { results := [.lit (.bool false)], args := [d] }
  | _ => none }
def FnExactGainOfPlateWrongFalsely : Prop := fnExactGainOfPlateRow.holds Try.pinned (OpenSpec.ofChange fnExactGainOfPlateWrong)

/-- 'laws.FnExactMeanOfPlate': WHATEVER THE INPUT: true; the input reads as it did. -/
def fnExactMeanOfPlateSpec : ChangeSpec := { name := "fnExactMeanOfPlate", fn := fun _ => fun
  | [d] => { results := [.lit (.bool true)], args := [d] }
  | _ => none }
def fnExactMeanOfPlateRow : OpenClaim := { program := "ythdmamcbceblpaa", sum := "12c93a023002cf3543c886208a1782c8485efdf5c0c9b9ae32defcd0227df895", func := "loop.example/g01309/laws.FnExactMeanOfPlate", spec := "fnExactMeanOfPlate", unfollowed := true, recurses := true, apart := false }
def FnExactMeanOfPlateSaid : Prop := fnExactMeanOfPlateRow.holds Try.pinned (OpenSpec.ofChange fnExactMeanOfPlateSpec)

/-- ITS FALSE NEIGHBOUR: 'it returns false'. Refute it at one input. -/
def fnExactMeanOfPlateWrong : ChangeSpec := { name := "fnExactMeanOfPlate", fn := fun _ => fun
  | [d] => { results := [.lit (.bool false)], args := [d] }
  | _ => none }
def FnExactMeanOfPlateWrongFalsely : Prop := fnExactMeanOfPlateRow.holds Try.pinned (OpenSpec.ofChange fnExactMeanOfPlateWrong)

/-- 'laws.FnExactPlainPlate': WHATEVER THE INPUT: true; the input reads as it did. -/
def fnExactPlainPlateSpec : ChangeSpec := { name := "fnExactPlainPlate", fn := fun _ => fun
  | [d1, d2, d3, d4] => { results := [.lit (.bool true)], args := [d1, d2, d3, d4] }
  | _ => none }
def fnExactPlainPlateRow : OpenClaim := { program := "ythdmamcbceblpaa", sum := "12c93a023002cf3543c886208a1782c8485efdf5c0c9b9ae32defcd0227df895", func := "loop.example/g01309/laws.FnExactPlainPlate", spec := "fnExactPlainPlate", unfollowed := true, recurses := true, apart := false }
def FnExactPlainPlateSaid : Prop := fnExactPlainPlateRow.holds Try.pinned (OpenSpec.ofChange fnExactPlainPlateSpec)

/-- ITS FALSE NEIGHBOUR: 'it returns false'. Refute it at one input. -/
def fnExactPlainPlateWrong : ChangeSpec := { name := "fnExactPlainPlate", fn := fun _ => fun
  | [d1, d2, d3, d4] => { results := [.lit (.bool false)], args := [d1, d2, d3, d4] }
  | _ => none }
def FnExactPlainPlateWrongFalsely : Prop := fnExactPlainPlateRow.holds Try.pinned (OpenSpec.ofChange fnExactPlainPlateWrong)

/-- 'laws.FnExactFluxAt': WHATEVER THE INPUT: true; the input reads as it did. -/
def fnExactFluxAtSpec : ChangeSpec := { name := "fnExactFluxAt", fn := fun _ => fun
  | [d1, d2] => { results := [.lit (.bool true)], args := [d1, d2] }
  | _ => none }
def fnExactFluxAtRow : OpenClaim := { program := "ythdmamcbceblpaa", sum := "12c93a023002cf3543c886208a1782c8485efdf5c0c9b9ae32defcd0227df895", func := "loop.example/g01309/laws.FnExactFluxAt", spec := "fnExactFluxAt", unfollowed := true, recurses := true, apart := false }
def FnExactFluxAtSaid : Prop := fnExactFluxAtRow.holds Try.pinned (OpenSpec.ofChange fnExactFluxAtSpec)

/-- ITS FALSE NEIGHBOUR: 'it returns false'. Refute it at one input. -/
def fnExactFluxAtWrong : ChangeSpec := { name := "fnExactFluxAt", fn := fun _ => fun
  | [d1, d2] => { results := [.lit (.bool false)], args := [d1, d2] }
  | _ => none }
def FnExactFluxAtWrongFalsely : Prop := fnExactFluxAtRow.holds Try.pinned (OpenSpec.ofChange fnExactFluxAtWrong)

/-- 'laws.FnExactTurnPlate': WHATEVER THE INPUT: true; the input reads as it did. -/
def fnExactTurnPlateSpec : ChangeSpec := { name := "fnExactTurnPlate", fn := fun _ => fun
  | [d] => { results := [.lit (.bool true)], args := [d] }
  | _ => none }
def fnExactTurnPlateRow : OpenClaim := { program := "ythdmamcbceblpaa", sum := "12c93a023002cf3543c886208a1782c8485efdf5c0c9b9ae32defcd0227df895", func := "loop.example/g01309/laws.FnExactTurnPlate", spec := "fnExactTurnPlate", unfollowed := true, recurses := true, apart := false }
def FnExactTurnPlateSaid : Prop := fnExactTurnPlateRow.holds Try.pinned (OpenSpec.ofChange fnExactTurnPlateSpec)

/-- ITS FALSE NEIGHBOUR: 'it returns false'. Refute it at one input. -/
def fnExactTurnPlateWrong : ChangeSpec := { name := "fnExactTurnPlate", fn := fun _ => fun
  | [d] => { results := [.lit (.bool false)], args := [d] }
  | _ => none }
def FnExactTurnPlateWrongFalsely : Prop := fnExactTurnPlateRow.holds Try.pinned (OpenSpec.ofChange fnExactTurnPlateWrong)

/-- 'laws.FnExactPassOfCells': WHATEVER THE INPUT: true; the input reads as it did. -/
def fnExactPassOfCellsSpec : ChangeSpec := { name := "fnExactPassOfCells", fn := fun _ => fun
  | [d1, d2, d3] => { results := [.lit (.bool true)], args := [d1, d2, d3] }
  | _ => none }
def fnExactPassOfCellsRow : OpenClaim := { program := "ythdmamcbceblpaa", sum := "12c93a023002cf3543c886208a1782c8485efdf5c0c9b9ae32defcd0227df895", func := "loop.example/g01309/laws.FnExactPassOfCells", spec := "fnExactPassOfCells", unfollowed := true, recurses := true, apart := false }
def FnExactPassOfCellsSaid : Prop := fnExactPassOfCellsRow.holds Try.pinned (OpenSpec.ofChange fnExactPassOfCellsSpec)

/-- ITS FALSE NEIGHBOUR: 'it returns false'. Refute it at one input. -/
def fnExactPassOfCellsWrong : ChangeSpec := { name := "fnExactPassOfCells", fn := fun _ => fun
  | [d1, d2, d3] => { results := [.lit (.bool false)], args := [d1, d2, d3] }
  | _ => none }
def FnExactPassOfCellsWrongFalsely : Prop := fnExactPassOfCellsRow.holds Try.pinned (OpenSpec.ofChange fnExactPassOfCellsWrong)

/-- 'laws.FnExactFlowInto': WHATEVER THE INPUT: true; the input reads as it did. -/
def fnExactFlowIntoSpec : ChangeSpec := { name := "fnExactFlowInto", fn := fun _ => fun
  | [d1, d2] => { results := [.lit (.bool true)], args := [d1, d2] }
  | _ => none }
def fnExactFlowIntoRow : OpenClaim := { program := "ythdmamcbceblpaa", sum := "12c93a023002cf3543c886208a1782c8485efdf5c0c9b9ae32defcd0227df895", func := "loop.example/g01309/laws.FnExactFlowInto", spec := "fnExactFlowInto", unfollowed := true, recurses := true, apart := false }
def FnExactFlowIntoSaid : Prop := fnExactFlowIntoRow.holds Try.pinned (OpenSpec.ofChange fnExactFlowIntoSpec)

/-- ITS FALSE NEIGHBOUR: 'it returns false'. Refute it at one input. -/
def fnExactFlowIntoWrong : ChangeSpec := { name := "fnExactFlowInto", fn := fun _ => fun
  | [d1, d2] => { results := [.lit (.bool false)], args := [d1, d2] }
  | _ => none }
def FnExactFlowIntoWrongFalsely : Prop := fnExactFlowIntoRow.holds Try.pinned (OpenSpec.ofChange fnExactFlowIntoWrong)

/-- 'laws.FnExactEdgeCells': WHATEVER THE INPUT: true; the input reads as it did. -/
def fnExactEdgeCellsSpec : ChangeSpec := { name := "fnExactEdgeCells", fn := fun _ => fun
  | [d] => { results := [.lit (.bool true)], args := [d] }
  | _ => none }
def fnExactEdgeCellsRow : OpenClaim := { program := "ythdmamcbceblpaa", sum := "12c93a023002cf3543c886208a1782c8485efdf5c0c9b9ae32defcd0227df895", func := "loop.example/g01309/laws.FnExactEdgeCells", spec := "fnExactEdgeCells", unfollowed := true, recurses := true, apart := false }
def FnExactEdgeCellsSaid : Prop := fnExactEdgeCellsRow.holds Try.pinned (OpenSpec.ofChange fnExactEdgeCellsSpec)

/-- ITS FALSE NEIGHBOUR: 'it returns false'. Refute it at one input. -/
def fnExactEdgeCellsWrong : ChangeSpec := { name := "fnExactEdgeCells", fn := fun _ => fun
  | [d] => { results := [.lit (.bool false)], args := [d] }
  | _ => none }
def FnExactEdgeCellsWrongFalsely : Prop := fnExactEdgeCellsRow.holds Try.pinned (OpenSpec.ofChange fnExactEdgeCellsWrong)

/-- 'laws.FnExactHeldFlow': WHATEVER THE INPUT: true; the input reads as it did. -/
def fnExactHeldFlowSpec : ChangeSpec := { name := "fnExactHeldFlow", fn := fun _ => fun
  | [d] => { results := [.lit (.bool true)], args := [d] }
  | _ => none }
def fnExactHeldFlowRow : OpenClaim := { program := "ythdmamcbceblpaa", sum := "12c93a023002cf3543c886208a1782c8485efdf5c0c9b9ae32defcd0227df895", func := "loop.example/g01309/laws.FnExactHeldFlow", spec := "fnExactHeldFlow", unfollowed := true, recurses := true, apart := false }
def FnExactHeldFlowSaid : Prop := fnExactHeldFlowRow.holds Try.pinned (OpenSpec.ofChange fnExactHeldFlowSpec)

/-- ITS FALSE NEIGHBOUR: 'it returns false'. Refute it at one input. -/
def fnExactHeldFlowWrong : ChangeSpec := { name := "fnExactHeldFlow", fn := fun _ => fun
  | [d] => { results := [.lit (.bool false)], args := [d] }
  | _ => none }
def FnExactHeldFlowWrongFalsely : Prop := fnExactHeldFlowRow.holds Try.pinned (OpenSpec.ofChange fnExactHeldFlowWrong)

/- THE SECOND FORM. 'bulk': how many values and letters a reading holds, each counted each time it is reached (what is shared counts as often as it is met; a slice's spare places count too). A statement '..UptoSaid' is the law's where the arguments, and the package variables that the reading takes, are together of bulk at most 1048576: NARROWER than '..Said'. Prove '..Said' where nothing that the law and all that it calls make is longer than what came in: it says more and counts as full. Else prove '..UptoSaid'. A law counts once. -/
mutual
def uptoBulk {H : Type} : DataW H → Nat
  | .lit (.string bytes) => bytes.length + 1
  | .lit _ => 1
  | .nil => 1
  | .ptr d => uptoBulk d + 1
  | .slice elems spare => uptoBulkAll elems + uptoBulkAll spare + 1
  | .agg parts => uptoBulkAll parts + 1
  | .iface _ d => uptoBulk d + 1
  | .map entries => uptoBulkEntries entries + 1
  | .held _ => 1
def uptoBulkAll {H : Type} : List (DataW H) → Nat
  | [] => 0
  | d :: r => uptoBulk d + uptoBulkAll r
def uptoBulkEntries {H : Type} : List (Lit × DataW H) → Nat
  | [] => 0
  | x :: r => uptoBulkEntry x + uptoBulkEntries r
def uptoBulkEntry {H : Type} : Lit × DataW H → Nat
  | (.string bytes, d) => bytes.length + uptoBulk d + 1
  | (_, d) => uptoBulk d + 1
 end
def uptoSmall : (H : Type) → List (DataW H) → Bool := fun _ ds => decide (uptoBulkAll ds ≤ 1048576)
def OpenSpec.upto (s : _root_.Go.ChangeSpec) : _root_.Go.OpenSpec := { _root_.Go.OpenSpec.ofChange s with cond := some uptoSmall }

/-- 'laws.FnExactValidPlate', WHERE WHAT IT READS IS OF BULK AT MOST 1048576: true; the input reads as it did. -/
def fnExactValidPlateUptoRow : OpenClaim := { program := "ythdmamcbceblpaa", sum := "12c93a023002cf3543c886208a1782c8485efdf5c0c9b9ae32defcd0227df895", func := "loop.example/g01309/laws.FnExactValidPlate", spec := "fnExactValidPlate", unfollowed := true, recurses := true, apart := false, narrowed := true }
def FnExactValidPlateUptoSaid : Prop := fnExactValidPlateUptoRow.holds Try.pinned (OpenSpec.upto fnExactValidPlateSpec)

/-- 'laws.FnExactSamePlate', WHERE WHAT IT READS IS OF BULK AT MOST 1048576: true; the input reads as it did. -/
def fnExactSamePlateUptoRow : OpenClaim := { program := "ythdmamcbceblpaa", sum := "12c93a023002cf3543c886208a1782c8485efdf5c0c9b9ae32defcd0227df895", func := "loop.example/g01309/laws.FnExactSamePlate", spec := "fnExactSamePlate", inPlace := ["math.Float32bits", "math.Float64bits"], unfollowed := true, recurses := true, apart := false, narrowed := true }
def FnExactSamePlateUptoSaid : Prop := fnExactSamePlateUptoRow.holds Try.pinned (OpenSpec.upto fnExactSamePlateSpec)

/-- 'laws.FnExactRangeOfPlate', WHERE WHAT IT READS IS OF BULK AT MOST 1048576: true; the input reads as it did. -/
def fnExactRangeOfPlateUptoRow : OpenClaim := { program := "ythdmamcbceblpaa", sum := "12c93a023002cf3543c886208a1782c8485efdf5c0c9b9ae32defcd0227df895", func := "loop.example/g01309/laws.FnExactRangeOfPlate", spec := "fnExactRangeOfPlate", unfollowed := true, recurses := true, apart := false, narrowed := true }
def FnExactRangeOfPlateUptoSaid : Prop := fnExactRangeOfPlateUptoRow.holds Try.pinned (OpenSpec.upto fnExactRangeOfPlateSpec)

/-- 'laws.FnExactGainOfPlate', WHERE WHAT IT READS IS OF BULK AT MOST 1048576: true; the input reads as it did. -/
def fnExactGainOfPlateUptoRow : OpenClaim := { program := "ythdmamcbceblpaa", sum := "12c93a023002cf3543c886208a1782c8485efdf5c0c9b9ae32defcd0227df895", func := "loop.example/g01309/laws.FnExactGainOfPlate", spec := "fnExactGainOfPlate", unfollowed := true, recurses := true, apart := false, narrowed := true }
def FnExactGainOfPlateUptoSaid : Prop := fnExactGainOfPlateUptoRow.holds Try.pinned (OpenSpec.upto fnExactGainOfPlateSpec)

/-- 'laws.FnExactMeanOfPlate', WHERE WHAT IT READS IS OF BULK AT MOST 1048576: true; the input reads as it did. -/
def fnExactMeanOfPlateUptoRow : OpenClaim := { program := "ythdmamcbceblpaa", sum := "12c93a023002cf3543c886208a1782c8485efdf5c0c9b9ae32defcd0227df895", func := "loop.example/g01309/laws.FnExactMeanOfPlate", spec := "fnExactMeanOfPlate", unfollowed := true, recurses := true, apart := false, narrowed := true }
def FnExactMeanOfPlateUptoSaid : Prop := fnExactMeanOfPlateUptoRow.holds Try.pinned (OpenSpec.upto fnExactMeanOfPlateSpec)

/-- 'laws.FnExactPlainPlate', WHERE WHAT IT READS IS OF BULK AT MOST 1048576: true; the input reads as it did. -/
def fnExactPlainPlateUptoRow : OpenClaim := { program := "ythdmamcbceblpaa", sum := "12c93a023002cf3543c886208a1782c8485efdf5c0c9b9ae32defcd0227df895", func := "loop.example/g01309/laws.FnExactPlainPlate", spec := "fnExactPlainPlate", unfollowed := true, recurses := true, apart := false, narrowed := true }
def FnExactPlainPlateUptoSaid : Prop := fnExactPlainPlateUptoRow.holds Try.pinned (OpenSpec.upto fnExactPlainPlateSpec)

/-- 'laws.FnExactFluxAt', WHERE WHAT IT READS IS OF BULK AT MOST 1048576: true; the input reads as it did. -/
def fnExactFluxAtUptoRow : OpenClaim := { program := "ythdmamcbceblpaa", sum := "12c93a023002cf3543c886208a1782c8485efdf5c0c9b9ae32defcd0227df895", func := "loop.example/g01309/laws.FnExactFluxAt", spec := "fnExactFluxAt", unfollowed := true, recurses := true, apart := false, narrowed := true }
def FnExactFluxAtUptoSaid : Prop := fnExactFluxAtUptoRow.holds Try.pinned (OpenSpec.upto fnExactFluxAtSpec)

/-- 'laws.FnExactTurnPlate', WHERE WHAT IT READS IS OF BULK AT MOST 1048576: true; the input reads as it did. -/
def fnExactTurnPlateUptoRow : OpenClaim := { program := "ythdmamcbceblpaa", sum := "12c93a023002cf3543c886208a1782c8485efdf5c0c9b9ae32defcd0227df895", func := "loop.example/g01309/laws.FnExactTurnPlate", spec := "fnExactTurnPlate", unfollowed := true, recurses := true, apart := false, narrowed := true }
def FnExactTurnPlateUptoSaid : Prop := fnExactTurnPlateUptoRow.holds Try.pinned (OpenSpec.upto fnExactTurnPlateSpec)

/-- 'laws.FnExactPassOfCells', WHERE WHAT IT READS IS OF BULK AT MOST 1048576: true; the input reads as it did. -/
def fnExactPassOfCellsUptoRow : OpenClaim := { program := "ythdmamcbceblpaa", sum := "12c93a023002cf3543c886208a1782c8485efdf5c0c9b9ae32defcd0227df895", func := "loop.example/g01309/laws.FnExactPassOfCells", spec := "fnExactPassOfCells", unfollowed := true, recurses := true, apart := false, narrowed := true }
def FnExactPassOfCellsUptoSaid : Prop := fnExactPassOfCellsUptoRow.holds Try.pinned (OpenSpec.upto fnExactPassOfCellsSpec)

/-- 'laws.FnExactFlowInto', WHERE WHAT IT READS IS OF BULK AT MOST 1048576: true; the input reads as it did. -/
def fnExactFlowIntoUptoRow : OpenClaim := { program := "ythdmamcbceblpaa", sum := "12c93a023002cf3543c886208a1782c8485efdf5c0c9b9ae32defcd0227df895", func := "loop.example/g01309/laws.FnExactFlowInto", spec := "fnExactFlowInto", unfollowed := true, recurses := true, apart := false, narrowed := true }
def FnExactFlowIntoUptoSaid : Prop := fnExactFlowIntoUptoRow.holds Try.pinned (OpenSpec.upto fnExactFlowIntoSpec)

/-- 'laws.FnExactEdgeCells', WHERE WHAT IT READS IS OF BULK AT MOST 1048576: true; the input reads as it did. -/
def fnExactEdgeCellsUptoRow : OpenClaim := { program := "ythdmamcbceblpaa", sum := "12c93a023002cf3543c886208a1782c8485efdf5c0c9b9ae32defcd0227df895", func := "loop.example/g01309/laws.FnExactEdgeCells", spec := "fnExactEdgeCells", unfollowed := true, recurses := true, apart := false, narrowed := true }
def FnExactEdgeCellsUptoSaid : Prop := fnExactEdgeCellsUptoRow.holds Try.pinned (OpenSpec.upto fnExactEdgeCellsSpec)

/-- 'laws.FnExactHeldFlow', WHERE WHAT IT READS IS OF BULK AT MOST 1048576: true; the input reads as it did. -/
def fnExactHeldFlowUptoRow : OpenClaim := { program := "ythdmamcbceblpaa", sum := "12c93a023002cf3543c886208a1782c8485efdf5c0c9b9ae32defcd0227df895", func := "loop.example/g01309/laws.FnExactHeldFlow", spec := "fnExactHeldFlow", unfollowed := true, recurses := true, apart := false, narrowed := true }
def FnExactHeldFlowUptoSaid : Prop := fnExactHeldFlowUptoRow.holds Try.pinned (OpenSpec.upto fnExactHeldFlowSpec)

end Rows
end Go.Proofs.Ythdmamcbceblpaa

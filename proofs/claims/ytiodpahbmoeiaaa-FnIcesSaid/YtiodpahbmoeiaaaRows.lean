/-
  No cell of these rows narrows 'for every input' (looked for: loops, veiled, ifaces, maps, wideKeys, modest, calm, conditions, laid).
  DERIVED. THE GIVEN ROWS OF THIS SEAT. 11 by the template 'for every input the law returns true; each argument reads behind the call as it read before'; 0 by the template 'total and deterministic' (their statements: YtiodpahbmoeiaaaTotals.lean).
  GIVEN WITH THE SEED: the statements are not yours to turn. If you find one false, say at which input.
  Laid BY PROGRAM, IN A SANDBOX (cutbox-rows.mjs): the forced cells as the released guide's own fill.sh prints them over the translation e48f97a86afdcc0e… (all of the seat's roots in one cut). By AI agents, Wed Nov 11 2026. No macro, syntax, notation, axiom, sorry.
-/
import Derived.Test.YtiodpahbmoeiaaaChecked
import GoSem.Claim
import GoSem.ClaimJoined
import GoSem.ClaimMapViews
import Derived.JoinedTies
import Derived.KernelRfl
namespace Go.Proofs.Ytiodpahbmoeiaaa
/- THE CELL 'sum', in the pinned program and in every row, IS THE sha256 OF THE DUMP (.gsa) THAT YtiodpahbmoeiaaaProg.lean LOADS. Nothing in Lean hashes anything: it is a label: what it is worth is what the hold of that sum in a sandbox is worth. -/
noncomputable def Try.pinned : Pinned := { name := "ytiodpahbmoeiaaa", sum := "e48f97a86afdcc0ef92369a89cd56b4cc14c1f568e6c017288ca36812f5b992b", checked := Try.checked }
namespace Rows
def none {H : Type} : Left H := { results := [], args := [] }

/-- 'laws.FnExactErrorOf': WHATEVER THE INPUT: true; the input reads as it did. -/
def fnExactErrorOfSpec : ChangeSpec := { name := "fnExactErrorOf", fn := fun _ => fun
  | [d] => { results := [.lit (.bool true)], args := [d] }
  | _ => none }
def fnExactErrorOfRow : OpenClaim := { program := "ytiodpahbmoeiaaa", sum := "e48f97a86afdcc0ef92369a89cd56b4cc14c1f568e6c017288ca36812f5b992b", func := "loop.example/g01309/laws.FnExactErrorOf", spec := "fnExactErrorOf", apart := false }
def FnExactErrorOfSaid : Prop := fnExactErrorOfRow.holds Try.pinned (OpenSpec.ofChange fnExactErrorOfSpec)

/-- ITS FALSE NEIGHBOUR: 'it returns false'. Refute it at one input. -/
def fnExactErrorOfWrong : ChangeSpec := { name := "fnExactErrorOf", fn := fun _ => fun
  | [d] => { results := [.lit (.bool false)], args := [d] }
  | _ => none }
def FnExactErrorOfWrongFalsely : Prop := fnExactErrorOfRow.holds Try.pinned (OpenSpec.ofChange fnExactErrorOfWrong)

/-- 'laws.FnExactHeatFor': WHATEVER THE INPUT: true; the input reads as it did. -/
def fnExactHeatForSpec : ChangeSpec := { name := "fnExactHeatFor", fn := fun _ => fun
  | [d1, d2, d3] => { results := [.lit (.bool true)], args := [d1, d2, d3] }
  | _ => none }
def fnExactHeatForRow : OpenClaim := { program := "ytiodpahbmoeiaaa", sum := "e48f97a86afdcc0ef92369a89cd56b4cc14c1f568e6c017288ca36812f5b992b", func := "loop.example/g01309/laws.FnExactHeatFor", spec := "fnExactHeatFor", unfollowed := true, recurses := true, apart := false }
def FnExactHeatForSaid : Prop := fnExactHeatForRow.holds Try.pinned (OpenSpec.ofChange fnExactHeatForSpec)

/-- ITS FALSE NEIGHBOUR: 'it returns false'. Refute it at one input. -/
def fnExactHeatForWrong : ChangeSpec := { name := "fnExactHeatFor", fn := fun _ => fun
  | [d1, d2, d3] => { results := [.lit (.bool false)], args := [d1, d2, d3] }
  | _ => none }
def FnExactHeatForWrongFalsely : Prop := fnExactHeatForRow.holds Try.pinned (OpenSpec.ofChange fnExactHeatForWrong)

/-- 'laws.FnExactPartOf': WHATEVER THE INPUT: true; the input reads as it did. -/
def fnExactPartOfSpec : ChangeSpec := { name := "fnExactPartOf", fn := fun _ => fun
  | [d1, d2] => { results := [.lit (.bool true)], args := [d1, d2] }
  | _ => none }
def fnExactPartOfRow : OpenClaim := { program := "ytiodpahbmoeiaaa", sum := "e48f97a86afdcc0ef92369a89cd56b4cc14c1f568e6c017288ca36812f5b992b", func := "loop.example/g01309/laws.FnExactPartOf", spec := "fnExactPartOf", unfollowed := true, recurses := true, apart := false }
def FnExactPartOfSaid : Prop := fnExactPartOfRow.holds Try.pinned (OpenSpec.ofChange fnExactPartOfSpec)

/-- ITS FALSE NEIGHBOUR: 'it returns false'. Refute it at one input. -/
def fnExactPartOfWrong : ChangeSpec := { name := "fnExactPartOf", fn := fun _ => fun
  | [d1, d2] => { results := [.lit (.bool false)], args := [d1, d2] }
  | _ => none }
def FnExactPartOfWrongFalsely : Prop := fnExactPartOfRow.holds Try.pinned (OpenSpec.ofChange fnExactPartOfWrong)

/-- 'laws.FnExactWarmOf': WHATEVER THE INPUT: true; the input reads as it did. -/
def fnExactWarmOfSpec : ChangeSpec := { name := "fnExactWarmOf", fn := fun _ => fun
  | [d1, d2] => { results := [.lit (.bool true)], args := [d1, d2] }
  | _ => none }
def fnExactWarmOfRow : OpenClaim := { program := "ytiodpahbmoeiaaa", sum := "e48f97a86afdcc0ef92369a89cd56b4cc14c1f568e6c017288ca36812f5b992b", func := "loop.example/g01309/laws.FnExactWarmOf", spec := "fnExactWarmOf", unfollowed := true, recurses := true, apart := false }
def FnExactWarmOfSaid : Prop := fnExactWarmOfRow.holds Try.pinned (OpenSpec.ofChange fnExactWarmOfSpec)

/-- ITS FALSE NEIGHBOUR: 'it returns false'. Refute it at one input. -/
def fnExactWarmOfWrong : ChangeSpec := { name := "fnExactWarmOf", fn := fun _ => fun
  | [d1, d2] => { results := [.lit (.bool false)], args := [d1, d2] }
  | _ => none }
def FnExactWarmOfWrongFalsely : Prop := fnExactWarmOfRow.holds Try.pinned (OpenSpec.ofChange fnExactWarmOfWrong)

/-- 'laws.FnExactGrowIce': WHATEVER THE INPUT: true; the input reads as it did. -/
def fnExactGrowIceSpec : ChangeSpec := { name := "fnExactGrowIce", fn := fun _ => fun
  | [d1, d2, d3, d4, d5] => { results := [.lit (.bool true)], args := [d1, d2, d3, d4, d5] }
  | _ => none }
def fnExactGrowIceRow : OpenClaim := { program := "ytiodpahbmoeiaaa", sum := "e48f97a86afdcc0ef92369a89cd56b4cc14c1f568e6c017288ca36812f5b992b", func := "loop.example/g01309/laws.FnExactGrowIce", spec := "fnExactGrowIce", unfollowed := true, recurses := true, apart := false }
def FnExactGrowIceSaid : Prop := fnExactGrowIceRow.holds Try.pinned (OpenSpec.ofChange fnExactGrowIceSpec)

/-- ITS FALSE NEIGHBOUR: 'it returns false'. Refute it at one input. -/
def fnExactGrowIceWrong : ChangeSpec := { name := "fnExactGrowIce", fn := fun _ => fun
  | [d1, d2, d3, d4, d5] => { results := [.lit (.bool false)], args := [d1, d2, d3, d4, d5] }
  | _ => none }
def FnExactGrowIceWrongFalsely : Prop := fnExactGrowIceRow.holds Try.pinned (OpenSpec.ofChange fnExactGrowIceWrong)

/-- 'laws.FnExactEaseOf': WHATEVER THE INPUT: true; the input reads as it did. -/
def fnExactEaseOfSpec : ChangeSpec := { name := "fnExactEaseOf", fn := fun _ => fun
  | [d1, d2] => { results := [.lit (.bool true)], args := [d1, d2] }
  | _ => none }
def fnExactEaseOfRow : OpenClaim := { program := "ytiodpahbmoeiaaa", sum := "e48f97a86afdcc0ef92369a89cd56b4cc14c1f568e6c017288ca36812f5b992b", func := "loop.example/g01309/laws.FnExactEaseOf", spec := "fnExactEaseOf", unfollowed := true, recurses := true, apart := false }
def FnExactEaseOfSaid : Prop := fnExactEaseOfRow.holds Try.pinned (OpenSpec.ofChange fnExactEaseOfSpec)

/-- ITS FALSE NEIGHBOUR: 'it returns false'. Refute it at one input. -/
def fnExactEaseOfWrong : ChangeSpec := { name := "fnExactEaseOf", fn := fun _ => fun
  | [d1, d2] => { results := [.lit (.bool false)], args := [d1, d2] }
  | _ => none }
def FnExactEaseOfWrongFalsely : Prop := fnExactEaseOfRow.holds Try.pinned (OpenSpec.ofChange fnExactEaseOfWrong)

/-- 'laws.FnExactStefanRoot': WHATEVER THE INPUT: true; the input reads as it did. -/
def fnExactStefanRootSpec : ChangeSpec := { name := "fnExactStefanRoot", fn := fun _ => fun
  | [d] => { results := [.lit (.bool true)], args := [d] }
  | _ => none }
def fnExactStefanRootRow : OpenClaim := { program := "ytiodpahbmoeiaaa", sum := "e48f97a86afdcc0ef92369a89cd56b4cc14c1f568e6c017288ca36812f5b992b", func := "loop.example/g01309/laws.FnExactStefanRoot", spec := "fnExactStefanRoot", inPlace := ["math.Float64frombits"], unfollowed := true, recurses := true, apart := false }
def FnExactStefanRootSaid : Prop := fnExactStefanRootRow.holds Try.pinned (OpenSpec.ofChange fnExactStefanRootSpec)

/-- ITS FALSE NEIGHBOUR: 'it returns false'. Refute it at one input. -/
def fnExactStefanRootWrong : ChangeSpec := { name := "fnExactStefanRoot", fn := fun _ => fun
  | [d] => { results := [.lit (.bool false)], args := [d] }
  | _ => none }
def FnExactStefanRootWrongFalsely : Prop := fnExactStefanRootRow.holds Try.pinned (OpenSpec.ofChange fnExactStefanRootWrong)

/-- 'laws.FnExactRunIce': WHATEVER THE INPUT: true; the input reads as it did. -/
def fnExactRunIceSpec : ChangeSpec := { name := "fnExactRunIce", fn := fun _ => fun
  | [d1, d2, d3, d4, d5] => { results := [.lit (.bool true)], args := [d1, d2, d3, d4, d5] }
  | _ => none }
def fnExactRunIceRow : OpenClaim := { program := "ytiodpahbmoeiaaa", sum := "e48f97a86afdcc0ef92369a89cd56b4cc14c1f568e6c017288ca36812f5b992b", func := "loop.example/g01309/laws.FnExactRunIce", spec := "fnExactRunIce", unfollowed := true, recurses := true, apart := false }
def FnExactRunIceSaid : Prop := fnExactRunIceRow.holds Try.pinned (OpenSpec.ofChange fnExactRunIceSpec)

/-- ITS FALSE NEIGHBOUR: 'it returns false'. Refute it at one input. -/
def fnExactRunIceWrong : ChangeSpec := { name := "fnExactRunIce", fn := fun _ => fun
  | [d1, d2, d3, d4, d5] => { results := [.lit (.bool false)], args := [d1, d2, d3, d4, d5] }
  | _ => none }
def FnExactRunIceWrongFalsely : Prop := fnExactRunIceRow.holds Try.pinned (OpenSpec.ofChange fnExactRunIceWrong)

/-- 'laws.FnExactFrontAt': WHATEVER THE INPUT: true; the input reads as it did. -/
def fnExactFrontAtSpec : ChangeSpec := { name := "fnExactFrontAt", fn := fun _ => fun
  | [d1, d2, d3] => { results := [.lit (.bool true)], args := [d1, d2, d3] }
  | _ => none }
def fnExactFrontAtRow : OpenClaim := { program := "ytiodpahbmoeiaaa", sum := "e48f97a86afdcc0ef92369a89cd56b4cc14c1f568e6c017288ca36812f5b992b", func := "loop.example/g01309/laws.FnExactFrontAt", spec := "fnExactFrontAt", inPlace := ["math.Float64frombits", "math.sqrt"], unfollowed := true, recurses := true, apart := false }
def FnExactFrontAtSaid : Prop := fnExactFrontAtRow.holds Try.pinned (OpenSpec.ofChange fnExactFrontAtSpec)

/-- ITS FALSE NEIGHBOUR: 'it returns false'. Refute it at one input. -/
def fnExactFrontAtWrong : ChangeSpec := { name := "fnExactFrontAt", fn := fun _ => fun
  | [d1, d2, d3] => { results := [.lit (.bool false)], args := [d1, d2, d3] }
  | _ => none }
def FnExactFrontAtWrongFalsely : Prop := fnExactFrontAtRow.holds Try.pinned (OpenSpec.ofChange fnExactFrontAtWrong)

/-- 'laws.FnStuffs': WHATEVER THE INPUT: true; the input reads as it did. -/
def fnStuffsSpec : ChangeSpec := { name := "fnStuffs", fn := fun _ => fun
  | [d1, d2] => { results := [.lit (.bool true)], args := [d1, d2] }
  | _ => none }
def fnStuffsRow : OpenClaim := { program := "ytiodpahbmoeiaaa", sum := "e48f97a86afdcc0ef92369a89cd56b4cc14c1f568e6c017288ca36812f5b992b", func := "loop.example/g01309/laws.FnStuffs", spec := "fnStuffs", inPlace := ["math.Float64bits"], unfollowed := true, recurses := true, apart := false }
def FnStuffsSaid : Prop := fnStuffsRow.holds Try.pinned (OpenSpec.ofChange fnStuffsSpec)

/-- ITS FALSE NEIGHBOUR: 'it returns false'. Refute it at one input. -/
def fnStuffsWrong : ChangeSpec := { name := "fnStuffs", fn := fun _ => fun
  | [d1, d2] => { results := [.lit (.bool false)], args := [d1, d2] }
  | _ => none }
def FnStuffsWrongFalsely : Prop := fnStuffsRow.holds Try.pinned (OpenSpec.ofChange fnStuffsWrong)

/-- 'laws.FnIces': WHATEVER THE INPUT: true; the input reads as it did. -/
def fnIcesSpec : ChangeSpec := { name := "fnIces", fn := fun _ => fun
  | [d1, d2] => { results := [.lit (.bool true)], args := [d1, d2] }
  | _ => none }
def fnIcesRow : OpenClaim := { program := "ytiodpahbmoeiaaa", sum := "e48f97a86afdcc0ef92369a89cd56b4cc14c1f568e6c017288ca36812f5b992b", func := "loop.example/g01309/laws.FnIces", spec := "fnIces", inPlace := ["math.Float32bits"], unfollowed := true, recurses := true, apart := false }
def FnIcesSaid : Prop := fnIcesRow.holds Try.pinned (OpenSpec.ofChange fnIcesSpec)

/-- ITS FALSE NEIGHBOUR: 'it returns false'. Refute it at one input. -/
def fnIcesWrong : ChangeSpec := { name := "fnIces", fn := fun _ => fun
  | [d1, d2] => { results := [.lit (.bool false)], args := [d1, d2] }
  | _ => none }
def FnIcesWrongFalsely : Prop := fnIcesRow.holds Try.pinned (OpenSpec.ofChange fnIcesWrong)

/- THE SECOND FORM. 'bulk': how many values and letters a reading holds, each counted each time it is reached (what is shared counts as often as it is met; a slice's spare places count too). A statement '..UptoSaid' is the law's where the arguments, and the package variables that the reading takes, are together of bulk at most 1048576: NARROWER than '..Said'. Prove '..Said' where nothing that the law and all that it calls make is longer than what came in: it says more and counts as full. Else prove '..UptoSaid'. A law counts once. -/
mutual
def uptoBulk {H : Type} : DataW H → Nat
  | .lit (.string bytes) => bytes.length + 1
  | .lit _ => 1
  | .nil => 1
  | .ptr d => uptoBulk d + 1
  | .slice elems spare => uptoBulkAll elems + uptoBulkAll spare + 1
  | .agg parts => uptoBulkAll parts + 1
  | .iface _ d => uptoBulk d + 1
  | .map entries => uptoBulkEntries entries + 1
  | .held _ => 1
def uptoBulkAll {H : Type} : List (DataW H) → Nat
  | [] => 0
  | d :: r => uptoBulk d + uptoBulkAll r
def uptoBulkEntries {H : Type} : List (Lit × DataW H) → Nat
  | [] => 0
  | x :: r => uptoBulkEntry x + uptoBulkEntries r
def uptoBulkEntry {H : Type} : Lit × DataW H → Nat
  | (.string bytes, d) => bytes.length + uptoBulk d + 1
  | (_, d) => uptoBulk d + 1
 end
def uptoSmall : (H : Type) → List (DataW H) → Bool := fun _ ds => decide (uptoBulkAll ds ≤ 1048576)
def OpenSpec.upto (s : _root_.Go.ChangeSpec) : _root_.Go.OpenSpec := { _root_.Go.OpenSpec.ofChange s with cond := some uptoSmall }

/-- 'laws.FnExactErrorOf', WHERE WHAT IT READS IS OF BULK AT MOST 1048576: true; the input reads as it did. -/
def fnExactErrorOfUptoRow : OpenClaim := { program := "ytiodpahbmoeiaaa", sum := "e48f97a86afdcc0ef92369a89cd56b4cc14c1f568e6c017288ca36812f5b992b", func := "loop.example/g01309/laws.FnExactErrorOf", spec := "fnExactErrorOf", apart := false, narrowed := true }
def FnExactErrorOfUptoSaid : Prop := fnExactErrorOfUptoRow.holds Try.pinned (OpenSpec.upto fnExactErrorOfSpec)

/-- 'laws.FnExactHeatFor', WHERE WHAT IT READS IS OF BULK AT MOST 1048576: true; the input reads as it did. -/
def fnExactHeatForUptoRow : OpenClaim := { program := "ytiodpahbmoeiaaa", sum := "e48f97a86afdcc0ef92369a89cd56b4cc14c1f568e6c017288ca36812f5b992b", func := "loop.example/g01309/laws.FnExactHeatFor", spec := "fnExactHeatFor", unfollowed := true, recurses := true, apart := false, narrowed := true }
def FnExactHeatForUptoSaid : Prop := fnExactHeatForUptoRow.holds Try.pinned (OpenSpec.upto fnExactHeatForSpec)

/-- 'laws.FnExactPartOf', WHERE WHAT IT READS IS OF BULK AT MOST 1048576: true; the input reads as it did. -/
def fnExactPartOfUptoRow : OpenClaim := { program := "ytiodpahbmoeiaaa", sum := "e48f97a86afdcc0ef92369a89cd56b4cc14c1f568e6c017288ca36812f5b992b", func := "loop.example/g01309/laws.FnExactPartOf", spec := "fnExactPartOf", unfollowed := true, recurses := true, apart := false, narrowed := true }
def FnExactPartOfUptoSaid : Prop := fnExactPartOfUptoRow.holds Try.pinned (OpenSpec.upto fnExactPartOfSpec)

/-- 'laws.FnExactWarmOf', WHERE WHAT IT READS IS OF BULK AT MOST 1048576: true; the input reads as it did. -/
def fnExactWarmOfUptoRow : OpenClaim := { program := "ytiodpahbmoeiaaa", sum := "e48f97a86afdcc0ef92369a89cd56b4cc14c1f568e6c017288ca36812f5b992b", func := "loop.example/g01309/laws.FnExactWarmOf", spec := "fnExactWarmOf", unfollowed := true, recurses := true, apart := false, narrowed := true }
def FnExactWarmOfUptoSaid : Prop := fnExactWarmOfUptoRow.holds Try.pinned (OpenSpec.upto fnExactWarmOfSpec)

/-- 'laws.FnExactGrowIce', WHERE WHAT IT READS IS OF BULK AT MOST 1048576: true; the input reads as it did. -/
def fnExactGrowIceUptoRow : OpenClaim := { program := "ytiodpahbmoeiaaa", sum := "e48f97a86afdcc0ef92369a89cd56b4cc14c1f568e6c017288ca36812f5b992b", func := "loop.example/g01309/laws.FnExactGrowIce", spec := "fnExactGrowIce", unfollowed := true, recurses := true, apart := false, narrowed := true }
def FnExactGrowIceUptoSaid : Prop := fnExactGrowIceUptoRow.holds Try.pinned (OpenSpec.upto fnExactGrowIceSpec)

/-- 'laws.FnExactEaseOf', WHERE WHAT IT READS IS OF BULK AT MOST 1048576: true; the input reads as it did. -/
def fnExactEaseOfUptoRow : OpenClaim := { program := "ytiodpahbmoeiaaa", sum := "e48f97a86afdcc0ef92369a89cd56b4cc14c1f568e6c017288ca36812f5b992b", func := "loop.example/g01309/laws.FnExactEaseOf", spec := "fnExactEaseOf", unfollowed := true, recurses := true, apart := false, narrowed := true }
def FnExactEaseOfUptoSaid : Prop := fnExactEaseOfUptoRow.holds Try.pinned (OpenSpec.upto fnExactEaseOfSpec)

/-- 'laws.FnExactStefanRoot', WHERE WHAT IT READS IS OF BULK AT MOST 1048576: true; the input reads as it did. -/
def fnExactStefanRootUptoRow : OpenClaim := { program := "ytiodpahbmoeiaaa", sum := "e48f97a86afdcc0ef92369a89cd56b4cc14c1f568e6c017288ca36812f5b992b", func := "loop.example/g01309/laws.FnExactStefanRoot", spec := "fnExactStefanRoot", inPlace := ["math.Float64frombits"], unfollowed := true, recurses := true, apart := false, narrowed := true }
def FnExactStefanRootUptoSaid : Prop := fnExactStefanRootUptoRow.holds Try.pinned (OpenSpec.upto fnExactStefanRootSpec)

/-- 'laws.FnExactRunIce', WHERE WHAT IT READS IS OF BULK AT MOST 1048576: true; the input reads as it did. -/
def fnExactRunIceUptoRow : OpenClaim := { program := "ytiodpahbmoeiaaa", sum := "e48f97a86afdcc0ef92369a89cd56b4cc14c1f568e6c017288ca36812f5b992b", func := "loop.example/g01309/laws.FnExactRunIce", spec := "fnExactRunIce", unfollowed := true, recurses := true, apart := false, narrowed := true }
def FnExactRunIceUptoSaid : Prop := fnExactRunIceUptoRow.holds Try.pinned (OpenSpec.upto fnExactRunIceSpec)

/-- 'laws.FnExactFrontAt', WHERE WHAT IT READS IS OF BULK AT MOST 1048576: true; the input reads as it did. -/
def fnExactFrontAtUptoRow : OpenClaim := { program := "ytiodpahbmoeiaaa", sum := "e48f97a86afdcc0ef92369a89cd56b4cc14c1f568e6c017288ca36812f5b992b", func := "loop.example/g01309/laws.FnExactFrontAt", spec := "fnExactFrontAt", inPlace := ["math.Float64frombits", "math.sqrt"], unfollowed := true, recurses := true, apart := false, narrowed := true }
def FnExactFrontAtUptoSaid : Prop := fnExactFrontAtUptoRow.holds Try.pinned (OpenSpec.upto fnExactFrontAtSpec)

/-- 'laws.FnStuffs', WHERE WHAT IT READS IS OF BULK AT MOST 1048576: true; the input reads as it did. -/
def fnStuffsUptoRow : OpenClaim := { program := "ytiodpahbmoeiaaa", sum := "e48f97a86afdcc0ef92369a89cd56b4cc14c1f568e6c017288ca36812f5b992b", func := "loop.example/g01309/laws.FnStuffs", spec := "fnStuffs", inPlace := ["math.Float64bits"], unfollowed := true, recurses := true, apart := false, narrowed := true }
def FnStuffsUptoSaid : Prop := fnStuffsUptoRow.holds Try.pinned (OpenSpec.upto fnStuffsSpec)

/-- 'laws.FnIces', WHERE WHAT IT READS IS OF BULK AT MOST 1048576: true; the input reads as it did. -/
def fnIcesUptoRow : OpenClaim := { program := "ytiodpahbmoeiaaa", sum := "e48f97a86afdcc0ef92369a89cd56b4cc14c1f568e6c017288ca36812f5b992b", func := "loop.example/g01309/laws.FnIces", spec := "fnIces", inPlace := ["math.Float32bits"], unfollowed := true, recurses := true, apart := false, narrowed := true }
def FnIcesUptoSaid : Prop := fnIcesUptoRow.holds Try.pinned (OpenSpec.upto fnIcesSpec)

end Rows
end Go.Proofs.Ytiodpahbmoeiaaa

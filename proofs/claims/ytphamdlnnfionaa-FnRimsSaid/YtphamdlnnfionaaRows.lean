/-
  No cell of these rows narrows 'for every input' (looked for: loops, veiled, ifaces, maps, wideKeys, modest, calm, conditions, laid).
  DERIVED. THE GIVEN ROWS OF THIS SEAT. 4 by the template 'for every input the law returns true; each argument reads behind the call as it read before'; 0 by the template 'total and deterministic' (their statements: YtphamdlnnfionaaTotals.lean).
  GIVEN WITH THE SEED: the statements are not yours to turn. If you find one false, say at which input.
  Laid BY PROGRAM, IN A SANDBOX (cutbox-rows.mjs): the forced cells as the released guide's own fill.sh prints them over the translation bf01d3ad921b81c6… (all of the seat's roots in one cut). By AI agents, Wed Nov 11 2026. No macro, syntax, notation, axiom, sorry.
-/
import Derived.Test.YtphamdlnnfionaaChecked
import GoSem.Claim
import GoSem.ClaimJoined
import GoSem.ClaimMapViews
import Derived.JoinedTies
import Derived.KernelRfl
namespace Go.Proofs.Ytphamdlnnfionaa
/- THE CELL 'sum', in the pinned program and in every row, IS THE sha256 OF THE DUMP (.gsa) THAT YtphamdlnnfionaaProg.lean LOADS. Nothing in Lean hashes anything: it is a label: what it is worth is what the hold of that sum in a sandbox is worth. -/
noncomputable def Try.pinned : Pinned := { name := "ytphamdlnnfionaa", sum := "bf01d3ad921b81c6bef9719701d052b24b046e7a2d54c1fc9bbef9eb7768bbee", checked := Try.checked }
namespace Rows
def none {H : Type} : Left H := { results := [], args := [] }

/-- 'laws.FnExactIslandsOver': WHATEVER THE INPUT: true; the input reads as it did. -/
def fnExactIslandsOverSpec : ChangeSpec := { name := "fnExactIslandsOver", fn := fun _ => fun
  | [d1, d2] => { results := [.lit (.bool true)], args := [d1, d2] }
  | _ => none }
def fnExactIslandsOverRow : OpenClaim := { program := "ytphamdlnnfionaa", sum := "bf01d3ad921b81c6bef9719701d052b24b046e7a2d54c1fc9bbef9eb7768bbee", func := "loop.example/g01309/laws.FnExactIslandsOver", spec := "fnExactIslandsOver", unfollowed := true, recurses := true, apart := false }
def FnExactIslandsOverSaid : Prop := fnExactIslandsOverRow.holds Try.pinned (OpenSpec.ofChange fnExactIslandsOverSpec)

/-- ITS FALSE NEIGHBOUR: 'it returns false'. Refute it at one input. -/
def fnExactIslandsOverWrong : ChangeSpec := { name := "fnExactIslandsOver", fn := fun _ => fun
  | [d1, d2] => { results := [.lit (.bool false)], args := [d1, d2] }
  | _ => none }
def FnExactIslandsOverWrongFalsely : Prop := fnExactIslandsOverRow.holds Try.pinned (OpenSpec.ofChange fnExactIslandsOverWrong)

/-- 'laws.FnExactRimOf': WHATEVER THE INPUT: true; the input reads as it did. -/
def fnExactRimOfSpec : ChangeSpec := { name := "fnExactRimOf", fn := fun _ => fun
  | [d1, d2] => { results := [.lit (.bool true)], args := [d1, d2] }
  | _ => none }
def fnExactRimOfRow : OpenClaim := { program := "ytphamdlnnfionaa", sum := "bf01d3ad921b81c6bef9719701d052b24b046e7a2d54c1fc9bbef9eb7768bbee", func := "loop.example/g01309/laws.FnExactRimOf", spec := "fnExactRimOf", unfollowed := true, recurses := true, apart := false }
def FnExactRimOfSaid : Prop := fnExactRimOfRow.holds Try.pinned (OpenSpec.ofChange fnExactRimOfSpec)

/-- ITS FALSE NEIGHBOUR: 'it returns false'. Refute it at one input. -/
def fnExactRimOfWrong : ChangeSpec := { name := "fnExactRimOf", fn := fun _ => fun
  | [d1, d2] => { results := [.lit (.bool false)], args := [d1, d2] }
  | _ => none }
def FnExactRimOfWrongFalsely : Prop := fnExactRimOfRow.holds Try.pinned (OpenSpec.ofChange fnExactRimOfWrong)

/-- 'laws.FnExactCoolPath': WHATEVER THE INPUT: true; the input reads as it did. -/
def fnExactCoolPathSpec : ChangeSpec := { name := "fnExactCoolPath", fn := fun _ => fun
  | [d1, d2] => { results := [.lit (.bool true)], args := [d1, d2] }
  | _ => none }
def fnExactCoolPathRow : OpenClaim := { program := "ytphamdlnnfionaa", sum := "bf01d3ad921b81c6bef9719701d052b24b046e7a2d54c1fc9bbef9eb7768bbee", func := "loop.example/g01309/laws.FnExactCoolPath", spec := "fnExactCoolPath", unfollowed := true, recurses := true, apart := false }
def FnExactCoolPathSaid : Prop := fnExactCoolPathRow.holds Try.pinned (OpenSpec.ofChange fnExactCoolPathSpec)

/-- ITS FALSE NEIGHBOUR: 'it returns false'. Refute it at one input. -/
def fnExactCoolPathWrong : ChangeSpec := { name := "fnExactCoolPath", fn := fun _ => fun
  | [d1, d2] => { results := [.lit (.bool false)], args := [d1, d2] }
  | _ => none }
def FnExactCoolPathWrongFalsely : Prop := fnExactCoolPathRow.holds Try.pinned (OpenSpec.ofChange fnExactCoolPathWrong)

/-- 'laws.FnRims': WHATEVER THE INPUT: true; the input reads as it did. -/
def fnRimsSpec : ChangeSpec := { name := "fnRims", fn := fun _ => fun
  | [d1, d2] => { results := [.lit (.bool true)], args := [d1, d2] }
  | _ => none }
def fnRimsRow : OpenClaim := { program := "ytphamdlnnfionaa", sum := "bf01d3ad921b81c6bef9719701d052b24b046e7a2d54c1fc9bbef9eb7768bbee", func := "loop.example/g01309/laws.FnRims", spec := "fnRims", unfollowed := true, recurses := true, apart := false }
def FnRimsSaid : Prop := fnRimsRow.holds Try.pinned (OpenSpec.ofChange fnRimsSpec)

/-- ITS FALSE NEIGHBOUR: 'it returns false'. Refute it at one input. -/
def fnRimsWrong : ChangeSpec := { name := "fnRims", fn := fun _ => fun
  | [d1, d2] => { results := [.lit (.bool false)], args := [d1, d2] }
  | _ => none }
def FnRimsWrongFalsely : Prop := fnRimsRow.holds Try.pinned (OpenSpec.ofChange fnRimsWrong)

/- THE SECOND FORM. 'bulk': how many values and letters a reading holds, each counted each time it is reached (what is shared counts as often as it is met; a slice's spare places count too). A statement '..UptoSaid' is the law's where the arguments, and the package variables that the reading takes, are together of bulk at most 1048576: NARROWER than '..Said'. Prove '..Said' where nothing that the law and all that it calls make is longer than what came in: it says more and counts as full. Else prove '..UptoSaid'. A law counts once. -/
mutual
def uptoBulk {H : Type} : DataW H → Nat
  | .lit (.string bytes) => bytes.length + 1
  | .lit _ => 1
  | .nil => 1
  | .ptr d => uptoBulk d + 1
  | .slice elems spare => uptoBulkAll elems + uptoBulkAll spare + 1
  | .agg parts => uptoBulkAll parts + 1
  | .iface _ d => uptoBulk d + 1
  | .map entries => uptoBulkEntries entries + 1
  | .held _ => 1
def uptoBulkAll {H : Type} : List (DataW H) → Nat
  | [] => 0
  | d :: r => uptoBulk d + uptoBulkAll r
def uptoBulkEntries {H : Type} : List (Lit × DataW H) → Nat
  | [] => 0
  | x :: r => uptoBulkEntry x + uptoBulkEntries r
def uptoBulkEntry {H : Type} : Lit × DataW H → Nat
  | (.string bytes, d) => bytes.length + uptoBulk d + 1
  | (_, d) => uptoBulk d + 1
 end
def uptoSmall : (H : Type) → List (DataW H) → Bool := fun _ ds => decide (uptoBulkAll ds ≤ 1048576)
def OpenSpec.upto (s : _root_.Go.ChangeSpec) : _root_.Go.OpenSpec := { _root_.Go.OpenSpec.ofChange s with cond := some uptoSmall }

/-- 'laws.FnExactIslandsOver', WHERE WHAT IT READS IS OF BULK AT MOST 1048576: true; the input reads as it did. -/
def fnExactIslandsOverUptoRow : OpenClaim := { program := "ytphamdlnnfionaa", sum := "bf01d3ad921b81c6bef9719701d052b24b046e7a2d54c1fc9bbef9eb7768bbee", func := "loop.example/g01309/laws.FnExactIslandsOver", spec := "fnExactIslandsOver", unfollowed := true, recurses := true, apart := false, narrowed := true }
def FnExactIslandsOverUptoSaid : Prop := fnExactIslandsOverUptoRow.holds Try.pinned (OpenSpec.upto fnExactIslandsOverSpec)

/-- 'laws.FnExactRimOf', WHERE WHAT IT READS IS OF BULK AT MOST 1048576: true; the input reads as it did. -/
def fnExactRimOfUptoRow : OpenClaim := { program := "ytphamdlnnfionaa", sum := "bf01d3ad921b81c6bef9719701d052b24b046e7a2d54c1fc9bbef9eb7768bbee", func := "loop.example/g01309/laws.FnExactRimOf", spec := "fnExactRimOf", unfollowed := true, recurses := true, apart := false, narrowed := true }
def FnExactRimOfUptoSaid : Prop := fnExactRimOfUptoRow.holds Try.pinned (OpenSpec.upto fnExactRimOfSpec)

/-- 'laws.FnExactCoolPath', WHERE WHAT IT READS IS OF BULK AT MOST 1048576: true; the input reads as it did. -/
def fnExactCoolPathUptoRow : OpenClaim := { program := "ytphamdlnnfionaa", sum := "bf01d3ad921b81c6bef9719701d052b24b046e7a2d54c1fc9bbef9eb7768bbee", func := "loop.example/g01309/laws.FnExactCoolPath", spec := "fnExactCoolPath", unfollowed := true, recurses := true, apart := false, narrowed := true }
def FnExactCoolPathUptoSaid : Prop := fnExactCoolPathUptoRow.holds Try.pinned (OpenSpec.upto fnExactCoolPathSpec)

/-- 'laws.FnRims', WHERE WHAT IT READS IS OF BULK AT MOST 1048576: true; the input reads as it did. -/
def fnRimsUptoRow : OpenClaim := { program := "ytphamdlnnfionaa", sum := "bf01d3ad921b81c6bef9719701d052b24b046e7a2d54c1fc9bbef9eb7768bbee", func := "loop.example/g01309/laws.FnRims", spec := "fnRims", unfollowed := true, recurses := true, apart := false, narrowed := true }
def FnRimsUptoSaid : Prop := fnRimsUptoRow.holds Try.pinned (OpenSpec.upto fnRimsSpec)

end Rows
end Go.Proofs.Ytphamdlnnfionaa

/-
  slices.IndexFunc and ContainsFunc at a closure with one captured variable, whose calls may make memory. No condition but what each contract says.
-/
import Derived.Test.YtgkcfeaknehopaaPrSl
set_option linter.unusedSimpArgs false
set_option linter.unusedVariables false
set_option linter.unusedSectionVars false
namespace Go.Proofs.Ytgkcfeaknehopaa
open Go Go.RowKit
end Go.Proofs.Ytgkcfeaknehopaa

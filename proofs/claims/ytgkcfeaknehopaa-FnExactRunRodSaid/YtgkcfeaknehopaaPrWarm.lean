/-
  How warm a rod is at a place (the program's and the reference's). No condition but what each contract says.
-/
import Derived.Test.YtgkcfeaknehopaaPrMid
import Derived.Test.YtgkcfeaknehopaaPrFunc
set_option linter.unusedSimpArgs false
set_option linter.unusedVariables false
set_option linter.unusedSectionVars false
namespace Go.Proofs.Ytgkcfeaknehopaa
open Go Go.RowKit
open Go.ChangeShapes Go.WideShapes Go.ChangeAt Go.RowKit Go.Joins
end Go.Proofs.Ytgkcfeaknehopaa

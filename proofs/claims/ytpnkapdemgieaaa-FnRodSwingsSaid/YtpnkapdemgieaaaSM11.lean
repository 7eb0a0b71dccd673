/-
  Waves at drawn depths, worked out: reaches 1 to 4 of sixteen. No condition but what each law says; nothing of the program is named here.
-/
import Derived.Test.YtpnkapdemgieaaaSM10
set_option linter.unusedSimpArgs false
set_option linter.unusedVariables false
set_option linter.unusedSectionVars false
namespace Go.Proofs.Ytpnkapdemgieaaa
set_option maxRecDepth 100000 in
theorem wvGood_0 : wvGood 0 = true := by decide +kernel
set_option maxRecDepth 100000 in
theorem wvGood_1 : wvGood 1 = true := by decide +kernel
set_option maxRecDepth 100000 in
theorem wvGood_2 : wvGood 2 = true := by decide +kernel
set_option maxRecDepth 100000 in
theorem wvGood_3 : wvGood 3 = true := by decide +kernel
end Go.Proofs.Ytpnkapdemgieaaa

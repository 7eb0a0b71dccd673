/-
  Waves at drawn depths, worked out: reaches 9 to 12 of sixteen. No condition but what each law says; nothing of the program is named here.
-/
import Derived.Test.YtpnkapdemgieaaaSM10
set_option linter.unusedSimpArgs false
set_option linter.unusedVariables false
set_option linter.unusedSectionVars false
namespace Go.Proofs.Ytpnkapdemgieaaa
set_option maxRecDepth 100000 in
theorem wvGood_8 : wvGood 8 = true := by decide +kernel
set_option maxRecDepth 100000 in
theorem wvGood_9 : wvGood 9 = true := by decide +kernel
set_option maxRecDepth 100000 in
theorem wvGood_10 : wvGood 10 = true := by decide +kernel
set_option maxRecDepth 100000 in
theorem wvGood_11 : wvGood 11 = true := by decide +kernel
end Go.Proofs.Ytpnkapdemgieaaa

/-
  Waves at drawn depths, worked out: reaches 13 to 16 of sixteen. No condition but what each law says; nothing of the program is named here.
-/
import Derived.Test.YtpnkapdemgieaaaSM10
set_option linter.unusedSimpArgs false
set_option linter.unusedVariables false
set_option linter.unusedSectionVars false
namespace Go.Proofs.Ytpnkapdemgieaaa
set_option maxRecDepth 100000 in
theorem wvGood_12 : wvGood 12 = true := by decide +kernel
set_option maxRecDepth 100000 in
theorem wvGood_13 : wvGood 13 = true := by decide +kernel
set_option maxRecDepth 100000 in
theorem wvGood_14 : wvGood 14 = true := by decide +kernel
set_option maxRecDepth 100000 in
theorem wvGood_15 : wvGood 15 = true := by decide +kernel
end Go.Proofs.Ytpnkapdemgieaaa

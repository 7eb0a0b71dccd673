/-
  Waves at drawn depths, worked out: reaches 5 to 8 of sixteen. No condition but what each law says; nothing of the program is named here.
-/
import Derived.Test.YtpnkapdemgieaaaSM10
set_option linter.unusedSimpArgs false
set_option linter.unusedVariables false
set_option linter.unusedSectionVars false
namespace Go.Proofs.Ytpnkapdemgieaaa
set_option maxRecDepth 100000 in
theorem wvGood_4 : wvGood 4 = true := by decide +kernel
set_option maxRecDepth 100000 in
theorem wvGood_5 : wvGood 5 = true := by decide +kernel
set_option maxRecDepth 100000 in
theorem wvGood_6 : wvGood 6 = true := by decide +kernel
set_option maxRecDepth 100000 in
theorem wvGood_7 : wvGood 7 = true := by decide +kernel
end Go.Proofs.Ytpnkapdemgieaaa

/-
  The error function, the exponential function, how fast a front goes (the program's and the reference's). No condition but what each contract says.
-/
import Derived.Test.YtldancjofgobnaaErr
set_option linter.unusedSimpArgs false
set_option linter.unusedVariables false
set_option linter.unusedSectionVars false
namespace Go.Proofs.Ytldancjofgobnaa
open Go Go.RowKit
theorem erV_far {x : Nat} (h : fge .f64 x (cn .f64 4616189618054758400) = true) : erV x = cn .f64 4607182418800017408 := by unfold erV; rw [if_pos h]
theorem erV_low {x : Nat} (h : fge .f64 x (cn .f64 4616189618054758400) = false) (h1 : fle .f64 x (cn .f64 13839561654909534208) = true) : erV x = cn .f64 13830554455654793216 := by unfold erV; rw [if_neg (by rw [h]; decide), if_pos h1]
theorem erV_mid {x : Nat} (h : fge .f64 x (cn .f64 4616189618054758400) = false) (h1 : fle .f64 x (cn .f64 13839561654909534208) = false) : erV x = fop .mul .f64 (cn .f64 4607760587169110893) (erS x 60) := by unfold erV; rw [if_neg (by rw [h]; decide), if_neg (by rw [h1]; decide)]
end Go.Proofs.Ytldancjofgobnaa

/-
  The longest tick that is safe for a rod (the program's and the reference's), and the law: true for every input. No condition but what each contract says.
-/
import Derived.Test.YtgkcfeaknehopaaPrPasses
import Derived.Test.YtgkcfeaknehopaaPrWarm
import Derived.Test.YtgkcfeaknehopaaPrAcc
set_option linter.unusedSimpArgs false
set_option linter.unusedVariables false
set_option linter.unusedSectionVars false
namespace Go.Proofs.Ytgkcfeaknehopaa
open Go Go.RowKit
open Go.ChangeShapes Go.WideShapes Go.ChangeAt Go.RowKit Go.Joins
def pAt (P : Rd) (E G : EndT) (i : Nat) : Nat := (passL P E G).getD i 0
theorem passL_len {P : Rd} (E G : EndT) (h : 1 ≤ P.a.length) : (passL P E G).length = P.a.length + 1 := by simp [passL, passK]; omega
theorem passOk_split {P : Rd} {E G : EndT} (h : passOk P E G = true) : endsOk P E G = true ∧ passFin P E G = true := by
  unfold passOk at h
  simpa using h
theorem map_at {ys L : List Nat} (h : ys.map (cn .f32) = L) {i : Nat} (hi : i < ys.length) : cn .f32 (ys.getD i 0) = L.getD i 0 := by
  rw [← h, List.getD_eq_getElem?_getD, List.getD_eq_getElem?_getD, List.getElem?_map, List.getElem?_eq_getElem hi]; rfl
end Go.Proofs.Ytgkcfeaknehopaa

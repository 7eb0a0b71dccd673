/-
  Sums of lists of numbers (the program's and the reference's). No condition but what each contract says.
-/
import Derived.Test.YtphamdlnnfionaaApp
set_option linter.unusedSimpArgs false
set_option linter.unusedVariables false
set_option linter.unusedSectionVars false
namespace Go.Proofs.Ytphamdlnnfionaa
open Go Go.RowKit
/-- A sum from left to right. -/
def accC (f : Nat → Nat) (xs : List Nat) : Nat := xs.foldl (fun a x => fop .add .f32 a (f (cn .f32 x))) (cn .f32 0)
theorem accC_step (f : Nat → Nat) (xs : List Nat) {k : Nat} (h : k < xs.length) : accC f (xs.take (k + 1)) = fop .add .f32 (accC f (xs.take k)) (f (cn .f32 (xs.getD k 0))) := by
  unfold accC
  rw [List.take_add_one, List.foldl_append, List.getElem?_eq_getElem h, List.getD_eq_getElem?_getD, List.getElem?_eq_getElem h]
  rfl
theorem cn_accC (f : Nat → Nat) (xs : List Nat) : cn .f32 (accC f xs) = accC f xs := by
  rcases List.eq_nil_or_concat xs with rfl | ⟨l, x, rfl⟩
  · exact cn_cn .f32 0
  · unfold accC; simp only [List.concat_eq_append, List.foldl_append, List.foldl_cons, List.foldl_nil]; exact cn_fop _ _ _ _
end Go.Proofs.Ytphamdlnnfionaa

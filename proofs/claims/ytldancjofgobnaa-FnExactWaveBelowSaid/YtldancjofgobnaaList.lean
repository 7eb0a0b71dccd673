/-
  Slices that are only read: later they hold what they held. No condition.
-/
import Derived.Test.YtldancjofgobnaaTrk
set_option linter.unusedSimpArgs false
set_option linter.unusedVariables false
set_option linter.unusedSectionVars false
namespace Go.Proofs.Ytldancjofgobnaa
open Go Go.RowKit
theorem FS.later {w w' : World} {v : Value} {xs : List Nat} (h : FS w v xs) (hb : Below w.heap.size w w') : FS w' v xs := by
  obtain ⟨p, c, rfl, h1, h2, h3⟩ := h
  refine ⟨p, c, rfl, h1, h2, fun i hi => ?_⟩
  obtain ⟨b, o, rfl, hc⟩ := h3 i hi
  exact ⟨b, o, rfl, cell_later hb hc⟩
theorem FS.drew {w : World} {v : Value} {xs : List Nat} (h : FS w v xs) (n : Nat) : FS (w.drewN n) v xs := h
end Go.Proofs.Ytldancjofgobnaa

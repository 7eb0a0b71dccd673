/-
  What a run of ice that is known tells of each day. No condition but what each law says.
-/
import Derived.Test.YtiodpahbmoeiaaaIceR
set_option linter.unusedSimpArgs false
set_option linter.unusedVariables false
set_option linter.unusedSectionVars false
namespace Go.Proofs.Ytiodpahbmoeiaaa
open Go Go.RowKit
theorem run_facts {s : St} {i k t : Nat} {ys L : List Nat} (hL : (runV s i k t ys).1 = L) (hok : (runV s i k t ys).2 = true) : L.length = ys.length ∧ ∀ j, j < ys.length → iceB ((cn .f32 i :: L).getD j 0) (cn .f32 k) = true ∧ L.getD j 0 = growC s.k ((cn .f32 i :: L).getD j 0) (cn .f32 k) (cn .f32 (ys.getD j 0)) (cn .f32 t) ∧ fin .f32 (L.getD j 0) = true ∧ L.getD j 0 < 4294967296 := by
  unfold runV at hL hok
  split at hok
  · rename_i hr
    rw [if_pos hr] at hL
    cases h : runI s.k (cn .f32 k) (cn .f32 t) (cn .f32 i) (ys.map (cn .f32)) with
    | none => rw [h] at hok; cases hok
    | some M =>
      rw [h] at hL
      simp only at hL
      subst hL
      have hi : iceB (cn .f32 i) (cn .f32 k) = true := by
        unfold runOk at hr
        simp only [Bool.and_eq_true] at hr
        exact hr.2.1
      obtain ⟨e1, e2⟩ := runI_all h
      rw [List.length_map] at e1
      refine ⟨e1, fun j hj => ?_⟩
      have hj' : j < (ys.map (cn .f32)).length := by rw [List.length_map]; exact hj
      obtain ⟨g1, g2, _, g4⟩ := e2 j hj'
      have e3 : (ys.map (cn .f32)).getD j 0 = cn .f32 (ys.getD j 0) := by
        simp [List.getD_eq_getElem?_getD, List.getElem?_eq_getElem hj]
      rw [e3] at g1
      exact ⟨runI_ice h hi hj', g1, g2, g4⟩
  · cases hok
theorem map_word {z L : List Nat} (h : z.map (cn .f32) = L) {j : Nat} (hj : j < L.length) : cn .f32 (z.getD j 0) = L.getD j 0 := by
  subst h
  rw [List.length_map] at hj
  simp [List.getD_eq_getElem?_getD, List.getElem?_eq_getElem hj]
end Go.Proofs.Ytiodpahbmoeiaaa

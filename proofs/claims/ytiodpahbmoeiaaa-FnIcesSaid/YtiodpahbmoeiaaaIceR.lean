/-
  A run of ice: each day's ice comes of the one ahead. No condition but what each law says.
-/
import Derived.Test.YtiodpahbmoeiaaaRunIce
import Derived.Test.YtiodpahbmoeiaaaIceA
set_option linter.unusedSimpArgs false
set_option linter.unusedVariables false
set_option linter.unusedSectionVars false
namespace Go.Proofs.Ytiodpahbmoeiaaa
open Go Go.RowKit
theorem growC_lt (s : St) (i k a t : Nat) : growC s i k a t < 4294967296 := by
  unfold growC
  split
  · exact fop_lt _ _ _
  · decide +kernel
theorem runI_all {s : St} {k t : Nat} : ∀ {l : List Nat} {i : Nat} {L : List Nat}, runI s k t i l = some L → L.length = l.length ∧ ∀ j, j < l.length → L.getD j 0 = growC s ((i :: L).getD j 0) k (l.getD j 0) t ∧ fin .f32 (L.getD j 0) = true ∧ abv (fop .add .f32 ((i :: L).getD j 0) k) = true ∧ L.getD j 0 < 4294967296
  | [], i, L, h => by
    simp only [runI, Option.some.injEq] at h
    subst h
    exact ⟨rfl, fun j hj => by simp at hj⟩
  | a :: l, i, L, h => by
    simp only [runI] at h
    split at h
    · rename_i hok
      rw [Bool.and_eq_true] at hok
      cases h2 : runI s k t (growC s i k a t) l with
      | none => rw [h2] at h; cases h
      | some M =>
        rw [h2] at h
        simp only [Option.map_some, Option.some.injEq] at h
        subst h
        obtain ⟨e1, e2⟩ := runI_all h2
        refine ⟨by simp [e1], fun j hj => ?_⟩
        match j, hj with
        | 0, _ => exact ⟨rfl, hok.2, hok.1, growC_lt _ _ _ _ _⟩
        | j + 1, hj =>
          have := e2 j (by simpa using hj)
          simpa using this
    · cases h
/-- A day's ice is ice. -/
theorem runI_ice {s : St} {k t : Nat} {l : List Nat} {i : Nat} {L : List Nat} (h : runI s k t i l = some L) (hi : iceB i k = true) {j : Nat} (hj : j < l.length) : iceB ((i :: L).getD j 0) k = true := by
  obtain ⟨_, e⟩ := runI_all h
  obtain ⟨_, _, e3, _⟩ := e j hj
  unfold iceB at hi ⊢
  rw [Bool.and_eq_true, Bool.and_eq_true] at hi
  rw [hi.2.1, e3]
  match j, hj with
  | 0, _ => simpa using hi.1
  | j + 1, hj =>
    obtain ⟨g1, g2, _⟩ := e j (by omega)
    have g3 := lst_grow (s := s) (i := (i :: L).getD j 0) (k := k) (a := l.getD j 0) (t := t) (by rw [← g1]; exact g2)
    rw [← g1] at g3
    simpa using g3
end Go.Proofs.Ytiodpahbmoeiaaa

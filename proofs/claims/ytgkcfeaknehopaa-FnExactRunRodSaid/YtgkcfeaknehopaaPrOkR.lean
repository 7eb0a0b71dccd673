/-
  Rods with other warmths: what is told of them. No condition.
-/
import Derived.Test.YtgkcfeaknehopaaPrRdA
import Derived.Test.YtgkcfeaknehopaaPrPasses
set_option linter.unusedSimpArgs false
set_option linter.unusedVariables false
set_option linter.unusedSectionVars false
namespace Go.Proofs.Ytgkcfeaknehopaa
open Go Go.RowKit
open Go.ChangeShapes Go.WideShapes Go.ChangeAt Go.RowKit Go.Joins
theorem raw_of_cn {ys L : List Nat} (h : ys.map (cn .f32) = L) (hf : (L.any fun x => !fin .f32 x) = false) : ys = L := by
  rw [← h]
  symm
  have : ∀ y ∈ ys, cn .f32 y = y := fun y hy => by
    have hm : cn .f32 y ∈ L := by rw [← h]; exact List.mem_map_of_mem hy
    rw [List.any_eq_false] at hf
    have hf2 := hf _ hm
    have hn : isN .f32 (cn .f32 y) = false := fin_not_nan (by simpa using hf2)
    rw [isN_cn] at hn
    exact cn_of_not hn
  rw [List.map_congr_left this, List.map_id']
def okR (b : Bool) (R : Rd) : Rd := if b then R else nilRd
theorem okR_no {b : Bool} {R : Rd} (h : b = false) : okR b R = nilRd := by rw [h]; rfl
theorem okR_yes {b : Bool} {R : Rd} (h : b = true) : okR b R = R := by rw [h]; rfl
theorem any_map_cn {ys L : List Nat} (h : ys.map (cn .f32) = L) : finL ys = !L.any fun x => !fin .f32 x := by unfold finL; rw [any_cn ys h]
/-- The rod with the words as they are, and the one with the words told. -/
theorem ok_with {P : Rd} {ys L : List Nat} (hP : P.ok = true) (h : ys.map (cn .f32) = L) (hn : ys.length = P.a.length) (hc : L.map (cn .f32) = L) : (Rd.mk P.a P.b P.c ys).ok = (Rd.mk P.a P.b P.c L).ok ∧ ((Rd.mk P.a P.b P.c ys).ok = true → ys = L) := by
  have hl : L.length = ys.length := by rw [← h]; simp
  have h1 := any_map_cn h
  have h2 := any_map_cn hc
  have e : (Rd.mk P.a P.b P.c ys).ok = (Rd.mk P.a P.b P.c L).ok := by simp only [Rd.ok, Rd.sized, h1, h2, hl]
  refine ⟨e, fun ho => raw_of_cn h ?_⟩
  unfold Rd.ok at ho
  simp only [Bool.and_eq_true] at ho
  have := ho.2.2.2.2
  rw [h1, Bool.not_eq_true'] at this
  exact this
theorem take_set {zs : List Nat} {k r : Nat} (hk : k < zs.length) : (zs.set k r).take (k + 1) = zs.take k ++ [r] := by
  rw [List.take_add_one, List.take_set_of_le (Nat.le_refl _)]
  simp [hk]
end Go.Proofs.Ytgkcfeaknehopaa

/-
  Which words are finite; shares; variadic calls with few numbers. No condition but what each law says.
-/
import Derived.Test.YtgkcfeaknehopaaPrHeat
set_option linter.unusedSimpArgs false
set_option linter.unusedVariables false
set_option linter.unusedSectionVars false
namespace Go.Proofs.Ytgkcfeaknehopaa
open Go Go.RowKit
/-- A number if all is valid and it is finite. -/
def gF (ok : Bool) (c : Nat) : Nat := if ok then chk c else cn .f32 0
def gB (ok : Bool) (c : Nat) : Bool := ok && fin .f32 c
theorem cn_chk {c : Nat} (h : cn .f32 c = c) : cn .f32 (chk c) = chk c := by unfold chk; split; exact h; exact cn_cn .f32 0
theorem cn_gF {ok : Bool} {c : Nat} (h : cn .f32 c = c) : cn .f32 (gF ok c) = gF ok c := by unfold gF; split; exact cn_chk h; exact cn_cn .f32 0
theorem FS1 {w : World} {b x : Nat} (h : w.cell? ⟨b, 0, none⟩ = some (.float .f32 x)) : FS w (.slice (some ⟨b, 0, none⟩) 1 1) [x] := by
  refine FS_of (o := 0) (n := 1) (c := 1) rfl (by omega) (by omega) fun i hi => ?_
  obtain rfl : i = 0 := by omega
  exact h
theorem arePos1_any (x : Nat) (v : Value) (w : World) (hs : FS w v [x]) : Calls Try.prog 72 #[v] w (RB w (abv (cn .f32 x))) := by
  have h := arePositive_any [x] v w hs
  simp only [abv_neg, List.any_cons, List.any_nil, Bool.or_false, Bool.not_not] at h
  exact h
end Go.Proofs.Ytgkcfeaknehopaa

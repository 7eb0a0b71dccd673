/-
  How warm stuff with a heat is, which part of it is molten, how easily heat flows (the program's and the reference's), each function proved once. No condition but what each contract says.
-/
import Derived.Test.YtldancjofgobnaaTrk
import Derived.Test.YtldancjofgobnaaStuff
set_option linter.unusedSimpArgs false
set_option linter.unusedVariables false
set_option linter.unusedSectionVars false
namespace Go.Proofs.Ytldancjofgobnaa
open Go Go.RowKit
/-- A stuff, all NaNs taken as one. -/
def St.k (s : St) : St := ⟨cn .f32 s.a, cn .f32 s.b, cn .f32 s.c, cn .f32 s.d, cn .f32 s.p, cn .f32 s.l⟩
def warmC (s : St) (h : Nat) : Nat := if flt .f32 h (cn .f32 0) then fop .add .f32 s.p (fop .quo .f32 h s.a) else if fgt .f32 h s.l then fop .add .f32 s.p (fop .quo .f32 (fop .sub .f32 h s.l) s.b) else s.p
def partC (s : St) (h : Nat) : Nat := if flt .f32 h (cn .f32 0) then cn .f32 0 else if fgt .f32 h s.l then cn .f32 1065353216 else fop .quo .f32 h s.l
def easeC (s : St) (h : Nat) : Nat := fop .add .f32 s.c (fop .mul .f32 (partC s h) (fop .sub .f32 s.d s.c))
def heatC (s : St) (x p : Nat) : Nat := if flt .f32 x s.p then fop .mul .f32 s.a (fop .sub .f32 x s.p) else if fgt .f32 x s.p then fop .add .f32 s.l (fop .mul .f32 s.b (fop .sub .f32 x s.p)) else fop .mul .f32 p s.l
theorem cn_warmC (s : St) (h : Nat) : cn .f32 (warmC s.k h) = warmC s.k h := by unfold warmC; split; exact cn_fop _ _ _ _; split; exact cn_fop _ _ _ _; exact cn_cn _ _
theorem cn_partC (s : St) (h : Nat) : cn .f32 (partC s h) = partC s h := by unfold partC; split; exact cn_cn _ _; split; exact cn_cn _ _; exact cn_fop _ _ _ _
theorem cn_easeC (s : St) (h : Nat) : cn .f32 (easeC s h) = easeC s h := cn_fop _ _ _ _
end Go.Proofs.Ytldancjofgobnaa

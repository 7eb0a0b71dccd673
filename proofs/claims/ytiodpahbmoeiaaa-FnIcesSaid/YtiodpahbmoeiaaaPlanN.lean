/-
  In a plan: a call that hands back some whole number of a range. No condition; nothing of the program is named here.
-/
import Derived.Test.YtiodpahbmoeiaaaBy
set_option linter.unusedSimpArgs false
set_option linter.unusedVariables false
set_option linter.unusedSectionVars false
namespace Go.Proofs.Ytiodpahbmoeiaaa
open Go Go.RowKit
def Clm.num (lo hi : Int) : Clm := ⟨1, fun _ v => ∃ r, v = .int .i64 r ∧ (lo ≤ hi → lo ≤ r ∧ r ≤ hi), fun _ _ _ => True, fun _ => ⟨_, lo, rfl, fun h => ⟨Int.le_refl _, h⟩⟩, fun _ _ _ _ _ _ => trivial, fun h => nomatch h⟩
theorem wpC_callN {ops : Array Oper} {Q : Exit → Act → World → Prop} {W : World} {l : List Oper} {cs : List Clm} {i : Nat} {ks : List (Nat × (World → Prop))} {a : Act} {o : Oper} {lo hi : Int} (hlh : lo ≤ hi) (hw : Region.wanted o (yielded ops a.tmps) = true) {f : FuncId} {args : Array Value} (h1 : ∀ w, (execOp a.eval o).run Try.prog w = .ok (.enter f args) w)
    (hc : ∀ w, Below W.heap.size W w → depK o ks w → Calls Try.prog f args w (RN w lo hi))
    (h : ∀ r, lo ≤ r → r ≤ hi → wpC Try.prog ops Q W l cs (i + 1) ((i, fun _ => True) :: ks) (a.put o.dst (.int .i64 r))) : wpC Try.prog ops Q W (o :: l) (Clm.num lo hi :: cs) i ks a := by
  refine wpC_call (Clm.num lo hi) rfl hw h1 (fun w hb hk => (hc w hb hk).mono ?_) ?_
  · rintro e w' ⟨r, rfl, hr, n, rfl⟩; exact ⟨_, rfl, below_draws _, ⟨r, rfl, fun _ => hr⟩, trivial⟩
  · rintro v ⟨r, rfl, hr⟩; exact h r (hr hlh).1 (hr hlh).2
end Go.Proofs.Ytiodpahbmoeiaaa

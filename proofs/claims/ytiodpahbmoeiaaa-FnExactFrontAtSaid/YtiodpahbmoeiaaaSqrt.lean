/-
  Square roots in single precision (the program's and the reference's). No condition but what each contract says.
-/
import Derived.Test.YtiodpahbmoeiaaaRoot
import Derived.Laws.Externs
set_option linter.unusedSimpArgs false
set_option linter.unusedVariables false
set_option linter.unusedSectionVars false
namespace Go.Proofs.Ytiodpahbmoeiaaa
open Go Go.RowKit
theorem run_sqrt (x : Nat) (w : World) : ∃ r n, (callFunc 95 #[.float .f64 x]).run Try.prog w = .ok (.value (.float .f64 r)) (w.drewN n) ∧ cn .f64 r = sqC (cn .f64 x) := by
  have h := run_callFunc_extern (P := Try.prog) (e := Extern.MathSqrt.sqrt) Try.func95 (by kernel_rfl) (by kernel_rfl) (by kernel_rfl) (by kernel_rfl) #[.float .f64 x] w
  have hq : Extern.MathSqrt.sqrt #[.float .f64 x] = (match FloatKind.f64.format.sqrt x with | some r => pure (.float .f64 r) | none => do pure (.float .f64 (← choose (.nanBits .f64 x x)))) := rfl
  rw [h, sqC_cn, hq]
  unfold sqC
  cases hs : FloatKind.f64.format.sqrt x with
  | some r =>
    refine ⟨r, 0, ?_, ?_⟩
    · simp [hs, Result.andThen]; rfl
    · exact cn_of_not (map_write_not_nan (fun _ => root_not_nan) hs)
  | none =>
    have hf : (Question.nanBits .f64 x x).forced = false := rfl
    refine ⟨(Question.nanBits .f64 x x).cut (w.tape w.drawn (.nanBits .f64 x x)), 1, ?_, ?_⟩
    · simp [hs, hf, World.drew_is_drewN, Result.andThen]
    · rw [cn_of_isN (isN_nanBits _ _ _ _)]; rfl
theorem wpList_sqrt {w : World} {ops : Array Oper} {rest : List Oper} {o : Oper} {a : Act} {Q : Exit → Act → World → Prop} (hg : o.guard = none) {X : Operand} {T : TypeId}
    (ho : o.op = .call { callee := .value (.func 95), args := #[X], argTypes := #[T] }) {x : Nat} (hx : a.eval X = .float .f64 x)
    (h : ∀ r n, (∀ cx, cn .f64 x = cx → cn .f64 r = sqC cx) → wpList Try.prog ops Q rest (a.put o.dst (.float .f64 r)) (w.drewN n)) : wpList Try.prog ops Q (o :: rest) a w := by
  obtain ⟨r, n, h1, h2⟩ := run_sqrt x w
  refine wpList_plain hg fun K hK => ?_
  have he : (execOp a.eval o).run Try.prog w = .ok (.value (.float .f64 r)) (w.drewN n) := by
    unfold execOp
    simp only [ho, resolve, invoke, Sem.run_bind, Sem.run_pure, Result.andThen_ok, List.map_toArray, List.map_cons, List.map_nil, hx, h1]
    have ef : a.eval (.func 95) = .func (.func 95) #[] #[] := rfl
    rw [ef]
    simp [Deferred.ofValue, h1, Result.andThen]
  unfold Oper.wp
  rw [he]
  exact hK _ _ (h r n (by rintro cx rfl; exact h2))
end Go.Proofs.Ytiodpahbmoeiaaa

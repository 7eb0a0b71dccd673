/-
  Rods that are handed back with a number, in plans. No condition but what each contract says.
-/
import Derived.Test.YtgkcfeaknehopaaEvn
set_option linter.unusedSimpArgs false
set_option linter.unusedVariables false
set_option linter.unusedSectionVars false
namespace Go.Proofs.Ytgkcfeaknehopaa
open Go Go.RowKit
open Go.ChangeShapes Go.WideShapes Go.ChangeAt Go.RowKit Go.Joins
def Clm.rodFB (R : Rd) (f : Nat) (b : Bool) (B : Nat) : Clm := ⟨1, fun _ v => ∃ m g, cn .f32 g = cn .f32 f ∧ v = .tuple #[rdV R m, .float .f32 g, .bool b], fun _ v w => ∀ m g, v = .tuple #[rdV R m, .float .f32 g, .bool b] → RdA B w R m, fun _ => ⟨_, nilRL, f, rfl, rfl⟩,
  fun _ v w w' h hb u g e => (h u g e).later hb, fun h => nomatch h⟩
theorem wpC_callRFB {P : Program} {ops : Array Oper} {Q : Exit → Act → World → Prop} {W : World} {l : List Oper} {cs : List Clm} {i : Nat} {ks : List (Nat × (World → Prop))} {a : Act} {o : Oper} {R : Rd} {F : Nat} {b : Bool} (hw : Region.wanted o (yielded ops a.tmps) = true) {f : FuncId} {args : Array Value} (h1 : ∀ w, (execOp a.eval o).run P w = .ok (.enter f args) w)
    (hc : ∀ w, Below W.heap.size W w → depK o ks w → Calls P f args w (BRFB w R (cn .f32 F) b))
    (h : ∀ m g, cn .f32 g = cn .f32 F → wpC P ops Q W l cs (i + 1) ((i, fun w => ∀ u g', Value.tuple #[rdV R m, .float .f32 g, .bool b] = .tuple #[rdV R u, .float .f32 g', .bool b] → RdA W.heap.size w R u) :: ks) (a.put o.dst (.tuple #[.agg #[.slice m.p1 R.a.length m.c1, .slice m.p2 R.b.length m.c2, .slice m.p3 R.c.length m.c3, .slice m.p4 R.d.length m.c4], .float .f32 g, .bool b]))) : wpC P ops Q W (o :: l) (Clm.rodFB R F b W.heap.size :: cs) i ks a := by
  refine wpC_call (Clm.rodFB R F b W.heap.size) rfl hw h1 (fun w hb hk => (hc w hb hk).mono ?_) ?_
  · rintro e w' ⟨m, g, hg, rfl, hbl, hX⟩
    refine ⟨_, rfl, hbl, ⟨m, g, hg, rfl⟩, fun u g' e => ?_⟩
    have e1 : rdV R m = rdV R u := by
      have h2 : Value.tuple #[rdV R m, .float .f32 g, .bool b] = .tuple #[rdV R u, .float .f32 g', .bool b] := e
      simp only [Value.tuple.injEq, Array.mk.injEq, List.cons.injEq] at h2
      exact h2.1
    rw [← rdV_inj e1]
    exact hX.ra hb.size
  · rintro v ⟨m, g, hg, rfl⟩; exact h m g hg
end Go.Proofs.Ytgkcfeaknehopaa

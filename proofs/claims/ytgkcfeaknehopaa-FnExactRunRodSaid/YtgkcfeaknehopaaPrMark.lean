/-
  Marks: what a call leaves that writes into one own slice; slices that lie apart. No condition but what each law says.
-/
import Derived.Test.YtgkcfeaknehopaaPrApp
set_option linter.unusedSimpArgs false
set_option linter.unusedVariables false
set_option linter.unusedSectionVars false
namespace Go.Proofs.Ytgkcfeaknehopaa
open Go Go.RowKit
theorem OF.sep {B B' : Nat} {w w' : World} {v u : Value} {xs ys : List Nat} (h1 : OF B w v xs) (h2 : OF B' w' u ys) (h : w.heap.size ≤ B') : v.ownBlock = none ∨ v.ownBlock ≠ u.ownBlock := by
  cases hv : v.ownBlock with
  | none => exact .inl rfl
  | some k =>
    refine .inr fun e => ?_
    have a := (h1.block k hv).2
    have b := (h2.block k e.symm).1
    omega
theorem OF.sep' {B B' : Nat} {w w' : World} {v u : Value} {xs ys : List Nat} (h1 : OF B w v xs) (h2 : OF B' w' u ys) (h : w'.heap.size ≤ B) : v.ownBlock = none ∨ v.ownBlock ≠ u.ownBlock := by
  cases hv : v.ownBlock with
  | none => exact .inl rfl
  | some k =>
    refine .inr fun e => ?_
    have a := (h1.block k hv).1
    have b := (h2.block k e.symm).2
    omega
theorem FS.alloc {w : World} {v : Value} {xs : List Nat} (h : FS w v xs) (o : Obj) : FS (w.alloc o) v xs := h.later ((Below.refl _ _).alloc (Nat.le_refl _) o)
theorem FS.drewN {w : World} {v : Value} {xs : List Nat} (h : FS w v xs) (n : Nat) : FS (w.drewN n) v xs := h
end Go.Proofs.Ytgkcfeaknehopaa

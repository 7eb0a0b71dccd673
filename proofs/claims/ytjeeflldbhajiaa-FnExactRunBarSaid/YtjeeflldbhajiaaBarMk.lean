/-
  Marks in a bar of the call's own. No condition but what each contract says.
-/
import Derived.Test.YtjeeflldbhajiaaTurn
import Derived.Test.YtjeeflldbhajiaaBarLaw
set_option linter.unusedSimpArgs false
set_option linter.unusedVariables false
set_option linter.unusedSectionVars false
namespace Go.Proofs.Ytjeeflldbhajiaa
open Go Go.RowKit
open Go.ChangeShapes Go.WideShapes Go.ChangeAt Go.RowKit Go.Joins
theorem FX.fs {B S : Nat} {w : World} {u : Value} {xs : List Nat} (h : FX B S w u xs) : FS w u xs := OF.fs h.1
set_option maxHeartbeats 1000000 in
theorem markBar_any {B S : Nat} (s : St) (p : Nat) (xs : List Nat) (u : Value) (k0 : Int) (w : World) (hs : FX B S w u xs) (hS : S ≤ w.heap.size) (hk : 0 ≤ k0 ∧ k0 ≤ 1048576) (hn : xs.length ≤ 1048576) : Calls Try.prog 32 #[.agg #[.float .f32 s.a, .float .f32 s.b, .float .f32 s.c, .float .f32 s.d, .float .f32 s.p, .float .f32 s.l, .float .f32 p, u], .int .i64 k0] w (fun e w' => e = .returned (.int .i64 (k0 + xs.length)) ∧ Turn B S w w' ∧ w.heap.size ≤ w'.heap.size ∧ FX B S w' u (marks k0 xs.length)) := by
  have HX := Lib.hid hs
  obtain ⟨q, c, rfl⟩ := OF.shape hs.1
  clear hs
  go_enter Try.func32, Try.ntmps32
  go_wp2_with fail
  refine (markX_any xs _ k0 _ (FX.alloc HX.out _) hk hn).mono ?_
  rintro e w' ⟨rfl, hg, hgs, hX⟩
  have HT := Lib.hid (((Turn.refl B S w).alloc _).trans hg)
  have HO := Lib.hid hX
  clear hg hX
  go_wp2_with fail
  go_ret
  exact ⟨rfl, HT.out, HT.out.size, HO.out⟩
end Go.Proofs.Ytjeeflldbhajiaa

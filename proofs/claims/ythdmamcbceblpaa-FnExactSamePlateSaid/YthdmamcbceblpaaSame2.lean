/-
  Which stuffs are the same (the program's and the reference's), each proved once; the law. No condition but what each contract says.
-/
import Derived.Test.YthdmamcbceblpaaSame
import Derived.Test.YthdmamcbceblpaaPlan
set_option linter.unusedSimpArgs false
set_option linter.unusedVariables false
set_option linter.unusedSectionVars false
namespace Go.Proofs.Ythdmamcbceblpaa
open Go Go.RowKit
open Go.ChangeShapes Go.WideShapes Go.ChangeAt Go.RowKit Go.Joins
def St.nums (s : St) : List Nat := [s.a, s.b, s.c, s.d, s.p, s.l]
def St.sm (s t : St) : Bool := same s.a t.a && (same s.b t.b && (same s.c t.c && (same s.d t.d && (same s.p t.p && same s.l t.l))))
def St.lt (s : St) : Prop := s.a < 4294967296 ∧ s.b < 4294967296 ∧ s.c < 4294967296 ∧ s.d < 4294967296 ∧ s.p < 4294967296 ∧ s.l < 4294967296
theorem St.sm_nums (s t : St) : eqL Go.Proofs.Ythdmamcbceblpaa.same s.nums t.nums = s.sm t := by
  simp [eqL, St.nums, St.sm, List.range, List.range.loop]
theorem St.nums_lt {s : St} (h : s.lt) (j : Nat) : s.nums.getD j 0 < 4294967296 := by
  obtain ⟨h0, h1, h2, h3, h4, h5⟩ := h
  rcases j with _ | _ | _ | _ | _ | _ | j <;> simp [St.nums, *]
set_option maxHeartbeats 400000 in
theorem sameNumbers_any (xs ys : List Nat) (v u : Value) (w : World) (hs : FS w v xs) (ht : FS w u ys) (hx : ∀ j, xs.getD j 0 < 4294967296) (hy : ∀ j, ys.getD j 0 < 4294967296) : Calls Try.prog 61 #[v, u] w (RB w (eqL same xs ys)) := by
  have HS := Lib.hid hs
  have HT := Lib.hid ht
  clear hs ht
  go_enter Try.func61, Try.ntmps61
  go_wp2_with fail
  refine (EqualFunc_any 98 same xs ys v u _ HS.out HT.out (fun x y w' => by kernel_rfl) (fun j h1 h2 m => SameNumber_any _ _ (hx j) (hy j) _)).mono ?_
  rintro e w' ⟨rfl, n, rfl⟩
  go_wp2_with fail
  go_ret
  exact ⟨rfl, _, rfl⟩
/-- A slice of these words. -/
def Clm.fs (xs : List Nat) : Clm := ⟨1, fun _ _ => True, fun _ v w => FS w v xs, fun _ => ⟨undef, trivial⟩, fun _ _ _ _ h hb => h.later hb, fun h => nomatch h⟩
theorem RB_BV {w : World} {b : Bool} {e : Ending} {w' : World} (h : RB w b e w') : BV w (.bool b) e w' := by
  obtain ⟨rfl, n, rfl⟩ := h
  exact ⟨rfl, below_drewN (Below.refl _ _) _⟩
end Go.Proofs.Ythdmamcbceblpaa

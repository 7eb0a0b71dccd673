/-
  Which heat a warmth has (the program's and the reference's), and the law. No condition but what each contract says.
-/
import Derived.Test.YtjeeflldbhajiaaFin
set_option linter.unusedSimpArgs false
set_option linter.unusedVariables false
set_option linter.unusedSectionVars false
namespace Go.Proofs.Ytjeeflldbhajiaa
open Go Go.RowKit
open Go.ChangeShapes Go.WideShapes Go.ChangeAt Go.RowKit Go.Joins
def okFor (s : St) (x p : Nat) : Bool := s.ok && (fin .f32 (cn .f32 x) && shr (cn .f32 p))
theorem okFor_impl (s : St) (x p : Nat) : okFor s x p = (s.ok && (fin .f32 (cn .f32 x) && (fin .f32 (cn .f32 p) && (!flt .f32 (cn .f32 p) (cn .f32 0) && !fgt .f32 (cn .f32 p) (cn .f32 1065353216))))) := by unfold okFor; rw [shr_fin]
theorem chain5 (b0 b1 b2 b3 b4 : Bool) : (b0 = false) ∨ (b0 = true ∧ b1 = false) ∨ (b0 = true ∧ b1 = true ∧ b2 = false) ∨ (b0 = true ∧ b1 = true ∧ b2 = true ∧ b3 = true) ∨ (b0 = true ∧ b1 = true ∧ b2 = true ∧ b3 = false ∧ b4 = true) ∨ (b0 = true ∧ b1 = true ∧ b2 = true ∧ b3 = false ∧ b4 = false) := by
  cases b0 <;> cases b1 <;> cases b2 <;> cases b3 <;> cases b4 <;> simp
set_option maxHeartbeats 1000000 in
theorem implHeatFor_any (s : St) (x p : Nat) (w : World) : Calls Try.prog 85 #[.agg #[.float .f32 s.a, .float .f32 s.b, .float .f32 s.c, .float .f32 s.d, .float .f32 s.p, .float .f32 s.l], .float .f32 x, .float .f32 p] w (BFB w .f32 (gF (okFor s x p) (heatC s.k (cn .f32 x) (cn .f32 p))) (gB (okFor s x p) (heatC s.k (cn .f32 x) (cn .f32 p)))) := by
  rw [okFor_impl]
  rcases chain5 s.ok (fin .f32 (cn .f32 x)) (fin .f32 (cn .f32 p)) (flt .f32 (cn .f32 p) (cn .f32 0)) (fgt .f32 (cn .f32 p) (cn .f32 1065353216)) with h0 | ⟨h0, h1⟩ | ⟨h0, h1, h2⟩ | ⟨h0, h1, h2, h3⟩ | ⟨h0, h1, h2, h3, h4⟩ | ⟨h0, h1, h2, h3, h4⟩
  all_goals
    go_enter Try.func85, Try.ntmps85
    go_wp2_with (first | (with_reducible refine at_list ?_; refine wpList_fop rfl rfl rfl rfl rfl ?_; intro r n hr0; have hr := hr0 _ _ (by first | with_reducible assumption | exact rfl) (by first | with_reducible assumption | exact rfl); clear hr0) | (with_reducible refine at_list ?_; refine wpList_neg rfl rfl rfl ?_; intro r hr0; have hr := hr0 _ (by first | with_reducible assumption | exact rfl); clear hr0) | (with_reducible refine at_list ?_; refine wpList_fop_g rfl rfl rfl rfl rfl ?_; intro r n hr0; have hr := hr0 _ _ (by first | with_reducible assumption | exact rfl) (by first | with_reducible assumption | exact rfl); clear hr0) | (with_reducible refine at_list ?_; refine wpList_wide_g rfl rfl Try.underlying22 Try.underlying40 rfl ?_; intro r n hr0; have hr := hr0 _ (by first | with_reducible assumption | exact rfl); clear hr0) | (with_reducible refine at_list ?_; refine wpList_wide rfl rfl rfl Try.underlying22 Try.underlying40 ?_; intro r n hr0; have hr := hr0 _ (by first | with_reducible assumption | exact rfl); clear hr0) | (go_at_call 63; refine (implValidStuff_any _ _).mono ?_; rintro e w' ⟨rfl, hb⟩; obtain ⟨hT, hk⟩ := bv_next hb (by (repeat (with_reducible first | assumption | apply Trk.alloc | apply Trk.setCell | apply Trk.drewN | apply Trk.drew | exact Trk.nil _))); simp only [SameOn, World.size_alloc, World.size_setCell, World.size_drew, size_drewN', and_true] at hk; have hsz := Below.size hb; (try simp only [World.size_alloc, World.size_setCell, World.size_drew, size_drewN'] at hsz)) | (go_at_call 67; refine (IsFinite_any _ _).mono ?_; rintro e w' ⟨rfl, n, rfl⟩) | (go_at_call 71; refine (checked_any _ _).mono ?_; rintro e w' ⟨r, rfl, hr, n, rfl⟩))
    all_goals
      go_ret2
      exact ⟨_, by first | rfl | (simp [gB, heatC, St.k, *] <;> rfl), by simp [gF, heatC, St.k, *], by (repeat (first | (with_reducible exact Below.refl _ _) | (with_reducible assumption) | (with_reducible refine below_then ?_ (by assumption)) | (with_reducible refine Below.trans ?_ (by assumption)) | (with_reducible refine below_drewN ?_ _) | (with_reducible apply Below.drew) | (with_reducible refine below_alloc ?_ _) | refine Below.setCell ?_ (by first | (simp; done) | (simp; omega)) _))⟩
end Go.Proofs.Ytjeeflldbhajiaa

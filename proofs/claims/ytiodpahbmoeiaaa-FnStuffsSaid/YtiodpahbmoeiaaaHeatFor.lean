/-
  Which heat a warmth has (the program's and the reference's), and the law. No condition but what each contract says.
-/
import Derived.Test.YtiodpahbmoeiaaaFin
set_option linter.unusedSimpArgs false
set_option linter.unusedVariables false
set_option linter.unusedSectionVars false
namespace Go.Proofs.Ytiodpahbmoeiaaa
open Go Go.RowKit
open Go.ChangeShapes Go.WideShapes Go.ChangeAt Go.RowKit Go.Joins
def okFor (s : St) (x p : Nat) : Bool := s.ok && (fin .f32 (cn .f32 x) && shr (cn .f32 p))
theorem okFor_impl (s : St) (x p : Nat) : okFor s x p = (s.ok && (fin .f32 (cn .f32 x) && (fin .f32 (cn .f32 p) && (!flt .f32 (cn .f32 p) (cn .f32 0) && !fgt .f32 (cn .f32 p) (cn .f32 1065353216))))) := by unfold okFor; rw [shr_fin]
theorem chain5 (b0 b1 b2 b3 b4 : Bool) : (b0 = false) ∨ (b0 = true ∧ b1 = false) ∨ (b0 = true ∧ b1 = true ∧ b2 = false) ∨ (b0 = true ∧ b1 = true ∧ b2 = true ∧ b3 = true) ∨ (b0 = true ∧ b1 = true ∧ b2 = true ∧ b3 = false ∧ b4 = true) ∨ (b0 = true ∧ b1 = true ∧ b2 = true ∧ b3 = false ∧ b4 = false) := by
  cases b0 <;> cases b1 <;> cases b2 <;> cases b3 <;> cases b4 <;> simp
set_option maxHeartbeats 1000000 in
theorem implHeatFor_any (s : St) (x p : Nat) (w : World) : Calls Try.prog 19 #[.agg #[.float .f32 s.a, .float .f32 s.b, .float .f32 s.c, .float .f32 s.d, .float .f32 s.p, .float .f32 s.l], .float .f32 x, .float .f32 p] w (BFB w .f32 (gF (okFor s x p) (heatC s.k (cn .f32 x) (cn .f32 p))) (gB (okFor s x p) (heatC s.k (cn .f32 x) (cn .f32 p)))) := by
  rw [okFor_impl]
  rcases chain5 s.ok (fin .f32 (cn .f32 x)) (fin .f32 (cn .f32 p)) (flt .f32 (cn .f32 p) (cn .f32 0)) (fgt .f32 (cn .f32 p) (cn .f32 1065353216)) with h0 | ⟨h0, h1⟩ | ⟨h0, h1, h2⟩ | ⟨h0, h1, h2, h3⟩ | ⟨h0, h1, h2, h3, h4⟩ | ⟨h0, h1, h2, h3, h4⟩
  all_goals
    go_enter Try.func19, Try.ntmps19
    go_wp2_with (first | (with_reducible refine at_list ?_; refine wpList_fop rfl rfl rfl rfl rfl ?_; intro r n hr0; have hr := hr0 _ _ (by first | with_reducible assumption | exact rfl) (by first | with_reducible assumption | exact rfl); clear hr0) | (with_reducible refine at_list ?_; refine wpList_neg rfl rfl rfl ?_; intro r hr0; have hr := hr0 _ (by first | with_reducible assumption | exact rfl); clear hr0) | (with_reducible refine at_list ?_; refine wpList_fop_g rfl rfl rfl rfl rfl ?_; intro r n hr0; have hr := hr0 _ _ (by first | with_reducible assumption | exact rfl) (by first | with_reducible assumption | exact rfl); clear hr0) | (with_reducible refine at_list ?_; refine wpList_wide_g rfl rfl Try.underlying22 Try.underlying26 rfl ?_; intro r n hr0; have hr := hr0 _ (by first | with_reducible assumption | exact rfl); clear hr0) | (with_reducible refine at_list ?_; refine wpList_wide rfl rfl rfl Try.underlying22 Try.underlying26 ?_; intro r n hr0; have hr := hr0 _ (by first | with_reducible assumption | exact rfl); clear hr0) | (go_at_call 41; refine (implValidStuff_any _ _).mono ?_; rintro e w' ⟨rfl, hb⟩; obtain ⟨hT, hk⟩ := bv_next hb (by (repeat (with_reducible first | assumption | apply Trk.alloc | apply Trk.setCell | apply Trk.drewN | apply Trk.drew | exact Trk.nil _))); simp only [SameOn, World.size_alloc, World.size_setCell, World.size_drew, size_drewN', and_true] at hk; have hsz := Below.size hb; (try simp only [World.size_alloc, World.size_setCell, World.size_drew, size_drewN'] at hsz)) | (go_at_call 52; refine (IsFinite_any _ _).mono ?_; rintro e w' ⟨rfl, n, rfl⟩) | (go_at_call 57; refine (checked_any _ _).mono ?_; rintro e w' ⟨r, rfl, hr, n, rfl⟩))
    all_goals
      go_ret2
      exact ⟨_, by first | rfl | (simp [gB, heatC, St.k, *] <;> rfl), by simp [gF, heatC, St.k, *], by (repeat (first | (with_reducible exact Below.refl _ _) | (with_reducible assumption) | (with_reducible refine below_then ?_ (by assumption)) | (with_reducible refine Below.trans ?_ (by assumption)) | (with_reducible refine below_drewN ?_ _) | (with_reducible apply Below.drew) | (with_reducible refine below_alloc ?_ _) | refine Below.setCell ?_ (by first | (simp; done) | (simp; omega)) _))⟩
set_option maxHeartbeats 1000000 in
theorem specHeatFor_any (s : St) (x p : Nat) (w : World) : Calls Try.prog 17 #[.agg #[.float .f32 s.a, .float .f32 s.b, .float .f32 s.c, .float .f32 s.d, .float .f32 s.p, .float .f32 s.l], .float .f32 x, .float .f32 p] w (BFB w .f32 (gF (okFor s x p) (heatC s.k (cn .f32 x) (cn .f32 p))) (gB (okFor s x p) (heatC s.k (cn .f32 x) (cn .f32 p)))) := by
  rcases h0 : s.ok <;> rcases h1 : fin .f32 (cn .f32 x) <;> rcases h2 : shr (cn .f32 p)
  all_goals
    go_enter Try.func17, Try.ntmps17
    go_wp2_with (first | (with_reducible refine at_list ?_; refine wpList_fop rfl rfl rfl rfl rfl ?_; intro r n hr0; have hr := hr0 _ _ (by first | with_reducible assumption | exact rfl) (by first | with_reducible assumption | exact rfl); clear hr0) | (with_reducible refine at_list ?_; refine wpList_neg rfl rfl rfl ?_; intro r hr0; have hr := hr0 _ (by first | with_reducible assumption | exact rfl); clear hr0) | (with_reducible refine at_list ?_; refine wpList_fop_g rfl rfl rfl rfl rfl ?_; intro r n hr0; have hr := hr0 _ _ (by first | with_reducible assumption | exact rfl) (by first | with_reducible assumption | exact rfl); clear hr0) | (with_reducible refine at_list ?_; refine wpList_wide_g rfl rfl Try.underlying22 Try.underlying26 rfl ?_; intro r n hr0; have hr := hr0 _ (by first | with_reducible assumption | exact rfl); clear hr0) | (with_reducible refine at_list ?_; refine wpList_wide rfl rfl rfl Try.underlying22 Try.underlying26 ?_; intro r n hr0; have hr := hr0 _ (by first | with_reducible assumption | exact rfl); clear hr0) | (go_at_call 54; refine (l03Stuff_any s _ _ _ (by unfold St.at; refine ⟨?_, ?_, ?_, ?_, ?_, ?_⟩ <;> go_simp)).mono ?_; rintro e w' ⟨rfl, n, rfl⟩) | (go_at_call 48; refine (l01Finite_any _ _).mono ?_; rintro e w' ⟨rfl, n, rfl⟩) | (go_at_call 55; refine (l02Share_any _ _).mono ?_; rintro e w' ⟨rfl, n, rfl⟩) | (go_at_call 56; refine (l03Heat_any s _ _ _ _ _ (by unfold St.at; refine ⟨?_, ?_, ?_, ?_, ?_, ?_⟩ <;> go_simp)).mono ?_; rintro e w' ⟨r, rfl, hr, n, rfl⟩) | (go_at_call 49; refine (l02Number_any _ _).mono ?_; rintro e w' ⟨r, rfl, hr, n, rfl⟩))
    all_goals
      go_ret2
      exact ⟨_, by first | rfl | (simp [gB, okFor, *] <;> rfl), by simp [gF, okFor, *], by (repeat (first | (with_reducible exact Below.refl _ _) | (with_reducible assumption) | (with_reducible refine below_then ?_ (by assumption)) | (with_reducible refine Below.trans ?_ (by assumption)) | (with_reducible refine below_drewN ?_ _) | (with_reducible apply Below.drew) | (with_reducible refine below_alloc ?_ _) | refine Below.setCell ?_ (by first | (simp; done) | (simp; omega)) _))⟩
set_option maxHeartbeats 1000000 in
theorem walk_FnExactHeatFor (s : St) (x p : Nat) (_ : s.wf) (_ : (Lit.float .f32 x).wf = true) (_ : (Lit.float .f32 p).wf = true) (w : World) : Calls Try.prog 4 #[.agg #[.float .f32 s.a, .float .f32 s.b, .float .f32 s.c, .float .f32 s.d, .float .f32 s.p, .float .f32 s.l], .float .f32 x, .float .f32 p] w (BV w (.bool true)) := by
  obtain ⟨c, b, h1, h2⟩ : ∃ c b, (∀ w, Calls Try.prog 17 #[.agg #[.float .f32 s.a, .float .f32 s.b, .float .f32 s.c, .float .f32 s.d, .float .f32 s.p, .float .f32 s.l], .float .f32 x, .float .f32 p] w (BFB w .f32 c b)) ∧ (∀ w, Calls Try.prog 19 #[.agg #[.float .f32 s.a, .float .f32 s.b, .float .f32 s.c, .float .f32 s.d, .float .f32 s.p, .float .f32 s.l], .float .f32 x, .float .f32 p] w (BFB w .f32 c b)) := ⟨_, _, specHeatFor_any s x p, implHeatFor_any s x p⟩
  have H1 := Lib.hid h1
  have H2 := Lib.hid h2
  clear h1 h2
  go_enter Try.func4, Try.ntmps4
  go_wp2_with (first | (with_reducible refine at_list ?_; refine wpList_fop rfl rfl rfl rfl rfl ?_; intro r n hr0; have hr := hr0 _ _ (by first | with_reducible assumption | exact rfl) (by first | with_reducible assumption | exact rfl); clear hr0) | (with_reducible refine at_list ?_; refine wpList_neg rfl rfl rfl ?_; intro r hr0; have hr := hr0 _ (by first | with_reducible assumption | exact rfl); clear hr0) | (with_reducible refine at_list ?_; refine wpList_fop_g rfl rfl rfl rfl rfl ?_; intro r n hr0; have hr := hr0 _ _ (by first | with_reducible assumption | exact rfl) (by first | with_reducible assumption | exact rfl); clear hr0) | (with_reducible refine at_list ?_; refine wpList_wide_g rfl rfl Try.underlying22 Try.underlying26 rfl ?_; intro r n hr0; have hr := hr0 _ (by first | with_reducible assumption | exact rfl); clear hr0) | (with_reducible refine at_list ?_; refine wpList_wide rfl rfl rfl Try.underlying22 Try.underlying26 ?_; intro r n hr0; have hr := hr0 _ (by first | with_reducible assumption | exact rfl); clear hr0) | (go_at_call 18; refine (toStuff_any _ _).mono ?_; rintro e w' ⟨rfl, hb⟩; obtain ⟨hT, hk⟩ := bv_next hb (by (repeat (with_reducible first | assumption | apply Trk.alloc | apply Trk.setCell | apply Trk.drewN | apply Trk.drew | exact Trk.nil _))); simp only [SameOn, World.size_alloc, World.size_setCell, World.size_drew, size_drewN', and_true] at hk; have hsz := Below.size hb; (try simp only [World.size_alloc, World.size_setCell, World.size_drew, size_drewN'] at hsz)) | (go_at_call 17; refine ((H1.out _) ).mono ?_; rintro e w' ⟨r, rfl, hr, hb⟩; obtain ⟨hT, hk⟩ := bv_next hb (by (repeat (with_reducible first | assumption | apply Trk.alloc | apply Trk.setCell | apply Trk.drewN | apply Trk.drew | exact Trk.nil _))); simp only [SameOn, World.size_alloc, World.size_setCell, World.size_drew, size_drewN', and_true] at hk; have hsz := Below.size hb; (try simp only [World.size_alloc, World.size_setCell, World.size_drew, size_drewN'] at hsz)) | (go_at_call 19; refine ((H2.out _) ).mono ?_; rintro e w' ⟨r, rfl, hr, hb⟩; obtain ⟨hT, hk⟩ := bv_next hb (by (repeat (with_reducible first | assumption | apply Trk.alloc | apply Trk.setCell | apply Trk.drewN | apply Trk.drew | exact Trk.nil _))); simp only [SameOn, World.size_alloc, World.size_setCell, World.size_drew, size_drewN', and_true] at hk; have hsz := Below.size hb; (try simp only [World.size_alloc, World.size_setCell, World.size_drew, size_drewN'] at hsz)) | (go_at_call 16; refine ((sameFloat_cn _ _ (by simp only [*]) _) ).mono ?_; rintro e w' ⟨rfl, n, rfl⟩))
  all_goals
    go_ret
    exact ⟨rfl, by (repeat (first | (with_reducible exact Below.refl _ _) | (with_reducible assumption) | (with_reducible refine below_then ?_ (by assumption)) | (with_reducible refine Below.trans ?_ (by assumption)) | (with_reducible refine below_drewN ?_ _) | (with_reducible apply Below.drew) | (with_reducible refine below_alloc ?_ _) | refine Below.setCell ?_ (by first | (simp; done) | (simp; omega)) _))⟩
set_option maxRecDepth 100000 in
set_option maxHeartbeats 2000000 in
theorem lifted_FnExactHeatFor (os : Os) (started : os.Started) (H : Type) (enc : TypeId × Value → H) :
    ReturnsInHanded {} Try.checked os 4 .any (Rows.fnExactHeatForSpec.pre6 enc Try.prog Try.f4 Rows.fnExactHeatForRow.domain false) (Rows.fnExactHeatForSpec.post enc Try.prog Try.f4 false true false false) := by
  refine returnsInHanded_of_change (C := Try.checked) own started (by kernel_rfl) Try.func4
    (ChangeSpec.witness6 (enc := enc) (C := Try.checked) false ⟨#[], #[.agg #[.float .f32 0, .float .f32 0, .float .f32 0, .float .f32 0, .float .f32 0, .float .f32 0], .float .f32 0, .float .f32 0], []⟩ 8 (by kernel_rfl) (by kernel_rfl) (by kernel_rfl) (by kernel_rfl)) ?_
  intro W base args ds gs before hval0 hW hcnd _
  have hval : ∀ (j : Nat) t v, Try.f4.params[j]? = some t → args[j]? = some v → Value.okWide Try.prog W .any base t v := hval0
  have hW' := hW
  obtain ⟨p, q, hA0, hV, rfl, hfz, hnd⟩ := hW
  have hA : DataW.TrodAll enc Try.prog W 0 (fun _ => true) true Try.f4.params.toList args.toList ds p := hA0
  rw [Try.params4] at hA hval
  obtain ⟨v0, vs0, d0, ds0, p0, q0, hargs, rfl, rfl, h0, r0⟩ := trodAll_cons hA
  obtain ⟨v1, vs1, d1, ds1, p1, q1, rfl, rfl, rfl, h1, r1⟩ := trodAll_cons r0
  obtain ⟨v2, vs2, d2, ds2, p2, q2, rfl, rfl, rfl, h2, r2⟩ := trodAll_cons r1
  obtain ⟨rfl, rfl, rfl⟩ := trodAll_nil r2
  obtain rfl : args = #[v0, v1, v2] := by cases args; simp_all
  obtain ⟨rfl, rfl⟩ := trodVars_none hV
  have k0 := h0
  have lt0 : ∀ x ∈ p0, x.block < W.heap.size := by obtain ⟨m, hm⟩ := k0; exact DataW.trod_lt m _ _ _ hm
  obtain ⟨s, rfl, w0⟩ := open_Stuff (hval 0 29 v0 rfl rfl) h0
  have k1 := h1
  have lt1 : ∀ x ∈ p1, x.block < W.heap.size := by obtain ⟨m, hm⟩ := k1; exact DataW.trod_lt m _ _ _ hm
  obtain ⟨x, rfl, rfl, rfl, w1⟩ := open_float Try.underlying22 (hval 1 22 v1 rfl rfl) h1
  have k2 := h2
  have lt2 : ∀ x ∈ p2, x.block < W.heap.size := by obtain ⟨m, hm⟩ := k2; exact DataW.trod_lt m _ _ _ hm
  obtain ⟨p, rfl, rfl, rfl, w2⟩ := open_float Try.underlying22 (hval 2 22 v2 rfl rfl) h2
  clear hA0 hval0
  refine (walk_FnExactHeatFor s x p w0 w1 w2 W).mono fun e W' ⟨he, hg⟩ => ?_
  subst he
  exact ⟨_, rfl, _, _, _, [], _, [], hW', trodAll_mk1 (shut_bool Try.underlying4 _), (trodAll_cons_mk (Below.trod laidOut (by kernel_rfl) (of_decide_eq_true (by kernel_rfl)) k0 hg lt0) (trodAll_cons_mk (Below.trod laidOut (by kernel_rfl) (of_decide_eq_true (by kernel_rfl)) k1 hg lt1) (trodAll_cons_mk (Below.trod laidOut (by kernel_rfl) (of_decide_eq_true (by kernel_rfl)) k2 hg lt2) trodAll_mk0))), rfl, hg.frame _, fun h => by cases h⟩
theorem fnExactHeatFor_holds : Rows.FnExactHeatForSaid :=
  OpenClaim.holds_of_wide 4 Try.f4 rfl rfl rfl rfl rfl rfl rfl ⟨rfl, rfl, rfl, rfl, rfl⟩ rfl rfl rfl rfl rfl (by kernel_rfl) Try.func4 (by kernel_rfl)
    (of_decide_eq_true (by kernel_rfl)) (by unfold Func.isWrapper; rw [if_neg (of_decide_eq_false (by kernel_rfl))]; exact ⟨rfl, rfl⟩)
    (fun os started H enc _ => lifted_FnExactHeatFor os started H enc)
end Go.Proofs.Ytiodpahbmoeiaaa

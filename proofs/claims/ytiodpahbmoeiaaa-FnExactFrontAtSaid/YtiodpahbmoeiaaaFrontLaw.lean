/-
  Where a front is: the law. True for every input. No condition.
-/
import Derived.Test.YtiodpahbmoeiaaaFrontAt
set_option linter.unusedSimpArgs false
set_option linter.unusedVariables false
set_option linter.unusedSectionVars false
namespace Go.Proofs.Ytiodpahbmoeiaaa
open Go Go.RowKit
open Go.ChangeShapes Go.WideShapes Go.ChangeAt Go.RowKit Go.Joins
set_option maxHeartbeats 4000000 in
theorem specFrontAt_any (s : St) (x t : Nat) (w : World) : Calls Try.prog 36 #[.agg #[.float .f32 s.a, .float .f32 s.b, .float .f32 s.c, .float .f32 s.d, .float .f32 s.p, .float .f32 s.l], .float .f32 x, .float .f32 t] w (BFB w .f32 (gF (frOk s x t) (frV s.k (cn .f32 x) (cn .f32 t))) (gB (frOk s x t) (frV s.k (cn .f32 x) (cn .f32 t)))) := by
  rcases h0 : s.ok
  · have HE : Hid (frOk s x t = false) := by show _ = _; unfold frOk; rw [h0]; rfl
    rw [HE.out]
    go_enter Try.func36, Try.ntmps36
    go_wp2_with (first | (with_reducible refine at_list ?_; refine wpList_fop rfl rfl rfl rfl rfl ?_; intro r n hr0; have hr := hr0 _ _ (by first | with_reducible assumption | exact rfl) (by first | with_reducible assumption | exact rfl); clear hr0) | (with_reducible refine at_list ?_; refine wpList_neg rfl rfl rfl ?_; intro r hr0; have hr := hr0 _ (by first | with_reducible assumption | exact rfl); clear hr0) | (with_reducible refine at_list ?_; refine wpList_fop_g rfl rfl rfl rfl rfl ?_; intro r n hr0; have hr := hr0 _ _ (by first | with_reducible assumption | exact rfl) (by first | with_reducible assumption | exact rfl); clear hr0) | (with_reducible refine at_list ?_; refine wpList_wide_g rfl rfl Try.underlying22 Try.underlying26 rfl ?_; intro r n hr0; have hr := hr0 _ (by first | with_reducible assumption | exact rfl); clear hr0) | (with_reducible refine at_list ?_; refine wpList_wide rfl rfl rfl Try.underlying22 Try.underlying26 ?_; intro r n hr0; have hr := hr0 _ (by first | with_reducible assumption | exact rfl); clear hr0) | (go_at_call 54; refine (l03Stuff_any s _ _ _ (by unfold St.at; refine ⟨?_, ?_, ?_, ?_, ?_, ?_⟩ <;> go_simp)).mono ?_; rintro e w' ⟨rfl, n, rfl⟩) | (go_at_call 48; refine (l01Finite_any _ _).mono ?_; rintro e w' ⟨rfl, n, rfl⟩) | (go_at_call 73; refine (l02Least_any _ _).mono ?_; rintro e w' ⟨rfl, n, rfl⟩) | (go_at_call 74; refine (l01Sqrt_any _ _).mono ?_; rintro e w' ⟨r, rfl, hr, n, rfl⟩) | (go_at_call 49; refine (l02Number_any _ _).mono ?_; rintro e w' ⟨r, rfl, hr, n, rfl⟩))
    all_goals
      go_ret2
      exact ⟨_, rfl, rfl, by (repeat (first | (with_reducible exact Below.refl _ _) | (with_reducible assumption) | (with_reducible refine below_then ?_ (by assumption)) | (with_reducible refine Below.trans ?_ (by assumption)) | (with_reducible refine below_drewN ?_ _) | (with_reducible apply Below.drew) | (with_reducible refine below_alloc ?_ _) | refine Below.setCell ?_ (by first | (simp; done) | (simp; omega)) _))⟩
  rcases h1 : fin .f32 (cn .f32 x)
  · have HE : Hid (frOk s x t = false) := by show _ = _; unfold frOk; rw [h1]; simp
    rw [HE.out]
    go_enter Try.func36, Try.ntmps36
    go_wp2_with (first | (with_reducible refine at_list ?_; refine wpList_fop rfl rfl rfl rfl rfl ?_; intro r n hr0; have hr := hr0 _ _ (by first | with_reducible assumption | exact rfl) (by first | with_reducible assumption | exact rfl); clear hr0) | (with_reducible refine at_list ?_; refine wpList_neg rfl rfl rfl ?_; intro r hr0; have hr := hr0 _ (by first | with_reducible assumption | exact rfl); clear hr0) | (with_reducible refine at_list ?_; refine wpList_fop_g rfl rfl rfl rfl rfl ?_; intro r n hr0; have hr := hr0 _ _ (by first | with_reducible assumption | exact rfl) (by first | with_reducible assumption | exact rfl); clear hr0) | (with_reducible refine at_list ?_; refine wpList_wide_g rfl rfl Try.underlying22 Try.underlying26 rfl ?_; intro r n hr0; have hr := hr0 _ (by first | with_reducible assumption | exact rfl); clear hr0) | (with_reducible refine at_list ?_; refine wpList_wide rfl rfl rfl Try.underlying22 Try.underlying26 ?_; intro r n hr0; have hr := hr0 _ (by first | with_reducible assumption | exact rfl); clear hr0) | (go_at_call 54; refine (l03Stuff_any s _ _ _ (by unfold St.at; refine ⟨?_, ?_, ?_, ?_, ?_, ?_⟩ <;> go_simp)).mono ?_; rintro e w' ⟨rfl, n, rfl⟩) | (go_at_call 48; refine (l01Finite_any _ _).mono ?_; rintro e w' ⟨rfl, n, rfl⟩) | (go_at_call 73; refine (l02Least_any _ _).mono ?_; rintro e w' ⟨rfl, n, rfl⟩) | (go_at_call 74; refine (l01Sqrt_any _ _).mono ?_; rintro e w' ⟨r, rfl, hr, n, rfl⟩) | (go_at_call 49; refine (l02Number_any _ _).mono ?_; rintro e w' ⟨r, rfl, hr, n, rfl⟩))
    all_goals
      go_ret2
      exact ⟨_, rfl, rfl, by (repeat (first | (with_reducible exact Below.refl _ _) | (with_reducible assumption) | (with_reducible refine below_then ?_ (by assumption)) | (with_reducible refine Below.trans ?_ (by assumption)) | (with_reducible refine below_drewN ?_ _) | (with_reducible apply Below.drew) | (with_reducible refine below_alloc ?_ _) | refine Below.setCell ?_ (by first | (simp; done) | (simp; omega)) _))⟩
  rcases h2 : fgt .f32 (cn .f32 x) (cn .f32 s.p)
  · have HE : Hid (frOk s x t = false) := by show _ = _; unfold frOk; rw [h2]; simp
    rw [HE.out]
    go_enter Try.func36, Try.ntmps36
    go_wp2_with (first | (with_reducible refine at_list ?_; refine wpList_fop rfl rfl rfl rfl rfl ?_; intro r n hr0; have hr := hr0 _ _ (by first | with_reducible assumption | exact rfl) (by first | with_reducible assumption | exact rfl); clear hr0) | (with_reducible refine at_list ?_; refine wpList_neg rfl rfl rfl ?_; intro r hr0; have hr := hr0 _ (by first | with_reducible assumption | exact rfl); clear hr0) | (with_reducible refine at_list ?_; refine wpList_fop_g rfl rfl rfl rfl rfl ?_; intro r n hr0; have hr := hr0 _ _ (by first | with_reducible assumption | exact rfl) (by first | with_reducible assumption | exact rfl); clear hr0) | (with_reducible refine at_list ?_; refine wpList_wide_g rfl rfl Try.underlying22 Try.underlying26 rfl ?_; intro r n hr0; have hr := hr0 _ (by first | with_reducible assumption | exact rfl); clear hr0) | (with_reducible refine at_list ?_; refine wpList_wide rfl rfl rfl Try.underlying22 Try.underlying26 ?_; intro r n hr0; have hr := hr0 _ (by first | with_reducible assumption | exact rfl); clear hr0) | (go_at_call 54; refine (l03Stuff_any s _ _ _ (by unfold St.at; refine ⟨?_, ?_, ?_, ?_, ?_, ?_⟩ <;> go_simp)).mono ?_; rintro e w' ⟨rfl, n, rfl⟩) | (go_at_call 48; refine (l01Finite_any _ _).mono ?_; rintro e w' ⟨rfl, n, rfl⟩) | (go_at_call 73; refine (l02Least_any _ _).mono ?_; rintro e w' ⟨rfl, n, rfl⟩) | (go_at_call 74; refine (l01Sqrt_any _ _).mono ?_; rintro e w' ⟨r, rfl, hr, n, rfl⟩) | (go_at_call 49; refine (l02Number_any _ _).mono ?_; rintro e w' ⟨r, rfl, hr, n, rfl⟩))
    all_goals
      go_ret2
      exact ⟨_, rfl, rfl, by (repeat (first | (with_reducible exact Below.refl _ _) | (with_reducible assumption) | (with_reducible refine below_then ?_ (by assumption)) | (with_reducible refine Below.trans ?_ (by assumption)) | (with_reducible refine below_drewN ?_ _) | (with_reducible apply Below.drew) | (with_reducible refine below_alloc ?_ _) | refine Below.setCell ?_ (by first | (simp; done) | (simp; omega)) _))⟩
  rcases h3 : lst (cn .f32 t)
  · have HE : Hid (frOk s x t = false) := by show _ = _; unfold frOk; rw [h3]; simp
    rw [HE.out]
    go_enter Try.func36, Try.ntmps36
    go_wp2_with (first | (with_reducible refine at_list ?_; refine wpList_fop rfl rfl rfl rfl rfl ?_; intro r n hr0; have hr := hr0 _ _ (by first | with_reducible assumption | exact rfl) (by first | with_reducible assumption | exact rfl); clear hr0) | (with_reducible refine at_list ?_; refine wpList_neg rfl rfl rfl ?_; intro r hr0; have hr := hr0 _ (by first | with_reducible assumption | exact rfl); clear hr0) | (with_reducible refine at_list ?_; refine wpList_fop_g rfl rfl rfl rfl rfl ?_; intro r n hr0; have hr := hr0 _ _ (by first | with_reducible assumption | exact rfl) (by first | with_reducible assumption | exact rfl); clear hr0) | (with_reducible refine at_list ?_; refine wpList_wide_g rfl rfl Try.underlying22 Try.underlying26 rfl ?_; intro r n hr0; have hr := hr0 _ (by first | with_reducible assumption | exact rfl); clear hr0) | (with_reducible refine at_list ?_; refine wpList_wide rfl rfl rfl Try.underlying22 Try.underlying26 ?_; intro r n hr0; have hr := hr0 _ (by first | with_reducible assumption | exact rfl); clear hr0) | (go_at_call 54; refine (l03Stuff_any s _ _ _ (by unfold St.at; refine ⟨?_, ?_, ?_, ?_, ?_, ?_⟩ <;> go_simp)).mono ?_; rintro e w' ⟨rfl, n, rfl⟩) | (go_at_call 48; refine (l01Finite_any _ _).mono ?_; rintro e w' ⟨rfl, n, rfl⟩) | (go_at_call 73; refine (l02Least_any _ _).mono ?_; rintro e w' ⟨rfl, n, rfl⟩) | (go_at_call 74; refine (l01Sqrt_any _ _).mono ?_; rintro e w' ⟨r, rfl, hr, n, rfl⟩) | (go_at_call 49; refine (l02Number_any _ _).mono ?_; rintro e w' ⟨r, rfl, hr, n, rfl⟩))
    all_goals
      go_ret2
      exact ⟨_, rfl, rfl, by (repeat (first | (with_reducible exact Below.refl _ _) | (with_reducible assumption) | (with_reducible refine below_then ?_ (by assumption)) | (with_reducible refine Below.trans ?_ (by assumption)) | (with_reducible refine below_drewN ?_ _) | (with_reducible apply Below.drew) | (with_reducible refine below_alloc ?_ _) | refine Below.setCell ?_ (by first | (simp; done) | (simp; omega)) _))⟩
  have HOK : Hid (frOk s x t = abv (frS s.k (cn .f32 x))) := by show _ = _; unfold frOk; rw [h0, h1, h2, h3]; simp
  rw [HOK.out]
  clear HOK
  have HST : Hid (∀ r w, cn .f32 r = frS s.k (cn .f32 x) → Calls Try.prog 28 #[.float .f32 r] w (RFB w .f32 (stF (frS s.k (cn .f32 x))) (abv (frS s.k (cn .f32 x))))) := fun r w h => by
    have h2 := specStefan_any r w
    rw [h] at h2
    exact h2
  have HS : Hid (frS s.k (cn .f32 x) = fop .quo .f32 (fop .mul .f32 (cn .f32 s.b) (fop .sub .f32 (cn .f32 x) (cn .f32 s.p))) (cn .f32 s.l)) := rfl
  have HV : Hid (frV s.k (cn .f32 x) (cn .f32 t) = fop .mul .f32 (fop .mul .f32 (cn .f32 1073741824) (stF (frS s.k (cn .f32 x)))) (rootC (fop .quo .f32 (fop .mul .f32 (cn .f32 s.d) (cn .f32 t)) (cn .f32 s.b)))) := rfl
  rw [HV.out]
  generalize frS s.k (cn .f32 x) = S at *
  generalize stF S = V at *
  rcases h4 : abv S
  all_goals
    rw [h4] at HST
    go_enter Try.func36, Try.ntmps36
    go_wp2_with (first | (with_reducible refine at_list ?_; refine wpList_fop rfl rfl rfl rfl rfl ?_; intro r n hr0; have hr := hr0 _ _ (by first | with_reducible assumption | exact rfl) (by first | with_reducible assumption | exact rfl); clear hr0) | (with_reducible refine at_list ?_; refine wpList_neg rfl rfl rfl ?_; intro r hr0; have hr := hr0 _ (by first | with_reducible assumption | exact rfl); clear hr0) | (with_reducible refine at_list ?_; refine wpList_fop_g rfl rfl rfl rfl rfl ?_; intro r n hr0; have hr := hr0 _ _ (by first | with_reducible assumption | exact rfl) (by first | with_reducible assumption | exact rfl); clear hr0) | (with_reducible refine at_list ?_; refine wpList_wide_g rfl rfl Try.underlying22 Try.underlying26 rfl ?_; intro r n hr0; have hr := hr0 _ (by first | with_reducible assumption | exact rfl); clear hr0) | (with_reducible refine at_list ?_; refine wpList_wide rfl rfl rfl Try.underlying22 Try.underlying26 ?_; intro r n hr0; have hr := hr0 _ (by first | with_reducible assumption | exact rfl); clear hr0) | (go_at_call 54; refine (l03Stuff_any s _ _ _ (by unfold St.at; refine ⟨?_, ?_, ?_, ?_, ?_, ?_⟩ <;> go_simp)).mono ?_; rintro e w' ⟨rfl, n, rfl⟩) | (go_at_call 48; refine (l01Finite_any _ _).mono ?_; rintro e w' ⟨rfl, n, rfl⟩) | (go_at_call 73; refine (l02Least_any _ _).mono ?_; rintro e w' ⟨rfl, n, rfl⟩) | (go_at_call 28; refine ((HST.out _ _ (by rw [HS.out]; assumption)) ).mono ?_; rintro e w' ⟨r, rfl, hr, n, rfl⟩) | (go_at_call 74; refine (l01Sqrt_any _ _).mono ?_; rintro e w' ⟨r, rfl, hr, n, rfl⟩) | (go_at_call 49; refine (l02Number_any _ _).mono ?_; rintro e w' ⟨r, rfl, hr, n, rfl⟩))
    all_goals
      go_ret2
      exact ⟨_, by first | rfl | (simp [gB, *] <;> rfl), by simp [gF, *], by (repeat (first | (with_reducible exact Below.refl _ _) | (with_reducible assumption) | (with_reducible refine below_then ?_ (by assumption)) | (with_reducible refine Below.trans ?_ (by assumption)) | (with_reducible refine below_drewN ?_ _) | (with_reducible apply Below.drew) | (with_reducible refine below_alloc ?_ _) | refine Below.setCell ?_ (by first | (simp; done) | (simp; omega)) _))⟩
set_option maxHeartbeats 1000000 in
theorem walk_FnExactFrontAt (s : St) (x t : Nat) (_ : s.wf) (_ : (Lit.float .f32 x).wf = true) (_ : (Lit.float .f32 t).wf = true) (w : World) : Calls Try.prog 11 #[.agg #[.float .f32 s.a, .float .f32 s.b, .float .f32 s.c, .float .f32 s.d, .float .f32 s.p, .float .f32 s.l], .float .f32 x, .float .f32 t] w (BV w (.bool true)) := by
  obtain ⟨c, b, h1, h2⟩ : ∃ c b, (∀ w, Calls Try.prog 36 #[.agg #[.float .f32 s.a, .float .f32 s.b, .float .f32 s.c, .float .f32 s.d, .float .f32 s.p, .float .f32 s.l], .float .f32 x, .float .f32 t] w (BFB w .f32 c b)) ∧ (∀ w, Calls Try.prog 37 #[.agg #[.float .f32 s.a, .float .f32 s.b, .float .f32 s.c, .float .f32 s.d, .float .f32 s.p, .float .f32 s.l], .float .f32 x, .float .f32 t] w (BFB w .f32 c b)) := ⟨_, _, specFrontAt_any s x t, implFrontAt_any s x t⟩
  have H1 := Lib.hid h1
  have H2 := Lib.hid h2
  clear h1 h2
  go_enter Try.func11, Try.ntmps11
  go_wp2_with (first | (with_reducible refine at_list ?_; refine wpList_fop rfl rfl rfl rfl rfl ?_; intro r n hr0; have hr := hr0 _ _ (by first | with_reducible assumption | exact rfl) (by first | with_reducible assumption | exact rfl); clear hr0) | (with_reducible refine at_list ?_; refine wpList_neg rfl rfl rfl ?_; intro r hr0; have hr := hr0 _ (by first | with_reducible assumption | exact rfl); clear hr0) | (with_reducible refine at_list ?_; refine wpList_fop_g rfl rfl rfl rfl rfl ?_; intro r n hr0; have hr := hr0 _ _ (by first | with_reducible assumption | exact rfl) (by first | with_reducible assumption | exact rfl); clear hr0) | (with_reducible refine at_list ?_; refine wpList_wide_g rfl rfl Try.underlying22 Try.underlying26 rfl ?_; intro r n hr0; have hr := hr0 _ (by first | with_reducible assumption | exact rfl); clear hr0) | (with_reducible refine at_list ?_; refine wpList_wide rfl rfl rfl Try.underlying22 Try.underlying26 ?_; intro r n hr0; have hr := hr0 _ (by first | with_reducible assumption | exact rfl); clear hr0) | (go_at_call 18; refine (toStuff_any _ _).mono ?_; rintro e w' ⟨rfl, hb⟩; obtain ⟨hT, hk⟩ := bv_next hb (by (repeat (with_reducible first | assumption | apply Trk.alloc | apply Trk.setCell | apply Trk.drewN | apply Trk.drew | exact Trk.nil _))); simp only [SameOn, World.size_alloc, World.size_setCell, World.size_drew, size_drewN', and_true] at hk; have hsz := Below.size hb; (try simp only [World.size_alloc, World.size_setCell, World.size_drew, size_drewN'] at hsz)) | (go_at_call 36; refine ((H1.out _) ).mono ?_; rintro e w' ⟨r, rfl, hr, hb⟩; obtain ⟨hT, hk⟩ := bv_next hb (by (repeat (with_reducible first | assumption | apply Trk.alloc | apply Trk.setCell | apply Trk.drewN | apply Trk.drew | exact Trk.nil _))); simp only [SameOn, World.size_alloc, World.size_setCell, World.size_drew, size_drewN', and_true] at hk; have hsz := Below.size hb; (try simp only [World.size_alloc, World.size_setCell, World.size_drew, size_drewN'] at hsz)) | (go_at_call 37; refine ((H2.out _) ).mono ?_; rintro e w' ⟨r, rfl, hr, hb⟩; obtain ⟨hT, hk⟩ := bv_next hb (by (repeat (with_reducible first | assumption | apply Trk.alloc | apply Trk.setCell | apply Trk.drewN | apply Trk.drew | exact Trk.nil _))); simp only [SameOn, World.size_alloc, World.size_setCell, World.size_drew, size_drewN', and_true] at hk; have hsz := Below.size hb; (try simp only [World.size_alloc, World.size_setCell, World.size_drew, size_drewN'] at hsz)) | (go_at_call 16; refine ((sameFloat_cn _ _ (by simp only [*]) _) ).mono ?_; rintro e w' ⟨rfl, n, rfl⟩))
  all_goals
    go_ret
    exact ⟨rfl, by (repeat (first | (with_reducible exact Below.refl _ _) | (with_reducible assumption) | (with_reducible refine below_then ?_ (by assumption)) | (with_reducible refine Below.trans ?_ (by assumption)) | (with_reducible refine below_drewN ?_ _) | (with_reducible apply Below.drew) | (with_reducible refine below_alloc ?_ _) | refine Below.setCell ?_ (by first | (simp; done) | (simp; omega)) _))⟩
set_option maxRecDepth 100000 in
set_option maxHeartbeats 2000000 in
theorem lifted_FnExactFrontAt (os : Os) (started : os.Started) (H : Type) (enc : TypeId × Value → H) :
    ReturnsInHanded {} Try.checked os 11 .any (Rows.fnExactFrontAtSpec.pre6 enc Try.prog Try.f11 Rows.fnExactFrontAtRow.domain false) (Rows.fnExactFrontAtSpec.post enc Try.prog Try.f11 false true false false) := by
  refine returnsInHanded_of_change (C := Try.checked) own started (by kernel_rfl) Try.func11
    (ChangeSpec.witness6 (enc := enc) (C := Try.checked) false ⟨#[], #[.agg #[.float .f32 0, .float .f32 0, .float .f32 0, .float .f32 0, .float .f32 0, .float .f32 0], .float .f32 0, .float .f32 0], []⟩ 8 (by kernel_rfl) (by kernel_rfl) (by kernel_rfl) (by kernel_rfl)) ?_
  intro W base args ds gs before hval0 hW hcnd _
  have hval : ∀ (j : Nat) t v, Try.f11.params[j]? = some t → args[j]? = some v → Value.okWide Try.prog W .any base t v := hval0
  have hW' := hW
  obtain ⟨p, q, hA0, hV, rfl, hfz, hnd⟩ := hW
  have hA : DataW.TrodAll enc Try.prog W 0 (fun _ => true) true Try.f11.params.toList args.toList ds p := hA0
  rw [Try.params11] at hA hval
  obtain ⟨v0, vs0, d0, ds0, p0, q0, hargs, rfl, rfl, h0, r0⟩ := trodAll_cons hA
  obtain ⟨v1, vs1, d1, ds1, p1, q1, rfl, rfl, rfl, h1, r1⟩ := trodAll_cons r0
  obtain ⟨v2, vs2, d2, ds2, p2, q2, rfl, rfl, rfl, h2, r2⟩ := trodAll_cons r1
  obtain ⟨rfl, rfl, rfl⟩ := trodAll_nil r2
  obtain rfl : args = #[v0, v1, v2] := by cases args; simp_all
  obtain ⟨rfl, rfl⟩ := trodVars_none hV
  have k0 := h0
  have lt0 : ∀ x ∈ p0, x.block < W.heap.size := by obtain ⟨m, hm⟩ := k0; exact DataW.trod_lt m _ _ _ hm
  obtain ⟨s, rfl, w0⟩ := open_Stuff (hval 0 29 v0 rfl rfl) h0
  have k1 := h1
  have lt1 : ∀ x ∈ p1, x.block < W.heap.size := by obtain ⟨m, hm⟩ := k1; exact DataW.trod_lt m _ _ _ hm
  obtain ⟨x, rfl, rfl, rfl, w1⟩ := open_float Try.underlying22 (hval 1 22 v1 rfl rfl) h1
  have k2 := h2
  have lt2 : ∀ x ∈ p2, x.block < W.heap.size := by obtain ⟨m, hm⟩ := k2; exact DataW.trod_lt m _ _ _ hm
  obtain ⟨t, rfl, rfl, rfl, w2⟩ := open_float Try.underlying22 (hval 2 22 v2 rfl rfl) h2
  clear hA0 hval0
  refine (walk_FnExactFrontAt s x t w0 w1 w2 W).mono fun e W' ⟨he, hg⟩ => ?_
  subst he
  exact ⟨_, rfl, _, _, _, [], _, [], hW', trodAll_mk1 (shut_bool Try.underlying4 _), (trodAll_cons_mk (Below.trod laidOut (by kernel_rfl) (of_decide_eq_true (by kernel_rfl)) k0 hg lt0) (trodAll_cons_mk (Below.trod laidOut (by kernel_rfl) (of_decide_eq_true (by kernel_rfl)) k1 hg lt1) (trodAll_cons_mk (Below.trod laidOut (by kernel_rfl) (of_decide_eq_true (by kernel_rfl)) k2 hg lt2) trodAll_mk0))), rfl, hg.frame _, fun h => by cases h⟩
theorem fnExactFrontAt_holds : Rows.FnExactFrontAtSaid :=
  OpenClaim.holds_of_wide 11 Try.f11 rfl rfl rfl rfl rfl rfl rfl ⟨rfl, rfl, rfl, rfl, rfl⟩ rfl rfl rfl rfl rfl (by kernel_rfl) Try.func11 (by kernel_rfl)
    (of_decide_eq_true (by kernel_rfl)) (by unfold Func.isWrapper; rw [if_neg (of_decide_eq_false (by kernel_rfl))]; exact ⟨rfl, rfl⟩)
    (fun os started H enc _ => lifted_FnExactFrontAt os started H enc)
end Go.Proofs.Ytiodpahbmoeiaaa

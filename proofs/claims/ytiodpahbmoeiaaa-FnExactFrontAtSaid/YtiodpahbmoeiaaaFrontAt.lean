/-
  Where a front is (the program's and the reference's), and the law. No condition but what each contract says.
-/
import Derived.Test.YtiodpahbmoeiaaaSqrt
import Derived.Test.YtiodpahbmoeiaaaStfLaw
set_option linter.unusedSimpArgs false
set_option linter.unusedVariables false
set_option linter.unusedSectionVars false
namespace Go.Proofs.Ytiodpahbmoeiaaa
open Go Go.RowKit
open Go.ChangeShapes Go.WideShapes Go.ChangeAt Go.RowKit Go.Joins
def rootC (c : Nat) : Nat := narrow (sqC (wide c))
theorem cn_rootC (c : Nat) : cn .f32 (rootC c) = rootC c := cn_narrow _
theorem mathSqrt_any (x : Nat) (w : World) : Calls Try.prog 88 #[.float .f64 x] w (RF w .f64 (sqC (cn .f64 x))) := by
  go_enter Try.func88, Try.ntmps88
  go_wp2_with (first | (with_reducible refine at_list ?_; refine wpList_fop rfl rfl rfl rfl rfl ?_; intro r n hr0; have hr := hr0 _ _ (by first | with_reducible assumption | exact rfl) (by first | with_reducible assumption | exact rfl); clear hr0) | (with_reducible refine at_list ?_; refine wpList_neg rfl rfl rfl ?_; intro r hr0; have hr := hr0 _ (by first | with_reducible assumption | exact rfl); clear hr0) | (with_reducible refine at_list ?_; refine wpList_fop_g rfl rfl rfl rfl rfl ?_; intro r n hr0; have hr := hr0 _ _ (by first | with_reducible assumption | exact rfl) (by first | with_reducible assumption | exact rfl); clear hr0) | (with_reducible refine at_list ?_; refine wpList_wide_g rfl rfl Try.underlying22 Try.underlying26 rfl ?_; intro r n hr0; have hr := hr0 _ (by first | with_reducible assumption | exact rfl); clear hr0) | (with_reducible refine at_list ?_; refine wpList_wide rfl rfl rfl Try.underlying22 Try.underlying26 ?_; intro r n hr0; have hr := hr0 _ (by first | with_reducible assumption | exact rfl); clear hr0) | (with_reducible refine at_list ?_; refine wpList_sqrt rfl rfl rfl ?_; intro r n hr0; have hr := hr0 _ rfl; clear hr0))
  go_ret
  exact ⟨_, rfl, by assumption, _, rfl⟩
theorem rootNumber_any (x : Nat) (w : World) : Calls Try.prog 75 #[.float .f32 x] w (RF w .f32 (rootC (cn .f32 x))) := by
  have HF := Lib.hid (sqC_fits (cn .f32 x))
  have HR : Hid (∀ r w, cn .f64 r = wide (cn .f32 x) → Calls Try.prog 88 #[.float .f64 r] w (RF w .f64 (sqC (wide (cn .f32 x))))) := fun r w h => by
    have h2 := mathSqrt_any r w
    rw [h] at h2
    exact h2
  have HC : Hid (rootC (cn .f32 x) = narrow (sqC (wide (cn .f32 x)))) := rfl
  rw [HC.out]
  generalize sqC (wide (cn .f32 x)) = V at *
  go_enter Try.func75, Try.ntmps75
  go_wp2_with (first | (with_reducible refine at_list ?_; refine wpList_fop rfl rfl rfl rfl rfl ?_; intro r n hr0; have hr := hr0 _ _ (by first | with_reducible assumption | exact rfl) (by first | with_reducible assumption | exact rfl); clear hr0) | (with_reducible refine at_list ?_; refine wpList_neg rfl rfl rfl ?_; intro r hr0; have hr := hr0 _ (by first | with_reducible assumption | exact rfl); clear hr0) | (with_reducible refine at_list ?_; refine wpList_fop_g rfl rfl rfl rfl rfl ?_; intro r n hr0; have hr := hr0 _ _ (by first | with_reducible assumption | exact rfl) (by first | with_reducible assumption | exact rfl); clear hr0) | (with_reducible refine at_list ?_; refine wpList_wide_g rfl rfl Try.underlying22 Try.underlying26 rfl ?_; intro r n hr0; have hr := hr0 _ (by first | with_reducible assumption | exact rfl); clear hr0) | (with_reducible refine at_list ?_; refine wpList_wide rfl rfl rfl Try.underlying22 Try.underlying26 ?_; intro r n hr0; have hr := hr0 _ (by first | with_reducible assumption | exact rfl); clear hr0) | (with_reducible refine at_list ?_; refine wpList_narrow rfl rfl rfl Try.underlying26 Try.underlying22 (by with_reducible assumption) HF.out ?_; intro r n hr) | (go_at_call 88; refine ((HR.out _ _ (by assumption)) ).mono ?_; rintro e w' ⟨r, rfl, hr, n, rfl⟩))
  go_ret
  exact ⟨_, rfl, by assumption, _, rfl⟩
theorem l01Sqrt_any (x : Nat) (w : World) : Calls Try.prog 74 #[.float .f32 x] w (RF w .f32 (rootC (cn .f32 x))) := by
  have HF := Lib.hid (sqC_fits (cn .f32 x))
  have HR : Hid (∀ r w, cn .f64 r = wide (cn .f32 x) → Calls Try.prog 88 #[.float .f64 r] w (RF w .f64 (sqC (wide (cn .f32 x))))) := fun r w h => by
    have h2 := mathSqrt_any r w
    rw [h] at h2
    exact h2
  have HC : Hid (rootC (cn .f32 x) = narrow (sqC (wide (cn .f32 x)))) := rfl
  rw [HC.out]
  generalize sqC (wide (cn .f32 x)) = V at *
  have HN : Hid (∀ r w, cn .f64 r = V → Calls Try.prog 50 #[.float .f64 r] w (RF w .f32 (narrow V))) := fun r w h => by
    have h2 := l01Narrow_any r w (by rw [h]; exact HF.out)
    rw [h] at h2
    exact h2
  go_enter Try.func74, Try.ntmps74
  go_wp2_with (first | (with_reducible refine at_list ?_; refine wpList_fop rfl rfl rfl rfl rfl ?_; intro r n hr0; have hr := hr0 _ _ (by first | with_reducible assumption | exact rfl) (by first | with_reducible assumption | exact rfl); clear hr0) | (with_reducible refine at_list ?_; refine wpList_neg rfl rfl rfl ?_; intro r hr0; have hr := hr0 _ (by first | with_reducible assumption | exact rfl); clear hr0) | (with_reducible refine at_list ?_; refine wpList_fop_g rfl rfl rfl rfl rfl ?_; intro r n hr0; have hr := hr0 _ _ (by first | with_reducible assumption | exact rfl) (by first | with_reducible assumption | exact rfl); clear hr0) | (with_reducible refine at_list ?_; refine wpList_wide_g rfl rfl Try.underlying22 Try.underlying26 rfl ?_; intro r n hr0; have hr := hr0 _ (by first | with_reducible assumption | exact rfl); clear hr0) | (with_reducible refine at_list ?_; refine wpList_wide rfl rfl rfl Try.underlying22 Try.underlying26 ?_; intro r n hr0; have hr := hr0 _ (by first | with_reducible assumption | exact rfl); clear hr0) | (go_at_call 88; refine ((HR.out _ _ (by assumption)) ).mono ?_; rintro e w' ⟨r, rfl, hr, n, rfl⟩) | (go_at_call 50; refine ((HN.out _ _ (by assumption)) ).mono ?_; rintro e w' ⟨r, rfl, hr, n, rfl⟩))
  go_ret
  exact ⟨_, rfl, by assumption, _, rfl⟩
theorem cn_stF (x : Nat) : cn .f32 (stF x) = stF x := by unfold stF; split; exact cn_narrow _; exact cn_cn _ _
/-- How great the share is by which a front goes. -/
def frS (s : St) (x : Nat) : Nat := fop .quo .f32 (fop .mul .f32 s.b (fop .sub .f32 x s.p)) s.l
def frV (s : St) (x t : Nat) : Nat := fop .mul .f32 (fop .mul .f32 (cn .f32 1073741824) (stF (frS s x))) (rootC (fop .quo .f32 (fop .mul .f32 s.d t) s.b))
def frOk (s : St) (x t : Nat) : Bool := s.ok && (fin .f32 (cn .f32 x) && (fgt .f32 (cn .f32 x) (cn .f32 s.p) && (lst (cn .f32 t) && abv (frS s.k (cn .f32 x)))))
theorem St.ok_p {s : St} (h : s.ok = true) : fin .f32 (cn .f32 s.p) = true := by
  unfold St.ok at h
  simp only [Bool.and_eq_true] at h
  exact h.2.2.2.2.1
set_option maxHeartbeats 4000000 in
theorem implFrontAt_any (s : St) (x t : Nat) (w : World) : Calls Try.prog 37 #[.agg #[.float .f32 s.a, .float .f32 s.b, .float .f32 s.c, .float .f32 s.d, .float .f32 s.p, .float .f32 s.l], .float .f32 x, .float .f32 t] w (BFB w .f32 (gF (frOk s x t) (frV s.k (cn .f32 x) (cn .f32 t))) (gB (frOk s x t) (frV s.k (cn .f32 x) (cn .f32 t)))) := by
  rcases h0 : s.ok
  · have HE : Hid (frOk s x t = false) := by show _ = _; unfold frOk; rw [h0]; rfl
    rw [HE.out]
    go_enter Try.func37, Try.ntmps37
    go_wp2_with (first | (with_reducible refine at_list ?_; refine wpList_fop rfl rfl rfl rfl rfl ?_; intro r n hr0; have hr := hr0 _ _ (by first | with_reducible assumption | exact rfl) (by first | with_reducible assumption | exact rfl); clear hr0) | (with_reducible refine at_list ?_; refine wpList_neg rfl rfl rfl ?_; intro r hr0; have hr := hr0 _ (by first | with_reducible assumption | exact rfl); clear hr0) | (with_reducible refine at_list ?_; refine wpList_fop_g rfl rfl rfl rfl rfl ?_; intro r n hr0; have hr := hr0 _ _ (by first | with_reducible assumption | exact rfl) (by first | with_reducible assumption | exact rfl); clear hr0) | (with_reducible refine at_list ?_; refine wpList_wide_g rfl rfl Try.underlying22 Try.underlying26 rfl ?_; intro r n hr0; have hr := hr0 _ (by first | with_reducible assumption | exact rfl); clear hr0) | (with_reducible refine at_list ?_; refine wpList_wide rfl rfl rfl Try.underlying22 Try.underlying26 ?_; intro r n hr0; have hr := hr0 _ (by first | with_reducible assumption | exact rfl); clear hr0) | (go_at_call 41; refine (implValidStuff_any _ _).mono ?_; rintro e w' ⟨rfl, hb⟩; obtain ⟨hT, hk⟩ := bv_next hb (by (repeat (with_reducible first | assumption | apply Trk.alloc | apply Trk.setCell | apply Trk.drewN | apply Trk.drew | exact Trk.nil _))); simp only [SameOn, World.size_alloc, World.size_setCell, World.size_drew, size_drewN', and_true] at hk; have hsz := Below.size hb; (try simp only [World.size_alloc, World.size_setCell, World.size_drew, size_drewN'] at hsz)) | (go_at_call 72; refine (areFinite_any _ _ _ (by assumption)).mono ?_; rintro e w' ⟨rfl, n, rfl⟩) | (go_at_call 75; refine (rootNumber_any _ _).mono ?_; rintro e w' ⟨r, rfl, hr, n, rfl⟩) | (go_at_call 57; refine (checked_any _ _).mono ?_; rintro e w' ⟨r, rfl, hr, n, rfl⟩))
    all_goals
      go_ret2
      exact ⟨_, rfl, rfl, by (repeat (first | (with_reducible exact Below.refl _ _) | (with_reducible assumption) | (with_reducible refine below_then ?_ (by assumption)) | (with_reducible refine Below.trans ?_ (by assumption)) | (with_reducible refine below_drewN ?_ _) | (with_reducible apply Below.drew) | (with_reducible refine below_alloc ?_ _) | refine Below.setCell ?_ (by first | (simp; done) | (simp; omega)) _))⟩
  have hp := St.ok_p h0
  rcases h1 : (fin .f32 (cn .f32 x) && fin .f32 (cn .f32 t))
  · have HE : Hid (frOk s x t = false) := by
      show _ = _
      unfold frOk lst
      rcases hx : fin .f32 (cn .f32 x)
      · simp
      · rw [hx] at h1
        have ht : fin .f32 (cn .f32 t) = false := h1
        rw [ht]; simp
    have A2 := Lib.hid (fun v w hs => (h1 ▸ areFin2_any x t v w hs : Calls Try.prog 72 #[v] w (RB w _)))
    rw [HE.out]
    clear h1
    go_enter Try.func37, Try.ntmps37
    go_wp2_with (first | (with_reducible refine at_list ?_; refine wpList_fop rfl rfl rfl rfl rfl ?_; intro r n hr0; have hr := hr0 _ _ (by first | with_reducible assumption | exact rfl) (by first | with_reducible assumption | exact rfl); clear hr0) | (with_reducible refine at_list ?_; refine wpList_neg rfl rfl rfl ?_; intro r hr0; have hr := hr0 _ (by first | with_reducible assumption | exact rfl); clear hr0) | (with_reducible refine at_list ?_; refine wpList_fop_g rfl rfl rfl rfl rfl ?_; intro r n hr0; have hr := hr0 _ _ (by first | with_reducible assumption | exact rfl) (by first | with_reducible assumption | exact rfl); clear hr0) | (with_reducible refine at_list ?_; refine wpList_wide_g rfl rfl Try.underlying22 Try.underlying26 rfl ?_; intro r n hr0; have hr := hr0 _ (by first | with_reducible assumption | exact rfl); clear hr0) | (with_reducible refine at_list ?_; refine wpList_wide rfl rfl rfl Try.underlying22 Try.underlying26 ?_; intro r n hr0; have hr := hr0 _ (by first | with_reducible assumption | exact rfl); clear hr0) | (go_at_call 41; refine (implValidStuff_any _ _).mono ?_; rintro e w' ⟨rfl, hb⟩; obtain ⟨hT, hk⟩ := bv_next hb (by (repeat (with_reducible first | assumption | apply Trk.alloc | apply Trk.setCell | apply Trk.drewN | apply Trk.drew | exact Trk.nil _))); simp only [SameOn, World.size_alloc, World.size_setCell, World.size_drew, size_drewN', and_true] at hk; have hsz := Below.size hb; (try simp only [World.size_alloc, World.size_setCell, World.size_drew, size_drewN'] at hsz)) | (go_at_call 72; refine ((A2.out _ _ (FS2 (by go_simp <;> exact rfl) (by go_simp <;> exact rfl))) ).mono ?_; rintro e w' ⟨rfl, n, rfl⟩) | (go_at_call 75; refine (rootNumber_any _ _).mono ?_; rintro e w' ⟨r, rfl, hr, n, rfl⟩) | (go_at_call 57; refine (checked_any _ _).mono ?_; rintro e w' ⟨r, rfl, hr, n, rfl⟩))
    all_goals
      go_ret2
      exact ⟨_, rfl, rfl, by (repeat (first | (with_reducible exact Below.refl _ _) | (with_reducible assumption) | (with_reducible refine below_then ?_ (by assumption)) | (with_reducible refine Below.trans ?_ (by assumption)) | (with_reducible refine below_drewN ?_ _) | (with_reducible apply Below.drew) | (with_reducible refine below_alloc ?_ _) | refine Below.setCell ?_ (by first | (simp; done) | (simp; omega)) _))⟩
  have A2 := Lib.hid (fun v w hs => (h1 ▸ areFin2_any x t v w hs : Calls Try.prog 72 #[v] w (RB w _)))
  rw [Bool.and_eq_true] at h1
  have hle : fle .f32 (cn .f32 x) (cn .f32 s.p) = !fgt .f32 (cn .f32 x) (cn .f32 s.p) := fle_not_fgt (fin_not_nan h1.1) (fin_not_nan hp)
  have hlt : flt .f32 (cn .f32 t) (cn .f32 0) = !fge .f32 (cn .f32 t) (cn .f32 0) := flt_not_fge (fin_not_nan h1.2) (by rw [isN_cn]; exact isN_lit .f32)
  have HX1 := Lib.hid h1
  clear h1 hp
  rcases h2 : fgt .f32 (cn .f32 x) (cn .f32 s.p)
  · have HE : Hid (frOk s x t = false) := by show _ = _; unfold frOk; rw [h2]; simp
    rw [HE.out]
    rw [h2] at hle
    simp only [Bool.not_false] at hle
    clear hlt h2
    go_enter Try.func37, Try.ntmps37
    go_wp2_with (first | (with_reducible refine at_list ?_; refine wpList_fop rfl rfl rfl rfl rfl ?_; intro r n hr0; have hr := hr0 _ _ (by first | with_reducible assumption | exact rfl) (by first | with_reducible assumption | exact rfl); clear hr0) | (with_reducible refine at_list ?_; refine wpList_neg rfl rfl rfl ?_; intro r hr0; have hr := hr0 _ (by first | with_reducible assumption | exact rfl); clear hr0) | (with_reducible refine at_list ?_; refine wpList_fop_g rfl rfl rfl rfl rfl ?_; intro r n hr0; have hr := hr0 _ _ (by first | with_reducible assumption | exact rfl) (by first | with_reducible assumption | exact rfl); clear hr0) | (with_reducible refine at_list ?_; refine wpList_wide_g rfl rfl Try.underlying22 Try.underlying26 rfl ?_; intro r n hr0; have hr := hr0 _ (by first | with_reducible assumption | exact rfl); clear hr0) | (with_reducible refine at_list ?_; refine wpList_wide rfl rfl rfl Try.underlying22 Try.underlying26 ?_; intro r n hr0; have hr := hr0 _ (by first | with_reducible assumption | exact rfl); clear hr0) | (go_at_call 41; refine (implValidStuff_any _ _).mono ?_; rintro e w' ⟨rfl, hb⟩; obtain ⟨hT, hk⟩ := bv_next hb (by (repeat (with_reducible first | assumption | apply Trk.alloc | apply Trk.setCell | apply Trk.drewN | apply Trk.drew | exact Trk.nil _))); simp only [SameOn, World.size_alloc, World.size_setCell, World.size_drew, size_drewN', and_true] at hk; have hsz := Below.size hb; (try simp only [World.size_alloc, World.size_setCell, World.size_drew, size_drewN'] at hsz)) | (go_at_call 72; refine ((A2.out _ _ (FS2 (by go_simp <;> exact rfl) (by go_simp <;> exact rfl))) ).mono ?_; rintro e w' ⟨rfl, n, rfl⟩) | (go_at_call 75; refine (rootNumber_any _ _).mono ?_; rintro e w' ⟨r, rfl, hr, n, rfl⟩) | (go_at_call 57; refine (checked_any _ _).mono ?_; rintro e w' ⟨r, rfl, hr, n, rfl⟩))
    all_goals
      go_ret2
      exact ⟨_, rfl, rfl, by (repeat (first | (with_reducible exact Below.refl _ _) | (with_reducible assumption) | (with_reducible refine below_then ?_ (by assumption)) | (with_reducible refine Below.trans ?_ (by assumption)) | (with_reducible refine below_drewN ?_ _) | (with_reducible apply Below.drew) | (with_reducible refine below_alloc ?_ _) | refine Below.setCell ?_ (by first | (simp; done) | (simp; omega)) _))⟩
  rcases h3 : fge .f32 (cn .f32 t) (cn .f32 0)
  · have HE : Hid (frOk s x t = false) := by show _ = _; unfold frOk lst; rw [h3]; simp
    rw [HE.out]
    rw [h2] at hle
    rw [h3] at hlt
    simp only [Bool.not_false, Bool.not_true] at hle hlt
    clear h2 h3
    go_enter Try.func37, Try.ntmps37
    go_wp2_with (first | (with_reducible refine at_list ?_; refine wpList_fop rfl rfl rfl rfl rfl ?_; intro r n hr0; have hr := hr0 _ _ (by first | with_reducible assumption | exact rfl) (by first | with_reducible assumption | exact rfl); clear hr0) | (with_reducible refine at_list ?_; refine wpList_neg rfl rfl rfl ?_; intro r hr0; have hr := hr0 _ (by first | with_reducible assumption | exact rfl); clear hr0) | (with_reducible refine at_list ?_; refine wpList_fop_g rfl rfl rfl rfl rfl ?_; intro r n hr0; have hr := hr0 _ _ (by first | with_reducible assumption | exact rfl) (by first | with_reducible assumption | exact rfl); clear hr0) | (with_reducible refine at_list ?_; refine wpList_wide_g rfl rfl Try.underlying22 Try.underlying26 rfl ?_; intro r n hr0; have hr := hr0 _ (by first | with_reducible assumption | exact rfl); clear hr0) | (with_reducible refine at_list ?_; refine wpList_wide rfl rfl rfl Try.underlying22 Try.underlying26 ?_; intro r n hr0; have hr := hr0 _ (by first | with_reducible assumption | exact rfl); clear hr0) | (go_at_call 41; refine (implValidStuff_any _ _).mono ?_; rintro e w' ⟨rfl, hb⟩; obtain ⟨hT, hk⟩ := bv_next hb (by (repeat (with_reducible first | assumption | apply Trk.alloc | apply Trk.setCell | apply Trk.drewN | apply Trk.drew | exact Trk.nil _))); simp only [SameOn, World.size_alloc, World.size_setCell, World.size_drew, size_drewN', and_true] at hk; have hsz := Below.size hb; (try simp only [World.size_alloc, World.size_setCell, World.size_drew, size_drewN'] at hsz)) | (go_at_call 72; refine ((A2.out _ _ (FS2 (by go_simp <;> exact rfl) (by go_simp <;> exact rfl))) ).mono ?_; rintro e w' ⟨rfl, n, rfl⟩) | (go_at_call 75; refine (rootNumber_any _ _).mono ?_; rintro e w' ⟨r, rfl, hr, n, rfl⟩) | (go_at_call 57; refine (checked_any _ _).mono ?_; rintro e w' ⟨r, rfl, hr, n, rfl⟩))
    all_goals
      go_ret2
      exact ⟨_, rfl, rfl, by (repeat (first | (with_reducible exact Below.refl _ _) | (with_reducible assumption) | (with_reducible refine below_then ?_ (by assumption)) | (with_reducible refine Below.trans ?_ (by assumption)) | (with_reducible refine below_drewN ?_ _) | (with_reducible apply Below.drew) | (with_reducible refine below_alloc ?_ _) | refine Below.setCell ?_ (by first | (simp; done) | (simp; omega)) _))⟩
  have HOK : Hid (frOk s x t = abv (frS s.k (cn .f32 x))) := by show _ = _; unfold frOk lst; rw [h0, HX1.out.1, HX1.out.2, h2, h3]; simp
  rw [HOK.out]
  rw [h2] at hle
  rw [h3] at hlt
  simp only [Bool.not_true] at hle hlt
  clear h2 h3 HOK
  have HST : Hid (∀ r w, cn .f32 r = frS s.k (cn .f32 x) → Calls Try.prog 29 #[.float .f32 r] w (BFB w .f32 (stF (frS s.k (cn .f32 x))) (abv (frS s.k (cn .f32 x))))) := fun r w h => by
    have h2 := implStefan_any r w
    rw [h] at h2
    exact h2
  have HS : Hid (frS s.k (cn .f32 x) = fop .quo .f32 (fop .mul .f32 (cn .f32 s.b) (fop .sub .f32 (cn .f32 x) (cn .f32 s.p))) (cn .f32 s.l)) := rfl
  have HV : Hid (frV s.k (cn .f32 x) (cn .f32 t) = fop .mul .f32 (fop .mul .f32 (cn .f32 1073741824) (stF (frS s.k (cn .f32 x)))) (rootC (fop .quo .f32 (fop .mul .f32 (cn .f32 s.d) (cn .f32 t)) (cn .f32 s.b)))) := rfl
  rw [HV.out]
  generalize frS s.k (cn .f32 x) = S at *
  generalize stF S = V at *
  rcases h4 : abv S
  all_goals
    rw [h4] at HST
    go_enter Try.func37, Try.ntmps37
    go_wp2_with (first | (with_reducible refine at_list ?_; refine wpList_fop rfl rfl rfl rfl rfl ?_; intro r n hr0; have hr := hr0 _ _ (by first | with_reducible assumption | exact rfl) (by first | with_reducible assumption | exact rfl); clear hr0) | (with_reducible refine at_list ?_; refine wpList_neg rfl rfl rfl ?_; intro r hr0; have hr := hr0 _ (by first | with_reducible assumption | exact rfl); clear hr0) | (with_reducible refine at_list ?_; refine wpList_fop_g rfl rfl rfl rfl rfl ?_; intro r n hr0; have hr := hr0 _ _ (by first | with_reducible assumption | exact rfl) (by first | with_reducible assumption | exact rfl); clear hr0) | (with_reducible refine at_list ?_; refine wpList_wide_g rfl rfl Try.underlying22 Try.underlying26 rfl ?_; intro r n hr0; have hr := hr0 _ (by first | with_reducible assumption | exact rfl); clear hr0) | (with_reducible refine at_list ?_; refine wpList_wide rfl rfl rfl Try.underlying22 Try.underlying26 ?_; intro r n hr0; have hr := hr0 _ (by first | with_reducible assumption | exact rfl); clear hr0) | (go_at_call 41; refine (implValidStuff_any _ _).mono ?_; rintro e w' ⟨rfl, hb⟩; obtain ⟨hT, hk⟩ := bv_next hb (by (repeat (with_reducible first | assumption | apply Trk.alloc | apply Trk.setCell | apply Trk.drewN | apply Trk.drew | exact Trk.nil _))); simp only [SameOn, World.size_alloc, World.size_setCell, World.size_drew, size_drewN', and_true] at hk; have hsz := Below.size hb; (try simp only [World.size_alloc, World.size_setCell, World.size_drew, size_drewN'] at hsz)) | (go_at_call 72; refine ((A2.out _ _ (FS2 (by go_simp <;> exact rfl) (by go_simp <;> exact rfl))) ).mono ?_; rintro e w' ⟨rfl, n, rfl⟩) | (go_at_call 29; refine ((HST.out _ _ (by rw [HS.out]; assumption)) ).mono ?_; rintro e w' ⟨r, rfl, hr, hb⟩; obtain ⟨hT, hk⟩ := bv_next hb (by (repeat (with_reducible first | assumption | apply Trk.alloc | apply Trk.setCell | apply Trk.drewN | apply Trk.drew | exact Trk.nil _))); simp only [SameOn, World.size_alloc, World.size_setCell, World.size_drew, size_drewN', and_true] at hk; have hsz := Below.size hb; (try simp only [World.size_alloc, World.size_setCell, World.size_drew, size_drewN'] at hsz)) | (go_at_call 75; refine (rootNumber_any _ _).mono ?_; rintro e w' ⟨r, rfl, hr, n, rfl⟩) | (go_at_call 57; refine (checked_any _ _).mono ?_; rintro e w' ⟨r, rfl, hr, n, rfl⟩))
    all_goals
      go_ret2
      exact ⟨_, by first | rfl | (simp [gB, *] <;> rfl), by simp [gF, *], by (repeat (first | (with_reducible exact Below.refl _ _) | (with_reducible assumption) | (with_reducible refine below_then ?_ (by assumption)) | (with_reducible refine Below.trans ?_ (by assumption)) | (with_reducible refine below_drewN ?_ _) | (with_reducible apply Below.drew) | (with_reducible refine below_alloc ?_ _) | refine Below.setCell ?_ (by first | (simp; done) | (simp; omega)) _))⟩
end Go.Proofs.Ytiodpahbmoeiaaa

/-
  Where a front is (the program's and the reference's), and the law. No condition but what each contract says.
  Fronts: roots of 32-bit numbers, and how great a front is. No condition but what each law says; nothing of the program is named here.
  Fronts of drawn stuffs: how far, for two and for three degrees, and for four times the time. No condition but what each law says; nothing of the program is named here.
  Fronts of drawn stuffs, as the law compares them: three degrees go farther than two, four times the time twice as far, nearly. No condition but what each law says; nothing of the program is named here.
  Roots of 32 bits put back: bounds, worked out quickly. No condition but what each law says; nothing of the program is named here.
  Roots of sizes, put back: sixteen sizes, worked out. No condition; nothing of the program is named here.
  Roots of sizes, put back: what the law asks, on words. No condition but what each law says; nothing of the program is named here.
  Fronts of drawn stuffs: all that the law asks of them, on words. No condition but what each law says; nothing of the program is named here.
-/
import Derived.Test.YtjeeflldbhajiaaFM7
set_option linter.unusedSimpArgs false
set_option linter.unusedVariables false
set_option linter.unusedSectionVars false
namespace Go.Proofs.Ytjeeflldbhajiaa
open Go Go.RowKit
open Go.ChangeShapes Go.WideShapes Go.ChangeAt Go.RowKit Go.Joins
def rootC (c : Nat) : Nat := narrow (sqC (wide c))
theorem cn_rootC (c : Nat) : cn .f32 (rootC c) = rootC c := cn_narrow _
theorem mathSqrt_any (x : Nat) (w : World) : Calls Try.prog 116 #[.float .f64 x] w (RF w .f64 (sqC (cn .f64 x))) := by
  go_enter Try.func116, Try.ntmps116
  go_wp2_with (first | (with_reducible refine at_list ?_; refine wpList_fop rfl rfl rfl rfl rfl ?_; intro r n hr0; have hr := hr0 _ _ (by first | with_reducible assumption | exact rfl) (by first | with_reducible assumption | exact rfl); clear hr0) | (with_reducible refine at_list ?_; refine wpList_neg rfl rfl rfl ?_; intro r hr0; have hr := hr0 _ (by first | with_reducible assumption | exact rfl); clear hr0) | (with_reducible refine at_list ?_; refine wpList_fop_g rfl rfl rfl rfl rfl ?_; intro r n hr0; have hr := hr0 _ _ (by first | with_reducible assumption | exact rfl) (by first | with_reducible assumption | exact rfl); clear hr0) | (with_reducible refine at_list ?_; refine wpList_wide_g rfl rfl Try.underlying22 Try.underlying40 rfl ?_; intro r n hr0; have hr := hr0 _ (by first | with_reducible assumption | exact rfl); clear hr0) | (with_reducible refine at_list ?_; refine wpList_wide rfl rfl rfl Try.underlying22 Try.underlying40 ?_; intro r n hr0; have hr := hr0 _ (by first | with_reducible assumption | exact rfl); clear hr0) | (with_reducible refine at_list ?_; refine wpList_sqrt rfl rfl rfl ?_; intro r n hr0; have hr := hr0 _ rfl; clear hr0))
  go_ret
  exact ⟨_, rfl, by assumption, _, rfl⟩
theorem rootNumber_any (x : Nat) (w : World) : Calls Try.prog 98 #[.float .f32 x] w (RF w .f32 (rootC (cn .f32 x))) := by
  have HF := Lib.hid (sqC_fits (cn .f32 x))
  have HR : Hid (∀ r w, cn .f64 r = wide (cn .f32 x) → Calls Try.prog 116 #[.float .f64 r] w (RF w .f64 (sqC (wide (cn .f32 x))))) := fun r w h => by
    have h2 := mathSqrt_any r w
    rw [h] at h2
    exact h2
  have HC : Hid (rootC (cn .f32 x) = narrow (sqC (wide (cn .f32 x)))) := rfl
  rw [HC.out]
  generalize sqC (wide (cn .f32 x)) = V at *
  go_enter Try.func98, Try.ntmps98
  go_wp2_with (first | (with_reducible refine at_list ?_; refine wpList_fop rfl rfl rfl rfl rfl ?_; intro r n hr0; have hr := hr0 _ _ (by first | with_reducible assumption | exact rfl) (by first | with_reducible assumption | exact rfl); clear hr0) | (with_reducible refine at_list ?_; refine wpList_neg rfl rfl rfl ?_; intro r hr0; have hr := hr0 _ (by first | with_reducible assumption | exact rfl); clear hr0) | (with_reducible refine at_list ?_; refine wpList_fop_g rfl rfl rfl rfl rfl ?_; intro r n hr0; have hr := hr0 _ _ (by first | with_reducible assumption | exact rfl) (by first | with_reducible assumption | exact rfl); clear hr0) | (with_reducible refine at_list ?_; refine wpList_wide_g rfl rfl Try.underlying22 Try.underlying40 rfl ?_; intro r n hr0; have hr := hr0 _ (by first | with_reducible assumption | exact rfl); clear hr0) | (with_reducible refine at_list ?_; refine wpList_wide rfl rfl rfl Try.underlying22 Try.underlying40 ?_; intro r n hr0; have hr := hr0 _ (by first | with_reducible assumption | exact rfl); clear hr0) | (with_reducible refine at_list ?_; refine wpList_narrow rfl rfl rfl Try.underlying40 Try.underlying22 (by with_reducible assumption) HF.out ?_; intro r n hr) | (go_at_call 116; refine ((HR.out _ _ (by assumption)) ).mono ?_; rintro e w' ⟨r, rfl, hr, n, rfl⟩))
  go_ret
  exact ⟨_, rfl, by assumption, _, rfl⟩
theorem cn_stF (x : Nat) : cn .f32 (stF x) = stF x := by unfold stF; split; exact cn_narrow _; exact cn_cn _ _
/-- How great the share is by which a front goes. -/
def frS (s : St) (x : Nat) : Nat := fop .quo .f32 (fop .mul .f32 s.b (fop .sub .f32 x s.p)) s.l
def frV (s : St) (x t : Nat) : Nat := fop .mul .f32 (fop .mul .f32 (cn .f32 1073741824) (stF (frS s x))) (rootC (fop .quo .f32 (fop .mul .f32 s.d t) s.b))
def frOk (s : St) (x t : Nat) : Bool := s.ok && (fin .f32 (cn .f32 x) && (fgt .f32 (cn .f32 x) (cn .f32 s.p) && (lst (cn .f32 t) && abv (frS s.k (cn .f32 x)))))
theorem St.ok_p {s : St} (h : s.ok = true) : fin .f32 (cn .f32 s.p) = true := by
  unfold St.ok at h
  simp only [Bool.and_eq_true] at h
  exact h.2.2.2.2.1
set_option maxHeartbeats 4000000 in
theorem implFrontAt_any (s : St) (x t : Nat) (w : World) : Calls Try.prog 51 #[.agg #[.float .f32 s.a, .float .f32 s.b, .float .f32 s.c, .float .f32 s.d, .float .f32 s.p, .float .f32 s.l], .float .f32 x, .float .f32 t] w (BFB w .f32 (gF (frOk s x t) (frV s.k (cn .f32 x) (cn .f32 t))) (gB (frOk s x t) (frV s.k (cn .f32 x) (cn .f32 t)))) := by
  rcases h0 : s.ok
  · have HE : Hid (frOk s x t = false) := by show _ = _; unfold frOk; rw [h0]; rfl
    rw [HE.out]
    go_enter Try.func51, Try.ntmps51
    go_wp2_with (first | (with_reducible refine at_list ?_; refine wpList_fop rfl rfl rfl rfl rfl ?_; intro r n hr0; have hr := hr0 _ _ (by first | with_reducible assumption | exact rfl) (by first | with_reducible assumption | exact rfl); clear hr0) | (with_reducible refine at_list ?_; refine wpList_neg rfl rfl rfl ?_; intro r hr0; have hr := hr0 _ (by first | with_reducible assumption | exact rfl); clear hr0) | (with_reducible refine at_list ?_; refine wpList_fop_g rfl rfl rfl rfl rfl ?_; intro r n hr0; have hr := hr0 _ _ (by first | with_reducible assumption | exact rfl) (by first | with_reducible assumption | exact rfl); clear hr0) | (with_reducible refine at_list ?_; refine wpList_wide_g rfl rfl Try.underlying22 Try.underlying40 rfl ?_; intro r n hr0; have hr := hr0 _ (by first | with_reducible assumption | exact rfl); clear hr0) | (with_reducible refine at_list ?_; refine wpList_wide rfl rfl rfl Try.underlying22 Try.underlying40 ?_; intro r n hr0; have hr := hr0 _ (by first | with_reducible assumption | exact rfl); clear hr0) | (go_at_call 63; refine (implValidStuff_any _ _).mono ?_; rintro e w' ⟨rfl, hb⟩; obtain ⟨hT, hk⟩ := bv_next hb (by (repeat (with_reducible first | assumption | apply Trk.alloc | apply Trk.setCell | apply Trk.drewN | apply Trk.drew | exact Trk.nil _))); simp only [SameOn, World.size_alloc, World.size_setCell, World.size_drew, size_drewN', and_true] at hk; have hsz := Below.size hb; (try simp only [World.size_alloc, World.size_setCell, World.size_drew, size_drewN'] at hsz)) | (go_at_call 77; refine (areFinite_any _ _ _ (by assumption)).mono ?_; rintro e w' ⟨rfl, n, rfl⟩) | (go_at_call 98; refine (rootNumber_any _ _).mono ?_; rintro e w' ⟨r, rfl, hr, n, rfl⟩) | (go_at_call 71; refine (checked_any _ _).mono ?_; rintro e w' ⟨r, rfl, hr, n, rfl⟩))
    all_goals
      go_ret2
      exact ⟨_, rfl, rfl, by (repeat (first | (with_reducible exact Below.refl _ _) | (with_reducible assumption) | (with_reducible refine below_then ?_ (by assumption)) | (with_reducible refine Below.trans ?_ (by assumption)) | (with_reducible refine below_drewN ?_ _) | (with_reducible apply Below.drew) | (with_reducible refine below_alloc ?_ _) | refine Below.setCell ?_ (by first | (simp; done) | (simp; omega)) _))⟩
  have hp := St.ok_p h0
  rcases h1 : (fin .f32 (cn .f32 x) && fin .f32 (cn .f32 t))
  · have HE : Hid (frOk s x t = false) := by
      show _ = _
      unfold frOk lst
      rcases hx : fin .f32 (cn .f32 x)
      · simp
      · rw [hx] at h1
        have ht : fin .f32 (cn .f32 t) = false := h1
        rw [ht]; simp
    have A2 := Lib.hid (fun v w hs => (h1 ▸ areFin2_any x t v w hs : Calls Try.prog 77 #[v] w (RB w _)))
    rw [HE.out]
    clear h1
    go_enter Try.func51, Try.ntmps51
    go_wp2_with (first | (with_reducible refine at_list ?_; refine wpList_fop rfl rfl rfl rfl rfl ?_; intro r n hr0; have hr := hr0 _ _ (by first | with_reducible assumption | exact rfl) (by first | with_reducible assumption | exact rfl); clear hr0) | (with_reducible refine at_list ?_; refine wpList_neg rfl rfl rfl ?_; intro r hr0; have hr := hr0 _ (by first | with_reducible assumption | exact rfl); clear hr0) | (with_reducible refine at_list ?_; refine wpList_fop_g rfl rfl rfl rfl rfl ?_; intro r n hr0; have hr := hr0 _ _ (by first | with_reducible assumption | exact rfl) (by first | with_reducible assumption | exact rfl); clear hr0) | (with_reducible refine at_list ?_; refine wpList_wide_g rfl rfl Try.underlying22 Try.underlying40 rfl ?_; intro r n hr0; have hr := hr0 _ (by first | with_reducible assumption | exact rfl); clear hr0) | (with_reducible refine at_list ?_; refine wpList_wide rfl rfl rfl Try.underlying22 Try.underlying40 ?_; intro r n hr0; have hr := hr0 _ (by first | with_reducible assumption | exact rfl); clear hr0) | (go_at_call 63; refine (implValidStuff_any _ _).mono ?_; rintro e w' ⟨rfl, hb⟩; obtain ⟨hT, hk⟩ := bv_next hb (by (repeat (with_reducible first | assumption | apply Trk.alloc | apply Trk.setCell | apply Trk.drewN | apply Trk.drew | exact Trk.nil _))); simp only [SameOn, World.size_alloc, World.size_setCell, World.size_drew, size_drewN', and_true] at hk; have hsz := Below.size hb; (try simp only [World.size_alloc, World.size_setCell, World.size_drew, size_drewN'] at hsz)) | (go_at_call 77; refine ((A2.out _ _ (FS2 (by go_simp <;> exact rfl) (by go_simp <;> exact rfl))) ).mono ?_; rintro e w' ⟨rfl, n, rfl⟩) | (go_at_call 98; refine (rootNumber_any _ _).mono ?_; rintro e w' ⟨r, rfl, hr, n, rfl⟩) | (go_at_call 71; refine (checked_any _ _).mono ?_; rintro e w' ⟨r, rfl, hr, n, rfl⟩))
    all_goals
      go_ret2
      exact ⟨_, rfl, rfl, by (repeat (first | (with_reducible exact Below.refl _ _) | (with_reducible assumption) | (with_reducible refine below_then ?_ (by assumption)) | (with_reducible refine Below.trans ?_ (by assumption)) | (with_reducible refine below_drewN ?_ _) | (with_reducible apply Below.drew) | (with_reducible refine below_alloc ?_ _) | refine Below.setCell ?_ (by first | (simp; done) | (simp; omega)) _))⟩
  have A2 := Lib.hid (fun v w hs => (h1 ▸ areFin2_any x t v w hs : Calls Try.prog 77 #[v] w (RB w _)))
  rw [Bool.and_eq_true] at h1
  have hle : fle .f32 (cn .f32 x) (cn .f32 s.p) = !fgt .f32 (cn .f32 x) (cn .f32 s.p) := fle_not_fgt (fin_not_nan h1.1) (fin_not_nan hp)
  have hlt : flt .f32 (cn .f32 t) (cn .f32 0) = !fge .f32 (cn .f32 t) (cn .f32 0) := flt_not_fge (fin_not_nan h1.2) (by rw [isN_cn]; exact isN_lit .f32)
  have HX1 := Lib.hid h1
  clear h1 hp
  rcases h2 : fgt .f32 (cn .f32 x) (cn .f32 s.p)
  · have HE : Hid (frOk s x t = false) := by show _ = _; unfold frOk; rw [h2]; simp
    rw [HE.out]
    rw [h2] at hle
    simp only [Bool.not_false] at hle
    clear hlt h2
    go_enter Try.func51, Try.ntmps51
    go_wp2_with (first | (with_reducible refine at_list ?_; refine wpList_fop rfl rfl rfl rfl rfl ?_; intro r n hr0; have hr := hr0 _ _ (by first | with_reducible assumption | exact rfl) (by first | with_reducible assumption | exact rfl); clear hr0) | (with_reducible refine at_list ?_; refine wpList_neg rfl rfl rfl ?_; intro r hr0; have hr := hr0 _ (by first | with_reducible assumption | exact rfl); clear hr0) | (with_reducible refine at_list ?_; refine wpList_fop_g rfl rfl rfl rfl rfl ?_; intro r n hr0; have hr := hr0 _ _ (by first | with_reducible assumption | exact rfl) (by first | with_reducible assumption | exact rfl); clear hr0) | (with_reducible refine at_list ?_; refine wpList_wide_g rfl rfl Try.underlying22 Try.underlying40 rfl ?_; intro r n hr0; have hr := hr0 _ (by first | with_reducible assumption | exact rfl); clear hr0) | (with_reducible refine at_list ?_; refine wpList_wide rfl rfl rfl Try.underlying22 Try.underlying40 ?_; intro r n hr0; have hr := hr0 _ (by first | with_reducible assumption | exact rfl); clear hr0) | (go_at_call 63; refine (implValidStuff_any _ _).mono ?_; rintro e w' ⟨rfl, hb⟩; obtain ⟨hT, hk⟩ := bv_next hb (by (repeat (with_reducible first | assumption | apply Trk.alloc | apply Trk.setCell | apply Trk.drewN | apply Trk.drew | exact Trk.nil _))); simp only [SameOn, World.size_alloc, World.size_setCell, World.size_drew, size_drewN', and_true] at hk; have hsz := Below.size hb; (try simp only [World.size_alloc, World.size_setCell, World.size_drew, size_drewN'] at hsz)) | (go_at_call 77; refine ((A2.out _ _ (FS2 (by go_simp <;> exact rfl) (by go_simp <;> exact rfl))) ).mono ?_; rintro e w' ⟨rfl, n, rfl⟩) | (go_at_call 98; refine (rootNumber_any _ _).mono ?_; rintro e w' ⟨r, rfl, hr, n, rfl⟩) | (go_at_call 71; refine (checked_any _ _).mono ?_; rintro e w' ⟨r, rfl, hr, n, rfl⟩))
    all_goals
      go_ret2
      exact ⟨_, rfl, rfl, by (repeat (first | (with_reducible exact Below.refl _ _) | (with_reducible assumption) | (with_reducible refine below_then ?_ (by assumption)) | (with_reducible refine Below.trans ?_ (by assumption)) | (with_reducible refine below_drewN ?_ _) | (with_reducible apply Below.drew) | (with_reducible refine below_alloc ?_ _) | refine Below.setCell ?_ (by first | (simp; done) | (simp; omega)) _))⟩
  rcases h3 : fge .f32 (cn .f32 t) (cn .f32 0)
  · have HE : Hid (frOk s x t = false) := by show _ = _; unfold frOk lst; rw [h3]; simp
    rw [HE.out]
    rw [h2] at hle
    rw [h3] at hlt
    simp only [Bool.not_false, Bool.not_true] at hle hlt
    clear h2 h3
    go_enter Try.func51, Try.ntmps51
    go_wp2_with (first | (with_reducible refine at_list ?_; refine wpList_fop rfl rfl rfl rfl rfl ?_; intro r n hr0; have hr := hr0 _ _ (by first | with_reducible assumption | exact rfl) (by first | with_reducible assumption | exact rfl); clear hr0) | (with_reducible refine at_list ?_; refine wpList_neg rfl rfl rfl ?_; intro r hr0; have hr := hr0 _ (by first | with_reducible assumption | exact rfl); clear hr0) | (with_reducible refine at_list ?_; refine wpList_fop_g rfl rfl rfl rfl rfl ?_; intro r n hr0; have hr := hr0 _ _ (by first | with_reducible assumption | exact rfl) (by first | with_reducible assumption | exact rfl); clear hr0) | (with_reducible refine at_list ?_; refine wpList_wide_g rfl rfl Try.underlying22 Try.underlying40 rfl ?_; intro r n hr0; have hr := hr0 _ (by first | with_reducible assumption | exact rfl); clear hr0) | (with_reducible refine at_list ?_; refine wpList_wide rfl rfl rfl Try.underlying22 Try.underlying40 ?_; intro r n hr0; have hr := hr0 _ (by first | with_reducible assumption | exact rfl); clear hr0) | (go_at_call 63; refine (implValidStuff_any _ _).mono ?_; rintro e w' ⟨rfl, hb⟩; obtain ⟨hT, hk⟩ := bv_next hb (by (repeat (with_reducible first | assumption | apply Trk.alloc | apply Trk.setCell | apply Trk.drewN | apply Trk.drew | exact Trk.nil _))); simp only [SameOn, World.size_alloc, World.size_setCell, World.size_drew, size_drewN', and_true] at hk; have hsz := Below.size hb; (try simp only [World.size_alloc, World.size_setCell, World.size_drew, size_drewN'] at hsz)) | (go_at_call 77; refine ((A2.out _ _ (FS2 (by go_simp <;> exact rfl) (by go_simp <;> exact rfl))) ).mono ?_; rintro e w' ⟨rfl, n, rfl⟩) | (go_at_call 98; refine (rootNumber_any _ _).mono ?_; rintro e w' ⟨r, rfl, hr, n, rfl⟩) | (go_at_call 71; refine (checked_any _ _).mono ?_; rintro e w' ⟨r, rfl, hr, n, rfl⟩))
    all_goals
      go_ret2
      exact ⟨_, rfl, rfl, by (repeat (first | (with_reducible exact Below.refl _ _) | (with_reducible assumption) | (with_reducible refine below_then ?_ (by assumption)) | (with_reducible refine Below.trans ?_ (by assumption)) | (with_reducible refine below_drewN ?_ _) | (with_reducible apply Below.drew) | (with_reducible refine below_alloc ?_ _) | refine Below.setCell ?_ (by first | (simp; done) | (simp; omega)) _))⟩
  have HOK : Hid (frOk s x t = abv (frS s.k (cn .f32 x))) := by show _ = _; unfold frOk lst; rw [h0, HX1.out.1, HX1.out.2, h2, h3]; simp
  rw [HOK.out]
  rw [h2] at hle
  rw [h3] at hlt
  simp only [Bool.not_true] at hle hlt
  clear h2 h3 HOK
  have HST : Hid (∀ r w, cn .f32 r = frS s.k (cn .f32 x) → Calls Try.prog 52 #[.float .f32 r] w (BFB w .f32 (stF (frS s.k (cn .f32 x))) (abv (frS s.k (cn .f32 x))))) := fun r w h => by
    have h2 := implStefan_any r w
    rw [h] at h2
    exact h2
  have HS : Hid (frS s.k (cn .f32 x) = fop .quo .f32 (fop .mul .f32 (cn .f32 s.b) (fop .sub .f32 (cn .f32 x) (cn .f32 s.p))) (cn .f32 s.l)) := rfl
  have HV : Hid (frV s.k (cn .f32 x) (cn .f32 t) = fop .mul .f32 (fop .mul .f32 (cn .f32 1073741824) (stF (frS s.k (cn .f32 x)))) (rootC (fop .quo .f32 (fop .mul .f32 (cn .f32 s.d) (cn .f32 t)) (cn .f32 s.b)))) := rfl
  rw [HV.out]
  generalize frS s.k (cn .f32 x) = S at *
  generalize stF S = V at *
  rcases h4 : abv S
  all_goals
    rw [h4] at HST
    go_enter Try.func51, Try.ntmps51
    go_wp2_with (first | (with_reducible refine at_list ?_; refine wpList_fop rfl rfl rfl rfl rfl ?_; intro r n hr0; have hr := hr0 _ _ (by first | with_reducible assumption | exact rfl) (by first | with_reducible assumption | exact rfl); clear hr0) | (with_reducible refine at_list ?_; refine wpList_neg rfl rfl rfl ?_; intro r hr0; have hr := hr0 _ (by first | with_reducible assumption | exact rfl); clear hr0) | (with_reducible refine at_list ?_; refine wpList_fop_g rfl rfl rfl rfl rfl ?_; intro r n hr0; have hr := hr0 _ _ (by first | with_reducible assumption | exact rfl) (by first | with_reducible assumption | exact rfl); clear hr0) | (with_reducible refine at_list ?_; refine wpList_wide_g rfl rfl Try.underlying22 Try.underlying40 rfl ?_; intro r n hr0; have hr := hr0 _ (by first | with_reducible assumption | exact rfl); clear hr0) | (with_reducible refine at_list ?_; refine wpList_wide rfl rfl rfl Try.underlying22 Try.underlying40 ?_; intro r n hr0; have hr := hr0 _ (by first | with_reducible assumption | exact rfl); clear hr0) | (go_at_call 63; refine (implValidStuff_any _ _).mono ?_; rintro e w' ⟨rfl, hb⟩; obtain ⟨hT, hk⟩ := bv_next hb (by (repeat (with_reducible first | assumption | apply Trk.alloc | apply Trk.setCell | apply Trk.drewN | apply Trk.drew | exact Trk.nil _))); simp only [SameOn, World.size_alloc, World.size_setCell, World.size_drew, size_drewN', and_true] at hk; have hsz := Below.size hb; (try simp only [World.size_alloc, World.size_setCell, World.size_drew, size_drewN'] at hsz)) | (go_at_call 77; refine ((A2.out _ _ (FS2 (by go_simp <;> exact rfl) (by go_simp <;> exact rfl))) ).mono ?_; rintro e w' ⟨rfl, n, rfl⟩) | (go_at_call 52; refine ((HST.out _ _ (by rw [HS.out]; assumption)) ).mono ?_; rintro e w' ⟨r, rfl, hr, hb⟩; obtain ⟨hT, hk⟩ := bv_next hb (by (repeat (with_reducible first | assumption | apply Trk.alloc | apply Trk.setCell | apply Trk.drewN | apply Trk.drew | exact Trk.nil _))); simp only [SameOn, World.size_alloc, World.size_setCell, World.size_drew, size_drewN', and_true] at hk; have hsz := Below.size hb; (try simp only [World.size_alloc, World.size_setCell, World.size_drew, size_drewN'] at hsz)) | (go_at_call 98; refine (rootNumber_any _ _).mono ?_; rintro e w' ⟨r, rfl, hr, n, rfl⟩) | (go_at_call 71; refine (checked_any _ _).mono ?_; rintro e w' ⟨r, rfl, hr, n, rfl⟩))
    all_goals
      go_ret2
      exact ⟨_, by first | rfl | (simp [gB, *] <;> rfl), by simp [gF, *], by (repeat (first | (with_reducible exact Below.refl _ _) | (with_reducible assumption) | (with_reducible refine below_then ?_ (by assumption)) | (with_reducible refine Below.trans ?_ (by assumption)) | (with_reducible refine below_drewN ?_ _) | (with_reducible apply Below.drew) | (with_reducible refine below_alloc ?_ _) | refine Below.setCell ?_ (by first | (simp; done) | (simp; omega)) _))⟩
end Go.Proofs.Ytjeeflldbhajiaa
set_option linter.unusedSimpArgs false
set_option linter.unusedVariables false
set_option linter.unusedSectionVars false
namespace Go.Proofs.Ytjeeflldbhajiaa
open Go Go.RowKit
theorem sq_lt {x y : Rat} (hx : 0 ≤ x) (hy : 0 ≤ y) (h : x * x ≤ y * y) : x ≤ y := by
  by_cases hlt : y < x
  · exfalso
    have h1 := Rat.mul_le_mul_of_nonneg_left (Rat.le_of_lt hlt) hy
    have h2 := Rat.mul_lt_mul_of_pos_right hlt (show 0 < x by grind)
    grind
  · grind
theorem tp_n23 : tp (-23) * 8388608 = 1 := by
  have h : tp (-23) * tp 23 = 1 := by rw [← tp_add]; exact tp_zero
  rwa [show tp 23 = 8388608 from (tp_nat 23).trans rfl] at h
theorem tp_n52 : tp (-52) * 4503599627370496 = 1 := by
  have h : tp (-52) * tp 52 = 1 := by rw [← tp_add]; exact tp_zero
  rwa [show tp 52 = 4503599627370496 from (tp_nat 52).trans rfl] at h
/-- The root of a number from a 64th to 32, in 32 bits. -/
theorem rootC_val {q : Nat} (hq : fnt .f32 q = true) (h1 : (1 : Rat) / 65 ≤ fv .f32 q) (h2 : fv .f32 q ≤ 33) : fnt .f32 (rootC q) = true ∧ (1 : Rat) / 9 ≤ fv .f32 (rootC q) ∧ fv .f32 (rootC q) ≤ 6 ∧ fv .f32 (rootC q) * fv .f32 (rootC q) - fv .f32 q ≤ 1 / 50000 ∧ fv .f32 q - fv .f32 (rootC q) * fv .f32 (rootC q) ≤ 1 / 50000 := by
  obtain ⟨w0, w1⟩ := wide_val hq
  obtain ⟨lo, u, d, e1, e2, e3, e4, e5, e6, e7, e8⟩ := root_near w0 (by rw [w1]; grind)
  rw [w1] at e7 e8
  have lo0 : 0 ≤ lo := by grind
  have lo6 : lo ≤ 23 / 4 := sq_lt lo0 (by grind) (by grind)
  have hi1 : (1 : Rat) / 8 - 1 / 200 ≤ lo + u := sq_lt (by grind) (by grind) (by grind)
  have u1 : u ≤ 1 / 1000000000 := by grind
  have d1 : dv d ≤ 6 := by grind
  have t3 : tp 3 = 8 := (tp_nat 3).trans rfl
  obtain ⟨g1, g2⟩ := write_rnd FloatKind.f64.format d e2 (fmt_exp .f64) 3 (by rw [top_eq]; decide) (by rw [t3]; grind) (by rw [t3]; grind)
  have sq : sqC (wide q) = FloatKind.f64.format.write d := by unfold sqC; rw [e1]; rfl
  have s0 : fnt .f64 (sqC (wide q)) = true := by rw [sq]; exact g1
  have s1 : Rnd Ieee.double (dv d) (fv .f64 (sqC (wide q))) := by rw [sq]; exact g2
  obtain ⟨r1, r2⟩ := rnd_err2 s1 (M := 6) d1 (by grind)
  have fb : -((Ieee.double.fractionBits : Nat) : Int) = -52 := rfl
  rw [fb] at r1 r2
  have l1 : tp Ieee.double.leastPlace ≤ tp (-52) := tp_le (by decide)
  have t52 := tp_n52
  obtain ⟨_, n0, n1⟩ := narrow_val s0 3 (by decide) (by rw [t3]; grind) (by rw [t3]; grind)
  obtain ⟨k1, k2⟩ := rnd_err2 n1 (M := 7) (by grind) (by grind)
  have fb2 : -((Ieee.single.fractionBits : Nat) : Int) = -23 := rfl
  rw [fb2] at k1 k2
  have l2 : tp Ieee.single.leastPlace ≤ tp (-23) := tp_le (by decide)
  have t23 := tp_n23
  have eR : rootC q = narrow (sqC (wide q)) := rfl
  rw [← eR] at n0 k1 k2
  generalize fv .f32 (rootC q) = R at *
  have a1 : R - lo ≤ 1 / 1000000 := by grind
  have a2 : lo - R ≤ 1 / 1000000 := by grind
  have m1 := mul_bd (a := 1 / 1000000) (b := 12) (x := R - lo) (y := R + lo) (by grind) (by grind) (by grind) (by grind)
  have m2 := mul_bd (a := 1 / 1000000000) (b := 12) (x := u) (y := lo + lo + u) (by grind) (by grind) (by grind) (by grind)
  have e9 : (R - lo) * (R + lo) = R * R - lo * lo := by grind
  have e10 : u * (lo + lo + u) = (lo + u) * (lo + u) - lo * lo := by grind
  rw [e9] at m1
  rw [e10] at m2
  exact ⟨n0, by grind, by grind, by grind, by grind⟩
/-- StefanRoot's number in 32 bits. -/
theorem stF_val {w : Nat} (hw : abv w = true) : fnt .f32 (stF w) = true ∧ fv .f32 (stF w) - fv .f64 (stV (wide w)) ≤ 1 / 1000000 ∧ fv .f64 (stV (wide w)) - fv .f32 (stF w) ≤ 1 / 1000000 ∧ 0 ≤ fv .f64 (stV (wide w)) ∧ fv .f64 (stV (wide w)) ≤ 3 := by
  obtain ⟨b0, b1, b2⟩ := (stLH_btw (wide w) 50).1
  have b0' : fnt .f64 (stV (wide w)) = true := b0
  have b1' : 0 ≤ fv .f64 (stV (wide w)) := b1
  have b2' : fv .f64 (stV (wide w)) ≤ 3 := b2
  have t2 : tp 2 = 4 := (tp_nat 2).trans rfl
  obtain ⟨_, n0, n1⟩ := narrow_val b0' 2 (by decide) (by rw [t2]; grind) (by rw [t2]; grind)
  obtain ⟨k1, k2⟩ := rnd_err2 n1 (M := 4) (by grind) (by grind)
  have fb2 : -((Ieee.single.fractionBits : Nat) : Int) = -23 := rfl
  rw [fb2] at k1 k2
  have l2 : tp Ieee.single.leastPlace ≤ tp (-23) := tp_le (by decide)
  have t23 := tp_n23
  have e : stF w = narrow (stV (wide w)) := by unfold stF; rw [if_pos hw]
  rw [e]
  exact ⟨n0, by grind, by grind, b1', b2'⟩
theorem cst_high {w k : Nat} {s : Cr} {r : Cr × Cr} (hs : Cw (wide w) s) (hp : 0 ≤ fv .f64 (wide w)) (hk : k ≤ 50) (h : cst s k (cnat 0) (cnat 3) = some r) : fv .f64 (stV (wide w)) ≤ ((chig r.2 : Nat) : Rat) * ep :=
  Rat.le_trans (stV_in (wide w) hk).2 (chig_ok (cst_all hs hp h).2)
theorem cst_low {w k : Nat} {s : Cr} {r : Cr × Cr} (hs : Cw (wide w) s) (hp : 0 ≤ fv .f64 (wide w)) (hk : k ≤ 50) (h : cst s k (cnat 0) (cnat 3) = some r) (h0 : 0 < clow r.1) : ((clow r.1 : Nat) : Rat) * ep ≤ fv .f64 (stV (wide w)) :=
  Rat.le_trans (clow_pos (cst_all hs hp h).1 h0) (stV_in (wide w) hk).1
theorem e512 : ((154742504910672534362390528 : Nat) : Rat) * ep = 1 / 512 := by
  have e1 : ((154742504910672534362390528 : Nat) : Rat) * 512 = ((79228162514264337593543950336 : Nat) : Rat) := by decide +kernel
  have := te96
  rw [← e1] at this
  generalize ((154742504910672534362390528 : Nat) : Rat) = A at *
  grind
/-- Three degrees: farther than two. -/
theorem fr_order {w1 w2 : Nat} {b l : Nat} (hb : 1 ≤ b ∧ b ≤ 8) (hl : 1 ≤ l ∧ l ≤ 16) (f1 : fnt .f32 w1 = true) (f2 : fnt .f32 w2 = true) (p1 : 0 ≤ fv .f32 w1) (p2 : 0 ≤ fv .f32 w2) (h1 : Rnd Ieee.single (((2 * b : Nat) : Rat) / (l : Rat)) (fv .f32 w1)) (h2 : Rnd Ieee.single (((3 * b : Nat) : Rat) / (l : Rat)) (fv .f32 w2)) : fv .f64 (stV (wide w1)) + 1 / 512 ≤ fv .f64 (stV (wide w2)) := by
  have c1 := csz_ok (by omega) (by omega) f1 h1
  have c2 := csz_ok (by omega) (by omega) f2 h2
  have q1 : 0 ≤ fv .f64 (wide w1) := by rw [(wide_val f1).2]; exact p1
  have q2 : 0 ≤ fv .f64 (wide w2) := by rw [(wide_val f2).2]; exact p2
  obtain ⟨r, q, hr, hq, g⟩ := frPair_ok (fr_pairs hb hl)
  have k1 := cst_high c1 q1 (by decide) hr
  have k2 := cst_low c2 q2 (by decide) hq (by omega)
  have e0 := ep_pos
  have g3 : ((chig r.2 + 154742504910672534362390528 : Nat) : Rat) ≤ ((clow q.1 : Nat) : Rat) := by exact_mod_cast g
  rw [Rat.natCast_add] at g3
  have g4 := Rat.mul_le_mul_of_nonneg_right g3 (Rat.le_of_lt e0)
  rw [Rat.add_mul, e512] at g4
  clear g g3 hr hq c1 c2 h1 h2
  generalize ((chig r.2 : Nat) : Rat) * ep = A at *
  generalize ((clow q.1 : Nat) : Rat) * ep = B at *
  generalize fv .f64 (stV (wide w1)) = C at *
  generalize fv .f64 (stV (wide w2)) = D at *
  clear f1 f2 p1 p2 q1 q2 e0
  grind
end Go.Proofs.Ytjeeflldbhajiaa
set_option linter.unusedSimpArgs false
set_option linter.unusedVariables false
set_option linter.unusedSectionVars false
namespace Go.Proofs.Ytjeeflldbhajiaa
open Go Go.RowKit
/-- The same, relative. -/
theorem rootC_rel {q : Nat} (hq : fnt .f32 q = true) (h1 : (1 : Rat) / 65 ≤ fv .f32 q) (h2 : fv .f32 q ≤ 33) : ∃ lo : Rat, (1 / 9 ≤ lo ∧ lo ≤ 6) ∧ (fv .f32 (rootC q) - lo ≤ lo / 1000000 ∧ lo - fv .f32 (rootC q) ≤ lo / 1000000) ∧ lo * lo ≤ fv .f32 q ∧ fv .f32 q ≤ lo * lo * (1 + 1 / 1000000) := by
  obtain ⟨w0, w1⟩ := wide_val hq
  obtain ⟨lo, u, d, e1, e2, e3, e4, e5, e6, e7, e8⟩ := root_near w0 (by rw [w1]; grind)
  rw [w1] at e7 e8
  have lo0 : 0 ≤ lo := by grind
  have lo6 : lo ≤ 23 / 4 := sq_lt lo0 (by grind) (by grind)
  have hi1 : (1 : Rat) / 8 - 1 / 200 ≤ lo + u := sq_lt (by grind) (by grind) (by grind)
  have u1 : u ≤ lo / 1000000000 := by grind
  have lo9 : (1 : Rat) / 9 ≤ lo := by grind
  have d1 : dv d ≤ lo * 2 := by grind
  have t4 : tp 4 = 16 := (tp_nat 4).trans rfl
  obtain ⟨g1, g2⟩ := write_rnd FloatKind.f64.format d e2 (fmt_exp .f64) 4 (by rw [top_eq]; decide) (by rw [t4]; grind) (by rw [t4]; grind)
  have sq : sqC (wide q) = FloatKind.f64.format.write d := by unfold sqC; rw [e1]; rfl
  have s0 : fnt .f64 (sqC (wide q)) = true := by rw [sq]; exact g1
  have s1 : Rnd Ieee.double (dv d) (fv .f64 (sqC (wide q))) := by rw [sq]; exact g2
  obtain ⟨r1, r2⟩ := rnd_err2 s1 (M := lo * 2) d1 (by grind)
  have fb : -((Ieee.double.fractionBits : Nat) : Int) = -52 := rfl
  rw [fb] at r1 r2
  have l1 : tp Ieee.double.leastPlace ≤ tp (-52) := tp_le (by decide)
  have t52 := tp_n52
  have b52 : tp (-52) ≤ 1 / 1000000000 := by grind
  have c52 := Rat.mul_le_mul_of_nonneg_left b52 lo0
  obtain ⟨_, n0, n1⟩ := narrow_val s0 4 (by decide) (by rw [t4]; grind) (by rw [t4]; grind)
  obtain ⟨k1, k2⟩ := rnd_err2 n1 (M := lo * 2) (by grind) (by grind)
  have fb2 : -((Ieee.single.fractionBits : Nat) : Int) = -23 := rfl
  rw [fb2] at k1 k2
  have l2 : tp Ieee.single.leastPlace ≤ tp (-52) := tp_le (by decide)
  have t23 := tp_n23
  have b23 : tp (-23) ≤ 1 / 8000000 := by grind
  have c23 := Rat.mul_le_mul_of_nonneg_left b23 lo0
  have eR : rootC q = narrow (sqC (wide q)) := rfl
  rw [← eR] at n0 k1 k2
  generalize fv .f32 (rootC q) = R at *
  generalize fv .f64 (sqC (wide q)) = S at *
  have a1 : R - lo ≤ lo / 1000000 := by grind
  have a2 : lo - R ≤ lo / 1000000 := by grind
  refine ⟨lo, ⟨lo9, by grind⟩, ⟨a1, a2⟩, e7, ?_⟩
  have e10 : (lo + u) * (lo + u) = lo * lo + u * (lo + lo + u) := by grind
  have m2 := Rat.mul_le_mul_of_nonneg_right u1 (show 0 ≤ lo + lo + u by grind)
  have m3 := Rat.mul_le_mul_of_nonneg_left u1 lo0
  have m4 : lo / 1000000000 * (lo + lo + u) = (lo * lo * 2 + lo * u) / 1000000000 := by grind
  rw [m4] at m2
  have m5 := Rat.mul_nonneg lo0 lo0
  rw [e10] at e8
  grind
section
variable {s : St} {a b c d p l : Int} {X T : Nat} {z τ : Int}
/-- The share by which a front goes. -/
theorem frS_val (h : SV s a b c d p l) (hz : 2 ≤ z ∧ z ≤ 3) (hX : V .f32 X ((p + z : Int) : Rat)) : fnt .f32 (frS s.k X) = true ∧ (1 : Rat) / 16 ≤ fv .f32 (frS s.k X) ∧ Rnd Ieee.single (((z * b : Int) : Rat) / (l : Rat)) (fv .f32 (frS s.k X)) := by
  have hb := h.bd
  have s1 : ex .sub ((p + z : Int) : Rat) (p : Rat) = (z : Rat) := by simp only [ex]; rw [Rat.intCast_add]; grind
  have A := V.op .sub rfl hX h.P (by simp) (by rw [s1]; exact rep_int (by omega))
  rw [s1] at A
  have s2 : ex .mul ((b : Rat) / 2) (z : Rat) = ((z * b : Int) : Rat) / 2 := by simp only [ex]; rw [Rat.intCast_mul]; grind
  have zb1 : 2 * 1 ≤ z * b := Int.mul_le_mul hz.1 hb.2.1.1 (by omega) (by omega)
  have zb2 : z * b ≤ 3 * 8 := Int.mul_le_mul hz.2 hb.2.1.2 (by omega) (by omega)
  have B := V.op .mul rfl h.B A (by simp) (by rw [s2]; exact rep_half (by omega))
  rw [s2] at B
  have l1 : ((1 : Int) : Rat) ≤ (l : Rat) := icast_le hb.2.2.2.2.2.1
  have l2 : (l : Rat) ≤ ((16 : Int) : Rat) := icast_le hb.2.2.2.2.2.2
  have n1 : ((2 : Int) : Rat) ≤ ((z * b : Int) : Rat) := icast_le (by omega)
  have n2 : ((z * b : Int) : Rat) ≤ ((24 : Int) : Rat) := icast_le (by omega)
  have c1 : ((1 : Int) : Rat) = 1 := rfl
  have c2 : ((2 : Int) : Rat) = 2 := rfl
  have c16 : ((16 : Int) : Rat) = 16 := rfl
  have c24 : ((24 : Int) : Rat) = 24 := rfl
  rw [c1] at l1
  rw [c16] at l2
  rw [c2] at n1
  rw [c24] at n2
  unfold frS
  have hL := h.L
  generalize ((z * b : Int) : Rat) = N at *
  generalize (l : Rat) = L at *
  have hq : N / 2 / (L / 2) = N / L := by
    have e1 : N / L * L = N := Rat.div_mul_cancel (by grind)
    have e2 : N / 2 / (L / 2) * (L / 2) = N / 2 := Rat.div_mul_cancel (by grind)
    generalize N / L = x at *
    generalize N / 2 / (L / 2) = y at *
    have : (y - x) * L = 0 := by grind
    rcases Rat.mul_eq_zero.1 this with h | h <;> grind
  have qv : N / L * L = N := Rat.div_mul_cancel (by grind)
  have q1 : (1 : Rat) / 8 ≤ N / L := mul_cancel_le (show 0 < L by grind) (by rw [qv]; grind)
  have q2 : N / L ≤ 24 := mul_cancel_le (show 0 < L by grind) (by rw [qv]; grind)
  obtain ⟨g1, g2⟩ := fop_rnd .quo rfl .f32 B.1 hL.1 (fun _ => by rw [hL.2]; grind) 7 (by decide) (by rw [tp7]; simp only [ex]; rw [B.2, hL.2, hq]; grind) (by rw [tp7]; simp only [ex]; rw [B.2, hL.2, hq]; grind)
  simp only [ex] at g2
  rw [B.2, hL.2, hq] at g2
  have r16 : Rep .f32 ((1 : Rat) / 16) := by have := rep16 1 (by decide); have e1 : ((1 : Int) : Rat) = 1 := rfl; rwa [e1] at this
  exact ⟨g1, g2.rep_ge r16 (by grind), g2⟩
/-- .. and what its root is of. -/
theorem frQ_val (h : SV s a b c d p l) (hτ : 1 ≤ τ ∧ τ ≤ 32) (hT : V .f32 T ((τ : Rat) / 4)) : fnt .f32 (fop .quo .f32 (fop .mul .f32 s.k.d T) s.k.b) = true ∧ (1 : Rat) / 65 ≤ fv .f32 (fop .quo .f32 (fop .mul .f32 s.k.d T) s.k.b) ∧ fv .f32 (fop .quo .f32 (fop .mul .f32 s.k.d T) s.k.b) ≤ 33 ∧ Rnd Ieee.single (((d * τ : Int) : Rat) / (8 * (b : Rat))) (fv .f32 (fop .quo .f32 (fop .mul .f32 s.k.d T) s.k.b)) := by
  have hb := h.bd
  have s2 : ex .mul ((d : Rat) / 4) ((τ : Rat) / 4) = ((d * τ : Int) : Rat) / 16 := by simp only [ex]; rw [Rat.intCast_mul]; grind
  have zb1 : 1 * 1 ≤ d * τ := Int.mul_le_mul hb.2.2.2.1.1 hτ.1 (by omega) (by omega)
  have zb2 : d * τ ≤ 8 * 32 := Int.mul_le_mul hb.2.2.2.1.2 hτ.2 (by omega) (by omega)
  have B := V.op .mul rfl h.D hT (by simp) (by rw [s2]; exact rep16 _ (by omega))
  rw [s2] at B
  have l1 : ((1 : Int) : Rat) ≤ (b : Rat) := icast_le hb.2.1.1
  have l2 : (b : Rat) ≤ ((8 : Int) : Rat) := icast_le hb.2.1.2
  have n1 : ((1 : Int) : Rat) ≤ ((d * τ : Int) : Rat) := icast_le (by omega)
  have n2 : ((d * τ : Int) : Rat) ≤ ((256 : Int) : Rat) := icast_le (by omega)
  have c1 : ((1 : Int) : Rat) = 1 := rfl
  have c8 : ((8 : Int) : Rat) = 8 := rfl
  have c256 : ((256 : Int) : Rat) = 256 := rfl
  rw [c1] at l1 n1
  rw [c8] at l2
  rw [c256] at n2
  generalize ((d * τ : Int) : Rat) = N at *
  have hB := h.B
  generalize (b : Rat) = L at *
  have hq : N / 16 / (L / 2) = N / (8 * L) := by
    have e1 : N / (8 * L) * (8 * L) = N := Rat.div_mul_cancel (by grind)
    have e2 : N / 16 / (L / 2) * (L / 2) = N / 16 := Rat.div_mul_cancel (by grind)
    generalize N / (8 * L) = x at *
    generalize N / 16 / (L / 2) = y at *
    have : (y - x) * L = 0 := by grind
    rcases Rat.mul_eq_zero.1 this with h | h <;> grind
  have qv : N / (8 * L) * (8 * L) = N := Rat.div_mul_cancel (by grind)
  have q1 : (1 : Rat) / 64 ≤ N / (8 * L) := mul_cancel_le (show 0 < 8 * L by grind) (by rw [qv]; grind)
  have q2 : N / (8 * L) ≤ 32 := mul_cancel_le (show 0 < 8 * L by grind) (by rw [qv]; grind)
  obtain ⟨g1, g2⟩ := fop_rnd .quo rfl .f32 B.1 hB.1 (fun _ => by rw [hB.2]; grind) 7 (by decide) (by rw [tp7]; simp only [ex]; rw [B.2, hB.2, hq]; grind) (by rw [tp7]; simp only [ex]; rw [B.2, hB.2, hq]; grind)
  simp only [ex] at g2
  rw [B.2, hB.2, hq] at g2
  have r64 : Rep .f32 ((1 : Rat) / 64) := rep_at (k := .f32) 1 (-6) (by decide) (by decide) (by decide) (by
    have h : tp (-6) * tp 6 = 1 := by rw [← tp_add]; exact tp_zero
    rw [show tp 6 = 64 from (tp_nat 6).trans rfl] at h
    have e1 : ((1 : Int) : Rat) = 1 := rfl
    rw [e1]; grind)
  have r32 : Rep .f32 (32 : Rat) := Rep.int (k := .f32) 32 (by decide)
  have := g2.rep_ge r64 q1
  have := g2.rep_le r32 q2
  exact ⟨g1, by grind, by grind, g2⟩
/-- How far a front has gone. -/
theorem frV_val (h : SV s a b c d p l) (hz : 2 ≤ z ∧ z ≤ 3) (hX : V .f32 X ((p + z : Int) : Rat)) (hτ : 1 ≤ τ ∧ τ ≤ 32) (hT : V .f32 T ((τ : Rat) / 4)) : fnt .f32 (frV s.k X T) = true ∧ fv .f32 (frV s.k X T) - 2 * fv .f64 (stV (wide (frS s.k X))) * fv .f32 (rootC (fop .quo .f32 (fop .mul .f32 s.k.d T) s.k.b)) ≤ 1 / 40000 ∧ 2 * fv .f64 (stV (wide (frS s.k X))) * fv .f32 (rootC (fop .quo .f32 (fop .mul .f32 s.k.d T) s.k.b)) - fv .f32 (frV s.k X T) ≤ 1 / 40000 := by
  obtain ⟨w0, w1, _⟩ := frS_val h hz hX
  obtain ⟨q0, q1, q2, _⟩ := frQ_val h hτ hT
  obtain ⟨r0, r1, r2, _⟩ := rootC_val q0 q1 q2
  obtain ⟨f0, f1, f2, f3, f4⟩ := stF_val (abv_of w0 (by grind))
  unfold frV
  generalize rootC (fop .quo .f32 (fop .mul .f32 s.k.d T) s.k.b) = R at *
  generalize stF (frS s.k X) = F at *
  generalize fv .f64 (stV (wide (frS s.k X))) = L at *
  have t6 : tp 6 = 64 := (tp_nat 6).trans rfl
  have t23 := tp_n23
  have l2 : tp Ieee.single.leastPlace ≤ tp (-23) := tp_le (by decide)
  have fb2 : -((Ieee.single.fractionBits : Nat) : Int) = -23 := rfl
  have p23 := tp_pos (-23)
  obtain ⟨g1, g2⟩ := fop_rnd .mul rfl .f32 V2.1 f0 (by simp) 6 (by decide) (by rw [t6]; simp only [ex]; rw [V2.2]; grind) (by rw [t6]; simp only [ex]; rw [V2.2]; grind)
  simp only [ex] at g2
  rw [V2.2] at g2
  obtain ⟨k1, k2⟩ := rnd_err2 g2 (M := 7) (by grind) (by grind)
  rw [show -((FloatKind.f32.format.fractionBits : Nat) : Int) = -23 from rfl] at k1 k2
  rw [show FloatKind.f32.format.leastPlace = Ieee.single.leastPlace from rfl] at k1 k2
  generalize fop .mul .f32 (cn .f32 1073741824) F = G at *
  have hG : -7 ≤ fv .f32 G ∧ fv .f32 G ≤ 7 := by constructor <;> grind
  have m := mul_bd (a := 7) (b := 6) (x := fv .f32 G) (y := fv .f32 R) hG.1 hG.2 (by grind) r2
  obtain ⟨h1, h2⟩ := fop_rnd .mul rfl .f32 g1 r0 (by simp) 6 (by decide) (by rw [t6]; simp only [ex]; grind) (by rw [t6]; simp only [ex]; grind)
  simp only [ex] at h2
  obtain ⟨j1, j2⟩ := rnd_err2 h2 (M := 42) (by grind) (by grind)
  rw [show -((FloatKind.f32.format.fractionBits : Nat) : Int) = -23 from rfl] at j1 j2
  rw [show FloatKind.f32.format.leastPlace = Ieee.single.leastPlace from rfl] at j1 j2
  have m2 := mul_bd (a := 1 / 330000) (b := 6) (x := fv .f32 G - 2 * L) (y := fv .f32 R) (by grind) (by grind) (by grind) r2
  have e : (fv .f32 G - 2 * L) * fv .f32 R = fv .f32 G * fv .f32 R - 2 * L * fv .f32 R := by grind
  rw [e] at m2
  exact ⟨h1, by grind, by grind⟩
end
end Go.Proofs.Ytjeeflldbhajiaa
set_option linter.unusedSimpArgs false
set_option linter.unusedVariables false
set_option linter.unusedSectionVars false
namespace Go.Proofs.Ytjeeflldbhajiaa
open Go Go.RowKit
section
variable {s : St} {a b c d p l : Int} {X2 X3 T T4 : Nat} {τ : Int}
theorem hot_far (h : SV s a b c d p l) (h2 : V .f32 X2 ((p + 2 : Int) : Rat)) (h3 : V .f32 X3 ((p + 3 : Int) : Rat)) (hτ : 1 ≤ τ ∧ τ ≤ 32) (hT : V .f32 T ((τ : Rat) / 4)) : fgt .f32 (frV s.k X3 T) (frV s.k X2 T) = true := by
  have hb := h.bd
  obtain ⟨u0, u1, u2⟩ := frS_val h ⟨by decide, by decide⟩ h2
  obtain ⟨v0, v1, v2⟩ := frS_val h ⟨by decide, by decide⟩ h3
  obtain ⟨q0, q1, q2, _⟩ := frQ_val h hτ hT
  obtain ⟨r0, r1, r2, _⟩ := rootC_val q0 q1 q2
  obtain ⟨n0, n1, n2⟩ := frV_val h ⟨by decide, by decide⟩ h2 hτ hT
  obtain ⟨m0, m1, m2⟩ := frV_val h ⟨by decide, by decide⟩ h3 hτ hT
  obtain ⟨bn, hbn⟩ : ∃ n : Nat, b = n := Int.eq_ofNat_of_zero_le (by omega)
  obtain ⟨ln, hln⟩ : ∃ n : Nat, l = n := Int.eq_ofNat_of_zero_le (by omega)
  have e2 : ((2 * b : Int) : Rat) / (l : Rat) = ((2 * bn : Nat) : Rat) / (ln : Rat) := by
    rw [hbn, hln, Rat.intCast_natCast, show (2 * (bn : Int)) = ((2 * bn : Nat) : Int) by omega, Rat.intCast_natCast]
  have e3 : ((3 * b : Int) : Rat) / (l : Rat) = ((3 * bn : Nat) : Rat) / (ln : Rat) := by
    rw [hbn, hln, Rat.intCast_natCast, show (3 * (bn : Int)) = ((3 * bn : Nat) : Int) by omega, Rat.intCast_natCast]
  rw [e2] at u2
  rw [e3] at v2
  have o := fr_order (b := bn) (l := ln) (by omega) (by omega) u0 v0 (by grind) (by grind) u2 v2
  rw [fgtv m0 n0]
  clear u2 v2 e2 e3 h2 h3 hT
  generalize fv .f32 (rootC (fop .quo .f32 (fop .mul .f32 s.k.d T) s.k.b)) = R at *
  generalize fv .f64 (stV (wide (frS s.k X2))) = L2 at *
  generalize fv .f64 (stV (wide (frS s.k X3))) = L3 at *
  generalize fv .f32 (frV s.k X3 T) = A at *
  generalize fv .f32 (frV s.k X2 T) = B at *
  have k := Rat.mul_le_mul_of_nonneg_right o (show 0 ≤ R by grind)
  exact decide_eq_true (by grind)
theorem times_root (h : SV s a b c d p l) (hτ : 1 ≤ τ ∧ τ ≤ 8) (hT : V .f32 T ((τ : Rat) / 4)) (hT4 : V .f32 T4 (((4 * τ : Int) : Rat) / 4)) : fv .f32 (rootC (fop .quo .f32 (fop .mul .f32 s.k.d T4) s.k.b)) - 2 * fv .f32 (rootC (fop .quo .f32 (fop .mul .f32 s.k.d T) s.k.b)) ≤ 1 / 25000 ∧ 2 * fv .f32 (rootC (fop .quo .f32 (fop .mul .f32 s.k.d T) s.k.b)) - fv .f32 (rootC (fop .quo .f32 (fop .mul .f32 s.k.d T4) s.k.b)) ≤ 1 / 25000 := by
  have hb := h.bd
  obtain ⟨a0, a1, a2, a3⟩ := frQ_val h (by omega) hT
  obtain ⟨b0, b1, b2, b3⟩ := frQ_val (τ := 4 * τ) h (by omega) hT4
  obtain ⟨lo1, ⟨c1, c2⟩, ⟨c3, c4⟩, c5, c6⟩ := rootC_rel a0 a1 a2
  obtain ⟨lo4, ⟨d1, d2⟩, ⟨d3, d4⟩, d5, d6⟩ := rootC_rel b0 b1 b2
  have l1 : ((1 : Int) : Rat) ≤ (b : Rat) := icast_le hb.2.1.1
  have e1 : ((1 : Int) : Rat) = 1 := rfl
  rw [e1] at l1
  have e4 : ((d * (4 * τ) : Int) : Rat) / (8 * (b : Rat)) = 4 * (((d * τ : Int) : Rat) / (8 * (b : Rat))) := by
    rw [show d * (4 * τ) = 4 * (d * τ) by rw [← Int.mul_assoc, Int.mul_comm d 4, Int.mul_assoc], Rat.intCast_mul]
    have e : ((4 : Int) : Rat) = 4 := rfl
    rw [e]
    have q1 : ((d * τ : Int) : Rat) / (8 * (b : Rat)) * (8 * (b : Rat)) = ((d * τ : Int) : Rat) := Rat.div_mul_cancel (by grind)
    have q2 : 4 * ((d * τ : Int) : Rat) / (8 * (b : Rat)) * (8 * (b : Rat)) = 4 * ((d * τ : Int) : Rat) := Rat.div_mul_cancel (by grind)
    generalize ((d * τ : Int) : Rat) / (8 * (b : Rat)) = x at *
    generalize 4 * ((d * τ : Int) : Rat) / (8 * (b : Rat)) = y at *
    have : (y - 4 * x) * (b : Rat) = 0 := by grind
    rcases Rat.mul_eq_zero.1 this with h | h <;> grind
  rw [e4] at b3
  have n0 : ((0 : Int) : Rat) ≤ ((d * τ : Int) : Rat) := icast_le (Int.mul_nonneg (by omega) (by omega))
  have e0 : ((0 : Int) : Rat) = 0 := rfl
  rw [e0] at n0
  have v0 : 0 ≤ ((d * τ : Int) : Rat) / (8 * (b : Rat)) := by
    have q1 : ((d * τ : Int) : Rat) / (8 * (b : Rat)) * (8 * (b : Rat)) = ((d * τ : Int) : Rat) := Rat.div_mul_cancel (by grind)
    exact mul_cancel_le (show 0 < 8 * (b : Rat) by grind) (by rw [q1]; grind)
  generalize ((d * τ : Int) : Rat) / (8 * (b : Rat)) = v at *
  generalize fv .f32 (fop .quo .f32 (fop .mul .f32 s.k.d T) s.k.b) = q1 at *
  generalize fv .f32 (fop .quo .f32 (fop .mul .f32 s.k.d T4) s.k.b) = q4 at *
  obtain ⟨x1, x2⟩ := rnd_err2 a3 (M := v) (Rat.le_refl) (by grind)
  obtain ⟨y1, y2⟩ := rnd_err2 b3 (M := 4 * v) (Rat.le_refl) (by grind)
  have fb : -((Ieee.single.fractionBits : Nat) : Int) = -23 := rfl
  rw [fb] at x1 x2 y1 y2
  have t23 := tp_n23
  have b23 : tp (-23) ≤ 1 / 8000000 := by grind
  have m1 := Rat.mul_le_mul_of_nonneg_left b23 v0
  have low : tp Ieee.single.leastPlace ≤ tp (-52) := tp_le (by decide)
  have t52 := tp_n52
  have z1 : tp Ieee.single.leastPlace ≤ 1 / 1000000000 := by grind
  have w1 : v ≤ q1 * (1 + 1 / 6000000) + 1 / 500000000 := by grind
  have w2 : q1 ≤ v * (1 + 1 / 8000000) + 1 / 1000000000 := by grind
  have w3 : q4 ≤ 4 * v * (1 + 1 / 8000000) + 1 / 1000000000 := by grind
  have w4 : 4 * v ≤ q4 * (1 + 1 / 6000000) + 1 / 500000000 := by grind
  have s1 := Rat.mul_nonneg (show 0 ≤ lo1 by grind) (show 0 ≤ lo1 by grind)
  have s4 := Rat.mul_nonneg (show 0 ≤ lo4 by grind) (show 0 ≤ lo4 by grind)
  have p1 : lo4 ≤ 2 * lo1 * (1 + 1 / 500000) := by
    refine sq_lt (by grind) (by grind) ?_
    have e : 2 * lo1 * (1 + 1 / 500000) * (2 * lo1 * (1 + 1 / 500000)) = lo1 * lo1 * (4 * (1 + 1 / 500000) * (1 + 1 / 500000)) := by grind
    rw [e]
    generalize lo1 * lo1 = S1 at *
    generalize lo4 * lo4 = S4 at *
    grind
  have p2 : 2 * lo1 ≤ lo4 * (1 + 1 / 500000) := by
    refine sq_lt (by grind) (by grind) ?_
    have e : lo4 * (1 + 1 / 500000) * (lo4 * (1 + 1 / 500000)) = lo4 * lo4 * ((1 + 1 / 500000) * (1 + 1 / 500000)) := by grind
    have e' : 2 * lo1 * (2 * lo1) = 4 * (lo1 * lo1) := by grind
    rw [e, e']
    generalize lo1 * lo1 = S1 at *
    generalize lo4 * lo4 = S4 at *
    grind
  constructor <;> grind
theorem cTho_gt : (1 : Rat) / 1024 < fv .f64 cTho := by
  have v : V .f64 (fop .quo .f64 (floatOfInt .f64 1) (floatOfInt .f64 1024)) ((1 : Rat) / 1024) := by
    have r : Rep .f64 ((1 : Rat) / 1024) := rep64 1 (-10) (by decide) (by decide) (by decide) (by
      have h : tp (-10) * tp 10 = 1 := by rw [← tp_add]; exact tp_zero
      rw [show tp 10 = 1024 from (tp_nat 10).trans rfl] at h
      have e1 : ((1 : Int) : Rat) = 1 := rfl
      rw [e1]; grind)
    have a := V.int .f64 1 (by decide)
    have b := V.int .f64 1024 (by decide)
    have e1 : ((1 : Int) : Rat) = 1 := rfl
    have e2 : ((1024 : Int) : Rat) = 1024 := rfl
    rw [e1] at a
    rw [e2] at b
    exact V.op .quo rfl a b (fun _ => by grind) (by simp only [ex]; exact r)
  have h2 : flt .f64 (fop .quo .f64 (floatOfInt .f64 1) (floatOfInt .f64 1024)) cTho = true := by decide +kernel
  rw [fltv v.1 cTho_pos.1, v.2] at h2
  exact of_decide_eq_true h2
/-- Four times the time: twice as far, nearly. -/
theorem far_near (h : SV s a b c d p l) (h2 : V .f32 X2 ((p + 2 : Int) : Rat)) (hτ : 1 ≤ τ ∧ τ ≤ 8) (hT : V .f32 T ((τ : Rat) / 4)) (hT4 : V .f32 T4 (((4 * τ : Int) : Rat) / 4)) : flt .f64 (gapC (wide (frV s.k X2 T4)) (fop .mul .f64 (cn .f64 4611686018427387904) (wide (frV s.k X2 T)))) (fop .mul .f64 cTho (fop .add .f64 cOne64 (wide (frV s.k X2 T4)))) = true := by
  obtain ⟨n0, n1, n2⟩ := frV_val h ⟨by decide, by decide⟩ h2 (by omega) hT
  obtain ⟨m0, m1, m2⟩ := frV_val (τ := 4 * τ) h ⟨by decide, by decide⟩ h2 (by omega) hT4
  obtain ⟨t1, t2⟩ := times_root h hτ hT hT4
  obtain ⟨w0, w1, _⟩ := frS_val h ⟨by decide, by decide⟩ h2
  obtain ⟨_, _, _, f3, f4⟩ := stF_val (abv_of w0 (by grind))
  obtain ⟨q0, q1, q2, _⟩ := frQ_val (τ := 4 * τ) h (by omega) hT4
  obtain ⟨_, r1, r2, _⟩ := rootC_val q0 q1 q2
  generalize fv .f32 (rootC (fop .quo .f32 (fop .mul .f32 s.k.d T) s.k.b)) = R1 at *
  generalize fv .f32 (rootC (fop .quo .f32 (fop .mul .f32 s.k.d T4) s.k.b)) = R4 at *
  generalize fv .f64 (stV (wide (frS s.k X2))) = L at *
  generalize frV s.k X2 T4 = F at *
  generalize frV s.k X2 T = N at *
  obtain ⟨wF0, wF1⟩ := wide_val m0
  obtain ⟨wN0, wN1⟩ := wide_val n0
  have m := mul_bd (a := 3) (b := 1 / 25000) (x := L) (y := R4 - 2 * R1) (by grind) f4 (by grind) (by grind)
  have d1 : fv .f32 F - 2 * fv .f32 N ≤ 1 / 3000 := by grind
  have d2 : 2 * fv .f32 N - fv .f32 F ≤ 1 / 3000 := by grind
  have mF := Rat.mul_nonneg f3 (show 0 ≤ R4 by grind)
  have mF2 := Rat.mul_le_mul_of_nonneg_left r2 f3
  have F0 : -(1 / 1000) ≤ fv .f32 F := by grind
  have F1 : fv .f32 F ≤ 40 := by grind
  have tw : V .f64 (cn .f64 4611686018427387904) 2 := two_val
  obtain ⟨z, q, hz, hq, e⟩ := rp_word wN0
  have t6 : tp 6 = 64 := (tp_nat 6).trans rfl
  obtain ⟨g1, g2⟩ := fop_rnd .mul rfl .f64 tw.1 wN0 (by simp) 6 (by decide) (by rw [t6]; simp only [ex]; rw [tw.2, wN1]; grind) (by rw [t6]; simp only [ex]; rw [tw.2, wN1]; grind)
  simp only [ex] at g2
  rw [tw.2] at g2
  have ge : fv .f64 (fop .mul .f64 (cn .f64 4611686018427387904) (wide N)) = 2 * fv .f64 (wide N) := by
    have e2 : 2 * fv .f64 (wide N) = z * tp (q + 1) := by rw [e, tp_succ]; grind
    have := g2.eq hz (by omega) e2
    exact this
  have t12 : tp (-12) * 4096 = 1 := by
    have h : tp (-12) * tp 12 = 1 := by rw [← tp_add]; exact tp_zero
    rwa [show tp 12 = 4096 from (tp_nat 12).trans rfl] at h
  have c2 : ((2 : Int) : Rat) = 2 := rfl
  have c3 : ((3 : Int) : Rat) = 3 := rfl
  have r1k : Rep .f64 ((1 : Rat) / 2048) := rep64 2 (-12) (by decide) (by decide) (by decide) (by rw [c2]; grind)
  have r3k : Rep .f64 ((3 : Rat) / 4096) := rep64 3 (-12) (by decide) (by decide) (by decide) (by rw [c3]; grind)
  have rh : Rep .f64 ((1 : Rat) / 2) := rep64 1 (-1) (by decide) (by decide) (by decide) (by have := tp_n1; have e1 : ((1 : Int) : Rat) = 1 := rfl; rw [e1]; grind)
  have r7 : Rep .f64 ((7 : Rat) / 8) := rep64 7 (-3) (by decide) (by decide) (by decide) (by have := tp_n3; have e1 : ((7 : Int) : Rat) = 7 := rfl; rw [e1]; grind)
  have r64 : Rep .f64 (64 : Rat) := Rep.int (k := .f64) 64 (by decide)
  obtain ⟨k0, k1, k2⟩ := gapC_btw wF0 g1 r1k (by rw [ge, wF1, wN1]; grind) (by rw [ge, wF1, wN1]; grind)
  obtain ⟨s0, s1, s2⟩ := fop_btw .add rfl .f64 (a := 7 / 8) (b := 64) vOne64.1 wF0 (by simp) r7 r64 (by simp only [ex]; rw [vOne64.2, wF1]; grind) (by simp only [ex]; rw [vOne64.2, wF1]; grind)
  have ct := cTho_gt
  obtain ⟨x0, x1, x2⟩ := cTho_pos
  have p1 := Rat.mul_le_mul_of_nonneg_left s1 x1
  have p2 := Rat.mul_le_mul_of_nonneg_right x2 (show 0 ≤ fv .f64 (fop .add .f64 cOne64 (wide F)) by grind)
  obtain ⟨y0, y1, y2⟩ := fop_btw .mul rfl .f64 (a := 3 / 4096) (b := 64) x0 s0 (by simp) r3k r64 (by simp only [ex]; grind) (by simp only [ex]; grind)
  rw [fltv k0 y0]
  exact decide_eq_true (by grind)
end
end Go.Proofs.Ytjeeflldbhajiaa
set_option linter.unusedSimpArgs false
set_option linter.unusedVariables false
set_option linter.unusedSectionVars false
namespace Go.Proofs.Ytjeeflldbhajiaa
open Go Go.RowKit
/-- Rounded to 32 bits. -/
def cnar : Cr → Cr
  | .c s m r => frc (Nat.add (Nat.add r (Nat.div (Nat.add m r) 8388608)) 3) fun r' => (match Nat.ble (Nat.add m r') (Nat.pow 2 190) with
    | true => .c s m r'
    | false => .no)
  | .no => .no
theorem cnar_ok {x y : Nat} {a : Cr} (hx : Cw x a) (hy : fnt .f32 y = true) (hR : Rnd Ieee.single (fv .f64 x) (fv .f32 y)) (h : cnar a ≠ .no) : Cw (wide y) (cnar a) := by
  cases a with
  | no => exact hx.elim
  | c s m r =>
    obtain ⟨x0, x1, x2⟩ := hx
    obtain ⟨w0, w1⟩ := wide_val hy
    have e0 := ep_pos
    have eq : cnar (.c s m r) = (match Nat.ble (m + (r + (m + r) / 8388608 + 3)) (Nat.pow 2 190) with
      | true => .c s m (r + (m + r) / 8388608 + 3)
      | false => .no) := by
      have e1 : cnar (.c s m r) = frc (r + (m + r) / 8388608 + 3) fun r' => (match Nat.ble (m + r') (Nat.pow 2 190) with
        | true => Cr.c s m r'
        | false => Cr.no) := rfl
      rw [e1, frc_eq]
    rw [eq] at h ⊢
    cases hb : Nat.ble (m + (r + (m + r) / 8388608 + 3)) (Nat.pow 2 190) with
    | false => rw [hb] at h; exact absurd rfl h
    | true =>
      simp only
      have c0 : ((m + r : Nat) : Rat) = (m : Rat) + r := Rat.natCast_add _ _
      have mp : 0 ≤ (m : Rat) * ep := Rat.mul_nonneg (by exact_mod_cast Nat.zero_le m) (Rat.le_of_lt e0)
      have u1 : fv .f64 x ≤ ((m + r : Nat) : Rat) * ep := by rw [c0]; cases s <;> simp only [sg] at x1 x2 <;> grind
      have u2 : -fv .f64 x ≤ ((m + r : Nat) : Rat) * ep := by rw [c0]; cases s <;> simp only [sg] at x1 x2 <;> grind
      obtain ⟨g1, g2⟩ := rnd_err2 hR u1 u2
      have fb : -((Ieee.single.fractionBits : Nat) : Int) = -23 := rfl
      rw [fb] at g1 g2
      have low : tp Ieee.single.leastPlace ≤ ep := by unfold ep; exact tp_le (by decide)
      generalize hM : m + r = M at *
      have dv : (M : Rat) * tp (-23) ≤ ((M / 8388608 + 1 : Nat) : Rat) := by
        have hlt : M ≤ (M / 8388608 + 1) * 8388608 := by omega
        have c3 : (M : Rat) ≤ ((M / 8388608 + 1 : Nat) : Rat) * ((8388608 : Nat) : Rat) := by exact_mod_cast hlt
        have t := tp_pos (-23)
        have e6 : ((8388608 : Nat) : Rat) * tp (-23) = 1 := by
          have : ((8388608 : Nat) : Rat) = tp (23 : Nat) := (tp_nat 23).symm
          rw [this, ← tp_add]; exact tp_zero
        have c4 := Rat.mul_le_mul_of_nonneg_right c3 (Rat.le_of_lt t)
        have e7 : ((M / 8388608 + 1 : Nat) : Rat) * ((8388608 : Nat) : Rat) * tp (-23) = ((M / 8388608 + 1 : Nat) : Rat) * (((8388608 : Nat) : Rat) * tp (-23)) := by grind
        rw [e7, e6] at c4
        grind
      have d2 := Rat.mul_le_mul_of_nonneg_right dv (Rat.le_of_lt e0)
      have w3 : ((r + M / 8388608 + 3 : Nat) : Rat) = (r : Rat) + ((M / 8388608 + 1 : Nat) : Rat) + 2 := by
        rw [show r + M / 8388608 + 3 = r + (M / 8388608 + 1) + 2 by omega, Rat.natCast_add, Rat.natCast_add]; rfl
      have e8 : (M : Rat) * ep * tp (-23) = (M : Rat) * tp (-23) * ep := by grind
      rw [e8] at g1 g2
      refine ⟨w0, ?_, ?_⟩ <;> rw [w1, w3] <;> grind
/-- A product in 32 bits. -/
theorem mul32_ok {x y : Nat} {a b : Cr} (hx : fnt .f32 x = true) (hy : fnt .f32 y = true) (h1 : Cw (wide x) a) (h2 : Cw (wide y) b) (hm : cmul a b ≠ .no) (hb : fv .f32 x * fv .f32 y ≤ 64 ∧ -(fv .f32 x * fv .f32 y) ≤ 64) (h : cnar (cmul a b) ≠ .no) : fnt .f32 (fop .mul .f32 x y) = true ∧ Cw (wide (fop .mul .f32 x y)) (cnar (cmul a b)) := by
  obtain ⟨a0, a1⟩ := wide_val hx
  obtain ⟨b0, b1⟩ := wide_val hy
  have t6 : tp 6 = 64 := (tp_nat 6).trans rfl
  obtain ⟨g1, g2⟩ := fop_rnd .mul rfl .f32 hx hy (by simp) 6 (by decide) (by rw [t6]; simp only [ex]; exact hb.1) (by rw [t6]; simp only [ex]; exact hb.2)
  obtain ⟨k1, k2⟩ := fop_rnd .mul rfl .f64 a0 b0 (by simp) 6 (by decide) (by rw [t6]; simp only [ex]; rw [a1, b1]; exact hb.1) (by rw [t6]; simp only [ex]; rw [a1, b1]; exact hb.2)
  simp only [ex] at g2 k2
  rw [a1, b1] at k2
  obtain ⟨z, q, hz, hq, e1⟩ := rp_word hx
  obtain ⟨z', q', hz', hq', e2⟩ := rp_word hy
  have hz1 : z.natAbs < 2 ^ 24 := hz
  have hz2 : z'.natAbs < 2 ^ 24 := hz'
  have hq1 : (-149 : Int) ≤ q := hq
  have hq2 : (-149 : Int) ≤ q' := hq'
  have ee : fv .f32 x * fv .f32 y = ((z * z' : Int) : Rat) * tp (q + q') := by rw [e1, e2, tp_add, Rat.intCast_mul]; grind
  have hzz : (z * z').natAbs < 2 ^ 53 := by
    rw [Int.natAbs_mul]
    have : z.natAbs * z'.natAbs ≤ 2 ^ 24 * 2 ^ 24 := Nat.mul_le_mul (Nat.le_of_lt hz1) (Nat.le_of_lt hz2)
    have : 2 ^ 24 * 2 ^ 24 < 2 ^ 53 := by decide
    omega
  have ev := k2.eq (z := z * z') (q := q + q') hzz (by show (-1074 : Int) ≤ _; omega) ee
  have c := Cw.mul h1 h2 hm
  exact ⟨g1, cnar_ok c g1 (by rw [ev]; exact g2) h⟩
/-- A number between two. -/
def ctwo (a b : Cr) : Cr := frc (clow a) fun m => frc (Nat.sub (chig b) m) fun r => .c false m r
theorem ctwo_ok {x : Nat} {a b : Cr} {A B : Nat} (hx : fnt .f64 x = true) (hA : Cw A a) (hB : Cw B b) (h0 : 0 < clow a) (h1 : fv .f64 A ≤ fv .f64 x) (h2 : fv .f64 x ≤ fv .f64 B) : Cw x (ctwo a b) := by
  have k1 := clow_pos hA h0
  have k2 := chig_ok hB
  have e0 := ep_pos
  have lo := Rat.le_trans k1 h1
  have hi := Rat.le_trans h2 k2
  have hle : clow a ≤ chig b := by
    by_cases h : clow a ≤ chig b
    · exact h
    · exfalso
      have c : ((chig b : Nat) : Rat) < ((clow a : Nat) : Rat) := by exact_mod_cast (by omega : chig b < clow a)
      have := Rat.mul_lt_mul_of_pos_right c e0
      grind
  unfold ctwo
  rw [frc_eq, frc_eq]
  have ks : ((chig b - clow a : Nat) : Rat) = ((chig b : Nat) : Rat) - ((clow a : Nat) : Rat) := by
    have : ((chig b - clow a : Nat) : Rat) + ((clow a : Nat) : Rat) = ((chig b : Nat) : Rat) := by rw [← Rat.natCast_add, Nat.sub_add_cancel hle]
    grind
  show fnt .f64 x = true ∧ fv .f64 x - sg false * (((clow a : Nat) : Rat) * ep) ≤ ((chig b - clow a : Nat) : Rat) * ep ∧ sg false * (((clow a : Nat) : Rat) * ep) - fv .f64 x ≤ ((chig b - clow a : Nat) : Rat) * ep
  rw [ks]
  have s1 : sg false * (((clow a : Nat) : Rat) * ep) = ((clow a : Nat) : Rat) * ep := by simp only [sg]; grind
  rw [s1]
  refine ⟨hx, ?_, ?_⟩ <;> grind
/-- StefanRoot's number, in 32 bits. -/
theorem root_cw {w k : Nat} {s : Cr} {r : Cr × Cr} (hw : abv w = true) (hs : Cw (wide w) s) (hp : 0 ≤ fv .f64 (wide w)) (hk : k ≤ 50) (h : cst s k (cnat 0) (cnat 3) = some r) (h0 : 0 < clow r.1) (hn : cnar (ctwo r.1 r.2) ≠ .no) : Cw (wide (stF w)) (cnar (ctwo r.1 r.2)) := by
  obtain ⟨c1, c2⟩ := cst_all hs hp h
  obtain ⟨v1, v2⟩ := stV_in (wide w) hk
  have c := ctwo_ok (stV_fnt (wide w)) c1 c2 h0 v1 v2
  obtain ⟨b0, b1, b2⟩ := (stLH_btw (wide w) 50).1
  have b1' : 0 ≤ fv .f64 (stV (wide w)) := b1
  have b2' : fv .f64 (stV (wide w)) ≤ 3 := b2
  have t2 : tp 2 = 4 := (tp_nat 2).trans rfl
  obtain ⟨_, n0, n1⟩ := narrow_val (stV_fnt (wide w)) 2 (by decide) (by rw [t2]; grind) (by rw [t2]; grind)
  have e : stF w = narrow (stV (wide w)) := by unfold stF; rw [if_pos hw]
  rw [e]
  exact cnar_ok c n0 n1 hn
end Go.Proofs.Ytjeeflldbhajiaa
set_option linter.unusedSimpArgs false
set_option linter.unusedVariables false
set_option linter.unusedSectionVars false
namespace Go.Proofs.Ytjeeflldbhajiaa
open Go Go.RowKit
def ccK : Cr := .c false 140428265638241624111198502912 0
def rtP (t sq cu : Cr) : Cr := cmul (cmul (cmul ccK t) sq) cu
def rtT (t cu co P : Cr) (S : Nat) : Bool := match Nat.ble (chig P) (Nat.add S 38685626227668133590597632), Nat.ble S (Nat.add (clow P) 38685626227668133590597632) with
  | true, true => (match Nat.ble 1 (clow cu), Nat.ble (chig cu) 79228162514264337593543950336 with
    | true, true => (match Nat.ble (chig co) (Nat.add (clow cu) 38685626227668133590597632), Nat.ble (chig cu) (Nat.add (clow co) 38685626227668133590597632) with
      | true, true => (match Nat.ble 1 (clow t) with
        | true => Nat.ble 1 (clow co)
        | false => false)
      | _, _ => false)
    | _, _ => false)
  | _, _ => false
theorem rtT_ok {t cu co P : Cr} {S : Nat} (h : rtT t cu co P S = true) : (chig P ≤ S + 38685626227668133590597632 ∧ S ≤ clow P + 38685626227668133590597632) ∧ (1 ≤ clow cu ∧ chig cu ≤ 79228162514264337593543950336) ∧ (chig co ≤ clow cu + 38685626227668133590597632 ∧ chig cu ≤ clow co + 38685626227668133590597632) ∧ 1 ≤ clow t ∧ 1 ≤ clow co := by
  unfold rtT at h
  split at h
  · rename_i h1 h2
    split at h
    · rename_i h3 h4
      split at h
      · rename_i h5 h6
        split at h
        · rename_i h7
          exact ⟨⟨Nat.le_of_ble_eq_true h1, Nat.le_of_ble_eq_true h2⟩, ⟨Nat.le_of_ble_eq_true h3, Nat.le_of_ble_eq_true h4⟩, ⟨Nat.le_of_ble_eq_true h5, Nat.le_of_ble_eq_true h6⟩, Nat.le_of_ble_eq_true h7, Nat.le_of_ble_eq_true h⟩
        · cases h
      · cases h
    · cases h
  · cases h
def rtQ (t : Cr) (S : Nat) : Bool := rtT t (cnar (cer t)) (cneg (cnar (cer (cneg t)))) (rtP t (cnar (cex (cnar (cmul t t)))) (cnar (cer t))) S
def rtA (A : Option (Cr × Cr)) (S : Nat) : Bool := match A with
  | some r => (match Nat.ble 1 (clow r.1) with
    | true => rtQ (cnar (ctwo r.1 r.2)) S
    | false => false)
  | none => false
theorem rtA_ok {A : Option (Cr × Cr)} {S : Nat} (h : rtA A S = true) : ∃ r, A = some r ∧ 0 < clow r.1 ∧ rtQ (cnar (ctwo r.1 r.2)) S = true := by
  cases A with
  | none => cases h
  | some r =>
    have h' : (match Nat.ble 1 (clow r.1) with
      | true => rtQ (cnar (ctwo r.1 r.2)) S
      | false => false) = true := h
    cases hb : Nat.ble 1 (clow r.1) with
    | false => rw [hb] at h'; cases h'
    | true =>
      rw [hb] at h'
      exact ⟨r, rfl, Nat.le_of_ble_eq_true hb, h'⟩
def rtS (k : Nat) : Nat := Nat.mul (Nat.add k 1) 9903520314283042199192993792
def rtChk (k : Nat) : Bool := frc (rtS k) fun S => rtA (cst (.c false S 0) 26 (cnat 0) (cnat 3)) S
theorem rtChk_ok {k : Nat} (h : rtChk k = true) : rtA (cst (.c false (rtS k) 0) 26 (cnat 0) (cnat 3)) (rtS k) = true := by
  unfold rtChk at h
  rwa [frc_eq] at h
set_option maxRecDepth 100000
theorem rt_all1 : ((List.range 4).all rtChk) = true := by decide +kernel
theorem rt_all2 : ((List.range 4).all fun k => rtChk (k + 4)) = true := by decide +kernel
theorem rt_all3 : ((List.range 4).all fun k => rtChk (k + 8)) = true := by decide +kernel
theorem rt_all4 : ((List.range 4).all fun k => rtChk (k + 12)) = true := by decide +kernel
theorem rt_all {k : Nat} (hk : k < 16) : rtChk k = true := by
  rcases (show k < 4 ∨ (4 ≤ k ∧ k < 8) ∨ (8 ≤ k ∧ k < 12) ∨ (12 ≤ k ∧ k < 16) by omega) with h | h | h | h
  · exact List.all_eq_true.1 rt_all1 k (List.mem_range.2 h)
  · have := List.all_eq_true.1 rt_all2 (k - 4) (List.mem_range.2 (by omega))
    rwa [show k - 4 + 4 = k by omega] at this
  · have := List.all_eq_true.1 rt_all3 (k - 8) (List.mem_range.2 (by omega))
    rwa [show k - 8 + 8 = k by omega] at this
  · have := List.all_eq_true.1 rt_all4 (k - 12) (List.mem_range.2 (by omega))
    rwa [show k - 12 + 12 = k by omega] at this
end Go.Proofs.Ytjeeflldbhajiaa
set_option linter.unusedSimpArgs false
set_option linter.unusedVariables false
set_option linter.unusedSectionVars false
namespace Go.Proofs.Ytjeeflldbhajiaa
open Go Go.RowKit
theorem ne_of_clow {a : Cr} (h : 1 ≤ clow a) : a ≠ .no := by
  rintro rfl
  exact absurd h (by show ¬ 1 ≤ 0; omega)
theorem cnar_ne {a : Cr} (h : cnar a ≠ .no) : a ≠ .no := by
  rintro rfl
  exact h rfl
theorem cneg_ne {a : Cr} (h : cneg a ≠ .no) : a ≠ .no := by
  rintro rfl
  exact h rfl
theorem cmul_ne {a b : Cr} (h : cmul a b ≠ .no) : a ≠ .no ∧ b ≠ .no := by
  constructor
  · rintro rfl; cases b <;> exact h rfl
  · rintro rfl; cases a <;> exact h rfl
theorem cex_ne {a : Cr} (h : cex a ≠ .no) : a ≠ .no := by
  rintro rfl
  exact h rfl
theorem cw_congr {x y : Nat} {a : Cr} (h : Cw x a) (hy : fnt .f64 y = true) (e : fv .f64 y = fv .f64 x) : Cw y a := by
  cases a with
  | no => exact h.elim
  | c s m r => exact ⟨hy, by rw [e]; exact h.2.1, by rw [e]; exact h.2.2⟩
theorem cnar_fits {x : Nat} {a : Cr} (hx : Cw x a) (h : cnar a ≠ .no) : fits x = true ∧ fnt .f32 (narrow x) = true ∧ Cw (wide (narrow x)) (cnar a) := by
  cases a with
  | no => exact absurd rfl h
  | c s m r =>
    have hM : m + r ≤ 2 ^ 190 := by
      by_cases hle : m + (r + (m + r) / 8388608 + 3) ≤ 2 ^ 190
      · omega
      · exfalso
        apply h
        have e1 : cnar (.c s m r) = frc (r + (m + r) / 8388608 + 3) fun r' => (match Nat.ble (m + r') (Nat.pow 2 190) with
          | true => Cr.c s m r'
          | false => Cr.no) := rfl
        rw [e1, frc_eq]
        cases hb : Nat.ble (m + (r + (m + r) / 8388608 + 3)) (Nat.pow 2 190) with
        | true => exact absurd (Nat.le_of_ble_eq_true hb) hle
        | false => rfl
    obtain ⟨b0, b1, b2⟩ := cw_abs hx hM
    have e5 : ((2 ^ 190 : Nat) : Rat) * ep = tp 94 := by
      have : ((2 ^ 190 : Nat) : Rat) = tp (190 : Nat) := (tp_nat 190).symm
      rw [this]; unfold ep; rw [← tp_add]; rfl
    rw [e5] at b1 b2
    obtain ⟨nf, n0, n1⟩ := narrow_val b0 94 (by decide) b2 (by grind)
    exact ⟨nf, n0, cnar_ok hx n0 n1 h⟩
theorem cnar_narrow {x : Nat} {a : Cr} (hx : Cw x a) (h : cnar a ≠ .no) : fnt .f32 (narrow x) = true ∧ Cw (wide (narrow x)) (cnar a) := (cnar_fits hx h).2
theorem cw_cK : Cw (cn .f64 4610661241896218294) ccK := cw_at (by decide +kernel) ((cw_lit (x := cn .f64 4610661241896218294) (m := 7982422723571382) (u := 52) (by decide +kernel) (by decide) (by decide +kernel)).trans (by rw [show 7982422723571382 * 2 ^ (96 - 52) = 140428265638241624111198502912 by decide +kernel]))
theorem e2048 : ((38685626227668133590597632 : Nat) : Rat) * ep = 1 / 2048 := by
  have e1 : ((38685626227668133590597632 : Nat) : Rat) * 2048 = ((79228162514264337593543950336 : Nat) : Rat) := by decide +kernel
  have := te96
  rw [← e1] at this
  generalize ((38685626227668133590597632 : Nat) : Rat) = A at *
  grind
theorem eS (k : Nat) : ((rtS k : Nat) : Rat) * ep = ((k + 1 : Nat) : Rat) / 8 := by
  have e1 : ((9903520314283042199192993792 : Nat) : Rat) * 8 = ((79228162514264337593543950336 : Nat) : Rat) := by decide +kernel
  have := te96
  rw [← e1] at this
  show (((k + 1) * 9903520314283042199192993792 : Nat) : Rat) * ep = _
  rw [Rat.natCast_mul]
  generalize ((9903520314283042199192993792 : Nat) : Rat) = A at *
  generalize ((k + 1 : Nat) : Rat) = K at *
  have : K * A * ep = K * (A * ep) := by grind
  have h2 : A * ep = 1 / 8 := by grind
  rw [this, h2]; grind
/-- The words. -/
def sqW (R : Nat) : Nat := narrow (exV (wide (fop .mul .f32 R R)))
def cuW (R : Nat) : Nat := narrow (erV (wide R))
/-- All that the law asks of a root put back. -/
structure RT (w R : Nat) : Prop where
  fR : fnt .f32 R = true
  fQ : fnt .f32 (fop .mul .f32 R R) = true
  bQ : -64 ≤ fv .f32 (fop .mul .f32 R R) ∧ fv .f32 (fop .mul .f32 R R) ≤ 64
  tS : fits (exV (wide (fop .mul .f32 R R))) = true
  fS : fnt .f32 (sqW R) = true
  fC : fnt .f32 (cuW R) = true
  fO : fnt .f32 (cuW (fneg .f32 R)) = true
  gap : flt .f64 (gapC (fop .mul .f64 (fop .mul .f64 (fop .mul .f64 (cn .f64 4610661241896218294) (wide R)) (wide (sqW R))) (wide (cuW R))) (wide w)) (fop .mul .f64 cTho (fop .add .f64 cOne64 (wide w))) = true
  opp : flt .f64 (gapC (wide (cuW R)) (fneg .f64 (wide (cuW (fneg .f32 R))))) cTho = true
  pos : fgt .f32 (cuW R) (cn .f32 0) = true
  one : fle .f32 (cuW R) (cn .f32 1065353216) = true
set_option maxHeartbeats 2000000 in
theorem rt_of {w k : Nat} (hk : k < 16) (hw : V .f32 w (((k + 1 : Nat) : Rat) / 8)) : RT w (stF w) := by
  obtain ⟨r, hr, h0, hq⟩ := rtA_ok (rtChk_ok (rt_all hk))
  obtain ⟨w0, w1⟩ := wide_val hw.1
  have kp : (1 : Rat) ≤ ((k + 1 : Nat) : Rat) := by exact_mod_cast (by omega : 1 ≤ k + 1)
  have kq : ((k + 1 : Nat) : Rat) ≤ 16 := by
    have : ((k + 1 : Nat) : Rat) ≤ ((16 : Nat) : Rat) := by exact_mod_cast (by omega : k + 1 ≤ 16)
    exact this
  have hs : Cw (wide w) (.c false (rtS k) 0) := cw_at w0 (by rw [w1, hw.2, eS])
  have hab : abv w = true := abv_of hw.1 (by rw [hw.2]; grind)
  obtain ⟨a, b, c, d, e⟩ := rtT_ok hq
  obtain ⟨t, ht⟩ : ∃ t, cnar (ctwo r.1 r.2) = t := ⟨_, rfl⟩
  rw [ht] at a b c d e
  have nt := ne_of_clow d
  have RW := root_cw hab hs (by rw [w1, hw.2]; grind) (by decide) hr h0 (by rw [ht]; exact nt)
  rw [ht] at RW
  obtain ⟨f0, f1, f2, f3, f4⟩ := stF_val hab
  have e0 := ep_pos
  clear hr hq h0
  generalize stF w = R at *
  have nP : clow (rtP t (cnar (cex (cnar (cmul t t)))) (cnar (cer t))) ≠ 0 := by
    have hS : rtS k = (k + 1) * 9903520314283042199192993792 := rfl
    omega
  have nP' := ne_of_clow (show 1 ≤ clow (rtP t (cnar (cex (cnar (cmul t t)))) (cnar (cer t))) by omega)
  have p1 := cmul_ne nP'
  have p2 := cmul_ne p1.1
  have p3 := cmul_ne p2.1
  have nsq := p2.2
  have ncu := p1.2
  have ncu' := cnar_ne ncu
  have ne2 := cnar_ne nsq
  have nq := cex_ne ne2
  have nm := cnar_ne nq
  have mb := mul_bd (a := 4) (b := 4) (x := fv .f32 R) (y := fv .f32 R) (by grind) (by grind) (by grind) (by grind)
  obtain ⟨g0, g1⟩ := mul32_ok f0 f0 RW RW nm ⟨by grind, by grind⟩ nq
  have bq := Bnd.mul (k := .f32) (a := 4) (b := 4) (c := 64) ⟨f0, by grind, by grind⟩ ⟨f0, by grind, by grind⟩ (Rep.int (k := .f32) 64 (by decide)) (by grind)
  have ce := cex_ok g1 ne2
  obtain ⟨sf, s0, s1⟩ := cnar_fits ce nsq
  have cc := cer_ok RW ncu'
  obtain ⟨c0, c1⟩ := cnar_narrow cc ncu
  have nco := cneg_ne (ne_of_clow e)
  obtain ⟨n0, n1⟩ := fneg_val f0
  have wn := wide_val n0
  have wR := wide_val f0
  have CN : Cw (wide (fneg .f32 R)) (cneg t) := cw_congr (Cw.neg RW) wn.1 (by rw [wn.2, n1, (fneg_val wR.1).2, wR.2])
  have co' := cer_ok CN (cnar_ne nco)
  obtain ⟨o0, o1⟩ := cnar_narrow co' nco
  have CO := Cw.neg o1
  have CP := Cw.mul (Cw.mul (Cw.mul cw_cK RW p2.1) s1 p1.1) c1 nP'
  have CP' : Cw (fop .mul .f64 (fop .mul .f64 (fop .mul .f64 (cn .f64 4610661241896218294) (wide R)) (wide (sqW R))) (wide (cuW R))) (rtP t (cnar (cex (cnar (cmul t t)))) (cnar (cer t))) := CP
  have c1' : Cw (wide (cuW R)) (cnar (cer t)) := c1
  have CO' : Cw (fneg .f64 (wide (cuW (fneg .f32 R)))) (cneg (cnar (cer (cneg t)))) := CO
  have c0' : fnt .f32 (cuW R) = true := c0
  clear CP c1 CO c0 RW CN cc co' ce g1 s1 o1 hs
  generalize rtP t (cnar (cex (cnar (cmul t t)))) (cnar (cer t)) = cP at *
  generalize cnar (cer t) = cC at *
  generalize cneg (cnar (cer (cneg t))) = cO at *
  obtain ⟨wC0, wC1⟩ := wide_val c0'
  -- the bounds
  have D := e2048
  have ES := eS k
  have T := te96
  have a1 : ((chig cP : Nat) : Rat) ≤ ((rtS k + 38685626227668133590597632 : Nat) : Rat) := by exact_mod_cast a.1
  have a2 : ((rtS k : Nat) : Rat) ≤ ((clow cP + 38685626227668133590597632 : Nat) : Rat) := by exact_mod_cast a.2
  have b1 : ((1 : Nat) : Rat) ≤ ((clow cC : Nat) : Rat) := by exact_mod_cast b.1
  have b2 : ((chig cC : Nat) : Rat) ≤ ((79228162514264337593543950336 : Nat) : Rat) := by exact_mod_cast b.2
  have d1 : ((chig cO : Nat) : Rat) ≤ ((clow cC + 38685626227668133590597632 : Nat) : Rat) := by exact_mod_cast c.1
  have d2 : ((chig cC : Nat) : Rat) ≤ ((clow cO + 38685626227668133590597632 : Nat) : Rat) := by exact_mod_cast c.2
  rw [Rat.natCast_add] at a1 a2 d1 d2
  have one : ((1 : Nat) : Rat) = 1 := rfl
  rw [one] at b1
  have x1 := chig_ok CP'
  have x2 := clow_pos CP' (by omega)
  have y1 := chig_ok c1'
  have y2 := clow_pos c1' (by omega)
  have z1 := chig_ok CO'
  have z2 := clow_pos CO' (by omega)
  have fP := cw_fnt CP'
  have fO := cw_fnt CO'
  clear a b c d e nP nP' p1 p2 p3 nsq ncu ncu' ne2 nq nm nt nco CP' c1' CO'
  have A1 := Rat.mul_le_mul_of_nonneg_right a1 (Rat.le_of_lt e0)
  have A2 := Rat.mul_le_mul_of_nonneg_right a2 (Rat.le_of_lt e0)
  have B1 := Rat.mul_le_mul_of_nonneg_right b1 (Rat.le_of_lt e0)
  have B2 := Rat.mul_le_mul_of_nonneg_right b2 (Rat.le_of_lt e0)
  have D1 := Rat.mul_le_mul_of_nonneg_right d1 (Rat.le_of_lt e0)
  have D2 := Rat.mul_le_mul_of_nonneg_right d2 (Rat.le_of_lt e0)
  rw [Rat.add_mul, D, ES] at A1
  rw [Rat.add_mul, D, ES] at A2
  rw [T] at B2
  rw [Rat.add_mul, D] at D1 D2
  clear a1 a2 b1 b2 d1 d2 D ES T
  generalize ((chig cP : Nat) : Rat) * ep = hP at *
  generalize ((clow cP : Nat) : Rat) * ep = lP at *
  generalize ((chig cC : Nat) : Rat) * ep = hC at *
  generalize ((clow cC : Nat) : Rat) * ep = lC at *
  generalize ((chig cO : Nat) : Rat) * ep = hO at *
  generalize ((clow cO : Nat) : Rat) * ep = lO at *
  have t12 : tp (-12) * 4096 = 1 := by
    have h : tp (-12) * tp 12 = 1 := by rw [← tp_add]; exact tp_zero
    rwa [show tp 12 = 4096 from (tp_nat 12).trans rfl] at h
  have k2 : ((2 : Int) : Rat) = 2 := rfl
  have k3 : ((3 : Int) : Rat) = 3 := rfl
  have r1k : Rep .f64 ((1 : Rat) / 2048) := rep64 2 (-12) (by decide) (by decide) (by decide) (by rw [k2]; grind)
  have r3k : Rep .f64 ((3 : Rat) / 4096) := rep64 3 (-12) (by decide) (by decide) (by decide) (by rw [k3]; grind)
  have r1 : Rep .f64 (1 : Rat) := Rep.int (k := .f64) 1 (by decide)
  have r64 : Rep .f64 (64 : Rat) := Rep.int (k := .f64) 64 (by decide)
  have ct := cTho_gt
  obtain ⟨q0, q1, q2⟩ := cTho_pos
  have hwv := hw.2
  generalize ((k + 1 : Nat) : Rat) = K at *
  refine ⟨f0, g0, ⟨bq.2.1, bq.2.2⟩, sf, s0, c0', o0, ?_, ?_, ?_, ?_⟩
  · obtain ⟨k0, _, k2'⟩ := gapC_btw fP w0 r1k (by rw [w1, hwv]; grind) (by rw [w1, hwv]; grind)
    obtain ⟨u0, u1, u2⟩ := fop_btw .add rfl .f64 (a := 1) (b := 64) vOne64.1 w0 (by simp) r1 r64 (by simp only [ex]; rw [vOne64.2, w1, hwv]; grind) (by simp only [ex]; rw [vOne64.2, w1, hwv]; grind)
    have m1 := Rat.mul_le_mul_of_nonneg_left u1 q1
    have m2 := Rat.mul_le_mul_of_nonneg_right q2 (show 0 ≤ fv .f64 (fop .add .f64 cOne64 (wide w)) by grind)
    obtain ⟨v0, v1, _⟩ := fop_btw .mul rfl .f64 (a := 3 / 4096) (b := 64) q0 u0 (by simp) r3k r64 (by simp only [ex]; grind) (by simp only [ex]; grind)
    rw [fltv k0 v0]
    exact decide_eq_true (by grind)
  · obtain ⟨k0, _, k2'⟩ := gapC_btw wC0 fO r1k (by grind) (by grind)
    rw [fltv k0 q0]
    exact decide_eq_true (by grind)
  · rw [fgtv c0' V0.1, V0.2]
    exact decide_eq_true (by grind)
  · rw [flev c0' V1.1, V1.2]
    exact decide_eq_true (by grind)
end Go.Proofs.Ytjeeflldbhajiaa
set_option linter.unusedSimpArgs false
set_option linter.unusedVariables false
set_option linter.unusedSectionVars false
namespace Go.Proofs.Ytjeeflldbhajiaa
open Go Go.RowKit
theorem sq_zero {x : Nat} (h : V .f64 x 0) : V .f64 (sqC x) 0 := by
  obtain ⟨h1, h2⟩ := h
  unfold fnt at h1
  unfold fv at h2
  cases e : FloatKind.f64.format.read x with
  | number s m p =>
    rw [e] at h2
    have hm : m = 0 := by
      by_cases hm : m = 0
      · exact hm
      · exfalso
        have h3 : 0 < (m : Rat) * tp p := Rat.mul_pos (by exact_mod_cast Nat.pos_of_ne_zero hm) (tp_pos p)
        have h4 : dv (.number s m p) = sg s * ((m : Rat) * tp p) := rfl
        rw [h4] at h2
        rcases abs_sg s ((m : Rat) * tp p) with ⟨a, _⟩ | ⟨a, _⟩ <;> grind
    subst hm
    have d0 : dv (.number s 0 p) = 0 := h2
    obtain ⟨w1, w2⟩ := write_rnd FloatKind.f64.format (.number s 0 p) rfl (fmt_exp .f64) 0 (by decide) (by rw [d0]; exact Rat.le_of_lt (tp_pos 0)) (by rw [d0]; have := tp_pos 0; grind)
    rw [d0] at w2
    have e2 : sqC x = FloatKind.f64.format.write (.number s 0 p) := by simp [sqC, Ieee.Format.sqrt, e, Ieee.Datum.root]
    rw [e2]
    exact ⟨w1, w2.zero⟩
  | infinity s => rw [e] at h1; cases h1
  | nan s t => rw [e] at h1; cases h1
theorem root_zero {c : Nat} (h : V .f32 c 0) : V .f32 (rootC c) 0 := by
  obtain ⟨w0, w1⟩ := wide_val h.1
  obtain ⟨s0, s1⟩ := sq_zero ⟨w0, w1.trans h.2⟩
  have t0 := tp_pos 0
  obtain ⟨_, n0, n1⟩ := narrow_val s0 0 (by decide) (by rw [s1]; exact Rat.le_of_lt t0) (by rw [s1]; grind)
  rw [s1] at n1
  exact ⟨n0, n1.zero⟩
section
variable {s : St} {a b c d p l : Int} {X T : Nat} {z : Int}
theorem front_none (h : SV s a b c d p l) (hz : 2 ≤ z ∧ z ≤ 3) (hX : V .f32 X ((p + z : Int) : Rat)) (hT : V .f32 T 0) : V .f32 (frV s.k X T) 0 := by
  obtain ⟨_, ⟨b1, b2⟩, _, ⟨d1, d2⟩, _, _⟩ := h.rat
  have z0 : Rep .f32 (0 : Rat) := Rep.int (k := .f32) 0 (by decide)
  have m1 : ex .mul ((d : Rat) / 4) 0 = 0 := by simp only [ex]; grind
  have M := V.op .mul rfl h.D hT (by simp) (by rw [m1]; exact z0)
  rw [m1] at M
  have q1 : ex .quo 0 ((b : Rat) / 2) = 0 := by simp only [ex]; grind
  have Q := V.op .quo rfl M h.B (fun _ => by grind) (by rw [q1]; exact z0)
  rw [q1] at Q
  have R := root_zero Q
  obtain ⟨w0, w1, _⟩ := frS_val h hz hX
  obtain ⟨f0, f1, f2, f3, f4⟩ := stF_val (abv_of w0 (by grind))
  unfold frV
  generalize rootC (fop .quo .f32 (fop .mul .f32 s.k.d T) s.k.b) = r at *
  generalize stF (frS s.k X) = L at *
  have r8 : Rep .f32 (8 : Rat) := Rep.int (k := .f32) 8 (by decide)
  obtain ⟨p0, _, _⟩ := fop_btw .mul rfl .f32 (a := -8) (b := 8) V2.1 f0 (by simp) r8.neg r8 (by simp only [ex]; rw [V2.2]; grind) (by simp only [ex]; rw [V2.2]; grind)
  generalize fop .mul .f32 (cn .f32 1073741824) L = P at *
  obtain ⟨o0, o1, o2⟩ := fop_btw .mul rfl .f32 (a := 0) (b := 0) p0 R.1 (by simp) z0 z0 (by simp only [ex]; rw [R.2]; grind) (by simp only [ex]; rw [R.2]; grind)
  exact ⟨o0, by grind⟩
theorem front_ok {x t : Nat} {q : Rat} (h : SV s a b c d p l) (hz : 2 ≤ z ∧ z ≤ 3) (hX : V .f32 (cn .f32 x) ((p + z : Int) : Rat)) (hT : V .f32 (cn .f32 t) q) (hq : 0 ≤ q) : frOk s x t = true := by
  obtain ⟨w0, w1, _⟩ := frS_val h hz hX
  have f1 : fin .f32 (cn .f32 x) = true := by rw [fin_num]; exact hX.1
  have f2 : fgt .f32 (cn .f32 x) (cn .f32 s.p) = true := by
    have hp : V .f32 (cn .f32 s.p) (p : Rat) := h.P
    rw [fgtv hX.1 hp.1, hX.2, hp.2]
    exact decide_eq_true (icast_lt (by omega))
  have f3 : lst (cn .f32 t) = true := by
    unfold lst
    have f : fin .f32 (cn .f32 t) = true := by rw [fin_num]; exact hT.1
    rw [f, fgev hT.1 V0.1, hT.2, V0.2]
    simpa using hq
  unfold frOk
  rw [h.ok, f1, f2, f3, abv_of w0 (by grind)]; rfl
end
/-- All that the law asks of four fronts. -/
structure FA (s : St) (X2 X3 T T4 : Nat) : Prop where
  fN : fnt .f32 (frV s.k X2 T) = true
  fF : fnt .f32 (frV s.k X2 T4) = true
  fH : fnt .f32 (frV s.k X3 T) = true
  f0 : fnt .f32 (frV s.k X2 (cn .f32 0)) = true
  z : feq .f32 (frV s.k X2 (cn .f32 0)) (cn .f32 0) = true
  twice : flt .f64 (gapC (wide (frV s.k X2 T4)) (fop .mul .f64 (cn .f64 4611686018427387904) (wide (frV s.k X2 T)))) (fop .mul .f64 cTho (fop .add .f64 cOne64 (wide (frV s.k X2 T4)))) = true
  hot : fgt .f32 (frV s.k X3 T) (frV s.k X2 T) = true
/-- A time and four times the time. -/
def timeT (j : Int) : Nat := fop .quo .f32 (cn .f32 (floatOfInt .f32 (1 + j))) (cn .f32 1082130432)
section
variable {s : St} {a b c d p l : Int}
theorem time_val {j : Int} (hj : 0 ≤ j ∧ j ≤ 7) : V .f32 (timeT j) (((1 + j : Int) : Rat) / 4) ∧ V .f32 (fop .mul .f32 (cn .f32 1082130432) (timeT j)) (((4 * (1 + j) : Int) : Rat) / 4) := by
  have h : V .f32 (timeT j) (((1 + j : Int) : Rat) / 4) := quarter_val (by omega)
  have e : ex .mul 4 (((1 + j : Int) : Rat) / 4) = ((4 * (1 + j) : Int) : Rat) / 4 := by
    simp only [ex]
    rw [Rat.intCast_mul 4 (1 + j)]
    have c4 : ((4 : Int) : Rat) = 4 := rfl
    rw [c4]; grind
  have M := V.op .mul rfl V4 h (by simp) (by rw [e]; exact rep_quarter (by omega))
  rw [e] at M
  exact ⟨h, M⟩
theorem point_val (h : SV s a b c d p l) : V .f32 (fop .add .f32 (cn .f32 s.p) (cn .f32 1073741824)) ((p + 2 : Int) : Rat) ∧ V .f32 (fop .add .f32 (cn .f32 s.p) (cn .f32 1077936128)) ((p + 3 : Int) : Rat) := by
  have hb := h.bd
  have v2 : V .f32 (cn .f32 1073741824) ((2 : Int) : Rat) := by
    have e2 : cn .f32 1073741824 = floatOfInt .f32 2 := by decide +kernel
    rw [e2]; exact V.int .f32 2 (by decide)
  have v3 : V .f32 (cn .f32 1077936128) ((3 : Int) : Rat) := by
    have e3 : cn .f32 1077936128 = floatOfInt .f32 3 := by decide +kernel
    rw [e3]; exact V.int .f32 3 (by decide)
  have s2 : ex .add (p : Rat) ((2 : Int) : Rat) = ((p + 2 : Int) : Rat) := by simp only [ex]; rw [Rat.intCast_add]
  have s3 : ex .add (p : Rat) ((3 : Int) : Rat) = ((p + 3 : Int) : Rat) := by simp only [ex]; rw [Rat.intCast_add]
  have A := V.op .add rfl h.P v2 (by simp) (by rw [s2]; exact rep_int (by omega))
  have B := V.op .add rfl h.P v3 (by simp) (by rw [s3]; exact rep_int (by omega))
  rw [s2] at A
  rw [s3] at B
  exact ⟨A, B⟩
theorem fa_of (h : SV s a b c d p l) {j : Int} (hj : 0 ≤ j ∧ j ≤ 7) : FA s (fop .add .f32 (cn .f32 s.p) (cn .f32 1073741824)) (fop .add .f32 (cn .f32 s.p) (cn .f32 1077936128)) (timeT j) (fop .mul .f32 (cn .f32 1082130432) (timeT j)) := by
  obtain ⟨t1, t4⟩ := time_val hj
  obtain ⟨x2, x3⟩ := point_val h
  have N := frV_val h ⟨by decide, by decide⟩ x2 (by omega) t1
  have F := frV_val h ⟨by decide, by decide⟩ x2 (τ := 4 * (1 + j)) (by omega) t4
  have H := frV_val h ⟨by decide, by decide⟩ x3 (by omega) t1
  have Z := front_none h ⟨by decide, by decide⟩ x2 V0
  refine ⟨N.1, F.1, H.1, Z.1, ?_, far_near h x2 (by omega) t1 t4, hot_far h x2 x3 (by omega) t1⟩
  rw [feqv Z.1 V0.1, Z.2, V0.2]
  exact decide_eq_true rfl
end
end Go.Proofs.Ytjeeflldbhajiaa

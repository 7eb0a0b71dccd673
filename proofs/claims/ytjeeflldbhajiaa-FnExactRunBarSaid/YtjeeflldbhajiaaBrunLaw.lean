/-
  The law on a run of a bar: true for every input. No condition.
-/
import Derived.Test.YtjeeflldbhajiaaBrunL
import Derived.Test.YtjeeflldbhajiaaBrunI
import Derived.Test.YtjeeflldbhajiaaBrunR
set_option linter.unusedSimpArgs false
set_option linter.unusedVariables false
set_option linter.unusedSectionVars false
namespace Go.Proofs.Ytjeeflldbhajiaa
open Go Go.RowKit
open Go.ChangeShapes Go.WideShapes Go.ChangeAt Go.RowKit Go.Joins
theorem brun_size (s : St) (p l r : Nat) (b1 b2 : Bool) (t : Nat) (xs : List Nat) (z : Int) : (bX (brB s p l r b1 b2 t xs z) (brX s p l r b1 b2 t xs z.toNat)).length ≤ 128 ∧ (bX (brB s p l r b1 b2 t xs z) (brL s p l r b1 b2 t xs z.toNat)).length ≤ 128 := by
  cases h : brB s p l r b1 b2 t xs z
  · exact ⟨by show (0 : Nat) ≤ 128; omega, by show (0 : Nat) ≤ 128; omega⟩
  · have h1 : brPre s p l r t xs z = true ∧ brU s p l r b1 b2 t xs z.toNat = true := by unfold brB at h; rwa [Bool.and_eq_true] at h
    have h2 := h1.1
    unfold brPre at h2
    rw [Bool.and_eq_true] at h2
    have h7 : barOk s p xs = true := by have h9 := h2.1; unfold canB at h9; rw [Bool.and_eq_true] at h9; exact h9.1
    have h8 : 0 ≤ z ∧ z ≤ 128 := by simpa [inB] using h2.2
    have h3 := h1.2
    rw [brU_eq, Bool.and_eq_true] at h3
    have h6 := barOk_len (brX_ok h7 _ h3.1)
    refine ⟨?_, ?_⟩
    · show (brX s p l r b1 b2 t xs z.toNat).length ≤ 128
      omega
    · show (brL s p l r b1 b2 t xs z.toNat).length ≤ 128
      rw [brL_len]; omega
set_option maxHeartbeats 16000000 in
set_option maxRecDepth 100000 in
theorem walk_FnExactRunBar (s : St) (p : Nat) (v : Value) (xs : List Nat) (l : Nat) (r : Nat) (b1 : Bool) (b2 : Bool) (t : Nat) (z : Int) (w : World) (h : s.wf ∧ (Lit.float .f32 p).wf = true ∧ FS w v xs ∧ ∀ j, xs.getD j 0 < 4294967296) (_ : (Lit.float .f32 l).wf = true) (_ : (Lit.float .f32 r).wf = true) (_ : (Lit.float .f32 t).wf = true) (_ : (Lit.int .i64 z).wf = true) : Calls Try.prog 12 #[.agg #[.float .f32 s.a, .float .f32 s.b, .float .f32 s.c, .float .f32 s.d, .float .f32 s.p, .float .f32 s.l, .float .f32 p, v], .float .f32 l, .float .f32 r, .bool b1, .bool b2, .float .f32 t, .int .i64 z] w (BV w (.bool true)) := by
  have HS := Lib.hid h.2.2.1
  obtain ⟨qv, cv, rfl, -⟩ := h.2.2.1
  by_cases hn : xs.length ≤ 1048576
  rotate_left
  · have hlt : (1048576 : Int) - xs.length < 0 := by omega
    have HZ := Lib.hid (fun w' (h : Below w.heap.size w w') => (if_pos hlt ▸ szBar_any s p (.slice qv xs.length cv) xs 1048576 w' (HS.out.later h) (by omega) : Calls Try.prog 15 _ w' (BV w' (.int .i64 (-1)))))
    clear hlt hn h
    go_enter Try.func12, Try.ntmps12
    go_wp2_with (first | (with_reducible refine at_list ?_; refine wpList_fop rfl rfl rfl rfl rfl ?_; intro r n hr0; have hr := hr0 _ _ (by first | with_reducible assumption | exact rfl) (by first | with_reducible assumption | exact rfl); clear hr0) | (with_reducible refine at_list ?_; refine wpList_neg rfl rfl rfl ?_; intro r hr0; have hr := hr0 _ (by first | with_reducible assumption | exact rfl); clear hr0) | (with_reducible refine at_list ?_; refine wpList_fop_g rfl rfl rfl rfl rfl ?_; intro r n hr0; have hr := hr0 _ _ (by first | with_reducible assumption | exact rfl) (by first | with_reducible assumption | exact rfl); clear hr0) | (with_reducible refine at_list ?_; refine wpList_wide_g rfl rfl Try.underlying22 Try.underlying40 rfl ?_; intro r n hr0; have hr := hr0 _ (by first | with_reducible assumption | exact rfl); clear hr0) | (with_reducible refine at_list ?_; refine wpList_wide rfl rfl rfl Try.underlying22 Try.underlying40 ?_; intro r n hr0; have hr := hr0 _ (by first | with_reducible assumption | exact rfl); clear hr0) | (go_at_call 15; refine ((HZ.out _ (by (repeat (first | (with_reducible exact Below.refl _ _) | (with_reducible assumption) | (with_reducible refine below_then ?_ (by assumption)) | (with_reducible refine Below.trans ?_ (by assumption)) | (with_reducible refine below_drewN ?_ _) | (with_reducible apply Below.drew) | (with_reducible refine below_alloc ?_ _) | refine Below.setCell ?_ (by first | (simp; done) | (simp; omega)) _)))) ).mono ?_; rintro e w' ⟨rfl, hb⟩; obtain ⟨hT, hk⟩ := bv_next hb (by (repeat (with_reducible first | assumption | apply Trk.alloc | apply Trk.setCell | apply Trk.drewN | apply Trk.drew | exact Trk.nil _))); simp only [SameOn, World.size_alloc, World.size_setCell, World.size_drew, size_drewN', and_true] at hk; have hsz := Below.size hb; (try simp only [World.size_alloc, World.size_setCell, World.size_drew, size_drewN'] at hsz)) | (go_at_call 17; refine (toBar_any _ _ _ _ _ (by assumption) (by assumption)).mono ?_; rintro e w' ⟨u, rfl, hb, hO⟩; obtain ⟨pu, cu, rfl⟩ := OF.shape hO; (try simp only [World.size_alloc, World.size_setCell, World.size_drew, World.drewN] at hO); obtain ⟨hT, hk⟩ := bv_next hb (by (repeat (with_reducible first | assumption | apply Trk.alloc | apply Trk.setCell | apply Trk.drewN | apply Trk.drew | exact Trk.nil _))); simp only [SameOn, World.size_alloc, World.size_setCell, World.size_drew, size_drewN', and_true] at hk; have hsz := Below.size hb; (try simp only [World.size_alloc, World.size_setCell, World.size_drew, size_drewN'] at hsz)) | (go_at_call 19; refine (eqBar_any _ _ _ _ _ _ _ _ _ (by assumption) (by assumption) (by assumption) (by assumption) (by assumption)).mono ?_; rintro e w' ⟨rfl, hb⟩; obtain ⟨hT, hk⟩ := bv_next hb (by (repeat (with_reducible first | assumption | apply Trk.alloc | apply Trk.setCell | apply Trk.drewN | apply Trk.drew | exact Trk.nil _))); simp only [SameOn, World.size_alloc, World.size_setCell, World.size_drew, size_drewN', and_true] at hk; have hsz := Below.size hb; (try simp only [World.size_alloc, World.size_setCell, World.size_drew, size_drewN'] at hsz)) | (go_at_call 31; refine (eqF_any _ _ _ _ _ (by assumption) (by assumption) (by assumption)).mono ?_; rintro e w' ⟨rfl, hb⟩; obtain ⟨hT, hk⟩ := bv_next hb (by (repeat (with_reducible first | assumption | apply Trk.alloc | apply Trk.setCell | apply Trk.drewN | apply Trk.drew | exact Trk.nil _))); simp only [SameOn, World.size_alloc, World.size_setCell, World.size_drew, size_drewN', and_true] at hk; have hsz := Below.size hb; (try simp only [World.size_alloc, World.size_setCell, World.size_drew, size_drewN'] at hsz)))
    all_goals
      go_ret
      exact ⟨rfl, by (repeat (first | (with_reducible exact Below.refl _ _) | (with_reducible assumption) | (with_reducible refine below_then ?_ (by assumption)) | (with_reducible refine Below.trans ?_ (by assumption)) | (with_reducible refine below_drewN ?_ _) | (with_reducible apply Below.drew) | (with_reducible refine below_alloc ?_ _) | refine Below.setCell ?_ (by first | (simp; done) | (simp; omega)) _))⟩
  have hlt : ¬ (1048576 : Int) - xs.length < 0 := by omega
  have HZ := Lib.hid (fun w' (h : Below w.heap.size w w') => (if_neg hlt ▸ szBar_any s p (.slice qv xs.length cv) xs 1048576 w' (HS.out.later h) (by omega) : Calls Try.prog 15 _ w' (BV w' (.int .i64 (1048576 - xs.length)))))
  have HN := Lib.hid hn
  have hm1 : ¬ (1 : Int) + xs.length < 0 := by omega
  obtain ⟨sR, pR, XR, LL, b0, h1, h2, h3, h4⟩ : ∃ sR pR XR LL b0, (∀ w u, FS w u xs → Calls Try.prog 43 #[.agg #[.float .f32 s.a, .float .f32 s.b, .float .f32 s.c, .float .f32 s.d, .float .f32 s.p, .float .f32 s.l, .float .f32 p, u], .float .f32 l, .float .f32 r, .bool b1, .bool b2, .float .f32 t, .int .i64 z] w (BBL w sR pR XR LL b0)) ∧ (∀ w u, FS w u xs → Calls Try.prog 44 #[.agg #[.float .f32 s.a, .float .f32 s.b, .float .f32 s.c, .float .f32 s.d, .float .f32 s.p, .float .f32 s.l, .float .f32 p, u], .float .f32 l, .float .f32 r, .bool b1, .bool b2, .float .f32 t, .int .i64 z] w (BBL w sR pR XR LL b0)) ∧ XR.length ≤ 128 ∧ LL.length ≤ 128 := ⟨_, _, _, _, _, fun w u h' => specBrun_any s p u xs l r b1 b2 t z w h', fun w u h' => implBrun_any s p u xs l r b1 b2 t z w h', brun_size s p l r b1 b2 t xs z⟩
  have H1 := Lib.hid h1
  have H2 := Lib.hid h2
  have H3 := Lib.hid h3
  have H4 := Lib.hid h4
  have hm2 : ¬ (1 : Int) + XR.length < 0 := by omega
  have hm4 : ¬ (1 : Int) + XR.length + (LL.length : Int) < 0 := by omega
  clear hn h h1 h2 h3 h4
  go_enter Try.func12, Try.ntmps12
  go_wp2_with (first | (with_reducible refine at_list ?_; refine wpList_fop rfl rfl rfl rfl rfl ?_; intro r n hr0; have hr := hr0 _ _ (by first | with_reducible assumption | exact rfl) (by first | with_reducible assumption | exact rfl); clear hr0) | (with_reducible refine at_list ?_; refine wpList_neg rfl rfl rfl ?_; intro r hr0; have hr := hr0 _ (by first | with_reducible assumption | exact rfl); clear hr0) | (with_reducible refine at_list ?_; refine wpList_fop_g rfl rfl rfl rfl rfl ?_; intro r n hr0; have hr := hr0 _ _ (by first | with_reducible assumption | exact rfl) (by first | with_reducible assumption | exact rfl); clear hr0) | (with_reducible refine at_list ?_; refine wpList_wide_g rfl rfl Try.underlying22 Try.underlying40 rfl ?_; intro r n hr0; have hr := hr0 _ (by first | with_reducible assumption | exact rfl); clear hr0) | (with_reducible refine at_list ?_; refine wpList_wide rfl rfl rfl Try.underlying22 Try.underlying40 ?_; intro r n hr0; have hr := hr0 _ (by first | with_reducible assumption | exact rfl); clear hr0) | (go_at_call 17; refine stop_here ?_) | (go_at_call 15; refine ((HZ.out _ (by (repeat (first | (with_reducible exact Below.refl _ _) | (with_reducible assumption) | (with_reducible refine below_then ?_ (by assumption)) | (with_reducible refine Below.trans ?_ (by assumption)) | (with_reducible refine below_drewN ?_ _) | (with_reducible apply Below.drew) | (with_reducible refine below_alloc ?_ _) | refine Below.setCell ?_ (by first | (simp; done) | (simp; omega)) _)))) ).mono ?_; rintro e w' ⟨rfl, hb⟩; obtain ⟨hT, hk⟩ := bv_next hb (by (repeat (with_reducible first | assumption | apply Trk.alloc | apply Trk.setCell | apply Trk.drewN | apply Trk.drew | exact Trk.nil _))); simp only [SameOn, World.size_alloc, World.size_setCell, World.size_drew, size_drewN', and_true] at hk; have hsz := Below.size hb; (try simp only [World.size_alloc, World.size_setCell, World.size_drew, size_drewN'] at hsz)) | (go_at_call 17; refine (toBar_any _ _ _ _ _ (by assumption) (by assumption)).mono ?_; rintro e w' ⟨u, rfl, hb, hO⟩; obtain ⟨pu, cu, rfl⟩ := OF.shape hO; (try simp only [World.size_alloc, World.size_setCell, World.size_drew, World.drewN] at hO); obtain ⟨hT, hk⟩ := bv_next hb (by (repeat (with_reducible first | assumption | apply Trk.alloc | apply Trk.setCell | apply Trk.drewN | apply Trk.drew | exact Trk.nil _))); simp only [SameOn, World.size_alloc, World.size_setCell, World.size_drew, size_drewN', and_true] at hk; have hsz := Below.size hb; (try simp only [World.size_alloc, World.size_setCell, World.size_drew, size_drewN'] at hsz)) | (go_at_call 19; refine (eqBar_any _ _ _ _ _ _ _ _ _ (by assumption) (by assumption) (by assumption) (by assumption) (by assumption)).mono ?_; rintro e w' ⟨rfl, hb⟩; obtain ⟨hT, hk⟩ := bv_next hb (by (repeat (with_reducible first | assumption | apply Trk.alloc | apply Trk.setCell | apply Trk.drewN | apply Trk.drew | exact Trk.nil _))); simp only [SameOn, World.size_alloc, World.size_setCell, World.size_drew, size_drewN', and_true] at hk; have hsz := Below.size hb; (try simp only [World.size_alloc, World.size_setCell, World.size_drew, size_drewN'] at hsz)) | (go_at_call 31; refine (eqF_any _ _ _ _ _ (by assumption) (by assumption) (by assumption)).mono ?_; rintro e w' ⟨rfl, hb⟩; obtain ⟨hT, hk⟩ := bv_next hb (by (repeat (with_reducible first | assumption | apply Trk.alloc | apply Trk.setCell | apply Trk.drewN | apply Trk.drew | exact Trk.nil _))); simp only [SameOn, World.size_alloc, World.size_setCell, World.size_drew, size_drewN', and_true] at hk; have hsz := Below.size hb; (try simp only [World.size_alloc, World.size_setCell, World.size_drew, size_drewN'] at hsz)))
  unfold Stop
  refine (toBar_any s p (.slice qv xs.length cv) xs _ (HS.out.later (by (repeat (first | (with_reducible exact Below.refl _ _) | (with_reducible assumption) | (with_reducible refine below_then ?_ (by assumption)) | (with_reducible refine Below.trans ?_ (by assumption)) | (with_reducible refine below_drewN ?_ _) | (with_reducible apply Below.drew) | (with_reducible refine below_alloc ?_ _) | refine Below.setCell ?_ (by first | (simp; done) | (simp; omega)) _)))) HN.out).mono ?_
  rintro e w' ⟨um, rfl, hb, hX⟩
  obtain ⟨mq, mc, rfl⟩ := OF.shape hX
  obtain ⟨hT, hk⟩ := bv_next hb (by (repeat (with_reducible first | assumption | apply Trk.alloc | apply Trk.setCell | apply Trk.drewN | apply Trk.drew | exact Trk.nil _))); simp only [SameOn, World.size_alloc, World.size_setCell, World.size_drew, size_drewN', and_true] at hk; have hsz := Below.size hb; (try simp only [World.size_alloc, World.size_setCell, World.size_drew, size_drewN'] at hsz)
  have HMF := Lib.hid (OF.fs hX)
  clear hX
  go_wp2_with (first | (with_reducible refine at_list ?_; refine wpList_fop rfl rfl rfl rfl rfl ?_; intro r n hr0; have hr := hr0 _ _ (by first | with_reducible assumption | exact rfl) (by first | with_reducible assumption | exact rfl); clear hr0) | (with_reducible refine at_list ?_; refine wpList_neg rfl rfl rfl ?_; intro r hr0; have hr := hr0 _ (by first | with_reducible assumption | exact rfl); clear hr0) | (with_reducible refine at_list ?_; refine wpList_fop_g rfl rfl rfl rfl rfl ?_; intro r n hr0; have hr := hr0 _ _ (by first | with_reducible assumption | exact rfl) (by first | with_reducible assumption | exact rfl); clear hr0) | (with_reducible refine at_list ?_; refine wpList_wide_g rfl rfl Try.underlying22 Try.underlying40 rfl ?_; intro r n hr0; have hr := hr0 _ (by first | with_reducible assumption | exact rfl); clear hr0) | (with_reducible refine at_list ?_; refine wpList_wide rfl rfl rfl Try.underlying22 Try.underlying40 ?_; intro r n hr0; have hr := hr0 _ (by first | with_reducible assumption | exact rfl); clear hr0) | (go_at_call 43; refine stop_here ?_) | (go_at_call 15; refine (szBar_any _ _ _ _ _ _ (by assumption) (by omega)).mono ?_; rintro e w' ⟨rfl, hb⟩; obtain ⟨hT, hk⟩ := bv_next hb (by (repeat (with_reducible first | assumption | apply Trk.alloc | apply Trk.setCell | apply Trk.drewN | apply Trk.drew | exact Trk.nil _))); simp only [SameOn, World.size_alloc, World.size_setCell, World.size_drew, size_drewN', and_true] at hk; have hsz := Below.size hb; (try simp only [World.size_alloc, World.size_setCell, World.size_drew, size_drewN'] at hsz)) | (go_at_call 17; refine (toBar_any _ _ _ _ _ (by assumption) (by assumption)).mono ?_; rintro e w' ⟨u, rfl, hb, hO⟩; obtain ⟨pu, cu, rfl⟩ := OF.shape hO; (try simp only [World.size_alloc, World.size_setCell, World.size_drew, World.drewN] at hO); obtain ⟨hT, hk⟩ := bv_next hb (by (repeat (with_reducible first | assumption | apply Trk.alloc | apply Trk.setCell | apply Trk.drewN | apply Trk.drew | exact Trk.nil _))); simp only [SameOn, World.size_alloc, World.size_setCell, World.size_drew, size_drewN', and_true] at hk; have hsz := Below.size hb; (try simp only [World.size_alloc, World.size_setCell, World.size_drew, size_drewN'] at hsz)) | (go_at_call 19; refine (eqBar_any _ _ _ _ _ _ _ _ _ (by assumption) (by assumption) (by assumption) (by assumption) (by assumption)).mono ?_; rintro e w' ⟨rfl, hb⟩; obtain ⟨hT, hk⟩ := bv_next hb (by (repeat (with_reducible first | assumption | apply Trk.alloc | apply Trk.setCell | apply Trk.drewN | apply Trk.drew | exact Trk.nil _))); simp only [SameOn, World.size_alloc, World.size_setCell, World.size_drew, size_drewN', and_true] at hk; have hsz := Below.size hb; (try simp only [World.size_alloc, World.size_setCell, World.size_drew, size_drewN'] at hsz)) | (go_at_call 31; refine (eqF_any _ _ _ _ _ (by assumption) (by assumption) (by assumption)).mono ?_; rintro e w' ⟨rfl, hb⟩; obtain ⟨hT, hk⟩ := bv_next hb (by (repeat (with_reducible first | assumption | apply Trk.alloc | apply Trk.setCell | apply Trk.drewN | apply Trk.drew | exact Trk.nil _))); simp only [SameOn, World.size_alloc, World.size_setCell, World.size_drew, size_drewN', and_true] at hk; have hsz := Below.size hb; (try simp only [World.size_alloc, World.size_setCell, World.size_drew, size_drewN'] at hsz)))
  unfold Stop
  refine (H1.out _ _ (HMF.out.later (by (repeat (first | (with_reducible exact Below.refl _ _) | (with_reducible assumption) | (with_reducible refine below_then ?_ (by assumption)) | (with_reducible refine Below.trans ?_ (by assumption)) | (with_reducible refine below_drewN ?_ _) | (with_reducible apply Below.drew) | (with_reducible refine below_alloc ?_ _) | refine Below.setCell ?_ (by first | (simp; done) | (simp; omega)) _))))).mono ?_
  rintro e w' hbb
  obtain ⟨q01, c01, q1, c1, rfl, hb, hX⟩ := bbl_at hbb
  clear hbb
  obtain ⟨hT, hk⟩ := bv_next hb (by (repeat (with_reducible first | assumption | apply Trk.alloc | apply Trk.setCell | apply Trk.drewN | apply Trk.drew | exact Trk.nil _))); simp only [SameOn, World.size_alloc, World.size_setCell, World.size_drew, size_drewN', and_true] at hk; have hsz := Below.size hb; (try simp only [World.size_alloc, World.size_setCell, World.size_drew, size_drewN'] at hsz)
  have HXq := Lib.hid hX
  have HBq := Lib.hid hb
  clear hX
  rename World => wq
  go_wp2_with (first | (with_reducible refine at_list ?_; refine wpList_fop rfl rfl rfl rfl rfl ?_; intro r n hr0; have hr := hr0 _ _ (by first | with_reducible assumption | exact rfl) (by first | with_reducible assumption | exact rfl); clear hr0) | (with_reducible refine at_list ?_; refine wpList_neg rfl rfl rfl ?_; intro r hr0; have hr := hr0 _ (by first | with_reducible assumption | exact rfl); clear hr0) | (with_reducible refine at_list ?_; refine wpList_fop_g rfl rfl rfl rfl rfl ?_; intro r n hr0; have hr := hr0 _ _ (by first | with_reducible assumption | exact rfl) (by first | with_reducible assumption | exact rfl); clear hr0) | (with_reducible refine at_list ?_; refine wpList_wide_g rfl rfl Try.underlying22 Try.underlying40 rfl ?_; intro r n hr0; have hr := hr0 _ (by first | with_reducible assumption | exact rfl); clear hr0) | (with_reducible refine at_list ?_; refine wpList_wide rfl rfl rfl Try.underlying22 Try.underlying40 ?_; intro r n hr0; have hr := hr0 _ (by first | with_reducible assumption | exact rfl); clear hr0) | (go_at_call 17; refine stop_here ?_) | (go_at_call 15; refine (szBar_any _ _ _ _ _ _ (by assumption) (by omega)).mono ?_; rintro e w' ⟨rfl, hb⟩; obtain ⟨hT, hk⟩ := bv_next hb (by (repeat (with_reducible first | assumption | apply Trk.alloc | apply Trk.setCell | apply Trk.drewN | apply Trk.drew | exact Trk.nil _))); simp only [SameOn, World.size_alloc, World.size_setCell, World.size_drew, size_drewN', and_true] at hk; have hsz := Below.size hb; (try simp only [World.size_alloc, World.size_setCell, World.size_drew, size_drewN'] at hsz)) | (go_at_call 17; refine (toBar_any _ _ _ _ _ (by assumption) (by assumption)).mono ?_; rintro e w' ⟨u, rfl, hb, hO⟩; obtain ⟨pu, cu, rfl⟩ := OF.shape hO; (try simp only [World.size_alloc, World.size_setCell, World.size_drew, World.drewN] at hO); obtain ⟨hT, hk⟩ := bv_next hb (by (repeat (with_reducible first | assumption | apply Trk.alloc | apply Trk.setCell | apply Trk.drewN | apply Trk.drew | exact Trk.nil _))); simp only [SameOn, World.size_alloc, World.size_setCell, World.size_drew, size_drewN', and_true] at hk; have hsz := Below.size hb; (try simp only [World.size_alloc, World.size_setCell, World.size_drew, size_drewN'] at hsz)) | (go_at_call 19; refine (eqBar_any _ _ _ _ _ _ _ _ _ (by assumption) (by assumption) (by assumption) (by assumption) (by assumption)).mono ?_; rintro e w' ⟨rfl, hb⟩; obtain ⟨hT, hk⟩ := bv_next hb (by (repeat (with_reducible first | assumption | apply Trk.alloc | apply Trk.setCell | apply Trk.drewN | apply Trk.drew | exact Trk.nil _))); simp only [SameOn, World.size_alloc, World.size_setCell, World.size_drew, size_drewN', and_true] at hk; have hsz := Below.size hb; (try simp only [World.size_alloc, World.size_setCell, World.size_drew, size_drewN'] at hsz)) | (go_at_call 31; refine (eqF_any _ _ _ _ _ (by assumption) (by assumption) (by assumption)).mono ?_; rintro e w' ⟨rfl, hb⟩; obtain ⟨hT, hk⟩ := bv_next hb (by (repeat (with_reducible first | assumption | apply Trk.alloc | apply Trk.setCell | apply Trk.drewN | apply Trk.drew | exact Trk.nil _))); simp only [SameOn, World.size_alloc, World.size_setCell, World.size_drew, size_drewN', and_true] at hk; have hsz := Below.size hb; (try simp only [World.size_alloc, World.size_setCell, World.size_drew, size_drewN'] at hsz)))
  unfold Stop
  refine calls_named ?_
  intro w1 hw
  obtain ⟨b14, hb140, HRLn⟩ : ∃ b, b = wq.heap.size ∧ Hid (BLat w.heap.size sR pR XR LL w1 b q01 c01 q1 c1) := ⟨_, rfl, by rw [show w1 = wq.alloc (.cells #[.float .f32 sR.a, .float .f32 sR.b, .float .f32 sR.c, .float .f32 sR.d, .float .f32 sR.p, .float .f32 sR.l, .float .f32 pR, .slice q01 XR.length c01] 32) from hw]; exact bl_new HXq.out (by first | omega | (simp; omega) | (simp; done)) (by have := HBq.out.size; first | omega | (simp at this; omega))⟩
  rw [← hb140]
  have HRL1 := HRLn
  have HB1 : Hid (Below w.heap.size w w1) := by show Below _ _ _; rw [hw]; (repeat (first | (with_reducible exact Below.refl _ _) | (with_reducible assumption) | (with_reducible refine below_then ?_ (by assumption)) | (with_reducible refine Below.trans ?_ (by assumption)) | (with_reducible refine below_drewN ?_ _) | (with_reducible apply Below.drew) | (with_reducible refine below_alloc ?_ _) | refine Below.setCell ?_ (by first | (simp; done) | (simp; omega)) _))
  have HBX : Hid (BarAt s p (.slice qv xs.length cv) w1 w.heap.size 0) := by show BarAt _ _ _ _ _ _; rw [hw]; exact (by unfold BarAt St.at; refine ⟨⟨?_, ?_, ?_, ?_, ?_, ?_⟩, ?_, ?_⟩ <;> go_simp)
  have HPF : Hid (FS w1 (.slice qv xs.length cv) xs) := HS.out.later HB1.out
  have hb14 : b14 < w1.heap.size := World.block_lt_of_cell? _ _ (HRL1.out.1.1.2 0 _ rfl).1
  have hb14' : w.heap.size < b14 := by have := HBq.out.size; first | omega | (simp at this; omega)
  have HB0 : Hid (Below w1.heap.size w1 w1) := Below.refl _ _
  have hz1 : w.heap.size < w1.heap.size := by omega
  clear hw hb hT hk hsz HXq HBq HRLn HMF hb140
  have hR := bar_later HBX.out HB0.out (by omega)
  obtain ⟨⟨d0, d1, d2, d3, d4, d5⟩, d6, d7⟩ := hR
  simp only [Nat.zero_add] at d0 d1 d2 d3 d4 d5 d6 d7
  have HS1 := Lib.hid (HRL1.out.later HB0.out)
  have s0 := (HS1.out.1.1.2 0 _ rfl).1
  have s1 := (HS1.out.1.1.2 1 _ rfl).1
  have s2 := (HS1.out.1.1.2 2 _ rfl).1
  have s3 := (HS1.out.1.1.2 3 _ rfl).1
  have s4 := (HS1.out.1.1.2 4 _ rfl).1
  have s5 := (HS1.out.1.1.2 5 _ rfl).1
  have s6 := (HS1.out.1.1.2 6 _ rfl).1
  have s7 := (HS1.out.1.1.2 7 _ rfl).1
  have HF1 : Hid (FS w1 (.slice q01 XR.length c01) XR) := OF.fs HS1.out.2.1
  obtain ⟨ys1, hy1, hym1⟩ := HS1.out.2.2
  have HY1 : Hid (FS w1 (.slice q1 LL.length c1) ys1) := hy1.fs
  have HYM1 := Lib.hid hym1
  clear hy1 hym1
  have hT : Trk w1 [w.heap.size, b14] := ((Trk.nil w1).more hb14).more (by omega)
  refine (toBar_any s p (.slice qv xs.length cv) xs _ HPF.out HN.out).mono ?_
  rintro e w' ⟨u6, rfl, hb, hX⟩
  obtain ⟨lq, lc, rfl⟩ := OF.shape hX
  obtain ⟨hT, hk⟩ := bv_next hb (by (repeat (with_reducible first | assumption | apply Trk.alloc | apply Trk.setCell | apply Trk.drewN | apply Trk.drew | exact Trk.nil _))); simp only [SameOn, World.size_alloc, World.size_setCell, World.size_drew, size_drewN', and_true] at hk; have hsz := Below.size hb; (try simp only [World.size_alloc, World.size_setCell, World.size_drew, size_drewN'] at hsz)
  have HX6 := Lib.hid (FX.of hX)
  have HB6 := Lib.hid hb
  clear hX
  rename World => w6
  go_wp2_with (first | (with_reducible refine at_list ?_; refine wpList_fop rfl rfl rfl rfl rfl ?_; intro r n hr0; have hr := hr0 _ _ (by first | with_reducible assumption | exact rfl) (by first | with_reducible assumption | exact rfl); clear hr0) | (with_reducible refine at_list ?_; refine wpList_neg rfl rfl rfl ?_; intro r hr0; have hr := hr0 _ (by first | with_reducible assumption | exact rfl); clear hr0) | (with_reducible refine at_list ?_; refine wpList_fop_g rfl rfl rfl rfl rfl ?_; intro r n hr0; have hr := hr0 _ _ (by first | with_reducible assumption | exact rfl) (by first | with_reducible assumption | exact rfl); clear hr0) | (with_reducible refine at_list ?_; refine wpList_wide_g rfl rfl Try.underlying22 Try.underlying40 rfl ?_; intro r n hr0; have hr := hr0 _ (by first | with_reducible assumption | exact rfl); clear hr0) | (with_reducible refine at_list ?_; refine wpList_wide rfl rfl rfl Try.underlying22 Try.underlying40 ?_; intro r n hr0; have hr := hr0 _ (by first | with_reducible assumption | exact rfl); clear hr0) | (go_at_call 44; refine stop_here ?_) | (go_at_call 15; refine (szBar_any _ _ _ _ _ _ (by assumption) (by omega)).mono ?_; rintro e w' ⟨rfl, hb⟩; obtain ⟨hT, hk⟩ := bv_next hb (by (repeat (with_reducible first | assumption | apply Trk.alloc | apply Trk.setCell | apply Trk.drewN | apply Trk.drew | exact Trk.nil _))); simp only [SameOn, World.size_alloc, World.size_setCell, World.size_drew, size_drewN', and_true] at hk; have hsz := Below.size hb; (try simp only [World.size_alloc, World.size_setCell, World.size_drew, size_drewN'] at hsz)) | (go_at_call 17; refine (toBar_any _ _ _ _ _ (by assumption) (by assumption)).mono ?_; rintro e w' ⟨u, rfl, hb, hO⟩; obtain ⟨pu, cu, rfl⟩ := OF.shape hO; (try simp only [World.size_alloc, World.size_setCell, World.size_drew, World.drewN] at hO); obtain ⟨hT, hk⟩ := bv_next hb (by (repeat (with_reducible first | assumption | apply Trk.alloc | apply Trk.setCell | apply Trk.drewN | apply Trk.drew | exact Trk.nil _))); simp only [SameOn, World.size_alloc, World.size_setCell, World.size_drew, size_drewN', and_true] at hk; have hsz := Below.size hb; (try simp only [World.size_alloc, World.size_setCell, World.size_drew, size_drewN'] at hsz)) | (go_at_call 19; refine (eqBar_any _ _ _ _ _ _ _ _ _ (by assumption) (by assumption) (by assumption) (by assumption) (by assumption)).mono ?_; rintro e w' ⟨rfl, hb⟩; obtain ⟨hT, hk⟩ := bv_next hb (by (repeat (with_reducible first | assumption | apply Trk.alloc | apply Trk.setCell | apply Trk.drewN | apply Trk.drew | exact Trk.nil _))); simp only [SameOn, World.size_alloc, World.size_setCell, World.size_drew, size_drewN', and_true] at hk; have hsz := Below.size hb; (try simp only [World.size_alloc, World.size_setCell, World.size_drew, size_drewN'] at hsz)) | (go_at_call 31; refine (eqF_any _ _ _ _ _ (by assumption) (by assumption) (by assumption)).mono ?_; rintro e w' ⟨rfl, hb⟩; obtain ⟨hT, hk⟩ := bv_next hb (by (repeat (with_reducible first | assumption | apply Trk.alloc | apply Trk.setCell | apply Trk.drewN | apply Trk.drew | exact Trk.nil _))); simp only [SameOn, World.size_alloc, World.size_setCell, World.size_drew, size_drewN', and_true] at hk; have hsz := Below.size hb; (try simp only [World.size_alloc, World.size_setCell, World.size_drew, size_drewN'] at hsz)))
  unfold Stop
  refine calls_named ?_
  intro w7 hw7
  obtain ⟨b17, hb17, HX7, HB7, HC7⟩ : ∃ b17, b17 = w6.heap.size ∧ Hid (FX w1.heap.size w6.heap.size w7 (.slice lq xs.length lc) xs) ∧ Hid (Below w6.heap.size w6 w7 ∧ w6.heap.size + 1 ≤ w7.heap.size) ∧ Hid (BarAt s p (.slice lq xs.length lc) w7 b17 0) := by
    refine ⟨_, rfl, HX6.out.later (by rw [hw7]; (repeat (first | (with_reducible exact Below.refl _ _) | (with_reducible assumption) | (with_reducible refine below_then ?_ (by assumption)) | (with_reducible refine Below.trans ?_ (by assumption)) | (with_reducible refine below_drewN ?_ _) | (with_reducible apply Below.drew) | (with_reducible refine below_alloc ?_ _) | refine Below.setCell ?_ (by first | (simp; done) | (simp; omega)) _))), ⟨by rw [hw7]; (repeat (first | (with_reducible exact Below.refl _ _) | (with_reducible assumption) | (with_reducible refine below_then ?_ (by assumption)) | (with_reducible refine Below.trans ?_ (by assumption)) | (with_reducible refine below_drewN ?_ _) | (with_reducible apply Below.drew) | (with_reducible refine below_alloc ?_ _) | refine Below.setCell ?_ (by first | (simp; done) | (simp; omega)) _)), by rw [hw7]; simp⟩, by rw [hw7]; exact (by unfold BarAt St.at; refine ⟨⟨?_, ?_, ?_, ?_, ?_, ?_⟩, ?_, ?_⟩ <;> go_simp)⟩
  rw [← hb17]
  have hb17a : w6.heap.size ≤ b17 := by omega
  have hb17b : b17 < w7.heap.size := by have := HB7.out.2; omega
  clear hb17
  have hz6 := HB6.out.size
  have hz7 := HB7.out.2
  have HBB : Hid (Below w1.heap.size w1 w7) := HB6.out.trans (HB7.out.1.mono hz6)
  clear hw7 hb hT hk hsz d0 d1 d2 d3 d4 d5 d6 d7 s0 s1 s2 s3 s4 s5 s6 s7 HF1 HY1 HYM1 HS1
  have hR := bar_later HBX.out HBB.out (by omega)
  obtain ⟨⟨d0, d1, d2, d3, d4, d5⟩, d6, d7⟩ := hR
  simp only [Nat.zero_add] at d0 d1 d2 d3 d4 d5 d6 d7
  have HS1 := Lib.hid (HRL1.out.later HBB.out)
  have s0 := (HS1.out.1.1.2 0 _ rfl).1
  have s1 := (HS1.out.1.1.2 1 _ rfl).1
  have s2 := (HS1.out.1.1.2 2 _ rfl).1
  have s3 := (HS1.out.1.1.2 3 _ rfl).1
  have s4 := (HS1.out.1.1.2 4 _ rfl).1
  have s5 := (HS1.out.1.1.2 5 _ rfl).1
  have s6 := (HS1.out.1.1.2 6 _ rfl).1
  have s7 := (HS1.out.1.1.2 7 _ rfl).1
  have HF1 : Hid (FS w7 (.slice q01 XR.length c01) XR) := OF.fs HS1.out.2.1
  obtain ⟨ys1, hy1, hym1⟩ := HS1.out.2.2
  have HY1 : Hid (FS w7 (.slice q1 LL.length c1) ys1) := hy1.fs
  have HYM1 := Lib.hid hym1
  clear hy1 hym1
  obtain ⟨⟨x0, x1, x2, x3, x4, x5⟩, x6, x7⟩ := HC7.out
  simp only [Nat.zero_add] at x0 x1 x2 x3 x4 x5 x6 x7
  have hT : Trk w7 [w.heap.size, b14, b17] := (((Trk.nil w7).more (by omega)).more (by omega)).more (by omega)
  refine (H2.out _ _ (FX.fs HX7.out)).mono ?_
  rintro e w' hbb
  obtain ⟨q02, c02, q2, c2, rfl, hb, hX⟩ := bbl_at hbb
  clear hbb
  obtain ⟨hT, hk⟩ := bv_next hb (by (repeat (with_reducible first | assumption | apply Trk.alloc | apply Trk.setCell | apply Trk.drewN | apply Trk.drew | exact Trk.nil _))); simp only [SameOn, World.size_alloc, World.size_setCell, World.size_drew, size_drewN', and_true] at hk; have hsz := Below.size hb; (try simp only [World.size_alloc, World.size_setCell, World.size_drew, size_drewN'] at hsz)
  have HXq := Lib.hid hX
  have HBq := Lib.hid hb
  clear hX
  rename World => wq
  go_wp2_with (first | (with_reducible refine at_list ?_; refine wpList_fop rfl rfl rfl rfl rfl ?_; intro r n hr0; have hr := hr0 _ _ (by first | with_reducible assumption | exact rfl) (by first | with_reducible assumption | exact rfl); clear hr0) | (with_reducible refine at_list ?_; refine wpList_neg rfl rfl rfl ?_; intro r hr0; have hr := hr0 _ (by first | with_reducible assumption | exact rfl); clear hr0) | (with_reducible refine at_list ?_; refine wpList_fop_g rfl rfl rfl rfl rfl ?_; intro r n hr0; have hr := hr0 _ _ (by first | with_reducible assumption | exact rfl) (by first | with_reducible assumption | exact rfl); clear hr0) | (with_reducible refine at_list ?_; refine wpList_wide_g rfl rfl Try.underlying22 Try.underlying40 rfl ?_; intro r n hr0; have hr := hr0 _ (by first | with_reducible assumption | exact rfl); clear hr0) | (with_reducible refine at_list ?_; refine wpList_wide rfl rfl rfl Try.underlying22 Try.underlying40 ?_; intro r n hr0; have hr := hr0 _ (by first | with_reducible assumption | exact rfl); clear hr0) | (go_at_call 19; refine stop_here ?_) | (go_at_call 15; refine (szBar_any _ _ _ _ _ _ (by assumption) (by omega)).mono ?_; rintro e w' ⟨rfl, hb⟩; obtain ⟨hT, hk⟩ := bv_next hb (by (repeat (with_reducible first | assumption | apply Trk.alloc | apply Trk.setCell | apply Trk.drewN | apply Trk.drew | exact Trk.nil _))); simp only [SameOn, World.size_alloc, World.size_setCell, World.size_drew, size_drewN', and_true] at hk; have hsz := Below.size hb; (try simp only [World.size_alloc, World.size_setCell, World.size_drew, size_drewN'] at hsz)) | (go_at_call 17; refine (toBar_any _ _ _ _ _ (by assumption) (by assumption)).mono ?_; rintro e w' ⟨u, rfl, hb, hO⟩; obtain ⟨pu, cu, rfl⟩ := OF.shape hO; (try simp only [World.size_alloc, World.size_setCell, World.size_drew, World.drewN] at hO); obtain ⟨hT, hk⟩ := bv_next hb (by (repeat (with_reducible first | assumption | apply Trk.alloc | apply Trk.setCell | apply Trk.drewN | apply Trk.drew | exact Trk.nil _))); simp only [SameOn, World.size_alloc, World.size_setCell, World.size_drew, size_drewN', and_true] at hk; have hsz := Below.size hb; (try simp only [World.size_alloc, World.size_setCell, World.size_drew, size_drewN'] at hsz)) | (go_at_call 19; refine (eqBar_any _ _ _ _ _ _ _ _ _ (by assumption) (by assumption) (by assumption) (by assumption) (by assumption)).mono ?_; rintro e w' ⟨rfl, hb⟩; obtain ⟨hT, hk⟩ := bv_next hb (by (repeat (with_reducible first | assumption | apply Trk.alloc | apply Trk.setCell | apply Trk.drewN | apply Trk.drew | exact Trk.nil _))); simp only [SameOn, World.size_alloc, World.size_setCell, World.size_drew, size_drewN', and_true] at hk; have hsz := Below.size hb; (try simp only [World.size_alloc, World.size_setCell, World.size_drew, size_drewN'] at hsz)) | (go_at_call 31; refine (eqF_any _ _ _ _ _ (by assumption) (by assumption) (by assumption)).mono ?_; rintro e w' ⟨rfl, hb⟩; obtain ⟨hT, hk⟩ := bv_next hb (by (repeat (with_reducible first | assumption | apply Trk.alloc | apply Trk.setCell | apply Trk.drewN | apply Trk.drew | exact Trk.nil _))); simp only [SameOn, World.size_alloc, World.size_setCell, World.size_drew, size_drewN', and_true] at hk; have hsz := Below.size hb; (try simp only [World.size_alloc, World.size_setCell, World.size_drew, size_drewN'] at hsz)))
  unfold Stop
  refine calls_named ?_
  intro w8 hw
  obtain ⟨b18, hb180, HRLn⟩ : ∃ b, b = wq.heap.size ∧ Hid (BLat w7.heap.size sR pR XR LL w8 b q02 c02 q2 c2) := ⟨_, rfl, by rw [show w8 = wq.alloc (.cells #[.float .f32 sR.a, .float .f32 sR.b, .float .f32 sR.c, .float .f32 sR.d, .float .f32 sR.p, .float .f32 sR.l, .float .f32 pR, .slice q02 XR.length c02] 32) from hw]; exact bl_new HXq.out (Nat.le_refl _) HBq.out.size⟩
  rw [← hb180]
  have HRL2 := HRLn
  have hi : Below w7.heap.size w7 w8 := by rw [hw]; (repeat (first | (with_reducible exact Below.refl _ _) | (with_reducible assumption) | (with_reducible refine below_then ?_ (by assumption)) | (with_reducible refine Below.trans ?_ (by assumption)) | (with_reducible refine below_drewN ?_ _) | (with_reducible apply Below.drew) | (with_reducible refine below_alloc ?_ _) | refine Below.setCell ?_ (by first | (simp; done) | (simp; omega)) _))
  have hz8 := hi.size
  replace HX7 : Hid (FX w1.heap.size w6.heap.size w8 (.slice lq xs.length lc) xs) := HX7.out.later hi
  replace HC7 : Hid (BarAt s p (.slice lq xs.length lc) w8 b17 0) := bar_later HC7.out hi (by omega)
  have hb18 : b18 < w8.heap.size := World.block_lt_of_cell? _ _ (HRL2.out.1.1.2 0 _ rfl).1
  have hb18' : w7.heap.size ≤ b18 := HRL2.out.1.1.1
  replace HBB : Hid (Below w1.heap.size w1 w8) := HBB.out.trans (hi.mono (by omega))
  clear hw hi hb hT hk hsz HXq HBq HRLn hb180 x0 x1 x2 x3 x4 x5 x6 x7 d0 d1 d2 d3 d4 d5 d6 d7 s0 s1 s2 s3 s4 s5 s6 s7 HF1 HY1 HYM1 HS1
  have hR := bar_later HBX.out HBB.out (by omega)
  obtain ⟨⟨d0, d1, d2, d3, d4, d5⟩, d6, d7⟩ := hR
  simp only [Nat.zero_add] at d0 d1 d2 d3 d4 d5 d6 d7
  have HS1 := Lib.hid (HRL1.out.later HBB.out)
  have s0 := (HS1.out.1.1.2 0 _ rfl).1
  have s1 := (HS1.out.1.1.2 1 _ rfl).1
  have s2 := (HS1.out.1.1.2 2 _ rfl).1
  have s3 := (HS1.out.1.1.2 3 _ rfl).1
  have s4 := (HS1.out.1.1.2 4 _ rfl).1
  have s5 := (HS1.out.1.1.2 5 _ rfl).1
  have s6 := (HS1.out.1.1.2 6 _ rfl).1
  have s7 := (HS1.out.1.1.2 7 _ rfl).1
  have HF1 : Hid (FS w8 (.slice q01 XR.length c01) XR) := OF.fs HS1.out.2.1
  obtain ⟨ys1, hy1, hym1⟩ := HS1.out.2.2
  have HY1 : Hid (FS w8 (.slice q1 LL.length c1) ys1) := hy1.fs
  have HYM1 := Lib.hid hym1
  clear hy1 hym1
  have g0 := (HRL2.out.1.1.2 0 _ rfl).1
  have g1 := (HRL2.out.1.1.2 1 _ rfl).1
  have g2 := (HRL2.out.1.1.2 2 _ rfl).1
  have g3 := (HRL2.out.1.1.2 3 _ rfl).1
  have g4 := (HRL2.out.1.1.2 4 _ rfl).1
  have g5 := (HRL2.out.1.1.2 5 _ rfl).1
  have g6 := (HRL2.out.1.1.2 6 _ rfl).1
  have g7 := (HRL2.out.1.1.2 7 _ rfl).1
  have HF2 : Hid (FS w8 (.slice q02 XR.length c02) XR) := OF.fs HRL2.out.2.1
  obtain ⟨ys2, hy2, hym2⟩ := HRL2.out.2.2
  have HY2 : Hid (FS w8 (.slice q2 LL.length c2) ys2) := hy2.fs
  have HEQ : Hid (ys1.map (cn .f32) = ys2.map (cn .f32)) := HYM1.out.trans hym2.symm
  clear hy2 hym2
  have hT : Trk w8 [w.heap.size, b14, b17, b18] := ((((Trk.nil w8).more (by omega)).more (by omega)).more (by omega)).more (by omega)
  obtain ⟨⟨x0, x1, x2, x3, x4, x5⟩, x6, x7⟩ := HC7.out
  simp only [Nat.zero_add] at x0 x1 x2 x3 x4 x5 x6 x7
  refine (eqBar_any sR sR pR pR (.slice q02 XR.length c02) (.slice q01 XR.length c01) XR XR _ HF2.out HF1.out rfl rfl rfl).mono ?_
  rintro e w' ⟨rfl, hb⟩
  obtain ⟨hT, hk⟩ := bv_next hb (by (repeat (with_reducible first | assumption | apply Trk.alloc | apply Trk.setCell | apply Trk.drewN | apply Trk.drew | exact Trk.nil _))); simp only [SameOn, World.size_alloc, World.size_setCell, World.size_drew, size_drewN', and_true] at hk; have hsz := Below.size hb; (try simp only [World.size_alloc, World.size_setCell, World.size_drew, size_drewN'] at hsz)
  go_wp2_with (first | (with_reducible refine at_list ?_; refine wpList_fop rfl rfl rfl rfl rfl ?_; intro r n hr0; have hr := hr0 _ _ (by first | with_reducible assumption | exact rfl) (by first | with_reducible assumption | exact rfl); clear hr0) | (with_reducible refine at_list ?_; refine wpList_neg rfl rfl rfl ?_; intro r hr0; have hr := hr0 _ (by first | with_reducible assumption | exact rfl); clear hr0) | (with_reducible refine at_list ?_; refine wpList_fop_g rfl rfl rfl rfl rfl ?_; intro r n hr0; have hr := hr0 _ _ (by first | with_reducible assumption | exact rfl) (by first | with_reducible assumption | exact rfl); clear hr0) | (with_reducible refine at_list ?_; refine wpList_wide_g rfl rfl Try.underlying22 Try.underlying40 rfl ?_; intro r n hr0; have hr := hr0 _ (by first | with_reducible assumption | exact rfl); clear hr0) | (with_reducible refine at_list ?_; refine wpList_wide rfl rfl rfl Try.underlying22 Try.underlying40 ?_; intro r n hr0; have hr := hr0 _ (by first | with_reducible assumption | exact rfl); clear hr0) | (go_at_call 15; refine (szBar_any _ _ _ _ _ _ (by assumption) (by omega)).mono ?_; rintro e w' ⟨rfl, hb⟩; obtain ⟨hT, hk⟩ := bv_next hb (by (repeat (with_reducible first | assumption | apply Trk.alloc | apply Trk.setCell | apply Trk.drewN | apply Trk.drew | exact Trk.nil _))); simp only [SameOn, World.size_alloc, World.size_setCell, World.size_drew, size_drewN', and_true] at hk; have hsz := Below.size hb; (try simp only [World.size_alloc, World.size_setCell, World.size_drew, size_drewN'] at hsz)) | (go_at_call 17; refine (toBar_any _ _ _ _ _ (by assumption) (by assumption)).mono ?_; rintro e w' ⟨u, rfl, hb, hO⟩; obtain ⟨pu, cu, rfl⟩ := OF.shape hO; (try simp only [World.size_alloc, World.size_setCell, World.size_drew, World.drewN] at hO); obtain ⟨hT, hk⟩ := bv_next hb (by (repeat (with_reducible first | assumption | apply Trk.alloc | apply Trk.setCell | apply Trk.drewN | apply Trk.drew | exact Trk.nil _))); simp only [SameOn, World.size_alloc, World.size_setCell, World.size_drew, size_drewN', and_true] at hk; have hsz := Below.size hb; (try simp only [World.size_alloc, World.size_setCell, World.size_drew, size_drewN'] at hsz)) | (go_at_call 19; refine ((eqBar_any sR sR pR pR (.slice q02 XR.length c02) (.slice q01 XR.length c01) XR XR _ (HF2.out.later (by (repeat (first | (with_reducible exact Below.refl _ _) | (with_reducible assumption) | (with_reducible refine below_then ?_ (by assumption)) | (with_reducible refine Below.trans ?_ (by assumption)) | (with_reducible refine below_drewN ?_ _) | (with_reducible apply Below.drew) | (with_reducible refine below_alloc ?_ _) | refine Below.setCell ?_ (by first | (simp; done) | (simp; omega)) _)))) (HF1.out.later (by (repeat (first | (with_reducible exact Below.refl _ _) | (with_reducible assumption) | (with_reducible refine below_then ?_ (by assumption)) | (with_reducible refine Below.trans ?_ (by assumption)) | (with_reducible refine below_drewN ?_ _) | (with_reducible apply Below.drew) | (with_reducible refine below_alloc ?_ _) | refine Below.setCell ?_ (by first | (simp; done) | (simp; omega)) _)))) rfl rfl rfl) ).mono ?_; rintro e w' ⟨rfl, hb⟩; obtain ⟨hT, hk⟩ := bv_next hb (by (repeat (with_reducible first | assumption | apply Trk.alloc | apply Trk.setCell | apply Trk.drewN | apply Trk.drew | exact Trk.nil _))); simp only [SameOn, World.size_alloc, World.size_setCell, World.size_drew, size_drewN', and_true] at hk; have hsz := Below.size hb; (try simp only [World.size_alloc, World.size_setCell, World.size_drew, size_drewN'] at hsz)) | (go_at_call 31; refine ((eqF_any ys2 ys1 _ _ _ (HY2.out.later (by (repeat (first | (with_reducible exact Below.refl _ _) | (with_reducible assumption) | (with_reducible refine below_then ?_ (by assumption)) | (with_reducible refine Below.trans ?_ (by assumption)) | (with_reducible refine below_drewN ?_ _) | (with_reducible apply Below.drew) | (with_reducible refine below_alloc ?_ _) | refine Below.setCell ?_ (by first | (simp; done) | (simp; omega)) _)))) (HY1.out.later (by (repeat (first | (with_reducible exact Below.refl _ _) | (with_reducible assumption) | (with_reducible refine below_then ?_ (by assumption)) | (with_reducible refine Below.trans ?_ (by assumption)) | (with_reducible refine below_drewN ?_ _) | (with_reducible apply Below.drew) | (with_reducible refine below_alloc ?_ _) | refine Below.setCell ?_ (by first | (simp; done) | (simp; omega)) _)))) HEQ.out) ).mono ?_; rintro e w' ⟨rfl, hb⟩; obtain ⟨hT, hk⟩ := bv_next hb (by (repeat (with_reducible first | assumption | apply Trk.alloc | apply Trk.setCell | apply Trk.drewN | apply Trk.drew | exact Trk.nil _))); simp only [SameOn, World.size_alloc, World.size_setCell, World.size_drew, size_drewN', and_true] at hk; have hsz := Below.size hb; (try simp only [World.size_alloc, World.size_setCell, World.size_drew, size_drewN'] at hsz)))
  refine wp_named ?_
  intro w9 hw9
  have HB9 : Hid (Below w8.heap.size w8 w9) := by show Below _ _ _; rw [hw9]; (repeat (first | (with_reducible exact Below.refl _ _) | (with_reducible assumption) | (with_reducible refine below_then ?_ (by assumption)) | (with_reducible refine Below.trans ?_ (by assumption)) | (with_reducible refine below_drewN ?_ _) | (with_reducible apply Below.drew) | (with_reducible refine below_alloc ?_ _) | refine Below.setCell ?_ (by first | (simp; done) | (simp; omega)) _))
  have hz9 := HB9.out.size
  replace HRL2 := Lib.hid (HRL2.out.later HB9.out)
  replace HBB : Hid (Below w1.heap.size w1 w9) := HBB.out.trans (HB9.out.mono (by omega))
  replace HX7 : Hid (FX w1.heap.size w6.heap.size w9 (.slice lq xs.length lc) xs) := HX7.out.later HB9.out
  replace HC7 : Hid (BarAt s p (.slice lq xs.length lc) w9 b17 0) := bar_later HC7.out HB9.out (by omega)
  clear hw9 hT x0 x1 x2 x3 x4 x5 x6 x7 d0 d1 d2 d3 d4 d5 d6 d7 s0 s1 s2 s3 s4 s5 s6 s7 HF1 HY1 HYM1 HS1 g0 g1 g2 g3 g4 g5 g6 g7 HF2 HY2 HEQ
  try clear hb hk hsz
  have hR := bar_later HBX.out HBB.out (by omega)
  obtain ⟨⟨d0, d1, d2, d3, d4, d5⟩, d6, d7⟩ := hR
  simp only [Nat.zero_add] at d0 d1 d2 d3 d4 d5 d6 d7
  obtain ⟨⟨x0, x1, x2, x3, x4, x5⟩, x6, x7⟩ := HC7.out
  simp only [Nat.zero_add] at x0 x1 x2 x3 x4 x5 x6 x7
  have HPF9 : Hid (FS w9 (.slice qv xs.length cv) xs) := HPF.out.later HBB.out
  have hT : Trk w9 [w.heap.size, b17] := ((Trk.nil w9).more (by omega)).more (by omega)
  (apply wp_region_planG (F := (fun _ => True)) (fun u => Below w9.heap.size w9 u) (fun a c h hb => h.trans (hb.mono h.size)); (case hW => exact (by first | assumption | exact Below.refl _ _)); (case hF0 => exact (by (intro u h; trivial))); ((apply wpG_val; (case hw => exact rfl); (case h1 => (intro w' hb hk0; obtain ⟨hT, hk⟩ := bv_next hb (by (repeat (with_reducible first | assumption | apply Trk.alloc | apply Trk.setCell | apply Trk.drewN | apply Trk.drew | exact Trk.nil _))); simp only [SameOn, World.size_alloc, World.size_setCell, World.size_drew, size_drewN', and_true] at hk; have hsz := Below.size hb; (try simp only [World.size_alloc, World.size_setCell, World.size_drew, size_drewN'] at hsz); go_simp <;> exact rfl))); apply wpG_norm; (case ha => (simp only [Act.put, List.setIfInBounds_toArray, List.set_cons_zero, List.set_cons_succ]; exact rfl))); ((apply wpG_val; (case hw => exact rfl); (case h1 => (intro w' hb hk0; obtain ⟨hT, hk⟩ := bv_next hb (by (repeat (with_reducible first | assumption | apply Trk.alloc | apply Trk.setCell | apply Trk.drewN | apply Trk.drew | exact Trk.nil _))); simp only [SameOn, World.size_alloc, World.size_setCell, World.size_drew, size_drewN', and_true] at hk; have hsz := Below.size hb; (try simp only [World.size_alloc, World.size_setCell, World.size_drew, size_drewN'] at hsz); go_simp <;> exact rfl))); apply wpG_norm; (case ha => (simp only [Act.put, List.setIfInBounds_toArray, List.set_cons_zero, List.set_cons_succ]; exact rfl))); ((apply wpG_callBO (s := s) (p := p) (X := xs) w9.heap.size; (case hw => exact rfl); (case he => (intro w'; go_simp; exact ⟨rfl, rfl⟩)); (case hB => (intro u h; exact h.size)); (case hc => (intro w' hi hk0; exact toBar_any s p (.slice qv xs.length cv) xs _ (HPF9.out.later hi) HN.out)); intro mq mc); apply wpG_norm; (case ha => (simp only [Act.put, List.setIfInBounds_toArray, List.set_cons_zero, List.set_cons_succ]; exact rfl))); ((apply wpG_callV (.bool true); (case hw => exact rfl); (case he => (intro w'; go_simp; exact ⟨rfl, rfl⟩)); (case hc => (intro w' hi hk0; exact eqBar_any s s p p _ _ xs xs _ (FX.fs (HX7.out.later hi)) (by first | exact OF.fs ((show ∀ q' c', bgV s p xs.length mq mc = bgV s p xs.length q' c' → OF _ _ (.slice q' xs.length c') xs from hk0.1) _ _ rfl) | exact OF.fs ((show ∀ q' c', bgV s p xs.length mq mc = bgV s p xs.length q' c' → OF _ _ (.slice q' xs.length c') xs from hk0.2.1) _ _ rfl) | exact OF.fs ((show ∀ q' c', bgV s p xs.length mq mc = bgV s p xs.length q' c' → OF _ _ (.slice q' xs.length c') xs from hk0.2.2.1) _ _ rfl) | exact OF.fs ((show ∀ q' c', bgV s p xs.length mq mc = bgV s p xs.length q' c' → OF _ _ (.slice q' xs.length c') xs from hk0.2.2.2.1) _ _ rfl)) rfl rfl rfl))); apply wpG_norm; (case ha => (simp only [Act.put, List.setIfInBounds_toArray, List.set_cons_zero, List.set_cons_succ]; exact rfl))); ((apply wpG_det; (case hw => exact rfl); (case hs => (intro cs b h; cases h)); (case h1 => (intro w'; go_simp <;> exact rfl))); apply wpG_norm; (case ha => (simp only [Act.put, List.setIfInBounds_toArray, List.set_cons_zero, List.set_cons_succ]; exact rfl))); refine wpG_nil ?_; intro w' hi hkk)
  rotate_left
  case hFs => repeat' (first | exact trivial | (intro u hu; trivial) | constructor)
  all_goals (try (first | kernel_rfl | rfl))
  rename World => w10
  have hz10 := hi.size
  replace HRL2 := Lib.hid (HRL2.out.later hi)
  replace HBB : Hid (Below w1.heap.size w1 w10) := HBB.out.trans (hi.mono (by omega))
  replace HX7 : Hid (FX w1.heap.size w6.heap.size w10 (.slice lq xs.length lc) xs) := HX7.out.later hi
  replace HC7 : Hid (BarAt s p (.slice lq xs.length lc) w10 b17 0) := bar_later HC7.out hi (by omega)
  clear hkk hi hT HPF9 x0 x1 x2 x3 x4 x5 x6 x7 d0 d1 d2 d3 d4 d5 d6 d7
  obtain ⟨⟨x0, x1, x2, x3, x4, x5⟩, x6, x7⟩ := HC7.out
  simp only [Nat.zero_add] at x0 x1 x2 x3 x4 x5 x6 x7
  go_wp2_with (first | (with_reducible refine at_list ?_; refine wpList_fop rfl rfl rfl rfl rfl ?_; intro r n hr0; have hr := hr0 _ _ (by first | with_reducible assumption | exact rfl) (by first | with_reducible assumption | exact rfl); clear hr0) | (with_reducible refine at_list ?_; refine wpList_neg rfl rfl rfl ?_; intro r hr0; have hr := hr0 _ (by first | with_reducible assumption | exact rfl); clear hr0) | (with_reducible refine at_list ?_; refine wpList_fop_g rfl rfl rfl rfl rfl ?_; intro r n hr0; have hr := hr0 _ _ (by first | with_reducible assumption | exact rfl) (by first | with_reducible assumption | exact rfl); clear hr0) | (with_reducible refine at_list ?_; refine wpList_wide_g rfl rfl Try.underlying22 Try.underlying40 rfl ?_; intro r n hr0; have hr := hr0 _ (by first | with_reducible assumption | exact rfl); clear hr0) | (with_reducible refine at_list ?_; refine wpList_wide rfl rfl rfl Try.underlying22 Try.underlying40 ?_; intro r n hr0; have hr := hr0 _ (by first | with_reducible assumption | exact rfl); clear hr0) | (go_at_call 32; refine stop_here ?_) | (go_at_call 15; refine (szBar_any _ _ _ _ _ _ (by assumption) (by omega)).mono ?_; rintro e w' ⟨rfl, hb⟩; obtain ⟨hT, hk⟩ := bv_next hb (by (repeat (with_reducible first | assumption | apply Trk.alloc | apply Trk.setCell | apply Trk.drewN | apply Trk.drew | exact Trk.nil _))); simp only [SameOn, World.size_alloc, World.size_setCell, World.size_drew, size_drewN', and_true] at hk; have hsz := Below.size hb; (try simp only [World.size_alloc, World.size_setCell, World.size_drew, size_drewN'] at hsz)) | (go_at_call 17; refine (toBar_any _ _ _ _ _ (by assumption) (by assumption)).mono ?_; rintro e w' ⟨u, rfl, hb, hO⟩; obtain ⟨pu, cu, rfl⟩ := OF.shape hO; (try simp only [World.size_alloc, World.size_setCell, World.size_drew, World.drewN] at hO); obtain ⟨hT, hk⟩ := bv_next hb (by (repeat (with_reducible first | assumption | apply Trk.alloc | apply Trk.setCell | apply Trk.drewN | apply Trk.drew | exact Trk.nil _))); simp only [SameOn, World.size_alloc, World.size_setCell, World.size_drew, size_drewN', and_true] at hk; have hsz := Below.size hb; (try simp only [World.size_alloc, World.size_setCell, World.size_drew, size_drewN'] at hsz)) | (go_at_call 19; refine (eqBar_any _ _ _ _ _ _ _ _ _ (by assumption) (by assumption) (by assumption) (by assumption) (by assumption)).mono ?_; rintro e w' ⟨rfl, hb⟩; obtain ⟨hT, hk⟩ := bv_next hb (by (repeat (with_reducible first | assumption | apply Trk.alloc | apply Trk.setCell | apply Trk.drewN | apply Trk.drew | exact Trk.nil _))); simp only [SameOn, World.size_alloc, World.size_setCell, World.size_drew, size_drewN', and_true] at hk; have hsz := Below.size hb; (try simp only [World.size_alloc, World.size_setCell, World.size_drew, size_drewN'] at hsz)) | (go_at_call 31; refine (eqF_any _ _ _ _ _ (by assumption) (by assumption) (by assumption)).mono ?_; rintro e w' ⟨rfl, hb⟩; obtain ⟨hT, hk⟩ := bv_next hb (by (repeat (with_reducible first | assumption | apply Trk.alloc | apply Trk.setCell | apply Trk.drewN | apply Trk.drew | exact Trk.nil _))); simp only [SameOn, World.size_alloc, World.size_setCell, World.size_drew, size_drewN', and_true] at hk; have hsz := Below.size hb; (try simp only [World.size_alloc, World.size_setCell, World.size_drew, size_drewN'] at hsz)))
  unfold Stop
  refine (markBar_any (B := w1.heap.size) (S := w6.heap.size) s p xs _ 1 _ HX7.out (by omega) (by omega) HN.out).mono ?_
  rintro e w11 ⟨rfl, hg, hgs, -⟩
  replace HRL2 := Lib.hid (HRL2.out.turn hg (by omega))
  replace HBB : Hid (Below w1.heap.size w1 w11) := HBB.out.trans (turn_below hg (Nat.le_refl _) (by omega))
  clear hg HX7 HC7 x0 x1 x2 x3 x4 x5 x6 x7
  have hR := bar_later HBX.out HBB.out (by omega)
  obtain ⟨⟨d0, d1, d2, d3, d4, d5⟩, d6, d7⟩ := hR
  simp only [Nat.zero_add] at d0 d1 d2 d3 d4 d5 d6 d7
  have HS1 := Lib.hid (HRL1.out.later HBB.out)
  have s0 := (HS1.out.1.1.2 0 _ rfl).1
  have s1 := (HS1.out.1.1.2 1 _ rfl).1
  have s2 := (HS1.out.1.1.2 2 _ rfl).1
  have s3 := (HS1.out.1.1.2 3 _ rfl).1
  have s4 := (HS1.out.1.1.2 4 _ rfl).1
  have s5 := (HS1.out.1.1.2 5 _ rfl).1
  have s6 := (HS1.out.1.1.2 6 _ rfl).1
  have s7 := (HS1.out.1.1.2 7 _ rfl).1
  have HF1 : Hid (FS w11 (.slice q01 XR.length c01) XR) := OF.fs HS1.out.2.1
  obtain ⟨ys1, hy1, hym1⟩ := HS1.out.2.2
  have HY1 : Hid (FS w11 (.slice q1 LL.length c1) ys1) := hy1.fs
  have HYM1 := Lib.hid hym1
  clear hy1 hym1
  have g0 := (HRL2.out.1.1.2 0 _ rfl).1
  have g1 := (HRL2.out.1.1.2 1 _ rfl).1
  have g2 := (HRL2.out.1.1.2 2 _ rfl).1
  have g3 := (HRL2.out.1.1.2 3 _ rfl).1
  have g4 := (HRL2.out.1.1.2 4 _ rfl).1
  have g5 := (HRL2.out.1.1.2 5 _ rfl).1
  have g6 := (HRL2.out.1.1.2 6 _ rfl).1
  have g7 := (HRL2.out.1.1.2 7 _ rfl).1
  have HF2 : Hid (FS w11 (.slice q02 XR.length c02) XR) := OF.fs HRL2.out.2.1
  obtain ⟨ys2, hy2, hym2⟩ := HRL2.out.2.2
  have HY2 : Hid (FS w11 (.slice q2 LL.length c2) ys2) := hy2.fs
  have HEQ : Hid (ys1.map (cn .f32) = ys2.map (cn .f32)) := HYM1.out.trans hym2.symm
  clear hy2 hym2
  have hT : Trk w11 [w.heap.size, b14, b18] := (((Trk.nil w11).more (by omega)).more (by omega)).more (by omega)
  go_wp2_with (first | (with_reducible refine at_list ?_; refine wpList_fop rfl rfl rfl rfl rfl ?_; intro r n hr0; have hr := hr0 _ _ (by first | with_reducible assumption | exact rfl) (by first | with_reducible assumption | exact rfl); clear hr0) | (with_reducible refine at_list ?_; refine wpList_neg rfl rfl rfl ?_; intro r hr0; have hr := hr0 _ (by first | with_reducible assumption | exact rfl); clear hr0) | (with_reducible refine at_list ?_; refine wpList_fop_g rfl rfl rfl rfl rfl ?_; intro r n hr0; have hr := hr0 _ _ (by first | with_reducible assumption | exact rfl) (by first | with_reducible assumption | exact rfl); clear hr0) | (with_reducible refine at_list ?_; refine wpList_wide_g rfl rfl Try.underlying22 Try.underlying40 rfl ?_; intro r n hr0; have hr := hr0 _ (by first | with_reducible assumption | exact rfl); clear hr0) | (with_reducible refine at_list ?_; refine wpList_wide rfl rfl rfl Try.underlying22 Try.underlying40 ?_; intro r n hr0; have hr := hr0 _ (by first | with_reducible assumption | exact rfl); clear hr0) | (go_at_call 32; refine stop_here ?_) | (go_at_call 15; refine (szBar_any _ _ _ _ _ _ (by assumption) (by omega)).mono ?_; rintro e w' ⟨rfl, hb⟩; obtain ⟨hT, hk⟩ := bv_next hb (by (repeat (with_reducible first | assumption | apply Trk.alloc | apply Trk.setCell | apply Trk.drewN | apply Trk.drew | exact Trk.nil _))); simp only [SameOn, World.size_alloc, World.size_setCell, World.size_drew, size_drewN', and_true] at hk; have hsz := Below.size hb; (try simp only [World.size_alloc, World.size_setCell, World.size_drew, size_drewN'] at hsz)) | (go_at_call 17; refine (toBar_any _ _ _ _ _ (by assumption) (by assumption)).mono ?_; rintro e w' ⟨u, rfl, hb, hO⟩; obtain ⟨pu, cu, rfl⟩ := OF.shape hO; (try simp only [World.size_alloc, World.size_setCell, World.size_drew, World.drewN] at hO); obtain ⟨hT, hk⟩ := bv_next hb (by (repeat (with_reducible first | assumption | apply Trk.alloc | apply Trk.setCell | apply Trk.drewN | apply Trk.drew | exact Trk.nil _))); simp only [SameOn, World.size_alloc, World.size_setCell, World.size_drew, size_drewN', and_true] at hk; have hsz := Below.size hb; (try simp only [World.size_alloc, World.size_setCell, World.size_drew, size_drewN'] at hsz)) | (go_at_call 19; refine ((eqBar_any sR sR pR pR (.slice q02 XR.length c02) (.slice q01 XR.length c01) XR XR _ (HF2.out.later (by (repeat (first | (with_reducible exact Below.refl _ _) | (with_reducible assumption) | (with_reducible refine below_then ?_ (by assumption)) | (with_reducible refine Below.trans ?_ (by assumption)) | (with_reducible refine below_drewN ?_ _) | (with_reducible apply Below.drew) | (with_reducible refine below_alloc ?_ _) | refine Below.setCell ?_ (by first | (simp; done) | (simp; omega)) _)))) (HF1.out.later (by (repeat (first | (with_reducible exact Below.refl _ _) | (with_reducible assumption) | (with_reducible refine below_then ?_ (by assumption)) | (with_reducible refine Below.trans ?_ (by assumption)) | (with_reducible refine below_drewN ?_ _) | (with_reducible apply Below.drew) | (with_reducible refine below_alloc ?_ _) | refine Below.setCell ?_ (by first | (simp; done) | (simp; omega)) _)))) rfl rfl rfl) ).mono ?_; rintro e w' ⟨rfl, hb⟩; obtain ⟨hT, hk⟩ := bv_next hb (by (repeat (with_reducible first | assumption | apply Trk.alloc | apply Trk.setCell | apply Trk.drewN | apply Trk.drew | exact Trk.nil _))); simp only [SameOn, World.size_alloc, World.size_setCell, World.size_drew, size_drewN', and_true] at hk; have hsz := Below.size hb; (try simp only [World.size_alloc, World.size_setCell, World.size_drew, size_drewN'] at hsz)) | (go_at_call 31; refine ((eqF_any ys2 ys1 _ _ _ (HY2.out.later (by (repeat (first | (with_reducible exact Below.refl _ _) | (with_reducible assumption) | (with_reducible refine below_then ?_ (by assumption)) | (with_reducible refine Below.trans ?_ (by assumption)) | (with_reducible refine below_drewN ?_ _) | (with_reducible apply Below.drew) | (with_reducible refine below_alloc ?_ _) | refine Below.setCell ?_ (by first | (simp; done) | (simp; omega)) _)))) (HY1.out.later (by (repeat (first | (with_reducible exact Below.refl _ _) | (with_reducible assumption) | (with_reducible refine below_then ?_ (by assumption)) | (with_reducible refine Below.trans ?_ (by assumption)) | (with_reducible refine below_drewN ?_ _) | (with_reducible apply Below.drew) | (with_reducible refine below_alloc ?_ _) | refine Below.setCell ?_ (by first | (simp; done) | (simp; omega)) _)))) HEQ.out) ).mono ?_; rintro e w' ⟨rfl, hb⟩; obtain ⟨hT, hk⟩ := bv_next hb (by (repeat (with_reducible first | assumption | apply Trk.alloc | apply Trk.setCell | apply Trk.drewN | apply Trk.drew | exact Trk.nil _))); simp only [SameOn, World.size_alloc, World.size_setCell, World.size_drew, size_drewN', and_true] at hk; have hsz := Below.size hb; (try simp only [World.size_alloc, World.size_setCell, World.size_drew, size_drewN'] at hsz)))
  unfold Stop
  refine calls_named ?_
  intro w12 hw12
  have HB12 : Hid (Below w11.heap.size w11 w12) := by show Below _ _ _; rw [hw12]; (repeat (first | (with_reducible exact Below.refl _ _) | (with_reducible assumption) | (with_reducible refine below_then ?_ (by assumption)) | (with_reducible refine Below.trans ?_ (by assumption)) | (with_reducible refine below_drewN ?_ _) | (with_reducible apply Below.drew) | (with_reducible refine below_alloc ?_ _) | refine Below.setCell ?_ (by first | (simp; done) | (simp; omega)) _))
  have hz12 := HB12.out.size
  replace HRL2 := Lib.hid (HRL2.out.later HB12.out)
  replace HBB : Hid (Below w1.heap.size w1 w12) := HBB.out.trans (HB12.out.mono (by omega))
  clear hw12 hT d0 d1 d2 d3 d4 d5 d6 d7 s0 s1 s2 s3 s4 s5 s6 s7 HF1 HY1 HYM1 HS1 g0 g1 g2 g3 g4 g5 g6 g7 HF2 HY2 HEQ
  try clear hb hk hsz
  refine (markBL_any w7.heap.size sR pR XR LL w12 b18 q02 c02 q2 c2 HRL2.out (by omega) (by have := H3.out; omega)).mono ?_
  rintro e w13 ⟨rfl, hg, hM⟩
  have hz13 := hg.size
  have HM2 := Lib.hid hM
  replace HBB : Hid (Below w1.heap.size w1 w13) := HBB.out.trans (hg.mono (by omega))
  clear hg hM HRL2
  go_wp2_with (first | (with_reducible refine at_list ?_; refine wpList_fop rfl rfl rfl rfl rfl ?_; intro r n hr0; have hr := hr0 _ _ (by first | with_reducible assumption | exact rfl) (by first | with_reducible assumption | exact rfl); clear hr0) | (with_reducible refine at_list ?_; refine wpList_neg rfl rfl rfl ?_; intro r hr0; have hr := hr0 _ (by first | with_reducible assumption | exact rfl); clear hr0) | (with_reducible refine at_list ?_; refine wpList_fop_g rfl rfl rfl rfl rfl ?_; intro r n hr0; have hr := hr0 _ _ (by first | with_reducible assumption | exact rfl) (by first | with_reducible assumption | exact rfl); clear hr0) | (with_reducible refine at_list ?_; refine wpList_wide_g rfl rfl Try.underlying22 Try.underlying40 rfl ?_; intro r n hr0; have hr := hr0 _ (by first | with_reducible assumption | exact rfl); clear hr0) | (with_reducible refine at_list ?_; refine wpList_wide rfl rfl rfl Try.underlying22 Try.underlying40 ?_; intro r n hr0; have hr := hr0 _ (by first | with_reducible assumption | exact rfl); clear hr0) | (go_at_call 33; refine stop_here ?_) | (go_at_call 15; refine (szBar_any _ _ _ _ _ _ (by assumption) (by omega)).mono ?_; rintro e w' ⟨rfl, hb⟩; obtain ⟨hT, hk⟩ := bv_next hb (by (repeat (with_reducible first | assumption | apply Trk.alloc | apply Trk.setCell | apply Trk.drewN | apply Trk.drew | exact Trk.nil _))); simp only [SameOn, World.size_alloc, World.size_setCell, World.size_drew, size_drewN', and_true] at hk; have hsz := Below.size hb; (try simp only [World.size_alloc, World.size_setCell, World.size_drew, size_drewN'] at hsz)) | (go_at_call 17; refine (toBar_any _ _ _ _ _ (by assumption) (by assumption)).mono ?_; rintro e w' ⟨u, rfl, hb, hO⟩; obtain ⟨pu, cu, rfl⟩ := OF.shape hO; (try simp only [World.size_alloc, World.size_setCell, World.size_drew, World.drewN] at hO); obtain ⟨hT, hk⟩ := bv_next hb (by (repeat (with_reducible first | assumption | apply Trk.alloc | apply Trk.setCell | apply Trk.drewN | apply Trk.drew | exact Trk.nil _))); simp only [SameOn, World.size_alloc, World.size_setCell, World.size_drew, size_drewN', and_true] at hk; have hsz := Below.size hb; (try simp only [World.size_alloc, World.size_setCell, World.size_drew, size_drewN'] at hsz)) | (go_at_call 19; refine (eqBar_any _ _ _ _ _ _ _ _ _ (by assumption) (by assumption) (by assumption) (by assumption) (by assumption)).mono ?_; rintro e w' ⟨rfl, hb⟩; obtain ⟨hT, hk⟩ := bv_next hb (by (repeat (with_reducible first | assumption | apply Trk.alloc | apply Trk.setCell | apply Trk.drewN | apply Trk.drew | exact Trk.nil _))); simp only [SameOn, World.size_alloc, World.size_setCell, World.size_drew, size_drewN', and_true] at hk; have hsz := Below.size hb; (try simp only [World.size_alloc, World.size_setCell, World.size_drew, size_drewN'] at hsz)) | (go_at_call 31; refine (eqF_any _ _ _ _ _ (by assumption) (by assumption) (by assumption)).mono ?_; rintro e w' ⟨rfl, hb⟩; obtain ⟨hT, hk⟩ := bv_next hb (by (repeat (with_reducible first | assumption | apply Trk.alloc | apply Trk.setCell | apply Trk.drewN | apply Trk.drew | exact Trk.nil _))); simp only [SameOn, World.size_alloc, World.size_setCell, World.size_drew, size_drewN', and_true] at hk; have hsz := Below.size hb; (try simp only [World.size_alloc, World.size_setCell, World.size_drew, size_drewN'] at hsz)))
  unfold Stop
  refine (markBL2_any w7.heap.size sR pR XR LL w13 b18 q02 c02 q2 c2 HM2.out (by omega) H3.out H4.out).mono ?_
  rintro e w14 ⟨rfl, hg, hM⟩
  have hz14 := hg.size
  have HN2 := Lib.hid hM
  replace HBB : Hid (Below w1.heap.size w1 w14) := HBB.out.trans (hg.mono (by omega))
  clear hg hM HM2
  have hR := bar_later HBX.out HBB.out (by omega)
  obtain ⟨⟨d0, d1, d2, d3, d4, d5⟩, d6, d7⟩ := hR
  simp only [Nat.zero_add] at d0 d1 d2 d3 d4 d5 d6 d7
  have g0 := (HN2.out.1 0 _ rfl).1
  have g1 := (HN2.out.1 1 _ rfl).1
  have g2 := (HN2.out.1 2 _ rfl).1
  have g3 := (HN2.out.1 3 _ rfl).1
  have g4 := (HN2.out.1 4 _ rfl).1
  have g5 := (HN2.out.1 5 _ rfl).1
  have g6 := (HN2.out.1 6 _ rfl).1
  have g7 := (HN2.out.1 7 _ rfl).1
  have HFB : Hid (FS w14 (.slice q02 XR.length c02) (marks 1 XR.length)) := HN2.out.2.1
  have HFM : Hid (FS w14 (.slice q2 LL.length c2) (marks (1 + XR.length) LL.length)) := HN2.out.2.2
  have hT : Trk w14 [w.heap.size, b18] := ((Trk.nil w14).more (by omega)).more (by omega)
  go_wp2_with (first | (with_reducible refine at_list ?_; refine wpList_fop rfl rfl rfl rfl rfl ?_; intro r n hr0; have hr := hr0 _ _ (by first | with_reducible assumption | exact rfl) (by first | with_reducible assumption | exact rfl); clear hr0) | (with_reducible refine at_list ?_; refine wpList_neg rfl rfl rfl ?_; intro r hr0; have hr := hr0 _ (by first | with_reducible assumption | exact rfl); clear hr0) | (with_reducible refine at_list ?_; refine wpList_fop_g rfl rfl rfl rfl rfl ?_; intro r n hr0; have hr := hr0 _ _ (by first | with_reducible assumption | exact rfl) (by first | with_reducible assumption | exact rfl); clear hr0) | (with_reducible refine at_list ?_; refine wpList_wide_g rfl rfl Try.underlying22 Try.underlying40 rfl ?_; intro r n hr0; have hr := hr0 _ (by first | with_reducible assumption | exact rfl); clear hr0) | (with_reducible refine at_list ?_; refine wpList_wide rfl rfl rfl Try.underlying22 Try.underlying40 ?_; intro r n hr0; have hr := hr0 _ (by first | with_reducible assumption | exact rfl); clear hr0) | (go_at_call 17; refine stop_here ?_) | (go_at_call 15; refine (szBar_any _ _ _ _ _ _ (by assumption) (by omega)).mono ?_; rintro e w' ⟨rfl, hb⟩; obtain ⟨hT, hk⟩ := bv_next hb (by (repeat (with_reducible first | assumption | apply Trk.alloc | apply Trk.setCell | apply Trk.drewN | apply Trk.drew | exact Trk.nil _))); simp only [SameOn, World.size_alloc, World.size_setCell, World.size_drew, size_drewN', and_true] at hk; have hsz := Below.size hb; (try simp only [World.size_alloc, World.size_setCell, World.size_drew, size_drewN'] at hsz)) | (go_at_call 17; refine (toBar_any _ _ _ _ _ (by assumption) (by assumption)).mono ?_; rintro e w' ⟨u, rfl, hb, hO⟩; obtain ⟨pu, cu, rfl⟩ := OF.shape hO; (try simp only [World.size_alloc, World.size_setCell, World.size_drew, World.drewN] at hO); obtain ⟨hT, hk⟩ := bv_next hb (by (repeat (with_reducible first | assumption | apply Trk.alloc | apply Trk.setCell | apply Trk.drewN | apply Trk.drew | exact Trk.nil _))); simp only [SameOn, World.size_alloc, World.size_setCell, World.size_drew, size_drewN', and_true] at hk; have hsz := Below.size hb; (try simp only [World.size_alloc, World.size_setCell, World.size_drew, size_drewN'] at hsz)) | (go_at_call 19; refine (eqBar_any _ _ _ _ _ _ _ _ _ (by assumption) (by assumption) (by assumption) (by assumption) (by assumption)).mono ?_; rintro e w' ⟨rfl, hb⟩; obtain ⟨hT, hk⟩ := bv_next hb (by (repeat (with_reducible first | assumption | apply Trk.alloc | apply Trk.setCell | apply Trk.drewN | apply Trk.drew | exact Trk.nil _))); simp only [SameOn, World.size_alloc, World.size_setCell, World.size_drew, size_drewN', and_true] at hk; have hsz := Below.size hb; (try simp only [World.size_alloc, World.size_setCell, World.size_drew, size_drewN'] at hsz)) | (go_at_call 31; refine (eqF_any _ _ _ _ _ (by assumption) (by assumption) (by assumption)).mono ?_; rintro e w' ⟨rfl, hb⟩; obtain ⟨hT, hk⟩ := bv_next hb (by (repeat (with_reducible first | assumption | apply Trk.alloc | apply Trk.setCell | apply Trk.drewN | apply Trk.drew | exact Trk.nil _))); simp only [SameOn, World.size_alloc, World.size_setCell, World.size_drew, size_drewN', and_true] at hk; have hsz := Below.size hb; (try simp only [World.size_alloc, World.size_setCell, World.size_drew, size_drewN'] at hsz)) | (go_at_call 40; refine ((heldBar_any sR pR XR.length _ 1 _ (HFB.out.later (by (repeat (first | (with_reducible exact Below.refl _ _) | (with_reducible assumption) | (with_reducible refine below_then ?_ (by assumption)) | (with_reducible refine Below.trans ?_ (by assumption)) | (with_reducible refine below_drewN ?_ _) | (with_reducible apply Below.drew) | (with_reducible refine below_alloc ?_ _) | refine Below.setCell ?_ (by first | (simp; done) | (simp; omega)) _)))) (by omega) (by have := H3.out; omega)) ).mono ?_; rintro e w' ⟨rfl, hb⟩; obtain ⟨hT, hk⟩ := bv_next hb (by (repeat (with_reducible first | assumption | apply Trk.alloc | apply Trk.setCell | apply Trk.drewN | apply Trk.drew | exact Trk.nil _))); simp only [SameOn, World.size_alloc, World.size_setCell, World.size_drew, size_drewN', and_true] at hk; have hsz := Below.size hb; (try simp only [World.size_alloc, World.size_setCell, World.size_drew, size_drewN'] at hsz)) | (go_at_call 34; refine ((heldF_any LL.length _ (1 + XR.length) _ (HFM.out.later (by (repeat (first | (with_reducible exact Below.refl _ _) | (with_reducible assumption) | (with_reducible refine below_then ?_ (by assumption)) | (with_reducible refine Below.trans ?_ (by assumption)) | (with_reducible refine below_drewN ?_ _) | (with_reducible apply Below.drew) | (with_reducible refine below_alloc ?_ _) | refine Below.setCell ?_ (by first | (simp; done) | (simp; omega)) _)))) (by have := H3.out; omega) (by have h4 := H4.out; omega)) ).mono ?_; rintro e w' ⟨rfl, n, rfl⟩))
  unfold Stop
  refine calls_named ?_
  intro w15 hw15
  have HB15 : Hid (Below w14.heap.size w14 w15) := by show Below _ _ _; rw [hw15]; (repeat (first | (with_reducible exact Below.refl _ _) | (with_reducible assumption) | (with_reducible refine below_then ?_ (by assumption)) | (with_reducible refine Below.trans ?_ (by assumption)) | (with_reducible refine below_drewN ?_ _) | (with_reducible apply Below.drew) | (with_reducible refine below_alloc ?_ _) | refine Below.setCell ?_ (by first | (simp; done) | (simp; omega)) _))
  have hz15 := HB15.out.size
  replace HN2 := Lib.hid (HN2.out.later HB15.out)
  replace HBB : Hid (Below w1.heap.size w1 w15) := HBB.out.trans (HB15.out.mono (by omega))
  clear hw15 hT g0 g1 g2 g3 g4 g5 g6 g7 HFM HFB d0 d1 d2 d3 d4 d5 d6 d7
  try clear hb hk hsz
  have hR := bar_later HBX.out HBB.out (by omega)
  obtain ⟨⟨d0, d1, d2, d3, d4, d5⟩, d6, d7⟩ := hR
  simp only [Nat.zero_add] at d0 d1 d2 d3 d4 d5 d6 d7
  have HS1 := Lib.hid (HRL1.out.later HBB.out)
  have s0 := (HS1.out.1.1.2 0 _ rfl).1
  have s1 := (HS1.out.1.1.2 1 _ rfl).1
  have s2 := (HS1.out.1.1.2 2 _ rfl).1
  have s3 := (HS1.out.1.1.2 3 _ rfl).1
  have s4 := (HS1.out.1.1.2 4 _ rfl).1
  have s5 := (HS1.out.1.1.2 5 _ rfl).1
  have s6 := (HS1.out.1.1.2 6 _ rfl).1
  have s7 := (HS1.out.1.1.2 7 _ rfl).1
  have HF1 : Hid (FS w15 (.slice q01 XR.length c01) XR) := OF.fs HS1.out.2.1
  obtain ⟨ys1, hy1, hym1⟩ := HS1.out.2.2
  have HY1 : Hid (FS w15 (.slice q1 LL.length c1) ys1) := hy1.fs
  have HYM1 := Lib.hid hym1
  clear hy1 hym1
  replace HPF : Hid (FS w15 (.slice qv xs.length cv) xs) := HPF.out.later HBB.out
  have hT : Trk w15 [w.heap.size, b14] := ((Trk.nil w15).more (by omega)).more (by omega)
  refine (toBar_any s p (.slice qv xs.length cv) xs _ (HPF.out) HN.out).mono ?_
  rintro e w' ⟨um, rfl, hb, hX⟩
  obtain ⟨mq, mc, rfl⟩ := OF.shape hX
  obtain ⟨hT, hk⟩ := bv_next hb (by (repeat (with_reducible first | assumption | apply Trk.alloc | apply Trk.setCell | apply Trk.drewN | apply Trk.drew | exact Trk.nil _))); simp only [SameOn, World.size_alloc, World.size_setCell, World.size_drew, size_drewN', and_true] at hk; have hsz := Below.size hb; (try simp only [World.size_alloc, World.size_setCell, World.size_drew, size_drewN'] at hsz)
  have HMF := Lib.hid (OF.fs hX)
  have HBm := Lib.hid hb
  clear hX
  go_wp2_with (first | (with_reducible refine at_list ?_; refine wpList_fop rfl rfl rfl rfl rfl ?_; intro r n hr0; have hr := hr0 _ _ (by first | with_reducible assumption | exact rfl) (by first | with_reducible assumption | exact rfl); clear hr0) | (with_reducible refine at_list ?_; refine wpList_neg rfl rfl rfl ?_; intro r hr0; have hr := hr0 _ (by first | with_reducible assumption | exact rfl); clear hr0) | (with_reducible refine at_list ?_; refine wpList_fop_g rfl rfl rfl rfl rfl ?_; intro r n hr0; have hr := hr0 _ _ (by first | with_reducible assumption | exact rfl) (by first | with_reducible assumption | exact rfl); clear hr0) | (with_reducible refine at_list ?_; refine wpList_wide_g rfl rfl Try.underlying22 Try.underlying40 rfl ?_; intro r n hr0; have hr := hr0 _ (by first | with_reducible assumption | exact rfl); clear hr0) | (with_reducible refine at_list ?_; refine wpList_wide rfl rfl rfl Try.underlying22 Try.underlying40 ?_; intro r n hr0; have hr := hr0 _ (by first | with_reducible assumption | exact rfl); clear hr0) | (go_at_call 44; refine stop_here ?_) | (go_at_call 15; refine (szBar_any _ _ _ _ _ _ (by assumption) (by omega)).mono ?_; rintro e w' ⟨rfl, hb⟩; obtain ⟨hT, hk⟩ := bv_next hb (by (repeat (with_reducible first | assumption | apply Trk.alloc | apply Trk.setCell | apply Trk.drewN | apply Trk.drew | exact Trk.nil _))); simp only [SameOn, World.size_alloc, World.size_setCell, World.size_drew, size_drewN', and_true] at hk; have hsz := Below.size hb; (try simp only [World.size_alloc, World.size_setCell, World.size_drew, size_drewN'] at hsz)) | (go_at_call 17; refine (toBar_any _ _ _ _ _ (by assumption) (by assumption)).mono ?_; rintro e w' ⟨u, rfl, hb, hO⟩; obtain ⟨pu, cu, rfl⟩ := OF.shape hO; (try simp only [World.size_alloc, World.size_setCell, World.size_drew, World.drewN] at hO); obtain ⟨hT, hk⟩ := bv_next hb (by (repeat (with_reducible first | assumption | apply Trk.alloc | apply Trk.setCell | apply Trk.drewN | apply Trk.drew | exact Trk.nil _))); simp only [SameOn, World.size_alloc, World.size_setCell, World.size_drew, size_drewN', and_true] at hk; have hsz := Below.size hb; (try simp only [World.size_alloc, World.size_setCell, World.size_drew, size_drewN'] at hsz)) | (go_at_call 19; refine (eqBar_any _ _ _ _ _ _ _ _ _ (by assumption) (by assumption) (by assumption) (by assumption) (by assumption)).mono ?_; rintro e w' ⟨rfl, hb⟩; obtain ⟨hT, hk⟩ := bv_next hb (by (repeat (with_reducible first | assumption | apply Trk.alloc | apply Trk.setCell | apply Trk.drewN | apply Trk.drew | exact Trk.nil _))); simp only [SameOn, World.size_alloc, World.size_setCell, World.size_drew, size_drewN', and_true] at hk; have hsz := Below.size hb; (try simp only [World.size_alloc, World.size_setCell, World.size_drew, size_drewN'] at hsz)) | (go_at_call 31; refine (eqF_any _ _ _ _ _ (by assumption) (by assumption) (by assumption)).mono ?_; rintro e w' ⟨rfl, hb⟩; obtain ⟨hT, hk⟩ := bv_next hb (by (repeat (with_reducible first | assumption | apply Trk.alloc | apply Trk.setCell | apply Trk.drewN | apply Trk.drew | exact Trk.nil _))); simp only [SameOn, World.size_alloc, World.size_setCell, World.size_drew, size_drewN', and_true] at hk; have hsz := Below.size hb; (try simp only [World.size_alloc, World.size_setCell, World.size_drew, size_drewN'] at hsz)))
  unfold Stop
  refine (H2.out _ _ (HMF.out.later (by (repeat (first | (with_reducible exact Below.refl _ _) | (with_reducible assumption) | (with_reducible refine below_then ?_ (by assumption)) | (with_reducible refine Below.trans ?_ (by assumption)) | (with_reducible refine below_drewN ?_ _) | (with_reducible apply Below.drew) | (with_reducible refine below_alloc ?_ _) | refine Below.setCell ?_ (by first | (simp; done) | (simp; omega)) _))))).mono ?_
  rintro e w' hbb
  obtain ⟨q03, c03, q3, c3, rfl, hb, hX⟩ := bbl_at hbb
  clear hbb
  obtain ⟨hT, hk⟩ := bv_next hb (by (repeat (with_reducible first | assumption | apply Trk.alloc | apply Trk.setCell | apply Trk.drewN | apply Trk.drew | exact Trk.nil _))); simp only [SameOn, World.size_alloc, World.size_setCell, World.size_drew, size_drewN', and_true] at hk; have hsz := Below.size hb; (try simp only [World.size_alloc, World.size_setCell, World.size_drew, size_drewN'] at hsz)
  have HXq := Lib.hid hX
  have HBq := Lib.hid hb
  clear hX
  rename World => wq
  go_wp2_with (first | (with_reducible refine at_list ?_; refine wpList_fop rfl rfl rfl rfl rfl ?_; intro r n hr0; have hr := hr0 _ _ (by first | with_reducible assumption | exact rfl) (by first | with_reducible assumption | exact rfl); clear hr0) | (with_reducible refine at_list ?_; refine wpList_neg rfl rfl rfl ?_; intro r hr0; have hr := hr0 _ (by first | with_reducible assumption | exact rfl); clear hr0) | (with_reducible refine at_list ?_; refine wpList_fop_g rfl rfl rfl rfl rfl ?_; intro r n hr0; have hr := hr0 _ _ (by first | with_reducible assumption | exact rfl) (by first | with_reducible assumption | exact rfl); clear hr0) | (with_reducible refine at_list ?_; refine wpList_wide_g rfl rfl Try.underlying22 Try.underlying40 rfl ?_; intro r n hr0; have hr := hr0 _ (by first | with_reducible assumption | exact rfl); clear hr0) | (with_reducible refine at_list ?_; refine wpList_wide rfl rfl rfl Try.underlying22 Try.underlying40 ?_; intro r n hr0; have hr := hr0 _ (by first | with_reducible assumption | exact rfl); clear hr0) | (go_at_call 19; refine stop_here ?_) | (go_at_call 15; refine (szBar_any _ _ _ _ _ _ (by assumption) (by omega)).mono ?_; rintro e w' ⟨rfl, hb⟩; obtain ⟨hT, hk⟩ := bv_next hb (by (repeat (with_reducible first | assumption | apply Trk.alloc | apply Trk.setCell | apply Trk.drewN | apply Trk.drew | exact Trk.nil _))); simp only [SameOn, World.size_alloc, World.size_setCell, World.size_drew, size_drewN', and_true] at hk; have hsz := Below.size hb; (try simp only [World.size_alloc, World.size_setCell, World.size_drew, size_drewN'] at hsz)) | (go_at_call 17; refine (toBar_any _ _ _ _ _ (by assumption) (by assumption)).mono ?_; rintro e w' ⟨u, rfl, hb, hO⟩; obtain ⟨pu, cu, rfl⟩ := OF.shape hO; (try simp only [World.size_alloc, World.size_setCell, World.size_drew, World.drewN] at hO); obtain ⟨hT, hk⟩ := bv_next hb (by (repeat (with_reducible first | assumption | apply Trk.alloc | apply Trk.setCell | apply Trk.drewN | apply Trk.drew | exact Trk.nil _))); simp only [SameOn, World.size_alloc, World.size_setCell, World.size_drew, size_drewN', and_true] at hk; have hsz := Below.size hb; (try simp only [World.size_alloc, World.size_setCell, World.size_drew, size_drewN'] at hsz)) | (go_at_call 19; refine (eqBar_any _ _ _ _ _ _ _ _ _ (by assumption) (by assumption) (by assumption) (by assumption) (by assumption)).mono ?_; rintro e w' ⟨rfl, hb⟩; obtain ⟨hT, hk⟩ := bv_next hb (by (repeat (with_reducible first | assumption | apply Trk.alloc | apply Trk.setCell | apply Trk.drewN | apply Trk.drew | exact Trk.nil _))); simp only [SameOn, World.size_alloc, World.size_setCell, World.size_drew, size_drewN', and_true] at hk; have hsz := Below.size hb; (try simp only [World.size_alloc, World.size_setCell, World.size_drew, size_drewN'] at hsz)) | (go_at_call 31; refine (eqF_any _ _ _ _ _ (by assumption) (by assumption) (by assumption)).mono ?_; rintro e w' ⟨rfl, hb⟩; obtain ⟨hT, hk⟩ := bv_next hb (by (repeat (with_reducible first | assumption | apply Trk.alloc | apply Trk.setCell | apply Trk.drewN | apply Trk.drew | exact Trk.nil _))); simp only [SameOn, World.size_alloc, World.size_setCell, World.size_drew, size_drewN', and_true] at hk; have hsz := Below.size hb; (try simp only [World.size_alloc, World.size_setCell, World.size_drew, size_drewN'] at hsz)))
  unfold Stop
  refine calls_named ?_
  intro w16 hw
  obtain ⟨b24, hb240, HRLn⟩ : ∃ b, b = wq.heap.size ∧ Hid (BLat w15.heap.size sR pR XR LL w16 b q03 c03 q3 c3) := ⟨_, rfl, by rw [show w16 = wq.alloc (.cells #[.float .f32 sR.a, .float .f32 sR.b, .float .f32 sR.c, .float .f32 sR.d, .float .f32 sR.p, .float .f32 sR.l, .float .f32 pR, .slice q03 XR.length c03] 32) from hw]; exact bl_new HXq.out (by have := HBm.out.size; first | exact this | omega | (simp; omega) | (simp; done)) (by have := HBm.out.size; have := HBq.out.size; first | omega | (simp at this; omega))⟩
  rw [← hb240]
  have HRL3 := HRLn
  have hi : Below w15.heap.size w15 w16 := by rw [hw]; (repeat (first | (with_reducible exact Below.refl _ _) | (with_reducible assumption) | (with_reducible refine below_then ?_ (by assumption)) | (with_reducible refine Below.trans ?_ (by assumption)) | (with_reducible refine below_drewN ?_ _) | (with_reducible apply Below.drew) | (with_reducible refine below_alloc ?_ _) | refine Below.setCell ?_ (by first | (simp; done) | (simp; omega)) _))
  have hz16 := hi.size
  have hb24 : b24 < w16.heap.size := World.block_lt_of_cell? _ _ (HRL3.out.1.1.2 0 _ rfl).1
  have hb24' : w15.heap.size ≤ b24 := HRL3.out.1.1.1
  replace HN2 := Lib.hid (HN2.out.later hi)
  replace HBB : Hid (Below w1.heap.size w1 w16) := HBB.out.trans (hi.mono (by omega))
  clear hw hi hb hT hk hsz HXq HBq HRLn HMF HBm hb240 d0 d1 d2 d3 d4 d5 d6 d7 s0 s1 s2 s3 s4 s5 s6 s7 HF1 HY1 HYM1 HS1
  have hR := bar_later HBX.out HBB.out (by omega)
  obtain ⟨⟨d0, d1, d2, d3, d4, d5⟩, d6, d7⟩ := hR
  simp only [Nat.zero_add] at d0 d1 d2 d3 d4 d5 d6 d7
  have HS1 := Lib.hid (HRL1.out.later HBB.out)
  have s0 := (HS1.out.1.1.2 0 _ rfl).1
  have s1 := (HS1.out.1.1.2 1 _ rfl).1
  have s2 := (HS1.out.1.1.2 2 _ rfl).1
  have s3 := (HS1.out.1.1.2 3 _ rfl).1
  have s4 := (HS1.out.1.1.2 4 _ rfl).1
  have s5 := (HS1.out.1.1.2 5 _ rfl).1
  have s6 := (HS1.out.1.1.2 6 _ rfl).1
  have s7 := (HS1.out.1.1.2 7 _ rfl).1
  have HF1 : Hid (FS w16 (.slice q01 XR.length c01) XR) := OF.fs HS1.out.2.1
  obtain ⟨ys1, hy1, hym1⟩ := HS1.out.2.2
  have HY1 : Hid (FS w16 (.slice q1 LL.length c1) ys1) := hy1.fs
  have HYM1 := Lib.hid hym1
  clear hy1 hym1
  have k0 := (HRL3.out.1.1.2 0 _ rfl).1
  have k1 := (HRL3.out.1.1.2 1 _ rfl).1
  have k2 := (HRL3.out.1.1.2 2 _ rfl).1
  have k3 := (HRL3.out.1.1.2 3 _ rfl).1
  have k4 := (HRL3.out.1.1.2 4 _ rfl).1
  have k5 := (HRL3.out.1.1.2 5 _ rfl).1
  have k6 := (HRL3.out.1.1.2 6 _ rfl).1
  have k7 := (HRL3.out.1.1.2 7 _ rfl).1
  have HF2 : Hid (FS w16 (.slice q03 XR.length c03) XR) := OF.fs HRL3.out.2.1
  obtain ⟨ys3, hy2, hym2⟩ := HRL3.out.2.2
  have HY2 : Hid (FS w16 (.slice q3 LL.length c3) ys3) := hy2.fs
  have HEQ : Hid (ys1.map (cn .f32) = ys3.map (cn .f32)) := HYM1.out.trans hym2.symm
  clear hy2 hym2
  have g0 := (HN2.out.1 0 _ rfl).1
  have g1 := (HN2.out.1 1 _ rfl).1
  have g2 := (HN2.out.1 2 _ rfl).1
  have g3 := (HN2.out.1 3 _ rfl).1
  have g4 := (HN2.out.1 4 _ rfl).1
  have g5 := (HN2.out.1 5 _ rfl).1
  have g6 := (HN2.out.1 6 _ rfl).1
  have g7 := (HN2.out.1 7 _ rfl).1
  have HFB : Hid (FS w16 (.slice q02 XR.length c02) (marks 1 XR.length)) := HN2.out.2.1
  have HFM : Hid (FS w16 (.slice q2 LL.length c2) (marks (1 + XR.length) LL.length)) := HN2.out.2.2
  have hT : Trk w16 [w.heap.size, b14, b18, b24] := ((((Trk.nil w16).more (by omega)).more (by omega)).more (by omega)).more (by omega)
  have HBF : Hid (Below w.heap.size w w16) := HB1.out.trans (HBB.out.mono (by omega))
  have hbf := HBF.out
  refine (eqBar_any sR sR pR pR (.slice q03 XR.length c03) (.slice q01 XR.length c01) XR XR _ HF2.out HF1.out rfl rfl rfl).mono ?_
  rintro e w' ⟨rfl, hb⟩
  obtain ⟨hT, hk⟩ := bv_next hb (by (repeat (with_reducible first | assumption | apply Trk.alloc | apply Trk.setCell | apply Trk.drewN | apply Trk.drew | exact Trk.nil _))); simp only [SameOn, World.size_alloc, World.size_setCell, World.size_drew, size_drewN', and_true] at hk; have hsz := Below.size hb; (try simp only [World.size_alloc, World.size_setCell, World.size_drew, size_drewN'] at hsz)
  go_wp2_with (first | (with_reducible refine at_list ?_; refine wpList_fop rfl rfl rfl rfl rfl ?_; intro r n hr0; have hr := hr0 _ _ (by first | with_reducible assumption | exact rfl) (by first | with_reducible assumption | exact rfl); clear hr0) | (with_reducible refine at_list ?_; refine wpList_neg rfl rfl rfl ?_; intro r hr0; have hr := hr0 _ (by first | with_reducible assumption | exact rfl); clear hr0) | (with_reducible refine at_list ?_; refine wpList_fop_g rfl rfl rfl rfl rfl ?_; intro r n hr0; have hr := hr0 _ _ (by first | with_reducible assumption | exact rfl) (by first | with_reducible assumption | exact rfl); clear hr0) | (with_reducible refine at_list ?_; refine wpList_wide_g rfl rfl Try.underlying22 Try.underlying40 rfl ?_; intro r n hr0; have hr := hr0 _ (by first | with_reducible assumption | exact rfl); clear hr0) | (with_reducible refine at_list ?_; refine wpList_wide rfl rfl rfl Try.underlying22 Try.underlying40 ?_; intro r n hr0; have hr := hr0 _ (by first | with_reducible assumption | exact rfl); clear hr0) | (go_at_call 15; refine (szBar_any _ _ _ _ _ _ (by assumption) (by omega)).mono ?_; rintro e w' ⟨rfl, hb⟩; obtain ⟨hT, hk⟩ := bv_next hb (by (repeat (with_reducible first | assumption | apply Trk.alloc | apply Trk.setCell | apply Trk.drewN | apply Trk.drew | exact Trk.nil _))); simp only [SameOn, World.size_alloc, World.size_setCell, World.size_drew, size_drewN', and_true] at hk; have hsz := Below.size hb; (try simp only [World.size_alloc, World.size_setCell, World.size_drew, size_drewN'] at hsz)) | (go_at_call 17; refine (toBar_any _ _ _ _ _ (by assumption) (by assumption)).mono ?_; rintro e w' ⟨u, rfl, hb, hO⟩; obtain ⟨pu, cu, rfl⟩ := OF.shape hO; (try simp only [World.size_alloc, World.size_setCell, World.size_drew, World.drewN] at hO); obtain ⟨hT, hk⟩ := bv_next hb (by (repeat (with_reducible first | assumption | apply Trk.alloc | apply Trk.setCell | apply Trk.drewN | apply Trk.drew | exact Trk.nil _))); simp only [SameOn, World.size_alloc, World.size_setCell, World.size_drew, size_drewN', and_true] at hk; have hsz := Below.size hb; (try simp only [World.size_alloc, World.size_setCell, World.size_drew, size_drewN'] at hsz)) | (go_at_call 19; refine ((eqBar_any sR sR pR pR (.slice q03 XR.length c03) (.slice q01 XR.length c01) XR XR _ (HF2.out.later (by (repeat (first | (with_reducible exact Below.refl _ _) | (with_reducible assumption) | (with_reducible refine below_then ?_ (by assumption)) | (with_reducible refine Below.trans ?_ (by assumption)) | (with_reducible refine below_drewN ?_ _) | (with_reducible apply Below.drew) | (with_reducible refine below_alloc ?_ _) | refine Below.setCell ?_ (by first | (simp; done) | (simp; omega)) _)))) (HF1.out.later (by (repeat (first | (with_reducible exact Below.refl _ _) | (with_reducible assumption) | (with_reducible refine below_then ?_ (by assumption)) | (with_reducible refine Below.trans ?_ (by assumption)) | (with_reducible refine below_drewN ?_ _) | (with_reducible apply Below.drew) | (with_reducible refine below_alloc ?_ _) | refine Below.setCell ?_ (by first | (simp; done) | (simp; omega)) _)))) rfl rfl rfl) ).mono ?_; rintro e w' ⟨rfl, hb⟩; obtain ⟨hT, hk⟩ := bv_next hb (by (repeat (with_reducible first | assumption | apply Trk.alloc | apply Trk.setCell | apply Trk.drewN | apply Trk.drew | exact Trk.nil _))); simp only [SameOn, World.size_alloc, World.size_setCell, World.size_drew, size_drewN', and_true] at hk; have hsz := Below.size hb; (try simp only [World.size_alloc, World.size_setCell, World.size_drew, size_drewN'] at hsz)) | (go_at_call 31; refine ((eqF_any ys3 ys1 _ _ _ (HY2.out.later (by (repeat (first | (with_reducible exact Below.refl _ _) | (with_reducible assumption) | (with_reducible refine below_then ?_ (by assumption)) | (with_reducible refine Below.trans ?_ (by assumption)) | (with_reducible refine below_drewN ?_ _) | (with_reducible apply Below.drew) | (with_reducible refine below_alloc ?_ _) | refine Below.setCell ?_ (by first | (simp; done) | (simp; omega)) _)))) (HY1.out.later (by (repeat (first | (with_reducible exact Below.refl _ _) | (with_reducible assumption) | (with_reducible refine below_then ?_ (by assumption)) | (with_reducible refine Below.trans ?_ (by assumption)) | (with_reducible refine below_drewN ?_ _) | (with_reducible apply Below.drew) | (with_reducible refine below_alloc ?_ _) | refine Below.setCell ?_ (by first | (simp; done) | (simp; omega)) _)))) HEQ.out) ).mono ?_; rintro e w' ⟨rfl, hb⟩; obtain ⟨hT, hk⟩ := bv_next hb (by (repeat (with_reducible first | assumption | apply Trk.alloc | apply Trk.setCell | apply Trk.drewN | apply Trk.drew | exact Trk.nil _))); simp only [SameOn, World.size_alloc, World.size_setCell, World.size_drew, size_drewN', and_true] at hk; have hsz := Below.size hb; (try simp only [World.size_alloc, World.size_setCell, World.size_drew, size_drewN'] at hsz)) | (go_at_call 40; refine ((heldBar_any sR pR XR.length _ 1 _ (HFB.out.later (by (repeat (first | (with_reducible exact Below.refl _ _) | (with_reducible assumption) | (with_reducible refine below_then ?_ (by assumption)) | (with_reducible refine Below.trans ?_ (by assumption)) | (with_reducible refine below_drewN ?_ _) | (with_reducible apply Below.drew) | (with_reducible refine below_alloc ?_ _) | refine Below.setCell ?_ (by first | (simp; done) | (simp; omega)) _)))) (by omega) (by have := H3.out; omega)) ).mono ?_; rintro e w' ⟨rfl, hb⟩; obtain ⟨hT, hk⟩ := bv_next hb (by (repeat (with_reducible first | assumption | apply Trk.alloc | apply Trk.setCell | apply Trk.drewN | apply Trk.drew | exact Trk.nil _))); simp only [SameOn, World.size_alloc, World.size_setCell, World.size_drew, size_drewN', and_true] at hk; have hsz := Below.size hb; (try simp only [World.size_alloc, World.size_setCell, World.size_drew, size_drewN'] at hsz)) | (go_at_call 34; refine ((heldF_any LL.length _ (1 + XR.length) _ (HFM.out.later (by (repeat (first | (with_reducible exact Below.refl _ _) | (with_reducible assumption) | (with_reducible refine below_then ?_ (by assumption)) | (with_reducible refine Below.trans ?_ (by assumption)) | (with_reducible refine below_drewN ?_ _) | (with_reducible apply Below.drew) | (with_reducible refine below_alloc ?_ _) | refine Below.setCell ?_ (by first | (simp; done) | (simp; omega)) _)))) (by have := H3.out; omega) (by have h4 := H4.out; omega)) ).mono ?_; rintro e w' ⟨rfl, n, rfl⟩))
  all_goals (try (first | kernel_rfl | rfl))
  all_goals
    go_ret
    exact ⟨rfl, by (repeat (first | (with_reducible exact Below.refl _ _) | (with_reducible assumption) | (with_reducible refine below_then ?_ (by assumption)) | (with_reducible refine Below.trans ?_ (by assumption)) | (with_reducible refine below_drewN ?_ _) | (with_reducible apply Below.drew) | (with_reducible refine below_alloc ?_ _) | refine Below.setCell ?_ (by first | (simp; done) | (simp; omega)) _))⟩
set_option maxRecDepth 100000 in
set_option maxHeartbeats 2000000 in
theorem lifted_FnExactRunBar (os : Os) (started : os.Started) (H : Type) (enc : TypeId × Value → H) :
    ReturnsInHanded {} Try.checked os 12 .any (Rows.fnExactRunBarSpec.pre6 enc Try.prog Try.f12 Rows.fnExactRunBarRow.domain false) (Rows.fnExactRunBarSpec.post enc Try.prog Try.f12 false true false false) := by
  refine returnsInHanded_of_change (C := Try.checked) own started (by kernel_rfl) Try.func12
    (ChangeSpec.witness6 (enc := enc) (C := Try.checked) false ⟨#[], #[.agg #[.float .f32 0, .float .f32 0, .float .f32 0, .float .f32 0, .float .f32 0, .float .f32 0, .float .f32 0, .slice none 0 0], .float .f32 0, .float .f32 0, .bool false, .bool false, .float .f32 0, .int .i64 0], []⟩ 8 (by kernel_rfl) (by kernel_rfl) (by kernel_rfl) (by kernel_rfl)) ?_
  intro W base args ds gs before hval0 hW hcnd _
  have hval : ∀ (j : Nat) t v, Try.f12.params[j]? = some t → args[j]? = some v → Value.okWide Try.prog W .any base t v := hval0
  have hW' := hW
  obtain ⟨p, q, hA0, hV, rfl, hfz, hnd⟩ := hW
  have hA : DataW.TrodAll enc Try.prog W 0 (fun _ => true) true Try.f12.params.toList args.toList ds p := hA0
  rw [Try.params12] at hA hval
  obtain ⟨v0, vs0, d0, ds0, p0, q0, hargs, rfl, rfl, h0, r0⟩ := trodAll_cons hA
  obtain ⟨v1, vs1, d1, ds1, p1, q1, rfl, rfl, rfl, h1, r1⟩ := trodAll_cons r0
  obtain ⟨v2, vs2, d2, ds2, p2, q2, rfl, rfl, rfl, h2, r2⟩ := trodAll_cons r1
  obtain ⟨v3, vs3, d3, ds3, p3, q3, rfl, rfl, rfl, h3, r3⟩ := trodAll_cons r2
  obtain ⟨v4, vs4, d4, ds4, p4, q4, rfl, rfl, rfl, h4, r4⟩ := trodAll_cons r3
  obtain ⟨v5, vs5, d5, ds5, p5, q5, rfl, rfl, rfl, h5, r5⟩ := trodAll_cons r4
  obtain ⟨v6, vs6, d6, ds6, p6, q6, rfl, rfl, rfl, h6, r6⟩ := trodAll_cons r5
  obtain ⟨rfl, rfl, rfl⟩ := trodAll_nil r6
  obtain rfl : args = #[v0, v1, v2, v3, v4, v5, v6] := by cases args; simp_all
  obtain ⟨rfl, rfl⟩ := trodVars_none hV
  have k0 := h0
  have lt0 : ∀ x ∈ p0, x.block < W.heap.size := by obtain ⟨m, hm⟩ := k0; exact DataW.trod_lt m _ _ _ hm
  obtain ⟨s, p, v, xs, rfl, w0⟩ := open_Bar (hval 0 27 v0 rfl rfl) h0
  have k1 := h1
  have lt1 : ∀ x ∈ p1, x.block < W.heap.size := by obtain ⟨m, hm⟩ := k1; exact DataW.trod_lt m _ _ _ hm
  obtain ⟨l, rfl, rfl, rfl, w1⟩ := open_float Try.underlying22 (hval 1 22 v1 rfl rfl) h1
  have k2 := h2
  have lt2 : ∀ x ∈ p2, x.block < W.heap.size := by obtain ⟨m, hm⟩ := k2; exact DataW.trod_lt m _ _ _ hm
  obtain ⟨r, rfl, rfl, rfl, w2⟩ := open_float Try.underlying22 (hval 2 22 v2 rfl rfl) h2
  have k3 := h3
  have lt3 : ∀ x ∈ p3, x.block < W.heap.size := by obtain ⟨m, hm⟩ := k3; exact DataW.trod_lt m _ _ _ hm
  obtain ⟨b1, rfl, rfl, rfl⟩ := open_bool Try.underlying4 (hval 3 4 v3 rfl rfl) h3
  have k4 := h4
  have lt4 : ∀ x ∈ p4, x.block < W.heap.size := by obtain ⟨m, hm⟩ := k4; exact DataW.trod_lt m _ _ _ hm
  obtain ⟨b2, rfl, rfl, rfl⟩ := open_bool Try.underlying4 (hval 4 4 v4 rfl rfl) h4
  have k5 := h5
  have lt5 : ∀ x ∈ p5, x.block < W.heap.size := by obtain ⟨m, hm⟩ := k5; exact DataW.trod_lt m _ _ _ hm
  obtain ⟨t, rfl, rfl, rfl, w5⟩ := open_float Try.underlying22 (hval 5 22 v5 rfl rfl) h5
  have k6 := h6
  have lt6 : ∀ x ∈ p6, x.block < W.heap.size := by obtain ⟨m, hm⟩ := k6; exact DataW.trod_lt m _ _ _ hm
  obtain ⟨z, rfl, rfl, rfl, w6⟩ := open_int Try.underlying2 (hval 6 2 v6 rfl rfl) h6
  clear hA0 hval0
  refine (walk_FnExactRunBar s p v xs l r b1 b2 t z W w0 w1 w2 w5 w6).mono fun e W' ⟨he, hg⟩ => ?_
  subst he
  exact ⟨_, rfl, _, _, _, [], _, [], hW', trodAll_mk1 (shut_bool Try.underlying4 _), (trodAll_cons_mk (Below.trod laidOut (by kernel_rfl) (of_decide_eq_true (by kernel_rfl)) k0 hg lt0) (trodAll_cons_mk (Below.trod laidOut (by kernel_rfl) (of_decide_eq_true (by kernel_rfl)) k1 hg lt1) (trodAll_cons_mk (Below.trod laidOut (by kernel_rfl) (of_decide_eq_true (by kernel_rfl)) k2 hg lt2) (trodAll_cons_mk (Below.trod laidOut (by kernel_rfl) (of_decide_eq_true (by kernel_rfl)) k3 hg lt3) (trodAll_cons_mk (Below.trod laidOut (by kernel_rfl) (of_decide_eq_true (by kernel_rfl)) k4 hg lt4) (trodAll_cons_mk (Below.trod laidOut (by kernel_rfl) (of_decide_eq_true (by kernel_rfl)) k5 hg lt5) (trodAll_cons_mk (Below.trod laidOut (by kernel_rfl) (of_decide_eq_true (by kernel_rfl)) k6 hg lt6) trodAll_mk0))))))), rfl, hg.frame _, fun h => by cases h⟩
theorem fnExactRunBar_holds : Rows.FnExactRunBarSaid :=
  OpenClaim.holds_of_wide 12 Try.f12 rfl rfl rfl rfl rfl rfl rfl ⟨rfl, rfl, rfl, rfl, rfl⟩ rfl rfl rfl rfl rfl (by kernel_rfl) Try.func12 (by kernel_rfl)
    (of_decide_eq_true (by kernel_rfl)) (by unfold Func.isWrapper; rw [if_neg (of_decide_eq_false (by kernel_rfl))]; exact ⟨rfl, rfl⟩)
    (fun os started H enc _ => lifted_FnExactRunBar os started H enc)
end Go.Proofs.Ytjeeflldbhajiaa

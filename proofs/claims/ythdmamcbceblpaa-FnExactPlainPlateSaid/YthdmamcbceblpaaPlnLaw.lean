/-
  The law on a plain plate: true for every input. No condition.
-/
import Derived.Test.YthdmamcbceblpaaPlnR
import Derived.Test.YthdmamcbceblpaaPlnI
set_option linter.unusedSimpArgs false
set_option linter.unusedVariables false
set_option linter.unusedSectionVars false
namespace Go.Proofs.Ythdmamcbceblpaa
open Go Go.RowKit
open Go.ChangeShapes Go.WideShapes Go.ChangeAt Go.RowKit Go.Joins
theorem plain_size (W H : Int) (t p : Nat) : (okP (plB W H t p) (plainPl W H t p (W * H).toNat)).size ≤ 1048576 := by
  cases h : plB W H t p
  · rw [okP_no rfl]; decide
  · rw [okP_yes rfl]
    unfold plB at h
    simp only [Bool.and_eq_true] at h
    have := side_mul h.1 h.2.1
    simp [Pl.size, plainPl]
    omega
set_option maxHeartbeats 8000000 in
set_option maxRecDepth 100000 in
theorem walk_FnExactPlainPlate (W H : Int) (t p : Nat) (_ : (Lit.int .i64 W).wf = true) (_ : (Lit.int .i64 H).wf = true) (_ : (Lit.float .f32 t).wf = true) (_ : (Lit.float .f32 p).wf = true) (w : World) : Calls Try.prog 8 #[.int .i64 W, .int .i64 H, .float .f32 t, .float .f32 p] w (BV w (.bool true)) := by
  obtain ⟨R, b0, h1, h2, h3⟩ : ∃ R b0, (∀ w, Calls Try.prog 29 #[.int .i64 W, .int .i64 H, .float .f32 t, .float .f32 p] w (BPB w R b0)) ∧ (∀ w, Calls Try.prog 30 #[.int .i64 W, .int .i64 H, .float .f32 t, .float .f32 p] w (BPB w R b0)) ∧ R.size ≤ 1048576 := ⟨_, _, specPlain_any W H t p, implPlain_any W H t p, plain_size W H t p⟩
  have H1 := Lib.hid h1
  have H2 := Lib.hid h2
  have H3 := Lib.hid h3
  have HM1 : Hid (¬ R.sum 1 < 0 ∧ 0 ≤ R.sum 1) := by unfold Pl.sum; exact ⟨by omega, by omega⟩
  obtain ⟨hm2, hm3⟩ := HM1.out
  clear h1 h2 h3
  go_enter Try.func8, Try.ntmps8
  go_wp2_with (first | (with_reducible refine at_list ?_; refine wpList_fop rfl rfl rfl rfl rfl ?_; intro r n hr0; have hr := hr0 _ _ (by first | with_reducible assumption | exact rfl) (by first | with_reducible assumption | exact rfl); clear hr0) | (with_reducible refine at_list ?_; refine wpList_neg rfl rfl rfl ?_; intro r hr0; have hr := hr0 _ (by first | with_reducible assumption | exact rfl); clear hr0) | (with_reducible refine at_list ?_; refine wpList_fop_g rfl rfl rfl rfl rfl ?_; intro r n hr0; have hr := hr0 _ _ (by first | with_reducible assumption | exact rfl) (by first | with_reducible assumption | exact rfl); clear hr0) | (with_reducible refine at_list ?_; refine wpList_wide_g rfl rfl Try.underlying33 Try.underlying37 rfl ?_; intro r n hr0; have hr := hr0 _ (by first | with_reducible assumption | exact rfl); clear hr0) | (with_reducible refine at_list ?_; refine wpList_wide rfl rfl rfl Try.underlying33 Try.underlying37 ?_; intro r n hr0; have hr := hr0 _ (by first | with_reducible assumption | exact rfl); clear hr0) | (go_at_call 29; refine stop_here ?_) | (go_at_call 19; refine (eqPlate_any _ _ _ _ _ (by assumption) (by assumption) (by assumption)).mono ?_; rintro e w' ⟨rfl, hb⟩; obtain ⟨hT, hk⟩ := bv_next hb (by (repeat (with_reducible first | assumption | apply Trk.alloc | apply Trk.setCell | apply Trk.drewN | apply Trk.drew | exact Trk.nil _))); simp only [SameOn, World.size_alloc, World.size_setCell, World.size_drew, size_drewN', and_true] at hk; have hsz := Below.size hb; (try simp only [World.size_alloc, World.size_setCell, World.size_drew, size_drewN'] at hsz)))
  unfold Stop
  refine (H1.out _).mono ?_
  rintro e w' ⟨l1, rfl, hb, hX1⟩
  try simp only [World.size_alloc, World.size_setCell, World.size_drew, size_drewN'] at hX1
  obtain ⟨hT, hk⟩ := bv_next hb (by (repeat (with_reducible first | assumption | apply Trk.alloc | apply Trk.setCell | apply Trk.drewN | apply Trk.drew | exact Trk.nil _))); simp only [SameOn, World.size_alloc, World.size_setCell, World.size_drew, size_drewN', and_true] at hk; have hsz := Below.size hb; (try simp only [World.size_alloc, World.size_setCell, World.size_drew, size_drewN'] at hsz)
  go_wp2_with (first | (with_reducible refine at_list ?_; refine wpList_fop rfl rfl rfl rfl rfl ?_; intro r n hr0; have hr := hr0 _ _ (by first | with_reducible assumption | exact rfl) (by first | with_reducible assumption | exact rfl); clear hr0) | (with_reducible refine at_list ?_; refine wpList_neg rfl rfl rfl ?_; intro r hr0; have hr := hr0 _ (by first | with_reducible assumption | exact rfl); clear hr0) | (with_reducible refine at_list ?_; refine wpList_fop_g rfl rfl rfl rfl rfl ?_; intro r n hr0; have hr := hr0 _ _ (by first | with_reducible assumption | exact rfl) (by first | with_reducible assumption | exact rfl); clear hr0) | (with_reducible refine at_list ?_; refine wpList_wide_g rfl rfl Try.underlying33 Try.underlying37 rfl ?_; intro r n hr0; have hr := hr0 _ (by first | with_reducible assumption | exact rfl); clear hr0) | (with_reducible refine at_list ?_; refine wpList_wide rfl rfl rfl Try.underlying33 Try.underlying37 ?_; intro r n hr0; have hr := hr0 _ (by first | with_reducible assumption | exact rfl); clear hr0) | (go_at_call 30; refine stop_here ?_) | (go_at_call 19; refine (eqPlate_any _ _ _ _ _ (by assumption) (by assumption) (by assumption)).mono ?_; rintro e w' ⟨rfl, hb⟩; obtain ⟨hT, hk⟩ := bv_next hb (by (repeat (with_reducible first | assumption | apply Trk.alloc | apply Trk.setCell | apply Trk.drewN | apply Trk.drew | exact Trk.nil _))); simp only [SameOn, World.size_alloc, World.size_setCell, World.size_drew, size_drewN', and_true] at hk; have hsz := Below.size hb; (try simp only [World.size_alloc, World.size_setCell, World.size_drew, size_drewN'] at hsz)))
  unfold Stop
  refine (H2.out _).mono ?_
  rintro e w' ⟨l2, rfl, hb, hX2⟩
  try simp only [World.size_alloc, World.size_setCell, World.size_drew, size_drewN'] at hX2
  obtain ⟨hT, hk⟩ := bv_next hb (by (repeat (with_reducible first | assumption | apply Trk.alloc | apply Trk.setCell | apply Trk.drewN | apply Trk.drew | exact Trk.nil _))); simp only [SameOn, World.size_alloc, World.size_setCell, World.size_drew, size_drewN', and_true] at hk; have hsz := Below.size hb; (try simp only [World.size_alloc, World.size_setCell, World.size_drew, size_drewN'] at hsz)
  go_wp2_with (first | (with_reducible refine at_list ?_; refine wpList_fop rfl rfl rfl rfl rfl ?_; intro r n hr0; have hr := hr0 _ _ (by first | with_reducible assumption | exact rfl) (by first | with_reducible assumption | exact rfl); clear hr0) | (with_reducible refine at_list ?_; refine wpList_neg rfl rfl rfl ?_; intro r hr0; have hr := hr0 _ (by first | with_reducible assumption | exact rfl); clear hr0) | (with_reducible refine at_list ?_; refine wpList_fop_g rfl rfl rfl rfl rfl ?_; intro r n hr0; have hr := hr0 _ _ (by first | with_reducible assumption | exact rfl) (by first | with_reducible assumption | exact rfl); clear hr0) | (with_reducible refine at_list ?_; refine wpList_wide_g rfl rfl Try.underlying33 Try.underlying37 rfl ?_; intro r n hr0; have hr := hr0 _ (by first | with_reducible assumption | exact rfl); clear hr0) | (with_reducible refine at_list ?_; refine wpList_wide rfl rfl rfl Try.underlying33 Try.underlying37 ?_; intro r n hr0; have hr := hr0 _ (by first | with_reducible assumption | exact rfl); clear hr0) | (go_at_call 30; refine stop_here ?_) | (go_at_call 19; refine ((eqPlate_any R R l2 l1 _ (PX.fs (by (repeat' (first | (with_reducible assumption) | (with_reducible apply PX.setCell) | (with_reducible apply PX.alloc) | (with_reducible apply PX.later; rotate_left; with_reducible assumption) | (with_reducible apply PX.turn; rotate_left; with_reducible assumption) | (with_reducible apply PX.drewN))) <;> (first | omega | (simp; done) | (simp; omega)))) (PX.fs (by (repeat' (first | (with_reducible assumption) | (with_reducible apply PX.setCell) | (with_reducible apply PX.alloc) | (with_reducible apply PX.later; rotate_left; with_reducible assumption) | (with_reducible apply PX.turn; rotate_left; with_reducible assumption) | (with_reducible apply PX.drewN))) <;> (first | omega | (simp; done) | (simp; omega)))) ⟨rfl, rfl, rfl, rfl, rfl, rfl⟩) ).mono ?_; rintro e w' ⟨rfl, hb⟩; obtain ⟨hT, hk⟩ := bv_next hb (by (repeat (with_reducible first | assumption | apply Trk.alloc | apply Trk.setCell | apply Trk.drewN | apply Trk.drew | exact Trk.nil _))); simp only [SameOn, World.size_alloc, World.size_setCell, World.size_drew, size_drewN', and_true] at hk; have hsz := Below.size hb; (try simp only [World.size_alloc, World.size_setCell, World.size_drew, size_drewN'] at hsz)) | (go_at_call 31; refine ((markPlate_any _ _ R l2 1 _ (by (repeat' (first | (with_reducible assumption) | (with_reducible apply PX.setCell) | (with_reducible apply PX.alloc) | (with_reducible apply PX.later; rotate_left; with_reducible assumption) | (with_reducible apply PX.turn; rotate_left; with_reducible assumption) | (with_reducible apply PX.drewN))) <;> (first | omega | (simp; done) | (simp; omega))) (by omega) (by omega) H3.out) ).mono ?_; rintro e w' ⟨rfl, hg, hgs, hX⟩; have hg' := Lib.hid hg; have hX' := Lib.hid hX; clear hX; obtain ⟨hT, hk⟩ := turn_track hg (by (repeat (with_reducible first | assumption | apply Trk.alloc | apply Trk.setCell | apply Trk.drewN | apply Trk.drew | exact Trk.nil _))) (by simp only [List.forall_mem_cons, List.not_mem_nil, false_implies, implies_true, and_true, World.size_alloc, World.size_setCell, World.size_drew, size_drewN']; omega); have hbm := turn_below (n := w.heap.size) hg (by omega) (by first | omega | (simp only [World.size_alloc, World.size_setCell, World.size_drew, size_drewN']; omega)); simp only [SameOn, World.size_alloc, World.size_setCell, World.size_drew, size_drewN', and_true] at hk; (try simp only [World.size_alloc, World.size_setCell, World.size_drew, size_drewN'] at hgs); clear hg; have hg := hg'.out; have hX := hX'.out; clear hg' hX') | (go_at_call 32; refine ((heldPlate_any _ _ R l2 1 _ (by (repeat' (first | (with_reducible assumption) | (with_reducible apply PX.setCell) | (with_reducible apply PX.alloc) | (with_reducible apply PX.later; rotate_left; with_reducible assumption) | (with_reducible apply PX.turn; rotate_left; with_reducible assumption) | (with_reducible apply PX.drewN))) <;> (first | omega | (simp; done) | (simp; omega))) (by omega) H3.out) ).mono ?_; rintro e w' ⟨rfl, hb⟩; obtain ⟨hT, hk⟩ := bv_next hb (by (repeat (with_reducible first | assumption | apply Trk.alloc | apply Trk.setCell | apply Trk.drewN | apply Trk.drew | exact Trk.nil _))); simp only [SameOn, World.size_alloc, World.size_setCell, World.size_drew, size_drewN', and_true] at hk; have hsz := Below.size hb; (try simp only [World.size_alloc, World.size_setCell, World.size_drew, size_drewN'] at hsz)))
  unfold Stop
  refine (H2.out _).mono ?_
  rintro e w' ⟨l3, rfl, hb, hX3⟩
  try simp only [World.size_alloc, World.size_setCell, World.size_drew, size_drewN'] at hX3
  obtain ⟨hT, hk⟩ := bv_next hb (by (repeat (with_reducible first | assumption | apply Trk.alloc | apply Trk.setCell | apply Trk.drewN | apply Trk.drew | exact Trk.nil _))); simp only [SameOn, World.size_alloc, World.size_setCell, World.size_drew, size_drewN', and_true] at hk; have hsz := Below.size hb; (try simp only [World.size_alloc, World.size_setCell, World.size_drew, size_drewN'] at hsz)
  go_wp2_with (first | (with_reducible refine at_list ?_; refine wpList_fop rfl rfl rfl rfl rfl ?_; intro r n hr0; have hr := hr0 _ _ (by first | with_reducible assumption | exact rfl) (by first | with_reducible assumption | exact rfl); clear hr0) | (with_reducible refine at_list ?_; refine wpList_neg rfl rfl rfl ?_; intro r hr0; have hr := hr0 _ (by first | with_reducible assumption | exact rfl); clear hr0) | (with_reducible refine at_list ?_; refine wpList_fop_g rfl rfl rfl rfl rfl ?_; intro r n hr0; have hr := hr0 _ _ (by first | with_reducible assumption | exact rfl) (by first | with_reducible assumption | exact rfl); clear hr0) | (with_reducible refine at_list ?_; refine wpList_wide_g rfl rfl Try.underlying33 Try.underlying37 rfl ?_; intro r n hr0; have hr := hr0 _ (by first | with_reducible assumption | exact rfl); clear hr0) | (with_reducible refine at_list ?_; refine wpList_wide rfl rfl rfl Try.underlying33 Try.underlying37 ?_; intro r n hr0; have hr := hr0 _ (by first | with_reducible assumption | exact rfl); clear hr0) | (go_at_call 19; refine ((eqPlate_any R R l3 l1 _ (PX.fs (by (repeat' (first | (with_reducible assumption) | (with_reducible apply PX.setCell) | (with_reducible apply PX.alloc) | (with_reducible apply PX.later; rotate_left; with_reducible assumption) | (with_reducible apply PX.turn; rotate_left; with_reducible assumption) | (with_reducible apply PX.drewN))) <;> (first | omega | (simp; done) | (simp; omega)))) (PX.fs (by (repeat' (first | (with_reducible assumption) | (with_reducible apply PX.setCell) | (with_reducible apply PX.alloc) | (with_reducible apply PX.later; rotate_left; with_reducible assumption) | (with_reducible apply PX.turn; rotate_left; with_reducible assumption) | (with_reducible apply PX.drewN))) <;> (first | omega | (simp; done) | (simp; omega)))) ⟨rfl, rfl, rfl, rfl, rfl, rfl⟩) ).mono ?_; rintro e w' ⟨rfl, hb⟩; obtain ⟨hT, hk⟩ := bv_next hb (by (repeat (with_reducible first | assumption | apply Trk.alloc | apply Trk.setCell | apply Trk.drewN | apply Trk.drew | exact Trk.nil _))); simp only [SameOn, World.size_alloc, World.size_setCell, World.size_drew, size_drewN', and_true] at hk; have hsz := Below.size hb; (try simp only [World.size_alloc, World.size_setCell, World.size_drew, size_drewN'] at hsz)) | (go_at_call 32; refine ((heldPlate_any _ _ R l2 1 _ (by (repeat' (first | (with_reducible assumption) | (with_reducible apply PX.setCell) | (with_reducible apply PX.alloc) | (with_reducible apply PX.later; rotate_left; with_reducible assumption) | (with_reducible apply PX.turn; rotate_left; with_reducible assumption) | (with_reducible apply PX.drewN))) <;> (first | omega | (simp; done) | (simp; omega))) (by omega) H3.out) ).mono ?_; rintro e w' ⟨rfl, hb⟩; obtain ⟨hT, hk⟩ := bv_next hb (by (repeat (with_reducible first | assumption | apply Trk.alloc | apply Trk.setCell | apply Trk.drewN | apply Trk.drew | exact Trk.nil _))); simp only [SameOn, World.size_alloc, World.size_setCell, World.size_drew, size_drewN', and_true] at hk; have hsz := Below.size hb; (try simp only [World.size_alloc, World.size_setCell, World.size_drew, size_drewN'] at hsz)))
  all_goals
    go_ret
    exact ⟨rfl, by (repeat (first | (with_reducible exact Below.refl _ _) | (with_reducible assumption) | (with_reducible refine below_then ?_ (by assumption)) | (with_reducible refine Below.trans ?_ (by assumption)) | (with_reducible refine below_drewN ?_ _) | (with_reducible apply Below.drew) | (with_reducible refine below_alloc ?_ _) | refine Below.setCell ?_ (by first | (simp; done) | (simp; omega)) _))⟩
set_option maxRecDepth 100000 in
set_option maxHeartbeats 2000000 in
theorem lifted_FnExactPlainPlate (os : Os) (started : os.Started) (H : Type) (enc : TypeId × Value → H) :
    ReturnsInHanded {} Try.checked os 8 .any (Rows.fnExactPlainPlateSpec.pre6 enc Try.prog Try.f8 Rows.fnExactPlainPlateRow.domain false) (Rows.fnExactPlainPlateSpec.post enc Try.prog Try.f8 false true false false) := by
  refine returnsInHanded_of_change (C := Try.checked) own started (by kernel_rfl) Try.func8
    (ChangeSpec.witness6 (enc := enc) (C := Try.checked) false ⟨#[], #[.int .i64 0, .int .i64 0, .float .f32 0, .float .f32 0], []⟩ 8 (by kernel_rfl) (by kernel_rfl) (by kernel_rfl) (by kernel_rfl)) ?_
  intro W base args ds gs before hval0 hW hcnd _
  have hval : ∀ (j : Nat) t v, Try.f8.params[j]? = some t → args[j]? = some v → Value.okWide Try.prog W .any base t v := hval0
  have hW' := hW
  obtain ⟨p, q, hA0, hV, rfl, hfz, hnd⟩ := hW
  have hA : DataW.TrodAll enc Try.prog W 0 (fun _ => true) true Try.f8.params.toList args.toList ds p := hA0
  rw [Try.params8] at hA hval
  obtain ⟨v0, vs0, d0, ds0, p0, q0, hargs, rfl, rfl, h0, r0⟩ := trodAll_cons hA
  obtain ⟨v1, vs1, d1, ds1, p1, q1, rfl, rfl, rfl, h1, r1⟩ := trodAll_cons r0
  obtain ⟨v2, vs2, d2, ds2, p2, q2, rfl, rfl, rfl, h2, r2⟩ := trodAll_cons r1
  obtain ⟨v3, vs3, d3, ds3, p3, q3, rfl, rfl, rfl, h3, r3⟩ := trodAll_cons r2
  obtain ⟨rfl, rfl, rfl⟩ := trodAll_nil r3
  obtain rfl : args = #[v0, v1, v2, v3] := by cases args; simp_all
  obtain ⟨rfl, rfl⟩ := trodVars_none hV
  have k0 := h0
  have lt0 : ∀ x ∈ p0, x.block < W.heap.size := by obtain ⟨m, hm⟩ := k0; exact DataW.trod_lt m _ _ _ hm
  obtain ⟨n1, rfl, rfl, rfl, w0⟩ := open_int Try.underlying2 (hval 0 2 v0 rfl rfl) h0
  have k1 := h1
  have lt1 : ∀ x ∈ p1, x.block < W.heap.size := by obtain ⟨m, hm⟩ := k1; exact DataW.trod_lt m _ _ _ hm
  obtain ⟨n2, rfl, rfl, rfl, w1⟩ := open_int Try.underlying2 (hval 1 2 v1 rfl rfl) h1
  have k2 := h2
  have lt2 : ∀ x ∈ p2, x.block < W.heap.size := by obtain ⟨m, hm⟩ := k2; exact DataW.trod_lt m _ _ _ hm
  obtain ⟨t, rfl, rfl, rfl, w2⟩ := open_float Try.underlying33 (hval 2 33 v2 rfl rfl) h2
  have k3 := h3
  have lt3 : ∀ x ∈ p3, x.block < W.heap.size := by obtain ⟨m, hm⟩ := k3; exact DataW.trod_lt m _ _ _ hm
  obtain ⟨p, rfl, rfl, rfl, w3⟩ := open_float Try.underlying33 (hval 3 33 v3 rfl rfl) h3
  clear hA0 hval0
  refine (walk_FnExactPlainPlate n1 n2 t p w0 w1 w2 w3 W).mono fun e W' ⟨he, hg⟩ => ?_
  subst he
  exact ⟨_, rfl, _, _, _, [], _, [], hW', trodAll_mk1 (shut_bool Try.underlying4 _), (trodAll_cons_mk (Below.trod laidOut (by kernel_rfl) (of_decide_eq_true (by kernel_rfl)) k0 hg lt0) (trodAll_cons_mk (Below.trod laidOut (by kernel_rfl) (of_decide_eq_true (by kernel_rfl)) k1 hg lt1) (trodAll_cons_mk (Below.trod laidOut (by kernel_rfl) (of_decide_eq_true (by kernel_rfl)) k2 hg lt2) (trodAll_cons_mk (Below.trod laidOut (by kernel_rfl) (of_decide_eq_true (by kernel_rfl)) k3 hg lt3) trodAll_mk0)))), rfl, hg.frame _, fun h => by cases h⟩
theorem fnExactPlainPlate_holds : Rows.FnExactPlainPlateSaid :=
  OpenClaim.holds_of_wide 8 Try.f8 rfl rfl rfl rfl rfl rfl rfl ⟨rfl, rfl, rfl, rfl, rfl⟩ rfl rfl rfl rfl rfl (by kernel_rfl) Try.func8 (by kernel_rfl)
    (of_decide_eq_true (by kernel_rfl)) (by unfold Func.isWrapper; rw [if_neg (of_decide_eq_false (by kernel_rfl))]; exact ⟨rfl, rfl⟩)
    (fun os started H enc _ => lifted_FnExactPlainPlate os started H enc)
end Go.Proofs.Ythdmamcbceblpaa

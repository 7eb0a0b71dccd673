/-
  The law on rods: heat is kept in rods with shut ends, nearly, even warmth stays even, and rods that are joined or turned have what their parts have, nearly: true for every input. No condition.
-/
import Derived.Test.YtpnkapdemgieaaaRM14
import Derived.Deep.CutRange
set_option linter.unusedSimpArgs false
set_option linter.unusedVariables false
set_option linter.unusedSectionVars false
namespace Go.Proofs.Ytpnkapdemgieaaa
open Go Go.RowKit
open Go.ChangeShapes Go.WideShapes Go.ChangeAt Go.RowKit Go.Joins
set_option maxHeartbeats 16000000 in
set_option maxRecDepth 100000 in
theorem walk_FnRods (pa : Option Addr) (na ca : Nat) (pb : Option Addr) (nb cb : Nat) (w : World) (hp : BY w.heap.size w pa na ca) (hq : BY w.heap.size w pb nb cb) : Calls Try.prog 4 #[.slice pa na ca, .slice pb nb cb] w (BV w (.bool true)) := by
  have HP := Lib.hid hp
  have HQ := Lib.hid hq
  clear hp hq
  by_cases hlong : 48 < na ∨ 48 < nb
  · have HL := Lib.hid (fun w => (show Calls Try.prog 6 #[.slice pa na ca, .slice pb nb cb] w (RB w true) from (show (decide (48 < na) || decide (48 < nb)) = true by simpa using hlong) ▸ r8Long_any pa pb na ca nb cb w))
    go_enter Try.func4, Try.ntmps4
    go_wp2_with (first | (with_reducible refine at_list ?_; refine wpList_fop rfl rfl rfl rfl rfl ?_; intro r n hr0; have hr := hr0 _ _ (by first | with_reducible assumption | exact rfl) (by first | with_reducible assumption | exact rfl); clear hr0) | (with_reducible refine at_list ?_; refine wpList_neg rfl rfl rfl ?_; intro r hr0; have hr := hr0 _ (by first | with_reducible assumption | exact rfl); clear hr0) | (with_reducible refine at_list ?_; refine wpList_fop_g rfl rfl rfl rfl rfl ?_; intro r n hr0; have hr := hr0 _ _ (by first | with_reducible assumption | exact rfl) (by first | with_reducible assumption | exact rfl); clear hr0) | (with_reducible refine at_list ?_; refine wpList_wide_g rfl rfl Try.underlying28 Try.underlying39 rfl ?_; intro r n hr0; have hr := hr0 _ (by first | with_reducible assumption | exact rfl); clear hr0) | (with_reducible refine at_list ?_; refine wpList_wide rfl rfl rfl Try.underlying28 Try.underlying39 ?_; intro r n hr0; have hr := hr0 _ (by first | with_reducible assumption | exact rfl); clear hr0) | (go_at_call 6; refine ((HL.out _) ).mono ?_; rintro e w' ⟨rfl, n, rfl⟩) | (go_at_call 18; refine (implHeatOf_any _ _ _ (by assumption)).mono ?_; rintro e w' ⟨r, rfl, hr, hb⟩; obtain ⟨hT, hk⟩ := bv_next hb (by (repeat (with_reducible first | assumption | apply Trk.alloc | apply Trk.setCell | apply Trk.drewN | apply Trk.drew | exact Trk.nil _))); simp only [SameOn, World.size_alloc, World.size_setCell, World.size_drew, size_drewN', and_true] at hk; have hsz := Below.size hb; (try simp only [World.size_alloc, World.size_setCell, World.size_drew, size_drewN'] at hsz)) | (go_at_call 19; refine (implMeanOf_any _ _ _ (by assumption)).mono ?_; rintro e w' ⟨r, rfl, hr, hb⟩; obtain ⟨hT, hk⟩ := bv_next hb (by (repeat (with_reducible first | assumption | apply Trk.alloc | apply Trk.setCell | apply Trk.drewN | apply Trk.drew | exact Trk.nil _))); simp only [SameOn, World.size_alloc, World.size_setCell, World.size_drew, size_drewN', and_true] at hk; have hsz := Below.size hb; (try simp only [World.size_alloc, World.size_setCell, World.size_drew, size_drewN'] at hsz)) | (go_at_call 13; refine (r8Gap_any _ _ _ (by assumption)).mono ?_; rintro e w' ⟨r, rfl, hr, n, rfl⟩) | (go_at_call 11; refine (implFlowsR_any _ _ _ _ _ (by assumption)).mono ?_; rintro e w' ⟨u, ys, rfl, hb, hO, hL⟩; obtain ⟨pu, cu, rfl⟩ := OF.shape hO; (try simp only [World.size_alloc, World.size_setCell, World.size_drew, World.drewN] at hO); obtain ⟨hT, hk⟩ := bv_next hb (by (repeat (with_reducible first | assumption | apply Trk.alloc | apply Trk.setCell | apply Trk.drewN | apply Trk.drew | exact Trk.nil _))); simp only [SameOn, World.size_alloc, World.size_setCell, World.size_drew, size_drewN', and_true] at hk; have hsz := Below.size hb; (try simp only [World.size_alloc, World.size_setCell, World.size_drew, size_drewN'] at hsz)) | (go_at_call 25; refine (implHinder_any _ _ _ (by assumption)).mono ?_; rintro e w' ⟨r, rfl, hr, hb⟩; obtain ⟨hT, hk⟩ := bv_next hb (by (repeat (with_reducible first | assumption | apply Trk.alloc | apply Trk.setCell | apply Trk.drewN | apply Trk.drew | exact Trk.nil _))); simp only [SameOn, World.size_alloc, World.size_setCell, World.size_drew, size_drewN', and_true] at hk; have hsz := Below.size hb; (try simp only [World.size_alloc, World.size_setCell, World.size_drew, size_drewN'] at hsz)) | (go_at_call 26; refine (implLong_any _ _ _ (by assumption)).mono ?_; rintro e w' ⟨r, rfl, hr, hb⟩; obtain ⟨hT, hk⟩ := bv_next hb (by (repeat (with_reducible first | assumption | apply Trk.alloc | apply Trk.setCell | apply Trk.drewN | apply Trk.drew | exact Trk.nil _))); simp only [SameOn, World.size_alloc, World.size_setCell, World.size_drew, size_drewN', and_true] at hk; have hsz := Below.size hb; (try simp only [World.size_alloc, World.size_setCell, World.size_drew, size_drewN'] at hsz)))
    go_ret
    exact ⟨rfl, by (repeat (first | (with_reducible exact Below.refl _ _) | (with_reducible assumption) | (with_reducible refine below_then ?_ (by assumption)) | (with_reducible refine Below.trans ?_ (by assumption)) | (with_reducible refine below_drewN ?_ _) | (with_reducible apply Below.drew) | (with_reducible refine below_alloc ?_ _) | refine Below.setCell ?_ (by first | (simp; done) | (simp; omega)) _))⟩
  have HL := Lib.hid (fun w => (show Calls Try.prog 6 #[.slice pa na ca, .slice pb nb cb] w (RB w false) from (show (decide (48 < na) || decide (48 < nb)) = false by simp; omega) ▸ r8Long_any pa pb na ca nb cb w))
  have hn1 : na ≤ 1048576 := by omega
  clear hlong
  go_enter Try.func4, Try.ntmps4
  go_wp2_with (first | (with_reducible refine at_list ?_; refine wpList_fop rfl rfl rfl rfl rfl ?_; intro r n hr0; have hr := hr0 _ _ (by first | with_reducible assumption | exact rfl) (by first | with_reducible assumption | exact rfl); clear hr0) | (with_reducible refine at_list ?_; refine wpList_neg rfl rfl rfl ?_; intro r hr0; have hr := hr0 _ (by first | with_reducible assumption | exact rfl); clear hr0) | (with_reducible refine at_list ?_; refine wpList_fop_g rfl rfl rfl rfl rfl ?_; intro r n hr0; have hr := hr0 _ _ (by first | with_reducible assumption | exact rfl) (by first | with_reducible assumption | exact rfl); clear hr0) | (with_reducible refine at_list ?_; refine wpList_wide_g rfl rfl Try.underlying28 Try.underlying39 rfl ?_; intro r n hr0; have hr := hr0 _ (by first | with_reducible assumption | exact rfl); clear hr0) | (with_reducible refine at_list ?_; refine wpList_wide rfl rfl rfl Try.underlying28 Try.underlying39 ?_; intro r n hr0; have hr := hr0 _ (by first | with_reducible assumption | exact rfl); clear hr0) | (go_at_call 7; refine stop_here ?_) | (go_at_call 6; refine ((HL.out _) ).mono ?_; rintro e w' ⟨rfl, n, rfl⟩) | (go_at_call 18; refine (implHeatOf_any _ _ _ (by assumption)).mono ?_; rintro e w' ⟨r, rfl, hr, hb⟩; obtain ⟨hT, hk⟩ := bv_next hb (by (repeat (with_reducible first | assumption | apply Trk.alloc | apply Trk.setCell | apply Trk.drewN | apply Trk.drew | exact Trk.nil _))); simp only [SameOn, World.size_alloc, World.size_setCell, World.size_drew, size_drewN', and_true] at hk; have hsz := Below.size hb; (try simp only [World.size_alloc, World.size_setCell, World.size_drew, size_drewN'] at hsz)) | (go_at_call 19; refine (implMeanOf_any _ _ _ (by assumption)).mono ?_; rintro e w' ⟨r, rfl, hr, hb⟩; obtain ⟨hT, hk⟩ := bv_next hb (by (repeat (with_reducible first | assumption | apply Trk.alloc | apply Trk.setCell | apply Trk.drewN | apply Trk.drew | exact Trk.nil _))); simp only [SameOn, World.size_alloc, World.size_setCell, World.size_drew, size_drewN', and_true] at hk; have hsz := Below.size hb; (try simp only [World.size_alloc, World.size_setCell, World.size_drew, size_drewN'] at hsz)) | (go_at_call 13; refine (r8Gap_any _ _ _ (by assumption)).mono ?_; rintro e w' ⟨r, rfl, hr, n, rfl⟩) | (go_at_call 11; refine (implFlowsR_any _ _ _ _ _ (by assumption)).mono ?_; rintro e w' ⟨u, ys, rfl, hb, hO, hL⟩; obtain ⟨pu, cu, rfl⟩ := OF.shape hO; (try simp only [World.size_alloc, World.size_setCell, World.size_drew, World.drewN] at hO); obtain ⟨hT, hk⟩ := bv_next hb (by (repeat (with_reducible first | assumption | apply Trk.alloc | apply Trk.setCell | apply Trk.drewN | apply Trk.drew | exact Trk.nil _))); simp only [SameOn, World.size_alloc, World.size_setCell, World.size_drew, size_drewN', and_true] at hk; have hsz := Below.size hb; (try simp only [World.size_alloc, World.size_setCell, World.size_drew, size_drewN'] at hsz)) | (go_at_call 25; refine (implHinder_any _ _ _ (by assumption)).mono ?_; rintro e w' ⟨r, rfl, hr, hb⟩; obtain ⟨hT, hk⟩ := bv_next hb (by (repeat (with_reducible first | assumption | apply Trk.alloc | apply Trk.setCell | apply Trk.drewN | apply Trk.drew | exact Trk.nil _))); simp only [SameOn, World.size_alloc, World.size_setCell, World.size_drew, size_drewN', and_true] at hk; have hsz := Below.size hb; (try simp only [World.size_alloc, World.size_setCell, World.size_drew, size_drewN'] at hsz)) | (go_at_call 26; refine (implLong_any _ _ _ (by assumption)).mono ?_; rintro e w' ⟨r, rfl, hr, hb⟩; obtain ⟨hT, hk⟩ := bv_next hb (by (repeat (with_reducible first | assumption | apply Trk.alloc | apply Trk.setCell | apply Trk.drewN | apply Trk.drew | exact Trk.nil _))); simp only [SameOn, World.size_alloc, World.size_setCell, World.size_drew, size_drewN', and_true] at hk; have hsz := Below.size hb; (try simp only [World.size_alloc, World.size_setCell, World.size_drew, size_drewN'] at hsz)))
  unfold Stop
  refine calls_named ?_
  intro w0 hw0
  have HW0 : Hid (Below w.heap.size w w0) := by show Below _ _ _; rw [hw0]; (repeat (first | (with_reducible exact Below.refl _ _) | (with_reducible assumption) | (with_reducible refine below_then ?_ (by assumption)) | (with_reducible refine Below.trans ?_ (by assumption)) | (with_reducible refine below_drewN ?_ _) | (with_reducible apply Below.drew) | (with_reducible refine below_alloc ?_ _) | refine Below.setCell ?_ (by first | (simp; done) | (simp; omega)) _))
  clear hw0
  refine (rc_rod _ _ _ _ ((HP.out.later (C := w.heap.size) HW0.out (Nat.le_refl _)).mono HW0.out.size) hn1).mono ?_
  rintro e w1 ⟨N, P, m0, A, B, C, T, rfl, ⟨hN1, hN6⟩, hwr, hwf, hfs, hb⟩
  have HWR := Lib.hid hwr
  have HWF := Lib.hid hwf
  have HSZ := Lib.hid ((hwr.dr hN6).size)
  have HK0 : Hid (Bag [Rdn P m0 N, Bel w] w1) := ((Bag.nil _).add (Bel.lat w) (HW0.out.trans (hb.mono HW0.out.size))).add (Rdn.lat _ _ _) hfs
  clear hwr hwf hfs hb HW0 HL HP hn1
  go_wp2_with (first | (with_reducible refine at_list ?_; refine wpList_fop rfl rfl rfl rfl rfl ?_; intro r n hr0; have hr := hr0 _ _ (by first | with_reducible assumption | exact rfl) (by first | with_reducible assumption | exact rfl); clear hr0) | (with_reducible refine at_list ?_; refine wpList_neg rfl rfl rfl ?_; intro r hr0; have hr := hr0 _ (by first | with_reducible assumption | exact rfl); clear hr0) | (with_reducible refine at_list ?_; refine wpList_fop_g rfl rfl rfl rfl rfl ?_; intro r n hr0; have hr := hr0 _ _ (by first | with_reducible assumption | exact rfl) (by first | with_reducible assumption | exact rfl); clear hr0) | (with_reducible refine at_list ?_; refine wpList_wide_g rfl rfl Try.underlying28 Try.underlying39 rfl ?_; intro r n hr0; have hr := hr0 _ (by first | with_reducible assumption | exact rfl); clear hr0) | (with_reducible refine at_list ?_; refine wpList_wide rfl rfl rfl Try.underlying28 Try.underlying39 ?_; intro r n hr0; have hr := hr0 _ (by first | with_reducible assumption | exact rfl); clear hr0) | (go_at_call 9; refine stop_here ?_) | (go_at_call 18; refine (implHeatOf_any _ _ _ (by assumption)).mono ?_; rintro e w' ⟨r, rfl, hr, hb⟩; obtain ⟨hT, hk⟩ := bv_next hb (by (repeat (with_reducible first | assumption | apply Trk.alloc | apply Trk.setCell | apply Trk.drewN | apply Trk.drew | exact Trk.nil _))); simp only [SameOn, World.size_alloc, World.size_setCell, World.size_drew, size_drewN', and_true] at hk; have hsz := Below.size hb; (try simp only [World.size_alloc, World.size_setCell, World.size_drew, size_drewN'] at hsz)) | (go_at_call 19; refine (implMeanOf_any _ _ _ (by assumption)).mono ?_; rintro e w' ⟨r, rfl, hr, hb⟩; obtain ⟨hT, hk⟩ := bv_next hb (by (repeat (with_reducible first | assumption | apply Trk.alloc | apply Trk.setCell | apply Trk.drewN | apply Trk.drew | exact Trk.nil _))); simp only [SameOn, World.size_alloc, World.size_setCell, World.size_drew, size_drewN', and_true] at hk; have hsz := Below.size hb; (try simp only [World.size_alloc, World.size_setCell, World.size_drew, size_drewN'] at hsz)) | (go_at_call 13; refine (r8Gap_any _ _ _ (by assumption)).mono ?_; rintro e w' ⟨r, rfl, hr, n, rfl⟩) | (go_at_call 11; refine (implFlowsR_any _ _ _ _ _ (by assumption)).mono ?_; rintro e w' ⟨u, ys, rfl, hb, hO, hL⟩; obtain ⟨pu, cu, rfl⟩ := OF.shape hO; (try simp only [World.size_alloc, World.size_setCell, World.size_drew, World.drewN] at hO); obtain ⟨hT, hk⟩ := bv_next hb (by (repeat (with_reducible first | assumption | apply Trk.alloc | apply Trk.setCell | apply Trk.drewN | apply Trk.drew | exact Trk.nil _))); simp only [SameOn, World.size_alloc, World.size_setCell, World.size_drew, size_drewN', and_true] at hk; have hsz := Below.size hb; (try simp only [World.size_alloc, World.size_setCell, World.size_drew, size_drewN'] at hsz)) | (go_at_call 25; refine (implHinder_any _ _ _ (by assumption)).mono ?_; rintro e w' ⟨r, rfl, hr, hb⟩; obtain ⟨hT, hk⟩ := bv_next hb (by (repeat (with_reducible first | assumption | apply Trk.alloc | apply Trk.setCell | apply Trk.drewN | apply Trk.drew | exact Trk.nil _))); simp only [SameOn, World.size_alloc, World.size_setCell, World.size_drew, size_drewN', and_true] at hk; have hsz := Below.size hb; (try simp only [World.size_alloc, World.size_setCell, World.size_drew, size_drewN'] at hsz)) | (go_at_call 26; refine (implLong_any _ _ _ (by assumption)).mono ?_; rintro e w' ⟨r, rfl, hr, hb⟩; obtain ⟨hT, hk⟩ := bv_next hb (by (repeat (with_reducible first | assumption | apply Trk.alloc | apply Trk.setCell | apply Trk.drewN | apply Trk.drew | exact Trk.nil _))); simp only [SameOn, World.size_alloc, World.size_setCell, World.size_drew, size_drewN', and_true] at hk; have hsz := Below.size hb; (try simp only [World.size_alloc, World.size_setCell, World.size_drew, size_drewN'] at hsz)))
  unfold Stop
  refine calls_named ?_
  intro w2 hw2
  obtain ⟨b5, hb5⟩ : ∃ b, b = w1.heap.size := ⟨_, rfl⟩
  simp only [← hb5]
  have hbw : Below w1.heap.size w1 w2 := by rw [hw2]; first | exact Below.refl _ _ | (repeat (first | (with_reducible exact Below.refl _ _) | (with_reducible assumption) | (with_reducible refine below_then ?_ (by assumption)) | (with_reducible refine Below.trans ?_ (by assumption)) | (with_reducible refine below_drewN ?_ _) | (with_reducible apply Below.drew) | (with_reducible refine below_alloc ?_ _) | refine Below.setCell ?_ (by first | (simp; done) | (simp; omega)) _))
  have HK1 : Hid (Bag _ w2) := ((HK0.out.later hbw).add (F := Var b5 (.slice m0.p1 N m0.c1) (.slice m0.p2 N m0.c2) (.slice m0.p3 N m0.c3) (.slice m0.p4 N m0.c4)) (Var.lat _ _ _ _ _) (by show Var b5 (.slice m0.p1 N m0.c1) (.slice m0.p2 N m0.c2) (.slice m0.p3 N m0.c3) (.slice m0.p4 N m0.c4) w2; rw [hw2, hb5]; exact ⟨⟨by go_simp, by go_simp, by go_simp, by go_simp⟩, by first | (simp; done) | (simp; omega)⟩)).add (F := Var3 (b5 + 1) (.int .i64 1) (.float .f32 0) (.float .f32 1065353216)) (Var3.lat _ _ _ _) (by show Var3 (b5 + 1) (.int .i64 1) (.float .f32 0) (.float .f32 1065353216) w2; rw [hw2, hb5]; exact ⟨⟨by go_simp, by go_simp, by go_simp⟩, by first | (simp; done) | (simp; omega)⟩)
  clear HK0 hw2 hbw hb5
  refine (r8At_any _ _ _ 0 33 _ ((HQ.out.later (C := w.heap.size) (HK1.out.t.t.t.g) (Nat.le_refl _)).mono (HK1.out.t.t.t.g).size) (by omega) (by omega)).mono ?_
  rintro e w' ⟨j, rfl, ⟨hj1, hj2⟩, nq, rfl⟩
  go_wp2_with (first | (with_reducible refine at_list ?_; refine wpList_fop rfl rfl rfl rfl rfl ?_; intro r n hr0; have hr := hr0 _ _ (by first | with_reducible assumption | exact rfl) (by first | with_reducible assumption | exact rfl); clear hr0) | (with_reducible refine at_list ?_; refine wpList_neg rfl rfl rfl ?_; intro r hr0; have hr := hr0 _ (by first | with_reducible assumption | exact rfl); clear hr0) | (with_reducible refine at_list ?_; refine wpList_fop_g rfl rfl rfl rfl rfl ?_; intro r n hr0; have hr := hr0 _ _ (by first | with_reducible assumption | exact rfl) (by first | with_reducible assumption | exact rfl); clear hr0) | (with_reducible refine at_list ?_; refine wpList_wide_g rfl rfl Try.underlying28 Try.underlying39 rfl ?_; intro r n hr0; have hr := hr0 _ (by first | with_reducible assumption | exact rfl); clear hr0) | (with_reducible refine at_list ?_; refine wpList_wide rfl rfl rfl Try.underlying28 Try.underlying39 ?_; intro r n hr0; have hr := hr0 _ (by first | with_reducible assumption | exact rfl); clear hr0) | (go_at_call 9; refine stop_here ?_) | (go_at_call 18; refine (implHeatOf_any _ _ _ (by assumption)).mono ?_; rintro e w' ⟨r, rfl, hr, hb⟩; obtain ⟨hT, hk⟩ := bv_next hb (by (repeat (with_reducible first | assumption | apply Trk.alloc | apply Trk.setCell | apply Trk.drewN | apply Trk.drew | exact Trk.nil _))); simp only [SameOn, World.size_alloc, World.size_setCell, World.size_drew, size_drewN', and_true] at hk; have hsz := Below.size hb; (try simp only [World.size_alloc, World.size_setCell, World.size_drew, size_drewN'] at hsz)) | (go_at_call 19; refine (implMeanOf_any _ _ _ (by assumption)).mono ?_; rintro e w' ⟨r, rfl, hr, hb⟩; obtain ⟨hT, hk⟩ := bv_next hb (by (repeat (with_reducible first | assumption | apply Trk.alloc | apply Trk.setCell | apply Trk.drewN | apply Trk.drew | exact Trk.nil _))); simp only [SameOn, World.size_alloc, World.size_setCell, World.size_drew, size_drewN', and_true] at hk; have hsz := Below.size hb; (try simp only [World.size_alloc, World.size_setCell, World.size_drew, size_drewN'] at hsz)) | (go_at_call 13; refine (r8Gap_any _ _ _ (by assumption)).mono ?_; rintro e w' ⟨r, rfl, hr, n, rfl⟩) | (go_at_call 11; refine (implFlowsR_any _ _ _ _ _ (by assumption)).mono ?_; rintro e w' ⟨u, ys, rfl, hb, hO, hL⟩; obtain ⟨pu, cu, rfl⟩ := OF.shape hO; (try simp only [World.size_alloc, World.size_setCell, World.size_drew, World.drewN] at hO); obtain ⟨hT, hk⟩ := bv_next hb (by (repeat (with_reducible first | assumption | apply Trk.alloc | apply Trk.setCell | apply Trk.drewN | apply Trk.drew | exact Trk.nil _))); simp only [SameOn, World.size_alloc, World.size_setCell, World.size_drew, size_drewN', and_true] at hk; have hsz := Below.size hb; (try simp only [World.size_alloc, World.size_setCell, World.size_drew, size_drewN'] at hsz)) | (go_at_call 25; refine (implHinder_any _ _ _ (by assumption)).mono ?_; rintro e w' ⟨r, rfl, hr, hb⟩; obtain ⟨hT, hk⟩ := bv_next hb (by (repeat (with_reducible first | assumption | apply Trk.alloc | apply Trk.setCell | apply Trk.drewN | apply Trk.drew | exact Trk.nil _))); simp only [SameOn, World.size_alloc, World.size_setCell, World.size_drew, size_drewN', and_true] at hk; have hsz := Below.size hb; (try simp only [World.size_alloc, World.size_setCell, World.size_drew, size_drewN'] at hsz)) | (go_at_call 26; refine (implLong_any _ _ _ (by assumption)).mono ?_; rintro e w' ⟨r, rfl, hr, hb⟩; obtain ⟨hT, hk⟩ := bv_next hb (by (repeat (with_reducible first | assumption | apply Trk.alloc | apply Trk.setCell | apply Trk.drewN | apply Trk.drew | exact Trk.nil _))); simp only [SameOn, World.size_alloc, World.size_setCell, World.size_drew, size_drewN', and_true] at hk; have hsz := Below.size hb; (try simp only [World.size_alloc, World.size_setCell, World.size_drew, size_drewN'] at hsz)))
  unfold Stop
  obtain ⟨x8, rfl⟩ : ∃ x, x = r := ⟨r, rfl⟩
  have hjt : -16 ≤ j - 16 ∧ j - 16 ≤ 16 := by omega
  have h8 : cn .f32 x8 = wmW (j - 16) := by
    have hr' : cn .f32 x8 = fop .quo .f32 (cn .f32 (floatOfInt .f32 (j - 16))) (cn .f32 1073741824) := hr
    rw [fnt_cn (V.int .f32 (j - 16) (by show (j - 16).natAbs < 2 ^ (23 + 1); omega)).1] at hr'
    exact hr'
  clear hr
  obtain ⟨t, ht⟩ : ∃ t, j - 16 = t := ⟨_, rfl⟩
  rw [ht] at h8 hjt
  have H8 := Lib.hid h8
  have HT := Lib.hid hjt
  clear ht h8 hjt hj1 hj2
  refine calls_named ?_
  intro w3 hw3
  have hbw : Below w2.heap.size w2 w3 := by rw [hw3]; first | exact Below.refl _ _ | (repeat (first | (with_reducible exact Below.refl _ _) | (with_reducible assumption) | (with_reducible refine below_then ?_ (by assumption)) | (with_reducible refine Below.trans ?_ (by assumption)) | (with_reducible refine below_drewN ?_ _) | (with_reducible apply Below.drew) | (with_reducible refine below_alloc ?_ _) | refine Below.setCell ?_ (by first | (simp; done) | (simp; omega)) _))
  have HK2 : Hid (Bag _ w3) := HK1.out.later hbw
  clear HK1 hw3 hbw
  refine (r8At_any _ _ _ 1 3 _ ((HQ.out.later (C := w.heap.size) (HK2.out.t.t.t.g) (Nat.le_refl _)).mono (HK2.out.t.t.t.g).size) (by omega) (by omega)).mono ?_
  rintro e w' ⟨k, rfl, ⟨hk1, hk2⟩, nq2, rfl⟩
  obtain ⟨⟨d0, d1, d2, d3⟩, dl⟩ := HK2.out.t.g
  go_wp2_with (first | (go_at_call 18; refine stop_here ?_))
  unfold Stop
  clear d0 d1 d2 d3 dl
  refine calls_named ?_
  intro w4 hw4
  obtain ⟨b9, hb9⟩ : ∃ b, b = w3.heap.size := ⟨_, rfl⟩
  simp only [← hb9]
  have hbw : Below w3.heap.size w3 w4 := by rw [hw4]; first | exact Below.refl _ _ | (repeat (first | (with_reducible exact Below.refl _ _) | (with_reducible assumption) | (with_reducible refine below_then ?_ (by assumption)) | (with_reducible refine Below.trans ?_ (by assumption)) | (with_reducible refine below_drewN ?_ _) | (with_reducible apply Below.drew) | (with_reducible refine below_alloc ?_ _) | refine Below.setCell ?_ (by first | (simp; done) | (simp; omega)) _))
  have HK3 : Hid (Bag _ w4) := (HK2.out.later hbw).add (F := Var3 b9 (.int .i64 k) (.float .f32 x8) (.float .f32 1065353216)) (Var3.lat _ _ _ _) (by show Var3 b9 (.int .i64 k) (.float .f32 x8) (.float .f32 1065353216) w4; rw [hw4, hb9]; exact ⟨⟨by go_simp, by go_simp, by go_simp⟩, by first | (simp; done) | (simp; omega)⟩)
  clear HK2 hw4 hbw hb9 HQ
  have HEV : Hid (EV (evR P N x8) N A C ⟨k, x8, 1065353216⟩ ⟨k, x8, 1065353216⟩ t (((t.natAbs : Int) : Rat) / 2 + 1 / 1024)) := HWR.out.ev hN6 HT.out H8.out (k := k) ⟨hk1, by omega⟩
  clear hk1 hk2
  refine (rc_heat HWR.out (HK3.out.t.t.t.g)).mono ?_
  rintro e w5 ⟨x10, rfl, h10, hb⟩
  have H10 := Lib.hid h10
  have HK4 : Hid (Bag _ w5) := HK3.out.later hb
  clear HK3 hb h10
  obtain ⟨⟨d0, d1, d2, d3⟩, dl⟩ := HK4.out.t.t.g
  go_wp2_with (first | (go_at_call 19; refine stop_here ?_))
  unfold Stop
  clear d0 d1 d2 d3 dl
  refine (rc_mean HWR.out (HK4.out.t.t.t.g)).mono ?_
  rintro e w6 ⟨x12, rfl, h12, hb⟩
  have H12 := Lib.hid h12
  have HK5 : Hid (Bag _ w6) := HK4.out.later hb
  clear HK4 hb h12
  obtain ⟨⟨d0, d1, d2, d3⟩, dl⟩ := HK5.out.t.t.g
  obtain ⟨⟨g0, g1, g2⟩, gl⟩ := HK5.out.t.g
  go_wp2_with (first | (go_at_call 20; refine stop_here ?_))
  unfold Stop
  clear d0 d1 d2 d3 dl g0 g1 g2 gl
  refine (rc_run HWR.out hN6 (HK5.out.t.t.t.g)).mono ?_
  rintro e w7 ⟨m14, q15, c15, ys15, rfl, hb, hl15, hn15, hv15⟩
  have HV15 := Lib.hid hv15
  have HN15 := Lib.hid hn15
  have HK6 : Hid (Bag _ w7) := (HK5.out.later hb).add (F := Lst (.slice q15 5 c15) ys15) (Lst.lat _ _) (hl15)
  clear HK5 hb hl15 hn15 hv15
  obtain ⟨⟨d0, d1, d2, d3⟩, dl⟩ := HK6.out.t.t.t.g
  obtain ⟨⟨g0, g1, g2⟩, gl⟩ := HK6.out.t.t.g
  go_wp2_with (first | (go_at_call 15; refine stop_here ?_))
  unfold Stop
  clear d0 d1 d2 d3 dl g0 g1 g2 gl
  refine calls_named ?_
  intro w8 hw8
  obtain ⟨b14, hb14⟩ : ∃ b, b = w7.heap.size := ⟨_, rfl⟩
  simp only [← hb14]
  have hbw : Below w7.heap.size w7 w8 := by rw [hw8]; first | exact Below.refl _ _ | (repeat (first | (with_reducible exact Below.refl _ _) | (with_reducible assumption) | (with_reducible refine below_then ?_ (by assumption)) | (with_reducible refine Below.trans ?_ (by assumption)) | (with_reducible refine below_drewN ?_ _) | (with_reducible apply Below.drew) | (with_reducible refine below_alloc ?_ _) | refine Below.setCell ?_ (by first | (simp; done) | (simp; omega)) _))
  have HK7 : Hid (Bag _ w8) := (HK6.out.later hbw).add (F := Var b14 (.slice m14.p1 N m14.c1) (.slice m14.p2 N m14.c2) (.slice m14.p3 N m14.c3) (.slice m14.p4 N m14.c4)) (Var.lat _ _ _ _ _) (by show Var b14 (.slice m14.p1 N m14.c1) (.slice m14.p2 N m14.c2) (.slice m14.p3 N m14.c3) (.slice m14.p4 N m14.c4) w8; rw [hw8, hb14]; exact ⟨⟨by go_simp, by go_simp, by go_simp, by go_simp⟩, by first | (simp; done) | (simp; omega)⟩)
  clear HK6 hw8 hbw hb14
  refine (rc_step HWR.out hN6 (HK7.out.t.t.t.t.t.g)).mono ?_
  rintro e w9 ⟨m17, rfl, hb, hr17⟩
  have HK8 : Hid (Bag _ w9) := (HK7.out.later hb).add (F := Rdn (stepR P shE shE 1015021568) m17 N) (Rdn.lat _ _ _) (hr17)
  clear HK7 hb hr17
  go_wp2_with (first | (go_at_call 18; refine stop_here ?_))
  unfold Stop
  refine calls_named ?_
  intro w10 hw10
  obtain ⟨b17, hb17⟩ : ∃ b, b = w9.heap.size := ⟨_, rfl⟩
  simp only [← hb17]
  have hbw : Below w9.heap.size w9 w10 := by rw [hw10]; first | exact Below.refl _ _ | (repeat (first | (with_reducible exact Below.refl _ _) | (with_reducible assumption) | (with_reducible refine below_then ?_ (by assumption)) | (with_reducible refine Below.trans ?_ (by assumption)) | (with_reducible refine below_drewN ?_ _) | (with_reducible apply Below.drew) | (with_reducible refine below_alloc ?_ _) | refine Below.setCell ?_ (by first | (simp; done) | (simp; omega)) _))
  have HK9 : Hid (Bag _ w10) := (HK8.out.later hbw).add (F := Var b17 (.slice m17.p1 N m17.c1) (.slice m17.p2 N m17.c2) (.slice m17.p3 N m17.c3) (.slice m17.p4 N m17.c4)) (Var.lat _ _ _ _ _) (by show Var b17 (.slice m17.p1 N m17.c1) (.slice m17.p2 N m17.c2) (.slice m17.p3 N m17.c3) (.slice m17.p4 N m17.c4) w10; rw [hw10, hb17]; exact ⟨⟨by go_simp, by go_simp, by go_simp, by go_simp⟩, by first | (simp; done) | (simp; omega)⟩)
  clear HK8 hw10 hbw hb17
  have hsh := (HWR.out.dr hN6).g.short (shE_ge 8 (by decide)) (shE_ge 8 (by decide)) rfl rfl
  refine (rc_heat2 (HK9.out.t.g) hsh.1.ok hsh.2.2.1).mono ?_
  rintro e w11 ⟨x19, rfl, h19, hb⟩
  have H19 := Lib.hid h19
  have HK10 : Hid (Bag _ w11) := HK9.out.later hb
  clear HK9 hb h19 hsh
  obtain ⟨⟨d0, d1, d2, d3⟩, dl⟩ := HK10.out.t.t.g
  obtain ⟨⟨g0, g1, g2, g3⟩, gl⟩ := HK10.out.g
  go_wp2
  clear d0 d1 d2 d3 dl g0 g1 g2 g3 gl
  refine wp_named ?_
  intro ws hws
  have hbw : Below w11.heap.size w11 ws := by rw [hws]; first | exact Below.refl _ _ | (repeat (first | (with_reducible exact Below.refl _ _) | (with_reducible assumption) | (with_reducible refine below_then ?_ (by assumption)) | (with_reducible refine Below.trans ?_ (by assumption)) | (with_reducible refine below_drewN ?_ _) | (with_reducible apply Below.drew) | (with_reducible refine below_alloc ?_ _) | refine Below.setCell ?_ (by first | (simp; done) | (simp; omega)) _))
  have HK11 : Hid (Bag _ ws) := HK10.out.later hbw
  clear HK10 hws hbw
  have hoP := HK11.out.t.t.t.t.t.t.t.g
  obtain ⟨ba, oa, ea, hca⟩ := Lst.at (q := m0.p1) (n := N) (c := m0.c1) (xs := P.a) (by have := hoP.2.1; rwa [hoP.1.1] at this) hoP.1.1 (by omega)
  obtain ⟨bc, oc, ec, hcc⟩ := Lst.at (q := m0.p3) (n := N) (c := m0.c3) (xs := P.c) (by have := hoP.2.2.2.1; rwa [hoP.1.2.2.1] at this) hoP.1.2.2.1 (by omega)
  obtain ⟨bd, od, ed, hcd⟩ := Lst.at (q := m0.p4) (n := N) (c := m0.c4) (xs := P.d) (by have := hoP.2.2.2.2; rwa [hoP.1.2.2.2] at this) hoP.1.2.2.2 (by omega)
  have HCA := Lib.hid hca
  have HCC := Lib.hid hcc
  have HCD := Lib.hid hcd
  have HD5 := Lib.hid (HK11.out.t.t.t.t.t.t.g)
  have HEA := Lib.hid (And.intro ea (And.intro ec ed))
  clear hoP hca hcc hcd ea ec ed
  go_loopw [21, 22] (fun s t wr => ∃ (i r : Nat), i ≤ N ∧ t = .int .i64 (i : Int) ∧ s = .float .f64 r ∧ Hid (cn .f64 r = szW P i) ∧ Hid (Below ws.heap.size ws wr)) (fun _ t _ => N - (intOf t).toNat)
  case atStart => exact ⟨0, _, Nat.zero_le _, rfl, rfl, by first | rfl | decide +kernel, Below.refl _ _⟩
  case round =>
    obtain ⟨i, rs, hiN, rfl, rfl, HS, HW⟩ := hrel
    have hbW := HW.out
    by_cases hi : i < N
    · have hii : (i : Int) < (N : Int) := by omega
      obtain ⟨⟨d0, d1, d2, d3⟩, dl⟩ := Var.lat _ _ _ _ _ _ _ HD5.out hbW
      have ea : m0.p1 = some ⟨ba, oa, none⟩ := HEA.out.1
      have ec : m0.p3 = some ⟨bc, oc, none⟩ := HEA.out.2.1
      have ed : m0.p4 = some ⟨bd, od, none⟩ := HEA.out.2.2
      rw [ea] at d0
      rw [ec] at d2
      rw [ed] at d3
      clear ea ec ed
      have c1 := cell_later hbW (HCA.out i hi)
      have c2 := cell_later hbW (HCC.out i hi)
      have c3 := cell_later hbW (HCD.out i hi)
      have hs := HS.out
      have hd := (HWR.out.d i hi)
      have HG := Lib.hid (fun x w (hx : cn .f64 x = wide (cn .f32 (P.d.getD i 0))) => rc_gap (Y := cn .f64 0) x 0 w hx rfl (gap_abs hd.1 hd.2).1)
      have HNX : Hid (∀ r, cn .f64 r = fop .add .f64 (szW P i) (fop .mul .f64 (fop .mul .f64 (wide (cn .f32 (P.a.getD i 0))) (wide (cn .f32 (P.c.getD i 0)))) (gap8 (wide (cn .f32 (P.d.getD i 0))) (cn .f64 0))) → cn .f64 r = szW P (i + 1)) := fun r h => h
      have hgc : cn .f64 (gap8 (wide (cn .f32 (P.d.getD i 0))) (cn .f64 0)) = gap8 (wide (cn .f32 (P.d.getD i 0))) (cn .f64 0) := cn_fmax64 (gap_abs hd.1 hd.2).1.1 (gap_abs hd.1 hd.2).1.2
      clear hd
      generalize P.a.getD i 0 = ya at c1 HNX
      generalize P.c.getD i 0 = yc at c2 HNX
      generalize P.d.getD i 0 = yd at c3 HG HNX hgc
      generalize szW P i = sz at hs HNX
      have hT : Trk wr [b5, ba, bc, bd] := ((((Trk.nil wr).more (World.block_lt_of_cell? _ _ c3)).more (World.block_lt_of_cell? _ _ c2)).more (World.block_lt_of_cell? _ _ c1)).more dl
      go_wp2_with (first | (with_reducible refine at_list ?_; refine wpList_fop rfl rfl rfl rfl rfl ?_; intro r n hr0; have hr := hr0 _ _ (by first | with_reducible assumption | exact rfl) (by first | with_reducible assumption | exact rfl); clear hr0) | (with_reducible refine at_list ?_; refine wpList_neg rfl rfl rfl ?_; intro r hr0; have hr := hr0 _ (by first | with_reducible assumption | exact rfl); clear hr0) | (with_reducible refine at_list ?_; refine wpList_fop_g rfl rfl rfl rfl rfl ?_; intro r n hr0; have hr := hr0 _ _ (by first | with_reducible assumption | exact rfl) (by first | with_reducible assumption | exact rfl); clear hr0) | (with_reducible refine at_list ?_; refine wpList_wide_g rfl rfl Try.underlying28 Try.underlying39 rfl ?_; intro r n hr0; have hr := hr0 _ (by first | with_reducible assumption | exact rfl); clear hr0) | (with_reducible refine at_list ?_; refine wpList_wide rfl rfl rfl Try.underlying28 Try.underlying39 ?_; intro r n hr0; have hr := hr0 _ (by first | with_reducible assumption | exact rfl); clear hr0) | (go_at_call 18; refine (implHeatOf_any _ _ _ (by assumption)).mono ?_; rintro e w' ⟨r, rfl, hr, hb⟩; obtain ⟨hT, hk⟩ := bv_next hb (by (repeat (with_reducible first | assumption | apply Trk.alloc | apply Trk.setCell | apply Trk.drewN | apply Trk.drew | exact Trk.nil _))); simp only [SameOn, World.size_alloc, World.size_setCell, World.size_drew, size_drewN', and_true] at hk; have hsz := Below.size hb; (try simp only [World.size_alloc, World.size_setCell, World.size_drew, size_drewN'] at hsz)) | (go_at_call 19; refine (implMeanOf_any _ _ _ (by assumption)).mono ?_; rintro e w' ⟨r, rfl, hr, hb⟩; obtain ⟨hT, hk⟩ := bv_next hb (by (repeat (with_reducible first | assumption | apply Trk.alloc | apply Trk.setCell | apply Trk.drewN | apply Trk.drew | exact Trk.nil _))); simp only [SameOn, World.size_alloc, World.size_setCell, World.size_drew, size_drewN', and_true] at hk; have hsz := Below.size hb; (try simp only [World.size_alloc, World.size_setCell, World.size_drew, size_drewN'] at hsz)) | (go_at_call 13; refine (r8Gap_any _ _ _ (by assumption)).mono ?_; rintro e w' ⟨r, rfl, hr, n, rfl⟩) | (go_at_call 11; refine (implFlowsR_any _ _ _ _ _ (by assumption)).mono ?_; rintro e w' ⟨u, ys, rfl, hb, hO, hL⟩; obtain ⟨pu, cu, rfl⟩ := OF.shape hO; (try simp only [World.size_alloc, World.size_setCell, World.size_drew, World.drewN] at hO); obtain ⟨hT, hk⟩ := bv_next hb (by (repeat (with_reducible first | assumption | apply Trk.alloc | apply Trk.setCell | apply Trk.drewN | apply Trk.drew | exact Trk.nil _))); simp only [SameOn, World.size_alloc, World.size_setCell, World.size_drew, size_drewN', and_true] at hk; have hsz := Below.size hb; (try simp only [World.size_alloc, World.size_setCell, World.size_drew, size_drewN'] at hsz)) | (go_at_call 25; refine (implHinder_any _ _ _ (by assumption)).mono ?_; rintro e w' ⟨r, rfl, hr, hb⟩; obtain ⟨hT, hk⟩ := bv_next hb (by (repeat (with_reducible first | assumption | apply Trk.alloc | apply Trk.setCell | apply Trk.drewN | apply Trk.drew | exact Trk.nil _))); simp only [SameOn, World.size_alloc, World.size_setCell, World.size_drew, size_drewN', and_true] at hk; have hsz := Below.size hb; (try simp only [World.size_alloc, World.size_setCell, World.size_drew, size_drewN'] at hsz)) | (go_at_call 26; refine (implLong_any _ _ _ (by assumption)).mono ?_; rintro e w' ⟨r, rfl, hr, hb⟩; obtain ⟨hT, hk⟩ := bv_next hb (by (repeat (with_reducible first | assumption | apply Trk.alloc | apply Trk.setCell | apply Trk.drewN | apply Trk.drew | exact Trk.nil _))); simp only [SameOn, World.size_alloc, World.size_setCell, World.size_drew, size_drewN', and_true] at hk; have hsz := Below.size hb; (try simp only [World.size_alloc, World.size_setCell, World.size_drew, size_drewN'] at hsz)))
      (apply wp_region_plan; ((apply wpC_det; (case hw => exact rfl); (case hs => (intro cs b h; cases h)); (case h1 => (intro w'; go_simp <;> exact rfl))); apply wpC_norm; (case ha => (simp only [Act.put, List.setIfInBounds_toArray, List.set_cons_zero, List.set_cons_succ]; exact rfl))); ((apply wpC_det; (case hw => exact rfl); (case hs => (intro cs b h; cases h)); (case h1 => (intro w'; go_simp <;> exact rfl))); apply wpC_norm; (case ha => (simp only [Act.put, List.setIfInBounds_toArray, List.set_cons_zero, List.set_cons_succ]; exact rfl))); ((apply wpC_val; (case hw => exact rfl); (case h1 => (intro w' hb hk0; obtain ⟨hT, hk⟩ := bv_next hb (by (repeat (with_reducible first | assumption | apply Trk.alloc | apply Trk.setCell | apply Trk.drewN | apply Trk.drew | exact Trk.nil _))); simp only [SameOn, World.size_alloc, World.size_setCell, World.size_drew, size_drewN', and_true] at hk; have hsz := Below.size hb; (try simp only [World.size_alloc, World.size_setCell, World.size_drew, size_drewN'] at hsz); go_simp <;> exact rfl))); apply wpC_norm; (case ha => (simp only [Act.put, List.setIfInBounds_toArray, List.set_cons_zero, List.set_cons_succ]; exact rfl))); ((apply wpC_det; (case hw => exact rfl); (case hs => (intro cs b h; cases h)); (case h1 => (intro w'; go_simp <;> exact rfl))); apply wpC_norm; (case ha => (simp only [Act.put, List.setIfInBounds_toArray, List.set_cons_zero, List.set_cons_succ]; exact rfl))); ((apply wpC_det; (case hw => exact rfl); (case hs => (intro cs b h; cases h)); (case h1 => (intro w'; go_simp <;> exact rfl))); apply wpC_norm; (case ha => (simp only [Act.put, List.setIfInBounds_toArray, List.set_cons_zero, List.set_cons_succ]; exact rfl))); ((apply wpC_val; (case hw => exact rfl); (case h1 => (intro w' hb hk0; obtain ⟨hT, hk⟩ := bv_next hb (by (repeat (with_reducible first | assumption | apply Trk.alloc | apply Trk.setCell | apply Trk.drewN | apply Trk.drew | exact Trk.nil _))); simp only [SameOn, World.size_alloc, World.size_setCell, World.size_drew, size_drewN', and_true] at hk; have hsz := Below.size hb; (try simp only [World.size_alloc, World.size_setCell, World.size_drew, size_drewN'] at hsz); go_simp <;> exact rfl))); apply wpC_norm; (case ha => (simp only [Act.put, List.setIfInBounds_toArray, List.set_cons_zero, List.set_cons_succ]; exact rfl))); ((apply wpC_wide rfl rfl Try.underlying28 Try.underlying39 rfl; intro r hr0; have hr := hr0 _ (by first | with_reducible assumption | exact rfl); clear hr0); apply wpC_norm; (case ha => (simp only [Act.put, List.setIfInBounds_toArray, List.set_cons_zero, List.set_cons_succ]; exact rfl))); ((apply wpC_det; (case hw => exact rfl); (case hs => (intro cs b h; cases h)); (case h1 => (intro w'; go_simp <;> exact rfl))); apply wpC_norm; (case ha => (simp only [Act.put, List.setIfInBounds_toArray, List.set_cons_zero, List.set_cons_succ]; exact rfl))); ((apply wpC_val; (case hw => exact rfl); (case h1 => (intro w' hb hk0; obtain ⟨hT, hk⟩ := bv_next hb (by (repeat (with_reducible first | assumption | apply Trk.alloc | apply Trk.setCell | apply Trk.drewN | apply Trk.drew | exact Trk.nil _))); simp only [SameOn, World.size_alloc, World.size_setCell, World.size_drew, size_drewN', and_true] at hk; have hsz := Below.size hb; (try simp only [World.size_alloc, World.size_setCell, World.size_drew, size_drewN'] at hsz); go_simp <;> exact rfl))); apply wpC_norm; (case ha => (simp only [Act.put, List.setIfInBounds_toArray, List.set_cons_zero, List.set_cons_succ]; exact rfl))); ((apply wpC_det; (case hw => exact rfl); (case hs => (intro cs b h; cases h)); (case h1 => (intro w'; go_simp <;> exact rfl))); apply wpC_norm; (case ha => (simp only [Act.put, List.setIfInBounds_toArray, List.set_cons_zero, List.set_cons_succ]; exact rfl))); ((apply wpC_det; (case hw => exact rfl); (case hs => (intro cs b h; cases h)); (case h1 => (intro w'; go_simp <;> exact rfl))); apply wpC_norm; (case ha => (simp only [Act.put, List.setIfInBounds_toArray, List.set_cons_zero, List.set_cons_succ]; exact rfl))); ((apply wpC_val; (case hw => exact rfl); (case h1 => (intro w' hb hk0; obtain ⟨hT, hk⟩ := bv_next hb (by (repeat (with_reducible first | assumption | apply Trk.alloc | apply Trk.setCell | apply Trk.drewN | apply Trk.drew | exact Trk.nil _))); simp only [SameOn, World.size_alloc, World.size_setCell, World.size_drew, size_drewN', and_true] at hk; have hsz := Below.size hb; (try simp only [World.size_alloc, World.size_setCell, World.size_drew, size_drewN'] at hsz); go_simp <;> exact rfl))); apply wpC_norm; (case ha => (simp only [Act.put, List.setIfInBounds_toArray, List.set_cons_zero, List.set_cons_succ]; exact rfl))); ((apply wpC_wide rfl rfl Try.underlying28 Try.underlying39 rfl; intro r hr0; have hr := hr0 _ (by first | with_reducible assumption | exact rfl); clear hr0); apply wpC_norm; (case ha => (simp only [Act.put, List.setIfInBounds_toArray, List.set_cons_zero, List.set_cons_succ]; exact rfl))); ((apply wpC_fop rfl rfl rfl rfl rfl; intro r hr0; have hr := hr0 _ _ (by first | with_reducible assumption | exact rfl) (by first | with_reducible assumption | exact rfl); clear hr0); apply wpC_norm; (case ha => (simp only [Act.put, List.setIfInBounds_toArray, List.set_cons_zero, List.set_cons_succ]; exact rfl))); ((apply wpC_det; (case hw => exact rfl); (case hs => (intro cs b h; cases h)); (case h1 => (intro w'; go_simp <;> exact rfl))); apply wpC_norm; (case ha => (simp only [Act.put, List.setIfInBounds_toArray, List.set_cons_zero, List.set_cons_succ]; exact rfl))); ((apply wpC_val; (case hw => exact rfl); (case h1 => (intro w' hb hk0; obtain ⟨hT, hk⟩ := bv_next hb (by (repeat (with_reducible first | assumption | apply Trk.alloc | apply Trk.setCell | apply Trk.drewN | apply Trk.drew | exact Trk.nil _))); simp only [SameOn, World.size_alloc, World.size_setCell, World.size_drew, size_drewN', and_true] at hk; have hsz := Below.size hb; (try simp only [World.size_alloc, World.size_setCell, World.size_drew, size_drewN'] at hsz); go_simp <;> exact rfl))); apply wpC_norm; (case ha => (simp only [Act.put, List.setIfInBounds_toArray, List.set_cons_zero, List.set_cons_succ]; exact rfl))); ((apply wpC_det; (case hw => exact rfl); (case hs => (intro cs b h; cases h)); (case h1 => (intro w'; go_simp <;> exact rfl))); apply wpC_norm; (case ha => (simp only [Act.put, List.setIfInBounds_toArray, List.set_cons_zero, List.set_cons_succ]; exact rfl))); ((apply wpC_det; (case hw => exact rfl); (case hs => (intro cs b h; cases h)); (case h1 => (intro w'; go_simp <;> exact rfl))); apply wpC_norm; (case ha => (simp only [Act.put, List.setIfInBounds_toArray, List.set_cons_zero, List.set_cons_succ]; exact rfl))); ((apply wpC_val; (case hw => exact rfl); (case h1 => (intro w' hb hk0; obtain ⟨hT, hk⟩ := bv_next hb (by (repeat (with_reducible first | assumption | apply Trk.alloc | apply Trk.setCell | apply Trk.drewN | apply Trk.drew | exact Trk.nil _))); simp only [SameOn, World.size_alloc, World.size_setCell, World.size_drew, size_drewN', and_true] at hk; have hsz := Below.size hb; (try simp only [World.size_alloc, World.size_setCell, World.size_drew, size_drewN'] at hsz); go_simp <;> exact rfl))); apply wpC_norm; (case ha => (simp only [Act.put, List.setIfInBounds_toArray, List.set_cons_zero, List.set_cons_succ]; exact rfl))); ((apply wpC_wide rfl rfl Try.underlying28 Try.underlying39 rfl; intro r hr0; have hr := hr0 _ (by first | with_reducible assumption | exact rfl); clear hr0); apply wpC_norm; (case ha => (simp only [Act.put, List.setIfInBounds_toArray, List.set_cons_zero, List.set_cons_succ]; exact rfl))); ((apply wpC_callF _ _; ((case hw => exact rfl)); (case h1 => (intro w'; go_simp; exact ⟨rfl, rfl⟩)); (case hc => (intro w' hb hk0; obtain ⟨hT, hk⟩ := bv_next hb (by (repeat (with_reducible first | assumption | apply Trk.alloc | apply Trk.setCell | apply Trk.drewN | apply Trk.drew | exact Trk.nil _))); simp only [SameOn, World.size_alloc, World.size_setCell, World.size_drew, size_drewN', and_true] at hk; have hsz := Below.size hb; (try simp only [World.size_alloc, World.size_setCell, World.size_drew, size_drewN'] at hsz); refine ((HG.out _ _ (by with_reducible assumption)) ).mono ?_; intro e2 w3 h; (try simp only [*] at h); exact RF.bf h)); (case hcc => (first | (with_reducible first | assumption | exact cn_fop _ _ _ _ | exact cn_cn _ _ | exact cn_wide _ | exact cn_narrow _ | exact cn_accC .. | exact cn_half .. | exact cn_bet .. | exact cn_end .. | exact cn_erV .. | exact cn_exV .. | exact cn_warmC .. | exact cn_partC .. | exact cn_easeC .. | exact cn_gapC ..) | (refine cn_chk ?_; (with_reducible first | assumption | exact cn_fop _ _ _ _ | exact cn_cn _ _ | exact cn_wide _ | exact cn_narrow _ | exact cn_accC .. | exact cn_half .. | exact cn_bet .. | exact cn_end .. | exact cn_erV .. | exact cn_exV .. | exact cn_warmC .. | exact cn_partC .. | exact cn_easeC .. | exact cn_gapC ..)) | (refine cn_gF ?_; (with_reducible first | assumption | exact cn_fop _ _ _ _ | exact cn_cn _ _ | exact cn_wide _ | exact cn_narrow _ | exact cn_accC .. | exact cn_half .. | exact cn_bet .. | exact cn_end .. | exact cn_erV .. | exact cn_exV .. | exact cn_warmC .. | exact cn_partC .. | exact cn_easeC .. | exact cn_gapC ..)))); intro r hr); apply wpC_norm; (case ha => (simp only [Act.put, List.setIfInBounds_toArray, List.set_cons_zero, List.set_cons_succ]; exact rfl))); ((apply wpC_fop rfl rfl rfl rfl rfl; intro r hr0; have hr := hr0 _ _ (by first | with_reducible assumption | exact rfl) (by first | with_reducible assumption | exact rfl); clear hr0); apply wpC_norm; (case ha => (simp only [Act.put, List.setIfInBounds_toArray, List.set_cons_zero, List.set_cons_succ]; exact rfl))); ((apply wpC_fop rfl rfl rfl rfl rfl; intro r hr0; have hr := hr0 _ _ (by first | with_reducible assumption | exact rfl) (by first | with_reducible assumption | exact rfl); clear hr0); apply wpC_norm; (case ha => (simp only [Act.put, List.setIfInBounds_toArray, List.set_cons_zero, List.set_cons_succ]; exact rfl))); ((apply wpC_det; (case hw => exact rfl); (case hs => (intro cs b h; cases h)); (case h1 => (intro w'; go_simp <;> exact rfl))); apply wpC_norm; (case ha => (simp only [Act.put, List.setIfInBounds_toArray, List.set_cons_zero, List.set_cons_succ]; exact rfl))); refine wpC_nil ?_; intro w' hb hkk; obtain ⟨hT, hk⟩ := bv_next hb (by (repeat (with_reducible first | assumption | apply Trk.alloc | apply Trk.setCell | apply Trk.drewN | apply Trk.drew | exact Trk.nil _))); simp only [SameOn, World.size_alloc, World.size_setCell, World.size_drew, size_drewN', and_true] at hk; have hsz := Below.size hb; (try simp only [World.size_alloc, World.size_setCell, World.size_drew, size_drewN'] at hsz))
      rotate_left
      all_goals (try (first | kernel_rfl | rfl))
      go_wp2
      go_roundw
      case rel => exact ⟨i + 1, _, by omega, by go_num, rfl, HNX.out _ (by with_reducible assumption), by show Below _ _ _; exact below_then hbW (by (repeat (first | (with_reducible exact Below.refl _ _) | (with_reducible assumption) | (with_reducible refine below_then ?_ (by assumption)) | (with_reducible refine Below.trans ?_ (by assumption)) | (with_reducible refine below_drewN ?_ _) | (with_reducible apply Below.drew) | (with_reducible refine below_alloc ?_ _) | refine Below.setCell ?_ (by first | (simp; done) | (simp; omega)) _)))⟩
      case measure => simp [intOf]; omega
    · have hie : N = i := by omega
      subst hie
      have hii : ¬ (N : Int) < (N : Int) := by omega
      have HS0 := Lib.hid HS.out
      rename World => wy
      have HK12 : Hid (Bag _ wy) := HK11.out.later hbW
      clear HK11 HCA HCC HCD HD5 HEA HW hbW HSZ HS
      go_wp2
      refine wp_named ?_
      intro wl hwl
      have hbw : Below wy.heap.size wy wl := by rw [hwl]; first | exact Below.refl _ _ | (repeat (first | (with_reducible exact Below.refl _ _) | (with_reducible assumption) | (with_reducible refine below_then ?_ (by assumption)) | (with_reducible refine Below.trans ?_ (by assumption)) | (with_reducible refine below_drewN ?_ _) | (with_reducible apply Below.drew) | (with_reducible refine below_alloc ?_ _) | refine Below.setCell ?_ (by first | (simp; done) | (simp; omega)) _))
      have HK13 : Hid (Bag _ wl) := HK12.out.later hbw
      clear HK12 hwl hbw hii
      obtain ⟨b15, o15, rfl, hc15⟩ := Lst.at (HK13.out.t.t.t.g) HN15.out (by decide)
      have HC15 := Lib.hid hc15
      have H10' := H10.out
      clear hc15
      go_loopw [23] (fun t wr => ∃ (i : Nat), i ≤ 5 ∧ t = .int .i64 (i : Int) ∧ Hid (Below wl.heap.size wl wr)) (fun t _ => 5 - (intOf t).toNat)
      case atStart => exact ⟨0, by omega, rfl, Below.refl _ _⟩
      case round =>
        obtain ⟨i, hi5, rfl, HW⟩ := hrel
        have hbW := HW.out
        by_cases hi : i < 5
        · have hii : (i : Int) < 5 := by omega
          have c1 := cell_later hbW (HC15.out i hi)
          have hy := HV15.out i hi
          have hx := H10.out
          have hs := HS0.out
          obtain ⟨g1, f1⟩ := (HWR.out.dr hN6).law1 (shE_ge 8 (by decide)) (shE_ge 8 (by decide)) rfl rfl V0 V0 (k := i + 1) (by omega)
          generalize htV (runR true shE shE 1048576000 P (i + 1)) = YH at hy g1 f1
          generalize heatK P N = XH at hx g1 f1
          generalize szW P N = SZ at hs f1
          generalize ys15.getD i 0 = y15 at c1 hy
          have HG := Lib.hid (fun x y w hx hy => rc_gap (X := wide YH) (Y := wide XH) x y w hx hy g1)
          simp only [cTho] at f1
          clear g1 H10'
          have hT : Trk wr [b15] := (Trk.nil wr).more (World.block_lt_of_cell? _ _ c1)
          go_wp2_with (first | (with_reducible refine at_list ?_; refine wpList_fop rfl rfl rfl rfl rfl ?_; intro r n hr0; have hr := hr0 _ _ (by first | with_reducible assumption | exact rfl) (by first | with_reducible assumption | exact rfl); clear hr0) | (with_reducible refine at_list ?_; refine wpList_neg rfl rfl rfl ?_; intro r hr0; have hr := hr0 _ (by first | with_reducible assumption | exact rfl); clear hr0) | (with_reducible refine at_list ?_; refine wpList_fop_g rfl rfl rfl rfl rfl ?_; intro r n hr0; have hr := hr0 _ _ (by first | with_reducible assumption | exact rfl) (by first | with_reducible assumption | exact rfl); clear hr0) | (with_reducible refine at_list ?_; refine wpList_wide_g rfl rfl Try.underlying28 Try.underlying39 rfl ?_; intro r n hr0; have hr := hr0 _ (by first | with_reducible assumption | exact rfl); clear hr0) | (with_reducible refine at_list ?_; refine wpList_wide rfl rfl rfl Try.underlying28 Try.underlying39 ?_; intro r n hr0; have hr := hr0 _ (by first | with_reducible assumption | exact rfl); clear hr0) | (go_at_call 18; refine (implHeatOf_any _ _ _ (by assumption)).mono ?_; rintro e w' ⟨r, rfl, hr, hb⟩; obtain ⟨hT, hk⟩ := bv_next hb (by (repeat (with_reducible first | assumption | apply Trk.alloc | apply Trk.setCell | apply Trk.drewN | apply Trk.drew | exact Trk.nil _))); simp only [SameOn, World.size_alloc, World.size_setCell, World.size_drew, size_drewN', and_true] at hk; have hsz := Below.size hb; (try simp only [World.size_alloc, World.size_setCell, World.size_drew, size_drewN'] at hsz)) | (go_at_call 19; refine (implMeanOf_any _ _ _ (by assumption)).mono ?_; rintro e w' ⟨r, rfl, hr, hb⟩; obtain ⟨hT, hk⟩ := bv_next hb (by (repeat (with_reducible first | assumption | apply Trk.alloc | apply Trk.setCell | apply Trk.drewN | apply Trk.drew | exact Trk.nil _))); simp only [SameOn, World.size_alloc, World.size_setCell, World.size_drew, size_drewN', and_true] at hk; have hsz := Below.size hb; (try simp only [World.size_alloc, World.size_setCell, World.size_drew, size_drewN'] at hsz)) | (go_at_call 13; refine ((HG.out _ _ _ (by with_reducible assumption) (by with_reducible assumption)) ).mono ?_; rintro e w' ⟨r, rfl, hr, n, rfl⟩) | (go_at_call 11; refine (implFlowsR_any _ _ _ _ _ (by assumption)).mono ?_; rintro e w' ⟨u, ys, rfl, hb, hO, hL⟩; obtain ⟨pu, cu, rfl⟩ := OF.shape hO; (try simp only [World.size_alloc, World.size_setCell, World.size_drew, World.drewN] at hO); obtain ⟨hT, hk⟩ := bv_next hb (by (repeat (with_reducible first | assumption | apply Trk.alloc | apply Trk.setCell | apply Trk.drewN | apply Trk.drew | exact Trk.nil _))); simp only [SameOn, World.size_alloc, World.size_setCell, World.size_drew, size_drewN', and_true] at hk; have hsz := Below.size hb; (try simp only [World.size_alloc, World.size_setCell, World.size_drew, size_drewN'] at hsz)) | (go_at_call 25; refine (implHinder_any _ _ _ (by assumption)).mono ?_; rintro e w' ⟨r, rfl, hr, hb⟩; obtain ⟨hT, hk⟩ := bv_next hb (by (repeat (with_reducible first | assumption | apply Trk.alloc | apply Trk.setCell | apply Trk.drewN | apply Trk.drew | exact Trk.nil _))); simp only [SameOn, World.size_alloc, World.size_setCell, World.size_drew, size_drewN', and_true] at hk; have hsz := Below.size hb; (try simp only [World.size_alloc, World.size_setCell, World.size_drew, size_drewN'] at hsz)) | (go_at_call 26; refine (implLong_any _ _ _ (by assumption)).mono ?_; rintro e w' ⟨r, rfl, hr, hb⟩; obtain ⟨hT, hk⟩ := bv_next hb (by (repeat (with_reducible first | assumption | apply Trk.alloc | apply Trk.setCell | apply Trk.drewN | apply Trk.drew | exact Trk.nil _))); simp only [SameOn, World.size_alloc, World.size_setCell, World.size_drew, size_drewN', and_true] at hk; have hsz := Below.size hb; (try simp only [World.size_alloc, World.size_setCell, World.size_drew, size_drewN'] at hsz)))
          go_roundw
          case rel => exact ⟨i + 1, by omega, by go_num, by show Below _ _ _; exact below_then hbW (by (repeat (first | (with_reducible exact Below.refl _ _) | (with_reducible assumption) | (with_reducible refine below_then ?_ (by assumption)) | (with_reducible refine Below.trans ?_ (by assumption)) | (with_reducible refine below_drewN ?_ _) | (with_reducible apply Below.drew) | (with_reducible refine below_alloc ?_ _) | refine Below.setCell ?_ (by first | (simp; done) | (simp; omega)) _)))⟩
          case measure => simp [intOf]; omega
        · have hie : i = 5 := by omega
          subst hie
          have hii : ¬ (5 : Int) < 5 := by decide
          rename World => wz
          have HK14 : Hid (Bag _ wz) := HK13.out.later hbW
          clear HK13 HW hbW HC15 HV15 HN15 H10' hi5
          go_wp2
          refine wp_named ?_
          intro wq hwq
          have hbq : Below wz.heap.size wz wq := by rw [hwq]; (repeat (first | (with_reducible exact Below.refl _ _) | (with_reducible assumption) | (with_reducible refine below_then ?_ (by assumption)) | (with_reducible refine Below.trans ?_ (by assumption)) | (with_reducible refine below_drewN ?_ _) | (with_reducible apply Below.drew) | (with_reducible refine below_alloc ?_ _) | refine Below.setCell ?_ (by first | (simp; done) | (simp; omega)) _))
          have hoq : OF wz.heap.size wq (.slice (some ⟨wz.heap.size, 0, none⟩) 0 0) (List.replicate 0 x8) := by rw [hwq]; exact OF.empty _ _ rfl (Nat.le_refl _) rfl
          have HOQ := Lib.hid hoq
          have HBQ := Lib.hid hbq
          clear hoq hbq hwq
          go_loopw [24, 25] (fun s t wr => ∃ (i : Nat) (q24 : Option Addr) (c24 : Nat), i ≤ N ∧ t = .int .i64 (i : Int) ∧ s = .slice q24 i c24 ∧ Hid (OF wz.heap.size wr (.slice q24 i c24) (List.replicate i x8)) ∧ Hid (Below wz.heap.size wz wr)) (fun _ t _ => N - (intOf t).toNat)
          case atStart => exact ⟨0, _, _, Nat.zero_le _, rfl, rfl, HOQ.out, HBQ.out⟩
          case round =>
            obtain ⟨i, q24, c24, hiN', rfl, rfl, HO, HW⟩ := hrel
            by_cases hi : i < N
            · have hii : (i : Int) < (N : Int) := by omega
              have hzz := HW.out.size
              go_wp2_with (first | (at_builtin; refine stop_here ?_))
              unfold Stop
              apply wpList_app (B := wz.heap.size) (xs := List.replicate i x8) (v := .slice q24 i c24)
              case hg => rfl
              case ho => rfl
              case hs => rfl
              case hx => rfl
              case hO => exact OF.alloc HO.out _
              case hc => go_simp <;> exact rfl
              case hn => simp; omega
              case hB => simp; omega
              intro q2 c2 w2 hO2 hB2
              have hB3 : Below wz.heap.size wz w2 := (HW.out.alloc (by omega) _).trans hB2
              rw [List.length_replicate, ← List.replicate_succ'] at hO2
              rw [List.length_replicate]
              have HO2 := Lib.hid hO2
              have HB3 := Lib.hid hB3
              clear hO2 hB3 hB2 hzz
              go_wp2
              go_roundw
              case rel => exact ⟨i + 1, q2, c2, by omega, by go_num, rfl, HO2.out, HB3.out⟩
              case measure => simp [intOf]; omega
            · have hie : N = i := by omega
              subst hie
              have hii : ¬ (N : Int) < (N : Int) := by omega
              rename World => wx
              have HK15 : Hid (Bag _ wx) := (HK14.out.later HW.out).add (F := Lst (.slice q24 N c24) (List.replicate N x8)) (Lst.lat _ _) (OF.fs HO.out)
              clear HK14 HO HW HOQ HBQ
              obtain ⟨⟨d0, d1, d2, d3⟩, dl⟩ := HK15.out.t.t.t.t.t.t.t.g
              go_wp2_with (first | (go_at_call 21; refine stop_here ?_))
              unfold Stop
              clear d0 d1 d2 d3 dl hii
              refine (rc_set HWR.out HEV.out (HK15.out.t.t.t.t.t.t.t.t.g) (HK15.out.g)).mono ?_
              rintro e v1 ⟨m26, rfl, hb, hr26⟩
              have HK16 : Hid (Bag _ v1) := (HK15.out.later hb).add (F := Rdn (evR P N x8) m26 N) (Rdn.lat _ _ _) (hr26)
              clear HK15 hb hr26
              obtain ⟨⟨d0, d1, d2⟩, dl⟩ := HK16.out.t.t.t.t.t.t.g
              go_wp2_with (first | (go_at_call 15; refine stop_here ?_))
              unfold Stop
              clear d0 d1 d2 dl
              refine calls_named ?_
              intro v2 hv2
              obtain ⟨b26, hb26⟩ : ∃ b, b = v1.heap.size := ⟨_, rfl⟩
              simp only [← hb26]
              have hbw : Below v1.heap.size v1 v2 := by rw [hv2]; first | exact Below.refl _ _ | (repeat (first | (with_reducible exact Below.refl _ _) | (with_reducible assumption) | (with_reducible refine below_then ?_ (by assumption)) | (with_reducible refine Below.trans ?_ (by assumption)) | (with_reducible refine below_drewN ?_ _) | (with_reducible apply Below.drew) | (with_reducible refine below_alloc ?_ _) | refine Below.setCell ?_ (by first | (simp; done) | (simp; omega)) _))
              have HK17 : Hid (Bag _ v2) := (HK16.out.later hbw).add (F := Var b26 (.slice m26.p1 N m26.c1) (.slice m26.p2 N m26.c2) (.slice m26.p3 N m26.c3) (.slice m26.p4 N m26.c4)) (Var.lat _ _ _ _ _) (by show Var b26 (.slice m26.p1 N m26.c1) (.slice m26.p2 N m26.c2) (.slice m26.p3 N m26.c3) (.slice m26.p4 N m26.c4) v2; rw [hv2, hb26]; exact ⟨⟨by go_simp, by go_simp, by go_simp, by go_simp⟩, by first | (simp; done) | (simp; omega)⟩)
              clear HK16 hv2 hbw hb26
              refine (rc_even HEV.out (HK17.out.t.g)).mono ?_
              rintro e v3 ⟨m28, rfl, hb, hr28⟩
              have hrr := Lib.hid hr28
              have HK18 : Hid (Bag _ v3) := (HK17.out.later hb).add (F := Rdn (stepR (evR P N x8) ⟨k, x8, 1065353216⟩ ⟨k, x8, 1065353216⟩ 1048576000) m28 N) (Rdn.lat _ _ _) (hr28)
              clear HK17 hb hr28 hrr
              obtain ⟨⟨d0, d1, d2⟩, dl⟩ := HK18.out.t.t.t.t.t.t.t.t.g
              obtain ⟨⟨g0, g1, g2, g3⟩, gl⟩ := HK18.out.t.g
              go_wp2_with (first | (go_at_call 12; refine stop_here ?_))
              unfold Stop
              clear d0 d1 d2 dl g0 g1 g2 g3 gl
              refine calls_named ?_
              intro v4 hv4
              obtain ⟨b28, hb28⟩ : ∃ b, b = v3.heap.size := ⟨_, rfl⟩
              simp only [← hb28]
              have hbw : Below v3.heap.size v3 v4 := by rw [hv4]; first | exact Below.refl _ _ | (repeat (first | (with_reducible exact Below.refl _ _) | (with_reducible assumption) | (with_reducible refine below_then ?_ (by assumption)) | (with_reducible refine Below.trans ?_ (by assumption)) | (with_reducible refine below_drewN ?_ _) | (with_reducible apply Below.drew) | (with_reducible refine below_alloc ?_ _) | refine Below.setCell ?_ (by first | (simp; done) | (simp; omega)) _))
              have HK19 : Hid (Bag _ v4) := (HK18.out.later hbw).add (F := Var b28 (.slice m28.p1 N m28.c1) (.slice m28.p2 N m28.c2) (.slice m28.p3 N m28.c3) (.slice m28.p4 N m28.c4)) (Var.lat _ _ _ _ _) (by show Var b28 (.slice m28.p1 N m28.c1) (.slice m28.p2 N m28.c2) (.slice m28.p3 N m28.c3) (.slice m28.p4 N m28.c4) v4; rw [hv4, hb28]; exact ⟨⟨by go_simp, by go_simp, by go_simp, by go_simp⟩, by first | (simp; done) | (simp; omega)⟩)
              clear HK18 hv4 hbw hb28
              refine (rc_held HEV.out (HK19.out.t.t.t.g)).mono ?_
              rintro e v5 ⟨m30, rfl, hb, hr30⟩
              have HK20 : Hid (Bag _ v5) := (HK19.out.later hb).add (F := Rdn (rwsR (evR P N x8) ⟨k, x8, 1065353216⟩ ⟨k, x8, 1065353216⟩ 1048576000) m30 N) (Rdn.lat _ _ _) (hr30)
              clear HK19 hb hr30
              obtain ⟨⟨d0, d1, d2⟩, dl⟩ := HK20.out.t.t.t.t.t.t.t.t.t.t.g
              obtain ⟨⟨g0, g1, g2, g3⟩, gl⟩ := HK20.out.t.t.t.g
              go_wp2_with (first | (go_at_call 11; refine stop_here ?_))
              unfold Stop
              clear d0 d1 d2 dl g0 g1 g2 g3 gl
              refine calls_named ?_
              intro v6 hv6
              obtain ⟨b30, hb30⟩ : ∃ b, b = v5.heap.size := ⟨_, rfl⟩
              simp only [← hb30]
              have hbw : Below v5.heap.size v5 v6 := by rw [hv6]; first | exact Below.refl _ _ | (repeat (first | (with_reducible exact Below.refl _ _) | (with_reducible assumption) | (with_reducible refine below_then ?_ (by assumption)) | (with_reducible refine Below.trans ?_ (by assumption)) | (with_reducible refine below_drewN ?_ _) | (with_reducible apply Below.drew) | (with_reducible refine below_alloc ?_ _) | refine Below.setCell ?_ (by first | (simp; done) | (simp; omega)) _))
              have HK21 : Hid (Bag _ v6) := (HK20.out.later hbw).add (F := Var b30 (.slice m30.p1 N m30.c1) (.slice m30.p2 N m30.c2) (.slice m30.p3 N m30.c3) (.slice m30.p4 N m30.c4)) (Var.lat _ _ _ _ _) (by show Var b30 (.slice m30.p1 N m30.c1) (.slice m30.p2 N m30.c2) (.slice m30.p3 N m30.c3) (.slice m30.p4 N m30.c4) v6; rw [hv6, hb30]; exact ⟨⟨by go_simp, by go_simp, by go_simp, by go_simp⟩, by first | (simp; done) | (simp; omega)⟩)
              clear HK20 hv6 hbw hb30
              refine (rc_flows HEV.out (HK21.out.t.t.t.t.t.g)).mono ?_
              rintro e v7 ⟨q32, c32, ys32, rfl, hb, hl32, hn32, hv32⟩
              have HN32 := Lib.hid hn32
              have HV32 := Lib.hid hv32
              have HK22 : Hid (Bag _ v7) := (HK21.out.later hb).add (F := Lst (.slice q32 (N + 1) c32) ys32) (Lst.lat _ _) (hl32)
              clear HK21 hb hl32 hn32 hv32
              obtain ⟨⟨d0, d1, d2, d3⟩, dl⟩ := HK22.out.t.t.t.g
              obtain ⟨⟨g0, g1, g2, g3⟩, gl⟩ := HK22.out.t.t.t.t.t.g
              have hx := H10.out
              have hy := H19.out
              have hs := HS0.out
              obtain ⟨g1, f1⟩ := (HWR.out.dr hN6).law2 (shE_ge 8 (by decide)) (shE_ge 8 (by decide)) rfl rfl
              generalize heatK (stepR P shE shE 1015021568) N = YH at hy g1 f1
              generalize heatK P N = XH at hx g1 f1
              generalize szW P N = SZ at hs f1
              have HG := Lib.hid (fun x y w hx hy => rc_gap (X := wide YH) (Y := wide XH) x y w hx hy g1)
              simp only [cTho] at f1
              clear g1
              go_wp2_with (first | (with_reducible refine at_list ?_; refine wpList_fop rfl rfl rfl rfl rfl ?_; intro r n hr0; have hr := hr0 _ _ (by first | with_reducible assumption | exact rfl) (by first | with_reducible assumption | exact rfl); clear hr0) | (with_reducible refine at_list ?_; refine wpList_neg rfl rfl rfl ?_; intro r hr0; have hr := hr0 _ (by first | with_reducible assumption | exact rfl); clear hr0) | (with_reducible refine at_list ?_; refine wpList_fop_g rfl rfl rfl rfl rfl ?_; intro r n hr0; have hr := hr0 _ _ (by first | with_reducible assumption | exact rfl) (by first | with_reducible assumption | exact rfl); clear hr0) | (with_reducible refine at_list ?_; refine wpList_wide_g rfl rfl Try.underlying28 Try.underlying39 rfl ?_; intro r n hr0; have hr := hr0 _ (by first | with_reducible assumption | exact rfl); clear hr0) | (with_reducible refine at_list ?_; refine wpList_wide rfl rfl rfl Try.underlying28 Try.underlying39 ?_; intro r n hr0; have hr := hr0 _ (by first | with_reducible assumption | exact rfl); clear hr0) | (go_at_call 22; refine stop_here ?_) | (go_at_call 18; refine (implHeatOf_any _ _ _ (by assumption)).mono ?_; rintro e w' ⟨r, rfl, hr, hb⟩; obtain ⟨hT, hk⟩ := bv_next hb (by (repeat (with_reducible first | assumption | apply Trk.alloc | apply Trk.setCell | apply Trk.drewN | apply Trk.drew | exact Trk.nil _))); simp only [SameOn, World.size_alloc, World.size_setCell, World.size_drew, size_drewN', and_true] at hk; have hsz := Below.size hb; (try simp only [World.size_alloc, World.size_setCell, World.size_drew, size_drewN'] at hsz)) | (go_at_call 19; refine (implMeanOf_any _ _ _ (by assumption)).mono ?_; rintro e w' ⟨r, rfl, hr, hb⟩; obtain ⟨hT, hk⟩ := bv_next hb (by (repeat (with_reducible first | assumption | apply Trk.alloc | apply Trk.setCell | apply Trk.drewN | apply Trk.drew | exact Trk.nil _))); simp only [SameOn, World.size_alloc, World.size_setCell, World.size_drew, size_drewN', and_true] at hk; have hsz := Below.size hb; (try simp only [World.size_alloc, World.size_setCell, World.size_drew, size_drewN'] at hsz)) | (go_at_call 13; refine ((HG.out _ _ _ (by with_reducible assumption) (by with_reducible assumption)) ).mono ?_; rintro e w' ⟨r, rfl, hr, n, rfl⟩) | (go_at_call 11; refine (implFlowsR_any _ _ _ _ _ (by assumption)).mono ?_; rintro e w' ⟨u, ys, rfl, hb, hO, hL⟩; obtain ⟨pu, cu, rfl⟩ := OF.shape hO; (try simp only [World.size_alloc, World.size_setCell, World.size_drew, World.drewN] at hO); obtain ⟨hT, hk⟩ := bv_next hb (by (repeat (with_reducible first | assumption | apply Trk.alloc | apply Trk.setCell | apply Trk.drewN | apply Trk.drew | exact Trk.nil _))); simp only [SameOn, World.size_alloc, World.size_setCell, World.size_drew, size_drewN', and_true] at hk; have hsz := Below.size hb; (try simp only [World.size_alloc, World.size_setCell, World.size_drew, size_drewN'] at hsz)) | (go_at_call 25; refine (implHinder_any _ _ _ (by assumption)).mono ?_; rintro e w' ⟨r, rfl, hr, hb⟩; obtain ⟨hT, hk⟩ := bv_next hb (by (repeat (with_reducible first | assumption | apply Trk.alloc | apply Trk.setCell | apply Trk.drewN | apply Trk.drew | exact Trk.nil _))); simp only [SameOn, World.size_alloc, World.size_setCell, World.size_drew, size_drewN', and_true] at hk; have hsz := Below.size hb; (try simp only [World.size_alloc, World.size_setCell, World.size_drew, size_drewN'] at hsz)) | (go_at_call 26; refine (implLong_any _ _ _ (by assumption)).mono ?_; rintro e w' ⟨r, rfl, hr, hb⟩; obtain ⟨hT, hk⟩ := bv_next hb (by (repeat (with_reducible first | assumption | apply Trk.alloc | apply Trk.setCell | apply Trk.drewN | apply Trk.drew | exact Trk.nil _))); simp only [SameOn, World.size_alloc, World.size_setCell, World.size_drew, size_drewN', and_true] at hk; have hsz := Below.size hb; (try simp only [World.size_alloc, World.size_setCell, World.size_drew, size_drewN'] at hsz)))
              unfold Stop
              clear hx hy hs f1 HG d0 d1 d2 d3 dl g0 g1 g2 g3 gl
              (repeat (clear hr))
              refine calls_named ?_
              intro v8 hv8
              have hbw : Below v7.heap.size v7 v8 := by rw [hv8]; first | exact Below.refl _ _ | (repeat (first | (with_reducible exact Below.refl _ _) | (with_reducible assumption) | (with_reducible refine below_then ?_ (by assumption)) | (with_reducible refine Below.trans ?_ (by assumption)) | (with_reducible refine below_drewN ?_ _) | (with_reducible apply Below.drew) | (with_reducible refine below_alloc ?_ _) | refine Below.setCell ?_ (by first | (simp; done) | (simp; omega)) _))
              have HK23 : Hid (Bag _ v8) := HK22.out.later hbw
              clear HK22 hv8 hbw
              refine (rc_kept HEV.out HWF.out (HK23.out.t.t.t.t.g) (HK23.out.t.t.t.t.t.t.g)).mono ?_
              rintro e v9 ⟨rfl, hb⟩
              have HK24 : Hid (Bag _ v9) := HK23.out.later hb
              clear HK23 hb
              have hN1i : ((N + 1 : Nat) : Int) = (N : Int) + 1 := by omega
              go_wp2
              refine wp_named ?_
              intro wf hwf
              have hbw : Below v9.heap.size v9 wf := by rw [hwf]; first | exact Below.refl _ _ | (repeat (first | (with_reducible exact Below.refl _ _) | (with_reducible assumption) | (with_reducible refine below_then ?_ (by assumption)) | (with_reducible refine Below.trans ?_ (by assumption)) | (with_reducible refine below_drewN ?_ _) | (with_reducible apply Below.drew) | (with_reducible refine below_alloc ?_ _) | refine Below.setCell ?_ (by first | (simp; done) | (simp; omega)) _))
              have HK25 : Hid (Bag _ wf) := HK24.out.later hbw
              clear HK24 hwf hbw hN1i
              obtain ⟨bf, of', rfl, hcf⟩ := Lst.at (HK25.out.g) HN32.out (by omega)
              have hoH := HK25.out.t.t.g
              obtain ⟨bh, oh, eh, hch⟩ := Lst.at (q := m30.p4) (n := N) (c := m30.c4) (xs := (rwsR (evR P N x8) ⟨k, x8, 1065353216⟩ ⟨k, x8, 1065353216⟩ 1048576000).d) (by have := hoH.2.2.2.2; rwa [hoH.1.2.2.2] at this) hoH.1.2.2.2 (by omega)
              have HCF := Lib.hid hcf
              have HCH := Lib.hid hch
              have HDH := Lib.hid (HK25.out.t.g)
              have HEH := Lib.hid eh
              clear hcf hch hoH eh
              go_loopw [34] (fun t wr => ∃ (i : Nat), i ≤ N ∧ t = .int .i64 (i : Int) ∧ Hid (Below wf.heap.size wf wr)) (fun t _ => N - (intOf t).toNat)
              case atStart => exact ⟨0, by omega, rfl, Below.refl _ _⟩
              case round =>
                obtain ⟨i, hiN'', rfl, HW⟩ := hrel
                have hbW := HW.out
                by_cases hi : i < N
                · have hii : (i : Int) < (N : Int) := by omega
                  obtain ⟨⟨d0, d1, d2, d3⟩, dl⟩ := Var.lat _ _ _ _ _ _ _ HDH.out hbW
                  have eh := HEH.out
                  rw [eh] at d3
                  clear eh d0 d1 d2
                  have c1 := cell_later hbW (HCF.out i (by omega))
                  have c2 := cell_later hbW (HCH.out i hi)
                  have f0 := HV32.out i hi
                  have hx := H8.out
                  obtain ⟨g1, g2, f1⟩ := HEV.out.law hi
                  generalize (rwsR (evR P N x8) ⟨k, x8, 1065353216⟩ ⟨k, x8, 1065353216⟩ 1048576000).d.getD i 0 = yd at c2 g1 f1
                  generalize ys32.getD i 0 = yf at c1 f0
                  generalize wmW t = WT at hx g1 g2 f1
                  have HG1 := Lib.hid (fun x y w hx hy => rc_gap (X := wide (cn .f32 yd)) (Y := wide WT) x y w hx hy g1)
                  have HG2 := Lib.hid (fun x w hx => rc_gap (X := wide WT) (Y := cn .f64 0) x 0 w hx rfl g2)
                  simp only [cTho] at f1
                  clear g1 g2
                  have hT : Trk wr [b30, bf, bh] := (((Trk.nil wr).more (World.block_lt_of_cell? _ _ c2)).more (World.block_lt_of_cell? _ _ c1)).more dl
                  go_wp2_with (first | (with_reducible refine at_list ?_; refine wpList_fop rfl rfl rfl rfl rfl ?_; intro r n hr0; have hr := hr0 _ _ (by first | with_reducible assumption | exact rfl) (by first | with_reducible assumption | exact rfl); clear hr0) | (with_reducible refine at_list ?_; refine wpList_neg rfl rfl rfl ?_; intro r hr0; have hr := hr0 _ (by first | with_reducible assumption | exact rfl); clear hr0) | (with_reducible refine at_list ?_; refine wpList_fop_g rfl rfl rfl rfl rfl ?_; intro r n hr0; have hr := hr0 _ _ (by first | with_reducible assumption | exact rfl) (by first | with_reducible assumption | exact rfl); clear hr0) | (with_reducible refine at_list ?_; refine wpList_wide_g rfl rfl Try.underlying28 Try.underlying39 rfl ?_; intro r n hr0; have hr := hr0 _ (by first | with_reducible assumption | exact rfl); clear hr0) | (with_reducible refine at_list ?_; refine wpList_wide rfl rfl rfl Try.underlying28 Try.underlying39 ?_; intro r n hr0; have hr := hr0 _ (by first | with_reducible assumption | exact rfl); clear hr0) | (go_at_call 18; refine (implHeatOf_any _ _ _ (by assumption)).mono ?_; rintro e w' ⟨r, rfl, hr, hb⟩; obtain ⟨hT, hk⟩ := bv_next hb (by (repeat (with_reducible first | assumption | apply Trk.alloc | apply Trk.setCell | apply Trk.drewN | apply Trk.drew | exact Trk.nil _))); simp only [SameOn, World.size_alloc, World.size_setCell, World.size_drew, size_drewN', and_true] at hk; have hsz := Below.size hb; (try simp only [World.size_alloc, World.size_setCell, World.size_drew, size_drewN'] at hsz)) | (go_at_call 19; refine (implMeanOf_any _ _ _ (by assumption)).mono ?_; rintro e w' ⟨r, rfl, hr, hb⟩; obtain ⟨hT, hk⟩ := bv_next hb (by (repeat (with_reducible first | assumption | apply Trk.alloc | apply Trk.setCell | apply Trk.drewN | apply Trk.drew | exact Trk.nil _))); simp only [SameOn, World.size_alloc, World.size_setCell, World.size_drew, size_drewN', and_true] at hk; have hsz := Below.size hb; (try simp only [World.size_alloc, World.size_setCell, World.size_drew, size_drewN'] at hsz)) | (go_at_call 13; refine ((HG1.out _ _ _ (by with_reducible assumption) (by with_reducible assumption)) ).mono ?_; rintro e w' ⟨r, rfl, hr, n, rfl⟩) | (go_at_call 13; refine ((HG2.out _ _ (by with_reducible assumption)) ).mono ?_; rintro e w' ⟨r, rfl, hr, n, rfl⟩) | (go_at_call 11; refine (implFlowsR_any _ _ _ _ _ (by assumption)).mono ?_; rintro e w' ⟨u, ys, rfl, hb, hO, hL⟩; obtain ⟨pu, cu, rfl⟩ := OF.shape hO; (try simp only [World.size_alloc, World.size_setCell, World.size_drew, World.drewN] at hO); obtain ⟨hT, hk⟩ := bv_next hb (by (repeat (with_reducible first | assumption | apply Trk.alloc | apply Trk.setCell | apply Trk.drewN | apply Trk.drew | exact Trk.nil _))); simp only [SameOn, World.size_alloc, World.size_setCell, World.size_drew, size_drewN', and_true] at hk; have hsz := Below.size hb; (try simp only [World.size_alloc, World.size_setCell, World.size_drew, size_drewN'] at hsz)) | (go_at_call 25; refine (implHinder_any _ _ _ (by assumption)).mono ?_; rintro e w' ⟨r, rfl, hr, hb⟩; obtain ⟨hT, hk⟩ := bv_next hb (by (repeat (with_reducible first | assumption | apply Trk.alloc | apply Trk.setCell | apply Trk.drewN | apply Trk.drew | exact Trk.nil _))); simp only [SameOn, World.size_alloc, World.size_setCell, World.size_drew, size_drewN', and_true] at hk; have hsz := Below.size hb; (try simp only [World.size_alloc, World.size_setCell, World.size_drew, size_drewN'] at hsz)) | (go_at_call 26; refine (implLong_any _ _ _ (by assumption)).mono ?_; rintro e w' ⟨r, rfl, hr, hb⟩; obtain ⟨hT, hk⟩ := bv_next hb (by (repeat (with_reducible first | assumption | apply Trk.alloc | apply Trk.setCell | apply Trk.drewN | apply Trk.drew | exact Trk.nil _))); simp only [SameOn, World.size_alloc, World.size_setCell, World.size_drew, size_drewN', and_true] at hk; have hsz := Below.size hb; (try simp only [World.size_alloc, World.size_setCell, World.size_drew, size_drewN'] at hsz)))
                  go_roundw
                  case rel => exact ⟨i + 1, by omega, by go_num, by show Below _ _ _; exact below_then hbW (by (repeat (first | (with_reducible exact Below.refl _ _) | (with_reducible assumption) | (with_reducible refine below_then ?_ (by assumption)) | (with_reducible refine Below.trans ?_ (by assumption)) | (with_reducible refine below_drewN ?_ _) | (with_reducible apply Below.drew) | (with_reducible refine below_alloc ?_ _) | refine Below.setCell ?_ (by first | (simp; done) | (simp; omega)) _)))⟩
                  case measure => simp [intOf]; omega
                · have hie : N = i := by omega
                  subst hie
                  have hii : ¬ (N : Int) < (N : Int) := by omega
                  rename World => wg
                  have HK26 : Hid (Bag _ wg) := HK25.out.later hbW
                  clear HK25 HW hbW HCF HCH HDH HEH HV32 HN32 HEV H8 HT H19
                  obtain ⟨⟨d0, d1, d2, d3⟩, dl⟩ := HK26.out.t.t.t.t.t.t.t.t.t.t.t.t.t.t.g
                  go_wp2_with (first | (go_at_call 23; refine stop_here ?_))
                  unfold Stop
                  clear d0 d1 d2 d3 dl hii
                  refine (rc_back HWR.out (HK26.out.t.t.t.t.t.t.t.t.t.t.t.t.t.t.t.g)).mono ?_
                  rintro e u1 ⟨m35, rfl, hb, hr35⟩
                  have HK27 : Hid (Bag _ u1) := (HK26.out.later hb).add (F := Rdn (bkR P) m35 N) (Rdn.lat _ _ _) (hr35)
                  clear HK26 hb hr35
                  go_wp2_with (first | (go_at_call 23; refine stop_here ?_))
                  unfold Stop
                  refine calls_named ?_
                  intro u2 hu2
                  obtain ⟨b35, hb35⟩ : ∃ b, b = u1.heap.size := ⟨_, rfl⟩
                  simp only [← hb35]
                  have hbw : Below u1.heap.size u1 u2 := by rw [hu2]; first | exact Below.refl _ _ | (repeat (first | (with_reducible exact Below.refl _ _) | (with_reducible assumption) | (with_reducible refine below_then ?_ (by assumption)) | (with_reducible refine Below.trans ?_ (by assumption)) | (with_reducible refine below_drewN ?_ _) | (with_reducible apply Below.drew) | (with_reducible refine below_alloc ?_ _) | refine Below.setCell ?_ (by first | (simp; done) | (simp; omega)) _))
                  have HK28 : Hid (Bag _ u2) := (HK27.out.later hbw).add (F := Var b35 (.slice m35.p1 N m35.c1) (.slice m35.p2 N m35.c2) (.slice m35.p3 N m35.c3) (.slice m35.p4 N m35.c4)) (Var.lat _ _ _ _ _) (by show Var b35 (.slice m35.p1 N m35.c1) (.slice m35.p2 N m35.c2) (.slice m35.p3 N m35.c3) (.slice m35.p4 N m35.c4) u2; rw [hu2, hb35]; exact ⟨⟨by go_simp, by go_simp, by go_simp, by go_simp⟩, by first | (simp; done) | (simp; omega)⟩)
                  clear HK27 hu2 hbw hb35
                  refine (rc_again HWR.out.bk (HK28.out.t.g)).mono ?_
                  rintro e u3 ⟨m37, rfl, hb, hr37⟩
                  have HK29 : Hid (Bag _ u3) := (HK28.out.later hb).add (F := Rdn P m37 N) (Rdn.lat _ _ _) (hr37)
                  clear HK28 hb hr37
                  obtain ⟨⟨d0, d1, d2, d3⟩, dl⟩ := HK29.out.t.t.t.t.t.t.t.t.t.t.t.t.t.t.t.t.t.g
                  obtain ⟨⟨g0, g1, g2, g3⟩, gl⟩ := HK29.out.t.g
                  go_wp2_with (first | (go_at_call 24; refine stop_here ?_))
                  unfold Stop
                  clear d0 d1 d2 d3 dl g0 g1 g2 g3 gl
                  refine calls_named ?_
                  intro u4 hu4
                  obtain ⟨b37, hb37⟩ : ∃ b, b = u3.heap.size := ⟨_, rfl⟩
                  simp only [← hb37]
                  have hbw : Below u3.heap.size u3 u4 := by rw [hu4]; first | exact Below.refl _ _ | (repeat (first | (with_reducible exact Below.refl _ _) | (with_reducible assumption) | (with_reducible refine below_then ?_ (by assumption)) | (with_reducible refine Below.trans ?_ (by assumption)) | (with_reducible refine below_drewN ?_ _) | (with_reducible apply Below.drew) | (with_reducible refine below_alloc ?_ _) | refine Below.setCell ?_ (by first | (simp; done) | (simp; omega)) _))
                  have HK30 : Hid (Bag _ u4) := (HK29.out.later hbw).add (F := Var b37 (.slice m37.p1 N m37.c1) (.slice m37.p2 N m37.c2) (.slice m37.p3 N m37.c3) (.slice m37.p4 N m37.c4)) (Var.lat _ _ _ _ _) (by show Var b37 (.slice m37.p1 N m37.c1) (.slice m37.p2 N m37.c2) (.slice m37.p3 N m37.c3) (.slice m37.p4 N m37.c4) u4; rw [hu4, hb37]; exact ⟨⟨by go_simp, by go_simp, by go_simp, by go_simp⟩, by first | (simp; done) | (simp; omega)⟩)
                  clear HK29 hu4 hbw hb37
                  refine (rc_join HWR.out hN6 (HK30.out.t.t.t.t.t.t.t.t.t.t.t.t.t.t.t.t.t.t.t.g) (HK30.out.t.t.t.g)).mono ?_
                  rintro e u5 ⟨m39, rfl, hb, hr39⟩
                  have HK31 : Hid (Bag _ u5) := (HK30.out.later hb).add (F := Rdn (joinR P (bkR P)) m39 (N + N)) (Rdn.lat _ _ _) (hr39)
                  clear HK30 hb hr39
                  obtain ⟨⟨d0, d1, d2, d3⟩, dl⟩ := HK31.out.t.t.t.t.t.t.t.t.t.t.t.t.t.t.t.t.t.t.t.g
                  go_wp2_with (first | (go_at_call 25; refine stop_here ?_))
                  unfold Stop
                  clear d0 d1 d2 d3 dl
                  refine calls_named ?_
                  intro u6 hu6
                  obtain ⟨b39, hb39⟩ : ∃ b, b = u5.heap.size := ⟨_, rfl⟩
                  simp only [← hb39]
                  have hbw : Below u5.heap.size u5 u6 := by rw [hu6]; first | exact Below.refl _ _ | (repeat (first | (with_reducible exact Below.refl _ _) | (with_reducible assumption) | (with_reducible refine below_then ?_ (by assumption)) | (with_reducible refine Below.trans ?_ (by assumption)) | (with_reducible refine below_drewN ?_ _) | (with_reducible apply Below.drew) | (with_reducible refine below_alloc ?_ _) | refine Below.setCell ?_ (by first | (simp; done) | (simp; omega)) _))
                  have HK32 : Hid (Bag _ u6) := (HK31.out.later hbw).add (F := Var b39 (.slice m39.p1 (N + N) m39.c1) (.slice m39.p2 (N + N) m39.c2) (.slice m39.p3 (N + N) m39.c3) (.slice m39.p4 (N + N) m39.c4)) (Var.lat _ _ _ _ _) (by show Var b39 (.slice m39.p1 (N + N) m39.c1) (.slice m39.p2 (N + N) m39.c2) (.slice m39.p3 (N + N) m39.c3) (.slice m39.p4 (N + N) m39.c4) u6; rw [hu6, hb39]; exact ⟨⟨by go_simp, by go_simp, by go_simp, by go_simp⟩, by first | (simp; done) | (simp; omega)⟩)
                  clear HK31 hu6 hbw hb39
                  refine (rc_hind HWR.out (HK32.out.t.t.t.t.t.t.t.t.t.t.t.t.t.t.t.t.t.t.t.t.t.g)).mono ?_
                  rintro e u7 ⟨x41, rfl, h41, hb⟩
                  have H41 := Lib.hid h41
                  have HK33 : Hid (Bag _ u7) := HK32.out.later hb
                  clear HK32 hb h41
                  obtain ⟨⟨d0, d1, d2, d3⟩, dl⟩ := HK33.out.g
                  go_wp2_with (first | (go_at_call 25; refine stop_here ?_))
                  unfold Stop
                  clear d0 d1 d2 d3 dl
                  refine (rc_hind (HWR.out.tw hN6) (HK33.out.t.g)).mono ?_
                  rintro e u8 ⟨x43, rfl, h43, hb⟩
                  have H43 := Lib.hid h43
                  have HK34 : Hid (Bag _ u8) := HK33.out.later hb
                  clear HK33 hb h43
                  obtain ⟨⟨d0, d1, d2, d3⟩, dl⟩ := HK34.out.t.t.t.t.t.t.t.t.t.t.t.t.t.t.t.t.t.t.t.t.g
                  go_wp2_with (first | (go_at_call 26; refine stop_here ?_))
                  unfold Stop
                  clear d0 d1 d2 d3 dl
                  refine (rc_long HWR.out (HK34.out.t.t.t.t.t.t.t.t.t.t.t.t.t.t.t.t.t.t.t.t.t.g)).mono ?_
                  rintro e u9 ⟨x45, rfl, h45, hb⟩
                  have H45 := Lib.hid h45
                  have HK35 : Hid (Bag _ u9) := HK34.out.later hb
                  clear HK34 hb h45
                  obtain ⟨⟨d0, d1, d2, d3⟩, dl⟩ := HK35.out.g
                  go_wp2_with (first | (go_at_call 26; refine stop_here ?_))
                  unfold Stop
                  clear d0 d1 d2 d3 dl
                  refine (rc_long (HWR.out.tw hN6) (HK35.out.t.g)).mono ?_
                  rintro e u10 ⟨x47, rfl, h47, hb⟩
                  have H47 := Lib.hid h47
                  have HK36 : Hid (Bag _ u10) := HK35.out.later hb
                  clear HK35 hb h47
                  obtain ⟨⟨d0, d1, d2, d3⟩, dl⟩ := HK36.out.g
                  go_wp2_with (first | (go_at_call 19; refine stop_here ?_))
                  unfold Stop
                  clear d0 d1 d2 d3 dl
                  refine (rc_mean (HWR.out.tw hN6) (HK36.out.t.g)).mono ?_
                  rintro e u11 ⟨x49, rfl, h49, hb⟩
                  have H49 := Lib.hid h49
                  have HK37 : Hid (Bag _ u11) := HK36.out.later hb
                  clear HK36 hb h49
                  obtain ⟨⟨d0, d1, d2, d3⟩, dl⟩ := HK37.out.t.t.g
                  obtain ⟨⟨g0, g1, g2, g3⟩, gl⟩ := HK37.out.t.t.t.t.t.t.t.t.t.t.t.t.t.t.t.t.t.t.t.t.g
                  go_upto_region 49 with (first | (with_reducible refine at_list ?_; refine wpList_fop rfl rfl rfl rfl rfl ?_; intro r n hr0; have hr := hr0 _ _ (by first | with_reducible assumption | exact rfl) (by first | with_reducible assumption | exact rfl); clear hr0) | (with_reducible refine at_list ?_; refine wpList_neg rfl rfl rfl ?_; intro r hr0; have hr := hr0 _ (by first | with_reducible assumption | exact rfl); clear hr0) | (with_reducible refine at_list ?_; refine wpList_fop_g rfl rfl rfl rfl rfl ?_; intro r n hr0; have hr := hr0 _ _ (by first | with_reducible assumption | exact rfl) (by first | with_reducible assumption | exact rfl); clear hr0) | (with_reducible refine at_list ?_; refine wpList_wide_g rfl rfl Try.underlying28 Try.underlying39 rfl ?_; intro r n hr0; have hr := hr0 _ (by first | with_reducible assumption | exact rfl); clear hr0) | (with_reducible refine at_list ?_; refine wpList_wide rfl rfl rfl Try.underlying28 Try.underlying39 ?_; intro r n hr0; have hr := hr0 _ (by first | with_reducible assumption | exact rfl); clear hr0) | (go_at_call 18; refine (implHeatOf_any _ _ _ (by assumption)).mono ?_; rintro e w' ⟨r, rfl, hr, hb⟩; obtain ⟨hT, hk⟩ := bv_next hb (by (repeat (with_reducible first | assumption | apply Trk.alloc | apply Trk.setCell | apply Trk.drewN | apply Trk.drew | exact Trk.nil _))); simp only [SameOn, World.size_alloc, World.size_setCell, World.size_drew, size_drewN', and_true] at hk; have hsz := Below.size hb; (try simp only [World.size_alloc, World.size_setCell, World.size_drew, size_drewN'] at hsz)) | (go_at_call 19; refine (implMeanOf_any _ _ _ (by assumption)).mono ?_; rintro e w' ⟨r, rfl, hr, hb⟩; obtain ⟨hT, hk⟩ := bv_next hb (by (repeat (with_reducible first | assumption | apply Trk.alloc | apply Trk.setCell | apply Trk.drewN | apply Trk.drew | exact Trk.nil _))); simp only [SameOn, World.size_alloc, World.size_setCell, World.size_drew, size_drewN', and_true] at hk; have hsz := Below.size hb; (try simp only [World.size_alloc, World.size_setCell, World.size_drew, size_drewN'] at hsz)) | (go_at_call 13; refine (r8Gap_any _ _ _ (by assumption)).mono ?_; rintro e w' ⟨r, rfl, hr, n, rfl⟩) | (go_at_call 11; refine (implFlowsR_any _ _ _ _ _ (by assumption)).mono ?_; rintro e w' ⟨u, ys, rfl, hb, hO, hL⟩; obtain ⟨pu, cu, rfl⟩ := OF.shape hO; (try simp only [World.size_alloc, World.size_setCell, World.size_drew, World.drewN] at hO); obtain ⟨hT, hk⟩ := bv_next hb (by (repeat (with_reducible first | assumption | apply Trk.alloc | apply Trk.setCell | apply Trk.drewN | apply Trk.drew | exact Trk.nil _))); simp only [SameOn, World.size_alloc, World.size_setCell, World.size_drew, size_drewN', and_true] at hk; have hsz := Below.size hb; (try simp only [World.size_alloc, World.size_setCell, World.size_drew, size_drewN'] at hsz)) | (go_at_call 25; refine (implHinder_any _ _ _ (by assumption)).mono ?_; rintro e w' ⟨r, rfl, hr, hb⟩; obtain ⟨hT, hk⟩ := bv_next hb (by (repeat (with_reducible first | assumption | apply Trk.alloc | apply Trk.setCell | apply Trk.drewN | apply Trk.drew | exact Trk.nil _))); simp only [SameOn, World.size_alloc, World.size_setCell, World.size_drew, size_drewN', and_true] at hk; have hsz := Below.size hb; (try simp only [World.size_alloc, World.size_setCell, World.size_drew, size_drewN'] at hsz)) | (go_at_call 26; refine (implLong_any _ _ _ (by assumption)).mono ?_; rintro e w' ⟨r, rfl, hr, hb⟩; obtain ⟨hT, hk⟩ := bv_next hb (by (repeat (with_reducible first | assumption | apply Trk.alloc | apply Trk.setCell | apply Trk.drewN | apply Trk.drew | exact Trk.nil _))); simp only [SameOn, World.size_alloc, World.size_setCell, World.size_drew, size_drewN', and_true] at hk; have hsz := Below.size hb; (try simp only [World.size_alloc, World.size_setCell, World.size_drew, size_drewN'] at hsz)))
                  simp only [List.append]
                  go_wp2_with (first | (go_at_call 22; refine stop_here ?_))
                  unfold Stop
                  clear d0 d1 d2 d3 dl g0 g1 g2 g3 gl
                  refine calls_named ?_
                  intro u12 hu12
                  have hbw : Below u11.heap.size u11 u12 := by rw [hu12]; first | exact Below.refl _ _ | (repeat (first | (with_reducible exact Below.refl _ _) | (with_reducible assumption) | (with_reducible refine below_then ?_ (by assumption)) | (with_reducible refine Below.trans ?_ (by assumption)) | (with_reducible refine below_drewN ?_ _) | (with_reducible apply Below.drew) | (with_reducible refine below_alloc ?_ _) | refine Below.setCell ?_ (by first | (simp; done) | (simp; omega)) _))
                  have HK38 : Hid (Bag _ u12) := HK37.out.later hbw
                  clear HK37 hu12 hbw
                  refine (rc_same HWF.out (HK38.out.t.t.t.g) (HK38.out.t.t.t.t.t.t.t.t.t.t.t.t.t.t.t.t.t.t.t.t.t.g)).mono ?_
                  rintro e u13 ⟨rfl, hb⟩
                  have HK39 : Hid (Bag _ u13) := HK38.out.later hb
                  clear HK38 hb
                  have hbw : Below w.heap.size w u13 := HK39.out.t.t.t.t.t.t.t.t.t.t.t.t.t.t.t.t.t.t.t.t.t.t.g
                  have z1 := H41.out
                  have z2 := H43.out
                  have z3 := H45.out
                  have z4 := H47.out
                  have z5 := H49.out
                  have z6 := H12.out
                  have hs := HS0.out
                  obtain ⟨g3, f3⟩ := HWR.out.law3 hN6
                  obtain ⟨g4, f4⟩ := HWR.out.law4 hN6
                  obtain ⟨g5, f5⟩ := HWR.out.law5 hN6
                  generalize hindK (joinR P (bkR P)) (N + N) = Y2 at z2 g3 f3
                  generalize hindK P N = Y1 at z1 g3 f3
                  generalize accC id (joinR P (bkR P)).a = Y4 at z4 g4 f4
                  generalize accC id P.a = Y3 at z3 g4 f4
                  generalize meanQ (joinR P (bkR P)) = Y5 at z5 g5 f5
                  generalize meanQ P = Y6 at z6 g5 f5
                  generalize szW P N = SZ at hs f5
                  have HG3 := Lib.hid (fun x y w hx hy => rc_gap (X := fop .mul .f64 (cn .f64 4611686018427387904) (wide Y1)) (Y := wide Y2) x y w hx hy g3)
                  have HG4 := Lib.hid (fun x y w hx hy => rc_gap (X := fop .mul .f64 (cn .f64 4611686018427387904) (wide Y3)) (Y := wide Y4) x y w hx hy g4)
                  have HG5 := Lib.hid (fun x y w hx hy => rc_gap (X := wide Y5) (Y := wide Y6) x y w hx hy g5)
                  simp only [cTho] at f3 f4 f5
                  clear g3 g4 g5
                  go_wp2_with (first | (with_reducible refine at_list ?_; refine wpList_fop rfl rfl rfl rfl rfl ?_; intro r n hr0; have hr := hr0 _ _ (by first | with_reducible assumption | exact rfl) (by first | with_reducible assumption | exact rfl); clear hr0) | (with_reducible refine at_list ?_; refine wpList_neg rfl rfl rfl ?_; intro r hr0; have hr := hr0 _ (by first | with_reducible assumption | exact rfl); clear hr0) | (with_reducible refine at_list ?_; refine wpList_fop_g rfl rfl rfl rfl rfl ?_; intro r n hr0; have hr := hr0 _ _ (by first | with_reducible assumption | exact rfl) (by first | with_reducible assumption | exact rfl); clear hr0) | (with_reducible refine at_list ?_; refine wpList_wide_g rfl rfl Try.underlying28 Try.underlying39 rfl ?_; intro r n hr0; have hr := hr0 _ (by first | with_reducible assumption | exact rfl); clear hr0) | (with_reducible refine at_list ?_; refine wpList_wide rfl rfl rfl Try.underlying28 Try.underlying39 ?_; intro r n hr0; have hr := hr0 _ (by first | with_reducible assumption | exact rfl); clear hr0) | (go_at_call 18; refine (implHeatOf_any _ _ _ (by assumption)).mono ?_; rintro e w' ⟨r, rfl, hr, hb⟩; obtain ⟨hT, hk⟩ := bv_next hb (by (repeat (with_reducible first | assumption | apply Trk.alloc | apply Trk.setCell | apply Trk.drewN | apply Trk.drew | exact Trk.nil _))); simp only [SameOn, World.size_alloc, World.size_setCell, World.size_drew, size_drewN', and_true] at hk; have hsz := Below.size hb; (try simp only [World.size_alloc, World.size_setCell, World.size_drew, size_drewN'] at hsz)) | (go_at_call 19; refine (implMeanOf_any _ _ _ (by assumption)).mono ?_; rintro e w' ⟨r, rfl, hr, hb⟩; obtain ⟨hT, hk⟩ := bv_next hb (by (repeat (with_reducible first | assumption | apply Trk.alloc | apply Trk.setCell | apply Trk.drewN | apply Trk.drew | exact Trk.nil _))); simp only [SameOn, World.size_alloc, World.size_setCell, World.size_drew, size_drewN', and_true] at hk; have hsz := Below.size hb; (try simp only [World.size_alloc, World.size_setCell, World.size_drew, size_drewN'] at hsz)) | (go_at_call 13; refine ((HG3.out _ _ _ (by with_reducible assumption) (by with_reducible assumption)) ).mono ?_; rintro e w' ⟨r, rfl, hr, n, rfl⟩) | (go_at_call 13; refine ((HG4.out _ _ _ (by with_reducible assumption) (by with_reducible assumption)) ).mono ?_; rintro e w' ⟨r, rfl, hr, n, rfl⟩) | (go_at_call 13; refine ((HG5.out _ _ _ (by with_reducible assumption) (by with_reducible assumption)) ).mono ?_; rintro e w' ⟨r, rfl, hr, n, rfl⟩) | (go_at_call 11; refine (implFlowsR_any _ _ _ _ _ (by assumption)).mono ?_; rintro e w' ⟨u, ys, rfl, hb, hO, hL⟩; obtain ⟨pu, cu, rfl⟩ := OF.shape hO; (try simp only [World.size_alloc, World.size_setCell, World.size_drew, World.drewN] at hO); obtain ⟨hT, hk⟩ := bv_next hb (by (repeat (with_reducible first | assumption | apply Trk.alloc | apply Trk.setCell | apply Trk.drewN | apply Trk.drew | exact Trk.nil _))); simp only [SameOn, World.size_alloc, World.size_setCell, World.size_drew, size_drewN', and_true] at hk; have hsz := Below.size hb; (try simp only [World.size_alloc, World.size_setCell, World.size_drew, size_drewN'] at hsz)) | (go_at_call 25; refine (implHinder_any _ _ _ (by assumption)).mono ?_; rintro e w' ⟨r, rfl, hr, hb⟩; obtain ⟨hT, hk⟩ := bv_next hb (by (repeat (with_reducible first | assumption | apply Trk.alloc | apply Trk.setCell | apply Trk.drewN | apply Trk.drew | exact Trk.nil _))); simp only [SameOn, World.size_alloc, World.size_setCell, World.size_drew, size_drewN', and_true] at hk; have hsz := Below.size hb; (try simp only [World.size_alloc, World.size_setCell, World.size_drew, size_drewN'] at hsz)) | (go_at_call 26; refine (implLong_any _ _ _ (by assumption)).mono ?_; rintro e w' ⟨r, rfl, hr, hb⟩; obtain ⟨hT, hk⟩ := bv_next hb (by (repeat (with_reducible first | assumption | apply Trk.alloc | apply Trk.setCell | apply Trk.drewN | apply Trk.drew | exact Trk.nil _))); simp only [SameOn, World.size_alloc, World.size_setCell, World.size_drew, size_drewN', and_true] at hk; have hsz := Below.size hb; (try simp only [World.size_alloc, World.size_setCell, World.size_drew, size_drewN'] at hsz)))
                  go_ret
                  exact ⟨rfl, by (repeat (first | (with_reducible exact Below.refl _ _) | (with_reducible assumption) | (with_reducible refine below_then ?_ (by assumption)) | (with_reducible refine Below.trans ?_ (by assumption)) | (with_reducible refine below_drewN ?_ _) | (with_reducible apply Below.drew) | (with_reducible refine below_alloc ?_ _) | refine Below.setCell ?_ (by first | (simp; done) | (simp; omega)) _))⟩
set_option maxRecDepth 100000 in
set_option maxHeartbeats 2000000 in
theorem lifted_FnRods (os : Os) (started : os.Started) (H : Type) (enc : TypeId × Value → H) :
    ReturnsInHanded {} Try.checked os 4 .any (Rows.fnRodsSpec.pre6 enc Try.prog Try.f4 Rows.fnRodsRow.domain false) (Rows.fnRodsSpec.post enc Try.prog Try.f4 false true false false) := by
  refine returnsInHanded_of_change (C := Try.checked) own started (by kernel_rfl) Try.func4
    (ChangeSpec.witness6 (enc := enc) (C := Try.checked) false ⟨#[], #[.slice none 0 0, .slice none 0 0], []⟩ 8 (by kernel_rfl) (by kernel_rfl) (by kernel_rfl) (by kernel_rfl)) ?_
  intro W base args ds gs before hval0 hW hcnd _
  have hval : ∀ (j : Nat) t v, Try.f4.params[j]? = some t → args[j]? = some v → Value.okWide Try.prog W .any base t v := hval0
  have hW' := hW
  obtain ⟨p, q, hA0, hV, rfl, hfz, hnd⟩ := hW
  have hA : DataW.TrodAll enc Try.prog W 0 (fun _ => true) true Try.f4.params.toList args.toList ds p := hA0
  rw [Try.params4] at hA hval
  obtain ⟨v0, vs0, d0, ds0, p0, q0, hargs, rfl, rfl, h0, r0⟩ := trodAll_cons hA
  obtain ⟨v1, vs1, d1, ds1, p1, q1, rfl, rfl, rfl, h1, r1⟩ := trodAll_cons r0
  obtain ⟨rfl, rfl, rfl⟩ := trodAll_nil r1
  obtain rfl : args = #[v0, v1] := by cases args; simp_all
  obtain ⟨rfl, rfl⟩ := trodVars_none hV
  have k0 := h0
  have lt0 : ∀ x ∈ p0, x.block < W.heap.size := by obtain ⟨m, hm⟩ := k0; exact DataW.trod_lt m _ _ _ hm
  obtain ⟨pa, na, ca, rfl, w0⟩ := open_By (hval 0 22 v0 rfl rfl) h0
  have k1 := h1
  have lt1 : ∀ x ∈ p1, x.block < W.heap.size := by obtain ⟨m, hm⟩ := k1; exact DataW.trod_lt m _ _ _ hm
  obtain ⟨pb, nb, cb, rfl, w1⟩ := open_By (hval 1 22 v1 rfl rfl) h1
  clear hA0 hval0
  refine (walk_FnRods pa na ca pb nb cb W w0 w1).mono fun e W' ⟨he, hg⟩ => ?_
  subst he
  exact ⟨_, rfl, _, _, _, [], _, [], hW', trodAll_mk1 (shut_bool Try.underlying4 _), (trodAll_cons_mk (Below.trod laidOut (by kernel_rfl) (of_decide_eq_true (by kernel_rfl)) k0 hg lt0) (trodAll_cons_mk (Below.trod laidOut (by kernel_rfl) (of_decide_eq_true (by kernel_rfl)) k1 hg lt1) trodAll_mk0)), rfl, hg.frame _, fun h => by cases h⟩
theorem fnRods_holds : Rows.FnRodsSaid :=
  OpenClaim.holds_of_wide 4 Try.f4 rfl rfl rfl rfl rfl rfl rfl ⟨rfl, rfl, rfl, rfl, rfl⟩ rfl rfl rfl rfl rfl (by kernel_rfl) Try.func4 (by kernel_rfl)
    (of_decide_eq_true (by kernel_rfl)) (by unfold Func.isWrapper; rw [if_neg (of_decide_eq_false (by kernel_rfl))]; exact ⟨rfl, rfl⟩)
    (fun os started H enc _ => lifted_FnRods os started H enc)
end Go.Proofs.Ytpnkapdemgieaaa

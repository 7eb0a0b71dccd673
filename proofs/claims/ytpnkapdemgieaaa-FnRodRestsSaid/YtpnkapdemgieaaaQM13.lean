/-
  Rods that heat flows through evenly, no end shut: the program's way, to its end. No condition but what each contract says.
  What stands in a world and goes on standing: a bag of facts. No condition but what each law says.
  Bytes handed in: their lengths, a number chosen by one of them; how they are opened. No condition but what each contract says.
  Bytes handed in, for the laws of the other family: their lengths, a number chosen by one of them. No condition but what each contract says.
  Drawn rods: what the program answers about them goes through, and is what the plain functions tell. No condition but what each law says; nothing of the program is named here.
  Drawn rods: the even rod of the law. No condition but what each law says; nothing of the program is named here.
  What the law on rods at rest calls, with drawn rods. No condition but what each contract says.
-/
import Derived.Test.YtpnkapdemgieaaaQM12
import Derived.Test.YtpnkapdemgieaaaQM6
import Derived.Test.YtpnkapdemgieaaaQM8
import Derived.Test.YtpnkapdemgieaaaQM3
import Derived.Deep.Slices
import Derived.Test.YtpnkapdemgieaaaQM11
set_option linter.unusedSimpArgs false
set_option linter.unusedVariables false
set_option linter.unusedSectionVars false
namespace Go.Proofs.Ytpnkapdemgieaaa
open Go Go.RowKit
open Go.ChangeShapes Go.WideShapes Go.ChangeAt Go.RowKit Go.Joins
set_option maxHeartbeats 8000000 in
set_option maxRecDepth 100000 in
theorem implSteady_open (P : Rd) (l : RL) (t e t' e' : Nat) (n n' : Int) (w : World) (hs : P.fs w l) (h : endsOk P ⟨n, t, e⟩ ⟨n', t', e'⟩ = true) (hn : ¬ n = 1) (hn' : ¬ n' = 1) (R0 : Rd) (hR0 : R0 = stR P ⟨n, t, e⟩ ⟨n', t', e'⟩) (F0 : Nat) (hF0 : F0 = stFw P ⟨n, t, e⟩ ⟨n', t', e'⟩) (hp0 : stPre P ⟨n, t, e⟩ ⟨n', t', e'⟩ = true) (b0 : Bool) (hb0 : b0 = (R0.ok && fin .f32 F0)) (G0 : Nat) (hG0 : G0 = if b0 then F0 else cn .f32 0) : Calls Try.prog 10 #[.agg #[.slice l.p1 P.a.length l.c1, .slice l.p2 P.b.length l.c2, .slice l.p3 P.c.length l.c3, .slice l.p4 P.d.length l.c4], .agg #[.int .i64 n, .float .f32 t, .float .f32 e], .agg #[.int .i64 n', .float .f32 t', .float .f32 e']] w (BRFB w (okR b0 R0) G0 b0) := by
  have HGD := Lib.hid hG0
  clear hG0
  have HS := Lib.hid hs
  have hP := endsOk_rod h
  obtain ⟨hn1, hn2⟩ := (Rd.ok_len hP).1
  unfold endsOk at h
  rw [Bool.and_eq_true, Bool.and_eq_true] at h
  have HV := Lib.hid (fun w h => implValidRod_any P l w h)
  have HE1 := Lib.hid (fun w => implValidEnd_any ⟨n, t, e⟩ w)
  have HE2 := Lib.hid (fun w => implValidEnd_any ⟨n', t', e'⟩ w)
  have HA := Lib.hid (fun w h => implPassAtEnd_any P l false ⟨n, t, e⟩ w h)
  have HB := Lib.hid (fun w h => implPassAtEnd_any P l true ⟨n', t', e'⟩ w h)
  have HC := Lib.hid (fun w h => implHinder_any P l w h)
  rw [h.1] at HV HA HB HC
  rw [h.2.1] at HE1 HA
  rw [h.2.2] at HE2 HB
  simp only [Bool.and_self, if_true, Bool.false_eq_true, if_false] at HA HB
  unfold stPre at hp0
  rw [Bool.and_eq_true, Bool.and_eq_true] at hp0
  obtain ⟨⟨f1, f2⟩, f3⟩ := hp0
  rw [gB_yes f1, gF_yes f1] at HA
  rw [gB_yes f2, gF_yes f2] at HB
  rw [gB_yes f3, gF_yes f3] at HC
  have HFD : Hid (F0 = fop .quo .f32 (fop .sub .f32 (cn .f32 t) (cn .f32 t')) (fop .add .f32 (fop .add .f32 (stPw P 0 ⟨n, t, e⟩) (hindK P P.a.length)) (stPw P (P.a.length - 1) ⟨n', t', e'⟩))) := hF0
  have HPD : Hid (stPw P 0 ⟨n, t, e⟩ = fop .sub .f32 (fop .quo .f32 (cn .f32 1065353216) (endV P 0 ⟨n, t, e⟩)) (halfV P 0)) := rfl
  have HQD : Hid (stPw P (P.a.length - 1) ⟨n', t', e'⟩ = fop .sub .f32 (fop .quo .f32 (cn .f32 1065353216) (endV P (P.a.length - 1) ⟨n', t', e'⟩)) (halfV P (P.a.length - 1))) := rfl
  generalize endV P 0 ⟨n, t, e⟩ = v1 at HA f1 HPD
  generalize endV P (P.a.length - 1) ⟨n', t', e'⟩ = v2 at HB f2 HQD
  generalize hindK P P.a.length = v3 at HC f3 HFD
  have HPRE : Hid (b0 = (R0.ok && fin .f32 F0)) := hb0
  have HP := Lib.hid hP
  have HH := Lib.hid (fun i w h hi => halfOf_any P l i w h hP hi)
  have hq0 : IntKind.i64.wrap ((P.a.length : Int) - 1) = (P.a.length : Int) - 1 := IntWalk.i64_in _ (by omega)
  have H0 : Hid (∀ w, P.fs w l → Calls Try.prog 39 #[.agg #[.slice l.p1 P.a.length l.c1, .slice l.p2 P.b.length l.c2, .slice l.p3 P.c.length l.c3, .slice l.p4 P.d.length l.c4], .int .i64 (0 : Int)] w (BF w .f32 (halfV P 0))) := fun w h => HH.out 0 w h (by omega)
  have H1 : Hid (∀ w, P.fs w l → Calls Try.prog 39 #[.agg #[.slice l.p1 P.a.length l.c1, .slice l.p2 P.b.length l.c2, .slice l.p3 P.c.length l.c3, .slice l.p4 P.d.length l.c4], .int .i64 ((P.a.length : Int) - 1)] w (BF w .f32 (halfV P (P.a.length - 1)))) := fun w h => by
    have := HH.out (P.a.length - 1) w h (by omega)
    rwa [show ((P.a.length - 1 : Nat) : Int) = (P.a.length : Int) - 1 by omega] at this
  have HU0 : Hid (stU P ⟨n, t, e⟩ 0 = stPw P 0 ⟨n, t, e⟩) := rfl
  have HUS : Hid (∀ k, stU P ⟨n, t, e⟩ (k + 1) = fop .add .f32 (fop .add .f32 (stU P ⟨n, t, e⟩ k) (halfV P k)) (halfV P k)) := fun k => rfl
  have HWK : Hid (∀ k, stW P ⟨n, t, e⟩ ⟨n', t', e'⟩ k = fop .sub .f32 (cn .f32 t) (fop .mul .f32 F0 (fop .add .f32 (stU P ⟨n, t, e⟩ k) (halfV P k)))) := fun k => by rw [hF0]; rfl
  have HLS := Lib.hid (fun k => stL_step P ⟨n, t, e⟩ ⟨n', t', e'⟩ k)
  have HL0 : Hid (stL P ⟨n, t, e⟩ ⟨n', t', e'⟩ 0 = []) := rfl
  have HLC := Lib.hid (fun k => stL_cn P ⟨n, t, e⟩ ⟨n', t', e'⟩ k)
  have HRD : Hid (R0 = Rd.mk P.a P.b P.c (stL P ⟨n, t, e⟩ ⟨n', t', e'⟩ P.d.length)) := hR0
  clear hR0 hF0
  generalize stL P ⟨n, t, e⟩ ⟨n', t', e'⟩ = LL at HLS HL0 HLC HRD
  generalize stW P ⟨n, t, e⟩ ⟨n', t', e'⟩ = WW at HLS HWK
  generalize stU P ⟨n, t, e⟩ = UU at HU0 HUS HWK
  generalize stPw P 0 ⟨n, t, e⟩ = pp at HU0 HFD HPD
  generalize stPw P (P.a.length - 1) ⟨n', t', e'⟩ = qq at HFD HQD
  have HLN := Lib.hid (Rd.ok_len hP)
  have hK0 := cn_half P 0
  have hK1 := cn_half P (P.a.length - 1)
  clear hs h hP hb0 f1 f2 f3
  go_enter Try.func10, Try.ntmps10
  go_wp2_with (first | (with_reducible refine at_list ?_; refine wpList_fop rfl rfl rfl rfl rfl ?_; intro r n hr0; have hr := hr0 _ _ (by first | with_reducible assumption | exact rfl) (by first | with_reducible assumption | exact rfl); clear hr0) | (with_reducible refine at_list ?_; refine wpList_neg rfl rfl rfl ?_; intro r hr0; have hr := hr0 _ (by first | with_reducible assumption | exact rfl); clear hr0) | (with_reducible refine at_list ?_; refine wpList_fop_g rfl rfl rfl rfl rfl ?_; intro r n hr0; have hr := hr0 _ _ (by first | with_reducible assumption | exact rfl) (by first | with_reducible assumption | exact rfl); clear hr0) | (go_at_call 39; refine stop_here ?_) | (go_at_call 35; refine ((HV.out _ (HS.out.later (by (repeat (first | (with_reducible exact Below.refl _ _) | (with_reducible assumption) | (with_reducible refine below_then ?_ (by assumption)) | (with_reducible refine Below.trans ?_ (by assumption)) | (with_reducible refine below_drewN ?_ _) | (with_reducible apply Below.drew) | (with_reducible refine below_alloc ?_ _) | refine Below.setCell ?_ (by first | (simp; done) | (simp; omega)) _))))) ).mono ?_; rintro e w' ⟨rfl, hb⟩; obtain ⟨hT, hk⟩ := bv_next hb (by (repeat (with_reducible first | assumption | apply Trk.alloc | apply Trk.setCell | apply Trk.drewN | apply Trk.drew | exact Trk.nil _))); simp only [SameOn, World.size_alloc, World.size_setCell, World.size_drew, size_drewN', and_true] at hk; have hsz := Below.size hb; (try simp only [World.size_alloc, World.size_setCell, World.size_drew, size_drewN'] at hsz)) | (go_at_call_of 36 (Value.float .f32 t); refine ((HE1.out _) ).mono ?_; rintro e w' ⟨rfl, hb⟩; obtain ⟨hT, hk⟩ := bv_next hb (by (repeat (with_reducible first | assumption | apply Trk.alloc | apply Trk.setCell | apply Trk.drewN | apply Trk.drew | exact Trk.nil _))); simp only [SameOn, World.size_alloc, World.size_setCell, World.size_drew, size_drewN', and_true] at hk; have hsz := Below.size hb; (try simp only [World.size_alloc, World.size_setCell, World.size_drew, size_drewN'] at hsz)) | (go_at_call_of 36 (Value.float .f32 t'); refine ((HE2.out _) ).mono ?_; rintro e w' ⟨rfl, hb⟩; obtain ⟨hT, hk⟩ := bv_next hb (by (repeat (with_reducible first | assumption | apply Trk.alloc | apply Trk.setCell | apply Trk.drewN | apply Trk.drew | exact Trk.nil _))); simp only [SameOn, World.size_alloc, World.size_setCell, World.size_drew, size_drewN', and_true] at hk; have hsz := Below.size hb; (try simp only [World.size_alloc, World.size_setCell, World.size_drew, size_drewN'] at hsz)) | (go_at_call 19; refine (implMeanOf_any _ _ _ (by assumption)).mono ?_; rintro e w' ⟨r, rfl, hr, hb⟩; obtain ⟨hT, hk⟩ := bv_next hb (by (repeat (with_reducible first | assumption | apply Trk.alloc | apply Trk.setCell | apply Trk.drewN | apply Trk.drew | exact Trk.nil _))); simp only [SameOn, World.size_alloc, World.size_setCell, World.size_drew, size_drewN', and_true] at hk; have hsz := Below.size hb; (try simp only [World.size_alloc, World.size_setCell, World.size_drew, size_drewN'] at hsz)) | (go_at_call_of 38 (Value.float .f32 t); refine ((HA.out _ (HS.out.later (by (repeat (first | (with_reducible exact Below.refl _ _) | (with_reducible assumption) | (with_reducible refine below_then ?_ (by assumption)) | (with_reducible refine Below.trans ?_ (by assumption)) | (with_reducible refine below_drewN ?_ _) | (with_reducible apply Below.drew) | (with_reducible refine below_alloc ?_ _) | refine Below.setCell ?_ (by first | (simp; done) | (simp; omega)) _))))) ).mono ?_; rintro e w' ⟨r, rfl, hr, hb⟩; obtain ⟨hT, hk⟩ := bv_next hb (by (repeat (with_reducible first | assumption | apply Trk.alloc | apply Trk.setCell | apply Trk.drewN | apply Trk.drew | exact Trk.nil _))); simp only [SameOn, World.size_alloc, World.size_setCell, World.size_drew, size_drewN', and_true] at hk; have hsz := Below.size hb; (try simp only [World.size_alloc, World.size_setCell, World.size_drew, size_drewN'] at hsz)) | (go_at_call_of 38 (Value.float .f32 t'); refine ((HB.out _ (HS.out.later (by (repeat (first | (with_reducible exact Below.refl _ _) | (with_reducible assumption) | (with_reducible refine below_then ?_ (by assumption)) | (with_reducible refine Below.trans ?_ (by assumption)) | (with_reducible refine below_drewN ?_ _) | (with_reducible apply Below.drew) | (with_reducible refine below_alloc ?_ _) | refine Below.setCell ?_ (by first | (simp; done) | (simp; omega)) _))))) ).mono ?_; rintro e w' ⟨r, rfl, hr, hb⟩; obtain ⟨hT, hk⟩ := bv_next hb (by (repeat (with_reducible first | assumption | apply Trk.alloc | apply Trk.setCell | apply Trk.drewN | apply Trk.drew | exact Trk.nil _))); simp only [SameOn, World.size_alloc, World.size_setCell, World.size_drew, size_drewN', and_true] at hk; have hsz := Below.size hb; (try simp only [World.size_alloc, World.size_setCell, World.size_drew, size_drewN'] at hsz)) | (go_at_call 25; refine ((HC.out _ (HS.out.later (by (repeat (first | (with_reducible exact Below.refl _ _) | (with_reducible assumption) | (with_reducible refine below_then ?_ (by assumption)) | (with_reducible refine Below.trans ?_ (by assumption)) | (with_reducible refine below_drewN ?_ _) | (with_reducible apply Below.drew) | (with_reducible refine below_alloc ?_ _) | refine Below.setCell ?_ (by first | (simp; done) | (simp; omega)) _))))) ).mono ?_; rintro e w' ⟨r, rfl, hr, hb⟩; obtain ⟨hT, hk⟩ := bv_next hb (by (repeat (with_reducible first | assumption | apply Trk.alloc | apply Trk.setCell | apply Trk.drewN | apply Trk.drew | exact Trk.nil _))); simp only [SameOn, World.size_alloc, World.size_setCell, World.size_drew, size_drewN', and_true] at hk; have hsz := Below.size hb; (try simp only [World.size_alloc, World.size_setCell, World.size_drew, size_drewN'] at hsz)) | (go_at_call 39; refine (halfOf_any _ _ _ _ (by assumption) (by assumption) (by omega)).mono ?_; rintro e w' ⟨r, rfl, hr, hb⟩; obtain ⟨hT, hk⟩ := bv_next hb (by (repeat (with_reducible first | assumption | apply Trk.alloc | apply Trk.setCell | apply Trk.drewN | apply Trk.drew | exact Trk.nil _))); simp only [SameOn, World.size_alloc, World.size_setCell, World.size_drew, size_drewN', and_true] at hk; have hsz := Below.size hb; (try simp only [World.size_alloc, World.size_setCell, World.size_drew, size_drewN'] at hsz)) | (go_at_call 41; refine (IsFinite_any _ _).mono ?_; rintro e w' ⟨rfl, n, rfl⟩))
  unfold Stop
  refine (H0.out _ (HS.out.later (by (repeat (first | (with_reducible exact Below.refl _ _) | (with_reducible assumption) | (with_reducible refine below_then ?_ (by assumption)) | (with_reducible refine Below.trans ?_ (by assumption)) | (with_reducible refine below_drewN ?_ _) | (with_reducible apply Below.drew) | (with_reducible refine below_alloc ?_ _) | refine Below.setCell ?_ (by first | (simp; done) | (simp; omega)) _))))).mono ?_
  rintro e w' ⟨h0, rfl, hh0, hb⟩
  obtain ⟨hT, hk⟩ := bv_next hb (by (repeat (with_reducible first | assumption | apply Trk.alloc | apply Trk.setCell | apply Trk.drewN | apply Trk.drew | exact Trk.nil _))); simp only [SameOn, World.size_alloc, World.size_setCell, World.size_drew, size_drewN', and_true] at hk; have hsz := Below.size hb; (try simp only [World.size_alloc, World.size_setCell, World.size_drew, size_drewN'] at hsz)
  go_wp2_with (first | (with_reducible refine at_list ?_; refine wpList_fop rfl rfl rfl rfl rfl ?_; intro r n hr0; have hr := hr0 _ _ (by first | with_reducible assumption | exact rfl) (by first | with_reducible assumption | exact rfl); clear hr0) | (with_reducible refine at_list ?_; refine wpList_neg rfl rfl rfl ?_; intro r hr0; have hr := hr0 _ (by first | with_reducible assumption | exact rfl); clear hr0) | (with_reducible refine at_list ?_; refine wpList_fop_g rfl rfl rfl rfl rfl ?_; intro r n hr0; have hr := hr0 _ _ (by first | with_reducible assumption | exact rfl) (by first | with_reducible assumption | exact rfl); clear hr0) | (go_at_call 39; refine stop_here ?_) | (go_at_call 35; refine (implValidRod_any _ _ _ (by assumption)).mono ?_; rintro e w' ⟨rfl, hb⟩; obtain ⟨hT, hk⟩ := bv_next hb (by (repeat (with_reducible first | assumption | apply Trk.alloc | apply Trk.setCell | apply Trk.drewN | apply Trk.drew | exact Trk.nil _))); simp only [SameOn, World.size_alloc, World.size_setCell, World.size_drew, size_drewN', and_true] at hk; have hsz := Below.size hb; (try simp only [World.size_alloc, World.size_setCell, World.size_drew, size_drewN'] at hsz)) | (go_at_call 36; refine (implValidEnd_any _ _).mono ?_; rintro e w' ⟨rfl, hb⟩; obtain ⟨hT, hk⟩ := bv_next hb (by (repeat (with_reducible first | assumption | apply Trk.alloc | apply Trk.setCell | apply Trk.drewN | apply Trk.drew | exact Trk.nil _))); simp only [SameOn, World.size_alloc, World.size_setCell, World.size_drew, size_drewN', and_true] at hk; have hsz := Below.size hb; (try simp only [World.size_alloc, World.size_setCell, World.size_drew, size_drewN'] at hsz)) | (go_at_call 19; refine (implMeanOf_any _ _ _ (by assumption)).mono ?_; rintro e w' ⟨r, rfl, hr, hb⟩; obtain ⟨hT, hk⟩ := bv_next hb (by (repeat (with_reducible first | assumption | apply Trk.alloc | apply Trk.setCell | apply Trk.drewN | apply Trk.drew | exact Trk.nil _))); simp only [SameOn, World.size_alloc, World.size_setCell, World.size_drew, size_drewN', and_true] at hk; have hsz := Below.size hb; (try simp only [World.size_alloc, World.size_setCell, World.size_drew, size_drewN'] at hsz)) | (go_at_call 25; refine (implHinder_any _ _ _ (by assumption)).mono ?_; rintro e w' ⟨r, rfl, hr, hb⟩; obtain ⟨hT, hk⟩ := bv_next hb (by (repeat (with_reducible first | assumption | apply Trk.alloc | apply Trk.setCell | apply Trk.drewN | apply Trk.drew | exact Trk.nil _))); simp only [SameOn, World.size_alloc, World.size_setCell, World.size_drew, size_drewN', and_true] at hk; have hsz := Below.size hb; (try simp only [World.size_alloc, World.size_setCell, World.size_drew, size_drewN'] at hsz)) | (go_at_call 39; refine (halfOf_any _ _ _ _ (by assumption) (by assumption) (by omega)).mono ?_; rintro e w' ⟨r, rfl, hr, hb⟩; obtain ⟨hT, hk⟩ := bv_next hb (by (repeat (with_reducible first | assumption | apply Trk.alloc | apply Trk.setCell | apply Trk.drewN | apply Trk.drew | exact Trk.nil _))); simp only [SameOn, World.size_alloc, World.size_setCell, World.size_drew, size_drewN', and_true] at hk; have hsz := Below.size hb; (try simp only [World.size_alloc, World.size_setCell, World.size_drew, size_drewN'] at hsz)) | (go_at_call 41; refine (IsFinite_any _ _).mono ?_; rintro e w' ⟨rfl, n, rfl⟩))
  unfold Stop
  refine (H1.out _ (HS.out.later (by (repeat (first | (with_reducible exact Below.refl _ _) | (with_reducible assumption) | (with_reducible refine below_then ?_ (by assumption)) | (with_reducible refine Below.trans ?_ (by assumption)) | (with_reducible refine below_drewN ?_ _) | (with_reducible apply Below.drew) | (with_reducible refine below_alloc ?_ _) | refine Below.setCell ?_ (by first | (simp; done) | (simp; omega)) _))))).mono ?_
  rintro e w' ⟨h1, rfl, hh1, hb⟩
  obtain ⟨hT, hk⟩ := bv_next hb (by (repeat (with_reducible first | assumption | apply Trk.alloc | apply Trk.setCell | apply Trk.drewN | apply Trk.drew | exact Trk.nil _))); simp only [SameOn, World.size_alloc, World.size_setCell, World.size_drew, size_drewN', and_true] at hk; have hsz := Below.size hb; (try simp only [World.size_alloc, World.size_setCell, World.size_drew, size_drewN'] at hsz)
  go_wp2_with (first | (with_reducible refine at_list ?_; refine wpList_fop rfl rfl rfl rfl rfl ?_; intro r n hr0; have hr := hr0 _ _ (by first | with_reducible assumption | exact rfl) (by first | with_reducible assumption | exact rfl); clear hr0) | (with_reducible refine at_list ?_; refine wpList_neg rfl rfl rfl ?_; intro r hr0; have hr := hr0 _ (by first | with_reducible assumption | exact rfl); clear hr0) | (with_reducible refine at_list ?_; refine wpList_fop_g rfl rfl rfl rfl rfl ?_; intro r n hr0; have hr := hr0 _ _ (by first | with_reducible assumption | exact rfl) (by first | with_reducible assumption | exact rfl); clear hr0) | (go_at_call 35; refine (implValidRod_any _ _ _ (by assumption)).mono ?_; rintro e w' ⟨rfl, hb⟩; obtain ⟨hT, hk⟩ := bv_next hb (by (repeat (with_reducible first | assumption | apply Trk.alloc | apply Trk.setCell | apply Trk.drewN | apply Trk.drew | exact Trk.nil _))); simp only [SameOn, World.size_alloc, World.size_setCell, World.size_drew, size_drewN', and_true] at hk; have hsz := Below.size hb; (try simp only [World.size_alloc, World.size_setCell, World.size_drew, size_drewN'] at hsz)) | (go_at_call 36; refine (implValidEnd_any _ _).mono ?_; rintro e w' ⟨rfl, hb⟩; obtain ⟨hT, hk⟩ := bv_next hb (by (repeat (with_reducible first | assumption | apply Trk.alloc | apply Trk.setCell | apply Trk.drewN | apply Trk.drew | exact Trk.nil _))); simp only [SameOn, World.size_alloc, World.size_setCell, World.size_drew, size_drewN', and_true] at hk; have hsz := Below.size hb; (try simp only [World.size_alloc, World.size_setCell, World.size_drew, size_drewN'] at hsz)) | (go_at_call 19; refine (implMeanOf_any _ _ _ (by assumption)).mono ?_; rintro e w' ⟨r, rfl, hr, hb⟩; obtain ⟨hT, hk⟩ := bv_next hb (by (repeat (with_reducible first | assumption | apply Trk.alloc | apply Trk.setCell | apply Trk.drewN | apply Trk.drew | exact Trk.nil _))); simp only [SameOn, World.size_alloc, World.size_setCell, World.size_drew, size_drewN', and_true] at hk; have hsz := Below.size hb; (try simp only [World.size_alloc, World.size_setCell, World.size_drew, size_drewN'] at hsz)) | (go_at_call 25; refine (implHinder_any _ _ _ (by assumption)).mono ?_; rintro e w' ⟨r, rfl, hr, hb⟩; obtain ⟨hT, hk⟩ := bv_next hb (by (repeat (with_reducible first | assumption | apply Trk.alloc | apply Trk.setCell | apply Trk.drewN | apply Trk.drew | exact Trk.nil _))); simp only [SameOn, World.size_alloc, World.size_setCell, World.size_drew, size_drewN', and_true] at hk; have hsz := Below.size hb; (try simp only [World.size_alloc, World.size_setCell, World.size_drew, size_drewN'] at hsz)) | (go_at_call 39; refine (halfOf_any _ _ _ _ (by assumption) (by assumption) (by omega)).mono ?_; rintro e w' ⟨r, rfl, hr, hb⟩; obtain ⟨hT, hk⟩ := bv_next hb (by (repeat (with_reducible first | assumption | apply Trk.alloc | apply Trk.setCell | apply Trk.drewN | apply Trk.drew | exact Trk.nil _))); simp only [SameOn, World.size_alloc, World.size_setCell, World.size_drew, size_drewN', and_true] at hk; have hsz := Below.size hb; (try simp only [World.size_alloc, World.size_setCell, World.size_drew, size_drewN'] at hsz)) | (go_at_call 41; refine (IsFinite_any _ _).mono ?_; rintro e w' ⟨rfl, n, rfl⟩))
  have HFF : Hid (cn .f32 r = F0) := by show _ = _; rw [HFD.out, HPD.out, HQD.out]; exact hr
  rename cn .f32 _ = fop .sub .f32 (fop .quo .f32 (cn .f32 1065353216) v1) (halfV P 0) => hp
  have HPU := Lib.hid (hp.trans (HU0.out.trans HPD.out).symm)
  clear hp hr
  obtain ⟨f, hf⟩ : ∃ f, f = r := ⟨_, rfl⟩
  rw [← hf] at HFF
  rw [← hf]
  clear hf
  rename World => w0
  have HBW := Lib.hid (show Below w.heap.size w w0 by (repeat (first | (with_reducible exact Below.refl _ _) | (with_reducible assumption) | (with_reducible refine below_then ?_ (by assumption)) | (with_reducible refine Below.trans ?_ (by assumption)) | (with_reducible refine below_drewN ?_ _) | (with_reducible apply Below.drew) | (with_reducible refine below_alloc ?_ _) | refine Below.setCell ?_ (by first | (simp; done) | (simp; omega)) _)))
  have hzw : w.heap.size + 4 ≤ w0.heap.size := by first | omega | (simp at hsz; omega)
  have HR0 : Hid (RdAt P l w0 w.heap.size 0) := (by unfold RdAt; refine ⟨?_, ?_, ?_, ?_⟩ <;> go_simp)
  have HEN : Hid (w0.cell? ⟨w.heap.size + 1, 1, none⟩ = some (.float .f32 t)) := by show _ = _; go_simp
  have HR8 : Hid (w0.cell? ⟨w.heap.size + 3, 0, none⟩ = some (.slice none 0 0) ∧ w0.cell? ⟨w.heap.size + 3, 1, none⟩ = some (.slice none 0 0) ∧ w0.cell? ⟨w.heap.size + 3, 2, none⟩ = some (.slice none 0 0) ∧ w0.cell? ⟨w.heap.size + 3, 3, none⟩ = some (.slice none 0 0) ∧ ∀ o, w0.frozen? ⟨w.heap.size + 3, o, none⟩ = false) := ⟨by go_simp, by go_simp, by go_simp, by go_simp, fun o => by go_simp⟩
  refine wp_named ?_
  intro ws hws
  have HB5 : Hid (Below w0.heap.size w0 ws) := by show Below _ _ _; rw [hws]; (repeat (first | (with_reducible exact Below.refl _ _) | (with_reducible assumption) | (with_reducible refine below_then ?_ (by assumption)) | (with_reducible refine Below.trans ?_ (by assumption)) | (with_reducible refine below_drewN ?_ _) | (with_reducible apply Below.drew) | (with_reducible refine below_alloc ?_ _) | refine Below.setCell ?_ (by first | (simp; done) | (simp; omega)) _))
  have HOE : Hid (OF w0.heap.size ws (.slice (some ⟨w0.heap.size, 0, none⟩) 0 0) []) := by show OF _ _ _ _; rw [hws]; first | exact OF.empty _ _ rfl (Nat.le_refl _) rfl | exact (OF.empty _ _ rfl (Nat.le_refl _) rfl).drewN _
  clear hws
  clear HV HE1 HE2 HA HB HC HFD HPD HQD H0 H1 hq0 hK0 hK1 hh0 hh1 HU0 hn hn'
  go_loopw [20, 21, 143] (fun u s z wr => ∃ (k c x : Nat) (q : Option Addr) (ys : List Nat), k ≤ P.a.length ∧ z = .int .i64 (k : Int) ∧ u = .float .f32 x ∧ s = .slice q ys.length c ∧ ys.length = k ∧ Hid (cn .f32 x = UU k) ∧ Hid (OF w0.heap.size wr (.slice q ys.length c) ys) ∧ Hid (ys.map (cn .f32) = LL k) ∧ Below w0.heap.size w0 wr) (fun _ _ z _ => P.a.length - (intOf z).toNat)
  case atStart => exact ⟨0, 0, _, some ⟨w0.heap.size, 0, none⟩, [], by omega, rfl, rfl, rfl, rfl, HPU.out, HOE.out, HL0.out.symm, HB5.out⟩
  case round =>
    clear hb hk hT hsz
    obtain ⟨k, c, x, q, ys, hk, rfl, rfl, rfl, hyl, HX, HOF, HL, hB⟩ := hrel
    have HYL := Lib.hid hyl
    have hzr := hB.size
    have HBr : Hid (Below w.heap.size w wr) := HBW.out.trans (hB.mono (by omega))
    obtain ⟨d0, d1, d2, d3⟩ := rd_later HR0.out hB (by omega)
    simp only [Nat.zero_add] at d0 d1 d2 d3
    have en := cell_later hB HEN.out
    have hyn : ys.length ≤ 48 := by omega
    by_cases hlt : k < P.a.length
    · have hlti : (k : Int) < (P.a.length : Int) := by omega
      have hkw : IntKind.i64.wrap ((k : Int) + 1) = (k : Int) + 1 := IntWalk.i64_in _ (by omega)
      have HHk : Hid (∀ w, P.fs w l → Calls Try.prog 39 #[.agg #[.slice l.p1 P.a.length l.c1, .slice l.p2 P.b.length l.c2, .slice l.p3 P.c.length l.c3, .slice l.p4 P.d.length l.c4], .int .i64 (k : Int)] w (BF w .f32 (halfV P k))) := fun w h => HH.out k w h hlt
      have HST := Lib.hid (HLS.out k)
      have HWE := Lib.hid (HWK.out k)
      have HUE := Lib.hid (HUS.out k)
      have hx := HX.out
      have hff := HFF.out
      have hbw := HBW.out
      have hT : Trk wr [w.heap.size, w.heap.size + 1] := ((Trk.nil wr).more (by omega)).more (by omega)
      clear hyl HH
      go_wp2_with (first | (with_reducible refine at_list ?_; refine wpList_fop rfl rfl rfl rfl rfl ?_; intro r n hr0; have hr := hr0 _ _ (by first | with_reducible assumption | exact rfl) (by first | with_reducible assumption | exact rfl); clear hr0) | (with_reducible refine at_list ?_; refine wpList_neg rfl rfl rfl ?_; intro r hr0; have hr := hr0 _ (by first | with_reducible assumption | exact rfl); clear hr0) | (with_reducible refine at_list ?_; refine wpList_fop_g rfl rfl rfl rfl rfl ?_; intro r n hr0; have hr := hr0 _ _ (by first | with_reducible assumption | exact rfl) (by first | with_reducible assumption | exact rfl); clear hr0) | (at_builtin; refine stop_here ?_) | (go_at_call 35; refine (implValidRod_any _ _ _ (by assumption)).mono ?_; rintro e w' ⟨rfl, hb⟩; obtain ⟨hT, hk⟩ := bv_next hb (by (repeat (with_reducible first | assumption | apply Trk.alloc | apply Trk.setCell | apply Trk.drewN | apply Trk.drew | exact Trk.nil _))); simp only [SameOn, World.size_alloc, World.size_setCell, World.size_drew, size_drewN', and_true] at hk; have hsz := Below.size hb; (try simp only [World.size_alloc, World.size_setCell, World.size_drew, size_drewN'] at hsz)) | (go_at_call 36; refine (implValidEnd_any _ _).mono ?_; rintro e w' ⟨rfl, hb⟩; obtain ⟨hT, hk⟩ := bv_next hb (by (repeat (with_reducible first | assumption | apply Trk.alloc | apply Trk.setCell | apply Trk.drewN | apply Trk.drew | exact Trk.nil _))); simp only [SameOn, World.size_alloc, World.size_setCell, World.size_drew, size_drewN', and_true] at hk; have hsz := Below.size hb; (try simp only [World.size_alloc, World.size_setCell, World.size_drew, size_drewN'] at hsz)) | (go_at_call 19; refine (implMeanOf_any _ _ _ (by assumption)).mono ?_; rintro e w' ⟨r, rfl, hr, hb⟩; obtain ⟨hT, hk⟩ := bv_next hb (by (repeat (with_reducible first | assumption | apply Trk.alloc | apply Trk.setCell | apply Trk.drewN | apply Trk.drew | exact Trk.nil _))); simp only [SameOn, World.size_alloc, World.size_setCell, World.size_drew, size_drewN', and_true] at hk; have hsz := Below.size hb; (try simp only [World.size_alloc, World.size_setCell, World.size_drew, size_drewN'] at hsz)) | (go_at_call 25; refine (implHinder_any _ _ _ (by assumption)).mono ?_; rintro e w' ⟨r, rfl, hr, hb⟩; obtain ⟨hT, hk⟩ := bv_next hb (by (repeat (with_reducible first | assumption | apply Trk.alloc | apply Trk.setCell | apply Trk.drewN | apply Trk.drew | exact Trk.nil _))); simp only [SameOn, World.size_alloc, World.size_setCell, World.size_drew, size_drewN', and_true] at hk; have hsz := Below.size hb; (try simp only [World.size_alloc, World.size_setCell, World.size_drew, size_drewN'] at hsz)) | (go_at_call 39; refine ((HHk.out _ (HS.out.later (by (repeat (first | (with_reducible exact Below.refl _ _) | (with_reducible assumption) | (with_reducible refine below_then ?_ (by assumption)) | (with_reducible refine Below.trans ?_ (by assumption)) | (with_reducible refine below_drewN ?_ _) | (with_reducible apply Below.drew) | (with_reducible refine below_alloc ?_ _) | refine Below.setCell ?_ (by first | (simp; done) | (simp; omega)) _))))) ).mono ?_; rintro e w' ⟨r, rfl, hr, hb⟩; obtain ⟨hT, hk⟩ := bv_next hb (by (repeat (with_reducible first | assumption | apply Trk.alloc | apply Trk.setCell | apply Trk.drewN | apply Trk.drew | exact Trk.nil _))); simp only [SameOn, World.size_alloc, World.size_setCell, World.size_drew, size_drewN', and_true] at hk; have hsz := Below.size hb; (try simp only [World.size_alloc, World.size_setCell, World.size_drew, size_drewN'] at hsz)) | (go_at_call 41; refine (IsFinite_any _ _).mono ?_; rintro e w' ⟨rfl, n, rfl⟩))
      unfold Stop
      apply wpList_app (B := w0.heap.size) (xs := ys) (v := .slice q ys.length c)
      case hg => rfl
      case ho => rfl
      case hs => rfl
      case hx => rfl
      case hO => exact OF.alloc (OF.later HOF.out (by (repeat (first | (with_reducible exact Below.refl _ _) | (with_reducible assumption) | (with_reducible refine below_then ?_ (by assumption)) | (with_reducible refine Below.trans ?_ (by assumption)) | (with_reducible refine below_drewN ?_ _) | (with_reducible apply Below.drew) | (with_reducible refine below_alloc ?_ _) | refine Below.setCell ?_ (by first | (simp; done) | (simp; omega)) _)))) _
      case hc => go_simp <;> exact rfl
      case hn => omega
      case hB => simp; omega
      intro q5 c5 w5 hO5 hB5
      have hrr : cn .f32 r = WW k := by rw [HWE.out]; exact hr
      have HL2 : Hid ((ys ++ [r]).map (cn .f32) = LL (k + 1)) := by
        show _ = _
        rw [HST.out]
        exact app_cn HL.out hrr
      have HB6 : Hid (Below w0.heap.size w0 w5) := Below.trans (B := w0.heap.size) (a := w0) (by (repeat (first | (with_reducible exact Below.refl _ _) | (with_reducible assumption) | (with_reducible refine below_then ?_ (by assumption)) | (with_reducible refine Below.trans ?_ (by assumption)) | (with_reducible refine below_drewN ?_ _) | (with_reducible apply Below.drew) | (with_reducible refine below_alloc ?_ _) | refine Below.setCell ?_ (by first | (simp; done) | (simp; omega)) _))) (hB5.mono (by omega))
      have HO5 := Lib.hid hO5
      clear hB5 hO5 hrr hr
      go_wp2_with (first | (with_reducible refine at_list ?_; refine wpList_fop rfl rfl rfl rfl rfl ?_; intro r n hr0; have hr := hr0 _ _ (by first | with_reducible assumption | exact rfl) (by first | with_reducible assumption | exact rfl); clear hr0) | (with_reducible refine at_list ?_; refine wpList_neg rfl rfl rfl ?_; intro r hr0; have hr := hr0 _ (by first | with_reducible assumption | exact rfl); clear hr0) | (with_reducible refine at_list ?_; refine wpList_fop_g rfl rfl rfl rfl rfl ?_; intro r n hr0; have hr := hr0 _ _ (by first | with_reducible assumption | exact rfl) (by first | with_reducible assumption | exact rfl); clear hr0) | (go_at_call 35; refine (implValidRod_any _ _ _ (by assumption)).mono ?_; rintro e w' ⟨rfl, hb⟩; obtain ⟨hT, hk⟩ := bv_next hb (by (repeat (with_reducible first | assumption | apply Trk.alloc | apply Trk.setCell | apply Trk.drewN | apply Trk.drew | exact Trk.nil _))); simp only [SameOn, World.size_alloc, World.size_setCell, World.size_drew, size_drewN', and_true] at hk; have hsz := Below.size hb; (try simp only [World.size_alloc, World.size_setCell, World.size_drew, size_drewN'] at hsz)) | (go_at_call 36; refine (implValidEnd_any _ _).mono ?_; rintro e w' ⟨rfl, hb⟩; obtain ⟨hT, hk⟩ := bv_next hb (by (repeat (with_reducible first | assumption | apply Trk.alloc | apply Trk.setCell | apply Trk.drewN | apply Trk.drew | exact Trk.nil _))); simp only [SameOn, World.size_alloc, World.size_setCell, World.size_drew, size_drewN', and_true] at hk; have hsz := Below.size hb; (try simp only [World.size_alloc, World.size_setCell, World.size_drew, size_drewN'] at hsz)) | (go_at_call 19; refine (implMeanOf_any _ _ _ (by assumption)).mono ?_; rintro e w' ⟨r, rfl, hr, hb⟩; obtain ⟨hT, hk⟩ := bv_next hb (by (repeat (with_reducible first | assumption | apply Trk.alloc | apply Trk.setCell | apply Trk.drewN | apply Trk.drew | exact Trk.nil _))); simp only [SameOn, World.size_alloc, World.size_setCell, World.size_drew, size_drewN', and_true] at hk; have hsz := Below.size hb; (try simp only [World.size_alloc, World.size_setCell, World.size_drew, size_drewN'] at hsz)) | (go_at_call 25; refine (implHinder_any _ _ _ (by assumption)).mono ?_; rintro e w' ⟨r, rfl, hr, hb⟩; obtain ⟨hT, hk⟩ := bv_next hb (by (repeat (with_reducible first | assumption | apply Trk.alloc | apply Trk.setCell | apply Trk.drewN | apply Trk.drew | exact Trk.nil _))); simp only [SameOn, World.size_alloc, World.size_setCell, World.size_drew, size_drewN', and_true] at hk; have hsz := Below.size hb; (try simp only [World.size_alloc, World.size_setCell, World.size_drew, size_drewN'] at hsz)) | (go_at_call 39; refine (halfOf_any _ _ _ _ (by assumption) (by assumption) (by omega)).mono ?_; rintro e w' ⟨r, rfl, hr, hb⟩; obtain ⟨hT, hk⟩ := bv_next hb (by (repeat (with_reducible first | assumption | apply Trk.alloc | apply Trk.setCell | apply Trk.drewN | apply Trk.drew | exact Trk.nil _))); simp only [SameOn, World.size_alloc, World.size_setCell, World.size_drew, size_drewN', and_true] at hk; have hsz := Below.size hb; (try simp only [World.size_alloc, World.size_setCell, World.size_drew, size_drewN'] at hsz)) | (go_at_call 41; refine (IsFinite_any _ _).mono ?_; rintro e w' ⟨rfl, n, rfl⟩))
      have HU2 := Lib.hid (hr.trans HUE.out.symm)
      go_roundw
      case rel => exact ⟨k + 1, c5, _, q5, ys ++ [_], by omega, by go_num, rfl, by simp, by simp [HYL.out], HU2.out, by show OF _ _ _ _; have := HO5.out.drewN n; simpa using this, HL2.out, below_drewN HB6.out _⟩
      case measure => simp [intOf]; omega
      all_goals first | kernel_rfl | rfl
    · have hlti : ¬ (k : Int) < (P.a.length : Int) := by omega
      have hke : k = P.d.length := by have := HLN.out; omega
      have HLE : Hid (ys.map (cn .f32) = LL P.d.length) := by show _ = _; rw [HL.out, hke]
      have hya : ys.length = P.a.length := by have := HLN.out; omega
      have HW := Lib.hid (ok_with HP.out HLE.out hya (HLC.out _))
      have HEQ : Hid ((Rd.mk P.a P.b P.c ys).ok = R0.ok) := by show _ = _; rw [HRD.out]; exact HW.out.1
      have HRE : Hid ((Rd.mk P.a P.b P.c ys).ok = true → Rd.mk P.a P.b P.c ys = R0) := fun h => by rw [HW.out.2 h, HRD.out]
      have HN : Hid ((1 ≤ P.a.length ∧ P.a.length ≤ 1048576) ∧ (1 ≤ P.b.length ∧ P.b.length ≤ 1048576) ∧ (1 ≤ P.c.length ∧ P.c.length ≤ 1048576) ∧ 1 ≤ ys.length ∧ ys.length ≤ 1048576) := by have := HLN.out; exact ⟨⟨by omega, by omega⟩, ⟨by omega, by omega⟩, ⟨by omega, by omega⟩, by omega, by omega⟩
      have hB8 : w.heap.size + 3 < w0.heap.size := by omega
      have hbw := HBW.out
      have hbr := HBr.out
      have g0 := cell_later hB HR8.out.1
      have g1 := cell_later hB HR8.out.2.1
      have g2 := cell_later hB HR8.out.2.2.1
      have g3 := cell_later hB HR8.out.2.2.2.1
      have g4 : ∀ o, wr.frozen? ⟨w.heap.size + 3, o, none⟩ = false := fun o => (hB.frozen (p := ⟨w.heap.size + 3, o, none⟩) hB8).trans (HR8.out.2.2.2.2 o)
      have hT : Trk wr [w.heap.size, w.heap.size + 3] := ((Trk.nil wr).more (by omega)).more (by omega)
      clear HL hke hyl hya HLE HW HLS HWK HUS HH
      rcases ho : (Rd.mk P.a P.b P.c ys).ok
      · have HE : Hid (b0 = false) := by show _ = _; rw [HPRE.out, ← HEQ.out, ho]; rfl
        go_wp2_with (first | (with_reducible refine at_list ?_; refine wpList_fop rfl rfl rfl rfl rfl ?_; intro r n hr0; have hr := hr0 _ _ (by first | with_reducible assumption | exact rfl) (by first | with_reducible assumption | exact rfl); clear hr0) | (with_reducible refine at_list ?_; refine wpList_neg rfl rfl rfl ?_; intro r hr0; have hr := hr0 _ (by first | with_reducible assumption | exact rfl); clear hr0) | (with_reducible refine at_list ?_; refine wpList_fop_g rfl rfl rfl rfl rfl ?_; intro r n hr0; have hr := hr0 _ _ (by first | with_reducible assumption | exact rfl) (by first | with_reducible assumption | exact rfl); clear hr0) | (go_at_call 40; refine (withWarms_no P _ ys _ _ (HS.out.later (by (repeat (first | (with_reducible exact Below.refl _ _) | (with_reducible assumption) | (with_reducible refine below_then ?_ (by assumption)) | (with_reducible refine Below.trans ?_ (by assumption)) | (with_reducible refine below_drewN ?_ _) | (with_reducible apply Below.drew) | (with_reducible refine below_alloc ?_ _) | refine Below.setCell ?_ (by first | (simp; done) | (simp; omega)) _)))) (FS.later (OF.fs HOF.out) (by (repeat (first | (with_reducible exact Below.refl _ _) | (with_reducible assumption) | (with_reducible refine below_then ?_ (by assumption)) | (with_reducible refine Below.trans ?_ (by assumption)) | (with_reducible refine below_drewN ?_ _) | (with_reducible apply Below.drew) | (with_reducible refine below_alloc ?_ _) | refine Below.setCell ?_ (by first | (simp; done) | (simp; omega)) _)))) HN.out ho).mono ?_; rintro e w' ⟨rfl, hb⟩; obtain ⟨hT, hk⟩ := bv_next hb (by (repeat (with_reducible first | assumption | apply Trk.alloc | apply Trk.setCell | apply Trk.drewN | apply Trk.drew | exact Trk.nil _))); simp only [SameOn, World.size_alloc, World.size_setCell, World.size_drew, size_drewN', and_true] at hk; have hsz := Below.size hb; (try simp only [World.size_alloc, World.size_setCell, World.size_drew, size_drewN'] at hsz)) | (go_at_call 35; refine (implValidRod_any _ _ _ (by assumption)).mono ?_; rintro e w' ⟨rfl, hb⟩; obtain ⟨hT, hk⟩ := bv_next hb (by (repeat (with_reducible first | assumption | apply Trk.alloc | apply Trk.setCell | apply Trk.drewN | apply Trk.drew | exact Trk.nil _))); simp only [SameOn, World.size_alloc, World.size_setCell, World.size_drew, size_drewN', and_true] at hk; have hsz := Below.size hb; (try simp only [World.size_alloc, World.size_setCell, World.size_drew, size_drewN'] at hsz)) | (go_at_call 36; refine (implValidEnd_any _ _).mono ?_; rintro e w' ⟨rfl, hb⟩; obtain ⟨hT, hk⟩ := bv_next hb (by (repeat (with_reducible first | assumption | apply Trk.alloc | apply Trk.setCell | apply Trk.drewN | apply Trk.drew | exact Trk.nil _))); simp only [SameOn, World.size_alloc, World.size_setCell, World.size_drew, size_drewN', and_true] at hk; have hsz := Below.size hb; (try simp only [World.size_alloc, World.size_setCell, World.size_drew, size_drewN'] at hsz)) | (go_at_call 19; refine (implMeanOf_any _ _ _ (by assumption)).mono ?_; rintro e w' ⟨r, rfl, hr, hb⟩; obtain ⟨hT, hk⟩ := bv_next hb (by (repeat (with_reducible first | assumption | apply Trk.alloc | apply Trk.setCell | apply Trk.drewN | apply Trk.drew | exact Trk.nil _))); simp only [SameOn, World.size_alloc, World.size_setCell, World.size_drew, size_drewN', and_true] at hk; have hsz := Below.size hb; (try simp only [World.size_alloc, World.size_setCell, World.size_drew, size_drewN'] at hsz)) | (go_at_call 25; refine (implHinder_any _ _ _ (by assumption)).mono ?_; rintro e w' ⟨r, rfl, hr, hb⟩; obtain ⟨hT, hk⟩ := bv_next hb (by (repeat (with_reducible first | assumption | apply Trk.alloc | apply Trk.setCell | apply Trk.drewN | apply Trk.drew | exact Trk.nil _))); simp only [SameOn, World.size_alloc, World.size_setCell, World.size_drew, size_drewN', and_true] at hk; have hsz := Below.size hb; (try simp only [World.size_alloc, World.size_setCell, World.size_drew, size_drewN'] at hsz)) | (go_at_call 39; refine (halfOf_any _ _ _ _ (by assumption) (by assumption) (by omega)).mono ?_; rintro e w' ⟨r, rfl, hr, hb⟩; obtain ⟨hT, hk⟩ := bv_next hb (by (repeat (with_reducible first | assumption | apply Trk.alloc | apply Trk.setCell | apply Trk.drewN | apply Trk.drew | exact Trk.nil _))); simp only [SameOn, World.size_alloc, World.size_setCell, World.size_drew, size_drewN', and_true] at hk; have hsz := Below.size hb; (try simp only [World.size_alloc, World.size_setCell, World.size_drew, size_drewN'] at hsz)) | (go_at_call 41; refine (IsFinite_any _ _).mono ?_; rintro e w' ⟨rfl, n, rfl⟩))
        refine bodyPost_ret (v := .tuple #[.agg #[.slice none 0 0, .slice none 0 0, .slice none 0 0, .slice none 0 0], .float .f32 0, .bool false]) (by simp [results, Try.results10, go_sem, *]) rfl ?_
        rw [HGD.out, HE.out]
        exact ⟨nilRL, 0, rfl, rfl, by (repeat (first | (with_reducible exact Below.refl _ _) | (with_reducible assumption) | (with_reducible refine below_then ?_ (by assumption)) | (with_reducible refine Below.trans ?_ (by assumption)) | (with_reducible refine below_drewN ?_ _) | (with_reducible apply Below.drew) | (with_reducible refine below_alloc ?_ _) | refine Below.setCell ?_ (by first | (simp; done) | (simp; omega)) _)), nilRd_rx _ _ _⟩
      · have HQ := Lib.hid (HRE.out ho)
        rcases hfi : fin .f32 (cn .f32 f)
        · have HE : Hid (b0 = false) := by show _ = _; rw [HPRE.out, ← HEQ.out, ho, ← HFF.out, hfi]; rfl
          go_wp2_with (first | (with_reducible refine at_list ?_; refine wpList_fop rfl rfl rfl rfl rfl ?_; intro r n hr0; have hr := hr0 _ _ (by first | with_reducible assumption | exact rfl) (by first | with_reducible assumption | exact rfl); clear hr0) | (with_reducible refine at_list ?_; refine wpList_neg rfl rfl rfl ?_; intro r hr0; have hr := hr0 _ (by first | with_reducible assumption | exact rfl); clear hr0) | (with_reducible refine at_list ?_; refine wpList_fop_g rfl rfl rfl rfl rfl ?_; intro r n hr0; have hr := hr0 _ _ (by first | with_reducible assumption | exact rfl) (by first | with_reducible assumption | exact rfl); clear hr0) | (go_at_call 40; refine (withWarms_yes P _ ys _ _ (HS.out.later (by (repeat (first | (with_reducible exact Below.refl _ _) | (with_reducible assumption) | (with_reducible refine below_then ?_ (by assumption)) | (with_reducible refine Below.trans ?_ (by assumption)) | (with_reducible refine below_drewN ?_ _) | (with_reducible apply Below.drew) | (with_reducible refine below_alloc ?_ _) | refine Below.setCell ?_ (by first | (simp; done) | (simp; omega)) _)))) (FS.later (OF.fs HOF.out) (by (repeat (first | (with_reducible exact Below.refl _ _) | (with_reducible assumption) | (with_reducible refine below_then ?_ (by assumption)) | (with_reducible refine Below.trans ?_ (by assumption)) | (with_reducible refine below_drewN ?_ _) | (with_reducible apply Below.drew) | (with_reducible refine below_alloc ?_ _) | refine Below.setCell ?_ (by first | (simp; done) | (simp; omega)) _)))) HN.out ho).mono ?_; rintro e w' ⟨m, rfl, hb, hX⟩; (try simp only [World.size_alloc, World.size_setCell, World.size_drew, World.drewN] at hX); obtain ⟨hT, hk⟩ := bv_next hb (by (repeat (with_reducible first | assumption | apply Trk.alloc | apply Trk.setCell | apply Trk.drewN | apply Trk.drew | exact Trk.nil _))); simp only [SameOn, World.size_alloc, World.size_setCell, World.size_drew, size_drewN', and_true] at hk; have hsz := Below.size hb; (try simp only [World.size_alloc, World.size_setCell, World.size_drew, size_drewN'] at hsz)) | (go_at_call 35; refine (implValidRod_any _ _ _ (by assumption)).mono ?_; rintro e w' ⟨rfl, hb⟩; obtain ⟨hT, hk⟩ := bv_next hb (by (repeat (with_reducible first | assumption | apply Trk.alloc | apply Trk.setCell | apply Trk.drewN | apply Trk.drew | exact Trk.nil _))); simp only [SameOn, World.size_alloc, World.size_setCell, World.size_drew, size_drewN', and_true] at hk; have hsz := Below.size hb; (try simp only [World.size_alloc, World.size_setCell, World.size_drew, size_drewN'] at hsz)) | (go_at_call 36; refine (implValidEnd_any _ _).mono ?_; rintro e w' ⟨rfl, hb⟩; obtain ⟨hT, hk⟩ := bv_next hb (by (repeat (with_reducible first | assumption | apply Trk.alloc | apply Trk.setCell | apply Trk.drewN | apply Trk.drew | exact Trk.nil _))); simp only [SameOn, World.size_alloc, World.size_setCell, World.size_drew, size_drewN', and_true] at hk; have hsz := Below.size hb; (try simp only [World.size_alloc, World.size_setCell, World.size_drew, size_drewN'] at hsz)) | (go_at_call 19; refine (implMeanOf_any _ _ _ (by assumption)).mono ?_; rintro e w' ⟨r, rfl, hr, hb⟩; obtain ⟨hT, hk⟩ := bv_next hb (by (repeat (with_reducible first | assumption | apply Trk.alloc | apply Trk.setCell | apply Trk.drewN | apply Trk.drew | exact Trk.nil _))); simp only [SameOn, World.size_alloc, World.size_setCell, World.size_drew, size_drewN', and_true] at hk; have hsz := Below.size hb; (try simp only [World.size_alloc, World.size_setCell, World.size_drew, size_drewN'] at hsz)) | (go_at_call 25; refine (implHinder_any _ _ _ (by assumption)).mono ?_; rintro e w' ⟨r, rfl, hr, hb⟩; obtain ⟨hT, hk⟩ := bv_next hb (by (repeat (with_reducible first | assumption | apply Trk.alloc | apply Trk.setCell | apply Trk.drewN | apply Trk.drew | exact Trk.nil _))); simp only [SameOn, World.size_alloc, World.size_setCell, World.size_drew, size_drewN', and_true] at hk; have hsz := Below.size hb; (try simp only [World.size_alloc, World.size_setCell, World.size_drew, size_drewN'] at hsz)) | (go_at_call 39; refine (halfOf_any _ _ _ _ (by assumption) (by assumption) (by omega)).mono ?_; rintro e w' ⟨r, rfl, hr, hb⟩; obtain ⟨hT, hk⟩ := bv_next hb (by (repeat (with_reducible first | assumption | apply Trk.alloc | apply Trk.setCell | apply Trk.drewN | apply Trk.drew | exact Trk.nil _))); simp only [SameOn, World.size_alloc, World.size_setCell, World.size_drew, size_drewN', and_true] at hk; have hsz := Below.size hb; (try simp only [World.size_alloc, World.size_setCell, World.size_drew, size_drewN'] at hsz)) | (go_at_call 41; refine (IsFinite_any _ _).mono ?_; rintro e w' ⟨rfl, n, rfl⟩))
          refine bodyPost_ret (v := .tuple #[.agg #[.slice none 0 0, .slice none 0 0, .slice none 0 0, .slice none 0 0], .float .f32 0, .bool false]) (by simp [results, Try.results10, go_sem, *]) rfl ?_
          rw [HGD.out, HE.out]
          exact ⟨nilRL, 0, rfl, rfl, by (repeat (first | (with_reducible exact Below.refl _ _) | (with_reducible assumption) | (with_reducible refine below_then ?_ (by assumption)) | (with_reducible refine Below.trans ?_ (by assumption)) | (with_reducible refine below_drewN ?_ _) | (with_reducible apply Below.drew) | (with_reducible refine below_alloc ?_ _) | refine Below.setCell ?_ (by first | (simp; done) | (simp; omega)) _)), nilRd_rx _ _ _⟩
        · have HE : Hid (b0 = true) := by show _ = _; rw [HPRE.out, ← HEQ.out, ho, ← HFF.out, hfi]; rfl
          go_wp2_with (first | (with_reducible refine at_list ?_; refine wpList_fop rfl rfl rfl rfl rfl ?_; intro r n hr0; have hr := hr0 _ _ (by first | with_reducible assumption | exact rfl) (by first | with_reducible assumption | exact rfl); clear hr0) | (with_reducible refine at_list ?_; refine wpList_neg rfl rfl rfl ?_; intro r hr0; have hr := hr0 _ (by first | with_reducible assumption | exact rfl); clear hr0) | (with_reducible refine at_list ?_; refine wpList_fop_g rfl rfl rfl rfl rfl ?_; intro r n hr0; have hr := hr0 _ _ (by first | with_reducible assumption | exact rfl) (by first | with_reducible assumption | exact rfl); clear hr0) | (go_at_call 40; refine (withWarms_yes P _ ys _ _ (HS.out.later (by (repeat (first | (with_reducible exact Below.refl _ _) | (with_reducible assumption) | (with_reducible refine below_then ?_ (by assumption)) | (with_reducible refine Below.trans ?_ (by assumption)) | (with_reducible refine below_drewN ?_ _) | (with_reducible apply Below.drew) | (with_reducible refine below_alloc ?_ _) | refine Below.setCell ?_ (by first | (simp; done) | (simp; omega)) _)))) (FS.later (OF.fs HOF.out) (by (repeat (first | (with_reducible exact Below.refl _ _) | (with_reducible assumption) | (with_reducible refine below_then ?_ (by assumption)) | (with_reducible refine Below.trans ?_ (by assumption)) | (with_reducible refine below_drewN ?_ _) | (with_reducible apply Below.drew) | (with_reducible refine below_alloc ?_ _) | refine Below.setCell ?_ (by first | (simp; done) | (simp; omega)) _)))) HN.out ho).mono ?_; rintro e w' ⟨m, rfl, hb, hX⟩; (try simp only [World.size_alloc, World.size_setCell, World.size_drew, World.drewN] at hX); obtain ⟨hT, hk⟩ := bv_next hb (by (repeat (with_reducible first | assumption | apply Trk.alloc | apply Trk.setCell | apply Trk.drewN | apply Trk.drew | exact Trk.nil _))); simp only [SameOn, World.size_alloc, World.size_setCell, World.size_drew, size_drewN', and_true] at hk; have hsz := Below.size hb; (try simp only [World.size_alloc, World.size_setCell, World.size_drew, size_drewN'] at hsz)) | (go_at_call 35; refine (implValidRod_any _ _ _ (by assumption)).mono ?_; rintro e w' ⟨rfl, hb⟩; obtain ⟨hT, hk⟩ := bv_next hb (by (repeat (with_reducible first | assumption | apply Trk.alloc | apply Trk.setCell | apply Trk.drewN | apply Trk.drew | exact Trk.nil _))); simp only [SameOn, World.size_alloc, World.size_setCell, World.size_drew, size_drewN', and_true] at hk; have hsz := Below.size hb; (try simp only [World.size_alloc, World.size_setCell, World.size_drew, size_drewN'] at hsz)) | (go_at_call 36; refine (implValidEnd_any _ _).mono ?_; rintro e w' ⟨rfl, hb⟩; obtain ⟨hT, hk⟩ := bv_next hb (by (repeat (with_reducible first | assumption | apply Trk.alloc | apply Trk.setCell | apply Trk.drewN | apply Trk.drew | exact Trk.nil _))); simp only [SameOn, World.size_alloc, World.size_setCell, World.size_drew, size_drewN', and_true] at hk; have hsz := Below.size hb; (try simp only [World.size_alloc, World.size_setCell, World.size_drew, size_drewN'] at hsz)) | (go_at_call 19; refine (implMeanOf_any _ _ _ (by assumption)).mono ?_; rintro e w' ⟨r, rfl, hr, hb⟩; obtain ⟨hT, hk⟩ := bv_next hb (by (repeat (with_reducible first | assumption | apply Trk.alloc | apply Trk.setCell | apply Trk.drewN | apply Trk.drew | exact Trk.nil _))); simp only [SameOn, World.size_alloc, World.size_setCell, World.size_drew, size_drewN', and_true] at hk; have hsz := Below.size hb; (try simp only [World.size_alloc, World.size_setCell, World.size_drew, size_drewN'] at hsz)) | (go_at_call 25; refine (implHinder_any _ _ _ (by assumption)).mono ?_; rintro e w' ⟨r, rfl, hr, hb⟩; obtain ⟨hT, hk⟩ := bv_next hb (by (repeat (with_reducible first | assumption | apply Trk.alloc | apply Trk.setCell | apply Trk.drewN | apply Trk.drew | exact Trk.nil _))); simp only [SameOn, World.size_alloc, World.size_setCell, World.size_drew, size_drewN', and_true] at hk; have hsz := Below.size hb; (try simp only [World.size_alloc, World.size_setCell, World.size_drew, size_drewN'] at hsz)) | (go_at_call 39; refine (halfOf_any _ _ _ _ (by assumption) (by assumption) (by omega)).mono ?_; rintro e w' ⟨r, rfl, hr, hb⟩; obtain ⟨hT, hk⟩ := bv_next hb (by (repeat (with_reducible first | assumption | apply Trk.alloc | apply Trk.setCell | apply Trk.drewN | apply Trk.drew | exact Trk.nil _))); simp only [SameOn, World.size_alloc, World.size_setCell, World.size_drew, size_drewN', and_true] at hk; have hsz := Below.size hb; (try simp only [World.size_alloc, World.size_setCell, World.size_drew, size_drewN'] at hsz)) | (go_at_call 41; refine (IsFinite_any _ _).mono ?_; rintro e w' ⟨rfl, n, rfl⟩))
          refine bodyPost_ret (v := .tuple #[.agg #[.slice m.p1 P.a.length m.c1, .slice m.p2 P.b.length m.c2, .slice m.p3 P.c.length m.c3, .slice m.p4 ys.length m.c4], .float .f32 f, .bool true]) (by simp [results, Try.results10, go_sem, *]) rfl ?_
          rw [HGD.out, HE.out, okR_yes rfl, ← HQ.out]
          exact ⟨m, f, HFF.out, rfl, by (repeat (first | (with_reducible exact Below.refl _ _) | (with_reducible assumption) | (with_reducible refine below_then ?_ (by assumption)) | (with_reducible refine Below.trans ?_ (by assumption)) | (with_reducible refine below_drewN ?_ _) | (with_reducible apply Below.drew) | (with_reducible refine below_alloc ?_ _) | refine Below.setCell ?_ (by first | (simp; done) | (simp; omega)) _)), RdX.base (by (repeat' (first | (with_reducible assumption) | (with_reducible apply RdX.setCell) | (with_reducible apply RdX.alloc) | (with_reducible apply RdX.later; rotate_left; with_reducible assumption) | (with_reducible apply RdX.turn; rotate_left; with_reducible assumption) | (with_reducible apply RdX.drewN))) <;> (first | omega | (simp; done) | (simp; omega))) (by first | omega | (simp; done) | (simp; omega)) (by first | omega | (simp; done) | (simp; omega))⟩
end Go.Proofs.Ytpnkapdemgieaaa
set_option linter.unusedSimpArgs false
set_option linter.unusedVariables false
set_option linter.unusedSectionVars false
namespace Go.Proofs.Ytpnkapdemgieaaa
open Go Go.RowKit
open Go.ChangeShapes Go.WideShapes Go.ChangeAt Go.RowKit Go.Joins
theorem calls_named {P : Program} {f : FuncId} {args : Array Value} {w : World} {Q : Ending → World → Prop} (h : ∀ W, W = w → Calls P f args W Q) : Calls P f args w Q := h w rfl
/-- A fact that outlives what is made. -/
def Lat (F : World → Prop) : Prop := ∀ w w', F w → Below w.heap.size w w' → F w'
def Bag (L : List (World → Prop)) (w : World) : Prop := ∀ F ∈ L, Lat F ∧ F w
theorem Bag.nil (w : World) : Bag [] w := fun _ h => nomatch h
section
variable {L : List (World → Prop)} {F : World → Prop} {w w' : World}
theorem Bag.later (h : Bag L w) (hb : Below w.heap.size w w') : Bag L w' := fun F hF => ⟨(h F hF).1, (h F hF).1 _ _ (h F hF).2 hb⟩
theorem Bag.add (h : Bag L w) (l : Lat F) (x : F w) : Bag (F :: L) w := fun G hG => by
  rcases List.mem_cons.1 hG with rfl | hG
  · exact ⟨l, x⟩
  · exact h G hG
theorem Bag.g (h : Bag (F :: L) w) : F w := (h F List.mem_cons_self).2
theorem Bag.t (h : Bag (F :: L) w) : Bag L w := fun G hG => h G (List.mem_cons_of_mem _ hG)
end
/-- Below a world's size nothing has changed. -/
def Bel (w0 : World) (w : World) : Prop := Below w0.heap.size w0 w
theorem Bel.lat (w0 : World) : Lat (Bel w0) := fun _ _ h hb => h.trans (hb.mono h.size)
/-- A variable of four cells. -/
def Var (b : Nat) (v0 v1 v2 v3 : Value) (w : World) : Prop := (w.cell? ⟨b, 0, none⟩ = some v0 ∧ w.cell? ⟨b, 1, none⟩ = some v1 ∧ w.cell? ⟨b, 2, none⟩ = some v2 ∧ w.cell? ⟨b, 3, none⟩ = some v3) ∧ b < w.heap.size
theorem Var.lat (b : Nat) (v0 v1 v2 v3 : Value) : Lat (Var b v0 v1 v2 v3) := fun _ _ h hb => ⟨⟨(hb.cell h.2).trans h.1.1, (hb.cell h.2).trans h.1.2.1, (hb.cell h.2).trans h.1.2.2.1, (hb.cell h.2).trans h.1.2.2.2⟩, Nat.lt_of_lt_of_le h.2 hb.size⟩
/-- A variable of three cells. -/
def Var3 (b : Nat) (v0 v1 v2 : Value) (w : World) : Prop := (w.cell? ⟨b, 0, none⟩ = some v0 ∧ w.cell? ⟨b, 1, none⟩ = some v1 ∧ w.cell? ⟨b, 2, none⟩ = some v2) ∧ b < w.heap.size
theorem Var3.lat (b : Nat) (v0 v1 v2 : Value) : Lat (Var3 b v0 v1 v2) := fun _ _ h hb => ⟨⟨(hb.cell h.2).trans h.1.1, (hb.cell h.2).trans h.1.2.1, (hb.cell h.2).trans h.1.2.2⟩, Nat.lt_of_lt_of_le h.2 hb.size⟩
/-- A list that can be read. -/
def Lst (v : Value) (xs : List Nat) (w : World) : Prop := FS w v xs
theorem Lst.lat (v : Value) (xs : List Nat) : Lat (Lst v xs) := fun _ _ h hb => FS.later h hb
theorem Lst.at {q : Option Addr} {n c : Nat} {xs : List Nat} {w : World} (h : Lst (.slice q n c) xs w) (hl : xs.length = n) (hn : 0 < n) : ∃ b o, q = some ⟨b, o, none⟩ ∧ ∀ j, j < n → w.cell? ⟨b, o + j, none⟩ = some (.float .f32 (xs.getD j 0)) := by
  obtain ⟨p', c', e', _, _, hv⟩ := FS_view h
  simp only [Value.slice.injEq] at e'
  obtain ⟨rfl, _, rfl⟩ := e'
  obtain ⟨b, o, hp, _⟩ := hv 0 (by omega)
  refine ⟨b, o, hp, fun j hj => ?_⟩
  obtain ⟨b2, o2, hp2, hc⟩ := hv j (by omega)
  rw [hp] at hp2
  simp only [Option.some.injEq, Addr.mk.injEq] at hp2
  obtain ⟨rfl, rfl, _⟩ := hp2
  exact hc
/-- A rod of so many cells that can be read. -/
def Rdn (R : Rd) (m : RL) (n : Nat) (w : World) : Prop := (R.a.length = n ∧ R.b.length = n ∧ R.c.length = n ∧ R.d.length = n) ∧ R.fs w m
theorem Rdn.lat (R : Rd) (m : RL) (n : Nat) : Lat (Rdn R m n) := fun _ _ h hb => ⟨h.1, h.2.later hb⟩
def rnV (m : RL) (n : Nat) : Value := .agg #[.slice m.p1 n m.c1, .slice m.p2 n m.c2, .slice m.p3 n m.c3, .slice m.p4 n m.c4]
theorem Rdn.val {R : Rd} {m : RL} {n : Nat} {w : World} (h : Rdn R m n w) : .agg #[.slice m.p1 R.a.length m.c1, .slice m.p2 R.b.length m.c2, .slice m.p3 R.c.length m.c3, .slice m.p4 R.d.length m.c4] = rnV m n := by
  obtain ⟨⟨h1, h2, h3, h4⟩, _⟩ := h
  unfold rnV
  rw [h1, h2, h3, h4]
/-- A rod of so many cells, and that it is valid. -/
def BRN (w : World) (R : Rd) (n : Nat) (e : Ending) (w' : World) : Prop := ∃ m : RL, e = .returned (.tuple #[.agg #[.slice m.p1 n m.c1, .slice m.p2 n m.c2, .slice m.p3 n m.c3, .slice m.p4 n m.c4], .bool true]) ∧ Below w.heap.size w w' ∧ Rdn R m n w'
theorem BRB.n {w w' : World} {R : Rd} {e : Ending} {n : Nat} (h : BRB w R true e w') (hl : R.a.length = n ∧ R.b.length = n ∧ R.c.length = n ∧ R.d.length = n) : BRN w R n e w' := by
  obtain ⟨m, rfl, hb, hX⟩ := h
  have q : Rdn R m n w' := ⟨hl, hX.fs⟩
  refine ⟨m, ?_, hb, q⟩
  rw [q.val]; rfl
theorem getD_map {f : Nat → Nat} {xs L : List Nat} (h : xs.map f = L) {k : Nat} (hk : k < xs.length) : f (xs.getD k 0) = L.getD k 0 := by
  subst h
  rw [List.getD_eq_getElem?_getD, List.getD_eq_getElem?_getD, List.getElem?_map, List.getElem?_eq_getElem hk]; rfl
end Go.Proofs.Ytpnkapdemgieaaa
set_option linter.unusedSimpArgs false
set_option linter.unusedVariables false
set_option linter.unusedSectionVars false
namespace Go.Proofs.Ytpnkapdemgieaaa
open Go Go.RowKit
open Go.ChangeShapes Go.WideShapes Go.ChangeAt Go.RowKit Go.Joins
section
variable {H : Type} {enc : TypeId × Value → H} {P : Program} {w : World} {base : Nat} {spare : Nat → Bool} {held : Bool}
theorem open_u8s {t e : TypeId} {fuel : Nat} {cs : List Value} {x : DataW H × List MemPlace} (ht : P.underlying t = some (.slice e)) (he : P.underlying e = some (.int .u8)) (hc : P.cellsOf e = 1)
    (h : DataW.trod enc P w base spare held fuel t cs = some x) : ∃ p n c, cs = [.slice p n c] ∧ BY w.heap.size w p n c := by
  rcases Deep.open_slice1 ht hc h with ⟨rfl, _⟩ | ⟨a, len, cap, m, n, V, D, Pl, rfl, _, hl, hm, hmm, _, hx⟩
  · exact ⟨none, 0, 0, rfl, ⟨by omega, by omega⟩, fun i hi => absurd hi (by omega)⟩
  · have hlm : len ≤ m := by rw [hmm]; split <;> omega
    refine ⟨some a, len, cap, rfl, ⟨hl, by simpa [maxLen] using hm⟩, fun i hi => ?_⟩
    have h0 : a.spot = none := by
      have := spot_none (hx 0 (by omega)).1
      simpa [Addr.add] using this
    obtain ⟨b, o, sp⟩ := a
    have h0 : sp = none := h0
    subst h0
    obtain ⟨y, e1, _, e2⟩ := DataW.trod_int he (hx i (by omega)).2
    simp only [List.cons.injEq, and_true] at e1
    have h1 := (hx i (by omega)).1
    have e3 : (⟨b, o, none⟩ : Addr).add i = ⟨b, o + i, none⟩ := by
      unfold Addr.add
      split
      · rename_i h; subst h; rfl
      · rfl
    rw [e3, e1] at h1
    have hb := World.block_lt_of_cell? _ _ h1
    have hw : 0 ≤ y ∧ y ≤ 255 := by simpa [Lit.wf, IntKind.min, IntKind.max, IntKind.signed, IntKind.bits] using e2
    exact ⟨b, o, y, rfl, hb, h1, hw⟩
end
set_option maxRecDepth 100000 in
theorem Try.cellsU8 : Try.prog.cellsOf 5 = 1 := by kernel_rfl
set_option maxRecDepth 100000 in
theorem open_By {H : Type} {enc : TypeId × Value → H} {w : World} {base : Nat} {spare : Nat → Bool} {held : Bool} {r : Reach} {b0 : Nat} {v : Value} {d : DataW H} {p : List MemPlace} (hv : Value.okWide Try.prog w r b0 22 v) (h : DataW.Trod enc Try.prog w base spare held 22 v d p) :
    ∃ p n c, v = .slice p n c ∧ BY w.heap.size w p n c := by
  obtain ⟨fuel, hf⟩ := h
  obtain ⟨q, n, c, e, h1⟩ := open_u8s Try.underlying22 Try.underlying5 Try.cellsU8 hf
  obtain ⟨a, l, cc, rfl⟩ := okWide_slice Try.underlying22 hv
  simp [Value.cells] at e
  obtain ⟨rfl, rfl, rfl⟩ := e
  exact ⟨_, _, _, rfl, h1⟩
end Go.Proofs.Ytpnkapdemgieaaa
set_option linter.unusedSimpArgs false
set_option linter.unusedVariables false
set_option linter.unusedSectionVars false
namespace Go.Proofs.Ytpnkapdemgieaaa
open Go Go.RowKit
open Go.ChangeShapes Go.WideShapes Go.ChangeAt Go.RowKit Go.Joins
theorem r8Long_any (p q : Option Addr) (n c m d : Nat) (w : World) : Calls Try.prog 6 #[.slice p n c, .slice q m d] w (RB w (decide (48 < n) || decide (48 < m))) := by
  by_cases h1 : 48 < n <;> by_cases h2 : 48 < m
  all_goals
    go_enter Try.func6, Try.ntmps6
    go_wp2_with (first | (with_reducible refine at_list ?_; refine wpList_wide rfl rfl rfl Try.underlying28 Try.underlying39 ?_; intro r n hr0; have hr := hr0 _ (by first | with_reducible assumption | exact rfl); clear hr0))
    all_goals
      go_ret
      exact ⟨by first | (simp [h1, h2]; done) | (simp [h1, h2]; omega), by first | exact ⟨_, rfl⟩ | exact ⟨0, rfl⟩⟩
/-- A number below a bound. -/
def RN8 (w : World) (lo hi : Int) (e : Ending) (w' : World) : Prop := ∃ r, e = .returned (.int .i64 r) ∧ (lo ≤ r ∧ r ≤ hi) ∧ ∃ m, w' = w.drewN m
set_option maxHeartbeats 2000000 in
theorem r8At_any (p : Option Addr) (n c i : Nat) (k : Int) (w : World) (h : BY w.heap.size w p n c) (hi : i ≤ 1000) (hk : 1 ≤ k ∧ k ≤ 1000000) : Calls Try.prog 9 #[.slice p n c, .int .i64 i, .int .i64 k] w (RN8 w 0 (k - 1)) := by
  obtain ⟨⟨hc1, hc2⟩, hv⟩ := h
  have HV := Lib.hid hv
  clear hv
  obtain ⟨hk1, hk2⟩ := hk
  by_cases h1 : k ≤ 1
  · go_enter Try.func9, Try.ntmps9
    go_wp2_with (first | (with_reducible refine at_list ?_; refine wpList_wide rfl rfl rfl Try.underlying28 Try.underlying39 ?_; intro r n hr0; have hr := hr0 _ (by first | with_reducible assumption | exact rfl); clear hr0))
    all_goals
      go_ret
      exact ⟨0, rfl, ⟨by omega, by omega⟩, by first | exact ⟨_, rfl⟩ | exact ⟨0, rfl⟩⟩
  by_cases hlt : i < n
  · obtain ⟨bb, o, x, rfl, hbb, hx, hx0, hx1⟩ := HV.out i hlt
    obtain ⟨g1, g2⟩ := rem_bd (x := x) (n := k) hx0 hk1
    go_enter Try.func9, Try.ntmps9
    go_wp2_with (first | (with_reducible refine at_list ?_; refine wpList_wide rfl rfl rfl Try.underlying28 Try.underlying39 ?_; intro r n hr0; have hr := hr0 _ (by first | with_reducible assumption | exact rfl); clear hr0))
    all_goals
      go_ret
      exact ⟨_, rfl, ⟨by go_num, by go_num⟩, by first | exact ⟨_, rfl⟩ | exact ⟨0, rfl⟩⟩
  · obtain ⟨g1, g2⟩ := rem_bd (x := (i : Int) * 37 + 11) (n := k) (by omega) hk1
    go_enter Try.func9, Try.ntmps9
    go_wp2_with (first | (with_reducible refine at_list ?_; refine wpList_wide rfl rfl rfl Try.underlying28 Try.underlying39 ?_; intro r n hr0; have hr := hr0 _ (by first | with_reducible assumption | exact rfl); clear hr0))
    all_goals
      go_ret
      exact ⟨_, rfl, ⟨by go_num, by go_num⟩, by first | exact ⟨_, rfl⟩ | exact ⟨0, rfl⟩⟩
end Go.Proofs.Ytpnkapdemgieaaa
set_option linter.unusedSimpArgs false
set_option linter.unusedVariables false
set_option linter.unusedSectionVars false
namespace Go.Proofs.Ytpnkapdemgieaaa
open Go Go.RowKit
section
variable {P : Rd} {n : Nat} {A B C T : Nat → Int}
end
end Go.Proofs.Ytpnkapdemgieaaa
set_option linter.unusedSimpArgs false
set_option linter.unusedVariables false
set_option linter.unusedSectionVars false
namespace Go.Proofs.Ytpnkapdemgieaaa
open Go Go.RowKit
end Go.Proofs.Ytpnkapdemgieaaa
set_option linter.unusedSimpArgs false
set_option linter.unusedVariables false
set_option linter.unusedSectionVars false
namespace Go.Proofs.Ytpnkapdemgieaaa
open Go Go.RowKit
open Go.ChangeShapes Go.WideShapes Go.ChangeAt Go.RowKit Go.Joins
theorem rt_rod (p : Option Addr) (n c : Nat) (w : World) (h : BY w.heap.size w p n c) (hn : n ≤ 1048576) : Calls Try.prog 7 #[.slice p n c] w (fun e w' => ∃ (N : Nat) (P : Rd) (m : RL) (A B C T : Nat → Int), e = .returned (.agg #[.slice m.p1 N m.c1, .slice m.p2 N m.c2, .slice m.p3 N m.c3, .slice m.p4 N m.c4]) ∧ (1 ≤ N ∧ N ≤ 6) ∧ WR P N A B C T ∧ Rdn P m N w' ∧ Below w.heap.size w w') := by
  refine (R8Rod_any p n c w h hn).mono ?_
  rintro e w' ⟨N, L, m, rfl, hN, hL, hf, hb⟩
  obtain ⟨A, B, C, T, hw⟩ := hL.wr hN
  have q : Rdn ⟨L 0, L 1, L 2, L 3⟩ m N w' := ⟨⟨hw.la, hw.lb, hw.lc, hw.ld⟩, hf⟩
  refine ⟨N, ⟨L 0, L 1, L 2, L 3⟩, m, A, B, C, T, ?_, hN, hw, q, hb⟩
  have := q.val
  unfold rnV at this
  rw [← this]
/-- The rod at rest and its flow. -/
def restR (P : Rd) (E G : EndT) : Rd := if E.k = 1 then evenR P G.t else stR P E G
def restF (P : Rd) (E G : EndT) : Nat := if E.k = 1 then cn .f32 0 else stFw P E G
theorem t8' {t : Int} (h : -16 ≤ t ∧ t ≤ 16) : (t : Rat) / 2 ≤ 8 ∧ -((t : Rat) / 2) ≤ 8 := t8 h
theorem end_ge {k tz z : Int} {t e : Nat} (hk : 0 ≤ k ∧ k ≤ 2) (ht : -16 ≤ tz ∧ tz ≤ 16) (h : cn .f32 t = wmW tz) (hz : 1 ≤ z ∧ z ≤ 8) (he : V .f32 (cn .f32 e) ((z : Rat) / 2)) : GE ⟨k, t, e⟩ 8 := by
  refine ⟨hk, ⟨z, hz, he⟩, ?_⟩
  show fnt .f32 (cn .f32 t) = true ∧ fv .f32 (cn .f32 t) ≤ 8 ∧ -fv .f32 (cn .f32 t) ≤ 8
  have v := wmW_v ht
  rw [h, v.2]
  exact ⟨v.1, t8' ht⟩
theorem V1z : V .f32 (cn .f32 1065353216) (((2 : Int) : Rat) / 2) := by
  have e : ((2 : Int) : Rat) = 2 := rfl
  have e1 : ((2 : Int) : Rat) / 2 = 1 := by rw [e]; grind
  rw [e1]; exact V1
section
variable {P Q : Rd} {n F L : Nat} {A B C T : Nat → Int} {E G : EndT} {lo hi : Rat}
theorem rest_rs (h : GR P n A C 8) (hE : GE E 8) (hG : GE G 8) (kG : G.k = 0) (hL : E.k = 1 ∨ (lo ≤ tE E ∧ tE E ≤ hi)) (hR : lo ≤ tE G ∧ tE G ≤ hi) (hb : -8 ≤ lo ∧ hi ≤ 8) : RS (restR P E G) n A C E G (restF P E G) lo hi := by
  unfold restR restF
  by_cases k1 : E.k = 1
  · rw [if_pos k1, if_pos k1]
    exact rs_even h hE hG k1 hR ⟨hb.1, by grind, hb.2⟩
  · rw [if_neg k1, if_neg k1]
    exact ST.rs ⟨h, hE, hG, k1, kG⟩ (hL.resolve_left k1) hR hb
theorem rt_steady {k : Int} {t e x : Nat} (h : GR P n A C 8) (hE : GE ⟨k, t, e⟩ 8) (hG : GE ⟨0, x, 1065353216⟩ 8) {m : RL} {w : World} (hs : Rdn P m n w) :
    Calls Try.prog 10 #[.agg #[.slice m.p1 n m.c1, .slice m.p2 n m.c2, .slice m.p3 n m.c3, .slice m.p4 n m.c4], .agg #[.int .i64 k, .float .f32 t, .float .f32 e], .agg #[.int .i64 0, .float .f32 x, .float .f32 1065353216]] w (fun en w' => ∃ (m : RL) (g : Nat), en = .returned (.tuple #[.agg #[.slice m.p1 n m.c1, .slice m.p2 n m.c2, .slice m.p3 n m.c3, .slice m.p4 n m.c4], .float .f32 g, .bool true]) ∧ cn .f32 g = restF P ⟨k, t, e⟩ ⟨0, x, 1065353216⟩ ∧ Below w.heap.size w w' ∧ Rdn (restR P ⟨k, t, e⟩ ⟨0, x, 1065353216⟩) m n w') := by
  have ok : endsOk P ⟨k, t, e⟩ ⟨0, x, 1065353216⟩ = true := by unfold endsOk; rw [h.ok, hE.ok, hG.ok]; rfl
  have conv : ∀ {R : Rd} {F : Nat}, (R.a.length = n ∧ R.b.length = n ∧ R.c.length = n ∧ R.d.length = n) → restR P ⟨k, t, e⟩ ⟨0, x, 1065353216⟩ = R → restF P ⟨k, t, e⟩ ⟨0, x, 1065353216⟩ = F → Calls Try.prog 10 #[.agg #[.slice m.p1 P.a.length m.c1, .slice m.p2 P.b.length m.c2, .slice m.p3 P.c.length m.c3, .slice m.p4 P.d.length m.c4], .agg #[.int .i64 k, .float .f32 t, .float .f32 e], .agg #[.int .i64 0, .float .f32 x, .float .f32 1065353216]] w (BRFB w R F true) → Calls Try.prog 10 #[.agg #[.slice m.p1 n m.c1, .slice m.p2 n m.c2, .slice m.p3 n m.c3, .slice m.p4 n m.c4], .agg #[.int .i64 k, .float .f32 t, .float .f32 e], .agg #[.int .i64 0, .float .f32 x, .float .f32 1065353216]] w (fun en w' => ∃ (m : RL) (g : Nat), en = .returned (.tuple #[.agg #[.slice m.p1 n m.c1, .slice m.p2 n m.c2, .slice m.p3 n m.c3, .slice m.p4 n m.c4], .float .f32 g, .bool true]) ∧ cn .f32 g = restF P ⟨k, t, e⟩ ⟨0, x, 1065353216⟩ ∧ Below w.heap.size w w' ∧ Rdn (restR P ⟨k, t, e⟩ ⟨0, x, 1065353216⟩) m n w') := by
    intro R F hl e1 e2 q
    rw [hs.val] at q
    rw [e1, e2]
    refine q.mono ?_
    rintro en w' ⟨m', g, hg, rfl, hb, hX⟩
    have v : Rdn R m' n w' := ⟨hl, hX.fs⟩
    refine ⟨m', g, ?_, hg, hb, v⟩
    rw [v.val]; rfl
  by_cases k1 : k = 1
  · subst k1
    exact conv (R := evenR P x) (F := cn .f32 0) ⟨h.la, h.lb, h.lc, by show (List.replicate P.d.length x).length = n; rw [List.length_replicate, h.ld]⟩ (by unfold restR; rw [if_pos rfl]) (by unfold restF; rw [if_pos rfl]) (implSteady_left P m t e 0 x 1065353216 0 w hs.2 ok (by decide) _ rfl)
  · have st : ST P n A C ⟨k, t, e⟩ ⟨0, x, 1065353216⟩ := ⟨h, hE, hG, k1, rfl⟩
    have tt : (-8 : Rat) ≤ tE ⟨k, t, e⟩ ∧ tE ⟨k, t, e⟩ ≤ 8 := by obtain ⟨_, a, b⟩ := hE.t; exact ⟨by show -8 ≤ fv .f32 _; grind, a⟩
    have tg : (-8 : Rat) ≤ tE ⟨0, x, 1065353216⟩ ∧ tE ⟨0, x, 1065353216⟩ ≤ 8 := by obtain ⟨_, a, b⟩ := hG.t; exact ⟨by show -8 ≤ fv .f32 _; grind, a⟩
    have rs := st.rs (lo := -8) (hi := 8) tt tg ⟨Rat.le_refl, Rat.le_refl⟩
    have pre : stPre P ⟨k, t, e⟩ ⟨0, x, 1065353216⟩ = true := by
      have hn := h.hn
      unfold stPre
      rw [h.la, fin_of_fnt (h.end' hE (i := 0) (by omega)).1.1, fin_of_fnt (h.end' hG (i := n - 1) (by omega)).1.1, fin_of_fnt (st.hind n (Nat.le_refl _)).1]; rfl
    have hb : true = ((stR P ⟨k, t, e⟩ ⟨0, x, 1065353216⟩).ok && fin .f32 (stFw P ⟨k, t, e⟩ ⟨0, x, 1065353216⟩)) := by rw [rs.g.ok, fin_of_fnt rs.f.1]; rfl
    exact conv (R := stR P ⟨k, t, e⟩ ⟨0, x, 1065353216⟩) (F := stFw P ⟨k, t, e⟩ ⟨0, x, 1065353216⟩) ⟨rs.g.la, rs.g.lb, rs.g.lc, rs.g.ld⟩ (by unfold restR; rw [if_neg k1]) (by unfold restF; rw [if_neg k1]) (implSteady_open P m t e x 1065353216 k 0 w hs.2 ok k1 (by decide) _ rfl _ rfl pre true hb _ (by rw [if_pos rfl]))
theorem rt_flows (h : RS Q n A C E G F lo hi) {m : RL} {w : World} (hs : Rdn Q m n w) : Calls Try.prog 11 #[.agg #[.slice m.p1 n m.c1, .slice m.p2 n m.c2, .slice m.p3 n m.c3, .slice m.p4 n m.c4], .agg #[.int .i64 E.k, .float .f32 E.t, .float .f32 E.e], .agg #[.int .i64 G.k, .float .f32 G.t, .float .f32 G.e]] w (fun e w' => ∃ (q : Option Addr) (c : Nat) (ys : List Nat), e = .returned (.tuple #[.slice q (n + 1) c, .bool true]) ∧ Below w.heap.size w w' ∧ Lst (.slice q (n + 1) c) ys w' ∧ ys.length = n + 1 ∧ ∀ i, i ≤ n → cn .f32 (ys.getD i 0) = fAt Q E G i) := by
  have q := implFlowsR_any Q m E G w hs.2
  have ok := h.g.flowOk ⟨by grind, by grind⟩ (h.hE.mono (by grind)) (h.hG.mono (by grind))
  rw [flowV_ok ok, ok, hs.val] at q
  refine q.mono ?_
  rintro e w' ⟨u, ys, rfl, hb, hO, hy⟩
  have hl : ys.length = n + 1 := by
    have := congrArg List.length hy
    rwa [List.length_map, flowR_len, hs.1.1] at this
  obtain ⟨q', c, rfl⟩ := OF.shape hO
  refine ⟨q', c, ys, by rw [hl], hb, ?_, hl, fun i hi => ?_⟩
  · have := OF.fs hO
    rw [hl] at this
    exact this
  · rw [getD_map hy (by omega)]; rfl
theorem rt_rows_of {t : Nat} {M : Rat} (hs' : rwsOk Q E G t = true) (g : GR (rwsR Q E G t) n A C M) {m : RL} {w : World} (hs : Rdn Q m n w) : Calls Try.prog 12 #[.agg #[.slice m.p1 n m.c1, .slice m.p2 n m.c2, .slice m.p3 n m.c3, .slice m.p4 n m.c4], .agg #[.int .i64 E.k, .float .f32 E.t, .float .f32 E.e], .agg #[.int .i64 G.k, .float .f32 G.t, .float .f32 G.e], .float .f32 t] w (BRN w (rwsR Q E G t) n) := by
  have q := implRows_any Q m E G t w hs.2
  rw [hs.val] at q
  refine q.mono ?_
  intro e w' hq
  have b := brb_of2 hq
  rw [hs'] at b
  exact b.n ⟨g.la, g.lb, g.lc, g.ld⟩
theorem rt_stay (h : RS Q n A C E G F lo hi) {m : RL} {w : World} (hs : Rdn Q m n w) : Calls Try.prog 12 #[.agg #[.slice m.p1 n m.c1, .slice m.p2 n m.c2, .slice m.p3 n m.c3, .slice m.p4 n m.c4], .agg #[.int .i64 E.k, .float .f32 E.t, .float .f32 E.e], .agg #[.int .i64 G.k, .float .f32 G.t, .float .f32 G.e], .float .f32 1065353216] w (BRN w (rwsR Q E G 1065353216) n) :=
  rt_rows_of h.stay.1 h.stay.2.1 hs
theorem rt_safe (h : SF P n A C E G L) {m : RL} {w : World} (hs : Rdn P m n w) : Calls Try.prog 14 #[.agg #[.slice m.p1 n m.c1, .slice m.p2 n m.c2, .slice m.p3 n m.c3, .slice m.p4 n m.c4], .agg #[.int .i64 E.k, .float .f32 E.t, .float .f32 E.e], .agg #[.int .i64 G.k, .float .f32 G.t, .float .f32 G.e]] w (BFB w .f32 L true) := by
  have q := implSafe_any P m E G w hs.2
  rw [h.v, hs.val] at q
  exact q
theorem rt_step_of {t : Nat} {M : Rat} (hs' : stepOk P E G t = true) (g : GR (stepR P E G t) n A C M) {m : RL} {w : World} (hs : Rdn P m n w) : Calls Try.prog 15 #[.agg #[.slice m.p1 n m.c1, .slice m.p2 n m.c2, .slice m.p3 n m.c3, .slice m.p4 n m.c4], .agg #[.int .i64 E.k, .float .f32 E.t, .float .f32 E.e], .agg #[.int .i64 G.k, .float .f32 G.t, .float .f32 G.e], .float .f32 t] w (BRN w (stepR P E G t) n) := by
  have q := implStep_any P m E G t w hs.2
  rw [hs.val] at q
  refine q.mono ?_
  intro e w' hq
  have b := brb_of2 hq
  rw [hs'] at b
  exact b.n ⟨g.la, g.lb, g.lc, g.ld⟩
theorem rt_place_no (h : DR P n A C T) {x X : Nat} {s : Int} (hX : cn .f32 x = X) (hV : V .f32 X ((s : Rat) / 4)) (h0 : ∀ i, i + 1 < n → crB P X i = false) {m : RL} {w : World} (hs : Rdn P m n w) : Calls Try.prog 16 #[.agg #[.slice m.p1 n m.c1, .slice m.p2 n m.c2, .slice m.p3 n m.c3, .slice m.p4 n m.c4], .float .f32 x] w (BFB w .f32 (cn .f32 0) false) := by
  have q := implPlace_any P m x X w hs.2 hX h.g.ok h.midOk (fin_of_fnt hV.1) (cn .f32 0) false (fun k _ => ⟨fun hk hc => absurd (hc.symm.trans (h0 k (by rw [h.g.la] at hk; exact hk))) (by decide), fun _ => ⟨rfl, rfl⟩⟩)
  rwa [hs.val] at q
theorem rt_place_yes (h : DR P n A C T) {x X : Nat} {s : Int} (hX : cn .f32 x = X) (hV : V .f32 X ((s : Rat) / 4)) (hodd : s % 2 = 1) (hsb : -40 ≤ s ∧ s ≤ 40) {j : Nat} (hj : j + 1 < n) (hc : crB P X j = true) (h0 : ∀ i, i < j → crB P X i = false) {m : RL} {w : World} (hs : Rdn P m n w) : Calls Try.prog 16 #[.agg #[.slice m.p1 n m.c1, .slice m.p2 n m.c2, .slice m.p3 n m.c3, .slice m.p4 n m.c4], .float .f32 x] w (BFB w .f32 (plW P X j) true) := by
  have pl := h.place hV hodd hsb hj hc
  have q := implPlace_any P m x X w hs.2 hX h.g.ok h.midOk (fin_of_fnt hV.1) (plW P X j) true (fun k hk => by
    have hkj : k ≤ j := by
      rcases Nat.lt_or_ge j k with g | g
      · have := hk j g
        rw [hc] at this; cases this
      · exact g
    refine ⟨fun hk1 hck => ?_, fun hk1 => ?_⟩
    · have e : k = j := by
        rcases Nat.lt_or_ge k j with g | g
        · rw [h0 k g] at hck; cases hck
        · omega
      subst e
      exact ⟨rfl, rfl, fin_of_fnt pl.1⟩
    · rw [h.g.la] at hk1; omega)
  rwa [hs.val] at q
theorem rt_warm (h : DR P n A C T) {y Y v : Nat} (hy : cn .f32 y = Y) (hf : fnt .f32 Y = true) (hc : fle .f32 Y (midAt P.a 0) = false ∧ fge .f32 Y (midAt P.a (P.a.length - 1)) = false) (hv : wAt P Y = (v, true)) {m : RL} {w : World} (hs : Rdn P m n w) : Calls Try.prog 17 #[.agg #[.slice m.p1 n m.c1, .slice m.p2 n m.c2, .slice m.p3 n m.c3, .slice m.p4 n m.c4], .float .f32 y] w (BFB w .f32 v true) := by
  have q := implWarm_mid P m y w hs.2 h.g.ok (by rw [hy]; exact fin_of_fnt hf) h.midOk (by rw [hy]; exact hc.1) (by rw [hy]; exact hc.2)
  rw [hy, hv, hs.val] at q
  exact q
end
theorem rt_gap {X Y : Nat} (x y : Nat) (w : World) (hx : cn .f64 x = X) (hy : cn .f64 y = Y) (h : gapOk X Y) : Calls Try.prog 13 #[.float .f64 x, .float .f64 y] w (RF w .f64 (gap8 X Y)) := by
  have := r8Gap_any x y w (by rw [hx, hy]; exact h)
  rwa [hx, hy] at this
section
variable {P Q : Rd} {n F : Nat} {A C T : Nat → Int} {E G : EndT} {lo hi : Rat} {lw hw : Nat}
/-- The comparisons of a flow. -/
theorem rest_flow (h : RS Q n A C E G F lo hi) {i : Nat} (hi' : i ≤ n) : gapOk (wide (fAt Q E G i)) (wide F) ∧ gapOk (wide F) (cn .f64 0) ∧ fgt .f64 (gap8 (wide (fAt Q E G i)) (wide F)) (fop .mul .f64 c02 (fop .add .f64 (cn .f64 4607182418800017408) (gap8 (wide F) (cn .f64 0)))) = false := by
  obtain ⟨e0, e1, e2⟩ := h.flow hi'
  obtain ⟨z1, z2, z3⟩ := h.f
  obtain ⟨u0, u1⟩ := uu_pos
  exact flow_law e0 z1 (by grind) (by grind) (by grind) (by grind)
/-- The comparisons of a cell at rest. -/
theorem rest_cell (h : RS Q n A C E G F lo hi) (k : LH lw hw lo hi) {i : Nat} (hi' : i < n) :
    gapOk (wide (cn .f32 ((rwsR Q E G 1065353216).d.getD i 0))) (wide (cn .f32 (Q.d.getD i 0))) ∧ fgt .f64 (gap8 (wide (cn .f32 ((rwsR Q E G 1065353216).d.getD i 0))) (wide (cn .f32 (Q.d.getD i 0)))) c01 = false ∧
    flt .f64 (wide (cn .f32 (Q.d.getD i 0))) (fop .sub .f64 (wide (cn .f32 lw)) c01) = false ∧ fgt .f64 (wide (cn .f32 (Q.d.getD i 0))) (fop .add .f64 (wide (cn .f32 hw)) c01) = false := by
  obtain ⟨u0, u1⟩ := uu_pos
  obtain ⟨r1, r2⟩ := h.x i hi'
  obtain ⟨_, gy, hst⟩ := h.stay
  obtain ⟨s1, s2⟩ := hst i hi'
  have fq := (h.g.d i hi').1
  have fy := (gy.d i hi').1
  have el0 := fnt_cn k.fl
  have eh0 := fnt_cn k.fh
  have hbl := k.bl
  have hbh := k.bh
  have hl1 := k.l
  have hh1 := k.h
  have r1 : lo - 60 * uu ≤ fv .f32 (cn .f32 (Q.d.getD i 0)) := r1
  have r2 : fv .f32 (cn .f32 (Q.d.getD i 0)) ≤ hi + 60 * uu := r2
  obtain ⟨g1, n1, _⟩ := near_not fy fq s1 s2
  exact ⟨g1, n1, not_below (l := cn .f32 lw) fq (by rw [el0]; exact k.fl) (by rw [el0]; grind) (by rw [el0]; grind) (by rw [el0]; grind), not_above (l := cn .f32 hw) fq (by rw [eh0]; exact k.fh) (by rw [eh0]; grind) (by rw [eh0]; grind) (by rw [eh0]; grind)⟩
/-- One more cell within the bounds. -/
theorem lh_cell (h : DR P n A C T) (k : LH lw hw lo hi) {i : Nat} (hi' : i < n) (hall : ∀ j, j < i → fv .f32 lw ≤ xR P j ∧ xR P j ≤ fv .f32 hw) :
    isF (P.d.getD i 0) = true ∧ (LH (fmin lw (P.d.getD i 0)) (fmax hw (P.d.getD i 0)) lo hi ∧ ∀ j, j < i + 1 → fv .f32 (fmin lw (P.d.getD i 0)) ≤ xR P j ∧ xR P j ≤ fv .f32 (fmax hw (P.d.getD i 0))) := by
  obtain ⟨vd, t1, t2⟩ := h.t i hi'
  obtain ⟨t3, t4⟩ := t8' ⟨t1, t2⟩
  have ed := same_rawR (k := .f32) (x := P.d.getD i 0) vd.1
  have xp : xR P i = fv .f32 (P.d.getD i 0) := by show fv .f32 (cn .f32 (P.d.getD i 0)) = _; rw [ed]
  have vp : fnt .f32 (P.d.getD i 0) = true := by rw [← ed]; exact vd.1
  have vb : fv .f32 (P.d.getD i 0) = (T i : Rat) / 2 := by rw [← xp]; exact vd.2
  obtain ⟨nx, nx1, nx2, nx3, nx4⟩ := k.next vp (by rw [vb]; grind) (by rw [vb]; grind)
  refine ⟨fnt_isF vp, nx, fun j hj => ?_⟩
  by_cases e : j = i
  · rw [e, xp]; exact ⟨nx1, nx2⟩
  · have := hall j (by omega)
    exact ⟨by grind, by grind⟩
/-- The comparisons behind a hurried step. -/
theorem hurry_cell {x : Nat} {M : Rat} (k : LH lw hw lo hi) (g : GR Q n A C M) {i : Nat} (hi' : i < n) (h1 : fv .f32 lw - 1 / 1024 ≤ xR Q i ∧ xR Q i ≤ fv .f32 hw + 1 / 1024) :
    flt .f64 (wide (cn .f32 (Q.d.getD i 0))) (fop .sub .f64 (wide (cn .f32 lw)) c01) = false ∧ fgt .f64 (wide (cn .f32 (Q.d.getD i 0))) (fop .add .f64 (wide (cn .f32 hw)) c01) = false := by
  have fq := (g.d i hi').1
  have el0 := fnt_cn k.fl
  have eh0 := fnt_cn k.fh
  have hbl := k.bl
  have hbh := k.bh
  obtain ⟨r1, r2⟩ := h1
  have r1 : fv .f32 lw - 1 / 1024 ≤ fv .f32 (cn .f32 (Q.d.getD i 0)) := r1
  have r2 : fv .f32 (cn .f32 (Q.d.getD i 0)) ≤ fv .f32 hw + 1 / 1024 := r2
  exact ⟨not_below (l := cn .f32 lw) fq (by rw [el0]; exact k.fl) (by rw [el0]; grind) (by rw [el0]; grind) (by rw [el0]; grind), not_above (l := cn .f32 hw) fq (by rw [eh0]; exact k.fh) (by rw [eh0]; grind) (by rw [eh0]; grind) (by rw [eh0]; grind)⟩
theorem near_k {x y : Nat} (hx : fnt .f32 x = true) (hy : fnt .f32 y = true) (h1 : fv .f32 x - fv .f32 y ≤ 1 / 1024) (h2 : fv .f32 y - fv .f32 x ≤ 1 / 1024) : gapOk (wide x) (wide y) ∧ flt .f64 (gap8 (wide x) (wide y)) c01 = true := by
  obtain ⟨a, _, b⟩ := near_not hx hy (by grind) (by grind)
  exact ⟨a, b⟩
/-- The bounds at first. -/
theorem lh_first {k : Int} {t x : Nat} (tf : fnt .f32 t = true) (tl : -8 ≤ fv .f32 t) (th : fv .f32 t ≤ 8) (xf : fnt .f32 x = true) (xl : -8 ≤ fv .f32 x) (xh : fv .f32 x ≤ 8) (hlw : lw = if k = 1 then x else fmin t x) (hhw : hw = if k = 1 then x else fmax t x) :
    LH lw hw (fv .f32 lw) (fv .f32 hw) ∧ (k = 1 ∨ (fv .f32 lw ≤ fv .f32 t ∧ fv .f32 t ≤ fv .f32 hw)) ∧ (fv .f32 lw ≤ fv .f32 x ∧ fv .f32 x ≤ fv .f32 hw) := by
  subst hlw hhw
  by_cases hk1 : k = 1
  · rw [if_pos hk1, if_pos hk1]
    exact ⟨⟨xf, xf, ⟨xl, xh⟩, ⟨xl, xh⟩, Rat.le_refl, Rat.le_refl⟩, .inl hk1, Rat.le_refl, Rat.le_refl⟩
  · rw [if_neg hk1, if_neg hk1]
    have b0 : LH t t (fv .f32 t) (fv .f32 t) := ⟨tf, tf, ⟨tl, th⟩, ⟨tl, th⟩, Rat.le_refl, Rat.le_refl⟩
    obtain ⟨b, b1, b2, b3, b4⟩ := b0.next xf xl xh
    exact ⟨⟨b.fl, b.fh, b.bl, b.bh, Rat.le_refl, Rat.le_refl⟩, .inr ⟨b3, b4⟩, b1, b2⟩
/-- The bounds at last. -/
theorem lh_last {k : Int} {t x l2 h2 : Nat} (b : LH lw hw lo hi) (hall : ∀ j, j < n → fv .f32 lw ≤ xR P j ∧ xR P j ≤ fv .f32 hw) (tf : fnt .f32 t = true) (tl : -8 ≤ fv .f32 t) (th : fv .f32 t ≤ 8) (xf : fnt .f32 x = true) (xl : -8 ≤ fv .f32 x) (xh : fv .f32 x ≤ 8) (hl2 : l2 = if k = 1 then lw else fmin lw t) (hh2 : h2 = if k = 1 then hw else fmax hw t) :
    (isF l2 = true ∧ isF h2 = true) ∧ (LH (fmin l2 x) (fmax h2 x) lo hi ∧ ∀ j, j < n → fv .f32 (fmin l2 x) ≤ xR P j ∧ xR P j ≤ fv .f32 (fmax h2 x)) ∧ (k = 1 ∨ (fv .f32 (fmin l2 x) ≤ fv .f32 t ∧ fv .f32 t ≤ fv .f32 (fmax h2 x))) ∧ (fv .f32 (fmin l2 x) ≤ fv .f32 x ∧ fv .f32 x ≤ fv .f32 (fmax h2 x)) := by
  have key : LH l2 h2 lo hi ∧ (∀ j, j < n → fv .f32 l2 ≤ xR P j ∧ xR P j ≤ fv .f32 h2) ∧ (k = 1 ∨ (fv .f32 l2 ≤ fv .f32 t ∧ fv .f32 t ≤ fv .f32 h2)) := by
    subst hl2 hh2
    by_cases hk1 : k = 1
    · rw [if_pos hk1, if_pos hk1]; exact ⟨b, hall, .inl hk1⟩
    · rw [if_neg hk1, if_neg hk1]
      obtain ⟨b, b1, b2, b3, b4⟩ := b.next tf tl th
      exact ⟨b, fun j hj => by have := hall j hj; exact ⟨by grind, by grind⟩, .inr ⟨b1, b2⟩⟩
  obtain ⟨k1, k2, k3⟩ := key
  obtain ⟨b, b1, b2, b3, b4⟩ := k1.next xf xl xh
  refine ⟨⟨fnt_isF k1.fl, fnt_isF k1.fh⟩, ⟨b, fun j hj => by have := k2 j hj; exact ⟨by grind, by grind⟩⟩, ?_, b1, b2⟩
  rcases k3 with h | h
  · exact .inl h
  · exact .inr ⟨by grind, by grind⟩
theorem safe_pos {L : Nat} (h : SF P n A C E G L) : fle .f32 L (cn .f32 0) = false := by
  rw [flev h.f V0.1, V0.2]
  exact decide_eq_false (by have := h.b; grind)
theorem ends_raw {k : Int} {t e x : Nat} (hE : GE ⟨k, t, e⟩ 8) (hG : GE ⟨0, x, 1065353216⟩ 8) : (fnt .f32 t = true ∧ cn .f32 t = t ∧ -8 ≤ fv .f32 t ∧ fv .f32 t ≤ 8) ∧ (fnt .f32 x = true ∧ cn .f32 x = x ∧ -8 ≤ fv .f32 x ∧ fv .f32 x ≤ 8) ∧ tE ⟨k, t, e⟩ = fv .f32 t ∧ tE ⟨0, x, 1065353216⟩ = fv .f32 x := by
  obtain ⟨a0, a1, a2⟩ := hE.t
  obtain ⟨b0, b1, b2⟩ := hG.t
  have ea := same_rawR (k := .f32) (x := t) a0
  have eb := same_rawR (k := .f32) (x := x) b0
  have a0 : fnt .f32 (cn .f32 t) = true := a0
  have a1 : fv .f32 (cn .f32 t) ≤ 8 := a1
  have a2 : -fv .f32 (cn .f32 t) ≤ 8 := a2
  have b0 : fnt .f32 (cn .f32 x) = true := b0
  have b1 : fv .f32 (cn .f32 x) ≤ 8 := b1
  have b2 : -fv .f32 (cn .f32 x) ≤ 8 := b2
  rw [ea] at a0 a1 a2
  rw [eb] at b0 b1 b2
  exact ⟨⟨a0, ea, by grind, a1⟩, ⟨b0, eb, by grind, b1⟩, by show fv .f32 (cn .f32 t) = _; rw [ea], by show fv .f32 (cn .f32 x) = _; rw [eb]⟩
/-- The warmth that is looked for. -/
theorem warm_val {j s : Int} {x : Nat} (hj : 0 ≤ j ∧ j ≤ 32) (hs : 2 * (j - 16) + 1 = s) (hr : cn .f32 x = fop .add .f32 (fop .quo .f32 (cn .f32 (floatOfInt .f32 (j - 16))) (cn .f32 1073741824)) (cn .f32 1048576000)) : V .f32 (cn .f32 x) ((s : Rat) / 4) := by
  have hjt : -16 ≤ j - 16 ∧ j - 16 ≤ 16 := by omega
  rw [fnt_cn (V.int .f32 (j - 16) (by show (j - 16).natAbs < 2 ^ (23 + 1); omega)).1] at hr
  have v := wmW_v hjt
  have e2 : ((2 : Int) : Rat) = 2 := rfl
  have e1 : ((1 : Int) : Rat) = 1 := rfl
  have e : ex .add (((j - 16 : Int) : Rat) / 2) ((1 : Rat) / 4) = (s : Rat) / 4 := by simp only [ex]; rw [← hs, Rat.intCast_add, Rat.intCast_mul, e2, e1]; grind
  have R := V.op .add rfl v V25w (by simp) (by rw [e]; exact rep_quarter (by omega))
  rw [e] at R
  rw [hr]
  exact R
theorem right_ge {j : Int} {x : Nat} (hj : 0 ≤ j ∧ j ≤ 32) (hr : cn .f32 x = fop .quo .f32 (cn .f32 (floatOfInt .f32 (j - 16))) (cn .f32 1073741824)) : GE ⟨0, x, 1065353216⟩ 8 := by
  have hjt : -16 ≤ j - 16 ∧ j - 16 ≤ 16 := by omega
  rw [fnt_cn (V.int .f32 (j - 16) (by show (j - 16).natAbs < 2 ^ (23 + 1); omega)).1] at hr
  exact end_ge ⟨by decide, by decide⟩ hjt hr (z := 2) ⟨by decide, by decide⟩ V1z
end
/-- The first crossing, if there is one. -/
theorem cross_first (P : Rd) (X n : Nat) : (∀ i, i + 1 < n → crB P X i = false) ∨ ∃ j, j + 1 < n ∧ crB P X j = true ∧ ∀ i, i < j → crB P X i = false := by
  have key : ∀ k, k + 1 ≤ n ∨ n = 0 → (∀ i, i < k → i + 1 < n → crB P X i = false) ∨ ∃ j, j + 1 < n ∧ crB P X j = true ∧ ∀ i, i < j → crB P X i = false := by
    intro k
    induction k with
    | zero => intro _; exact .inl fun i hi => by omega
    | succ k ih =>
      intro hk
      rcases ih (by omega) with h | h
      · by_cases hk1 : k + 1 < n
        · rcases hc : crB P X k
          · exact .inl fun i hi h1 => by
              by_cases e : i = k
              · rw [e]; exact hc
              · exact h i (by omega) h1
          · exact .inr ⟨k, hk1, hc, fun i hi => h i hi (by omega)⟩
        · exact .inl fun i hi h1 => h i (by omega) h1
      · exact .inr h
  rcases key (n - 1) (by omega) with h | h
  · exact .inl fun i hi => h i (by omega) hi
  · exact .inr h
end Go.Proofs.Ytpnkapdemgieaaa

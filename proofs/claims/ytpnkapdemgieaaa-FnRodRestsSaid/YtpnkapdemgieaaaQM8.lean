/-
  A rod a tick later: the program's way. No condition but what each contract says.
  Sums over rods (heat, mass, how much they hinder heat), the mean warmth, what passes at an end: the program's and the reference's. No condition but what each contract says.
  More steps of plans with operations that turn memory: a slice of one number, an append to an own slice, a store behind which what it waited for is told anew. No condition but what each law says.
  A run of a rod as a plain function: tick by tick, with the heats. No condition but what each law says.
  Drawn rods: how much passes between their cells, between bounds; a tick by rows. No condition but what each law says; nothing of the program is named here.
  Drawn rods: a tick of a quarter by rows; how near the warmths are, how much heat may be lost. No condition but what each law says; nothing of the program is named here.
  Drawn rods: runs of ticks by rows; the heat of a rod. No condition but what each law says; nothing of the program is named here.
  Drawn stuffs, on: how warm a heat makes them, and back. No condition but what each law says.
  Drawn stuffs, on: what the law on stuffs asks of heats, warmths and parts. No condition but what each law says.
  Drawn stuffs, on: the heat that a warmth and a part come to; how easily heat flows. No condition but what each law says.
  Drawn stuffs, in 64 bits: gaps, the lesser and the greater; all that the law on stuffs asks. No condition but what each law says.
  How far two numbers lie apart, in 64 bits: the laws' own helper. No condition but what each law says.
-/
import Derived.Test.YtpnkapdemgieaaaQM7
import Derived.Test.YtpnkapdemgieaaaQM4
import Derived.Test.YtpnkapdemgieaaaQM3
import Derived.Test.YtpnkapdemgieaaaQM2
import Derived.Test.YtpnkapdemgieaaaQM5
import Derived.Test.YtpnkapdemgieaaaQM6
set_option linter.unusedSimpArgs false
set_option linter.unusedVariables false
set_option linter.unusedSectionVars false
namespace Go.Proofs.Ytpnkapdemgieaaa
open Go Go.RowKit
open Go.ChangeShapes Go.WideShapes Go.ChangeAt Go.RowKit Go.Joins
def fAt (P : Rd) (E G : EndT) (i : Nat) : Nat := (flowR P E G).getD i 0
def stepB (P : Rd) (f : Nat → Nat) (t i : Nat) : Nat := fop .add .f32 (cn .f32 (P.d.getD i 0)) (fop .quo .f32 (fop .mul .f32 (cn .f32 t) (fop .sub .f32 (f i) (f (i + 1)))) (fop .mul .f32 (cn .f32 (P.a.getD i 0)) (cn .f32 (P.c.getD i 0))))
def stepL (P : Rd) (f : Nat → Nat) (t k : Nat) : List Nat := (List.range k).map (stepB P f t)
theorem stepL_step (P : Rd) (f : Nat → Nat) (t k : Nat) : stepL P f t (k + 1) = stepL P f t k ++ [stepB P f t k] := by unfold stepL; rw [List.range_succ, List.map_append]; rfl
def stepR (P : Rd) (E G : EndT) (t : Nat) : Rd := ⟨P.a, P.b, P.c, stepL P (fAt P E G) t P.d.length⟩
def stepPre (P : Rd) (E G : EndT) (t : Nat) : Bool := flowOk P E G && lst (cn .f32 t)
def stepOk (P : Rd) (E G : EndT) (t : Nat) : Bool := stepPre P E G t && (stepR P E G t).ok
theorem stepL_cn (P : Rd) (f : Nat → Nat) (t k : Nat) : (stepL P f t k).map (cn .f32) = stepL P f t k := by
  unfold stepL
  rw [List.map_map]
  exact List.map_congr_left fun i _ => cn_fop _ _ _ _
theorem stepL_len (P : Rd) (f : Nat → Nat) (t k : Nat) : (stepL P f t k).length = k := by simp [stepL]
theorem flowR_len (P : Rd) (E G : EndT) : (flowR P E G).length = P.a.length + 1 := flowL_len _ _ _
theorem flowOk_rod {P : Rd} {E G : EndT} (h : flowOk P E G = true) : P.ok = true := by
  unfold flowOk at h
  rw [Bool.and_eq_true] at h
  exact endsOk_rod (passOk_split h.1).1
set_option maxHeartbeats 4000000 in
set_option maxRecDepth 100000 in
theorem implStep_any (P : Rd) (l : RL) (E G : EndT) (t : Nat) (w : World) (hs : P.fs w l) : Calls Try.prog 15 #[.agg #[.slice l.p1 P.a.length l.c1, .slice l.p2 P.b.length l.c2, .slice l.p3 P.c.length l.c3, .slice l.p4 P.d.length l.c4], .agg #[.int .i64 E.k, .float .f32 E.t, .float .f32 E.e], .agg #[.int .i64 G.k, .float .f32 G.t, .float .f32 G.e], .float .f32 t] w (fun e w' => ∃ R m b, (R = okR b (stepR P E G t) ∧ b = stepOk P E G t) ∧ e = .returned (.tuple #[.agg #[.slice m.p1 R.a.length m.c1, .slice m.p2 R.b.length m.c2, .slice m.p3 R.c.length m.c3, .slice m.p4 R.d.length m.c4], .bool b]) ∧ Below w.heap.size w w' ∧ RdX w.heap.size w'.heap.size w' R m) := by
  have HS := Lib.hid hs
  have HF := Lib.hid (fun w h => implFlowsR_any P l E G w h)
  rcases h0 : flowOk P E G
  · rw [h0] at HF
    have HE : Hid (stepOk P E G t = false) := by show _ = _; simp [stepOk, stepPre, h0]
    clear hs
    go_enter Try.func15, Try.ntmps15
    go_wp2_with (first | (with_reducible refine at_list ?_; refine wpList_fop rfl rfl rfl rfl rfl ?_; intro r n hr0; have hr := hr0 _ _ (by first | with_reducible assumption | exact rfl) (by first | with_reducible assumption | exact rfl); clear hr0) | (with_reducible refine at_list ?_; refine wpList_neg rfl rfl rfl ?_; intro r hr0; have hr := hr0 _ (by first | with_reducible assumption | exact rfl); clear hr0) | (with_reducible refine at_list ?_; refine wpList_fop_g rfl rfl rfl rfl rfl ?_; intro r n hr0; have hr := hr0 _ _ (by first | with_reducible assumption | exact rfl) (by first | with_reducible assumption | exact rfl); clear hr0) | (go_at_call 11; refine ((HF.out _ (HS.out.later (by (repeat (first | (with_reducible exact Below.refl _ _) | (with_reducible assumption) | (with_reducible refine below_then ?_ (by assumption)) | (with_reducible refine Below.trans ?_ (by assumption)) | (with_reducible refine below_drewN ?_ _) | (with_reducible apply Below.drew) | (with_reducible refine below_alloc ?_ _) | refine Below.setCell ?_ (by first | (simp; done) | (simp; omega)) _))))) ).mono ?_; rintro e w' ⟨u, ys, rfl, hb, hO, hL⟩; obtain ⟨pu, cu, rfl⟩ := OF.shape hO; (try simp only [World.size_alloc, World.size_setCell, World.size_drew, World.drewN] at hO); obtain ⟨hT, hk⟩ := bv_next hb (by (repeat (with_reducible first | assumption | apply Trk.alloc | apply Trk.setCell | apply Trk.drewN | apply Trk.drew | exact Trk.nil _))); simp only [SameOn, World.size_alloc, World.size_setCell, World.size_drew, size_drewN', and_true] at hk; have hsz := Below.size hb; (try simp only [World.size_alloc, World.size_setCell, World.size_drew, size_drewN'] at hsz)) | (go_at_call 41; refine (IsFinite_any _ _).mono ?_; rintro e w' ⟨rfl, n, rfl⟩))
    all_goals (try ((first | (refine wp_some_lit (by kernel_rfl) (by kernel_rfl) ?_; (iterate 10 (refine wpSome_one ?_; go_big_quiet_step (fail); refine wpQuiet_nil ?_)); (iterate 2 ((with_reducible refine at_some ?_; refine wpSome_fop rfl rfl rfl rfl rfl ?_; intro r hr0; have hr := hr0 _ _ (by first | with_reducible assumption | exact rfl) (by first | with_reducible assumption | exact rfl); clear hr0); simp only [Act.put, List.setIfInBounds_toArray, List.set_cons_zero, List.set_cons_succ])); (iterate 10 (refine wpSome_one ?_; go_big_quiet_step (fail); refine wpQuiet_nil ?_)); (iterate 2 ((with_reducible refine at_some ?_; refine wpSome_fop rfl rfl rfl rfl rfl ?_; intro r hr0; have hr := hr0 _ _ (by first | with_reducible assumption | exact rfl) (by first | with_reducible assumption | exact rfl); clear hr0); simp only [Act.put, List.setIfInBounds_toArray, List.set_cons_zero, List.set_cons_succ])); (refine wpSome_one ?_; go_big_quiet_step (fail); refine wpQuiet_nil ?_); refine wpSome_nil ?_; intro w' hw'; obtain ⟨nq, rfl⟩ := hw')); go_wp2_with (first | (with_reducible refine at_list ?_; refine wpList_fop rfl rfl rfl rfl rfl ?_; intro r n hr0; have hr := hr0 _ _ (by first | with_reducible assumption | exact rfl) (by first | with_reducible assumption | exact rfl); clear hr0) | (with_reducible refine at_list ?_; refine wpList_neg rfl rfl rfl ?_; intro r hr0; have hr := hr0 _ (by first | with_reducible assumption | exact rfl); clear hr0) | (with_reducible refine at_list ?_; refine wpList_fop_g rfl rfl rfl rfl rfl ?_; intro r n hr0; have hr := hr0 _ _ (by first | with_reducible assumption | exact rfl) (by first | with_reducible assumption | exact rfl); clear hr0) | (go_at_call 11; refine ((HF.out _ (HS.out.later (by (repeat (first | (with_reducible exact Below.refl _ _) | (with_reducible assumption) | (with_reducible refine below_then ?_ (by assumption)) | (with_reducible refine Below.trans ?_ (by assumption)) | (with_reducible refine below_drewN ?_ _) | (with_reducible apply Below.drew) | (with_reducible refine below_alloc ?_ _) | refine Below.setCell ?_ (by first | (simp; done) | (simp; omega)) _))))) ).mono ?_; rintro e w' ⟨u, ys, rfl, hb, hO, hL⟩; obtain ⟨pu, cu, rfl⟩ := OF.shape hO; (try simp only [World.size_alloc, World.size_setCell, World.size_drew, World.drewN] at hO); obtain ⟨hT, hk⟩ := bv_next hb (by (repeat (with_reducible first | assumption | apply Trk.alloc | apply Trk.setCell | apply Trk.drewN | apply Trk.drew | exact Trk.nil _))); simp only [SameOn, World.size_alloc, World.size_setCell, World.size_drew, size_drewN', and_true] at hk; have hsz := Below.size hb; (try simp only [World.size_alloc, World.size_setCell, World.size_drew, size_drewN'] at hsz)) | (go_at_call 41; refine (IsFinite_any _ _).mono ?_; rintro e w' ⟨rfl, n, rfl⟩))))
    all_goals (try (first | kernel_rfl | rfl))
    all_goals
      refine bodyPost_ret (v := .tuple #[.agg #[.slice none 0 0, .slice none 0 0, .slice none 0 0, .slice none 0 0], .bool false]) (by simp [results, Try.results15, go_sem, *]) rfl ?_
      exact ⟨nilRd, nilRL, false, ⟨(okR_no rfl).symm, HE.out.symm⟩, rfl, by (repeat (first | (with_reducible exact Below.refl _ _) | (with_reducible assumption) | (with_reducible refine below_then ?_ (by assumption)) | (with_reducible refine Below.trans ?_ (by assumption)) | (with_reducible refine below_drewN ?_ _) | (with_reducible apply Below.drew) | (with_reducible refine below_alloc ?_ _) | refine Below.setCell ?_ (by first | (simp; done) | (simp; omega)) _)), nilRd_rx _ _ _⟩
  rw [h0, flowV_ok h0] at HF
  have HP := Lib.hid (flowOk_rod h0)
  rcases h1 : fin .f32 (cn .f32 t)
  · have HE : Hid (stepOk P E G t = false) := by show _ = _; simp [stepOk, stepPre, lst, h1]
    clear hs h0
    go_enter Try.func15, Try.ntmps15
    go_wp2_with (first | (with_reducible refine at_list ?_; refine wpList_fop rfl rfl rfl rfl rfl ?_; intro r n hr0; have hr := hr0 _ _ (by first | with_reducible assumption | exact rfl) (by first | with_reducible assumption | exact rfl); clear hr0) | (with_reducible refine at_list ?_; refine wpList_neg rfl rfl rfl ?_; intro r hr0; have hr := hr0 _ (by first | with_reducible assumption | exact rfl); clear hr0) | (with_reducible refine at_list ?_; refine wpList_fop_g rfl rfl rfl rfl rfl ?_; intro r n hr0; have hr := hr0 _ _ (by first | with_reducible assumption | exact rfl) (by first | with_reducible assumption | exact rfl); clear hr0) | (go_at_call 11; refine ((HF.out _ (HS.out.later (by (repeat (first | (with_reducible exact Below.refl _ _) | (with_reducible assumption) | (with_reducible refine below_then ?_ (by assumption)) | (with_reducible refine Below.trans ?_ (by assumption)) | (with_reducible refine below_drewN ?_ _) | (with_reducible apply Below.drew) | (with_reducible refine below_alloc ?_ _) | refine Below.setCell ?_ (by first | (simp; done) | (simp; omega)) _))))) ).mono ?_; rintro e w' ⟨u, ys, rfl, hb, hO, hL⟩; obtain ⟨pu, cu, rfl⟩ := OF.shape hO; (try simp only [World.size_alloc, World.size_setCell, World.size_drew, World.drewN] at hO); obtain ⟨hT, hk⟩ := bv_next hb (by (repeat (with_reducible first | assumption | apply Trk.alloc | apply Trk.setCell | apply Trk.drewN | apply Trk.drew | exact Trk.nil _))); simp only [SameOn, World.size_alloc, World.size_setCell, World.size_drew, size_drewN', and_true] at hk; have hsz := Below.size hb; (try simp only [World.size_alloc, World.size_setCell, World.size_drew, size_drewN'] at hsz)) | (go_at_call 41; refine (IsFinite_any _ _).mono ?_; rintro e w' ⟨rfl, n, rfl⟩))
    all_goals (try ((first | (refine wp_some_lit (by kernel_rfl) (by kernel_rfl) ?_; (iterate 10 (refine wpSome_one ?_; go_big_quiet_step (fail); refine wpQuiet_nil ?_)); (iterate 2 ((with_reducible refine at_some ?_; refine wpSome_fop rfl rfl rfl rfl rfl ?_; intro r hr0; have hr := hr0 _ _ (by first | with_reducible assumption | exact rfl) (by first | with_reducible assumption | exact rfl); clear hr0); simp only [Act.put, List.setIfInBounds_toArray, List.set_cons_zero, List.set_cons_succ])); (iterate 10 (refine wpSome_one ?_; go_big_quiet_step (fail); refine wpQuiet_nil ?_)); (iterate 2 ((with_reducible refine at_some ?_; refine wpSome_fop rfl rfl rfl rfl rfl ?_; intro r hr0; have hr := hr0 _ _ (by first | with_reducible assumption | exact rfl) (by first | with_reducible assumption | exact rfl); clear hr0); simp only [Act.put, List.setIfInBounds_toArray, List.set_cons_zero, List.set_cons_succ])); (refine wpSome_one ?_; go_big_quiet_step (fail); refine wpQuiet_nil ?_); refine wpSome_nil ?_; intro w' hw'; obtain ⟨nq, rfl⟩ := hw')); go_wp2_with (first | (with_reducible refine at_list ?_; refine wpList_fop rfl rfl rfl rfl rfl ?_; intro r n hr0; have hr := hr0 _ _ (by first | with_reducible assumption | exact rfl) (by first | with_reducible assumption | exact rfl); clear hr0) | (with_reducible refine at_list ?_; refine wpList_neg rfl rfl rfl ?_; intro r hr0; have hr := hr0 _ (by first | with_reducible assumption | exact rfl); clear hr0) | (with_reducible refine at_list ?_; refine wpList_fop_g rfl rfl rfl rfl rfl ?_; intro r n hr0; have hr := hr0 _ _ (by first | with_reducible assumption | exact rfl) (by first | with_reducible assumption | exact rfl); clear hr0) | (go_at_call 11; refine ((HF.out _ (HS.out.later (by (repeat (first | (with_reducible exact Below.refl _ _) | (with_reducible assumption) | (with_reducible refine below_then ?_ (by assumption)) | (with_reducible refine Below.trans ?_ (by assumption)) | (with_reducible refine below_drewN ?_ _) | (with_reducible apply Below.drew) | (with_reducible refine below_alloc ?_ _) | refine Below.setCell ?_ (by first | (simp; done) | (simp; omega)) _))))) ).mono ?_; rintro e w' ⟨u, ys, rfl, hb, hO, hL⟩; obtain ⟨pu, cu, rfl⟩ := OF.shape hO; (try simp only [World.size_alloc, World.size_setCell, World.size_drew, World.drewN] at hO); obtain ⟨hT, hk⟩ := bv_next hb (by (repeat (with_reducible first | assumption | apply Trk.alloc | apply Trk.setCell | apply Trk.drewN | apply Trk.drew | exact Trk.nil _))); simp only [SameOn, World.size_alloc, World.size_setCell, World.size_drew, size_drewN', and_true] at hk; have hsz := Below.size hb; (try simp only [World.size_alloc, World.size_setCell, World.size_drew, size_drewN'] at hsz)) | (go_at_call 41; refine (IsFinite_any _ _).mono ?_; rintro e w' ⟨rfl, n, rfl⟩))))
    all_goals (try (first | kernel_rfl | rfl))
    all_goals
      refine bodyPost_ret (v := .tuple #[.agg #[.slice none 0 0, .slice none 0 0, .slice none 0 0, .slice none 0 0], .bool false]) (by simp [results, Try.results15, go_sem, *]) rfl ?_
      exact ⟨nilRd, nilRL, false, ⟨(okR_no rfl).symm, HE.out.symm⟩, rfl, by (repeat (first | (with_reducible exact Below.refl _ _) | (with_reducible assumption) | (with_reducible refine below_then ?_ (by assumption)) | (with_reducible refine Below.trans ?_ (by assumption)) | (with_reducible refine below_drewN ?_ _) | (with_reducible apply Below.drew) | (with_reducible refine below_alloc ?_ _) | refine Below.setCell ?_ (by first | (simp; done) | (simp; omega)) _)), nilRd_rx _ _ _⟩
  have HGE : Hid (flt .f32 (cn .f32 t) (cn .f32 0) = !fge .f32 (cn .f32 t) (cn .f32 0)) := flt_not_fge (fin_not_nan h1) (by rw [isN_cn]; exact isN_lit .f32)
  rcases h2 : flt .f32 (cn .f32 t) (cn .f32 0)
  rotate_left
  · have HE : Hid (stepOk P E G t = false) := by
      show _ = _
      have := HGE.out
      rw [h2] at this
      have h3 : fge .f32 (cn .f32 t) (cn .f32 0) = false := by simpa using this.symm
      simp [stepOk, stepPre, lst, h3]
    clear hs h0
    go_enter Try.func15, Try.ntmps15
    go_wp2_with (first | (with_reducible refine at_list ?_; refine wpList_fop rfl rfl rfl rfl rfl ?_; intro r n hr0; have hr := hr0 _ _ (by first | with_reducible assumption | exact rfl) (by first | with_reducible assumption | exact rfl); clear hr0) | (with_reducible refine at_list ?_; refine wpList_neg rfl rfl rfl ?_; intro r hr0; have hr := hr0 _ (by first | with_reducible assumption | exact rfl); clear hr0) | (with_reducible refine at_list ?_; refine wpList_fop_g rfl rfl rfl rfl rfl ?_; intro r n hr0; have hr := hr0 _ _ (by first | with_reducible assumption | exact rfl) (by first | with_reducible assumption | exact rfl); clear hr0) | (go_at_call 11; refine ((HF.out _ (HS.out.later (by (repeat (first | (with_reducible exact Below.refl _ _) | (with_reducible assumption) | (with_reducible refine below_then ?_ (by assumption)) | (with_reducible refine Below.trans ?_ (by assumption)) | (with_reducible refine below_drewN ?_ _) | (with_reducible apply Below.drew) | (with_reducible refine below_alloc ?_ _) | refine Below.setCell ?_ (by first | (simp; done) | (simp; omega)) _))))) ).mono ?_; rintro e w' ⟨u, ys, rfl, hb, hO, hL⟩; obtain ⟨pu, cu, rfl⟩ := OF.shape hO; (try simp only [World.size_alloc, World.size_setCell, World.size_drew, World.drewN] at hO); obtain ⟨hT, hk⟩ := bv_next hb (by (repeat (with_reducible first | assumption | apply Trk.alloc | apply Trk.setCell | apply Trk.drewN | apply Trk.drew | exact Trk.nil _))); simp only [SameOn, World.size_alloc, World.size_setCell, World.size_drew, size_drewN', and_true] at hk; have hsz := Below.size hb; (try simp only [World.size_alloc, World.size_setCell, World.size_drew, size_drewN'] at hsz)) | (go_at_call 41; refine (IsFinite_any _ _).mono ?_; rintro e w' ⟨rfl, n, rfl⟩))
    all_goals (try ((first | (refine wp_some_lit (by kernel_rfl) (by kernel_rfl) ?_; (iterate 10 (refine wpSome_one ?_; go_big_quiet_step (fail); refine wpQuiet_nil ?_)); (iterate 2 ((with_reducible refine at_some ?_; refine wpSome_fop rfl rfl rfl rfl rfl ?_; intro r hr0; have hr := hr0 _ _ (by first | with_reducible assumption | exact rfl) (by first | with_reducible assumption | exact rfl); clear hr0); simp only [Act.put, List.setIfInBounds_toArray, List.set_cons_zero, List.set_cons_succ])); (iterate 10 (refine wpSome_one ?_; go_big_quiet_step (fail); refine wpQuiet_nil ?_)); (iterate 2 ((with_reducible refine at_some ?_; refine wpSome_fop rfl rfl rfl rfl rfl ?_; intro r hr0; have hr := hr0 _ _ (by first | with_reducible assumption | exact rfl) (by first | with_reducible assumption | exact rfl); clear hr0); simp only [Act.put, List.setIfInBounds_toArray, List.set_cons_zero, List.set_cons_succ])); (refine wpSome_one ?_; go_big_quiet_step (fail); refine wpQuiet_nil ?_); refine wpSome_nil ?_; intro w' hw'; obtain ⟨nq, rfl⟩ := hw')); go_wp2_with (first | (with_reducible refine at_list ?_; refine wpList_fop rfl rfl rfl rfl rfl ?_; intro r n hr0; have hr := hr0 _ _ (by first | with_reducible assumption | exact rfl) (by first | with_reducible assumption | exact rfl); clear hr0) | (with_reducible refine at_list ?_; refine wpList_neg rfl rfl rfl ?_; intro r hr0; have hr := hr0 _ (by first | with_reducible assumption | exact rfl); clear hr0) | (with_reducible refine at_list ?_; refine wpList_fop_g rfl rfl rfl rfl rfl ?_; intro r n hr0; have hr := hr0 _ _ (by first | with_reducible assumption | exact rfl) (by first | with_reducible assumption | exact rfl); clear hr0) | (go_at_call 11; refine ((HF.out _ (HS.out.later (by (repeat (first | (with_reducible exact Below.refl _ _) | (with_reducible assumption) | (with_reducible refine below_then ?_ (by assumption)) | (with_reducible refine Below.trans ?_ (by assumption)) | (with_reducible refine below_drewN ?_ _) | (with_reducible apply Below.drew) | (with_reducible refine below_alloc ?_ _) | refine Below.setCell ?_ (by first | (simp; done) | (simp; omega)) _))))) ).mono ?_; rintro e w' ⟨u, ys, rfl, hb, hO, hL⟩; obtain ⟨pu, cu, rfl⟩ := OF.shape hO; (try simp only [World.size_alloc, World.size_setCell, World.size_drew, World.drewN] at hO); obtain ⟨hT, hk⟩ := bv_next hb (by (repeat (with_reducible first | assumption | apply Trk.alloc | apply Trk.setCell | apply Trk.drewN | apply Trk.drew | exact Trk.nil _))); simp only [SameOn, World.size_alloc, World.size_setCell, World.size_drew, size_drewN', and_true] at hk; have hsz := Below.size hb; (try simp only [World.size_alloc, World.size_setCell, World.size_drew, size_drewN'] at hsz)) | (go_at_call 41; refine (IsFinite_any _ _).mono ?_; rintro e w' ⟨rfl, n, rfl⟩))))
    all_goals (try (first | kernel_rfl | rfl))
    all_goals
      refine bodyPost_ret (v := .tuple #[.agg #[.slice none 0 0, .slice none 0 0, .slice none 0 0, .slice none 0 0], .bool false]) (by simp [results, Try.results15, go_sem, *]) rfl ?_
      exact ⟨nilRd, nilRL, false, ⟨(okR_no rfl).symm, HE.out.symm⟩, rfl, by (repeat (first | (with_reducible exact Below.refl _ _) | (with_reducible assumption) | (with_reducible refine below_then ?_ (by assumption)) | (with_reducible refine Below.trans ?_ (by assumption)) | (with_reducible refine below_drewN ?_ _) | (with_reducible apply Below.drew) | (with_reducible refine below_alloc ?_ _) | refine Below.setCell ?_ (by first | (simp; done) | (simp; omega)) _)), nilRd_rx _ _ _⟩
  have HPRE : Hid (stepOk P E G t = (stepR P E G t).ok) := by
    show _ = _
    have := HGE.out
    rw [h2] at this
    have h3 : fge .f32 (cn .f32 t) (cn .f32 0) = true := by simpa using this.symm
    simp [stepOk, stepPre, lst, h0, h1, h3]
  obtain ⟨hn1, hn2⟩ := (Rd.ok_len HP.out).1
  have HLN := Lib.hid (Rd.ok_len HP.out).2
  obtain ⟨b1, o1, c1, b2, o2, c2, b3, o3, c3, b4, o4, c4, rfl, HA, HB, HCC, HD⟩ := Rd.open hs HP.out
  have hd48 : P.d.length ≤ 48 := by have := HLN.out; omega
  clear hs h0 HB
  go_enter Try.func15, Try.ntmps15
  go_wp2_with (first | (with_reducible refine at_list ?_; refine wpList_fop rfl rfl rfl rfl rfl ?_; intro r n hr0; have hr := hr0 _ _ (by first | with_reducible assumption | exact rfl) (by first | with_reducible assumption | exact rfl); clear hr0) | (with_reducible refine at_list ?_; refine wpList_neg rfl rfl rfl ?_; intro r hr0; have hr := hr0 _ (by first | with_reducible assumption | exact rfl); clear hr0) | (with_reducible refine at_list ?_; refine wpList_fop_g rfl rfl rfl rfl rfl ?_; intro r n hr0; have hr := hr0 _ _ (by first | with_reducible assumption | exact rfl) (by first | with_reducible assumption | exact rfl); clear hr0) | (go_at_call 11; refine stop_here ?_) | (go_at_call 11; refine (implFlowsR_any _ _ _ _ _ (by assumption)).mono ?_; rintro e w' ⟨u, ys, rfl, hb, hO, hL⟩; obtain ⟨pu, cu, rfl⟩ := OF.shape hO; (try simp only [World.size_alloc, World.size_setCell, World.size_drew, World.drewN] at hO); obtain ⟨hT, hk⟩ := bv_next hb (by (repeat (with_reducible first | assumption | apply Trk.alloc | apply Trk.setCell | apply Trk.drewN | apply Trk.drew | exact Trk.nil _))); simp only [SameOn, World.size_alloc, World.size_setCell, World.size_drew, size_drewN', and_true] at hk; have hsz := Below.size hb; (try simp only [World.size_alloc, World.size_setCell, World.size_drew, size_drewN'] at hsz)) | (go_at_call 41; refine (IsFinite_any _ _).mono ?_; rintro e w' ⟨rfl, n, rfl⟩))
  unfold Stop
  refine (HF.out _ (HS.out.later (by (repeat (first | (with_reducible exact Below.refl _ _) | (with_reducible assumption) | (with_reducible refine below_then ?_ (by assumption)) | (with_reducible refine Below.trans ?_ (by assumption)) | (with_reducible refine below_drewN ?_ _) | (with_reducible apply Below.drew) | (with_reducible refine below_alloc ?_ _) | refine Below.setCell ?_ (by first | (simp; done) | (simp; omega)) _))))).mono ?_
  rintro e w' ⟨u, ys0, rfl, hb, hO, hL⟩
  rename World => w0
  have hyl : ys0.length = P.a.length + 1 := by have := congrArg List.length hL; rw [flowR_len] at this; simpa using this
  obtain ⟨bm, om, cm, rfl, _, HY⟩ := FS.ptr hO.fs (by omega)
  rw [hyl]
  rw [hyl] at HY
  obtain ⟨hT, hk⟩ := bv_next hb (by (repeat (with_reducible first | assumption | apply Trk.alloc | apply Trk.setCell | apply Trk.drewN | apply Trk.drew | exact Trk.nil _))); simp only [SameOn, World.size_alloc, World.size_setCell, World.size_drew, size_drewN', and_true] at hk; have hsz := Below.size hb; (try simp only [World.size_alloc, World.size_setCell, World.size_drew, size_drewN'] at hsz)
  have HBW := Lib.hid (show Below w.heap.size w w0 by (repeat (first | (with_reducible exact Below.refl _ _) | (with_reducible assumption) | (with_reducible refine below_then ?_ (by assumption)) | (with_reducible refine Below.trans ?_ (by assumption)) | (with_reducible refine below_drewN ?_ _) | (with_reducible apply Below.drew) | (with_reducible refine below_alloc ?_ _) | refine Below.setCell ?_ (by first | (simp; done) | (simp; omega)) _)))
  have HG : Hid (∀ i, i ≤ P.a.length → cn .f32 (ys0.getD i 0) = fAt P E G i) := fun i hi => map_at hL (by omega)
  have hzw : w.heap.size + 4 ≤ w0.heap.size := by first | omega | (simp at hsz; omega)
  have HR0 : Hid (RdAt P ⟨some ⟨b1, o1, none⟩, c1, some ⟨b2, o2, none⟩, c2, some ⟨b3, o3, none⟩, c3, some ⟨b4, o4, none⟩, c4⟩ w0 w.heap.size 0) := (by unfold RdAt; refine ⟨?_, ?_, ?_, ?_⟩ <;> go_simp)
  have HR8 : Hid (w0.cell? ⟨w.heap.size + 3, 0, none⟩ = some (.slice none 0 0) ∧ w0.cell? ⟨w.heap.size + 3, 1, none⟩ = some (.slice none 0 0) ∧ w0.cell? ⟨w.heap.size + 3, 2, none⟩ = some (.slice none 0 0) ∧ w0.cell? ⟨w.heap.size + 3, 3, none⟩ = some (.slice none 0 0) ∧ ∀ o, w0.frozen? ⟨w.heap.size + 3, o, none⟩ = false) := ⟨by go_simp, by go_simp, by go_simp, by go_simp, fun o => by go_simp⟩
  clear hL hyl hO HF
  go_wp2_with (first | (with_reducible refine at_list ?_; refine wpList_fop rfl rfl rfl rfl rfl ?_; intro r n hr0; have hr := hr0 _ _ (by first | with_reducible assumption | exact rfl) (by first | with_reducible assumption | exact rfl); clear hr0) | (with_reducible refine at_list ?_; refine wpList_neg rfl rfl rfl ?_; intro r hr0; have hr := hr0 _ (by first | with_reducible assumption | exact rfl); clear hr0) | (with_reducible refine at_list ?_; refine wpList_fop_g rfl rfl rfl rfl rfl ?_; intro r n hr0; have hr := hr0 _ _ (by first | with_reducible assumption | exact rfl) (by first | with_reducible assumption | exact rfl); clear hr0) | (go_at_call 11; refine (implFlowsR_any _ _ _ _ _ (by assumption)).mono ?_; rintro e w' ⟨u, ys, rfl, hb, hO, hL⟩; obtain ⟨pu, cu, rfl⟩ := OF.shape hO; (try simp only [World.size_alloc, World.size_setCell, World.size_drew, World.drewN] at hO); obtain ⟨hT, hk⟩ := bv_next hb (by (repeat (with_reducible first | assumption | apply Trk.alloc | apply Trk.setCell | apply Trk.drewN | apply Trk.drew | exact Trk.nil _))); simp only [SameOn, World.size_alloc, World.size_setCell, World.size_drew, size_drewN', and_true] at hk; have hsz := Below.size hb; (try simp only [World.size_alloc, World.size_setCell, World.size_drew, size_drewN'] at hsz)) | (go_at_call 41; refine (IsFinite_any _ _).mono ?_; rintro e w' ⟨rfl, n, rfl⟩))
  refine wp_named ?_
  intro ws hws
  have HB5 : Hid (Below w0.heap.size w0 ws) := by show Below _ _ _; rw [hws]; first | exact (Below.refl _ _).alloc (Nat.le_refl _) _ | exact below_drewN ((Below.refl _ _).alloc (Nat.le_refl _) _) _
  have HOE : Hid (OF w0.heap.size ws (.slice (some ⟨w0.heap.size, 0, none⟩) 0 0) []) := by show OF _ _ _ _; rw [hws]; first | exact OF.empty _ _ rfl (Nat.le_refl _) rfl | exact (OF.empty _ _ rfl (Nat.le_refl _) rfl).drewN _
  clear hws
  go_loopw [12, 39] (fun u z wr => ∃ (k c : Nat) (q : Option Addr) (ys : List Nat), k ≤ P.d.length ∧ z = .int .i64 (k : Int) ∧ u = .slice q ys.length c ∧ ys.length = k ∧ Hid (OF w0.heap.size wr (.slice q ys.length c) ys) ∧ Hid (ys.map (cn .f32) = stepL P (fAt P E G) t k) ∧ Below w0.heap.size w0 wr) (fun _ z _ => P.d.length - (intOf z).toNat)
  case atStart => exact ⟨0, 0, some ⟨w0.heap.size, 0, none⟩, [], by omega, rfl, rfl, rfl, HOE.out, rfl, HB5.out⟩
  case round =>
    clear hb hk hT hsz
    obtain ⟨k, c, q, ys, hk, rfl, rfl, hyl, HOF, HL, hB⟩ := hrel
    have HYL := Lib.hid hyl
    have hzr := hB.size
    have HBr : Hid (Below w.heap.size w wr) := HBW.out.trans (hB.mono (by omega))
    obtain ⟨d0, d1, d2, d3⟩ := rd_later HR0.out hB (by omega)
    simp only [Nat.zero_add] at d0 d1 d2 d3
    have hyn : ys.length ≤ 48 := by omega
    by_cases hlt : k < P.d.length
    · have hlti : (k : Int) < (P.d.length : Int) := by omega
      have hla : k < P.a.length := by have := HLN.out; omega
      have hlai : (k : Int) < (P.a.length : Int) := by omega
      have hlc : k < P.c.length := by have := HLN.out; omega
      have hlci : (k : Int) < (P.c.length : Int) := by omega
      have hki : 0 ≤ (k : Int) + 1 := by omega
      have hkt : ((k : Int) + 1).toNat = k + 1 := by omega
      have hkw : IntKind.i64.wrap ((k : Int) + 1) = (k : Int) + 1 := IntWalk.i64_in _ (by omega)
      have hk1 : k < P.a.length + 1 := by omega
      have hk2 : k + 1 < P.a.length + 1 := by omega
      have hk3 : (k : Int) < (P.a.length : Int) + 1 := by omega
      have hk4 : (k : Int) + 1 < (P.a.length : Int) + 1 := by omega
      have ya := cell_later hB (HY.out k (by omega))
      have yb := cell_later hB (HY.out (k + 1) (by omega))
      have za := cell_later HBr.out (HA.out k hla)
      have zc := cell_later HBr.out (HCC.out k hla)
      have zd := cell_later HBr.out (HD.out k hla)
      have HST := Lib.hid (stepL_step P (fAt P E G) t k)
      have HSB : Hid (stepB P (fAt P E G) t k = fop .add .f32 (cn .f32 (P.d.getD k 0)) (fop .quo .f32 (fop .mul .f32 (cn .f32 t) (fop .sub .f32 (fAt P E G k) (fAt P E G (k + 1)))) (fop .mul .f32 (cn .f32 (P.a.getD k 0)) (cn .f32 (P.c.getD k 0))))) := rfl
      have HG0 : Hid (cn .f32 (ys0.getD k 0) = fAt P E G k) := HG.out k (by omega)
      have HG1 : Hid (cn .f32 (ys0.getD (k + 1) 0) = fAt P E G (k + 1)) := HG.out (k + 1) (by omega)
      generalize P.a.getD k 0 = xa at za HSB
      generalize P.c.getD k 0 = xc at zc HSB
      generalize P.d.getD k 0 = xd at zd HSB
      generalize ys0.getD k 0 = va at ya HG0
      generalize ys0.getD (k + 1) 0 = vb at yb HG1
      clear HY HA HCC HD HG hyl
      go_wp2_with (first | (with_reducible refine at_list ?_; refine wpList_fop rfl rfl rfl rfl rfl ?_; intro r n hr0; have hr := hr0 _ _ (by first | with_reducible assumption | exact rfl) (by first | with_reducible assumption | exact rfl); clear hr0) | (with_reducible refine at_list ?_; refine wpList_neg rfl rfl rfl ?_; intro r hr0; have hr := hr0 _ (by first | with_reducible assumption | exact rfl); clear hr0) | (with_reducible refine at_list ?_; refine wpList_fop_g rfl rfl rfl rfl rfl ?_; intro r n hr0; have hr := hr0 _ _ (by first | with_reducible assumption | exact rfl) (by first | with_reducible assumption | exact rfl); clear hr0) | (go_at_call 11; refine (implFlowsR_any _ _ _ _ _ (by assumption)).mono ?_; rintro e w' ⟨u, ys, rfl, hb, hO, hL⟩; obtain ⟨pu, cu, rfl⟩ := OF.shape hO; (try simp only [World.size_alloc, World.size_setCell, World.size_drew, World.drewN] at hO); obtain ⟨hT, hk⟩ := bv_next hb (by (repeat (with_reducible first | assumption | apply Trk.alloc | apply Trk.setCell | apply Trk.drewN | apply Trk.drew | exact Trk.nil _))); simp only [SameOn, World.size_alloc, World.size_setCell, World.size_drew, size_drewN', and_true] at hk; have hsz := Below.size hb; (try simp only [World.size_alloc, World.size_setCell, World.size_drew, size_drewN'] at hsz)) | (go_at_call 41; refine (IsFinite_any _ _).mono ?_; rintro e w' ⟨rfl, n, rfl⟩))
      (refine wp_some_lit (by kernel_rfl) (by kernel_rfl) ?_; (iterate 10 (refine wpSome_one ?_; go_big_quiet_step (fail); refine wpQuiet_nil ?_)); (iterate 2 ((with_reducible refine at_some ?_; refine wpSome_fop rfl rfl rfl rfl rfl ?_; intro r hr0; have hr := hr0 _ _ (by first | with_reducible assumption | exact rfl) (by first | with_reducible assumption | exact rfl); clear hr0); simp only [Act.put, List.setIfInBounds_toArray, List.set_cons_zero, List.set_cons_succ])); (iterate 10 (refine wpSome_one ?_; go_big_quiet_step (fail); refine wpQuiet_nil ?_)); (iterate 2 ((with_reducible refine at_some ?_; refine wpSome_fop rfl rfl rfl rfl rfl ?_; intro r hr0; have hr := hr0 _ _ (by first | with_reducible assumption | exact rfl) (by first | with_reducible assumption | exact rfl); clear hr0); simp only [Act.put, List.setIfInBounds_toArray, List.set_cons_zero, List.set_cons_succ])); (refine wpSome_one ?_; go_big_quiet_step (fail); refine wpQuiet_nil ?_); refine wpSome_nil ?_; intro w' hw'; obtain ⟨nq, rfl⟩ := hw')
      go_wp2_with (first | (with_reducible refine at_list ?_; refine wpList_fop rfl rfl rfl rfl rfl ?_; intro r n hr0; have hr := hr0 _ _ (by first | with_reducible assumption | exact rfl) (by first | with_reducible assumption | exact rfl); clear hr0) | (with_reducible refine at_list ?_; refine wpList_neg rfl rfl rfl ?_; intro r hr0; have hr := hr0 _ (by first | with_reducible assumption | exact rfl); clear hr0) | (with_reducible refine at_list ?_; refine wpList_fop_g rfl rfl rfl rfl rfl ?_; intro r n hr0; have hr := hr0 _ _ (by first | with_reducible assumption | exact rfl) (by first | with_reducible assumption | exact rfl); clear hr0) | (at_builtin; refine stop_here ?_) | (go_at_call 11; refine (implFlowsR_any _ _ _ _ _ (by assumption)).mono ?_; rintro e w' ⟨u, ys, rfl, hb, hO, hL⟩; obtain ⟨pu, cu, rfl⟩ := OF.shape hO; (try simp only [World.size_alloc, World.size_setCell, World.size_drew, World.drewN] at hO); obtain ⟨hT, hk⟩ := bv_next hb (by (repeat (with_reducible first | assumption | apply Trk.alloc | apply Trk.setCell | apply Trk.drewN | apply Trk.drew | exact Trk.nil _))); simp only [SameOn, World.size_alloc, World.size_setCell, World.size_drew, size_drewN', and_true] at hk; have hsz := Below.size hb; (try simp only [World.size_alloc, World.size_setCell, World.size_drew, size_drewN'] at hsz)) | (go_at_call 41; refine (IsFinite_any _ _).mono ?_; rintro e w' ⟨rfl, n, rfl⟩))
      unfold Stop
      apply wpList_app (B := w0.heap.size) (xs := ys) (v := .slice q ys.length c)
      case hg => rfl
      case ho => rfl
      case hs => rfl
      case hx => rfl
      case hO => exact OF.alloc (OF.later HOF.out (by (repeat (first | (with_reducible exact Below.refl _ _) | (with_reducible assumption) | (with_reducible refine below_then ?_ (by assumption)) | (with_reducible refine Below.trans ?_ (by assumption)) | (with_reducible refine below_drewN ?_ _) | (with_reducible apply Below.drew) | (with_reducible refine below_alloc ?_ _) | refine Below.setCell ?_ (by first | (simp; done) | (simp; omega)) _)))) _
      case hc => go_simp <;> exact rfl
      case hn => omega
      case hB => simp; omega
      intro q5 c5 w5 hO5 hB5
      have hrr : cn .f32 r = stepB P (fAt P E G) t k := by
        rw [HSB.out, ← HG0.out, ← HG1.out]
        assumption
      have HL2 : Hid ((ys ++ [r]).map (cn .f32) = stepL P (fAt P E G) t (k + 1)) := by
        show _ = _
        rw [HST.out]
        exact app_cn HL.out hrr
      have HB6 : Hid (Below w0.heap.size w0 w5) := Below.trans (B := w0.heap.size) (a := w0) (by (repeat (first | (with_reducible exact Below.refl _ _) | (with_reducible assumption) | (with_reducible refine below_then ?_ (by assumption)) | (with_reducible refine Below.trans ?_ (by assumption)) | (with_reducible refine below_drewN ?_ _) | (with_reducible apply Below.drew) | (with_reducible refine below_alloc ?_ _) | refine Below.setCell ?_ (by first | (simp; done) | (simp; omega)) _))) (hB5.mono (by omega))
      have HO5 := Lib.hid hO5
      clear hB5 hO5
      go_wp2_with (first | (with_reducible refine at_list ?_; refine wpList_fop rfl rfl rfl rfl rfl ?_; intro r n hr0; have hr := hr0 _ _ (by first | with_reducible assumption | exact rfl) (by first | with_reducible assumption | exact rfl); clear hr0) | (with_reducible refine at_list ?_; refine wpList_neg rfl rfl rfl ?_; intro r hr0; have hr := hr0 _ (by first | with_reducible assumption | exact rfl); clear hr0) | (with_reducible refine at_list ?_; refine wpList_fop_g rfl rfl rfl rfl rfl ?_; intro r n hr0; have hr := hr0 _ _ (by first | with_reducible assumption | exact rfl) (by first | with_reducible assumption | exact rfl); clear hr0) | (go_at_call 11; refine (implFlowsR_any _ _ _ _ _ (by assumption)).mono ?_; rintro e w' ⟨u, ys, rfl, hb, hO, hL⟩; obtain ⟨pu, cu, rfl⟩ := OF.shape hO; (try simp only [World.size_alloc, World.size_setCell, World.size_drew, World.drewN] at hO); obtain ⟨hT, hk⟩ := bv_next hb (by (repeat (with_reducible first | assumption | apply Trk.alloc | apply Trk.setCell | apply Trk.drewN | apply Trk.drew | exact Trk.nil _))); simp only [SameOn, World.size_alloc, World.size_setCell, World.size_drew, size_drewN', and_true] at hk; have hsz := Below.size hb; (try simp only [World.size_alloc, World.size_setCell, World.size_drew, size_drewN'] at hsz)) | (go_at_call 41; refine (IsFinite_any _ _).mono ?_; rintro e w' ⟨rfl, n, rfl⟩))
      go_roundw
      case rel => exact ⟨k + 1, c5, q5, ys ++ [r], by omega, by go_num, by simp, by simp [HYL.out], by show OF _ _ _ _; have := HO5.out; simpa using this, HL2.out, HB6.out⟩
      case measure => simp [intOf]; omega
      all_goals first | kernel_rfl | rfl
    · have hlti : ¬ (k : Int) < (P.d.length : Int) := by omega
      have hke : k = P.d.length := by omega
      have HLE : Hid (ys.map (cn .f32) = stepL P (fAt P E G) t P.d.length) := by show _ = _; rw [HL.out, hke]
      have hya : ys.length = P.a.length := by have := HLN.out; omega
      have HW := Lib.hid (ok_with HP.out HLE.out hya (stepL_cn _ _ _ _))
      have HEQ : Hid ((Rd.mk P.a P.b P.c ys).ok = (stepR P E G t).ok) := HW.out.1
      have HRE : Hid ((Rd.mk P.a P.b P.c ys).ok = true → Rd.mk P.a P.b P.c ys = stepR P E G t) := fun h => by rw [HW.out.2 h]; rfl
      have HN : Hid ((1 ≤ P.a.length ∧ P.a.length ≤ 1048576) ∧ (1 ≤ P.b.length ∧ P.b.length ≤ 1048576) ∧ (1 ≤ P.c.length ∧ P.c.length ≤ 1048576) ∧ 1 ≤ ys.length ∧ ys.length ≤ 1048576) := by have := HLN.out; exact ⟨⟨by omega, by omega⟩, ⟨by omega, by omega⟩, ⟨by omega, by omega⟩, by omega, by omega⟩
      have hB8 : w.heap.size + 3 < w0.heap.size := by omega
      have hbw := HBW.out
      have hbr := HBr.out
      have g0 := cell_later hB HR8.out.1
      have g1 := cell_later hB HR8.out.2.1
      have g2 := cell_later hB HR8.out.2.2.1
      have g3 := cell_later hB HR8.out.2.2.2.1
      have g4 : ∀ o, wr.frozen? ⟨w.heap.size + 3, o, none⟩ = false := fun o => (hB.frozen (p := ⟨w.heap.size + 3, o, none⟩) hB8).trans (HR8.out.2.2.2.2 o)
      have hT : Trk wr [w.heap.size + 3] := (Trk.nil wr).more (by omega)
      clear HL hke hyl hya HY HA HCC HD HG HLE HW
      rcases ho : (Rd.mk P.a P.b P.c ys).ok
      · have HE : Hid (stepOk P E G t = false) := by show _ = _; rw [HPRE.out, ← HEQ.out, ho]
        go_wp2_with (first | (with_reducible refine at_list ?_; refine wpList_fop rfl rfl rfl rfl rfl ?_; intro r n hr0; have hr := hr0 _ _ (by first | with_reducible assumption | exact rfl) (by first | with_reducible assumption | exact rfl); clear hr0) | (with_reducible refine at_list ?_; refine wpList_neg rfl rfl rfl ?_; intro r hr0; have hr := hr0 _ (by first | with_reducible assumption | exact rfl); clear hr0) | (with_reducible refine at_list ?_; refine wpList_fop_g rfl rfl rfl rfl rfl ?_; intro r n hr0; have hr := hr0 _ _ (by first | with_reducible assumption | exact rfl) (by first | with_reducible assumption | exact rfl); clear hr0) | (go_at_call 40; refine (withWarms_no P _ ys _ _ (HS.out.later (by (repeat (first | (with_reducible exact Below.refl _ _) | (with_reducible assumption) | (with_reducible refine below_then ?_ (by assumption)) | (with_reducible refine Below.trans ?_ (by assumption)) | (with_reducible refine below_drewN ?_ _) | (with_reducible apply Below.drew) | (with_reducible refine below_alloc ?_ _) | refine Below.setCell ?_ (by first | (simp; done) | (simp; omega)) _)))) (FS.later (OF.fs HOF.out) (by (repeat (first | (with_reducible exact Below.refl _ _) | (with_reducible assumption) | (with_reducible refine below_then ?_ (by assumption)) | (with_reducible refine Below.trans ?_ (by assumption)) | (with_reducible refine below_drewN ?_ _) | (with_reducible apply Below.drew) | (with_reducible refine below_alloc ?_ _) | refine Below.setCell ?_ (by first | (simp; done) | (simp; omega)) _)))) HN.out ho).mono ?_; rintro e w' ⟨rfl, hb⟩; obtain ⟨hT, hk⟩ := bv_next hb (by (repeat (with_reducible first | assumption | apply Trk.alloc | apply Trk.setCell | apply Trk.drewN | apply Trk.drew | exact Trk.nil _))); simp only [SameOn, World.size_alloc, World.size_setCell, World.size_drew, size_drewN', and_true] at hk; have hsz := Below.size hb; (try simp only [World.size_alloc, World.size_setCell, World.size_drew, size_drewN'] at hsz)) | (go_at_call 11; refine (implFlowsR_any _ _ _ _ _ (by assumption)).mono ?_; rintro e w' ⟨u, ys, rfl, hb, hO, hL⟩; obtain ⟨pu, cu, rfl⟩ := OF.shape hO; (try simp only [World.size_alloc, World.size_setCell, World.size_drew, World.drewN] at hO); obtain ⟨hT, hk⟩ := bv_next hb (by (repeat (with_reducible first | assumption | apply Trk.alloc | apply Trk.setCell | apply Trk.drewN | apply Trk.drew | exact Trk.nil _))); simp only [SameOn, World.size_alloc, World.size_setCell, World.size_drew, size_drewN', and_true] at hk; have hsz := Below.size hb; (try simp only [World.size_alloc, World.size_setCell, World.size_drew, size_drewN'] at hsz)) | (go_at_call 41; refine (IsFinite_any _ _).mono ?_; rintro e w' ⟨rfl, n, rfl⟩))
        refine bodyPost_ret (v := .tuple #[.agg #[.slice none 0 0, .slice none 0 0, .slice none 0 0, .slice none 0 0], .bool false]) (by simp [results, Try.results15, go_sem, *]) rfl ?_
        exact ⟨nilRd, nilRL, false, ⟨(okR_no rfl).symm, HE.out.symm⟩, rfl, by (repeat (first | (with_reducible exact Below.refl _ _) | (with_reducible assumption) | (with_reducible refine below_then ?_ (by assumption)) | (with_reducible refine Below.trans ?_ (by assumption)) | (with_reducible refine below_drewN ?_ _) | (with_reducible apply Below.drew) | (with_reducible refine below_alloc ?_ _) | refine Below.setCell ?_ (by first | (simp; done) | (simp; omega)) _)), nilRd_rx _ _ _⟩
      · have HE : Hid (stepOk P E G t = true) := by show _ = _; rw [HPRE.out, ← HEQ.out, ho]
        have HQ := Lib.hid (HRE.out ho)
        go_wp2_with (first | (with_reducible refine at_list ?_; refine wpList_fop rfl rfl rfl rfl rfl ?_; intro r n hr0; have hr := hr0 _ _ (by first | with_reducible assumption | exact rfl) (by first | with_reducible assumption | exact rfl); clear hr0) | (with_reducible refine at_list ?_; refine wpList_neg rfl rfl rfl ?_; intro r hr0; have hr := hr0 _ (by first | with_reducible assumption | exact rfl); clear hr0) | (with_reducible refine at_list ?_; refine wpList_fop_g rfl rfl rfl rfl rfl ?_; intro r n hr0; have hr := hr0 _ _ (by first | with_reducible assumption | exact rfl) (by first | with_reducible assumption | exact rfl); clear hr0) | (go_at_call 40; refine (withWarms_yes P _ ys _ _ (HS.out.later (by (repeat (first | (with_reducible exact Below.refl _ _) | (with_reducible assumption) | (with_reducible refine below_then ?_ (by assumption)) | (with_reducible refine Below.trans ?_ (by assumption)) | (with_reducible refine below_drewN ?_ _) | (with_reducible apply Below.drew) | (with_reducible refine below_alloc ?_ _) | refine Below.setCell ?_ (by first | (simp; done) | (simp; omega)) _)))) (FS.later (OF.fs HOF.out) (by (repeat (first | (with_reducible exact Below.refl _ _) | (with_reducible assumption) | (with_reducible refine below_then ?_ (by assumption)) | (with_reducible refine Below.trans ?_ (by assumption)) | (with_reducible refine below_drewN ?_ _) | (with_reducible apply Below.drew) | (with_reducible refine below_alloc ?_ _) | refine Below.setCell ?_ (by first | (simp; done) | (simp; omega)) _)))) HN.out ho).mono ?_; rintro e w' ⟨m, rfl, hb, hX⟩; (try simp only [World.size_alloc, World.size_setCell, World.size_drew, World.drewN] at hX); obtain ⟨hT, hk⟩ := bv_next hb (by (repeat (with_reducible first | assumption | apply Trk.alloc | apply Trk.setCell | apply Trk.drewN | apply Trk.drew | exact Trk.nil _))); simp only [SameOn, World.size_alloc, World.size_setCell, World.size_drew, size_drewN', and_true] at hk; have hsz := Below.size hb; (try simp only [World.size_alloc, World.size_setCell, World.size_drew, size_drewN'] at hsz)) | (go_at_call 11; refine (implFlowsR_any _ _ _ _ _ (by assumption)).mono ?_; rintro e w' ⟨u, ys, rfl, hb, hO, hL⟩; obtain ⟨pu, cu, rfl⟩ := OF.shape hO; (try simp only [World.size_alloc, World.size_setCell, World.size_drew, World.drewN] at hO); obtain ⟨hT, hk⟩ := bv_next hb (by (repeat (with_reducible first | assumption | apply Trk.alloc | apply Trk.setCell | apply Trk.drewN | apply Trk.drew | exact Trk.nil _))); simp only [SameOn, World.size_alloc, World.size_setCell, World.size_drew, size_drewN', and_true] at hk; have hsz := Below.size hb; (try simp only [World.size_alloc, World.size_setCell, World.size_drew, size_drewN'] at hsz)) | (go_at_call 41; refine (IsFinite_any _ _).mono ?_; rintro e w' ⟨rfl, n, rfl⟩))
        refine bodyPost_ret (v := .tuple #[.agg #[.slice m.p1 P.a.length m.c1, .slice m.p2 P.b.length m.c2, .slice m.p3 P.c.length m.c3, .slice m.p4 ys.length m.c4], .bool true]) (by simp [results, Try.results15, go_sem, *]) rfl ?_
        exact ⟨Rd.mk P.a P.b P.c ys, m, true, ⟨(okR_yes rfl).trans HQ.out.symm |>.symm, HE.out.symm⟩, rfl, by (repeat (first | (with_reducible exact Below.refl _ _) | (with_reducible assumption) | (with_reducible refine below_then ?_ (by assumption)) | (with_reducible refine Below.trans ?_ (by assumption)) | (with_reducible refine below_drewN ?_ _) | (with_reducible apply Below.drew) | (with_reducible refine below_alloc ?_ _) | refine Below.setCell ?_ (by first | (simp; done) | (simp; omega)) _)), RdX.base (by (repeat' (first | (with_reducible assumption) | (with_reducible apply RdX.setCell) | (with_reducible apply RdX.alloc) | (with_reducible apply RdX.later; rotate_left; with_reducible assumption) | (with_reducible apply RdX.turn; rotate_left; with_reducible assumption) | (with_reducible apply RdX.drewN))) <;> (first | omega | (simp; done) | (simp; omega))) (by first | omega | (simp; done) | (simp; omega)) (by first | omega | (simp; done) | (simp; omega))⟩
end Go.Proofs.Ytpnkapdemgieaaa
set_option linter.unusedSimpArgs false
set_option linter.unusedVariables false
set_option linter.unusedSectionVars false
namespace Go.Proofs.Ytpnkapdemgieaaa
open Go Go.RowKit
open Go.ChangeShapes Go.WideShapes Go.ChangeAt Go.RowKit Go.Joins
def heatK (P : Rd) : Nat → Nat
  | 0 => cn .f32 0
  | k + 1 => fop .add .f32 (heatK P k) (fop .mul .f32 (fop .mul .f32 (cn .f32 (P.a.getD k 0)) (cn .f32 (P.c.getD k 0))) (cn .f32 (P.d.getD k 0)))
def massK (P : Rd) : Nat → Nat
  | 0 => cn .f32 0
  | k + 1 => fop .add .f32 (massK P k) (fop .mul .f32 (cn .f32 (P.a.getD k 0)) (cn .f32 (P.c.getD k 0)))
def hindK (P : Rd) : Nat → Nat
  | 0 => cn .f32 0
  | k + 1 => fop .add .f32 (hindK P k) (fop .quo .f32 (cn .f32 (P.a.getD k 0)) (cn .f32 (P.b.getD k 0)))
theorem cn_heatK (P : Rd) : ∀ k, cn .f32 (heatK P k) = heatK P k | 0 => cn_cn .f32 0 | _ + 1 => cn_fop _ _ _ _
set_option maxHeartbeats 2000000 in
set_option maxRecDepth 100000 in
theorem heatOfRod_any (P : Rd) (l : RL) (w : World) (hs : P.fs w l) (h0 : P.ok = true) : Calls Try.prog 51 #[.agg #[.slice l.p1 P.a.length l.c1, .slice l.p2 P.b.length l.c2, .slice l.p3 P.c.length l.c3, .slice l.p4 P.d.length l.c4]] w (BF w .f32 (heatK P P.a.length)) := by
  obtain ⟨hn1, hn2⟩ := (Rd.ok_len h0).1
  have HLN := Lib.hid (Rd.ok_len h0).2
  obtain ⟨b1, o1, c1, b2, o2, c2, b3, o3, c3, b4, o4, c4, rfl, HA, HB, HC, HD⟩ := Rd.open hs h0
  clear hs h0
  go_enter Try.func51, Try.ntmps51
  go_wp2_with (first | (with_reducible refine at_list ?_; refine wpList_wide rfl rfl rfl Try.underlying28 Try.underlying39 ?_; intro r n hr0; have hr := hr0 _ (by first | with_reducible assumption | exact rfl); clear hr0))
  refine wp_named ?_
  intro W0 hW0
  have HBW : Hid (Below w.heap.size w W0) := by show Below _ _ _; rw [hW0]; (repeat (first | (with_reducible exact Below.refl _ _) | (with_reducible assumption) | (with_reducible refine below_then ?_ (by assumption)) | (with_reducible refine Below.trans ?_ (by assumption)) | (with_reducible refine below_drewN ?_ _) | (with_reducible apply Below.drew) | (with_reducible refine below_alloc ?_ _) | refine Below.setCell ?_ (by first | (simp; done) | (simp; omega)) _))
  have D0 : Hid (RdAt P ⟨some ⟨b1, o1, none⟩, c1, some ⟨b2, o2, none⟩, c2, some ⟨b3, o3, none⟩, c3, some ⟨b4, o4, none⟩, c4⟩ W0 w.heap.size 0) := by show RdAt _ _ _ _ _; rw [hW0]; exact (by unfold RdAt; refine ⟨?_, ?_, ?_, ?_⟩ <;> go_simp)
  have EA : Hid (∀ i, i < P.a.length → W0.cell? ⟨b1, o1 + i, none⟩ = some (.float .f32 (P.a.getD i 0))) := fun i hi => cell_later HBW.out (HA.out i hi)
  have EB : Hid (∀ i, i < P.a.length → W0.cell? ⟨b2, o2 + i, none⟩ = some (.float .f32 (P.b.getD i 0))) := fun i hi => cell_later HBW.out (HB.out i hi)
  have EC : Hid (∀ i, i < P.a.length → W0.cell? ⟨b3, o3 + i, none⟩ = some (.float .f32 (P.c.getD i 0))) := fun i hi => cell_later HBW.out (HC.out i hi)
  have ED : Hid (∀ i, i < P.a.length → W0.cell? ⟨b4, o4 + i, none⟩ = some (.float .f32 (P.d.getD i 0))) := fun i hi => cell_later HBW.out (HD.out i hi)
  clear hW0 HA HB HC HD
  go_loopw [3, 9] (fun s z wr => ∃ (k r m : Nat), k ≤ P.a.length ∧ z = .int .i64 (k : Int) ∧ s = .float .f32 r ∧ Hid (cn .f32 r = heatK P k) ∧ Hid (wr = W0.drewN m)) (fun _ z _ => P.a.length - (intOf z).toNat)
  case atStart => exact ⟨0, 0, 0, Nat.zero_le _, rfl, rfl, rfl, (rfl : _ = W0.drewN 0)⟩
  case round =>
    obtain ⟨k, r0, m, hk, rfl, rfl, HR, HWR⟩ := hrel
    have hcw : ∀ a, wr.cell? a = W0.cell? a := fun a => by rw [HWR.out]; rfl
    have HDR : Hid (∀ n, wr.drewN n = W0.drewN (m + n)) := fun n => by rw [HWR.out, World.drewN_drewN]
    have q0 := (hcw _).trans D0.out.1
    have q1 := (hcw _).trans D0.out.2.1
    have q2 := (hcw _).trans D0.out.2.2.1
    have q3 := (hcw _).trans D0.out.2.2.2
    by_cases hlt : k < P.a.length
    · have hlti : (k : Int) < (P.a.length : Int) := by omega
      have hlb : k < P.b.length := by have := HLN.out; omega
      have hlc : k < P.c.length := by have := HLN.out; omega
      have hld : k < P.d.length := by have := HLN.out; omega
      have hlbi : (k : Int) < (P.b.length : Int) := by omega
      have hlci : (k : Int) < (P.c.length : Int) := by omega
      have hldi : (k : Int) < (P.d.length : Int) := by omega
      have za := (hcw _).trans (EA.out k hlt)
      have zb := (hcw _).trans (EB.out k hlt)
      have zc := (hcw _).trans (EC.out k hlt)
      have zd := (hcw _).trans (ED.out k hlt)
      have HST : Hid (heatK P (k + 1) = fop .add .f32 (heatK P k) (fop .mul .f32 (fop .mul .f32 (cn .f32 (P.a.getD k 0)) (cn .f32 (P.c.getD k 0))) (cn .f32 (P.d.getD k 0)))) := rfl
      have hr2 := HR.out
      generalize P.a.getD k 0 = xa at za HST
      generalize P.b.getD k 0 = xb at zb HST
      generalize P.c.getD k 0 = xc at zc HST
      generalize P.d.getD k 0 = xd at zd HST
      clear hcw EA EB EC ED D0
      go_wp2_with (first | (with_reducible refine at_list ?_; refine wpList_wide rfl rfl rfl Try.underlying28 Try.underlying39 ?_; intro r n hr0; have hr := hr0 _ (by first | with_reducible assumption | exact rfl); clear hr0))
      (refine wp_some_lit (by kernel_rfl) (by kernel_rfl) ?_; (iterate 7 (refine wpSome_one ?_; go_big_quiet_step (fail); refine wpQuiet_nil ?_)); ((with_reducible refine at_some ?_; refine wpSome_fop rfl rfl rfl rfl rfl ?_; intro r hr0; have hr := hr0 _ _ (by first | with_reducible assumption | exact rfl) (by first | with_reducible assumption | exact rfl); clear hr0); simp only [Act.put, List.setIfInBounds_toArray, List.set_cons_zero, List.set_cons_succ]); (iterate 5 (refine wpSome_one ?_; go_big_quiet_step (fail); refine wpQuiet_nil ?_)); (iterate 2 ((with_reducible refine at_some ?_; refine wpSome_fop rfl rfl rfl rfl rfl ?_; intro r hr0; have hr := hr0 _ _ (by first | with_reducible assumption | exact rfl) (by first | with_reducible assumption | exact rfl); clear hr0); simp only [Act.put, List.setIfInBounds_toArray, List.set_cons_zero, List.set_cons_succ])); (refine wpSome_one ?_; go_big_quiet_step (fail); refine wpQuiet_nil ?_); refine wpSome_nil ?_; intro w' hw'; obtain ⟨nq, rfl⟩ := hw')
      go_wp2_with (first | (with_reducible refine at_list ?_; refine wpList_wide rfl rfl rfl Try.underlying28 Try.underlying39 ?_; intro r n hr0; have hr := hr0 _ (by first | with_reducible assumption | exact rfl); clear hr0))
      go_roundw
      case rel => exact ⟨k + 1, _, _, by omega, by go_num, rfl, by show _ = _; rw [HST.out]; assumption, HDR.out _⟩
      case measure => simp [intOf]; omega
      all_goals first | kernel_rfl | rfl
    · have hlti : ¬ (k : Int) < (P.a.length : Int) := by omega
      obtain hke : k = P.a.length := by omega
      have HRE : Hid (cn .f32 r0 = heatK P P.a.length) := by show _ = _; rw [HR.out, hke]
      have hre := HRE.out
      clear hcw EA EB EC ED D0 HR hke
      go_wp2_with (first | (with_reducible refine at_list ?_; refine wpList_wide rfl rfl rfl Try.underlying28 Try.underlying39 ?_; intro r n hr0; have hr := hr0 _ (by first | with_reducible assumption | exact rfl); clear hr0))
      go_ret
      exact ⟨_, rfl, hre, by first | exact HBW.out | (rw [HWR.out]; exact below_drewN HBW.out _)⟩
set_option maxHeartbeats 2000000 in
set_option maxRecDepth 100000 in
theorem implHeatOf_any (P : Rd) (l : RL) (w : World) (hs : P.fs w l) : Calls Try.prog 18 #[.agg #[.slice l.p1 P.a.length l.c1, .slice l.p2 P.b.length l.c2, .slice l.p3 P.c.length l.c3, .slice l.p4 P.d.length l.c4]] w (BFB w .f32 (gF P.ok (heatK P P.a.length)) (gB P.ok (heatK P P.a.length))) := by
  have HS := Lib.hid hs
  clear hs
  have HV := Lib.hid (fun w h => implValidRod_any P l w h)
  have HK := Lib.hid (cn_heatK P P.a.length)
  rcases h0 : P.ok
  · rw [h0] at HV
    go_enter Try.func18, Try.ntmps18
    go_wp2_with (first | (go_at_call 35; refine ((HV.out _ (HS.out.later (by (repeat (first | (with_reducible exact Below.refl _ _) | (with_reducible assumption) | (with_reducible refine below_then ?_ (by assumption)) | (with_reducible refine Below.trans ?_ (by assumption)) | (with_reducible refine below_drewN ?_ _) | (with_reducible apply Below.drew) | (with_reducible refine below_alloc ?_ _) | refine Below.setCell ?_ (by first | (simp; done) | (simp; omega)) _))))) ).mono ?_; rintro e w' ⟨rfl, hb⟩; obtain ⟨hT, hk⟩ := bv_next hb (by (repeat (with_reducible first | assumption | apply Trk.alloc | apply Trk.setCell | apply Trk.drewN | apply Trk.drew | exact Trk.nil _))); simp only [SameOn, World.size_alloc, World.size_setCell, World.size_drew, size_drewN', and_true] at hk; have hsz := Below.size hb; (try simp only [World.size_alloc, World.size_setCell, World.size_drew, size_drewN'] at hsz)) | (go_at_call 51; refine (heatOfRod_any _ _ _ (by assumption) (by assumption)).mono ?_; rintro e w' ⟨r, rfl, hr, hb⟩; obtain ⟨hT, hk⟩ := bv_next hb (by (repeat (with_reducible first | assumption | apply Trk.alloc | apply Trk.setCell | apply Trk.drewN | apply Trk.drew | exact Trk.nil _))); simp only [SameOn, World.size_alloc, World.size_setCell, World.size_drew, size_drewN', and_true] at hk; have hsz := Below.size hb; (try simp only [World.size_alloc, World.size_setCell, World.size_drew, size_drewN'] at hsz)) | (go_at_call 47; refine (checked_any _ _).mono ?_; rintro e w' ⟨r, rfl, hr, n, rfl⟩))
    all_goals
      go_ret2
      exact ⟨_, rfl, by simp [gF], by (repeat (first | (with_reducible exact Below.refl _ _) | (with_reducible assumption) | (with_reducible refine below_then ?_ (by assumption)) | (with_reducible refine Below.trans ?_ (by assumption)) | (with_reducible refine below_drewN ?_ _) | (with_reducible apply Below.drew) | (with_reducible refine below_alloc ?_ _) | refine Below.setCell ?_ (by first | (simp; done) | (simp; omega)) _))⟩
  rw [h0] at HV
  have HQ := Lib.hid (fun w h => heatOfRod_any P l w h h0)
  go_enter Try.func18, Try.ntmps18
  go_wp2_with (first | (go_at_call 35; refine ((HV.out _ (HS.out.later (by (repeat (first | (with_reducible exact Below.refl _ _) | (with_reducible assumption) | (with_reducible refine below_then ?_ (by assumption)) | (with_reducible refine Below.trans ?_ (by assumption)) | (with_reducible refine below_drewN ?_ _) | (with_reducible apply Below.drew) | (with_reducible refine below_alloc ?_ _) | refine Below.setCell ?_ (by first | (simp; done) | (simp; omega)) _))))) ).mono ?_; rintro e w' ⟨rfl, hb⟩; obtain ⟨hT, hk⟩ := bv_next hb (by (repeat (with_reducible first | assumption | apply Trk.alloc | apply Trk.setCell | apply Trk.drewN | apply Trk.drew | exact Trk.nil _))); simp only [SameOn, World.size_alloc, World.size_setCell, World.size_drew, size_drewN', and_true] at hk; have hsz := Below.size hb; (try simp only [World.size_alloc, World.size_setCell, World.size_drew, size_drewN'] at hsz)) | (go_at_call 51; refine ((HQ.out _ (HS.out.later (by (repeat (first | (with_reducible exact Below.refl _ _) | (with_reducible assumption) | (with_reducible refine below_then ?_ (by assumption)) | (with_reducible refine Below.trans ?_ (by assumption)) | (with_reducible refine below_drewN ?_ _) | (with_reducible apply Below.drew) | (with_reducible refine below_alloc ?_ _) | refine Below.setCell ?_ (by first | (simp; done) | (simp; omega)) _))))) ).mono ?_; rintro e w' ⟨r, rfl, hr, hb⟩; obtain ⟨hT, hk⟩ := bv_next hb (by (repeat (with_reducible first | assumption | apply Trk.alloc | apply Trk.setCell | apply Trk.drewN | apply Trk.drew | exact Trk.nil _))); simp only [SameOn, World.size_alloc, World.size_setCell, World.size_drew, size_drewN', and_true] at hk; have hsz := Below.size hb; (try simp only [World.size_alloc, World.size_setCell, World.size_drew, size_drewN'] at hsz)) | (go_at_call 47; refine (checked_any _ _).mono ?_; rintro e w' ⟨r, rfl, hr, n, rfl⟩))
  all_goals
    go_ret2
    exact ⟨_, by first | rfl | (simp only [gB, Bool.true_and]; first | rfl | simp only [*]), by simp only [gF, if_true]; first | assumption | simp only [*], by (repeat (first | (with_reducible exact Below.refl _ _) | (with_reducible assumption) | (with_reducible refine below_then ?_ (by assumption)) | (with_reducible refine Below.trans ?_ (by assumption)) | (with_reducible refine below_drewN ?_ _) | (with_reducible apply Below.drew) | (with_reducible refine below_alloc ?_ _) | refine Below.setCell ?_ (by first | (simp; done) | (simp; omega)) _))⟩
end Go.Proofs.Ytpnkapdemgieaaa
set_option linter.unusedSimpArgs false
set_option linter.unusedVariables false
set_option linter.unusedSectionVars false
namespace Go.Proofs.Ytpnkapdemgieaaa
open Go Go.RowKit
section
variable {P : Program} {ops : Array Oper} {Q : Exit → Act → World → Prop} {F I : World → Prop} {l : List Oper} {cs : List GC} {i : Nat} {ks : List (Nat × (World → Prop))} {a : Act} {o : Oper}
theorem wpG_lit1 {B : Nat} {x : Value} {t : TypeId} (hx : o.op.operands.toList.map a.eval = [x]) (hw : Region.wanted o (yielded ops a.tmps) = true) (hB : ∀ w, I w → B ≤ w.heap.size) (h1 : ∀ w, (execOp a.eval o).run P w = .ok (.value (.slice (some ⟨w.heap.size, 0, none⟩) 1 1)) (w.alloc (.cells #[x] t)))
    (h : ∀ b, wpG P ops Q F I l cs (i + 1) ((i, fun w => B ≤ b ∧ owned w b [x]) :: ks) (a.put o.dst (.slice (some ⟨b, 0, none⟩) 1 1))) : wpG P ops Q F I (o :: l) (GC.of (Clm.lit1 B) :: cs) i ks a := by
  have ht : (oargs ops o a).take 1 = [x] := by unfold oargs; rw [hx]; rfl
  refine wpG_one (Clm.lit1 B) rfl hw (fun w hi hk => ?_) ?_
  · rw [h1 w]
    exact ⟨(Below.refl _ _).alloc (Nat.le_refl _) _, ⟨_, rfl⟩, by show lit1K B ((oargs ops o a).take 1) (.slice (some ⟨w.heap.size, 0, none⟩) 1 1) _; rw [ht]; exact ⟨hB w hi, owned_alloc w [x] t⟩⟩
  · rintro v ⟨b, rfl⟩
    show wpG P ops Q F I l cs (i + 1) ((i, fun w => lit1K B ((oargs ops o a).take 1) (.slice (some ⟨b, 0, none⟩) 1 1) w) :: ks) _
    rw [ht]
    exact h b
/-- An operation that turns memory and gives a value of a class. -/
theorem wpG_turnE (c : Clm) (hm : c.mode = 3) (I' : World → Prop) (hI : ∀ w w', I' w → Below w.heap.size w w' → I' w') (hw : Region.wanted o (yielded ops a.tmps) = true)
    (h1 : ∀ w, I w → depK o ks w → uponC P (fun u w' => I' w' ∧ c.S (o.op.operands.toList.map a.eval) u ∧ c.K (oargs ops o a) u w') ((execOp a.eval o).run P w))
    (h : ∀ v, c.S (o.op.operands.toList.map a.eval) v → wpG P ops Q F I' l cs (i + 1) [(i, c.K (oargs ops o a) v)] (a.put o.dst v)) : wpG P ops Q F I (o :: l) (⟨c, I', hI⟩ :: cs) i ks a := by
  simp only [wpG]
  refine ⟨.inl ⟨hw, .inr (.inr (.inl hm)), fun h => ?_, fun h => ?_, fun h => ?_, fun _ w hi hk => h1 w hi hk⟩, fun v hv => ?_⟩
  · have : c.mode = 0 := h; omega
  · have : c.mode = 4 := h; omega
  · have : c.mode = 1 := h; omega
  · have e1 : invG I ⟨c, I', hI⟩ = I' := invG_eq hm
    have e2 : nextG c i (c.K (oargs ops o a) v) ks = [(i, c.K (oargs ops o a) v)] := by
      unfold nextG
      split <;> first | omega | exact absurd hm (by assumption) | rfl
    show wpG P ops Q F (invG I ⟨c, I', hI⟩) l cs (i + 1) (nextG c i (c.K (oargs ops o a) v) ks) _
    rw [e1, e2]; exact h v hv
end
/-- An own slice with a number more; where it lies. -/
def appP (B S : Nat) (g0 : Option Nat) (xs : List Nat) (v : Value) (w : World) : Prop := OF B w v xs ∧ (v.ownBlock = g0 ∨ ∀ k, v.ownBlock = some k → S ≤ k)
theorem appP.later {B S : Nat} {g0 : Option Nat} {xs : List Nat} {v : Value} {w w' : World} (h : appP B S g0 xs v w) (hb : Below w.heap.size w w') : appP B S g0 xs v w' := ⟨h.1.later hb, h.2⟩
end Go.Proofs.Ytpnkapdemgieaaa
set_option linter.unusedSimpArgs false
set_option linter.unusedVariables false
set_option linter.unusedSectionVars false
namespace Go.Proofs.Ytpnkapdemgieaaa
open Go Go.RowKit
open Go.ChangeShapes Go.WideShapes Go.ChangeAt Go.RowKit Go.Joins
def mvR (rows : Bool) (E G : EndT) (t : Nat) (P : Rd) : Rd := if rows then rwsR P E G t else stepR P E G t
def mvOk (rows : Bool) (E G : EndT) (t : Nat) (P : Rd) : Bool := if rows then rwsOk P E G t else stepOk P E G t
def htV (R : Rd) : Nat := heatK R R.a.length
def runR (rows : Bool) (E G : EndT) (t : Nat) (P : Rd) : Nat → Rd
  | 0 => P
  | k + 1 => mvR rows E G t (runR rows E G t P k)
def runO (rows : Bool) (E G : EndT) (t : Nat) (P : Rd) : Nat → Bool
  | 0 => true
  | k + 1 => runO rows E G t P k && mvOk rows E G t (runR rows E G t P k)
section
variable {rows : Bool} {E G : EndT} {t : Nat} {P : Rd}
end
/-- What was there is there, but for two blocks. -/
structure K2 (w0 : World) (g : Option Nat) (b : Nat) (u : World) : Prop where
  os : u.os = w0.os
  tape : u.tape = w0.tape
  output : u.output = w0.output
  size : w0.heap.size ≤ u.heap.size
  block : ∀ k, k < w0.heap.size → some k ≠ g → k ≠ b → u.heap[k]? = w0.heap[k]?
theorem K2.later {w0 : World} {g : Option Nat} {b : Nat} {u v : World} (h : K2 w0 g b u) (hb : Below u.heap.size u v) : K2 w0 g b v :=
  ⟨hb.os.trans h.os, hb.tape.trans h.tape, hb.output.trans h.output, Nat.le_trans h.size hb.size, fun k hk h1 h2 => (hb.block k (Nat.lt_of_lt_of_le hk h.size)).trans (h.block k hk h1 h2)⟩
theorem K2.of {w0 : World} {g : Option Nat} {b : Nat} {u : World} (h : w0.grownBy u g) (o : Nat) (vs : List Value) : K2 w0 g b (u.setCells b o vs) := by
  have h2 := grown_setCells b vs o u
  exact ⟨h2.os.trans h.os, h2.tape.trans h.tape, h2.output.trans h.output, Nat.le_trans h.size h2.size, fun k hk h1 h3 => (h2.block k (Nat.lt_of_lt_of_le hk h.size) (by simpa using h3)).trans (h.block k hk h1)⟩
theorem K2.below {w0 : World} {g : Option Nat} {b B : Nat} {u : World} (h : K2 w0 g b u) (h0 : B ≤ w0.heap.size) (hg : ∀ k, g = some k → B ≤ k) (hb : B ≤ b) : Below B w0 u :=
  ⟨h.os, h.tape, h.output, h.size, fun k hk => h.block k (by omega) (fun e => by have := hg k e.symm; omega) (by omega)⟩
def ApS (q : Option Addr) (m : RL) : Prop := Ap q m.p1 ∧ Ap q m.p2 ∧ Ap q m.p3 ∧ Ap q m.p4
/-- A rod in a variable of the call's own, and own numbers. -/
def RunAt (B : Nat) (wr : World) (b : Nat) (R : Rd) (m : RL) (q : Option Addr) (c : Nat) (ys : List Nat) : Prop := (owned wr b [.slice m.p1 R.a.length m.c1, .slice m.p2 R.b.length m.c2, .slice m.p3 R.c.length m.c3, .slice m.p4 R.d.length m.c4] ∧ B ≤ b) ∧ RdA B wr R m ∧ OF B wr (.slice q ys.length c) ys ∧ (∀ k, (Value.slice q ys.length c).ownBlock = some k → k ≠ b) ∧ ApS q m
theorem RunAt.later {B : Nat} {wr w' : World} {b : Nat} {R : Rd} {m : RL} {q : Option Addr} {c : Nat} {ys : List Nat} (h : RunAt B wr b R m q c ys) (hb : Below wr.heap.size wr w') : RunAt B w' b R m q c ys :=
  ⟨⟨h.1.1.later hb, h.1.2⟩, h.2.1.later hb, h.2.2.1.later hb, h.2.2.2⟩
theorem RdA.kept {B : Nat} {w w' : World} {R : Rd} {m : RL} {g : Option Nat} (h : RdA B w R m) (hg : w.grownBy w' g) (hlt : ∀ k, g = some k → k < B) : RdA B w' R m := by
  have key : ∀ {u xs}, OF B w u xs → u.ownBlock = none ∨ u.ownBlock ≠ g := fun {u xs} h1 => by
    cases hu : u.ownBlock with
    | none => exact .inl rfl
    | some k =>
      refine .inr fun e => ?_
      have h2 := (h1.block k hu).1
      have := hlt k e.symm
      omega
  exact ⟨⟨h.1.1.kept hg (key h.1.1), h.1.2.1.kept hg (key h.1.2.1), h.1.2.2.1.kept hg (key h.1.2.2.1), h.1.2.2.2.kept hg (key h.1.2.2.2)⟩, h.2⟩
theorem owned_kept {w w' : World} {b : Nat} {xs : List Value} {g : Option Nat} (h : owned w b xs) (hg : w.grownBy w' g) (hlt : b < w.heap.size) (hne : ∀ k, g = some k → k ≠ b) : owned w' b xs := by
  have e := hg.block b hlt (fun e => hne b e.symm rfl)
  exact fun k x hk => ⟨(World.cell?_of_block (a := ⟨b, k, none⟩) e).trans (h k x hk).1, (World.frozen?_of_block (a := ⟨b, k, none⟩) e).trans (h k x hk).2⟩
theorem brb_of2 {w w' : World} {e : Ending} {R0 : Rd} {b0 : Bool} (h : ∃ R m b, (R = okR b R0 ∧ b = b0) ∧ e = .returned (.tuple #[.agg #[.slice m.p1 R.a.length m.c1, .slice m.p2 R.b.length m.c2, .slice m.p3 R.c.length m.c3, .slice m.p4 R.d.length m.c4], .bool b]) ∧ Below w.heap.size w w' ∧ RdX w.heap.size w'.heap.size w' R m) : BRB w (okR b0 R0) b0 e w' := by
  obtain ⟨R, m, b, ⟨h1, rfl⟩, rfl, hb, hX⟩ := h
  subst h1
  exact ⟨m, rfl, hb, hX⟩
theorem ApS.nil (q : Option Addr) : ApS q nilRL := by
  refine ⟨?_, ?_, ?_, ?_⟩ <;> (intro a b h1 h2; cases h2)
end Go.Proofs.Ytpnkapdemgieaaa
set_option linter.unusedSimpArgs false
set_option linter.unusedVariables false
set_option linter.unusedSectionVars false
namespace Go.Proofs.Ytpnkapdemgieaaa
open Go Go.RowKit
/-- A rod of drawn widths, eases and holds, of any warmths up to M. -/
structure GR (P : Rd) (n : Nat) (A C : Nat → Int) (M : Rat) : Prop where
  hn : 1 ≤ n ∧ n ≤ 6
  la : P.a.length = n
  lb : P.b.length = n
  lc : P.c.length = n
  ld : P.d.length = n
  a : ∀ i, i < n → V .f32 (cn .f32 (P.a.getD i 0)) ((A i : Rat) / 4) ∧ 1 ≤ A i ∧ A i ≤ 8
  b : ∀ i, i < n → ∃ z : Int, (1 ≤ z ∧ z ≤ 8) ∧ V .f32 (cn .f32 (P.b.getD i 0)) ((z : Rat) / 4)
  c : ∀ i, i < n → V .f32 (cn .f32 (P.c.getD i 0)) ((C i : Rat) / 4) ∧ 1 ≤ C i ∧ C i ≤ 8
  d : ∀ i, i < n → fnt .f32 (cn .f32 (P.d.getD i 0)) = true ∧ fv .f32 (cn .f32 (P.d.getD i 0)) ≤ M ∧ -fv .f32 (cn .f32 (P.d.getD i 0)) ≤ M
/-- An end of drawn numbers. -/
structure GE (E : EndT) (M : Rat) : Prop where
  k : 0 ≤ E.k ∧ E.k ≤ 2
  e : ∃ z : Int, (1 ≤ z ∧ z ≤ 8) ∧ V .f32 (cn .f32 E.e) ((z : Rat) / 2)
  t : fnt .f32 (cn .f32 E.t) = true ∧ fv .f32 (cn .f32 E.t) ≤ M ∧ -fv .f32 (cn .f32 E.t) ≤ M
theorem mem_getD {xs : List Nat} {x : Nat} (h : x ∈ xs) : ∃ i, i < xs.length ∧ xs.getD i 0 = x := by
  obtain ⟨i, hi, e⟩ := List.getElem_of_mem h
  exact ⟨i, hi, by rw [List.getD_eq_getElem?_getD, List.getElem?_eq_getElem hi]; exact e⟩
theorem fin_of_fnt {x : Nat} (h : fnt .f32 x = true) : fin .f32 x = true := by rw [← fnt_fin]; exact h
theorem int1 {z : Int} (h : 1 ≤ z ∧ z ≤ 8) : (1 : Rat) ≤ (z : Rat) ∧ (z : Rat) ≤ 8 := by
  have a := icast_le h.1
  have b := icast_le h.2
  have e1 : ((1 : Int) : Rat) = 1 := rfl
  have e8 : ((8 : Int) : Rat) = 8 := rfl
  rw [e1] at a
  rw [e8] at b
  exact ⟨a, b⟩
theorem posL_of {xs : List Nat} (h : ∀ i, i < xs.length → fnt .f32 (cn .f32 (xs.getD i 0)) = true ∧ 0 < fv .f32 (cn .f32 (xs.getD i 0))) : posL xs = true := by
  unfold posL
  rw [Bool.not_eq_true', List.any_eq_false]
  intro x hx
  obtain ⟨i, hi, rfl⟩ := mem_getD hx
  obtain ⟨h1, h2⟩ := h i hi
  have e : fle .f32 (cn .f32 (xs.getD i 0)) (cn .f32 0) = false := by rw [flev h1 V0.1, V0.2]; exact decide_eq_false (by grind)
  rw [fin_of_fnt h1, e]; simp
theorem finL_of {xs : List Nat} (h : ∀ i, i < xs.length → fnt .f32 (cn .f32 (xs.getD i 0)) = true) : finL xs = true := by
  unfold finL
  rw [Bool.not_eq_true', List.any_eq_false]
  intro x hx
  obtain ⟨i, hi, rfl⟩ := mem_getD hx
  rw [fin_of_fnt (h i hi)]; simp
section
variable {P : Rd} {n : Nat} {A C : Nat → Int} {M : Rat} {E G : EndT}
theorem GR.ok (h : GR P n A C M) : P.ok = true := by
  have hn := h.hn
  unfold Rd.ok Rd.sized
  rw [h.la, h.lb, h.lc, h.ld]
  rw [posL_of (xs := P.a) (fun i hi => by rw [h.la] at hi; obtain ⟨v, k⟩ := h.a i hi; have := int1 k; exact ⟨v.1, by rw [v.2]; grind⟩),
    posL_of (xs := P.b) (fun i hi => by rw [h.lb] at hi; obtain ⟨z, k, v⟩ := h.b i hi; have := int1 k; exact ⟨v.1, by rw [v.2]; grind⟩),
    posL_of (xs := P.c) (fun i hi => by rw [h.lc] at hi; obtain ⟨v, k⟩ := h.c i hi; have := int1 k; exact ⟨v.1, by rw [v.2]; grind⟩),
    finL_of (xs := P.d) (fun i hi => by rw [h.ld] at hi; exact (h.d i hi).1)]
  rw [decide_eq_true hn.1, decide_eq_true (show n ≤ 48 by omega), decide_eq_true (rfl : n = n)]; rfl
theorem Rp16 : Rep .f32 ((1 : Rat) / 16) := rep_at (k := .f32) 1 (-4) (by decide) (by decide) (by decide) (by
  have h : tp (-4) * tp 4 = 1 := by rw [← tp_add]; exact tp_zero
  rw [show tp 4 = 16 from (tp_nat 4).trans rfl] at h
  have e : ((1 : Int) : Rat) = 1 := rfl
  rw [e]; grind)
theorem Rp8 : Rep .f32 ((1 : Rat) / 8) := by have := rep_eighth (n := 1) (by decide); have e : ((1 : Int) : Rat) = 1 := rfl; rwa [e] at this
theorem Rp4 : Rep .f32 ((1 : Rat) / 4) := by have := rep_quarter (n := 1) (by decide); have e : ((1 : Int) : Rat) = 1 := rfl; rwa [e] at this
theorem Rp0 : Rep .f32 (0 : Rat) := Rep.int (k := .f32) 0 (by decide)
theorem Rp2 : Rep .f32 (2 : Rat) := Rep.int (k := .f32) 2 (by decide)
theorem Rpx4 : Rep .f32 (4 : Rat) := Rep.int (k := .f32) 4 (by decide)
theorem Rpx8 : Rep .f32 (8 : Rat) := Rep.int (k := .f32) 8 (by decide)
theorem Rpx16 : Rep .f32 (16 : Rat) := Rep.int (k := .f32) 16 (by decide)
theorem GR.half (h : GR P n A C M) {i : Nat} (hi : i < n) : Btw .f32 (halfV P i) (1 / 16) 4 := by
  obtain ⟨va, ka⟩ := h.a i hi
  obtain ⟨z, kz, vb⟩ := h.b i hi
  obtain ⟨a1, a2⟩ := int1 ka
  obtain ⟨z1, z2⟩ := int1 kz
  have zp : (0 : Rat) < (z : Rat) / 4 := by grind
  have dv : ((A i : Rat) / 4) / ((z : Rat) / 4) * ((z : Rat) / 4) = (A i : Rat) / 4 := Rat.div_mul_cancel (by grind)
  obtain ⟨q0, q1, q2⟩ := fop_btw .quo rfl .f32 (a := 1 / 8) (b := 8) va.1 vb.1 (fun _ => by rw [vb.2]; grind) Rp8 Rpx8 (by simp only [ex]; rw [va.2, vb.2]; exact mul_cancel_le zp (by rw [dv]; grind)) (by simp only [ex]; rw [va.2, vb.2]; exact mul_cancel_le zp (by rw [dv]; grind))
  unfold halfV
  exact fop_btw .quo rfl .f32 q0 V2.1 (fun _ => by rw [V2.2]; grind) Rp16 Rpx4 (by simp only [ex]; rw [V2.2]; grind) (by simp only [ex]; rw [V2.2]; grind)
theorem one_quo {x : Nat} {a b lo hi : Rat} (hx : Btw .f32 x a b) (ha : 0 < a) (hlo : Rep .f32 lo) (hhi : Rep .f32 hi) (h1 : lo * b ≤ 1) (h2 : 1 ≤ hi * a) (l0 : 0 ≤ lo) (h0 : 0 ≤ hi) : Btw .f32 (fop .quo .f32 (cn .f32 1065353216) x) lo hi := by
  obtain ⟨x0, x1, x2⟩ := hx
  have xp : 0 < fv .f32 x := by grind
  have dv : 1 / fv .f32 x * fv .f32 x = 1 := Rat.div_mul_cancel (by grind)
  have k1 := Rat.mul_le_mul_of_nonneg_left x2 l0
  have k2 := Rat.mul_le_mul_of_nonneg_left x1 h0
  exact fop_btw .quo rfl .f32 V1.1 x0 (fun _ => by grind) hlo hhi (by simp only [ex]; rw [V1.2]; exact mul_cancel_le xp (by rw [dv]; grind)) (by simp only [ex]; rw [V1.2]; exact mul_cancel_le xp (by rw [dv]; grind))
theorem GR.bet (h : GR P n A C M) {i : Nat} (hi : i + 1 < n) : Btw .f32 (betV P i) (1 / 8) 8 := by
  obtain ⟨a0, a1, a2⟩ := h.half (i := i) (by omega)
  obtain ⟨b0, b1, b2⟩ := h.half (i := i + 1) hi
  have s : Btw .f32 (fop .add .f32 (halfV P i) (halfV P (i + 1))) (1 / 8) 8 := fop_btw .add rfl .f32 a0 b0 (by simp) Rp8 Rpx8 (by simp only [ex]; grind) (by simp only [ex]; grind)
  exact one_quo s (by grind) Rp8 Rpx8 (by grind) (by grind) (by grind) (by grind)
theorem GR.end' (h : GR P n A C M) {N : Rat} (hE : GE E N) {i : Nat} (hi : i < n) : Btw .f32 (endV P i E) 0 16 ∧ (E.k ≠ 1 → Btw .f32 (endV P i E) (1 / 8) 16) := by
  have hh := h.half hi
  have kk := hE.k
  have key : E.k ≠ 1 → Btw .f32 (endV P i E) (1 / 8) 16 := fun h1 => by
    by_cases h0 : E.k = 0
    · rw [endV_0 h0]
      exact one_quo hh (by grind) Rp8 Rpx16 (by grind) (by grind) (by grind) (by grind)
    · rw [endV_2 h0 h1]
      obtain ⟨z, kz, ve⟩ := hE.e
      obtain ⟨z1, z2⟩ := int1 kz
      have e1 : Btw .f32 (cn .f32 E.e) (1 / 2) 4 := ⟨ve.1, by rw [ve.2]; grind, by rw [ve.2]; grind⟩
      have e2 := one_quo e1 (lo := 1 / 4) (hi := 2) (by grind) Rp4 Rp2 (by grind) (by grind) (by grind) (by grind)
      obtain ⟨a0, a1, a2⟩ := hh
      obtain ⟨b0, b1, b2⟩ := e2
      have s : Btw .f32 (fop .add .f32 (halfV P i) (fop .quo .f32 (cn .f32 1065353216) (cn .f32 E.e))) (1 / 4) 8 := fop_btw .add rfl .f32 a0 b0 (by simp) Rp4 Rpx8 (by simp only [ex]; grind) (by simp only [ex]; grind)
      exact one_quo s (by grind) Rp8 Rpx16 (by grind) (by grind) (by grind) (by grind)
  refine ⟨?_, key⟩
  by_cases h1 : E.k = 1
  · rw [endV_1 h1]
    exact ⟨V0.1, by rw [V0.2]; exact Rat.le_refl, by rw [V0.2]; grind⟩
  · obtain ⟨a, b, c⟩ := key h1
    exact ⟨a, by grind, c⟩
/-- The passes, one by one. -/
theorem pG_zero (P : Rd) (E G : EndT) : pG P E G 0 = endV P 0 E := rfl
theorem pG_mid {P : Rd} {E G : EndT} {i : Nat} (h : i + 1 < P.a.length) : pG P E G (i + 1) = betV P i := by
  unfold pG passL passK
  rw [List.getD_eq_getElem?_getD, List.cons_append, List.getElem?_cons_succ, List.getElem?_append_left (by simp; omega), List.getElem?_map, List.getElem?_range (by omega)]; rfl
theorem pG_last {P : Rd} {E G : EndT} (h : 1 ≤ P.a.length) : pG P E G P.a.length = endV P (P.a.length - 1) G := by
  obtain ⟨m, hm⟩ : ∃ m, P.a.length = m + 1 := ⟨P.a.length - 1, by omega⟩
  unfold pG passL passK
  rw [hm, show m + 1 - 1 = m by omega, List.getD_eq_getElem?_getD, List.cons_append, List.getElem?_cons_succ, List.getElem?_append_right (by simp)]
  simp
theorem GR.pass (h : GR P n A C M) {N : Rat} (hE : GE E N) (hG : GE G N) {i : Nat} (hi : i ≤ n) : Btw .f32 (pG P E G i) 0 16 ∧ (i ≠ 0 → i ≠ n → Btw .f32 (pG P E G i) (1 / 8) 8) := by
  have hn := h.hn
  cases i with
  | zero => exact ⟨(h.end' hE (by omega)).1, fun h0 => absurd rfl h0⟩
  | succ i =>
    by_cases hl : i + 1 = n
    · rw [hl, ← h.la, pG_last (by rw [h.la]; omega), h.la]
      exact ⟨(h.end' hG (by omega)).1, fun _ h1 => absurd rfl h1⟩
    · rw [pG_mid (by rw [h.la]; omega)]
      obtain ⟨a, b, c⟩ := h.bet (i := i) (by omega)
      exact ⟨⟨a, by grind, by grind⟩, fun _ _ => ⟨a, b, c⟩⟩
theorem GE.ok {N : Rat} (hE : GE E N) : E.ok = true := by
  obtain ⟨z, kz, ve⟩ := hE.e
  obtain ⟨z1, z2⟩ := int1 kz
  unfold EndT.ok inB
  rw [decide_eq_true hE.k.1, decide_eq_true hE.k.2, fin_of_fnt hE.t.1, abv_of ve.1 (by rw [ve.2]; grind)]; rfl
theorem GR.passOk (h : GR P n A C M) {N : Rat} (hE : GE E N) (hG : GE G N) : passOk P E G = true := by
  have hn := h.hn
  unfold Go.Proofs.Ytpnkapdemgieaaa.passOk endsOk passFin
  rw [h.ok, hE.ok, hG.ok]
  have : (passL P E G).any (fun x => !fin .f32 x) = false := by
    rw [List.any_eq_false]
    intro x hx
    obtain ⟨i, hi, rfl⟩ := mem_getD hx
    rw [passL_lenR (by rw [h.la]; omega), h.la] at hi
    have := (h.pass hE hG (i := i) (by omega)).1
    rw [fin_of_fnt (x := (passL P E G).getD i 0) this.1]; simp
  rw [this]; rfl
end
end Go.Proofs.Ytpnkapdemgieaaa
set_option linter.unusedSimpArgs false
set_option linter.unusedVariables false
set_option linter.unusedSectionVars false
namespace Go.Proofs.Ytpnkapdemgieaaa
open Go Go.RowKit
/-- How much heat a cell holds for each degree, in a quarter. -/
def wR (A C : Nat → Int) (i : Nat) : Rat := ((A i * C i : Int) : Rat) / 4
def pR (P : Rd) (E G : EndT) (i : Nat) : Rat := fv .f32 (pG P E G i)
def xR (P : Rd) (i : Nat) : Rat := fv .f32 (cn .f32 (P.d.getD i 0))
theorem V25w : V .f32 (cn .f32 1048576000) ((1 : Rat) / 4) := by
  have e0 : cn .f32 1048576000 = fop .quo .f32 (floatOfInt .f32 1) (floatOfInt .f32 4) := by decide +kernel
  have e1 : ((1 : Int) : Rat) = 1 := rfl
  have e4 : ((4 : Int) : Rat) = 4 := rfl
  have a := V.int .f32 1 (by decide)
  have b := V.int .f32 4 (by decide)
  rw [e1] at a
  rw [e4] at b
  rw [e0]
  exact V.op .quo rfl a b (fun _ => by grind) (by simp only [ex]; exact Rp4)
theorem tp_m4 : tp (-4) * 16 = 1 := by
  have h : tp (-4) * tp 4 = 1 := by rw [← tp_add]; exact tp_zero
  rwa [show tp 4 = 16 from (tp_nat 4).trans rfl] at h
theorem add_nil {x z : Nat} (hx : fnt .f32 x = true) (hb : fv .f32 x ≤ 1000000) (hb' : -fv .f32 x ≤ 1000000) (hz : V .f32 z 0) : fnt .f32 (fop .add .f32 x z) = true ∧ fv .f32 (fop .add .f32 x z) = fv .f32 x := by
  have t40 : tp 40 = 1099511627776 := (tp_nat 40).trans rfl
  have e : ex .add (fv .f32 x) (fv .f32 z) = fv .f32 x := by simp only [ex]; rw [hz.2]; grind
  obtain ⟨g0, g1⟩ := fop_rnd .add rfl .f32 hx hz.1 (by simp) 40 (by decide) (by rw [e, t40]; grind) (by rw [e, t40]; grind)
  rw [e] at g1
  exact ⟨g0, rnd_eq_wd hx g1 rfl⟩
theorem mul_nil {x z : Nat} (hx : fnt .f32 x = true) (hz : V .f32 z 0) : V .f32 (fop .mul .f32 x z) 0 := by
  have e : ex .mul (fv .f32 x) (fv .f32 z) = 0 := by simp only [ex]; rw [hz.2]; grind
  obtain ⟨g0, g1, g2⟩ := fop_btw .mul rfl .f32 hx hz.1 (by simp) Rp0 Rp0 (by rw [e]; exact Rat.le_refl) (by rw [e]; exact Rat.le_refl)
  exact ⟨g0, Rat.le_antisymm g2 g1⟩
section
variable {P : Rd} {n : Nat} {A C : Nat → Int} {M : Rat} {E G : EndT}
theorem GR.wb (h : GR P n A C M) {i : Nat} (hi : i < n) : 1 / 4 ≤ wR A C i ∧ wR A C i ≤ 16 := by
  obtain ⟨_, k1, k2⟩ := h.a i hi
  obtain ⟨_, k3, k4⟩ := h.c i hi
  have m1 : 1 * 1 ≤ A i * C i := Int.mul_le_mul k1 k3 (by omega) (by omega)
  have m2 : A i * C i ≤ 8 * 8 := Int.mul_le_mul k2 k4 (by omega) (by omega)
  have a1 := icast_le (show (1 : Int) ≤ A i * C i by omega)
  have a2 := icast_le (show A i * C i ≤ (64 : Int) by omega)
  have e1 : ((1 : Int) : Rat) = 1 := rfl
  have e2 : ((64 : Int) : Rat) = 64 := rfl
  rw [e1] at a1
  rw [e2] at a2
  unfold wR
  exact ⟨by grind, by grind⟩
theorem GR.mass (h : GR P n A C M) {i : Nat} (hi : i < n) : V .f32 (fop .mul .f32 (cn .f32 (P.a.getD i 0)) (cn .f32 (P.c.getD i 0))) (((A i * C i : Int) : Rat) / 16) := by
  obtain ⟨va, k1, k2⟩ := h.a i hi
  obtain ⟨vc, k3, k4⟩ := h.c i hi
  have m1 : 1 * 1 ≤ A i * C i := Int.mul_le_mul k1 k3 (by omega) (by omega)
  have m2 : A i * C i ≤ 8 * 8 := Int.mul_le_mul k2 k4 (by omega) (by omega)
  have e : ex .mul ((A i : Rat) / 4) ((C i : Rat) / 4) = ((A i * C i : Int) : Rat) / 16 := by simp only [ex]; rw [Rat.intCast_mul]; grind
  have r : Rep .f32 (((A i * C i : Int) : Rat) / 16) := rep_at (k := .f32) (A i * C i) (-4) (by show (A i * C i).natAbs < 2 ^ (23 + 1); omega) (by decide) (by decide) (by have := tp_m4; grind)
  have Q := V.op .mul rfl va vc (by simp) (by rw [e]; exact r)
  rwa [e] at Q
theorem GR.w (h : GR P n A C M) {i : Nat} (hi : i < n) : V .f32 (rwW P 1048576000 i) (wR A C i) := by
  obtain ⟨_, k1, k2⟩ := h.a i hi
  obtain ⟨_, k3, k4⟩ := h.c i hi
  have m1 : 1 * 1 ≤ A i * C i := Int.mul_le_mul k1 k3 (by omega) (by omega)
  have m2 : A i * C i ≤ 8 * 8 := Int.mul_le_mul k2 k4 (by omega) (by omega)
  have e : ex .quo (((A i * C i : Int) : Rat) / 16) ((1 : Rat) / 4) = ((A i * C i : Int) : Rat) / 4 := by simp only [ex]; grind
  have Q := V.op .quo rfl (h.mass hi) V25w (fun _ => by grind) (by rw [e]; exact rep_quarter (by omega))
  rwa [e] at Q
theorem GR.p (h : GR P n A C M) {N : Rat} (hE : GE E N) (hG : GE G N) {i : Nat} (hi : i ≤ n) : V .f32 (pG P E G i) (pR P E G i) ∧ 0 ≤ pR P E G i ∧ pR P E G i ≤ 16 := by
  obtain ⟨a, b, c⟩ := (h.pass hE hG hi).1
  exact ⟨⟨a, rfl⟩, b, c⟩
theorem GR.p8 (h : GR P n A C M) {N : Rat} (hE : GE E N) (hG : GE G N) (h1 : E.k = 1) (h2 : G.k = 1) {i : Nat} (hi : i ≤ n) : pR P E G i ≤ 8 := by
  have hn := h.hn
  unfold pR
  by_cases h0 : i = 0
  · rw [h0, pG_zero, endV_1 h1, V0.2]; decide
  · by_cases hl : i = n
    · rw [hl, ← h.la, pG_last (by rw [h.la]; omega), endV_1 h2, V0.2]; decide
    · exact ((h.pass hE hG hi).2 h0 hl).2.2
theorem GR.pz (h : GR P n A C M) (h1 : E.k = 1) (h2 : G.k = 1) : pR P E G 0 = 0 ∧ pR P E G n = 0 := by
  have hn := h.hn
  unfold pR
  constructor
  · rw [pG_zero, endV_1 h1, V0.2]
  · rw [← h.la, pG_last (by rw [h.la]; omega), endV_1 h2, V0.2]
/-- The pivots ahead of the elimination. -/
theorem GR.diag (h : GR P n A C M) {N B : Rat} (hE : GE E N) (hG : GE G N) {i : Nat} (hi : i < n) (hB : 0 ≤ B) (h1 : pR P E G i ≤ B) (h2 : pR P E G (i + 1) ≤ B) (h16 : B ≤ 16) :
    fnt .f32 (rwA P E G 1048576000 i) = true ∧ fv .f32 (rwA P E G 1048576000 i) - (wR A C i + pR P E G i + pR P E G (i + 1)) ≤ ((16 + B) + (16 + 2 * B) + 1) * uu ∧ (wR A C i + pR P E G i + pR P E G (i + 1)) - fv .f32 (rwA P E G 1048576000 i) ≤ ((16 + B) + (16 + 2 * B) + 1) * uu := by
  obtain ⟨vp, p0, _⟩ := h.p hE hG (i := i) (by omega)
  obtain ⟨vq, q0, _⟩ := h.p hE hG (i := i + 1) (by omega)
  have vw := h.w hi
  obtain ⟨w1, w2⟩ := h.wb hi
  have u0 : 0 < uu := by unfold uu; decide +kernel
  have u1 : 16700000 * uu = 1 := by unfold uu; decide +kernel
  obtain ⟨a0, a1, a2⟩ := fop_u .add rfl vw.1 vp.1 (by simp) (M := 16 + B) (by grind) (by grind) (by simp only [ex]; rw [vw.2, vp.2]; grind) (by simp only [ex]; rw [vw.2, vp.2]; grind)
  simp only [ex] at a1 a2
  rw [vw.2, vp.2] at a1 a2
  have k1 := Rat.mul_le_mul_of_nonneg_right h16 (Rat.le_of_lt u0)
  obtain ⟨b0, b1, b2⟩ := fop_u .add rfl a0 vq.1 (by simp) (M := 16 + 2 * B + 1) (by grind) (by grind) (by simp only [ex]; rw [vq.2]; grind) (by simp only [ex]; rw [vq.2]; grind)
  simp only [ex] at b1 b2
  rw [vq.2] at b1 b2
  unfold rwA
  exact ⟨b0, by grind, by grind⟩
/-- Shut ends. -/
theorem GR.rowsH (h : GR P n A C M) (hM : 1 / 1024 ≤ M ∧ M ≤ 1000) {N : Rat} (hE : GE E N) (hG : GE G N) (k1 : E.k = 1) (k2 : G.k = 1) (t1 : V .f32 (cn .f32 E.t) 0) (t2 : V .f32 (cn .f32 G.t) 0) :
    RowsH n (rwB P E G) (rwA P E G 1048576000) (rwX P E G) (rwS P E G 1048576000) (pR P E G) (wR A C) (fun i => wR A C i * xR P i) (fun _ => 0) M M 0 := by
  have hn := h.hn
  have u0 : 0 < uu := by unfold uu; decide +kernel
  have u1 : 16700000 * uu = 1 := by unfold uu; decide +kernel
  obtain ⟨z0, zn⟩ := h.pz k1 k2
  have key : ∀ i, i < n → wR A C i * xR P i ≤ wR A C i * M ∧ -(wR A C i * xR P i) ≤ wR A C i * M := fun i hi => by
    obtain ⟨w1, w2⟩ := h.wb hi
    obtain ⟨_, d1, d2⟩ := h.d i hi
    have a1 := Rat.mul_le_mul_of_nonneg_left d1 (show 0 ≤ wR A C i by grind)
    have a2 := Rat.mul_le_mul_of_nonneg_left d2 (show 0 ≤ wR A C i by grind)
    exact ⟨a1, by show -(wR A C i * fv .f32 (cn .f32 (P.d.getD i 0))) ≤ _; grind⟩
  have key2 : ∀ i, i < n → wR A C i * M ≤ 16 * M := fun i hi => Rat.mul_le_mul_of_nonneg_right (h.wb hi).2 (by grind)
  refine ⟨hn, hM, ⟨by grind, Rat.le_refl, by grind, by grind⟩, fun i hi => ⟨(h.p hE hG hi).2.1, h.p8 hE hG k1 k2 hi⟩, fun i hi => h.wb hi, fun i hi => ?_, fun i hi => ?_, fun i hi => ?_, fun i hi => ?_, fun i hi => ?_, fun i => ⟨Rat.le_refl, by grind⟩, ?_, fun i hi => ?_⟩
  · obtain ⟨v, _⟩ := h.p hE hG (i := i) (by omega)
    have := fneg_val v.1
    exact ⟨this.1, by show fv .f32 (fneg .f32 _) = _; rw [this.2]; rfl⟩
  · obtain ⟨v, _⟩ := h.p hE hG (i := i + 1) (by omega)
    have := fneg_val v.1
    exact ⟨this.1, by show fv .f32 (fneg .f32 _) = _; rw [this.2]; rfl⟩
  · have := h.diag hE hG hi (B := 8) (by decide) (h.p8 hE hG k1 k2 (by omega)) (h.p8 hE hG k1 k2 (by omega)) (by decide)
    exact ⟨this.1, by have := this.2.1; grind, by have := this.2.2; grind⟩
  · obtain ⟨d0, d1, d2⟩ := h.d i hi
    obtain ⟨c1, c2⟩ := key i hi
    have c3 := key2 i hi
    have vw := h.w hi
    obtain ⟨a0, a1, a2⟩ := fop_u .mul rfl vw.1 d0 (by simp) (M := 16 * M) (by grind) (by grind) (by simp only [ex]; rw [vw.2]; exact Rat.le_trans c1 c3) (by simp only [ex]; rw [vw.2]; exact Rat.le_trans c2 c3)
    simp only [ex] at a1 a2
    rw [vw.2] at a1 a2
    have a0 : fnt .f32 (rwS0 P 1048576000 i) = true := a0
    have a1 : fv .f32 (rwS0 P 1048576000 i) - wR A C i * xR P i ≤ 16 * M * uu := a1
    have a2 : wR A C i * xR P i - fv .f32 (rwS0 P 1048576000 i) ≤ 16 * M * uu := a2
    have mu : 16700000 * (M * uu) = M := by grind
    have s1 : fnt .f32 (rwS1 P E G 1048576000 i) = true ∧ fv .f32 (rwS1 P E G 1048576000 i) = fv .f32 (rwS0 P 1048576000 i) := by
      unfold rwS1
      by_cases h0 : i = 0
      · rw [if_pos h0]
        exact add_nil a0 (by grind) (by grind) (mul_nil (h.p hE hG (i := 0) (by omega)).1.1 t1)
      · rw [if_neg h0]; exact ⟨a0, rfl⟩
    have s2 : fnt .f32 (rwS P E G 1048576000 i) = true ∧ fv .f32 (rwS P E G 1048576000 i) = fv .f32 (rwS0 P 1048576000 i) := by
      unfold rwS
      by_cases h0 : i + 1 = P.a.length
      · rw [if_pos h0]
        have := add_nil s1.1 (by rw [s1.2]; grind) (by rw [s1.2]; grind) (mul_nil (h.p hE hG (i := i + 1) (by omega)).1.1 t2)
        exact ⟨this.1, this.2.trans s1.2⟩
      · rw [if_neg h0]; exact s1
    exact ⟨s2.1, by rw [s2.2]; grind, by rw [s2.2]; grind⟩
  · obtain ⟨c1, c2⟩ := key i hi
    have c3 := key2 i hi
    exact ⟨by show wR A C i * xR P i ≤ _; grind, by show -(wR A C i * xR P i) ≤ _; grind⟩
  · obtain ⟨c1, c2⟩ := key 0 (by omega)
    have q := qR_sum (pR P E G) n 0
    have ql : 0 ≤ qlR (pR P E G) n 0 := by
      have := (h.p hE hG (i := 0 + 1) (by omega)).2.1
      unfold qlR; split <;> grind
    have m := Rat.mul_nonneg ql (show 0 ≤ M by grind)
    constructor
    · show wR A C 0 * xR P 0 - _ ≤ _
      rw [z0]; grind
    · show _ - wR A C 0 * xR P 0 ≤ _
      rw [z0]; grind
  · obtain ⟨c1, c2⟩ := key (i + 1) hi
    have ql : 0 ≤ qlR (pR P E G) n (i + 1) := by
      have := (h.p hE hG (i := i + 1 + 1) (by omega)).2.1
      unfold qlR; split <;> grind
    have m := Rat.mul_nonneg ql (show 0 ≤ M by grind)
    constructor
    · show wR A C (i + 1) * xR P (i + 1) - _ ≤ _
      grind
    · show _ - wR A C (i + 1) * xR P (i + 1) ≤ _
      grind
/-- A sum. -/
def sumQ (f : Nat → Rat) : Nat → Rat
  | 0 => 0
  | k + 1 => sumQ f k + f k
/-- What is exchanged between cells stays in the rod. -/
theorem flux_sum {n : Nat} {p W X y : Nat → Rat} : ∀ k, k < n →
    sumQ (fun i => (W i + p i + p (i + 1)) * y i - (if i = 0 then 0 else p i * y (i - 1)) - qiR p n i * y (i + 1) - W i * X i) (k + 1) = sumQ (fun i => W i * (y i - X i)) (k + 1) + p 0 * y 0 + (p (k + 1) * y k - qiR p n k * y (k + 1))
  | 0, hk => by
    simp only [sumQ, if_pos rfl]
    grind
  | k + 1, hk => by
    have ih := flux_sum (n := n) (W := W) (X := X) (p := p) (y := y) k (by omega)
    show sumQ _ (k + 1) + _ = sumQ _ (k + 1) + _ + _ + _
    rw [ih, qiR_in (p := p) (n := n) (i := k) hk]
    simp only [if_neg (show ¬ k + 1 = 0 by omega), show k + 1 - 1 = k by omega]
    grind
theorem sumQ_bd {f : Nat → Rat} {B : Rat} : ∀ k, (∀ i, i < k → f i ≤ B ∧ -f i ≤ B) → sumQ f k ≤ (k : Rat) * B ∧ -sumQ f k ≤ (k : Rat) * B
  | 0, _ => by
    have e : ((0 : Nat) : Rat) = 0 := rfl
    simp only [sumQ]; rw [e]; exact ⟨by grind, by grind⟩
  | k + 1, h => by
    obtain ⟨a, b⟩ := sumQ_bd k (fun i hi => h i (by omega))
    obtain ⟨c, d⟩ := h k (by omega)
    have e : ((k + 1 : Nat) : Rat) = (k : Rat) + 1 := by rw [Rat.natCast_add]; rfl
    simp only [sumQ]; rw [e]
    exact ⟨by grind, by grind⟩
/-- How much heat is lost or won in a tick. -/
theorem GR.kept (h : GR P n A C M) (hM : 1 / 1024 ≤ M ∧ M ≤ 1000) {N : Rat} (hE : GE E N) (hG : GE G N) (k1 : E.k = 1) (k2 : G.k = 1) (t1 : V .f32 (cn .f32 E.t) 0) (t2 : V .f32 (cn .f32 G.t) 0) :
    (∀ i, i < n → fnt .f32 (solO (rwB P E G) (rwA P E G 1048576000) (rwX P E G) (rwS P E G 1048576000) n i) = true ∧ fv .f32 (solO (rwB P E G) (rwA P E G 1048576000) (rwX P E G) (rwS P E G 1048576000) n i) ≤ M + M / 1000 ∧ -fv .f32 (solO (rwB P E G) (rwA P E G 1048576000) (rwX P E G) (rwS P E G 1048576000) n i) ≤ M + M / 1000) ∧
    sumQ (fun i => wR A C i * (fv .f32 (solO (rwB P E G) (rwA P E G 1048576000) (rwX P E G) (rwS P E G 1048576000) n i) - xR P i)) n ≤ 1860 * (M * uu) ∧
    -sumQ (fun i => wR A C i * (fv .f32 (solO (rwB P E G) (rwA P E G 1048576000) (rwX P E G) (rwS P E G 1048576000) n i) - xR P i)) n ≤ 1860 * (M * uu) := by
  have R := h.rowsH hM hE hG k1 k2 t1 t2
  obtain ⟨u0, u1, u2, u3⟩ := R.mu
  have hn := h.hn
  obtain ⟨z0, zn⟩ := h.pz k1 k2
  refine ⟨fun i hi => ?_, ?_⟩
  · have Y := R.y hi
    exact ⟨Y.f, by have := Y.y1; grind, by have := Y.y2; grind⟩
  · obtain ⟨m, hm⟩ : ∃ m, n = m + 1 := ⟨n - 1, by omega⟩
    have S := flux_sum (n := n) (p := pR P E G) (W := wR A C) (X := xR P) (y := fun i => fv .f32 (solO (rwB P E G) (rwA P E G 1048576000) (rwX P E G) (rwS P E G 1048576000) n i)) m (by omega)
    have B := sumQ_bd (f := fun i => (wR A C i + pR P E G i + pR P E G (i + 1)) * fv .f32 (solO (rwB P E G) (rwA P E G 1048576000) (rwX P E G) (rwS P E G 1048576000) n i) - (if i = 0 then 0 else pR P E G i * fv .f32 (solO (rwB P E G) (rwA P E G 1048576000) (rwX P E G) (rwS P E G 1048576000) n (i - 1))) - qiR (pR P E G) n i * fv .f32 (solO (rwB P E G) (rwA P E G 1048576000) (rwX P E G) (rwS P E G 1048576000) n (i + 1)) - wR A C i * xR P i) (B := 310 * (M * uu)) n (fun i hi => by
      have r := R.res hi
      exact ⟨by have := r.1; grind, by have := r.2; grind⟩)
    rw [← hm] at S
    rw [S, z0, qiR_last (show ¬ m + 1 < n by omega), show pR P E G n = 0 from zn] at B
    have kn : (n : Rat) ≤ ((6 : Nat) : Rat) := by exact_mod_cast hn.2
    have e6 : ((6 : Nat) : Rat) = 6 := rfl
    rw [e6] at kn
    have k3 := Rat.mul_le_mul_of_nonneg_right kn (show 0 ≤ 310 * (M * uu) by grind)
    exact ⟨by have := B.1; grind, by have := B.2; grind⟩
end
end Go.Proofs.Ytpnkapdemgieaaa
set_option linter.unusedSimpArgs false
set_option linter.unusedVariables false
set_option linter.unusedSectionVars false
namespace Go.Proofs.Ytpnkapdemgieaaa
open Go Go.RowKit
/-- The heat of a rod, exactly, four times. -/
def hR (P : Rd) (A C : Nat → Int) (k : Nat) : Rat := sumQ (fun i => wR A C i * xR P i) k
theorem sumQ_sub {f g : Nat → Rat} : ∀ k, sumQ (fun i => f i - g i) k = sumQ f k - sumQ g k
  | 0 => by simp only [sumQ]; grind
  | k + 1 => by simp only [sumQ]; rw [sumQ_sub k]; grind
theorem sumQ_congr {f g : Nat → Rat} : ∀ k, (∀ i, i < k → f i = g i) → sumQ f k = sumQ g k
  | 0, _ => rfl
  | k + 1, h => by simp only [sumQ]; rw [sumQ_congr k (fun i hi => h i (by omega)), h k (by omega)]
section
variable {P : Rd} {n : Nat} {A C : Nat → Int} {M : Rat} {E G : EndT}
/-- The heat as it is drawn, near. -/
theorem GR.heat (h : GR P n A C M) {B : Rat} (hB : 1 / 1024 ≤ B ∧ B ≤ 100000) (hb : ∀ i, i < n → wR A C i * xR P i ≤ 4 * B ∧ -(wR A C i * xR P i) ≤ 4 * B) : ∀ k, k ≤ n → fnt .f32 (heatK P k) = true ∧ 4 * fv .f32 (heatK P k) - hR P A C k ≤ (k : Rat) * (30 * (B * uu)) ∧ hR P A C k - 4 * fv .f32 (heatK P k) ≤ (k : Rat) * (30 * (B * uu)) ∧ hR P A C k ≤ (k : Rat) * (4 * B) ∧ -hR P A C k ≤ (k : Rat) * (4 * B)
  | 0, _ => by
    have e : ((0 : Nat) : Rat) = 0 := rfl
    rw [e]
    refine ⟨V0.1, ?_, ?_, ?_, ?_⟩
    · show 4 * fv .f32 (cn .f32 0) - 0 ≤ _; rw [V0.2]; grind
    · show 0 - 4 * fv .f32 (cn .f32 0) ≤ _; rw [V0.2]; grind
    · show (0 : Rat) ≤ _; grind
    · show -(0 : Rat) ≤ _; grind
  | k + 1, hk => by
    obtain ⟨a0, a1, a2, a3, a4⟩ := h.heat hB hb k (by omega)
    have u0 : 0 < uu := by unfold uu; decide +kernel
    have u1 : 16700000 * uu = 1 := by unfold uu; decide +kernel
    have u2 : 16700000 * (B * uu) = B := by grind
    have u3 : 0 < B * uu := Rat.mul_pos (by grind) u0
    have hn := h.hn
    have kb : (k : Rat) ≤ ((5 : Nat) : Rat) := by exact_mod_cast (by omega : k ≤ 5)
    have k0 : (0 : Rat) ≤ (k : Rat) := by exact_mod_cast Nat.zero_le k
    have e5 : ((5 : Nat) : Rat) = 5 := rfl
    rw [e5] at kb
    have e : ((k + 1 : Nat) : Rat) = (k : Rat) + 1 := by rw [Rat.natCast_add]; rfl
    have vm := h.mass (i := k) (by omega)
    obtain ⟨d0, _, _⟩ := h.d k (by omega)
    obtain ⟨b1, b2⟩ := hb k (by omega)
    have kb1 := Rat.mul_le_mul_of_nonneg_right kb (show 0 ≤ 4 * B by grind)
    have kb2 := Rat.mul_le_mul_of_nonneg_right kb (show 0 ≤ 30 * (B * uu) by grind)
    have em : ((A k * C k : Int) : Rat) / 16 * fv .f32 (cn .f32 (P.d.getD k 0)) = wR A C k * xR P k / 4 := by unfold wR xR; grind
    obtain ⟨c0, c1, c2⟩ := fop_u .mul rfl vm.1 d0 (by simp) (M := B) (by grind) (by grind) (by simp only [ex]; rw [vm.2, em]; grind) (by simp only [ex]; rw [vm.2, em]; grind)
    simp only [ex] at c1 c2
    rw [vm.2, em] at c1 c2
    obtain ⟨g0, g1, g2⟩ := fop_u .add rfl a0 c0 (by simp) (M := 65 / 10 * B) (by grind) (by grind) (by simp only [ex]; grind) (by simp only [ex]; grind)
    simp only [ex] at g1 g2
    have eh : heatK P (k + 1) = fop .add .f32 (heatK P k) (fop .mul .f32 (fop .mul .f32 (cn .f32 (P.a.getD k 0)) (cn .f32 (P.c.getD k 0))) (cn .f32 (P.d.getD k 0))) := rfl
    have es : hR P A C (k + 1) = hR P A C k + wR A C k * xR P k := rfl
    rw [eh, es, e]
    exact ⟨g0, by grind, by grind, by grind, by grind⟩
/-- Bounds behind some ticks. -/
def mK (M : Rat) : Nat → Rat
  | 0 => M
  | k + 1 => mK M k + mK M k / 1000
theorem mK_le {M : Rat} (h : 0 ≤ M) : ∀ k, k ≤ 5 → M ≤ mK M k ∧ mK M k ≤ M + (k : Rat) * (M / 990)
  | 0, _ => by
    have e : ((0 : Nat) : Rat) = 0 := rfl
    show M ≤ M ∧ M ≤ _
    rw [e]; exact ⟨Rat.le_refl, by grind⟩
  | k + 1, hk => by
    obtain ⟨a, b⟩ := mK_le h k (by omega)
    have e : ((k + 1 : Nat) : Rat) = (k : Rat) + 1 := by rw [Rat.natCast_add]; rfl
    have kb : (k : Rat) ≤ ((5 : Nat) : Rat) := by exact_mod_cast (by omega : k ≤ 5)
    have e5 : ((5 : Nat) : Rat) = 5 := rfl
    rw [e5] at kb
    have k1 := Rat.mul_le_mul_of_nonneg_right kb (show 0 ≤ M / 990 by grind)
    show M ≤ mK M k + mK M k / 1000 ∧ mK M k + mK M k / 1000 ≤ _
    rw [e]
    exact ⟨by grind, by grind⟩
theorem solL_at {b a x s : Nat → Nat} {n i : Nat} (h : i < n) : (solL b a x s n).getD i 0 = solO b a x s n i := by
  unfold solL
  rw [List.getD_eq_getElem?_getD, List.getElem?_map, List.getElem?_range h]; rfl
theorem cn_solO (b a x s : Nat → Nat) (n i : Nat) : cn .f32 (solO b a x s n i) = solO b a x s n i := cn_bkO _ _ _ _ _ _
/-- A rod of other warmths. -/
theorem GR.with (h : GR P n A C M) {L : List Nat} {M' : Rat} (hl : L.length = n) (hL : ∀ i, i < n → fnt .f32 (cn .f32 (L.getD i 0)) = true ∧ fv .f32 (cn .f32 (L.getD i 0)) ≤ M' ∧ -fv .f32 (cn .f32 (L.getD i 0)) ≤ M') : GR ⟨P.a, P.b, P.c, L⟩ n A C M' :=
  ⟨h.hn, h.la, h.lb, h.lc, hl, h.a, h.b, h.c, hL⟩
theorem GR.tick (h : GR P n A C M) (hM : 1 / 1024 ≤ M ∧ M ≤ 1000) {N : Rat} (hE : GE E N) (hG : GE G N) (k1 : E.k = 1) (k2 : G.k = 1) (t1 : V .f32 (cn .f32 E.t) 0) (t2 : V .f32 (cn .f32 G.t) 0) :
    GR (rwsR P E G 1048576000) n A C (M + M / 1000) ∧ rwsOk P E G 1048576000 = true ∧ hR (rwsR P E G 1048576000) A C n - hR P A C n ≤ 1860 * (M * uu) ∧ hR P A C n - hR (rwsR P E G 1048576000) A C n ≤ 1860 * (M * uu) := by
  obtain ⟨y, s1, s2⟩ := h.kept hM hE hG k1 k2 t1 t2
  have hl : (rwsL P E G 1048576000).length = n := by unfold rwsL; rw [solL_len, h.la]
  have hat : ∀ i, i < n → cn .f32 ((rwsL P E G 1048576000).getD i 0) = solO (rwB P E G) (rwA P E G 1048576000) (rwX P E G) (rwS P E G 1048576000) n i := fun i hi => by
    unfold rwsL
    rw [h.la, solL_at hi, cn_solO]
  have R : GR (rwsR P E G 1048576000) n A C (M + M / 1000) := h.with hl (fun i hi => by rw [hat i hi]; exact y i hi)
  have ok : rwsOk P E G 1048576000 = true := by
    unfold rwsOk rwsPre
    rw [h.passOk hE hG, R.ok, abv_of V25w.1 (by rw [V25w.2]; grind)]; rfl
  have es : sumQ (fun i => wR A C i * (fv .f32 (solO (rwB P E G) (rwA P E G 1048576000) (rwX P E G) (rwS P E G 1048576000) n i) - xR P i)) n = hR (rwsR P E G 1048576000) A C n - hR P A C n := by
    unfold hR
    rw [← sumQ_sub]
    refine sumQ_congr n (fun i hi => ?_)
    have : xR (rwsR P E G 1048576000) i = fv .f32 (solO (rwB P E G) (rwA P E G 1048576000) (rwX P E G) (rwS P E G 1048576000) n i) := by
      show fv .f32 (cn .f32 ((rwsL P E G 1048576000).getD i 0)) = _
      rw [hat i hi]
    rw [this]; grind
  rw [es] at s1 s2
  exact ⟨R, ok, s1, by grind⟩
/-- Five ticks. -/
theorem GR.run (h : GR P n A C M) (hM : 1 / 1024 ≤ M ∧ M ≤ 100) {N : Rat} (hE : GE E N) (hG : GE G N) (k1 : E.k = 1) (k2 : G.k = 1) (t1 : V .f32 (cn .f32 E.t) 0) (t2 : V .f32 (cn .f32 G.t) 0) :
    ∀ k, k ≤ 5 → GR (runR true E G 1048576000 P k) n A C (mK M k) ∧ runO true E G 1048576000 P k = true ∧ hR (runR true E G 1048576000 P k) A C n - hR P A C n ≤ (k : Rat) * (1872 * (M * uu)) ∧ hR P A C n - hR (runR true E G 1048576000 P k) A C n ≤ (k : Rat) * (1872 * (M * uu))
  | 0, _ => by
    have e : ((0 : Nat) : Rat) = 0 := rfl
    rw [e]
    exact ⟨h, rfl, by show hR P A C n - hR P A C n ≤ _; grind, by show hR P A C n - hR P A C n ≤ _; grind⟩
  | k + 1, hk => by
    obtain ⟨R, ok, a, b⟩ := h.run hM hE hG k1 k2 t1 t2 k (by omega)
    obtain ⟨m1, m2⟩ := mK_le (M := M) (by grind) k (by omega)
    have kb : (k : Rat) ≤ ((5 : Nat) : Rat) := by exact_mod_cast (by omega : k ≤ 5)
    have e5 : ((5 : Nat) : Rat) = 5 := rfl
    rw [e5] at kb
    have k3 := Rat.mul_le_mul_of_nonneg_right kb (show 0 ≤ M / 990 by grind)
    have m3 : mK M k ≤ 1006 / 1000 * M := by grind
    obtain ⟨R', ok', a', b'⟩ := R.tick ⟨by grind, by grind⟩ hE hG k1 k2 t1 t2
    have u0 : 0 < uu := by unfold uu; decide +kernel
    have mu := Rat.mul_le_mul_of_nonneg_right m3 (Rat.le_of_lt u0)
    have e : ((k + 1 : Nat) : Rat) = (k : Rat) + 1 := by rw [Rat.natCast_add]; rfl
    have er : runR true E G 1048576000 P (k + 1) = rwsR (runR true E G 1048576000 P k) E G 1048576000 := rfl
    have eo : runO true E G 1048576000 P (k + 1) = (runO true E G 1048576000 P k && rwsOk (runR true E G 1048576000 P k) E G 1048576000) := rfl
    have em : mK M (k + 1) = mK M k + mK M k / 1000 := rfl
    rw [er, eo, em, e, ok, ok']
    exact ⟨R', rfl, by grind, by grind⟩
/-- The heats of a run, near the first. -/
theorem GR.heats (h : GR P n A C M) (hM : 1 / 1024 ≤ M ∧ M ≤ 100) {N : Rat} (hE : GE E N) (hG : GE G N) (k1 : E.k = 1) (k2 : G.k = 1) (t1 : V .f32 (cn .f32 E.t) 0) (t2 : V .f32 (cn .f32 G.t) 0) {k : Nat} (hk : k ≤ 5) :
    fnt .f32 (htV (runR true E G 1048576000 P k)) = true ∧ 4 * fv .f32 (htV (runR true E G 1048576000 P k)) - hR P A C n ≤ 10200 * (M * uu) ∧ hR P A C n - 4 * fv .f32 (htV (runR true E G 1048576000 P k)) ≤ 10200 * (M * uu) := by
  obtain ⟨R, ok, a, b⟩ := h.run hM hE hG k1 k2 t1 t2 k hk
  obtain ⟨m1, m2⟩ := mK_le (M := M) (by grind) k hk
  have kb : (k : Rat) ≤ ((5 : Nat) : Rat) := by exact_mod_cast hk
  have e5 : ((5 : Nat) : Rat) = 5 := rfl
  rw [e5] at kb
  have k3 := Rat.mul_le_mul_of_nonneg_right kb (show 0 ≤ M / 990 by grind)
  have m3 : mK M k ≤ 1006 / 1000 * M := by grind
  have u0 : 0 < uu := by unfold uu; decide +kernel
  have u3 : 0 < M * uu := Rat.mul_pos (by grind) u0
  have hn := h.hn
  have H := R.heat (B := 4 * mK M k) ⟨by grind, by grind⟩ (fun i hi => by
    obtain ⟨w1, w2⟩ := h.wb hi
    obtain ⟨_, d1, d2⟩ := R.d i hi
    have a1 := Rat.mul_le_mul_of_nonneg_left d1 (show 0 ≤ wR A C i by grind)
    have a2 := Rat.mul_le_mul_of_nonneg_left d2 (show 0 ≤ wR A C i by grind)
    have a3 := Rat.mul_le_mul_of_nonneg_right w2 (show 0 ≤ mK M k by grind)
    exact ⟨by show wR A C i * fv .f32 (cn .f32 ((runR true E G 1048576000 P k).d.getD i 0)) ≤ _; grind, by show -(wR A C i * fv .f32 (cn .f32 ((runR true E G 1048576000 P k).d.getD i 0))) ≤ _; grind⟩) n (Nat.le_refl _)
  have la : (runR true E G 1048576000 P k).a.length = n := R.la
  unfold htV
  rw [la]
  obtain ⟨h0, h1, h2, _⟩ := H
  have nb : (n : Rat) ≤ ((6 : Nat) : Rat) := by exact_mod_cast hn.2
  have e6 : ((6 : Nat) : Rat) = 6 := rfl
  rw [e6] at nb
  have mu := Rat.mul_le_mul_of_nonneg_right m3 (Rat.le_of_lt u0)
  have n1 := Rat.mul_le_mul_of_nonneg_right nb (show 0 ≤ 30 * (4 * mK M k * uu) by have := Rat.mul_nonneg (show 0 ≤ mK M k by grind) (Rat.le_of_lt u0); grind)
  have k4 := Rat.mul_le_mul_of_nonneg_right kb (show 0 ≤ 1872 * (M * uu) by grind)
  exact ⟨h0, by grind, by grind⟩
end
end Go.Proofs.Ytpnkapdemgieaaa
set_option linter.unusedSimpArgs false
set_option linter.unusedVariables false
set_option linter.unusedSectionVars false
namespace Go.Proofs.Ytpnkapdemgieaaa
open Go Go.RowKit
section
variable {P X Y : Nat} {p m n : Int}
end
end Go.Proofs.Ytpnkapdemgieaaa
set_option linter.unusedSimpArgs false
set_option linter.unusedVariables false
set_option linter.unusedSectionVars false
namespace Go.Proofs.Ytpnkapdemgieaaa
open Go Go.RowKit
section
variable {s : St} {a b c d p l k : Int} {H : Nat}
/-- What a heat of k quarters leads to. -/
structure HV (s : St) (p k : Int) (W T : Nat) : Prop where
  fW : fnt .f32 W = true
  fT : fnt .f32 T = true
  t0 : 0 ≤ fv .f32 T
  t1 : fv .f32 T ≤ 1
  sg : (fv .f32 W < fv .f32 s.k.p ↔ k < 0) ∧ (0 ≤ k → fv .f32 s.k.p ≤ fv .f32 W)
end
end Go.Proofs.Ytpnkapdemgieaaa
set_option linter.unusedSimpArgs false
set_option linter.unusedVariables false
set_option linter.unusedSectionVars false
namespace Go.Proofs.Ytpnkapdemgieaaa
open Go Go.RowKit
section
variable {s : St} {a b c d p l k : Int} {H : Nat}
end
end Go.Proofs.Ytpnkapdemgieaaa
set_option linter.unusedSimpArgs false
set_option linter.unusedVariables false
set_option linter.unusedSectionVars false
namespace Go.Proofs.Ytpnkapdemgieaaa
open Go Go.RowKit
def gapC (x y : Nat) : Nat := if flt .f64 x y then fop .sub .f64 y x else fop .sub .f64 x y
theorem cn_gapC (x y : Nat) : cn .f64 (gapC x y) = gapC x y := by unfold gapC; split <;> exact cn_fop _ _ _ _
def cTho : Nat := cn .f64 4562254508917369340
theorem rep64 (z q : Int) (h : z.natAbs < 9007199254740992) (h1 : -1000 ≤ q) (h2 : q ≤ 900) {r : Rat} (hr : r = z * tp q) : Rep .f64 r := rep_at (k := .f64) z q (by show z.natAbs < 2 ^ (52 + 1); exact h) (by show -1074 ≤ q; omega) (by show q + 52 + 1 < 1024; omega) hr
theorem tp_n7 : tp (-7) * 128 = 1 := by
  have h : tp (-7) * tp 7 = 1 := by rw [← tp_add]; exact tp_zero
  rwa [tp7] at h
theorem rep128 : Rep .f64 ((1 : Rat) / 128) := rep64 1 (-7) (by decide) (by decide) (by decide) (by have := tp_n7; grind)
def fmax64 (x y : Nat) : Nat := if flt .f64 x y then y else if flt .f64 y x then x else if (FloatKind.f64.decode x).neg then y else x
theorem run_fmax64 {P : Program} {x y : Nat} (hx : fnt .f64 x = true) (hy : fnt .f64 y = true) (ts : Array TypeId) (t : TypeId) (w : World) : (Builtin.max_ ts t #[.float .f64 x, .float .f64 y]).run P w = .ok (.float .f64 (fmax64 x y)) w := by
  have h1 := fltv hx hy
  have h2 := fltv hy hx
  unfold fmax64
  rcases ordv .f64 hx hy with ⟨h, e⟩ | ⟨h, e⟩ | ⟨h, e⟩
  · rw [h1, decide_eq_true e]
    simp [Builtin.max_, Builtin.max2, h]
  · rw [h1, h2, decide_eq_false (by grind), decide_eq_false (by grind)]
    simp [Builtin.max_, Builtin.max2, h]
  · rw [h1, h2, decide_eq_false (by grind), decide_eq_true e]
    simp [Builtin.max_, Builtin.max2, h]
theorem fmax64_val {x y : Nat} (hx : fnt .f64 x = true) (hy : fnt .f64 y = true) : fnt .f64 (fmax64 x y) = true ∧ fv .f64 x ≤ fv .f64 (fmax64 x y) ∧ fv .f64 y ≤ fv .f64 (fmax64 x y) ∧ (fmax64 x y = x ∨ fmax64 x y = y) := by
  have h1 := fltv hx hy
  have h2 := fltv hy hx
  unfold fmax64
  rcases ordv .f64 hx hy with ⟨h, e⟩ | ⟨h, e⟩ | ⟨h, e⟩
  · rw [h1, decide_eq_true e]
    exact ⟨hy, Rat.le_of_lt e, Rat.le_refl, .inr rfl⟩
  · rw [h1, h2, decide_eq_false (by grind), decide_eq_false (by grind)]
    simp only [Bool.false_eq_true, if_false]
    split
    · exact ⟨hy, by grind, Rat.le_refl, .inr rfl⟩
    · exact ⟨hx, Rat.le_refl, by grind, .inl rfl⟩
  · rw [h1, h2, decide_eq_false (by grind), decide_eq_true e]
    exact ⟨hx, Rat.le_refl, Rat.le_of_lt e, .inl rfl⟩
end Go.Proofs.Ytpnkapdemgieaaa
set_option linter.unusedSimpArgs false
set_option linter.unusedVariables false
set_option linter.unusedSectionVars false
namespace Go.Proofs.Ytpnkapdemgieaaa
open Go Go.RowKit
open Go.ChangeShapes Go.WideShapes Go.ChangeAt Go.RowKit Go.Joins
def gap8 (x y : Nat) : Nat := fmax64 (fop .sub .f64 x y) (fop .sub .f64 y x)
/-- Both differences are finite. -/
def gapOk (x y : Nat) : Prop := fnt .f64 (fop .sub .f64 x y) = true ∧ fnt .f64 (fop .sub .f64 y x) = true
theorem gap8_le {x y : Nat} {c : Rat} (hx : fnt .f64 x = true) (hy : fnt .f64 y = true) (hc : Rep .f64 c) (h1 : fv .f64 x - fv .f64 y ≤ c) (h2 : fv .f64 y - fv .f64 x ≤ c) : gapOk x y ∧ Btw .f64 (gap8 x y) (-c) c := by
  obtain ⟨a1, a2, a3⟩ := fop_btw .sub rfl .f64 (a := -c) (b := c) hx hy (by simp) hc.neg hc (by simp only [ex]; grind) (by simp only [ex]; grind)
  obtain ⟨b1, b2, b3⟩ := fop_btw .sub rfl .f64 (a := -c) (b := c) hy hx (by simp) hc.neg hc (by simp only [ex]; grind) (by simp only [ex]; grind)
  obtain ⟨g1, g2, g3, g4⟩ := fmax64_val a1 b1
  refine ⟨⟨a1, b1⟩, g1, ?_, ?_⟩
  · show -c ≤ fv .f64 (fmax64 _ _); grind
  · show fv .f64 (fmax64 _ _) ≤ c
    rcases g4 with e | e <;> rw [e] <;> assumption
theorem cn_fmax64 {x y : Nat} (hx : fnt .f64 x = true) (hy : fnt .f64 y = true) : cn .f64 (fmax64 x y) = fmax64 x y := fnt_cn (fmax64_val hx hy).1
theorem raw_fnt {k : FloatKind} {x c : Nat} (h : cn k x = c) (hf : fnt k c = true) : x = c := by
  cases hn : isN k x with
  | true =>
    rw [cn_of_isN hn] at h
    subst h
    have : fnt k (qn k) = false := by cases k <;> decide +kernel
    rw [this] at hf; cases hf
  | false => rw [cn_of_not hn] at h; exact h
theorem max_raw {C D : Nat} (hC : fnt .f64 C = true) (hD : fnt .f64 D = true) {P : Program} (x y : Nat) (hx : cn .f64 x = C) (hy : cn .f64 y = D) (ts : Array TypeId) (t : TypeId) (w : World) : (Builtin.max_ ts t #[.float .f64 x, .float .f64 y]).run P w = .ok (.float .f64 (fmax64 C D)) w := by
  rw [raw_fnt hx hC, raw_fnt hy hD]
  exact run_fmax64 hC hD ts t w
theorem r8Gap_any (x y : Nat) (w : World) (h : gapOk (cn .f64 x) (cn .f64 y)) : Calls Try.prog 13 #[.float .f64 x, .float .f64 y] w (RF w .f64 (gap8 (cn .f64 x) (cn .f64 y))) := by
  obtain ⟨h1, h2⟩ := h
  have HC := Lib.hid (cn_fmax64 h1 h2)
  have HM := Lib.hid (fun x y hx hy ts t w => max_raw (P := Try.prog) h1 h2 x y hx hy ts t w)
  have HV : Hid (gap8 (cn .f64 x) (cn .f64 y) = fmax64 (fop .sub .f64 (cn .f64 x) (cn .f64 y)) (fop .sub .f64 (cn .f64 y) (cn .f64 x))) := rfl
  rw [HV.out]
  clear HV
  have hm := HM.out
  go_enter Try.func13, Try.ntmps13
  go_wp2_with (first | (with_reducible refine at_list ?_; refine wpList_fop rfl rfl rfl rfl rfl ?_; intro r n hr0; have hr := hr0 _ _ (by first | with_reducible assumption | exact rfl) (by first | with_reducible assumption | exact rfl); clear hr0) | (with_reducible refine at_list ?_; refine wpList_neg rfl rfl rfl ?_; intro r hr0; have hr := hr0 _ (by first | with_reducible assumption | exact rfl); clear hr0) | (with_reducible refine at_list ?_; refine wpList_fop_g rfl rfl rfl rfl rfl ?_; intro r n hr0; have hr := hr0 _ _ (by first | with_reducible assumption | exact rfl) (by first | with_reducible assumption | exact rfl); clear hr0) | (with_reducible refine at_list ?_; refine wpList_wide rfl rfl rfl Try.underlying28 Try.underlying39 ?_; intro r n hr0; have hr := hr0 _ (by first | with_reducible assumption | exact rfl); clear hr0))
  go_ret
  exact ⟨_, rfl, HC.out, by first | exact ⟨_, rfl⟩ | exact ⟨0, rfl⟩⟩
end Go.Proofs.Ytpnkapdemgieaaa

/-
  The law on even bars: true for every input. No condition.
-/
import Derived.Test.YtjeeflldbhajiaaBxHeld
import Derived.Test.YtjeeflldbhajiaaBx2
set_option linter.unusedSimpArgs false
set_option linter.unusedVariables false
set_option linter.unusedSectionVars false
namespace Go.Proofs.Ytjeeflldbhajiaa
open Go Go.RowKit
open Go.ChangeShapes Go.WideShapes Go.ChangeAt Go.RowKit Go.Joins
theorem bX_len {b : Bool} {xs : List Nat} (h : b = true → xs.length ≤ 48) : (bX b xs).length ≤ 1048576 := by
  cases b
  · show (0 : Nat) ≤ _; omega
  · have := h rfl; show xs.length ≤ _; omega
theorem even_len (s : St) (n : Int) (p t f : Nat) : (bX (evenOk s n p t f) (evenX s n t f)).length ≤ 1048576 := bX_len fun h => by
  unfold evenOk at h
  simp only [Bool.and_eq_true] at h
  exact barOk_len' h.2.2
set_option maxHeartbeats 8000000 in
theorem walk_FnExactEvenBar (s : St) (n : Int) (p t f : Nat) (_ : s.wf) (_ : (Lit.int .i64 n).wf = true) (_ : (Lit.float .f32 p).wf = true) (_ : (Lit.float .f32 t).wf = true) (_ : (Lit.float .f32 f).wf = true) (w : World) : Calls Try.prog 10 #[.agg #[.float .f32 s.a, .float .f32 s.b, .float .f32 s.c, .float .f32 s.d, .float .f32 s.p, .float .f32 s.l], .int .i64 n, .float .f32 p, .float .f32 t, .float .f32 f] w (BV w (.bool true)) := by
  obtain ⟨s0, p0, xs0, b0, h1, h2, h3⟩ : ∃ s0 p0 xs0 b0, (∀ w, Calls Try.prog 37 #[.agg #[.float .f32 s.a, .float .f32 s.b, .float .f32 s.c, .float .f32 s.d, .float .f32 s.p, .float .f32 s.l], .int .i64 n, .float .f32 p, .float .f32 t, .float .f32 f] w (BBB w s0 p0 xs0 b0)) ∧ (∀ w, Calls Try.prog 39 #[.agg #[.float .f32 s.a, .float .f32 s.b, .float .f32 s.c, .float .f32 s.d, .float .f32 s.p, .float .f32 s.l], .int .i64 n, .float .f32 p, .float .f32 t, .float .f32 f] w (BBB w s0 p0 xs0 b0)) ∧ xs0.length ≤ 1048576 :=
    ⟨_, _, _, _, fun w => (specEven_any s n p t f w).mono fun e w' h => h.bbb, fun w => (implEven_any s n p t f w).mono fun e w' h => h.bbb, even_len s n p t f⟩
  have H1 := Lib.hid h1
  have H2 := Lib.hid h2
  have H3 := Lib.hid h3
  have hm1 : ¬ (1 : Int) + xs0.length < 0 := by omega
  clear h1 h2 h3
  go_enter Try.func10, Try.ntmps10
  go_wp2_with (first | (with_reducible refine at_list ?_; refine wpList_fop rfl rfl rfl rfl rfl ?_; intro r n hr0; have hr := hr0 _ _ (by first | with_reducible assumption | exact rfl) (by first | with_reducible assumption | exact rfl); clear hr0) | (with_reducible refine at_list ?_; refine wpList_neg rfl rfl rfl ?_; intro r hr0; have hr := hr0 _ (by first | with_reducible assumption | exact rfl); clear hr0) | (with_reducible refine at_list ?_; refine wpList_fop_g rfl rfl rfl rfl rfl ?_; intro r n hr0; have hr := hr0 _ _ (by first | with_reducible assumption | exact rfl) (by first | with_reducible assumption | exact rfl); clear hr0) | (with_reducible refine at_list ?_; refine wpList_wide_g rfl rfl Try.underlying22 Try.underlying40 rfl ?_; intro r n hr0; have hr := hr0 _ (by first | with_reducible assumption | exact rfl); clear hr0) | (with_reducible refine at_list ?_; refine wpList_wide rfl rfl rfl Try.underlying22 Try.underlying40 ?_; intro r n hr0; have hr := hr0 _ (by first | with_reducible assumption | exact rfl); clear hr0) | (go_at_call 38; refine ((toStuffB_any s _) ).mono ?_; rintro e w' ⟨rfl, hb⟩; obtain ⟨hT, hk⟩ := bv_next hb (by (repeat (with_reducible first | assumption | apply Trk.alloc | apply Trk.setCell | apply Trk.drewN | apply Trk.drew | exact Trk.nil _))); simp only [SameOn, World.size_alloc, World.size_setCell, World.size_drew, size_drewN', and_true] at hk; have hsz := Below.size hb; (try simp only [World.size_alloc, World.size_setCell, World.size_drew, size_drewN'] at hsz)) | (go_at_call 37; refine ((H1.out _) ).mono ?_; rintro e w' ⟨u, rfl, hb, hO⟩; have hX := FX.of hO; clear hO; obtain ⟨pu, cu, rfl⟩ := OF.shape hX.1; (try simp only [World.size_alloc, World.size_setCell, World.size_drew, World.drewN] at hX); obtain ⟨hT, hk⟩ := bv_next hb (by (repeat (with_reducible first | assumption | apply Trk.alloc | apply Trk.setCell | apply Trk.drewN | apply Trk.drew | exact Trk.nil _))); simp only [SameOn, World.size_alloc, World.size_setCell, World.size_drew, size_drewN', and_true] at hk; have hsz := Below.size hb; (try simp only [World.size_alloc, World.size_setCell, World.size_drew, size_drewN'] at hsz)) | (go_at_call 39; refine ((H2.out _) ).mono ?_; rintro e w' ⟨u, rfl, hb, hO⟩; have hX := FX.of hO; clear hO; obtain ⟨pu, cu, rfl⟩ := OF.shape hX.1; (try simp only [World.size_alloc, World.size_setCell, World.size_drew, World.drewN] at hX); obtain ⟨hT, hk⟩ := bv_next hb (by (repeat (with_reducible first | assumption | apply Trk.alloc | apply Trk.setCell | apply Trk.drewN | apply Trk.drew | exact Trk.nil _))); simp only [SameOn, World.size_alloc, World.size_setCell, World.size_drew, size_drewN', and_true] at hk; have hsz := Below.size hb; (try simp only [World.size_alloc, World.size_setCell, World.size_drew, size_drewN'] at hsz)) | (go_at_call 19; refine ((eqBar_any s0 s0 p0 p0 _ _ xs0 xs0 _ (FX.fs (by (repeat' (first | (with_reducible assumption) | (with_reducible apply FX.setCell) | (with_reducible apply FX.alloc) | (with_reducible apply FX.later; rotate_left; with_reducible assumption) | (with_reducible apply FX.turn; rotate_left; with_reducible assumption) | (with_reducible apply FX.drewN))) <;> (first | omega | (simp; done) | (simp; omega)))) (FX.fs (by (repeat' (first | (with_reducible assumption) | (with_reducible apply FX.setCell) | (with_reducible apply FX.alloc) | (with_reducible apply FX.later; rotate_left; with_reducible assumption) | (with_reducible apply FX.turn; rotate_left; with_reducible assumption) | (with_reducible apply FX.drewN))) <;> (first | omega | (simp; done) | (simp; omega)))) rfl rfl rfl) ).mono ?_; rintro e w' ⟨rfl, hb⟩; obtain ⟨hT, hk⟩ := bv_next hb (by (repeat (with_reducible first | assumption | apply Trk.alloc | apply Trk.setCell | apply Trk.drewN | apply Trk.drew | exact Trk.nil _))); simp only [SameOn, World.size_alloc, World.size_setCell, World.size_drew, size_drewN', and_true] at hk; have hsz := Below.size hb; (try simp only [World.size_alloc, World.size_setCell, World.size_drew, size_drewN'] at hsz)) | (go_at_call 32; refine ((markBar_any s0 p0 xs0 _ 1 _ (by (repeat' (first | (with_reducible assumption) | (with_reducible apply FX.setCell) | (with_reducible apply FX.alloc) | (with_reducible apply FX.later; rotate_left; with_reducible assumption) | (with_reducible apply FX.turn; rotate_left; with_reducible assumption) | (with_reducible apply FX.drewN))) <;> (first | omega | (simp; done) | (simp; omega))) (by omega) (by omega) H3.out) ).mono ?_; rintro e w' ⟨rfl, hg, hgs, hX⟩; have hg' := Lib.hid hg; have hX' := Lib.hid hX; clear hX; obtain ⟨hT, hk⟩ := turn_track hg (by (repeat (with_reducible first | assumption | apply Trk.alloc | apply Trk.setCell | apply Trk.drewN | apply Trk.drew | exact Trk.nil _))) (by simp only [List.forall_mem_cons, List.not_mem_nil, false_implies, implies_true, and_true, World.size_alloc, World.size_setCell, World.size_drew, size_drewN']; omega); have hbm := turn_below (n := w.heap.size) hg (by omega) (by first | omega | (simp only [World.size_alloc, World.size_setCell, World.size_drew, size_drewN']; omega)); simp only [SameOn, World.size_alloc, World.size_setCell, World.size_drew, size_drewN', and_true] at hk; (try simp only [World.size_alloc, World.size_setCell, World.size_drew, size_drewN'] at hgs); clear hg; have hg := hg'.out; have hX := hX'.out; clear hg' hX') | (go_at_call 40; refine ((heldBar_any s0 p0 xs0.length _ 1 _ (FX.fs (by (repeat' (first | (with_reducible assumption) | (with_reducible apply FX.setCell) | (with_reducible apply FX.alloc) | (with_reducible apply FX.later; rotate_left; with_reducible assumption) | (with_reducible apply FX.turn; rotate_left; with_reducible assumption) | (with_reducible apply FX.drewN))) <;> (first | omega | (simp; done) | (simp; omega)))) (by omega) H3.out) ).mono ?_; rintro e w' ⟨rfl, hb⟩; obtain ⟨hT, hk⟩ := bv_next hb (by (repeat (with_reducible first | assumption | apply Trk.alloc | apply Trk.setCell | apply Trk.drewN | apply Trk.drew | exact Trk.nil _))); simp only [SameOn, World.size_alloc, World.size_setCell, World.size_drew, size_drewN', and_true] at hk; have hsz := Below.size hb; (try simp only [World.size_alloc, World.size_setCell, World.size_drew, size_drewN'] at hsz)))
  all_goals
    go_ret
    exact ⟨rfl, by (repeat (first | (with_reducible exact Below.refl _ _) | (with_reducible assumption) | (with_reducible refine below_then ?_ (by assumption)) | (with_reducible refine Below.trans ?_ (by assumption)) | (with_reducible refine below_drewN ?_ _) | (with_reducible apply Below.drew) | (with_reducible refine below_alloc ?_ _) | refine Below.setCell ?_ (by first | (simp; done) | (simp; omega)) _))⟩
set_option maxRecDepth 100000 in
set_option maxHeartbeats 2000000 in
theorem lifted_FnExactEvenBar (os : Os) (started : os.Started) (H : Type) (enc : TypeId × Value → H) :
    ReturnsInHanded {} Try.checked os 10 .any (Rows.fnExactEvenBarSpec.pre6 enc Try.prog Try.f10 Rows.fnExactEvenBarRow.domain false) (Rows.fnExactEvenBarSpec.post enc Try.prog Try.f10 false true false false) := by
  refine returnsInHanded_of_change (C := Try.checked) own started (by kernel_rfl) Try.func10
    (ChangeSpec.witness6 (enc := enc) (C := Try.checked) false ⟨#[], #[.agg #[.float .f32 0, .float .f32 0, .float .f32 0, .float .f32 0, .float .f32 0, .float .f32 0], .int .i64 0, .float .f32 0, .float .f32 0, .float .f32 0], []⟩ 8 (by kernel_rfl) (by kernel_rfl) (by kernel_rfl) (by kernel_rfl)) ?_
  intro W base args ds gs before hval0 hW hcnd _
  have hval : ∀ (j : Nat) t v, Try.f10.params[j]? = some t → args[j]? = some v → Value.okWide Try.prog W .any base t v := hval0
  have hW' := hW
  obtain ⟨p, q, hA0, hV, rfl, hfz, hnd⟩ := hW
  have hA : DataW.TrodAll enc Try.prog W 0 (fun _ => true) true Try.f10.params.toList args.toList ds p := hA0
  rw [Try.params10] at hA hval
  obtain ⟨v0, vs0, d0, ds0, p0, q0, hargs, rfl, rfl, h0, r0⟩ := trodAll_cons hA
  obtain ⟨v1, vs1, d1, ds1, p1, q1, rfl, rfl, rfl, h1, r1⟩ := trodAll_cons r0
  obtain ⟨v2, vs2, d2, ds2, p2, q2, rfl, rfl, rfl, h2, r2⟩ := trodAll_cons r1
  obtain ⟨v3, vs3, d3, ds3, p3, q3, rfl, rfl, rfl, h3, r3⟩ := trodAll_cons r2
  obtain ⟨v4, vs4, d4, ds4, p4, q4, rfl, rfl, rfl, h4, r4⟩ := trodAll_cons r3
  obtain ⟨rfl, rfl, rfl⟩ := trodAll_nil r4
  obtain rfl : args = #[v0, v1, v2, v3, v4] := by cases args; simp_all
  obtain ⟨rfl, rfl⟩ := trodVars_none hV
  have k0 := h0
  have lt0 : ∀ x ∈ p0, x.block < W.heap.size := by obtain ⟨m, hm⟩ := k0; exact DataW.trod_lt m _ _ _ hm
  obtain ⟨s, rfl, w0⟩ := open_Stuff (hval 0 24 v0 rfl rfl) h0
  have k1 := h1
  have lt1 : ∀ x ∈ p1, x.block < W.heap.size := by obtain ⟨m, hm⟩ := k1; exact DataW.trod_lt m _ _ _ hm
  obtain ⟨n, rfl, rfl, rfl, w1⟩ := open_int Try.underlying2 (hval 1 2 v1 rfl rfl) h1
  have k2 := h2
  have lt2 : ∀ x ∈ p2, x.block < W.heap.size := by obtain ⟨m, hm⟩ := k2; exact DataW.trod_lt m _ _ _ hm
  obtain ⟨p, rfl, rfl, rfl, w2⟩ := open_float Try.underlying22 (hval 2 22 v2 rfl rfl) h2
  have k3 := h3
  have lt3 : ∀ x ∈ p3, x.block < W.heap.size := by obtain ⟨m, hm⟩ := k3; exact DataW.trod_lt m _ _ _ hm
  obtain ⟨t, rfl, rfl, rfl, w3⟩ := open_float Try.underlying22 (hval 3 22 v3 rfl rfl) h3
  have k4 := h4
  have lt4 : ∀ x ∈ p4, x.block < W.heap.size := by obtain ⟨m, hm⟩ := k4; exact DataW.trod_lt m _ _ _ hm
  obtain ⟨f, rfl, rfl, rfl, w4⟩ := open_float Try.underlying22 (hval 4 22 v4 rfl rfl) h4
  clear hA0 hval0
  refine (walk_FnExactEvenBar s n p t f w0 w1 w2 w3 w4 W).mono fun e W' ⟨he, hg⟩ => ?_
  subst he
  exact ⟨_, rfl, _, _, _, [], _, [], hW', trodAll_mk1 (shut_bool Try.underlying4 _), (trodAll_cons_mk (Below.trod laidOut (by kernel_rfl) (of_decide_eq_true (by kernel_rfl)) k0 hg lt0) (trodAll_cons_mk (Below.trod laidOut (by kernel_rfl) (of_decide_eq_true (by kernel_rfl)) k1 hg lt1) (trodAll_cons_mk (Below.trod laidOut (by kernel_rfl) (of_decide_eq_true (by kernel_rfl)) k2 hg lt2) (trodAll_cons_mk (Below.trod laidOut (by kernel_rfl) (of_decide_eq_true (by kernel_rfl)) k3 hg lt3) (trodAll_cons_mk (Below.trod laidOut (by kernel_rfl) (of_decide_eq_true (by kernel_rfl)) k4 hg lt4) trodAll_mk0))))), rfl, hg.frame _, fun h => by cases h⟩
theorem fnExactEvenBar_holds : Rows.FnExactEvenBarSaid :=
  OpenClaim.holds_of_wide 10 Try.f10 rfl rfl rfl rfl rfl rfl rfl ⟨rfl, rfl, rfl, rfl, rfl⟩ rfl rfl rfl rfl rfl (by kernel_rfl) Try.func10 (by kernel_rfl)
    (of_decide_eq_true (by kernel_rfl)) (by unfold Func.isWrapper; rw [if_neg (of_decide_eq_false (by kernel_rfl))]; exact ⟨rfl, rfl⟩)
    (fun os started H enc _ => lifted_FnExactEvenBar os started H enc)
end Go.Proofs.Ytjeeflldbhajiaa

/-
  The law on ice that grows day by day. No condition.
-/
import Derived.Test.YtiodpahbmoeiaaaRunIce
import Derived.Test.YtiodpahbmoeiaaaMark
import Derived.Test.YtiodpahbmoeiaaaOpenB
set_option linter.unusedSimpArgs false
set_option linter.unusedVariables false
set_option linter.unusedSectionVars false
namespace Go.Proofs.Ytiodpahbmoeiaaa
open Go Go.RowKit
open Go.ChangeShapes Go.WideShapes Go.ChangeAt Go.RowKit Go.Joins
theorem runI_len {s : St} {k t : Nat} : ∀ (l : List Nat) (i : Nat) (L : List Nat), runI s k t i l = some L → L.length = l.length
  | [], i, L, h => by simp [runI] at h; subst h; rfl
  | a :: l, i, L, h => by
    simp only [runI] at h
    split at h
    · obtain ⟨M, hM, rfl⟩ := Option.map_eq_some_iff.1 h
      simp [runI_len l _ M hM]
    · cases h
theorem runV_len (s : St) (i k t : Nat) (xs : List Nat) (h : xs.length ≤ 1048576) : (runV s i k t xs).1.length ≤ 1048576 := by
  unfold runV
  split
  · split
    · rename_i L e; have := runI_len _ _ _ e; simp at this; simp [this]; exact h
    · simp
  · simp
set_option maxHeartbeats 4000000 in
theorem walk_FnExactRunIce (s : St) (i k : Nat) (v : Value) (xs : List Nat) (t : Nat) (w : World) (_ : s.wf) (_ : (Lit.float .f32 i).wf = true) (_ : (Lit.float .f32 k).wf = true) (h : FS w v xs ∧ ∀ j, xs.getD j 0 < 4294967296) (_ : (Lit.float .f32 t).wf = true) : Calls Try.prog 10 #[.agg #[.float .f32 s.a, .float .f32 s.b, .float .f32 s.c, .float .f32 s.d, .float .f32 s.p, .float .f32 s.l], .float .f32 i, .float .f32 k, v, .float .f32 t] w (BV w (.bool true)) := by
  have HS := Lib.hid h.1
  obtain ⟨pv, cv, rfl, _⟩ := h.1
  by_cases hn : 1048576 < xs.length
  · go_enter Try.func10, Try.ntmps10
    go_wp2_with (first | (with_reducible refine at_list ?_; refine wpList_fop rfl rfl rfl rfl rfl ?_; intro r n hr0; have hr := hr0 _ _ (by first | with_reducible assumption | exact rfl) (by first | with_reducible assumption | exact rfl); clear hr0) | (with_reducible refine at_list ?_; refine wpList_neg rfl rfl rfl ?_; intro r hr0; have hr := hr0 _ (by first | with_reducible assumption | exact rfl); clear hr0) | (with_reducible refine at_list ?_; refine wpList_fop_g rfl rfl rfl rfl rfl ?_; intro r n hr0; have hr := hr0 _ _ (by first | with_reducible assumption | exact rfl) (by first | with_reducible assumption | exact rfl); clear hr0) | (with_reducible refine at_list ?_; refine wpList_wide_g rfl rfl Try.underlying22 Try.underlying26 rfl ?_; intro r n hr0; have hr := hr0 _ (by first | with_reducible assumption | exact rfl); clear hr0) | (with_reducible refine at_list ?_; refine wpList_wide rfl rfl rfl Try.underlying22 Try.underlying26 ?_; intro r n hr0; have hr := hr0 _ (by first | with_reducible assumption | exact rfl); clear hr0) | (go_at_call 18; refine (toStuff_any _ _).mono ?_; rintro e w' ⟨rfl, hb⟩; obtain ⟨hT, hk⟩ := bv_next hb (by (repeat (with_reducible first | assumption | apply Trk.alloc | apply Trk.setCell | apply Trk.drewN | apply Trk.drew | exact Trk.nil _))); simp only [SameOn, World.size_alloc, World.size_setCell, World.size_drew, size_drewN', and_true] at hk; have hsz := Below.size hb; (try simp only [World.size_alloc, World.size_setCell, World.size_drew, size_drewN'] at hsz)) | (go_at_call 31; refine (toF_any _ _ _ (by assumption) (by assumption)).mono ?_; rintro e w' ⟨u, rfl, hb, hO⟩; obtain ⟨pu, cu, rfl⟩ := OF.shape hO; (try simp only [World.size_alloc, World.size_setCell, World.size_drew, World.drewN] at hO); obtain ⟨hT, hk⟩ := bv_next hb (by (repeat (with_reducible first | assumption | apply Trk.alloc | apply Trk.setCell | apply Trk.drewN | apply Trk.drew | exact Trk.nil _))); simp only [SameOn, World.size_alloc, World.size_setCell, World.size_drew, size_drewN', and_true] at hk; have hsz := Below.size hb; (try simp only [World.size_alloc, World.size_setCell, World.size_drew, size_drewN'] at hsz)) | (go_at_call 33; refine (eqF_any _ _ _ _ _ (by assumption) (by assumption) (by assumption)).mono ?_; rintro e w' ⟨rfl, hb⟩; obtain ⟨hT, hk⟩ := bv_next hb (by (repeat (with_reducible first | assumption | apply Trk.alloc | apply Trk.setCell | apply Trk.drewN | apply Trk.drew | exact Trk.nil _))); simp only [SameOn, World.size_alloc, World.size_setCell, World.size_drew, size_drewN', and_true] at hk; have hsz := Below.size hb; (try simp only [World.size_alloc, World.size_setCell, World.size_drew, size_drewN'] at hsz)))
    all_goals
      go_ret
      exact ⟨rfl, by (repeat (first | (with_reducible exact Below.refl _ _) | (with_reducible refine below_then ?_ (by assumption)) | (with_reducible refine Below.trans ?_ (by assumption)) | (with_reducible refine below_drewN ?_ _) | (with_reducible apply Below.drew) | (with_reducible refine below_alloc ?_ _) | refine Below.setCell ?_ (by first | (simp; done) | (simp; omega)) _))⟩
  have HN : Hid (xs.length ≤ 1048576) := by show _ ≤ _; omega
  obtain ⟨L, b, h1, h2, h3⟩ : ∃ L b, (∀ w u, FS w u xs → Calls Try.prog 30 #[.agg #[.float .f32 s.a, .float .f32 s.b, .float .f32 s.c, .float .f32 s.d, .float .f32 s.p, .float .f32 s.l], .float .f32 i, .float .f32 k, u, .float .f32 t] w (BC w L b)) ∧ (∀ w u, FS w u xs → Calls Try.prog 32 #[.agg #[.float .f32 s.a, .float .f32 s.b, .float .f32 s.c, .float .f32 s.d, .float .f32 s.p, .float .f32 s.l], .float .f32 i, .float .f32 k, u, .float .f32 t] w (BC w L b)) ∧ L.length ≤ 1048576 := ⟨_, _, fun w u h => specRunIce_any s i k t u xs w h, fun w u h => implRunIce_any s i k t u xs w h, runV_len s i k t xs HN.out⟩
  have H1 := Lib.hid h1
  have H2 := Lib.hid h2
  have H3 := Lib.hid h3
  clear h1 h2 h3
  go_enter Try.func10, Try.ntmps10
  go_wp2_with (first | (with_reducible refine at_list ?_; refine wpList_fop rfl rfl rfl rfl rfl ?_; intro r n hr0; have hr := hr0 _ _ (by first | with_reducible assumption | exact rfl) (by first | with_reducible assumption | exact rfl); clear hr0) | (with_reducible refine at_list ?_; refine wpList_neg rfl rfl rfl ?_; intro r hr0; have hr := hr0 _ (by first | with_reducible assumption | exact rfl); clear hr0) | (with_reducible refine at_list ?_; refine wpList_fop_g rfl rfl rfl rfl rfl ?_; intro r n hr0; have hr := hr0 _ _ (by first | with_reducible assumption | exact rfl) (by first | with_reducible assumption | exact rfl); clear hr0) | (with_reducible refine at_list ?_; refine wpList_wide_g rfl rfl Try.underlying22 Try.underlying26 rfl ?_; intro r n hr0; have hr := hr0 _ (by first | with_reducible assumption | exact rfl); clear hr0) | (with_reducible refine at_list ?_; refine wpList_wide rfl rfl rfl Try.underlying22 Try.underlying26 ?_; intro r n hr0; have hr := hr0 _ (by first | with_reducible assumption | exact rfl); clear hr0) | (go_at_call 18; refine (toStuff_any _ _).mono ?_; rintro e w' ⟨rfl, hb⟩; obtain ⟨hT, hk⟩ := bv_next hb (by (repeat (with_reducible first | assumption | apply Trk.alloc | apply Trk.setCell | apply Trk.drewN | apply Trk.drew | exact Trk.nil _))); simp only [SameOn, World.size_alloc, World.size_setCell, World.size_drew, size_drewN', and_true] at hk; have hsz := Below.size hb; (try simp only [World.size_alloc, World.size_setCell, World.size_drew, size_drewN'] at hsz)) | (go_at_call 31; refine ((toF_any xs _ _ (HS.out.later (by (repeat (first | (with_reducible exact Below.refl _ _) | (with_reducible refine below_then ?_ (by assumption)) | (with_reducible refine Below.trans ?_ (by assumption)) | (with_reducible refine below_drewN ?_ _) | (with_reducible apply Below.drew) | (with_reducible refine below_alloc ?_ _) | refine Below.setCell ?_ (by first | (simp; done) | (simp; omega)) _)))) HN.out) ).mono ?_; rintro e w' ⟨u, rfl, hb, hO⟩; obtain ⟨pu, cu, rfl⟩ := OF.shape hO; (try simp only [World.size_alloc, World.size_setCell, World.size_drew, World.drewN] at hO); obtain ⟨hT, hk⟩ := bv_next hb (by (repeat (with_reducible first | assumption | apply Trk.alloc | apply Trk.setCell | apply Trk.drewN | apply Trk.drew | exact Trk.nil _))); simp only [SameOn, World.size_alloc, World.size_setCell, World.size_drew, size_drewN', and_true] at hk; have hsz := Below.size hb; (try simp only [World.size_alloc, World.size_setCell, World.size_drew, size_drewN'] at hsz)) | (go_at_call 30; refine ((H1.out _ _ (OF.fs (by (repeat' (first | (with_reducible assumption) | (with_reducible apply OF.setCell) | (with_reducible apply OF.alloc) | (with_reducible apply OF.later; rotate_left; with_reducible assumption) | (with_reducible apply OF.kept; rotate_left; with_reducible assumption; first | (exact OF.sep (by with_reducible assumption) (by with_reducible assumption) (by omega)) | (exact OF.sep' (by with_reducible assumption) (by with_reducible assumption) (by omega))) | (with_reducible apply OF.drewN))) <;> (first | omega | (simp; omega))))) ).mono ?_; rintro e w' ⟨u, ys, rfl, hb, hO, hL⟩; obtain ⟨pu, cu, rfl⟩ := OF.shape hO; (try simp only [World.size_alloc, World.size_setCell, World.size_drew, World.drewN] at hO); obtain ⟨hT, hk⟩ := bv_next hb (by (repeat (with_reducible first | assumption | apply Trk.alloc | apply Trk.setCell | apply Trk.drewN | apply Trk.drew | exact Trk.nil _))); simp only [SameOn, World.size_alloc, World.size_setCell, World.size_drew, size_drewN', and_true] at hk; have hsz := Below.size hb; (try simp only [World.size_alloc, World.size_setCell, World.size_drew, size_drewN'] at hsz)) | (go_at_call 32; refine ((H2.out _ _ (OF.fs (by (repeat' (first | (with_reducible assumption) | (with_reducible apply OF.setCell) | (with_reducible apply OF.alloc) | (with_reducible apply OF.later; rotate_left; with_reducible assumption) | (with_reducible apply OF.kept; rotate_left; with_reducible assumption; first | (exact OF.sep (by with_reducible assumption) (by with_reducible assumption) (by omega)) | (exact OF.sep' (by with_reducible assumption) (by with_reducible assumption) (by omega))) | (with_reducible apply OF.drewN))) <;> (first | omega | (simp; omega))))) ).mono ?_; rintro e w' ⟨u, ys, rfl, hb, hO, hL⟩; obtain ⟨pu, cu, rfl⟩ := OF.shape hO; (try simp only [World.size_alloc, World.size_setCell, World.size_drew, World.drewN] at hO); obtain ⟨hT, hk⟩ := bv_next hb (by (repeat (with_reducible first | assumption | apply Trk.alloc | apply Trk.setCell | apply Trk.drewN | apply Trk.drew | exact Trk.nil _))); simp only [SameOn, World.size_alloc, World.size_setCell, World.size_drew, size_drewN', and_true] at hk; have hsz := Below.size hb; (try simp only [World.size_alloc, World.size_setCell, World.size_drew, size_drewN'] at hsz)) | (go_at_call 33; refine ((eqF_any _ _ _ _ _ (OF.fs (by (repeat' (first | (with_reducible assumption) | (with_reducible apply OF.setCell) | (with_reducible apply OF.alloc) | (with_reducible apply OF.later; rotate_left; with_reducible assumption) | (with_reducible apply OF.kept; rotate_left; with_reducible assumption; first | (exact OF.sep (by with_reducible assumption) (by with_reducible assumption) (by omega)) | (exact OF.sep' (by with_reducible assumption) (by with_reducible assumption) (by omega))) | (with_reducible apply OF.drewN))) <;> (first | omega | (simp; omega)))) (OF.fs (by (repeat' (first | (with_reducible assumption) | (with_reducible apply OF.setCell) | (with_reducible apply OF.alloc) | (with_reducible apply OF.later; rotate_left; with_reducible assumption) | (with_reducible apply OF.kept; rotate_left; with_reducible assumption; first | (exact OF.sep (by with_reducible assumption) (by with_reducible assumption) (by omega)) | (exact OF.sep' (by with_reducible assumption) (by with_reducible assumption) (by omega))) | (with_reducible apply OF.drewN))) <;> (first | omega | (simp; omega)))) (by first | rfl | simp only [*])) ).mono ?_; rintro e w' ⟨rfl, hb⟩; obtain ⟨hT, hk⟩ := bv_next hb (by (repeat (with_reducible first | assumption | apply Trk.alloc | apply Trk.setCell | apply Trk.drewN | apply Trk.drew | exact Trk.nil _))); simp only [SameOn, World.size_alloc, World.size_setCell, World.size_drew, size_drewN', and_true] at hk; have hsz := Below.size hb; (try simp only [World.size_alloc, World.size_setCell, World.size_drew, size_drewN'] at hsz)) | (go_at_call 34; refine ((markF_any _ _ _ 1 _ (by (repeat' (first | (with_reducible assumption) | (with_reducible apply OF.setCell) | (with_reducible apply OF.alloc) | (with_reducible apply OF.later; rotate_left; with_reducible assumption) | (with_reducible apply OF.kept; rotate_left; with_reducible assumption; first | (exact OF.sep (by with_reducible assumption) (by with_reducible assumption) (by omega)) | (exact OF.sep' (by with_reducible assumption) (by with_reducible assumption) (by omega))) | (with_reducible apply OF.drewN))) <;> (first | omega | (simp; omega))) (by omega) (by first | exact HN.out | exact map_len (by assumption) H3.out)) ).mono ?_; rintro e w' ⟨rfl, hg, hgs, hO⟩; have hO' := Lib.hid hO; clear hO; obtain ⟨hT, hk⟩ := turn_next (by with_reducible assumption) hg (by (repeat (with_reducible first | assumption | apply Trk.alloc | apply Trk.setCell | apply Trk.drewN | apply Trk.drew | exact Trk.nil _))) (by simp only [List.forall_mem_cons, List.not_mem_nil, false_implies, implies_true, and_true, World.size_alloc, World.size_setCell, World.size_drew, size_drewN']; omega); have hbm := mark_below (n := w.heap.size) (by with_reducible assumption) hg (by omega) (by first | omega | (simp only [World.size_alloc, World.size_setCell, World.size_drew, size_drewN']; omega)); simp only [SameOn, World.size_alloc, World.size_setCell, World.size_drew, size_drewN', and_true] at hk; have hF := OF.fs hO'.out; clear hO'; (try simp only [World.size_alloc, World.size_setCell, World.size_drew, size_drewN'] at hgs)) | (go_at_call 35; refine ((heldF_any _ _ 1 _ (by (repeat' (first | (with_reducible assumption) | (with_reducible apply FS.alloc) | (with_reducible apply FS.later; rotate_left; with_reducible assumption) | (with_reducible apply FS.drewN)))) (by omega) (by first | exact HN.out | exact map_len (by assumption) H3.out)) ).mono ?_; rintro e w' ⟨rfl, n, rfl⟩))
  all_goals
    go_ret
    exact ⟨rfl, by (repeat (first | (with_reducible exact Below.refl _ _) | (with_reducible refine below_then ?_ (by assumption)) | (with_reducible refine Below.trans ?_ (by assumption)) | (with_reducible refine below_drewN ?_ _) | (with_reducible apply Below.drew) | (with_reducible refine below_alloc ?_ _) | refine Below.setCell ?_ (by first | (simp; done) | (simp; omega)) _))⟩
set_option maxRecDepth 100000 in
set_option maxHeartbeats 2000000 in
theorem lifted_FnExactRunIce (os : Os) (started : os.Started) (H : Type) (enc : TypeId × Value → H) :
    ReturnsInHanded {} Try.checked os 10 .any (Rows.fnExactRunIceSpec.pre6 enc Try.prog Try.f10 Rows.fnExactRunIceRow.domain false) (Rows.fnExactRunIceSpec.post enc Try.prog Try.f10 false true false false) := by
  refine returnsInHanded_of_change (C := Try.checked) own started (by kernel_rfl) Try.func10
    (ChangeSpec.witness6 (enc := enc) (C := Try.checked) false ⟨#[], #[.agg #[.float .f32 0, .float .f32 0, .float .f32 0, .float .f32 0, .float .f32 0, .float .f32 0], .float .f32 0, .float .f32 0, .slice none 0 0, .float .f32 0], []⟩ 8 (by kernel_rfl) (by kernel_rfl) (by kernel_rfl) (by kernel_rfl)) ?_
  intro W base args ds gs before hval0 hW hcnd _
  have hval : ∀ (j : Nat) t v, Try.f10.params[j]? = some t → args[j]? = some v → Value.okWide Try.prog W .any base t v := hval0
  have hW' := hW
  obtain ⟨p, q, hA0, hV, rfl, hfz, hnd⟩ := hW
  have hA : DataW.TrodAll enc Try.prog W 0 (fun _ => true) true Try.f10.params.toList args.toList ds p := hA0
  rw [Try.params10] at hA hval
  obtain ⟨v0, vs0, d0, ds0, p0, q0, hargs, rfl, rfl, h0, r0⟩ := trodAll_cons hA
  obtain ⟨v1, vs1, d1, ds1, p1, q1, rfl, rfl, rfl, h1, r1⟩ := trodAll_cons r0
  obtain ⟨v2, vs2, d2, ds2, p2, q2, rfl, rfl, rfl, h2, r2⟩ := trodAll_cons r1
  obtain ⟨v3, vs3, d3, ds3, p3, q3, rfl, rfl, rfl, h3, r3⟩ := trodAll_cons r2
  obtain ⟨v4, vs4, d4, ds4, p4, q4, rfl, rfl, rfl, h4, r4⟩ := trodAll_cons r3
  obtain ⟨rfl, rfl, rfl⟩ := trodAll_nil r4
  obtain rfl : args = #[v0, v1, v2, v3, v4] := by cases args; simp_all
  obtain ⟨rfl, rfl⟩ := trodVars_none hV
  have k0 := h0
  have lt0 : ∀ x ∈ p0, x.block < W.heap.size := by obtain ⟨m, hm⟩ := k0; exact DataW.trod_lt m _ _ _ hm
  obtain ⟨s, rfl, w0⟩ := open_Stuff (hval 0 29 v0 rfl rfl) h0
  have k1 := h1
  have lt1 : ∀ x ∈ p1, x.block < W.heap.size := by obtain ⟨m, hm⟩ := k1; exact DataW.trod_lt m _ _ _ hm
  obtain ⟨i, rfl, rfl, rfl, w1⟩ := open_float Try.underlying22 (hval 1 22 v1 rfl rfl) h1
  have k2 := h2
  have lt2 : ∀ x ∈ p2, x.block < W.heap.size := by obtain ⟨m, hm⟩ := k2; exact DataW.trod_lt m _ _ _ hm
  obtain ⟨k, rfl, rfl, rfl, w2⟩ := open_float Try.underlying22 (hval 2 22 v2 rfl rfl) h2
  have k3 := h3
  have lt3 : ∀ x ∈ p3, x.block < W.heap.size := by obtain ⟨m, hm⟩ := k3; exact DataW.trod_lt m _ _ _ hm
  obtain ⟨xs, w3⟩ := open_F (hval 3 38 v3 rfl rfl) h3
  have k4 := h4
  have lt4 : ∀ x ∈ p4, x.block < W.heap.size := by obtain ⟨m, hm⟩ := k4; exact DataW.trod_lt m _ _ _ hm
  obtain ⟨t, rfl, rfl, rfl, w4⟩ := open_float Try.underlying22 (hval 4 22 v4 rfl rfl) h4
  clear hA0 hval0
  refine (walk_FnExactRunIce s i k v3 xs t W w0 w1 w2 w3 w4).mono fun e W' ⟨he, hg⟩ => ?_
  subst he
  exact ⟨_, rfl, _, _, _, [], _, [], hW', trodAll_mk1 (shut_bool Try.underlying4 _), (trodAll_cons_mk (Below.trod laidOut (by kernel_rfl) (of_decide_eq_true (by kernel_rfl)) k0 hg lt0) (trodAll_cons_mk (Below.trod laidOut (by kernel_rfl) (of_decide_eq_true (by kernel_rfl)) k1 hg lt1) (trodAll_cons_mk (Below.trod laidOut (by kernel_rfl) (of_decide_eq_true (by kernel_rfl)) k2 hg lt2) (trodAll_cons_mk (Below.trod laidOut (by kernel_rfl) (of_decide_eq_true (by kernel_rfl)) k3 hg lt3) (trodAll_cons_mk (Below.trod laidOut (by kernel_rfl) (of_decide_eq_true (by kernel_rfl)) k4 hg lt4) trodAll_mk0))))), rfl, hg.frame _, fun h => by cases h⟩
theorem fnExactRunIce_holds : Rows.FnExactRunIceSaid :=
  OpenClaim.holds_of_wide 10 Try.f10 rfl rfl rfl rfl rfl rfl rfl ⟨rfl, rfl, rfl, rfl, rfl⟩ rfl rfl rfl rfl rfl (by kernel_rfl) Try.func10 (by kernel_rfl)
    (of_decide_eq_true (by kernel_rfl)) (by unfold Func.isWrapper; rw [if_neg (of_decide_eq_false (by kernel_rfl))]; exact ⟨rfl, rfl⟩)
    (fun os started H enc _ => lifted_FnExactRunIce os started H enc)
end Go.Proofs.Ytiodpahbmoeiaaa

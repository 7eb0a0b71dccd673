/-
  The laws on salty water: true for every input. No condition.
-/
import Derived.Test.YtpdpokbjfnnomaaSalt
set_option linter.unusedSimpArgs false
set_option linter.unusedVariables false
set_option linter.unusedSectionVars false
namespace Go.Proofs.Ytpdpokbjfnnomaa
open Go Go.RowKit
open Go.ChangeShapes Go.WideShapes Go.ChangeAt Go.RowKit Go.Joins
theorem below_of_drewN {w : World} (n : Nat) : Below w.heap.size w (w.drewN n) := below_drewN (Below.refl _ _) n
set_option maxHeartbeats 400000 in
theorem walk_FnExactFreezePoint (x : Nat) (_ : (Lit.float .f32 x).wf = true) (w : World) : Calls Try.prog 4 #[.float .f32 x] w (BV w (.bool true)) := by
  go_enter Try.func4, Try.ntmps4
  go_wp2_with (first | (with_reducible refine at_list ?_; refine wpList_fop rfl rfl rfl rfl rfl ?_; intro r n hr0; have hr := hr0 _ _ (by first | with_reducible assumption | exact rfl) (by first | with_reducible assumption | exact rfl); clear hr0) | (with_reducible refine at_list ?_; refine wpList_neg rfl rfl rfl ?_; intro r hr0; have hr := hr0 _ (by first | with_reducible assumption | exact rfl); clear hr0) | (with_reducible refine at_list ?_; refine wpList_wide rfl rfl rfl Try.underlying28 Try.underlying32 ?_; intro r n hr0; have hr := hr0 _ (by first | with_reducible assumption | exact rfl); clear hr0))
  refine (specFreezePoint_any _ _).mono ?_
  rintro e w1 ⟨r1, rfl, hr1, n1, rfl⟩
  go_wp2_with (first | (with_reducible refine at_list ?_; refine wpList_fop rfl rfl rfl rfl rfl ?_; intro r n hr0; have hr := hr0 _ _ (by first | with_reducible assumption | exact rfl) (by first | with_reducible assumption | exact rfl); clear hr0) | (with_reducible refine at_list ?_; refine wpList_neg rfl rfl rfl ?_; intro r hr0; have hr := hr0 _ (by first | with_reducible assumption | exact rfl); clear hr0) | (with_reducible refine at_list ?_; refine wpList_wide rfl rfl rfl Try.underlying28 Try.underlying32 ?_; intro r n hr0; have hr := hr0 _ (by first | with_reducible assumption | exact rfl); clear hr0))
  refine (FreezePoint_any _ _).mono ?_
  rintro e w2 ⟨r2, rfl, hr2, n2, rfl⟩
  go_wp2_with (first | (with_reducible refine at_list ?_; refine wpList_fop rfl rfl rfl rfl rfl ?_; intro r n hr0; have hr := hr0 _ _ (by first | with_reducible assumption | exact rfl) (by first | with_reducible assumption | exact rfl); clear hr0) | (with_reducible refine at_list ?_; refine wpList_neg rfl rfl rfl ?_; intro r hr0; have hr := hr0 _ (by first | with_reducible assumption | exact rfl); clear hr0) | (with_reducible refine at_list ?_; refine wpList_wide rfl rfl rfl Try.underlying28 Try.underlying32 ?_; intro r n hr0; have hr := hr0 _ (by first | with_reducible assumption | exact rfl); clear hr0))
  refine (sameFloat_cn _ _ (by simp only [*]) _).mono ?_
  rintro e w3 ⟨rfl, n3, rfl⟩
  go_wp2_with (first | (with_reducible refine at_list ?_; refine wpList_fop rfl rfl rfl rfl rfl ?_; intro r n hr0; have hr := hr0 _ _ (by first | with_reducible assumption | exact rfl) (by first | with_reducible assumption | exact rfl); clear hr0) | (with_reducible refine at_list ?_; refine wpList_neg rfl rfl rfl ?_; intro r hr0; have hr := hr0 _ (by first | with_reducible assumption | exact rfl); clear hr0) | (with_reducible refine at_list ?_; refine wpList_wide rfl rfl rfl Try.underlying28 Try.underlying32 ?_; intro r n hr0; have hr := hr0 _ (by first | with_reducible assumption | exact rfl); clear hr0))
  go_ret
  exact ⟨rfl, by (repeat (first | exact Below.refl _ _ | refine below_then ?_ (by assumption) | refine below_drewN ?_ _ | apply Below.drew | refine below_alloc ?_ _ | refine Below.setCell ?_ (by first | (simp; done) | (simp; omega)) _))⟩
set_option maxRecDepth 100000 in
theorem lifted_FnExactFreezePoint (os : Os) (started : os.Started) (H : Type) (enc : TypeId × Value → H) :
    ReturnsInHanded {} Try.checked os 4 .any (Rows.fnExactFreezePointSpec.pre6 enc Try.prog Try.f4 Rows.fnExactFreezePointRow.domain false) (Rows.fnExactFreezePointSpec.post enc Try.prog Try.f4 false true false false) := by
  refine returnsInHanded_of_change (C := Try.checked) own started (by kernel_rfl) Try.func4
    (ChangeSpec.witness6 (enc := enc) (C := Try.checked) false ⟨#[], #[.float .f32 0], []⟩ 8 (by kernel_rfl) (by kernel_rfl) (by kernel_rfl) (by kernel_rfl)) ?_
  intro W base args ds gs before hval0 hW hcnd _
  have hval : ∀ (j : Nat) t v, Try.f4.params[j]? = some t → args[j]? = some v → Value.okWide Try.prog W .any base t v := hval0
  have hW' := hW
  obtain ⟨p, q, hA0, hV, rfl, hfz, hnd⟩ := hW
  have hA : DataW.TrodAll enc Try.prog W 0 (fun _ => true) true Try.f4.params.toList args.toList ds p := hA0
  rw [Try.params4] at hA hval
  obtain ⟨v0, vs0, d0, ds0, p0, q0, hargs, rfl, rfl, h0, r0⟩ := trodAll_cons hA
  obtain ⟨rfl, rfl, rfl⟩ := trodAll_nil r0
  obtain rfl : args = #[v0] := by cases args; simp_all
  obtain ⟨rfl, rfl⟩ := trodVars_none hV
  have k0 := h0
  have lt0 : ∀ x ∈ p0, x.block < W.heap.size := by obtain ⟨m, hm⟩ := k0; exact DataW.trod_lt m _ _ _ hm
  obtain ⟨x, rfl, rfl, rfl, w0⟩ := open_float Try.underlying28 (hval 0 28 v0 rfl rfl) h0
  clear hA0 hval0
  refine (walk_FnExactFreezePoint x w0 W).mono fun e W' ⟨he, hg⟩ => ?_
  subst he
  exact ⟨_, rfl, _, _, _, [], _, [], hW', trodAll_mk1 (shut_bool Try.underlying4 _), (trodAll_cons_mk (Below.trod laidOut (by kernel_rfl) (of_decide_eq_true (by kernel_rfl)) k0 hg lt0) trodAll_mk0), rfl, hg.frame _, fun h => by cases h⟩
theorem fnExactFreezePoint_holds : Rows.FnExactFreezePointSaid :=
  OpenClaim.holds_of_wide 4 Try.f4 rfl rfl rfl rfl rfl rfl rfl ⟨rfl, rfl, rfl, rfl, rfl⟩ rfl rfl rfl rfl rfl (by kernel_rfl) Try.func4 (by kernel_rfl)
    (of_decide_eq_true (by kernel_rfl)) (by unfold Func.isWrapper; rw [if_neg (of_decide_eq_false (by kernel_rfl))]; exact ⟨rfl, rfl⟩)
    (fun os started H enc _ => lifted_FnExactFreezePoint os started H enc)
set_option maxHeartbeats 400000 in
theorem walk_FnExactBrineShare (x y : Nat) (_ : (Lit.float .f32 x).wf = true) (_ : (Lit.float .f32 y).wf = true) (w : World) : Calls Try.prog 7 #[.float .f32 x, .float .f32 y] w (BV w (.bool true)) := by
  go_enter Try.func7, Try.ntmps7
  go_wp2_with (first | (with_reducible refine at_list ?_; refine wpList_fop rfl rfl rfl rfl rfl ?_; intro r n hr0; have hr := hr0 _ _ (by first | with_reducible assumption | exact rfl) (by first | with_reducible assumption | exact rfl); clear hr0) | (with_reducible refine at_list ?_; refine wpList_neg rfl rfl rfl ?_; intro r hr0; have hr := hr0 _ (by first | with_reducible assumption | exact rfl); clear hr0) | (with_reducible refine at_list ?_; refine wpList_wide rfl rfl rfl Try.underlying28 Try.underlying32 ?_; intro r n hr0; have hr := hr0 _ (by first | with_reducible assumption | exact rfl); clear hr0))
  refine (specBrineShare_any _ _ _).mono ?_
  rintro e w1 ⟨r1, rfl, hr1, n1, rfl⟩
  go_wp2_with (first | (with_reducible refine at_list ?_; refine wpList_fop rfl rfl rfl rfl rfl ?_; intro r n hr0; have hr := hr0 _ _ (by first | with_reducible assumption | exact rfl) (by first | with_reducible assumption | exact rfl); clear hr0) | (with_reducible refine at_list ?_; refine wpList_neg rfl rfl rfl ?_; intro r hr0; have hr := hr0 _ (by first | with_reducible assumption | exact rfl); clear hr0) | (with_reducible refine at_list ?_; refine wpList_wide rfl rfl rfl Try.underlying28 Try.underlying32 ?_; intro r n hr0; have hr := hr0 _ (by first | with_reducible assumption | exact rfl); clear hr0))
  refine (BrineShare_any _ _ _).mono ?_
  rintro e w2 ⟨r2, rfl, hr2, n2, rfl⟩
  go_wp2_with (first | (with_reducible refine at_list ?_; refine wpList_fop rfl rfl rfl rfl rfl ?_; intro r n hr0; have hr := hr0 _ _ (by first | with_reducible assumption | exact rfl) (by first | with_reducible assumption | exact rfl); clear hr0) | (with_reducible refine at_list ?_; refine wpList_neg rfl rfl rfl ?_; intro r hr0; have hr := hr0 _ (by first | with_reducible assumption | exact rfl); clear hr0) | (with_reducible refine at_list ?_; refine wpList_wide rfl rfl rfl Try.underlying28 Try.underlying32 ?_; intro r n hr0; have hr := hr0 _ (by first | with_reducible assumption | exact rfl); clear hr0))
  refine (sameFloat_cn _ _ (by simp only [*]) _).mono ?_
  rintro e w3 ⟨rfl, n3, rfl⟩
  go_wp2_with (first | (with_reducible refine at_list ?_; refine wpList_fop rfl rfl rfl rfl rfl ?_; intro r n hr0; have hr := hr0 _ _ (by first | with_reducible assumption | exact rfl) (by first | with_reducible assumption | exact rfl); clear hr0) | (with_reducible refine at_list ?_; refine wpList_neg rfl rfl rfl ?_; intro r hr0; have hr := hr0 _ (by first | with_reducible assumption | exact rfl); clear hr0) | (with_reducible refine at_list ?_; refine wpList_wide rfl rfl rfl Try.underlying28 Try.underlying32 ?_; intro r n hr0; have hr := hr0 _ (by first | with_reducible assumption | exact rfl); clear hr0))
  go_ret
  exact ⟨rfl, by (repeat (first | exact Below.refl _ _ | refine below_then ?_ (by assumption) | refine below_drewN ?_ _ | apply Below.drew | refine below_alloc ?_ _ | refine Below.setCell ?_ (by first | (simp; done) | (simp; omega)) _))⟩
set_option maxRecDepth 100000 in
theorem lifted_FnExactBrineShare (os : Os) (started : os.Started) (H : Type) (enc : TypeId × Value → H) :
    ReturnsInHanded {} Try.checked os 7 .any (Rows.fnExactBrineShareSpec.pre6 enc Try.prog Try.f7 Rows.fnExactBrineShareRow.domain false) (Rows.fnExactBrineShareSpec.post enc Try.prog Try.f7 false true false false) := by
  refine returnsInHanded_of_change (C := Try.checked) own started (by kernel_rfl) Try.func7
    (ChangeSpec.witness6 (enc := enc) (C := Try.checked) false ⟨#[], #[.float .f32 0, .float .f32 0], []⟩ 8 (by kernel_rfl) (by kernel_rfl) (by kernel_rfl) (by kernel_rfl)) ?_
  intro W base args ds gs before hval0 hW hcnd _
  have hval : ∀ (j : Nat) t v, Try.f7.params[j]? = some t → args[j]? = some v → Value.okWide Try.prog W .any base t v := hval0
  have hW' := hW
  obtain ⟨p, q, hA0, hV, rfl, hfz, hnd⟩ := hW
  have hA : DataW.TrodAll enc Try.prog W 0 (fun _ => true) true Try.f7.params.toList args.toList ds p := hA0
  rw [Try.params7] at hA hval
  obtain ⟨v0, vs0, d0, ds0, p0, q0, hargs, rfl, rfl, h0, r0⟩ := trodAll_cons hA
  obtain ⟨v1, vs1, d1, ds1, p1, q1, rfl, rfl, rfl, h1, r1⟩ := trodAll_cons r0
  obtain ⟨rfl, rfl, rfl⟩ := trodAll_nil r1
  obtain rfl : args = #[v0, v1] := by cases args; simp_all
  obtain ⟨rfl, rfl⟩ := trodVars_none hV
  have k0 := h0
  have lt0 : ∀ x ∈ p0, x.block < W.heap.size := by obtain ⟨m, hm⟩ := k0; exact DataW.trod_lt m _ _ _ hm
  obtain ⟨x, rfl, rfl, rfl, w0⟩ := open_float Try.underlying28 (hval 0 28 v0 rfl rfl) h0
  have k1 := h1
  have lt1 : ∀ x ∈ p1, x.block < W.heap.size := by obtain ⟨m, hm⟩ := k1; exact DataW.trod_lt m _ _ _ hm
  obtain ⟨y, rfl, rfl, rfl, w1⟩ := open_float Try.underlying28 (hval 1 28 v1 rfl rfl) h1
  clear hA0 hval0
  refine (walk_FnExactBrineShare x y w0 w1 W).mono fun e W' ⟨he, hg⟩ => ?_
  subst he
  exact ⟨_, rfl, _, _, _, [], _, [], hW', trodAll_mk1 (shut_bool Try.underlying4 _), (trodAll_cons_mk (Below.trod laidOut (by kernel_rfl) (of_decide_eq_true (by kernel_rfl)) k0 hg lt0) (trodAll_cons_mk (Below.trod laidOut (by kernel_rfl) (of_decide_eq_true (by kernel_rfl)) k1 hg lt1) trodAll_mk0)), rfl, hg.frame _, fun h => by cases h⟩
theorem fnExactBrineShare_holds : Rows.FnExactBrineShareSaid :=
  OpenClaim.holds_of_wide 7 Try.f7 rfl rfl rfl rfl rfl rfl rfl ⟨rfl, rfl, rfl, rfl, rfl⟩ rfl rfl rfl rfl rfl (by kernel_rfl) Try.func7 (by kernel_rfl)
    (of_decide_eq_true (by kernel_rfl)) (by unfold Func.isWrapper; rw [if_neg (of_decide_eq_false (by kernel_rfl))]; exact ⟨rfl, rfl⟩)
    (fun os started H enc _ => lifted_FnExactBrineShare os started H enc)
end Go.Proofs.Ytpdpokbjfnnomaa

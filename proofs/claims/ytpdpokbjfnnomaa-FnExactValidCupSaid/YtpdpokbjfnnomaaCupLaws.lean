/-
  The laws over cups: each returns true for every input. No condition.
-/
import Derived.Test.YtpdpokbjfnnomaaCup
namespace Go.Proofs.Ytpdpokbjfnnomaa
open Go Go.RowKit
open Go.ChangeShapes Go.WideShapes Go.ChangeAt Go.RowKit Go.Joins
set_option maxHeartbeats 400000 in
theorem walk_FnExactValidCup (m h : Int) (_ : (Lit.int .i64 m).wf = true ∧ (Lit.int .i64 h).wf = true) (w : World) : Calls Try.prog 3 #[.agg #[.int .i64 m, .int .i64 h]] w (BV w (.bool true)) := by
  go_enter Try.func3, Try.ntmps3
  go_wp2_with (first | (with_reducible refine wpList_fop ?_ ?_ ?_ ?_ ?_ ?_; iterate 5 exact rfl; intro r n hr) | (go_at_call 14; refine (toCup_any _ _ _).mono ?_; rintro e w' ⟨rfl, hb⟩; have hk0 : w'.cell? ⟨w.heap.size, 0, none⟩ = some (.int .i64 m) := cell_later hb (by go_simp); have hk1 : w'.cell? ⟨w.heap.size, 1, none⟩ = some (.int .i64 h) := cell_later hb (by go_simp)) | (go_at_call 13; refine (specValidCup_any _ _ _).mono ?_; rintro e w' ⟨rfl, hb⟩; have hk0 : w'.cell? ⟨w.heap.size, 0, none⟩ = some (.int .i64 m) := cell_later hb (by go_simp); have hk1 : w'.cell? ⟨w.heap.size, 1, none⟩ = some (.int .i64 h) := cell_later hb (by go_simp)) | (go_at_call 15; refine (implValidCup_any _ _ _).mono ?_; rintro e w' ⟨rfl, hb⟩; have hk0 : w'.cell? ⟨w.heap.size, 0, none⟩ = some (.int .i64 m) := cell_later hb (by go_simp); have hk1 : w'.cell? ⟨w.heap.size, 1, none⟩ = some (.int .i64 h) := cell_later hb (by go_simp)))
  go_ret
  exact ⟨rfl, by (repeat (first | exact Below.refl _ _ | refine below_then ?_ (by assumption) | refine below_drewN ?_ _ | apply Below.drew | refine below_alloc ?_ _ | refine Below.setCell ?_ (by first | (simp; done) | (simp; omega)) _))⟩
set_option maxRecDepth 100000 in
theorem lifted_FnExactValidCup (os : Os) (started : os.Started) (H : Type) (enc : TypeId × Value → H) :
    ReturnsInHanded {} Try.checked os 3 .any (Rows.fnExactValidCupSpec.pre6 enc Try.prog Try.f3 Rows.fnExactValidCupRow.domain false) (Rows.fnExactValidCupSpec.post enc Try.prog Try.f3 false true false false) := by
  refine returnsInHanded_of_change (C := Try.checked) own started (by kernel_rfl) Try.func3
    (ChangeSpec.witness6 (enc := enc) (C := Try.checked) false ⟨#[], #[.agg #[.int .i64 0, .int .i64 0]], []⟩ 8 (by kernel_rfl) (by kernel_rfl) (by kernel_rfl) (by kernel_rfl)) ?_
  intro W base args ds gs before hval0 hW hcnd _
  have hval : ∀ (j : Nat) t v, Try.f3.params[j]? = some t → args[j]? = some v → Value.okWide Try.prog W .any base t v := hval0
  have hW' := hW
  obtain ⟨p, q, hA0, hV, rfl, hfz, hnd⟩ := hW
  have hA : DataW.TrodAll enc Try.prog W 0 (fun _ => true) true Try.f3.params.toList args.toList ds p := hA0
  rw [Try.params3] at hA hval
  obtain ⟨v0, vs0, d0, ds0, p0, q0, hargs, rfl, rfl, h0, r0⟩ := trodAll_cons hA
  obtain ⟨rfl, rfl, rfl⟩ := trodAll_nil r0
  obtain rfl : args = #[v0] := by cases args; simp_all
  obtain ⟨rfl, rfl⟩ := trodVars_none hV
  have k0 := h0
  have lt0 : ∀ x ∈ p0, x.block < W.heap.size := by obtain ⟨m, hm⟩ := k0; exact DataW.trod_lt m _ _ _ hm
  obtain ⟨m, h, rfl, rfl, rfl, w0⟩ := open_Cup (hval 0 23 v0 rfl rfl) h0
  clear hA0 hval0
  refine (walk_FnExactValidCup m h w0 W).mono fun e W' ⟨he, hg⟩ => ?_
  subst he
  exact ⟨_, rfl, _, _, _, [], _, [], hW', trodAll_mk1 (shut_bool Try.underlying4 _), (trodAll_cons_mk (Below.trod laidOut (by kernel_rfl) (of_decide_eq_true (by kernel_rfl)) k0 hg lt0) trodAll_mk0), rfl, hg.frame _, fun h => by cases h⟩
theorem fnExactValidCup_holds : Rows.FnExactValidCupSaid :=
  OpenClaim.holds_of_wide 3 Try.f3 rfl rfl rfl rfl rfl rfl rfl ⟨rfl, rfl, rfl, rfl, rfl⟩ rfl rfl rfl rfl rfl (by kernel_rfl) Try.func3 (by kernel_rfl)
    (of_decide_eq_true (by kernel_rfl)) (by unfold Func.isWrapper; rw [if_neg (of_decide_eq_false (by kernel_rfl))]; exact ⟨rfl, rfl⟩)
    (fun os started H enc _ => lifted_FnExactValidCup os started H enc)
end Go.Proofs.Ytpdpokbjfnnomaa

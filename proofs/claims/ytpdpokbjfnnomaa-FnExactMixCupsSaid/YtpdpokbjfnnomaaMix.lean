/-
  The law on cups that are mixed. No condition.
-/
import Derived.Test.YtpdpokbjfnnomaaCup
import Derived.Test.YtpdpokbjfnnomaaPlan
set_option linter.unusedSimpArgs false
set_option linter.unusedVariables false
set_option linter.unusedSectionVars false
namespace Go.Proofs.Ytpdpokbjfnnomaa
open Go Go.RowKit
open Go.ChangeShapes Go.WideShapes Go.ChangeAt Go.RowKit Go.Joins
set_option maxHeartbeats 1000000 in
theorem walk_FnExactMixCups (m h m2 h2 : Int) (_ : (Lit.int .i64 m).wf = true ∧ (Lit.int .i64 h).wf = true) (_ : (Lit.int .i64 m2).wf = true ∧ (Lit.int .i64 h2).wf = true) (w : World) : Calls Try.prog 9 #[.agg #[.int .i64 m, .int .i64 h], .agg #[.int .i64 m2, .int .i64 h2]] w (BV w (.bool true)) := by
  obtain ⟨x, y, o, Hv⟩ : ∃ x y o, Hid (mixV m h m2 h2 = .tuple #[.agg #[.int .i64 x, .int .i64 y], .bool o]) := by
    show ∃ x y o, _ = _
    unfold mixV noCup cupV
    split <;> (try split) <;> exact ⟨_, _, _, rfl⟩
  have H1 := Lib.hid (fun w => (Hv.out ▸ specMix_any m h m2 h2 w : Calls Try.prog 29 _ w (BV w _)))
  have H2 := Lib.hid (fun w => (Hv.out ▸ implMix_any m h m2 h2 w : Calls Try.prog 30 _ w (BV w _)))
  go_enter Try.func9, Try.ntmps9
  go_wp2_with (first | (with_reducible refine at_list ?_; refine wpList_fop rfl rfl rfl rfl rfl ?_; intro r n hr0; have hr := hr0 _ _ (by first | with_reducible assumption | exact rfl) (by first | with_reducible assumption | exact rfl); clear hr0) | (with_reducible refine at_list ?_; refine wpList_neg rfl rfl rfl ?_; intro r hr0; have hr := hr0 _ (by first | with_reducible assumption | exact rfl); clear hr0) | (with_reducible refine at_list ?_; refine wpList_fop_g rfl rfl rfl rfl rfl ?_; intro r n hr0; have hr := hr0 _ _ (by first | with_reducible assumption | exact rfl) (by first | with_reducible assumption | exact rfl); clear hr0) | (with_reducible refine at_list ?_; refine wpList_wide_g rfl rfl Try.underlying28 Try.underlying32 rfl ?_; intro r n hr0; have hr := hr0 _ (by first | with_reducible assumption | exact rfl); clear hr0) | (with_reducible refine at_list ?_; refine wpList_wide rfl rfl rfl Try.underlying28 Try.underlying32 ?_; intro r n hr0; have hr := hr0 _ (by first | with_reducible assumption | exact rfl); clear hr0))
  apply wp_region_plan
  apply wpC_val (.agg #[.int .i64 m, .int .i64 h])
  case hw => exact rfl
  case h1 =>
    intro w' hb hk
    have hk_0 : w'.cell? ⟨w.heap.size, 0, none⟩ = some (.int .i64 m) := cell_later hb (by go_simp)
    have hk_1 : w'.cell? ⟨w.heap.size, 1, none⟩ = some (.int .i64 h) := cell_later hb (by go_simp)
    have hk_2 : w'.cell? ⟨w.heap.size + 1, 0, none⟩ = some (.int .i64 m2) := cell_later hb (by go_simp)
    have hk_3 : w'.cell? ⟨w.heap.size + 1, 1, none⟩ = some (.int .i64 h2) := cell_later hb (by go_simp)
    go_simp
  apply wpC_norm
  case ha => simp only [Act.put, List.setIfInBounds_toArray, List.set_cons_zero, List.set_cons_succ]; exact rfl
  apply wpC_callB (.agg #[.int .i64 m, .int .i64 h])
  case hw => exact rfl
  case h1 => intro w'; go_simp; exact ⟨rfl, rfl⟩
  case hc => intro w' hb hk; exact toCup_any _ _ _
  apply wpC_norm
  case ha => simp only [Act.put, List.setIfInBounds_toArray, List.set_cons_zero, List.set_cons_succ]; exact rfl
  apply wpC_val (.agg #[.int .i64 m2, .int .i64 h2])
  case hw => exact rfl
  case h1 =>
    intro w' hb hk
    have hk_0 : w'.cell? ⟨w.heap.size, 0, none⟩ = some (.int .i64 m) := cell_later hb (by go_simp)
    have hk_1 : w'.cell? ⟨w.heap.size, 1, none⟩ = some (.int .i64 h) := cell_later hb (by go_simp)
    have hk_2 : w'.cell? ⟨w.heap.size + 1, 0, none⟩ = some (.int .i64 m2) := cell_later hb (by go_simp)
    have hk_3 : w'.cell? ⟨w.heap.size + 1, 1, none⟩ = some (.int .i64 h2) := cell_later hb (by go_simp)
    go_simp
  apply wpC_norm
  case ha => simp only [Act.put, List.setIfInBounds_toArray, List.set_cons_zero, List.set_cons_succ]; exact rfl
  apply wpC_callB (.agg #[.int .i64 m2, .int .i64 h2])
  case hw => exact rfl
  case h1 => intro w'; go_simp; exact ⟨rfl, rfl⟩
  case hc => intro w' hb hk; exact toCup_any _ _ _
  apply wpC_norm
  case ha => simp only [Act.put, List.setIfInBounds_toArray, List.set_cons_zero, List.set_cons_succ]; exact rfl
  apply wpC_callB (.tuple #[.agg #[.int .i64 x, .int .i64 y], .bool o])
  case hw => exact rfl
  case h1 => intro w'; go_simp; exact ⟨rfl, rfl⟩
  case hc => intro w' hb hk; exact H1.out _
  apply wpC_norm
  case ha => simp only [Act.put, List.setIfInBounds_toArray, List.set_cons_zero, List.set_cons_succ]; exact rfl
  apply wpC_det
  case hw => exact rfl
  case hs => intro cs b h; cases h
  case h1 => intro w'; go_simp; exact rfl
  apply wpC_norm
  case ha => simp only [Act.put, List.setIfInBounds_toArray, List.set_cons_zero, List.set_cons_succ]; exact rfl
  apply wpC_det
  case hw => exact rfl
  case hs => intro cs b h; cases h
  case h1 => intro w'; go_simp; exact rfl
  apply wpC_norm
  case ha => simp only [Act.put, List.setIfInBounds_toArray, List.set_cons_zero, List.set_cons_succ]; exact rfl
  apply wpC_det
  case hw => exact rfl
  case hs => intro cs b h; cases h
  case h1 => intro w'; go_simp; exact rfl
  apply wpC_norm
  case ha => simp only [Act.put, List.setIfInBounds_toArray, List.set_cons_zero, List.set_cons_succ]; exact rfl
  apply wpC_var [.int .i64 0, .int .i64 0] 25
  case hw => exact rfl
  case h1 => intro w'; go_simp
  intro b1
  apply wpC_norm
  case ha => simp only [Act.put, List.setIfInBounds_toArray, List.set_cons_zero, List.set_cons_succ]; exact rfl
  apply wpC_put [.int .i64 0, .int .i64 0] (fun _ _ => True) keeps_true rfl
  case hx => exact rfl
  case hy => exact rfl
  case hn => exact rfl
  case hi => kernel_rfl
  case h2 => rfl
  case hw => exact rfl
  case hk => intro w' hk; exact hk.1
  case hm => intro w' hb hk; trivial
  apply wpC_norm
  case ha => simp only [Act.put, List.setIfInBounds_toArray, List.set_cons_zero, List.set_cons_succ]; exact rfl
  apply wpC_det
  case hw => exact rfl
  case hs => intro cs b h; cases h
  case h1 => intro w'; go_simp; exact rfl
  apply wpC_norm
  case ha => simp only [Act.put, List.setIfInBounds_toArray, List.set_cons_zero, List.set_cons_succ]; exact rfl
  refine wpC_nil ?_
  intro w1 hb1 hkk1
  have hk1_0 : w1.cell? ⟨w.heap.size, 0, none⟩ = some (.int .i64 m) := cell_later hb1 (by go_simp)
  have hz1_0 : w.heap.size < w1.heap.size := World.block_lt_of_cell? _ _ hk1_0
  have hk1_1 : w1.cell? ⟨w.heap.size, 1, none⟩ = some (.int .i64 h) := cell_later hb1 (by go_simp)
  have hk1_2 : w1.cell? ⟨w.heap.size + 1, 0, none⟩ = some (.int .i64 m2) := cell_later hb1 (by go_simp)
  have hz1_2 : w.heap.size + 1 < w1.heap.size := World.block_lt_of_cell? _ _ hk1_2
  have hk1_3 : w1.cell? ⟨w.heap.size + 1, 1, none⟩ = some (.int .i64 h2) := cell_later hb1 (by go_simp)
  have hl1 := hkk1.1.1.1
  have c0 : w1.cell? ⟨b1, 0, none⟩ = some (.int .i64 x) := (hkk1.1.1.2 0 _ rfl).1
  have c1 : w1.cell? ⟨b1, 1, none⟩ = some (.int .i64 y) := (hkk1.1.1.2 1 _ rfl).1
  go_wp2_with (first | (with_reducible refine at_list ?_; refine wpList_fop rfl rfl rfl rfl rfl ?_; intro r n hr0; have hr := hr0 _ _ (by first | with_reducible assumption | exact rfl) (by first | with_reducible assumption | exact rfl); clear hr0) | (with_reducible refine at_list ?_; refine wpList_neg rfl rfl rfl ?_; intro r hr0; have hr := hr0 _ (by first | with_reducible assumption | exact rfl); clear hr0) | (with_reducible refine at_list ?_; refine wpList_fop_g rfl rfl rfl rfl rfl ?_; intro r n hr0; have hr := hr0 _ _ (by first | with_reducible assumption | exact rfl) (by first | with_reducible assumption | exact rfl); clear hr0) | (with_reducible refine at_list ?_; refine wpList_wide_g rfl rfl Try.underlying28 Try.underlying32 rfl ?_; intro r n hr0; have hr := hr0 _ (by first | with_reducible assumption | exact rfl); clear hr0) | (with_reducible refine at_list ?_; refine wpList_wide rfl rfl rfl Try.underlying28 Try.underlying32 ?_; intro r n hr0; have hr := hr0 _ (by first | with_reducible assumption | exact rfl); clear hr0))
  apply wp_region_plan
  apply wpC_val (.agg #[.int .i64 m, .int .i64 h])
  case hw => exact rfl
  case h1 =>
    intro w' hb hk
    have hk_0 : w'.cell? ⟨w.heap.size, 0, none⟩ = some (.int .i64 m) := cell_later hb (by go_simp)
    have hk_1 : w'.cell? ⟨w.heap.size, 1, none⟩ = some (.int .i64 h) := cell_later hb (by go_simp)
    have hk_2 : w'.cell? ⟨w.heap.size + 1, 0, none⟩ = some (.int .i64 m2) := cell_later hb (by go_simp)
    have hk_3 : w'.cell? ⟨w.heap.size + 1, 1, none⟩ = some (.int .i64 h2) := cell_later hb (by go_simp)
    have hk_4 : w'.cell? ⟨b1, 0, none⟩ = some (.int .i64 x) := cell_later hb (by go_simp)
    have hk_5 : w'.cell? ⟨b1, 1, none⟩ = some (.int .i64 y) := cell_later hb (by go_simp)
    go_simp
  apply wpC_norm
  case ha => simp only [Act.put, List.setIfInBounds_toArray, List.set_cons_zero, List.set_cons_succ]; exact rfl
  apply wpC_callB (.agg #[.int .i64 m, .int .i64 h])
  case hw => exact rfl
  case h1 => intro w'; go_simp; exact ⟨rfl, rfl⟩
  case hc => intro w' hb hk; exact toCup_any _ _ _
  apply wpC_norm
  case ha => simp only [Act.put, List.setIfInBounds_toArray, List.set_cons_zero, List.set_cons_succ]; exact rfl
  apply wpC_val (.agg #[.int .i64 m2, .int .i64 h2])
  case hw => exact rfl
  case h1 =>
    intro w' hb hk
    have hk_0 : w'.cell? ⟨w.heap.size, 0, none⟩ = some (.int .i64 m) := cell_later hb (by go_simp)
    have hk_1 : w'.cell? ⟨w.heap.size, 1, none⟩ = some (.int .i64 h) := cell_later hb (by go_simp)
    have hk_2 : w'.cell? ⟨w.heap.size + 1, 0, none⟩ = some (.int .i64 m2) := cell_later hb (by go_simp)
    have hk_3 : w'.cell? ⟨w.heap.size + 1, 1, none⟩ = some (.int .i64 h2) := cell_later hb (by go_simp)
    have hk_4 : w'.cell? ⟨b1, 0, none⟩ = some (.int .i64 x) := cell_later hb (by go_simp)
    have hk_5 : w'.cell? ⟨b1, 1, none⟩ = some (.int .i64 y) := cell_later hb (by go_simp)
    go_simp
  apply wpC_norm
  case ha => simp only [Act.put, List.setIfInBounds_toArray, List.set_cons_zero, List.set_cons_succ]; exact rfl
  apply wpC_callB (.agg #[.int .i64 m2, .int .i64 h2])
  case hw => exact rfl
  case h1 => intro w'; go_simp; exact ⟨rfl, rfl⟩
  case hc => intro w' hb hk; exact toCup_any _ _ _
  apply wpC_norm
  case ha => simp only [Act.put, List.setIfInBounds_toArray, List.set_cons_zero, List.set_cons_succ]; exact rfl
  apply wpC_callB (.tuple #[.agg #[.int .i64 x, .int .i64 y], .bool o])
  case hw => exact rfl
  case h1 => intro w'; go_simp; exact ⟨rfl, rfl⟩
  case hc => intro w' hb hk; exact H2.out _
  apply wpC_norm
  case ha => simp only [Act.put, List.setIfInBounds_toArray, List.set_cons_zero, List.set_cons_succ]; exact rfl
  apply wpC_det
  case hw => exact rfl
  case hs => intro cs b h; cases h
  case h1 => intro w'; go_simp; exact rfl
  apply wpC_norm
  case ha => simp only [Act.put, List.setIfInBounds_toArray, List.set_cons_zero, List.set_cons_succ]; exact rfl
  apply wpC_det
  case hw => exact rfl
  case hs => intro cs b h; cases h
  case h1 => intro w'; go_simp; exact rfl
  apply wpC_norm
  case ha => simp only [Act.put, List.setIfInBounds_toArray, List.set_cons_zero, List.set_cons_succ]; exact rfl
  apply wpC_det
  case hw => exact rfl
  case hs => intro cs b h; cases h
  case h1 => intro w'; go_simp; exact rfl
  apply wpC_norm
  case ha => simp only [Act.put, List.setIfInBounds_toArray, List.set_cons_zero, List.set_cons_succ]; exact rfl
  apply wpC_var [.int .i64 0, .int .i64 0] 25
  case hw => exact rfl
  case h1 => intro w'; go_simp
  intro b2
  apply wpC_norm
  case ha => simp only [Act.put, List.setIfInBounds_toArray, List.set_cons_zero, List.set_cons_succ]; exact rfl
  apply wpC_put [.int .i64 0, .int .i64 0] (fun _ _ => True) keeps_true rfl
  case hx => exact rfl
  case hy => exact rfl
  case hn => exact rfl
  case hi => kernel_rfl
  case h2 => rfl
  case hw => exact rfl
  case hk => intro w' hk; exact hk.1
  case hm => intro w' hb hk; trivial
  apply wpC_norm
  case ha => simp only [Act.put, List.setIfInBounds_toArray, List.set_cons_zero, List.set_cons_succ]; exact rfl
  apply wpC_det
  case hw => exact rfl
  case hs => intro cs b h; cases h
  case h1 => intro w'; go_simp; exact rfl
  apply wpC_norm
  case ha => simp only [Act.put, List.setIfInBounds_toArray, List.set_cons_zero, List.set_cons_succ]; exact rfl
  refine wpC_nil ?_
  intro w2 hb2 hkk2
  have hk2_0 : w2.cell? ⟨w.heap.size, 0, none⟩ = some (.int .i64 m) := cell_later hb2 (by go_simp)
  have hz2_0 : w.heap.size < w2.heap.size := World.block_lt_of_cell? _ _ hk2_0
  have hk2_1 : w2.cell? ⟨w.heap.size, 1, none⟩ = some (.int .i64 h) := cell_later hb2 (by go_simp)
  have hk2_2 : w2.cell? ⟨w.heap.size + 1, 0, none⟩ = some (.int .i64 m2) := cell_later hb2 (by go_simp)
  have hz2_2 : w.heap.size + 1 < w2.heap.size := World.block_lt_of_cell? _ _ hk2_2
  have hk2_3 : w2.cell? ⟨w.heap.size + 1, 1, none⟩ = some (.int .i64 h2) := cell_later hb2 (by go_simp)
  have hk2_4 : w2.cell? ⟨b1, 0, none⟩ = some (.int .i64 x) := cell_later hb2 (by go_simp)
  have hz2_4 : b1 < w2.heap.size := World.block_lt_of_cell? _ _ hk2_4
  have hk2_5 : w2.cell? ⟨b1, 1, none⟩ = some (.int .i64 y) := cell_later hb2 (by go_simp)
  have hl2 := hkk2.1.1.1
  have d0 : w2.cell? ⟨b2, 0, none⟩ = some (.int .i64 x) := (hkk2.1.1.2 0 _ rfl).1
  have d1 : w2.cell? ⟨b2, 1, none⟩ = some (.int .i64 y) := (hkk2.1.1.2 1 _ rfl).1
  go_wp2_with (first | (with_reducible refine at_list ?_; refine wpList_fop rfl rfl rfl rfl rfl ?_; intro r n hr0; have hr := hr0 _ _ (by first | with_reducible assumption | exact rfl) (by first | with_reducible assumption | exact rfl); clear hr0) | (with_reducible refine at_list ?_; refine wpList_neg rfl rfl rfl ?_; intro r hr0; have hr := hr0 _ (by first | with_reducible assumption | exact rfl); clear hr0) | (with_reducible refine at_list ?_; refine wpList_fop_g rfl rfl rfl rfl rfl ?_; intro r n hr0; have hr := hr0 _ _ (by first | with_reducible assumption | exact rfl) (by first | with_reducible assumption | exact rfl); clear hr0) | (with_reducible refine at_list ?_; refine wpList_wide_g rfl rfl Try.underlying28 Try.underlying32 rfl ?_; intro r n hr0; have hr := hr0 _ (by first | with_reducible assumption | exact rfl); clear hr0) | (with_reducible refine at_list ?_; refine wpList_wide rfl rfl rfl Try.underlying28 Try.underlying32 ?_; intro r n hr0; have hr := hr0 _ (by first | with_reducible assumption | exact rfl); clear hr0))
  refine (eqCup_self _ _ _).mono ?_
  rintro e w3 ⟨rfl, hb3⟩
  have hk3_0 : w3.cell? ⟨w.heap.size, 0, none⟩ = some (.int .i64 m) := cell_later hb3 (by go_simp)
  have hz3_0 : w.heap.size < w3.heap.size := World.block_lt_of_cell? _ _ hk3_0
  have hk3_1 : w3.cell? ⟨w.heap.size, 1, none⟩ = some (.int .i64 h) := cell_later hb3 (by go_simp)
  have hk3_2 : w3.cell? ⟨w.heap.size + 1, 0, none⟩ = some (.int .i64 m2) := cell_later hb3 (by go_simp)
  have hz3_2 : w.heap.size + 1 < w3.heap.size := World.block_lt_of_cell? _ _ hk3_2
  have hk3_3 : w3.cell? ⟨w.heap.size + 1, 1, none⟩ = some (.int .i64 h2) := cell_later hb3 (by go_simp)
  have hk3_4 : w3.cell? ⟨b1, 0, none⟩ = some (.int .i64 x) := cell_later hb3 (by go_simp)
  have hz3_4 : b1 < w3.heap.size := World.block_lt_of_cell? _ _ hk3_4
  have hk3_5 : w3.cell? ⟨b1, 1, none⟩ = some (.int .i64 y) := cell_later hb3 (by go_simp)
  go_wp2_with (first | (with_reducible refine at_list ?_; refine wpList_fop rfl rfl rfl rfl rfl ?_; intro r n hr0; have hr := hr0 _ _ (by first | with_reducible assumption | exact rfl) (by first | with_reducible assumption | exact rfl); clear hr0) | (with_reducible refine at_list ?_; refine wpList_neg rfl rfl rfl ?_; intro r hr0; have hr := hr0 _ (by first | with_reducible assumption | exact rfl); clear hr0) | (with_reducible refine at_list ?_; refine wpList_fop_g rfl rfl rfl rfl rfl ?_; intro r n hr0; have hr := hr0 _ _ (by first | with_reducible assumption | exact rfl) (by first | with_reducible assumption | exact rfl); clear hr0) | (with_reducible refine at_list ?_; refine wpList_wide_g rfl rfl Try.underlying28 Try.underlying32 rfl ?_; intro r n hr0; have hr := hr0 _ (by first | with_reducible assumption | exact rfl); clear hr0) | (with_reducible refine at_list ?_; refine wpList_wide rfl rfl rfl Try.underlying28 Try.underlying32 ?_; intro r n hr0; have hr := hr0 _ (by first | with_reducible assumption | exact rfl); clear hr0))
  go_ret
  exact ⟨rfl, by (repeat (first | exact Below.refl _ _ | refine below_then ?_ (by assumption) | refine below_drewN ?_ _ | apply Below.drew | refine below_alloc ?_ _ | refine Below.setCell ?_ (by first | (simp; done) | (simp; omega)) _))⟩
  all_goals first | kernel_rfl | rfl
set_option maxRecDepth 100000 in
theorem lifted_FnExactMixCups (os : Os) (started : os.Started) (H : Type) (enc : TypeId × Value → H) :
    ReturnsInHanded {} Try.checked os 9 .any (Rows.fnExactMixCupsSpec.pre6 enc Try.prog Try.f9 Rows.fnExactMixCupsRow.domain false) (Rows.fnExactMixCupsSpec.post enc Try.prog Try.f9 false true false false) := by
  refine returnsInHanded_of_change (C := Try.checked) own started (by kernel_rfl) Try.func9
    (ChangeSpec.witness6 (enc := enc) (C := Try.checked) false ⟨#[], #[.agg #[.int .i64 0, .int .i64 0], .agg #[.int .i64 0, .int .i64 0]], []⟩ 8 (by kernel_rfl) (by kernel_rfl) (by kernel_rfl) (by kernel_rfl)) ?_
  intro W base args ds gs before hval0 hW hcnd _
  have hval : ∀ (j : Nat) t v, Try.f9.params[j]? = some t → args[j]? = some v → Value.okWide Try.prog W .any base t v := hval0
  have hW' := hW
  obtain ⟨p, q, hA0, hV, rfl, hfz, hnd⟩ := hW
  have hA : DataW.TrodAll enc Try.prog W 0 (fun _ => true) true Try.f9.params.toList args.toList ds p := hA0
  rw [Try.params9] at hA hval
  obtain ⟨v0, vs0, d0, ds0, p0, q0, hargs, rfl, rfl, h0, r0⟩ := trodAll_cons hA
  obtain ⟨v1, vs1, d1, ds1, p1, q1, rfl, rfl, rfl, h1, r1⟩ := trodAll_cons r0
  obtain ⟨rfl, rfl, rfl⟩ := trodAll_nil r1
  obtain rfl : args = #[v0, v1] := by cases args; simp_all
  obtain ⟨rfl, rfl⟩ := trodVars_none hV
  have k0 := h0
  have lt0 : ∀ x ∈ p0, x.block < W.heap.size := by obtain ⟨m, hm⟩ := k0; exact DataW.trod_lt m _ _ _ hm
  obtain ⟨m, h, rfl, w0⟩ := open_Cup (hval 0 23 v0 rfl rfl) h0
  have k1 := h1
  have lt1 : ∀ x ∈ p1, x.block < W.heap.size := by obtain ⟨m, hm⟩ := k1; exact DataW.trod_lt m _ _ _ hm
  obtain ⟨m2, h2, rfl, w1⟩ := open_Cup (hval 1 23 v1 rfl rfl) h1
  clear hA0 hval0
  refine (walk_FnExactMixCups m h m2 h2 w0 w1 W).mono fun e W' ⟨he, hg⟩ => ?_
  subst he
  exact ⟨_, rfl, _, _, _, [], _, [], hW', trodAll_mk1 (shut_bool Try.underlying4 _), (trodAll_cons_mk (Below.trod laidOut (by kernel_rfl) (of_decide_eq_true (by kernel_rfl)) k0 hg lt0) (trodAll_cons_mk (Below.trod laidOut (by kernel_rfl) (of_decide_eq_true (by kernel_rfl)) k1 hg lt1) trodAll_mk0)), rfl, hg.frame _, fun h => by cases h⟩
theorem fnExactMixCups_holds : Rows.FnExactMixCupsSaid :=
  OpenClaim.holds_of_wide 9 Try.f9 rfl rfl rfl rfl rfl rfl rfl ⟨rfl, rfl, rfl, rfl, rfl⟩ rfl rfl rfl rfl rfl (by kernel_rfl) Try.func9 (by kernel_rfl)
    (of_decide_eq_true (by kernel_rfl)) (by unfold Func.isWrapper; rw [if_neg (of_decide_eq_false (by kernel_rfl))]; exact ⟨rfl, rfl⟩)
    (fun os started H enc _ => lifted_FnExactMixCups os started H enc)
end Go.Proofs.Ytpdpokbjfnnomaa

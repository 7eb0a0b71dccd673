/-
  Which stuffs are the same (the program's and the reference's), each proved once; the law. No condition but what each contract says.
-/
import Derived.Test.YtiodpahbmoeiaaaSame
import Derived.Test.YtiodpahbmoeiaaaPlan
set_option linter.unusedSimpArgs false
set_option linter.unusedVariables false
set_option linter.unusedSectionVars false
namespace Go.Proofs.Ytiodpahbmoeiaaa
open Go Go.RowKit
open Go.ChangeShapes Go.WideShapes Go.ChangeAt Go.RowKit Go.Joins
def St.nums (s : St) : List Nat := [s.a, s.b, s.c, s.d, s.p, s.l]
def St.sm (s t : St) : Bool := same s.a t.a && (same s.b t.b && (same s.c t.c && (same s.d t.d && (same s.p t.p && same s.l t.l))))
def St.lt (s : St) : Prop := s.a < 4294967296 ∧ s.b < 4294967296 ∧ s.c < 4294967296 ∧ s.d < 4294967296 ∧ s.p < 4294967296 ∧ s.l < 4294967296
theorem St.sm_nums (s t : St) : eqL Go.Proofs.Ytiodpahbmoeiaaa.same s.nums t.nums = s.sm t := by
  simp [eqL, St.nums, St.sm, List.range, List.range.loop]
theorem St.nums_lt {s : St} (h : s.lt) (j : Nat) : s.nums.getD j 0 < 4294967296 := by
  obtain ⟨h0, h1, h2, h3, h4, h5⟩ := h
  rcases j with _ | _ | _ | _ | _ | _ | j <;> simp [St.nums, *]
set_option maxHeartbeats 400000 in
theorem sameNumbers_any (xs ys : List Nat) (v u : Value) (w : World) (hs : FS w v xs) (ht : FS w u ys) (hx : ∀ j, xs.getD j 0 < 4294967296) (hy : ∀ j, ys.getD j 0 < 4294967296) : Calls Try.prog 78 #[v, u] w (RB w (eqL same xs ys)) := by
  have HS := Lib.hid hs
  have HT := Lib.hid ht
  clear hs ht
  go_enter Try.func78, Try.ntmps78
  go_wp2_with fail
  refine (EqualFunc_any 91 same xs ys v u _ HS.out HT.out (fun x y w' => by kernel_rfl) (fun j h1 h2 m => SameNumber_any _ _ (hx j) (hy j) _)).mono ?_
  rintro e w' ⟨rfl, n, rfl⟩
  go_wp2_with fail
  go_ret
  exact ⟨rfl, _, rfl⟩
set_option maxHeartbeats 1000000 in
theorem numbersOf_any (s : St) (w : World) : Calls Try.prog 79 #[.agg #[.float .f32 s.a, .float .f32 s.b, .float .f32 s.c, .float .f32 s.d, .float .f32 s.p, .float .f32 s.l]] w (fun e w' => ∃ v, e = .returned v ∧ Below w.heap.size w w' ∧ FS w' v s.nums) := by
  go_enter Try.func79, Try.ntmps79
  go_wp2
  go_ret
  refine ⟨_, rfl, by (repeat (first | (with_reducible exact Below.refl _ _) | (with_reducible assumption) | (with_reducible refine below_then ?_ (by assumption)) | (with_reducible refine Below.trans ?_ (by assumption)) | (with_reducible refine below_drewN ?_ _) | (with_reducible apply Below.drew) | (with_reducible refine below_alloc ?_ _) | refine Below.setCell ?_ (by first | (simp; done) | (simp; omega)) _)), FS_of (n := 6) (c := 6) rfl (by omega) (by omega) ?_⟩
  intro i hi
  rcases (show i = 0 ∨ i = 1 ∨ i = 2 ∨ i = 3 ∨ i = 4 ∨ i = 5 by omega) with rfl | rfl | rfl | rfl | rfl | rfl <;> go_simp <;> rfl
/-- A slice of these words. -/
def Clm.fs (xs : List Nat) : Clm := ⟨1, fun _ _ => True, fun _ v w => FS w v xs, fun _ => ⟨undef, trivial⟩, fun _ _ _ _ h hb => h.later hb, fun h => nomatch h⟩
theorem RB_BV {w : World} {b : Bool} {e : Ending} {w' : World} (h : RB w b e w') : BV w (.bool b) e w' := by
  obtain ⟨rfl, n, rfl⟩ := h
  exact ⟨rfl, below_drewN (Below.refl _ _) _⟩
set_option maxHeartbeats 1000000 in
theorem implSameStuff_any (s t : St) (hx : s.lt) (hy : t.lt) (w : World) : Calls Try.prog 42 #[.agg #[.float .f32 s.a, .float .f32 s.b, .float .f32 s.c, .float .f32 s.d, .float .f32 s.p, .float .f32 s.l], .agg #[.float .f32 t.a, .float .f32 t.b, .float .f32 t.c, .float .f32 t.d, .float .f32 t.p, .float .f32 t.l]] w (BV w (.bool (s.sm t))) := by
  have HX := Lib.hid (St.nums_lt hx)
  have HY := Lib.hid (St.nums_lt hy)
  clear hx hy
  go_enter Try.func42, Try.ntmps42
  go_wp2_with (first | (with_reducible refine at_list ?_; refine wpList_fop rfl rfl rfl rfl rfl ?_; intro r n hr0; have hr := hr0 _ _ (by first | with_reducible assumption | exact rfl) (by first | with_reducible assumption | exact rfl); clear hr0) | (with_reducible refine at_list ?_; refine wpList_neg rfl rfl rfl ?_; intro r hr0; have hr := hr0 _ (by first | with_reducible assumption | exact rfl); clear hr0) | (with_reducible refine at_list ?_; refine wpList_fop_g rfl rfl rfl rfl rfl ?_; intro r n hr0; have hr := hr0 _ _ (by first | with_reducible assumption | exact rfl) (by first | with_reducible assumption | exact rfl); clear hr0) | (with_reducible refine at_list ?_; refine wpList_wide_g rfl rfl Try.underlying22 Try.underlying26 rfl ?_; intro r n hr0; have hr := hr0 _ (by first | with_reducible assumption | exact rfl); clear hr0) | (with_reducible refine at_list ?_; refine wpList_wide rfl rfl rfl Try.underlying22 Try.underlying26 ?_; intro r n hr0; have hr := hr0 _ (by first | with_reducible assumption | exact rfl); clear hr0))
  apply wp_region_plan
  apply wpC_val (.agg #[.float .f32 s.a, .float .f32 s.b, .float .f32 s.c, .float .f32 s.d, .float .f32 s.p, .float .f32 s.l])
  case hw => exact rfl
  case h1 =>
    intro w' hb hk
    have hk_0 : w'.cell? ⟨w.heap.size, 0, none⟩ = some (.float .f32 s.a) := cell_later hb (by go_simp)
    have hk_1 : w'.cell? ⟨w.heap.size, 1, none⟩ = some (.float .f32 s.b) := cell_later hb (by go_simp)
    have hk_2 : w'.cell? ⟨w.heap.size, 2, none⟩ = some (.float .f32 s.c) := cell_later hb (by go_simp)
    have hk_3 : w'.cell? ⟨w.heap.size, 3, none⟩ = some (.float .f32 s.d) := cell_later hb (by go_simp)
    have hk_4 : w'.cell? ⟨w.heap.size, 4, none⟩ = some (.float .f32 s.p) := cell_later hb (by go_simp)
    have hk_5 : w'.cell? ⟨w.heap.size, 5, none⟩ = some (.float .f32 s.l) := cell_later hb (by go_simp)
    have hk_6 : w'.cell? ⟨w.heap.size + 1, 0, none⟩ = some (.float .f32 t.a) := cell_later hb (by go_simp)
    have hk_7 : w'.cell? ⟨w.heap.size + 1, 1, none⟩ = some (.float .f32 t.b) := cell_later hb (by go_simp)
    have hk_8 : w'.cell? ⟨w.heap.size + 1, 2, none⟩ = some (.float .f32 t.c) := cell_later hb (by go_simp)
    have hk_9 : w'.cell? ⟨w.heap.size + 1, 3, none⟩ = some (.float .f32 t.d) := cell_later hb (by go_simp)
    have hk_10 : w'.cell? ⟨w.heap.size + 1, 4, none⟩ = some (.float .f32 t.p) := cell_later hb (by go_simp)
    have hk_11 : w'.cell? ⟨w.heap.size + 1, 5, none⟩ = some (.float .f32 t.l) := cell_later hb (by go_simp)
    go_simp
  apply wpC_norm
  case ha => simp only [Act.put, List.setIfInBounds_toArray, List.set_cons_zero, List.set_cons_succ]; exact rfl
  apply wpC_call (Clm.fs s.nums) rfl
  case hw => exact rfl
  case h1 => intro w'; go_simp; exact ⟨rfl, rfl⟩
  case hc => intro w' hb hk; exact (numbersOf_any s w').mono fun e w'' ⟨v, he, hb, hf⟩ => ⟨v, he, hb, trivial, hf⟩
  rintro v1 -
  apply wpC_norm
  case ha => simp only [Act.put, List.setIfInBounds_toArray, List.set_cons_zero, List.set_cons_succ]; exact rfl
  apply wpC_val (.agg #[.float .f32 t.a, .float .f32 t.b, .float .f32 t.c, .float .f32 t.d, .float .f32 t.p, .float .f32 t.l])
  case hw => exact rfl
  case h1 =>
    intro w' hb hk
    have hk_0 : w'.cell? ⟨w.heap.size, 0, none⟩ = some (.float .f32 s.a) := cell_later hb (by go_simp)
    have hk_1 : w'.cell? ⟨w.heap.size, 1, none⟩ = some (.float .f32 s.b) := cell_later hb (by go_simp)
    have hk_2 : w'.cell? ⟨w.heap.size, 2, none⟩ = some (.float .f32 s.c) := cell_later hb (by go_simp)
    have hk_3 : w'.cell? ⟨w.heap.size, 3, none⟩ = some (.float .f32 s.d) := cell_later hb (by go_simp)
    have hk_4 : w'.cell? ⟨w.heap.size, 4, none⟩ = some (.float .f32 s.p) := cell_later hb (by go_simp)
    have hk_5 : w'.cell? ⟨w.heap.size, 5, none⟩ = some (.float .f32 s.l) := cell_later hb (by go_simp)
    have hk_6 : w'.cell? ⟨w.heap.size + 1, 0, none⟩ = some (.float .f32 t.a) := cell_later hb (by go_simp)
    have hk_7 : w'.cell? ⟨w.heap.size + 1, 1, none⟩ = some (.float .f32 t.b) := cell_later hb (by go_simp)
    have hk_8 : w'.cell? ⟨w.heap.size + 1, 2, none⟩ = some (.float .f32 t.c) := cell_later hb (by go_simp)
    have hk_9 : w'.cell? ⟨w.heap.size + 1, 3, none⟩ = some (.float .f32 t.d) := cell_later hb (by go_simp)
    have hk_10 : w'.cell? ⟨w.heap.size + 1, 4, none⟩ = some (.float .f32 t.p) := cell_later hb (by go_simp)
    have hk_11 : w'.cell? ⟨w.heap.size + 1, 5, none⟩ = some (.float .f32 t.l) := cell_later hb (by go_simp)
    go_simp
  apply wpC_norm
  case ha => simp only [Act.put, List.setIfInBounds_toArray, List.set_cons_zero, List.set_cons_succ]; exact rfl
  apply wpC_call (Clm.fs t.nums) rfl
  case hw => exact rfl
  case h1 => intro w'; go_simp; exact ⟨rfl, rfl⟩
  case hc => intro w' hb hk; exact (numbersOf_any t w').mono fun e w'' ⟨v, he, hb, hf⟩ => ⟨v, he, hb, trivial, hf⟩
  rintro v2 -
  apply wpC_norm
  case ha => simp only [Act.put, List.setIfInBounds_toArray, List.set_cons_zero, List.set_cons_succ]; exact rfl
  apply wpC_callB (.bool (s.sm t))
  case hw => exact rfl
  case h1 => intro w'; go_simp; exact ⟨rfl, rfl⟩
  case hc => intro w' hb hk; exact (St.sm_nums s t ▸ (sameNumbers_any s.nums t.nums v1 v2 w' hk.2.2.1 hk.1 HX.out HY.out).mono fun _ _ h => RB_BV h)
  apply wpC_norm
  case ha => simp only [Act.put, List.setIfInBounds_toArray, List.set_cons_zero, List.set_cons_succ]; exact rfl
  apply wpC_det
  case hw => exact rfl
  case hs => intro cs b h; cases h
  case h1 => intro w'; go_simp; exact rfl
  apply wpC_norm
  case ha => simp only [Act.put, List.setIfInBounds_toArray, List.set_cons_zero, List.set_cons_succ]; exact rfl
  refine wpC_nil ?_
  intro w1 hb1 hkk1
  have hk1_0 : w1.cell? ⟨w.heap.size, 0, none⟩ = some (.float .f32 s.a) := cell_later hb1 (by go_simp)
  have hz1_0 : w.heap.size < w1.heap.size := World.block_lt_of_cell? _ _ hk1_0
  have hk1_1 : w1.cell? ⟨w.heap.size, 1, none⟩ = some (.float .f32 s.b) := cell_later hb1 (by go_simp)
  have hk1_2 : w1.cell? ⟨w.heap.size, 2, none⟩ = some (.float .f32 s.c) := cell_later hb1 (by go_simp)
  have hk1_3 : w1.cell? ⟨w.heap.size, 3, none⟩ = some (.float .f32 s.d) := cell_later hb1 (by go_simp)
  have hk1_4 : w1.cell? ⟨w.heap.size, 4, none⟩ = some (.float .f32 s.p) := cell_later hb1 (by go_simp)
  have hk1_5 : w1.cell? ⟨w.heap.size, 5, none⟩ = some (.float .f32 s.l) := cell_later hb1 (by go_simp)
  have hk1_6 : w1.cell? ⟨w.heap.size + 1, 0, none⟩ = some (.float .f32 t.a) := cell_later hb1 (by go_simp)
  have hz1_6 : w.heap.size + 1 < w1.heap.size := World.block_lt_of_cell? _ _ hk1_6
  have hk1_7 : w1.cell? ⟨w.heap.size + 1, 1, none⟩ = some (.float .f32 t.b) := cell_later hb1 (by go_simp)
  have hk1_8 : w1.cell? ⟨w.heap.size + 1, 2, none⟩ = some (.float .f32 t.c) := cell_later hb1 (by go_simp)
  have hk1_9 : w1.cell? ⟨w.heap.size + 1, 3, none⟩ = some (.float .f32 t.d) := cell_later hb1 (by go_simp)
  have hk1_10 : w1.cell? ⟨w.heap.size + 1, 4, none⟩ = some (.float .f32 t.p) := cell_later hb1 (by go_simp)
  have hk1_11 : w1.cell? ⟨w.heap.size + 1, 5, none⟩ = some (.float .f32 t.l) := cell_later hb1 (by go_simp)
  go_wp2_with (first | (with_reducible refine at_list ?_; refine wpList_fop rfl rfl rfl rfl rfl ?_; intro r n hr0; have hr := hr0 _ _ (by first | with_reducible assumption | exact rfl) (by first | with_reducible assumption | exact rfl); clear hr0) | (with_reducible refine at_list ?_; refine wpList_neg rfl rfl rfl ?_; intro r hr0; have hr := hr0 _ (by first | with_reducible assumption | exact rfl); clear hr0) | (with_reducible refine at_list ?_; refine wpList_fop_g rfl rfl rfl rfl rfl ?_; intro r n hr0; have hr := hr0 _ _ (by first | with_reducible assumption | exact rfl) (by first | with_reducible assumption | exact rfl); clear hr0) | (with_reducible refine at_list ?_; refine wpList_wide_g rfl rfl Try.underlying22 Try.underlying26 rfl ?_; intro r n hr0; have hr := hr0 _ (by first | with_reducible assumption | exact rfl); clear hr0) | (with_reducible refine at_list ?_; refine wpList_wide rfl rfl rfl Try.underlying22 Try.underlying26 ?_; intro r n hr0; have hr := hr0 _ (by first | with_reducible assumption | exact rfl); clear hr0))
  go_ret
  exact ⟨rfl, by (repeat (first | (with_reducible exact Below.refl _ _) | (with_reducible assumption) | (with_reducible refine below_then ?_ (by assumption)) | (with_reducible refine Below.trans ?_ (by assumption)) | (with_reducible refine below_drewN ?_ _) | (with_reducible apply Below.drew) | (with_reducible refine below_alloc ?_ _) | refine Below.setCell ?_ (by first | (simp; done) | (simp; omega)) _))⟩
  all_goals first | kernel_rfl | rfl
end Go.Proofs.Ytiodpahbmoeiaaa

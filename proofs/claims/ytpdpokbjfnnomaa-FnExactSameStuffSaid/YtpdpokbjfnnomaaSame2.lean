/-
  Which stuffs are the same (the program's and the reference's), each proved once; the law. No condition but what each contract says.
-/
import Derived.Test.YtpdpokbjfnnomaaSame
import Derived.Test.YtpdpokbjfnnomaaPlan
set_option linter.unusedSimpArgs false
set_option linter.unusedVariables false
set_option linter.unusedSectionVars false
namespace Go.Proofs.Ytpdpokbjfnnomaa
open Go Go.RowKit
open Go.ChangeShapes Go.WideShapes Go.ChangeAt Go.RowKit Go.Joins
def St.nums (s : St) : List Nat := [s.a, s.b, s.c, s.d, s.p, s.l]
def St.sm (s t : St) : Bool := same s.a t.a && (same s.b t.b && (same s.c t.c && (same s.d t.d && (same s.p t.p && same s.l t.l))))
def St.lt (s : St) : Prop := s.a < 4294967296 ∧ s.b < 4294967296 ∧ s.c < 4294967296 ∧ s.d < 4294967296 ∧ s.p < 4294967296 ∧ s.l < 4294967296
theorem St.sm_nums (s t : St) : eqL Go.Proofs.Ytpdpokbjfnnomaa.same s.nums t.nums = s.sm t := by
  simp [eqL, St.nums, St.sm, List.range, List.range.loop]
theorem St.nums_lt {s : St} (h : s.lt) (j : Nat) : s.nums.getD j 0 < 4294967296 := by
  obtain ⟨h0, h1, h2, h3, h4, h5⟩ := h
  rcases j with _ | _ | _ | _ | _ | _ | j <;> simp [St.nums, *]
set_option maxHeartbeats 400000 in
theorem sameNumbers_any (xs ys : List Nat) (v u : Value) (w : World) (hs : FS w v xs) (ht : FS w u ys) (hx : ∀ j, xs.getD j 0 < 4294967296) (hy : ∀ j, ys.getD j 0 < 4294967296) : Calls Try.prog 54 #[v, u] w (RB w (eqL same xs ys)) := by
  have HS := Lib.hid hs
  have HT := Lib.hid ht
  clear hs ht
  go_enter Try.func54, Try.ntmps54
  go_wp2_with fail
  refine (EqualFunc_any 65 same xs ys v u _ HS.out HT.out (fun x y w' => by kernel_rfl) (fun j h1 h2 m => SameNumber_any _ _ (hx j) (hy j) _)).mono ?_
  rintro e w' ⟨rfl, n, rfl⟩
  go_wp2_with fail
  go_ret
  exact ⟨rfl, _, rfl⟩
set_option maxHeartbeats 1000000 in
theorem numbersOf_any (s : St) (w : World) : Calls Try.prog 55 #[.agg #[.float .f32 s.a, .float .f32 s.b, .float .f32 s.c, .float .f32 s.d, .float .f32 s.p, .float .f32 s.l]] w (fun e w' => ∃ v, e = .returned v ∧ Below w.heap.size w w' ∧ FS w' v s.nums) := by
  go_enter Try.func55, Try.ntmps55
  go_wp2
  go_ret
  refine ⟨_, rfl, by (repeat (first | exact Below.refl _ _ | refine below_then ?_ (by assumption) | refine below_drewN ?_ _ | apply Below.drew | refine below_alloc ?_ _ | refine Below.setCell ?_ (by first | (simp; done) | (simp; omega)) _)), FS_of (n := 6) (c := 6) rfl (by omega) (by omega) ?_⟩
  intro i hi
  rcases (show i = 0 ∨ i = 1 ∨ i = 2 ∨ i = 3 ∨ i = 4 ∨ i = 5 by omega) with rfl | rfl | rfl | rfl | rfl | rfl <;> go_simp <;> rfl
set_option maxHeartbeats 2000000 in
theorem l03SameStuff_any (s t : St) (b o b2 o2 : Nat) (w : World) (hs : s.at w b o) (ht : t.at w b2 o2) (hx : s.lt) (hy : t.lt) : Calls Try.prog 53 #[.pointer (some ⟨b, o, none⟩), .pointer (some ⟨b2, o2, none⟩)] w (RB w (s.sm t)) := by
  obtain ⟨h0, h1, h2, h3, h4, h5⟩ := hs
  obtain ⟨q0, q1, q2, q3, q4, q5⟩ := ht
  obtain ⟨x0, x1, x2, x3, x4, x5⟩ := hx
  obtain ⟨y0, y1, y2, y3, y4, y5⟩ := hy
  rcases chain6 (same s.a t.a) (same s.b t.b) (same s.c t.c) (same s.d t.d) (same s.p t.p) with g0 | ⟨g0, g1⟩ | ⟨g0, g1, g2⟩ | ⟨g0, g1, g2, g3⟩ | ⟨g0, g1, g2, g3, g4⟩ | ⟨g0, g1, g2, g3, g4⟩ <;>
  · go_enter Try.func53, Try.ntmps53
    go_wp2
    refine wp_some_lit (by kernel_rfl) (by kernel_rfl) ?_
    simp only [List.append]
    repeat (first | (with_reducible refine at_some ?_; refine wpSome_fop rfl rfl rfl rfl rfl ?_; intro r hr0; have hr := hr0 _ _ (by first | with_reducible assumption | exact rfl) (by first | with_reducible assumption | exact rfl); clear hr0) | (with_reducible refine at_some ?_; refine wpSome_neg rfl rfl rfl ?_; intro r hr0; have hr := hr0 _ (by first | with_reducible assumption | exact rfl); clear hr0) | (refine wpSome_one ?_; go_big_quiet_step ((first | (go_at_call 63; first | exact Calls.quiet_of (RB_as (l01Same_any _ _ (by with_reducible assumption) (by with_reducible assumption) _) (by with_reducible assumption)) | exact Calls.quiet_of (l01Same_any _ _ (by with_reducible assumption) (by with_reducible assumption) _)))); refine wpQuiet_nil ?_))
    refine wpSome_nil ?_
    intro w' hw'
    obtain ⟨nq, rfl⟩ := hw'
    go_wp2
    go_ret
    exact ⟨by simp [St.sm, *], _, rfl⟩
set_option maxHeartbeats 1000000 in
theorem specSameStuff_any (s t : St) (hx : s.lt) (hy : t.lt) (w : World) : Calls Try.prog 31 #[.agg #[.float .f32 s.a, .float .f32 s.b, .float .f32 s.c, .float .f32 s.d, .float .f32 s.p, .float .f32 s.l], .agg #[.float .f32 t.a, .float .f32 t.b, .float .f32 t.c, .float .f32 t.d, .float .f32 t.p, .float .f32 t.l]] w (BV w (.bool (s.sm t))) := by
  go_enter Try.func31, Try.ntmps31
  go_wp2_with fail
  refine (l03SameStuff_any s t _ _ _ _ _ (by unfold St.at; refine ⟨?_, ?_, ?_, ?_, ?_, ?_⟩ <;> go_simp) (by unfold St.at; refine ⟨?_, ?_, ?_, ?_, ?_, ?_⟩ <;> go_simp) hx hy).mono ?_
  rintro e w' ⟨rfl, n, rfl⟩
  go_wp2_with fail
  go_ret
  exact ⟨rfl, by (repeat (first | exact Below.refl _ _ | refine below_then ?_ (by assumption) | refine below_drewN ?_ _ | apply Below.drew | refine below_alloc ?_ _ | refine Below.setCell ?_ (by first | (simp; done) | (simp; omega)) _))⟩
/-- A slice of these words. -/
def Clm.fs (xs : List Nat) : Clm := ⟨1, fun _ _ => True, fun _ v w => FS w v xs, fun _ => ⟨undef, trivial⟩, fun _ _ _ _ h hb => h.later hb, fun h => nomatch h⟩
theorem RB_BV {w : World} {b : Bool} {e : Ending} {w' : World} (h : RB w b e w') : BV w (.bool b) e w' := by
  obtain ⟨rfl, n, rfl⟩ := h
  exact ⟨rfl, below_drewN (Below.refl _ _) _⟩
set_option maxHeartbeats 1000000 in
theorem implSameStuff_any (s t : St) (hx : s.lt) (hy : t.lt) (w : World) : Calls Try.prog 32 #[.agg #[.float .f32 s.a, .float .f32 s.b, .float .f32 s.c, .float .f32 s.d, .float .f32 s.p, .float .f32 s.l], .agg #[.float .f32 t.a, .float .f32 t.b, .float .f32 t.c, .float .f32 t.d, .float .f32 t.p, .float .f32 t.l]] w (BV w (.bool (s.sm t))) := by
  have HX := Lib.hid (St.nums_lt hx)
  have HY := Lib.hid (St.nums_lt hy)
  clear hx hy
  go_enter Try.func32, Try.ntmps32
  go_wp2_with (first | (with_reducible refine at_list ?_; refine wpList_fop rfl rfl rfl rfl rfl ?_; intro r n hr0; have hr := hr0 _ _ (by first | with_reducible assumption | exact rfl) (by first | with_reducible assumption | exact rfl); clear hr0) | (with_reducible refine at_list ?_; refine wpList_neg rfl rfl rfl ?_; intro r hr0; have hr := hr0 _ (by first | with_reducible assumption | exact rfl); clear hr0) | (with_reducible refine at_list ?_; refine wpList_fop_g rfl rfl rfl rfl rfl ?_; intro r n hr0; have hr := hr0 _ _ (by first | with_reducible assumption | exact rfl) (by first | with_reducible assumption | exact rfl); clear hr0) | (with_reducible refine at_list ?_; refine wpList_wide_g rfl rfl Try.underlying28 Try.underlying32 rfl ?_; intro r n hr0; have hr := hr0 _ (by first | with_reducible assumption | exact rfl); clear hr0) | (with_reducible refine at_list ?_; refine wpList_wide rfl rfl rfl Try.underlying28 Try.underlying32 ?_; intro r n hr0; have hr := hr0 _ (by first | with_reducible assumption | exact rfl); clear hr0))
  apply wp_region_plan
  apply wpC_val (.agg #[.float .f32 s.a, .float .f32 s.b, .float .f32 s.c, .float .f32 s.d, .float .f32 s.p, .float .f32 s.l])
  case hw => exact rfl
  case h1 =>
    intro w' hb hk
    have hk_0 : w'.cell? ⟨w.heap.size, 0, none⟩ = some (.float .f32 s.a) := cell_later hb (by go_simp)
    have hk_1 : w'.cell? ⟨w.heap.size, 1, none⟩ = some (.float .f32 s.b) := cell_later hb (by go_simp)
    have hk_2 : w'.cell? ⟨w.heap.size, 2, none⟩ = some (.float .f32 s.c) := cell_later hb (by go_simp)
    have hk_3 : w'.cell? ⟨w.heap.size, 3, none⟩ = some (.float .f32 s.d) := cell_later hb (by go_simp)
    have hk_4 : w'.cell? ⟨w.heap.size, 4, none⟩ = some (.float .f32 s.p) := cell_later hb (by go_simp)
    have hk_5 : w'.cell? ⟨w.heap.size, 5, none⟩ = some (.float .f32 s.l) := cell_later hb (by go_simp)
    have hk_6 : w'.cell? ⟨w.heap.size + 1, 0, none⟩ = some (.float .f32 t.a) := cell_later hb (by go_simp)
    have hk_7 : w'.cell? ⟨w.heap.size + 1, 1, none⟩ = some (.float .f32 t.b) := cell_later hb (by go_simp)
    have hk_8 : w'.cell? ⟨w.heap.size + 1, 2, none⟩ = some (.float .f32 t.c) := cell_later hb (by go_simp)
    have hk_9 : w'.cell? ⟨w.heap.size + 1, 3, none⟩ = some (.float .f32 t.d) := cell_later hb (by go_simp)
    have hk_10 : w'.cell? ⟨w.heap.size + 1, 4, none⟩ = some (.float .f32 t.p) := cell_later hb (by go_simp)
    have hk_11 : w'.cell? ⟨w.heap.size + 1, 5, none⟩ = some (.float .f32 t.l) := cell_later hb (by go_simp)
    go_simp
  apply wpC_norm
  case ha => simp only [Act.put, List.setIfInBounds_toArray, List.set_cons_zero, List.set_cons_succ]; exact rfl
  apply wpC_call (Clm.fs s.nums) rfl
  case hw => exact rfl
  case h1 => intro w'; go_simp; exact ⟨rfl, rfl⟩
  case hc => intro w' hb hk; exact (numbersOf_any s w').mono fun e w'' ⟨v, he, hb, hf⟩ => ⟨v, he, hb, trivial, hf⟩
  rintro v1 -
  apply wpC_norm
  case ha => simp only [Act.put, List.setIfInBounds_toArray, List.set_cons_zero, List.set_cons_succ]; exact rfl
  apply wpC_val (.agg #[.float .f32 t.a, .float .f32 t.b, .float .f32 t.c, .float .f32 t.d, .float .f32 t.p, .float .f32 t.l])
  case hw => exact rfl
  case h1 =>
    intro w' hb hk
    have hk_0 : w'.cell? ⟨w.heap.size, 0, none⟩ = some (.float .f32 s.a) := cell_later hb (by go_simp)
    have hk_1 : w'.cell? ⟨w.heap.size, 1, none⟩ = some (.float .f32 s.b) := cell_later hb (by go_simp)
    have hk_2 : w'.cell? ⟨w.heap.size, 2, none⟩ = some (.float .f32 s.c) := cell_later hb (by go_simp)
    have hk_3 : w'.cell? ⟨w.heap.size, 3, none⟩ = some (.float .f32 s.d) := cell_later hb (by go_simp)
    have hk_4 : w'.cell? ⟨w.heap.size, 4, none⟩ = some (.float .f32 s.p) := cell_later hb (by go_simp)
    have hk_5 : w'.cell? ⟨w.heap.size, 5, none⟩ = some (.float .f32 s.l) := cell_later hb (by go_simp)
    have hk_6 : w'.cell? ⟨w.heap.size + 1, 0, none⟩ = some (.float .f32 t.a) := cell_later hb (by go_simp)
    have hk_7 : w'.cell? ⟨w.heap.size + 1, 1, none⟩ = some (.float .f32 t.b) := cell_later hb (by go_simp)
    have hk_8 : w'.cell? ⟨w.heap.size + 1, 2, none⟩ = some (.float .f32 t.c) := cell_later hb (by go_simp)
    have hk_9 : w'.cell? ⟨w.heap.size + 1, 3, none⟩ = some (.float .f32 t.d) := cell_later hb (by go_simp)
    have hk_10 : w'.cell? ⟨w.heap.size + 1, 4, none⟩ = some (.float .f32 t.p) := cell_later hb (by go_simp)
    have hk_11 : w'.cell? ⟨w.heap.size + 1, 5, none⟩ = some (.float .f32 t.l) := cell_later hb (by go_simp)
    go_simp
  apply wpC_norm
  case ha => simp only [Act.put, List.setIfInBounds_toArray, List.set_cons_zero, List.set_cons_succ]; exact rfl
  apply wpC_call (Clm.fs t.nums) rfl
  case hw => exact rfl
  case h1 => intro w'; go_simp; exact ⟨rfl, rfl⟩
  case hc => intro w' hb hk; exact (numbersOf_any t w').mono fun e w'' ⟨v, he, hb, hf⟩ => ⟨v, he, hb, trivial, hf⟩
  rintro v2 -
  apply wpC_norm
  case ha => simp only [Act.put, List.setIfInBounds_toArray, List.set_cons_zero, List.set_cons_succ]; exact rfl
  apply wpC_callB (.bool (s.sm t))
  case hw => exact rfl
  case h1 => intro w'; go_simp; exact ⟨rfl, rfl⟩
  case hc => intro w' hb hk; exact (St.sm_nums s t ▸ (sameNumbers_any s.nums t.nums v1 v2 w' hk.2.2.1 hk.1 HX.out HY.out).mono fun _ _ h => RB_BV h)
  apply wpC_norm
  case ha => simp only [Act.put, List.setIfInBounds_toArray, List.set_cons_zero, List.set_cons_succ]; exact rfl
  apply wpC_det
  case hw => exact rfl
  case hs => intro cs b h; cases h
  case h1 => intro w'; go_simp; exact rfl
  apply wpC_norm
  case ha => simp only [Act.put, List.setIfInBounds_toArray, List.set_cons_zero, List.set_cons_succ]; exact rfl
  refine wpC_nil ?_
  intro w1 hb1 hkk1
  have hk1_0 : w1.cell? ⟨w.heap.size, 0, none⟩ = some (.float .f32 s.a) := cell_later hb1 (by go_simp)
  have hz1_0 : w.heap.size < w1.heap.size := World.block_lt_of_cell? _ _ hk1_0
  have hk1_1 : w1.cell? ⟨w.heap.size, 1, none⟩ = some (.float .f32 s.b) := cell_later hb1 (by go_simp)
  have hk1_2 : w1.cell? ⟨w.heap.size, 2, none⟩ = some (.float .f32 s.c) := cell_later hb1 (by go_simp)
  have hk1_3 : w1.cell? ⟨w.heap.size, 3, none⟩ = some (.float .f32 s.d) := cell_later hb1 (by go_simp)
  have hk1_4 : w1.cell? ⟨w.heap.size, 4, none⟩ = some (.float .f32 s.p) := cell_later hb1 (by go_simp)
  have hk1_5 : w1.cell? ⟨w.heap.size, 5, none⟩ = some (.float .f32 s.l) := cell_later hb1 (by go_simp)
  have hk1_6 : w1.cell? ⟨w.heap.size + 1, 0, none⟩ = some (.float .f32 t.a) := cell_later hb1 (by go_simp)
  have hz1_6 : w.heap.size + 1 < w1.heap.size := World.block_lt_of_cell? _ _ hk1_6
  have hk1_7 : w1.cell? ⟨w.heap.size + 1, 1, none⟩ = some (.float .f32 t.b) := cell_later hb1 (by go_simp)
  have hk1_8 : w1.cell? ⟨w.heap.size + 1, 2, none⟩ = some (.float .f32 t.c) := cell_later hb1 (by go_simp)
  have hk1_9 : w1.cell? ⟨w.heap.size + 1, 3, none⟩ = some (.float .f32 t.d) := cell_later hb1 (by go_simp)
  have hk1_10 : w1.cell? ⟨w.heap.size + 1, 4, none⟩ = some (.float .f32 t.p) := cell_later hb1 (by go_simp)
  have hk1_11 : w1.cell? ⟨w.heap.size + 1, 5, none⟩ = some (.float .f32 t.l) := cell_later hb1 (by go_simp)
  go_wp2_with (first | (with_reducible refine at_list ?_; refine wpList_fop rfl rfl rfl rfl rfl ?_; intro r n hr0; have hr := hr0 _ _ (by first | with_reducible assumption | exact rfl) (by first | with_reducible assumption | exact rfl); clear hr0) | (with_reducible refine at_list ?_; refine wpList_neg rfl rfl rfl ?_; intro r hr0; have hr := hr0 _ (by first | with_reducible assumption | exact rfl); clear hr0) | (with_reducible refine at_list ?_; refine wpList_fop_g rfl rfl rfl rfl rfl ?_; intro r n hr0; have hr := hr0 _ _ (by first | with_reducible assumption | exact rfl) (by first | with_reducible assumption | exact rfl); clear hr0) | (with_reducible refine at_list ?_; refine wpList_wide_g rfl rfl Try.underlying28 Try.underlying32 rfl ?_; intro r n hr0; have hr := hr0 _ (by first | with_reducible assumption | exact rfl); clear hr0) | (with_reducible refine at_list ?_; refine wpList_wide rfl rfl rfl Try.underlying28 Try.underlying32 ?_; intro r n hr0; have hr := hr0 _ (by first | with_reducible assumption | exact rfl); clear hr0))
  go_ret
  exact ⟨rfl, by (repeat (first | exact Below.refl _ _ | refine below_then ?_ (by assumption) | refine below_drewN ?_ _ | apply Below.drew | refine below_alloc ?_ _ | refine Below.setCell ?_ (by first | (simp; done) | (simp; omega)) _))⟩
  all_goals first | kernel_rfl | rfl
set_option maxHeartbeats 1000000 in
theorem walk_FnExactSameStuff (s t : St) (hs : s.wf) (ht : t.wf) (w : World) : Calls Try.prog 10 #[.agg #[.float .f32 s.a, .float .f32 s.b, .float .f32 s.c, .float .f32 s.d, .float .f32 s.p, .float .f32 s.l], .agg #[.float .f32 t.a, .float .f32 t.b, .float .f32 t.c, .float .f32 t.d, .float .f32 t.p, .float .f32 t.l]] w (BV w (.bool true)) := by
  have lt : ∀ c, (Lit.float .f32 c).wf = true → c < 4294967296 := fun c h => by simpa [Lit.wf] using h
  have hx : s.lt := ⟨lt _ hs.1, lt _ hs.2.1, lt _ hs.2.2.1, lt _ hs.2.2.2.1, lt _ hs.2.2.2.2.1, lt _ hs.2.2.2.2.2⟩
  have hy : t.lt := ⟨lt _ ht.1, lt _ ht.2.1, lt _ ht.2.2.1, lt _ ht.2.2.2.1, lt _ ht.2.2.2.2.1, lt _ ht.2.2.2.2.2⟩
  have HX := Lib.hid hx
  have HY := Lib.hid hy
  clear hx hy hs ht lt
  go_enter Try.func10, Try.ntmps10
  go_wp2_with (first | (with_reducible refine at_list ?_; refine wpList_fop rfl rfl rfl rfl rfl ?_; intro r n hr0; have hr := hr0 _ _ (by first | with_reducible assumption | exact rfl) (by first | with_reducible assumption | exact rfl); clear hr0) | (with_reducible refine at_list ?_; refine wpList_neg rfl rfl rfl ?_; intro r hr0; have hr := hr0 _ (by first | with_reducible assumption | exact rfl); clear hr0) | (with_reducible refine at_list ?_; refine wpList_fop_g rfl rfl rfl rfl rfl ?_; intro r n hr0; have hr := hr0 _ _ (by first | with_reducible assumption | exact rfl) (by first | with_reducible assumption | exact rfl); clear hr0) | (with_reducible refine at_list ?_; refine wpList_wide_g rfl rfl Try.underlying28 Try.underlying32 rfl ?_; intro r n hr0; have hr := hr0 _ (by first | with_reducible assumption | exact rfl); clear hr0) | (with_reducible refine at_list ?_; refine wpList_wide rfl rfl rfl Try.underlying28 Try.underlying32 ?_; intro r n hr0; have hr := hr0 _ (by first | with_reducible assumption | exact rfl); clear hr0))
  apply wp_region_plan
  apply wpC_val (.agg #[.float .f32 s.a, .float .f32 s.b, .float .f32 s.c, .float .f32 s.d, .float .f32 s.p, .float .f32 s.l])
  case hw => exact rfl
  case h1 =>
    intro w' hb hk
    have hk_0 : w'.cell? ⟨w.heap.size, 0, none⟩ = some (.float .f32 s.a) := cell_later hb (by go_simp)
    have hk_1 : w'.cell? ⟨w.heap.size, 1, none⟩ = some (.float .f32 s.b) := cell_later hb (by go_simp)
    have hk_2 : w'.cell? ⟨w.heap.size, 2, none⟩ = some (.float .f32 s.c) := cell_later hb (by go_simp)
    have hk_3 : w'.cell? ⟨w.heap.size, 3, none⟩ = some (.float .f32 s.d) := cell_later hb (by go_simp)
    have hk_4 : w'.cell? ⟨w.heap.size, 4, none⟩ = some (.float .f32 s.p) := cell_later hb (by go_simp)
    have hk_5 : w'.cell? ⟨w.heap.size, 5, none⟩ = some (.float .f32 s.l) := cell_later hb (by go_simp)
    have hk_6 : w'.cell? ⟨w.heap.size + 1, 0, none⟩ = some (.float .f32 t.a) := cell_later hb (by go_simp)
    have hk_7 : w'.cell? ⟨w.heap.size + 1, 1, none⟩ = some (.float .f32 t.b) := cell_later hb (by go_simp)
    have hk_8 : w'.cell? ⟨w.heap.size + 1, 2, none⟩ = some (.float .f32 t.c) := cell_later hb (by go_simp)
    have hk_9 : w'.cell? ⟨w.heap.size + 1, 3, none⟩ = some (.float .f32 t.d) := cell_later hb (by go_simp)
    have hk_10 : w'.cell? ⟨w.heap.size + 1, 4, none⟩ = some (.float .f32 t.p) := cell_later hb (by go_simp)
    have hk_11 : w'.cell? ⟨w.heap.size + 1, 5, none⟩ = some (.float .f32 t.l) := cell_later hb (by go_simp)
    go_simp
  apply wpC_norm
  case ha => simp only [Act.put, List.setIfInBounds_toArray, List.set_cons_zero, List.set_cons_succ]; exact rfl
  apply wpC_callB (.agg #[.float .f32 s.a, .float .f32 s.b, .float .f32 s.c, .float .f32 s.d, .float .f32 s.p, .float .f32 s.l])
  case hw => exact rfl
  case h1 => intro w'; go_simp; exact ⟨rfl, rfl⟩
  case hc => intro w' hb hk; exact toStuff_any _ _
  apply wpC_norm
  case ha => simp only [Act.put, List.setIfInBounds_toArray, List.set_cons_zero, List.set_cons_succ]; exact rfl
  apply wpC_val (.agg #[.float .f32 t.a, .float .f32 t.b, .float .f32 t.c, .float .f32 t.d, .float .f32 t.p, .float .f32 t.l])
  case hw => exact rfl
  case h1 =>
    intro w' hb hk
    have hk_0 : w'.cell? ⟨w.heap.size, 0, none⟩ = some (.float .f32 s.a) := cell_later hb (by go_simp)
    have hk_1 : w'.cell? ⟨w.heap.size, 1, none⟩ = some (.float .f32 s.b) := cell_later hb (by go_simp)
    have hk_2 : w'.cell? ⟨w.heap.size, 2, none⟩ = some (.float .f32 s.c) := cell_later hb (by go_simp)
    have hk_3 : w'.cell? ⟨w.heap.size, 3, none⟩ = some (.float .f32 s.d) := cell_later hb (by go_simp)
    have hk_4 : w'.cell? ⟨w.heap.size, 4, none⟩ = some (.float .f32 s.p) := cell_later hb (by go_simp)
    have hk_5 : w'.cell? ⟨w.heap.size, 5, none⟩ = some (.float .f32 s.l) := cell_later hb (by go_simp)
    have hk_6 : w'.cell? ⟨w.heap.size + 1, 0, none⟩ = some (.float .f32 t.a) := cell_later hb (by go_simp)
    have hk_7 : w'.cell? ⟨w.heap.size + 1, 1, none⟩ = some (.float .f32 t.b) := cell_later hb (by go_simp)
    have hk_8 : w'.cell? ⟨w.heap.size + 1, 2, none⟩ = some (.float .f32 t.c) := cell_later hb (by go_simp)
    have hk_9 : w'.cell? ⟨w.heap.size + 1, 3, none⟩ = some (.float .f32 t.d) := cell_later hb (by go_simp)
    have hk_10 : w'.cell? ⟨w.heap.size + 1, 4, none⟩ = some (.float .f32 t.p) := cell_later hb (by go_simp)
    have hk_11 : w'.cell? ⟨w.heap.size + 1, 5, none⟩ = some (.float .f32 t.l) := cell_later hb (by go_simp)
    go_simp
  apply wpC_norm
  case ha => simp only [Act.put, List.setIfInBounds_toArray, List.set_cons_zero, List.set_cons_succ]; exact rfl
  apply wpC_callB (.agg #[.float .f32 t.a, .float .f32 t.b, .float .f32 t.c, .float .f32 t.d, .float .f32 t.p, .float .f32 t.l])
  case hw => exact rfl
  case h1 => intro w'; go_simp; exact ⟨rfl, rfl⟩
  case hc => intro w' hb hk; exact toStuff_any _ _
  apply wpC_norm
  case ha => simp only [Act.put, List.setIfInBounds_toArray, List.set_cons_zero, List.set_cons_succ]; exact rfl
  apply wpC_callB (.bool (s.sm t))
  case hw => exact rfl
  case h1 => intro w'; go_simp; exact ⟨rfl, rfl⟩
  case hc => intro w' hb hk; exact specSameStuff_any s t HX.out HY.out _
  apply wpC_norm
  case ha => simp only [Act.put, List.setIfInBounds_toArray, List.set_cons_zero, List.set_cons_succ]; exact rfl
  apply wpC_det
  case hw => exact rfl
  case hs => intro cs b h; cases h
  case h1 => intro w'; go_simp; exact rfl
  apply wpC_norm
  case ha => simp only [Act.put, List.setIfInBounds_toArray, List.set_cons_zero, List.set_cons_succ]; exact rfl
  refine wpC_nil ?_
  intro w1 hb1 hkk1
  have hk1_0 : w1.cell? ⟨w.heap.size, 0, none⟩ = some (.float .f32 s.a) := cell_later hb1 (by go_simp)
  have hz1_0 : w.heap.size < w1.heap.size := World.block_lt_of_cell? _ _ hk1_0
  have hk1_1 : w1.cell? ⟨w.heap.size, 1, none⟩ = some (.float .f32 s.b) := cell_later hb1 (by go_simp)
  have hk1_2 : w1.cell? ⟨w.heap.size, 2, none⟩ = some (.float .f32 s.c) := cell_later hb1 (by go_simp)
  have hk1_3 : w1.cell? ⟨w.heap.size, 3, none⟩ = some (.float .f32 s.d) := cell_later hb1 (by go_simp)
  have hk1_4 : w1.cell? ⟨w.heap.size, 4, none⟩ = some (.float .f32 s.p) := cell_later hb1 (by go_simp)
  have hk1_5 : w1.cell? ⟨w.heap.size, 5, none⟩ = some (.float .f32 s.l) := cell_later hb1 (by go_simp)
  have hk1_6 : w1.cell? ⟨w.heap.size + 1, 0, none⟩ = some (.float .f32 t.a) := cell_later hb1 (by go_simp)
  have hz1_6 : w.heap.size + 1 < w1.heap.size := World.block_lt_of_cell? _ _ hk1_6
  have hk1_7 : w1.cell? ⟨w.heap.size + 1, 1, none⟩ = some (.float .f32 t.b) := cell_later hb1 (by go_simp)
  have hk1_8 : w1.cell? ⟨w.heap.size + 1, 2, none⟩ = some (.float .f32 t.c) := cell_later hb1 (by go_simp)
  have hk1_9 : w1.cell? ⟨w.heap.size + 1, 3, none⟩ = some (.float .f32 t.d) := cell_later hb1 (by go_simp)
  have hk1_10 : w1.cell? ⟨w.heap.size + 1, 4, none⟩ = some (.float .f32 t.p) := cell_later hb1 (by go_simp)
  have hk1_11 : w1.cell? ⟨w.heap.size + 1, 5, none⟩ = some (.float .f32 t.l) := cell_later hb1 (by go_simp)
  go_wp2_with (first | (with_reducible refine at_list ?_; refine wpList_fop rfl rfl rfl rfl rfl ?_; intro r n hr0; have hr := hr0 _ _ (by first | with_reducible assumption | exact rfl) (by first | with_reducible assumption | exact rfl); clear hr0) | (with_reducible refine at_list ?_; refine wpList_neg rfl rfl rfl ?_; intro r hr0; have hr := hr0 _ (by first | with_reducible assumption | exact rfl); clear hr0) | (with_reducible refine at_list ?_; refine wpList_fop_g rfl rfl rfl rfl rfl ?_; intro r n hr0; have hr := hr0 _ _ (by first | with_reducible assumption | exact rfl) (by first | with_reducible assumption | exact rfl); clear hr0) | (with_reducible refine at_list ?_; refine wpList_wide_g rfl rfl Try.underlying28 Try.underlying32 rfl ?_; intro r n hr0; have hr := hr0 _ (by first | with_reducible assumption | exact rfl); clear hr0) | (with_reducible refine at_list ?_; refine wpList_wide rfl rfl rfl Try.underlying28 Try.underlying32 ?_; intro r n hr0; have hr := hr0 _ (by first | with_reducible assumption | exact rfl); clear hr0))
  apply wp_region_plan
  apply wpC_val (.agg #[.float .f32 s.a, .float .f32 s.b, .float .f32 s.c, .float .f32 s.d, .float .f32 s.p, .float .f32 s.l])
  case hw => exact rfl
  case h1 =>
    intro w' hb hk
    have hk_0 : w'.cell? ⟨w.heap.size, 0, none⟩ = some (.float .f32 s.a) := cell_later hb (by go_simp)
    have hk_1 : w'.cell? ⟨w.heap.size, 1, none⟩ = some (.float .f32 s.b) := cell_later hb (by go_simp)
    have hk_2 : w'.cell? ⟨w.heap.size, 2, none⟩ = some (.float .f32 s.c) := cell_later hb (by go_simp)
    have hk_3 : w'.cell? ⟨w.heap.size, 3, none⟩ = some (.float .f32 s.d) := cell_later hb (by go_simp)
    have hk_4 : w'.cell? ⟨w.heap.size, 4, none⟩ = some (.float .f32 s.p) := cell_later hb (by go_simp)
    have hk_5 : w'.cell? ⟨w.heap.size, 5, none⟩ = some (.float .f32 s.l) := cell_later hb (by go_simp)
    have hk_6 : w'.cell? ⟨w.heap.size + 1, 0, none⟩ = some (.float .f32 t.a) := cell_later hb (by go_simp)
    have hk_7 : w'.cell? ⟨w.heap.size + 1, 1, none⟩ = some (.float .f32 t.b) := cell_later hb (by go_simp)
    have hk_8 : w'.cell? ⟨w.heap.size + 1, 2, none⟩ = some (.float .f32 t.c) := cell_later hb (by go_simp)
    have hk_9 : w'.cell? ⟨w.heap.size + 1, 3, none⟩ = some (.float .f32 t.d) := cell_later hb (by go_simp)
    have hk_10 : w'.cell? ⟨w.heap.size + 1, 4, none⟩ = some (.float .f32 t.p) := cell_later hb (by go_simp)
    have hk_11 : w'.cell? ⟨w.heap.size + 1, 5, none⟩ = some (.float .f32 t.l) := cell_later hb (by go_simp)
    go_simp
  apply wpC_norm
  case ha => simp only [Act.put, List.setIfInBounds_toArray, List.set_cons_zero, List.set_cons_succ]; exact rfl
  apply wpC_callB (.agg #[.float .f32 s.a, .float .f32 s.b, .float .f32 s.c, .float .f32 s.d, .float .f32 s.p, .float .f32 s.l])
  case hw => exact rfl
  case h1 => intro w'; go_simp; exact ⟨rfl, rfl⟩
  case hc => intro w' hb hk; exact toStuff_any _ _
  apply wpC_norm
  case ha => simp only [Act.put, List.setIfInBounds_toArray, List.set_cons_zero, List.set_cons_succ]; exact rfl
  apply wpC_val (.agg #[.float .f32 t.a, .float .f32 t.b, .float .f32 t.c, .float .f32 t.d, .float .f32 t.p, .float .f32 t.l])
  case hw => exact rfl
  case h1 =>
    intro w' hb hk
    have hk_0 : w'.cell? ⟨w.heap.size, 0, none⟩ = some (.float .f32 s.a) := cell_later hb (by go_simp)
    have hk_1 : w'.cell? ⟨w.heap.size, 1, none⟩ = some (.float .f32 s.b) := cell_later hb (by go_simp)
    have hk_2 : w'.cell? ⟨w.heap.size, 2, none⟩ = some (.float .f32 s.c) := cell_later hb (by go_simp)
    have hk_3 : w'.cell? ⟨w.heap.size, 3, none⟩ = some (.float .f32 s.d) := cell_later hb (by go_simp)
    have hk_4 : w'.cell? ⟨w.heap.size, 4, none⟩ = some (.float .f32 s.p) := cell_later hb (by go_simp)
    have hk_5 : w'.cell? ⟨w.heap.size, 5, none⟩ = some (.float .f32 s.l) := cell_later hb (by go_simp)
    have hk_6 : w'.cell? ⟨w.heap.size + 1, 0, none⟩ = some (.float .f32 t.a) := cell_later hb (by go_simp)
    have hk_7 : w'.cell? ⟨w.heap.size + 1, 1, none⟩ = some (.float .f32 t.b) := cell_later hb (by go_simp)
    have hk_8 : w'.cell? ⟨w.heap.size + 1, 2, none⟩ = some (.float .f32 t.c) := cell_later hb (by go_simp)
    have hk_9 : w'.cell? ⟨w.heap.size + 1, 3, none⟩ = some (.float .f32 t.d) := cell_later hb (by go_simp)
    have hk_10 : w'.cell? ⟨w.heap.size + 1, 4, none⟩ = some (.float .f32 t.p) := cell_later hb (by go_simp)
    have hk_11 : w'.cell? ⟨w.heap.size + 1, 5, none⟩ = some (.float .f32 t.l) := cell_later hb (by go_simp)
    go_simp
  apply wpC_norm
  case ha => simp only [Act.put, List.setIfInBounds_toArray, List.set_cons_zero, List.set_cons_succ]; exact rfl
  apply wpC_callB (.agg #[.float .f32 t.a, .float .f32 t.b, .float .f32 t.c, .float .f32 t.d, .float .f32 t.p, .float .f32 t.l])
  case hw => exact rfl
  case h1 => intro w'; go_simp; exact ⟨rfl, rfl⟩
  case hc => intro w' hb hk; exact toStuff_any _ _
  apply wpC_norm
  case ha => simp only [Act.put, List.setIfInBounds_toArray, List.set_cons_zero, List.set_cons_succ]; exact rfl
  apply wpC_callB (.bool (s.sm t))
  case hw => exact rfl
  case h1 => intro w'; go_simp; exact ⟨rfl, rfl⟩
  case hc => intro w' hb hk; exact implSameStuff_any s t HX.out HY.out _
  apply wpC_norm
  case ha => simp only [Act.put, List.setIfInBounds_toArray, List.set_cons_zero, List.set_cons_succ]; exact rfl
  apply wpC_det
  case hw => exact rfl
  case hs => intro cs b h; cases h
  case h1 => intro w'; go_simp; exact rfl
  apply wpC_norm
  case ha => simp only [Act.put, List.setIfInBounds_toArray, List.set_cons_zero, List.set_cons_succ]; exact rfl
  refine wpC_nil ?_
  intro w2 hb2 hkk2
  have hk2_0 : w2.cell? ⟨w.heap.size, 0, none⟩ = some (.float .f32 s.a) := cell_later hb2 (by go_simp)
  have hz2_0 : w.heap.size < w2.heap.size := World.block_lt_of_cell? _ _ hk2_0
  have hk2_1 : w2.cell? ⟨w.heap.size, 1, none⟩ = some (.float .f32 s.b) := cell_later hb2 (by go_simp)
  have hk2_2 : w2.cell? ⟨w.heap.size, 2, none⟩ = some (.float .f32 s.c) := cell_later hb2 (by go_simp)
  have hk2_3 : w2.cell? ⟨w.heap.size, 3, none⟩ = some (.float .f32 s.d) := cell_later hb2 (by go_simp)
  have hk2_4 : w2.cell? ⟨w.heap.size, 4, none⟩ = some (.float .f32 s.p) := cell_later hb2 (by go_simp)
  have hk2_5 : w2.cell? ⟨w.heap.size, 5, none⟩ = some (.float .f32 s.l) := cell_later hb2 (by go_simp)
  have hk2_6 : w2.cell? ⟨w.heap.size + 1, 0, none⟩ = some (.float .f32 t.a) := cell_later hb2 (by go_simp)
  have hz2_6 : w.heap.size + 1 < w2.heap.size := World.block_lt_of_cell? _ _ hk2_6
  have hk2_7 : w2.cell? ⟨w.heap.size + 1, 1, none⟩ = some (.float .f32 t.b) := cell_later hb2 (by go_simp)
  have hk2_8 : w2.cell? ⟨w.heap.size + 1, 2, none⟩ = some (.float .f32 t.c) := cell_later hb2 (by go_simp)
  have hk2_9 : w2.cell? ⟨w.heap.size + 1, 3, none⟩ = some (.float .f32 t.d) := cell_later hb2 (by go_simp)
  have hk2_10 : w2.cell? ⟨w.heap.size + 1, 4, none⟩ = some (.float .f32 t.p) := cell_later hb2 (by go_simp)
  have hk2_11 : w2.cell? ⟨w.heap.size + 1, 5, none⟩ = some (.float .f32 t.l) := cell_later hb2 (by go_simp)
  go_wp2_with (first | (with_reducible refine at_list ?_; refine wpList_fop rfl rfl rfl rfl rfl ?_; intro r n hr0; have hr := hr0 _ _ (by first | with_reducible assumption | exact rfl) (by first | with_reducible assumption | exact rfl); clear hr0) | (with_reducible refine at_list ?_; refine wpList_neg rfl rfl rfl ?_; intro r hr0; have hr := hr0 _ (by first | with_reducible assumption | exact rfl); clear hr0) | (with_reducible refine at_list ?_; refine wpList_fop_g rfl rfl rfl rfl rfl ?_; intro r n hr0; have hr := hr0 _ _ (by first | with_reducible assumption | exact rfl) (by first | with_reducible assumption | exact rfl); clear hr0) | (with_reducible refine at_list ?_; refine wpList_wide_g rfl rfl Try.underlying28 Try.underlying32 rfl ?_; intro r n hr0; have hr := hr0 _ (by first | with_reducible assumption | exact rfl); clear hr0) | (with_reducible refine at_list ?_; refine wpList_wide rfl rfl rfl Try.underlying28 Try.underlying32 ?_; intro r n hr0; have hr := hr0 _ (by first | with_reducible assumption | exact rfl); clear hr0))
  go_ret
  exact ⟨rfl, by (repeat (first | exact Below.refl _ _ | refine below_then ?_ (by assumption) | refine below_drewN ?_ _ | apply Below.drew | refine below_alloc ?_ _ | refine Below.setCell ?_ (by first | (simp; done) | (simp; omega)) _))⟩
  all_goals first | kernel_rfl | rfl
set_option maxRecDepth 100000 in
theorem lifted_FnExactSameStuff (os : Os) (started : os.Started) (H : Type) (enc : TypeId × Value → H) :
    ReturnsInHanded {} Try.checked os 10 .any (Rows.fnExactSameStuffSpec.pre6 enc Try.prog Try.f10 Rows.fnExactSameStuffRow.domain false) (Rows.fnExactSameStuffSpec.post enc Try.prog Try.f10 false true false false) := by
  refine returnsInHanded_of_change (C := Try.checked) own started (by kernel_rfl) Try.func10
    (ChangeSpec.witness6 (enc := enc) (C := Try.checked) false ⟨#[], #[.agg #[.float .f32 0, .float .f32 0, .float .f32 0, .float .f32 0, .float .f32 0, .float .f32 0], .agg #[.float .f32 0, .float .f32 0, .float .f32 0, .float .f32 0, .float .f32 0, .float .f32 0]], []⟩ 8 (by kernel_rfl) (by kernel_rfl) (by kernel_rfl) (by kernel_rfl)) ?_
  intro W base args ds gs before hval0 hW hcnd _
  have hval : ∀ (j : Nat) t v, Try.f10.params[j]? = some t → args[j]? = some v → Value.okWide Try.prog W .any base t v := hval0
  have hW' := hW
  obtain ⟨p, q, hA0, hV, rfl, hfz, hnd⟩ := hW
  have hA : DataW.TrodAll enc Try.prog W 0 (fun _ => true) true Try.f10.params.toList args.toList ds p := hA0
  rw [Try.params10] at hA hval
  obtain ⟨v0, vs0, d0, ds0, p0, q0, hargs, rfl, rfl, h0, r0⟩ := trodAll_cons hA
  obtain ⟨v1, vs1, d1, ds1, p1, q1, rfl, rfl, rfl, h1, r1⟩ := trodAll_cons r0
  obtain ⟨rfl, rfl, rfl⟩ := trodAll_nil r1
  obtain rfl : args = #[v0, v1] := by cases args; simp_all
  obtain ⟨rfl, rfl⟩ := trodVars_none hV
  have k0 := h0
  have lt0 : ∀ x ∈ p0, x.block < W.heap.size := by obtain ⟨m, hm⟩ := k0; exact DataW.trod_lt m _ _ _ hm
  obtain ⟨s, rfl, w0⟩ := open_Stuff (hval 0 35 v0 rfl rfl) h0
  have k1 := h1
  have lt1 : ∀ x ∈ p1, x.block < W.heap.size := by obtain ⟨m, hm⟩ := k1; exact DataW.trod_lt m _ _ _ hm
  obtain ⟨t, rfl, w1⟩ := open_Stuff (hval 1 35 v1 rfl rfl) h1
  clear hA0 hval0
  refine (walk_FnExactSameStuff s t w0 w1 W).mono fun e W' ⟨he, hg⟩ => ?_
  subst he
  exact ⟨_, rfl, _, _, _, [], _, [], hW', trodAll_mk1 (shut_bool Try.underlying4 _), (trodAll_cons_mk (Below.trod laidOut (by kernel_rfl) (of_decide_eq_true (by kernel_rfl)) k0 hg lt0) (trodAll_cons_mk (Below.trod laidOut (by kernel_rfl) (of_decide_eq_true (by kernel_rfl)) k1 hg lt1) trodAll_mk0)), rfl, hg.frame _, fun h => by cases h⟩
theorem fnExactSameStuff_holds : Rows.FnExactSameStuffSaid :=
  OpenClaim.holds_of_wide 10 Try.f10 rfl rfl rfl rfl rfl rfl rfl ⟨rfl, rfl, rfl, rfl, rfl⟩ rfl rfl rfl rfl rfl (by kernel_rfl) Try.func10 (by kernel_rfl)
    (of_decide_eq_true (by kernel_rfl)) (by unfold Func.isWrapper; rw [if_neg (of_decide_eq_false (by kernel_rfl))]; exact ⟨rfl, rfl⟩)
    (fun os started H enc _ => lifted_FnExactSameStuff os started H enc)
end Go.Proofs.Ytpdpokbjfnnomaa

/-
  Neighbours of cells on a plate: what a neighbour is; the program's and the reference's ways to find them. No condition but what each contract says.
-/
import Derived.Test.YtphamdlnnfionaaDel
import Derived.Test.YtphamdlnnfionaaPlSum
import Derived.IntWalk
set_option linter.unusedSimpArgs false
set_option linter.unusedVariables false
set_option linter.unusedSectionVars false
namespace Go.Proofs.Ytphamdlnnfionaa
open Go Go.RowKit
open Go.ChangeShapes Go.WideShapes Go.ChangeAt Go.RowKit Go.Joins
/-- A neighbour of a cell, -1 where there is none. -/
def nb (W H i dx dy : Int) : Int := if (inB (i % W + dx) 0 (W - 1) && inB (i / W + dy) 0 (H - 1)) = true then (i / W + dy) * W + (i % W + dx) else -1
theorem inB_true {n lo hi : Int} : inB n lo hi = true ↔ lo ≤ n ∧ n ≤ hi := by simp [inB]
theorem nb_cases (W H i dx dy : Int) : (nb W H i dx dy = -1 ∧ ¬ (0 ≤ i % W + dx ∧ i % W + dx ≤ W - 1 ∧ 0 ≤ i / W + dy ∧ i / W + dy ≤ H - 1)) ∨ (nb W H i dx dy = (i / W + dy) * W + (i % W + dx) ∧ 0 ≤ i % W + dx ∧ i % W + dx ≤ W - 1 ∧ 0 ≤ i / W + dy ∧ i / W + dy ≤ H - 1) := by
  unfold nb
  split
  · rename_i h
    rw [Bool.and_eq_true, inB_true, inB_true] at h
    exact .inr ⟨rfl, h.1.1, h.1.2, h.2.1, h.2.2⟩
  · rename_i h
    rw [Bool.and_eq_true, inB_true, inB_true] at h
    exact .inl ⟨rfl, fun g => h ⟨⟨g.1, g.2.1⟩, g.2.2.1, g.2.2.2⟩⟩
theorem mul_fits {W H x y : Int} (hx : 0 ≤ x) (hx' : x ≤ W - 1) (hy : 0 ≤ y) (hy' : y ≤ H - 1) : 0 ≤ y * W ∧ 0 ≤ y * W + x ∧ y * W + x ≤ W * H - 1 := by
  have h1 : 0 ≤ y * W := Int.mul_nonneg hy (by omega)
  have h2 : (y + 1) * W ≤ H * W := Int.mul_le_mul_of_nonneg_right (by omega) (by omega)
  rw [Int.add_mul, Int.one_mul, Int.mul_comm H W] at h2
  exact ⟨h1, by omega, by omega⟩
theorem nb_range (W H i dx dy : Int) : nb W H i dx dy = -1 ∨ (0 ≤ nb W H i dx dy ∧ nb W H i dx dy ≤ W * H - 1) := by
  rcases nb_cases W H i dx dy with ⟨e, _⟩ | ⟨e, a, b, c, d⟩
  · exact .inl e
  · have := mul_fits a b c d
    exact .inr ⟨by rw [e]; omega, by rw [e]; omega⟩
theorem cell_xy {W H i : Int} (hW : 1 ≤ W) (h0 : 0 ≤ i) (h1 : i ≤ W * H - 1) : 0 ≤ i % W ∧ i % W ≤ W - 1 ∧ 0 ≤ i / W ∧ i / W ≤ H - 1 ∧ i = i / W * W + i % W := by
  have a := Int.emod_nonneg i (b := W) (by omega)
  have b := Int.emod_lt_of_pos i (b := W) (by omega)
  have c := Int.ediv_nonneg h0 (b := W) (by omega)
  have d : i / W < H := Int.ediv_lt_of_lt_mul (by omega) (by rw [Int.mul_comm]; omega)
  have e := Int.mul_ediv_add_emod i W
  rw [Int.mul_comm] at e
  exact ⟨a, by omega, c, by omega, e.symm⟩
section
variable {W H i : Int} (hW : 1 ≤ W) (h0 : 0 ≤ i) (h1 : i ≤ W * H - 1)
include hW h0 h1
theorem nb_up : nb W H i 0 (-1) = if i < W then -1 else i - W := by
  obtain ⟨a, b, c, d, e⟩ := cell_xy hW h0 h1
  rcases nb_cases W H i 0 (-1) with ⟨e1, h⟩ | ⟨e1, h2, h3, h4, h5⟩
  · rw [e1, if_pos]
    have : i / W = 0 := by omega
    rw [this] at e; omega
  · have h6 : 1 * W ≤ i / W * W := Int.mul_le_mul_of_nonneg_right (by omega) (by omega)
    rw [e1, if_neg (by omega), Int.add_mul]; omega
theorem nb_down : nb W H i 0 1 = if W * (H - 1) ≤ i then -1 else i + W := by
  obtain ⟨a, b, c, d, e⟩ := cell_xy hW h0 h1
  rcases nb_cases W H i 0 1 with ⟨e1, h⟩ | ⟨e1, h2, h3, h4, h5⟩
  · rw [e1, if_pos]
    have : i / W = H - 1 := by omega
    rw [this, Int.mul_comm] at e; omega
  · have h6 : (i / W + 1) * W ≤ (H - 1) * W := Int.mul_le_mul_of_nonneg_right (by omega) (by omega)
    rw [Int.mul_comm (H - 1) W] at h6
    rw [e1, if_neg (by rw [Int.add_mul] at h6; omega), Int.add_mul]; omega
theorem nb_left : nb W H i (-1) 0 = if i % W = 0 then -1 else i - 1 := by
  obtain ⟨a, b, c, d, e⟩ := cell_xy hW h0 h1
  rcases nb_cases W H i (-1) 0 with ⟨e1, h⟩ | ⟨e1, h2, h3, h4, h5⟩
  · rw [e1, if_pos (by omega)]
  · rw [e1, if_neg (by omega), Int.add_zero]; omega
theorem nb_right : nb W H i 1 0 = if i % W = W - 1 then -1 else i + 1 := by
  obtain ⟨a, b, c, d, e⟩ := cell_xy hW h0 h1
  rcases nb_cases W H i 1 0 with ⟨e1, h⟩ | ⟨e1, h2, h3, h4, h5⟩
  · rw [e1, if_pos (by omega)]
  · rw [e1, if_neg (by omega), Int.add_zero]; omega
end
def nbs (W H i : Int) : List Int := [nb W H i 0 (-1), nb W H i (-1) 0, nb W H i 1 0, nb W H i 0 1]
def nbl (W H i : Int) : List Int := (nbs W H i).filter fun k => !decide (k < 0)
theorem tmod_pos {a b : Int} (h : 0 ≤ a) : a.tmod b = a % b := Int.tmod_eq_emod_of_nonneg h
theorem tdiv_pos {a b : Int} (h : 0 ≤ a) : a.tdiv b = a / b := Int.tdiv_eq_ediv_of_nonneg h
/-- In a plan: a slice of whole numbers that is written out. -/
def Clm.rowI (o n : Nat) (xs : List Int) : Clm := ⟨1, fun _ u => ∃ b, u = .slice (some ⟨b, 0, none⟩) n n, fun _ u w => OI o w u xs, fun _ => ⟨_, 0, rfl⟩,
  fun _ u w w' h hb => h.later hb, fun h => nomatch h⟩
theorem OI.lit (w : World) (B n : Nat) (xs : List Int) (hn : xs.length = n) (hB : B ≤ w.heap.size) (hx : n ≤ 1000) : OI B (w.alloc (.cells (xs.map (Value.int .i64)).toArray 2)) (.slice (some ⟨w.heap.size, 0, none⟩) n n) xs := by
  subst hn
  have := World.ownsRow_lit (e := 2) (size := 1) w (xs.map (Value.int .i64)).toArray xs.length hB (by unfold maxLen; omega) (by simp)
  simpa [OI] using this
theorem wpC_rowI {ops : Array Oper} {Q : Exit → Act → World → Prop} {W : World} {l : List Oper} {cs : List Clm} {i : Nat} {ks : List (Nat × (World → Prop))} {a : Act} {o : Oper} (xs : List Int) (n : Nat) (hn : xs.length = n) (hx : n ≤ 1000)
    (hw : Region.wanted o (yielded ops a.tmps) = true) (h1 : ∀ w, (execOp a.eval o).run Try.prog w = .ok (.value (.slice (some ⟨w.heap.size, 0, none⟩) n n)) (w.alloc (.cells (xs.map (Value.int .i64)).toArray 2)))
    (h : ∀ b, wpC Try.prog ops Q W l cs (i + 1) ((i, fun w => OI W.heap.size w (.slice (some ⟨b, 0, none⟩) n n) xs) :: ks) (a.put o.dst (.slice (some ⟨b, 0, none⟩) n n))) : wpC Try.prog ops Q W (o :: l) (Clm.rowI W.heap.size n xs :: cs) i ks a := by
  refine wpC_make (Clm.rowI W.heap.size n xs) rfl hw (fun w hb hk => ⟨_, _, h1 w, (Below.refl _ _).alloc (Nat.le_refl _) _, ⟨_, rfl⟩, OI.lit w _ n xs hn hb.size hx⟩) ?_
  rintro v ⟨b, rfl⟩
  exact h b
set_option maxHeartbeats 1000000 in
theorem neighbour_any (P : Pl) (l : Lay) (i dx dy : Int) (w : World) (hW : 1 ≤ P.W ∧ P.W ≤ 12) (hH : 1 ≤ P.H ∧ P.H ≤ 12) (hi : 0 ≤ i ∧ i ≤ P.W * P.H - 1) (hx : -1 ≤ dx ∧ dx ≤ 1) (hy : -1 ≤ dy ∧ dy ≤ 1) : Calls Try.prog 63 #[.agg #[.int .i64 P.W, .int .i64 P.H, .slice l.p1 P.a.length l.c1, .slice l.p2 P.b.length l.c2, .slice l.p3 P.c.length l.c3, .slice l.p4 P.d.length l.c4], .int .i64 i, .int .i64 dx, .int .i64 dy] w (BV w (.int .i64 (nb P.W P.H i dx dy))) := by
  obtain ⟨q1, q2, q3, q4, q5⟩ := cell_xy hW.1 hi.1 hi.2
  have HN := Lib.hid (nb_cases P.W P.H i dx dy)
  have HU : Hid (nb P.W P.H i dx dy = if (inB (i % P.W + dx) 0 (P.W - 1) && inB (i / P.W + dy) 0 (P.H - 1)) = true then (i / P.W + dy) * P.W + (i % P.W + dx) else -1) := rfl
  have e1 : i.tmod P.W = i % P.W := tmod_pos hi.1
  have e2 : i.tdiv P.W = i / P.W := tdiv_pos hi.1
  have HM := Lib.hid (fun h1 h2 h3 h4 => mul_fits (W := P.W) (H := P.H) (x := i % P.W + dx) (y := i / P.W + dy) h1 h2 h3 h4)
  generalize nb P.W P.H i dx dy = r at HN HU
  generalize i % P.W = x at *
  generalize i / P.W = y at *
  have hW0 : P.W ≠ 0 := by omega
  have hm : P.W * P.H ≤ 144 := by
    have := Int.mul_le_mul hW.2 hH.2 (by omega) (by omega); omega
  clear q5 HN
  rcases f1 : inB (x + dx) 0 (P.W - 1) <;> rcases f2 : inB (y + dy) 0 (P.H - 1)
  case true.true =>
    obtain ⟨m1, m2⟩ := inB_iff f1
    obtain ⟨m3, m4⟩ := inB_iff f2
    obtain ⟨m5, m6, m7⟩ := HM.out m1 m2 m3 m4
    have HR : Hid (r = (y + dy) * P.W + (x + dx)) := by show _ = _; rw [HU.out, f1, f2]; rfl
    clear HU HM
    go_enter Try.func63, Try.ntmps63
    go_wp2_with (first | (with_reducible refine at_list ?_; refine wpList_fop rfl rfl rfl rfl rfl ?_; intro r n hr0; have hr := hr0 _ _ (by first | with_reducible assumption | exact rfl) (by first | with_reducible assumption | exact rfl); clear hr0) | (with_reducible refine at_list ?_; refine wpList_neg rfl rfl rfl ?_; intro r hr0; have hr := hr0 _ (by first | with_reducible assumption | exact rfl); clear hr0) | (with_reducible refine at_list ?_; refine wpList_fop_g rfl rfl rfl rfl rfl ?_; intro r n hr0; have hr := hr0 _ _ (by first | with_reducible assumption | exact rfl) (by first | with_reducible assumption | exact rfl); clear hr0) | (with_reducible refine at_list ?_; refine wpList_wide_g rfl rfl Try.underlying26 Try.underlying54 rfl ?_; intro r n hr0; have hr := hr0 _ (by first | with_reducible assumption | exact rfl); clear hr0) | (with_reducible refine at_list ?_; refine wpList_wide rfl rfl rfl Try.underlying26 Try.underlying54 ?_; intro r n hr0; have hr := hr0 _ (by first | with_reducible assumption | exact rfl); clear hr0) | (go_at_call 60; refine (within_any _ _ _ _).mono ?_; rintro e w' ⟨rfl, n, rfl⟩))
    (refine wp_some_lit (by kernel_rfl) (by kernel_rfl) ?_; (refine wpSome_one ?_; go_big_quiet_step (fail); refine wpQuiet_nil ?_); (refine wpSome_one ?_; go_big_quiet_step (fail); refine wpQuiet_nil ?_); (refine wpSome_one ?_; go_big_quiet_step (fail); refine wpQuiet_nil ?_); (refine wpSome_one ?_; go_big_quiet_step (fail); refine wpQuiet_nil ?_); (refine wpSome_one ?_; go_big_quiet_step (fail); refine wpQuiet_nil ?_); (refine wpSome_one ?_; go_big_quiet_step (fail); refine wpQuiet_nil ?_); (refine wpSome_one ?_; go_big_quiet_step (fail); refine wpQuiet_nil ?_); (refine wpSome_one ?_; go_big_quiet_step (fail); refine wpQuiet_nil ?_); (refine wpSome_one ?_; go_big_quiet_step (fail); refine wpQuiet_nil ?_); (refine wpSome_one ?_; go_big_quiet_step (fail); refine wpQuiet_nil ?_); (refine wpSome_one ?_; go_big_quiet_step (fail); refine wpQuiet_nil ?_); (refine wpSome_one ?_; go_big_quiet_step (fail); refine wpQuiet_nil ?_); (refine wpSome_one ?_; go_big_quiet_step (fail); refine wpQuiet_nil ?_); (refine wpSome_one ?_; go_big_quiet_step (fail); refine wpQuiet_nil ?_); refine wpSome_nil ?_; intro w' hw'; obtain ⟨nq, rfl⟩ := hw')
    go_wp2_with (first | (with_reducible refine at_list ?_; refine wpList_fop rfl rfl rfl rfl rfl ?_; intro r n hr0; have hr := hr0 _ _ (by first | with_reducible assumption | exact rfl) (by first | with_reducible assumption | exact rfl); clear hr0) | (with_reducible refine at_list ?_; refine wpList_neg rfl rfl rfl ?_; intro r hr0; have hr := hr0 _ (by first | with_reducible assumption | exact rfl); clear hr0) | (with_reducible refine at_list ?_; refine wpList_fop_g rfl rfl rfl rfl rfl ?_; intro r n hr0; have hr := hr0 _ _ (by first | with_reducible assumption | exact rfl) (by first | with_reducible assumption | exact rfl); clear hr0) | (with_reducible refine at_list ?_; refine wpList_wide_g rfl rfl Try.underlying26 Try.underlying54 rfl ?_; intro r n hr0; have hr := hr0 _ (by first | with_reducible assumption | exact rfl); clear hr0) | (with_reducible refine at_list ?_; refine wpList_wide rfl rfl rfl Try.underlying26 Try.underlying54 ?_; intro r n hr0; have hr := hr0 _ (by first | with_reducible assumption | exact rfl); clear hr0) | (go_at_call 60; refine (within_any _ _ _ _).mono ?_; rintro e w' ⟨rfl, n, rfl⟩))
    go_ret
    exact ⟨by rw [HR.out]; rfl, by (repeat (first | (with_reducible exact Below.refl _ _) | (with_reducible assumption) | (with_reducible refine below_then ?_ (by assumption)) | (with_reducible refine Below.trans ?_ (by assumption)) | (with_reducible refine below_drewN ?_ _) | (with_reducible apply Below.drew) | (with_reducible refine below_alloc ?_ _) | refine Below.setCell ?_ (by first | (simp; done) | (simp; omega)) _))⟩
  all_goals
    have HR : Hid (r = -1) := by show _ = _; rw [HU.out, f1, f2]; rfl
    clear HU HM
    go_enter Try.func63, Try.ntmps63
    go_wp2_with (first | (with_reducible refine at_list ?_; refine wpList_fop rfl rfl rfl rfl rfl ?_; intro r n hr0; have hr := hr0 _ _ (by first | with_reducible assumption | exact rfl) (by first | with_reducible assumption | exact rfl); clear hr0) | (with_reducible refine at_list ?_; refine wpList_neg rfl rfl rfl ?_; intro r hr0; have hr := hr0 _ (by first | with_reducible assumption | exact rfl); clear hr0) | (with_reducible refine at_list ?_; refine wpList_fop_g rfl rfl rfl rfl rfl ?_; intro r n hr0; have hr := hr0 _ _ (by first | with_reducible assumption | exact rfl) (by first | with_reducible assumption | exact rfl); clear hr0) | (with_reducible refine at_list ?_; refine wpList_wide_g rfl rfl Try.underlying26 Try.underlying54 rfl ?_; intro r n hr0; have hr := hr0 _ (by first | with_reducible assumption | exact rfl); clear hr0) | (with_reducible refine at_list ?_; refine wpList_wide rfl rfl rfl Try.underlying26 Try.underlying54 ?_; intro r n hr0; have hr := hr0 _ (by first | with_reducible assumption | exact rfl); clear hr0) | (go_at_call 60; refine (within_any _ _ _ _).mono ?_; rintro e w' ⟨rfl, n, rfl⟩))
    (refine wp_some_lit (by kernel_rfl) (by kernel_rfl) ?_; (refine wpSome_one ?_; go_big_quiet_step (fail); refine wpQuiet_nil ?_); (refine wpSome_one ?_; go_big_quiet_step (fail); refine wpQuiet_nil ?_); (refine wpSome_one ?_; go_big_quiet_step (fail); refine wpQuiet_nil ?_); (refine wpSome_one ?_; go_big_quiet_step (fail); refine wpQuiet_nil ?_); (refine wpSome_one ?_; go_big_quiet_step (fail); refine wpQuiet_nil ?_); (refine wpSome_one ?_; go_big_quiet_step (fail); refine wpQuiet_nil ?_); (refine wpSome_one ?_; go_big_quiet_step (fail); refine wpQuiet_nil ?_); (refine wpSome_one ?_; go_big_quiet_step (fail); refine wpQuiet_nil ?_); (refine wpSome_one ?_; go_big_quiet_step (fail); refine wpQuiet_nil ?_); (refine wpSome_one ?_; go_big_quiet_step (fail); refine wpQuiet_nil ?_); (refine wpSome_one ?_; go_big_quiet_step (fail); refine wpQuiet_nil ?_); (refine wpSome_one ?_; go_big_quiet_step (fail); refine wpQuiet_nil ?_); (refine wpSome_one ?_; go_big_quiet_step (fail); refine wpQuiet_nil ?_); (refine wpSome_one ?_; go_big_quiet_step (fail); refine wpQuiet_nil ?_); refine wpSome_nil ?_; intro w' hw'; obtain ⟨nq, rfl⟩ := hw')
    go_wp2_with (first | (with_reducible refine at_list ?_; refine wpList_fop rfl rfl rfl rfl rfl ?_; intro r n hr0; have hr := hr0 _ _ (by first | with_reducible assumption | exact rfl) (by first | with_reducible assumption | exact rfl); clear hr0) | (with_reducible refine at_list ?_; refine wpList_neg rfl rfl rfl ?_; intro r hr0; have hr := hr0 _ (by first | with_reducible assumption | exact rfl); clear hr0) | (with_reducible refine at_list ?_; refine wpList_fop_g rfl rfl rfl rfl rfl ?_; intro r n hr0; have hr := hr0 _ _ (by first | with_reducible assumption | exact rfl) (by first | with_reducible assumption | exact rfl); clear hr0) | (with_reducible refine at_list ?_; refine wpList_wide_g rfl rfl Try.underlying26 Try.underlying54 rfl ?_; intro r n hr0; have hr := hr0 _ (by first | with_reducible assumption | exact rfl); clear hr0) | (with_reducible refine at_list ?_; refine wpList_wide rfl rfl rfl Try.underlying26 Try.underlying54 ?_; intro r n hr0; have hr := hr0 _ (by first | with_reducible assumption | exact rfl); clear hr0) | (go_at_call 60; refine (within_any _ _ _ _).mono ?_; rintro e w' ⟨rfl, n, rfl⟩))
    go_ret
    exact ⟨by rw [HR.out]; rfl, by (repeat (first | (with_reducible exact Below.refl _ _) | (with_reducible assumption) | (with_reducible refine below_then ?_ (by assumption)) | (with_reducible refine Below.trans ?_ (by assumption)) | (with_reducible refine below_drewN ?_ _) | (with_reducible apply Below.drew) | (with_reducible refine below_alloc ?_ _) | refine Below.setCell ?_ (by first | (simp; done) | (simp; omega)) _))⟩
theorem near1_any (x : Int) (w : World) : Calls Try.prog 65 #[.int .i64 x] w (RB w (decide (x < 0))) := by
  go_enter Try.func65, Try.ntmps65
  go_wp2_with (first | (with_reducible refine at_list ?_; refine wpList_fop rfl rfl rfl rfl rfl ?_; intro r n hr0; have hr := hr0 _ _ (by first | with_reducible assumption | exact rfl) (by first | with_reducible assumption | exact rfl); clear hr0) | (with_reducible refine at_list ?_; refine wpList_neg rfl rfl rfl ?_; intro r hr0; have hr := hr0 _ (by first | with_reducible assumption | exact rfl); clear hr0) | (with_reducible refine at_list ?_; refine wpList_fop_g rfl rfl rfl rfl rfl ?_; intro r n hr0; have hr := hr0 _ _ (by first | with_reducible assumption | exact rfl) (by first | with_reducible assumption | exact rfl); clear hr0) | (with_reducible refine at_list ?_; refine wpList_wide_g rfl rfl Try.underlying26 Try.underlying54 rfl ?_; intro r n hr0; have hr := hr0 _ (by first | with_reducible assumption | exact rfl); clear hr0) | (with_reducible refine at_list ?_; refine wpList_wide rfl rfl rfl Try.underlying26 Try.underlying54 ?_; intro r n hr0; have hr := hr0 _ (by first | with_reducible assumption | exact rfl); clear hr0))
  go_ret
  exact ⟨rfl, 0, rfl⟩
set_option maxHeartbeats 2000000 in
theorem neighbours_any (P : Pl) (l : Lay) (i : Int) (w : World) (hW : 1 ≤ P.W ∧ P.W ≤ 12) (hH : 1 ≤ P.H ∧ P.H ≤ 12) (hi : 0 ≤ i ∧ i ≤ P.W * P.H - 1) : Calls Try.prog 38 #[.agg #[.int .i64 P.W, .int .i64 P.H, .slice l.p1 P.a.length l.c1, .slice l.p2 P.b.length l.c2, .slice l.p3 P.c.length l.c3, .slice l.p4 P.d.length l.c4], .int .i64 i] w (fun e w' => ∃ u, e = .returned u ∧ Below w.heap.size w w' ∧ OI w.heap.size w' u (nbl P.W P.H i)) := by
  have HF : Hid (nbl P.W P.H i = (nbs P.W P.H i).filter fun k => !decide (k < 0)) := rfl
  have HC : Hid (∀ dx dy w, (-1 ≤ dx ∧ dx ≤ 1) → (-1 ≤ dy ∧ dy ≤ 1) → Calls Try.prog 63 #[.agg #[.int .i64 P.W, .int .i64 P.H, .slice l.p1 P.a.length l.c1, .slice l.p2 P.b.length l.c2, .slice l.p3 P.c.length l.c3, .slice l.p4 P.d.length l.c4], .int .i64 i, .int .i64 dx, .int .i64 dy] w (BV w (.int .i64 (nb P.W P.H i dx dy)))) := fun dx dy w h1 h2 => neighbour_any P l i dx dy w hW hH hi h1 h2
  have HS : Hid (nbs P.W P.H i = [nb P.W P.H i 0 (-1), nb P.W P.H i (-1) 0, nb P.W P.H i 1 0, nb P.W P.H i 0 1]) := rfl
  go_enter Try.func38, Try.ntmps38
  go_wp2_with (first | (with_reducible refine at_list ?_; refine wpList_fop rfl rfl rfl rfl rfl ?_; intro r n hr0; have hr := hr0 _ _ (by first | with_reducible assumption | exact rfl) (by first | with_reducible assumption | exact rfl); clear hr0) | (with_reducible refine at_list ?_; refine wpList_neg rfl rfl rfl ?_; intro r hr0; have hr := hr0 _ (by first | with_reducible assumption | exact rfl); clear hr0) | (with_reducible refine at_list ?_; refine wpList_fop_g rfl rfl rfl rfl rfl ?_; intro r n hr0; have hr := hr0 _ _ (by first | with_reducible assumption | exact rfl) (by first | with_reducible assumption | exact rfl); clear hr0) | (with_reducible refine at_list ?_; refine wpList_wide_g rfl rfl Try.underlying26 Try.underlying54 rfl ?_; intro r n hr0; have hr := hr0 _ (by first | with_reducible assumption | exact rfl); clear hr0) | (with_reducible refine at_list ?_; refine wpList_wide rfl rfl rfl Try.underlying26 Try.underlying54 ?_; intro r n hr0; have hr := hr0 _ (by first | with_reducible assumption | exact rfl); clear hr0) | (go_at_call 63; refine (neighbour_any _ _ _ _ _ _ (by omega) (by omega) (by omega) (by omega) (by omega)).mono ?_; rintro e w' ⟨rfl, hb⟩; obtain ⟨hT, hk⟩ := bv_next hb (by (repeat (with_reducible first | assumption | apply Trk.alloc | apply Trk.setCell | apply Trk.drewN | apply Trk.drew | exact Trk.nil _))); simp only [SameOn, World.size_alloc, World.size_setCell, World.size_drew, size_drewN', and_true] at hk; have hsz := Below.size hb; (try simp only [World.size_alloc, World.size_setCell, World.size_drew, size_drewN'] at hsz)))
  (apply wp_region_plan; ((apply wpC_val; (case hw => exact rfl); (case h1 => (intro w' hb hk0; obtain ⟨hT, hk⟩ := bv_next hb (by (repeat (with_reducible first | assumption | apply Trk.alloc | apply Trk.setCell | apply Trk.drewN | apply Trk.drew | exact Trk.nil _))); simp only [SameOn, World.size_alloc, World.size_setCell, World.size_drew, size_drewN', and_true] at hk; have hsz := Below.size hb; (try simp only [World.size_alloc, World.size_setCell, World.size_drew, size_drewN'] at hsz); go_simp <;> exact rfl))); apply wpC_norm; (case ha => (simp only [Act.put, List.setIfInBounds_toArray, List.set_cons_zero, List.set_cons_succ]; exact rfl))); ((apply wpC_det; (case hw => exact rfl); (case hs => (intro cs b h; cases h)); (case h1 => (intro w'; go_simp <;> exact rfl))); apply wpC_norm; (case ha => (simp only [Act.put, List.setIfInBounds_toArray, List.set_cons_zero, List.set_cons_succ]; exact rfl))); ((apply wpC_callB _; ((case hw => exact rfl)); (case h1 => (intro w'; go_simp; exact ⟨rfl, rfl⟩)); (case hc => (intro w' hb hk0; obtain ⟨hT, hk⟩ := bv_next hb (by (repeat (with_reducible first | assumption | apply Trk.alloc | apply Trk.setCell | apply Trk.drewN | apply Trk.drew | exact Trk.nil _))); simp only [SameOn, World.size_alloc, World.size_setCell, World.size_drew, size_drewN', and_true] at hk; have hsz := Below.size hb; (try simp only [World.size_alloc, World.size_setCell, World.size_drew, size_drewN'] at hsz); refine ((HC.out _ _ _ (by omega) (by omega)) ).mono ?_; intro e2 w3 h; (try simp only [*] at h); exact h))); apply wpC_norm; (case ha => (simp only [Act.put, List.setIfInBounds_toArray, List.set_cons_zero, List.set_cons_succ]; exact rfl))); ((apply wpC_val; (case hw => exact rfl); (case h1 => (intro w' hb hk0; obtain ⟨hT, hk⟩ := bv_next hb (by (repeat (with_reducible first | assumption | apply Trk.alloc | apply Trk.setCell | apply Trk.drewN | apply Trk.drew | exact Trk.nil _))); simp only [SameOn, World.size_alloc, World.size_setCell, World.size_drew, size_drewN', and_true] at hk; have hsz := Below.size hb; (try simp only [World.size_alloc, World.size_setCell, World.size_drew, size_drewN'] at hsz); go_simp <;> exact rfl))); apply wpC_norm; (case ha => (simp only [Act.put, List.setIfInBounds_toArray, List.set_cons_zero, List.set_cons_succ]; exact rfl))); ((apply wpC_det; (case hw => exact rfl); (case hs => (intro cs b h; cases h)); (case h1 => (intro w'; go_simp <;> exact rfl))); apply wpC_norm; (case ha => (simp only [Act.put, List.setIfInBounds_toArray, List.set_cons_zero, List.set_cons_succ]; exact rfl))); ((apply wpC_callB _; ((case hw => exact rfl)); (case h1 => (intro w'; go_simp; exact ⟨rfl, rfl⟩)); (case hc => (intro w' hb hk0; obtain ⟨hT, hk⟩ := bv_next hb (by (repeat (with_reducible first | assumption | apply Trk.alloc | apply Trk.setCell | apply Trk.drewN | apply Trk.drew | exact Trk.nil _))); simp only [SameOn, World.size_alloc, World.size_setCell, World.size_drew, size_drewN', and_true] at hk; have hsz := Below.size hb; (try simp only [World.size_alloc, World.size_setCell, World.size_drew, size_drewN'] at hsz); refine ((HC.out _ _ _ (by omega) (by omega)) ).mono ?_; intro e2 w3 h; (try simp only [*] at h); exact h))); apply wpC_norm; (case ha => (simp only [Act.put, List.setIfInBounds_toArray, List.set_cons_zero, List.set_cons_succ]; exact rfl))); ((apply wpC_val; (case hw => exact rfl); (case h1 => (intro w' hb hk0; obtain ⟨hT, hk⟩ := bv_next hb (by (repeat (with_reducible first | assumption | apply Trk.alloc | apply Trk.setCell | apply Trk.drewN | apply Trk.drew | exact Trk.nil _))); simp only [SameOn, World.size_alloc, World.size_setCell, World.size_drew, size_drewN', and_true] at hk; have hsz := Below.size hb; (try simp only [World.size_alloc, World.size_setCell, World.size_drew, size_drewN'] at hsz); go_simp <;> exact rfl))); apply wpC_norm; (case ha => (simp only [Act.put, List.setIfInBounds_toArray, List.set_cons_zero, List.set_cons_succ]; exact rfl))); ((apply wpC_det; (case hw => exact rfl); (case hs => (intro cs b h; cases h)); (case h1 => (intro w'; go_simp <;> exact rfl))); apply wpC_norm; (case ha => (simp only [Act.put, List.setIfInBounds_toArray, List.set_cons_zero, List.set_cons_succ]; exact rfl))); ((apply wpC_callB _; ((case hw => exact rfl)); (case h1 => (intro w'; go_simp; exact ⟨rfl, rfl⟩)); (case hc => (intro w' hb hk0; obtain ⟨hT, hk⟩ := bv_next hb (by (repeat (with_reducible first | assumption | apply Trk.alloc | apply Trk.setCell | apply Trk.drewN | apply Trk.drew | exact Trk.nil _))); simp only [SameOn, World.size_alloc, World.size_setCell, World.size_drew, size_drewN', and_true] at hk; have hsz := Below.size hb; (try simp only [World.size_alloc, World.size_setCell, World.size_drew, size_drewN'] at hsz); refine ((HC.out _ _ _ (by omega) (by omega)) ).mono ?_; intro e2 w3 h; (try simp only [*] at h); exact h))); apply wpC_norm; (case ha => (simp only [Act.put, List.setIfInBounds_toArray, List.set_cons_zero, List.set_cons_succ]; exact rfl))); ((apply wpC_val; (case hw => exact rfl); (case h1 => (intro w' hb hk0; obtain ⟨hT, hk⟩ := bv_next hb (by (repeat (with_reducible first | assumption | apply Trk.alloc | apply Trk.setCell | apply Trk.drewN | apply Trk.drew | exact Trk.nil _))); simp only [SameOn, World.size_alloc, World.size_setCell, World.size_drew, size_drewN', and_true] at hk; have hsz := Below.size hb; (try simp only [World.size_alloc, World.size_setCell, World.size_drew, size_drewN'] at hsz); go_simp <;> exact rfl))); apply wpC_norm; (case ha => (simp only [Act.put, List.setIfInBounds_toArray, List.set_cons_zero, List.set_cons_succ]; exact rfl))); ((apply wpC_det; (case hw => exact rfl); (case hs => (intro cs b h; cases h)); (case h1 => (intro w'; go_simp <;> exact rfl))); apply wpC_norm; (case ha => (simp only [Act.put, List.setIfInBounds_toArray, List.set_cons_zero, List.set_cons_succ]; exact rfl))); ((apply wpC_callB _; ((case hw => exact rfl)); (case h1 => (intro w'; go_simp; exact ⟨rfl, rfl⟩)); (case hc => (intro w' hb hk0; obtain ⟨hT, hk⟩ := bv_next hb (by (repeat (with_reducible first | assumption | apply Trk.alloc | apply Trk.setCell | apply Trk.drewN | apply Trk.drew | exact Trk.nil _))); simp only [SameOn, World.size_alloc, World.size_setCell, World.size_drew, size_drewN', and_true] at hk; have hsz := Below.size hb; (try simp only [World.size_alloc, World.size_setCell, World.size_drew, size_drewN'] at hsz); refine ((HC.out _ _ _ (by omega) (by omega)) ).mono ?_; intro e2 w3 h; (try simp only [*] at h); exact h))); apply wpC_norm; (case ha => (simp only [Act.put, List.setIfInBounds_toArray, List.set_cons_zero, List.set_cons_succ]; exact rfl))); ((apply wpC_rowI ([nb P.W P.H i 0 (-1), nb P.W P.H i (-1) 0, nb P.W P.H i 1 0, nb P.W P.H i 0 1]) 4 rfl (by decide); (case hw => exact rfl); (case h1 => (intro w'; go_simp <;> exact rfl)); intro bv); apply wpC_norm; (case ha => (simp only [Act.put, List.setIfInBounds_toArray, List.set_cons_zero, List.set_cons_succ]; exact rfl))); ((apply wpC_det; (case hw => exact rfl); (case hs => (intro cs b h; cases h)); (case h1 => (intro w'; go_simp <;> exact rfl))); apply wpC_norm; (case ha => (simp only [Act.put, List.setIfInBounds_toArray, List.set_cons_zero, List.set_cons_succ]; exact rfl))); refine wpC_nil ?_; intro w' hb hkk; obtain ⟨hT, hk⟩ := bv_next hb (by (repeat (with_reducible first | assumption | apply Trk.alloc | apply Trk.setCell | apply Trk.drewN | apply Trk.drew | exact Trk.nil _))); simp only [SameOn, World.size_alloc, World.size_setCell, World.size_drew, size_drewN', and_true] at hk; have hsz := Below.size hb; (try simp only [World.size_alloc, World.size_setCell, World.size_drew, size_drewN'] at hsz))
  have HO : Hid (OI w.heap.size w' (.slice (some ⟨bv, 0, none⟩) 4 4) [nb P.W P.H i 0 (-1), nb P.W P.H i (-1) 0, nb P.W P.H i 1 0, nb P.W P.H i 0 1]) := OI.base hkk.1 (by simp)
  have HB : Hid (Below w.heap.size w w') := below_then ((Below.refl _ _).alloc (Nat.le_refl _) _) hb
  clear hkk hb
  have HD := Lib.hid (DeleteFuncI_any 65 (fun k => decide (k < 0)) _ _ _ _ HO.out (fun x w => by kernel_rfl) (fun x w => near1_any x w))
  rw [← HS.out, ← HF.out] at HD
  clear HS HF HC
  go_wp2_with fail
  refine HD.out.mono ?_
  rintro e w2 ⟨u, rfl, hg, hz, hO2⟩
  have HX : Hid (Below w.heap.size w w2 ∧ OI w.heap.size w2 u (nbl P.W P.H i)) := ⟨HB.out.grown hg HB.out.size (fun k hk => by have := (HO.out.block k hk).1; omega), hO2⟩
  clear hg hz hO2
  obtain ⟨q, c, rfl⟩ := HX.out.2.shape
  go_wp2_with fail
  go_ret
  exact ⟨_, rfl, HX.out.1, HX.out.2⟩
  all_goals first | kernel_rfl | rfl
end Go.Proofs.Ytphamdlnnfionaa

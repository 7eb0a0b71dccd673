/-
  Sines and points of a circle (the program's and the reference's). No condition but what each contract says.
-/
import Derived.Test.YtldancjofgobnaaWvE
set_option linter.unusedSimpArgs false
set_option linter.unusedVariables false
set_option linter.unusedSectionVars false
namespace Go.Proofs.Ytldancjofgobnaa
open Go Go.RowKit
open Go.ChangeShapes Go.WideShapes Go.ChangeAt Go.RowKit Go.Joins
theorem idx_eight : ∀ j : Nat, j < 9 → idxF (fI (8 - (j : Int))) = 8 - j := by decide +kernel
theorem tame_fin {x : Nat} (h : Tame x) : feq .f64 (fop .sub .f64 x x) (cn .f64 0) = true := by
  have := fnt_fin .f64 x
  rw [h.1] at this
  exact this.symm
theorem tame_int {x : Nat} (h : Tame x) : floatToIntVal .f64 x .i64 = some (trI x) := by
  obtain ⟨s, m, i, e⟩ := fnt_read h.1
  have t1 := (trI_of e).1
  have t2 : trI x = Ieee.signed s (trM m i) 0 := by unfold trI; rw [t1]; rfl
  have b := (tame_tr h).1
  unfold floatToIntVal
  rw [t1]
  show (if IntKind.i64.min ≤ Ieee.signed s (trM m i) 0 ∧ Ieee.signed s (trM m i) 0 ≤ IntKind.i64.max then some (Ieee.signed s (trM m i) 0) else none) = _
  rw [← t2]
  have e1 : IntKind.i64.min = -9223372036854775808 := by decide
  have e2 : IntKind.i64.max = 9223372036854775807 := by decide
  rw [e1, e2, if_pos ⟨by omega, by omega⟩]
/-- 'int64(x)' of a float64 that fits. -/
theorem wpList_toInt {P : Program} {w : World} {ops : Array Oper} {rest : List Oper} {o : Oper} {a : Act} {Q : Exit → Act → World → Prop} (hg : o.guard = none) {src dst : TypeId} {X : Operand}
    (ho : o.op = .convert src dst X) {x : Nat} {n : Int} (hx : a.eval X = .float .f64 x) (hs : P.underlying src = some (.float .f64)) (hd : P.underlying dst = some (.int .i64)) (hn : floatToIntVal .f64 x .i64 = some n)
    (h : wpList P ops Q rest (a.put o.dst (.int .i64 n)) w) : wpList P ops Q (o :: rest) a w := by
  refine wpList_plain hg fun K hK => ?_
  unfold Oper.wp
  simp only [execOp, ho, hx]
  have hr := run_convert_float_int (P := P) w src dst .f64 .i64 x n (by rw [hs]; rfl) hd hn
  simp [hr, Result.andThen]
  exact hK _ _ h
set_option maxHeartbeats 8000000 in
theorem implSine_any (x : Nat) (w : World) (h : Tame x) : Calls Try.prog 31 #[.float .f64 x] w (BF w .f64 (sn x)) := by
  have HP := Lib.hid (fun w => partOfTurn_any x w h)
  have H1 : Hid (snS x = fge .f64 (poT x) (cn .f64 4602678819172646912)) := rfl
  have H2 : Hid (snG x = if snS x then fop .sub .f64 (poT x) (cn .f64 4602678819172646912) else poT x) := rfl
  have H3 : Hid (snH x = if fgt .f64 (snG x) (cn .f64 4598175219545276416) then fop .sub .f64 (cn .f64 4602678819172646912) (snG x) else snG x) := rfl
  have H4 : Hid (sn x = if snS x then fneg .f64 (fop .mul .f64 (snZ x) (snP (snU x) 8)) else fop .mul .f64 (snZ x) (snP (snU x) 8)) := rfl
  have H5 : Hid (snZ x = fop .mul .f64 (snH x) (cn .f64 4618760256179416344)) := rfl
  have H6 : Hid (snU x = fop .mul .f64 (snZ x) (snZ x)) := rfl
  rw [H4.out]
  obtain ⟨P0, hP0⟩ : ∃ P, poT x = P := ⟨_, rfl⟩
  rw [hP0] at HP H1 H2
  clear h hP0
  rcases f1 : snS x <;> rcases f2 : fgt .f64 (snG x) (cn .f64 4598175219545276416)
  all_goals
    have g1 := H1.out
    have g2 := H2.out
    have g3 := H3.out
    rw [f1] at g1 g2
    rw [f2] at g3
    first | rw [if_pos rfl] at g2 | rw [if_neg Bool.false_ne_true] at g2
    first | rw [if_pos rfl] at g3 | rw [if_neg Bool.false_ne_true] at g3
    rw [g2] at f2 g3
    replace g1 := g1.symm
    have g5 := H5.out
    rw [g3] at g5
    replace g5 := g5.symm
    have g6 := H6.out.symm
    first | rw [if_pos rfl] | rw [if_neg Bool.false_ne_true]
    clear H1 H2 H3 H4 H5 H6 g2 g3 f1
    generalize snU x = U at *
    generalize snZ x = Z at *
    go_enter Try.func31, Try.ntmps31
    go_wp2_with (first | (with_reducible refine at_list ?_; refine wpList_fop rfl rfl rfl rfl rfl ?_; intro r n hr0; have hr := hr0 _ _ (by first | with_reducible assumption | exact rfl) (by first | with_reducible assumption | exact rfl); clear hr0) | (with_reducible refine at_list ?_; refine wpList_neg rfl rfl rfl ?_; intro r hr0; have hr := hr0 _ (by first | with_reducible assumption | exact rfl); clear hr0) | (with_reducible refine at_list ?_; refine wpList_fop_g rfl rfl rfl rfl rfl ?_; intro r n hr0; have hr := hr0 _ _ (by first | with_reducible assumption | exact rfl) (by first | with_reducible assumption | exact rfl); clear hr0) | (with_reducible refine at_list ?_; refine wpList_wide_g rfl rfl Try.underlying22 Try.underlying32 rfl ?_; intro r n hr0; have hr := hr0 _ (by first | with_reducible assumption | exact rfl); clear hr0) | (with_reducible refine at_list ?_; refine wpList_wide rfl rfl rfl Try.underlying22 Try.underlying32 ?_; intro r n hr0; have hr := hr0 _ (by first | with_reducible assumption | exact rfl); clear hr0) | (go_at_call 30; refine ((HP.out _) ).mono ?_; rintro e w' ⟨r, rfl, hr, hb⟩; obtain ⟨hT, hk⟩ := bv_next hb (by (repeat (with_reducible first | assumption | apply Trk.alloc | apply Trk.setCell | apply Trk.drewN | apply Trk.drew | exact Trk.nil _))); simp only [SameOn, World.size_alloc, World.size_setCell, World.size_drew, size_drewN', and_true] at hk; have hsz := Below.size hb; (try simp only [World.size_alloc, World.size_setCell, World.size_drew, size_drewN'] at hsz)))
    have HB := Lib.hid (show Below w.heap.size w _ by (repeat (first | (with_reducible exact Below.refl _ _) | (with_reducible assumption) | (with_reducible refine below_then ?_ (by assumption)) | (with_reducible refine Below.trans ?_ (by assumption)) | (with_reducible refine below_drewN ?_ _) | (with_reducible apply Below.drew) | (with_reducible refine below_alloc ?_ _) | refine Below.setCell ?_ (by first | (simp; done) | (simp; omega)) _)))
    simp only [g5, g6] at *
    refine wp_named ?_
    intro w1 hw1
    have HB1 : Hid (Below w.heap.size w w1) := by show Below _ _ _; rw [hw1]; (repeat (first | (with_reducible exact Below.refl _ _) | (with_reducible assumption) | (with_reducible refine below_then ?_ (by assumption)) | (with_reducible refine Below.trans ?_ (by assumption)) | (with_reducible refine below_drewN ?_ _) | (with_reducible apply Below.drew) | (with_reducible refine below_alloc ?_ _) | refine Below.setCell ?_ (by first | (simp; done) | (simp; omega)) _))
    obtain ⟨xz, hxz⟩ : ∃ x, cn .f64 x = Z := ⟨_, by assumption⟩
    clear hw1 hb hk hT hsz HB f2 g1
    go_loopw [7, 8] (fun p z wr => ∃ k r1 r2 : Nat, k ≤ 8 ∧ p = .float .f64 r1 ∧ z = .float .f64 r2 ∧ Hid (cn .f64 r1 = snP U k) ∧ Hid (cn .f64 r2 = fI (8 - (k : Int))) ∧ Hid (Below w1.heap.size w1 wr)) (fun _ z _ => idxF (cn .f64 (fltOf z)))
    case atStart => exact ⟨0, _, _, by omega, rfl, rfl, rfl, fI_8.symm, Below.refl _ _⟩
    case round =>
      obtain ⟨k, r1, r2, hk, rfl, rfl, K1, K2, HW⟩ := hrel
      by_cases hlt : k < 8
      · obtain ⟨e0, e1, e2⟩ := snC_drawn k hlt
        have HP1 : Hid (snP U (k + 1) = fop .sub .f64 (cn .f64 4607182418800017408) (fop .quo .f64 (fop .mul .f64 U (snP U k)) (snC k))) := rfl
        have HI1 := Lib.hid (idx_eight k (by omega))
        have HI2 := Lib.hid (idx_eight (k + 1) (by omega))
        have E2 := Lib.hid e2
        have k1 := K1.out
        have k2 := K2.out
        generalize snP U k = S at *
        generalize snC k = C at *
        obtain ⟨F, hF⟩ : ∃ F, F = fI (8 - (k : Int)) := ⟨_, rfl⟩
        rw [← hF] at k2 e0 e1
        have HF := Lib.hid hF
        have hbW := HW.out
        clear e2 hF K1 K2
        go_wp2_with (first | (with_reducible refine at_list ?_; refine wpList_fop rfl rfl rfl rfl rfl ?_; intro r n hr0; have hr := hr0 _ _ (by first | with_reducible assumption | exact rfl) (by first | with_reducible assumption | exact rfl); clear hr0) | (with_reducible refine at_list ?_; refine wpList_neg rfl rfl rfl ?_; intro r hr0; have hr := hr0 _ (by first | with_reducible assumption | exact rfl); clear hr0) | (with_reducible refine at_list ?_; refine wpList_fop_g rfl rfl rfl rfl rfl ?_; intro r n hr0; have hr := hr0 _ _ (by first | with_reducible assumption | exact rfl) (by first | with_reducible assumption | exact rfl); clear hr0) | (with_reducible refine at_list ?_; refine wpList_wide_g rfl rfl Try.underlying22 Try.underlying32 rfl ?_; intro r n hr0; have hr := hr0 _ (by first | with_reducible assumption | exact rfl); clear hr0) | (with_reducible refine at_list ?_; refine wpList_wide rfl rfl rfl Try.underlying22 Try.underlying32 ?_; intro r n hr0; have hr := hr0 _ (by first | with_reducible assumption | exact rfl); clear hr0))
        go_roundw
        case rel => exact ⟨k + 1, _, _, by omega, rfl, rfl, by show _ = _; rw [HP1.out]; simp only [*], by show _ = _; rw [← E2.out, ← HF.out]; assumption, by show Below _ _ _; exact below_then hbW (by (repeat (first | (with_reducible exact Below.refl _ _) | (with_reducible assumption) | (with_reducible refine below_then ?_ (by assumption)) | (with_reducible refine Below.trans ?_ (by assumption)) | (with_reducible refine below_drewN ?_ _) | (with_reducible apply Below.drew) | (with_reducible refine below_alloc ?_ _) | refine Below.setCell ?_ (by first | (simp; done) | (simp; omega)) _)))⟩
        case measure =>
          have a1 : idxF (cn .f64 r2) = 8 - k := by rw [k2, HF.out]; exact HI1.out
          have a2 : ∀ r, cn .f64 r = fop .sub .f64 F (cn .f64 4607182418800017408) → idxF (cn .f64 r) = 8 - (k + 1) := by
            intro r h
            rw [h, HF.out, E2.out]; exact HI2.out
          simp only [fltOf]
          rw [a1, a2 _ (by assumption)]
          omega
      · have he : k = 8 := by omega
        subst he
        have k1 := K1.out
        have k2 := K2.out
        obtain ⟨F, hF⟩ : ∃ F, F = fI (8 - ((8 : Nat) : Int)) := ⟨_, rfl⟩
        rw [← hF] at k2
        have e1 : fge .f64 F (cn .f64 4607182418800017408) = false := by rw [hF]; exact fI_0
        generalize snP U 8 = S at *
        have hbW := below_then HB1.out HW.out
        clear hF K1 K2
        go_wp2_with (first | (with_reducible refine at_list ?_; refine wpList_fop rfl rfl rfl rfl rfl ?_; intro r n hr0; have hr := hr0 _ _ (by first | with_reducible assumption | exact rfl) (by first | with_reducible assumption | exact rfl); clear hr0) | (with_reducible refine at_list ?_; refine wpList_neg rfl rfl rfl ?_; intro r hr0; have hr := hr0 _ (by first | with_reducible assumption | exact rfl); clear hr0) | (with_reducible refine at_list ?_; refine wpList_fop_g rfl rfl rfl rfl rfl ?_; intro r n hr0; have hr := hr0 _ _ (by first | with_reducible assumption | exact rfl) (by first | with_reducible assumption | exact rfl); clear hr0) | (with_reducible refine at_list ?_; refine wpList_wide_g rfl rfl Try.underlying22 Try.underlying32 rfl ?_; intro r n hr0; have hr := hr0 _ (by first | with_reducible assumption | exact rfl); clear hr0) | (with_reducible refine at_list ?_; refine wpList_wide rfl rfl rfl Try.underlying22 Try.underlying32 ?_; intro r n hr0; have hr := hr0 _ (by first | with_reducible assumption | exact rfl); clear hr0))
        go_ret
        exact ⟨_, rfl, by simp only [*] <;> rfl, by (repeat (first | (with_reducible exact Below.refl _ _) | (with_reducible assumption) | (with_reducible refine below_then ?_ (by assumption)) | (with_reducible refine Below.trans ?_ (by assumption)) | (with_reducible refine below_drewN ?_ _) | (with_reducible apply Below.drew) | (with_reducible refine below_alloc ?_ _) | refine Below.setCell ?_ (by first | (simp; done) | (simp; omega)) _))⟩
set_option maxHeartbeats 8000000 in
theorem l01Sine_any (x : Nat) (w : World) (h : Tame x) : Calls Try.prog 22 #[.float .f64 x] w (BF w .f64 (sn x)) := by
  have hx : cn .f64 x = x := fnt_cn h.1
  have c1 := tame_fin h
  obtain ⟨_, c2, c3⟩ := tame_not h
  have c4 := tame_int h
  have c5 : cn .f64 (floatOfInt .f64 (trI x)) = whW x := cn_ofInt _ _
  have H0 : Hid (poT x = if flt .f64 (fop .sub .f64 x (whW x)) (cn .f64 0) then fop .add .f64 (fop .sub .f64 x (whW x)) (cn .f64 4607182418800017408) else fop .sub .f64 x (whW x)) := rfl
  have H1 : Hid (snS x = fge .f64 (poT x) (cn .f64 4602678819172646912)) := rfl
  have H2 : Hid (snG x = if snS x then fop .sub .f64 (poT x) (cn .f64 4602678819172646912) else poT x) := rfl
  have H3 : Hid (snH x = if fgt .f64 (snG x) (cn .f64 4598175219545276416) then fop .sub .f64 (cn .f64 4602678819172646912) (snG x) else snG x) := rfl
  have H4 : Hid (sn x = if snS x then fneg .f64 (fop .mul .f64 (snZ x) (snP (snU x) 8)) else fop .mul .f64 (snZ x) (snP (snU x) 8)) := rfl
  have H5 : Hid (snZ x = fop .mul .f64 (snH x) (cn .f64 4618760256179416344)) := rfl
  have H6 : Hid (snU x = fop .mul .f64 (snZ x) (snZ x)) := rfl
  rw [H4.out]
  clear h
  generalize whW x = W at *
  generalize trI x = tr at *
  rcases f0 : flt .f64 (fop .sub .f64 x W) (cn .f64 0) <;> rcases f1 : snS x <;> rcases f2 : fgt .f64 (snG x) (cn .f64 4598175219545276416)
  all_goals
    have g0 := H0.out
    have g1 := H1.out
    have g2 := H2.out
    have g3 := H3.out
    rw [f0] at g0
    rw [f1] at g1 g2
    rw [f2] at g3
    first | rw [if_pos rfl] at g0 | rw [if_neg Bool.false_ne_true] at g0
    first | rw [if_pos rfl] at g2 | rw [if_neg Bool.false_ne_true] at g2
    first | rw [if_pos rfl] at g3 | rw [if_neg Bool.false_ne_true] at g3
    rw [g0] at g1 g2
    rw [g2] at f2 g3
    replace g1 := g1.symm
    have g5 := H5.out
    rw [g3] at g5
    replace g5 := g5.symm
    have g6 := H6.out.symm
    first | rw [if_pos rfl] | rw [if_neg Bool.false_ne_true]
    clear H0 H1 H2 H3 H4 H5 H6 g0 g2 g3 f1
    generalize snU x = U at *
    generalize snZ x = Z at *
    go_enter Try.func22, Try.ntmps22
    go_wp2_with (first | (with_reducible refine at_list ?_; refine wpList_fop rfl rfl rfl rfl rfl ?_; intro r n hr0; have hr := hr0 _ _ (by first | with_reducible assumption | exact rfl) (by first | with_reducible assumption | exact rfl); clear hr0) | (with_reducible refine at_list ?_; refine wpList_neg rfl rfl rfl ?_; intro r hr0; have hr := hr0 _ (by first | with_reducible assumption | exact rfl); clear hr0) | (with_reducible refine at_list ?_; refine wpList_fop_g rfl rfl rfl rfl rfl ?_; intro r n hr0; have hr := hr0 _ _ (by first | with_reducible assumption | exact rfl) (by first | with_reducible assumption | exact rfl); clear hr0) | (with_reducible refine at_list ?_; refine wpList_wide_g rfl rfl Try.underlying22 Try.underlying32 rfl ?_; intro r n hr0; have hr := hr0 _ (by first | with_reducible assumption | exact rfl); clear hr0) | (with_reducible refine at_list ?_; refine wpList_wide rfl rfl rfl Try.underlying22 Try.underlying32 ?_; intro r n hr0; have hr := hr0 _ (by first | with_reducible assumption | exact rfl); clear hr0) | (with_reducible refine at_list ?_; refine wpList_toInt rfl rfl rfl Try.underlying32 Try.underlying2 (by with_reducible assumption) ?_))
    simp only [g5, g6] at *
    refine wp_named ?_
    intro w1 hw1
    have HB1 : Hid (Below w.heap.size w w1) := by show Below _ _ _; rw [hw1]; first | (repeat (first | (with_reducible exact Below.refl _ _) | (with_reducible assumption) | (with_reducible refine below_then ?_ (by assumption)) | (with_reducible refine Below.trans ?_ (by assumption)) | (with_reducible refine below_drewN ?_ _) | (with_reducible apply Below.drew) | (with_reducible refine below_alloc ?_ _) | refine Below.setCell ?_ (by first | (simp; done) | (simp; omega)) _)) | exact below_drewN (Below.refl _ _) _
    obtain ⟨xz, hxz⟩ : ∃ x, cn .f64 x = Z := ⟨_, by assumption⟩
    clear hw1 f0 f2 g1 c1 c2 c3 c4 c5
    go_loopw [7, 8] (fun p z wr => ∃ k r1 : Nat, ∃ j : Int, k ≤ 8 ∧ p = .float .f64 r1 ∧ z = .int .i64 j ∧ Hid (cn .f64 r1 = snP U k) ∧ Hid (j = 8 - (k : Int)) ∧ Hid (Below w1.heap.size w1 wr)) (fun _ z _ => (intOf z).toNat)
    case atStart => exact ⟨0, _, _, by omega, rfl, rfl, rfl, rfl, Below.refl _ _⟩
    case round =>
      obtain ⟨k, r1, j, hk, rfl, rfl, K1, HJ, HW⟩ := hrel
      have hj := HJ.out
      by_cases hlt : k < 8
      · have HP1 : Hid (snP U (k + 1) = fop .sub .f64 (cn .f64 4607182418800017408) (fop .quo .f64 (fop .mul .f64 U (snP U k)) (snC k))) := rfl
        have hC : cn .f64 (floatOfInt .f64 (2 * j * (2 * j + 1))) = snC k := by rw [hj]; rfl
        have k1 := K1.out
        have hge : j ≥ 1 := by omega
        have hle : j ≤ 8 := by omega
        have m1 : IntKind.i64.wrap (2 * j) = 2 * j := IntWalk.i64_in _ (by omega)
        have m2 : IntKind.i64.wrap (2 * j + 1) = 2 * j + 1 := IntWalk.i64_in _ (by omega)
        have m0 : 0 ≤ 2 * j * (2 * j + 1) := Int.mul_nonneg (by omega) (by omega)
        have m4 : 2 * j * (2 * j + 1) ≤ 16 * 17 := Int.mul_le_mul (by omega) (by omega) (by omega) (by omega)
        have m3 : IntKind.i64.wrap (2 * j * (2 * j + 1)) = 2 * j * (2 * j + 1) := IntWalk.i64_in _ (by omega)
        generalize snP U k = S at *
        generalize snC k = C at *
        have hbW := HW.out
        clear K1 hj
        go_wp2_with (first | (with_reducible refine at_list ?_; refine wpList_fop rfl rfl rfl rfl rfl ?_; intro r n hr0; have hr := hr0 _ _ (by first | with_reducible assumption | exact rfl) (by first | with_reducible assumption | exact rfl); clear hr0) | (with_reducible refine at_list ?_; refine wpList_neg rfl rfl rfl ?_; intro r hr0; have hr := hr0 _ (by first | with_reducible assumption | exact rfl); clear hr0) | (with_reducible refine at_list ?_; refine wpList_fop_g rfl rfl rfl rfl rfl ?_; intro r n hr0; have hr := hr0 _ _ (by first | with_reducible assumption | exact rfl) (by first | with_reducible assumption | exact rfl); clear hr0) | (with_reducible refine at_list ?_; refine wpList_wide_g rfl rfl Try.underlying22 Try.underlying32 rfl ?_; intro r n hr0; have hr := hr0 _ (by first | with_reducible assumption | exact rfl); clear hr0) | (with_reducible refine at_list ?_; refine wpList_wide rfl rfl rfl Try.underlying22 Try.underlying32 ?_; intro r n hr0; have hr := hr0 _ (by first | with_reducible assumption | exact rfl); clear hr0))
        go_roundw
        case rel => exact ⟨k + 1, _, _, by omega, rfl, rfl, by show _ = _; rw [HP1.out]; simp only [*], by show _ = _; have := HJ.out; omega, by show Below _ _ _; exact below_then hbW (by (repeat (first | (with_reducible exact Below.refl _ _) | (with_reducible assumption) | (with_reducible refine below_then ?_ (by assumption)) | (with_reducible refine Below.trans ?_ (by assumption)) | (with_reducible refine below_drewN ?_ _) | (with_reducible apply Below.drew) | (with_reducible refine below_alloc ?_ _) | refine Below.setCell ?_ (by first | (simp; done) | (simp; omega)) _)))⟩
        case measure => simp only [intOf]; omega
      · have he : k = 8 := by omega
        subst he
        have hj0 : j = 0 := by omega
        subst hj0
        have k1 := K1.out
        generalize snP U 8 = S at *
        have hbW := below_then HB1.out HW.out
        clear K1 HJ hj
        go_wp2_with (first | (with_reducible refine at_list ?_; refine wpList_fop rfl rfl rfl rfl rfl ?_; intro r n hr0; have hr := hr0 _ _ (by first | with_reducible assumption | exact rfl) (by first | with_reducible assumption | exact rfl); clear hr0) | (with_reducible refine at_list ?_; refine wpList_neg rfl rfl rfl ?_; intro r hr0; have hr := hr0 _ (by first | with_reducible assumption | exact rfl); clear hr0) | (with_reducible refine at_list ?_; refine wpList_fop_g rfl rfl rfl rfl rfl ?_; intro r n hr0; have hr := hr0 _ _ (by first | with_reducible assumption | exact rfl) (by first | with_reducible assumption | exact rfl); clear hr0) | (with_reducible refine at_list ?_; refine wpList_wide_g rfl rfl Try.underlying22 Try.underlying32 rfl ?_; intro r n hr0; have hr := hr0 _ (by first | with_reducible assumption | exact rfl); clear hr0) | (with_reducible refine at_list ?_; refine wpList_wide rfl rfl rfl Try.underlying22 Try.underlying32 ?_; intro r n hr0; have hr := hr0 _ (by first | with_reducible assumption | exact rfl); clear hr0))
        go_ret
        exact ⟨_, rfl, by simp only [*] <;> rfl, by (repeat (first | (with_reducible exact Below.refl _ _) | (with_reducible assumption) | (with_reducible refine below_then ?_ (by assumption)) | (with_reducible refine Below.trans ?_ (by assumption)) | (with_reducible refine below_drewN ?_ _) | (with_reducible apply Below.drew) | (with_reducible refine below_alloc ?_ _) | refine Below.setCell ?_ (by first | (simp; done) | (simp; omega)) _))⟩
end Go.Proofs.Ytldancjofgobnaa

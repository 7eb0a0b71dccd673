/-
  Salty water, on: which part is fluid below where it freezes: bounds. No condition but what each law says.
-/
import Derived.Test.YtiodpahbmoeiaaaIceS
set_option linter.unusedSimpArgs false
set_option linter.unusedVariables false
set_option linter.unusedSectionVars false
namespace Go.Proofs.Ytiodpahbmoeiaaa
open Go Go.RowKit
/-- Of two colder places the colder has less that is fluid. -/
theorem ratio_lt {u a1 a2 x1 x2 : Rat} (hu : 0 < u) (h1 : a1 < 0) (h2 : a2 < a1) (e1 : x1 * a1 = -u) (e2 : x2 * a2 = -u) : x2 < x1 := by
  have hx1 : 0 < x1 := by
    by_cases h : 0 < x1
    · exact h
    · exfalso
      have := Rat.mul_nonneg (show 0 ≤ -x1 by grind) (show 0 ≤ -a1 by grind)
      grind
  by_cases h : x2 < x1
  · exact h
  · exfalso
    have p1 := Rat.mul_nonneg (show 0 ≤ x2 - x1 by grind) (show 0 ≤ -a2 by grind)
    have p2 := Rat.mul_pos hx1 (show 0 < a1 - a2 by grind)
    grind
theorem fin_of' {x : Nat} (h : fnt .f32 x = true) : fin .f32 x = true := by rw [fin_num]; exact h
structure SB (S A1 A2 : Nat) : Prop where
  b1 : brnB A1 S = true
  b2 : brnB A2 S = true
  g0 : fge .f32 (brnF A1 S) (cn .f32 0) = true
  g1 : fle .f32 (brnF A1 S) (cn .f32 1065353216) = true
  g2 : fle .f32 (brnF A2 S) (brnF A1 S) = true
section
variable {S A : Nat} {k j : Int}
/-- A quotient of where it freezes and a colder place. -/
theorem brine_quo {P : Nat} {u : Rat} (hP : V .f32 P (-u)) (hu : 0 ≤ u) (hA : fnt .f32 A = true) (hlt : fv .f32 A < -u) : Btw .f32 (fop .quo .f32 P A) 0 1 ∧ Rnd FloatKind.f32.format ((-u) / fv .f32 A) (fv .f32 (fop .quo .f32 P A)) ∧ ((-u) / fv .f32 A) * fv .f32 A = -u := by
  have hne : fv .f32 A ≠ 0 := by grind
  have e : ((-u) / fv .f32 A) * fv .f32 A = -u := by grind
  have bd : 0 ≤ (-u) / fv .f32 A ∧ (-u) / fv .f32 A ≤ 1 := by
    generalize (-u) / fv .f32 A = x at e ⊢
    constructor
    · by_cases h : 0 ≤ x
      · exact h
      · exfalso
        have := Rat.mul_pos (show 0 < -x by grind) (show 0 < -fv .f32 A by grind)
        grind
    · by_cases h : x ≤ 1
      · exact h
      · exfalso
        have := Rat.mul_pos (show 0 < x - 1 by grind) (show 0 < -fv .f32 A by grind)
        grind
  have r0 : Rep .f32 (0 : Rat) := Rep.int 0 (by decide)
  have r1 : Rep .f32 (1 : Rat) := Rep.int 1 (by decide)
  refine ⟨fop_btw .quo rfl .f32 hP.1 hA (fun _ => hne) r0 r1 (by simp only [ex]; rw [hP.2]; exact bd.1) (by simp only [ex]; rw [hP.2]; exact bd.2), ?_, e⟩
  have := (fop_rnd .quo rfl .f32 hP.1 hA (fun _ => hne) 0 (by decide) (by simp only [ex]; rw [hP.2, tp_zero]; exact bd.2) (by simp only [ex]; rw [hP.2, tp_zero]; grind)).2
  simp only [ex] at this
  rw [hP.2] at this
  exact this
theorem sb_of {J : Nat} (hS : V .f32 S ((4 * k : Int) : Rat)) (hk : 0 ≤ k ∧ k ≤ 64) (hJ : V .f32 J (j : Rat)) (hj : 0 ≤ j ∧ j ≤ 7) : SB S (fop .sub .f32 (frz S) J) (fop .sub .f32 (frz S) (cn .f32 1091567616)) := by
  obtain ⟨z, z1, z2, z3, z4, z5⟩ := salt_z hk
  obtain ⟨u0, u1, u2⟩ := salt_cut hS (by omega)
  have ua := u1 z (by omega) z1
  have ub := u2 (z - 1) (by omega) z2
  have uc := u2 0 (by omega) (by omega)
  have hP := frz_val hS (by omega)
  have hslt := salt_slt hS (by omega)
  generalize hu : fv .f32 (fop .mul .f32 c054 S) = u at ua ub uc hP
  have u00 : 0 ≤ u := by have : (((0 : Int) : Rat) / 8) = 0 := by (have : ((0 : Int) : Rat) = 0 := rfl); grind
                         grind
  have zr : (z : Rat) ≤ ((200 : Int) : Rat) := icast_le z5
  rw [Rat.intCast_sub] at ub
  have j0 : ((0 : Int) : Rat) ≤ (j : Rat) := icast_le hj.1
  have j7 : (j : Rat) ≤ ((7 : Int) : Rat) := icast_le hj.2
  have VP : V .f32 (frz S) (-u) := hP
  -- the two places
  have A1 := fop_btw .sub rfl .f32 (x := frz S) (y := J) (a := ((-z - 56 : Int) : Rat) / 8) (b := 1) VP.1 hJ.1 (by simp) (rep_eighth (by omega)) (by simpa using Rep.int (k := .f32) 1 (by decide)) (by simp only [ex]; rw [VP.2, hJ.2, Rat.intCast_sub, Rat.intCast_neg]; grind) (by simp only [ex]; rw [VP.2, hJ.2]; grind)
  have A2 := fop_btw .sub rfl .f32 (x := frz S) (y := cn .f32 1091567616) (a := -100) (b := ((-z - 71 : Int) : Rat) / 8) VP.1 V9.1 (by simp) (by simpa using Rep.int (k := .f32) (-100) (by decide)) (rep_eighth (by omega)) (by simp only [ex]; rw [VP.2, V9.2]; grind) (by simp only [ex]; rw [VP.2, V9.2, Rat.intCast_sub, Rat.intCast_neg]; grind)
  generalize fop .sub .f32 (frz S) J = X1 at A1 ⊢
  generalize fop .sub .f32 (frz S) (cn .f32 1091567616) = X2 at A2 ⊢
  obtain ⟨f1, l1, _⟩ := A1
  obtain ⟨f2, _, l2⟩ := A2
  rw [Rat.intCast_sub, Rat.intCast_neg] at l1 l2
  have lt21 : fv .f32 X2 < fv .f32 X1 := by grind
  have lt2 : fv .f32 X2 < -u := by grind
  obtain ⟨q2, r2, e2⟩ := brine_quo VP u00 f2 lt2
  have ge2 : fge .f32 X2 (frz S) = false := by rw [fgev f2 VP.1, VP.2]; exact decide_eq_false (by grind)
  have F2 : brnF X2 S = fop .quo .f32 (frz S) X2 ∧ brnB X2 S = true := by
    unfold brnF brnB
    rw [hslt, fin_of' f2]
    simp only [Bool.and_self, if_true]
    rw [ge2]
    simp only [Bool.false_eq_true, if_false]
    exact ⟨chk_yes (fin_of' q2.1), fin_of' q2.1⟩
  by_cases hc : fge .f32 X1 (frz S) = true
  · have F1 : brnF X1 S = cn .f32 1065353216 ∧ brnB X1 S = true := by
      unfold brnF brnB
      rw [hslt, fin_of' f1]
      simp only [Bool.and_self, if_true]
      rw [hc]
      exact ⟨rfl, rfl⟩
    refine ⟨F1.2, F2.2, ?_, ?_, ?_⟩
    · rw [F1.1, fgev V1.1 V0.1, V1.2, V0.2]; decide
    · rw [F1.1, flev V1.1 V1.1, V1.2]; decide
    · rw [F1.1, F2.1, flev q2.1 V1.1, V1.2]; exact decide_eq_true q2.2.2
  · have hc' : fge .f32 X1 (frz S) = false := by simpa using hc
    have lt1 : fv .f32 X1 < -u := by
      rw [fgev f1 VP.1, VP.2] at hc'
      have := of_decide_eq_false hc'
      grind
    obtain ⟨q1, r1, e1⟩ := brine_quo VP u00 f1 lt1
    have F1 : brnF X1 S = fop .quo .f32 (frz S) X1 ∧ brnB X1 S = true := by
      unfold brnF brnB
      rw [hslt, fin_of' f1]
      simp only [Bool.and_self, if_true]
      rw [hc']
      simp only [Bool.false_eq_true, if_false]
      exact ⟨chk_yes (fin_of' q1.1), fin_of' q1.1⟩
    refine ⟨F1.2, F2.2, ?_, ?_, ?_⟩
    · rw [F1.1, fgev q1.1 V0.1, V0.2]; exact decide_eq_true q1.2.1
    · rw [F1.1, flev q1.1 V1.1, V1.2]; exact decide_eq_true q1.2.2
    · rw [F1.1, F2.1, flev q2.1 q1.1]
      refine decide_eq_true ?_
      by_cases hu0 : 0 < u
      · exact rnd_mono r2 r1 (rp_word q2.1) (rp_word q1.1) (ratio_lt hu0 (by grind) lt21 e1 e2)
      · have hz : u = 0 := by grind
        have hv : -u / fv .f32 X2 = 0 := by rw [hz]; grind
        rw [hv] at r2
        rw [r2.zero]
        exact q1.2.1
end
end Go.Proofs.Ytiodpahbmoeiaaa

/-
  Salty water: where it freezes and which part is fluid, for small numbers: bounds. No condition but what each law says.
-/
import Derived.Test.YtiodpahbmoeiaaaMono
import Derived.Test.YtiodpahbmoeiaaaSalt
set_option linter.unusedSimpArgs false
set_option linter.unusedVariables false
set_option linter.unusedSectionVars false
namespace Go.Proofs.Ytiodpahbmoeiaaa
open Go Go.RowKit
def c054 : Nat := cn .f32 1029517083
theorem V054 : V .f32 c054 ((14495515 : Int) * tp (-28)) := by
  have h := fv_of (k := .f32) (x := c054) (s := false) (m := 14495515) (p := -28) (by decide +kernel)
  exact ⟨h.1, by rw [h.2]; simp only [sg, Bool.false_eq_true, if_false]; have : ((14495515 : Nat) : Rat) = ((14495515 : Int) : Rat) := rfl; rw [this]; grind⟩
theorem tp_n28 : tp (-28) * 268435456 = 1 := by
  have h : tp (-28) * tp 28 = 1 := by rw [← tp_add]; exact tp_zero
  rwa [show tp 28 = 268435456 from (tp_nat 28).trans rfl] at h
theorem V300 : V .f32 (cn .f32 1133903872) 300 := by
  have : cn .f32 1133903872 = floatOfInt .f32 300 := by decide +kernel
  rw [this]; exact (V.int .f32 300 (by decide)).eq rfl
theorem V9 : V .f32 (cn .f32 1091567616) 9 := by
  have : cn .f32 1091567616 = floatOfInt .f32 9 := by decide +kernel
  rw [this]; exact (V.int .f32 9 (by decide)).eq rfl
section
variable {S : Nat} {k z : Int}
theorem salt_slt (hS : V .f32 S ((4 * k : Int) : Rat)) (hk : 0 ≤ k ∧ k ≤ 66) : slt S = true := by
  have a : ((0 : Int) : Rat) ≤ ((4 * k : Int) : Rat) := icast_le (by omega)
  have b : ((4 * k : Int) : Rat) ≤ ((300 : Int) : Rat) := icast_le (by omega)
  unfold slt
  rw [fgev hS.1 V0.1, flev hS.1 V300.1, hS.2, V0.2, V300.2]
  simp only [Bool.and_eq_true, decide_eq_true_eq]
  exact ⟨by grind, by grind⟩
/-- Where it freezes lies between eighths. -/
theorem salt_cut (hS : V .f32 S ((4 * k : Int) : Rat)) (hk : 0 ≤ k ∧ k ≤ 66) : fnt .f32 (fop .mul .f32 c054 S) = true ∧ (∀ z : Int, z.natAbs ≤ 1000 → 57982060 * k ≤ 33554432 * z → fv .f32 (fop .mul .f32 c054 S) ≤ (z : Rat) / 8) ∧ (∀ z : Int, z.natAbs ≤ 1000 → 33554432 * z ≤ 57982060 * k → (z : Rat) / 8 ≤ fv .f32 (fop .mul .f32 c054 S)) := by
  have a : ((0 : Int) : Rat) ≤ ((4 * k : Int) : Rat) := icast_le (by omega)
  have b : ((4 * k : Int) : Rat) ≤ ((264 : Int) : Rat) := icast_le (by omega)
  have t := tp_n28
  have e : ex .mul (fv .f32 c054) (fv .f32 S) * 268435456 = ((57982060 * k : Int) : Rat) := by
    simp only [ex]
    rw [V054.2, hS.2, Rat.intCast_mul, Rat.intCast_mul]
    have h1 : ((57982060 : Int) : Rat) = ((14495515 : Int) : Rat) * ((4 : Int) : Rat) := by rw [← Rat.intCast_mul]; rfl
    rw [h1]; grind
  have k1 : ((0 : Int) : Rat) ≤ ((57982060 * k : Int) : Rat) := icast_le (by omega)
  have k2 : ((57982060 * k : Int) : Rat) ≤ ((3826815960 : Int) : Rat) := icast_le (by omega)
  obtain ⟨g1, g2⟩ := fop_rnd .mul rfl .f32 V054.1 hS.1 (by simp) 7 (by decide) (by rw [tp7]; grind) (by rw [tp7]; grind)
  refine ⟨g1, fun z hz h => ?_, fun z hz h => ?_⟩
  · have h' : ((57982060 * k : Int) : Rat) ≤ ((33554432 * z : Int) : Rat) := icast_le h
    rw [Rat.intCast_mul (33554432) z] at h'
    exact g2.rep_le (rep_eighth (by omega)) (by grind)
  · have h' : ((33554432 * z : Int) : Rat) ≤ ((57982060 * k : Int) : Rat) := icast_le h
    rw [Rat.intCast_mul (33554432) z] at h'
    exact g2.rep_ge (rep_eighth (by omega)) (by grind)
theorem salt_z (hk : 0 ≤ k ∧ k ≤ 64) : ∃ z : Int, 57982060 * k ≤ 33554432 * z ∧ 33554432 * (z - 1) ≤ 57982060 * k ∧ 33554432 * (z + 1) ≤ 57982060 * (k + 2) ∧ 0 ≤ z ∧ z ≤ 200 :=
  ⟨(57982060 * k + 33554431) / 33554432, by omega, by omega, by omega, by omega, by omega⟩
theorem frz_val (hS : V .f32 S ((4 * k : Int) : Rat)) (hk : 0 ≤ k ∧ k ≤ 66) : fnt .f32 (frz S) = true ∧ fv .f32 (frz S) = -fv .f32 (fop .mul .f32 c054 S) := fneg_val (salt_cut hS hk).1
/-- More salt: it freezes later. -/
theorem frz_lower {S1 : Nat} (hS : V .f32 S ((4 * k : Int) : Rat)) (hS1 : V .f32 S1 ((4 * (k + 2) : Int) : Rat)) (hk : 0 ≤ k ∧ k ≤ 64) : flt .f32 (frz S1) (frz S) = true := by
  obtain ⟨z, z1, z2, z3, z4, z5⟩ := salt_z hk
  obtain ⟨_, u1, _⟩ := salt_cut hS (by omega)
  obtain ⟨_, _, v1⟩ := salt_cut hS1 (by omega)
  have a := u1 z (by omega) z1
  have b := v1 (z + 1) (by omega) z3
  rw [Rat.intCast_add] at b
  have p := frz_val hS (by omega)
  have q := frz_val hS1 (by omega)
  rw [fltv q.1 p.1, p.2, q.2]
  exact decide_eq_true (by grind)
end
end Go.Proofs.Ytiodpahbmoeiaaa

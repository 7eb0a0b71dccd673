/-
  Drawn stuffs, in 64 bits: gaps, the lesser and the greater; all that the law on stuffs asks. No condition but what each law says.
-/
import Derived.Test.YtiodpahbmoeiaaaStY
set_option linter.unusedSimpArgs false
set_option linter.unusedVariables false
set_option linter.unusedSectionVars false
namespace Go.Proofs.Ytiodpahbmoeiaaa
open Go Go.RowKit
def gapC (x y : Nat) : Nat := if flt .f64 x y then fop .sub .f64 y x else fop .sub .f64 x y
theorem cn_gapC (x y : Nat) : cn .f64 (gapC x y) = gapC x y := by unfold gapC; split <;> exact cn_fop _ _ _ _
/-- A hundredth, a thousandth, in 64 bits. -/
def cHun : Nat := cn .f64 4576918229304087675
def cTho : Nat := cn .f64 4562254508917369340
theorem rep64 (z q : Int) (h : z.natAbs < 9007199254740992) (h1 : -1000 ≤ q) (h2 : q ≤ 900) {r : Rat} (hr : r = z * tp q) : Rep .f64 r := rep_at (k := .f64) z q (by show z.natAbs < 2 ^ (52 + 1); exact h) (by show -1074 ≤ q; omega) (by show q + 52 + 1 < 1024; omega) hr
theorem tp_n7 : tp (-7) * 128 = 1 := by
  have h : tp (-7) * tp 7 = 1 := by rw [← tp_add]; exact tp_zero
  rwa [tp7] at h
theorem V64 : V .f64 (fop .quo .f64 (floatOfInt .f64 1) (floatOfInt .f64 128)) ((1 : Rat) / 128) := by
  have := V.op .quo rfl (V.int .f64 1 (by decide)) (V.int .f64 128 (by decide)) (fun _ => by decide) (by simp only [ex]; exact rep64 1 (-7) (by decide) (by decide) (by decide) (by have := tp_n7; grind))
  exact this.eq rfl
theorem cHun_lt : fnt .f64 cHun = true ∧ (1 : Rat) / 128 < fv .f64 cHun := by
  have h1 : fnt .f64 cHun = true := by decide +kernel
  refine ⟨h1, ?_⟩
  have h2 : flt .f64 (fop .quo .f64 (floatOfInt .f64 1) (floatOfInt .f64 128)) cHun = true := by decide +kernel
  rw [fltv V64.1 h1, V64.2] at h2
  exact of_decide_eq_true h2
theorem cTho_pos : fnt .f64 cTho = true ∧ 0 ≤ fv .f64 cTho ∧ fv .f64 cTho ≤ 1 := by
  have h1 : fnt .f64 cTho = true := by decide +kernel
  have z := V.int .f64 0 (by decide)
  have o := V.int .f64 1 (by decide)
  refine ⟨h1, ?_, ?_⟩
  · have h2 : fle .f64 (floatOfInt .f64 0) cTho = true := by decide +kernel
    rw [flev z.1 h1, z.2] at h2
    exact of_decide_eq_true h2
  · have h2 : fle .f64 cTho (floatOfInt .f64 1) = true := by decide +kernel
    rw [flev h1 o.1, o.2] at h2
    exact of_decide_eq_true h2
theorem rep128 : Rep .f64 ((1 : Rat) / 128) := rep64 1 (-7) (by decide) (by decide) (by decide) (by have := tp_n7; grind)
theorem gap_small {x y : Nat} (hx : fnt .f64 x = true) (hy : fnt .f64 y = true) (h1 : fv .f64 x - fv .f64 y ≤ 1 / 128) (h2 : fv .f64 y - fv .f64 x ≤ 1 / 128) : flt .f64 (gapC x y) cHun = true := by
  obtain ⟨c1, c2⟩ := cHun_lt
  unfold gapC
  split
  · obtain ⟨g1, g2, g3⟩ := fop_btw .sub rfl .f64 (a := -((1 : Rat) / 128)) (b := (1 : Rat) / 128) hy hx (by simp) rep128.neg rep128 (by simp only [ex]; grind) (by simp only [ex]; grind)
    rw [fltv g1 c1]
    exact decide_eq_true (by grind)
  · obtain ⟨g1, g2, g3⟩ := fop_btw .sub rfl .f64 (a := -((1 : Rat) / 128)) (b := (1 : Rat) / 128) hx hy (by simp) rep128.neg rep128 (by simp only [ex]; grind) (by simp only [ex]; grind)
    rw [fltv g1 c1]
    exact decide_eq_true (by grind)
def fmin64 (x y : Nat) : Nat := if flt .f64 x y then x else if flt .f64 y x then y else if (FloatKind.f64.decode x).neg then x else y
def fmax64 (x y : Nat) : Nat := if flt .f64 x y then y else if flt .f64 y x then x else if (FloatKind.f64.decode x).neg then y else x
theorem run_fmin64 {P : Program} {x y : Nat} (hx : fnt .f64 x = true) (hy : fnt .f64 y = true) (ts : Array TypeId) (t : TypeId) (w : World) : (Builtin.min_ ts t #[.float .f64 x, .float .f64 y]).run P w = .ok (.float .f64 (fmin64 x y)) w := by
  have h1 := fltv hx hy
  have h2 := fltv hy hx
  unfold fmin64
  rcases ordv .f64 hx hy with ⟨h, e⟩ | ⟨h, e⟩ | ⟨h, e⟩
  · rw [h1, decide_eq_true e]
    simp [Builtin.min_, Builtin.min2, h]
  · rw [h1, h2, decide_eq_false (by grind), decide_eq_false (by grind)]
    simp [Builtin.min_, Builtin.min2, h]
  · rw [h1, h2, decide_eq_false (by grind), decide_eq_true e]
    simp [Builtin.min_, Builtin.min2, h]
theorem run_fmax64 {P : Program} {x y : Nat} (hx : fnt .f64 x = true) (hy : fnt .f64 y = true) (ts : Array TypeId) (t : TypeId) (w : World) : (Builtin.max_ ts t #[.float .f64 x, .float .f64 y]).run P w = .ok (.float .f64 (fmax64 x y)) w := by
  have h1 := fltv hx hy
  have h2 := fltv hy hx
  unfold fmax64
  rcases ordv .f64 hx hy with ⟨h, e⟩ | ⟨h, e⟩ | ⟨h, e⟩
  · rw [h1, decide_eq_true e]
    simp [Builtin.max_, Builtin.max2, h]
  · rw [h1, h2, decide_eq_false (by grind), decide_eq_false (by grind)]
    simp [Builtin.max_, Builtin.max2, h]
  · rw [h1, h2, decide_eq_false (by grind), decide_eq_true e]
    simp [Builtin.max_, Builtin.max2, h]
theorem fmin64_val {x y : Nat} (hx : fnt .f64 x = true) (hy : fnt .f64 y = true) : fnt .f64 (fmin64 x y) = true ∧ fv .f64 (fmin64 x y) ≤ fv .f64 x ∧ fv .f64 (fmin64 x y) ≤ fv .f64 y ∧ (fmin64 x y = x ∨ fmin64 x y = y) := by
  have h1 := fltv hx hy
  have h2 := fltv hy hx
  unfold fmin64
  rcases ordv .f64 hx hy with ⟨h, e⟩ | ⟨h, e⟩ | ⟨h, e⟩
  · rw [h1, decide_eq_true e]
    exact ⟨hx, Rat.le_refl, Rat.le_of_lt e, .inl rfl⟩
  · rw [h1, h2, decide_eq_false (by grind), decide_eq_false (by grind)]
    simp only [Bool.false_eq_true, if_false]
    split
    · exact ⟨hx, Rat.le_refl, by grind, .inl rfl⟩
    · exact ⟨hy, by grind, Rat.le_refl, .inr rfl⟩
  · rw [h1, h2, decide_eq_false (by grind), decide_eq_true e]
    exact ⟨hy, Rat.le_of_lt e, Rat.le_refl, .inr rfl⟩
theorem fmax64_val {x y : Nat} (hx : fnt .f64 x = true) (hy : fnt .f64 y = true) : fnt .f64 (fmax64 x y) = true ∧ fv .f64 x ≤ fv .f64 (fmax64 x y) ∧ fv .f64 y ≤ fv .f64 (fmax64 x y) ∧ (fmax64 x y = x ∨ fmax64 x y = y) := by
  have h1 := fltv hx hy
  have h2 := fltv hy hx
  unfold fmax64
  rcases ordv .f64 hx hy with ⟨h, e⟩ | ⟨h, e⟩ | ⟨h, e⟩
  · rw [h1, decide_eq_true e]
    exact ⟨hy, Rat.le_of_lt e, Rat.le_refl, .inr rfl⟩
  · rw [h1, h2, decide_eq_false (by grind), decide_eq_false (by grind)]
    simp only [Bool.false_eq_true, if_false]
    split
    · exact ⟨hy, by grind, Rat.le_refl, .inr rfl⟩
    · exact ⟨hx, Rat.le_refl, by grind, .inl rfl⟩
  · rw [h1, h2, decide_eq_false (by grind), decide_eq_true e]
    exact ⟨hx, Rat.le_refl, Rat.le_of_lt e, .inl rfl⟩
end Go.Proofs.Ytiodpahbmoeiaaa

/-
  Rows of equations, solved in single precision: how near the answers are, and what is left of each row (any ends). No condition but what each law says; nothing of the program is named here.
  Rows of equations: one more row. No condition but what each law says.
  Rods that are handed back, in plans. No condition but what each contract says.
  Calls that hand back a rod and stores of a rod, in plans with memory that turns. No condition but what each law says.
  A rod a tick later by rows of equations: the program's way. No condition but what each contract says.
  slices.IndexFunc and ContainsFunc at a closure with one captured variable, whose calls may make memory. No condition but what each contract says.
  How warm a rod is at a place (the program's and the reference's). No condition but what each contract says.
  Sums of lists of numbers (the program's and the reference's). No condition but what each contract says.
-/
import Derived.Test.YtpnkapdemgieaaaQM5
import Derived.Test.YtpnkapdemgieaaaQM3
import Derived.Test.YtpnkapdemgieaaaQM4
import Derived.Deep.CutRange
import Derived.Test.YtpnkapdemgieaaaQM2
set_option linter.unusedSimpArgs false
set_option linter.unusedVariables false
set_option linter.unusedSectionVars false
namespace Go.Proofs.Ytpnkapdemgieaaa
open Go Go.RowKit
/-- Rows, near exact ones. -/
structure RowsE (n : Nat) (b a x s : Nat → Nat) (p W so Z : Nat → Rat) (M D Zm : Rat) : Prop where
  hn : 1 ≤ n ∧ n ≤ 6
  hM : 1 / 1024 ≤ M ∧ M ≤ 1000
  hD : 0 ≤ D ∧ 0 ≤ Zm ∧ Zm + D ≤ M ∧ Zm ≤ 1 * M
  hp : ∀ i, i ≤ n → 0 ≤ p i ∧ p i ≤ 16
  hW : ∀ i, i < n → 1 / 4 ≤ W i ∧ W i ≤ 16
  hb : ∀ i, i < n → V .f32 (b i) (-(p i))
  hx : ∀ i, i < n → V .f32 (x i) (-(p (i + 1)))
  ha : ∀ i, i < n → fnt .f32 (a i) = true ∧ fv .f32 (a i) - (W i + p i + p (i + 1)) ≤ 81 * uu ∧ (W i + p i + p (i + 1)) - fv .f32 (a i) ≤ 81 * uu
  hs : ∀ i, i < n → fnt .f32 (s i) = true ∧ fv .f32 (s i) - so i ≤ 140 * (M * uu) ∧ so i - fv .f32 (s i) ≤ 140 * (M * uu)
  hsb : ∀ i, i < n → so i ≤ (481 / 10) * M ∧ -so i ≤ (481 / 10) * M
  hZ : ∀ i, Z i ≤ Zm ∧ -Z i ≤ Zm
  hof : so 0 - ((W 0 + p 0 + (qiR p n 0 + qlR p n 0)) * Z 0 - qiR p n 0 * Z 1) ≤ (W 0 + p 0 + qlR p n 0) * D ∧ ((W 0 + p 0 + (qiR p n 0 + qlR p n 0)) * Z 0 - qiR p n 0 * Z 1) - so 0 ≤ (W 0 + p 0 + qlR p n 0) * D
  hoi : ∀ i, i + 1 < n → so (i + 1) - ((W (i + 1) + p (i + 1) + (qiR p n (i + 1) + qlR p n (i + 1))) * Z (i + 1) - p (i + 1) * Z i - qiR p n (i + 1) * Z (i + 2)) ≤ (W (i + 1) + qlR p n (i + 1)) * D ∧ ((W (i + 1) + p (i + 1) + (qiR p n (i + 1) + qlR p n (i + 1))) * Z (i + 1) - p (i + 1) * Z i - qiR p n (i + 1) * Z (i + 2)) - so (i + 1) ≤ (W (i + 1) + qlR p n (i + 1)) * D
section
variable {n : Nat} {b a x s : Nat → Nat} {p W so Z : Nat → Rat} {M D Zm : Rat}
theorem RowsE.mu (h : RowsE n b a x s p W so Z M D Zm) : 0 < uu ∧ 16700000 * uu = 1 ∧ 16700000 * (M * uu) = M ∧ 0 < M * uu := by
  have u1 : 16700000 * uu = 1 := by unfold uu; decide +kernel
  have u0 : 0 < uu := by unfold uu; decide +kernel
  have hM := h.hM
  exact ⟨u0, u1, by grind, Rat.mul_pos (by grind) u0⟩
/-- The pivot. -/
structure PivE (p : Nat → Rat) (b a x : Nat → Nat) (i : Nat) : Prop where
  f : fnt .f32 (elA b a x i) = true
  lo : p (i + 1) + 1 / 5 ≤ fv .f32 (elA b a x i)
  hi : fv .f32 (elA b a x i) ≤ 48 + 1 / 10
/-- From pivot to pivot. -/
structure LnkE (p W : Nat → Rat) (b a x : Nat → Nat) (i : Nat) : Prop where
  f : fnt .f32 (elF b a x i) = true
  lo : -1 ≤ fv .f32 (elF b a x i)
  hi : fv .f32 (elF b a x i) ≤ 0
  g1 : fv .f32 (elF b a x i) * fv .f32 (elA b a x i) + p (i + 1) ≤ 17 * uu
  g2 : -(fv .f32 (elF b a x i) * fv .f32 (elA b a x i) + p (i + 1)) ≤ 17 * uu
  m1 : fv .f32 (elA b a x (i + 1)) - (W (i + 1) + p (i + 1) + p (i + 2) + fv .f32 (elF b a x i) * p (i + 1)) ≤ 146 * uu
  m2 : (W (i + 1) + p (i + 1) + p (i + 2) + fv .f32 (elF b a x i) * p (i + 1)) - fv .f32 (elA b a x (i + 1)) ≤ 146 * uu
theorem RowsE.first (h : RowsE n b a x s p W so Z M D Zm) : PivE p b a x 0 := by
  obtain ⟨u0, u1, _, _⟩ := h.mu
  have hn := h.hn
  obtain ⟨a0, a1, a2⟩ := h.ha 0 (by omega)
  obtain ⟨p0, p1⟩ := h.hp 0 (by omega)
  obtain ⟨q0, q1⟩ := h.hp 1 (by omega)
  obtain ⟨w0, w1⟩ := h.hW 0 (by omega)
  exact ⟨a0, by show p 1 + 1 / 5 ≤ fv .f32 (a 0); grind, by show fv .f32 (a 0) ≤ _; grind⟩
theorem RowsE.next (h : RowsE n b a x s p W so Z M D Zm) {i : Nat} (hi : i + 1 < n) (hp : PivE p b a x i) : LnkE p W b a x i ∧ PivE p b a x (i + 1) := by
  obtain ⟨u0, u1, _, _⟩ := h.mu
  obtain ⟨a0, a1, a2⟩ := h.ha (i + 1) hi
  obtain ⟨p0, p1⟩ := h.hp (i + 1) (by omega)
  obtain ⟨q0, q1⟩ := h.hp (i + 2) (by omega)
  obtain ⟨w0, w1⟩ := h.hW (i + 1) hi
  have hb := h.hb (i + 1) hi
  have hx := h.hx i (by omega)
  obtain ⟨m0, ml, mh⟩ := hp
  have mp : 0 < fv .f32 (elA b a x i) := by grind
  have dv : -(p (i + 1)) / fv .f32 (elA b a x i) * fv .f32 (elA b a x i) = -(p (i + 1)) := Rat.div_mul_cancel (by grind)
  have r0 : Rep .f32 (0 : Rat) := Rep.int (k := .f32) 0 (by decide)
  have r1 : Rep .f32 (1 : Rat) := Rep.int (k := .f32) 1 (by decide)
  have v1 : -1 ≤ -(p (i + 1)) / fv .f32 (elA b a x i) := mul_cancel_le mp (by rw [dv]; grind)
  have v2 : -(p (i + 1)) / fv .f32 (elA b a x i) ≤ 0 := mul_cancel_le mp (by rw [dv]; grind)
  obtain ⟨f0, f1, f2⟩ := fop_btw .quo rfl .f32 (a := -1) (b := 0) hb.1 m0 (fun _ => by grind) r1.neg r0 (by simp only [ex]; rw [hb.2]; exact v1) (by simp only [ex]; rw [hb.2]; exact v2)
  obtain ⟨_, e1, e2⟩ := fop_u .quo rfl hb.1 m0 (fun _ => by grind) (M := -(-(p (i + 1)) / fv .f32 (elA b a x i)) + 1 / 1000000) (by grind) (by grind) (by simp only [ex]; rw [hb.2]; grind) (by simp only [ex]; rw [hb.2]; grind)
  simp only [ex] at e1 e2
  rw [hb.2] at e1 e2
  have f0 : fnt .f32 (elF b a x i) = true := f0
  have f1 : -1 ≤ fv .f32 (elF b a x i) := f1
  have f2 : fv .f32 (elF b a x i) ≤ 0 := f2
  have e1 : fv .f32 (elF b a x i) - -(p (i + 1)) / fv .f32 (elA b a x i) ≤ (-(-(p (i + 1)) / fv .f32 (elA b a x i)) + 1 / 1000000) * uu := e1
  have e2 : -(p (i + 1)) / fv .f32 (elA b a x i) - fv .f32 (elF b a x i) ≤ (-(-(p (i + 1)) / fv .f32 (elA b a x i)) + 1 / 1000000) * uu := e2
  have g1' := Rat.mul_le_mul_of_nonneg_right e1 (Rat.le_of_lt mp)
  have g2' := Rat.mul_le_mul_of_nonneg_right e2 (Rat.le_of_lt mp)
  have eA : elA b a x (i + 1) = fop .sub .f32 (a (i + 1)) (fop .mul .f32 (elF b a x i) (x i)) := rfl
  rw [show i + 1 + 1 = i + 2 by omega] at a1 a2
  obtain ⟨mw, hmw⟩ : ∃ y, elA b a x i = y := ⟨_, rfl⟩
  obtain ⟨fw, hfw⟩ : ∃ y, elF b a x i = y := ⟨_, rfl⟩
  rw [hmw] at m0 ml mh mp dv v1 v2 e1 e2 g1' g2'
  rw [hfw] at f0 f1 f2 e1 e2 g1' g2' eA
  generalize -(p (i + 1)) / fv .f32 mw = q at *
  have mu1 := Rat.mul_le_mul_of_nonneg_right mh (Rat.le_of_lt u0)
  have pu1 := Rat.mul_le_mul_of_nonneg_right p1 (Rat.le_of_lt u0)
  have dvu : q * fv .f32 mw * uu = -(p (i + 1)) * uu := by rw [dv]
  clear e1 e2
  have g1 : fv .f32 fw * fv .f32 mw + p (i + 1) ≤ 17 * uu := by grind
  have g2 : -(fv .f32 fw * fv .f32 mw + p (i + 1)) ≤ 17 * uu := by grind
  -- the product
  obtain ⟨n0, n1⟩ := fneg_val hx.1
  have fp1 := Rat.mul_nonneg (show 0 ≤ -fv .f32 fw by grind) p0
  have fp2 := Rat.mul_le_mul_of_nonneg_right (show -fv .f32 fw ≤ 1 by grind) p0
  have hv : ex .mul (fv .f32 fw) (fv .f32 (x i)) = -fv .f32 fw * p (i + 1) := by simp only [ex]; rw [hx.2]; grind
  have t40 : tp 40 = 1099511627776 := (tp_nat 40).trans rfl
  obtain ⟨c0, c1⟩ := fop_rnd .mul rfl .f32 f0 hx.1 (by simp) 40 (by decide) (by rw [hv, t40]; grind) (by rw [hv, t40]; grind)
  rw [hv] at c1
  have c2 := rnd_u (M := 16) c1 (by grind) (by grind) (by grind)
  have c3 := c1.rep_ge r0 fp1
  have c4 := rnd_le_wd n0 c1 (by rw [n1, hx.2]; grind)
  rw [n1, hx.2] at c4
  generalize fop .mul .f32 fw (x i) = qw at *
  obtain ⟨d0, d1, d2⟩ := fop_u .sub rfl a0 c0 (by simp) (M := 48 + 1) (by grind) (by grind) (by simp only [ex]; grind) (by simp only [ex]; grind)
  simp only [ex] at d1 d2
  obtain ⟨m', hm'⟩ : ∃ y, fop .sub .f32 (a (i + 1)) qw = y := ⟨_, rfl⟩
  rw [hm'] at eA d0 d1 d2
  refine ⟨⟨?_, ?_, ?_, ?_, ?_, ?_, ?_⟩, ?_, ?_, ?_⟩
  · rw [hfw]; exact f0
  · rw [hfw]; exact f1
  · rw [hfw]; exact f2
  · rw [hfw, hmw]; exact g1
  · rw [hfw, hmw]; exact g2
  · rw [hfw, eA]; grind
  · rw [hfw, eA]; grind
  · rw [eA]; exact d0
  · rw [eA, show i + 1 + 1 = i + 2 by omega]; grind
  · rw [eA]; grind
theorem RowsE.piv (h : RowsE n b a x s p W so Z M D Zm) : ∀ i, i < n → PivE p b a x i
  | 0, _ => h.first
  | i + 1, hi => (h.next hi (h.piv i (by omega))).2
theorem RowsE.lnk (h : RowsE n b a x s p W so Z M D Zm) {i : Nat} (hi : i + 1 < n) : LnkE p W b a x i := (h.next hi (h.piv i (by omega))).1
/-- How far the right sides may be off by then. -/
def epE (M : Rat) (i : Nat) : Rat := ((i + 1 : Nat) : Rat) * ((2077 / 5) * (M * uu))
theorem epE_succ (M : Rat) (i : Nat) : epE M (i + 1) = epE M i + (2077 / 5) * (M * uu) := by
  unfold epE
  rw [Rat.natCast_add (i + 1) 1]
  have e : ((1 : Nat) : Rat) = 1 := rfl
  rw [e]; grind
theorem epE_le {M : Rat} {i : Nat} (h : 0 < M * uu) (hi : i < 6) : 0 ≤ epE M i ∧ epE M i ≤ 6 * ((2077 / 5) * (M * uu)) := by
  unfold epE
  have k0 : (0 : Rat) ≤ ((i + 1 : Nat) : Rat) := by exact_mod_cast Nat.zero_le _
  have k1 : ((i + 1 : Nat) : Rat) ≤ ((6 : Nat) : Rat) := by exact_mod_cast (by omega : i + 1 ≤ 6)
  have e : ((6 : Nat) : Rat) = 6 := rfl
  rw [e] at k1
  have w : 0 ≤ (2077 / 5) * (M * uu) := by grind
  exact ⟨Rat.mul_nonneg k0 w, Rat.mul_le_mul_of_nonneg_right k1 w⟩
/-- The right side. -/
structure SdE (n : Nat) (b a x s : Nat → Nat) (p Z : Nat → Rat) (M D : Rat) (i : Nat) : Prop where
  f : fnt .f32 (elS b a x s i) = true
  v1 : fv .f32 (elS b a x s i) - (fv .f32 (elA b a x i) * Z i - qiR p n i * Z (i + 1)) ≤ (fv .f32 (elA b a x i) - qiR p n i) * D + epE M i
  v2 : (fv .f32 (elA b a x i) * Z i - qiR p n i * Z (i + 1)) - fv .f32 (elS b a x s i) ≤ (fv .f32 (elA b a x i) - qiR p n i) * D + epE M i
/-- From right side to right side. -/
def SLE (b a x s : Nat → Nat) (M : Rat) (i : Nat) : Prop := fv .f32 (elS b a x s (i + 1)) - (fv .f32 (s (i + 1)) - fv .f32 (elF b a x i) * fv .f32 (elS b a x s i)) ≤ (562 / 5) * (M * uu) ∧ (fv .f32 (s (i + 1)) - fv .f32 (elF b a x i) * fv .f32 (elS b a x s i)) - fv .f32 (elS b a x s (i + 1)) ≤ (562 / 5) * (M * uu)
theorem RowsE.sfirst (h : RowsE n b a x s p W so Z M D Zm) : SdE n b a x s p Z M D 0 := by
  obtain ⟨u0, u1, u2, u3⟩ := h.mu
  obtain ⟨D0, Z0, ZD, _⟩ := h.hD
  have hn := h.hn
  obtain ⟨a0, a1, a2⟩ := h.ha 0 (by omega)
  obtain ⟨s0, s1, s2⟩ := h.hs 0 (by omega)
  obtain ⟨o1, o2⟩ := h.hof
  obtain ⟨z1, z2⟩ := h.hZ 0
  have q := qR_sum p n 0
  have k := Rat.mul_le_mul_of_nonneg_right ZD (Rat.le_of_lt u0)
  have E : epE M 0 = (2077 / 5) * (M * uu) := by
    unfold epE
    have e : ((0 + 1 : Nat) : Rat) = 1 := rfl
    rw [e]; grind
  have r := el_first (W := W 0) (p := p 0) (qi := qiR p n 0) (ql := qlR p n 0) (m := fv .f32 (a 0)) (S := fv .f32 (s 0)) (so := so 0) (Z2 := Z 0) (Z3 := Z 1) (D := D) (c := 81 * uu) (k := 140 * (M * uu)) (Zm := Zm) D0 (by rw [q]; exact a1) (by rw [q]; exact a2) s1 s2 o1 o2 z1 z2 (by grind)
  exact ⟨s0, by show fv .f32 (s 0) - (fv .f32 (a 0) * Z 0 - _) ≤ (fv .f32 (a 0) - _) * D + _; rw [E]; have := r.1; grind, by show (fv .f32 (a 0) * Z 0 - _) - fv .f32 (s 0) ≤ (fv .f32 (a 0) - _) * D + _; rw [E]; have := r.2; grind⟩
theorem RowsE.snext (h : RowsE n b a x s p W so Z M D Zm) {i : Nat} (hi : i + 1 < n) (hS : SdE n b a x s p Z M D i) : SLE b a x s M i ∧ SdE n b a x s p Z M D (i + 1) := by
  obtain ⟨u0, u1, u2, u3⟩ := h.mu
  obtain ⟨D0, Z0, ZD, Zz⟩ := h.hD
  obtain ⟨M1, M2⟩ := h.hM
  have hn := h.hn
  obtain ⟨s0, s1, s2⟩ := h.hs (i + 1) hi
  obtain ⟨b1, b2⟩ := h.hsb (i + 1) hi
  obtain ⟨o1, o2⟩ := h.hoi i hi
  obtain ⟨z1, z1'⟩ := h.hZ i
  obtain ⟨z2, z2'⟩ := h.hZ (i + 1)
  obtain ⟨p0, p1⟩ := h.hp (i + 1) (by omega)
  obtain ⟨r0, _⟩ := h.hp (i + 2) (by omega)
  have P := h.piv i (by omega)
  have L := h.lnk hi
  obtain ⟨S0, v1, v2⟩ := hS
  rw [qiR_in hi] at v1 v2
  obtain ⟨e0, e6⟩ := epE_le (i := i) u3 (by omega)
  have q := qR_sum p n (i + 1)
  have qn := (qiR_le (n := n) (i := i + 1) r0).1
  have es := epE_succ M i
  have mp : 0 ≤ fv .f32 (elA b a x i) := by have := P.lo; grind
  obtain ⟨f1, f2⟩ := fs_bd L.lo L.hi p0 mp L.g2 v1 v2 z1 z1' z2 z2' e0 D0 Z0
  have hG : p (i + 1) + 17 * uu ≤ 16 + 17 * uu := by grind
  have k1 := Rat.mul_le_mul_of_nonneg_right hG (show 0 ≤ Zm + D by grind)
  have k2 := Rat.mul_le_mul_of_nonneg_left ZD (show 0 ≤ 16 + 17 * uu by grind)
  have k3 := Rat.mul_le_mul_of_nonneg_right p1 Z0
  have k4 := Rat.mul_le_mul_of_nonneg_right ZD (Rat.le_of_lt u0)
  have eS : elS b a x s (i + 1) = fop .sub .f32 (s (i + 1)) (fop .mul .f32 (elF b a x i) (elS b a x s i)) := rfl
  have F1 : fv .f32 (elF b a x i) * fv .f32 (elS b a x s i) ≤ (321 / 10) * M := by grind
  have F2 : -(fv .f32 (elF b a x i) * fv .f32 (elS b a x s i)) ≤ (321 / 10) * M := by grind
  obtain ⟨c0, c1, c2⟩ := fop_u .mul rfl L.f S0 (by simp) (M := (321 / 10) * M) (by grind) (by grind) (by simp only [ex]; exact F1) (by simp only [ex]; exact F2)
  simp only [ex] at c1 c2
  obtain ⟨pw, hpw⟩ : ∃ y, fop .mul .f32 (elF b a x i) (elS b a x s i) = y := ⟨_, rfl⟩
  rw [hpw] at c0 c1 c2 eS
  obtain ⟨d0, d1, d2⟩ := fop_u .sub rfl s0 c0 (by simp) (M := ((481 / 10) + (321 / 10) + 1 / 10) * M) (by grind) (by grind) (by simp only [ex]; grind) (by simp only [ex]; grind)
  simp only [ex] at d1 d2
  rw [← eS] at d0 d1 d2
  have D1 : fv .f32 (elS b a x s (i + 1)) - (fv .f32 (s (i + 1)) - fv .f32 (elF b a x i) * fv .f32 (elS b a x s i)) ≤ (562 / 5) * (M * uu) := by grind
  have D2 : (fv .f32 (s (i + 1)) - fv .f32 (elF b a x i) * fv .f32 (elS b a x s i)) - fv .f32 (elS b a x s (i + 1)) ≤ (562 / 5) * (M * uu) := by grind
  have r := el_step (W := W (i + 1)) (p := p (i + 1)) (qi := qiR p n (i + 1)) (ql := qlR p n (i + 1)) (m' := fv .f32 (elA b a x (i + 1))) (Z3 := Z (i + 2)) (c := 146 * uu) L.lo L.hi p0 qn e0 D0 L.g1 L.g2 (by rw [q]; exact L.m1) (by rw [q]; exact L.m2) v1 v2 s1 s2 D1 D2 o1 o2 z1 z1' z2 z2' (by grind) (by grind)
  refine ⟨⟨D1, D2⟩, d0, ?_, ?_⟩
  · rw [es]; have := r.1; grind
  · rw [es]; have := r.2; grind
theorem RowsE.sd (h : RowsE n b a x s p W so Z M D Zm) : ∀ i, i < n → SdE n b a x s p Z M D i
  | 0, _ => h.sfirst
  | i + 1, hi => (h.snext hi (h.sd i (by omega))).2
/-- The answer. -/
structure YdE (n : Nat) (b a x s : Nat → Nat) (p Z : Nat → Rat) (M D : Rat) (i : Nat) : Prop where
  f : fnt .f32 (solO b a x s n i) = true
  y1 : fv .f32 (solO b a x s n i) - Z i ≤ D + (1305821 / 100) * (M * uu)
  y2 : Z i - fv .f32 (solO b a x s n i) ≤ D + (1305821 / 100) * (M * uu)
  e1 : fv .f32 (elA b a x i) * fv .f32 (solO b a x s n i) - (fv .f32 (elS b a x s i) + qiR p n i * fv .f32 (solO b a x s n (i + 1))) ≤ (58621 / 500) * (M * uu)
  e2 : (fv .f32 (elS b a x s i) + qiR p n i * fv .f32 (solO b a x s n (i + 1))) - fv .f32 (elA b a x i) * fv .f32 (solO b a x s n i) ≤ (58621 / 500) * (M * uu)
theorem RowsE.ylast (h : RowsE n b a x s p W so Z M D Zm) {i : Nat} (hi : i + 1 = n) : YdE n b a x s p Z M D i := by
  obtain ⟨u0, u1, u2, u3⟩ := h.mu
  obtain ⟨D0, Z0, ZD, Zz⟩ := h.hD
  obtain ⟨M1, M2⟩ := h.hM
  have hn := h.hn
  obtain ⟨z1, z1'⟩ := h.hZ i
  obtain ⟨r0, _⟩ := h.hp (i + 1) (by omega)
  obtain ⟨m0, ml, mh⟩ := h.piv i (by omega)
  obtain ⟨S0, v1, v2⟩ := h.sd i (by omega)
  obtain ⟨e0, e6⟩ := epE_le (i := i) u3 (by omega)
  have qz : qiR p n i = 0 := qiR_last (by omega)
  rw [qz] at v1 v2
  have eY := solO_last b a x s n hi
  have mp : 0 < fv .f32 (elA b a x i) := by grind
  have dv : fv .f32 (elS b a x s i) / fv .f32 (elA b a x i) * fv .f32 (elA b a x i) = fv .f32 (elS b a x s i) := Rat.div_mul_cancel (by grind)
  have k1 := Rat.mul_le_mul_of_nonneg_left z1 (Rat.le_of_lt mp)
  have k2 := Rat.mul_le_mul_of_nonneg_left z1' (Rat.le_of_lt mp)
  have k3 := Rat.mul_le_mul_of_nonneg_left ZD (Rat.le_of_lt mp)
  have k4 := Rat.mul_le_mul_of_nonneg_left ml (show 0 ≤ M by grind)
  have k5 := Rat.mul_nonneg (show 0 ≤ M by grind) r0
  have q1 : fv .f32 (elS b a x s i) / fv .f32 (elA b a x i) ≤ 102 / 100 * M := mul_cancel_le mp (by rw [dv]; grind)
  have dn : -(fv .f32 (elS b a x s i) / fv .f32 (elA b a x i)) * fv .f32 (elA b a x i) = -fv .f32 (elS b a x s i) := by grind
  have q2 : -(fv .f32 (elS b a x s i) / fv .f32 (elA b a x i)) ≤ 102 / 100 * M := mul_cancel_le mp (by rw [dn]; grind)
  obtain ⟨y0, y1, y2⟩ := fop_u .quo rfl S0 m0 (fun _ => by grind) (M := 102 / 100 * M) (by grind) (by grind) (by simp only [ex]; exact q1) (by simp only [ex]; exact q2)
  simp only [ex] at y1 y2
  rw [← eY] at y0 y1 y2
  generalize fv .f32 (elS b a x s i) / fv .f32 (elA b a x i) = q at *
  have w1 := Rat.mul_le_mul_of_nonneg_right y1 (Rat.le_of_lt mp)
  have w2 := Rat.mul_le_mul_of_nonneg_right y2 (Rat.le_of_lt mp)
  have w3 := Rat.mul_le_mul_of_nonneg_left mh (Rat.le_of_lt u3)
  have E1 : fv .f32 (elA b a x i) * fv .f32 (solO b a x s n i) - (fv .f32 (elS b a x s i) + 0 * fv .f32 (solO b a x s n (i + 1))) ≤ (58621 / 500) * (M * uu) := by grind
  have E2 : (fv .f32 (elS b a x s i) + 0 * fv .f32 (solO b a x s n (i + 1))) - fv .f32 (elA b a x i) * fv .f32 (solO b a x s n i) ≤ (58621 / 500) * (M * uu) := by grind
  have B := bk_step (qi := 0) (y2 := 0) (Z2 := 0) (δ := (1305821 / 100) * (M * uu)) (e := (58621 / 500) * (M * uu)) (w := 1 / 5) Rat.le_refl (by grind) (by grind) (by grind) (show fv .f32 (elS b a x s i) - (fv .f32 (elA b a x i) * Z i - 0 * 0) ≤ (fv .f32 (elA b a x i) - 0) * D + epE M i by grind) (by grind) (by grind) (by grind) (show fv .f32 (elA b a x i) * fv .f32 (solO b a x s n i) - (fv .f32 (elS b a x s i) + 0 * 0) ≤ (58621 / 500) * (M * uu) by grind) (by grind) (by grind)
  exact ⟨y0, B.1, B.2, by rw [qz]; exact E1, by rw [qz]; exact E2⟩
theorem RowsE.ynext (h : RowsE n b a x s p W so Z M D Zm) {i : Nat} (hi : i + 1 < n) (hY : YdE n b a x s p Z M D (i + 1)) : YdE n b a x s p Z M D i := by
  obtain ⟨u0, u1, u2, u3⟩ := h.mu
  obtain ⟨D0, Z0, ZD, Zz⟩ := h.hD
  obtain ⟨M1, M2⟩ := h.hM
  have hn := h.hn
  obtain ⟨z1, z1'⟩ := h.hZ i
  obtain ⟨z2, z2'⟩ := h.hZ (i + 1)
  obtain ⟨r0, r1⟩ := h.hp (i + 1) (by omega)
  have hx := h.hx i (by omega)
  obtain ⟨m0, ml, mh⟩ := h.piv i (by omega)
  obtain ⟨S0, v1, v2⟩ := h.sd i (by omega)
  obtain ⟨e0, e6⟩ := epE_le (i := i) u3 (by omega)
  have qz : qiR p n i = p (i + 1) := qiR_in hi
  rw [qz] at v1 v2
  obtain ⟨y0, y1, y2, _, _⟩ := hY
  have eY := solO_next b a x s n hi
  have mp : 0 < fv .f32 (elA b a x i) := by grind
  obtain ⟨yw, hyw⟩ : ∃ y, solO b a x s n (i + 1) = y := ⟨_, rfl⟩
  rw [hyw] at y0 y1 y2 eY
  -- the product
  have yb1 : fv .f32 yw ≤ 1002 / 1000 * M := by grind
  have yb2 : -fv .f32 yw ≤ 1002 / 1000 * M := by grind
  have pb := mul_bd (a := 16) (b := 1002 / 1000 * M) (x := p (i + 1)) (y := fv .f32 yw) (by grind) r1 (by grind) yb1
  obtain ⟨c0, c1, c2⟩ := fop_u .mul rfl hx.1 y0 (by simp) (M := 16 * (1002 / 1000 * M)) (by grind) (by grind) (by simp only [ex]; rw [hx.2]; grind) (by simp only [ex]; rw [hx.2]; grind)
  simp only [ex] at c1 c2
  rw [hx.2] at c1 c2
  generalize fop .mul .f32 (x i) yw = pw at *
  -- the sum
  have k1 := Rat.mul_le_mul_of_nonneg_left z1 (Rat.le_of_lt mp)
  have k2 := Rat.mul_le_mul_of_nonneg_left z1' (Rat.le_of_lt mp)
  have k3 := Rat.mul_le_mul_of_nonneg_left ZD (Rat.le_of_lt mp)
  have k6 := Rat.mul_le_mul_of_nonneg_right mh (show 0 ≤ M by grind)
  have k7 := Rat.mul_le_mul_of_nonneg_left y1 r0
  have k8 := Rat.mul_le_mul_of_nonneg_left y2 r0
  have k9 := Rat.mul_le_mul_of_nonneg_right r1 (show 0 ≤ (1305821 / 100) * (M * uu) by grind)
  have t1 : fv .f32 (elS b a x s i) + p (i + 1) * fv .f32 yw ≤ fv .f32 (elA b a x i) * M + 15 / 1000 * M := by grind
  have t2 : -(fv .f32 (elS b a x s i) + p (i + 1) * fv .f32 yw) ≤ fv .f32 (elA b a x i) * M + 15 / 1000 * M := by grind
  obtain ⟨d0, d1, d2⟩ := fop_u .sub rfl S0 c0 (by simp) (M := (48 + 2 / 10) * M) (by grind) (by grind) (by simp only [ex]; grind) (by simp only [ex]; grind)
  simp only [ex] at d1 d2
  generalize fop .sub .f32 (elS b a x s i) pw = tw at *
  -- the quotient
  have dv : fv .f32 tw / fv .f32 (elA b a x i) * fv .f32 (elA b a x i) = fv .f32 tw := Rat.div_mul_cancel (by grind)
  have k4 := Rat.mul_le_mul_of_nonneg_left ml (show 0 ≤ M by grind)
  have k5 := Rat.mul_nonneg (show 0 ≤ M by grind) r0
  have dn : -(fv .f32 tw / fv .f32 (elA b a x i)) * fv .f32 (elA b a x i) = -fv .f32 tw := by grind
  have q1 : fv .f32 tw / fv .f32 (elA b a x i) ≤ 11 / 10 * M := mul_cancel_le mp (by rw [dv]; grind)
  have q2 : -(fv .f32 tw / fv .f32 (elA b a x i)) ≤ 11 / 10 * M := mul_cancel_le mp (by rw [dn]; grind)
  obtain ⟨x0, x1, x2⟩ := fop_u .quo rfl d0 m0 (fun _ => by grind) (M := 11 / 10 * M) (by grind) (by grind) (by simp only [ex]; exact q1) (by simp only [ex]; exact q2)
  simp only [ex] at x1 x2
  rw [← eY] at x0 x1 x2
  generalize fv .f32 tw / fv .f32 (elA b a x i) = q at *
  have w1 := Rat.mul_le_mul_of_nonneg_right x1 (Rat.le_of_lt mp)
  have w2 := Rat.mul_le_mul_of_nonneg_right x2 (Rat.le_of_lt mp)
  have w3 := Rat.mul_le_mul_of_nonneg_left mh (Rat.le_of_lt u3)
  have E1 : fv .f32 (elA b a x i) * fv .f32 (solO b a x s n i) - (fv .f32 (elS b a x s i) + p (i + 1) * fv .f32 yw) ≤ (58621 / 500) * (M * uu) := by grind
  have E2 : (fv .f32 (elS b a x s i) + p (i + 1) * fv .f32 yw) - fv .f32 (elA b a x i) * fv .f32 (solO b a x s n i) ≤ (58621 / 500) * (M * uu) := by grind
  have B := bk_step (qi := p (i + 1)) (y2 := fv .f32 yw) (Z2 := Z (i + 1)) (δ := (1305821 / 100) * (M * uu)) (e := (58621 / 500) * (M * uu)) (w := 1 / 5) r0 (by grind) ml (by grind) v1 v2 y1 y2 E1 E2 (by grind)
  exact ⟨x0, B.1, B.2, by rw [qz, hyw]; exact E1, by rw [qz, hyw]; exact E2⟩
theorem RowsE.yd (h : RowsE n b a x s p W so Z M D Zm) : ∀ j i, i + 1 + j = n → YdE n b a x s p Z M D i
  | 0, i, hi => h.ylast (by omega)
  | j + 1, i, hi => h.ynext (by omega) (h.yd j (i + 1) (by omega))
theorem RowsE.y (h : RowsE n b a x s p W so Z M D Zm) {i : Nat} (hi : i < n) : YdE n b a x s p Z M D i := h.yd (n - (i + 1)) i (by omega)
/-- What is left of a row. -/
theorem RowsE.res (h : RowsE n b a x s p W so Z M D Zm) {i : Nat} (hi : i < n) :
    (W i + p i + p (i + 1)) * fv .f32 (solO b a x s n i) - (if i = 0 then 0 else p i * fv .f32 (solO b a x s n (i - 1))) - qiR p n i * fv .f32 (solO b a x s n (i + 1)) - so i ≤ (325757 / 500) * (M * uu) ∧
    so i - ((W i + p i + p (i + 1)) * fv .f32 (solO b a x s n i) - (if i = 0 then 0 else p i * fv .f32 (solO b a x s n (i - 1))) - qiR p n i * fv .f32 (solO b a x s n (i + 1))) ≤ (325757 / 500) * (M * uu) := by
  obtain ⟨u0, u1, u2, u3⟩ := h.mu
  obtain ⟨D0, Z0, ZD, Zz⟩ := h.hD
  obtain ⟨M1, M2⟩ := h.hM
  have Y := h.y hi
  obtain ⟨z1, z1'⟩ := h.hZ i
  obtain ⟨s0, s1, s2⟩ := h.hs i hi
  have yb1 : fv .f32 (solO b a x s n i) ≤ 101 / 100 * M := by have := Y.y1; grind
  have yb2 : -fv .f32 (solO b a x s n i) ≤ 101 / 100 * M := by have := Y.y2; grind
  cases i with
  | zero =>
    obtain ⟨a0, a1, a2⟩ := h.ha 0 hi
    rw [if_pos rfl]
    have r := res_first (W := W 0) (p := p 0) (q := p 1) (qi := qiR p n 0) (m := fv .f32 (elA b a x 0)) (S := fv .f32 (elS b a x s 0)) (so := so 0) (c := 81 * uu) (k := 140 * (M * uu)) (e := (58621 / 500) * (M * uu)) (Y := 101 / 100 * M) a1 a2 s1 s2 Y.e1 Y.e2 yb1 yb2
    rw [show 0 + 1 = 1 from rfl] at *
    constructor
    · have := r.1; grind
    · have := r.2; grind
  | succ i =>
    rw [if_neg (by omega), show i + 1 - 1 = i by omega]
    have Y0 := h.y (i := i) (by omega)
    obtain ⟨z0, z0'⟩ := h.hZ i
    have L := h.lnk hi
    have S := (h.snext hi (h.sd i (by omega))).1
    have yc1 : fv .f32 (solO b a x s n i) ≤ 101 / 100 * M := by have := Y0.y1; grind
    have yc2 : -fv .f32 (solO b a x s n i) ≤ 101 / 100 * M := by have := Y0.y2; grind
    have q0 := Y0.e1
    have q1 := Y0.e2
    rw [qiR_in hi] at q0 q1
    have r := res_step (W := W (i + 1)) (p := p (i + 1)) (q := p (i + 2)) (qi := qiR p n (i + 1)) (g := 17 * uu) (c := 146 * uu) (d := (562 / 5) * (M * uu)) (k := 140 * (M * uu)) (e0 := (58621 / 500) * (M * uu)) (e := (58621 / 500) * (M * uu)) (Y := 101 / 100 * M) L.lo L.hi L.g1 L.g2 L.m1 L.m2 s1 s2 S.1 S.2 q0 q1 Y.e1 Y.e2 yc1 yc2 yb1 yb2 (by grind)
    rw [show i + 1 + 1 = i + 2 by omega] at *
    constructor
    · have := r.1; grind
    · have := r.2; grind
end
end Go.Proofs.Ytpnkapdemgieaaa
set_option linter.unusedSimpArgs false
set_option linter.unusedVariables false
set_option linter.unusedSectionVars false
namespace Go.Proofs.Ytpnkapdemgieaaa
open Go Go.RowKit
open Go.ChangeShapes Go.WideShapes Go.ChangeAt Go.RowKit Go.Joins
theorem RW.ptr {B n : Nat} {w : World} {u : Value} {zs : List Nat} (h : RW B w u n zs) (hn : 1 ≤ n) : ∃ g c, u = .slice (some ⟨g, 0, none⟩) n c := by
  have hl := h.len
  unfold RW World.ownsRow at h
  rcases h.2 with ⟨h', hx⟩ | ⟨g, cap, cur, h', _⟩
  · exfalso
    omega
  · exact ⟨g, cap, h'⟩
theorem RW.nil (B : Nat) (w : World) (t : TypeId) (ht : t = 74) (hB : B ≤ w.heap.size) : RW B (w.alloc (.cells #[] t)) (.slice (some ⟨w.heap.size, 0, none⟩) 0 0) 0 [] := by
  subst ht
  exact World.ownsRow_lit w #[] 0 hB (by simp) (by simp)
def Clm.rowE (o : Nat) : Clm := ⟨1, fun _ u => ∃ b, u = .slice (some ⟨b, 0, none⟩) 0 0, fun _ u w => RW o w u 0 [], fun _ => ⟨_, 0, rfl⟩,
  fun _ u w w' h hb => RW.later h hb, fun h => nomatch h⟩
theorem wpC_rowE {ops : Array Oper} {Q : Exit → Act → World → Prop} {W : World} {l : List Oper} {cs : List Clm} {i : Nat} {ks : List (Nat × (World → Prop))} {a : Act} {o : Oper}
    (hw : Region.wanted o (yielded ops a.tmps) = true) (h1 : ∀ w, (execOp a.eval o).run Try.prog w = .ok (.value (.slice (some ⟨w.heap.size, 0, none⟩) 0 0)) (w.alloc (.cells #[] 74)))
    (h : ∀ b, wpC Try.prog ops Q W l cs (i + 1) ((i, fun w => RW W.heap.size w (.slice (some ⟨b, 0, none⟩) 0 0) 0 []) :: ks) (a.put o.dst (.slice (some ⟨b, 0, none⟩) 0 0))) : wpC Try.prog ops Q W (o :: l) (Clm.rowE W.heap.size :: cs) i ks a := by
  refine wpC_make (Clm.rowE W.heap.size) rfl hw (fun w hb hk => ⟨_, _, h1 w, (Below.refl _ _).alloc (Nat.le_refl _) _, ⟨_, rfl⟩, RW.nil _ _ _ rfl hb.size⟩) ?_
  rintro v ⟨b, rfl⟩
  exact h b
theorem wpList_appRow {B n : Nat} {zs : List Nat} {v : Value} {b r0 r1 r2 r3 : Nat} {w : World} {ops : Array Oper} {rest : List Oper} {o : Oper} {a : Act} {Q : Exit → Act → World → Prop} (hg : o.guard = .none) {s x : Operand}
    (ho : o.op = .call { callee := .builtin .append, args := #[s, x], argTypes := #[72, 72] }) (hs : a.eval s = v) (hx : a.eval x = .slice (some ⟨b, 0, .none⟩) 1 1) (hO : RW B w v n zs) (hc0 : w.cell? ⟨b, 0, .none⟩ = some (.float .f32 r0)) (hc1 : w.cell? ⟨b, 1, .none⟩ = some (.float .f32 r1)) (hc2 : w.cell? ⟨b, 2, .none⟩ = some (.float .f32 r2)) (hc3 : w.cell? ⟨b, 3, .none⟩ = some (.float .f32 r3)) (hn : n < 1048576) (hB : B ≤ w.heap.size)
    (h : ∀ g c w', RW B w' (.slice (some ⟨g, 0, none⟩) (n + 1) c) (n + 1) (zs ++ [r0, r1, r2, r3]) → Below B w w' → wpList Try.prog ops Q rest (a.put o.dst (.slice (some ⟨g, 0, none⟩) (n + 1) c)) w') : wpList Try.prog ops Q (o :: rest) a w := by
  obtain ⟨i0, hi, hz0, hz1, hz2⟩ := info_parts Try.infoRow
  refine wpList_append_own_at w hg s x 72 ho B 74 i0 (.agg #[.float .f32 0, .float .f32 0, .float .f32 0, .float .f32 0]) 4 16 (by kernel_rfl) hi hz0 hz1 hz2 (by decide) (by decide) v n (zs.map (Value.float .f32)) hs hO ⟨b, 0, .none⟩ 1 1 [.float .f32 r0, .float .f32 r1, .float .f32 r2, .float .f32 r3] hx rfl ?_ ?_ (by unfold maxLen; omega) (by omega) hB ?_
  · intro j u hj
    match j, hj with
    | 0, hj => simp at hj; subst hj; simpa [Addr.add] using hc0
    | 1, hj => simp at hj; subst hj; simpa [Addr.add] using hc1
    | 2, hj => simp at hj; subst hj; simpa [Addr.add] using hc2
    | 3, hj => simp at hj; subst hj; simpa [Addr.add] using hc3
    | j + 4, hj => simp at hj
  · intro u hu
    simp at hu
    rcases hu with rfl | rfl | rfl | rfl <;> rfl
  · intro v' w' hown hgrow _ _
    have hO' : RW B w' v' (n + 1) (zs ++ [r0, r1, r2, r3]) := by
      unfold RW
      simpa using hown
    obtain ⟨g, c, rfl⟩ := hO'.ptr (by omega)
    exact h g c w' hO' ((Below.refl _ _).grown hgrow hB fun k hk => (World.ownsRow.lt hO k hk).1)
end Go.Proofs.Ytpnkapdemgieaaa
set_option linter.unusedSimpArgs false
set_option linter.unusedVariables false
set_option linter.unusedSectionVars false
namespace Go.Proofs.Ytpnkapdemgieaaa
open Go Go.RowKit
open Go.ChangeShapes Go.WideShapes Go.ChangeAt Go.RowKit Go.Joins
theorem RdX.ra {B S B' : Nat} {w : World} {P : Rd} {l : RL} (h : RdX B S w P l) (hB : B' ≤ B) : RdA B' w P l := ⟨h.1.1.base hB, h.2⟩
/-- A rod of the call's own, and a bool. -/
def BRB (w : World) (R : Rd) (b : Bool) (e : Ending) (w' : World) : Prop := ∃ m, e = .returned (.tuple #[.agg #[.slice m.p1 R.a.length m.c1, .slice m.p2 R.b.length m.c2, .slice m.p3 R.c.length m.c3, .slice m.p4 R.d.length m.c4], .bool b]) ∧ Below w.heap.size w w' ∧ RdX w.heap.size w'.heap.size w' R m
def Clm.rodB (R : Rd) (b : Bool) (B : Nat) : Clm := ⟨1, fun _ v => ∃ m, v = .tuple #[rdV R m, .bool b], fun _ v w => ∀ m, v = .tuple #[rdV R m, .bool b] → RdA B w R m, fun _ => ⟨_, nilRL, rfl⟩,
  fun _ v w w' h hb u e => (h u e).later hb, fun h => nomatch h⟩
theorem wpC_callRB {P : Program} {ops : Array Oper} {Q : Exit → Act → World → Prop} {W : World} {l : List Oper} {cs : List Clm} {i : Nat} {ks : List (Nat × (World → Prop))} {a : Act} {o : Oper} {R : Rd} {b : Bool} (hw : Region.wanted o (yielded ops a.tmps) = true) {f : FuncId} {args : Array Value} (h1 : ∀ w, (execOp a.eval o).run P w = .ok (.enter f args) w)
    (hc : ∀ w, Below W.heap.size W w → depK o ks w → Calls P f args w (BRB w R b))
    (h : ∀ m, wpC P ops Q W l cs (i + 1) ((i, fun w => ∀ u, Value.tuple #[rdV R m, .bool b] = .tuple #[rdV R u, .bool b] → RdA W.heap.size w R u) :: ks) (a.put o.dst (.tuple #[.agg #[.slice m.p1 R.a.length m.c1, .slice m.p2 R.b.length m.c2, .slice m.p3 R.c.length m.c3, .slice m.p4 R.d.length m.c4], .bool b]))) : wpC P ops Q W (o :: l) (Clm.rodB R b W.heap.size :: cs) i ks a := by
  refine wpC_call (Clm.rodB R b W.heap.size) rfl hw h1 (fun w hb hk => (hc w hb hk).mono ?_) ?_
  · rintro e w' ⟨m, rfl, hbl, hX⟩
    refine ⟨_, rfl, hbl, ⟨m, rfl⟩, fun u e => ?_⟩
    have e1 : rdV R m = rdV R u := by
      have h2 : Value.tuple #[rdV R m, .bool b] = .tuple #[rdV R u, .bool b] := e
      simpa using h2
    rw [← rdV_inj e1]
    exact hX.ra hb.size
  · rintro v ⟨m, rfl⟩; exact h m
/-- A variable of the region's own, with its type. -/
def vtK (B : Nat) (xs : List Value) (t : TypeId) (v : Value) (w : World) : Prop := ∀ b, v = .pointer (some ⟨b, 0, none⟩) → (B ≤ b ∧ owned w b xs) ∧ w.heap[b]? = some (.cells xs.toArray t)
def Clm.varT (B : Nat) (xs : List Value) (t : TypeId) : Clm := ⟨1, fun _ v => ∃ b, v = .pointer (some ⟨b, 0, none⟩), fun _ v w => vtK B xs t v w, fun _ => ⟨_, 0, rfl⟩,
  fun _ v w w' h hb b e => ⟨⟨(h b e).1.1, (h b e).1.2.later hb⟩, (hb.block b (Array.getElem?_eq_some_iff.1 (h b e).2).1).trans (h b e).2⟩, fun h => nomatch h⟩
theorem grown_setCells (b : Nat) : ∀ (vs : List Value) (o : Nat) (w : World), w.grownBy (w.setCells b o vs) (some b)
  | [], _, w => World.grownBy.refl _ _
  | v :: r, o, w => World.grownBy.trans (b := w.setCell ⟨b, o, none⟩ v) ⟨rfl, rfl, rfl, by simp, fun k _ hk => Below.heap_setCell _ _ _ _ (fun e => hk (by rw [e]))⟩ (grown_setCells b r (o + 1) _)
theorem OF.type {B : Nat} {w : World} {u : Value} {xs : List Nat} (h : OF B w u xs) {b : Nat} {cs : Array Value} {t : TypeId} (hb : w.heap[b]? = some (.cells cs t)) (ht : t ≠ 28) : u.ownBlock = none ∨ u.ownBlock ≠ some b := by
  unfold OF World.ownsRow at h
  rcases h.2 with ⟨h', _⟩ | ⟨g, cap, cur, h', _, hg, _⟩
  · exact .inl (by rw [h']; rfl)
  · refine .inr fun e => ?_
    rw [h'] at e
    have e2 : g = b := by simpa [Value.ownBlock] using e
    subst e2
    rw [hg] at hb
    simp only [Option.some.injEq, Obj.cells.injEq] at hb
    exact ht hb.2.1.symm
theorem RdA.setCells {B : Nat} {w : World} {P : Rd} {l : RL} (h : RdA B w P l) {b : Nat} {cs : Array Value} {t : TypeId} (hb : w.heap[b]? = some (.cells cs t)) (ht : t ≠ 28) (o : Nat) (vs : List Value) : RdA B (w.setCells b o vs) P l :=
  have hg := grown_setCells b vs o w
  ⟨⟨h.1.1.kept hg (h.1.1.type hb ht), h.1.2.1.kept hg (h.1.2.1.type hb ht), h.1.2.2.1.kept hg (h.1.2.2.1.type hb ht), h.1.2.2.2.kept hg (h.1.2.2.2.type hb ht)⟩, h.2⟩
section
variable {P : Program} {ops : Array Oper} {Q : Exit → Act → World → Prop} {W : World} {l : List Oper} {cs : List Clm} {i : Nat} {ks : List (Nat × (World → Prop))} {a : Act} {o : Oper}
theorem wpC_varT (xs : List Value) (t : TypeId) (hw : Region.wanted o (yielded ops a.tmps) = true) (h1 : ∀ w, (execOp a.eval o).run P w = .ok (.value (.pointer (some ⟨w.heap.size, 0, none⟩))) (w.alloc (.cells xs.toArray t)))
    (h : ∀ b, wpC P ops Q W l cs (i + 1) ((i, vtK W.heap.size xs t (.pointer (some ⟨b, 0, none⟩))) :: ks) (a.put o.dst (.pointer (some ⟨b, 0, none⟩)))) : wpC P ops Q W (o :: l) (Clm.varT W.heap.size xs t :: cs) i ks a := by
  refine wpC_make (Clm.varT W.heap.size xs t) rfl hw (fun w hb hk => ⟨_, _, h1 w, (Below.refl _ _).alloc (Nat.le_refl _) _, ⟨_, rfl⟩, ?_⟩) ?_
  · intro b e
    simp only [Value.pointer.injEq, Option.some.injEq, Addr.mk.injEq, and_true] at e
    subst e
    exact ⟨⟨hb.size, owned_alloc w xs t⟩, heap_alloc_new w _⟩
  · rintro v ⟨b, rfl⟩
    exact h b
/-- What the store of a rod into a variable keeps: the rod's lists; the variable's type. -/
def rdM (R : Rd) (B : Nat) (t : TypeId) (x : List Value) (w : World) : Prop := match x with | [.pointer (some ⟨b, _, _⟩), v] => (∀ u, v = rdV R u → RdA B w R u) ∧ ∃ cs, w.heap[b]? = some (.cells cs t) | _ => True
theorem rdM_keeps (R : Rd) (B : Nat) (t : TypeId) : Keeps (rdM R B t) := by
  intro x w w' h hb
  unfold rdM at h ⊢
  split
  · refine ⟨fun u e => (h.1 u e).later hb, ?_⟩
    obtain ⟨cs, hc⟩ := h.2
    exact ⟨cs, (hb.block _ (Array.getElem?_eq_some_iff.1 hc).1).trans hc⟩
  · trivial
theorem setCells_type (b : Nat) (t : TypeId) : ∀ (vs : List Value) (o : Nat) (w : World), (∃ cs, w.heap[b]? = some (.cells cs t)) → ∃ cs, (w.setCells b o vs).heap[b]? = some (.cells cs t)
  | [], _, _, h => h
  | v :: r, o, w, ⟨cs, h⟩ => setCells_type b t r (o + 1) _ ⟨_, heap_setCell_same w b o cs t v h⟩
theorem wpC_putR {R : Rd} {m : RL} {ty : TypeId} {X Y : Operand} {b : Nat} (olds : List Value) (t : TypeId) (ho : o.op = .store ty X Y) (hx : a.eval X = .pointer (some ⟨b, 0, none⟩)) (hy : a.eval Y = .agg #[.slice m.p1 R.a.length m.c1, .slice m.p2 R.b.length m.c2, .slice m.p3 R.c.length m.c3, .slice m.p4 R.d.length m.c4]) (hn : olds.length = 4)
    (hi : (P.info? ty).map (·.size) = some 4) (hw : Region.wanted o (yielded ops a.tmps) = true) (hk : ∀ w, depK o ks w → vtK W.heap.size olds t (.pointer (some ⟨b, 0, none⟩)) w) (ht : t ≠ 28)
    (hm : ∀ w, Below W.heap.size W w → depK o ks w → RdA W.heap.size w R m)
    (h : wpC P ops Q W l cs (i + 1) [(i, fun w => (W.heap.size ≤ b ∧ owned w b [.slice m.p1 R.a.length m.c1, .slice m.p2 R.b.length m.c2, .slice m.p3 R.c.length m.c3, .slice m.p4 R.d.length m.c4]) ∧ rdM R W.heap.size t [.pointer (some ⟨b, 0, none⟩), .agg #[.slice m.p1 R.a.length m.c1, .slice m.p2 R.b.length m.c2, .slice m.p3 R.c.length m.c3, .slice m.p4 R.d.length m.c4]] w)] (a.put o.dst undef)) : wpC P ops Q W (o :: l) (Clm.put W.heap.size (rdM R W.heap.size t) (rdM_keeps R W.heap.size t) :: cs) i ks a := by
  refine wpC_put (vs := #[.slice m.p1 R.a.length m.c1, .slice m.p2 R.b.length m.c2, .slice m.p3 R.c.length m.c3, .slice m.p4 R.d.length m.c4]) olds (rdM R W.heap.size t) (rdM_keeps R W.heap.size t) ho hx hy hn hi rfl hw (fun w hd => (hk w hd b rfl).1) (fun w hb hd => ?_) h
  refine ⟨fun u e => ?_, setCells_type b t _ _ w ⟨_, (hk w hd b rfl).2⟩⟩
  have e1 : rdV R m = rdV R u := e
  rw [← rdV_inj e1]
  exact (hm w hb hd).setCells (hk w hd b rfl).2 ht _ _
end
end Go.Proofs.Ytpnkapdemgieaaa
set_option linter.unusedSimpArgs false
set_option linter.unusedVariables false
set_option linter.unusedSectionVars false
namespace Go.Proofs.Ytpnkapdemgieaaa
open Go Go.RowKit
open Go.ChangeShapes Go.WideShapes Go.ChangeAt Go.RowKit Go.Joins
section
variable {P : Program} {ops : Array Oper} {Q : Exit → Act → World → Prop} {F I : World → Prop} {l : List Oper} {cs : List GC} {i : Nat} {ks : List (Nat × (World → Prop))} {a : Act} {o : Oper}
/-- A slice of numbers of these classes that a call has made while it turned memory. -/
def Clm.solv (B n : Nat) (L : List Nat) : Clm := ⟨3, fun _ v => ∃ q c, v = .slice q n c, fun _ v w => ∃ ys, OF B w v ys ∧ ys.map (cn .f32) = L ∧ ys.length = n, fun _ => ⟨_, none, 0, rfl⟩, fun _ _ _ _ h hb => by
    obtain ⟨ys, h1, h2⟩ := h
    exact ⟨ys, h1.later hb, h2⟩, fun h => nomatch h⟩
theorem wpG_solv {B n : Nat} {L : List Nat} (I' : World → Prop) (hI : ∀ w w', I' w → Below w.heap.size w w' → I' w') (hw : Region.wanted o (yielded ops a.tmps) = true) {f : FuncId} {args : Array Value} (he : ∀ w, (execOp a.eval o).run P w = .ok (.enter f args) w)
    (h1 : ∀ w, I w → depK o ks w → Calls P f args w (fun e w' => ∃ v, e = .returned v ∧ I' w' ∧ (∃ q c, v = .slice q n c) ∧ ∃ ys, OF B w' v ys ∧ ys.map (cn .f32) = L ∧ ys.length = n))
    (h : ∀ q c, wpG P ops Q F I' l cs (i + 1) [(i, fun w => ∃ ys, OF B w (.slice q n c) ys ∧ ys.map (cn .f32) = L ∧ ys.length = n)] (a.put o.dst (.slice q n c))) : wpG P ops Q F I (o :: l) (⟨Clm.solv B n L, I', hI⟩ :: cs) i ks a := by
  refine wpG_turnC (Clm.solv B n L) rfl I' hI hw he (fun w hi hk => ?_) ?_
  · exact Calls.mono (h1 w hi hk) fun e w' ⟨v, e1, h2, h3, h4⟩ => ⟨v, e1, h2, h3, h4⟩
  · rintro v ⟨q, c, rfl⟩
    exact h q c
theorem wpG_callRB {R : Rd} {b : Bool} (B : Nat) (hw : Region.wanted o (yielded ops a.tmps) = true) {f : FuncId} {args : Array Value} (he : ∀ w, (execOp a.eval o).run P w = .ok (.enter f args) w)
    (hB : ∀ w, I w → B ≤ w.heap.size) (hc : ∀ w, I w → depK o ks w → Calls P f args w (BRB w R b))
    (h : ∀ m, wpG P ops Q F I l cs (i + 1) ((i, fun w => ∀ u, Value.tuple #[rdV R m, .bool b] = .tuple #[rdV R u, .bool b] → RdA B w R u) :: ks) (a.put o.dst (.tuple #[.agg #[.slice m.p1 R.a.length m.c1, .slice m.p2 R.b.length m.c2, .slice m.p3 R.c.length m.c3, .slice m.p4 R.d.length m.c4], .bool b]))) : wpG P ops Q F I (o :: l) (GC.of (Clm.rodB R b B) :: cs) i ks a := by
  refine wpG_one (Clm.rodB R b B) rfl hw (fun w hi hk => ?_) ?_
  · rw [he w]
    refine Calls.mono (hc w hi hk) ?_
    rintro e w' ⟨m, rfl, hbl, hX⟩
    refine ⟨_, rfl, hbl, ⟨m, rfl⟩, fun u e => ?_⟩
    have e1 : rdV R m = rdV R u := by
      have h2 : Value.tuple #[rdV R m, .bool b] = .tuple #[rdV R u, .bool b] := e
      simpa using h2
    rw [← rdV_inj e1]
    exact hX.ra (hB w hi)
  · rintro v ⟨m, rfl⟩; exact h m
theorem RdA.low {B : Nat} {w : World} {R : Rd} {m : RL} (h : RdA B w R m) {b : Nat} (hb : b < B) (o : Nat) (vs : List Value) : RdA B (w.setCells b o vs) R m := by
  have hg := grown_setCells b vs o w
  have key : ∀ {u xs}, OF B w u xs → u.ownBlock = none ∨ u.ownBlock ≠ some b := fun {u xs} h1 => by
    cases hu : u.ownBlock with
    | none => exact .inl rfl
    | some k =>
      refine .inr fun e => ?_
      have h2 := (h1.block k hu).1
      cases e
      omega
  exact ⟨⟨h.1.1.kept hg (key h.1.1), h.1.2.1.kept hg (key h.1.2.1), h.1.2.2.1.kept hg (key h.1.2.2.1), h.1.2.2.2.kept hg (key h.1.2.2.2)⟩, h.2⟩
theorem owned_stored {w : World} {b : Nat} {a0 a1 a2 a3 x0 x1 x2 x3 : Value} (h : owned w b [a0, a1, a2, a3]) : owned (w.setCells b 0 [x0, x1, x2, x3]) b [x0, x1, x2, x3] := by
  have k0 := h 0 a0 rfl
  have k1 := h 1 a1 rfl
  have k2 := h 2 a2 rfl
  have k3 := h 3 a3 rfl
  intro k x hk
  simp only [World.setCells]
  match k, hk with
  | 0, hk => simp at hk; subst hk; exact ⟨by go_simp, by go_simp⟩
  | 1, hk => simp at hk; subst hk; exact ⟨by go_simp, by go_simp⟩
  | 2, hk => simp at hk; subst hk; exact ⟨by go_simp, by go_simp⟩
  | 3, hk => simp at hk; subst hk; exact ⟨by go_simp, by go_simp⟩
  | k + 4, hk => simp at hk
/-- What is told of the store of a rod. -/
def putRK (R : Rd) (B : Nat) (x : List Value) (w : World) : Prop := match x with | .pointer (some ⟨b, _, _⟩) :: v :: _ => (∀ u, v = rdV R u → RdA B w R u ∧ owned w b [.slice u.p1 R.a.length u.c1, .slice u.p2 R.b.length u.c2, .slice u.p3 R.c.length u.c3, .slice u.p4 R.d.length u.c4]) | _ => True
theorem putRK_later {R : Rd} {B : Nat} {x : List Value} {w w' : World} (h : putRK R B x w) (hb : Below w.heap.size w w') : putRK R B x w' := by
  unfold putRK at h ⊢
  split
  · exact fun u e => ⟨(h u e).1.later hb, (h u e).2.later hb⟩
  · trivial
def Clm.putG (R : Rd) (B : Nat) : Clm := ⟨3, fun _ v => v = undef, fun x _ w => putRK R B x w, fun _ => ⟨_, rfl⟩, fun _ _ _ _ h hb => putRK_later h hb, fun h => nomatch h⟩
theorem wpG_putR {R : Rd} {m : RL} {ty : TypeId} {X Y : Operand} {b : Nat} (B : Nat) (olds : List Value) (I' : World → Prop) (hI : ∀ w w', I' w → Below w.heap.size w w' → I' w') (ho : o.op = .store ty X Y) (hx : a.eval X = .pointer (some ⟨b, 0, none⟩)) (hy : a.eval Y = .agg #[.slice m.p1 R.a.length m.c1, .slice m.p2 R.b.length m.c2, .slice m.p3 R.c.length m.c3, .slice m.p4 R.d.length m.c4]) (hn : olds.length = 4)
    (hi : (P.info? ty).map (·.size) = some 4) (hw : Region.wanted o (yielded ops a.tmps) = true) (hk : ∀ w, I w → owned w b olds)
    (hm : ∀ w, I w → depK o ks w → (I' (w.setCells b 0 [.slice m.p1 R.a.length m.c1, .slice m.p2 R.b.length m.c2, .slice m.p3 R.c.length m.c3, .slice m.p4 R.d.length m.c4]) ∧ RdA B (w.setCells b 0 [.slice m.p1 R.a.length m.c1, .slice m.p2 R.b.length m.c2, .slice m.p3 R.c.length m.c3, .slice m.p4 R.d.length m.c4]) R m) ∧ owned (w.setCells b 0 [.slice m.p1 R.a.length m.c1, .slice m.p2 R.b.length m.c2, .slice m.p3 R.c.length m.c3, .slice m.p4 R.d.length m.c4]) b [.slice m.p1 R.a.length m.c1, .slice m.p2 R.b.length m.c2, .slice m.p3 R.c.length m.c3, .slice m.p4 R.d.length m.c4])
    (h : wpG P ops Q F I' l cs (i + 1) [(i, fun w => ∀ u, rdV R m = rdV R u → RdA B w R u ∧ owned w b [.slice u.p1 R.a.length u.c1, .slice u.p2 R.b.length u.c2, .slice u.p3 R.c.length u.c3, .slice u.p4 R.d.length u.c4])] (a.put o.dst undef)) : wpG P ops Q F I (o :: l) (⟨Clm.putG R B, I', hI⟩ :: cs) i ks a := by
  have ex : ∃ r, oargs ops o a = .pointer (some ⟨b, 0, none⟩) :: rdV R m :: r := ⟨_, by
    unfold oargs
    rw [ho]
    show [a.eval X, a.eval Y] ++ _ = _
    rw [hx, hy]; rfl⟩
  obtain ⟨r, ex⟩ := ex
  have ek : (Clm.putG R B).K (oargs ops o a) undef = fun w => ∀ u, rdV R m = rdV R u → RdA B w R u ∧ owned w b [.slice u.p1 R.a.length u.c1, .slice u.p2 R.b.length u.c2, .slice u.p3 R.c.length u.c3, .slice u.p4 R.d.length u.c4] := by
    funext w
    show putRK R B (oargs ops o a) w = _
    rw [ex]; rfl
  simp only [wpG]
  refine ⟨.inl ⟨hw, .inr (.inr (.inl rfl)), fun h => absurd (show (3 : Nat) = 0 from h) (by decide), fun h => absurd (show (3 : Nat) = 4 from h) (by decide), fun h => absurd (show (3 : Nat) = 1 from h) (by decide), fun _ w hi' hkw => ?_⟩, fun u hu => ?_⟩
  · have hown := hk w hi'
    have ht : w.there b 0 4 := fun j hj => by
      have hj' : j < olds.length := by omega
      have := hown j olds[j] (List.getElem?_eq_getElem hj')
      simp only [Nat.zero_add]
      exact ⟨by rw [this.1]; rfl, this.2⟩
    have hall : (#[Value.slice m.p1 R.a.length m.c1, .slice m.p2 R.b.length m.c2, .slice m.p3 R.c.length m.c3, .slice m.p4 R.d.length m.c4] : Array Value).all (·.oneCell') = true := Array.all_eq_true_iff_forall_mem.2 fun v hv => by
      simp only [List.mem_toArray, List.mem_cons, List.not_mem_nil, or_false] at hv
      rcases hv with rfl | rfl | rfl | rfl <;> rfl
    have hr : (execOp a.eval o).run P w = .ok .skip (w.setCells b 0 [.slice m.p1 R.a.length m.c1, .slice m.p2 R.b.length m.c2, .slice m.p3 R.c.length m.c3, .slice m.p4 R.d.length m.c4]) := by
      unfold execOp
      simp only [ho, hx, hy, Instr.storeAt, Instr.sureAddr, Sem.run_bind, Sem.run_pure, Result.andThen_ok, run_storeVar_mid w b 0 ty #[.slice m.p1 R.a.length m.c1, .slice m.p2 R.b.length m.c2, .slice m.p3 R.c.length m.c3, .slice m.p4 R.d.length m.c4] ht hi hall]
    rw [hr]
    obtain ⟨⟨g1, g2⟩, g3⟩ := hm w hi' hkw
    refine ⟨g1, rfl, ?_⟩
    rw [ek]
    intro u e
    rw [← rdV_inj e]
    exact ⟨g2, g3⟩
  · have hu : u = undef := hu
    subst hu
    rw [ek]
    exact h
end
end Go.Proofs.Ytpnkapdemgieaaa
set_option linter.unusedSimpArgs false
set_option linter.unusedVariables false
set_option linter.unusedSectionVars false
namespace Go.Proofs.Ytpnkapdemgieaaa
open Go Go.RowKit
open Go.ChangeShapes Go.WideShapes Go.ChangeAt Go.RowKit Go.Joins
theorem map_atR {ys L : List Nat} (h : ys.map (cn .f32) = L) {i : Nat} (hi : i < ys.length) : cn .f32 (ys.getD i 0) = L.getD i 0 := by
  rw [← h, List.getD_eq_getElem?_getD, List.getD_eq_getElem?_getD, List.getElem?_map, List.getElem?_eq_getElem hi]; rfl
def pG (P : Rd) (E G : EndT) (i : Nat) : Nat := (passL P E G).getD i 0
def rwW (P : Rd) (t i : Nat) : Nat := fop .quo .f32 (fop .mul .f32 (cn .f32 (P.a.getD i 0)) (cn .f32 (P.c.getD i 0))) (cn .f32 t)
def rwB (P : Rd) (E G : EndT) (i : Nat) : Nat := fneg .f32 (pG P E G i)
def rwA (P : Rd) (E G : EndT) (t i : Nat) : Nat := fop .add .f32 (fop .add .f32 (rwW P t i) (pG P E G i)) (pG P E G (i + 1))
def rwX (P : Rd) (E G : EndT) (i : Nat) : Nat := fneg .f32 (pG P E G (i + 1))
def rwS0 (P : Rd) (t i : Nat) : Nat := fop .mul .f32 (rwW P t i) (cn .f32 (P.d.getD i 0))
def rwS1 (P : Rd) (E G : EndT) (t i : Nat) : Nat := if i = 0 then fop .add .f32 (rwS0 P t i) (fop .mul .f32 (pG P E G 0) (cn .f32 E.t)) else rwS0 P t i
def rwS (P : Rd) (E G : EndT) (t i : Nat) : Nat := if i + 1 = P.a.length then fop .add .f32 (rwS1 P E G t i) (fop .mul .f32 (pG P E G (i + 1)) (cn .f32 G.t)) else rwS1 P E G t i
def rwsL (P : Rd) (E G : EndT) (t : Nat) : List Nat := solL (rwB P E G) (rwA P E G t) (rwX P E G) (rwS P E G t) P.a.length
def rwsR (P : Rd) (E G : EndT) (t : Nat) : Rd := ⟨P.a, P.b, P.c, rwsL P E G t⟩
def rwsPre (P : Rd) (E G : EndT) (t : Nat) : Bool := passOk P E G && abv (cn .f32 t)
def rwsOk (P : Rd) (E G : EndT) (t : Nat) : Bool := rwsPre P E G t && (rwsR P E G t).ok
theorem passL_lenR {P : Rd} {E G : EndT} (h : 1 ≤ P.a.length) : (passL P E G).length = P.a.length + 1 := by
  unfold passL passK
  simp
  omega
/-- k rows, as they are made. -/
def rwQ (b a x s : Nat → Nat) (k : Nat) (zs : List Nat) : Prop := ∀ j, j < k → cn .f32 (zs.getD (j * 4) 0) = b j ∧ cn .f32 (zs.getD (j * 4 + 1) 0) = a j ∧ cn .f32 (zs.getD (j * 4 + 2) 0) = x j ∧ cn .f32 (zs.getD (j * 4 + 3) 0) = s j
theorem getD_app_lt {xs ys : List Nat} {i : Nat} (h : i < xs.length) : (xs ++ ys).getD i 0 = xs.getD i 0 := by
  rw [List.getD_eq_getElem?_getD, List.getD_eq_getElem?_getD, List.getElem?_append_left h]
theorem getD_app_ge {xs ys : List Nat} {i n : Nat} (h : xs.length = n) : (xs ++ ys).getD (n + i) 0 = ys.getD i 0 := by
  rw [List.getD_eq_getElem?_getD, List.getD_eq_getElem?_getD, List.getElem?_append_right (by omega), h, Nat.add_sub_cancel_left]
theorem rwQ_step {b a x s : Nat → Nat} {k : Nat} {zs : List Nat} (h : rwQ b a x s k zs) (hl : zs.length = k * 4) {r0 r1 r2 r3 : Nat} (h0 : cn .f32 r0 = b k) (h1 : cn .f32 r1 = a k) (h2 : cn .f32 r2 = x k) (h3 : cn .f32 r3 = s k) : rwQ b a x s (k + 1) (zs ++ [r0, r1, r2, r3]) := fun j hj => by
  by_cases hjk : j < k
  · rw [getD_app_lt (by omega), getD_app_lt (by omega), getD_app_lt (by omega), getD_app_lt (by omega)]
    exact h j hjk
  · obtain rfl : j = k := by omega
    have e := fun i => getD_app_ge (ys := [r0, r1, r2, r3]) (i := i) hl
    have e0 := e 0
    rw [Nat.add_zero] at e0
    rw [e0, e 1, e 2, e 3]
    exact ⟨h0, h1, h2, h3⟩
/-- What is known of a rod with other warmths, whatever words stand for them. -/
theorem withWarms_known (P : Rd) (l : RL) (L ys : List Nat) (v : Value) (w : World) (hs : P.fs w l) (hv : FS w v ys) (hP : P.ok = true) (hm : ys.map (cn .f32) = L) (hl : ys.length = P.a.length) (hc : L.map (cn .f32) = L) (R0 : Rd) (hR0 : R0 = Rd.mk P.a P.b P.c L) : Calls Try.prog 40 #[.agg #[.slice l.p1 P.a.length l.c1, .slice l.p2 P.b.length l.c2, .slice l.p3 P.c.length l.c3, .slice l.p4 P.d.length l.c4], v] w (BRB w (okR R0.ok R0) R0.ok) := by
  have hn := Rd.ok_len hP
  have hN : (1 ≤ P.a.length ∧ P.a.length ≤ 1048576) ∧ (1 ≤ P.b.length ∧ P.b.length ≤ 1048576) ∧ (1 ≤ P.c.length ∧ P.c.length ≤ 1048576) ∧ 1 ≤ ys.length ∧ ys.length ≤ 1048576 := by omega
  obtain ⟨e1, e2⟩ := ok_with hP hm hl hc
  rw [← hR0] at e1
  cases ho : R0.ok
  · rw [ho] at e1
    refine (withWarms_no P l ys v w hs hv hN e1).mono ?_
    rintro e w' ⟨rfl, hb⟩
    exact ⟨nilRL, rfl, hb, nilRd_rx _ _ _⟩
  · rw [ho] at e1
    have hy := e2 e1
    subst hy
    rw [okR_yes rfl, hR0]
    exact withWarms_yes P l ys v w hs hv hN e1
set_option maxHeartbeats 16000000 in
set_option maxRecDepth 100000 in
theorem implRows_any (P : Rd) (l : RL) (E G : EndT) (t : Nat) (w : World) (hs : P.fs w l) : Calls Try.prog 12 #[.agg #[.slice l.p1 P.a.length l.c1, .slice l.p2 P.b.length l.c2, .slice l.p3 P.c.length l.c3, .slice l.p4 P.d.length l.c4], .agg #[.int .i64 E.k, .float .f32 E.t, .float .f32 E.e], .agg #[.int .i64 G.k, .float .f32 G.t, .float .f32 G.e], .float .f32 t] w (fun e w' => ∃ R m b, (R = okR b (rwsR P E G t) ∧ b = rwsOk P E G t) ∧ e = .returned (.tuple #[.agg #[.slice m.p1 R.a.length m.c1, .slice m.p2 R.b.length m.c2, .slice m.p3 R.c.length m.c3, .slice m.p4 R.d.length m.c4], .bool b]) ∧ Below w.heap.size w w' ∧ RdX w.heap.size w'.heap.size w' R m) := by
  have HS := Lib.hid hs
  have HF := Lib.hid (fun w h => implPasses_any P l E G w h)
  rcases h0 : passOk P E G
  · rw [h0] at HF
    have HE : Hid (rwsOk P E G t = false) := by show _ = _; simp [rwsOk, rwsPre, h0]
    clear hs
    go_enter Try.func12, Try.ntmps12
    go_wp2_with (first | (with_reducible refine at_list ?_; refine wpList_fop rfl rfl rfl rfl rfl ?_; intro r n hr0; have hr := hr0 _ _ (by first | with_reducible assumption | exact rfl) (by first | with_reducible assumption | exact rfl); clear hr0) | (with_reducible refine at_list ?_; refine wpList_neg rfl rfl rfl ?_; intro r hr0; have hr := hr0 _ (by first | with_reducible assumption | exact rfl); clear hr0) | (with_reducible refine at_list ?_; refine wpList_fop_g rfl rfl rfl rfl rfl ?_; intro r n hr0; have hr := hr0 _ _ (by first | with_reducible assumption | exact rfl) (by first | with_reducible assumption | exact rfl); clear hr0) | (go_at_call 42; refine ((HF.out _ (HS.out.later (by (repeat (first | (with_reducible exact Below.refl _ _) | (with_reducible assumption) | (with_reducible refine below_then ?_ (by assumption)) | (with_reducible refine Below.trans ?_ (by assumption)) | (with_reducible refine below_drewN ?_ _) | (with_reducible apply Below.drew) | (with_reducible refine below_alloc ?_ _) | refine Below.setCell ?_ (by first | (simp; done) | (simp; omega)) _))))) ).mono ?_; rintro e w' ⟨u, ys, rfl, hb, hO, hL⟩; obtain ⟨pu, cu, rfl⟩ := OF.shape hO; (try simp only [World.size_alloc, World.size_setCell, World.size_drew, World.drewN] at hO); obtain ⟨hT, hk⟩ := bv_next hb (by (repeat (with_reducible first | assumption | apply Trk.alloc | apply Trk.setCell | apply Trk.drewN | apply Trk.drew | exact Trk.nil _))); simp only [SameOn, World.size_alloc, World.size_setCell, World.size_drew, size_drewN', and_true] at hk; have hsz := Below.size hb; (try simp only [World.size_alloc, World.size_setCell, World.size_drew, size_drewN'] at hsz)) | (go_at_call 45; refine (arePositive_any _ _ _ (by assumption)).mono ?_; rintro e w' ⟨rfl, n, rfl⟩))
    all_goals
      refine bodyPost_ret (v := .tuple #[.agg #[.slice none 0 0, .slice none 0 0, .slice none 0 0, .slice none 0 0], .bool false]) (by simp [results, Try.results12, go_sem, *]) rfl ?_
      exact ⟨nilRd, nilRL, false, ⟨(okR_no rfl).symm, HE.out.symm⟩, rfl, by (repeat (first | (with_reducible exact Below.refl _ _) | (with_reducible assumption) | (with_reducible refine below_then ?_ (by assumption)) | (with_reducible refine Below.trans ?_ (by assumption)) | (with_reducible refine below_drewN ?_ _) | (with_reducible apply Below.drew) | (with_reducible refine below_alloc ?_ _) | refine Below.setCell ?_ (by first | (simp; done) | (simp; omega)) _)), nilRd_rx _ _ _⟩
  have hen : endsOk P E G = true := by unfold passOk at h0; rw [Bool.and_eq_true] at h0; exact h0.1
  rw [h0, passI_ok hen] at HF
  have HP := Lib.hid (endsOk_rod hen)
  rcases h1 : abv (cn .f32 t)
  · have HE : Hid (rwsOk P E G t = false) := by show _ = _; simp [rwsOk, rwsPre, h1]
    clear hs h0 hen
    go_enter Try.func12, Try.ntmps12
    go_wp2_with (first | (with_reducible refine at_list ?_; refine wpList_fop rfl rfl rfl rfl rfl ?_; intro r n hr0; have hr := hr0 _ _ (by first | with_reducible assumption | exact rfl) (by first | with_reducible assumption | exact rfl); clear hr0) | (with_reducible refine at_list ?_; refine wpList_neg rfl rfl rfl ?_; intro r hr0; have hr := hr0 _ (by first | with_reducible assumption | exact rfl); clear hr0) | (with_reducible refine at_list ?_; refine wpList_fop_g rfl rfl rfl rfl rfl ?_; intro r n hr0; have hr := hr0 _ _ (by first | with_reducible assumption | exact rfl) (by first | with_reducible assumption | exact rfl); clear hr0) | (go_at_call 42; refine ((HF.out _ (HS.out.later (by (repeat (first | (with_reducible exact Below.refl _ _) | (with_reducible assumption) | (with_reducible refine below_then ?_ (by assumption)) | (with_reducible refine Below.trans ?_ (by assumption)) | (with_reducible refine below_drewN ?_ _) | (with_reducible apply Below.drew) | (with_reducible refine below_alloc ?_ _) | refine Below.setCell ?_ (by first | (simp; done) | (simp; omega)) _))))) ).mono ?_; rintro e w' ⟨u, ys, rfl, hb, hO, hL⟩; obtain ⟨pu, cu, rfl⟩ := OF.shape hO; (try simp only [World.size_alloc, World.size_setCell, World.size_drew, World.drewN] at hO); obtain ⟨hT, hk⟩ := bv_next hb (by (repeat (with_reducible first | assumption | apply Trk.alloc | apply Trk.setCell | apply Trk.drewN | apply Trk.drew | exact Trk.nil _))); simp only [SameOn, World.size_alloc, World.size_setCell, World.size_drew, size_drewN', and_true] at hk; have hsz := Below.size hb; (try simp only [World.size_alloc, World.size_setCell, World.size_drew, size_drewN'] at hsz)) | (go_at_call 45; refine ((arePos1_any _ _ _ (FS1 (by go_simp <;> exact rfl))) ).mono ?_; rintro e w' ⟨rfl, n, rfl⟩))
    all_goals
      refine bodyPost_ret (v := .tuple #[.agg #[.slice none 0 0, .slice none 0 0, .slice none 0 0, .slice none 0 0], .bool false]) (by simp [results, Try.results12, go_sem, *]) rfl ?_
      exact ⟨nilRd, nilRL, false, ⟨(okR_no rfl).symm, HE.out.symm⟩, rfl, by (repeat (first | (with_reducible exact Below.refl _ _) | (with_reducible assumption) | (with_reducible refine below_then ?_ (by assumption)) | (with_reducible refine Below.trans ?_ (by assumption)) | (with_reducible refine below_drewN ?_ _) | (with_reducible apply Below.drew) | (with_reducible refine below_alloc ?_ _) | refine Below.setCell ?_ (by first | (simp; done) | (simp; omega)) _)), nilRd_rx _ _ _⟩
  have HPRE : Hid (rwsOk P E G t = (rwsR P E G t).ok) := by show _ = _; simp [rwsOk, rwsPre, h0, h1]
  obtain ⟨hn1, hn2⟩ := (Rd.ok_len HP.out).1
  have HLN := Lib.hid (Rd.ok_len HP.out).2
  obtain ⟨b1, o1, c1, b2, o2, c2, b3, o3, c3, b4, o4, c4, rfl, HA, HB, HCC, HD⟩ := Rd.open hs HP.out
  have hq0 : IntKind.i64.wrap ((P.a.length : Int) - 1) = (P.a.length : Int) - 1 := IntWalk.i64_in _ (by omega)
  clear hs h0 HB hen
  go_enter Try.func12, Try.ntmps12
  go_wp2_with (first | (with_reducible refine at_list ?_; refine wpList_fop rfl rfl rfl rfl rfl ?_; intro r n hr0; have hr := hr0 _ _ (by first | with_reducible assumption | exact rfl) (by first | with_reducible assumption | exact rfl); clear hr0) | (with_reducible refine at_list ?_; refine wpList_neg rfl rfl rfl ?_; intro r hr0; have hr := hr0 _ (by first | with_reducible assumption | exact rfl); clear hr0) | (with_reducible refine at_list ?_; refine wpList_fop_g rfl rfl rfl rfl rfl ?_; intro r n hr0; have hr := hr0 _ _ (by first | with_reducible assumption | exact rfl) (by first | with_reducible assumption | exact rfl); clear hr0) | (go_at_call 42; refine stop_here ?_) | (go_at_call 42; refine (implPasses_any _ _ _ _ _ (by assumption)).mono ?_; rintro e w' ⟨u, ys, rfl, hb, hO, hL⟩; obtain ⟨pu, cu, rfl⟩ := OF.shape hO; (try simp only [World.size_alloc, World.size_setCell, World.size_drew, World.drewN] at hO); obtain ⟨hT, hk⟩ := bv_next hb (by (repeat (with_reducible first | assumption | apply Trk.alloc | apply Trk.setCell | apply Trk.drewN | apply Trk.drew | exact Trk.nil _))); simp only [SameOn, World.size_alloc, World.size_setCell, World.size_drew, size_drewN', and_true] at hk; have hsz := Below.size hb; (try simp only [World.size_alloc, World.size_setCell, World.size_drew, size_drewN'] at hsz)) | (go_at_call 45; refine (arePositive_any _ _ _ (by assumption)).mono ?_; rintro e w' ⟨rfl, n, rfl⟩))
  unfold Stop
  refine (HF.out _ (HS.out.later (by (repeat (first | (with_reducible exact Below.refl _ _) | (with_reducible assumption) | (with_reducible refine below_then ?_ (by assumption)) | (with_reducible refine Below.trans ?_ (by assumption)) | (with_reducible refine below_drewN ?_ _) | (with_reducible apply Below.drew) | (with_reducible refine below_alloc ?_ _) | refine Below.setCell ?_ (by first | (simp; done) | (simp; omega)) _))))).mono ?_
  rintro e w' ⟨u, ys0, rfl, hb, hO, hL⟩
  have hyl : ys0.length = P.a.length + 1 := by have := congrArg List.length hL; rw [passL_lenR hn1] at this; simpa using this
  obtain ⟨bm, om, cm, rfl, _, HY⟩ := FS.ptr hO.fs (by omega)
  rw [hyl]
  rw [hyl] at HY
  obtain ⟨hT, hk⟩ := bv_next hb (by (repeat (with_reducible first | assumption | apply Trk.alloc | apply Trk.setCell | apply Trk.drewN | apply Trk.drew | exact Trk.nil _))); simp only [SameOn, World.size_alloc, World.size_setCell, World.size_drew, size_drewN', and_true] at hk; have hsz := Below.size hb; (try simp only [World.size_alloc, World.size_setCell, World.size_drew, size_drewN'] at hsz)
  have HG : Hid (∀ i, i ≤ P.a.length → cn .f32 (ys0.getD i 0) = pG P E G i) := fun i hi => map_atR hL (by omega)
  have hbm : bm < w'.heap.size := World.block_lt_of_cell? _ _ (HY.out 0 (by omega))
  clear hL hyl hO HF
  rename World => wp
  go_wp2_with (first | (with_reducible refine at_list ?_; refine wpList_fop rfl rfl rfl rfl rfl ?_; intro r n hr0; have hr := hr0 _ _ (by first | with_reducible assumption | exact rfl) (by first | with_reducible assumption | exact rfl); clear hr0) | (with_reducible refine at_list ?_; refine wpList_neg rfl rfl rfl ?_; intro r hr0; have hr := hr0 _ (by first | with_reducible assumption | exact rfl); clear hr0) | (with_reducible refine at_list ?_; refine wpList_fop_g rfl rfl rfl rfl rfl ?_; intro r n hr0; have hr := hr0 _ _ (by first | with_reducible assumption | exact rfl) (by first | with_reducible assumption | exact rfl); clear hr0) | (go_at_call 42; refine (implPasses_any _ _ _ _ _ (by assumption)).mono ?_; rintro e w' ⟨u, ys, rfl, hb, hO, hL⟩; obtain ⟨pu, cu, rfl⟩ := OF.shape hO; (try simp only [World.size_alloc, World.size_setCell, World.size_drew, World.drewN] at hO); obtain ⟨hT, hk⟩ := bv_next hb (by (repeat (with_reducible first | assumption | apply Trk.alloc | apply Trk.setCell | apply Trk.drewN | apply Trk.drew | exact Trk.nil _))); simp only [SameOn, World.size_alloc, World.size_setCell, World.size_drew, size_drewN', and_true] at hk; have hsz := Below.size hb; (try simp only [World.size_alloc, World.size_setCell, World.size_drew, size_drewN'] at hsz)) | (go_at_call 45; refine ((arePos1_any _ _ _ (FS1 (by go_simp <;> exact rfl))) ).mono ?_; rintro e w' ⟨rfl, n, rfl⟩))
  (apply wp_region_plan; ((apply wpC_rowE; (case hw => exact rfl); (case h1 => (intro w'; go_simp <;> exact rfl)); intro bv); apply wpC_norm; (case ha => (simp only [Act.put, List.setIfInBounds_toArray, List.set_cons_zero, List.set_cons_succ]; exact rfl))); ((apply wpC_det; (case hw => exact rfl); (case hs => (intro cs b h; cases h)); (case h1 => (intro w'; go_simp <;> exact rfl))); apply wpC_norm; (case ha => (simp only [Act.put, List.setIfInBounds_toArray, List.set_cons_zero, List.set_cons_succ]; exact rfl))); ((apply wpC_val; (case hw => exact rfl); (case h1 => (intro w' hb hk0; obtain ⟨hT, hk⟩ := bv_next hb (by (repeat (with_reducible first | assumption | apply Trk.alloc | apply Trk.setCell | apply Trk.drewN | apply Trk.drew | exact Trk.nil _))); simp only [SameOn, World.size_alloc, World.size_setCell, World.size_drew, size_drewN', and_true] at hk; have hsz := Below.size hb; (try simp only [World.size_alloc, World.size_setCell, World.size_drew, size_drewN'] at hsz); go_simp <;> exact rfl))); apply wpC_norm; (case ha => (simp only [Act.put, List.setIfInBounds_toArray, List.set_cons_zero, List.set_cons_succ]; exact rfl))); (iterate 4 ((apply wpC_det; (case hw => exact rfl); (case hs => (intro cs b h; cases h)); (case h1 => (intro w'; go_simp <;> exact rfl))); apply wpC_norm; (case ha => (simp only [Act.put, List.setIfInBounds_toArray, List.set_cons_zero, List.set_cons_succ]; exact rfl)))); refine wpC_nil ?_; intro w' hb hkk; obtain ⟨hT, hk⟩ := bv_next hb (by (repeat (with_reducible first | assumption | apply Trk.alloc | apply Trk.setCell | apply Trk.drewN | apply Trk.drew | exact Trk.nil _))); simp only [SameOn, World.size_alloc, World.size_setCell, World.size_drew, size_drewN', and_true] at hk; have hsz := Below.size hb; (try simp only [World.size_alloc, World.size_setCell, World.size_drew, size_drewN'] at hsz))
  rotate_left
  all_goals (try (first | kernel_rfl | rfl))
  obtain ⟨B0, hB0, hRW, hbmB, hbB⟩ : ∃ B0, w.heap.size + 4 ≤ B0 ∧ RW B0 w' (.slice (some ⟨bv, 0, none⟩) 0 0) 0 [] ∧ bm < B0 ∧ B0 ≤ w'.heap.size := ⟨_, by first | omega | (simp; omega) | (simp at *; omega), hkk.2.1, by first | omega | (simp; omega) | (simp at *; omega), hb.size⟩
  rename World => w1
  have hbp : Below wp.heap.size wp w1 := by (repeat (first | (with_reducible exact Below.refl _ _) | (with_reducible assumption) | (with_reducible refine below_then ?_ (by assumption)) | (with_reducible refine Below.trans ?_ (by assumption)) | (with_reducible refine below_drewN ?_ _) | (with_reducible apply Below.drew) | (with_reducible refine below_alloc ?_ _) | refine Below.setCell ?_ (by first | (simp; done) | (simp; omega)) _))
  have HY1 : Hid (∀ i, i < P.a.length + 1 → w1.cell? ⟨bm, om + i, none⟩ = some (.float .f32 (ys0.getD i 0))) := fun i hi => cell_later hbp (HY.out i hi)
  clear hbp
  have HBW := Lib.hid (show Below w.heap.size w w1 by (repeat (first | (with_reducible exact Below.refl _ _) | (with_reducible assumption) | (with_reducible refine below_then ?_ (by assumption)) | (with_reducible refine Below.trans ?_ (by assumption)) | (with_reducible refine below_drewN ?_ _) | (with_reducible apply Below.drew) | (with_reducible refine below_alloc ?_ _) | refine Below.setCell ?_ (by first | (simp; done) | (simp; omega)) _)))
  have HRW := Lib.hid hRW
  have HR0 : Hid (RdAt P ⟨some ⟨b1, o1, none⟩, c1, some ⟨b2, o2, none⟩, c2, some ⟨b3, o3, none⟩, c3, some ⟨b4, o4, none⟩, c4⟩ w1 w.heap.size 0) := (by unfold RdAt; refine ⟨?_, ?_, ?_, ?_⟩ <;> go_simp)
  have HEN : Hid (w1.cell? ⟨w.heap.size + 1, 1, none⟩ = some (.float .f32 E.t) ∧ w1.cell? ⟨w.heap.size + 2, 1, none⟩ = some (.float .f32 G.t)) := by show _ ∧ _; exact ⟨by go_simp, by go_simp⟩
  have HR8 : Hid (w1.cell? ⟨w.heap.size + 3, 0, none⟩ = some (.slice none 0 0) ∧ w1.cell? ⟨w.heap.size + 3, 1, none⟩ = some (.slice none 0 0) ∧ w1.cell? ⟨w.heap.size + 3, 2, none⟩ = some (.slice none 0 0) ∧ w1.cell? ⟨w.heap.size + 3, 3, none⟩ = some (.slice none 0 0) ∧ ∀ o, w1.frozen? ⟨w.heap.size + 3, o, none⟩ = false) := ⟨by go_simp, by go_simp, by go_simp, by go_simp, fun o => by go_simp⟩
  clear hRW hkk
  go_wp2_with (first | (with_reducible refine at_list ?_; refine wpList_fop rfl rfl rfl rfl rfl ?_; intro r n hr0; have hr := hr0 _ _ (by first | with_reducible assumption | exact rfl) (by first | with_reducible assumption | exact rfl); clear hr0) | (with_reducible refine at_list ?_; refine wpList_neg rfl rfl rfl ?_; intro r hr0; have hr := hr0 _ (by first | with_reducible assumption | exact rfl); clear hr0) | (with_reducible refine at_list ?_; refine wpList_fop_g rfl rfl rfl rfl rfl ?_; intro r n hr0; have hr := hr0 _ _ (by first | with_reducible assumption | exact rfl) (by first | with_reducible assumption | exact rfl); clear hr0) | (go_at_call 42; refine (implPasses_any _ _ _ _ _ (by assumption)).mono ?_; rintro e w' ⟨u, ys, rfl, hb, hO, hL⟩; obtain ⟨pu, cu, rfl⟩ := OF.shape hO; (try simp only [World.size_alloc, World.size_setCell, World.size_drew, World.drewN] at hO); obtain ⟨hT, hk⟩ := bv_next hb (by (repeat (with_reducible first | assumption | apply Trk.alloc | apply Trk.setCell | apply Trk.drewN | apply Trk.drew | exact Trk.nil _))); simp only [SameOn, World.size_alloc, World.size_setCell, World.size_drew, size_drewN', and_true] at hk; have hsz := Below.size hb; (try simp only [World.size_alloc, World.size_setCell, World.size_drew, size_drewN'] at hsz)) | (go_at_call 45; refine (arePositive_any _ _ _ (by assumption)).mono ?_; rintro e w' ⟨rfl, n, rfl⟩))
  obtain ⟨QB, hQB⟩ : ∃ QB, QB = rwQ (rwB P E G) (rwA P E G t) (rwX P E G) (rwS P E G t) := ⟨_, rfl⟩
  have HQ0 : Hid (QB 0 []) := by show QB 0 []; rw [hQB]; exact fun j hj => by omega
  have HQD := Lib.hid hQB
  clear hQB
  go_loopw [12, 44] (fun u z wr => ∃ (k c g : Nat) (zs : List Nat), k ≤ P.d.length ∧ z = .int .i64 (k : Int) ∧ u = .slice (some ⟨g, 0, none⟩) k c ∧ Hid (RW B0 wr (.slice (some ⟨g, 0, none⟩) k c) k zs) ∧ Hid (QB k zs) ∧ Below B0 w1 wr) (fun _ z _ => P.d.length - (intOf z).toNat)
  case atStart => exact ⟨0, 0, bv, [], by omega, rfl, rfl, HRW.out, HQ0.out, Below.refl _ _⟩
  case round =>
    clear hb hk hT hsz
    obtain ⟨k, c, g, zs, hk, rfl, rfl, HRO, HQ, hB⟩ := hrel
    have hzr := hB.size
    have HBr : Hid (Below w.heap.size w wr) := HBW.out.trans (hB.mono (by omega))
    have hlow : ∀ b o v, b < B0 → w1.cell? ⟨b, o, none⟩ = some v → wr.cell? ⟨b, o, none⟩ = some v := fun b o v hb h => (hB.cell (p := ⟨b, o, none⟩) hb).trans h
    have d0 := hlow _ _ _ (by omega) HR0.out.1
    have d1 := hlow _ _ _ (by omega) HR0.out.2.1
    have d2 := hlow _ _ _ (by omega) HR0.out.2.2.1
    have d3 := hlow _ _ _ (by omega) HR0.out.2.2.2
    have en0 := hlow _ _ _ (by omega) HEN.out.1
    have en1 := hlow _ _ _ (by omega) HEN.out.2
    simp only [Nat.zero_add] at d0 d1 d2 d3
    have HLOW := Lib.hid hlow
    clear hlow
    by_cases hlt : k < P.d.length
    · have hlti : (k : Int) < (P.d.length : Int) := by omega
      have hla : k < P.a.length := by have := HLN.out; omega
      have hlai : (k : Int) < (P.a.length : Int) := by omega
      have hlc : k < P.c.length := by have := HLN.out; omega
      have hlci : (k : Int) < (P.c.length : Int) := by omega
      have hki : 0 ≤ (k : Int) + 1 := by omega
      have hkt : ((k : Int) + 1).toNat = k + 1 := by omega
      have hkw : IntKind.i64.wrap ((k : Int) + 1) = (k : Int) + 1 := IntWalk.i64_in _ (by omega)
      have hk1 : k < P.a.length + 1 := by omega
      have hk2 : k + 1 < P.a.length + 1 := by omega
      have hk3 : (k : Int) < (P.a.length : Int) + 1 := by omega
      have hk4 : (k : Int) + 1 < (P.a.length : Int) + 1 := by omega
      have ya := HLOW.out _ _ _ hbmB (HY1.out k (by omega))
      have yb := HLOW.out _ _ _ hbmB (HY1.out (k + 1) (by omega))
      have za := cell_later HBr.out (HA.out k hla)
      have zc := cell_later HBr.out (HCC.out k hla)
      have zd := cell_later HBr.out (HD.out k hla)
      have hp0 : cn .f32 (ys0.getD k 0) = pG P E G k := HG.out k (by omega)
      have hp1 : cn .f32 (ys0.getD (k + 1) 0) = pG P E G (k + 1) := HG.out (k + 1) (by omega)
      have HWD : Hid (rwW P t k = fop .quo .f32 (fop .mul .f32 (cn .f32 (P.a.getD k 0)) (cn .f32 (P.c.getD k 0))) (cn .f32 t)) := rfl
      have HS0 : Hid (rwS0 P t k = fop .mul .f32 (rwW P t k) (cn .f32 (P.d.getD k 0))) := rfl
      generalize P.a.getD k 0 = xa at za HWD
      generalize P.c.getD k 0 = xc at zc HWD
      generalize P.d.getD k 0 = xd at zd HS0
      generalize ys0.getD k 0 = va at ya hp0
      generalize ys0.getD (k + 1) 0 = vb at yb hp1
      clear HY HA HCC HD HG HY1 HLOW
      go_wp2_with (first | (with_reducible refine at_list ?_; refine wpList_fop rfl rfl rfl rfl rfl ?_; intro r n hr0; have hr := hr0 _ _ (by first | with_reducible assumption | exact rfl) (by first | with_reducible assumption | exact rfl); clear hr0) | (with_reducible refine at_list ?_; refine wpList_neg rfl rfl rfl ?_; intro r hr0; have hr := hr0 _ (by first | with_reducible assumption | exact rfl); clear hr0) | (with_reducible refine at_list ?_; refine wpList_fop_g rfl rfl rfl rfl rfl ?_; intro r n hr0; have hr := hr0 _ _ (by first | with_reducible assumption | exact rfl) (by first | with_reducible assumption | exact rfl); clear hr0) | (go_at_call 42; refine (implPasses_any _ _ _ _ _ (by assumption)).mono ?_; rintro e w' ⟨u, ys, rfl, hb, hO, hL⟩; obtain ⟨pu, cu, rfl⟩ := OF.shape hO; (try simp only [World.size_alloc, World.size_setCell, World.size_drew, World.drewN] at hO); obtain ⟨hT, hk⟩ := bv_next hb (by (repeat (with_reducible first | assumption | apply Trk.alloc | apply Trk.setCell | apply Trk.drewN | apply Trk.drew | exact Trk.nil _))); simp only [SameOn, World.size_alloc, World.size_setCell, World.size_drew, size_drewN', and_true] at hk; have hsz := Below.size hb; (try simp only [World.size_alloc, World.size_setCell, World.size_drew, size_drewN'] at hsz)) | (go_at_call 45; refine (arePositive_any _ _ _ (by assumption)).mono ?_; rintro e w' ⟨rfl, n, rfl⟩))
      (refine wp_some_lit (by kernel_rfl) (by kernel_rfl) ?_; (iterate 10 (refine wpSome_one ?_; go_big_quiet_step (fail); refine wpQuiet_nil ?_)); ((with_reducible refine at_some ?_; refine wpSome_fop rfl rfl rfl rfl rfl ?_; intro r hr0; have hr := hr0 _ _ (by first | with_reducible assumption | exact rfl) (by first | with_reducible assumption | exact rfl); clear hr0); simp only [Act.put, List.setIfInBounds_toArray, List.set_cons_zero, List.set_cons_succ]); (refine wpSome_one ?_; go_big_quiet_step (fail); refine wpQuiet_nil ?_); ((with_reducible refine at_some ?_; refine wpSome_fop rfl rfl rfl rfl rfl ?_; intro r hr0; have hr := hr0 _ _ (by first | with_reducible assumption | exact rfl) (by first | with_reducible assumption | exact rfl); clear hr0); simp only [Act.put, List.setIfInBounds_toArray, List.set_cons_zero, List.set_cons_succ]); (refine wpSome_one ?_; go_big_quiet_step (fail); refine wpQuiet_nil ?_); refine wpSome_nil ?_; intro w' hw'; obtain ⟨nq, rfl⟩ := hw')
      go_wp2_with (first | (with_reducible refine at_list ?_; refine wpList_fop rfl rfl rfl rfl rfl ?_; intro r n hr0; have hr := hr0 _ _ (by first | with_reducible assumption | exact rfl) (by first | with_reducible assumption | exact rfl); clear hr0) | (with_reducible refine at_list ?_; refine wpList_neg rfl rfl rfl ?_; intro r hr0; have hr := hr0 _ (by first | with_reducible assumption | exact rfl); clear hr0) | (with_reducible refine at_list ?_; refine wpList_fop_g rfl rfl rfl rfl rfl ?_; intro r n hr0; have hr := hr0 _ _ (by first | with_reducible assumption | exact rfl) (by first | with_reducible assumption | exact rfl); clear hr0) | (go_at_call 42; refine (implPasses_any _ _ _ _ _ (by assumption)).mono ?_; rintro e w' ⟨u, ys, rfl, hb, hO, hL⟩; obtain ⟨pu, cu, rfl⟩ := OF.shape hO; (try simp only [World.size_alloc, World.size_setCell, World.size_drew, World.drewN] at hO); obtain ⟨hT, hk⟩ := bv_next hb (by (repeat (with_reducible first | assumption | apply Trk.alloc | apply Trk.setCell | apply Trk.drewN | apply Trk.drew | exact Trk.nil _))); simp only [SameOn, World.size_alloc, World.size_setCell, World.size_drew, size_drewN', and_true] at hk; have hsz := Below.size hb; (try simp only [World.size_alloc, World.size_setCell, World.size_drew, size_drewN'] at hsz)) | (go_at_call 45; refine (arePositive_any _ _ _ (by assumption)).mono ?_; rintro e w' ⟨rfl, n, rfl⟩))
      (refine wp_some_lit (by kernel_rfl) (by kernel_rfl) ?_; (iterate 11 (refine wpSome_one ?_; go_big_quiet_step (fail); refine wpQuiet_nil ?_)); refine wpSome_nil ?_; intro w' hw'; obtain ⟨nq, rfl⟩ := hw')
      go_upto_if 85 with (first | (with_reducible refine at_list ?_; refine wpList_fop rfl rfl rfl rfl rfl ?_; intro r n hr0; have hr := hr0 _ _ (by first | with_reducible assumption | exact rfl) (by first | with_reducible assumption | exact rfl); clear hr0) | (with_reducible refine at_list ?_; refine wpList_neg rfl rfl rfl ?_; intro r hr0; have hr := hr0 _ (by first | with_reducible assumption | exact rfl); clear hr0) | (with_reducible refine at_list ?_; refine wpList_fop_g rfl rfl rfl rfl rfl ?_; intro r n hr0; have hr := hr0 _ _ (by first | with_reducible assumption | exact rfl) (by first | with_reducible assumption | exact rfl); clear hr0) | (go_at_call 42; refine (implPasses_any _ _ _ _ _ (by assumption)).mono ?_; rintro e w' ⟨u, ys, rfl, hb, hO, hL⟩; obtain ⟨pu, cu, rfl⟩ := OF.shape hO; (try simp only [World.size_alloc, World.size_setCell, World.size_drew, World.drewN] at hO); obtain ⟨hT, hk⟩ := bv_next hb (by (repeat (with_reducible first | assumption | apply Trk.alloc | apply Trk.setCell | apply Trk.drewN | apply Trk.drew | exact Trk.nil _))); simp only [SameOn, World.size_alloc, World.size_setCell, World.size_drew, size_drewN', and_true] at hk; have hsz := Below.size hb; (try simp only [World.size_alloc, World.size_setCell, World.size_drew, size_drewN'] at hsz)) | (go_at_call 45; refine (arePositive_any _ _ _ (by assumption)).mono ?_; rintro e w' ⟨rfl, n, rfl⟩))
      rename cn .f32 _ = fneg .f32 (pG P E G k) => e0
      rename cn .f32 _ = fneg .f32 (pG P E G (k + 1)) => e2
      rename cn .f32 _ = fop .add .f32 (fop .add .f32 _ (pG P E G k)) (pG P E G (k + 1)) => e1
      have E1 := e1.trans (show _ = rwA P E G t k by rw [rwA, HWD.out])
      have E3 := hr.trans (show _ = rwS0 P t k by rw [HS0.out, HWD.out])
      refine wp_named ?_
      intro wv hwv
      obtain ⟨y0, y1, y2, y3, HE, HC⟩ : ∃ y0 y1 y2 y3, Hid ((cn .f32 y0 = rwB P E G k ∧ cn .f32 y1 = rwA P E G t k) ∧ cn .f32 y2 = rwX P E G k ∧ cn .f32 y3 = rwS0 P t k) ∧ Hid ((wv.cell? ⟨wr.heap.size, 0, none⟩ = some (.float .f32 y0) ∧ wv.cell? ⟨wr.heap.size, 1, none⟩ = some (.float .f32 y1) ∧ wv.cell? ⟨wr.heap.size, 2, none⟩ = some (.float .f32 y2) ∧ wv.cell? ⟨wr.heap.size, 3, none⟩ = some (.float .f32 y3)) ∧ ∀ o, wv.frozen? ⟨wr.heap.size, o, none⟩ = false) := by
        rw [hwv]
        exact ⟨_, _, _, _, ⟨⟨e0, E1⟩, e2, E3⟩, ⟨⟨by go_simp <;> exact rfl, by go_simp <;> exact rfl, by go_simp <;> exact rfl, by go_simp <;> exact rfl⟩, fun o => by go_simp⟩⟩
      have HBV : Hid (Below wr.heap.size wr wv) := by show Below _ _ _; rw [hwv]; (repeat (first | (with_reducible exact Below.refl _ _) | (with_reducible assumption) | (with_reducible refine below_then ?_ (by assumption)) | (with_reducible refine Below.trans ?_ (by assumption)) | (with_reducible refine below_drewN ?_ _) | (with_reducible apply Below.drew) | (with_reducible refine below_alloc ?_ _) | refine Below.setCell ?_ (by first | (simp; done) | (simp; omega)) _))
      have HZV : Hid (wr.heap.size < wv.heap.size) := by show _ < _; rw [hwv]; first | omega | (simp; done) | (simp; omega)
      clear hwv e0 e1 e2 E1 E3 hr
      have HEV : Hid (wv.cell? ⟨w.heap.size + 1, 1, none⟩ = some (.float .f32 E.t) ∧ wv.cell? ⟨w.heap.size + 2, 1, none⟩ = some (.float .f32 G.t)) := ⟨cell_later HBV.out en0, cell_later HBV.out en1⟩
      have HENR : Hid (wr.cell? ⟨w.heap.size + 1, 1, none⟩ = some (.float .f32 E.t) ∧ wr.cell? ⟨w.heap.size + 2, 1, none⟩ = some (.float .f32 G.t)) := ⟨en0, en1⟩
      clear ya yb za zc zd d0 d1 d2 d3 en0 en1
      go_cut [19] from 45 to 109 (fun s19 wx => ∃ x3, s19 = .pointer (some ⟨wr.heap.size, 0, none⟩) ∧ Hid (cn .f32 x3 = rwS1 P E G t k) ∧ Hid ((wx.cell? ⟨wr.heap.size, 0, none⟩ = some (.float .f32 y0) ∧ wx.cell? ⟨wr.heap.size, 1, none⟩ = some (.float .f32 y1) ∧ wx.cell? ⟨wr.heap.size, 2, none⟩ = some (.float .f32 y2) ∧ wx.cell? ⟨wr.heap.size, 3, none⟩ = some (.float .f32 x3)) ∧ ∀ o, wx.frozen? ⟨wr.heap.size, o, none⟩ = false) ∧ Hid (Below wr.heap.size wr wx) ∧ Hid (wr.heap.size < wx.heap.size))
      case first =>
        by_cases hk0 : k = 0
        · subst hk0
          obtain ⟨⟨f0, f1, f2, f3⟩, ff⟩ := HC.out
          have q3 := HE.out.2.2
          have en2 := HEV.out.1
          have HBV2 := HBV.out
          have hzv := HZV.out
          go_wp2_with (first | (with_reducible refine at_list ?_; refine wpList_fop rfl rfl rfl rfl rfl ?_; intro r n hr0; have hr := hr0 _ _ (by first | with_reducible assumption | exact rfl) (by first | with_reducible assumption | exact rfl); clear hr0) | (with_reducible refine at_list ?_; refine wpList_neg rfl rfl rfl ?_; intro r hr0; have hr := hr0 _ (by first | with_reducible assumption | exact rfl); clear hr0) | (with_reducible refine at_list ?_; refine wpList_fop_g rfl rfl rfl rfl rfl ?_; intro r n hr0; have hr := hr0 _ _ (by first | with_reducible assumption | exact rfl) (by first | with_reducible assumption | exact rfl); clear hr0) | (go_at_call 42; refine (implPasses_any _ _ _ _ _ (by assumption)).mono ?_; rintro e w' ⟨u, ys, rfl, hb, hO, hL⟩; obtain ⟨pu, cu, rfl⟩ := OF.shape hO; (try simp only [World.size_alloc, World.size_setCell, World.size_drew, World.drewN] at hO); obtain ⟨hT, hk⟩ := bv_next hb (by (repeat (with_reducible first | assumption | apply Trk.alloc | apply Trk.setCell | apply Trk.drewN | apply Trk.drew | exact Trk.nil _))); simp only [SameOn, World.size_alloc, World.size_setCell, World.size_drew, size_drewN', and_true] at hk; have hsz := Below.size hb; (try simp only [World.size_alloc, World.size_setCell, World.size_drew, size_drewN'] at hsz)) | (go_at_call 45; refine (arePositive_any _ _ _ (by assumption)).mono ?_; rintro e w' ⟨rfl, n, rfl⟩))
          go_meet
          case rel => exact ⟨r, rfl, by show _ = _; rw [rwS1, if_pos rfl]; exact hr, ⟨⟨by go_simp, by go_simp, by go_simp, by go_simp⟩, fun o => by go_simp⟩, by show Below _ _ _; (repeat (first | (with_reducible exact Below.refl _ _) | (with_reducible assumption) | (with_reducible refine below_then ?_ (by assumption)) | (with_reducible refine Below.trans ?_ (by assumption)) | (with_reducible refine below_drewN ?_ _) | (with_reducible apply Below.drew) | (with_reducible refine below_alloc ?_ _) | refine Below.setCell ?_ (by first | (simp; done) | (simp; omega)) _)), by show _ < _; first | omega | (simp; omega)⟩
        · have hk0i : ¬ (k : Int) = 0 := by omega
          go_wp2_with (first | (with_reducible refine at_list ?_; refine wpList_fop rfl rfl rfl rfl rfl ?_; intro r n hr0; have hr := hr0 _ _ (by first | with_reducible assumption | exact rfl) (by first | with_reducible assumption | exact rfl); clear hr0) | (with_reducible refine at_list ?_; refine wpList_neg rfl rfl rfl ?_; intro r hr0; have hr := hr0 _ (by first | with_reducible assumption | exact rfl); clear hr0) | (with_reducible refine at_list ?_; refine wpList_fop_g rfl rfl rfl rfl rfl ?_; intro r n hr0; have hr := hr0 _ _ (by first | with_reducible assumption | exact rfl) (by first | with_reducible assumption | exact rfl); clear hr0) | (go_at_call 42; refine (implPasses_any _ _ _ _ _ (by assumption)).mono ?_; rintro e w' ⟨u, ys, rfl, hb, hO, hL⟩; obtain ⟨pu, cu, rfl⟩ := OF.shape hO; (try simp only [World.size_alloc, World.size_setCell, World.size_drew, World.drewN] at hO); obtain ⟨hT, hk⟩ := bv_next hb (by (repeat (with_reducible first | assumption | apply Trk.alloc | apply Trk.setCell | apply Trk.drewN | apply Trk.drew | exact Trk.nil _))); simp only [SameOn, World.size_alloc, World.size_setCell, World.size_drew, size_drewN', and_true] at hk; have hsz := Below.size hb; (try simp only [World.size_alloc, World.size_setCell, World.size_drew, size_drewN'] at hsz)) | (go_at_call 45; refine (arePositive_any _ _ _ (by assumption)).mono ?_; rintro e w' ⟨rfl, n, rfl⟩))
          go_meet
          case rel => exact ⟨y3, rfl, by show _ = _; rw [rwS1, if_neg hk0]; exact HE.out.2.2, HC.out, HBV.out, HZV.out⟩
      case rest =>
        obtain ⟨x3, rfl, HX3, HC3, HB3, HZ3⟩ := hcut
        go_upto_if 96 with (first | (with_reducible refine at_list ?_; refine wpList_fop rfl rfl rfl rfl rfl ?_; intro r n hr0; have hr := hr0 _ _ (by first | with_reducible assumption | exact rfl) (by first | with_reducible assumption | exact rfl); clear hr0) | (with_reducible refine at_list ?_; refine wpList_neg rfl rfl rfl ?_; intro r hr0; have hr := hr0 _ (by first | with_reducible assumption | exact rfl); clear hr0) | (with_reducible refine at_list ?_; refine wpList_fop_g rfl rfl rfl rfl rfl ?_; intro r n hr0; have hr := hr0 _ _ (by first | with_reducible assumption | exact rfl) (by first | with_reducible assumption | exact rfl); clear hr0) | (go_at_call 42; refine (implPasses_any _ _ _ _ _ (by assumption)).mono ?_; rintro e w' ⟨u, ys, rfl, hb, hO, hL⟩; obtain ⟨pu, cu, rfl⟩ := OF.shape hO; (try simp only [World.size_alloc, World.size_setCell, World.size_drew, World.drewN] at hO); obtain ⟨hT, hk⟩ := bv_next hb (by (repeat (with_reducible first | assumption | apply Trk.alloc | apply Trk.setCell | apply Trk.drewN | apply Trk.drew | exact Trk.nil _))); simp only [SameOn, World.size_alloc, World.size_setCell, World.size_drew, size_drewN', and_true] at hk; have hsz := Below.size hb; (try simp only [World.size_alloc, World.size_setCell, World.size_drew, size_drewN'] at hsz)) | (go_at_call 45; refine (arePositive_any _ _ _ (by assumption)).mono ?_; rintro e w' ⟨rfl, n, rfl⟩))
        go_cut [19] from 45 to 109 (fun s19 wx => ∃ x4, s19 = .pointer (some ⟨wr.heap.size, 0, none⟩) ∧ Hid (cn .f32 x4 = rwS P E G t k) ∧ Hid ((wx.cell? ⟨wr.heap.size, 0, none⟩ = some (.float .f32 y0) ∧ wx.cell? ⟨wr.heap.size, 1, none⟩ = some (.float .f32 y1) ∧ wx.cell? ⟨wr.heap.size, 2, none⟩ = some (.float .f32 y2) ∧ wx.cell? ⟨wr.heap.size, 3, none⟩ = some (.float .f32 x4)) ∧ ∀ o, wx.frozen? ⟨wr.heap.size, o, none⟩ = false) ∧ Hid (Below wr.heap.size wr wx) ∧ Hid (wr.heap.size < wx.heap.size))
        case first =>
          by_cases hkn : k + 1 = P.a.length
          · have hkni : ((k : Int) == (P.a.length : Int) - 1) = true := by rw [beq_iff_eq]; omega
            obtain ⟨⟨f0, f1, f2, f3⟩, ff⟩ := HC3.out
            have q3 := HX3.out
            have en2 := cell_later HB3.out HENR.out.2
            have HBV2 := HB3.out
            have hzv := HZ3.out
            have HKN := Lib.hid hkn
            clear hkn hkt hki hk1 hk2 hk3 hk4
            go_wp2_with (first | (with_reducible refine at_list ?_; refine wpList_fop rfl rfl rfl rfl rfl ?_; intro r n hr0; have hr := hr0 _ _ (by first | with_reducible assumption | exact rfl) (by first | with_reducible assumption | exact rfl); clear hr0) | (with_reducible refine at_list ?_; refine wpList_neg rfl rfl rfl ?_; intro r hr0; have hr := hr0 _ (by first | with_reducible assumption | exact rfl); clear hr0) | (with_reducible refine at_list ?_; refine wpList_fop_g rfl rfl rfl rfl rfl ?_; intro r n hr0; have hr := hr0 _ _ (by first | with_reducible assumption | exact rfl) (by first | with_reducible assumption | exact rfl); clear hr0) | (go_at_call 42; refine (implPasses_any _ _ _ _ _ (by assumption)).mono ?_; rintro e w' ⟨u, ys, rfl, hb, hO, hL⟩; obtain ⟨pu, cu, rfl⟩ := OF.shape hO; (try simp only [World.size_alloc, World.size_setCell, World.size_drew, World.drewN] at hO); obtain ⟨hT, hk⟩ := bv_next hb (by (repeat (with_reducible first | assumption | apply Trk.alloc | apply Trk.setCell | apply Trk.drewN | apply Trk.drew | exact Trk.nil _))); simp only [SameOn, World.size_alloc, World.size_setCell, World.size_drew, size_drewN', and_true] at hk; have hsz := Below.size hb; (try simp only [World.size_alloc, World.size_setCell, World.size_drew, size_drewN'] at hsz)) | (go_at_call 45; refine (arePositive_any _ _ _ (by assumption)).mono ?_; rintro e w' ⟨rfl, n, rfl⟩))
            go_meet
            case rel => exact ⟨r, rfl, by show _ = _; rw [rwS, if_pos HKN.out]; exact hr, ⟨⟨by go_simp, by go_simp, by go_simp, by go_simp⟩, fun o => by go_simp⟩, by show Below _ _ _; (repeat (first | (with_reducible exact Below.refl _ _) | (with_reducible assumption) | (with_reducible refine below_then ?_ (by assumption)) | (with_reducible refine Below.trans ?_ (by assumption)) | (with_reducible refine below_drewN ?_ _) | (with_reducible apply Below.drew) | (with_reducible refine below_alloc ?_ _) | refine Below.setCell ?_ (by first | (simp; done) | (simp; omega)) _)), by show _ < _; first | omega | (simp; omega)⟩
          · have hkni : ¬ (k : Int) = (P.a.length : Int) - 1 := by omega
            go_wp2_with (first | (with_reducible refine at_list ?_; refine wpList_fop rfl rfl rfl rfl rfl ?_; intro r n hr0; have hr := hr0 _ _ (by first | with_reducible assumption | exact rfl) (by first | with_reducible assumption | exact rfl); clear hr0) | (with_reducible refine at_list ?_; refine wpList_neg rfl rfl rfl ?_; intro r hr0; have hr := hr0 _ (by first | with_reducible assumption | exact rfl); clear hr0) | (with_reducible refine at_list ?_; refine wpList_fop_g rfl rfl rfl rfl rfl ?_; intro r n hr0; have hr := hr0 _ _ (by first | with_reducible assumption | exact rfl) (by first | with_reducible assumption | exact rfl); clear hr0) | (go_at_call 42; refine (implPasses_any _ _ _ _ _ (by assumption)).mono ?_; rintro e w' ⟨u, ys, rfl, hb, hO, hL⟩; obtain ⟨pu, cu, rfl⟩ := OF.shape hO; (try simp only [World.size_alloc, World.size_setCell, World.size_drew, World.drewN] at hO); obtain ⟨hT, hk⟩ := bv_next hb (by (repeat (with_reducible first | assumption | apply Trk.alloc | apply Trk.setCell | apply Trk.drewN | apply Trk.drew | exact Trk.nil _))); simp only [SameOn, World.size_alloc, World.size_setCell, World.size_drew, size_drewN', and_true] at hk; have hsz := Below.size hb; (try simp only [World.size_alloc, World.size_setCell, World.size_drew, size_drewN'] at hsz)) | (go_at_call 45; refine (arePositive_any _ _ _ (by assumption)).mono ?_; rintro e w' ⟨rfl, n, rfl⟩))
            go_meet
            case rel => exact ⟨x3, rfl, by show _ = _; rw [rwS, if_neg hkn]; exact HX3.out, HC3.out, HB3.out, HZ3.out⟩
        case rest =>
          obtain ⟨x4, rfl, HX4, HC4, HB4, HZ4⟩ := hcut
          obtain ⟨⟨f0, f1, f2, f3⟩, ff⟩ := HC4.out
          have hzv := HZ4.out
          have hbv := HB4.out
          go_wp2_with (first | (with_reducible refine at_list ?_; refine wpList_fop rfl rfl rfl rfl rfl ?_; intro r n hr0; have hr := hr0 _ _ (by first | with_reducible assumption | exact rfl) (by first | with_reducible assumption | exact rfl); clear hr0) | (with_reducible refine at_list ?_; refine wpList_neg rfl rfl rfl ?_; intro r hr0; have hr := hr0 _ (by first | with_reducible assumption | exact rfl); clear hr0) | (with_reducible refine at_list ?_; refine wpList_fop_g rfl rfl rfl rfl rfl ?_; intro r n hr0; have hr := hr0 _ _ (by first | with_reducible assumption | exact rfl) (by first | with_reducible assumption | exact rfl); clear hr0) | (at_builtin; refine stop_here ?_) | (go_at_call 42; refine (implPasses_any _ _ _ _ _ (by assumption)).mono ?_; rintro e w' ⟨u, ys, rfl, hb, hO, hL⟩; obtain ⟨pu, cu, rfl⟩ := OF.shape hO; (try simp only [World.size_alloc, World.size_setCell, World.size_drew, World.drewN] at hO); obtain ⟨hT, hk⟩ := bv_next hb (by (repeat (with_reducible first | assumption | apply Trk.alloc | apply Trk.setCell | apply Trk.drewN | apply Trk.drew | exact Trk.nil _))); simp only [SameOn, World.size_alloc, World.size_setCell, World.size_drew, size_drewN', and_true] at hk; have hsz := Below.size hb; (try simp only [World.size_alloc, World.size_setCell, World.size_drew, size_drewN'] at hsz)) | (go_at_call 45; refine (arePositive_any _ _ _ (by assumption)).mono ?_; rintro e w' ⟨rfl, n, rfl⟩))
          unfold Stop
          apply wpList_appRow (B := B0) (n := k) (zs := zs) (v := .slice (some ⟨g, 0, none⟩) k c) (r0 := y0) (r1 := y1) (r2 := y2) (r3 := x4)
          case hg => rfl
          case ho => rfl
          case hs => rfl
          case hx => rfl
          case hO => exact RW.later HRO.out (by (repeat (first | (with_reducible exact Below.refl _ _) | (with_reducible assumption) | (with_reducible refine below_then ?_ (by assumption)) | (with_reducible refine Below.trans ?_ (by assumption)) | (with_reducible refine below_drewN ?_ _) | (with_reducible apply Below.drew) | (with_reducible refine below_alloc ?_ _) | refine Below.setCell ?_ (by first | (simp; done) | (simp; omega)) _)))
          case hc0 => go_simp
          case hc1 => go_simp
          case hc2 => go_simp
          case hc3 => go_simp
          case hn => omega
          case hB => simp; omega
          intro g5 c5 w5 hO5 hB5
          have HQ5 : Hid (QB (k + 1) (zs ++ [y0, y1, y2, x4])) := by
            show QB _ _
            have h := HQ.out
            rw [HQD.out] at h ⊢
            exact rwQ_step h HRO.out.len HE.out.1.1 HE.out.1.2 HE.out.2.1 HX4.out
          have HB6 : Hid (Below B0 w1 w5) := Below.trans (B := B0) (a := w1) (hB.trans (Below.mono (show Below wr.heap.size wr _ by (repeat (first | (with_reducible exact Below.refl _ _) | (with_reducible assumption) | (with_reducible refine below_then ?_ (by assumption)) | (with_reducible refine Below.trans ?_ (by assumption)) | (with_reducible refine below_drewN ?_ _) | (with_reducible apply Below.drew) | (with_reducible refine below_alloc ?_ _) | refine Below.setCell ?_ (by first | (simp; done) | (simp; omega)) _))) (by omega))) hB5
          have HO5 := Lib.hid hO5
          clear hO5 hB5
          go_wp2_with (first | (with_reducible refine at_list ?_; refine wpList_fop rfl rfl rfl rfl rfl ?_; intro r n hr0; have hr := hr0 _ _ (by first | with_reducible assumption | exact rfl) (by first | with_reducible assumption | exact rfl); clear hr0) | (with_reducible refine at_list ?_; refine wpList_neg rfl rfl rfl ?_; intro r hr0; have hr := hr0 _ (by first | with_reducible assumption | exact rfl); clear hr0) | (with_reducible refine at_list ?_; refine wpList_fop_g rfl rfl rfl rfl rfl ?_; intro r n hr0; have hr := hr0 _ _ (by first | with_reducible assumption | exact rfl) (by first | with_reducible assumption | exact rfl); clear hr0) | (go_at_call 42; refine (implPasses_any _ _ _ _ _ (by assumption)).mono ?_; rintro e w' ⟨u, ys, rfl, hb, hO, hL⟩; obtain ⟨pu, cu, rfl⟩ := OF.shape hO; (try simp only [World.size_alloc, World.size_setCell, World.size_drew, World.drewN] at hO); obtain ⟨hT, hk⟩ := bv_next hb (by (repeat (with_reducible first | assumption | apply Trk.alloc | apply Trk.setCell | apply Trk.drewN | apply Trk.drew | exact Trk.nil _))); simp only [SameOn, World.size_alloc, World.size_setCell, World.size_drew, size_drewN', and_true] at hk; have hsz := Below.size hb; (try simp only [World.size_alloc, World.size_setCell, World.size_drew, size_drewN'] at hsz)) | (go_at_call 45; refine (arePositive_any _ _ _ (by assumption)).mono ?_; rintro e w' ⟨rfl, n, rfl⟩))
          go_roundw
          case rel => exact ⟨k + 1, c5, g5, zs ++ [y0, y1, y2, x4], by omega, by go_num, rfl, HO5.out, HQ5.out, HB6.out⟩
          case measure => simp [intOf]; omega
          all_goals first | kernel_rfl | rfl
    · have hlti : ¬ (k : Int) < (P.d.length : Int) := by omega
      have hke : k = P.a.length := by have := HLN.out; omega
      have HE1 : Hid (elQ (rwB P E G) (rwA P E G t) (rwX P E G) (rwS P E G t) P.a.length 1 zs) := elQ_one (by have h := HQ.out; rw [HQD.out, hke] at h; exact h)
      have HRK : Hid (RW B0 wr (.slice (some ⟨g, 0, none⟩) P.a.length c) P.a.length zs) := hke ▸ HRO.out
      have HSV : Hid (∀ w', Below wr.heap.size wr w' → Calls Try.prog 46 #[.slice (some ⟨g, 0, none⟩) P.a.length c] w' (fun e w2 => ∃ v, e = .returned v ∧ (Below B0 wr w2 ∧ wr.heap.size ≤ w2.heap.size) ∧ (∃ q c', v = .slice q P.a.length c') ∧ ∃ ys, OF wr.heap.size w2 v ys ∧ ys.map (cn .f32) = rwsL P E G t ∧ ys.length = P.a.length)) := fun w' hb => by
        refine (solveRows_any B0 _ _ _ _ zs P.a.length g c w' (HRK.out.later hb) ⟨hn1, hn2⟩ HE1.out).mono ?_
        rintro e w2 ⟨v, ys, rfl, hT, hO, hm⟩
        have hl : ys.length = P.a.length := by have := congrArg List.length hm; rw [solL_len] at this; simpa using this
        obtain ⟨q, c', rfl⟩ := hO.shape
        have hO2 := OF.base hO hb.size
        exact ⟨_, rfl, ⟨(hb.mono (by omega)).trans (turn_below hT (Nat.le_refl _) (by have := hb.size; omega)), Nat.le_trans hb.size hT.size⟩, ⟨q, c', by rw [hl]⟩, ys, hO2, hm, hl⟩
      have HOW : Hid (∀ w', Below B0 wr w' → owned w' (w.heap.size + 3) [.slice none 0 0, .slice none 0 0, .slice none 0 0, .slice none 0 0]) := by
        show ∀ _, _
        intro w' hb
        have hl : w.heap.size + 3 < B0 := by omega
        obtain ⟨z0, z1, z2, z3, zf⟩ := HR8.out
        have c0 := ((hB.trans hb).cell (p := ⟨w.heap.size + 3, 0, none⟩) hl).trans z0
        have c1 := ((hB.trans hb).cell (p := ⟨w.heap.size + 3, 1, none⟩) hl).trans z1
        have c2 := ((hB.trans hb).cell (p := ⟨w.heap.size + 3, 2, none⟩) hl).trans z2
        have c3 := ((hB.trans hb).cell (p := ⟨w.heap.size + 3, 3, none⟩) hl).trans z3
        have cf : ∀ o, w'.frozen? ⟨w.heap.size + 3, o, none⟩ = false := fun o => ((hB.trans hb).frozen (p := ⟨w.heap.size + 3, o, none⟩) hl).trans (zf o)
        intro j x hj
        match j, hj with
        | 0, hj => simp at hj; subst hj; exact ⟨c0, cf 0⟩
        | 1, hj => simp at hj; subst hj; exact ⟨c1, cf 1⟩
        | 2, hj => simp at hj; subst hj; exact ⟨c2, cf 2⟩
        | 3, hj => simp at hj; subst hj; exact ⟨c3, cf 3⟩
        | j + 4, hj => simp at hj
      clear HQ HRO HE1 HRK
      obtain ⟨R9, b9, hR9⟩ : ∃ R9 b9, R9 = okR b9 (rwsR P E G t) ∧ b9 = (rwsR P E G t).ok := ⟨_, _, rfl, rfl⟩
      have HR9 := Lib.hid hR9
      have HWK : Hid (∀ w' q c' ys, Below B0 wr w' → OF wr.heap.size w' (.slice q P.a.length c') ys → ys.map (cn .f32) = rwsL P E G t → ys.length = P.a.length → Calls Try.prog 40 #[.agg #[.slice (some ⟨b1, o1, none⟩) P.a.length c1, .slice (some ⟨b2, o2, none⟩) P.b.length c2, .slice (some ⟨b3, o3, none⟩) P.c.length c3, .slice (some ⟨b4, o4, none⟩) P.d.length c4], .slice q P.a.length c'] w' (BRB w' R9 b9)) := fun w' q c' ys hb hO hm hl => by
        rw [HR9.out.1, HR9.out.2]
        have hF := OF.fs hO
        exact withWarms_known P _ (rwsL P E G t) ys _ w' (HS.out.later (HBr.out.trans (hb.mono (by omega)))) hF HP.out hm hl (solL_cn _ _ _ _ _) (rwsR P E G t) rfl
      have HLT : Hid (w.heap.size < B0 ∧ B0 ≤ wr.heap.size) := ⟨by omega, by omega⟩
      have HL3 : Hid (w.heap.size < w.heap.size + 3) := by show _ < _; omega
      have HL4 : Hid (w.heap.size + 3 ≤ B0 ∧ w.heap.size + 3 < wr.heap.size) := ⟨by omega, by omega⟩
      have HDD : Hid (∀ w', Below (w.heap.size + 3) wr w' → (w'.cell? ⟨w.heap.size, 0, none⟩ = some (.slice (some ⟨b1, o1, none⟩) P.a.length c1) ∧ w'.cell? ⟨w.heap.size, 1, none⟩ = some (.slice (some ⟨b2, o2, none⟩) P.b.length c2)) ∧ w'.cell? ⟨w.heap.size, 2, none⟩ = some (.slice (some ⟨b3, o3, none⟩) P.c.length c3) ∧ w'.cell? ⟨w.heap.size, 3, none⟩ = some (.slice (some ⟨b4, o4, none⟩) P.d.length c4)) := fun w' hb => ⟨⟨(hb.cell (p := ⟨w.heap.size, 0, none⟩) HL3.out).trans d0, (hb.cell (p := ⟨w.heap.size, 1, none⟩) HL3.out).trans d1⟩, (hb.cell (p := ⟨w.heap.size, 2, none⟩) HL3.out).trans d2, (hb.cell (p := ⟨w.heap.size, 3, none⟩) HL3.out).trans d3⟩
      clear hR9
      go_wp2_with (first | (with_reducible refine at_list ?_; refine wpList_fop rfl rfl rfl rfl rfl ?_; intro r n hr0; have hr := hr0 _ _ (by first | with_reducible assumption | exact rfl) (by first | with_reducible assumption | exact rfl); clear hr0) | (with_reducible refine at_list ?_; refine wpList_neg rfl rfl rfl ?_; intro r hr0; have hr := hr0 _ (by first | with_reducible assumption | exact rfl); clear hr0) | (with_reducible refine at_list ?_; refine wpList_fop_g rfl rfl rfl rfl rfl ?_; intro r n hr0; have hr := hr0 _ _ (by first | with_reducible assumption | exact rfl) (by first | with_reducible assumption | exact rfl); clear hr0) | (go_at_call 42; refine (implPasses_any _ _ _ _ _ (by assumption)).mono ?_; rintro e w' ⟨u, ys, rfl, hb, hO, hL⟩; obtain ⟨pu, cu, rfl⟩ := OF.shape hO; (try simp only [World.size_alloc, World.size_setCell, World.size_drew, World.drewN] at hO); obtain ⟨hT, hk⟩ := bv_next hb (by (repeat (with_reducible first | assumption | apply Trk.alloc | apply Trk.setCell | apply Trk.drewN | apply Trk.drew | exact Trk.nil _))); simp only [SameOn, World.size_alloc, World.size_setCell, World.size_drew, size_drewN', and_true] at hk; have hsz := Below.size hb; (try simp only [World.size_alloc, World.size_setCell, World.size_drew, size_drewN'] at hsz)) | (go_at_call 45; refine (arePositive_any _ _ _ (by assumption)).mono ?_; rintro e w' ⟨rfl, n, rfl⟩))
      clear hb hT hk HA HCC HD hq0 HY HG HY1 HBW HRW HR0 HEN HR8 HQ0 HQD en0 en1 HLOW
      (apply wp_region_planG (F := (fun u => Below (w.heap.size + 3) wr u)) (fun u => Below wr.heap.size wr u) (fun a c h hb => h.trans (hb.mono h.size)); (case hW => exact (by first | assumption | exact Below.refl _ _)); (case hF0 => exact (by (intro u h; exact h.mono (Nat.le_of_lt HL4.out.2)))); ((apply wpG_any; (case hw => exact rfl); (case h1 => (intro w' hb; obtain ⟨⟨x0, x1⟩, x2, x3⟩ := HDD.out w' hb; go_simp <;> exact rfl))); apply wpG_norm; (case ha => (simp only [Act.put, List.setIfInBounds_toArray, List.set_cons_zero, List.set_cons_succ]; exact rfl))); ((apply wpG_det; (case hw => exact rfl); (case hs => (intro cs b h; cases h)); (case h1 => (intro w'; go_simp <;> exact rfl))); apply wpG_norm; (case ha => (simp only [Act.put, List.setIfInBounds_toArray, List.set_cons_zero, List.set_cons_succ]; exact rfl))); ((apply wpG_solv (fun u => Below B0 wr u ∧ wr.heap.size ≤ u.heap.size) (fun a c h hb => ⟨h.1.trans (hb.mono (Nat.le_trans HLT.out.2 h.2)), Nat.le_trans h.2 hb.size⟩); (case hw => exact rfl); (case he => (intro w'; go_simp; exact ⟨rfl, rfl⟩)); (case h1 => (intro w' hi hk0; exact HSV.out w' hi)); intro q9 c9); apply wpG_norm; (case ha => (simp only [Act.put, List.setIfInBounds_toArray, List.set_cons_zero, List.set_cons_succ]; exact rfl))); ((apply wpG_callRB wr.heap.size; (case hw => exact rfl); (case he => (intro w'; go_simp; exact ⟨rfl, rfl⟩)); (case hB => (intro u h; exact h.2)); (case hc => (intro w' hi hk0; obtain ⟨ys, hO, hm, hl⟩ := hk0.1; exact HWK.out _ _ _ ys hi.1 hO hm hl)); intro mq); apply wpG_norm; (case ha => (simp only [Act.put, List.setIfInBounds_toArray, List.set_cons_zero, List.set_cons_succ]; exact rfl))); (iterate 2 ((apply wpG_det; (case hw => exact rfl); (case hs => (intro cs b h; cases h)); (case h1 => (intro w'; go_simp <;> exact rfl))); apply wpG_norm; (case ha => (simp only [Act.put, List.setIfInBounds_toArray, List.set_cons_zero, List.set_cons_succ]; exact rfl)))); ((apply wpG_putR (R := R9) (m := mq) wr.heap.size [.slice none 0 0, .slice none 0 0, .slice none 0 0, .slice none 0 0] (fun u => Below (w.heap.size + 3) wr u) (fun a c h hb => h.trans (hb.mono (Nat.le_trans (Nat.le_of_lt HL4.out.2) h.size))) rfl; (case hx => exact rfl); (case hy => exact rfl); (case hn => rfl); (case hi => kernel_rfl); (case hw => exact rfl); (case hk => (intro u hu; exact HOW.out u hu.1)); (case hm => (intro u hu hk0; have hA := (show ∀ m, Value.tuple #[rdV R9 mq, .bool b9] = .tuple #[rdV R9 m, .bool b9] → RdA wr.heap.size u R9 m from hk0.1) mq rfl; refine ⟨⟨?_, hA.low HL4.out.2 _ _⟩, owned_stored (HOW.out u hu.1)⟩; have h9 := hu.1.mono HL4.out.1; simp only [World.setCells]; exact (((h9.setCell (Nat.le_refl _) _).setCell (Nat.le_refl _) _).setCell (Nat.le_refl _) _).setCell (Nat.le_refl _) _))); apply wpG_norm; (case ha => (simp only [Act.put, List.setIfInBounds_toArray, List.set_cons_zero, List.set_cons_succ]; exact rfl))); ((apply wpG_det; (case hw => exact rfl); (case hs => (intro cs b h; cases h)); (case h1 => (intro w'; go_simp <;> exact rfl))); apply wpG_norm; (case ha => (simp only [Act.put, List.setIfInBounds_toArray, List.set_cons_zero, List.set_cons_succ]; exact rfl))); refine wpG_nil ?_; intro w' hi hkk)
      rotate_left
      case hFs => repeat' (first | exact trivial | (intro u hu; exact hu) | (intro u hu; exact hu.1.mono HL4.out.1) | constructor)
      all_goals (try (first | kernel_rfl | rfl))
      have hq := hkk.1 mq rfl
      have hX := hq.1.rx (B' := w.heap.size) (by have := HL4.out.2; omega)
      obtain ⟨y0, f0⟩ := hq.2 0 _ rfl
      obtain ⟨y1, f1⟩ := hq.2 1 _ rfl
      obtain ⟨y2, f2⟩ := hq.2 2 _ rfl
      obtain ⟨y3, f3⟩ := hq.2 3 _ rfl
      have HBL : Hid (Below w.heap.size w w') := HBr.out.trans (hi.mono (by omega))
      have HX := Lib.hid hX
      clear hq hkk hX hi
      go_wp2_with (first | (with_reducible refine at_list ?_; refine wpList_fop rfl rfl rfl rfl rfl ?_; intro r n hr0; have hr := hr0 _ _ (by first | with_reducible assumption | exact rfl) (by first | with_reducible assumption | exact rfl); clear hr0) | (with_reducible refine at_list ?_; refine wpList_neg rfl rfl rfl ?_; intro r hr0; have hr := hr0 _ (by first | with_reducible assumption | exact rfl); clear hr0) | (with_reducible refine at_list ?_; refine wpList_fop_g rfl rfl rfl rfl rfl ?_; intro r n hr0; have hr := hr0 _ _ (by first | with_reducible assumption | exact rfl) (by first | with_reducible assumption | exact rfl); clear hr0) | (go_at_call 42; refine (implPasses_any _ _ _ _ _ (by assumption)).mono ?_; rintro e w' ⟨u, ys, rfl, hb, hO, hL⟩; obtain ⟨pu, cu, rfl⟩ := OF.shape hO; (try simp only [World.size_alloc, World.size_setCell, World.size_drew, World.drewN] at hO); obtain ⟨hT, hk⟩ := bv_next hb (by (repeat (with_reducible first | assumption | apply Trk.alloc | apply Trk.setCell | apply Trk.drewN | apply Trk.drew | exact Trk.nil _))); simp only [SameOn, World.size_alloc, World.size_setCell, World.size_drew, size_drewN', and_true] at hk; have hsz := Below.size hb; (try simp only [World.size_alloc, World.size_setCell, World.size_drew, size_drewN'] at hsz)) | (go_at_call 45; refine (arePositive_any _ _ _ (by assumption)).mono ?_; rintro e w' ⟨rfl, n, rfl⟩))
      refine bodyPost_ret (v := .tuple #[.agg #[.slice mq.p1 R9.a.length mq.c1, .slice mq.p2 R9.b.length mq.c2, .slice mq.p3 R9.c.length mq.c3, .slice mq.p4 R9.d.length mq.c4], .bool b9]) (by simp [results, Try.results12, go_sem, *]) rfl ?_
      exact ⟨R9, mq, b9, ⟨HR9.out.1, by rw [HPRE.out]; exact HR9.out.2⟩, rfl, HBL.out, HX.out⟩
end Go.Proofs.Ytpnkapdemgieaaa
set_option linter.unusedSimpArgs false
set_option linter.unusedVariables false
set_option linter.unusedSectionVars false
namespace Go.Proofs.Ytpnkapdemgieaaa
open Go Go.RowKit
set_option maxHeartbeats 1000000 in
theorem IndexFuncC_any (g : Nat) (cap : Value) (p : Nat → Bool) (xs : List Nat) (v : Value) (w : World) (hs : FS w v xs) (hcf : ∀ x w', (callFunc g #[.float .f32 x, cap]).run Try.prog w' = .ok (.enter g #[.float .f32 x, cap]) w')
    (hg : ∀ x w', Below w.heap.size w w' → Calls Try.prog g #[.float .f32 x, cap] w' (BV w' (.bool (p x)))) :
    Calls Try.prog 49 #[v, .func (.func g) #[] #[cap]] w (BV w (.int .i64 (findI p xs))) := by
  have HG := Lib.hid hg; clear hg
  obtain ⟨q, c, rfl, hc1, hc2, HV⟩ := FS_view hs
  have HV := Lib.hid HV
  clear hs
  go_enter Try.func49, Try.ntmps49
  go_wp2
  go_loopw [8] (fun t wr => ∃ k : Nat, k ≤ xs.length ∧ t = .int .i64 k ∧ Below w.heap.size w wr ∧ Hid (∀ j, j < k → p (xs.getD j 0) = false)) (fun t _ => xs.length - (intOf t).toNat)
  case atStart => exact ⟨0, Nat.zero_le _, rfl, Below.refl _ _, fun j hj => by omega⟩
  case round =>
    obtain ⟨k, hk, rfl, hB, hp⟩ := hrel
    by_cases hlt : k < xs.length
    · obtain ⟨b, o, rfl, hcell0⟩ := HV.out k hlt
      have hcell := cell_later hB hcell0
      generalize hx : xs.getD k 0 = x at hcell hcell0
      have Hx := Lib.hid hx; clear hx hcell0 HV
      have HC := Lib.hid (HG.out x wr hB)
      rcases hb : p x
      · rw [hb] at HC
        go_wp2_with fail
        refine HC.out.mono ?_
        rintro e w' ⟨rfl, hbl⟩
        go_wp2_with fail
        go_roundw
        case rel => exact ⟨k + 1, by omega, by go_num, below_then hB hbl, fun j hj => by rcases Nat.lt_succ_iff_lt_or_eq.1 hj with h | rfl; exact hp j h; rw [Hx.out]; exact hb⟩
        case measure => simp [intOf]; omega
      · rw [hb] at HC
        go_wp2_with fail
        refine HC.out.mono ?_
        rintro e w' ⟨rfl, hbl⟩
        go_wp2_with fail
        go_ret
        exact ⟨by rw [findI_at p xs k hlt hp (by rw [Hx.out]; exact hb)]; rfl, below_then hB hbl⟩
    · go_wp2
      go_ret
      exact ⟨by rw [findI_no p xs (fun j hj => hp.out j (by omega))]; rfl, hB⟩
end Go.Proofs.Ytpnkapdemgieaaa
set_option linter.unusedSimpArgs false
set_option linter.unusedVariables false
set_option linter.unusedSectionVars false
namespace Go.Proofs.Ytpnkapdemgieaaa
open Go Go.RowKit
open Go.ChangeShapes Go.WideShapes Go.ChangeAt Go.RowKit Go.Joins
theorem fge_turn {x y : Nat} (hx : fin .f32 x = true) (hy : fin .f32 y = true) (h : fge .f32 x y = false) : fge .f32 y x = true := by
  obtain ⟨s, m, i, ex⟩ := fin_decode hx
  obtain ⟨t, n, j, ey⟩ := fin_decode hy
  have ex' : FloatKind.f32.format.read x = .number s m i := ex
  have ey' : FloatKind.f32.format.read y = .number t n j := ey
  unfold fge Ieee.Format.order at h ⊢
  rw [ex', ey'] at h
  rw [ex', ey']
  simp only [Ieee.Datum.order] at h ⊢
  rw [Int.min_comm j i]
  generalize Ieee.signed s m (i - min i j).toNat = A at h ⊢
  generalize Ieee.signed t n (j - min i j).toNat = B at h ⊢
  simp only [compare, compareOfLessAndEq] at h ⊢
  by_cases h1 : A < B
  · rw [if_neg (show ¬ B < A by omega), if_neg (show ¬ B = A by omega)]; rfl
  · rw [if_neg h1] at h
    by_cases h2 : A = B
    · rw [if_pos h2] at h; cases h
    · rw [if_neg h2] at h; cases h
theorem fge_none {x y : Nat} (hx : fin .f32 x = true) (hy : fin .f32 y = true) (h : fle .f32 x y = false) : fge .f32 y x = false := by
  obtain ⟨s, m, i, ex⟩ := fin_decode hx
  obtain ⟨t, n, j, ey⟩ := fin_decode hy
  have ex' : FloatKind.f32.format.read x = .number s m i := ex
  have ey' : FloatKind.f32.format.read y = .number t n j := ey
  unfold fle Ieee.Format.order at h
  unfold fge Ieee.Format.order
  rw [ex', ey'] at h
  rw [ex', ey']
  simp only [Ieee.Datum.order] at h ⊢
  rw [Int.min_comm j i]
  generalize Ieee.signed s m (i - min i j).toNat = A at h ⊢
  generalize Ieee.signed t n (j - min i j).toNat = B at h ⊢
  simp only [compare, compareOfLessAndEq] at h ⊢
  by_cases h1 : A < B
  · rw [if_pos h1] at h; cases h
  · rw [if_neg h1] at h
    by_cases h2 : A = B
    · rw [if_pos h2] at h; cases h
    · rw [if_pos (show B < A by omega)]; rfl
theorem any_of_at {L : List Nat} (h : (L.any fun x => !fin .f32 x) = false) (i : Nat) (hi : i < L.length) : fin .f32 (L.getD i 0) = true := by
  rw [List.any_eq_false] at h
  have := h (L.getD i 0) (by rw [List.getD_eq_getElem?_getD, List.getElem?_eq_getElem hi]; exact List.getElem_mem hi)
  simpa using this
def firstK (p : Nat → Bool) (n : Nat) : Nat := (List.range n).findIdx p
theorem firstK_at {p : Nat → Bool} {n k : Nat} (hk : k < n) (h1 : p k = true) (h0 : ∀ j, j < k → p j = false) : firstK p n = k := by
  unfold firstK
  rw [List.findIdx_eq (by simpa using hk)]
  refine ⟨by simpa using h1, fun j hj => ?_⟩
  simpa using h0 j hj
theorem findI_first (p : Nat → Bool) (xs : List Nat) {n : Nat} (hn : n < xs.length) (h1 : p (xs.getD n 0) = true) (h0 : p (xs.getD 0 0) = false) : ∃ j : Nat, j + 1 < xs.length ∧ findI p xs = (j : Int) + 1 ∧ p (xs.getD (j + 1) 0) = true ∧ ∀ i, i < j + 1 → p (xs.getD i 0) = false := by
  unfold findI
  cases h : xs.findIdx? p with
  | none =>
    have := List.findIdx?_eq_none_iff.1 h
    have := this (xs.getD n 0) (by rw [List.getD_eq_getElem?_getD, List.getElem?_eq_getElem hn]; exact List.getElem_mem hn)
    rw [h1] at this; cases this
  | some i =>
    rw [List.findIdx?_eq_some_iff_getElem] at h
    obtain ⟨hi, hp, hq⟩ := h
    cases i with
    | zero =>
      rw [List.getD_eq_getElem?_getD, List.getElem?_eq_getElem hi] at h0
      simp only [Option.getD_some] at h0
      rw [h0] at hp; cases hp
    | succ j =>
      refine ⟨j, hi, by simp, ?_, fun i hij => ?_⟩
      · rw [List.getD_eq_getElem?_getD, List.getElem?_eq_getElem hi]; exact hp
      · have := hq i hij
        rw [List.getD_eq_getElem?_getD, List.getElem?_eq_getElem (by omega)]
        simpa using this
def midAt (a : List Nat) (i : Nat) : Nat := midB (befS a i) (cn .f32 (a.getD i 0))
theorem midL_len (a : List Nat) (n : Nat) : (midL a n).length = n := by simp [midL]
theorem midL_at {a : List Nat} {n i : Nat} (h : i < n) : (midL a n).getD i 0 = midAt a i := by
  rw [List.getD_eq_getElem?_getD, List.getElem?_eq_getElem (by rw [midL_len]; exact h)]
  simp [midL, midAt]
def wV (m d : Nat → Nat) (c k : Nat) : Nat := fop .add .f32 (d (k - 1)) (fop .mul .f32 (fop .quo .f32 (fop .sub .f32 c (m (k - 1))) (fop .sub .f32 (m k) (m (k - 1)))) (fop .sub .f32 (d k) (d (k - 1))))
def wK (P : Rd) (c : Nat) : Nat := firstK (fun k => fge .f32 (midAt P.a k) c) P.a.length
def wAt (P : Rd) (c : Nat) : Nat × Bool :=
  if P.ok && (fin .f32 c && midOk P.a) then
    if fle .f32 c (midAt P.a 0) then (cn .f32 (P.d.getD 0 0), true)
    else if fge .f32 c (midAt P.a (P.a.length - 1)) then (cn .f32 (P.d.getD (P.a.length - 1) 0), true)
    else (chk (wV (midAt P.a) (fun k => cn .f32 (P.d.getD k 0)) c (wK P c)), fin .f32 (wV (midAt P.a) (fun k => cn .f32 (P.d.getD k 0)) c (wK P c)))
  else (cn .f32 0, false)
theorem wAt_mid {P : Rd} {c j : Nat} (h : (P.ok && (fin .f32 c && midOk P.a)) = true) (h1 : fle .f32 c (midAt P.a 0) = false) (h2 : fge .f32 c (midAt P.a (P.a.length - 1)) = false) (hj : j + 1 < P.a.length) (h3 : fge .f32 (midAt P.a (j + 1)) c = true) (h4 : ∀ i, i < j + 1 → fge .f32 (midAt P.a i) c = false) {v : Nat}
    (hv : v = fop .add .f32 (cn .f32 (P.d.getD j 0)) (fop .mul .f32 (fop .quo .f32 (fop .sub .f32 c (midAt P.a j)) (fop .sub .f32 (midAt P.a (j + 1)) (midAt P.a j))) (fop .sub .f32 (cn .f32 (P.d.getD (j + 1) 0)) (cn .f32 (P.d.getD j 0))))) : wAt P c = (chk v, fin .f32 v) := by
  have hk : wK P c = j + 1 := firstK_at hj h3 h4
  unfold wAt; rw [h, h1, h2, hk, hv]; rfl
set_option maxHeartbeats 400000 in
theorem warmAt1_any (y x b o : Nat) (w : World) (hx : w.cell? ⟨b, o, none⟩ = some (.float .f32 x)) : Calls Try.prog 50 #[.float .f32 y, .pointer (some ⟨b, o, none⟩)] w (RB w (fge .f32 (cn .f32 y) (cn .f32 x))) := by
  go_enter Try.func50, Try.ntmps50
  go_wp2_with (first | (with_reducible refine at_list ?_; refine wpList_wide rfl rfl rfl Try.underlying28 Try.underlying39 ?_; intro r n hr0; have hr := hr0 _ (by first | with_reducible assumption | exact rfl); clear hr0))
  go_ret
  exact ⟨rfl, 0, rfl⟩
end Go.Proofs.Ytpnkapdemgieaaa
set_option linter.unusedSimpArgs false
set_option linter.unusedVariables false
set_option linter.unusedSectionVars false
namespace Go.Proofs.Ytpnkapdemgieaaa
open Go Go.RowKit
/-- A sum from left to right. -/
def accC (f : Nat → Nat) (xs : List Nat) : Nat := xs.foldl (fun a x => fop .add .f32 a (f (cn .f32 x))) (cn .f32 0)
theorem cn_accC (f : Nat → Nat) (xs : List Nat) : cn .f32 (accC f xs) = accC f xs := by
  rcases List.eq_nil_or_concat xs with rfl | ⟨l, x, rfl⟩
  · exact cn_cn .f32 0
  · unfold accC; simp only [List.concat_eq_append, List.foldl_append, List.foldl_cons, List.foldl_nil]; exact cn_fop _ _ _ _
end Go.Proofs.Ytpnkapdemgieaaa

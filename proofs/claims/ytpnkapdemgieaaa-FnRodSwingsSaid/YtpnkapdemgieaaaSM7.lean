/-
  Rows of equations, solved in single precision: how near the answers are, and what is left of each row (any ends). No condition but what each law says; nothing of the program is named here.
  Rows of equations: one more row. No condition but what each law says.
  Rods that are handed back, in plans. No condition but what each contract says.
  Calls that hand back a rod and stores of a rod, in plans with memory that turns. No condition but what each law says.
  A rod a tick later by rows of equations: the program's way. No condition but what each contract says.
  slices.IndexFunc and ContainsFunc at a closure with one captured variable, whose calls may make memory. No condition but what each contract says.
  How warm a rod is at a place (the program's and the reference's). No condition but what each contract says.
  Sums of lists of numbers (the program's and the reference's). No condition but what each contract says.
  The longest tick that is safe for a rod (the program's and the reference's), and the law: true for every input. No condition but what each contract says.
  What flows in a rod: the program's way. No condition but what each contract says.
  A rod a tick later by rows of equations: the reference's way. No condition but what each contract says.
  What flows in a rod: the reference's way. No condition but what each contract says.
  A rod a tick later: the program's way. No condition but what each contract says.
  Sums over rods (heat, mass, how much they hinder heat), the mean warmth, what passes at an end: the program's and the reference's. No condition but what each contract says.
  More steps of plans with operations that turn memory: a slice of one number, an append to an own slice, a store behind which what it waited for is told anew. No condition but what each law says.
  A run of a rod as a plain function: tick by tick, with the heats. No condition but what each law says.
  Drawn rods: how much passes between their cells, between bounds; a tick by rows. No condition but what each law says; nothing of the program is named here.
  Drawn rods: a tick of a quarter by rows; how near the warmths are, how much heat may be lost. No condition but what each law says; nothing of the program is named here.
  Drawn rods: runs of ticks by rows; the heat of a rod. No condition but what each law says; nothing of the program is named here.
  Drawn rods: their heat, exactly; how great a rod is; the law's comparisons of heats. No condition but what each law says; nothing of the program is named here.
  Drawn rods: a short tick keeps their heat. No condition but what each law says; nothing of the program is named here.
-/
import Derived.Test.YtpnkapdemgieaaaSM4
import Derived.Test.YtpnkapdemgieaaaSM3
import Derived.Deep.CutRange
import Derived.Test.YtpnkapdemgieaaaSM2
import Derived.Test.YtpnkapdemgieaaaSM6
set_option linter.unusedSimpArgs false
set_option linter.unusedVariables false
set_option linter.unusedSectionVars false
namespace Go.Proofs.Ytpnkapdemgieaaa
open Go Go.RowKit
/-- Rows, near exact ones. -/
structure RowsE (n : Nat) (b a x s : Nat → Nat) (p W so Z : Nat → Rat) (M D Zm : Rat) : Prop where
  hn : 1 ≤ n ∧ n ≤ 6
  hM : 1 / 1024 ≤ M ∧ M ≤ 1000
  hD : 0 ≤ D ∧ 0 ≤ Zm ∧ Zm + D ≤ M ∧ Zm ≤ 1 * M
  hp : ∀ i, i ≤ n → 0 ≤ p i ∧ p i ≤ 16
  hW : ∀ i, i < n → 1 / 4 ≤ W i ∧ W i ≤ 16
  hb : ∀ i, i < n → V .f32 (b i) (-(p i))
  hx : ∀ i, i < n → V .f32 (x i) (-(p (i + 1)))
  ha : ∀ i, i < n → fnt .f32 (a i) = true ∧ fv .f32 (a i) - (W i + p i + p (i + 1)) ≤ 81 * uu ∧ (W i + p i + p (i + 1)) - fv .f32 (a i) ≤ 81 * uu
  hs : ∀ i, i < n → fnt .f32 (s i) = true ∧ fv .f32 (s i) - so i ≤ 140 * (M * uu) ∧ so i - fv .f32 (s i) ≤ 140 * (M * uu)
  hsb : ∀ i, i < n → so i ≤ (481 / 10) * M ∧ -so i ≤ (481 / 10) * M
  hZ : ∀ i, Z i ≤ Zm ∧ -Z i ≤ Zm
  hof : so 0 - ((W 0 + p 0 + (qiR p n 0 + qlR p n 0)) * Z 0 - qiR p n 0 * Z 1) ≤ (W 0 + p 0 + qlR p n 0) * D ∧ ((W 0 + p 0 + (qiR p n 0 + qlR p n 0)) * Z 0 - qiR p n 0 * Z 1) - so 0 ≤ (W 0 + p 0 + qlR p n 0) * D
  hoi : ∀ i, i + 1 < n → so (i + 1) - ((W (i + 1) + p (i + 1) + (qiR p n (i + 1) + qlR p n (i + 1))) * Z (i + 1) - p (i + 1) * Z i - qiR p n (i + 1) * Z (i + 2)) ≤ (W (i + 1) + qlR p n (i + 1)) * D ∧ ((W (i + 1) + p (i + 1) + (qiR p n (i + 1) + qlR p n (i + 1))) * Z (i + 1) - p (i + 1) * Z i - qiR p n (i + 1) * Z (i + 2)) - so (i + 1) ≤ (W (i + 1) + qlR p n (i + 1)) * D
section
variable {n : Nat} {b a x s : Nat → Nat} {p W so Z : Nat → Rat} {M D Zm : Rat}
theorem RowsE.mu (h : RowsE n b a x s p W so Z M D Zm) : 0 < uu ∧ 16700000 * uu = 1 ∧ 16700000 * (M * uu) = M ∧ 0 < M * uu := by
  have u1 : 16700000 * uu = 1 := by unfold uu; decide +kernel
  have u0 : 0 < uu := by unfold uu; decide +kernel
  have hM := h.hM
  exact ⟨u0, u1, by grind, Rat.mul_pos (by grind) u0⟩
/-- The pivot. -/
structure PivE (p : Nat → Rat) (b a x : Nat → Nat) (i : Nat) : Prop where
  f : fnt .f32 (elA b a x i) = true
  lo : p (i + 1) + 1 / 5 ≤ fv .f32 (elA b a x i)
  hi : fv .f32 (elA b a x i) ≤ 48 + 1 / 10
/-- From pivot to pivot. -/
structure LnkE (p W : Nat → Rat) (b a x : Nat → Nat) (i : Nat) : Prop where
  f : fnt .f32 (elF b a x i) = true
  lo : -1 ≤ fv .f32 (elF b a x i)
  hi : fv .f32 (elF b a x i) ≤ 0
  g1 : fv .f32 (elF b a x i) * fv .f32 (elA b a x i) + p (i + 1) ≤ 17 * uu
  g2 : -(fv .f32 (elF b a x i) * fv .f32 (elA b a x i) + p (i + 1)) ≤ 17 * uu
  m1 : fv .f32 (elA b a x (i + 1)) - (W (i + 1) + p (i + 1) + p (i + 2) + fv .f32 (elF b a x i) * p (i + 1)) ≤ 146 * uu
  m2 : (W (i + 1) + p (i + 1) + p (i + 2) + fv .f32 (elF b a x i) * p (i + 1)) - fv .f32 (elA b a x (i + 1)) ≤ 146 * uu
theorem RowsE.first (h : RowsE n b a x s p W so Z M D Zm) : PivE p b a x 0 := by
  obtain ⟨u0, u1, _, _⟩ := h.mu
  have hn := h.hn
  obtain ⟨a0, a1, a2⟩ := h.ha 0 (by omega)
  obtain ⟨p0, p1⟩ := h.hp 0 (by omega)
  obtain ⟨q0, q1⟩ := h.hp 1 (by omega)
  obtain ⟨w0, w1⟩ := h.hW 0 (by omega)
  exact ⟨a0, by show p 1 + 1 / 5 ≤ fv .f32 (a 0); grind, by show fv .f32 (a 0) ≤ _; grind⟩
theorem RowsE.next (h : RowsE n b a x s p W so Z M D Zm) {i : Nat} (hi : i + 1 < n) (hp : PivE p b a x i) : LnkE p W b a x i ∧ PivE p b a x (i + 1) := by
  obtain ⟨u0, u1, _, _⟩ := h.mu
  obtain ⟨a0, a1, a2⟩ := h.ha (i + 1) hi
  obtain ⟨p0, p1⟩ := h.hp (i + 1) (by omega)
  obtain ⟨q0, q1⟩ := h.hp (i + 2) (by omega)
  obtain ⟨w0, w1⟩ := h.hW (i + 1) hi
  have hb := h.hb (i + 1) hi
  have hx := h.hx i (by omega)
  obtain ⟨m0, ml, mh⟩ := hp
  have mp : 0 < fv .f32 (elA b a x i) := by grind
  have dv : -(p (i + 1)) / fv .f32 (elA b a x i) * fv .f32 (elA b a x i) = -(p (i + 1)) := Rat.div_mul_cancel (by grind)
  have r0 : Rep .f32 (0 : Rat) := Rep.int (k := .f32) 0 (by decide)
  have r1 : Rep .f32 (1 : Rat) := Rep.int (k := .f32) 1 (by decide)
  have v1 : -1 ≤ -(p (i + 1)) / fv .f32 (elA b a x i) := mul_cancel_le mp (by rw [dv]; grind)
  have v2 : -(p (i + 1)) / fv .f32 (elA b a x i) ≤ 0 := mul_cancel_le mp (by rw [dv]; grind)
  obtain ⟨f0, f1, f2⟩ := fop_btw .quo rfl .f32 (a := -1) (b := 0) hb.1 m0 (fun _ => by grind) r1.neg r0 (by simp only [ex]; rw [hb.2]; exact v1) (by simp only [ex]; rw [hb.2]; exact v2)
  obtain ⟨_, e1, e2⟩ := fop_u .quo rfl hb.1 m0 (fun _ => by grind) (M := -(-(p (i + 1)) / fv .f32 (elA b a x i)) + 1 / 1000000) (by grind) (by grind) (by simp only [ex]; rw [hb.2]; grind) (by simp only [ex]; rw [hb.2]; grind)
  simp only [ex] at e1 e2
  rw [hb.2] at e1 e2
  have f0 : fnt .f32 (elF b a x i) = true := f0
  have f1 : -1 ≤ fv .f32 (elF b a x i) := f1
  have f2 : fv .f32 (elF b a x i) ≤ 0 := f2
  have e1 : fv .f32 (elF b a x i) - -(p (i + 1)) / fv .f32 (elA b a x i) ≤ (-(-(p (i + 1)) / fv .f32 (elA b a x i)) + 1 / 1000000) * uu := e1
  have e2 : -(p (i + 1)) / fv .f32 (elA b a x i) - fv .f32 (elF b a x i) ≤ (-(-(p (i + 1)) / fv .f32 (elA b a x i)) + 1 / 1000000) * uu := e2
  have g1' := Rat.mul_le_mul_of_nonneg_right e1 (Rat.le_of_lt mp)
  have g2' := Rat.mul_le_mul_of_nonneg_right e2 (Rat.le_of_lt mp)
  have eA : elA b a x (i + 1) = fop .sub .f32 (a (i + 1)) (fop .mul .f32 (elF b a x i) (x i)) := rfl
  rw [show i + 1 + 1 = i + 2 by omega] at a1 a2
  obtain ⟨mw, hmw⟩ : ∃ y, elA b a x i = y := ⟨_, rfl⟩
  obtain ⟨fw, hfw⟩ : ∃ y, elF b a x i = y := ⟨_, rfl⟩
  rw [hmw] at m0 ml mh mp dv v1 v2 e1 e2 g1' g2'
  rw [hfw] at f0 f1 f2 e1 e2 g1' g2' eA
  generalize -(p (i + 1)) / fv .f32 mw = q at *
  have mu1 := Rat.mul_le_mul_of_nonneg_right mh (Rat.le_of_lt u0)
  have pu1 := Rat.mul_le_mul_of_nonneg_right p1 (Rat.le_of_lt u0)
  have dvu : q * fv .f32 mw * uu = -(p (i + 1)) * uu := by rw [dv]
  clear e1 e2
  have g1 : fv .f32 fw * fv .f32 mw + p (i + 1) ≤ 17 * uu := by grind
  have g2 : -(fv .f32 fw * fv .f32 mw + p (i + 1)) ≤ 17 * uu := by grind
  -- the product
  obtain ⟨n0, n1⟩ := fneg_val hx.1
  have fp1 := Rat.mul_nonneg (show 0 ≤ -fv .f32 fw by grind) p0
  have fp2 := Rat.mul_le_mul_of_nonneg_right (show -fv .f32 fw ≤ 1 by grind) p0
  have hv : ex .mul (fv .f32 fw) (fv .f32 (x i)) = -fv .f32 fw * p (i + 1) := by simp only [ex]; rw [hx.2]; grind
  have t40 : tp 40 = 1099511627776 := (tp_nat 40).trans rfl
  obtain ⟨c0, c1⟩ := fop_rnd .mul rfl .f32 f0 hx.1 (by simp) 40 (by decide) (by rw [hv, t40]; grind) (by rw [hv, t40]; grind)
  rw [hv] at c1
  have c2 := rnd_u (M := 16) c1 (by grind) (by grind) (by grind)
  have c3 := c1.rep_ge r0 fp1
  have c4 := rnd_le_wd n0 c1 (by rw [n1, hx.2]; grind)
  rw [n1, hx.2] at c4
  generalize fop .mul .f32 fw (x i) = qw at *
  obtain ⟨d0, d1, d2⟩ := fop_u .sub rfl a0 c0 (by simp) (M := 48 + 1) (by grind) (by grind) (by simp only [ex]; grind) (by simp only [ex]; grind)
  simp only [ex] at d1 d2
  obtain ⟨m', hm'⟩ : ∃ y, fop .sub .f32 (a (i + 1)) qw = y := ⟨_, rfl⟩
  rw [hm'] at eA d0 d1 d2
  refine ⟨⟨?_, ?_, ?_, ?_, ?_, ?_, ?_⟩, ?_, ?_, ?_⟩
  · rw [hfw]; exact f0
  · rw [hfw]; exact f1
  · rw [hfw]; exact f2
  · rw [hfw, hmw]; exact g1
  · rw [hfw, hmw]; exact g2
  · rw [hfw, eA]; grind
  · rw [hfw, eA]; grind
  · rw [eA]; exact d0
  · rw [eA, show i + 1 + 1 = i + 2 by omega]; grind
  · rw [eA]; grind
theorem RowsE.piv (h : RowsE n b a x s p W so Z M D Zm) : ∀ i, i < n → PivE p b a x i
  | 0, _ => h.first
  | i + 1, hi => (h.next hi (h.piv i (by omega))).2
theorem RowsE.lnk (h : RowsE n b a x s p W so Z M D Zm) {i : Nat} (hi : i + 1 < n) : LnkE p W b a x i := (h.next hi (h.piv i (by omega))).1
/-- How far the right sides may be off by then. -/
def epE (M : Rat) (i : Nat) : Rat := ((i + 1 : Nat) : Rat) * ((2077 / 5) * (M * uu))
theorem epE_succ (M : Rat) (i : Nat) : epE M (i + 1) = epE M i + (2077 / 5) * (M * uu) := by
  unfold epE
  rw [Rat.natCast_add (i + 1) 1]
  have e : ((1 : Nat) : Rat) = 1 := rfl
  rw [e]; grind
theorem epE_le {M : Rat} {i : Nat} (h : 0 < M * uu) (hi : i < 6) : 0 ≤ epE M i ∧ epE M i ≤ 6 * ((2077 / 5) * (M * uu)) := by
  unfold epE
  have k0 : (0 : Rat) ≤ ((i + 1 : Nat) : Rat) := by exact_mod_cast Nat.zero_le _
  have k1 : ((i + 1 : Nat) : Rat) ≤ ((6 : Nat) : Rat) := by exact_mod_cast (by omega : i + 1 ≤ 6)
  have e : ((6 : Nat) : Rat) = 6 := rfl
  rw [e] at k1
  have w : 0 ≤ (2077 / 5) * (M * uu) := by grind
  exact ⟨Rat.mul_nonneg k0 w, Rat.mul_le_mul_of_nonneg_right k1 w⟩
/-- The right side. -/
structure SdE (n : Nat) (b a x s : Nat → Nat) (p Z : Nat → Rat) (M D : Rat) (i : Nat) : Prop where
  f : fnt .f32 (elS b a x s i) = true
  v1 : fv .f32 (elS b a x s i) - (fv .f32 (elA b a x i) * Z i - qiR p n i * Z (i + 1)) ≤ (fv .f32 (elA b a x i) - qiR p n i) * D + epE M i
  v2 : (fv .f32 (elA b a x i) * Z i - qiR p n i * Z (i + 1)) - fv .f32 (elS b a x s i) ≤ (fv .f32 (elA b a x i) - qiR p n i) * D + epE M i
/-- From right side to right side. -/
def SLE (b a x s : Nat → Nat) (M : Rat) (i : Nat) : Prop := fv .f32 (elS b a x s (i + 1)) - (fv .f32 (s (i + 1)) - fv .f32 (elF b a x i) * fv .f32 (elS b a x s i)) ≤ (562 / 5) * (M * uu) ∧ (fv .f32 (s (i + 1)) - fv .f32 (elF b a x i) * fv .f32 (elS b a x s i)) - fv .f32 (elS b a x s (i + 1)) ≤ (562 / 5) * (M * uu)
theorem RowsE.sfirst (h : RowsE n b a x s p W so Z M D Zm) : SdE n b a x s p Z M D 0 := by
  obtain ⟨u0, u1, u2, u3⟩ := h.mu
  obtain ⟨D0, Z0, ZD, _⟩ := h.hD
  have hn := h.hn
  obtain ⟨a0, a1, a2⟩ := h.ha 0 (by omega)
  obtain ⟨s0, s1, s2⟩ := h.hs 0 (by omega)
  obtain ⟨o1, o2⟩ := h.hof
  obtain ⟨z1, z2⟩ := h.hZ 0
  have q := qR_sum p n 0
  have k := Rat.mul_le_mul_of_nonneg_right ZD (Rat.le_of_lt u0)
  have E : epE M 0 = (2077 / 5) * (M * uu) := by
    unfold epE
    have e : ((0 + 1 : Nat) : Rat) = 1 := rfl
    rw [e]; grind
  have r := el_first (W := W 0) (p := p 0) (qi := qiR p n 0) (ql := qlR p n 0) (m := fv .f32 (a 0)) (S := fv .f32 (s 0)) (so := so 0) (Z2 := Z 0) (Z3 := Z 1) (D := D) (c := 81 * uu) (k := 140 * (M * uu)) (Zm := Zm) D0 (by rw [q]; exact a1) (by rw [q]; exact a2) s1 s2 o1 o2 z1 z2 (by grind)
  exact ⟨s0, by show fv .f32 (s 0) - (fv .f32 (a 0) * Z 0 - _) ≤ (fv .f32 (a 0) - _) * D + _; rw [E]; have := r.1; grind, by show (fv .f32 (a 0) * Z 0 - _) - fv .f32 (s 0) ≤ (fv .f32 (a 0) - _) * D + _; rw [E]; have := r.2; grind⟩
theorem RowsE.snext (h : RowsE n b a x s p W so Z M D Zm) {i : Nat} (hi : i + 1 < n) (hS : SdE n b a x s p Z M D i) : SLE b a x s M i ∧ SdE n b a x s p Z M D (i + 1) := by
  obtain ⟨u0, u1, u2, u3⟩ := h.mu
  obtain ⟨D0, Z0, ZD, Zz⟩ := h.hD
  obtain ⟨M1, M2⟩ := h.hM
  have hn := h.hn
  obtain ⟨s0, s1, s2⟩ := h.hs (i + 1) hi
  obtain ⟨b1, b2⟩ := h.hsb (i + 1) hi
  obtain ⟨o1, o2⟩ := h.hoi i hi
  obtain ⟨z1, z1'⟩ := h.hZ i
  obtain ⟨z2, z2'⟩ := h.hZ (i + 1)
  obtain ⟨p0, p1⟩ := h.hp (i + 1) (by omega)
  obtain ⟨r0, _⟩ := h.hp (i + 2) (by omega)
  have P := h.piv i (by omega)
  have L := h.lnk hi
  obtain ⟨S0, v1, v2⟩ := hS
  rw [qiR_in hi] at v1 v2
  obtain ⟨e0, e6⟩ := epE_le (i := i) u3 (by omega)
  have q := qR_sum p n (i + 1)
  have qn := (qiR_le (n := n) (i := i + 1) r0).1
  have es := epE_succ M i
  have mp : 0 ≤ fv .f32 (elA b a x i) := by have := P.lo; grind
  obtain ⟨f1, f2⟩ := fs_bd L.lo L.hi p0 mp L.g2 v1 v2 z1 z1' z2 z2' e0 D0 Z0
  have hG : p (i + 1) + 17 * uu ≤ 16 + 17 * uu := by grind
  have k1 := Rat.mul_le_mul_of_nonneg_right hG (show 0 ≤ Zm + D by grind)
  have k2 := Rat.mul_le_mul_of_nonneg_left ZD (show 0 ≤ 16 + 17 * uu by grind)
  have k3 := Rat.mul_le_mul_of_nonneg_right p1 Z0
  have k4 := Rat.mul_le_mul_of_nonneg_right ZD (Rat.le_of_lt u0)
  have eS : elS b a x s (i + 1) = fop .sub .f32 (s (i + 1)) (fop .mul .f32 (elF b a x i) (elS b a x s i)) := rfl
  have F1 : fv .f32 (elF b a x i) * fv .f32 (elS b a x s i) ≤ (321 / 10) * M := by grind
  have F2 : -(fv .f32 (elF b a x i) * fv .f32 (elS b a x s i)) ≤ (321 / 10) * M := by grind
  obtain ⟨c0, c1, c2⟩ := fop_u .mul rfl L.f S0 (by simp) (M := (321 / 10) * M) (by grind) (by grind) (by simp only [ex]; exact F1) (by simp only [ex]; exact F2)
  simp only [ex] at c1 c2
  obtain ⟨pw, hpw⟩ : ∃ y, fop .mul .f32 (elF b a x i) (elS b a x s i) = y := ⟨_, rfl⟩
  rw [hpw] at c0 c1 c2 eS
  obtain ⟨d0, d1, d2⟩ := fop_u .sub rfl s0 c0 (by simp) (M := ((481 / 10) + (321 / 10) + 1 / 10) * M) (by grind) (by grind) (by simp only [ex]; grind) (by simp only [ex]; grind)
  simp only [ex] at d1 d2
  rw [← eS] at d0 d1 d2
  have D1 : fv .f32 (elS b a x s (i + 1)) - (fv .f32 (s (i + 1)) - fv .f32 (elF b a x i) * fv .f32 (elS b a x s i)) ≤ (562 / 5) * (M * uu) := by grind
  have D2 : (fv .f32 (s (i + 1)) - fv .f32 (elF b a x i) * fv .f32 (elS b a x s i)) - fv .f32 (elS b a x s (i + 1)) ≤ (562 / 5) * (M * uu) := by grind
  have r := el_step (W := W (i + 1)) (p := p (i + 1)) (qi := qiR p n (i + 1)) (ql := qlR p n (i + 1)) (m' := fv .f32 (elA b a x (i + 1))) (Z3 := Z (i + 2)) (c := 146 * uu) L.lo L.hi p0 qn e0 D0 L.g1 L.g2 (by rw [q]; exact L.m1) (by rw [q]; exact L.m2) v1 v2 s1 s2 D1 D2 o1 o2 z1 z1' z2 z2' (by grind) (by grind)
  refine ⟨⟨D1, D2⟩, d0, ?_, ?_⟩
  · rw [es]; have := r.1; grind
  · rw [es]; have := r.2; grind
theorem RowsE.sd (h : RowsE n b a x s p W so Z M D Zm) : ∀ i, i < n → SdE n b a x s p Z M D i
  | 0, _ => h.sfirst
  | i + 1, hi => (h.snext hi (h.sd i (by omega))).2
/-- The answer. -/
structure YdE (n : Nat) (b a x s : Nat → Nat) (p Z : Nat → Rat) (M D : Rat) (i : Nat) : Prop where
  f : fnt .f32 (solO b a x s n i) = true
  y1 : fv .f32 (solO b a x s n i) - Z i ≤ D + (1305821 / 100) * (M * uu)
  y2 : Z i - fv .f32 (solO b a x s n i) ≤ D + (1305821 / 100) * (M * uu)
  e1 : fv .f32 (elA b a x i) * fv .f32 (solO b a x s n i) - (fv .f32 (elS b a x s i) + qiR p n i * fv .f32 (solO b a x s n (i + 1))) ≤ (58621 / 500) * (M * uu)
  e2 : (fv .f32 (elS b a x s i) + qiR p n i * fv .f32 (solO b a x s n (i + 1))) - fv .f32 (elA b a x i) * fv .f32 (solO b a x s n i) ≤ (58621 / 500) * (M * uu)
theorem RowsE.ylast (h : RowsE n b a x s p W so Z M D Zm) {i : Nat} (hi : i + 1 = n) : YdE n b a x s p Z M D i := by
  obtain ⟨u0, u1, u2, u3⟩ := h.mu
  obtain ⟨D0, Z0, ZD, Zz⟩ := h.hD
  obtain ⟨M1, M2⟩ := h.hM
  have hn := h.hn
  obtain ⟨z1, z1'⟩ := h.hZ i
  obtain ⟨r0, _⟩ := h.hp (i + 1) (by omega)
  obtain ⟨m0, ml, mh⟩ := h.piv i (by omega)
  obtain ⟨S0, v1, v2⟩ := h.sd i (by omega)
  obtain ⟨e0, e6⟩ := epE_le (i := i) u3 (by omega)
  have qz : qiR p n i = 0 := qiR_last (by omega)
  rw [qz] at v1 v2
  have eY := solO_last b a x s n hi
  have mp : 0 < fv .f32 (elA b a x i) := by grind
  have dv : fv .f32 (elS b a x s i) / fv .f32 (elA b a x i) * fv .f32 (elA b a x i) = fv .f32 (elS b a x s i) := Rat.div_mul_cancel (by grind)
  have k1 := Rat.mul_le_mul_of_nonneg_left z1 (Rat.le_of_lt mp)
  have k2 := Rat.mul_le_mul_of_nonneg_left z1' (Rat.le_of_lt mp)
  have k3 := Rat.mul_le_mul_of_nonneg_left ZD (Rat.le_of_lt mp)
  have k4 := Rat.mul_le_mul_of_nonneg_left ml (show 0 ≤ M by grind)
  have k5 := Rat.mul_nonneg (show 0 ≤ M by grind) r0
  have q1 : fv .f32 (elS b a x s i) / fv .f32 (elA b a x i) ≤ 102 / 100 * M := mul_cancel_le mp (by rw [dv]; grind)
  have dn : -(fv .f32 (elS b a x s i) / fv .f32 (elA b a x i)) * fv .f32 (elA b a x i) = -fv .f32 (elS b a x s i) := by grind
  have q2 : -(fv .f32 (elS b a x s i) / fv .f32 (elA b a x i)) ≤ 102 / 100 * M := mul_cancel_le mp (by rw [dn]; grind)
  obtain ⟨y0, y1, y2⟩ := fop_u .quo rfl S0 m0 (fun _ => by grind) (M := 102 / 100 * M) (by grind) (by grind) (by simp only [ex]; exact q1) (by simp only [ex]; exact q2)
  simp only [ex] at y1 y2
  rw [← eY] at y0 y1 y2
  generalize fv .f32 (elS b a x s i) / fv .f32 (elA b a x i) = q at *
  have w1 := Rat.mul_le_mul_of_nonneg_right y1 (Rat.le_of_lt mp)
  have w2 := Rat.mul_le_mul_of_nonneg_right y2 (Rat.le_of_lt mp)
  have w3 := Rat.mul_le_mul_of_nonneg_left mh (Rat.le_of_lt u3)
  have E1 : fv .f32 (elA b a x i) * fv .f32 (solO b a x s n i) - (fv .f32 (elS b a x s i) + 0 * fv .f32 (solO b a x s n (i + 1))) ≤ (58621 / 500) * (M * uu) := by grind
  have E2 : (fv .f32 (elS b a x s i) + 0 * fv .f32 (solO b a x s n (i + 1))) - fv .f32 (elA b a x i) * fv .f32 (solO b a x s n i) ≤ (58621 / 500) * (M * uu) := by grind
  have B := bk_step (qi := 0) (y2 := 0) (Z2 := 0) (δ := (1305821 / 100) * (M * uu)) (e := (58621 / 500) * (M * uu)) (w := 1 / 5) Rat.le_refl (by grind) (by grind) (by grind) (show fv .f32 (elS b a x s i) - (fv .f32 (elA b a x i) * Z i - 0 * 0) ≤ (fv .f32 (elA b a x i) - 0) * D + epE M i by grind) (by grind) (by grind) (by grind) (show fv .f32 (elA b a x i) * fv .f32 (solO b a x s n i) - (fv .f32 (elS b a x s i) + 0 * 0) ≤ (58621 / 500) * (M * uu) by grind) (by grind) (by grind)
  exact ⟨y0, B.1, B.2, by rw [qz]; exact E1, by rw [qz]; exact E2⟩
theorem RowsE.ynext (h : RowsE n b a x s p W so Z M D Zm) {i : Nat} (hi : i + 1 < n) (hY : YdE n b a x s p Z M D (i + 1)) : YdE n b a x s p Z M D i := by
  obtain ⟨u0, u1, u2, u3⟩ := h.mu
  obtain ⟨D0, Z0, ZD, Zz⟩ := h.hD
  obtain ⟨M1, M2⟩ := h.hM
  have hn := h.hn
  obtain ⟨z1, z1'⟩ := h.hZ i
  obtain ⟨z2, z2'⟩ := h.hZ (i + 1)
  obtain ⟨r0, r1⟩ := h.hp (i + 1) (by omega)
  have hx := h.hx i (by omega)
  obtain ⟨m0, ml, mh⟩ := h.piv i (by omega)
  obtain ⟨S0, v1, v2⟩ := h.sd i (by omega)
  obtain ⟨e0, e6⟩ := epE_le (i := i) u3 (by omega)
  have qz : qiR p n i = p (i + 1) := qiR_in hi
  rw [qz] at v1 v2
  obtain ⟨y0, y1, y2, _, _⟩ := hY
  have eY := solO_next b a x s n hi
  have mp : 0 < fv .f32 (elA b a x i) := by grind
  obtain ⟨yw, hyw⟩ : ∃ y, solO b a x s n (i + 1) = y := ⟨_, rfl⟩
  rw [hyw] at y0 y1 y2 eY
  -- the product
  have yb1 : fv .f32 yw ≤ 1002 / 1000 * M := by grind
  have yb2 : -fv .f32 yw ≤ 1002 / 1000 * M := by grind
  have pb := mul_bd (a := 16) (b := 1002 / 1000 * M) (x := p (i + 1)) (y := fv .f32 yw) (by grind) r1 (by grind) yb1
  obtain ⟨c0, c1, c2⟩ := fop_u .mul rfl hx.1 y0 (by simp) (M := 16 * (1002 / 1000 * M)) (by grind) (by grind) (by simp only [ex]; rw [hx.2]; grind) (by simp only [ex]; rw [hx.2]; grind)
  simp only [ex] at c1 c2
  rw [hx.2] at c1 c2
  generalize fop .mul .f32 (x i) yw = pw at *
  -- the sum
  have k1 := Rat.mul_le_mul_of_nonneg_left z1 (Rat.le_of_lt mp)
  have k2 := Rat.mul_le_mul_of_nonneg_left z1' (Rat.le_of_lt mp)
  have k3 := Rat.mul_le_mul_of_nonneg_left ZD (Rat.le_of_lt mp)
  have k6 := Rat.mul_le_mul_of_nonneg_right mh (show 0 ≤ M by grind)
  have k7 := Rat.mul_le_mul_of_nonneg_left y1 r0
  have k8 := Rat.mul_le_mul_of_nonneg_left y2 r0
  have k9 := Rat.mul_le_mul_of_nonneg_right r1 (show 0 ≤ (1305821 / 100) * (M * uu) by grind)
  have t1 : fv .f32 (elS b a x s i) + p (i + 1) * fv .f32 yw ≤ fv .f32 (elA b a x i) * M + 15 / 1000 * M := by grind
  have t2 : -(fv .f32 (elS b a x s i) + p (i + 1) * fv .f32 yw) ≤ fv .f32 (elA b a x i) * M + 15 / 1000 * M := by grind
  obtain ⟨d0, d1, d2⟩ := fop_u .sub rfl S0 c0 (by simp) (M := (48 + 2 / 10) * M) (by grind) (by grind) (by simp only [ex]; grind) (by simp only [ex]; grind)
  simp only [ex] at d1 d2
  generalize fop .sub .f32 (elS b a x s i) pw = tw at *
  -- the quotient
  have dv : fv .f32 tw / fv .f32 (elA b a x i) * fv .f32 (elA b a x i) = fv .f32 tw := Rat.div_mul_cancel (by grind)
  have k4 := Rat.mul_le_mul_of_nonneg_left ml (show 0 ≤ M by grind)
  have k5 := Rat.mul_nonneg (show 0 ≤ M by grind) r0
  have dn : -(fv .f32 tw / fv .f32 (elA b a x i)) * fv .f32 (elA b a x i) = -fv .f32 tw := by grind
  have q1 : fv .f32 tw / fv .f32 (elA b a x i) ≤ 11 / 10 * M := mul_cancel_le mp (by rw [dv]; grind)
  have q2 : -(fv .f32 tw / fv .f32 (elA b a x i)) ≤ 11 / 10 * M := mul_cancel_le mp (by rw [dn]; grind)
  obtain ⟨x0, x1, x2⟩ := fop_u .quo rfl d0 m0 (fun _ => by grind) (M := 11 / 10 * M) (by grind) (by grind) (by simp only [ex]; exact q1) (by simp only [ex]; exact q2)
  simp only [ex] at x1 x2
  rw [← eY] at x0 x1 x2
  generalize fv .f32 tw / fv .f32 (elA b a x i) = q at *
  have w1 := Rat.mul_le_mul_of_nonneg_right x1 (Rat.le_of_lt mp)
  have w2 := Rat.mul_le_mul_of_nonneg_right x2 (Rat.le_of_lt mp)
  have w3 := Rat.mul_le_mul_of_nonneg_left mh (Rat.le_of_lt u3)
  have E1 : fv .f32 (elA b a x i) * fv .f32 (solO b a x s n i) - (fv .f32 (elS b a x s i) + p (i + 1) * fv .f32 yw) ≤ (58621 / 500) * (M * uu) := by grind
  have E2 : (fv .f32 (elS b a x s i) + p (i + 1) * fv .f32 yw) - fv .f32 (elA b a x i) * fv .f32 (solO b a x s n i) ≤ (58621 / 500) * (M * uu) := by grind
  have B := bk_step (qi := p (i + 1)) (y2 := fv .f32 yw) (Z2 := Z (i + 1)) (δ := (1305821 / 100) * (M * uu)) (e := (58621 / 500) * (M * uu)) (w := 1 / 5) r0 (by grind) ml (by grind) v1 v2 y1 y2 E1 E2 (by grind)
  exact ⟨x0, B.1, B.2, by rw [qz, hyw]; exact E1, by rw [qz, hyw]; exact E2⟩
theorem RowsE.yd (h : RowsE n b a x s p W so Z M D Zm) : ∀ j i, i + 1 + j = n → YdE n b a x s p Z M D i
  | 0, i, hi => h.ylast (by omega)
  | j + 1, i, hi => h.ynext (by omega) (h.yd j (i + 1) (by omega))
theorem RowsE.y (h : RowsE n b a x s p W so Z M D Zm) {i : Nat} (hi : i < n) : YdE n b a x s p Z M D i := h.yd (n - (i + 1)) i (by omega)
/-- What is left of a row. -/
theorem RowsE.res (h : RowsE n b a x s p W so Z M D Zm) {i : Nat} (hi : i < n) :
    (W i + p i + p (i + 1)) * fv .f32 (solO b a x s n i) - (if i = 0 then 0 else p i * fv .f32 (solO b a x s n (i - 1))) - qiR p n i * fv .f32 (solO b a x s n (i + 1)) - so i ≤ (325757 / 500) * (M * uu) ∧
    so i - ((W i + p i + p (i + 1)) * fv .f32 (solO b a x s n i) - (if i = 0 then 0 else p i * fv .f32 (solO b a x s n (i - 1))) - qiR p n i * fv .f32 (solO b a x s n (i + 1))) ≤ (325757 / 500) * (M * uu) := by
  obtain ⟨u0, u1, u2, u3⟩ := h.mu
  obtain ⟨D0, Z0, ZD, Zz⟩ := h.hD
  obtain ⟨M1, M2⟩ := h.hM
  have Y := h.y hi
  obtain ⟨z1, z1'⟩ := h.hZ i
  obtain ⟨s0, s1, s2⟩ := h.hs i hi
  have yb1 : fv .f32 (solO b a x s n i) ≤ 101 / 100 * M := by have := Y.y1; grind
  have yb2 : -fv .f32 (solO b a x s n i) ≤ 101 / 100 * M := by have := Y.y2; grind
  cases i with
  | zero =>
    obtain ⟨a0, a1, a2⟩ := h.ha 0 hi
    rw [if_pos rfl]
    have r := res_first (W := W 0) (p := p 0) (q := p 1) (qi := qiR p n 0) (m := fv .f32 (elA b a x 0)) (S := fv .f32 (elS b a x s 0)) (so := so 0) (c := 81 * uu) (k := 140 * (M * uu)) (e := (58621 / 500) * (M * uu)) (Y := 101 / 100 * M) a1 a2 s1 s2 Y.e1 Y.e2 yb1 yb2
    rw [show 0 + 1 = 1 from rfl] at *
    constructor
    · have := r.1; grind
    · have := r.2; grind
  | succ i =>
    rw [if_neg (by omega), show i + 1 - 1 = i by omega]
    have Y0 := h.y (i := i) (by omega)
    obtain ⟨z0, z0'⟩ := h.hZ i
    have L := h.lnk hi
    have S := (h.snext hi (h.sd i (by omega))).1
    have yc1 : fv .f32 (solO b a x s n i) ≤ 101 / 100 * M := by have := Y0.y1; grind
    have yc2 : -fv .f32 (solO b a x s n i) ≤ 101 / 100 * M := by have := Y0.y2; grind
    have q0 := Y0.e1
    have q1 := Y0.e2
    rw [qiR_in hi] at q0 q1
    have r := res_step (W := W (i + 1)) (p := p (i + 1)) (q := p (i + 2)) (qi := qiR p n (i + 1)) (g := 17 * uu) (c := 146 * uu) (d := (562 / 5) * (M * uu)) (k := 140 * (M * uu)) (e0 := (58621 / 500) * (M * uu)) (e := (58621 / 500) * (M * uu)) (Y := 101 / 100 * M) L.lo L.hi L.g1 L.g2 L.m1 L.m2 s1 s2 S.1 S.2 q0 q1 Y.e1 Y.e2 yc1 yc2 yb1 yb2 (by grind)
    rw [show i + 1 + 1 = i + 2 by omega] at *
    constructor
    · have := r.1; grind
    · have := r.2; grind
end
end Go.Proofs.Ytpnkapdemgieaaa
set_option linter.unusedSimpArgs false
set_option linter.unusedVariables false
set_option linter.unusedSectionVars false
namespace Go.Proofs.Ytpnkapdemgieaaa
open Go Go.RowKit
open Go.ChangeShapes Go.WideShapes Go.ChangeAt Go.RowKit Go.Joins
theorem RW.ptr {B n : Nat} {w : World} {u : Value} {zs : List Nat} (h : RW B w u n zs) (hn : 1 ≤ n) : ∃ g c, u = .slice (some ⟨g, 0, none⟩) n c := by
  have hl := h.len
  unfold RW World.ownsRow at h
  rcases h.2 with ⟨h', hx⟩ | ⟨g, cap, cur, h', _⟩
  · exfalso
    omega
  · exact ⟨g, cap, h'⟩
theorem RW.nil (B : Nat) (w : World) (t : TypeId) (ht : t = 74) (hB : B ≤ w.heap.size) : RW B (w.alloc (.cells #[] t)) (.slice (some ⟨w.heap.size, 0, none⟩) 0 0) 0 [] := by
  subst ht
  exact World.ownsRow_lit w #[] 0 hB (by simp) (by simp)
end Go.Proofs.Ytpnkapdemgieaaa
set_option linter.unusedSimpArgs false
set_option linter.unusedVariables false
set_option linter.unusedSectionVars false
namespace Go.Proofs.Ytpnkapdemgieaaa
open Go Go.RowKit
open Go.ChangeShapes Go.WideShapes Go.ChangeAt Go.RowKit Go.Joins
/-- A rod of the call's own, and a bool. -/
def BRB (w : World) (R : Rd) (b : Bool) (e : Ending) (w' : World) : Prop := ∃ m, e = .returned (.tuple #[.agg #[.slice m.p1 R.a.length m.c1, .slice m.p2 R.b.length m.c2, .slice m.p3 R.c.length m.c3, .slice m.p4 R.d.length m.c4], .bool b]) ∧ Below w.heap.size w w' ∧ RdX w.heap.size w'.heap.size w' R m
theorem grown_setCells (b : Nat) : ∀ (vs : List Value) (o : Nat) (w : World), w.grownBy (w.setCells b o vs) (some b)
  | [], _, w => World.grownBy.refl _ _
  | v :: r, o, w => World.grownBy.trans (b := w.setCell ⟨b, o, none⟩ v) ⟨rfl, rfl, rfl, by simp, fun k _ hk => Below.heap_setCell _ _ _ _ (fun e => hk (by rw [e]))⟩ (grown_setCells b r (o + 1) _)
theorem OF.type {B : Nat} {w : World} {u : Value} {xs : List Nat} (h : OF B w u xs) {b : Nat} {cs : Array Value} {t : TypeId} (hb : w.heap[b]? = some (.cells cs t)) (ht : t ≠ 28) : u.ownBlock = none ∨ u.ownBlock ≠ some b := by
  unfold OF World.ownsRow at h
  rcases h.2 with ⟨h', _⟩ | ⟨g, cap, cur, h', _, hg, _⟩
  · exact .inl (by rw [h']; rfl)
  · refine .inr fun e => ?_
    rw [h'] at e
    have e2 : g = b := by simpa [Value.ownBlock] using e
    subst e2
    rw [hg] at hb
    simp only [Option.some.injEq, Obj.cells.injEq] at hb
    exact ht hb.2.1.symm
theorem RdA.setCells {B : Nat} {w : World} {P : Rd} {l : RL} (h : RdA B w P l) {b : Nat} {cs : Array Value} {t : TypeId} (hb : w.heap[b]? = some (.cells cs t)) (ht : t ≠ 28) (o : Nat) (vs : List Value) : RdA B (w.setCells b o vs) P l :=
  have hg := grown_setCells b vs o w
  ⟨⟨h.1.1.kept hg (h.1.1.type hb ht), h.1.2.1.kept hg (h.1.2.1.type hb ht), h.1.2.2.1.kept hg (h.1.2.2.1.type hb ht), h.1.2.2.2.kept hg (h.1.2.2.2.type hb ht)⟩, h.2⟩
section
variable {P : Program} {ops : Array Oper} {Q : Exit → Act → World → Prop} {W : World} {l : List Oper} {cs : List Clm} {i : Nat} {ks : List (Nat × (World → Prop))} {a : Act} {o : Oper}
end
end Go.Proofs.Ytpnkapdemgieaaa
set_option linter.unusedSimpArgs false
set_option linter.unusedVariables false
set_option linter.unusedSectionVars false
namespace Go.Proofs.Ytpnkapdemgieaaa
open Go Go.RowKit
open Go.ChangeShapes Go.WideShapes Go.ChangeAt Go.RowKit Go.Joins
section
variable {P : Program} {ops : Array Oper} {Q : Exit → Act → World → Prop} {F I : World → Prop} {l : List Oper} {cs : List GC} {i : Nat} {ks : List (Nat × (World → Prop))} {a : Act} {o : Oper}
theorem RdA.low {B : Nat} {w : World} {R : Rd} {m : RL} (h : RdA B w R m) {b : Nat} (hb : b < B) (o : Nat) (vs : List Value) : RdA B (w.setCells b o vs) R m := by
  have hg := grown_setCells b vs o w
  have key : ∀ {u xs}, OF B w u xs → u.ownBlock = none ∨ u.ownBlock ≠ some b := fun {u xs} h1 => by
    cases hu : u.ownBlock with
    | none => exact .inl rfl
    | some k =>
      refine .inr fun e => ?_
      have h2 := (h1.block k hu).1
      cases e
      omega
  exact ⟨⟨h.1.1.kept hg (key h.1.1), h.1.2.1.kept hg (key h.1.2.1), h.1.2.2.1.kept hg (key h.1.2.2.1), h.1.2.2.2.kept hg (key h.1.2.2.2)⟩, h.2⟩
end
end Go.Proofs.Ytpnkapdemgieaaa
set_option linter.unusedSimpArgs false
set_option linter.unusedVariables false
set_option linter.unusedSectionVars false
namespace Go.Proofs.Ytpnkapdemgieaaa
open Go Go.RowKit
open Go.ChangeShapes Go.WideShapes Go.ChangeAt Go.RowKit Go.Joins
theorem map_atR {ys L : List Nat} (h : ys.map (cn .f32) = L) {i : Nat} (hi : i < ys.length) : cn .f32 (ys.getD i 0) = L.getD i 0 := by
  rw [← h, List.getD_eq_getElem?_getD, List.getD_eq_getElem?_getD, List.getElem?_map, List.getElem?_eq_getElem hi]; rfl
def pG (P : Rd) (E G : EndT) (i : Nat) : Nat := (passL P E G).getD i 0
def rwW (P : Rd) (t i : Nat) : Nat := fop .quo .f32 (fop .mul .f32 (cn .f32 (P.a.getD i 0)) (cn .f32 (P.c.getD i 0))) (cn .f32 t)
def rwB (P : Rd) (E G : EndT) (i : Nat) : Nat := fneg .f32 (pG P E G i)
def rwA (P : Rd) (E G : EndT) (t i : Nat) : Nat := fop .add .f32 (fop .add .f32 (rwW P t i) (pG P E G i)) (pG P E G (i + 1))
def rwX (P : Rd) (E G : EndT) (i : Nat) : Nat := fneg .f32 (pG P E G (i + 1))
def rwS0 (P : Rd) (t i : Nat) : Nat := fop .mul .f32 (rwW P t i) (cn .f32 (P.d.getD i 0))
def rwS1 (P : Rd) (E G : EndT) (t i : Nat) : Nat := if i = 0 then fop .add .f32 (rwS0 P t i) (fop .mul .f32 (pG P E G 0) (cn .f32 E.t)) else rwS0 P t i
def rwS (P : Rd) (E G : EndT) (t i : Nat) : Nat := if i + 1 = P.a.length then fop .add .f32 (rwS1 P E G t i) (fop .mul .f32 (pG P E G (i + 1)) (cn .f32 G.t)) else rwS1 P E G t i
def rwsL (P : Rd) (E G : EndT) (t : Nat) : List Nat := solL (rwB P E G) (rwA P E G t) (rwX P E G) (rwS P E G t) P.a.length
def rwsR (P : Rd) (E G : EndT) (t : Nat) : Rd := ⟨P.a, P.b, P.c, rwsL P E G t⟩
def rwsPre (P : Rd) (E G : EndT) (t : Nat) : Bool := passOk P E G && abv (cn .f32 t)
def rwsOk (P : Rd) (E G : EndT) (t : Nat) : Bool := rwsPre P E G t && (rwsR P E G t).ok
theorem passL_lenR {P : Rd} {E G : EndT} (h : 1 ≤ P.a.length) : (passL P E G).length = P.a.length + 1 := by
  unfold passL passK
  simp
  omega
end Go.Proofs.Ytpnkapdemgieaaa
set_option linter.unusedSimpArgs false
set_option linter.unusedVariables false
set_option linter.unusedSectionVars false
namespace Go.Proofs.Ytpnkapdemgieaaa
open Go Go.RowKit
end Go.Proofs.Ytpnkapdemgieaaa
set_option linter.unusedSimpArgs false
set_option linter.unusedVariables false
set_option linter.unusedSectionVars false
namespace Go.Proofs.Ytpnkapdemgieaaa
open Go Go.RowKit
open Go.ChangeShapes Go.WideShapes Go.ChangeAt Go.RowKit Go.Joins
end Go.Proofs.Ytpnkapdemgieaaa
set_option linter.unusedSimpArgs false
set_option linter.unusedVariables false
set_option linter.unusedSectionVars false
namespace Go.Proofs.Ytpnkapdemgieaaa
open Go Go.RowKit
/-- A sum from left to right. -/
def accC (f : Nat → Nat) (xs : List Nat) : Nat := xs.foldl (fun a x => fop .add .f32 a (f (cn .f32 x))) (cn .f32 0)
theorem accC_step (f : Nat → Nat) (xs : List Nat) {k : Nat} (h : k < xs.length) : accC f (xs.take (k + 1)) = fop .add .f32 (accC f (xs.take k)) (f (cn .f32 (xs.getD k 0))) := by
  unfold accC
  rw [List.take_add_one, List.foldl_append, List.getElem?_eq_getElem h, List.getD_eq_getElem?_getD, List.getElem?_eq_getElem h]
  rfl
theorem cn_accC (f : Nat → Nat) (xs : List Nat) : cn .f32 (accC f xs) = accC f xs := by
  rcases List.eq_nil_or_concat xs with rfl | ⟨l, x, rfl⟩
  · exact cn_cn .f32 0
  · unfold accC; simp only [List.concat_eq_append, List.foldl_append, List.foldl_cons, List.foldl_nil]; exact cn_fop _ _ _ _
end Go.Proofs.Ytpnkapdemgieaaa
set_option linter.unusedSimpArgs false
set_option linter.unusedVariables false
set_option linter.unusedSectionVars false
namespace Go.Proofs.Ytpnkapdemgieaaa
open Go Go.RowKit
open Go.ChangeShapes Go.WideShapes Go.ChangeAt Go.RowKit Go.Joins
def pAt (P : Rd) (E G : EndT) (i : Nat) : Nat := (passL P E G).getD i 0
end Go.Proofs.Ytpnkapdemgieaaa
set_option linter.unusedSimpArgs false
set_option linter.unusedVariables false
set_option linter.unusedSectionVars false
namespace Go.Proofs.Ytpnkapdemgieaaa
open Go Go.RowKit
open Go.ChangeShapes Go.WideShapes Go.ChangeAt Go.RowKit Go.Joins
/-- In a plan: a number appended to an own slice: a barrier. -/
def Clm.app (o : Nat) (xs : List Nat) : Clm := ⟨2, fun _ u => ∃ q c, u = .slice q xs.length c, fun _ u w => OF o w u xs, fun _ => ⟨_, none, 0, rfl⟩,
  fun _ u w w' h hb => OF.later h hb, fun h => nomatch h⟩
def seqW (d : List Nat) (t g : Nat) : Nat → Nat
  | 0 => cn .f32 t
  | i + 1 => if i < d.length then cn .f32 (d.getD i 0) else cn .f32 g
def flowF (m s : Nat → Nat) (i : Nat) : Nat := fop .mul .f32 (m i) (fop .sub .f32 (s i) (s (i + 1)))
def flowL (m s : Nat → Nat) (k : Nat) : List Nat := (List.range k).map (flowF m s)
theorem flowL_len (m s : Nat → Nat) (k : Nat) : (flowL m s k).length = k := by simp [flowL]
def flowR (P : Rd) (E G : EndT) : List Nat := flowL (pAt P E G) (seqW P.d E.t G.t) (P.a.length + 1)
def flowFin (P : Rd) (E G : EndT) : Bool := !(flowR P E G).any fun x => !fin .f32 x
def flowOk (P : Rd) (E G : EndT) : Bool := passOk P E G && flowFin P E G
end Go.Proofs.Ytpnkapdemgieaaa
set_option linter.unusedSimpArgs false
set_option linter.unusedVariables false
set_option linter.unusedSectionVars false
namespace Go.Proofs.Ytpnkapdemgieaaa
open Go Go.RowKit
open Go.ChangeShapes Go.WideShapes Go.ChangeAt Go.RowKit Go.Joins
theorem OF.cells {B g n c : Nat} {w : World} {xs : List Nat} (h : OF B w (.slice (some ⟨g, 0, none⟩) n c) xs) (hl : xs.length = n) : ∀ j, j < n → w.cell? ⟨g, j, none⟩ = some (.float .f32 (xs.getD j 0)) ∧ w.frozen? ⟨g, j, none⟩ = false := by
  rcases OF.view h with ⟨h, _⟩ | ⟨g', c', h1, _, _, _, _, h2⟩
  · cases h
  · simp only [Value.slice.injEq, Option.some.injEq, Addr.mk.injEq, and_true] at h1
    obtain ⟨rfl, _⟩ := h1
    intro j hj
    exact h2 j (by omega)
end Go.Proofs.Ytpnkapdemgieaaa
set_option linter.unusedSimpArgs false
set_option linter.unusedVariables false
set_option linter.unusedSectionVars false
namespace Go.Proofs.Ytpnkapdemgieaaa
open Go Go.RowKit
open Go.ChangeShapes Go.WideShapes Go.ChangeAt Go.RowKit Go.Joins
end Go.Proofs.Ytpnkapdemgieaaa
set_option linter.unusedSimpArgs false
set_option linter.unusedVariables false
set_option linter.unusedSectionVars false
namespace Go.Proofs.Ytpnkapdemgieaaa
open Go Go.RowKit
open Go.ChangeShapes Go.WideShapes Go.ChangeAt Go.RowKit Go.Joins
def fAt (P : Rd) (E G : EndT) (i : Nat) : Nat := (flowR P E G).getD i 0
def stepB (P : Rd) (f : Nat → Nat) (t i : Nat) : Nat := fop .add .f32 (cn .f32 (P.d.getD i 0)) (fop .quo .f32 (fop .mul .f32 (cn .f32 t) (fop .sub .f32 (f i) (f (i + 1)))) (fop .mul .f32 (cn .f32 (P.a.getD i 0)) (cn .f32 (P.c.getD i 0))))
def stepL (P : Rd) (f : Nat → Nat) (t k : Nat) : List Nat := (List.range k).map (stepB P f t)
def stepR (P : Rd) (E G : EndT) (t : Nat) : Rd := ⟨P.a, P.b, P.c, stepL P (fAt P E G) t P.d.length⟩
def stepPre (P : Rd) (E G : EndT) (t : Nat) : Bool := flowOk P E G && lst (cn .f32 t)
def stepOk (P : Rd) (E G : EndT) (t : Nat) : Bool := stepPre P E G t && (stepR P E G t).ok
theorem stepL_len (P : Rd) (f : Nat → Nat) (t k : Nat) : (stepL P f t k).length = k := by simp [stepL]
theorem flowR_len (P : Rd) (E G : EndT) : (flowR P E G).length = P.a.length + 1 := flowL_len _ _ _
end Go.Proofs.Ytpnkapdemgieaaa
set_option linter.unusedSimpArgs false
set_option linter.unusedVariables false
set_option linter.unusedSectionVars false
namespace Go.Proofs.Ytpnkapdemgieaaa
open Go Go.RowKit
open Go.ChangeShapes Go.WideShapes Go.ChangeAt Go.RowKit Go.Joins
def heatK (P : Rd) : Nat → Nat
  | 0 => cn .f32 0
  | k + 1 => fop .add .f32 (heatK P k) (fop .mul .f32 (fop .mul .f32 (cn .f32 (P.a.getD k 0)) (cn .f32 (P.c.getD k 0))) (cn .f32 (P.d.getD k 0)))
def massK (P : Rd) : Nat → Nat
  | 0 => cn .f32 0
  | k + 1 => fop .add .f32 (massK P k) (fop .mul .f32 (cn .f32 (P.a.getD k 0)) (cn .f32 (P.c.getD k 0)))
def hindK (P : Rd) : Nat → Nat
  | 0 => cn .f32 0
  | k + 1 => fop .add .f32 (hindK P k) (fop .quo .f32 (cn .f32 (P.a.getD k 0)) (cn .f32 (P.b.getD k 0)))
end Go.Proofs.Ytpnkapdemgieaaa
set_option linter.unusedSimpArgs false
set_option linter.unusedVariables false
set_option linter.unusedSectionVars false
namespace Go.Proofs.Ytpnkapdemgieaaa
open Go Go.RowKit
section
variable {P : Program} {ops : Array Oper} {Q : Exit → Act → World → Prop} {F I : World → Prop} {l : List Oper} {cs : List GC} {i : Nat} {ks : List (Nat × (World → Prop))} {a : Act} {o : Oper}
theorem wpG_lit1 {B : Nat} {x : Value} {t : TypeId} (hx : o.op.operands.toList.map a.eval = [x]) (hw : Region.wanted o (yielded ops a.tmps) = true) (hB : ∀ w, I w → B ≤ w.heap.size) (h1 : ∀ w, (execOp a.eval o).run P w = .ok (.value (.slice (some ⟨w.heap.size, 0, none⟩) 1 1)) (w.alloc (.cells #[x] t)))
    (h : ∀ b, wpG P ops Q F I l cs (i + 1) ((i, fun w => B ≤ b ∧ owned w b [x]) :: ks) (a.put o.dst (.slice (some ⟨b, 0, none⟩) 1 1))) : wpG P ops Q F I (o :: l) (GC.of (Clm.lit1 B) :: cs) i ks a := by
  have ht : (oargs ops o a).take 1 = [x] := by unfold oargs; rw [hx]; rfl
  refine wpG_one (Clm.lit1 B) rfl hw (fun w hi hk => ?_) ?_
  · rw [h1 w]
    exact ⟨(Below.refl _ _).alloc (Nat.le_refl _) _, ⟨_, rfl⟩, by show lit1K B ((oargs ops o a).take 1) (.slice (some ⟨w.heap.size, 0, none⟩) 1 1) _; rw [ht]; exact ⟨hB w hi, owned_alloc w [x] t⟩⟩
  · rintro v ⟨b, rfl⟩
    show wpG P ops Q F I l cs (i + 1) ((i, fun w => lit1K B ((oargs ops o a).take 1) (.slice (some ⟨b, 0, none⟩) 1 1) w) :: ks) _
    rw [ht]
    exact h b
/-- An operation that turns memory and gives a value of a class. -/
theorem wpG_turnE (c : Clm) (hm : c.mode = 3) (I' : World → Prop) (hI : ∀ w w', I' w → Below w.heap.size w w' → I' w') (hw : Region.wanted o (yielded ops a.tmps) = true)
    (h1 : ∀ w, I w → depK o ks w → uponC P (fun u w' => I' w' ∧ c.S (o.op.operands.toList.map a.eval) u ∧ c.K (oargs ops o a) u w') ((execOp a.eval o).run P w))
    (h : ∀ v, c.S (o.op.operands.toList.map a.eval) v → wpG P ops Q F I' l cs (i + 1) [(i, c.K (oargs ops o a) v)] (a.put o.dst v)) : wpG P ops Q F I (o :: l) (⟨c, I', hI⟩ :: cs) i ks a := by
  simp only [wpG]
  refine ⟨.inl ⟨hw, .inr (.inr (.inl hm)), fun h => ?_, fun h => ?_, fun h => ?_, fun _ w hi hk => h1 w hi hk⟩, fun v hv => ?_⟩
  · have : c.mode = 0 := h; omega
  · have : c.mode = 4 := h; omega
  · have : c.mode = 1 := h; omega
  · have e1 : invG I ⟨c, I', hI⟩ = I' := invG_eq hm
    have e2 : nextG c i (c.K (oargs ops o a) v) ks = [(i, c.K (oargs ops o a) v)] := by
      unfold nextG
      split <;> first | omega | exact absurd hm (by assumption) | rfl
    show wpG P ops Q F (invG I ⟨c, I', hI⟩) l cs (i + 1) (nextG c i (c.K (oargs ops o a) v) ks) _
    rw [e1, e2]; exact h v hv
end
/-- An own slice with a number more; where it lies. -/
def appP (B S : Nat) (g0 : Option Nat) (xs : List Nat) (v : Value) (w : World) : Prop := OF B w v xs ∧ (v.ownBlock = g0 ∨ ∀ k, v.ownBlock = some k → S ≤ k)
theorem appP.later {B S : Nat} {g0 : Option Nat} {xs : List Nat} {v : Value} {w w' : World} (h : appP B S g0 xs v w) (hb : Below w.heap.size w w') : appP B S g0 xs v w' := ⟨h.1.later hb, h.2⟩
end Go.Proofs.Ytpnkapdemgieaaa
set_option linter.unusedSimpArgs false
set_option linter.unusedVariables false
set_option linter.unusedSectionVars false
namespace Go.Proofs.Ytpnkapdemgieaaa
open Go Go.RowKit
open Go.ChangeShapes Go.WideShapes Go.ChangeAt Go.RowKit Go.Joins
def mvR (rows : Bool) (E G : EndT) (t : Nat) (P : Rd) : Rd := if rows then rwsR P E G t else stepR P E G t
def mvOk (rows : Bool) (E G : EndT) (t : Nat) (P : Rd) : Bool := if rows then rwsOk P E G t else stepOk P E G t
def htV (R : Rd) : Nat := heatK R R.a.length
def runR (rows : Bool) (E G : EndT) (t : Nat) (P : Rd) : Nat → Rd
  | 0 => P
  | k + 1 => mvR rows E G t (runR rows E G t P k)
def runO (rows : Bool) (E G : EndT) (t : Nat) (P : Rd) : Nat → Bool
  | 0 => true
  | k + 1 => runO rows E G t P k && mvOk rows E G t (runR rows E G t P k)
section
variable {rows : Bool} {E G : EndT} {t : Nat} {P : Rd}
end
/-- What was there is there, but for two blocks. -/
structure K2 (w0 : World) (g : Option Nat) (b : Nat) (u : World) : Prop where
  os : u.os = w0.os
  tape : u.tape = w0.tape
  output : u.output = w0.output
  size : w0.heap.size ≤ u.heap.size
  block : ∀ k, k < w0.heap.size → some k ≠ g → k ≠ b → u.heap[k]? = w0.heap[k]?
theorem K2.later {w0 : World} {g : Option Nat} {b : Nat} {u v : World} (h : K2 w0 g b u) (hb : Below u.heap.size u v) : K2 w0 g b v :=
  ⟨hb.os.trans h.os, hb.tape.trans h.tape, hb.output.trans h.output, Nat.le_trans h.size hb.size, fun k hk h1 h2 => (hb.block k (Nat.lt_of_lt_of_le hk h.size)).trans (h.block k hk h1 h2)⟩
theorem K2.of {w0 : World} {g : Option Nat} {b : Nat} {u : World} (h : w0.grownBy u g) (o : Nat) (vs : List Value) : K2 w0 g b (u.setCells b o vs) := by
  have h2 := grown_setCells b vs o u
  exact ⟨h2.os.trans h.os, h2.tape.trans h.tape, h2.output.trans h.output, Nat.le_trans h.size h2.size, fun k hk h1 h3 => (h2.block k (Nat.lt_of_lt_of_le hk h.size) (by simpa using h3)).trans (h.block k hk h1)⟩
theorem K2.below {w0 : World} {g : Option Nat} {b B : Nat} {u : World} (h : K2 w0 g b u) (h0 : B ≤ w0.heap.size) (hg : ∀ k, g = some k → B ≤ k) (hb : B ≤ b) : Below B w0 u :=
  ⟨h.os, h.tape, h.output, h.size, fun k hk => h.block k (by omega) (fun e => by have := hg k e.symm; omega) (by omega)⟩
def ApS (q : Option Addr) (m : RL) : Prop := Ap q m.p1 ∧ Ap q m.p2 ∧ Ap q m.p3 ∧ Ap q m.p4
/-- A rod in a variable of the call's own, and own numbers. -/
def RunAt (B : Nat) (wr : World) (b : Nat) (R : Rd) (m : RL) (q : Option Addr) (c : Nat) (ys : List Nat) : Prop := (owned wr b [.slice m.p1 R.a.length m.c1, .slice m.p2 R.b.length m.c2, .slice m.p3 R.c.length m.c3, .slice m.p4 R.d.length m.c4] ∧ B ≤ b) ∧ RdA B wr R m ∧ OF B wr (.slice q ys.length c) ys ∧ (∀ k, (Value.slice q ys.length c).ownBlock = some k → k ≠ b) ∧ ApS q m
theorem RunAt.later {B : Nat} {wr w' : World} {b : Nat} {R : Rd} {m : RL} {q : Option Addr} {c : Nat} {ys : List Nat} (h : RunAt B wr b R m q c ys) (hb : Below wr.heap.size wr w') : RunAt B w' b R m q c ys :=
  ⟨⟨h.1.1.later hb, h.1.2⟩, h.2.1.later hb, h.2.2.1.later hb, h.2.2.2⟩
theorem RdA.kept {B : Nat} {w w' : World} {R : Rd} {m : RL} {g : Option Nat} (h : RdA B w R m) (hg : w.grownBy w' g) (hlt : ∀ k, g = some k → k < B) : RdA B w' R m := by
  have key : ∀ {u xs}, OF B w u xs → u.ownBlock = none ∨ u.ownBlock ≠ g := fun {u xs} h1 => by
    cases hu : u.ownBlock with
    | none => exact .inl rfl
    | some k =>
      refine .inr fun e => ?_
      have h2 := (h1.block k hu).1
      have := hlt k e.symm
      omega
  exact ⟨⟨h.1.1.kept hg (key h.1.1), h.1.2.1.kept hg (key h.1.2.1), h.1.2.2.1.kept hg (key h.1.2.2.1), h.1.2.2.2.kept hg (key h.1.2.2.2)⟩, h.2⟩
theorem owned_kept {w w' : World} {b : Nat} {xs : List Value} {g : Option Nat} (h : owned w b xs) (hg : w.grownBy w' g) (hlt : b < w.heap.size) (hne : ∀ k, g = some k → k ≠ b) : owned w' b xs := by
  have e := hg.block b hlt (fun e => hne b e.symm rfl)
  exact fun k x hk => ⟨(World.cell?_of_block (a := ⟨b, k, none⟩) e).trans (h k x hk).1, (World.frozen?_of_block (a := ⟨b, k, none⟩) e).trans (h k x hk).2⟩
theorem ApS.nil (q : Option Addr) : ApS q nilRL := by
  refine ⟨?_, ?_, ?_, ?_⟩ <;> (intro a b h1 h2; cases h2)
end Go.Proofs.Ytpnkapdemgieaaa
set_option linter.unusedSimpArgs false
set_option linter.unusedVariables false
set_option linter.unusedSectionVars false
namespace Go.Proofs.Ytpnkapdemgieaaa
open Go Go.RowKit
/-- A rod of drawn widths, eases and holds, of any warmths up to M. -/
structure GR (P : Rd) (n : Nat) (A C : Nat → Int) (M : Rat) : Prop where
  hn : 1 ≤ n ∧ n ≤ 6
  la : P.a.length = n
  lb : P.b.length = n
  lc : P.c.length = n
  ld : P.d.length = n
  a : ∀ i, i < n → V .f32 (cn .f32 (P.a.getD i 0)) ((A i : Rat) / 4) ∧ 1 ≤ A i ∧ A i ≤ 8
  b : ∀ i, i < n → ∃ z : Int, (1 ≤ z ∧ z ≤ 8) ∧ V .f32 (cn .f32 (P.b.getD i 0)) ((z : Rat) / 4)
  c : ∀ i, i < n → V .f32 (cn .f32 (P.c.getD i 0)) ((C i : Rat) / 4) ∧ 1 ≤ C i ∧ C i ≤ 8
  d : ∀ i, i < n → fnt .f32 (cn .f32 (P.d.getD i 0)) = true ∧ fv .f32 (cn .f32 (P.d.getD i 0)) ≤ M ∧ -fv .f32 (cn .f32 (P.d.getD i 0)) ≤ M
/-- An end of drawn numbers. -/
structure GE (E : EndT) (M : Rat) : Prop where
  k : 0 ≤ E.k ∧ E.k ≤ 2
  e : ∃ z : Int, (1 ≤ z ∧ z ≤ 8) ∧ V .f32 (cn .f32 E.e) ((z : Rat) / 2)
  t : fnt .f32 (cn .f32 E.t) = true ∧ fv .f32 (cn .f32 E.t) ≤ M ∧ -fv .f32 (cn .f32 E.t) ≤ M
theorem mem_getD {xs : List Nat} {x : Nat} (h : x ∈ xs) : ∃ i, i < xs.length ∧ xs.getD i 0 = x := by
  obtain ⟨i, hi, e⟩ := List.getElem_of_mem h
  exact ⟨i, hi, by rw [List.getD_eq_getElem?_getD, List.getElem?_eq_getElem hi]; exact e⟩
theorem fin_of_fnt {x : Nat} (h : fnt .f32 x = true) : fin .f32 x = true := by rw [← fnt_fin]; exact h
theorem int1 {z : Int} (h : 1 ≤ z ∧ z ≤ 8) : (1 : Rat) ≤ (z : Rat) ∧ (z : Rat) ≤ 8 := by
  have a := icast_le h.1
  have b := icast_le h.2
  have e1 : ((1 : Int) : Rat) = 1 := rfl
  have e8 : ((8 : Int) : Rat) = 8 := rfl
  rw [e1] at a
  rw [e8] at b
  exact ⟨a, b⟩
theorem posL_of {xs : List Nat} (h : ∀ i, i < xs.length → fnt .f32 (cn .f32 (xs.getD i 0)) = true ∧ 0 < fv .f32 (cn .f32 (xs.getD i 0))) : posL xs = true := by
  unfold posL
  rw [Bool.not_eq_true', List.any_eq_false]
  intro x hx
  obtain ⟨i, hi, rfl⟩ := mem_getD hx
  obtain ⟨h1, h2⟩ := h i hi
  have e : fle .f32 (cn .f32 (xs.getD i 0)) (cn .f32 0) = false := by rw [flev h1 V0.1, V0.2]; exact decide_eq_false (by grind)
  rw [fin_of_fnt h1, e]; simp
theorem finL_of {xs : List Nat} (h : ∀ i, i < xs.length → fnt .f32 (cn .f32 (xs.getD i 0)) = true) : finL xs = true := by
  unfold finL
  rw [Bool.not_eq_true', List.any_eq_false]
  intro x hx
  obtain ⟨i, hi, rfl⟩ := mem_getD hx
  rw [fin_of_fnt (h i hi)]; simp
section
variable {P : Rd} {n : Nat} {A C : Nat → Int} {M : Rat} {E G : EndT}
theorem GR.ok (h : GR P n A C M) : P.ok = true := by
  have hn := h.hn
  unfold Rd.ok Rd.sized
  rw [h.la, h.lb, h.lc, h.ld]
  rw [posL_of (xs := P.a) (fun i hi => by rw [h.la] at hi; obtain ⟨v, k⟩ := h.a i hi; have := int1 k; exact ⟨v.1, by rw [v.2]; grind⟩),
    posL_of (xs := P.b) (fun i hi => by rw [h.lb] at hi; obtain ⟨z, k, v⟩ := h.b i hi; have := int1 k; exact ⟨v.1, by rw [v.2]; grind⟩),
    posL_of (xs := P.c) (fun i hi => by rw [h.lc] at hi; obtain ⟨v, k⟩ := h.c i hi; have := int1 k; exact ⟨v.1, by rw [v.2]; grind⟩),
    finL_of (xs := P.d) (fun i hi => by rw [h.ld] at hi; exact (h.d i hi).1)]
  rw [decide_eq_true hn.1, decide_eq_true (show n ≤ 48 by omega), decide_eq_true (rfl : n = n)]; rfl
theorem Rp16 : Rep .f32 ((1 : Rat) / 16) := rep_at (k := .f32) 1 (-4) (by decide) (by decide) (by decide) (by
  have h : tp (-4) * tp 4 = 1 := by rw [← tp_add]; exact tp_zero
  rw [show tp 4 = 16 from (tp_nat 4).trans rfl] at h
  have e : ((1 : Int) : Rat) = 1 := rfl
  rw [e]; grind)
theorem Rp8 : Rep .f32 ((1 : Rat) / 8) := by have := rep_eighth (n := 1) (by decide); have e : ((1 : Int) : Rat) = 1 := rfl; rwa [e] at this
theorem Rp4 : Rep .f32 ((1 : Rat) / 4) := by have := rep_quarter (n := 1) (by decide); have e : ((1 : Int) : Rat) = 1 := rfl; rwa [e] at this
theorem Rp0 : Rep .f32 (0 : Rat) := Rep.int (k := .f32) 0 (by decide)
theorem Rp2 : Rep .f32 (2 : Rat) := Rep.int (k := .f32) 2 (by decide)
theorem Rpx4 : Rep .f32 (4 : Rat) := Rep.int (k := .f32) 4 (by decide)
theorem Rpx8 : Rep .f32 (8 : Rat) := Rep.int (k := .f32) 8 (by decide)
theorem Rpx16 : Rep .f32 (16 : Rat) := Rep.int (k := .f32) 16 (by decide)
theorem GR.half (h : GR P n A C M) {i : Nat} (hi : i < n) : Btw .f32 (halfV P i) (1 / 16) 4 := by
  obtain ⟨va, ka⟩ := h.a i hi
  obtain ⟨z, kz, vb⟩ := h.b i hi
  obtain ⟨a1, a2⟩ := int1 ka
  obtain ⟨z1, z2⟩ := int1 kz
  have zp : (0 : Rat) < (z : Rat) / 4 := by grind
  have dv : ((A i : Rat) / 4) / ((z : Rat) / 4) * ((z : Rat) / 4) = (A i : Rat) / 4 := Rat.div_mul_cancel (by grind)
  obtain ⟨q0, q1, q2⟩ := fop_btw .quo rfl .f32 (a := 1 / 8) (b := 8) va.1 vb.1 (fun _ => by rw [vb.2]; grind) Rp8 Rpx8 (by simp only [ex]; rw [va.2, vb.2]; exact mul_cancel_le zp (by rw [dv]; grind)) (by simp only [ex]; rw [va.2, vb.2]; exact mul_cancel_le zp (by rw [dv]; grind))
  unfold halfV
  exact fop_btw .quo rfl .f32 q0 V2.1 (fun _ => by rw [V2.2]; grind) Rp16 Rpx4 (by simp only [ex]; rw [V2.2]; grind) (by simp only [ex]; rw [V2.2]; grind)
theorem one_quo {x : Nat} {a b lo hi : Rat} (hx : Btw .f32 x a b) (ha : 0 < a) (hlo : Rep .f32 lo) (hhi : Rep .f32 hi) (h1 : lo * b ≤ 1) (h2 : 1 ≤ hi * a) (l0 : 0 ≤ lo) (h0 : 0 ≤ hi) : Btw .f32 (fop .quo .f32 (cn .f32 1065353216) x) lo hi := by
  obtain ⟨x0, x1, x2⟩ := hx
  have xp : 0 < fv .f32 x := by grind
  have dv : 1 / fv .f32 x * fv .f32 x = 1 := Rat.div_mul_cancel (by grind)
  have k1 := Rat.mul_le_mul_of_nonneg_left x2 l0
  have k2 := Rat.mul_le_mul_of_nonneg_left x1 h0
  exact fop_btw .quo rfl .f32 V1.1 x0 (fun _ => by grind) hlo hhi (by simp only [ex]; rw [V1.2]; exact mul_cancel_le xp (by rw [dv]; grind)) (by simp only [ex]; rw [V1.2]; exact mul_cancel_le xp (by rw [dv]; grind))
theorem GR.bet (h : GR P n A C M) {i : Nat} (hi : i + 1 < n) : Btw .f32 (betV P i) (1 / 8) 8 := by
  obtain ⟨a0, a1, a2⟩ := h.half (i := i) (by omega)
  obtain ⟨b0, b1, b2⟩ := h.half (i := i + 1) hi
  have s : Btw .f32 (fop .add .f32 (halfV P i) (halfV P (i + 1))) (1 / 8) 8 := fop_btw .add rfl .f32 a0 b0 (by simp) Rp8 Rpx8 (by simp only [ex]; grind) (by simp only [ex]; grind)
  exact one_quo s (by grind) Rp8 Rpx8 (by grind) (by grind) (by grind) (by grind)
theorem GR.end' (h : GR P n A C M) {N : Rat} (hE : GE E N) {i : Nat} (hi : i < n) : Btw .f32 (endV P i E) 0 16 ∧ (E.k ≠ 1 → Btw .f32 (endV P i E) (1 / 8) 16) := by
  have hh := h.half hi
  have kk := hE.k
  have key : E.k ≠ 1 → Btw .f32 (endV P i E) (1 / 8) 16 := fun h1 => by
    by_cases h0 : E.k = 0
    · rw [endV_0 h0]
      exact one_quo hh (by grind) Rp8 Rpx16 (by grind) (by grind) (by grind) (by grind)
    · rw [endV_2 h0 h1]
      obtain ⟨z, kz, ve⟩ := hE.e
      obtain ⟨z1, z2⟩ := int1 kz
      have e1 : Btw .f32 (cn .f32 E.e) (1 / 2) 4 := ⟨ve.1, by rw [ve.2]; grind, by rw [ve.2]; grind⟩
      have e2 := one_quo e1 (lo := 1 / 4) (hi := 2) (by grind) Rp4 Rp2 (by grind) (by grind) (by grind) (by grind)
      obtain ⟨a0, a1, a2⟩ := hh
      obtain ⟨b0, b1, b2⟩ := e2
      have s : Btw .f32 (fop .add .f32 (halfV P i) (fop .quo .f32 (cn .f32 1065353216) (cn .f32 E.e))) (1 / 4) 8 := fop_btw .add rfl .f32 a0 b0 (by simp) Rp4 Rpx8 (by simp only [ex]; grind) (by simp only [ex]; grind)
      exact one_quo s (by grind) Rp8 Rpx16 (by grind) (by grind) (by grind) (by grind)
  refine ⟨?_, key⟩
  by_cases h1 : E.k = 1
  · rw [endV_1 h1]
    exact ⟨V0.1, by rw [V0.2]; exact Rat.le_refl, by rw [V0.2]; grind⟩
  · obtain ⟨a, b, c⟩ := key h1
    exact ⟨a, by grind, c⟩
/-- The passes, one by one. -/
theorem pG_zero (P : Rd) (E G : EndT) : pG P E G 0 = endV P 0 E := rfl
theorem pG_mid {P : Rd} {E G : EndT} {i : Nat} (h : i + 1 < P.a.length) : pG P E G (i + 1) = betV P i := by
  unfold pG passL passK
  rw [List.getD_eq_getElem?_getD, List.cons_append, List.getElem?_cons_succ, List.getElem?_append_left (by simp; omega), List.getElem?_map, List.getElem?_range (by omega)]; rfl
theorem pG_last {P : Rd} {E G : EndT} (h : 1 ≤ P.a.length) : pG P E G P.a.length = endV P (P.a.length - 1) G := by
  obtain ⟨m, hm⟩ : ∃ m, P.a.length = m + 1 := ⟨P.a.length - 1, by omega⟩
  unfold pG passL passK
  rw [hm, show m + 1 - 1 = m by omega, List.getD_eq_getElem?_getD, List.cons_append, List.getElem?_cons_succ, List.getElem?_append_right (by simp)]
  simp
theorem GR.pass (h : GR P n A C M) {N : Rat} (hE : GE E N) (hG : GE G N) {i : Nat} (hi : i ≤ n) : Btw .f32 (pG P E G i) 0 16 ∧ (i ≠ 0 → i ≠ n → Btw .f32 (pG P E G i) (1 / 8) 8) := by
  have hn := h.hn
  cases i with
  | zero => exact ⟨(h.end' hE (by omega)).1, fun h0 => absurd rfl h0⟩
  | succ i =>
    by_cases hl : i + 1 = n
    · rw [hl, ← h.la, pG_last (by rw [h.la]; omega), h.la]
      exact ⟨(h.end' hG (by omega)).1, fun _ h1 => absurd rfl h1⟩
    · rw [pG_mid (by rw [h.la]; omega)]
      obtain ⟨a, b, c⟩ := h.bet (i := i) (by omega)
      exact ⟨⟨a, by grind, by grind⟩, fun _ _ => ⟨a, b, c⟩⟩
theorem GE.ok {N : Rat} (hE : GE E N) : E.ok = true := by
  obtain ⟨z, kz, ve⟩ := hE.e
  obtain ⟨z1, z2⟩ := int1 kz
  unfold EndT.ok inB
  rw [decide_eq_true hE.k.1, decide_eq_true hE.k.2, fin_of_fnt hE.t.1, abv_of ve.1 (by rw [ve.2]; grind)]; rfl
theorem GR.passOk (h : GR P n A C M) {N : Rat} (hE : GE E N) (hG : GE G N) : passOk P E G = true := by
  have hn := h.hn
  unfold Go.Proofs.Ytpnkapdemgieaaa.passOk endsOk passFin
  rw [h.ok, hE.ok, hG.ok]
  have : (passL P E G).any (fun x => !fin .f32 x) = false := by
    rw [List.any_eq_false]
    intro x hx
    obtain ⟨i, hi, rfl⟩ := mem_getD hx
    rw [passL_lenR (by rw [h.la]; omega), h.la] at hi
    have := (h.pass hE hG (i := i) (by omega)).1
    rw [fin_of_fnt (x := (passL P E G).getD i 0) this.1]; simp
  rw [this]; rfl
end
end Go.Proofs.Ytpnkapdemgieaaa
set_option linter.unusedSimpArgs false
set_option linter.unusedVariables false
set_option linter.unusedSectionVars false
namespace Go.Proofs.Ytpnkapdemgieaaa
open Go Go.RowKit
/-- How much heat a cell holds for each degree, in a quarter. -/
def wR (A C : Nat → Int) (i : Nat) : Rat := ((A i * C i : Int) : Rat) / 4
def pR (P : Rd) (E G : EndT) (i : Nat) : Rat := fv .f32 (pG P E G i)
def xR (P : Rd) (i : Nat) : Rat := fv .f32 (cn .f32 (P.d.getD i 0))
theorem V25w : V .f32 (cn .f32 1048576000) ((1 : Rat) / 4) := by
  have e0 : cn .f32 1048576000 = fop .quo .f32 (floatOfInt .f32 1) (floatOfInt .f32 4) := by decide +kernel
  have e1 : ((1 : Int) : Rat) = 1 := rfl
  have e4 : ((4 : Int) : Rat) = 4 := rfl
  have a := V.int .f32 1 (by decide)
  have b := V.int .f32 4 (by decide)
  rw [e1] at a
  rw [e4] at b
  rw [e0]
  exact V.op .quo rfl a b (fun _ => by grind) (by simp only [ex]; exact Rp4)
theorem tp_m4 : tp (-4) * 16 = 1 := by
  have h : tp (-4) * tp 4 = 1 := by rw [← tp_add]; exact tp_zero
  rwa [show tp 4 = 16 from (tp_nat 4).trans rfl] at h
theorem add_nil {x z : Nat} (hx : fnt .f32 x = true) (hb : fv .f32 x ≤ 1000000) (hb' : -fv .f32 x ≤ 1000000) (hz : V .f32 z 0) : fnt .f32 (fop .add .f32 x z) = true ∧ fv .f32 (fop .add .f32 x z) = fv .f32 x := by
  have t40 : tp 40 = 1099511627776 := (tp_nat 40).trans rfl
  have e : ex .add (fv .f32 x) (fv .f32 z) = fv .f32 x := by simp only [ex]; rw [hz.2]; grind
  obtain ⟨g0, g1⟩ := fop_rnd .add rfl .f32 hx hz.1 (by simp) 40 (by decide) (by rw [e, t40]; grind) (by rw [e, t40]; grind)
  rw [e] at g1
  exact ⟨g0, rnd_eq_wd hx g1 rfl⟩
theorem mul_nil {x z : Nat} (hx : fnt .f32 x = true) (hz : V .f32 z 0) : V .f32 (fop .mul .f32 x z) 0 := by
  have e : ex .mul (fv .f32 x) (fv .f32 z) = 0 := by simp only [ex]; rw [hz.2]; grind
  obtain ⟨g0, g1, g2⟩ := fop_btw .mul rfl .f32 hx hz.1 (by simp) Rp0 Rp0 (by rw [e]; exact Rat.le_refl) (by rw [e]; exact Rat.le_refl)
  exact ⟨g0, Rat.le_antisymm g2 g1⟩
section
variable {P : Rd} {n : Nat} {A C : Nat → Int} {M : Rat} {E G : EndT}
theorem GR.wb (h : GR P n A C M) {i : Nat} (hi : i < n) : 1 / 4 ≤ wR A C i ∧ wR A C i ≤ 16 := by
  obtain ⟨_, k1, k2⟩ := h.a i hi
  obtain ⟨_, k3, k4⟩ := h.c i hi
  have m1 : 1 * 1 ≤ A i * C i := Int.mul_le_mul k1 k3 (by omega) (by omega)
  have m2 : A i * C i ≤ 8 * 8 := Int.mul_le_mul k2 k4 (by omega) (by omega)
  have a1 := icast_le (show (1 : Int) ≤ A i * C i by omega)
  have a2 := icast_le (show A i * C i ≤ (64 : Int) by omega)
  have e1 : ((1 : Int) : Rat) = 1 := rfl
  have e2 : ((64 : Int) : Rat) = 64 := rfl
  rw [e1] at a1
  rw [e2] at a2
  unfold wR
  exact ⟨by grind, by grind⟩
theorem GR.mass (h : GR P n A C M) {i : Nat} (hi : i < n) : V .f32 (fop .mul .f32 (cn .f32 (P.a.getD i 0)) (cn .f32 (P.c.getD i 0))) (((A i * C i : Int) : Rat) / 16) := by
  obtain ⟨va, k1, k2⟩ := h.a i hi
  obtain ⟨vc, k3, k4⟩ := h.c i hi
  have m1 : 1 * 1 ≤ A i * C i := Int.mul_le_mul k1 k3 (by omega) (by omega)
  have m2 : A i * C i ≤ 8 * 8 := Int.mul_le_mul k2 k4 (by omega) (by omega)
  have e : ex .mul ((A i : Rat) / 4) ((C i : Rat) / 4) = ((A i * C i : Int) : Rat) / 16 := by simp only [ex]; rw [Rat.intCast_mul]; grind
  have r : Rep .f32 (((A i * C i : Int) : Rat) / 16) := rep_at (k := .f32) (A i * C i) (-4) (by show (A i * C i).natAbs < 2 ^ (23 + 1); omega) (by decide) (by decide) (by have := tp_m4; grind)
  have Q := V.op .mul rfl va vc (by simp) (by rw [e]; exact r)
  rwa [e] at Q
theorem GR.w (h : GR P n A C M) {i : Nat} (hi : i < n) : V .f32 (rwW P 1048576000 i) (wR A C i) := by
  obtain ⟨_, k1, k2⟩ := h.a i hi
  obtain ⟨_, k3, k4⟩ := h.c i hi
  have m1 : 1 * 1 ≤ A i * C i := Int.mul_le_mul k1 k3 (by omega) (by omega)
  have m2 : A i * C i ≤ 8 * 8 := Int.mul_le_mul k2 k4 (by omega) (by omega)
  have e : ex .quo (((A i * C i : Int) : Rat) / 16) ((1 : Rat) / 4) = ((A i * C i : Int) : Rat) / 4 := by simp only [ex]; grind
  have Q := V.op .quo rfl (h.mass hi) V25w (fun _ => by grind) (by rw [e]; exact rep_quarter (by omega))
  rwa [e] at Q
theorem GR.p (h : GR P n A C M) {N : Rat} (hE : GE E N) (hG : GE G N) {i : Nat} (hi : i ≤ n) : V .f32 (pG P E G i) (pR P E G i) ∧ 0 ≤ pR P E G i ∧ pR P E G i ≤ 16 := by
  obtain ⟨a, b, c⟩ := (h.pass hE hG hi).1
  exact ⟨⟨a, rfl⟩, b, c⟩
theorem GR.p8 (h : GR P n A C M) {N : Rat} (hE : GE E N) (hG : GE G N) (h1 : E.k = 1) (h2 : G.k = 1) {i : Nat} (hi : i ≤ n) : pR P E G i ≤ 8 := by
  have hn := h.hn
  unfold pR
  by_cases h0 : i = 0
  · rw [h0, pG_zero, endV_1 h1, V0.2]; decide
  · by_cases hl : i = n
    · rw [hl, ← h.la, pG_last (by rw [h.la]; omega), endV_1 h2, V0.2]; decide
    · exact ((h.pass hE hG hi).2 h0 hl).2.2
theorem GR.pz (h : GR P n A C M) (h1 : E.k = 1) (h2 : G.k = 1) : pR P E G 0 = 0 ∧ pR P E G n = 0 := by
  have hn := h.hn
  unfold pR
  constructor
  · rw [pG_zero, endV_1 h1, V0.2]
  · rw [← h.la, pG_last (by rw [h.la]; omega), endV_1 h2, V0.2]
/-- The pivots ahead of the elimination. -/
theorem GR.diag (h : GR P n A C M) {N B : Rat} (hE : GE E N) (hG : GE G N) {i : Nat} (hi : i < n) (hB : 0 ≤ B) (h1 : pR P E G i ≤ B) (h2 : pR P E G (i + 1) ≤ B) (h16 : B ≤ 16) :
    fnt .f32 (rwA P E G 1048576000 i) = true ∧ fv .f32 (rwA P E G 1048576000 i) - (wR A C i + pR P E G i + pR P E G (i + 1)) ≤ ((16 + B) + (16 + 2 * B) + 1) * uu ∧ (wR A C i + pR P E G i + pR P E G (i + 1)) - fv .f32 (rwA P E G 1048576000 i) ≤ ((16 + B) + (16 + 2 * B) + 1) * uu := by
  obtain ⟨vp, p0, _⟩ := h.p hE hG (i := i) (by omega)
  obtain ⟨vq, q0, _⟩ := h.p hE hG (i := i + 1) (by omega)
  have vw := h.w hi
  obtain ⟨w1, w2⟩ := h.wb hi
  have u0 : 0 < uu := by unfold uu; decide +kernel
  have u1 : 16700000 * uu = 1 := by unfold uu; decide +kernel
  obtain ⟨a0, a1, a2⟩ := fop_u .add rfl vw.1 vp.1 (by simp) (M := 16 + B) (by grind) (by grind) (by simp only [ex]; rw [vw.2, vp.2]; grind) (by simp only [ex]; rw [vw.2, vp.2]; grind)
  simp only [ex] at a1 a2
  rw [vw.2, vp.2] at a1 a2
  have k1 := Rat.mul_le_mul_of_nonneg_right h16 (Rat.le_of_lt u0)
  obtain ⟨b0, b1, b2⟩ := fop_u .add rfl a0 vq.1 (by simp) (M := 16 + 2 * B + 1) (by grind) (by grind) (by simp only [ex]; rw [vq.2]; grind) (by simp only [ex]; rw [vq.2]; grind)
  simp only [ex] at b1 b2
  rw [vq.2] at b1 b2
  unfold rwA
  exact ⟨b0, by grind, by grind⟩
/-- Shut ends. -/
theorem GR.rowsH (h : GR P n A C M) (hM : 1 / 1024 ≤ M ∧ M ≤ 1000) {N : Rat} (hE : GE E N) (hG : GE G N) (k1 : E.k = 1) (k2 : G.k = 1) (t1 : V .f32 (cn .f32 E.t) 0) (t2 : V .f32 (cn .f32 G.t) 0) :
    RowsH n (rwB P E G) (rwA P E G 1048576000) (rwX P E G) (rwS P E G 1048576000) (pR P E G) (wR A C) (fun i => wR A C i * xR P i) (fun _ => 0) M M 0 := by
  have hn := h.hn
  have u0 : 0 < uu := by unfold uu; decide +kernel
  have u1 : 16700000 * uu = 1 := by unfold uu; decide +kernel
  obtain ⟨z0, zn⟩ := h.pz k1 k2
  have key : ∀ i, i < n → wR A C i * xR P i ≤ wR A C i * M ∧ -(wR A C i * xR P i) ≤ wR A C i * M := fun i hi => by
    obtain ⟨w1, w2⟩ := h.wb hi
    obtain ⟨_, d1, d2⟩ := h.d i hi
    have a1 := Rat.mul_le_mul_of_nonneg_left d1 (show 0 ≤ wR A C i by grind)
    have a2 := Rat.mul_le_mul_of_nonneg_left d2 (show 0 ≤ wR A C i by grind)
    exact ⟨a1, by show -(wR A C i * fv .f32 (cn .f32 (P.d.getD i 0))) ≤ _; grind⟩
  have key2 : ∀ i, i < n → wR A C i * M ≤ 16 * M := fun i hi => Rat.mul_le_mul_of_nonneg_right (h.wb hi).2 (by grind)
  refine ⟨hn, hM, ⟨by grind, Rat.le_refl, by grind, by grind⟩, fun i hi => ⟨(h.p hE hG hi).2.1, h.p8 hE hG k1 k2 hi⟩, fun i hi => h.wb hi, fun i hi => ?_, fun i hi => ?_, fun i hi => ?_, fun i hi => ?_, fun i hi => ?_, fun i => ⟨Rat.le_refl, by grind⟩, ?_, fun i hi => ?_⟩
  · obtain ⟨v, _⟩ := h.p hE hG (i := i) (by omega)
    have := fneg_val v.1
    exact ⟨this.1, by show fv .f32 (fneg .f32 _) = _; rw [this.2]; rfl⟩
  · obtain ⟨v, _⟩ := h.p hE hG (i := i + 1) (by omega)
    have := fneg_val v.1
    exact ⟨this.1, by show fv .f32 (fneg .f32 _) = _; rw [this.2]; rfl⟩
  · have := h.diag hE hG hi (B := 8) (by decide) (h.p8 hE hG k1 k2 (by omega)) (h.p8 hE hG k1 k2 (by omega)) (by decide)
    exact ⟨this.1, by have := this.2.1; grind, by have := this.2.2; grind⟩
  · obtain ⟨d0, d1, d2⟩ := h.d i hi
    obtain ⟨c1, c2⟩ := key i hi
    have c3 := key2 i hi
    have vw := h.w hi
    obtain ⟨a0, a1, a2⟩ := fop_u .mul rfl vw.1 d0 (by simp) (M := 16 * M) (by grind) (by grind) (by simp only [ex]; rw [vw.2]; exact Rat.le_trans c1 c3) (by simp only [ex]; rw [vw.2]; exact Rat.le_trans c2 c3)
    simp only [ex] at a1 a2
    rw [vw.2] at a1 a2
    have a0 : fnt .f32 (rwS0 P 1048576000 i) = true := a0
    have a1 : fv .f32 (rwS0 P 1048576000 i) - wR A C i * xR P i ≤ 16 * M * uu := a1
    have a2 : wR A C i * xR P i - fv .f32 (rwS0 P 1048576000 i) ≤ 16 * M * uu := a2
    have mu : 16700000 * (M * uu) = M := by grind
    have s1 : fnt .f32 (rwS1 P E G 1048576000 i) = true ∧ fv .f32 (rwS1 P E G 1048576000 i) = fv .f32 (rwS0 P 1048576000 i) := by
      unfold rwS1
      by_cases h0 : i = 0
      · rw [if_pos h0]
        exact add_nil a0 (by grind) (by grind) (mul_nil (h.p hE hG (i := 0) (by omega)).1.1 t1)
      · rw [if_neg h0]; exact ⟨a0, rfl⟩
    have s2 : fnt .f32 (rwS P E G 1048576000 i) = true ∧ fv .f32 (rwS P E G 1048576000 i) = fv .f32 (rwS0 P 1048576000 i) := by
      unfold rwS
      by_cases h0 : i + 1 = P.a.length
      · rw [if_pos h0]
        have := add_nil s1.1 (by rw [s1.2]; grind) (by rw [s1.2]; grind) (mul_nil (h.p hE hG (i := i + 1) (by omega)).1.1 t2)
        exact ⟨this.1, this.2.trans s1.2⟩
      · rw [if_neg h0]; exact s1
    exact ⟨s2.1, by rw [s2.2]; grind, by rw [s2.2]; grind⟩
  · obtain ⟨c1, c2⟩ := key i hi
    have c3 := key2 i hi
    exact ⟨by show wR A C i * xR P i ≤ _; grind, by show -(wR A C i * xR P i) ≤ _; grind⟩
  · obtain ⟨c1, c2⟩ := key 0 (by omega)
    have q := qR_sum (pR P E G) n 0
    have ql : 0 ≤ qlR (pR P E G) n 0 := by
      have := (h.p hE hG (i := 0 + 1) (by omega)).2.1
      unfold qlR; split <;> grind
    have m := Rat.mul_nonneg ql (show 0 ≤ M by grind)
    constructor
    · show wR A C 0 * xR P 0 - _ ≤ _
      rw [z0]; grind
    · show _ - wR A C 0 * xR P 0 ≤ _
      rw [z0]; grind
  · obtain ⟨c1, c2⟩ := key (i + 1) hi
    have ql : 0 ≤ qlR (pR P E G) n (i + 1) := by
      have := (h.p hE hG (i := i + 1 + 1) (by omega)).2.1
      unfold qlR; split <;> grind
    have m := Rat.mul_nonneg ql (show 0 ≤ M by grind)
    constructor
    · show wR A C (i + 1) * xR P (i + 1) - _ ≤ _
      grind
    · show _ - wR A C (i + 1) * xR P (i + 1) ≤ _
      grind
/-- A sum. -/
def sumQ (f : Nat → Rat) : Nat → Rat
  | 0 => 0
  | k + 1 => sumQ f k + f k
/-- What is exchanged between cells stays in the rod. -/
theorem flux_sum {n : Nat} {p W X y : Nat → Rat} : ∀ k, k < n →
    sumQ (fun i => (W i + p i + p (i + 1)) * y i - (if i = 0 then 0 else p i * y (i - 1)) - qiR p n i * y (i + 1) - W i * X i) (k + 1) = sumQ (fun i => W i * (y i - X i)) (k + 1) + p 0 * y 0 + (p (k + 1) * y k - qiR p n k * y (k + 1))
  | 0, hk => by
    simp only [sumQ, if_pos rfl]
    grind
  | k + 1, hk => by
    have ih := flux_sum (n := n) (W := W) (X := X) (p := p) (y := y) k (by omega)
    show sumQ _ (k + 1) + _ = sumQ _ (k + 1) + _ + _ + _
    rw [ih, qiR_in (p := p) (n := n) (i := k) hk]
    simp only [if_neg (show ¬ k + 1 = 0 by omega), show k + 1 - 1 = k by omega]
    grind
theorem sumQ_bd {f : Nat → Rat} {B : Rat} : ∀ k, (∀ i, i < k → f i ≤ B ∧ -f i ≤ B) → sumQ f k ≤ (k : Rat) * B ∧ -sumQ f k ≤ (k : Rat) * B
  | 0, _ => by
    have e : ((0 : Nat) : Rat) = 0 := rfl
    simp only [sumQ]; rw [e]; exact ⟨by grind, by grind⟩
  | k + 1, h => by
    obtain ⟨a, b⟩ := sumQ_bd k (fun i hi => h i (by omega))
    obtain ⟨c, d⟩ := h k (by omega)
    have e : ((k + 1 : Nat) : Rat) = (k : Rat) + 1 := by rw [Rat.natCast_add]; rfl
    simp only [sumQ]; rw [e]
    exact ⟨by grind, by grind⟩
/-- How much heat is lost or won in a tick. -/
theorem GR.kept (h : GR P n A C M) (hM : 1 / 1024 ≤ M ∧ M ≤ 1000) {N : Rat} (hE : GE E N) (hG : GE G N) (k1 : E.k = 1) (k2 : G.k = 1) (t1 : V .f32 (cn .f32 E.t) 0) (t2 : V .f32 (cn .f32 G.t) 0) :
    (∀ i, i < n → fnt .f32 (solO (rwB P E G) (rwA P E G 1048576000) (rwX P E G) (rwS P E G 1048576000) n i) = true ∧ fv .f32 (solO (rwB P E G) (rwA P E G 1048576000) (rwX P E G) (rwS P E G 1048576000) n i) ≤ M + M / 1000 ∧ -fv .f32 (solO (rwB P E G) (rwA P E G 1048576000) (rwX P E G) (rwS P E G 1048576000) n i) ≤ M + M / 1000) ∧
    sumQ (fun i => wR A C i * (fv .f32 (solO (rwB P E G) (rwA P E G 1048576000) (rwX P E G) (rwS P E G 1048576000) n i) - xR P i)) n ≤ 1860 * (M * uu) ∧
    -sumQ (fun i => wR A C i * (fv .f32 (solO (rwB P E G) (rwA P E G 1048576000) (rwX P E G) (rwS P E G 1048576000) n i) - xR P i)) n ≤ 1860 * (M * uu) := by
  have R := h.rowsH hM hE hG k1 k2 t1 t2
  obtain ⟨u0, u1, u2, u3⟩ := R.mu
  have hn := h.hn
  obtain ⟨z0, zn⟩ := h.pz k1 k2
  refine ⟨fun i hi => ?_, ?_⟩
  · have Y := R.y hi
    exact ⟨Y.f, by have := Y.y1; grind, by have := Y.y2; grind⟩
  · obtain ⟨m, hm⟩ : ∃ m, n = m + 1 := ⟨n - 1, by omega⟩
    have S := flux_sum (n := n) (p := pR P E G) (W := wR A C) (X := xR P) (y := fun i => fv .f32 (solO (rwB P E G) (rwA P E G 1048576000) (rwX P E G) (rwS P E G 1048576000) n i)) m (by omega)
    have B := sumQ_bd (f := fun i => (wR A C i + pR P E G i + pR P E G (i + 1)) * fv .f32 (solO (rwB P E G) (rwA P E G 1048576000) (rwX P E G) (rwS P E G 1048576000) n i) - (if i = 0 then 0 else pR P E G i * fv .f32 (solO (rwB P E G) (rwA P E G 1048576000) (rwX P E G) (rwS P E G 1048576000) n (i - 1))) - qiR (pR P E G) n i * fv .f32 (solO (rwB P E G) (rwA P E G 1048576000) (rwX P E G) (rwS P E G 1048576000) n (i + 1)) - wR A C i * xR P i) (B := 310 * (M * uu)) n (fun i hi => by
      have r := R.res hi
      exact ⟨by have := r.1; grind, by have := r.2; grind⟩)
    rw [← hm] at S
    rw [S, z0, qiR_last (show ¬ m + 1 < n by omega), show pR P E G n = 0 from zn] at B
    have kn : (n : Rat) ≤ ((6 : Nat) : Rat) := by exact_mod_cast hn.2
    have e6 : ((6 : Nat) : Rat) = 6 := rfl
    rw [e6] at kn
    have k3 := Rat.mul_le_mul_of_nonneg_right kn (show 0 ≤ 310 * (M * uu) by grind)
    exact ⟨by have := B.1; grind, by have := B.2; grind⟩
end
end Go.Proofs.Ytpnkapdemgieaaa
set_option linter.unusedSimpArgs false
set_option linter.unusedVariables false
set_option linter.unusedSectionVars false
namespace Go.Proofs.Ytpnkapdemgieaaa
open Go Go.RowKit
/-- The heat of a rod, exactly, four times. -/
def hR (P : Rd) (A C : Nat → Int) (k : Nat) : Rat := sumQ (fun i => wR A C i * xR P i) k
theorem sumQ_sub {f g : Nat → Rat} : ∀ k, sumQ (fun i => f i - g i) k = sumQ f k - sumQ g k
  | 0 => by simp only [sumQ]; grind
  | k + 1 => by simp only [sumQ]; rw [sumQ_sub k]; grind
theorem sumQ_congr {f g : Nat → Rat} : ∀ k, (∀ i, i < k → f i = g i) → sumQ f k = sumQ g k
  | 0, _ => rfl
  | k + 1, h => by simp only [sumQ]; rw [sumQ_congr k (fun i hi => h i (by omega)), h k (by omega)]
section
variable {P : Rd} {n : Nat} {A C : Nat → Int} {M : Rat} {E G : EndT}
/-- The heat as it is drawn, near. -/
theorem GR.heat (h : GR P n A C M) {B : Rat} (hB : 1 / 1024 ≤ B ∧ B ≤ 100000) (hb : ∀ i, i < n → wR A C i * xR P i ≤ 4 * B ∧ -(wR A C i * xR P i) ≤ 4 * B) : ∀ k, k ≤ n → fnt .f32 (heatK P k) = true ∧ 4 * fv .f32 (heatK P k) - hR P A C k ≤ (k : Rat) * (30 * (B * uu)) ∧ hR P A C k - 4 * fv .f32 (heatK P k) ≤ (k : Rat) * (30 * (B * uu)) ∧ hR P A C k ≤ (k : Rat) * (4 * B) ∧ -hR P A C k ≤ (k : Rat) * (4 * B)
  | 0, _ => by
    have e : ((0 : Nat) : Rat) = 0 := rfl
    rw [e]
    refine ⟨V0.1, ?_, ?_, ?_, ?_⟩
    · show 4 * fv .f32 (cn .f32 0) - 0 ≤ _; rw [V0.2]; grind
    · show 0 - 4 * fv .f32 (cn .f32 0) ≤ _; rw [V0.2]; grind
    · show (0 : Rat) ≤ _; grind
    · show -(0 : Rat) ≤ _; grind
  | k + 1, hk => by
    obtain ⟨a0, a1, a2, a3, a4⟩ := h.heat hB hb k (by omega)
    have u0 : 0 < uu := by unfold uu; decide +kernel
    have u1 : 16700000 * uu = 1 := by unfold uu; decide +kernel
    have u2 : 16700000 * (B * uu) = B := by grind
    have u3 : 0 < B * uu := Rat.mul_pos (by grind) u0
    have hn := h.hn
    have kb : (k : Rat) ≤ ((5 : Nat) : Rat) := by exact_mod_cast (by omega : k ≤ 5)
    have k0 : (0 : Rat) ≤ (k : Rat) := by exact_mod_cast Nat.zero_le k
    have e5 : ((5 : Nat) : Rat) = 5 := rfl
    rw [e5] at kb
    have e : ((k + 1 : Nat) : Rat) = (k : Rat) + 1 := by rw [Rat.natCast_add]; rfl
    have vm := h.mass (i := k) (by omega)
    obtain ⟨d0, _, _⟩ := h.d k (by omega)
    obtain ⟨b1, b2⟩ := hb k (by omega)
    have kb1 := Rat.mul_le_mul_of_nonneg_right kb (show 0 ≤ 4 * B by grind)
    have kb2 := Rat.mul_le_mul_of_nonneg_right kb (show 0 ≤ 30 * (B * uu) by grind)
    have em : ((A k * C k : Int) : Rat) / 16 * fv .f32 (cn .f32 (P.d.getD k 0)) = wR A C k * xR P k / 4 := by unfold wR xR; grind
    obtain ⟨c0, c1, c2⟩ := fop_u .mul rfl vm.1 d0 (by simp) (M := B) (by grind) (by grind) (by simp only [ex]; rw [vm.2, em]; grind) (by simp only [ex]; rw [vm.2, em]; grind)
    simp only [ex] at c1 c2
    rw [vm.2, em] at c1 c2
    obtain ⟨g0, g1, g2⟩ := fop_u .add rfl a0 c0 (by simp) (M := 65 / 10 * B) (by grind) (by grind) (by simp only [ex]; grind) (by simp only [ex]; grind)
    simp only [ex] at g1 g2
    have eh : heatK P (k + 1) = fop .add .f32 (heatK P k) (fop .mul .f32 (fop .mul .f32 (cn .f32 (P.a.getD k 0)) (cn .f32 (P.c.getD k 0))) (cn .f32 (P.d.getD k 0))) := rfl
    have es : hR P A C (k + 1) = hR P A C k + wR A C k * xR P k := rfl
    rw [eh, es, e]
    exact ⟨g0, by grind, by grind, by grind, by grind⟩
/-- Bounds behind some ticks. -/
def mK (M : Rat) : Nat → Rat
  | 0 => M
  | k + 1 => mK M k + mK M k / 1000
theorem mK_le {M : Rat} (h : 0 ≤ M) : ∀ k, k ≤ 5 → M ≤ mK M k ∧ mK M k ≤ M + (k : Rat) * (M / 990)
  | 0, _ => by
    have e : ((0 : Nat) : Rat) = 0 := rfl
    show M ≤ M ∧ M ≤ _
    rw [e]; exact ⟨Rat.le_refl, by grind⟩
  | k + 1, hk => by
    obtain ⟨a, b⟩ := mK_le h k (by omega)
    have e : ((k + 1 : Nat) : Rat) = (k : Rat) + 1 := by rw [Rat.natCast_add]; rfl
    have kb : (k : Rat) ≤ ((5 : Nat) : Rat) := by exact_mod_cast (by omega : k ≤ 5)
    have e5 : ((5 : Nat) : Rat) = 5 := rfl
    rw [e5] at kb
    have k1 := Rat.mul_le_mul_of_nonneg_right kb (show 0 ≤ M / 990 by grind)
    show M ≤ mK M k + mK M k / 1000 ∧ mK M k + mK M k / 1000 ≤ _
    rw [e]
    exact ⟨by grind, by grind⟩
theorem solL_at {b a x s : Nat → Nat} {n i : Nat} (h : i < n) : (solL b a x s n).getD i 0 = solO b a x s n i := by
  unfold solL
  rw [List.getD_eq_getElem?_getD, List.getElem?_map, List.getElem?_range h]; rfl
theorem cn_solO (b a x s : Nat → Nat) (n i : Nat) : cn .f32 (solO b a x s n i) = solO b a x s n i := cn_bkO _ _ _ _ _ _
/-- A rod of other warmths. -/
theorem GR.with (h : GR P n A C M) {L : List Nat} {M' : Rat} (hl : L.length = n) (hL : ∀ i, i < n → fnt .f32 (cn .f32 (L.getD i 0)) = true ∧ fv .f32 (cn .f32 (L.getD i 0)) ≤ M' ∧ -fv .f32 (cn .f32 (L.getD i 0)) ≤ M') : GR ⟨P.a, P.b, P.c, L⟩ n A C M' :=
  ⟨h.hn, h.la, h.lb, h.lc, hl, h.a, h.b, h.c, hL⟩
theorem GR.tick (h : GR P n A C M) (hM : 1 / 1024 ≤ M ∧ M ≤ 1000) {N : Rat} (hE : GE E N) (hG : GE G N) (k1 : E.k = 1) (k2 : G.k = 1) (t1 : V .f32 (cn .f32 E.t) 0) (t2 : V .f32 (cn .f32 G.t) 0) :
    GR (rwsR P E G 1048576000) n A C (M + M / 1000) ∧ rwsOk P E G 1048576000 = true ∧ hR (rwsR P E G 1048576000) A C n - hR P A C n ≤ 1860 * (M * uu) ∧ hR P A C n - hR (rwsR P E G 1048576000) A C n ≤ 1860 * (M * uu) := by
  obtain ⟨y, s1, s2⟩ := h.kept hM hE hG k1 k2 t1 t2
  have hl : (rwsL P E G 1048576000).length = n := by unfold rwsL; rw [solL_len, h.la]
  have hat : ∀ i, i < n → cn .f32 ((rwsL P E G 1048576000).getD i 0) = solO (rwB P E G) (rwA P E G 1048576000) (rwX P E G) (rwS P E G 1048576000) n i := fun i hi => by
    unfold rwsL
    rw [h.la, solL_at hi, cn_solO]
  have R : GR (rwsR P E G 1048576000) n A C (M + M / 1000) := h.with hl (fun i hi => by rw [hat i hi]; exact y i hi)
  have ok : rwsOk P E G 1048576000 = true := by
    unfold rwsOk rwsPre
    rw [h.passOk hE hG, R.ok, abv_of V25w.1 (by rw [V25w.2]; grind)]; rfl
  have es : sumQ (fun i => wR A C i * (fv .f32 (solO (rwB P E G) (rwA P E G 1048576000) (rwX P E G) (rwS P E G 1048576000) n i) - xR P i)) n = hR (rwsR P E G 1048576000) A C n - hR P A C n := by
    unfold hR
    rw [← sumQ_sub]
    refine sumQ_congr n (fun i hi => ?_)
    have : xR (rwsR P E G 1048576000) i = fv .f32 (solO (rwB P E G) (rwA P E G 1048576000) (rwX P E G) (rwS P E G 1048576000) n i) := by
      show fv .f32 (cn .f32 ((rwsL P E G 1048576000).getD i 0)) = _
      rw [hat i hi]
    rw [this]; grind
  rw [es] at s1 s2
  exact ⟨R, ok, s1, by grind⟩
/-- Five ticks. -/
theorem GR.run (h : GR P n A C M) (hM : 1 / 1024 ≤ M ∧ M ≤ 100) {N : Rat} (hE : GE E N) (hG : GE G N) (k1 : E.k = 1) (k2 : G.k = 1) (t1 : V .f32 (cn .f32 E.t) 0) (t2 : V .f32 (cn .f32 G.t) 0) :
    ∀ k, k ≤ 5 → GR (runR true E G 1048576000 P k) n A C (mK M k) ∧ runO true E G 1048576000 P k = true ∧ hR (runR true E G 1048576000 P k) A C n - hR P A C n ≤ (k : Rat) * (1872 * (M * uu)) ∧ hR P A C n - hR (runR true E G 1048576000 P k) A C n ≤ (k : Rat) * (1872 * (M * uu))
  | 0, _ => by
    have e : ((0 : Nat) : Rat) = 0 := rfl
    rw [e]
    exact ⟨h, rfl, by show hR P A C n - hR P A C n ≤ _; grind, by show hR P A C n - hR P A C n ≤ _; grind⟩
  | k + 1, hk => by
    obtain ⟨R, ok, a, b⟩ := h.run hM hE hG k1 k2 t1 t2 k (by omega)
    obtain ⟨m1, m2⟩ := mK_le (M := M) (by grind) k (by omega)
    have kb : (k : Rat) ≤ ((5 : Nat) : Rat) := by exact_mod_cast (by omega : k ≤ 5)
    have e5 : ((5 : Nat) : Rat) = 5 := rfl
    rw [e5] at kb
    have k3 := Rat.mul_le_mul_of_nonneg_right kb (show 0 ≤ M / 990 by grind)
    have m3 : mK M k ≤ 1006 / 1000 * M := by grind
    obtain ⟨R', ok', a', b'⟩ := R.tick ⟨by grind, by grind⟩ hE hG k1 k2 t1 t2
    have u0 : 0 < uu := by unfold uu; decide +kernel
    have mu := Rat.mul_le_mul_of_nonneg_right m3 (Rat.le_of_lt u0)
    have e : ((k + 1 : Nat) : Rat) = (k : Rat) + 1 := by rw [Rat.natCast_add]; rfl
    have er : runR true E G 1048576000 P (k + 1) = rwsR (runR true E G 1048576000 P k) E G 1048576000 := rfl
    have eo : runO true E G 1048576000 P (k + 1) = (runO true E G 1048576000 P k && rwsOk (runR true E G 1048576000 P k) E G 1048576000) := rfl
    have em : mK M (k + 1) = mK M k + mK M k / 1000 := rfl
    rw [er, eo, em, e, ok, ok']
    exact ⟨R', rfl, by grind, by grind⟩
/-- The heats of a run, near the first. -/
theorem GR.heats (h : GR P n A C M) (hM : 1 / 1024 ≤ M ∧ M ≤ 100) {N : Rat} (hE : GE E N) (hG : GE G N) (k1 : E.k = 1) (k2 : G.k = 1) (t1 : V .f32 (cn .f32 E.t) 0) (t2 : V .f32 (cn .f32 G.t) 0) {k : Nat} (hk : k ≤ 5) :
    fnt .f32 (htV (runR true E G 1048576000 P k)) = true ∧ 4 * fv .f32 (htV (runR true E G 1048576000 P k)) - hR P A C n ≤ 10200 * (M * uu) ∧ hR P A C n - 4 * fv .f32 (htV (runR true E G 1048576000 P k)) ≤ 10200 * (M * uu) := by
  obtain ⟨R, ok, a, b⟩ := h.run hM hE hG k1 k2 t1 t2 k hk
  obtain ⟨m1, m2⟩ := mK_le (M := M) (by grind) k hk
  have kb : (k : Rat) ≤ ((5 : Nat) : Rat) := by exact_mod_cast hk
  have e5 : ((5 : Nat) : Rat) = 5 := rfl
  rw [e5] at kb
  have k3 := Rat.mul_le_mul_of_nonneg_right kb (show 0 ≤ M / 990 by grind)
  have m3 : mK M k ≤ 1006 / 1000 * M := by grind
  have u0 : 0 < uu := by unfold uu; decide +kernel
  have u3 : 0 < M * uu := Rat.mul_pos (by grind) u0
  have hn := h.hn
  have H := R.heat (B := 4 * mK M k) ⟨by grind, by grind⟩ (fun i hi => by
    obtain ⟨w1, w2⟩ := h.wb hi
    obtain ⟨_, d1, d2⟩ := R.d i hi
    have a1 := Rat.mul_le_mul_of_nonneg_left d1 (show 0 ≤ wR A C i by grind)
    have a2 := Rat.mul_le_mul_of_nonneg_left d2 (show 0 ≤ wR A C i by grind)
    have a3 := Rat.mul_le_mul_of_nonneg_right w2 (show 0 ≤ mK M k by grind)
    exact ⟨by show wR A C i * fv .f32 (cn .f32 ((runR true E G 1048576000 P k).d.getD i 0)) ≤ _; grind, by show -(wR A C i * fv .f32 (cn .f32 ((runR true E G 1048576000 P k).d.getD i 0))) ≤ _; grind⟩) n (Nat.le_refl _)
  have la : (runR true E G 1048576000 P k).a.length = n := R.la
  unfold htV
  rw [la]
  obtain ⟨h0, h1, h2, _⟩ := H
  have nb : (n : Rat) ≤ ((6 : Nat) : Rat) := by exact_mod_cast hn.2
  have e6 : ((6 : Nat) : Rat) = 6 := rfl
  rw [e6] at nb
  have mu := Rat.mul_le_mul_of_nonneg_right m3 (Rat.le_of_lt u0)
  have n1 := Rat.mul_le_mul_of_nonneg_right nb (show 0 ≤ 30 * (4 * mK M k * uu) by have := Rat.mul_nonneg (show 0 ≤ mK M k by grind) (Rat.le_of_lt u0); grind)
  have k4 := Rat.mul_le_mul_of_nonneg_right kb (show 0 ≤ 1872 * (M * uu) by grind)
  exact ⟨h0, by grind, by grind⟩
end
end Go.Proofs.Ytpnkapdemgieaaa
set_option linter.unusedSimpArgs false
set_option linter.unusedVariables false
set_option linter.unusedSectionVars false
namespace Go.Proofs.Ytpnkapdemgieaaa
open Go Go.RowKit
/-- A drawn rod. -/
structure DR (P : Rd) (n : Nat) (A C T : Nat → Int) : Prop where
  g : GR P n A C 8
  t : ∀ i, i < n → V .f32 (cn .f32 (P.d.getD i 0)) ((T i : Rat) / 2) ∧ -16 ≤ T i ∧ T i ≤ 16
def sumZ (f : Nat → Int) : Nat → Int
  | 0 => 0
  | k + 1 => sumZ f k + f k
theorem sumZ_bd {f : Nat → Int} {B : Int} : ∀ k, (∀ i, i < k → -B ≤ f i ∧ f i ≤ B) → -(k * B) ≤ sumZ f k ∧ sumZ f k ≤ k * B
  | 0, _ => by simp [sumZ]
  | k + 1, h => by
    obtain ⟨a, b⟩ := sumZ_bd k (fun i hi => h i (by omega))
    obtain ⟨c, d⟩ := h k (by omega)
    have e : ((k + 1 : Nat) : Int) * B = k * B + B := by rw [Int.natCast_add, Int.add_mul]; simp
    simp only [sumZ]
    rw [e]
    exact ⟨by omega, by omega⟩
theorem act_bd {a c t : Int} (h1 : 1 ≤ a ∧ a ≤ 8) (h2 : 1 ≤ c ∧ c ≤ 8) (h3 : -16 ≤ t ∧ t ≤ 16) : (1 ≤ a * c ∧ a * c ≤ 64) ∧ -1024 ≤ a * c * t ∧ a * c * t ≤ 1024 := by
  have m1 : 1 * 1 ≤ a * c := Int.mul_le_mul h1.1 h2.1 (by omega) (by omega)
  have m2 : a * c ≤ 8 * 8 := Int.mul_le_mul h1.2 h2.2 (by omega) (by omega)
  have m3 : a * c * t ≤ 64 * 16 := by
    by_cases ht : 0 ≤ t
    · exact Int.mul_le_mul (by omega) (by omega) ht (by omega)
    · have := Int.mul_nonneg (show 0 ≤ a * c by omega) (show 0 ≤ -t by omega)
      rw [Int.mul_neg] at this; omega
  have m4 : a * c * (-t) ≤ 64 * 16 := by
    by_cases ht : 0 ≤ -t
    · exact Int.mul_le_mul (by omega) (by omega) ht (by omega)
    · have := Int.mul_nonneg (show 0 ≤ a * c by omega) (show 0 ≤ t by omega)
      rw [Int.mul_neg]; omega
  rw [Int.mul_neg] at m4
  exact ⟨⟨by omega, by omega⟩, by omega, by omega⟩
theorem tp_m5 : tp (-5) * 32 = 1 := by
  have h : tp (-5) * tp 5 = 1 := by rw [← tp_add]; exact tp_zero
  rwa [show tp 5 = 32 from (tp_nat 5).trans rfl] at h
theorem rep32 {z : Int} (h : z.natAbs < 16777216) : Rep .f32 ((z : Rat) / 32) := rep_at (k := .f32) z (-5) (by show z.natAbs < 2 ^ (23 + 1); omega) (by decide) (by decide) (by have := tp_m5; grind)
theorem rep32d {z : Int} (h : z.natAbs < 16777216) : Rep .f64 ((z : Rat) / 32) := rep64 z (-5) (by omega) (by decide) (by decide) (by have := tp_m5; grind)
section
variable {P : Rd} {n : Nat} {A C T : Nat → Int}
theorem DR.b (h : DR P n A C T) {i : Nat} (hi : i < n) : (1 ≤ A i * C i ∧ A i * C i ≤ 64) ∧ -1024 ≤ A i * C i * T i ∧ A i * C i * T i ≤ 1024 := act_bd (h.g.a i hi).2 (h.g.c i hi).2 (h.t i hi).2
theorem DR.x (h : DR P n A C T) {i : Nat} (hi : i < n) : xR P i = (T i : Rat) / 2 := (h.t i hi).1.2
/-- The heat, exactly. -/
theorem DR.heat (h : DR P n A C T) : ∀ k, k ≤ n → V .f32 (heatK P k) (((sumZ (fun i => A i * C i * T i) k : Int) : Rat) / 32) ∧ hR P A C k = ((sumZ (fun i => A i * C i * T i) k : Int) : Rat) / 8
  | 0, _ => by
    refine ⟨V0.eq ?_, ?_⟩
    · show (0 : Rat) = ((0 : Int) : Rat) / 32
      have e : ((0 : Int) : Rat) = 0 := rfl
      rw [e]; grind
    · show (0 : Rat) = ((0 : Int) : Rat) / 8
      have e : ((0 : Int) : Rat) = 0 := rfl
      rw [e]; grind
  | k + 1, hk => by
    obtain ⟨a, b⟩ := h.heat k (by omega)
    have hn := h.g.hn
    obtain ⟨⟨c1, c2⟩, c3, c4⟩ := h.b (i := k) (by omega)
    obtain ⟨vd, _⟩ := h.t k (by omega)
    have vm := h.g.mass (i := k) (by omega)
    obtain ⟨s1, s2⟩ := sumZ_bd (f := fun i => A i * C i * T i) (B := 1024) k (fun i hi => (h.b (i := i) (by omega)).2)
    have kb : (k : Int) * 1024 ≤ 5 * 1024 := Int.mul_le_mul_of_nonneg_right (by omega) (by decide)
    have es : sumZ (fun i => A i * C i * T i) (k + 1) = sumZ (fun i => A i * C i * T i) k + A k * C k * T k := rfl
    have e1 : ex .mul (((A k * C k : Int) : Rat) / 16) ((T k : Rat) / 2) = ((A k * C k * T k : Int) : Rat) / 32 := by simp only [ex]; rw [Rat.intCast_mul (A k * C k) (T k)]; grind
    have Q := V.op .mul rfl vm vd (by simp) (by rw [e1]; exact rep32 (by omega))
    rw [e1] at Q
    have e2 : ex .add (((sumZ (fun i => A i * C i * T i) k : Int) : Rat) / 32) (((A k * C k * T k : Int) : Rat) / 32) = ((sumZ (fun i => A i * C i * T i) (k + 1) : Int) : Rat) / 32 := by simp only [ex]; rw [es, Rat.intCast_add]; grind
    have R := V.op .add rfl a Q (by simp) (by rw [e2]; exact rep32 (by rw [es]; omega))
    rw [e2] at R
    refine ⟨R, ?_⟩
    show hR P A C k + wR A C k * xR P k = _
    rw [b, h.x (i := k) (by omega), es, Rat.intCast_add, Rat.intCast_mul (A k * C k) (T k)]
    unfold wR
    grind
/-- How great a rod is, as the law draws it. -/
def szW (P : Rd) : Nat → Nat
  | 0 => cn .f64 4607182418800017408
  | k + 1 => fop .add .f64 (szW P k) (fop .mul .f64 (fop .mul .f64 (wide (cn .f32 (P.a.getD k 0))) (wide (cn .f32 (P.c.getD k 0)))) (gap8 (wide (cn .f32 (P.d.getD k 0))) (cn .f64 0)))
theorem Vone : V .f64 (cn .f64 4607182418800017408) 1 := ⟨by decide +kernel, by decide +kernel⟩
theorem Vnil : V .f64 (cn .f64 0) 0 := ⟨by decide +kernel, by decide +kernel⟩
theorem wide_v {x : Nat} {q : Rat} (h : V .f32 x q) : V .f64 (wide x) q := by
  obtain ⟨a, b⟩ := wide_val h.1
  exact ⟨a, by rw [b, h.2]⟩
/-- The amount of a small number. -/
theorem gap_abs {x : Nat} {t : Int} (h : V .f32 x ((t : Rat) / 2)) (ht : -16 ≤ t ∧ t ≤ 16) : gapOk (wide x) (cn .f64 0) ∧ V .f64 (gap8 (wide x) (cn .f64 0)) (((t.natAbs : Int) : Rat) / 2) := by
  have w := wide_v h
  have r : ∀ z : Int, z.natAbs ≤ 16 → Rep .f64 ((z : Rat) / 2) := fun z hz => rep64 z (-1) (by omega) (by decide) (by decide) (by have := tp_n1; grind)
  have e1 : ex .sub ((t : Rat) / 2) 0 = (t : Rat) / 2 := by simp only [ex]; grind
  have e2 : ex .sub 0 ((t : Rat) / 2) = ((-t : Int) : Rat) / 2 := by simp only [ex]; rw [Rat.intCast_neg]; grind
  have a := V.op .sub rfl w Vnil (by simp) (by rw [e1]; exact r t (by omega))
  have b := V.op .sub rfl Vnil w (by simp) (by rw [e2]; exact r (-t) (by omega))
  rw [e1] at a
  rw [e2] at b
  refine ⟨⟨a.1, b.1⟩, ?_⟩
  obtain ⟨g1, g2, g3, g4⟩ := fmax64_val a.1 b.1
  refine ⟨g1, ?_⟩
  show fv .f64 (fmax64 _ _) = _
  have g5 : fv .f64 (fmax64 (fop .sub .f64 (wide x) (cn .f64 0)) (fop .sub .f64 (cn .f64 0) (wide x))) = (t : Rat) / 2 ∨ fv .f64 (fmax64 (fop .sub .f64 (wide x) (cn .f64 0)) (fop .sub .f64 (cn .f64 0) (wide x))) = -(t : Rat) / 2 := by
    rcases g4 with e | e
    · left; rw [e]; exact a.2
    · right; rw [e, b.2, Rat.intCast_neg]
  rw [a.2] at g2
  rw [b.2, Rat.intCast_neg] at g3
  clear g4
  generalize fv .f64 (fmax64 (fop .sub .f64 (wide x) (cn .f64 0)) (fop .sub .f64 (cn .f64 0) (wide x))) = F at *
  by_cases h0 : 0 ≤ t
  · have e : (t.natAbs : Int) = t := by omega
    have h1 : ((0 : Int) : Rat) ≤ (t : Rat) := icast_le h0
    have z : ((0 : Int) : Rat) = 0 := rfl
    rw [z] at h1
    rw [e]
    rcases g5 with g5 | g5 <;> grind
  · have e : (t.natAbs : Int) = -t := by omega
    have h1 : (t : Rat) ≤ ((0 : Int) : Rat) := icast_le (by omega)
    have z : ((0 : Int) : Rat) = 0 := rfl
    rw [z] at h1
    rw [e, Rat.intCast_neg]
    rcases g5 with g5 | g5 <;> grind
theorem DR.size (h : DR P n A C T) : ∀ k, k ≤ n → V .f64 (szW P k) (1 + ((sumZ (fun i => A i * C i * ((T i).natAbs : Int)) k : Int) : Rat) / 32) ∧ 0 ≤ sumZ (fun i => A i * C i * ((T i).natAbs : Int)) k ∧ sumZ (fun i => A i * C i * ((T i).natAbs : Int)) k ≤ k * 1024
  | 0, _ => by
    refine ⟨Vone.eq ?_, by simp [sumZ], by simp [sumZ]⟩
    show (1 : Rat) = 1 + ((0 : Int) : Rat) / 32
    have e : ((0 : Int) : Rat) = 0 := rfl
    rw [e]; grind
  | k + 1, hk => by
    obtain ⟨a, b, c⟩ := h.size k (by omega)
    have hn := h.g.hn
    obtain ⟨⟨c1, c2⟩, _⟩ := h.b (i := k) (by omega)
    obtain ⟨va, ka⟩ := h.g.a k (by omega)
    obtain ⟨vc, kc⟩ := h.g.c k (by omega)
    obtain ⟨vd, kd⟩ := h.t k (by omega)
    obtain ⟨_, vg⟩ := gap_abs vd kd
    have n0 : 0 ≤ A k * C k * ((T k).natAbs : Int) := Int.mul_nonneg (by omega) (by omega)
    have n1 : A k * C k * ((T k).natAbs : Int) ≤ 64 * 16 := Int.mul_le_mul c2 (by omega) (by omega) (by omega)
    have es : sumZ (fun i => A i * C i * ((T i).natAbs : Int)) (k + 1) = sumZ (fun i => A i * C i * ((T i).natAbs : Int)) k + A k * C k * ((T k).natAbs : Int) := rfl
    have e1 : ex .mul ((A k : Rat) / 4) ((C k : Rat) / 4) = ((A k * C k : Int) : Rat) / 16 := by simp only [ex]; rw [Rat.intCast_mul]; grind
    have Q := V.op .mul rfl (wide_v va) (wide_v vc) (by simp) (by rw [e1]; exact rep64 (A k * C k) (-4) (by omega) (by decide) (by decide) (by have := tp_m4; grind))
    rw [e1] at Q
    have e2 : ex .mul (((A k * C k : Int) : Rat) / 16) ((((T k).natAbs : Int) : Rat) / 2) = ((A k * C k * ((T k).natAbs : Int) : Int) : Rat) / 32 := by simp only [ex]; rw [Rat.intCast_mul (A k * C k)]; grind
    have R := V.op .mul rfl Q vg (by simp) (by rw [e2]; exact rep32d (by omega))
    rw [e2] at R
    have k5 : (k : Int) * 1024 ≤ 5 * 1024 := Int.mul_le_mul_of_nonneg_right (by omega) (by decide)
    have e3 : ex .add (1 + ((sumZ (fun i => A i * C i * ((T i).natAbs : Int)) k : Int) : Rat) / 32) (((A k * C k * ((T k).natAbs : Int) : Int) : Rat) / 32) = ((32 + sumZ (fun i => A i * C i * ((T i).natAbs : Int)) (k + 1) : Int) : Rat) / 32 := by
      simp only [ex]; rw [es, Rat.intCast_add 32, Rat.intCast_add]
      have e : ((32 : Int) : Rat) = 32 := rfl
      rw [e]; grind
    have S := V.op .add rfl a R (by simp) (by rw [e3]; exact rep32d (by rw [es]; omega))
    rw [e3] at S
    refine ⟨S.eq ?_, by rw [es]; omega, ?_⟩
    · rw [Rat.intCast_add 32]
      have e : ((32 : Int) : Rat) = 32 := rfl
      rw [e]; grind
    · have e : ((k + 1 : Nat) : Int) * 1024 = k * 1024 + 1024 := by rw [Int.natCast_add, Int.add_mul]; simp
      rw [es, e]; omega
/-- A bound of the warmths that is told by the size. -/
theorem DR.bound (h : DR P n A C T) : ∀ k, k ≤ n → ∃ M : Rat, (1 / 1024 ≤ M ∧ M ≤ 8) ∧ (∀ i, i < k → xR P i ≤ M ∧ -xR P i ≤ M) ∧ M - 1 / 1024 ≤ 16 * (((sumZ (fun i => A i * C i * ((T i).natAbs : Int)) k : Int) : Rat) / 32)
  | 0, _ => ⟨1 / 1024, ⟨Rat.le_refl, by grind⟩, fun i hi => by omega, by
    have e : ((sumZ (fun i => A i * C i * ((T i).natAbs : Int)) 0 : Int) : Rat) = 0 := rfl
    rw [e]; grind⟩
  | k + 1, hk => by
    obtain ⟨M, ⟨m1, m2⟩, m3, m4⟩ := h.bound k (by omega)
    obtain ⟨_, s0, _⟩ := h.size k (by omega)
    obtain ⟨⟨c1, c2⟩, _⟩ := h.b (i := k) (by omega)
    obtain ⟨vd, k1, k2⟩ := h.t k (by omega)
    have hx := h.x (i := k) (by omega)
    have es : sumZ (fun i => A i * C i * ((T i).natAbs : Int)) (k + 1) = sumZ (fun i => A i * C i * ((T i).natAbs : Int)) k + A k * C k * ((T k).natAbs : Int) := rfl
    have n0 : 1 * ((T k).natAbs : Int) ≤ A k * C k * ((T k).natAbs : Int) := Int.mul_le_mul_of_nonneg_right c1 (by omega)
    have g1 := icast_le (show ((T k).natAbs : Int) ≤ A k * C k * ((T k).natAbs : Int) by omega)
    have g0 := icast_le (show (0 : Int) ≤ ((T k).natAbs : Int) by omega)
    have z : ((0 : Int) : Rat) = 0 := rfl
    rw [z] at g0
    have s0' := icast_le s0
    rw [z] at s0'
    have t1 := icast_le (show T k ≤ ((T k).natAbs : Int) by omega)
    have t2 := icast_le (show -T k ≤ ((T k).natAbs : Int) by omega)
    rw [Rat.intCast_neg] at t2
    have t3 := icast_le (show ((T k).natAbs : Int) ≤ (16 : Int) by omega)
    have e16 : ((16 : Int) : Rat) = 16 := rfl
    rw [e16] at t3
    rw [es, Rat.intCast_add]
    by_cases hle : (((T k).natAbs : Int) : Rat) / 2 ≤ M
    · refine ⟨M, ⟨m1, m2⟩, fun i hi => ?_, by grind⟩
      by_cases he : i = k
      · subst he; rw [hx]; exact ⟨by grind, by grind⟩
      · exact m3 i (by omega)
    · refine ⟨(((T k).natAbs : Int) : Rat) / 2, ⟨by grind, by grind⟩, fun i hi => ?_, by grind⟩
      by_cases he : i = k
      · subst he; rw [hx]; exact ⟨by grind, by grind⟩
      · have := m3 i (by omega); exact ⟨by grind, by grind⟩
end
end Go.Proofs.Ytpnkapdemgieaaa
set_option linter.unusedSimpArgs false
set_option linter.unusedVariables false
set_option linter.unusedSectionVars false
namespace Go.Proofs.Ytpnkapdemgieaaa
open Go Go.RowKit
theorem V64th : V .f32 (cn .f32 1015021568) ((1 : Rat) / 64) := ⟨by decide +kernel, by decide +kernel⟩
section
variable {P : Rd} {n : Nat} {A C : Nat → Int} {M : Rat} {E G : EndT}
theorem seq_bd (h : GR P n A C M) (hE : GE E M) (hG : GE G M) {i : Nat} (hi : i ≤ n + 1) : fnt .f32 (seqW P.d E.t G.t i) = true ∧ fv .f32 (seqW P.d E.t G.t i) ≤ M ∧ -fv .f32 (seqW P.d E.t G.t i) ≤ M := by
  cases i with
  | zero => exact hE.t
  | succ i =>
    show fnt .f32 (if i < P.d.length then cn .f32 (P.d.getD i 0) else cn .f32 G.t) = true ∧ _ ∧ _
    show fnt .f32 (if i < P.d.length then cn .f32 (P.d.getD i 0) else cn .f32 G.t) = true ∧ fv .f32 (if i < P.d.length then cn .f32 (P.d.getD i 0) else cn .f32 G.t) ≤ M ∧ -fv .f32 (if i < P.d.length then cn .f32 (P.d.getD i 0) else cn .f32 G.t) ≤ M
    rw [h.ld]
    by_cases hl : i < n
    · rw [if_pos hl]; exact h.d i hl
    · rw [if_neg hl]; exact hG.t
theorem fAt_eq (P : Rd) (E G : EndT) {i : Nat} (hi : i ≤ P.a.length) : fAt P E G i = fop .mul .f32 (pG P E G i) (fop .sub .f32 (seqW P.d E.t G.t i) (seqW P.d E.t G.t (i + 1))) := by
  unfold fAt flowR flowL
  rw [List.getD_eq_getElem?_getD, List.getElem?_map, List.getElem?_range (by omega)]; rfl
theorem GR.flow (h : GR P n A C M) (hM : 1 / 1024 ≤ M ∧ M ≤ 1000) (hE : GE E M) (hG : GE G M) {i : Nat} (hi : i ≤ n) {B : Rat} (hB : 0 ≤ B ∧ B ≤ 16) (hp : pR P E G i ≤ B) : fnt .f32 (fAt P E G i) = true ∧ fv .f32 (fAt P E G i) ≤ 2 * B * M + M / 1000 ∧ -fv .f32 (fAt P E G i) ≤ 2 * B * M + M / 1000 := by
  have u0 : 0 < uu := by unfold uu; decide +kernel
  have u1 : 16700000 * uu = 1 := by unfold uu; decide +kernel
  have u2 : 16700000 * (M * uu) = M := by grind
  obtain ⟨a0, a1, a2⟩ := seq_bd h hE hG (i := i) (by omega)
  obtain ⟨b0, b1, b2⟩ := seq_bd h hE hG (i := i + 1) (by omega)
  obtain ⟨vp, p0, _⟩ := h.p hE hG hi
  rw [fAt_eq P E G (by rw [h.la]; exact hi)]
  obtain ⟨c0, c1, c2⟩ := fop_u .sub rfl a0 b0 (by simp) (M := 2 * M) (by grind) (by grind) (by simp only [ex]; grind) (by simp only [ex]; grind)
  simp only [ex] at c1 c2
  generalize fop .sub .f32 (seqW P.d E.t G.t i) (seqW P.d E.t G.t (i + 1)) = d at *
  have k := mul_bd (a := B) (b := 2 * M + 2 * (M * uu)) (x := pR P E G i) (y := fv .f32 d) (by grind) hp (by grind) (by grind)
  have k2 := Rat.mul_le_mul_of_nonneg_right hB.2 (show 0 ≤ M * uu by grind)
  have k3 := Rat.mul_le_mul_of_nonneg_right hB.2 (show 0 ≤ M by grind)
  have k4 := Rat.mul_nonneg hB.1 (show 0 ≤ M by grind)
  obtain ⟨e0, e1, e2⟩ := fop_u .mul rfl vp.1 c0 (by simp) (M := 33 * M) (by grind) (by grind) (by simp only [ex]; rw [vp.2]; grind) (by simp only [ex]; rw [vp.2]; grind)
  simp only [ex] at e1 e2
  rw [vp.2] at e1 e2
  exact ⟨e0, by grind, by grind⟩
theorem GR.flowOk (h : GR P n A C M) (hM : 1 / 1024 ≤ M ∧ M ≤ 1000) (hE : GE E M) (hG : GE G M) : flowOk P E G = true := by
  have hn := h.hn
  unfold Go.Proofs.Ytpnkapdemgieaaa.flowOk flowFin
  rw [h.passOk hE hG]
  have : (flowR P E G).any (fun x => !fin .f32 x) = false := by
    rw [List.any_eq_false]
    intro x hx
    obtain ⟨i, hi, rfl⟩ := mem_getD hx
    rw [flowR_len, h.la] at hi
    have := (h.flow hM hE hG (i := i) (by omega) (B := 16) ⟨by decide, by decide⟩ (h.p hE hG (i := i) (by omega)).2.2).1
    have e : (flowR P E G).getD i 0 = fAt P E G i := rfl
    rw [e, fin_of_fnt this]; simp
  rw [this]; rfl
theorem stepL_at {P : Rd} {f : Nat → Nat} {t k i : Nat} (h : i < k) : (stepL P f t k).getD i 0 = stepB P f t i := by
  unfold stepL
  rw [List.getD_eq_getElem?_getD, List.getElem?_map, List.getElem?_range h]; rfl
theorem cn_stepB (P : Rd) (f : Nat → Nat) (t i : Nat) : cn .f32 (stepB P f t i) = stepB P f t i := cn_fop _ _ _ _
theorem quu {Q : Rat} (h : Q ≤ 67) : (8 + Q + Q * uu) * uu ≤ 1 / 1000 ∧ Q * uu ≤ 1 / 1000 := by
  unfold uu
  exact ⟨by grind, by grind⟩
/-- A cell, a short tick later. -/
theorem GR.cell (h : GR P n A C 8) (hE : GE E 8) (hG : GE G 8) {i : Nat} (hi : i < n) (h1 : pR P E G i ≤ 8) (h2 : pR P E G (i + 1) ≤ 8) :
    fnt .f32 (stepB P (fAt P E G) 1015021568 i) = true ∧ (fv .f32 (stepB P (fAt P E G) 1015021568 i) ≤ 80 ∧ -fv .f32 (stepB P (fAt P E G) 1015021568 i) ≤ 80) ∧
    (wR A C i * fv .f32 (stepB P (fAt P E G) 1015021568 i) ≤ 148 ∧ -(wR A C i * fv .f32 (stepB P (fAt P E G) 1015021568 i)) ≤ 148) ∧
    wR A C i * (fv .f32 (stepB P (fAt P E G) 1015021568 i) - xR P i) - (fv .f32 (fAt P E G i) - fv .f32 (fAt P E G (i + 1))) / 16 ≤ 210 * uu ∧ (fv .f32 (fAt P E G i) - fv .f32 (fAt P E G (i + 1))) / 16 - wR A C i * (fv .f32 (stepB P (fAt P E G) 1015021568 i) - xR P i) ≤ 210 * uu := by
  have u0 : 0 < uu := by unfold uu; decide +kernel
  have u1 : 16700000 * uu = 1 := by unfold uu; decide +kernel
  obtain ⟨a0, a1, a2⟩ := h.flow ⟨by grind, by grind⟩ hE hG (i := i) (by omega) (B := 8) ⟨by decide, by decide⟩ h1
  obtain ⟨b0, b1, b2⟩ := h.flow ⟨by grind, by grind⟩ hE hG (i := i + 1) (by omega) (B := 8) ⟨by decide, by decide⟩ h2
  obtain ⟨d0, d1, d2⟩ := h.d i hi
  have vm := h.mass hi
  obtain ⟨w1, w2⟩ := h.wb hi
  unfold stepB
  have ew : ((A i * C i : Int) : Rat) / 16 = wR A C i / 4 := by unfold wR; grind
  rw [ew] at vm
  have ex0 : fv .f32 (cn .f32 (P.d.getD i 0)) = xR P i := rfl
  rw [ex0] at d1 d2
  generalize fAt P E G i = f at *
  generalize fAt P E G (i + 1) = g at *
  obtain ⟨s0, s1, s2⟩ := fop_u .sub rfl a0 b0 (by simp) (M := 257) (by grind) (by grind) (by simp only [ex]; grind) (by simp only [ex]; grind)
  simp only [ex] at s1 s2
  generalize fop .sub .f32 f g = s at *
  obtain ⟨t0, t1, t2⟩ := fop_u .mul rfl V64th.1 s0 (by simp) (M := 41 / 10) (by grind) (by grind) (by simp only [ex]; rw [V64th.2]; grind) (by simp only [ex]; rw [V64th.2]; grind)
  simp only [ex] at t1 t2
  rw [V64th.2] at t1 t2
  generalize fop .mul .f32 (cn .f32 1015021568) s = t at *
  generalize fop .mul .f32 (cn .f32 (P.a.getD i 0)) (cn .f32 (P.c.getD i 0)) = m at *
  have mp : 0 < wR A C i / 4 := by grind
  have dv : fv .f32 t / (wR A C i / 4) * (wR A C i / 4) = fv .f32 t := Rat.div_mul_cancel (by grind)
  have dn : -(fv .f32 t / (wR A C i / 4)) * (wR A C i / 4) = -fv .f32 t := by grind
  have q1 : fv .f32 t / (wR A C i / 4) ≤ 66 := mul_cancel_le mp (by rw [dv]; grind)
  have q2 : -(fv .f32 t / (wR A C i / 4)) ≤ 66 := mul_cancel_le mp (by rw [dn]; grind)
  have ta : fv .f32 t ≤ 411 / 100 ∧ -fv .f32 t ≤ 411 / 100 := ⟨by grind, by grind⟩
  -- the amount of the quotient
  obtain ⟨Q, q0, qa, qb, qc⟩ : ∃ Q : Rat, 1 / 1000000 ≤ Q ∧ (fv .f32 t / (wR A C i / 4) ≤ Q ∧ -(fv .f32 t / (wR A C i / 4)) ≤ Q) ∧ Q ≤ 67 ∧ Q * (wR A C i / 4) ≤ 412 / 100 := by
    by_cases hs : 0 ≤ fv .f32 t / (wR A C i / 4)
    · exact ⟨fv .f32 t / (wR A C i / 4) + 1 / 1000000, by grind, ⟨by grind, by grind⟩, by grind, by grind⟩
    · exact ⟨-(fv .f32 t / (wR A C i / 4)) + 1 / 1000000, by grind, ⟨by grind, by grind⟩, by grind, by grind⟩
  obtain ⟨b10, b11, b12⟩ := fop_u .quo rfl t0 vm.1 (fun _ => by rw [vm.2]; grind) (M := Q) q0 (by grind) (by simp only [ex]; rw [vm.2]; exact qa.1) (by simp only [ex]; rw [vm.2]; exact qa.2)
  simp only [ex] at b11 b12
  rw [vm.2] at b11 b12
  generalize fop .quo .f32 t m = y at *
  generalize fv .f32 t / (wR A C i / 4) = q at *
  have c1 := Rat.mul_le_mul_of_nonneg_right b11 (Rat.le_of_lt mp)
  have c2 := Rat.mul_le_mul_of_nonneg_right b12 (Rat.le_of_lt mp)
  have c3 := Rat.mul_le_mul_of_nonneg_right qc (Rat.le_of_lt u0)
  have c4 := Rat.mul_le_mul_of_nonneg_right qb (Rat.le_of_lt u0)
  obtain ⟨e0, e1, e2⟩ := fop_u .add rfl d0 b10 (by simp) (M := 8 + Q + Q * uu) (by grind) (by grind) (by simp only [ex]; rw [ex0]; grind) (by simp only [ex]; rw [ex0]; grind)
  simp only [ex] at e1 e2
  rw [ex0] at e1 e2
  generalize fop .add .f32 (cn .f32 (P.d.getD i 0)) y = z at *
  have f1 := Rat.mul_le_mul_of_nonneg_right e1 (Rat.le_of_lt mp)
  have f2 := Rat.mul_le_mul_of_nonneg_right e2 (Rat.le_of_lt mp)
  have c5 := Rat.mul_le_mul_of_nonneg_right c3 (Rat.le_of_lt u0)
  have c6 := Rat.mul_le_mul_of_nonneg_right w2 (Rat.le_of_lt u0)
  have c7 := Rat.mul_le_mul_of_nonneg_right (show uu ≤ 1 by grind) (Rat.le_of_lt u0)
  have g1 := Rat.mul_le_mul_of_nonneg_left d1 (show 0 ≤ wR A C i by grind)
  have g2 := Rat.mul_le_mul_of_nonneg_left d2 (show 0 ≤ wR A C i by grind)
  generalize wR A C i = w at *
  generalize xR P i = x at *
  have r1 : w * (fv .f32 z - x) - (fv .f32 f - fv .f32 g) / 16 ≤ 210 * uu := by grind
  have r2 : (fv .f32 f - fv .f32 g) / 16 - w * (fv .f32 z - x) ≤ 210 * uu := by grind
  obtain ⟨m1, m2⟩ := quu (Q := Q) qb
  have ff : fv .f32 f - fv .f32 g ≤ 257 ∧ -(fv .f32 f - fv .f32 g) ≤ 257 := by clear f1 f2 g1 g2 r1 r2 e1 e2 c1 c2 c4 dv dn qa m1 m2 b11 b12; exact ⟨by grind, by grind⟩
  have q66 : fv .f32 z - (x + fv .f32 y) ≤ 1 / 1000 ∧ (x + fv .f32 y) - fv .f32 z ≤ 1 / 1000 := by clear f1 f2 g1 g2 r1 r2 c1 c2 c4 dv dn qa m2 b11 b12; exact ⟨by grind, by grind⟩
  have y66 : fv .f32 y ≤ 67 ∧ -fv .f32 y ≤ 67 := by clear f1 f2 g1 g2 r1 r2 c1 c2 c4 dv dn qa m1 e1 e2 q66; exact ⟨by grind, by grind⟩
  have a210 : 210 * uu ≤ 1 / 1000 := by clear f1 f2 g1 g2 r1 r2 c1 c2 c4 dv dn qa m1 e1 e2 q66 y66; grind
  clear f1 f2 c1 c2 c3 c4 c5 c6 c7 dv dn qa m1 m2 b11 b12 e1 e2 s1 s2 t1 t2 a1 a2 b1 b2 qb qc q0 mp vm u1
  refine ⟨e0, ⟨?_, ?_⟩, ⟨?_, ?_⟩, r1, r2⟩
  · clear r1 r2 g1 g2 ff; grind
  · clear r1 r2 g1 g2 ff; grind
  · clear q66 y66; grind
  · clear q66 y66; grind
theorem tele {f : Nat → Rat} : ∀ k, sumQ (fun i => (f i - f (i + 1)) / 16) k = (f 0 - f k) / 16
  | 0 => by simp only [sumQ]; grind
  | k + 1 => by simp only [sumQ]; rw [tele k]; grind
/-- The rod behind a short tick. -/
theorem GR.short (h : GR P n A C 8) (hE : GE E 8) (hG : GE G 8) (k1 : E.k = 1) (k2 : G.k = 1) :
    GR (stepR P E G 1015021568) n A C 80 ∧ stepOk P E G 1015021568 = true ∧ fnt .f32 (heatK (stepR P E G 1015021568) n) = true ∧ 4 * fv .f32 (heatK (stepR P E G 1015021568) n) - hR P A C n ≤ 8000 * uu ∧ hR P A C n - 4 * fv .f32 (heatK (stepR P E G 1015021568) n) ≤ 8000 * uu := by
  have u0 : 0 < uu := by unfold uu; decide +kernel
  have u1 : 16700000 * uu = 1 := by unfold uu; decide +kernel
  have hn := h.hn
  have p8 := fun i (hi : i ≤ n) => h.p8 hE hG k1 k2 hi
  have cell := fun i (hi : i < n) => h.cell hE hG hi (p8 i (by omega)) (p8 (i + 1) (by omega))
  have hl : (stepR P E G 1015021568).d.length = n := by show (stepL P (fAt P E G) 1015021568 P.d.length).length = n; rw [stepL_len, h.ld]
  have hat : ∀ i, i < n → cn .f32 ((stepR P E G 1015021568).d.getD i 0) = stepB P (fAt P E G) 1015021568 i := fun i hi => by
    show cn .f32 ((stepL P (fAt P E G) 1015021568 P.d.length).getD i 0) = _
    rw [stepL_at (by rw [h.ld]; exact hi), cn_stepB]
  have R : GR (stepR P E G 1015021568) n A C 80 := h.with (L := stepL P (fAt P E G) 1015021568 P.d.length) hl (fun i hi => by
    have := hat i hi
    have e : (stepR P E G 1015021568).d = stepL P (fAt P E G) 1015021568 P.d.length := rfl
    rw [e] at this
    rw [this]; exact ⟨(cell i hi).1, (cell i hi).2.1⟩)
  have xe : ∀ i, i < n → xR (stepR P E G 1015021568) i = fv .f32 (stepB P (fAt P E G) 1015021568 i) := fun i hi => by unfold xR; rw [hat i hi]
  have H := R.heat (B := 37) ⟨by grind, by grind⟩ (fun i hi => by rw [xe i hi]; exact ⟨by have := (cell i hi).2.2.1.1; grind, by have := (cell i hi).2.2.1.2; grind⟩) n (Nat.le_refl _)
  have S := sumQ_bd (f := fun i => wR A C i * (fv .f32 (stepB P (fAt P E G) 1015021568 i) - xR P i) - (fv .f32 (fAt P E G i) - fv .f32 (fAt P E G (i + 1))) / 16) (B := 210 * uu) n (fun i hi => ⟨(cell i hi).2.2.2.1, by have := (cell i hi).2.2.2.2; grind⟩)
  rw [sumQ_sub, tele (f := fun i => fv .f32 (fAt P E G i))] at S
  have z0 : fv .f32 (fAt P E G 0) = 0 := by
    rw [fAt_eq P E G (Nat.zero_le _), pG_zero, endV_1 k1]
    have c := (seq_bd h hE hG (i := 0) (by omega))
    have d := (seq_bd h hE hG (i := 0 + 1) (by omega))
    obtain ⟨c0, _, _⟩ := fop_u .sub rfl c.1 d.1 (by simp) (M := 16) (by grind) (by grind) (by simp only [ex]; grind) (by simp only [ex]; grind)
    have e : ex .mul (fv .f32 (cn .f32 0)) (fv .f32 (fop .sub .f32 (seqW P.d E.t G.t 0) (seqW P.d E.t G.t (0 + 1)))) = 0 := by simp only [ex]; rw [V0.2]; grind
    obtain ⟨_, g1, g2⟩ := fop_btw .mul rfl .f32 V0.1 c0 (by simp) Rp0 Rp0 (by rw [e]; exact Rat.le_refl) (by rw [e]; exact Rat.le_refl)
    exact Rat.le_antisymm g2 g1
  have zn : fv .f32 (fAt P E G n) = 0 := by
    rw [fAt_eq P E G (by rw [h.la]; exact Nat.le_refl _)]
    have c := (seq_bd h hE hG (i := n) (by omega))
    have d := (seq_bd h hE hG (i := n + 1) (by omega))
    obtain ⟨c0, _, _⟩ := fop_u .sub rfl c.1 d.1 (by simp) (M := 16) (by grind) (by grind) (by simp only [ex]; grind) (by simp only [ex]; grind)
    have hp : pG P E G n = cn .f32 0 := by rw [← h.la, pG_last (by rw [h.la]; omega), endV_1 k2]
    rw [hp]
    have e : ex .mul (fv .f32 (cn .f32 0)) (fv .f32 (fop .sub .f32 (seqW P.d E.t G.t n) (seqW P.d E.t G.t (n + 1)))) = 0 := by simp only [ex]; rw [V0.2]; grind
    obtain ⟨_, g1, g2⟩ := fop_btw .mul rfl .f32 V0.1 c0 (by simp) Rp0 Rp0 (by rw [e]; exact Rat.le_refl) (by rw [e]; exact Rat.le_refl)
    exact Rat.le_antisymm g2 g1
  rw [z0, zn] at S
  have eq : sumQ (fun i => wR A C i * (fv .f32 (stepB P (fAt P E G) 1015021568 i) - xR P i)) n = hR (stepR P E G 1015021568) A C n - hR P A C n := by
    unfold hR
    rw [← sumQ_sub]
    refine sumQ_congr n (fun i hi => ?_)
    rw [xe i hi]; grind
  rw [eq] at S
  have ok : stepOk P E G 1015021568 = true := by
    unfold stepOk stepPre
    have l : lst (cn .f32 1015021568) = true := by
      unfold lst
      rw [fin_of_fnt V64th.1, fgev V64th.1 V0.1, V64th.2, V0.2]; decide +kernel
    rw [h.flowOk ⟨by grind, by grind⟩ hE hG, l, R.ok]; rfl
  have nb : (n : Rat) ≤ ((6 : Nat) : Rat) := by exact_mod_cast hn.2
  have e6 : ((6 : Nat) : Rat) = 6 := rfl
  rw [e6] at nb
  have n1 := Rat.mul_le_mul_of_nonneg_right nb (show 0 ≤ 30 * (37 * uu) by grind)
  have n2 := Rat.mul_le_mul_of_nonneg_right nb (show 0 ≤ 210 * uu by grind)
  obtain ⟨h0, h1, h2, _⟩ := H
  exact ⟨R, ok, h0, by have := S.1; grind, by have := S.2; grind⟩
end
end Go.Proofs.Ytpnkapdemgieaaa

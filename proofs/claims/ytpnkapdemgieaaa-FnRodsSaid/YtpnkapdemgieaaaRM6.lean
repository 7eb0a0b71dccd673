/-
  Rows of equations, solved in single precision: how near the answers are, and what is left of each row (shut ends). No condition but what each law says; nothing of the program is named here.
  Rows of equations, solved in single precision: how near the answers are, and what is left of each row (any ends). No condition but what each law says; nothing of the program is named here.
  Rows of equations: one more row. No condition but what each law says.
  Calls that hand back a rod and stores of a rod, in plans with memory that turns. No condition but what each law says.
-/
import Derived.Test.YtpnkapdemgieaaaRM5
import Derived.Test.YtpnkapdemgieaaaRM2
import Derived.Test.YtpnkapdemgieaaaRM3
set_option linter.unusedSimpArgs false
set_option linter.unusedVariables false
set_option linter.unusedSectionVars false
namespace Go.Proofs.Ytpnkapdemgieaaa
open Go Go.RowKit
/-- Rows, near exact ones. -/
structure RowsH (n : Nat) (b a x s : Nat → Nat) (p W so Z : Nat → Rat) (M D Zm : Rat) : Prop where
  hn : 1 ≤ n ∧ n ≤ 6
  hM : 1 / 1024 ≤ M ∧ M ≤ 1000
  hD : 0 ≤ D ∧ 0 ≤ Zm ∧ Zm + D ≤ M ∧ Zm ≤ 0 * M
  hp : ∀ i, i ≤ n → 0 ≤ p i ∧ p i ≤ 8
  hW : ∀ i, i < n → 1 / 4 ≤ W i ∧ W i ≤ 16
  hb : ∀ i, i < n → V .f32 (b i) (-(p i))
  hx : ∀ i, i < n → V .f32 (x i) (-(p (i + 1)))
  ha : ∀ i, i < n → fnt .f32 (a i) = true ∧ fv .f32 (a i) - (W i + p i + p (i + 1)) ≤ 57 * uu ∧ (W i + p i + p (i + 1)) - fv .f32 (a i) ≤ 57 * uu
  hs : ∀ i, i < n → fnt .f32 (s i) = true ∧ fv .f32 (s i) - so i ≤ 17 * (M * uu) ∧ so i - fv .f32 (s i) ≤ 17 * (M * uu)
  hsb : ∀ i, i < n → so i ≤ (161 / 10) * M ∧ -so i ≤ (161 / 10) * M
  hZ : ∀ i, Z i ≤ Zm ∧ -Z i ≤ Zm
  hof : so 0 - ((W 0 + p 0 + (qiR p n 0 + qlR p n 0)) * Z 0 - qiR p n 0 * Z 1) ≤ (W 0 + p 0 + qlR p n 0) * D ∧ ((W 0 + p 0 + (qiR p n 0 + qlR p n 0)) * Z 0 - qiR p n 0 * Z 1) - so 0 ≤ (W 0 + p 0 + qlR p n 0) * D
  hoi : ∀ i, i + 1 < n → so (i + 1) - ((W (i + 1) + p (i + 1) + (qiR p n (i + 1) + qlR p n (i + 1))) * Z (i + 1) - p (i + 1) * Z i - qiR p n (i + 1) * Z (i + 2)) ≤ (W (i + 1) + qlR p n (i + 1)) * D ∧ ((W (i + 1) + p (i + 1) + (qiR p n (i + 1) + qlR p n (i + 1))) * Z (i + 1) - p (i + 1) * Z i - qiR p n (i + 1) * Z (i + 2)) - so (i + 1) ≤ (W (i + 1) + qlR p n (i + 1)) * D
section
variable {n : Nat} {b a x s : Nat → Nat} {p W so Z : Nat → Rat} {M D Zm : Rat}
theorem RowsH.mu (h : RowsH n b a x s p W so Z M D Zm) : 0 < uu ∧ 16700000 * uu = 1 ∧ 16700000 * (M * uu) = M ∧ 0 < M * uu := by
  have u1 : 16700000 * uu = 1 := by unfold uu; decide +kernel
  have u0 : 0 < uu := by unfold uu; decide +kernel
  have hM := h.hM
  exact ⟨u0, u1, by grind, Rat.mul_pos (by grind) u0⟩
/-- The pivot. -/
structure PivH (p : Nat → Rat) (b a x : Nat → Nat) (i : Nat) : Prop where
  f : fnt .f32 (elA b a x i) = true
  lo : p (i + 1) + 1 / 5 ≤ fv .f32 (elA b a x i)
  hi : fv .f32 (elA b a x i) ≤ 32 + 1 / 10
/-- From pivot to pivot. -/
structure LnkH (p W : Nat → Rat) (b a x : Nat → Nat) (i : Nat) : Prop where
  f : fnt .f32 (elF b a x i) = true
  lo : -1 ≤ fv .f32 (elF b a x i)
  hi : fv .f32 (elF b a x i) ≤ 0
  g1 : fv .f32 (elF b a x i) * fv .f32 (elA b a x i) + p (i + 1) ≤ 9 * uu
  g2 : -(fv .f32 (elF b a x i) * fv .f32 (elA b a x i) + p (i + 1)) ≤ 9 * uu
  m1 : fv .f32 (elA b a x (i + 1)) - (W (i + 1) + p (i + 1) + p (i + 2) + fv .f32 (elF b a x i) * p (i + 1)) ≤ 98 * uu
  m2 : (W (i + 1) + p (i + 1) + p (i + 2) + fv .f32 (elF b a x i) * p (i + 1)) - fv .f32 (elA b a x (i + 1)) ≤ 98 * uu
theorem RowsH.first (h : RowsH n b a x s p W so Z M D Zm) : PivH p b a x 0 := by
  obtain ⟨u0, u1, _, _⟩ := h.mu
  have hn := h.hn
  obtain ⟨a0, a1, a2⟩ := h.ha 0 (by omega)
  obtain ⟨p0, p1⟩ := h.hp 0 (by omega)
  obtain ⟨q0, q1⟩ := h.hp 1 (by omega)
  obtain ⟨w0, w1⟩ := h.hW 0 (by omega)
  exact ⟨a0, by show p 1 + 1 / 5 ≤ fv .f32 (a 0); grind, by show fv .f32 (a 0) ≤ _; grind⟩
theorem RowsH.next (h : RowsH n b a x s p W so Z M D Zm) {i : Nat} (hi : i + 1 < n) (hp : PivH p b a x i) : LnkH p W b a x i ∧ PivH p b a x (i + 1) := by
  obtain ⟨u0, u1, _, _⟩ := h.mu
  obtain ⟨a0, a1, a2⟩ := h.ha (i + 1) hi
  obtain ⟨p0, p1⟩ := h.hp (i + 1) (by omega)
  obtain ⟨q0, q1⟩ := h.hp (i + 2) (by omega)
  obtain ⟨w0, w1⟩ := h.hW (i + 1) hi
  have hb := h.hb (i + 1) hi
  have hx := h.hx i (by omega)
  obtain ⟨m0, ml, mh⟩ := hp
  have mp : 0 < fv .f32 (elA b a x i) := by grind
  have dv : -(p (i + 1)) / fv .f32 (elA b a x i) * fv .f32 (elA b a x i) = -(p (i + 1)) := Rat.div_mul_cancel (by grind)
  have r0 : Rep .f32 (0 : Rat) := Rep.int (k := .f32) 0 (by decide)
  have r1 : Rep .f32 (1 : Rat) := Rep.int (k := .f32) 1 (by decide)
  have v1 : -1 ≤ -(p (i + 1)) / fv .f32 (elA b a x i) := mul_cancel_le mp (by rw [dv]; grind)
  have v2 : -(p (i + 1)) / fv .f32 (elA b a x i) ≤ 0 := mul_cancel_le mp (by rw [dv]; grind)
  obtain ⟨f0, f1, f2⟩ := fop_btw .quo rfl .f32 (a := -1) (b := 0) hb.1 m0 (fun _ => by grind) r1.neg r0 (by simp only [ex]; rw [hb.2]; exact v1) (by simp only [ex]; rw [hb.2]; exact v2)
  obtain ⟨_, e1, e2⟩ := fop_u .quo rfl hb.1 m0 (fun _ => by grind) (M := -(-(p (i + 1)) / fv .f32 (elA b a x i)) + 1 / 1000000) (by grind) (by grind) (by simp only [ex]; rw [hb.2]; grind) (by simp only [ex]; rw [hb.2]; grind)
  simp only [ex] at e1 e2
  rw [hb.2] at e1 e2
  have f0 : fnt .f32 (elF b a x i) = true := f0
  have f1 : -1 ≤ fv .f32 (elF b a x i) := f1
  have f2 : fv .f32 (elF b a x i) ≤ 0 := f2
  have e1 : fv .f32 (elF b a x i) - -(p (i + 1)) / fv .f32 (elA b a x i) ≤ (-(-(p (i + 1)) / fv .f32 (elA b a x i)) + 1 / 1000000) * uu := e1
  have e2 : -(p (i + 1)) / fv .f32 (elA b a x i) - fv .f32 (elF b a x i) ≤ (-(-(p (i + 1)) / fv .f32 (elA b a x i)) + 1 / 1000000) * uu := e2
  have g1' := Rat.mul_le_mul_of_nonneg_right e1 (Rat.le_of_lt mp)
  have g2' := Rat.mul_le_mul_of_nonneg_right e2 (Rat.le_of_lt mp)
  have eA : elA b a x (i + 1) = fop .sub .f32 (a (i + 1)) (fop .mul .f32 (elF b a x i) (x i)) := rfl
  rw [show i + 1 + 1 = i + 2 by omega] at a1 a2
  obtain ⟨mw, hmw⟩ : ∃ y, elA b a x i = y := ⟨_, rfl⟩
  obtain ⟨fw, hfw⟩ : ∃ y, elF b a x i = y := ⟨_, rfl⟩
  rw [hmw] at m0 ml mh mp dv v1 v2 e1 e2 g1' g2'
  rw [hfw] at f0 f1 f2 e1 e2 g1' g2' eA
  generalize -(p (i + 1)) / fv .f32 mw = q at *
  have mu1 := Rat.mul_le_mul_of_nonneg_right mh (Rat.le_of_lt u0)
  have pu1 := Rat.mul_le_mul_of_nonneg_right p1 (Rat.le_of_lt u0)
  have dvu : q * fv .f32 mw * uu = -(p (i + 1)) * uu := by rw [dv]
  clear e1 e2
  have g1 : fv .f32 fw * fv .f32 mw + p (i + 1) ≤ 9 * uu := by grind
  have g2 : -(fv .f32 fw * fv .f32 mw + p (i + 1)) ≤ 9 * uu := by grind
  -- the product
  obtain ⟨n0, n1⟩ := fneg_val hx.1
  have fp1 := Rat.mul_nonneg (show 0 ≤ -fv .f32 fw by grind) p0
  have fp2 := Rat.mul_le_mul_of_nonneg_right (show -fv .f32 fw ≤ 1 by grind) p0
  have hv : ex .mul (fv .f32 fw) (fv .f32 (x i)) = -fv .f32 fw * p (i + 1) := by simp only [ex]; rw [hx.2]; grind
  have t40 : tp 40 = 1099511627776 := (tp_nat 40).trans rfl
  obtain ⟨c0, c1⟩ := fop_rnd .mul rfl .f32 f0 hx.1 (by simp) 40 (by decide) (by rw [hv, t40]; grind) (by rw [hv, t40]; grind)
  rw [hv] at c1
  have c2 := rnd_u (M := 8) c1 (by grind) (by grind) (by grind)
  have c3 := c1.rep_ge r0 fp1
  have c4 := rnd_le_wd n0 c1 (by rw [n1, hx.2]; grind)
  rw [n1, hx.2] at c4
  generalize fop .mul .f32 fw (x i) = qw at *
  obtain ⟨d0, d1, d2⟩ := fop_u .sub rfl a0 c0 (by simp) (M := 32 + 1) (by grind) (by grind) (by simp only [ex]; grind) (by simp only [ex]; grind)
  simp only [ex] at d1 d2
  obtain ⟨m', hm'⟩ : ∃ y, fop .sub .f32 (a (i + 1)) qw = y := ⟨_, rfl⟩
  rw [hm'] at eA d0 d1 d2
  refine ⟨⟨?_, ?_, ?_, ?_, ?_, ?_, ?_⟩, ?_, ?_, ?_⟩
  · rw [hfw]; exact f0
  · rw [hfw]; exact f1
  · rw [hfw]; exact f2
  · rw [hfw, hmw]; exact g1
  · rw [hfw, hmw]; exact g2
  · rw [hfw, eA]; grind
  · rw [hfw, eA]; grind
  · rw [eA]; exact d0
  · rw [eA, show i + 1 + 1 = i + 2 by omega]; grind
  · rw [eA]; grind
theorem RowsH.piv (h : RowsH n b a x s p W so Z M D Zm) : ∀ i, i < n → PivH p b a x i
  | 0, _ => h.first
  | i + 1, hi => (h.next hi (h.piv i (by omega))).2
theorem RowsH.lnk (h : RowsH n b a x s p W so Z M D Zm) {i : Nat} (hi : i + 1 < n) : LnkH p W b a x i := (h.next hi (h.piv i (by omega))).1
/-- How far the right sides may be off by then. -/
def epH (M : Rat) (i : Nat) : Rat := ((i + 1 : Nat) : Rat) * ((782 / 5) * (M * uu))
theorem epH_succ (M : Rat) (i : Nat) : epH M (i + 1) = epH M i + (782 / 5) * (M * uu) := by
  unfold epH
  rw [Rat.natCast_add (i + 1) 1]
  have e : ((1 : Nat) : Rat) = 1 := rfl
  rw [e]; grind
theorem epH_le {M : Rat} {i : Nat} (h : 0 < M * uu) (hi : i < 6) : 0 ≤ epH M i ∧ epH M i ≤ 6 * ((782 / 5) * (M * uu)) := by
  unfold epH
  have k0 : (0 : Rat) ≤ ((i + 1 : Nat) : Rat) := by exact_mod_cast Nat.zero_le _
  have k1 : ((i + 1 : Nat) : Rat) ≤ ((6 : Nat) : Rat) := by exact_mod_cast (by omega : i + 1 ≤ 6)
  have e : ((6 : Nat) : Rat) = 6 := rfl
  rw [e] at k1
  have w : 0 ≤ (782 / 5) * (M * uu) := by grind
  exact ⟨Rat.mul_nonneg k0 w, Rat.mul_le_mul_of_nonneg_right k1 w⟩
/-- The right side. -/
structure SdH (n : Nat) (b a x s : Nat → Nat) (p Z : Nat → Rat) (M D : Rat) (i : Nat) : Prop where
  f : fnt .f32 (elS b a x s i) = true
  v1 : fv .f32 (elS b a x s i) - (fv .f32 (elA b a x i) * Z i - qiR p n i * Z (i + 1)) ≤ (fv .f32 (elA b a x i) - qiR p n i) * D + epH M i
  v2 : (fv .f32 (elA b a x i) * Z i - qiR p n i * Z (i + 1)) - fv .f32 (elS b a x s i) ≤ (fv .f32 (elA b a x i) - qiR p n i) * D + epH M i
/-- From right side to right side. -/
def SLH (b a x s : Nat → Nat) (M : Rat) (i : Nat) : Prop := fv .f32 (elS b a x s (i + 1)) - (fv .f32 (s (i + 1)) - fv .f32 (elF b a x i) * fv .f32 (elS b a x s i)) ≤ (162 / 5) * (M * uu) ∧ (fv .f32 (s (i + 1)) - fv .f32 (elF b a x i) * fv .f32 (elS b a x s i)) - fv .f32 (elS b a x s (i + 1)) ≤ (162 / 5) * (M * uu)
theorem RowsH.sfirst (h : RowsH n b a x s p W so Z M D Zm) : SdH n b a x s p Z M D 0 := by
  obtain ⟨u0, u1, u2, u3⟩ := h.mu
  obtain ⟨D0, Z0, ZD, _⟩ := h.hD
  have hn := h.hn
  obtain ⟨a0, a1, a2⟩ := h.ha 0 (by omega)
  obtain ⟨s0, s1, s2⟩ := h.hs 0 (by omega)
  obtain ⟨o1, o2⟩ := h.hof
  obtain ⟨z1, z2⟩ := h.hZ 0
  have q := qR_sum p n 0
  have k := Rat.mul_le_mul_of_nonneg_right ZD (Rat.le_of_lt u0)
  have E : epH M 0 = (782 / 5) * (M * uu) := by
    unfold epH
    have e : ((0 + 1 : Nat) : Rat) = 1 := rfl
    rw [e]; grind
  have r := el_first (W := W 0) (p := p 0) (qi := qiR p n 0) (ql := qlR p n 0) (m := fv .f32 (a 0)) (S := fv .f32 (s 0)) (so := so 0) (Z2 := Z 0) (Z3 := Z 1) (D := D) (c := 57 * uu) (k := 17 * (M * uu)) (Zm := Zm) D0 (by rw [q]; exact a1) (by rw [q]; exact a2) s1 s2 o1 o2 z1 z2 (by grind)
  exact ⟨s0, by show fv .f32 (s 0) - (fv .f32 (a 0) * Z 0 - _) ≤ (fv .f32 (a 0) - _) * D + _; rw [E]; have := r.1; grind, by show (fv .f32 (a 0) * Z 0 - _) - fv .f32 (s 0) ≤ (fv .f32 (a 0) - _) * D + _; rw [E]; have := r.2; grind⟩
theorem RowsH.snext (h : RowsH n b a x s p W so Z M D Zm) {i : Nat} (hi : i + 1 < n) (hS : SdH n b a x s p Z M D i) : SLH b a x s M i ∧ SdH n b a x s p Z M D (i + 1) := by
  obtain ⟨u0, u1, u2, u3⟩ := h.mu
  obtain ⟨D0, Z0, ZD, Zz⟩ := h.hD
  obtain ⟨M1, M2⟩ := h.hM
  have hn := h.hn
  obtain ⟨s0, s1, s2⟩ := h.hs (i + 1) hi
  obtain ⟨b1, b2⟩ := h.hsb (i + 1) hi
  obtain ⟨o1, o2⟩ := h.hoi i hi
  obtain ⟨z1, z1'⟩ := h.hZ i
  obtain ⟨z2, z2'⟩ := h.hZ (i + 1)
  obtain ⟨p0, p1⟩ := h.hp (i + 1) (by omega)
  obtain ⟨r0, _⟩ := h.hp (i + 2) (by omega)
  have P := h.piv i (by omega)
  have L := h.lnk hi
  obtain ⟨S0, v1, v2⟩ := hS
  rw [qiR_in hi] at v1 v2
  obtain ⟨e0, e6⟩ := epH_le (i := i) u3 (by omega)
  have q := qR_sum p n (i + 1)
  have qn := (qiR_le (n := n) (i := i + 1) r0).1
  have es := epH_succ M i
  have mp : 0 ≤ fv .f32 (elA b a x i) := by have := P.lo; grind
  obtain ⟨f1, f2⟩ := fs_bd L.lo L.hi p0 mp L.g2 v1 v2 z1 z1' z2 z2' e0 D0 Z0
  have hG : p (i + 1) + 9 * uu ≤ 8 + 9 * uu := by grind
  have k1 := Rat.mul_le_mul_of_nonneg_right hG (show 0 ≤ Zm + D by grind)
  have k2 := Rat.mul_le_mul_of_nonneg_left ZD (show 0 ≤ 8 + 9 * uu by grind)
  have k3 := Rat.mul_le_mul_of_nonneg_right p1 Z0
  have k4 := Rat.mul_le_mul_of_nonneg_right ZD (Rat.le_of_lt u0)
  have eS : elS b a x s (i + 1) = fop .sub .f32 (s (i + 1)) (fop .mul .f32 (elF b a x i) (elS b a x s i)) := rfl
  have F1 : fv .f32 (elF b a x i) * fv .f32 (elS b a x s i) ≤ (81 / 10) * M := by grind
  have F2 : -(fv .f32 (elF b a x i) * fv .f32 (elS b a x s i)) ≤ (81 / 10) * M := by grind
  obtain ⟨c0, c1, c2⟩ := fop_u .mul rfl L.f S0 (by simp) (M := (81 / 10) * M) (by grind) (by grind) (by simp only [ex]; exact F1) (by simp only [ex]; exact F2)
  simp only [ex] at c1 c2
  obtain ⟨pw, hpw⟩ : ∃ y, fop .mul .f32 (elF b a x i) (elS b a x s i) = y := ⟨_, rfl⟩
  rw [hpw] at c0 c1 c2 eS
  obtain ⟨d0, d1, d2⟩ := fop_u .sub rfl s0 c0 (by simp) (M := ((161 / 10) + (81 / 10) + 1 / 10) * M) (by grind) (by grind) (by simp only [ex]; grind) (by simp only [ex]; grind)
  simp only [ex] at d1 d2
  rw [← eS] at d0 d1 d2
  have D1 : fv .f32 (elS b a x s (i + 1)) - (fv .f32 (s (i + 1)) - fv .f32 (elF b a x i) * fv .f32 (elS b a x s i)) ≤ (162 / 5) * (M * uu) := by grind
  have D2 : (fv .f32 (s (i + 1)) - fv .f32 (elF b a x i) * fv .f32 (elS b a x s i)) - fv .f32 (elS b a x s (i + 1)) ≤ (162 / 5) * (M * uu) := by grind
  have r := el_step (W := W (i + 1)) (p := p (i + 1)) (qi := qiR p n (i + 1)) (ql := qlR p n (i + 1)) (m' := fv .f32 (elA b a x (i + 1))) (Z3 := Z (i + 2)) (c := 98 * uu) L.lo L.hi p0 qn e0 D0 L.g1 L.g2 (by rw [q]; exact L.m1) (by rw [q]; exact L.m2) v1 v2 s1 s2 D1 D2 o1 o2 z1 z1' z2 z2' (by grind) (by grind)
  refine ⟨⟨D1, D2⟩, d0, ?_, ?_⟩
  · rw [es]; have := r.1; grind
  · rw [es]; have := r.2; grind
theorem RowsH.sd (h : RowsH n b a x s p W so Z M D Zm) : ∀ i, i < n → SdH n b a x s p Z M D i
  | 0, _ => h.sfirst
  | i + 1, hi => (h.snext hi (h.sd i (by omega))).2
/-- The answer. -/
structure YdH (n : Nat) (b a x s : Nat → Nat) (p Z : Nat → Rat) (M D : Rat) (i : Nat) : Prop where
  f : fnt .f32 (solO b a x s n i) = true
  y1 : fv .f32 (solO b a x s n i) - Z i ≤ D + (508013 / 100) * (M * uu)
  y2 : Z i - fv .f32 (solO b a x s n i) ≤ D + (508013 / 100) * (M * uu)
  e1 : fv .f32 (elA b a x i) * fv .f32 (solO b a x s n i) - (fv .f32 (elS b a x s i) + qiR p n i * fv .f32 (solO b a x s n (i + 1))) ≤ (37813 / 500) * (M * uu)
  e2 : (fv .f32 (elS b a x s i) + qiR p n i * fv .f32 (solO b a x s n (i + 1))) - fv .f32 (elA b a x i) * fv .f32 (solO b a x s n i) ≤ (37813 / 500) * (M * uu)
theorem RowsH.ylast (h : RowsH n b a x s p W so Z M D Zm) {i : Nat} (hi : i + 1 = n) : YdH n b a x s p Z M D i := by
  obtain ⟨u0, u1, u2, u3⟩ := h.mu
  obtain ⟨D0, Z0, ZD, Zz⟩ := h.hD
  obtain ⟨M1, M2⟩ := h.hM
  have hn := h.hn
  obtain ⟨z1, z1'⟩ := h.hZ i
  obtain ⟨r0, _⟩ := h.hp (i + 1) (by omega)
  obtain ⟨m0, ml, mh⟩ := h.piv i (by omega)
  obtain ⟨S0, v1, v2⟩ := h.sd i (by omega)
  obtain ⟨e0, e6⟩ := epH_le (i := i) u3 (by omega)
  have qz : qiR p n i = 0 := qiR_last (by omega)
  rw [qz] at v1 v2
  have eY := solO_last b a x s n hi
  have mp : 0 < fv .f32 (elA b a x i) := by grind
  have dv : fv .f32 (elS b a x s i) / fv .f32 (elA b a x i) * fv .f32 (elA b a x i) = fv .f32 (elS b a x s i) := Rat.div_mul_cancel (by grind)
  have k1 := Rat.mul_le_mul_of_nonneg_left z1 (Rat.le_of_lt mp)
  have k2 := Rat.mul_le_mul_of_nonneg_left z1' (Rat.le_of_lt mp)
  have k3 := Rat.mul_le_mul_of_nonneg_left ZD (Rat.le_of_lt mp)
  have k4 := Rat.mul_le_mul_of_nonneg_left ml (show 0 ≤ M by grind)
  have k5 := Rat.mul_nonneg (show 0 ≤ M by grind) r0
  have q1 : fv .f32 (elS b a x s i) / fv .f32 (elA b a x i) ≤ 102 / 100 * M := mul_cancel_le mp (by rw [dv]; grind)
  have dn : -(fv .f32 (elS b a x s i) / fv .f32 (elA b a x i)) * fv .f32 (elA b a x i) = -fv .f32 (elS b a x s i) := by grind
  have q2 : -(fv .f32 (elS b a x s i) / fv .f32 (elA b a x i)) ≤ 102 / 100 * M := mul_cancel_le mp (by rw [dn]; grind)
  obtain ⟨y0, y1, y2⟩ := fop_u .quo rfl S0 m0 (fun _ => by grind) (M := 102 / 100 * M) (by grind) (by grind) (by simp only [ex]; exact q1) (by simp only [ex]; exact q2)
  simp only [ex] at y1 y2
  rw [← eY] at y0 y1 y2
  generalize fv .f32 (elS b a x s i) / fv .f32 (elA b a x i) = q at *
  have w1 := Rat.mul_le_mul_of_nonneg_right y1 (Rat.le_of_lt mp)
  have w2 := Rat.mul_le_mul_of_nonneg_right y2 (Rat.le_of_lt mp)
  have w3 := Rat.mul_le_mul_of_nonneg_left mh (Rat.le_of_lt u3)
  have E1 : fv .f32 (elA b a x i) * fv .f32 (solO b a x s n i) - (fv .f32 (elS b a x s i) + 0 * fv .f32 (solO b a x s n (i + 1))) ≤ (37813 / 500) * (M * uu) := by grind
  have E2 : (fv .f32 (elS b a x s i) + 0 * fv .f32 (solO b a x s n (i + 1))) - fv .f32 (elA b a x i) * fv .f32 (solO b a x s n i) ≤ (37813 / 500) * (M * uu) := by grind
  have B := bk_step (qi := 0) (y2 := 0) (Z2 := 0) (δ := (508013 / 100) * (M * uu)) (e := (37813 / 500) * (M * uu)) (w := 1 / 5) Rat.le_refl (by grind) (by grind) (by grind) (show fv .f32 (elS b a x s i) - (fv .f32 (elA b a x i) * Z i - 0 * 0) ≤ (fv .f32 (elA b a x i) - 0) * D + epH M i by grind) (by grind) (by grind) (by grind) (show fv .f32 (elA b a x i) * fv .f32 (solO b a x s n i) - (fv .f32 (elS b a x s i) + 0 * 0) ≤ (37813 / 500) * (M * uu) by grind) (by grind) (by grind)
  exact ⟨y0, B.1, B.2, by rw [qz]; exact E1, by rw [qz]; exact E2⟩
theorem RowsH.ynext (h : RowsH n b a x s p W so Z M D Zm) {i : Nat} (hi : i + 1 < n) (hY : YdH n b a x s p Z M D (i + 1)) : YdH n b a x s p Z M D i := by
  obtain ⟨u0, u1, u2, u3⟩ := h.mu
  obtain ⟨D0, Z0, ZD, Zz⟩ := h.hD
  obtain ⟨M1, M2⟩ := h.hM
  have hn := h.hn
  obtain ⟨z1, z1'⟩ := h.hZ i
  obtain ⟨z2, z2'⟩ := h.hZ (i + 1)
  obtain ⟨r0, r1⟩ := h.hp (i + 1) (by omega)
  have hx := h.hx i (by omega)
  obtain ⟨m0, ml, mh⟩ := h.piv i (by omega)
  obtain ⟨S0, v1, v2⟩ := h.sd i (by omega)
  obtain ⟨e0, e6⟩ := epH_le (i := i) u3 (by omega)
  have qz : qiR p n i = p (i + 1) := qiR_in hi
  rw [qz] at v1 v2
  obtain ⟨y0, y1, y2, _, _⟩ := hY
  have eY := solO_next b a x s n hi
  have mp : 0 < fv .f32 (elA b a x i) := by grind
  obtain ⟨yw, hyw⟩ : ∃ y, solO b a x s n (i + 1) = y := ⟨_, rfl⟩
  rw [hyw] at y0 y1 y2 eY
  -- the product
  have yb1 : fv .f32 yw ≤ 1002 / 1000 * M := by grind
  have yb2 : -fv .f32 yw ≤ 1002 / 1000 * M := by grind
  have pb := mul_bd (a := 8) (b := 1002 / 1000 * M) (x := p (i + 1)) (y := fv .f32 yw) (by grind) r1 (by grind) yb1
  obtain ⟨c0, c1, c2⟩ := fop_u .mul rfl hx.1 y0 (by simp) (M := 8 * (1002 / 1000 * M)) (by grind) (by grind) (by simp only [ex]; rw [hx.2]; grind) (by simp only [ex]; rw [hx.2]; grind)
  simp only [ex] at c1 c2
  rw [hx.2] at c1 c2
  generalize fop .mul .f32 (x i) yw = pw at *
  -- the sum
  have k1 := Rat.mul_le_mul_of_nonneg_left z1 (Rat.le_of_lt mp)
  have k2 := Rat.mul_le_mul_of_nonneg_left z1' (Rat.le_of_lt mp)
  have k3 := Rat.mul_le_mul_of_nonneg_left ZD (Rat.le_of_lt mp)
  have k6 := Rat.mul_le_mul_of_nonneg_right mh (show 0 ≤ M by grind)
  have k7 := Rat.mul_le_mul_of_nonneg_left y1 r0
  have k8 := Rat.mul_le_mul_of_nonneg_left y2 r0
  have k9 := Rat.mul_le_mul_of_nonneg_right r1 (show 0 ≤ (508013 / 100) * (M * uu) by grind)
  have t1 : fv .f32 (elS b a x s i) + p (i + 1) * fv .f32 yw ≤ fv .f32 (elA b a x i) * M + 15 / 1000 * M := by grind
  have t2 : -(fv .f32 (elS b a x s i) + p (i + 1) * fv .f32 yw) ≤ fv .f32 (elA b a x i) * M + 15 / 1000 * M := by grind
  obtain ⟨d0, d1, d2⟩ := fop_u .sub rfl S0 c0 (by simp) (M := (32 + 2 / 10) * M) (by grind) (by grind) (by simp only [ex]; grind) (by simp only [ex]; grind)
  simp only [ex] at d1 d2
  generalize fop .sub .f32 (elS b a x s i) pw = tw at *
  -- the quotient
  have dv : fv .f32 tw / fv .f32 (elA b a x i) * fv .f32 (elA b a x i) = fv .f32 tw := Rat.div_mul_cancel (by grind)
  have k4 := Rat.mul_le_mul_of_nonneg_left ml (show 0 ≤ M by grind)
  have k5 := Rat.mul_nonneg (show 0 ≤ M by grind) r0
  have dn : -(fv .f32 tw / fv .f32 (elA b a x i)) * fv .f32 (elA b a x i) = -fv .f32 tw := by grind
  have q1 : fv .f32 tw / fv .f32 (elA b a x i) ≤ 11 / 10 * M := mul_cancel_le mp (by rw [dv]; grind)
  have q2 : -(fv .f32 tw / fv .f32 (elA b a x i)) ≤ 11 / 10 * M := mul_cancel_le mp (by rw [dn]; grind)
  obtain ⟨x0, x1, x2⟩ := fop_u .quo rfl d0 m0 (fun _ => by grind) (M := 11 / 10 * M) (by grind) (by grind) (by simp only [ex]; exact q1) (by simp only [ex]; exact q2)
  simp only [ex] at x1 x2
  rw [← eY] at x0 x1 x2
  generalize fv .f32 tw / fv .f32 (elA b a x i) = q at *
  have w1 := Rat.mul_le_mul_of_nonneg_right x1 (Rat.le_of_lt mp)
  have w2 := Rat.mul_le_mul_of_nonneg_right x2 (Rat.le_of_lt mp)
  have w3 := Rat.mul_le_mul_of_nonneg_left mh (Rat.le_of_lt u3)
  have E1 : fv .f32 (elA b a x i) * fv .f32 (solO b a x s n i) - (fv .f32 (elS b a x s i) + p (i + 1) * fv .f32 yw) ≤ (37813 / 500) * (M * uu) := by grind
  have E2 : (fv .f32 (elS b a x s i) + p (i + 1) * fv .f32 yw) - fv .f32 (elA b a x i) * fv .f32 (solO b a x s n i) ≤ (37813 / 500) * (M * uu) := by grind
  have B := bk_step (qi := p (i + 1)) (y2 := fv .f32 yw) (Z2 := Z (i + 1)) (δ := (508013 / 100) * (M * uu)) (e := (37813 / 500) * (M * uu)) (w := 1 / 5) r0 (by grind) ml (by grind) v1 v2 y1 y2 E1 E2 (by grind)
  exact ⟨x0, B.1, B.2, by rw [qz, hyw]; exact E1, by rw [qz, hyw]; exact E2⟩
theorem RowsH.yd (h : RowsH n b a x s p W so Z M D Zm) : ∀ j i, i + 1 + j = n → YdH n b a x s p Z M D i
  | 0, i, hi => h.ylast (by omega)
  | j + 1, i, hi => h.ynext (by omega) (h.yd j (i + 1) (by omega))
theorem RowsH.y (h : RowsH n b a x s p W so Z M D Zm) {i : Nat} (hi : i < n) : YdH n b a x s p Z M D i := h.yd (n - (i + 1)) i (by omega)
/-- What is left of a row. -/
theorem RowsH.res (h : RowsH n b a x s p W so Z M D Zm) {i : Nat} (hi : i < n) :
    (W i + p i + p (i + 1)) * fv .f32 (solO b a x s n i) - (if i = 0 then 0 else p i * fv .f32 (solO b a x s n (i - 1))) - qiR p n i * fv .f32 (solO b a x s n (i + 1)) - so i ≤ (154361 / 500) * (M * uu) ∧
    so i - ((W i + p i + p (i + 1)) * fv .f32 (solO b a x s n i) - (if i = 0 then 0 else p i * fv .f32 (solO b a x s n (i - 1))) - qiR p n i * fv .f32 (solO b a x s n (i + 1))) ≤ (154361 / 500) * (M * uu) := by
  obtain ⟨u0, u1, u2, u3⟩ := h.mu
  obtain ⟨D0, Z0, ZD, Zz⟩ := h.hD
  obtain ⟨M1, M2⟩ := h.hM
  have Y := h.y hi
  obtain ⟨z1, z1'⟩ := h.hZ i
  obtain ⟨s0, s1, s2⟩ := h.hs i hi
  have yb1 : fv .f32 (solO b a x s n i) ≤ 101 / 100 * M := by have := Y.y1; grind
  have yb2 : -fv .f32 (solO b a x s n i) ≤ 101 / 100 * M := by have := Y.y2; grind
  cases i with
  | zero =>
    obtain ⟨a0, a1, a2⟩ := h.ha 0 hi
    rw [if_pos rfl]
    have r := res_first (W := W 0) (p := p 0) (q := p 1) (qi := qiR p n 0) (m := fv .f32 (elA b a x 0)) (S := fv .f32 (elS b a x s 0)) (so := so 0) (c := 57 * uu) (k := 17 * (M * uu)) (e := (37813 / 500) * (M * uu)) (Y := 101 / 100 * M) a1 a2 s1 s2 Y.e1 Y.e2 yb1 yb2
    rw [show 0 + 1 = 1 from rfl] at *
    constructor
    · have := r.1; grind
    · have := r.2; grind
  | succ i =>
    rw [if_neg (by omega), show i + 1 - 1 = i by omega]
    have Y0 := h.y (i := i) (by omega)
    obtain ⟨z0, z0'⟩ := h.hZ i
    have L := h.lnk hi
    have S := (h.snext hi (h.sd i (by omega))).1
    have yc1 : fv .f32 (solO b a x s n i) ≤ 101 / 100 * M := by have := Y0.y1; grind
    have yc2 : -fv .f32 (solO b a x s n i) ≤ 101 / 100 * M := by have := Y0.y2; grind
    have q0 := Y0.e1
    have q1 := Y0.e2
    rw [qiR_in hi] at q0 q1
    have r := res_step (W := W (i + 1)) (p := p (i + 1)) (q := p (i + 2)) (qi := qiR p n (i + 1)) (g := 9 * uu) (c := 98 * uu) (d := (162 / 5) * (M * uu)) (k := 17 * (M * uu)) (e0 := (37813 / 500) * (M * uu)) (e := (37813 / 500) * (M * uu)) (Y := 101 / 100 * M) L.lo L.hi L.g1 L.g2 L.m1 L.m2 s1 s2 S.1 S.2 q0 q1 Y.e1 Y.e2 yc1 yc2 yb1 yb2 (by grind)
    rw [show i + 1 + 1 = i + 2 by omega] at *
    constructor
    · have := r.1; grind
    · have := r.2; grind
end
end Go.Proofs.Ytpnkapdemgieaaa
set_option linter.unusedSimpArgs false
set_option linter.unusedVariables false
set_option linter.unusedSectionVars false
namespace Go.Proofs.Ytpnkapdemgieaaa
open Go Go.RowKit
/-- Rows, near exact ones. -/
structure RowsE (n : Nat) (b a x s : Nat → Nat) (p W so Z : Nat → Rat) (M D Zm : Rat) : Prop where
  hn : 1 ≤ n ∧ n ≤ 6
  hM : 1 / 1024 ≤ M ∧ M ≤ 1000
  hD : 0 ≤ D ∧ 0 ≤ Zm ∧ Zm + D ≤ M ∧ Zm ≤ 1 * M
  hp : ∀ i, i ≤ n → 0 ≤ p i ∧ p i ≤ 16
  hW : ∀ i, i < n → 1 / 4 ≤ W i ∧ W i ≤ 16
  hb : ∀ i, i < n → V .f32 (b i) (-(p i))
  hx : ∀ i, i < n → V .f32 (x i) (-(p (i + 1)))
  ha : ∀ i, i < n → fnt .f32 (a i) = true ∧ fv .f32 (a i) - (W i + p i + p (i + 1)) ≤ 81 * uu ∧ (W i + p i + p (i + 1)) - fv .f32 (a i) ≤ 81 * uu
  hs : ∀ i, i < n → fnt .f32 (s i) = true ∧ fv .f32 (s i) - so i ≤ 140 * (M * uu) ∧ so i - fv .f32 (s i) ≤ 140 * (M * uu)
  hsb : ∀ i, i < n → so i ≤ (481 / 10) * M ∧ -so i ≤ (481 / 10) * M
  hZ : ∀ i, Z i ≤ Zm ∧ -Z i ≤ Zm
  hof : so 0 - ((W 0 + p 0 + (qiR p n 0 + qlR p n 0)) * Z 0 - qiR p n 0 * Z 1) ≤ (W 0 + p 0 + qlR p n 0) * D ∧ ((W 0 + p 0 + (qiR p n 0 + qlR p n 0)) * Z 0 - qiR p n 0 * Z 1) - so 0 ≤ (W 0 + p 0 + qlR p n 0) * D
  hoi : ∀ i, i + 1 < n → so (i + 1) - ((W (i + 1) + p (i + 1) + (qiR p n (i + 1) + qlR p n (i + 1))) * Z (i + 1) - p (i + 1) * Z i - qiR p n (i + 1) * Z (i + 2)) ≤ (W (i + 1) + qlR p n (i + 1)) * D ∧ ((W (i + 1) + p (i + 1) + (qiR p n (i + 1) + qlR p n (i + 1))) * Z (i + 1) - p (i + 1) * Z i - qiR p n (i + 1) * Z (i + 2)) - so (i + 1) ≤ (W (i + 1) + qlR p n (i + 1)) * D
section
variable {n : Nat} {b a x s : Nat → Nat} {p W so Z : Nat → Rat} {M D Zm : Rat}
theorem RowsE.mu (h : RowsE n b a x s p W so Z M D Zm) : 0 < uu ∧ 16700000 * uu = 1 ∧ 16700000 * (M * uu) = M ∧ 0 < M * uu := by
  have u1 : 16700000 * uu = 1 := by unfold uu; decide +kernel
  have u0 : 0 < uu := by unfold uu; decide +kernel
  have hM := h.hM
  exact ⟨u0, u1, by grind, Rat.mul_pos (by grind) u0⟩
/-- The pivot. -/
structure PivE (p : Nat → Rat) (b a x : Nat → Nat) (i : Nat) : Prop where
  f : fnt .f32 (elA b a x i) = true
  lo : p (i + 1) + 1 / 5 ≤ fv .f32 (elA b a x i)
  hi : fv .f32 (elA b a x i) ≤ 48 + 1 / 10
/-- From pivot to pivot. -/
structure LnkE (p W : Nat → Rat) (b a x : Nat → Nat) (i : Nat) : Prop where
  f : fnt .f32 (elF b a x i) = true
  lo : -1 ≤ fv .f32 (elF b a x i)
  hi : fv .f32 (elF b a x i) ≤ 0
  g1 : fv .f32 (elF b a x i) * fv .f32 (elA b a x i) + p (i + 1) ≤ 17 * uu
  g2 : -(fv .f32 (elF b a x i) * fv .f32 (elA b a x i) + p (i + 1)) ≤ 17 * uu
  m1 : fv .f32 (elA b a x (i + 1)) - (W (i + 1) + p (i + 1) + p (i + 2) + fv .f32 (elF b a x i) * p (i + 1)) ≤ 146 * uu
  m2 : (W (i + 1) + p (i + 1) + p (i + 2) + fv .f32 (elF b a x i) * p (i + 1)) - fv .f32 (elA b a x (i + 1)) ≤ 146 * uu
theorem RowsE.first (h : RowsE n b a x s p W so Z M D Zm) : PivE p b a x 0 := by
  obtain ⟨u0, u1, _, _⟩ := h.mu
  have hn := h.hn
  obtain ⟨a0, a1, a2⟩ := h.ha 0 (by omega)
  obtain ⟨p0, p1⟩ := h.hp 0 (by omega)
  obtain ⟨q0, q1⟩ := h.hp 1 (by omega)
  obtain ⟨w0, w1⟩ := h.hW 0 (by omega)
  exact ⟨a0, by show p 1 + 1 / 5 ≤ fv .f32 (a 0); grind, by show fv .f32 (a 0) ≤ _; grind⟩
theorem RowsE.next (h : RowsE n b a x s p W so Z M D Zm) {i : Nat} (hi : i + 1 < n) (hp : PivE p b a x i) : LnkE p W b a x i ∧ PivE p b a x (i + 1) := by
  obtain ⟨u0, u1, _, _⟩ := h.mu
  obtain ⟨a0, a1, a2⟩ := h.ha (i + 1) hi
  obtain ⟨p0, p1⟩ := h.hp (i + 1) (by omega)
  obtain ⟨q0, q1⟩ := h.hp (i + 2) (by omega)
  obtain ⟨w0, w1⟩ := h.hW (i + 1) hi
  have hb := h.hb (i + 1) hi
  have hx := h.hx i (by omega)
  obtain ⟨m0, ml, mh⟩ := hp
  have mp : 0 < fv .f32 (elA b a x i) := by grind
  have dv : -(p (i + 1)) / fv .f32 (elA b a x i) * fv .f32 (elA b a x i) = -(p (i + 1)) := Rat.div_mul_cancel (by grind)
  have r0 : Rep .f32 (0 : Rat) := Rep.int (k := .f32) 0 (by decide)
  have r1 : Rep .f32 (1 : Rat) := Rep.int (k := .f32) 1 (by decide)
  have v1 : -1 ≤ -(p (i + 1)) / fv .f32 (elA b a x i) := mul_cancel_le mp (by rw [dv]; grind)
  have v2 : -(p (i + 1)) / fv .f32 (elA b a x i) ≤ 0 := mul_cancel_le mp (by rw [dv]; grind)
  obtain ⟨f0, f1, f2⟩ := fop_btw .quo rfl .f32 (a := -1) (b := 0) hb.1 m0 (fun _ => by grind) r1.neg r0 (by simp only [ex]; rw [hb.2]; exact v1) (by simp only [ex]; rw [hb.2]; exact v2)
  obtain ⟨_, e1, e2⟩ := fop_u .quo rfl hb.1 m0 (fun _ => by grind) (M := -(-(p (i + 1)) / fv .f32 (elA b a x i)) + 1 / 1000000) (by grind) (by grind) (by simp only [ex]; rw [hb.2]; grind) (by simp only [ex]; rw [hb.2]; grind)
  simp only [ex] at e1 e2
  rw [hb.2] at e1 e2
  have f0 : fnt .f32 (elF b a x i) = true := f0
  have f1 : -1 ≤ fv .f32 (elF b a x i) := f1
  have f2 : fv .f32 (elF b a x i) ≤ 0 := f2
  have e1 : fv .f32 (elF b a x i) - -(p (i + 1)) / fv .f32 (elA b a x i) ≤ (-(-(p (i + 1)) / fv .f32 (elA b a x i)) + 1 / 1000000) * uu := e1
  have e2 : -(p (i + 1)) / fv .f32 (elA b a x i) - fv .f32 (elF b a x i) ≤ (-(-(p (i + 1)) / fv .f32 (elA b a x i)) + 1 / 1000000) * uu := e2
  have g1' := Rat.mul_le_mul_of_nonneg_right e1 (Rat.le_of_lt mp)
  have g2' := Rat.mul_le_mul_of_nonneg_right e2 (Rat.le_of_lt mp)
  have eA : elA b a x (i + 1) = fop .sub .f32 (a (i + 1)) (fop .mul .f32 (elF b a x i) (x i)) := rfl
  rw [show i + 1 + 1 = i + 2 by omega] at a1 a2
  obtain ⟨mw, hmw⟩ : ∃ y, elA b a x i = y := ⟨_, rfl⟩
  obtain ⟨fw, hfw⟩ : ∃ y, elF b a x i = y := ⟨_, rfl⟩
  rw [hmw] at m0 ml mh mp dv v1 v2 e1 e2 g1' g2'
  rw [hfw] at f0 f1 f2 e1 e2 g1' g2' eA
  generalize -(p (i + 1)) / fv .f32 mw = q at *
  have mu1 := Rat.mul_le_mul_of_nonneg_right mh (Rat.le_of_lt u0)
  have pu1 := Rat.mul_le_mul_of_nonneg_right p1 (Rat.le_of_lt u0)
  have dvu : q * fv .f32 mw * uu = -(p (i + 1)) * uu := by rw [dv]
  clear e1 e2
  have g1 : fv .f32 fw * fv .f32 mw + p (i + 1) ≤ 17 * uu := by grind
  have g2 : -(fv .f32 fw * fv .f32 mw + p (i + 1)) ≤ 17 * uu := by grind
  -- the product
  obtain ⟨n0, n1⟩ := fneg_val hx.1
  have fp1 := Rat.mul_nonneg (show 0 ≤ -fv .f32 fw by grind) p0
  have fp2 := Rat.mul_le_mul_of_nonneg_right (show -fv .f32 fw ≤ 1 by grind) p0
  have hv : ex .mul (fv .f32 fw) (fv .f32 (x i)) = -fv .f32 fw * p (i + 1) := by simp only [ex]; rw [hx.2]; grind
  have t40 : tp 40 = 1099511627776 := (tp_nat 40).trans rfl
  obtain ⟨c0, c1⟩ := fop_rnd .mul rfl .f32 f0 hx.1 (by simp) 40 (by decide) (by rw [hv, t40]; grind) (by rw [hv, t40]; grind)
  rw [hv] at c1
  have c2 := rnd_u (M := 16) c1 (by grind) (by grind) (by grind)
  have c3 := c1.rep_ge r0 fp1
  have c4 := rnd_le_wd n0 c1 (by rw [n1, hx.2]; grind)
  rw [n1, hx.2] at c4
  generalize fop .mul .f32 fw (x i) = qw at *
  obtain ⟨d0, d1, d2⟩ := fop_u .sub rfl a0 c0 (by simp) (M := 48 + 1) (by grind) (by grind) (by simp only [ex]; grind) (by simp only [ex]; grind)
  simp only [ex] at d1 d2
  obtain ⟨m', hm'⟩ : ∃ y, fop .sub .f32 (a (i + 1)) qw = y := ⟨_, rfl⟩
  rw [hm'] at eA d0 d1 d2
  refine ⟨⟨?_, ?_, ?_, ?_, ?_, ?_, ?_⟩, ?_, ?_, ?_⟩
  · rw [hfw]; exact f0
  · rw [hfw]; exact f1
  · rw [hfw]; exact f2
  · rw [hfw, hmw]; exact g1
  · rw [hfw, hmw]; exact g2
  · rw [hfw, eA]; grind
  · rw [hfw, eA]; grind
  · rw [eA]; exact d0
  · rw [eA, show i + 1 + 1 = i + 2 by omega]; grind
  · rw [eA]; grind
theorem RowsE.piv (h : RowsE n b a x s p W so Z M D Zm) : ∀ i, i < n → PivE p b a x i
  | 0, _ => h.first
  | i + 1, hi => (h.next hi (h.piv i (by omega))).2
theorem RowsE.lnk (h : RowsE n b a x s p W so Z M D Zm) {i : Nat} (hi : i + 1 < n) : LnkE p W b a x i := (h.next hi (h.piv i (by omega))).1
/-- How far the right sides may be off by then. -/
def epE (M : Rat) (i : Nat) : Rat := ((i + 1 : Nat) : Rat) * ((2077 / 5) * (M * uu))
theorem epE_succ (M : Rat) (i : Nat) : epE M (i + 1) = epE M i + (2077 / 5) * (M * uu) := by
  unfold epE
  rw [Rat.natCast_add (i + 1) 1]
  have e : ((1 : Nat) : Rat) = 1 := rfl
  rw [e]; grind
theorem epE_le {M : Rat} {i : Nat} (h : 0 < M * uu) (hi : i < 6) : 0 ≤ epE M i ∧ epE M i ≤ 6 * ((2077 / 5) * (M * uu)) := by
  unfold epE
  have k0 : (0 : Rat) ≤ ((i + 1 : Nat) : Rat) := by exact_mod_cast Nat.zero_le _
  have k1 : ((i + 1 : Nat) : Rat) ≤ ((6 : Nat) : Rat) := by exact_mod_cast (by omega : i + 1 ≤ 6)
  have e : ((6 : Nat) : Rat) = 6 := rfl
  rw [e] at k1
  have w : 0 ≤ (2077 / 5) * (M * uu) := by grind
  exact ⟨Rat.mul_nonneg k0 w, Rat.mul_le_mul_of_nonneg_right k1 w⟩
/-- The right side. -/
structure SdE (n : Nat) (b a x s : Nat → Nat) (p Z : Nat → Rat) (M D : Rat) (i : Nat) : Prop where
  f : fnt .f32 (elS b a x s i) = true
  v1 : fv .f32 (elS b a x s i) - (fv .f32 (elA b a x i) * Z i - qiR p n i * Z (i + 1)) ≤ (fv .f32 (elA b a x i) - qiR p n i) * D + epE M i
  v2 : (fv .f32 (elA b a x i) * Z i - qiR p n i * Z (i + 1)) - fv .f32 (elS b a x s i) ≤ (fv .f32 (elA b a x i) - qiR p n i) * D + epE M i
/-- From right side to right side. -/
def SLE (b a x s : Nat → Nat) (M : Rat) (i : Nat) : Prop := fv .f32 (elS b a x s (i + 1)) - (fv .f32 (s (i + 1)) - fv .f32 (elF b a x i) * fv .f32 (elS b a x s i)) ≤ (562 / 5) * (M * uu) ∧ (fv .f32 (s (i + 1)) - fv .f32 (elF b a x i) * fv .f32 (elS b a x s i)) - fv .f32 (elS b a x s (i + 1)) ≤ (562 / 5) * (M * uu)
theorem RowsE.sfirst (h : RowsE n b a x s p W so Z M D Zm) : SdE n b a x s p Z M D 0 := by
  obtain ⟨u0, u1, u2, u3⟩ := h.mu
  obtain ⟨D0, Z0, ZD, _⟩ := h.hD
  have hn := h.hn
  obtain ⟨a0, a1, a2⟩ := h.ha 0 (by omega)
  obtain ⟨s0, s1, s2⟩ := h.hs 0 (by omega)
  obtain ⟨o1, o2⟩ := h.hof
  obtain ⟨z1, z2⟩ := h.hZ 0
  have q := qR_sum p n 0
  have k := Rat.mul_le_mul_of_nonneg_right ZD (Rat.le_of_lt u0)
  have E : epE M 0 = (2077 / 5) * (M * uu) := by
    unfold epE
    have e : ((0 + 1 : Nat) : Rat) = 1 := rfl
    rw [e]; grind
  have r := el_first (W := W 0) (p := p 0) (qi := qiR p n 0) (ql := qlR p n 0) (m := fv .f32 (a 0)) (S := fv .f32 (s 0)) (so := so 0) (Z2 := Z 0) (Z3 := Z 1) (D := D) (c := 81 * uu) (k := 140 * (M * uu)) (Zm := Zm) D0 (by rw [q]; exact a1) (by rw [q]; exact a2) s1 s2 o1 o2 z1 z2 (by grind)
  exact ⟨s0, by show fv .f32 (s 0) - (fv .f32 (a 0) * Z 0 - _) ≤ (fv .f32 (a 0) - _) * D + _; rw [E]; have := r.1; grind, by show (fv .f32 (a 0) * Z 0 - _) - fv .f32 (s 0) ≤ (fv .f32 (a 0) - _) * D + _; rw [E]; have := r.2; grind⟩
theorem RowsE.snext (h : RowsE n b a x s p W so Z M D Zm) {i : Nat} (hi : i + 1 < n) (hS : SdE n b a x s p Z M D i) : SLE b a x s M i ∧ SdE n b a x s p Z M D (i + 1) := by
  obtain ⟨u0, u1, u2, u3⟩ := h.mu
  obtain ⟨D0, Z0, ZD, Zz⟩ := h.hD
  obtain ⟨M1, M2⟩ := h.hM
  have hn := h.hn
  obtain ⟨s0, s1, s2⟩ := h.hs (i + 1) hi
  obtain ⟨b1, b2⟩ := h.hsb (i + 1) hi
  obtain ⟨o1, o2⟩ := h.hoi i hi
  obtain ⟨z1, z1'⟩ := h.hZ i
  obtain ⟨z2, z2'⟩ := h.hZ (i + 1)
  obtain ⟨p0, p1⟩ := h.hp (i + 1) (by omega)
  obtain ⟨r0, _⟩ := h.hp (i + 2) (by omega)
  have P := h.piv i (by omega)
  have L := h.lnk hi
  obtain ⟨S0, v1, v2⟩ := hS
  rw [qiR_in hi] at v1 v2
  obtain ⟨e0, e6⟩ := epE_le (i := i) u3 (by omega)
  have q := qR_sum p n (i + 1)
  have qn := (qiR_le (n := n) (i := i + 1) r0).1
  have es := epE_succ M i
  have mp : 0 ≤ fv .f32 (elA b a x i) := by have := P.lo; grind
  obtain ⟨f1, f2⟩ := fs_bd L.lo L.hi p0 mp L.g2 v1 v2 z1 z1' z2 z2' e0 D0 Z0
  have hG : p (i + 1) + 17 * uu ≤ 16 + 17 * uu := by grind
  have k1 := Rat.mul_le_mul_of_nonneg_right hG (show 0 ≤ Zm + D by grind)
  have k2 := Rat.mul_le_mul_of_nonneg_left ZD (show 0 ≤ 16 + 17 * uu by grind)
  have k3 := Rat.mul_le_mul_of_nonneg_right p1 Z0
  have k4 := Rat.mul_le_mul_of_nonneg_right ZD (Rat.le_of_lt u0)
  have eS : elS b a x s (i + 1) = fop .sub .f32 (s (i + 1)) (fop .mul .f32 (elF b a x i) (elS b a x s i)) := rfl
  have F1 : fv .f32 (elF b a x i) * fv .f32 (elS b a x s i) ≤ (321 / 10) * M := by grind
  have F2 : -(fv .f32 (elF b a x i) * fv .f32 (elS b a x s i)) ≤ (321 / 10) * M := by grind
  obtain ⟨c0, c1, c2⟩ := fop_u .mul rfl L.f S0 (by simp) (M := (321 / 10) * M) (by grind) (by grind) (by simp only [ex]; exact F1) (by simp only [ex]; exact F2)
  simp only [ex] at c1 c2
  obtain ⟨pw, hpw⟩ : ∃ y, fop .mul .f32 (elF b a x i) (elS b a x s i) = y := ⟨_, rfl⟩
  rw [hpw] at c0 c1 c2 eS
  obtain ⟨d0, d1, d2⟩ := fop_u .sub rfl s0 c0 (by simp) (M := ((481 / 10) + (321 / 10) + 1 / 10) * M) (by grind) (by grind) (by simp only [ex]; grind) (by simp only [ex]; grind)
  simp only [ex] at d1 d2
  rw [← eS] at d0 d1 d2
  have D1 : fv .f32 (elS b a x s (i + 1)) - (fv .f32 (s (i + 1)) - fv .f32 (elF b a x i) * fv .f32 (elS b a x s i)) ≤ (562 / 5) * (M * uu) := by grind
  have D2 : (fv .f32 (s (i + 1)) - fv .f32 (elF b a x i) * fv .f32 (elS b a x s i)) - fv .f32 (elS b a x s (i + 1)) ≤ (562 / 5) * (M * uu) := by grind
  have r := el_step (W := W (i + 1)) (p := p (i + 1)) (qi := qiR p n (i + 1)) (ql := qlR p n (i + 1)) (m' := fv .f32 (elA b a x (i + 1))) (Z3 := Z (i + 2)) (c := 146 * uu) L.lo L.hi p0 qn e0 D0 L.g1 L.g2 (by rw [q]; exact L.m1) (by rw [q]; exact L.m2) v1 v2 s1 s2 D1 D2 o1 o2 z1 z1' z2 z2' (by grind) (by grind)
  refine ⟨⟨D1, D2⟩, d0, ?_, ?_⟩
  · rw [es]; have := r.1; grind
  · rw [es]; have := r.2; grind
theorem RowsE.sd (h : RowsE n b a x s p W so Z M D Zm) : ∀ i, i < n → SdE n b a x s p Z M D i
  | 0, _ => h.sfirst
  | i + 1, hi => (h.snext hi (h.sd i (by omega))).2
/-- The answer. -/
structure YdE (n : Nat) (b a x s : Nat → Nat) (p Z : Nat → Rat) (M D : Rat) (i : Nat) : Prop where
  f : fnt .f32 (solO b a x s n i) = true
  y1 : fv .f32 (solO b a x s n i) - Z i ≤ D + (1305821 / 100) * (M * uu)
  y2 : Z i - fv .f32 (solO b a x s n i) ≤ D + (1305821 / 100) * (M * uu)
  e1 : fv .f32 (elA b a x i) * fv .f32 (solO b a x s n i) - (fv .f32 (elS b a x s i) + qiR p n i * fv .f32 (solO b a x s n (i + 1))) ≤ (58621 / 500) * (M * uu)
  e2 : (fv .f32 (elS b a x s i) + qiR p n i * fv .f32 (solO b a x s n (i + 1))) - fv .f32 (elA b a x i) * fv .f32 (solO b a x s n i) ≤ (58621 / 500) * (M * uu)
theorem RowsE.ylast (h : RowsE n b a x s p W so Z M D Zm) {i : Nat} (hi : i + 1 = n) : YdE n b a x s p Z M D i := by
  obtain ⟨u0, u1, u2, u3⟩ := h.mu
  obtain ⟨D0, Z0, ZD, Zz⟩ := h.hD
  obtain ⟨M1, M2⟩ := h.hM
  have hn := h.hn
  obtain ⟨z1, z1'⟩ := h.hZ i
  obtain ⟨r0, _⟩ := h.hp (i + 1) (by omega)
  obtain ⟨m0, ml, mh⟩ := h.piv i (by omega)
  obtain ⟨S0, v1, v2⟩ := h.sd i (by omega)
  obtain ⟨e0, e6⟩ := epE_le (i := i) u3 (by omega)
  have qz : qiR p n i = 0 := qiR_last (by omega)
  rw [qz] at v1 v2
  have eY := solO_last b a x s n hi
  have mp : 0 < fv .f32 (elA b a x i) := by grind
  have dv : fv .f32 (elS b a x s i) / fv .f32 (elA b a x i) * fv .f32 (elA b a x i) = fv .f32 (elS b a x s i) := Rat.div_mul_cancel (by grind)
  have k1 := Rat.mul_le_mul_of_nonneg_left z1 (Rat.le_of_lt mp)
  have k2 := Rat.mul_le_mul_of_nonneg_left z1' (Rat.le_of_lt mp)
  have k3 := Rat.mul_le_mul_of_nonneg_left ZD (Rat.le_of_lt mp)
  have k4 := Rat.mul_le_mul_of_nonneg_left ml (show 0 ≤ M by grind)
  have k5 := Rat.mul_nonneg (show 0 ≤ M by grind) r0
  have q1 : fv .f32 (elS b a x s i) / fv .f32 (elA b a x i) ≤ 102 / 100 * M := mul_cancel_le mp (by rw [dv]; grind)
  have dn : -(fv .f32 (elS b a x s i) / fv .f32 (elA b a x i)) * fv .f32 (elA b a x i) = -fv .f32 (elS b a x s i) := by grind
  have q2 : -(fv .f32 (elS b a x s i) / fv .f32 (elA b a x i)) ≤ 102 / 100 * M := mul_cancel_le mp (by rw [dn]; grind)
  obtain ⟨y0, y1, y2⟩ := fop_u .quo rfl S0 m0 (fun _ => by grind) (M := 102 / 100 * M) (by grind) (by grind) (by simp only [ex]; exact q1) (by simp only [ex]; exact q2)
  simp only [ex] at y1 y2
  rw [← eY] at y0 y1 y2
  generalize fv .f32 (elS b a x s i) / fv .f32 (elA b a x i) = q at *
  have w1 := Rat.mul_le_mul_of_nonneg_right y1 (Rat.le_of_lt mp)
  have w2 := Rat.mul_le_mul_of_nonneg_right y2 (Rat.le_of_lt mp)
  have w3 := Rat.mul_le_mul_of_nonneg_left mh (Rat.le_of_lt u3)
  have E1 : fv .f32 (elA b a x i) * fv .f32 (solO b a x s n i) - (fv .f32 (elS b a x s i) + 0 * fv .f32 (solO b a x s n (i + 1))) ≤ (58621 / 500) * (M * uu) := by grind
  have E2 : (fv .f32 (elS b a x s i) + 0 * fv .f32 (solO b a x s n (i + 1))) - fv .f32 (elA b a x i) * fv .f32 (solO b a x s n i) ≤ (58621 / 500) * (M * uu) := by grind
  have B := bk_step (qi := 0) (y2 := 0) (Z2 := 0) (δ := (1305821 / 100) * (M * uu)) (e := (58621 / 500) * (M * uu)) (w := 1 / 5) Rat.le_refl (by grind) (by grind) (by grind) (show fv .f32 (elS b a x s i) - (fv .f32 (elA b a x i) * Z i - 0 * 0) ≤ (fv .f32 (elA b a x i) - 0) * D + epE M i by grind) (by grind) (by grind) (by grind) (show fv .f32 (elA b a x i) * fv .f32 (solO b a x s n i) - (fv .f32 (elS b a x s i) + 0 * 0) ≤ (58621 / 500) * (M * uu) by grind) (by grind) (by grind)
  exact ⟨y0, B.1, B.2, by rw [qz]; exact E1, by rw [qz]; exact E2⟩
theorem RowsE.ynext (h : RowsE n b a x s p W so Z M D Zm) {i : Nat} (hi : i + 1 < n) (hY : YdE n b a x s p Z M D (i + 1)) : YdE n b a x s p Z M D i := by
  obtain ⟨u0, u1, u2, u3⟩ := h.mu
  obtain ⟨D0, Z0, ZD, Zz⟩ := h.hD
  obtain ⟨M1, M2⟩ := h.hM
  have hn := h.hn
  obtain ⟨z1, z1'⟩ := h.hZ i
  obtain ⟨z2, z2'⟩ := h.hZ (i + 1)
  obtain ⟨r0, r1⟩ := h.hp (i + 1) (by omega)
  have hx := h.hx i (by omega)
  obtain ⟨m0, ml, mh⟩ := h.piv i (by omega)
  obtain ⟨S0, v1, v2⟩ := h.sd i (by omega)
  obtain ⟨e0, e6⟩ := epE_le (i := i) u3 (by omega)
  have qz : qiR p n i = p (i + 1) := qiR_in hi
  rw [qz] at v1 v2
  obtain ⟨y0, y1, y2, _, _⟩ := hY
  have eY := solO_next b a x s n hi
  have mp : 0 < fv .f32 (elA b a x i) := by grind
  obtain ⟨yw, hyw⟩ : ∃ y, solO b a x s n (i + 1) = y := ⟨_, rfl⟩
  rw [hyw] at y0 y1 y2 eY
  -- the product
  have yb1 : fv .f32 yw ≤ 1002 / 1000 * M := by grind
  have yb2 : -fv .f32 yw ≤ 1002 / 1000 * M := by grind
  have pb := mul_bd (a := 16) (b := 1002 / 1000 * M) (x := p (i + 1)) (y := fv .f32 yw) (by grind) r1 (by grind) yb1
  obtain ⟨c0, c1, c2⟩ := fop_u .mul rfl hx.1 y0 (by simp) (M := 16 * (1002 / 1000 * M)) (by grind) (by grind) (by simp only [ex]; rw [hx.2]; grind) (by simp only [ex]; rw [hx.2]; grind)
  simp only [ex] at c1 c2
  rw [hx.2] at c1 c2
  generalize fop .mul .f32 (x i) yw = pw at *
  -- the sum
  have k1 := Rat.mul_le_mul_of_nonneg_left z1 (Rat.le_of_lt mp)
  have k2 := Rat.mul_le_mul_of_nonneg_left z1' (Rat.le_of_lt mp)
  have k3 := Rat.mul_le_mul_of_nonneg_left ZD (Rat.le_of_lt mp)
  have k6 := Rat.mul_le_mul_of_nonneg_right mh (show 0 ≤ M by grind)
  have k7 := Rat.mul_le_mul_of_nonneg_left y1 r0
  have k8 := Rat.mul_le_mul_of_nonneg_left y2 r0
  have k9 := Rat.mul_le_mul_of_nonneg_right r1 (show 0 ≤ (1305821 / 100) * (M * uu) by grind)
  have t1 : fv .f32 (elS b a x s i) + p (i + 1) * fv .f32 yw ≤ fv .f32 (elA b a x i) * M + 15 / 1000 * M := by grind
  have t2 : -(fv .f32 (elS b a x s i) + p (i + 1) * fv .f32 yw) ≤ fv .f32 (elA b a x i) * M + 15 / 1000 * M := by grind
  obtain ⟨d0, d1, d2⟩ := fop_u .sub rfl S0 c0 (by simp) (M := (48 + 2 / 10) * M) (by grind) (by grind) (by simp only [ex]; grind) (by simp only [ex]; grind)
  simp only [ex] at d1 d2
  generalize fop .sub .f32 (elS b a x s i) pw = tw at *
  -- the quotient
  have dv : fv .f32 tw / fv .f32 (elA b a x i) * fv .f32 (elA b a x i) = fv .f32 tw := Rat.div_mul_cancel (by grind)
  have k4 := Rat.mul_le_mul_of_nonneg_left ml (show 0 ≤ M by grind)
  have k5 := Rat.mul_nonneg (show 0 ≤ M by grind) r0
  have dn : -(fv .f32 tw / fv .f32 (elA b a x i)) * fv .f32 (elA b a x i) = -fv .f32 tw := by grind
  have q1 : fv .f32 tw / fv .f32 (elA b a x i) ≤ 11 / 10 * M := mul_cancel_le mp (by rw [dv]; grind)
  have q2 : -(fv .f32 tw / fv .f32 (elA b a x i)) ≤ 11 / 10 * M := mul_cancel_le mp (by rw [dn]; grind)
  obtain ⟨x0, x1, x2⟩ := fop_u .quo rfl d0 m0 (fun _ => by grind) (M := 11 / 10 * M) (by grind) (by grind) (by simp only [ex]; exact q1) (by simp only [ex]; exact q2)
  simp only [ex] at x1 x2
  rw [← eY] at x0 x1 x2
  generalize fv .f32 tw / fv .f32 (elA b a x i) = q at *
  have w1 := Rat.mul_le_mul_of_nonneg_right x1 (Rat.le_of_lt mp)
  have w2 := Rat.mul_le_mul_of_nonneg_right x2 (Rat.le_of_lt mp)
  have w3 := Rat.mul_le_mul_of_nonneg_left mh (Rat.le_of_lt u3)
  have E1 : fv .f32 (elA b a x i) * fv .f32 (solO b a x s n i) - (fv .f32 (elS b a x s i) + p (i + 1) * fv .f32 yw) ≤ (58621 / 500) * (M * uu) := by grind
  have E2 : (fv .f32 (elS b a x s i) + p (i + 1) * fv .f32 yw) - fv .f32 (elA b a x i) * fv .f32 (solO b a x s n i) ≤ (58621 / 500) * (M * uu) := by grind
  have B := bk_step (qi := p (i + 1)) (y2 := fv .f32 yw) (Z2 := Z (i + 1)) (δ := (1305821 / 100) * (M * uu)) (e := (58621 / 500) * (M * uu)) (w := 1 / 5) r0 (by grind) ml (by grind) v1 v2 y1 y2 E1 E2 (by grind)
  exact ⟨x0, B.1, B.2, by rw [qz, hyw]; exact E1, by rw [qz, hyw]; exact E2⟩
theorem RowsE.yd (h : RowsE n b a x s p W so Z M D Zm) : ∀ j i, i + 1 + j = n → YdE n b a x s p Z M D i
  | 0, i, hi => h.ylast (by omega)
  | j + 1, i, hi => h.ynext (by omega) (h.yd j (i + 1) (by omega))
theorem RowsE.y (h : RowsE n b a x s p W so Z M D Zm) {i : Nat} (hi : i < n) : YdE n b a x s p Z M D i := h.yd (n - (i + 1)) i (by omega)
/-- What is left of a row. -/
theorem RowsE.res (h : RowsE n b a x s p W so Z M D Zm) {i : Nat} (hi : i < n) :
    (W i + p i + p (i + 1)) * fv .f32 (solO b a x s n i) - (if i = 0 then 0 else p i * fv .f32 (solO b a x s n (i - 1))) - qiR p n i * fv .f32 (solO b a x s n (i + 1)) - so i ≤ (325757 / 500) * (M * uu) ∧
    so i - ((W i + p i + p (i + 1)) * fv .f32 (solO b a x s n i) - (if i = 0 then 0 else p i * fv .f32 (solO b a x s n (i - 1))) - qiR p n i * fv .f32 (solO b a x s n (i + 1))) ≤ (325757 / 500) * (M * uu) := by
  obtain ⟨u0, u1, u2, u3⟩ := h.mu
  obtain ⟨D0, Z0, ZD, Zz⟩ := h.hD
  obtain ⟨M1, M2⟩ := h.hM
  have Y := h.y hi
  obtain ⟨z1, z1'⟩ := h.hZ i
  obtain ⟨s0, s1, s2⟩ := h.hs i hi
  have yb1 : fv .f32 (solO b a x s n i) ≤ 101 / 100 * M := by have := Y.y1; grind
  have yb2 : -fv .f32 (solO b a x s n i) ≤ 101 / 100 * M := by have := Y.y2; grind
  cases i with
  | zero =>
    obtain ⟨a0, a1, a2⟩ := h.ha 0 hi
    rw [if_pos rfl]
    have r := res_first (W := W 0) (p := p 0) (q := p 1) (qi := qiR p n 0) (m := fv .f32 (elA b a x 0)) (S := fv .f32 (elS b a x s 0)) (so := so 0) (c := 81 * uu) (k := 140 * (M * uu)) (e := (58621 / 500) * (M * uu)) (Y := 101 / 100 * M) a1 a2 s1 s2 Y.e1 Y.e2 yb1 yb2
    rw [show 0 + 1 = 1 from rfl] at *
    constructor
    · have := r.1; grind
    · have := r.2; grind
  | succ i =>
    rw [if_neg (by omega), show i + 1 - 1 = i by omega]
    have Y0 := h.y (i := i) (by omega)
    obtain ⟨z0, z0'⟩ := h.hZ i
    have L := h.lnk hi
    have S := (h.snext hi (h.sd i (by omega))).1
    have yc1 : fv .f32 (solO b a x s n i) ≤ 101 / 100 * M := by have := Y0.y1; grind
    have yc2 : -fv .f32 (solO b a x s n i) ≤ 101 / 100 * M := by have := Y0.y2; grind
    have q0 := Y0.e1
    have q1 := Y0.e2
    rw [qiR_in hi] at q0 q1
    have r := res_step (W := W (i + 1)) (p := p (i + 1)) (q := p (i + 2)) (qi := qiR p n (i + 1)) (g := 17 * uu) (c := 146 * uu) (d := (562 / 5) * (M * uu)) (k := 140 * (M * uu)) (e0 := (58621 / 500) * (M * uu)) (e := (58621 / 500) * (M * uu)) (Y := 101 / 100 * M) L.lo L.hi L.g1 L.g2 L.m1 L.m2 s1 s2 S.1 S.2 q0 q1 Y.e1 Y.e2 yc1 yc2 yb1 yb2 (by grind)
    rw [show i + 1 + 1 = i + 2 by omega] at *
    constructor
    · have := r.1; grind
    · have := r.2; grind
end
end Go.Proofs.Ytpnkapdemgieaaa
set_option linter.unusedSimpArgs false
set_option linter.unusedVariables false
set_option linter.unusedSectionVars false
namespace Go.Proofs.Ytpnkapdemgieaaa
open Go Go.RowKit
open Go.ChangeShapes Go.WideShapes Go.ChangeAt Go.RowKit Go.Joins
theorem RW.ptr {B n : Nat} {w : World} {u : Value} {zs : List Nat} (h : RW B w u n zs) (hn : 1 ≤ n) : ∃ g c, u = .slice (some ⟨g, 0, none⟩) n c := by
  have hl := h.len
  unfold RW World.ownsRow at h
  rcases h.2 with ⟨h', hx⟩ | ⟨g, cap, cur, h', _⟩
  · exfalso
    omega
  · exact ⟨g, cap, h'⟩
theorem RW.nil (B : Nat) (w : World) (t : TypeId) (ht : t = 74) (hB : B ≤ w.heap.size) : RW B (w.alloc (.cells #[] t)) (.slice (some ⟨w.heap.size, 0, none⟩) 0 0) 0 [] := by
  subst ht
  exact World.ownsRow_lit w #[] 0 hB (by simp) (by simp)
def Clm.rowE (o : Nat) : Clm := ⟨1, fun _ u => ∃ b, u = .slice (some ⟨b, 0, none⟩) 0 0, fun _ u w => RW o w u 0 [], fun _ => ⟨_, 0, rfl⟩,
  fun _ u w w' h hb => RW.later h hb, fun h => nomatch h⟩
theorem wpC_rowE {ops : Array Oper} {Q : Exit → Act → World → Prop} {W : World} {l : List Oper} {cs : List Clm} {i : Nat} {ks : List (Nat × (World → Prop))} {a : Act} {o : Oper}
    (hw : Region.wanted o (yielded ops a.tmps) = true) (h1 : ∀ w, (execOp a.eval o).run Try.prog w = .ok (.value (.slice (some ⟨w.heap.size, 0, none⟩) 0 0)) (w.alloc (.cells #[] 74)))
    (h : ∀ b, wpC Try.prog ops Q W l cs (i + 1) ((i, fun w => RW W.heap.size w (.slice (some ⟨b, 0, none⟩) 0 0) 0 []) :: ks) (a.put o.dst (.slice (some ⟨b, 0, none⟩) 0 0))) : wpC Try.prog ops Q W (o :: l) (Clm.rowE W.heap.size :: cs) i ks a := by
  refine wpC_make (Clm.rowE W.heap.size) rfl hw (fun w hb hk => ⟨_, _, h1 w, (Below.refl _ _).alloc (Nat.le_refl _) _, ⟨_, rfl⟩, RW.nil _ _ _ rfl hb.size⟩) ?_
  rintro v ⟨b, rfl⟩
  exact h b
theorem wpList_appRow {B n : Nat} {zs : List Nat} {v : Value} {b r0 r1 r2 r3 : Nat} {w : World} {ops : Array Oper} {rest : List Oper} {o : Oper} {a : Act} {Q : Exit → Act → World → Prop} (hg : o.guard = .none) {s x : Operand}
    (ho : o.op = .call { callee := .builtin .append, args := #[s, x], argTypes := #[72, 72] }) (hs : a.eval s = v) (hx : a.eval x = .slice (some ⟨b, 0, .none⟩) 1 1) (hO : RW B w v n zs) (hc0 : w.cell? ⟨b, 0, .none⟩ = some (.float .f32 r0)) (hc1 : w.cell? ⟨b, 1, .none⟩ = some (.float .f32 r1)) (hc2 : w.cell? ⟨b, 2, .none⟩ = some (.float .f32 r2)) (hc3 : w.cell? ⟨b, 3, .none⟩ = some (.float .f32 r3)) (hn : n < 1048576) (hB : B ≤ w.heap.size)
    (h : ∀ g c w', RW B w' (.slice (some ⟨g, 0, none⟩) (n + 1) c) (n + 1) (zs ++ [r0, r1, r2, r3]) → Below B w w' → wpList Try.prog ops Q rest (a.put o.dst (.slice (some ⟨g, 0, none⟩) (n + 1) c)) w') : wpList Try.prog ops Q (o :: rest) a w := by
  obtain ⟨i0, hi, hz0, hz1, hz2⟩ := info_parts Try.infoRow
  refine wpList_append_own_at w hg s x 72 ho B 74 i0 (.agg #[.float .f32 0, .float .f32 0, .float .f32 0, .float .f32 0]) 4 16 (by kernel_rfl) hi hz0 hz1 hz2 (by decide) (by decide) v n (zs.map (Value.float .f32)) hs hO ⟨b, 0, .none⟩ 1 1 [.float .f32 r0, .float .f32 r1, .float .f32 r2, .float .f32 r3] hx rfl ?_ ?_ (by unfold maxLen; omega) (by omega) hB ?_
  · intro j u hj
    match j, hj with
    | 0, hj => simp at hj; subst hj; simpa [Addr.add] using hc0
    | 1, hj => simp at hj; subst hj; simpa [Addr.add] using hc1
    | 2, hj => simp at hj; subst hj; simpa [Addr.add] using hc2
    | 3, hj => simp at hj; subst hj; simpa [Addr.add] using hc3
    | j + 4, hj => simp at hj
  · intro u hu
    simp at hu
    rcases hu with rfl | rfl | rfl | rfl <;> rfl
  · intro v' w' hown hgrow _ _
    have hO' : RW B w' v' (n + 1) (zs ++ [r0, r1, r2, r3]) := by
      unfold RW
      simpa using hown
    obtain ⟨g, c, rfl⟩ := hO'.ptr (by omega)
    exact h g c w' hO' ((Below.refl _ _).grown hgrow hB fun k hk => (World.ownsRow.lt hO k hk).1)
end Go.Proofs.Ytpnkapdemgieaaa
set_option linter.unusedSimpArgs false
set_option linter.unusedVariables false
set_option linter.unusedSectionVars false
namespace Go.Proofs.Ytpnkapdemgieaaa
open Go Go.RowKit
open Go.ChangeShapes Go.WideShapes Go.ChangeAt Go.RowKit Go.Joins
section
variable {P : Program} {ops : Array Oper} {Q : Exit → Act → World → Prop} {F I : World → Prop} {l : List Oper} {cs : List GC} {i : Nat} {ks : List (Nat × (World → Prop))} {a : Act} {o : Oper}
/-- A slice of numbers of these classes that a call has made while it turned memory. -/
def Clm.solv (B n : Nat) (L : List Nat) : Clm := ⟨3, fun _ v => ∃ q c, v = .slice q n c, fun _ v w => ∃ ys, OF B w v ys ∧ ys.map (cn .f32) = L ∧ ys.length = n, fun _ => ⟨_, none, 0, rfl⟩, fun _ _ _ _ h hb => by
    obtain ⟨ys, h1, h2⟩ := h
    exact ⟨ys, h1.later hb, h2⟩, fun h => nomatch h⟩
theorem wpG_solv {B n : Nat} {L : List Nat} (I' : World → Prop) (hI : ∀ w w', I' w → Below w.heap.size w w' → I' w') (hw : Region.wanted o (yielded ops a.tmps) = true) {f : FuncId} {args : Array Value} (he : ∀ w, (execOp a.eval o).run P w = .ok (.enter f args) w)
    (h1 : ∀ w, I w → depK o ks w → Calls P f args w (fun e w' => ∃ v, e = .returned v ∧ I' w' ∧ (∃ q c, v = .slice q n c) ∧ ∃ ys, OF B w' v ys ∧ ys.map (cn .f32) = L ∧ ys.length = n))
    (h : ∀ q c, wpG P ops Q F I' l cs (i + 1) [(i, fun w => ∃ ys, OF B w (.slice q n c) ys ∧ ys.map (cn .f32) = L ∧ ys.length = n)] (a.put o.dst (.slice q n c))) : wpG P ops Q F I (o :: l) (⟨Clm.solv B n L, I', hI⟩ :: cs) i ks a := by
  refine wpG_turnC (Clm.solv B n L) rfl I' hI hw he (fun w hi hk => ?_) ?_
  · exact Calls.mono (h1 w hi hk) fun e w' ⟨v, e1, h2, h3, h4⟩ => ⟨v, e1, h2, h3, h4⟩
  · rintro v ⟨q, c, rfl⟩
    exact h q c
theorem wpG_callRB {R : Rd} {b : Bool} (B : Nat) (hw : Region.wanted o (yielded ops a.tmps) = true) {f : FuncId} {args : Array Value} (he : ∀ w, (execOp a.eval o).run P w = .ok (.enter f args) w)
    (hB : ∀ w, I w → B ≤ w.heap.size) (hc : ∀ w, I w → depK o ks w → Calls P f args w (BRB w R b))
    (h : ∀ m, wpG P ops Q F I l cs (i + 1) ((i, fun w => ∀ u, Value.tuple #[rdV R m, .bool b] = .tuple #[rdV R u, .bool b] → RdA B w R u) :: ks) (a.put o.dst (.tuple #[.agg #[.slice m.p1 R.a.length m.c1, .slice m.p2 R.b.length m.c2, .slice m.p3 R.c.length m.c3, .slice m.p4 R.d.length m.c4], .bool b]))) : wpG P ops Q F I (o :: l) (GC.of (Clm.rodB R b B) :: cs) i ks a := by
  refine wpG_one (Clm.rodB R b B) rfl hw (fun w hi hk => ?_) ?_
  · rw [he w]
    refine Calls.mono (hc w hi hk) ?_
    rintro e w' ⟨m, rfl, hbl, hX⟩
    refine ⟨_, rfl, hbl, ⟨m, rfl⟩, fun u e => ?_⟩
    have e1 : rdV R m = rdV R u := by
      have h2 : Value.tuple #[rdV R m, .bool b] = .tuple #[rdV R u, .bool b] := e
      simpa using h2
    rw [← rdV_inj e1]
    exact hX.ra (hB w hi)
  · rintro v ⟨m, rfl⟩; exact h m
theorem RdA.low {B : Nat} {w : World} {R : Rd} {m : RL} (h : RdA B w R m) {b : Nat} (hb : b < B) (o : Nat) (vs : List Value) : RdA B (w.setCells b o vs) R m := by
  have hg := grown_setCells b vs o w
  have key : ∀ {u xs}, OF B w u xs → u.ownBlock = none ∨ u.ownBlock ≠ some b := fun {u xs} h1 => by
    cases hu : u.ownBlock with
    | none => exact .inl rfl
    | some k =>
      refine .inr fun e => ?_
      have h2 := (h1.block k hu).1
      cases e
      omega
  exact ⟨⟨h.1.1.kept hg (key h.1.1), h.1.2.1.kept hg (key h.1.2.1), h.1.2.2.1.kept hg (key h.1.2.2.1), h.1.2.2.2.kept hg (key h.1.2.2.2)⟩, h.2⟩
theorem owned_stored {w : World} {b : Nat} {a0 a1 a2 a3 x0 x1 x2 x3 : Value} (h : owned w b [a0, a1, a2, a3]) : owned (w.setCells b 0 [x0, x1, x2, x3]) b [x0, x1, x2, x3] := by
  have k0 := h 0 a0 rfl
  have k1 := h 1 a1 rfl
  have k2 := h 2 a2 rfl
  have k3 := h 3 a3 rfl
  intro k x hk
  simp only [World.setCells]
  match k, hk with
  | 0, hk => simp at hk; subst hk; exact ⟨by go_simp, by go_simp⟩
  | 1, hk => simp at hk; subst hk; exact ⟨by go_simp, by go_simp⟩
  | 2, hk => simp at hk; subst hk; exact ⟨by go_simp, by go_simp⟩
  | 3, hk => simp at hk; subst hk; exact ⟨by go_simp, by go_simp⟩
  | k + 4, hk => simp at hk
/-- What is told of the store of a rod. -/
def putRK (R : Rd) (B : Nat) (x : List Value) (w : World) : Prop := match x with | .pointer (some ⟨b, _, _⟩) :: v :: _ => (∀ u, v = rdV R u → RdA B w R u ∧ owned w b [.slice u.p1 R.a.length u.c1, .slice u.p2 R.b.length u.c2, .slice u.p3 R.c.length u.c3, .slice u.p4 R.d.length u.c4]) | _ => True
theorem putRK_later {R : Rd} {B : Nat} {x : List Value} {w w' : World} (h : putRK R B x w) (hb : Below w.heap.size w w') : putRK R B x w' := by
  unfold putRK at h ⊢
  split
  · exact fun u e => ⟨(h u e).1.later hb, (h u e).2.later hb⟩
  · trivial
def Clm.putG (R : Rd) (B : Nat) : Clm := ⟨3, fun _ v => v = undef, fun x _ w => putRK R B x w, fun _ => ⟨_, rfl⟩, fun _ _ _ _ h hb => putRK_later h hb, fun h => nomatch h⟩
theorem wpG_putR {R : Rd} {m : RL} {ty : TypeId} {X Y : Operand} {b : Nat} (B : Nat) (olds : List Value) (I' : World → Prop) (hI : ∀ w w', I' w → Below w.heap.size w w' → I' w') (ho : o.op = .store ty X Y) (hx : a.eval X = .pointer (some ⟨b, 0, none⟩)) (hy : a.eval Y = .agg #[.slice m.p1 R.a.length m.c1, .slice m.p2 R.b.length m.c2, .slice m.p3 R.c.length m.c3, .slice m.p4 R.d.length m.c4]) (hn : olds.length = 4)
    (hi : (P.info? ty).map (·.size) = some 4) (hw : Region.wanted o (yielded ops a.tmps) = true) (hk : ∀ w, I w → owned w b olds)
    (hm : ∀ w, I w → depK o ks w → (I' (w.setCells b 0 [.slice m.p1 R.a.length m.c1, .slice m.p2 R.b.length m.c2, .slice m.p3 R.c.length m.c3, .slice m.p4 R.d.length m.c4]) ∧ RdA B (w.setCells b 0 [.slice m.p1 R.a.length m.c1, .slice m.p2 R.b.length m.c2, .slice m.p3 R.c.length m.c3, .slice m.p4 R.d.length m.c4]) R m) ∧ owned (w.setCells b 0 [.slice m.p1 R.a.length m.c1, .slice m.p2 R.b.length m.c2, .slice m.p3 R.c.length m.c3, .slice m.p4 R.d.length m.c4]) b [.slice m.p1 R.a.length m.c1, .slice m.p2 R.b.length m.c2, .slice m.p3 R.c.length m.c3, .slice m.p4 R.d.length m.c4])
    (h : wpG P ops Q F I' l cs (i + 1) [(i, fun w => ∀ u, rdV R m = rdV R u → RdA B w R u ∧ owned w b [.slice u.p1 R.a.length u.c1, .slice u.p2 R.b.length u.c2, .slice u.p3 R.c.length u.c3, .slice u.p4 R.d.length u.c4])] (a.put o.dst undef)) : wpG P ops Q F I (o :: l) (⟨Clm.putG R B, I', hI⟩ :: cs) i ks a := by
  have ex : ∃ r, oargs ops o a = .pointer (some ⟨b, 0, none⟩) :: rdV R m :: r := ⟨_, by
    unfold oargs
    rw [ho]
    show [a.eval X, a.eval Y] ++ _ = _
    rw [hx, hy]; rfl⟩
  obtain ⟨r, ex⟩ := ex
  have ek : (Clm.putG R B).K (oargs ops o a) undef = fun w => ∀ u, rdV R m = rdV R u → RdA B w R u ∧ owned w b [.slice u.p1 R.a.length u.c1, .slice u.p2 R.b.length u.c2, .slice u.p3 R.c.length u.c3, .slice u.p4 R.d.length u.c4] := by
    funext w
    show putRK R B (oargs ops o a) w = _
    rw [ex]; rfl
  simp only [wpG]
  refine ⟨.inl ⟨hw, .inr (.inr (.inl rfl)), fun h => absurd (show (3 : Nat) = 0 from h) (by decide), fun h => absurd (show (3 : Nat) = 4 from h) (by decide), fun h => absurd (show (3 : Nat) = 1 from h) (by decide), fun _ w hi' hkw => ?_⟩, fun u hu => ?_⟩
  · have hown := hk w hi'
    have ht : w.there b 0 4 := fun j hj => by
      have hj' : j < olds.length := by omega
      have := hown j olds[j] (List.getElem?_eq_getElem hj')
      simp only [Nat.zero_add]
      exact ⟨by rw [this.1]; rfl, this.2⟩
    have hall : (#[Value.slice m.p1 R.a.length m.c1, .slice m.p2 R.b.length m.c2, .slice m.p3 R.c.length m.c3, .slice m.p4 R.d.length m.c4] : Array Value).all (·.oneCell') = true := Array.all_eq_true_iff_forall_mem.2 fun v hv => by
      simp only [List.mem_toArray, List.mem_cons, List.not_mem_nil, or_false] at hv
      rcases hv with rfl | rfl | rfl | rfl <;> rfl
    have hr : (execOp a.eval o).run P w = .ok .skip (w.setCells b 0 [.slice m.p1 R.a.length m.c1, .slice m.p2 R.b.length m.c2, .slice m.p3 R.c.length m.c3, .slice m.p4 R.d.length m.c4]) := by
      unfold execOp
      simp only [ho, hx, hy, Instr.storeAt, Instr.sureAddr, Sem.run_bind, Sem.run_pure, Result.andThen_ok, run_storeVar_mid w b 0 ty #[.slice m.p1 R.a.length m.c1, .slice m.p2 R.b.length m.c2, .slice m.p3 R.c.length m.c3, .slice m.p4 R.d.length m.c4] ht hi hall]
    rw [hr]
    obtain ⟨⟨g1, g2⟩, g3⟩ := hm w hi' hkw
    refine ⟨g1, rfl, ?_⟩
    rw [ek]
    intro u e
    rw [← rdV_inj e]
    exact ⟨g2, g3⟩
  · have hu : u = undef := hu
    subst hu
    rw [ek]
    exact h
end
end Go.Proofs.Ytpnkapdemgieaaa

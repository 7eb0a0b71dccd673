/-
  Waves below a ground: whole parts, sines, points of a circle, on words; how great they are. No condition but what each law says; nothing of the program is named here.
-/
import Derived.Test.YtldancjofgobnaaErrW
import Derived.Test.YtldancjofgobnaaVv
set_option linter.unusedSimpArgs false
set_option linter.unusedVariables false
set_option linter.unusedSectionVars false
namespace Go.Proofs.Ytldancjofgobnaa
open Go Go.RowKit
/-! ### The whole part -/
/-- A 64-bit number cut towards zero. -/
def trI (y : Nat) : Int := ((FloatKind.f64.decode y).toInt .zero).getD 0
def whW (y : Nat) : Nat := floatOfInt .f64 (trI y)
theorem cn_ofInt (k : FloatKind) (n : Int) : cn k (floatOfInt k n) = floatOfInt k n := cn_of_not (enc_not_nan k (d := .number (n < 0) n.natAbs 0) rfl)
theorem cn_whW (y : Nat) : cn .f64 (whW y) = whW y := cn_ofInt _ _
theorem zero_cut (s : Bool) (n b : Nat) : Ieee.Toward.zero.cut s n b = n / 2 ^ b := by
  unfold Ieee.Toward.cut
  simp only [Nat.shiftLeft_eq, Nat.one_mul, Bool.toNat_false, Nat.add_zero]
  by_cases h : b ≤ n.log2 + 2
  · rw [Nat.min_eq_left h]
  · rw [Nat.min_eq_right (by omega)]
    have h1 : n < 2 ^ (n.log2 + 1) := Nat.lt_log2_self
    have h2 : 2 ^ (n.log2 + 1) ≤ 2 ^ (n.log2 + 2) := Nat.pow_le_pow_right (by decide) (by omega)
    have h3 : 2 ^ (n.log2 + 1) ≤ 2 ^ b := Nat.pow_le_pow_right (by decide) (by omega)
    rw [Nat.div_eq_of_lt (by omega), Nat.div_eq_of_lt (by omega)]
/-- What is cut, as a whole number without sign. -/
def trM (m : Nat) (i : Int) : Nat := (m <<< i.toNat) / 2 ^ (-i).toNat
theorem trM_val (m : Nat) (i : Int) : ((trM m i : Nat) : Rat) ≤ (m : Rat) * tp i ∧ (m : Rat) * tp i < ((trM m i : Nat) : Rat) + 1 := by
  have e : (m : Rat) * tp i * ((2 ^ (-i).toNat : Nat) : Rat) = ((m <<< i.toNat : Nat) : Rat) := by
    rw [Nat.shiftLeft_eq, Rat.natCast_mul, ← tp_nat, ← tp_nat, Rat.mul_assoc, ← tp_add]
    congr 2; omega
  have p : (0 : Rat) < ((2 ^ (-i).toNat : Nat) : Rat) := by exact_mod_cast Nat.two_pow_pos _
  have h1 := Nat.div_mul_le_self (m <<< i.toNat) (2 ^ (-i).toNat)
  have h2 := Nat.lt_div_mul_add (a := m <<< i.toNat) (b := 2 ^ (-i).toNat) (Nat.two_pow_pos _)
  unfold trM
  generalize (m <<< i.toNat) / 2 ^ (-i).toNat = M at *
  generalize m <<< i.toNat = n at *
  generalize 2 ^ (-i).toNat = b at *
  have c1 : ((M : Nat) : Rat) * (b : Rat) ≤ (n : Rat) := by exact_mod_cast h1
  have c2 : (n : Rat) < ((M : Nat) : Rat) * (b : Rat) + (b : Rat) := by exact_mod_cast h2
  constructor
  · exact mul_cancel_le p (by rw [e]; exact c1)
  · have h3 : (m : Rat) * tp i * (b : Rat) < (((M : Nat) : Rat) + 1) * (b : Rat) := by rw [e]; grind
    exact Rat.lt_of_mul_lt_mul_right h3 (Rat.le_of_lt p)
theorem trI_of {y : Nat} {s : Bool} {m : Nat} {i : Int} (h : FloatKind.f64.format.read y = .number s m i) : (FloatKind.f64.decode y).toInt .zero = some (Ieee.signed s (trM m i) 0) ∧ (FloatKind.f64.decode y).integral .zero = .number s (trM m i) 0 := by
  have h' : FloatKind.f64.decode y = .number s m i := h
  rw [h']
  unfold Ieee.Datum.toInt Ieee.Datum.integral
  simp only [zero_cut]
  exact ⟨rfl, rfl⟩
theorem signed_zero (s : Bool) (M : Nat) : Ieee.signed s M 0 = if s then -(M : Int) else (M : Int) := by
  unfold Ieee.signed
  simp
/-- The whole part's word, drawn by either side. -/
theorem whW_of {y : Nat} {s : Bool} {m : Nat} {i : Int} (h : FloatKind.f64.format.read y = .number s m i) : trI y = (if s then -((trM m i : Nat) : Int) else ((trM m i : Nat) : Int)) ∧ whW y = if trM m i = 0 then 0 else FloatKind.f64.encode (.number s (trM m i) 0) := by
  have e : trI y = (if s then -((trM m i : Nat) : Int) else ((trM m i : Nat) : Int)) := by
    unfold trI
    rw [(trI_of h).1, signed_zero]; rfl
  refine ⟨e, ?_⟩
  unfold whW
  rw [e]
  generalize trM m i = M
  by_cases h0 : M = 0
  · subst h0
    rw [if_pos rfl]
    cases s <;> (unfold floatOfInt FloatKind.nearest; decide +kernel)
  · rw [if_neg h0]
    unfold floatOfInt FloatKind.nearest
    cases s
    · have e1 : decide (((M : Nat) : Int) < 0) = false := decide_eq_false (by omega)
      simp only [Bool.false_eq_true, if_false, Int.natAbs_natCast]
      rw [e1]
    · have e1 : decide (-((M : Nat) : Int) < 0) = true := decide_eq_true (by omega)
      simp only [if_true, Int.natAbs_neg, Int.natAbs_natCast]
      rw [e1]
/-- A 64-bit number that is not too great to have a part of a turn. -/
def Tame (y : Nat) : Prop := fnt .f64 y = true ∧ -4503599627370496 < fv .f64 y ∧ fv .f64 y < 4503599627370496
theorem fnt_read {k : FloatKind} {y : Nat} (h : fnt k y = true) : ∃ s m i, k.format.read y = .number s m i := by
  unfold fnt at h
  cases e : k.format.read y with
  | number s m i => exact ⟨s, m, i, rfl⟩
  | infinity s => rw [e] at h; cases h
  | nan s t => rw [e] at h; cases h
theorem tame_tr {y : Nat} (h : Tame y) : (trI y).natAbs ≤ 4503599627370496 ∧ -1 < fv .f64 y - (trI y : Rat) ∧ fv .f64 y - (trI y : Rat) < 1 := by
  obtain ⟨h0, h1, h2⟩ := h
  obtain ⟨s, m, i, e⟩ := fnt_read h0
  obtain ⟨_, ev⟩ := fv_of e
  obtain ⟨t1, _⟩ := whW_of e
  obtain ⟨b1, b2⟩ := trM_val m i
  rw [ev] at h1 h2 ⊢
  rw [t1]
  have hM : trM m i ≤ 4503599627370496 := by
    have : ((trM m i : Nat) : Rat) ≤ ((4503599627370496 : Nat) : Rat) := by
      have e9 : ((4503599627370496 : Nat) : Rat) = 4503599627370496 := rfl
      rw [e9]
      cases s <;> simp only [sg] at h1 h2 <;> grind
    exact_mod_cast this
  have m0 : (0 : Rat) ≤ ((trM m i : Nat) : Rat) := by exact_mod_cast Nat.zero_le _
  cases s
  · simp only [sg, Bool.false_eq_true, if_false] at *
    rw [Rat.intCast_natCast]
    exact ⟨by omega, by grind, by grind⟩
  · simp only [sg, if_true] at *
    rw [Rat.intCast_neg, Rat.intCast_natCast]
    exact ⟨by omega, by grind, by grind⟩
theorem whW_val {y : Nat} (h : Tame y) : V .f64 (whW y) (trI y : Rat) := V.int .f64 (trI y) (by have := (tame_tr h).1; show _ < 2 ^ (52 + 1); omega)
/-! ### What is left of turns -/
def c64n (z : Nat) : Nat := cn .f64 z
def poD (y : Nat) : Nat := fop .sub .f64 y (whW y)
def poT (y : Nat) : Nat := if flt .f64 (poD y) (cn .f64 0) then fop .add .f64 (poD y) (cn .f64 4607182418800017408) else poD y
theorem cn_poT (y : Nat) : cn .f64 (poT y) = poT y := by unfold poT; split; exact cn_fop _ _ _ _; exact cn_fop _ _ _ _
theorem Vz : V .f64 (cn .f64 0) 0 := ⟨by decide +kernel, by decide +kernel⟩
theorem Vo : V .f64 (cn .f64 4607182418800017408) 1 := ⟨by decide +kernel, by decide +kernel⟩
theorem Vq : V .f64 (cn .f64 4598175219545276416) (1 / 4) := ⟨by decide +kernel, by decide +kernel⟩
theorem Vh : V .f64 (cn .f64 4602678819172646912) (1 / 2) := ⟨by decide +kernel, by decide +kernel⟩
theorem Rq (z : Int) (h : z.natAbs < 9007199254740992) : Rep .f64 ((z : Rat) / 4) := rep_at (k := .f64) z (-2) (by show _ < 2 ^ (52 + 1); omega) (by decide) (by decide) (by have := tp_n2; grind)
theorem R0 : Rep .f64 (0 : Rat) := Rep.int (k := .f64) 0 (by decide)
theorem R1 : Rep .f64 (1 : Rat) := Rep.int (k := .f64) 1 (by decide)
theorem R2 : Rep .f64 (2 : Rat) := Rep.int (k := .f64) 2 (by decide)
theorem R4 : Rep .f64 (4 : Rat) := Rep.int (k := .f64) 4 (by decide)
theorem Rqq : Rep .f64 ((1 : Rat) / 4) := by have := Rq 1 (by decide); have e : ((1 : Int) : Rat) = 1 := rfl; rwa [e] at this
theorem Rhh : Rep .f64 ((1 : Rat) / 2) := by
  have h := Rq 2 (by decide)
  have e : ((2 : Int) : Rat) = 2 := rfl
  rw [e] at h
  have e2 : (2 : Rat) / 4 = 1 / 2 := by grind
  rwa [e2] at h
theorem Rhq : Rep .f64 ((3 : Rat) / 4) := by have := Rq 3 (by decide); have e : ((3 : Int) : Rat) = 3 := rfl; rwa [e] at this
theorem poT_btw {y : Nat} (h : Tame y) : Btw .f64 (poT y) 0 1 := by
  obtain ⟨t1, t2, t3⟩ := tame_tr h
  have w := whW_val h
  obtain ⟨d0, d1, d2⟩ := fop_btw .sub rfl .f64 h.1 w.1 (by simp) R1.neg R1 (by simp only [ex]; rw [w.2]; grind) (by simp only [ex]; rw [w.2]; grind)
  unfold poT
  have d0 : fnt .f64 (poD y) = true := d0
  by_cases hn : flt .f64 (poD y) (cn .f64 0) = true
  · rw [if_pos hn]
    rw [fltv d0 Vz.1, Vz.2] at hn
    have hn := of_decide_eq_true hn
    exact fop_btw .add rfl .f64 d0 Vo.1 (by simp) R0 R1 (by simp only [ex]; rw [Vo.2]; show 0 ≤ fv .f64 (poD y) + 1; have : -1 ≤ fv .f64 (poD y) := d1; grind) (by simp only [ex]; rw [Vo.2]; show fv .f64 (poD y) + 1 ≤ 1; grind)
  · rw [if_neg hn]
    rw [fltv d0 Vz.1, Vz.2] at hn
    have hn : ¬ fv .f64 (poD y) < 0 := fun h => hn (decide_eq_true h)
    exact ⟨d0, by grind, d2⟩
/-! ### Sines -/
def snS (y : Nat) : Bool := fge .f64 (poT y) (cn .f64 4602678819172646912)
def snG (y : Nat) : Nat := if snS y then fop .sub .f64 (poT y) (cn .f64 4602678819172646912) else poT y
def snH (y : Nat) : Nat := if fgt .f64 (snG y) (cn .f64 4598175219545276416) then fop .sub .f64 (cn .f64 4602678819172646912) (snG y) else snG y
def snZ (y : Nat) : Nat := fop .mul .f64 (snH y) (cn .f64 4618760256179416344)
def snU (y : Nat) : Nat := fop .mul .f64 (snZ y) (snZ y)
def snC (j : Nat) : Nat := fI (2 * (8 - (j : Int)) * (2 * (8 - (j : Int)) + 1))
def snP (u : Nat) : Nat → Nat
  | 0 => cn .f64 4607182418800017408
  | j + 1 => fop .sub .f64 (cn .f64 4607182418800017408) (fop .quo .f64 (fop .mul .f64 u (snP u j)) (snC j))
def snM (y : Nat) : Nat := fop .mul .f64 (snZ y) (snP (snU y) 8)
def sn (y : Nat) : Nat := if snS y then fneg .f64 (snM y) else snM y
theorem cn_fneg (k : FloatKind) (x : Nat) (h : cn k x = x) : cn k (fneg k x) = fneg k x := by
  unfold fneg
  split
  · exact cn_of_isN (isN_qn _)
  · rename_i hn
    exact cn_of_not (by rw [isN_neg]; simpa using hn)
theorem cn_snG (y : Nat) : cn .f64 (snG y) = snG y := by unfold snG; split; exact cn_fop _ _ _ _; exact cn_poT _
theorem cn_snH (y : Nat) : cn .f64 (snH y) = snH y := by unfold snH; split; exact cn_fop _ _ _ _; exact cn_snG _
theorem cn_snP (u : Nat) (j : Nat) : cn .f64 (snP u j) = snP u j := by cases j; exact cn_cn _ _; exact cn_fop _ _ _ _
theorem cn_sn (y : Nat) : cn .f64 (sn y) = sn y := by unfold sn; split; exact cn_fneg _ _ (cn_fop _ _ _ _); exact cn_fop _ _ _ _
theorem snC_val : ∀ j : Nat, j < 8 → fnt .f64 (snC j) = true ∧ 6 ≤ fv .f64 (snC j) := by decide +kernel
/-- The divisors, as the program draws them. -/
theorem snC_drawn : ∀ j : Nat, j < 8 → (fop .mul .f64 (fop .mul .f64 (cn .f64 4611686018427387904) (fI (8 - (j : Int)))) (fop .add .f64 (fop .mul .f64 (cn .f64 4611686018427387904) (fI (8 - (j : Int)))) (cn .f64 4607182418800017408)) = snC j) ∧ fge .f64 (fI (8 - (j : Int))) (cn .f64 4607182418800017408) = true ∧ fop .sub .f64 (fI (8 - (j : Int))) (cn .f64 4607182418800017408) = fI (8 - ((j + 1 : Nat) : Int)) := by decide +kernel
theorem fI_8 : fI 8 = cn .f64 4620693217682128896 := by decide +kernel
theorem snH_btw {y : Nat} (h : Tame y) : Btw .f64 (snH y) 0 (1 / 4) := by
  obtain ⟨p0, p1, p2⟩ := poT_btw h
  have g : Btw .f64 (snG y) 0 (1 / 2) := by
    unfold snG snS
    by_cases hs : fge .f64 (poT y) (cn .f64 4602678819172646912) = true
    · rw [if_pos hs]
      rw [fgev p0 Vh.1, Vh.2] at hs
      have hs := of_decide_eq_true hs
      exact fop_btw .sub rfl .f64 p0 Vh.1 (by simp) R0 Rhh (by simp only [ex]; rw [Vh.2]; grind) (by simp only [ex]; rw [Vh.2]; grind)
    · rw [if_neg hs]
      rw [fgev p0 Vh.1, Vh.2] at hs
      have hs : ¬ 1 / 2 ≤ fv .f64 (poT y) := fun h => hs (decide_eq_true h)
      exact ⟨p0, p1, by grind⟩
  obtain ⟨g0, g1, g2⟩ := g
  unfold snH
  by_cases hs : fgt .f64 (snG y) (cn .f64 4598175219545276416) = true
  · rw [if_pos hs]
    rw [fgtv g0 Vq.1, Vq.2] at hs
    have hs := of_decide_eq_true hs
    exact fop_btw .sub rfl .f64 Vh.1 g0 (by simp) R0 Rqq (by simp only [ex]; rw [Vh.2]; grind) (by simp only [ex]; rw [Vh.2]; grind)
  · rw [if_neg hs]
    rw [fgtv g0 Vq.1, Vq.2] at hs
    have hs : ¬ 1 / 4 < fv .f64 (snG y) := fun h => hs (decide_eq_true h)
    exact ⟨g0, g1, by grind⟩
theorem snZ_btw {y : Nat} (h : Tame y) : Btw .f64 (snZ y) 0 2 := by
  obtain ⟨p0, p1, p2⟩ := snH_btw h
  have c0 : fnt .f64 (cn .f64 4618760256179416344) = true := by decide +kernel
  have c1 : 0 ≤ fv .f64 (cn .f64 4618760256179416344) := by decide +kernel
  have c2 : fv .f64 (cn .f64 4618760256179416344) ≤ 8 := by decide +kernel
  have a1 := Rat.mul_nonneg p1 c1
  have a2 := Rat.mul_le_mul_of_nonneg_left c2 p1
  exact fop_btw .mul rfl .f64 p0 c0 (by simp) R0 R2 (by simp only [ex]; exact a1) (by simp only [ex]; grind)
theorem snP_btw {u : Nat} (hu : Btw .f64 u 0 4) : ∀ j, j ≤ 8 → Btw .f64 (snP u j) 0 1
  | 0, _ => ⟨Vo.1, by show 0 ≤ fv .f64 (cn .f64 4607182418800017408); rw [Vo.2]; decide, by show fv .f64 (cn .f64 4607182418800017408) ≤ 1; rw [Vo.2]; exact Rat.le_refl⟩
  | j + 1, hj => by
    obtain ⟨p0, p1, p2⟩ := snP_btw hu j (by omega)
    obtain ⟨u0, u1, u2⟩ := hu
    obtain ⟨c0, c1⟩ := snC_val j (by omega)
    have a1 := Rat.mul_nonneg u1 p1
    have a2 := Rat.mul_le_mul_of_nonneg_left p2 u1
    obtain ⟨m0, m1, m2⟩ := fop_btw .mul rfl .f64 u0 p0 (by simp) R0 R4 (by simp only [ex]; exact a1) (by simp only [ex]; grind)
    have hc : 0 < fv .f64 (snC j) := by grind
    have dv : fv .f64 (fop .mul .f64 u (snP u j)) / fv .f64 (snC j) * fv .f64 (snC j) = fv .f64 (fop .mul .f64 u (snP u j)) := Rat.div_mul_cancel (by grind)
    obtain ⟨q0, q1, q2⟩ := fop_btw .quo rfl .f64 m0 c0 (fun _ => by grind) R0 R1 (by simp only [ex]; exact mul_cancel_le hc (by rw [dv]; grind)) (by simp only [ex]; exact mul_cancel_le hc (by rw [dv]; grind))
    simp only [snP]
    exact fop_btw .sub rfl .f64 Vo.1 q0 (by simp) R0 R1 (by simp only [ex]; rw [Vo.2]; grind) (by simp only [ex]; rw [Vo.2]; grind)
theorem sn_bnd {y : Nat} (h : Tame y) : Bnd .f64 (sn y) 2 := by
  obtain ⟨z0, z1, z2⟩ := snZ_btw h
  have a1 := Rat.mul_nonneg z1 z1
  have a2 := Rat.mul_le_mul_of_nonneg_left z2 z1
  have U : Btw .f64 (snU y) 0 4 := fop_btw .mul rfl .f64 z0 z0 (by simp) R0 R4 (by simp only [ex]; exact a1) (by simp only [ex]; grind)
  obtain ⟨p0, p1, p2⟩ := snP_btw U 8 (Nat.le_refl _)
  have b1 := Rat.mul_nonneg z1 p1
  have b2 := Rat.mul_le_mul_of_nonneg_left p2 z1
  obtain ⟨m0, m1, m2⟩ := fop_btw .mul rfl .f64 z0 p0 (by simp) R0 R2 (by simp only [ex]; exact b1) (by simp only [ex]; grind)
  have M : Bnd .f64 (snM y) 2 := ⟨m0, by show -2 ≤ fv .f64 (fop .mul .f64 (snZ y) (snP (snU y) 8)); grind, m2⟩
  unfold sn
  split
  · exact M.neg
  · exact M
/-! ### Points of a circle -/
def phF (y : Nat) : Nat → Nat
  | 0 => poT y
  | j + 1 => fop .sub .f64 (phF y j) (cn .f64 4598175219545276416)
theorem cn_phF (y j : Nat) : cn .f64 (phF y j) = phF y j := by cases j; exact cn_poT _; exact cn_fop _ _ _ _
/-- The quarter in which a point lies. -/
structure Qtr (y k : Nat) : Prop where
  le : k ≤ 4
  all : ∀ j, j < k → fge .f64 (phF y j) (cn .f64 4598175219545276416) = true
  last : fge .f64 (phF y k) (cn .f64 4598175219545276416) = false
  btw : Btw .f64 (phF y k) 0 (1 / 4)
theorem ph_step {x : Nat} {a b : Rat} (ha : Rep .f64 b) (hx : Btw .f64 x 0 a) (hb : a - 1 / 4 ≤ b) (h : fge .f64 x (cn .f64 4598175219545276416) = true) : Btw .f64 (fop .sub .f64 x (cn .f64 4598175219545276416)) 0 b := by
  obtain ⟨x0, x1, x2⟩ := hx
  rw [fgev x0 Vq.1, Vq.2] at h
  have h := of_decide_eq_true h
  exact fop_btw .sub rfl .f64 x0 Vq.1 (by simp) R0 ha (by simp only [ex]; rw [Vq.2]; grind) (by simp only [ex]; rw [Vq.2]; grind)
theorem ph_low {x : Nat} {a : Rat} (hx : Btw .f64 x 0 a) (h : fge .f64 x (cn .f64 4598175219545276416) = false) : Btw .f64 x 0 (1 / 4) := by
  obtain ⟨x0, x1, x2⟩ := hx
  rw [fgev x0 Vq.1, Vq.2] at h
  have h := of_decide_eq_false h
  exact ⟨x0, x1, by grind⟩
theorem qtr_of {y : Nat} (h : Tame y) : ∃ k, Qtr y k := by
  have b0 := poT_btw h
  have b0 : Btw .f64 (phF y 0) 0 1 := b0
  cases f0 : fge .f64 (phF y 0) (cn .f64 4598175219545276416) with
  | false => exact ⟨0, by decide, fun j hj => by omega, f0, ph_low b0 f0⟩
  | true =>
  have b1 : Btw .f64 (phF y 1) 0 (3 / 4) := ph_step Rhq b0 (by grind) f0
  cases f1 : fge .f64 (phF y 1) (cn .f64 4598175219545276416) with
  | false => exact ⟨1, by decide, fun j hj => by obtain rfl : j = 0 := by omega
                                                 exact f0, f1, ph_low b1 f1⟩
  | true =>
  have b2 : Btw .f64 (phF y 2) 0 (1 / 2) := ph_step Rhh b1 (by grind) f1
  cases f2 : fge .f64 (phF y 2) (cn .f64 4598175219545276416) with
  | false => exact ⟨2, by decide, fun j hj => by match j, hj with
                                                 | 0, _ => exact f0
                                                 | 1, _ => exact f1, f2, ph_low b2 f2⟩
  | true =>
  have b3 : Btw .f64 (phF y 3) 0 (1 / 4) := ph_step Rqq b2 (by grind) f2
  cases f3 : fge .f64 (phF y 3) (cn .f64 4598175219545276416) with
  | false => exact ⟨3, by decide, fun j hj => by match j, hj with
                                                 | 0, _ => exact f0
                                                 | 1, _ => exact f1
                                                 | 2, _ => exact f2, f3, ph_low b3 f3⟩
  | true =>
  have b4 : Btw .f64 (phF y 4) 0 0 := ph_step R0 b3 (by grind) f3
  have f4 : fge .f64 (phF y 4) (cn .f64 4598175219545276416) = false := by
    rw [fgev b4.1 Vq.1, Vq.2]
    have := b4.2.2
    exact decide_eq_false (by grind)
  exact ⟨4, by decide, fun j hj => by match j, hj with
                                      | 0, _ => exact f0
                                      | 1, _ => exact f1
                                      | 2, _ => exact f2
                                      | 3, _ => exact f3, f4, ph_low b4 f4⟩
def phC (y k : Nat) : Nat := sn (fop .sub .f64 (cn .f64 4598175219545276416) (phF y k))
def phS (y k : Nat) : Nat := sn (phF y k)
def phA (y k : Nat) : Nat := if k = 1 then fop .sub .f64 (cn .f64 0) (phS y k) else if k = 2 then fop .sub .f64 (cn .f64 0) (phC y k) else if k = 3 then phS y k else phC y k
def phB (y k : Nat) : Nat := if k = 1 then phC y k else if k = 2 then fop .sub .f64 (cn .f64 0) (phS y k) else if k = 3 then fop .sub .f64 (cn .f64 0) (phC y k) else phS y k
theorem tame_of {x : Nat} {a b : Rat} (h : Btw .f64 x a b) (ha : -4 ≤ a) (hb : b ≤ 4) : Tame x := ⟨h.1, by have := h.2.1; grind, by have := h.2.2; grind⟩
theorem qtr_args {y k : Nat} (h : Qtr y k) : Tame (phF y k) ∧ Tame (fop .sub .f64 (cn .f64 4598175219545276416) (phF y k)) := by
  obtain ⟨b0, b1, b2⟩ := h.btw
  refine ⟨tame_of h.btw (by grind) (by grind), tame_of (a := 0) (b := 1 / 4) ?_ (by grind) (by grind)⟩
  exact fop_btw .sub rfl .f64 Vq.1 b0 (by simp) R0 Rqq (by simp only [ex]; rw [Vq.2]; grind) (by simp only [ex]; rw [Vq.2]; grind)
theorem less_bnd {x : Nat} (h : Bnd .f64 x 2) : Bnd .f64 (fop .sub .f64 (cn .f64 0) x) 2 := by
  obtain ⟨h0, h1, h2⟩ := h
  exact fop_btw .sub rfl .f64 Vz.1 h0 (by simp) R2.neg R2 (by simp only [ex]; rw [Vz.2]; grind) (by simp only [ex]; rw [Vz.2]; grind)
theorem ph_bnd {y k : Nat} (h : Qtr y k) : Bnd .f64 (phC y k) 2 ∧ Bnd .f64 (phS y k) 2 ∧ Bnd .f64 (phA y k) 2 ∧ Bnd .f64 (phB y k) 2 := by
  obtain ⟨t1, t2⟩ := qtr_args h
  have C : Bnd .f64 (phC y k) 2 := sn_bnd t2
  have S : Bnd .f64 (phS y k) 2 := sn_bnd t1
  refine ⟨C, S, ?_, ?_⟩
  · unfold phA; split
    · exact less_bnd S
    · split
      · exact less_bnd C
      · split
        · exact S
        · exact C
  · unfold phB; split
    · exact C
    · split
      · exact less_bnd S
      · split
        · exact less_bnd C
        · exact S
theorem fits_two {x : Nat} (h : Bnd .f64 x 2) : fits x = true ∧ Bnd .f32 (narrow x) 2 := narrow_bnd h (Rep.int (k := .f32) 2 (by decide))
/-! ### The exponential function of what is not above 0 -/
theorem exV_btw {x : Nat} (h : Btw .f64 x (-200) 0) : Btw .f64 (exV x) 0 1 := by
  obtain ⟨x0, x1, x2⟩ := h
  have V256 : V .f64 (cn .f64 4643211215818981376) 256 := ⟨by decide +kernel, by decide +kernel⟩
  have dv : fv .f64 x / 256 * 256 = fv .f64 x := Rat.div_mul_cancel (by decide)
  obtain ⟨t0, t1, t2⟩ := fop_btw .quo rfl .f64 (a := -1) (b := 0) x0 V256.1 (fun _ => by rw [V256.2]; decide) R1.neg R0 (by simp only [ex]; rw [V256.2]; grind) (by simp only [ex]; rw [V256.2]; grind)
  have P : ∀ j, j ≤ 12 → Btw .f64 (exP (fop .quo .f64 x (cn .f64 4643211215818981376)) j) 0 1 := by
    intro j
    induction j with
    | zero => intro _; exact ⟨Vo.1, by show 0 ≤ fv .f64 (cn .f64 4607182418800017408); rw [Vo.2]; decide, by show fv .f64 (cn .f64 4607182418800017408) ≤ 1; rw [Vo.2]; exact Rat.le_refl⟩
    | succ j ih =>
      intro hj
      obtain ⟨p0, p1, p2⟩ := ih (by omega)
      simp only [exP]
      generalize fop .quo .f64 x (cn .f64 4643211215818981376) = T at *
      generalize exP T j = p at *
      have c : fnt .f64 (fI (12 - (j : Int))) = true ∧ 1 ≤ fv .f64 (fI (12 - (j : Int))) := by
        have key : ∀ j : Nat, j < 12 → fnt .f64 (fI (12 - (j : Int))) = true ∧ 1 ≤ fv .f64 (fI (12 - (j : Int))) := by decide +kernel
        exact key j (by omega)
      obtain ⟨c0, c1⟩ := c
      have a1 := Rat.mul_nonneg (show 0 ≤ -fv .f64 T by grind) p1
      have a2 := Rat.mul_le_mul_of_nonneg_right (show -fv .f64 T ≤ 1 by grind) p1
      obtain ⟨m0, m1, m2⟩ := fop_btw .mul rfl .f64 (a := -1) (b := 0) t0 p0 (by simp) R1.neg R0 (by simp only [ex]; grind) (by simp only [ex]; grind)
      have hc : 0 < fv .f64 (fI (12 - (j : Int))) := by grind
      have dv2 : fv .f64 (fop .mul .f64 T p) / fv .f64 (fI (12 - (j : Int))) * fv .f64 (fI (12 - (j : Int))) = fv .f64 (fop .mul .f64 T p) := Rat.div_mul_cancel (by grind)
      obtain ⟨q0, q1, q2⟩ := fop_btw .quo rfl .f64 (a := -1) (b := 0) m0 c0 (fun _ => by grind) R1.neg R0 (by simp only [ex]; exact mul_cancel_le hc (by rw [dv2]; grind)) (by simp only [ex]; exact mul_cancel_le hc (by rw [dv2]; grind))
      exact fop_btw .add rfl .f64 Vo.1 q0 (by simp) R0 R1 (by simp only [ex]; rw [Vo.2]; grind) (by simp only [ex]; rw [Vo.2]; grind)
  have Q : ∀ p, Btw .f64 p 0 1 → ∀ j, Btw .f64 (exQ p j) 0 1 := by
    intro p hp j
    induction j with
    | zero => exact hp
    | succ j ih =>
      obtain ⟨p0, p1, p2⟩ := ih
      have a1 := Rat.mul_nonneg p1 p1
      have a2 := Rat.mul_le_mul_of_nonneg_left p2 p1
      exact fop_btw .mul rfl .f64 p0 p0 (by simp) R0 R1 (by simp only [ex]; exact a1) (by simp only [ex]; grind)
  exact Q _ (P 12 (Nat.le_refl _)) 8
end Go.Proofs.Ytldancjofgobnaa

/-
  The square root of a 32-bit number, drawn in 64 bits: it has a nearest 32-bit number. No condition but what each law says.
-/
import Derived.Test.YtiodpahbmoeiaaaBnd
set_option linter.unusedSimpArgs false
set_option linter.unusedVariables false
set_option linter.unusedSectionVars false
namespace Go.Proofs.Ytiodpahbmoeiaaa
open Go Go.RowKit
/-- The root's word, all NaNs taken as one. -/
def sqC (x : Nat) : Nat := (FloatKind.f64.format.sqrt x).getD (qn .f64)
theorem cn_sqC (x : Nat) : cn .f64 (sqC x) = sqC x := by
  unfold sqC
  cases h : FloatKind.f64.format.sqrt x with
  | none => exact cn_of_isN (isN_qn _)
  | some r => exact cn_of_not (map_write_not_nan (fun _ => root_not_nan) h)
theorem sqrt_cn (x : Nat) : FloatKind.f64.format.sqrt (cn .f64 x) = FloatKind.f64.format.sqrt x := by
  by_cases h : isN .f64 x = true
  · have key : ∀ y, isN .f64 y = true → FloatKind.f64.format.sqrt y = none := by
      intro y hy
      obtain ⟨s, t, e⟩ := decode_nan hy
      simp [Ieee.Format.sqrt, e, Ieee.Datum.root]
    rw [key x h, key _ (by rw [isN_cn]; exact h)]
  · rw [cn_of_not (by simpa using h)]
theorem sqC_cn (x : Nat) : sqC (cn .f64 x) = sqC x := by unfold sqC; rw [sqrt_cn]
theorem rootFrom_lt (n : Nat) : ∀ todo root : Nat, Ieee.Datum.rootFrom n todo root < root + 2 ^ todo
  | 0, root => by simp [Ieee.Datum.rootFrom]
  | todo + 1, root => by
    have h := rootFrom_lt n todo
    unfold Ieee.Datum.rootFrom
    simp only [Nat.shiftLeft_eq, Nat.one_mul]
    rw [Nat.pow_succ]
    split
    · have := h (root + 2 ^ todo); omega
    · have := h root; have := Nat.two_pow_pos todo; omega
/-- A root of a number that is not too great. -/
theorem root_bnd {s : Bool} {m : Nat} {i : Int} {d : Ieee.Datum} (hv : (m : Rat) * tp i ≤ tp 128) (h : Ieee.Datum.root 54 (.number s m i) = some d) : isNum d = true ∧ dv d ≤ tp 70 ∧ -dv d ≤ tp 70 := by
  have hp70 := tp_pos 70
  unfold Ieee.Datum.root at h
  dsimp only at h
  by_cases hm : m = 0
  · rw [if_pos hm] at h
    cases h
    subst hm
    have : dv (.number s 0 i) = 0 := by simp [dv]
    exact ⟨rfl, by rw [this]; exact Rat.le_of_lt hp70, by rw [this]; simpa using Rat.le_of_lt hp70⟩
  · rw [if_neg hm] at h
    cases s with
    | true => cases h
    | false =>
      simp only [Bool.false_eq_true, if_false, Option.some.injEq, Nat.shiftLeft_eq] at h
      obtain ⟨M, hM⟩ : ∃ M, M = 2 * 54 - m.log2 + ((i - (2 * 54 - m.log2 : Nat)) % 2).toNat := ⟨_, rfl⟩
      rw [← hM] at h
      obtain ⟨W, hW⟩ : ∃ W, W = Ieee.Datum.rootFrom (m * 2 ^ M) ((m * 2 ^ M).log2 / 2 + 1) 0 := ⟨_, rfl⟩
      rw [← hW] at h
      have hlt : W < 2 ^ ((m * 2 ^ M).log2 / 2 + 1) := by
        have := rootFrom_lt (m * 2 ^ M) ((m * 2 ^ M).log2 / 2 + 1) 0
        rw [hW]; omega
      have hlog : (m * 2 ^ M).log2 = m.log2 + M := by
        refine (Nat.log2_eq_iff (Nat.mul_ne_zero hm (Nat.ne_of_gt (Nat.two_pow_pos M)))).2 ⟨?_, ?_⟩
        · rw [Nat.pow_add]; exact Nat.mul_le_mul_right _ (Nat.log2_self_le hm)
        · rw [show m.log2 + M + 1 = (m.log2 + 1) + M by omega, Nat.pow_add]; exact Nat.mul_lt_mul_of_pos_right Nat.lt_log2_self (Nat.two_pow_pos M)
      rw [hlog] at hlt
      subst h
      -- where the first digit stands
      have hl : m.log2 + i ≤ 128 := by
        refine le_of_tp (Rat.le_trans ?_ hv)
        have h1 : ((2 ^ m.log2 : Nat) : Rat) ≤ (m : Rat) := by exact_mod_cast Nat.log2_self_le hm
        rw [tp_add, tp_nat]
        exact Rat.mul_le_mul_of_nonneg_right h1 (Rat.le_of_lt (tp_pos i))
      obtain ⟨c, hc⟩ : ∃ c : Nat, c = 2 * W + (W * W != m * 2 ^ M).toNat := ⟨_, rfl⟩
      rw [← hc]
      have hcb : c ≤ 2 ^ ((m.log2 + M) / 2 + 2) := by
        rw [show (m.log2 + M) / 2 + 2 = ((m.log2 + M) / 2 + 1) + 1 by omega, Nat.pow_succ]
        have : (W * W != m * 2 ^ M).toNat ≤ 1 := by cases (W * W != m * 2 ^ M) <;> decide
        omega
      have hpp := tp_pos ((i - (M : Int)) / 2 - 1)
      have hcr : (c : Rat) ≤ ((2 ^ ((m.log2 + M) / 2 + 2) : Nat) : Rat) := by exact_mod_cast hcb
      have hc0 : (0 : Rat) ≤ c := by exact_mod_cast Nat.zero_le c
      have e : dv (.number false c ((i - (M : Int)) / 2 - 1)) = (c : Rat) * tp ((i - (M : Int)) / 2 - 1) := by simp [dv, sg]
      have hup : (c : Rat) * tp ((i - (M : Int)) / 2 - 1) ≤ tp 70 := by
        refine Rat.le_trans (Rat.mul_le_mul_of_nonneg_right hcr (Rat.le_of_lt hpp)) ?_
        rw [← tp_nat, ← tp_add]
        exact tp_le (by omega)
      have hlo := Rat.mul_nonneg hc0 (Rat.le_of_lt hpp)
      refine ⟨rfl, ?_, ?_⟩
      · show dv (.number false c ((i - (M : Int)) / 2 - 1)) ≤ _
        rw [e]; exact hup
      · show -dv (.number false c ((i - (M : Int)) / 2 - 1)) ≤ _
        rw [e]; grind
theorem abs_le {s : Bool} {x b : Rat} (h1 : sg s * x ≤ b) (h2 : -(sg s * x) ≤ b) : x ≤ b := by
  cases s <;> simp [sg] at h1 h2 <;> grind
theorem wide_bd {c : Nat} {s : Bool} {m : Nat} {i : Int} (h : FloatKind.f64.format.read (wide c) = .number s m i) : (m : Rat) * tp i ≤ tp 128 := by
  cases h2 : FloatKind.f32.format.read c with
  | nan t u =>
    exfalso
    have hn : isN .f32 c = true := by unfold isN FloatKind.decode; rw [h2]; rfl
    have e : wide c = qn .f64 := by unfold wide; rw [if_pos hn]
    obtain ⟨t', u', e'⟩ := decode_nan (isN_qn .f64)
    rw [e, e'] at h
    cases h
  | infinity t =>
    exfalso
    have hn : isN .f32 c = false := by unfold isN FloatKind.decode; rw [h2]; rfl
    have e : wide c = FloatKind.f64.encode (.infinity t) := by
      unfold wide; rw [if_neg (by rw [hn]; decide)]
      show FloatKind.f64.encode (FloatKind.f32.format.read c) = _
      rw [h2]
    rw [e] at h
    have e2 : FloatKind.f64.format.read (FloatKind.f64.encode (.infinity t)) = .infinity t := by cases t <;> decide +kernel
    rw [e2] at h
    cases h
  | number t n j =>
    have hc : fnt .f32 c = true := by unfold fnt; rw [h2]; rfl
    obtain ⟨_, hv⟩ := wide_val hc
    obtain ⟨h3, _, h5⟩ := single_place (x := c) h2
    unfold fv at hv
    rw [h, h2] at hv
    have hp := tp_pos j
    have hn0 : (0 : Rat) ≤ n := by exact_mod_cast Nat.zero_le n
    have hn1 : (n : Rat) ≤ ((2 ^ 24 : Nat) : Rat) := by exact_mod_cast Nat.le_of_lt h3
    have a1 := Rat.mul_le_mul_of_nonneg_right hn1 (Rat.le_of_lt hp)
    have a2 : ((2 ^ 24 : Nat) : Rat) * tp j ≤ tp 128 := by rw [← tp_nat, ← tp_add]; exact tp_le (by omega)
    have a3 := Rat.mul_nonneg hn0 (Rat.le_of_lt hp)
    have a4 := tp_pos 128
    have a5 : dv (.number t n j) ≤ tp 128 ∧ -dv (.number t n j) ≤ tp 128 := by
      simp only [dv]
      rcases abs_sg t ((n : Rat) * tp j) with ⟨e, _⟩ | ⟨e, _⟩ <;> rw [e] <;> constructor <;> grind
    rw [← hv] at a5
    exact abs_le (s := s) a5.1 a5.2
theorem fits_qn : fits (qn .f64) = true := by unfold fits; rw [isN_qn]; rfl
theorem sqC_fits (c : Nat) : fits (sqC (wide c)) = true := by
  unfold sqC
  cases h : FloatKind.f64.format.sqrt (wide c) with
  | none => exact fits_qn
  | some r =>
    show fits r = true
    have hr : ∃ d, (FloatKind.f64.format.read (wide c)).root 54 = some d ∧ FloatKind.f64.format.write d = r := by
      have h' : ((FloatKind.f64.format.read (wide c)).root 54).map FloatKind.f64.format.write = some r := h
      cases hd : (FloatKind.f64.format.read (wide c)).root 54 with
      | none => rw [hd] at h'; cases h'
      | some d => rw [hd] at h'; exact ⟨d, rfl, by simpa using h'⟩
    obtain ⟨d, h1, rfl⟩ := hr
    cases h2 : FloatKind.f64.format.read (wide c) with
    | nan s t => rw [h2] at h1; cases h1
    | infinity s =>
      rw [h2] at h1
      have h1' : (if s then none else some (Ieee.Datum.infinity s)) = some d := h1
      cases s with
      | true => cases h1'
      | false =>
        cases h1'
        decide +kernel
    | number s m i =>
      rw [h2] at h1
      have hw : fnt .f64 (wide c) = true := by unfold fnt; rw [h2]; rfl
      have hv : (m : Rat) * tp i ≤ tp 128 := wide_bd h2
      obtain ⟨g1, g2, g3⟩ := root_bnd hv h1
      have key := write_rnd FloatKind.f64.format d g1 (fmt_exp .f64) 70 (by rw [top_eq]; decide) g2 g3
      have hb : Bnd .f64 (FloatKind.f64.format.write d) (tp 70) := by
        have k2 : Rnd FloatKind.f64.format (dv d) (fv .f64 (FloatKind.f64.format.write d)) := key.2
        exact ⟨key.1, k2.rep_ge (Rep.tp 70 (by decide) (by decide)).neg (by grind), k2.rep_le (Rep.tp 70 (by decide) (by decide)) g2⟩
      exact (narrow_bnd hb (Rep.tp 70 (by decide) (by decide))).1
end Go.Proofs.Ytiodpahbmoeiaaa

/-
  How great a square root is. No condition but what each law says; nothing of the program is named here.
  The length of a complex number on words: how far it may be off. No condition but what each law says; nothing of the program is named here.
  The error function, the exponential function, how fast a front goes (the program's and the reference's). No condition but what each contract says.
  Waves below a ground: whole parts, sines, points of a circle, on words; how great they are. No condition but what each law says; nothing of the program is named here.
  The exponential function in 64 bits and how fast a front goes (the program's and the reference's). No condition but what each contract says.
  Complex numbers in single precision that are handed back with a bool, but for the bits of a NaN. No condition but what each contract says.
  Words and bits, whole parts, what is huge, the exponential function of any number (the program's and the reference's). No condition but what each contract says.
  Sines and points of a circle (the program's and the reference's). No condition but what each contract says.
  Points of a circle by turns (the program's and the reference's). No condition but what each contract says.
  Square roots in single precision (the program's and the reference's). No condition but what each contract says.
-/
import Derived.Test.YtpnkapdemgieaaaSM4
import Derived.Test.YtpnkapdemgieaaaSM3
import Derived.Test.YtpnkapdemgieaaaSM2
import Derived.Laws.ComplexArith
import Derived.Laws.Externs
import Derived.Laws.BitsAllLaws
set_option linter.unusedSimpArgs false
set_option linter.unusedVariables false
set_option linter.unusedSectionVars false
namespace Go.Proofs.Ytpnkapdemgieaaa
open Go Go.RowKit
theorem rootFrom_sq (n : Nat) : ∀ todo root : Nat, root * root ≤ n → n < (root + 2 ^ todo) * (root + 2 ^ todo) → Ieee.Datum.rootFrom n todo root * Ieee.Datum.rootFrom n todo root ≤ n ∧ n < (Ieee.Datum.rootFrom n todo root + 1) * (Ieee.Datum.rootFrom n todo root + 1)
  | 0, root, h1, h2 => by
    simp only [Ieee.Datum.rootFrom]
    exact ⟨h1, by simpa using h2⟩
  | todo + 1, root, h1, h2 => by
    unfold Ieee.Datum.rootFrom
    simp only [Nat.shiftLeft_eq, Nat.one_mul]
    split
    · rename_i h
      exact rootFrom_sq n todo _ h (by rw [show root + 2 ^ todo + 2 ^ todo = root + 2 ^ (todo + 1) by rw [Nat.pow_succ]; omega]; exact h2)
    · rename_i h
      exact rootFrom_sq n todo _ h1 (by omega)
/-- A root's datum: whole number and place; its square is near. -/
theorem root_val {m : Nat} {i : Int} {d : Ieee.Datum} (hm : m ≠ 0) (h : Ieee.Datum.root 54 (.number false m i) = some d) : isNum d = true ∧ ∃ (W c : Nat) (p : Int), dv d = (c : Rat) * tp (p - 1) ∧ (c = 2 * W ∨ c = 2 * W + 1) ∧ 2 ^ 53 ≤ W ∧ ((W : Rat) * (W : Rat)) * tp (p + p) ≤ (m : Rat) * tp i ∧ (m : Rat) * tp i ≤ (((W : Rat) + 1) * ((W : Rat) + 1)) * tp (p + p) := by
  unfold Ieee.Datum.root at h
  dsimp only at h
  rw [if_neg hm] at h
  simp only [Bool.false_eq_true, if_false, Option.some.injEq, Nat.shiftLeft_eq] at h
  obtain ⟨M, hM⟩ : ∃ M, M = 2 * 54 - m.log2 + ((i - (2 * 54 - m.log2 : Nat)) % 2).toNat := ⟨_, rfl⟩
  rw [← hM] at h
  have hev : (i - (M : Int)) % 2 = 0 := by
    have hM2 : (M : Int) = ((2 * 54 - m.log2 : Nat) : Int) + (i - ((2 * 54 - m.log2 : Nat) : Int)) % 2 := by omega
    omega
  obtain ⟨n, hn⟩ : ∃ n, n = m * 2 ^ M := ⟨_, rfl⟩
  rw [← hn] at h
  obtain ⟨W, hW⟩ : ∃ W, W = Ieee.Datum.rootFrom n (n.log2 / 2 + 1) 0 := ⟨_, rfl⟩
  rw [← hW] at h
  have hn0 : n ≠ 0 := by rw [hn]; exact Nat.mul_ne_zero hm (Nat.ne_of_gt (Nat.two_pow_pos M))
  have hbig : 2 ^ 107 ≤ n := by
    rw [hn]
    have h1 := Nat.log2_self_le hm
    have h2 : 2 ^ m.log2 * 2 ^ M ≤ m * 2 ^ M := Nat.mul_le_mul_right _ h1
    rw [← Nat.pow_add] at h2
    refine Nat.le_trans (Nat.pow_le_pow_right (by decide) (by omega)) h2
  obtain ⟨s1, s2⟩ := rootFrom_sq n (n.log2 / 2 + 1) 0 (Nat.zero_le _) (by
    rw [Nat.zero_add, ← Nat.pow_add]
    refine Nat.lt_of_lt_of_le Nat.lt_log2_self (Nat.pow_le_pow_right (by decide) (by omega)))
  rw [← hW] at s1 s2
  have hW53 : 2 ^ 53 ≤ W := by
    by_cases hlt : W < 2 ^ 53
    · exfalso
      have : (W + 1) * (W + 1) ≤ 2 ^ 53 * 2 ^ 53 := Nat.mul_le_mul hlt hlt
      rw [← Nat.pow_add] at this
      have : 2 ^ (53 + 53) ≤ 2 ^ 107 := Nat.pow_le_pow_right (by decide) (by decide)
      omega
    · omega
  subst h
  refine ⟨rfl, W, 2 * W + (W * W != n).toNat, (i - (M : Int)) / 2, by simp [dv, sg], by cases (W * W != n) <;> simp, hW53, ?_, ?_⟩
  · have c1 : (W : Rat) * (W : Rat) ≤ (n : Rat) := by exact_mod_cast s1
    have e1 : (m : Rat) * tp i = (n : Rat) * tp ((i - (M : Int)) / 2 + (i - (M : Int)) / 2) := by
      rw [hn, Rat.natCast_mul, ← tp_nat, show (i - (M : Int)) / 2 + (i - (M : Int)) / 2 = i - M by omega, Rat.mul_assoc, ← tp_add]
      congr 2; omega
    rw [e1]
    exact Rat.mul_le_mul_of_nonneg_right c1 (Rat.le_of_lt (tp_pos _))
  · have c1 : (n : Rat) ≤ ((W : Rat) + 1) * ((W : Rat) + 1) := by
      have : (n : Rat) ≤ (((W + 1) * (W + 1) : Nat) : Rat) := by exact_mod_cast Nat.le_of_lt s2
      rw [Rat.natCast_mul, Rat.natCast_add] at this
      exact this
    have e1 : (m : Rat) * tp i = (n : Rat) * tp ((i - (M : Int)) / 2 + (i - (M : Int)) / 2) := by
      rw [hn, Rat.natCast_mul, ← tp_nat, show (i - (M : Int)) / 2 + (i - (M : Int)) / 2 = i - M by omega, Rat.mul_assoc, ← tp_add]
      congr 2; omega
    rw [e1]
    exact Rat.mul_le_mul_of_nonneg_right c1 (Rat.le_of_lt (tp_pos _))
/-- The root is between these: its lower bound's square is no more than the number, its upper bound's no less; they lie a relative 2^-53 apart. -/
theorem root_near {x : Nat} (hx : fnt .f64 x = true) (h0 : 0 < fv .f64 x) : ∃ (lo u : Rat) (d : Ieee.Datum), FloatKind.f64.format.sqrt x = some (FloatKind.f64.format.write d) ∧ isNum d = true ∧ 0 < u ∧ u * 9007199254740992 ≤ lo ∧ lo ≤ dv d ∧ dv d ≤ lo + u ∧ lo * lo ≤ fv .f64 x ∧ fv .f64 x ≤ (lo + u) * (lo + u) := by
  have hx' := hx
  unfold fnt at hx'
  unfold fv at h0 ⊢
  cases e : FloatKind.f64.format.read x with
  | nan s t => rw [e] at hx'; cases hx'
  | infinity s => rw [e] at hx'; cases hx'
  | number s m i =>
    rw [e] at h0
    have t0 := tp_pos i
    have mn : (0 : Rat) ≤ (m : Rat) := by exact_mod_cast Nat.zero_le m
    have mm := Rat.mul_nonneg mn (Rat.le_of_lt t0)
    have hs : s = false := by
      cases s with
      | false => rfl
      | true => exfalso; simp only [dv, sg] at h0; grind
    subst hs
    have hm : m ≠ 0 := by
      rintro rfl
      simp [dv] at h0
    have hd : ∃ d, Ieee.Datum.root 54 (.number false m i) = some d := by
      unfold Ieee.Datum.root
      dsimp only
      rw [if_neg hm]
      exact ⟨_, rfl⟩
    obtain ⟨d, hd⟩ := hd
    obtain ⟨g0, W, c, p, g1, g2, g3, g4, g5⟩ := root_val hm hd
    have tq := tp_pos (p - 1)
    have tpp := tp_pos p
    have e1 : tp p = 2 * tp (p - 1) := by have := tp_succ (p - 1); rwa [show p - 1 + 1 = p by omega] at this
    have e2 : tp (p + p) = tp p * tp p := tp_add p p
    have vx : dv (Ieee.Datum.number false m i) = (m : Rat) * tp i := by simp [dv, sg]
    refine ⟨(W : Rat) * tp p, tp p, d, ?_, g0, tpp, ?_, ?_, ?_, ?_, ?_⟩
    · have : FloatKind.f64.format.sqrt x = ((FloatKind.f64.format.read x).root 54).map FloatKind.f64.format.write := rfl
      rw [this, e, hd]; rfl
    · have : ((2 ^ 53 : Nat) : Rat) ≤ (W : Rat) := by exact_mod_cast g3
      have := Rat.mul_le_mul_of_nonneg_right this (Rat.le_of_lt tpp)
      have e9 : ((2 ^ 53 : Nat) : Rat) = 9007199254740992 := by decide +kernel
      rw [e9] at this; grind
    · rw [g1, e1]
      rcases g2 with rfl | rfl
      · rw [Rat.natCast_mul]; have : ((2 : Nat) : Rat) = 2 := rfl; rw [this]; grind
      · rw [Rat.natCast_add, Rat.natCast_mul]; have : ((2 : Nat) : Rat) = 2 := rfl; have h1 : ((1 : Nat) : Rat) = 1 := rfl; rw [this, h1]; grind
    · rw [g1, e1]
      rcases g2 with rfl | rfl
      · rw [Rat.natCast_mul]; have : ((2 : Nat) : Rat) = 2 := rfl; rw [this]; grind
      · rw [Rat.natCast_add, Rat.natCast_mul]; have : ((2 : Nat) : Rat) = 2 := rfl; have h1 : ((1 : Nat) : Rat) = 1 := rfl; rw [this, h1]; grind
    · rw [vx]; rw [e2] at g4; grind
    · rw [vx]; rw [e2] at g5
      have : ((W : Rat) * tp p + tp p) * ((W : Rat) * tp p + tp p) = ((W : Rat) + 1) * ((W : Rat) + 1) * (tp p * tp p) := by grind
      rw [this]; exact g5
end Go.Proofs.Ytpnkapdemgieaaa
set_option linter.unusedSimpArgs false
set_option linter.unusedVariables false
set_option linter.unusedSectionVars false
namespace Go.Proofs.Ytpnkapdemgieaaa
open Go Go.RowKit
/-- The root of nothing is nothing. -/
theorem root_zero {x : Nat} (hx : fnt .f64 x = true) (h0 : fv .f64 x = 0) : ∃ d, FloatKind.f64.format.sqrt x = some (FloatKind.f64.format.write d) ∧ isNum d = true ∧ dv d = 0 := by
  have hx' := hx
  unfold fnt at hx'
  unfold fv at h0
  cases e : FloatKind.f64.format.read x with
  | nan s t => rw [e] at hx'; cases hx'
  | infinity s => rw [e] at hx'; cases hx'
  | number s m i =>
    rw [e] at h0
    have hm : m = 0 := by
      by_cases hm : m = 0
      · exact hm
      · exfalso
        have t0 := tp_pos i
        have mp : (0 : Rat) < (m : Rat) := by exact_mod_cast Nat.pos_of_ne_zero hm
        have := Rat.mul_pos mp t0
        cases s <;> simp only [dv, sg] at h0 <;> grind
    subst hm
    refine ⟨.number s 0 i, ?_, rfl, by simp [dv]⟩
    have : FloatKind.f64.format.sqrt x = ((FloatKind.f64.format.read x).root 54).map FloatKind.f64.format.write := rfl
    rw [this, e]
    have h1 : Ieee.Datum.root 54 (.number s 0 i) = some (.number s 0 i) := by
      unfold Ieee.Datum.root
      dsimp only
      rw [if_pos rfl]
    rw [h1]; rfl
def lgW (a b : Nat) : Nat := narrow (sqC (pwW a b))
/-- A root, rounded twice, against the number. -/
theorem root_alg {N P lo u d q v e : Rat} (hN : 0 ≤ N) (hP1 : P - N ≤ N * (1 / 9007199254740992) + zz) (hP2 : N - P ≤ N * (1 / 9007199254740992) + zz) (hu : 0 ≤ u) (hul : u * 9007199254740992 ≤ lo) (h1 : lo ≤ d) (h2 : d ≤ lo + u) (h3 : lo * lo ≤ P) (h4 : P ≤ (lo + u) * (lo + u))
    (hq1 : q - d ≤ d * (1 / 9007199254740992) + zz) (hq2 : d - q ≤ d * (1 / 9007199254740992) + zz) (hv1 : v - q ≤ (d + d * (1 / 1000) + zz) * (1 / 16777216) + zz) (hv2 : q - v ≤ (d + d * (1 / 1000) + zz) * (1 / 16777216) + zz)
    (he : v * (1 / 5000000) + 1 / 1000000000000000 ≤ e) (hv0 : 0 ≤ v) : N ≤ (v + e) * (v + e) ∧ (e ≤ v → (v - e) * (v - e) ≤ N) := by
  have lo0 : 0 ≤ lo := by grind
  have d0 : 0 ≤ d := by grind
  unfold zz at *
  constructor
  · have z0 : d * (1 + 9 / 100000000) + 9 / 10000000000000000 ≤ v + e := by clear h3 h4 hP1 hP2; grind
    have s1 := sq_le_of (x := d * (1 + 9 / 100000000) + 9 / 10000000000000000) (M := v + e) z0 (by clear h3 h4 hP1 hP2; grind)
    have s2 := sq_le_of (x := lo + u) (M := d * (1 + 1 / 9007199254740992)) (by clear h3 h4 hP1 hP2 s1; grind) (by clear h3 h4 hP1 hP2 s1; grind)
    have dd := sq_nonneg d
    clear hq1 hq2 hv1 hv2 he z0 h3
    grind
  · intro hev
    have z1 : v - e ≤ lo * (1 - 9 / 100000000) - 9 / 10000000000000000 := by clear h3 h4 hP1 hP2; grind
    have s1 := sq_le_of (x := v - e) (M := lo * (1 - 9 / 100000000) - 9 / 10000000000000000) z1 (by clear h3 h4 hP1 hP2; grind)
    have ll := sq_nonneg lo
    have k : 0 ≤ lo * (1 - 9 / 100000000) - 9 / 10000000000000000 := by grind
    clear hq1 hq2 hv1 hv2 he z1 h4
    grind
/-- The length of a complex number. -/
theorem lg_ok {a b : Nat} {M : Rat} (ha : Fw a M) (hb : Fw b M) (hM : M ≤ 1000) : fits (sqC (pwW a b)) = true ∧ fnt .f32 (lgW a b) = true ∧ 0 ≤ fv .f32 (lgW a b) ∧ fv .f32 (lgW a b) ≤ 2000 ∧
    ∀ e, fv .f32 (lgW a b) * (1 / 5000000) + 1 / 1000000000000000 ≤ e → Nb (fv .f32 a) (fv .f32 b) (fv .f32 (lgW a b) + e) ∧ (e ≤ fv .f32 (lgW a b) → (fv .f32 (lgW a b) - e) * (fv .f32 (lgW a b) - e) ≤ fv .f32 a * fv .f32 a + fv .f32 b * fv .f32 b) := by
  have z0 := zz_pos
  have zs : zz ≤ 1 / 1000000000000000 := by decide +kernel
  obtain ⟨c1, c2, c3, c4⟩ := wsum .add (.inl rfl) ha hb ha hb
  simp only [ex] at c2 c3 c4
  have c1 : fnt .f64 (pwW a b) = true := c1
  have c2 : Rnd FloatKind.f64.format _ (fv .f64 (pwW a b)) := c2
  have M0 : 0 ≤ M := ha.1.nonneg
  have sa := sq_le_of ha.1.2.2 (show -fv .f32 a ≤ M by have := ha.1.2.1; grind)
  have sb := sq_le_of hb.1.2.2 (show -fv .f32 b ≤ M by have := hb.1.2.1; grind)
  have sm := sq_le_of hM (show -M ≤ 1000 by grind)
  have n1 := sq_nonneg (fv .f32 a)
  have n2 := sq_nonneg (fv .f32 b)
  obtain ⟨N, hN⟩ : ∃ N, N = fv .f32 a * fv .f32 a + fv .f32 b * fv .f32 b := ⟨_, rfl⟩
  rw [← hN] at c2 c3 c4
  have N0 : 0 ≤ N := by grind
  have N1 : N ≤ 2000000 := by grind
  obtain ⟨p1, p2⟩ := rnd64 c2 (M := N) Rat.le_refl (by grind)
  have P0 : 0 ≤ fv .f64 (pwW a b) := c2.rep_ge (k := .f64) (Rep.int (k := .f64) 0 (by decide)) N0
  have hroot : ∃ (lo u : Rat) (d : Ieee.Datum), FloatKind.f64.format.sqrt (pwW a b) = some (FloatKind.f64.format.write d) ∧ isNum d = true ∧ 0 ≤ u ∧ u * 9007199254740992 ≤ lo ∧ lo ≤ dv d ∧ dv d ≤ lo + u ∧ lo * lo ≤ fv .f64 (pwW a b) ∧ fv .f64 (pwW a b) ≤ (lo + u) * (lo + u) := by
    by_cases hp : fv .f64 (pwW a b) = 0
    · obtain ⟨d, d1, d2, d3⟩ := root_zero c1 hp
      exact ⟨0, 0, d, d1, d2, Rat.le_refl, by grind, by rw [d3]; exact Rat.le_refl, by rw [d3]; grind, by rw [hp]; grind, by rw [hp]; grind⟩
    · obtain ⟨lo, u, d, e1, e2, e3, e4⟩ := root_near c1 (by grind)
      exact ⟨lo, u, d, e1, e2, Rat.le_of_lt e3, e4⟩
  obtain ⟨lo, u, d, e1, e2, e3, e4, e5, e6, e7, e8⟩ := hroot
  have lo0 : 0 ≤ lo := by grind
  have loT : lo ≤ 1500 := (abs_of_sq (x := lo) (M := 1500) (by grind) (by decide)).1
  have t11 : tp 11 = 2048 := (tp_nat 11).trans rfl
  have dT : dv d ≤ 1501 := by grind
  have d0 : 0 ≤ dv d := by grind
  obtain ⟨g1, g2⟩ := write_rnd FloatKind.f64.format d e2 (fmt_exp .f64) 11 (by rw [top_eq]; decide) (by rw [t11]; grind) (by rw [t11]; grind)
  have sq : sqC (pwW a b) = FloatKind.f64.format.write d := by unfold sqC; rw [e1]; rfl
  have s0 : fnt .f64 (sqC (pwW a b)) = true := by rw [sq]; exact g1
  have s1 : Rnd FloatKind.f64.format (dv d) (fv .f64 (sqC (pwW a b))) := by rw [sq]; exact g2
  obtain ⟨q1, q2⟩ := rnd64 s1 (M := dv d) Rat.le_refl (by grind)
  have q0 : 0 ≤ fv .f64 (sqC (pwW a b)) := s1.rep_ge (k := .f64) (Rep.int (k := .f64) 0 (by decide)) d0
  obtain ⟨f1, n0, n1'⟩ := narrow_val s0 11 (by decide) (by rw [t11]; grind) (by rw [t11]; grind)
  have n0 : fnt .f32 (lgW a b) = true := n0
  have n1' : Rnd FloatKind.f32.format _ (fv .f32 (lgW a b)) := n1'
  have v0 : 0 ≤ fv .f32 (lgW a b) := n1'.rep_ge (k := .f32) (Rep.int (k := .f32) 0 (by decide)) q0
  obtain ⟨k1, k2⟩ := rnd32 n1' (M := dv d + dv d * (1 / 1000) + zz) (by grind) (by grind)
  refine ⟨f1, n0, v0, by grind, fun e he => ?_⟩
  obtain ⟨w1, w2⟩ := root_alg N0 p1 p2 e3 e4 e5 e6 e7 e8 q1 q2 k1 k2 he v0
  refine ⟨⟨by grind, ?_⟩, ?_⟩
  · rw [← hN]; exact w1
  · rw [← hN]; exact w2
end Go.Proofs.Ytpnkapdemgieaaa
set_option linter.unusedSimpArgs false
set_option linter.unusedVariables false
set_option linter.unusedSectionVars false
namespace Go.Proofs.Ytpnkapdemgieaaa
open Go Go.RowKit
end Go.Proofs.Ytpnkapdemgieaaa
set_option linter.unusedSimpArgs false
set_option linter.unusedVariables false
set_option linter.unusedSectionVars false
namespace Go.Proofs.Ytpnkapdemgieaaa
open Go Go.RowKit
/-! ### The whole part -/
/-- A 64-bit number cut towards zero. -/
def trI (y : Nat) : Int := ((FloatKind.f64.decode y).toInt .zero).getD 0
def whW (y : Nat) : Nat := floatOfInt .f64 (trI y)
theorem cn_ofInt (k : FloatKind) (n : Int) : cn k (floatOfInt k n) = floatOfInt k n := cn_of_not (enc_not_nan k (d := .number (n < 0) n.natAbs 0) rfl)
theorem cn_whW (y : Nat) : cn .f64 (whW y) = whW y := cn_ofInt _ _
theorem zero_cut (s : Bool) (n b : Nat) : Ieee.Toward.zero.cut s n b = n / 2 ^ b := by
  unfold Ieee.Toward.cut
  simp only [Nat.shiftLeft_eq, Nat.one_mul, Bool.toNat_false, Nat.add_zero]
  by_cases h : b ≤ n.log2 + 2
  · rw [Nat.min_eq_left h]
  · rw [Nat.min_eq_right (by omega)]
    have h1 : n < 2 ^ (n.log2 + 1) := Nat.lt_log2_self
    have h2 : 2 ^ (n.log2 + 1) ≤ 2 ^ (n.log2 + 2) := Nat.pow_le_pow_right (by decide) (by omega)
    have h3 : 2 ^ (n.log2 + 1) ≤ 2 ^ b := Nat.pow_le_pow_right (by decide) (by omega)
    rw [Nat.div_eq_of_lt (by omega), Nat.div_eq_of_lt (by omega)]
/-- What is cut, as a whole number without sign. -/
def trM (m : Nat) (i : Int) : Nat := (m <<< i.toNat) / 2 ^ (-i).toNat
theorem trM_val (m : Nat) (i : Int) : ((trM m i : Nat) : Rat) ≤ (m : Rat) * tp i ∧ (m : Rat) * tp i < ((trM m i : Nat) : Rat) + 1 := by
  have e : (m : Rat) * tp i * ((2 ^ (-i).toNat : Nat) : Rat) = ((m <<< i.toNat : Nat) : Rat) := by
    rw [Nat.shiftLeft_eq, Rat.natCast_mul, ← tp_nat, ← tp_nat, Rat.mul_assoc, ← tp_add]
    congr 2; omega
  have p : (0 : Rat) < ((2 ^ (-i).toNat : Nat) : Rat) := by exact_mod_cast Nat.two_pow_pos _
  have h1 := Nat.div_mul_le_self (m <<< i.toNat) (2 ^ (-i).toNat)
  have h2 := Nat.lt_div_mul_add (a := m <<< i.toNat) (b := 2 ^ (-i).toNat) (Nat.two_pow_pos _)
  unfold trM
  generalize (m <<< i.toNat) / 2 ^ (-i).toNat = M at *
  generalize m <<< i.toNat = n at *
  generalize 2 ^ (-i).toNat = b at *
  have c1 : ((M : Nat) : Rat) * (b : Rat) ≤ (n : Rat) := by exact_mod_cast h1
  have c2 : (n : Rat) < ((M : Nat) : Rat) * (b : Rat) + (b : Rat) := by exact_mod_cast h2
  constructor
  · exact mul_cancel_le p (by rw [e]; exact c1)
  · have h3 : (m : Rat) * tp i * (b : Rat) < (((M : Nat) : Rat) + 1) * (b : Rat) := by rw [e]; grind
    exact Rat.lt_of_mul_lt_mul_right h3 (Rat.le_of_lt p)
theorem trI_of {y : Nat} {s : Bool} {m : Nat} {i : Int} (h : FloatKind.f64.format.read y = .number s m i) : (FloatKind.f64.decode y).toInt .zero = some (Ieee.signed s (trM m i) 0) ∧ (FloatKind.f64.decode y).integral .zero = .number s (trM m i) 0 := by
  have h' : FloatKind.f64.decode y = .number s m i := h
  rw [h']
  unfold Ieee.Datum.toInt Ieee.Datum.integral
  simp only [zero_cut]
  exact ⟨rfl, rfl⟩
theorem signed_zero (s : Bool) (M : Nat) : Ieee.signed s M 0 = if s then -(M : Int) else (M : Int) := by
  unfold Ieee.signed
  simp
/-- The whole part's word, drawn by either side. -/
theorem whW_of {y : Nat} {s : Bool} {m : Nat} {i : Int} (h : FloatKind.f64.format.read y = .number s m i) : trI y = (if s then -((trM m i : Nat) : Int) else ((trM m i : Nat) : Int)) ∧ whW y = if trM m i = 0 then 0 else FloatKind.f64.encode (.number s (trM m i) 0) := by
  have e : trI y = (if s then -((trM m i : Nat) : Int) else ((trM m i : Nat) : Int)) := by
    unfold trI
    rw [(trI_of h).1, signed_zero]; rfl
  refine ⟨e, ?_⟩
  unfold whW
  rw [e]
  generalize trM m i = M
  by_cases h0 : M = 0
  · subst h0
    rw [if_pos rfl]
    cases s <;> (unfold floatOfInt FloatKind.nearest; decide +kernel)
  · rw [if_neg h0]
    unfold floatOfInt FloatKind.nearest
    cases s
    · have e1 : decide (((M : Nat) : Int) < 0) = false := decide_eq_false (by omega)
      simp only [Bool.false_eq_true, if_false, Int.natAbs_natCast]
      rw [e1]
    · have e1 : decide (-((M : Nat) : Int) < 0) = true := decide_eq_true (by omega)
      simp only [if_true, Int.natAbs_neg, Int.natAbs_natCast]
      rw [e1]
/-- A 64-bit number that is not too great to have a part of a turn. -/
def Tame (y : Nat) : Prop := fnt .f64 y = true ∧ -4503599627370496 < fv .f64 y ∧ fv .f64 y < 4503599627370496
theorem fnt_read {k : FloatKind} {y : Nat} (h : fnt k y = true) : ∃ s m i, k.format.read y = .number s m i := by
  unfold fnt at h
  cases e : k.format.read y with
  | number s m i => exact ⟨s, m, i, rfl⟩
  | infinity s => rw [e] at h; cases h
  | nan s t => rw [e] at h; cases h
theorem tame_tr {y : Nat} (h : Tame y) : (trI y).natAbs ≤ 4503599627370496 ∧ -1 < fv .f64 y - (trI y : Rat) ∧ fv .f64 y - (trI y : Rat) < 1 := by
  obtain ⟨h0, h1, h2⟩ := h
  obtain ⟨s, m, i, e⟩ := fnt_read h0
  obtain ⟨_, ev⟩ := fv_of e
  obtain ⟨t1, _⟩ := whW_of e
  obtain ⟨b1, b2⟩ := trM_val m i
  rw [ev] at h1 h2 ⊢
  rw [t1]
  have hM : trM m i ≤ 4503599627370496 := by
    have : ((trM m i : Nat) : Rat) ≤ ((4503599627370496 : Nat) : Rat) := by
      have e9 : ((4503599627370496 : Nat) : Rat) = 4503599627370496 := rfl
      rw [e9]
      cases s <;> simp only [sg] at h1 h2 <;> grind
    exact_mod_cast this
  have m0 : (0 : Rat) ≤ ((trM m i : Nat) : Rat) := by exact_mod_cast Nat.zero_le _
  cases s
  · simp only [sg, Bool.false_eq_true, if_false] at *
    rw [Rat.intCast_natCast]
    exact ⟨by omega, by grind, by grind⟩
  · simp only [sg, if_true] at *
    rw [Rat.intCast_neg, Rat.intCast_natCast]
    exact ⟨by omega, by grind, by grind⟩
theorem whW_val {y : Nat} (h : Tame y) : V .f64 (whW y) (trI y : Rat) := V.int .f64 (trI y) (by have := (tame_tr h).1; show _ < 2 ^ (52 + 1); omega)
/-! ### What is left of turns -/
def poD (y : Nat) : Nat := fop .sub .f64 y (whW y)
def poT (y : Nat) : Nat := if flt .f64 (poD y) (cn .f64 0) then fop .add .f64 (poD y) (cn .f64 4607182418800017408) else poD y
theorem cn_poT (y : Nat) : cn .f64 (poT y) = poT y := by unfold poT; split; exact cn_fop _ _ _ _; exact cn_fop _ _ _ _
theorem Vz : V .f64 (cn .f64 0) 0 := ⟨by decide +kernel, by decide +kernel⟩
theorem Vo : V .f64 (cn .f64 4607182418800017408) 1 := ⟨by decide +kernel, by decide +kernel⟩
theorem Vq : V .f64 (cn .f64 4598175219545276416) (1 / 4) := ⟨by decide +kernel, by decide +kernel⟩
theorem Vh : V .f64 (cn .f64 4602678819172646912) (1 / 2) := ⟨by decide +kernel, by decide +kernel⟩
theorem Rq (z : Int) (h : z.natAbs < 9007199254740992) : Rep .f64 ((z : Rat) / 4) := rep_at (k := .f64) z (-2) (by show _ < 2 ^ (52 + 1); omega) (by decide) (by decide) (by have := tp_n2; grind)
theorem R0 : Rep .f64 (0 : Rat) := Rep.int (k := .f64) 0 (by decide)
theorem R1 : Rep .f64 (1 : Rat) := Rep.int (k := .f64) 1 (by decide)
theorem R2 : Rep .f64 (2 : Rat) := Rep.int (k := .f64) 2 (by decide)
theorem R4 : Rep .f64 (4 : Rat) := Rep.int (k := .f64) 4 (by decide)
theorem Rqq : Rep .f64 ((1 : Rat) / 4) := by have := Rq 1 (by decide); have e : ((1 : Int) : Rat) = 1 := rfl; rwa [e] at this
theorem Rhh : Rep .f64 ((1 : Rat) / 2) := by
  have h := Rq 2 (by decide)
  have e : ((2 : Int) : Rat) = 2 := rfl
  rw [e] at h
  have e2 : (2 : Rat) / 4 = 1 / 2 := by grind
  rwa [e2] at h
theorem Rhq : Rep .f64 ((3 : Rat) / 4) := by have := Rq 3 (by decide); have e : ((3 : Int) : Rat) = 3 := rfl; rwa [e] at this
theorem poT_btw {y : Nat} (h : Tame y) : Btw .f64 (poT y) 0 1 := by
  obtain ⟨t1, t2, t3⟩ := tame_tr h
  have w := whW_val h
  obtain ⟨d0, d1, d2⟩ := fop_btw .sub rfl .f64 h.1 w.1 (by simp) R1.neg R1 (by simp only [ex]; rw [w.2]; grind) (by simp only [ex]; rw [w.2]; grind)
  unfold poT
  have d0 : fnt .f64 (poD y) = true := d0
  by_cases hn : flt .f64 (poD y) (cn .f64 0) = true
  · rw [if_pos hn]
    rw [fltv d0 Vz.1, Vz.2] at hn
    have hn := of_decide_eq_true hn
    exact fop_btw .add rfl .f64 d0 Vo.1 (by simp) R0 R1 (by simp only [ex]; rw [Vo.2]; show 0 ≤ fv .f64 (poD y) + 1; have : -1 ≤ fv .f64 (poD y) := d1; grind) (by simp only [ex]; rw [Vo.2]; show fv .f64 (poD y) + 1 ≤ 1; grind)
  · rw [if_neg hn]
    rw [fltv d0 Vz.1, Vz.2] at hn
    have hn : ¬ fv .f64 (poD y) < 0 := fun h => hn (decide_eq_true h)
    exact ⟨d0, by grind, d2⟩
/-! ### Sines -/
def snS (y : Nat) : Bool := fge .f64 (poT y) (cn .f64 4602678819172646912)
def snG (y : Nat) : Nat := if snS y then fop .sub .f64 (poT y) (cn .f64 4602678819172646912) else poT y
def snH (y : Nat) : Nat := if fgt .f64 (snG y) (cn .f64 4598175219545276416) then fop .sub .f64 (cn .f64 4602678819172646912) (snG y) else snG y
def snZ (y : Nat) : Nat := fop .mul .f64 (snH y) (cn .f64 4618760256179416344)
def snU (y : Nat) : Nat := fop .mul .f64 (snZ y) (snZ y)
def snC (j : Nat) : Nat := fI (2 * (8 - (j : Int)) * (2 * (8 - (j : Int)) + 1))
def snP (u : Nat) : Nat → Nat
  | 0 => cn .f64 4607182418800017408
  | j + 1 => fop .sub .f64 (cn .f64 4607182418800017408) (fop .quo .f64 (fop .mul .f64 u (snP u j)) (snC j))
def snM (y : Nat) : Nat := fop .mul .f64 (snZ y) (snP (snU y) 8)
def sn (y : Nat) : Nat := if snS y then fneg .f64 (snM y) else snM y
theorem cn_fneg (k : FloatKind) (x : Nat) (h : cn k x = x) : cn k (fneg k x) = fneg k x := by
  unfold fneg
  split
  · exact cn_of_isN (isN_qn _)
  · rename_i hn
    exact cn_of_not (by rw [isN_neg]; simpa using hn)
theorem cn_sn (y : Nat) : cn .f64 (sn y) = sn y := by unfold sn; split; exact cn_fneg _ _ (cn_fop _ _ _ _); exact cn_fop _ _ _ _
theorem snC_val : ∀ j : Nat, j < 8 → fnt .f64 (snC j) = true ∧ 6 ≤ fv .f64 (snC j) := by decide +kernel
/-- The divisors, as the program draws them. -/
theorem snC_drawn : ∀ j : Nat, j < 8 → (fop .mul .f64 (fop .mul .f64 (cn .f64 4611686018427387904) (fI (8 - (j : Int)))) (fop .add .f64 (fop .mul .f64 (cn .f64 4611686018427387904) (fI (8 - (j : Int)))) (cn .f64 4607182418800017408)) = snC j) ∧ fge .f64 (fI (8 - (j : Int))) (cn .f64 4607182418800017408) = true ∧ fop .sub .f64 (fI (8 - (j : Int))) (cn .f64 4607182418800017408) = fI (8 - ((j + 1 : Nat) : Int)) := by decide +kernel
theorem fI_8 : fI 8 = cn .f64 4620693217682128896 := by decide +kernel
theorem snH_btw {y : Nat} (h : Tame y) : Btw .f64 (snH y) 0 (1 / 4) := by
  obtain ⟨p0, p1, p2⟩ := poT_btw h
  have g : Btw .f64 (snG y) 0 (1 / 2) := by
    unfold snG snS
    by_cases hs : fge .f64 (poT y) (cn .f64 4602678819172646912) = true
    · rw [if_pos hs]
      rw [fgev p0 Vh.1, Vh.2] at hs
      have hs := of_decide_eq_true hs
      exact fop_btw .sub rfl .f64 p0 Vh.1 (by simp) R0 Rhh (by simp only [ex]; rw [Vh.2]; grind) (by simp only [ex]; rw [Vh.2]; grind)
    · rw [if_neg hs]
      rw [fgev p0 Vh.1, Vh.2] at hs
      have hs : ¬ 1 / 2 ≤ fv .f64 (poT y) := fun h => hs (decide_eq_true h)
      exact ⟨p0, p1, by grind⟩
  obtain ⟨g0, g1, g2⟩ := g
  unfold snH
  by_cases hs : fgt .f64 (snG y) (cn .f64 4598175219545276416) = true
  · rw [if_pos hs]
    rw [fgtv g0 Vq.1, Vq.2] at hs
    have hs := of_decide_eq_true hs
    exact fop_btw .sub rfl .f64 Vh.1 g0 (by simp) R0 Rqq (by simp only [ex]; rw [Vh.2]; grind) (by simp only [ex]; rw [Vh.2]; grind)
  · rw [if_neg hs]
    rw [fgtv g0 Vq.1, Vq.2] at hs
    have hs : ¬ 1 / 4 < fv .f64 (snG y) := fun h => hs (decide_eq_true h)
    exact ⟨g0, g1, by grind⟩
theorem snZ_btw {y : Nat} (h : Tame y) : Btw .f64 (snZ y) 0 2 := by
  obtain ⟨p0, p1, p2⟩ := snH_btw h
  have c0 : fnt .f64 (cn .f64 4618760256179416344) = true := by decide +kernel
  have c1 : 0 ≤ fv .f64 (cn .f64 4618760256179416344) := by decide +kernel
  have c2 : fv .f64 (cn .f64 4618760256179416344) ≤ 8 := by decide +kernel
  have a1 := Rat.mul_nonneg p1 c1
  have a2 := Rat.mul_le_mul_of_nonneg_left c2 p1
  exact fop_btw .mul rfl .f64 p0 c0 (by simp) R0 R2 (by simp only [ex]; exact a1) (by simp only [ex]; grind)
theorem snP_btw {u : Nat} (hu : Btw .f64 u 0 4) : ∀ j, j ≤ 8 → Btw .f64 (snP u j) 0 1
  | 0, _ => ⟨Vo.1, by show 0 ≤ fv .f64 (cn .f64 4607182418800017408); rw [Vo.2]; decide, by show fv .f64 (cn .f64 4607182418800017408) ≤ 1; rw [Vo.2]; exact Rat.le_refl⟩
  | j + 1, hj => by
    obtain ⟨p0, p1, p2⟩ := snP_btw hu j (by omega)
    obtain ⟨u0, u1, u2⟩ := hu
    obtain ⟨c0, c1⟩ := snC_val j (by omega)
    have a1 := Rat.mul_nonneg u1 p1
    have a2 := Rat.mul_le_mul_of_nonneg_left p2 u1
    obtain ⟨m0, m1, m2⟩ := fop_btw .mul rfl .f64 u0 p0 (by simp) R0 R4 (by simp only [ex]; exact a1) (by simp only [ex]; grind)
    have hc : 0 < fv .f64 (snC j) := by grind
    have dv : fv .f64 (fop .mul .f64 u (snP u j)) / fv .f64 (snC j) * fv .f64 (snC j) = fv .f64 (fop .mul .f64 u (snP u j)) := Rat.div_mul_cancel (by grind)
    obtain ⟨q0, q1, q2⟩ := fop_btw .quo rfl .f64 m0 c0 (fun _ => by grind) R0 R1 (by simp only [ex]; exact mul_cancel_le hc (by rw [dv]; grind)) (by simp only [ex]; exact mul_cancel_le hc (by rw [dv]; grind))
    simp only [snP]
    exact fop_btw .sub rfl .f64 Vo.1 q0 (by simp) R0 R1 (by simp only [ex]; rw [Vo.2]; grind) (by simp only [ex]; rw [Vo.2]; grind)
theorem sn_bnd {y : Nat} (h : Tame y) : Bnd .f64 (sn y) 2 := by
  obtain ⟨z0, z1, z2⟩ := snZ_btw h
  have a1 := Rat.mul_nonneg z1 z1
  have a2 := Rat.mul_le_mul_of_nonneg_left z2 z1
  have U : Btw .f64 (snU y) 0 4 := fop_btw .mul rfl .f64 z0 z0 (by simp) R0 R4 (by simp only [ex]; exact a1) (by simp only [ex]; grind)
  obtain ⟨p0, p1, p2⟩ := snP_btw U 8 (Nat.le_refl _)
  have b1 := Rat.mul_nonneg z1 p1
  have b2 := Rat.mul_le_mul_of_nonneg_left p2 z1
  obtain ⟨m0, m1, m2⟩ := fop_btw .mul rfl .f64 z0 p0 (by simp) R0 R2 (by simp only [ex]; exact b1) (by simp only [ex]; grind)
  have M : Bnd .f64 (snM y) 2 := ⟨m0, by show -2 ≤ fv .f64 (fop .mul .f64 (snZ y) (snP (snU y) 8)); grind, m2⟩
  unfold sn
  split
  · exact M.neg
  · exact M
/-! ### Points of a circle -/
def phF (y : Nat) : Nat → Nat
  | 0 => poT y
  | j + 1 => fop .sub .f64 (phF y j) (cn .f64 4598175219545276416)
/-- The quarter in which a point lies. -/
structure Qtr (y k : Nat) : Prop where
  le : k ≤ 4
  all : ∀ j, j < k → fge .f64 (phF y j) (cn .f64 4598175219545276416) = true
  last : fge .f64 (phF y k) (cn .f64 4598175219545276416) = false
  btw : Btw .f64 (phF y k) 0 (1 / 4)
theorem ph_step {x : Nat} {a b : Rat} (ha : Rep .f64 b) (hx : Btw .f64 x 0 a) (hb : a - 1 / 4 ≤ b) (h : fge .f64 x (cn .f64 4598175219545276416) = true) : Btw .f64 (fop .sub .f64 x (cn .f64 4598175219545276416)) 0 b := by
  obtain ⟨x0, x1, x2⟩ := hx
  rw [fgev x0 Vq.1, Vq.2] at h
  have h := of_decide_eq_true h
  exact fop_btw .sub rfl .f64 x0 Vq.1 (by simp) R0 ha (by simp only [ex]; rw [Vq.2]; grind) (by simp only [ex]; rw [Vq.2]; grind)
theorem ph_low {x : Nat} {a : Rat} (hx : Btw .f64 x 0 a) (h : fge .f64 x (cn .f64 4598175219545276416) = false) : Btw .f64 x 0 (1 / 4) := by
  obtain ⟨x0, x1, x2⟩ := hx
  rw [fgev x0 Vq.1, Vq.2] at h
  have h := of_decide_eq_false h
  exact ⟨x0, x1, by grind⟩
theorem qtr_of {y : Nat} (h : Tame y) : ∃ k, Qtr y k := by
  have b0 := poT_btw h
  have b0 : Btw .f64 (phF y 0) 0 1 := b0
  cases f0 : fge .f64 (phF y 0) (cn .f64 4598175219545276416) with
  | false => exact ⟨0, by decide, fun j hj => by omega, f0, ph_low b0 f0⟩
  | true =>
  have b1 : Btw .f64 (phF y 1) 0 (3 / 4) := ph_step Rhq b0 (by grind) f0
  cases f1 : fge .f64 (phF y 1) (cn .f64 4598175219545276416) with
  | false => exact ⟨1, by decide, fun j hj => by obtain rfl : j = 0 := by omega
                                                 exact f0, f1, ph_low b1 f1⟩
  | true =>
  have b2 : Btw .f64 (phF y 2) 0 (1 / 2) := ph_step Rhh b1 (by grind) f1
  cases f2 : fge .f64 (phF y 2) (cn .f64 4598175219545276416) with
  | false => exact ⟨2, by decide, fun j hj => by match j, hj with
                                                 | 0, _ => exact f0
                                                 | 1, _ => exact f1, f2, ph_low b2 f2⟩
  | true =>
  have b3 : Btw .f64 (phF y 3) 0 (1 / 4) := ph_step Rqq b2 (by grind) f2
  cases f3 : fge .f64 (phF y 3) (cn .f64 4598175219545276416) with
  | false => exact ⟨3, by decide, fun j hj => by match j, hj with
                                                 | 0, _ => exact f0
                                                 | 1, _ => exact f1
                                                 | 2, _ => exact f2, f3, ph_low b3 f3⟩
  | true =>
  have b4 : Btw .f64 (phF y 4) 0 0 := ph_step R0 b3 (by grind) f3
  have f4 : fge .f64 (phF y 4) (cn .f64 4598175219545276416) = false := by
    rw [fgev b4.1 Vq.1, Vq.2]
    have := b4.2.2
    exact decide_eq_false (by grind)
  exact ⟨4, by decide, fun j hj => by match j, hj with
                                      | 0, _ => exact f0
                                      | 1, _ => exact f1
                                      | 2, _ => exact f2
                                      | 3, _ => exact f3, f4, ph_low b4 f4⟩
def phC (y k : Nat) : Nat := sn (fop .sub .f64 (cn .f64 4598175219545276416) (phF y k))
def phS (y k : Nat) : Nat := sn (phF y k)
def phA (y k : Nat) : Nat := if k = 1 then fop .sub .f64 (cn .f64 0) (phS y k) else if k = 2 then fop .sub .f64 (cn .f64 0) (phC y k) else if k = 3 then phS y k else phC y k
def phB (y k : Nat) : Nat := if k = 1 then phC y k else if k = 2 then fop .sub .f64 (cn .f64 0) (phS y k) else if k = 3 then fop .sub .f64 (cn .f64 0) (phC y k) else phS y k
theorem tame_of {x : Nat} {a b : Rat} (h : Btw .f64 x a b) (ha : -4 ≤ a) (hb : b ≤ 4) : Tame x := ⟨h.1, by have := h.2.1; grind, by have := h.2.2; grind⟩
theorem qtr_args {y k : Nat} (h : Qtr y k) : Tame (phF y k) ∧ Tame (fop .sub .f64 (cn .f64 4598175219545276416) (phF y k)) := by
  obtain ⟨b0, b1, b2⟩ := h.btw
  refine ⟨tame_of h.btw (by grind) (by grind), tame_of (a := 0) (b := 1 / 4) ?_ (by grind) (by grind)⟩
  exact fop_btw .sub rfl .f64 Vq.1 b0 (by simp) R0 Rqq (by simp only [ex]; rw [Vq.2]; grind) (by simp only [ex]; rw [Vq.2]; grind)
theorem less_bnd {x : Nat} (h : Bnd .f64 x 2) : Bnd .f64 (fop .sub .f64 (cn .f64 0) x) 2 := by
  obtain ⟨h0, h1, h2⟩ := h
  exact fop_btw .sub rfl .f64 Vz.1 h0 (by simp) R2.neg R2 (by simp only [ex]; rw [Vz.2]; grind) (by simp only [ex]; rw [Vz.2]; grind)
theorem ph_bnd {y k : Nat} (h : Qtr y k) : Bnd .f64 (phC y k) 2 ∧ Bnd .f64 (phS y k) 2 ∧ Bnd .f64 (phA y k) 2 ∧ Bnd .f64 (phB y k) 2 := by
  obtain ⟨t1, t2⟩ := qtr_args h
  have C : Bnd .f64 (phC y k) 2 := sn_bnd t2
  have S : Bnd .f64 (phS y k) 2 := sn_bnd t1
  refine ⟨C, S, ?_, ?_⟩
  · unfold phA; split
    · exact less_bnd S
    · split
      · exact less_bnd C
      · split
        · exact S
        · exact C
  · unfold phB; split
    · exact C
    · split
      · exact less_bnd S
      · split
        · exact less_bnd C
        · exact S
theorem fits_two {x : Nat} (h : Bnd .f64 x 2) : fits x = true ∧ Bnd .f32 (narrow x) 2 := narrow_bnd h (Rep.int (k := .f32) 2 (by decide))
/-! ### The exponential function of what is not above 0 -/
theorem exV_btw {x : Nat} (h : Btw .f64 x (-200) 0) : Btw .f64 (exV x) 0 1 := by
  obtain ⟨x0, x1, x2⟩ := h
  have V256 : V .f64 (cn .f64 4643211215818981376) 256 := ⟨by decide +kernel, by decide +kernel⟩
  have dv : fv .f64 x / 256 * 256 = fv .f64 x := Rat.div_mul_cancel (by decide)
  obtain ⟨t0, t1, t2⟩ := fop_btw .quo rfl .f64 (a := -1) (b := 0) x0 V256.1 (fun _ => by rw [V256.2]; decide) R1.neg R0 (by simp only [ex]; rw [V256.2]; grind) (by simp only [ex]; rw [V256.2]; grind)
  have P : ∀ j, j ≤ 12 → Btw .f64 (exP (fop .quo .f64 x (cn .f64 4643211215818981376)) j) 0 1 := by
    intro j
    induction j with
    | zero => intro _; exact ⟨Vo.1, by show 0 ≤ fv .f64 (cn .f64 4607182418800017408); rw [Vo.2]; decide, by show fv .f64 (cn .f64 4607182418800017408) ≤ 1; rw [Vo.2]; exact Rat.le_refl⟩
    | succ j ih =>
      intro hj
      obtain ⟨p0, p1, p2⟩ := ih (by omega)
      simp only [exP]
      generalize fop .quo .f64 x (cn .f64 4643211215818981376) = T at *
      generalize exP T j = p at *
      have c : fnt .f64 (fI (12 - (j : Int))) = true ∧ 1 ≤ fv .f64 (fI (12 - (j : Int))) := by
        have key : ∀ j : Nat, j < 12 → fnt .f64 (fI (12 - (j : Int))) = true ∧ 1 ≤ fv .f64 (fI (12 - (j : Int))) := by decide +kernel
        exact key j (by omega)
      obtain ⟨c0, c1⟩ := c
      have a1 := Rat.mul_nonneg (show 0 ≤ -fv .f64 T by grind) p1
      have a2 := Rat.mul_le_mul_of_nonneg_right (show -fv .f64 T ≤ 1 by grind) p1
      obtain ⟨m0, m1, m2⟩ := fop_btw .mul rfl .f64 (a := -1) (b := 0) t0 p0 (by simp) R1.neg R0 (by simp only [ex]; grind) (by simp only [ex]; grind)
      have hc : 0 < fv .f64 (fI (12 - (j : Int))) := by grind
      have dv2 : fv .f64 (fop .mul .f64 T p) / fv .f64 (fI (12 - (j : Int))) * fv .f64 (fI (12 - (j : Int))) = fv .f64 (fop .mul .f64 T p) := Rat.div_mul_cancel (by grind)
      obtain ⟨q0, q1, q2⟩ := fop_btw .quo rfl .f64 (a := -1) (b := 0) m0 c0 (fun _ => by grind) R1.neg R0 (by simp only [ex]; exact mul_cancel_le hc (by rw [dv2]; grind)) (by simp only [ex]; exact mul_cancel_le hc (by rw [dv2]; grind))
      exact fop_btw .add rfl .f64 Vo.1 q0 (by simp) R0 R1 (by simp only [ex]; rw [Vo.2]; grind) (by simp only [ex]; rw [Vo.2]; grind)
  have Q : ∀ p, Btw .f64 p 0 1 → ∀ j, Btw .f64 (exQ p j) 0 1 := by
    intro p hp j
    induction j with
    | zero => exact hp
    | succ j ih =>
      obtain ⟨p0, p1, p2⟩ := ih
      have a1 := Rat.mul_nonneg p1 p1
      have a2 := Rat.mul_le_mul_of_nonneg_left p2 p1
      exact fop_btw .mul rfl .f64 p0 p0 (by simp) R0 R1 (by simp only [ex]; exact a1) (by simp only [ex]; grind)
  exact Q _ (P 12 (Nat.le_refl _)) 8
end Go.Proofs.Ytpnkapdemgieaaa
set_option linter.unusedSimpArgs false
set_option linter.unusedVariables false
set_option linter.unusedSectionVars false
namespace Go.Proofs.Ytpnkapdemgieaaa
open Go Go.RowKit
theorem idx_down : ∀ j : Nat, j < 13 → idxF (fI (12 - (j : Int))) = 12 - j := by decide +kernel
set_option maxHeartbeats 2000000 in
theorem exponential_any (x : Nat) (w : World) (h : exOk (cn .f64 x)) : Calls Try.prog 85 #[.float .f64 x] w (RF w .f64 (exV (cn .f64 x))) := by
  obtain ⟨hq, h1, h2⟩ := h
  obtain ⟨T, hT⟩ : ∃ T, T = fop .quo .f64 (cn .f64 x) (cn .f64 4643211215818981376) := ⟨_, rfl⟩
  have HV : Hid (exV (cn .f64 x) = exQ (exP T 12) 8) := by show _ = _; rw [hT]; rfl
  rw [HV.out]
  have HT := Lib.hid hT
  clear hT
  go_enter Try.func85, Try.ntmps85
  go_wp2_with (first | (with_reducible refine at_list ?_; refine wpList_fop rfl rfl rfl rfl rfl ?_; intro r n hr0; have hr := hr0 _ _ (by first | with_reducible assumption | exact rfl) (by first | with_reducible assumption | exact rfl); clear hr0) | (with_reducible refine at_list ?_; refine wpList_neg rfl rfl rfl ?_; intro r hr0; have hr := hr0 _ (by first | with_reducible assumption | exact rfl); clear hr0) | (with_reducible refine at_list ?_; refine wpList_fop_g rfl rfl rfl rfl rfl ?_; intro r n hr0; have hr := hr0 _ _ (by first | with_reducible assumption | exact rfl) (by first | with_reducible assumption | exact rfl); clear hr0) | (with_reducible refine at_list ?_; refine wpList_wide_g rfl rfl Try.underlying28 Try.underlying39 rfl ?_; intro r n hr0; have hr := hr0 _ (by first | with_reducible assumption | exact rfl); clear hr0) | (with_reducible refine at_list ?_; refine wpList_wide rfl rfl rfl Try.underlying28 Try.underlying39 ?_; intro r n hr0; have hr := hr0 _ (by first | with_reducible assumption | exact rfl); clear hr0))
  go_loopw [4, 5] (fun p z wr => ∃ k m r1 r2 : Nat, k ≤ 12 ∧ p = .float .f64 r1 ∧ z = .float .f64 r2 ∧ Hid (cn .f64 r1 = exP T k) ∧ Hid (cn .f64 r2 = fI (12 - (k : Int))) ∧ wr = w.drewN m) (fun _ z _ => idxF (cn .f64 (fltOf z)))
  case atStart => exact ⟨0, _, _, _, by omega, rfl, rfl, rfl, fI_12.symm, rfl⟩
  case round =>
    obtain ⟨k, m, r1, r2, hk, rfl, rfl, H1, H2, rfl⟩ := hrel
    by_cases hlt : k < 12
    · obtain ⟨e1, e2⟩ := fI_down k hlt
      have HP : Hid (exP T (k + 1) = fop .add .f64 (cn .f64 4607182418800017408) (fop .quo .f64 (fop .mul .f64 T (exP T k)) (fI (12 - (k : Int))))) := rfl
      have HI1 := Lib.hid (idx_down k (by omega))
      have HI2 := Lib.hid (idx_down (k + 1) (by omega))
      have E2 := Lib.hid e2
      have k1 := H1.out
      have k2 := H2.out
      generalize exP T k = S at *
      obtain ⟨F, hF⟩ : ∃ F, F = fI (12 - (k : Int)) := ⟨_, rfl⟩
      rw [← hF] at k2 e1
      have HF := Lib.hid hF
      clear e2 hF H1 H2
      go_wp2_with (first | (with_reducible refine at_list ?_; refine wpList_fop rfl rfl rfl rfl rfl ?_; intro r n hr0; have hr := hr0 _ _ (by first | with_reducible assumption | exact rfl) (by first | with_reducible assumption | exact rfl); clear hr0) | (with_reducible refine at_list ?_; refine wpList_neg rfl rfl rfl ?_; intro r hr0; have hr := hr0 _ (by first | with_reducible assumption | exact rfl); clear hr0) | (with_reducible refine at_list ?_; refine wpList_fop_g rfl rfl rfl rfl rfl ?_; intro r n hr0; have hr := hr0 _ _ (by first | with_reducible assumption | exact rfl) (by first | with_reducible assumption | exact rfl); clear hr0) | (with_reducible refine at_list ?_; refine wpList_wide_g rfl rfl Try.underlying28 Try.underlying39 rfl ?_; intro r n hr0; have hr := hr0 _ (by first | with_reducible assumption | exact rfl); clear hr0) | (with_reducible refine at_list ?_; refine wpList_wide rfl rfl rfl Try.underlying28 Try.underlying39 ?_; intro r n hr0; have hr := hr0 _ (by first | with_reducible assumption | exact rfl); clear hr0))
      go_roundw
      case rel => exact ⟨k + 1, _, _, _, by omega, rfl, rfl, by show _ = _; rw [HP.out, HT.out, ← HF.out]; assumption, by show _ = _; rw [← E2.out, ← HF.out]; assumption, rfl⟩
      case measure =>
        have a1 : idxF (cn .f64 r2) = 12 - k := by rw [k2, HF.out]; exact HI1.out
        have a2 : ∀ r, cn .f64 r = fop .sub .f64 F (cn .f64 4607182418800017408) → idxF (cn .f64 r) = 12 - (k + 1) := by
          intro r h
          rw [h, HF.out, E2.out]; exact HI2.out
        simp only [fltOf]
        rw [a1, a2 _ (by assumption)]
        omega
    · have he : k = 12 := by omega
      subst he
      have k1 := H1.out
      have k2 := H2.out
      obtain ⟨F, hF⟩ : ∃ F, F = fI (12 - ((12 : Nat) : Int)) := ⟨_, rfl⟩
      rw [← hF] at k2
      have e1 : fge .f64 F (cn .f64 4607182418800017408) = false := by rw [hF]; exact fI_0
      obtain ⟨S, hS⟩ : ∃ S, S = exP T 12 := ⟨_, rfl⟩
      rw [← hS] at k1
      have HS := Lib.hid hS
      clear hF H1 H2 hS
      go_wp2_with (first | (with_reducible refine at_list ?_; refine wpList_fop rfl rfl rfl rfl rfl ?_; intro r n hr0; have hr := hr0 _ _ (by first | with_reducible assumption | exact rfl) (by first | with_reducible assumption | exact rfl); clear hr0) | (with_reducible refine at_list ?_; refine wpList_neg rfl rfl rfl ?_; intro r hr0; have hr := hr0 _ (by first | with_reducible assumption | exact rfl); clear hr0) | (with_reducible refine at_list ?_; refine wpList_fop_g rfl rfl rfl rfl rfl ?_; intro r n hr0; have hr := hr0 _ _ (by first | with_reducible assumption | exact rfl) (by first | with_reducible assumption | exact rfl); clear hr0) | (with_reducible refine at_list ?_; refine wpList_wide_g rfl rfl Try.underlying28 Try.underlying39 rfl ?_; intro r n hr0; have hr := hr0 _ (by first | with_reducible assumption | exact rfl); clear hr0) | (with_reducible refine at_list ?_; refine wpList_wide rfl rfl rfl Try.underlying28 Try.underlying39 ?_; intro r n hr0; have hr := hr0 _ (by first | with_reducible assumption | exact rfl); clear hr0))
      go_loopw [4, 25] (fun p z wr => ∃ k m r1 : Nat, k ≤ 8 ∧ p = .float .f64 r1 ∧ z = .int .i64 (k : Int) ∧ Hid (cn .f64 r1 = exQ S k) ∧ wr = w.drewN m) (fun _ z _ => 8 - (intOf z).toNat)
      case atStart => exact ⟨0, _, _, by omega, rfl, rfl, k1, rfl⟩
      case round =>
        clear k1 k2
        obtain ⟨k, m, r1, hk, rfl, rfl, H1, rfl⟩ := hrel
        have k1 := H1.out
        by_cases hlt : k < 8
        · have HP : Hid (exQ S (k + 1) = fop .mul .f64 (exQ S k) (exQ S k)) := rfl
          generalize exQ S k = A at *
          clear H1
          go_wp2_with (first | (with_reducible refine at_list ?_; refine wpList_fop rfl rfl rfl rfl rfl ?_; intro r n hr0; have hr := hr0 _ _ (by first | with_reducible assumption | exact rfl) (by first | with_reducible assumption | exact rfl); clear hr0) | (with_reducible refine at_list ?_; refine wpList_neg rfl rfl rfl ?_; intro r hr0; have hr := hr0 _ (by first | with_reducible assumption | exact rfl); clear hr0) | (with_reducible refine at_list ?_; refine wpList_fop_g rfl rfl rfl rfl rfl ?_; intro r n hr0; have hr := hr0 _ _ (by first | with_reducible assumption | exact rfl) (by first | with_reducible assumption | exact rfl); clear hr0) | (with_reducible refine at_list ?_; refine wpList_wide_g rfl rfl Try.underlying28 Try.underlying39 rfl ?_; intro r n hr0; have hr := hr0 _ (by first | with_reducible assumption | exact rfl); clear hr0) | (with_reducible refine at_list ?_; refine wpList_wide rfl rfl rfl Try.underlying28 Try.underlying39 ?_; intro r n hr0; have hr := hr0 _ (by first | with_reducible assumption | exact rfl); clear hr0))
          go_roundw
          case rel => exact ⟨k + 1, _, _, by omega, rfl, by go_num, by show _ = _; rw [HP.out]; assumption, rfl⟩
          case measure => simp only [intOf]; omega
        · have he : k = 8 := by omega
          subst he
          have HE : Hid (exQ S 8 = exQ (exP T 12) 8) := by show _ = _; rw [HS.out]
          have k1 := k1.trans HE.out
          clear H1
          go_wp2_with (first | (with_reducible refine at_list ?_; refine wpList_fop rfl rfl rfl rfl rfl ?_; intro r n hr0; have hr := hr0 _ _ (by first | with_reducible assumption | exact rfl) (by first | with_reducible assumption | exact rfl); clear hr0) | (with_reducible refine at_list ?_; refine wpList_neg rfl rfl rfl ?_; intro r hr0; have hr := hr0 _ (by first | with_reducible assumption | exact rfl); clear hr0) | (with_reducible refine at_list ?_; refine wpList_fop_g rfl rfl rfl rfl rfl ?_; intro r n hr0; have hr := hr0 _ _ (by first | with_reducible assumption | exact rfl) (by first | with_reducible assumption | exact rfl); clear hr0) | (with_reducible refine at_list ?_; refine wpList_wide_g rfl rfl Try.underlying28 Try.underlying39 rfl ?_; intro r n hr0; have hr := hr0 _ (by first | with_reducible assumption | exact rfl); clear hr0) | (with_reducible refine at_list ?_; refine wpList_wide rfl rfl rfl Try.underlying28 Try.underlying39 ?_; intro r n hr0; have hr := hr0 _ (by first | with_reducible assumption | exact rfl); clear hr0))
          go_ret
          exact ⟨_, rfl, k1, _, rfl⟩
end Go.Proofs.Ytpnkapdemgieaaa
set_option linter.unusedSimpArgs false
set_option linter.unusedVariables false
set_option linter.unusedSectionVars false
namespace Go.Proofs.Ytpnkapdemgieaaa
open Go Go.RowKit
open Go.ChangeShapes Go.WideShapes Go.ChangeAt Go.RowKit Go.Joins
def BCB (w : World) (c d : Nat) (b : Bool) (e : Ending) (w' : World) : Prop := ∃ x y, e = .returned (.tuple #[.complex .f32 x y, .bool b]) ∧ cn .f32 x = cn .f32 c ∧ cn .f32 y = cn .f32 d ∧ Below w.heap.size w w'
def Clm.cb (c d : Nat) (b : Bool) : Clm := ⟨1, fun _ v => ∃ x y, v = .tuple #[.complex .f32 x y, .bool b] ∧ cn .f32 x = cn .f32 c ∧ cn .f32 y = cn .f32 d, fun _ _ _ => True, fun _ => ⟨_, c, d, rfl, rfl, rfl⟩, fun _ _ _ _ _ _ => trivial, fun h => nomatch h⟩
section
variable {P : Program} {ops : Array Oper} {Q : Exit → Act → World → Prop} {W : World} {l : List Oper} {cs : List Clm} {i : Nat} {ks : List (Nat × (World → Prop))} {a : Act} {o : Oper}
end
theorem isFinC_any (x y : Nat) (w : World) : Calls Try.prog 69 #[.complex .f32 x y] w (BV w (.bool (fin .f32 (cn .f32 x) && fin .f32 (cn .f32 y)))) := by
  have A2 := Lib.hid (fun v w hs => areFin2_any x y v w hs)
  go_enter Try.func69, Try.ntmps69
  go_wp2_with (first | (with_reducible refine at_list ?_; refine wpList_fop rfl rfl rfl rfl rfl ?_; intro r n hr0; have hr := hr0 _ _ (by first | with_reducible assumption | exact rfl) (by first | with_reducible assumption | exact rfl); clear hr0) | (with_reducible refine at_list ?_; refine wpList_neg rfl rfl rfl ?_; intro r hr0; have hr := hr0 _ (by first | with_reducible assumption | exact rfl); clear hr0) | (with_reducible refine at_list ?_; refine wpList_fop_g rfl rfl rfl rfl rfl ?_; intro r n hr0; have hr := hr0 _ _ (by first | with_reducible assumption | exact rfl) (by first | with_reducible assumption | exact rfl); clear hr0) | (with_reducible refine at_list ?_; refine wpList_wide_g rfl rfl Try.underlying28 Try.underlying39 rfl ?_; intro r n hr0; have hr := hr0 _ (by first | with_reducible assumption | exact rfl); clear hr0) | (with_reducible refine at_list ?_; refine wpList_wide rfl rfl rfl Try.underlying28 Try.underlying39 ?_; intro r n hr0; have hr := hr0 _ (by first | with_reducible assumption | exact rfl); clear hr0) | (go_at_call 44; refine ((A2.out _ _ (FS2 (by go_simp <;> exact rfl) (by go_simp <;> exact rfl))) ).mono ?_; rintro e w' ⟨rfl, n, rfl⟩))
  go_ret
  exact ⟨rfl, by (repeat (first | (with_reducible exact Below.refl _ _) | (with_reducible assumption) | (with_reducible refine below_then ?_ (by assumption)) | (with_reducible refine Below.trans ?_ (by assumption)) | (with_reducible refine below_drewN ?_ _) | (with_reducible apply Below.drew) | (with_reducible refine below_alloc ?_ _) | refine Below.setCell ?_ (by first | (simp; done) | (simp; omega)) _))⟩
theorem checkedC_any (x y : Nat) (w : World) : Calls Try.prog 58 #[.complex .f32 x y] w (BCB w (if fin .f32 (cn .f32 x) && fin .f32 (cn .f32 y) then cn .f32 x else 0) (if fin .f32 (cn .f32 x) && fin .f32 (cn .f32 y) then cn .f32 y else 0) (fin .f32 (cn .f32 x) && fin .f32 (cn .f32 y))) := by
  rcases h0 : (fin .f32 (cn .f32 x) && fin .f32 (cn .f32 y))
  · have HF := Lib.hid (fun w => (h0 ▸ isFinC_any x y w : Calls Try.prog 69 #[.complex .f32 x y] w (BV w (.bool _))))
    clear h0
    go_enter Try.func58, Try.ntmps58
    go_wp2_with (first | (with_reducible refine at_list ?_; refine wpList_fop rfl rfl rfl rfl rfl ?_; intro r n hr0; have hr := hr0 _ _ (by first | with_reducible assumption | exact rfl) (by first | with_reducible assumption | exact rfl); clear hr0) | (with_reducible refine at_list ?_; refine wpList_neg rfl rfl rfl ?_; intro r hr0; have hr := hr0 _ (by first | with_reducible assumption | exact rfl); clear hr0) | (with_reducible refine at_list ?_; refine wpList_fop_g rfl rfl rfl rfl rfl ?_; intro r n hr0; have hr := hr0 _ _ (by first | with_reducible assumption | exact rfl) (by first | with_reducible assumption | exact rfl); clear hr0) | (with_reducible refine at_list ?_; refine wpList_wide_g rfl rfl Try.underlying28 Try.underlying39 rfl ?_; intro r n hr0; have hr := hr0 _ (by first | with_reducible assumption | exact rfl); clear hr0) | (with_reducible refine at_list ?_; refine wpList_wide rfl rfl rfl Try.underlying28 Try.underlying39 ?_; intro r n hr0; have hr := hr0 _ (by first | with_reducible assumption | exact rfl); clear hr0) | (go_at_call 69; refine ((HF.out _) ).mono ?_; rintro e w' ⟨rfl, hb⟩; obtain ⟨hT, hk⟩ := bv_next hb (by (repeat (with_reducible first | assumption | apply Trk.alloc | apply Trk.setCell | apply Trk.drewN | apply Trk.drew | exact Trk.nil _))); simp only [SameOn, World.size_alloc, World.size_setCell, World.size_drew, size_drewN', and_true] at hk; have hsz := Below.size hb; (try simp only [World.size_alloc, World.size_setCell, World.size_drew, size_drewN'] at hsz)))
    go_ret2
    exact ⟨_, _, rfl, rfl, rfl, by (repeat (first | (with_reducible exact Below.refl _ _) | (with_reducible assumption) | (with_reducible refine below_then ?_ (by assumption)) | (with_reducible refine Below.trans ?_ (by assumption)) | (with_reducible refine below_drewN ?_ _) | (with_reducible apply Below.drew) | (with_reducible refine below_alloc ?_ _) | refine Below.setCell ?_ (by first | (simp; done) | (simp; omega)) _))⟩
  · have HF := Lib.hid (fun w => (h0 ▸ isFinC_any x y w : Calls Try.prog 69 #[.complex .f32 x y] w (BV w (.bool _))))
    clear h0
    go_enter Try.func58, Try.ntmps58
    go_wp2_with (first | (with_reducible refine at_list ?_; refine wpList_fop rfl rfl rfl rfl rfl ?_; intro r n hr0; have hr := hr0 _ _ (by first | with_reducible assumption | exact rfl) (by first | with_reducible assumption | exact rfl); clear hr0) | (with_reducible refine at_list ?_; refine wpList_neg rfl rfl rfl ?_; intro r hr0; have hr := hr0 _ (by first | with_reducible assumption | exact rfl); clear hr0) | (with_reducible refine at_list ?_; refine wpList_fop_g rfl rfl rfl rfl rfl ?_; intro r n hr0; have hr := hr0 _ _ (by first | with_reducible assumption | exact rfl) (by first | with_reducible assumption | exact rfl); clear hr0) | (with_reducible refine at_list ?_; refine wpList_wide_g rfl rfl Try.underlying28 Try.underlying39 rfl ?_; intro r n hr0; have hr := hr0 _ (by first | with_reducible assumption | exact rfl); clear hr0) | (with_reducible refine at_list ?_; refine wpList_wide rfl rfl rfl Try.underlying28 Try.underlying39 ?_; intro r n hr0; have hr := hr0 _ (by first | with_reducible assumption | exact rfl); clear hr0) | (go_at_call 69; refine ((HF.out _) ).mono ?_; rintro e w' ⟨rfl, hb⟩; obtain ⟨hT, hk⟩ := bv_next hb (by (repeat (with_reducible first | assumption | apply Trk.alloc | apply Trk.setCell | apply Trk.drewN | apply Trk.drew | exact Trk.nil _))); simp only [SameOn, World.size_alloc, World.size_setCell, World.size_drew, size_drewN', and_true] at hk; have hsz := Below.size hb; (try simp only [World.size_alloc, World.size_setCell, World.size_drew, size_drewN'] at hsz)))
    go_ret2
    exact ⟨_, _, rfl, (cn_cn _ _).symm, (cn_cn _ _).symm, by (repeat (first | (with_reducible exact Below.refl _ _) | (with_reducible assumption) | (with_reducible refine below_then ?_ (by assumption)) | (with_reducible refine Below.trans ?_ (by assumption)) | (with_reducible refine below_drewN ?_ _) | (with_reducible apply Below.drew) | (with_reducible refine below_alloc ?_ _) | refine Below.setCell ?_ (by first | (simp; done) | (simp; omega)) _))⟩
end Go.Proofs.Ytpnkapdemgieaaa
set_option linter.unusedSimpArgs false
set_option linter.unusedVariables false
set_option linter.unusedSectionVars false
namespace Go.Proofs.Ytpnkapdemgieaaa
open Go Go.RowKit
open Go.ChangeShapes Go.WideShapes Go.ChangeAt Go.RowKit Go.Joins
/-- A call of what stands outside Go. -/
theorem wpList_ext {f : FuncId} {fn : Func} {e : Array Value → Sem Value} (hf : Try.prog.funcs[f]? = some fn) (h1 : (fn.name == "runtime.NumGoroutine") = false) (h2 : fn.body.isNone = true) (h3 : Extern.findNext fn = none) (h4 : Extern.find fn = some e)
    {w : World} {ops : Array Oper} {rest : List Oper} {o : Oper} {a : Act} {Q : Exit → Act → World → Prop} (hg : o.guard = none) {X : Operand} {T : TypeId}
    (ho : o.op = .call { callee := .value (.func f), args := #[X], argTypes := #[T] }) {x v : Value} (hx : a.eval X = x) (he : ∀ w, (e #[x]).run Try.prog w = .ok v w)
    (h : wpList Try.prog ops Q rest (a.put o.dst v) w) : wpList Try.prog ops Q (o :: rest) a w := by
  refine wpList_plain hg fun K hK => ?_
  have hc : (callFunc f #[x]).run Try.prog w = .ok (.value v) w := by rw [run_callFunc_extern hf h1 h2 h3 h4 #[x] w, he w]; rfl
  have hr : (execOp a.eval o).run Try.prog w = .ok (.value v) w := by
    unfold execOp
    simp only [ho, resolve, invoke, Sem.run_bind, Sem.run_pure, Result.andThen_ok, List.map_toArray, List.map_cons, List.map_nil, hx]
    have ef : a.eval (.func f) = .func (.func f) #[] #[] := rfl
    rw [ef]
    simp [Deferred.ofValue, hc, Result.andThen]
  unfold Oper.wp
  rw [hr]
  exact hK _ _ h
theorem wpList_from64 {w : World} {ops : Array Oper} {rest : List Oper} {o : Oper} {a : Act} {Q : Exit → Act → World → Prop} (hg : o.guard = none) {X : Operand} {T : TypeId}
    (ho : o.op = .call { callee := .value (.func 91), args := #[X], argTypes := #[T] }) {n : Int} (hx : a.eval X = .int .u64 n)
    (h : wpList Try.prog ops Q rest (a.put o.dst (.float .f64 n.toNat)) w) : wpList Try.prog ops Q (o :: rest) a w :=
  wpList_ext (e := Extern.MathFloatBits.float64frombits) Try.func91 (by kernel_rfl) (by kernel_rfl) (by kernel_rfl) (by kernel_rfl) hg ho hx (fun _ => rfl) h
theorem wpList_bits64 {w : World} {ops : Array Oper} {rest : List Oper} {o : Oper} {a : Act} {Q : Exit → Act → World → Prop} (hg : o.guard = none) {X : Operand} {T : TypeId}
    (ho : o.op = .call { callee := .value (.func 97), args := #[X], argTypes := #[T] }) {n : Nat} (hx : a.eval X = .float .f64 n)
    (h : wpList Try.prog ops Q rest (a.put o.dst (.int .u64 n)) w) : wpList Try.prog ops Q (o :: rest) a w :=
  wpList_ext (e := Extern.MathFloatBits.float64bits) Try.func97 (by kernel_rfl) (by kernel_rfl) (by kernel_rfl) (by kernel_rfl) hg ho hx (fun _ => rfl) h
/-- The whole part's word as it is drawn outside. -/
def trW (x : Nat) : Nat := FloatKind.f64.encode ((FloatKind.f64.decode x).integral .zero)
theorem wpList_trunc {w : World} {ops : Array Oper} {rest : List Oper} {o : Oper} {a : Act} {Q : Exit → Act → World → Prop} (hg : o.guard = none) {X : Operand} {T : TypeId}
    (ho : o.op = .call { callee := .value (.func 98), args := #[X], argTypes := #[T] }) {n : Nat} (hx : a.eval X = .float .f64 n) (hn : fnt .f64 n = true)
    (h : wpList Try.prog ops Q rest (a.put o.dst (.float .f64 (trW n))) w) : wpList Try.prog ops Q (o :: rest) a w := by
  refine wpList_ext (e := Extern.MathFloor.toIntegral "math.archTrunc" .zero) Try.func98 (by kernel_rfl) (by kernel_rfl) (by kernel_rfl) (by kernel_rfl) hg ho hx (fun w => ?_) h
  obtain ⟨s, m, i, e⟩ := fnt_read hn
  have e' : FloatKind.f64.decode n = .number s m i := e
  have hq : Extern.MathFloor.toIntegral "math.archTrunc" .zero #[.float .f64 n] = (match FloatKind.f64.decode n with | .nan s t => (if FloatKind.f64.format.quiet t = t then pure (.float .f64 n) else (do let kept ← choose (.extern "math.Floor,Ceil,Trunc,RoundToEven.signallingNaN kept" 2); pure (.float .f64 (if kept == 1 then n else FloatKind.f64.encode (.nan s (FloatKind.f64.format.quiet t)))))) | d => pure (.float .f64 (FloatKind.f64.encode (d.integral .zero)))) := rfl
  unfold trW
  rw [hq, e']
  rfl
theorem trW_of {x : Nat} (h : Tame x) : (feq .f64 (cn .f64 (trW x)) (cn .f64 0) = true ∧ whW x = cn .f64 0) ∨ (feq .f64 (cn .f64 (trW x)) (cn .f64 0) = false ∧ whW x = trW x) := by
  obtain ⟨s, m, i, e⟩ := fnt_read h.1
  have hw := whW_val h
  obtain ⟨t1, t2⟩ := whW_of e
  have t3 := (trI_of e).2
  unfold trW
  rw [t3]
  by_cases h0 : trM m i = 0
  · rw [if_pos h0] at t2
    left
    refine ⟨?_, t2.trans (by decide +kernel)⟩
    rw [h0]
    cases s <;> decide +kernel
  · rw [if_neg h0] at t2
    right
    refine ⟨?_, t2⟩
    rw [← t2, fnt_cn hw.1, feqv hw.1 Vz.1, hw.2, Vz.2, t1]
    refine decide_eq_false (fun hz => ?_)
    have hz2 : (if s then -((trM m i : Nat) : Int) else ((trM m i : Nat) : Int)) = 0 := by exact_mod_cast hz
    cases s <;> simp at hz2 <;> omega
theorem mathTrunc_any (x : Nat) (w : World) (h : fnt .f64 x = true) : Calls Try.prog 93 #[.float .f64 x] w (BV w (.float .f64 (trW x))) := by
  go_enter Try.func93, Try.ntmps93
  go_wp2_with (first | (with_reducible refine at_list ?_; refine wpList_fop rfl rfl rfl rfl rfl ?_; intro r n hr0; have hr := hr0 _ _ (by first | with_reducible assumption | exact rfl) (by first | with_reducible assumption | exact rfl); clear hr0) | (with_reducible refine at_list ?_; refine wpList_neg rfl rfl rfl ?_; intro r hr0; have hr := hr0 _ (by first | with_reducible assumption | exact rfl); clear hr0) | (with_reducible refine at_list ?_; refine wpList_fop_g rfl rfl rfl rfl rfl ?_; intro r n hr0; have hr := hr0 _ _ (by first | with_reducible assumption | exact rfl) (by first | with_reducible assumption | exact rfl); clear hr0) | (with_reducible refine at_list ?_; refine wpList_wide_g rfl rfl Try.underlying28 Try.underlying39 rfl ?_; intro r n hr0; have hr := hr0 _ (by first | with_reducible assumption | exact rfl); clear hr0) | (with_reducible refine at_list ?_; refine wpList_wide rfl rfl rfl Try.underlying28 Try.underlying39 ?_; intro r n hr0; have hr := hr0 _ (by first | with_reducible assumption | exact rfl); clear hr0) | (with_reducible refine at_list ?_; refine wpList_trunc rfl rfl rfl h ?_))
  go_ret
  exact ⟨rfl, by (repeat (first | (with_reducible exact Below.refl _ _) | (with_reducible assumption) | (with_reducible refine below_then ?_ (by assumption)) | (with_reducible refine Below.trans ?_ (by assumption)) | (with_reducible refine below_drewN ?_ _) | (with_reducible apply Below.drew) | (with_reducible refine below_alloc ?_ _) | refine Below.setCell ?_ (by first | (simp; done) | (simp; omega)) _))⟩
set_option maxHeartbeats 1000000 in
theorem partOfTurn_any (x : Nat) (w : World) (h : Tame x) : Calls Try.prog 83 #[.float .f64 x] w (BF w .f64 (poT x)) := by
  have HT := Lib.hid (fun w => mathTrunc_any x w h.1)
  have hx : cn .f64 x = x := fnt_cn h.1
  have hd : poD x = fop .sub .f64 x (whW x) := rfl
  have hP : Hid (poT x = if flt .f64 (poD x) (cn .f64 0) then fop .add .f64 (poD x) (cn .f64 4607182418800017408) else poD x) := rfl
  rw [hP.out]
  rcases trW_of h with ⟨f1, f2⟩ | ⟨f1, f2⟩
  · rw [f2] at hd
    rcases f3 : flt .f64 (poD x) (cn .f64 0)
    all_goals
      rw [hd] at f3 ⊢
      clear h f2 hd hP
      go_enter Try.func83, Try.ntmps83
      go_wp2_with (first | (with_reducible refine at_list ?_; refine wpList_fop rfl rfl rfl rfl rfl ?_; intro r n hr0; have hr := hr0 _ _ (by first | with_reducible assumption | exact rfl) (by first | with_reducible assumption | exact rfl); clear hr0) | (with_reducible refine at_list ?_; refine wpList_neg rfl rfl rfl ?_; intro r hr0; have hr := hr0 _ (by first | with_reducible assumption | exact rfl); clear hr0) | (with_reducible refine at_list ?_; refine wpList_fop_g rfl rfl rfl rfl rfl ?_; intro r n hr0; have hr := hr0 _ _ (by first | with_reducible assumption | exact rfl) (by first | with_reducible assumption | exact rfl); clear hr0) | (with_reducible refine at_list ?_; refine wpList_wide_g rfl rfl Try.underlying28 Try.underlying39 rfl ?_; intro r n hr0; have hr := hr0 _ (by first | with_reducible assumption | exact rfl); clear hr0) | (with_reducible refine at_list ?_; refine wpList_wide rfl rfl rfl Try.underlying28 Try.underlying39 ?_; intro r n hr0; have hr := hr0 _ (by first | with_reducible assumption | exact rfl); clear hr0) | (go_at_call 93; refine ((HT.out _) ).mono ?_; rintro e w' ⟨rfl, hb⟩; obtain ⟨hT, hk⟩ := bv_next hb (by (repeat (with_reducible first | assumption | apply Trk.alloc | apply Trk.setCell | apply Trk.drewN | apply Trk.drew | exact Trk.nil _))); simp only [SameOn, World.size_alloc, World.size_setCell, World.size_drew, size_drewN', and_true] at hk; have hsz := Below.size hb; (try simp only [World.size_alloc, World.size_setCell, World.size_drew, size_drewN'] at hsz)))
      go_ret
      exact ⟨_, rfl, by simp only [*] <;> rfl, by (repeat (first | (with_reducible exact Below.refl _ _) | (with_reducible assumption) | (with_reducible refine below_then ?_ (by assumption)) | (with_reducible refine Below.trans ?_ (by assumption)) | (with_reducible refine below_drewN ?_ _) | (with_reducible apply Below.drew) | (with_reducible refine below_alloc ?_ _) | refine Below.setCell ?_ (by first | (simp; done) | (simp; omega)) _))⟩
  · rw [f2] at hd
    rcases f3 : flt .f64 (poD x) (cn .f64 0)
    all_goals
      rw [hd] at f3 ⊢
      have hw : cn .f64 (trW x) = trW x := by rw [← f2]; exact cn_whW x
      rw [hw] at f1
      clear h f2 hd hP
      generalize trW x = t at *
      go_enter Try.func83, Try.ntmps83
      go_wp2_with (first | (with_reducible refine at_list ?_; refine wpList_fop rfl rfl rfl rfl rfl ?_; intro r n hr0; have hr := hr0 _ _ (by first | with_reducible assumption | exact rfl) (by first | with_reducible assumption | exact rfl); clear hr0) | (with_reducible refine at_list ?_; refine wpList_neg rfl rfl rfl ?_; intro r hr0; have hr := hr0 _ (by first | with_reducible assumption | exact rfl); clear hr0) | (with_reducible refine at_list ?_; refine wpList_fop_g rfl rfl rfl rfl rfl ?_; intro r n hr0; have hr := hr0 _ _ (by first | with_reducible assumption | exact rfl) (by first | with_reducible assumption | exact rfl); clear hr0) | (with_reducible refine at_list ?_; refine wpList_wide_g rfl rfl Try.underlying28 Try.underlying39 rfl ?_; intro r n hr0; have hr := hr0 _ (by first | with_reducible assumption | exact rfl); clear hr0) | (with_reducible refine at_list ?_; refine wpList_wide rfl rfl rfl Try.underlying28 Try.underlying39 ?_; intro r n hr0; have hr := hr0 _ (by first | with_reducible assumption | exact rfl); clear hr0) | (go_at_call 93; refine ((HT.out _) ).mono ?_; rintro e w' ⟨rfl, hb⟩; obtain ⟨hT, hk⟩ := bv_next hb (by (repeat (with_reducible first | assumption | apply Trk.alloc | apply Trk.setCell | apply Trk.drewN | apply Trk.drew | exact Trk.nil _))); simp only [SameOn, World.size_alloc, World.size_setCell, World.size_drew, size_drewN', and_true] at hk; have hsz := Below.size hb; (try simp only [World.size_alloc, World.size_setCell, World.size_drew, size_drewN'] at hsz)))
      go_ret
      exact ⟨_, rfl, by simp only [*] <;> rfl, by (repeat (first | (with_reducible exact Below.refl _ _) | (with_reducible assumption) | (with_reducible refine below_then ?_ (by assumption)) | (with_reducible refine Below.trans ?_ (by assumption)) | (with_reducible refine below_drewN ?_ _) | (with_reducible apply Below.drew) | (with_reducible refine below_alloc ?_ _) | refine Below.setCell ?_ (by first | (simp; done) | (simp; omega)) _))⟩
theorem abs_word {x : Nat} (hx : x < 18446744073709551616) : x &&& (18446744073709551615 - 9223372036854775808) = x % 9223372036854775808 := by
  rw [show 18446744073709551615 - 9223372036854775808 = 2 ^ 63 - 1 by decide, Nat.and_two_pow_sub_one_eq_mod]
theorem mathAbs_any (x : Nat) (w : World) (h : x < 18446744073709551616) : Calls Try.prog 92 #[.float .f64 x] w (BV w (.float .f64 (x % 9223372036854775808))) := by
  have hb : Go.bits .andNot .u64 (x : Int) (9223372036854775808 : Int) = ((x % 9223372036854775808 : Nat) : Int) := by
    have := u64_andNot_nat x 9223372036854775808 h (by decide)
    rw [abs_word h] at this
    exact this
  go_enter Try.func92, Try.ntmps92
  go_wp2_with (first | (with_reducible refine at_list ?_; refine wpList_fop rfl rfl rfl rfl rfl ?_; intro r n hr0; have hr := hr0 _ _ (by first | with_reducible assumption | exact rfl) (by first | with_reducible assumption | exact rfl); clear hr0) | (with_reducible refine at_list ?_; refine wpList_neg rfl rfl rfl ?_; intro r hr0; have hr := hr0 _ (by first | with_reducible assumption | exact rfl); clear hr0) | (with_reducible refine at_list ?_; refine wpList_fop_g rfl rfl rfl rfl rfl ?_; intro r n hr0; have hr := hr0 _ _ (by first | with_reducible assumption | exact rfl) (by first | with_reducible assumption | exact rfl); clear hr0) | (with_reducible refine at_list ?_; refine wpList_wide_g rfl rfl Try.underlying28 Try.underlying39 rfl ?_; intro r n hr0; have hr := hr0 _ (by first | with_reducible assumption | exact rfl); clear hr0) | (with_reducible refine at_list ?_; refine wpList_wide rfl rfl rfl Try.underlying28 Try.underlying39 ?_; intro r n hr0; have hr := hr0 _ (by first | with_reducible assumption | exact rfl); clear hr0) | (with_reducible refine at_list ?_; refine wpList_bits64 rfl rfl rfl ?_) | (with_reducible refine at_list ?_; refine wpList_from64 rfl rfl rfl ?_))
  go_ret
  exact ⟨by first | rfl | (simp only [*]; rfl), by (repeat (first | (with_reducible exact Below.refl _ _) | (with_reducible assumption) | (with_reducible refine below_then ?_ (by assumption)) | (with_reducible refine Below.trans ?_ (by assumption)) | (with_reducible refine below_drewN ?_ _) | (with_reducible apply Below.drew) | (with_reducible refine below_alloc ?_ _) | refine Below.setCell ?_ (by first | (simp; done) | (simp; omega)) _))⟩
theorem abs_val {x : Nat} (h : fnt .f64 x = true) : fnt .f64 (x % 9223372036854775808) = true ∧ (fv .f64 (x % 9223372036854775808) = fv .f64 x ∧ 0 ≤ fv .f64 x ∨ fv .f64 (x % 9223372036854775808) = -fv .f64 x ∧ fv .f64 x ≤ 0) := by
  obtain ⟨s, m, i, e⟩ := fnt_read h
  have key : FloatKind.f64.format.read (x % 9223372036854775808) = .number false m i := by
    have e2 := e
    unfold Ieee.Format.read at e2 ⊢
    have sw : FloatKind.f64.format.signWeight = 9223372036854775808 := by decide
    rw [sw] at e2 ⊢
    have d0 : x % 9223372036854775808 / 9223372036854775808 = 0 := Nat.div_eq_of_lt (Nat.mod_lt _ (by decide))
    rw [d0, Nat.mod_mod]
    have b0 : ((0 % 2 : Nat) == 1) = false := rfl
    rw [b0]
    dsimp only at e2 ⊢
    split at e2
    · rename_i hc; rw [if_pos hc]; cases e2; rfl
    · rename_i hc
      rw [if_neg hc]
      split at e2
      · rename_i hc2; rw [if_pos hc2]; cases e2; rfl
      · split at e2 <;> cases e2
  obtain ⟨a0, a1⟩ := fv_of key
  obtain ⟨_, c1⟩ := fv_of e
  have mp : 0 ≤ (m : Rat) * tp i := Rat.mul_nonneg (by exact_mod_cast Nat.zero_le m) (Rat.le_of_lt (tp_pos i))
  refine ⟨a0, ?_⟩
  rw [a1, c1]
  cases s
  · exact .inl ⟨rfl, by have : sg false = 1 := rfl; rw [this]; grind⟩
  · exact .inr ⟨by have h1 : sg false = 1 := rfl; have h2 : sg true = -1 := rfl; rw [h1, h2]; grind, by have h2 : sg true = -1 := rfl; rw [h2]; grind⟩
theorem isHuge_any (x : Nat) (w : World) (h : fnt .f64 x = true) (hlt : x < 18446744073709551616) {b : Bool} (hb : fge .f64 (cn .f64 (x % 9223372036854775808)) (cn .f64 4841369599423283200) = b) : Calls Try.prog 82 #[.float .f64 x] w (BV w (.bool b)) := by
  have HA := Lib.hid (fun w => mathAbs_any x w hlt)
  generalize x % 9223372036854775808 = y at *
  cases b
  all_goals
    go_enter Try.func82, Try.ntmps82
    go_wp2_with (first | (with_reducible refine at_list ?_; refine wpList_fop rfl rfl rfl rfl rfl ?_; intro r n hr0; have hr := hr0 _ _ (by first | with_reducible assumption | exact rfl) (by first | with_reducible assumption | exact rfl); clear hr0) | (with_reducible refine at_list ?_; refine wpList_neg rfl rfl rfl ?_; intro r hr0; have hr := hr0 _ (by first | with_reducible assumption | exact rfl); clear hr0) | (with_reducible refine at_list ?_; refine wpList_fop_g rfl rfl rfl rfl rfl ?_; intro r n hr0; have hr := hr0 _ _ (by first | with_reducible assumption | exact rfl) (by first | with_reducible assumption | exact rfl); clear hr0) | (with_reducible refine at_list ?_; refine wpList_wide_g rfl rfl Try.underlying28 Try.underlying39 rfl ?_; intro r n hr0; have hr := hr0 _ (by first | with_reducible assumption | exact rfl); clear hr0) | (with_reducible refine at_list ?_; refine wpList_wide rfl rfl rfl Try.underlying28 Try.underlying39 ?_; intro r n hr0; have hr := hr0 _ (by first | with_reducible assumption | exact rfl); clear hr0) | (go_at_call 92; refine ((HA.out _) ).mono ?_; rintro e w' ⟨rfl, hb⟩; obtain ⟨hT, hk⟩ := bv_next hb (by (repeat (with_reducible first | assumption | apply Trk.alloc | apply Trk.setCell | apply Trk.drewN | apply Trk.drew | exact Trk.nil _))); simp only [SameOn, World.size_alloc, World.size_setCell, World.size_drew, size_drewN', and_true] at hk; have hsz := Below.size hb; (try simp only [World.size_alloc, World.size_setCell, World.size_drew, size_drewN'] at hsz)))
    go_ret
    exact ⟨rfl, by (repeat (first | (with_reducible exact Below.refl _ _) | (with_reducible assumption) | (with_reducible refine below_then ?_ (by assumption)) | (with_reducible refine Below.trans ?_ (by assumption)) | (with_reducible refine below_drewN ?_ _) | (with_reducible apply Below.drew) | (with_reducible refine below_alloc ?_ _) | refine Below.setCell ?_ (by first | (simp; done) | (simp; omega)) _))⟩
theorem V52 : V .f64 (cn .f64 4841369599423283200) 4503599627370496 := ⟨by decide +kernel, by decide +kernel⟩
theorem V52n : V .f64 (cn .f64 14064741636278059008) (-4503599627370496) := ⟨by decide +kernel, by decide +kernel⟩
/-- What is not huge. -/
theorem tame_not {x : Nat} (h : Tame x) : fge .f64 (cn .f64 (x % 9223372036854775808)) (cn .f64 4841369599423283200) = false ∧ fge .f64 x (cn .f64 4841369599423283200) = false ∧ fle .f64 x (cn .f64 14064741636278059008) = false := by
  obtain ⟨h0, h1, h2⟩ := h
  obtain ⟨a0, a1⟩ := abs_val h0
  refine ⟨?_, ?_, ?_⟩
  · rw [fnt_cn a0, fgev a0 V52.1, V52.2]
    exact decide_eq_false (by rcases a1 with ⟨a, _⟩ | ⟨a, _⟩ <;> grind)
  · rw [fgev h0 V52.1, V52.2]; exact decide_eq_false (by grind)
  · rw [flev h0 V52n.1, V52n.2]; exact decide_eq_false (by grind)
theorem mathNaN_any (w : World) : Calls Try.prog 81 #[] w (BF w .f64 (qn .f64)) := by
  go_enter Try.func81, Try.ntmps81
  go_wp2_with (first | (with_reducible refine at_list ?_; refine wpList_fop rfl rfl rfl rfl rfl ?_; intro r n hr0; have hr := hr0 _ _ (by first | with_reducible assumption | exact rfl) (by first | with_reducible assumption | exact rfl); clear hr0) | (with_reducible refine at_list ?_; refine wpList_neg rfl rfl rfl ?_; intro r hr0; have hr := hr0 _ (by first | with_reducible assumption | exact rfl); clear hr0) | (with_reducible refine at_list ?_; refine wpList_fop_g rfl rfl rfl rfl rfl ?_; intro r n hr0; have hr := hr0 _ _ (by first | with_reducible assumption | exact rfl) (by first | with_reducible assumption | exact rfl); clear hr0) | (with_reducible refine at_list ?_; refine wpList_wide_g rfl rfl Try.underlying28 Try.underlying39 rfl ?_; intro r n hr0; have hr := hr0 _ (by first | with_reducible assumption | exact rfl); clear hr0) | (with_reducible refine at_list ?_; refine wpList_wide rfl rfl rfl Try.underlying28 Try.underlying39 ?_; intro r n hr0; have hr := hr0 _ (by first | with_reducible assumption | exact rfl); clear hr0) | (with_reducible refine at_list ?_; refine wpList_from64 rfl rfl rfl ?_))
  go_ret
  exact ⟨_, rfl, by decide +kernel, by (repeat (first | (with_reducible exact Below.refl _ _) | (with_reducible assumption) | (with_reducible refine below_then ?_ (by assumption)) | (with_reducible refine Below.trans ?_ (by assumption)) | (with_reducible refine below_drewN ?_ _) | (with_reducible apply Below.drew) | (with_reducible refine below_alloc ?_ _) | refine Below.setCell ?_ (by first | (simp; done) | (simp; omega)) _))⟩
theorem mathInf_any (w : World) : Calls Try.prog 94 #[.int .i64 1] w (BF w .f64 (cn .f64 9218868437227405312)) := by
  go_enter Try.func94, Try.ntmps94
  go_wp2_with (first | (with_reducible refine at_list ?_; refine wpList_fop rfl rfl rfl rfl rfl ?_; intro r n hr0; have hr := hr0 _ _ (by first | with_reducible assumption | exact rfl) (by first | with_reducible assumption | exact rfl); clear hr0) | (with_reducible refine at_list ?_; refine wpList_neg rfl rfl rfl ?_; intro r hr0; have hr := hr0 _ (by first | with_reducible assumption | exact rfl); clear hr0) | (with_reducible refine at_list ?_; refine wpList_fop_g rfl rfl rfl rfl rfl ?_; intro r n hr0; have hr := hr0 _ _ (by first | with_reducible assumption | exact rfl) (by first | with_reducible assumption | exact rfl); clear hr0) | (with_reducible refine at_list ?_; refine wpList_wide_g rfl rfl Try.underlying28 Try.underlying39 rfl ?_; intro r n hr0; have hr := hr0 _ (by first | with_reducible assumption | exact rfl); clear hr0) | (with_reducible refine at_list ?_; refine wpList_wide rfl rfl rfl Try.underlying28 Try.underlying39 ?_; intro r n hr0; have hr := hr0 _ (by first | with_reducible assumption | exact rfl); clear hr0) | (with_reducible refine at_list ?_; refine wpList_from64 rfl rfl rfl ?_))
  go_ret
  exact ⟨_, rfl, rfl, by (repeat (first | (with_reducible exact Below.refl _ _) | (with_reducible assumption) | (with_reducible refine below_then ?_ (by assumption)) | (with_reducible refine Below.trans ?_ (by assumption)) | (with_reducible refine below_drewN ?_ _) | (with_reducible apply Below.drew) | (with_reducible refine below_alloc ?_ _) | refine Below.setCell ?_ (by first | (simp; done) | (simp; omega)) _))⟩
/-! ### The exponential function -/
def exG (x : Nat) : Nat := if fgt .f64 x (cn .f64 4641240890982006784) then cn .f64 9218868437227405312 else if flt .f64 x (cn .f64 13864612927836782592) then cn .f64 0 else exV x
theorem cn_exG (x : Nat) : cn .f64 (exG x) = exG x := by
  unfold exG
  split
  · exact cn_cn _ _
  · split
    · exact cn_cn _ _
    · exact cn_exV _
theorem exponential_g (x : Nat) (w : World) (h : feq .f64 (cn .f64 x) (cn .f64 x) = true) : Calls Try.prog 85 #[.float .f64 x] w (BF w .f64 (exG (cn .f64 x))) := by
  have HE : Hid (exG (cn .f64 x) = if fgt .f64 (cn .f64 x) (cn .f64 4641240890982006784) then cn .f64 9218868437227405312 else if flt .f64 (cn .f64 x) (cn .f64 13864612927836782592) then cn .f64 0 else exV (cn .f64 x)) := rfl
  rw [HE.out]
  rcases f1 : fgt .f64 (cn .f64 x) (cn .f64 4641240890982006784)
  · rcases f2 : flt .f64 (cn .f64 x) (cn .f64 13864612927836782592)
    · exact (exponential_any x w ⟨h, f1, f2⟩).mono fun e w' hh => RF.bf hh
    · clear HE
      go_enter Try.func85, Try.ntmps85
      go_wp2_with (first | (with_reducible refine at_list ?_; refine wpList_fop rfl rfl rfl rfl rfl ?_; intro r n hr0; have hr := hr0 _ _ (by first | with_reducible assumption | exact rfl) (by first | with_reducible assumption | exact rfl); clear hr0) | (with_reducible refine at_list ?_; refine wpList_neg rfl rfl rfl ?_; intro r hr0; have hr := hr0 _ (by first | with_reducible assumption | exact rfl); clear hr0) | (with_reducible refine at_list ?_; refine wpList_fop_g rfl rfl rfl rfl rfl ?_; intro r n hr0; have hr := hr0 _ _ (by first | with_reducible assumption | exact rfl) (by first | with_reducible assumption | exact rfl); clear hr0) | (with_reducible refine at_list ?_; refine wpList_wide_g rfl rfl Try.underlying28 Try.underlying39 rfl ?_; intro r n hr0; have hr := hr0 _ (by first | with_reducible assumption | exact rfl); clear hr0) | (with_reducible refine at_list ?_; refine wpList_wide rfl rfl rfl Try.underlying28 Try.underlying39 ?_; intro r n hr0; have hr := hr0 _ (by first | with_reducible assumption | exact rfl); clear hr0))
      go_ret
      exact ⟨_, rfl, rfl, by (repeat (first | (with_reducible exact Below.refl _ _) | (with_reducible assumption) | (with_reducible refine below_then ?_ (by assumption)) | (with_reducible refine Below.trans ?_ (by assumption)) | (with_reducible refine below_drewN ?_ _) | (with_reducible apply Below.drew) | (with_reducible refine below_alloc ?_ _) | refine Below.setCell ?_ (by first | (simp; done) | (simp; omega)) _))⟩
  · clear HE
    go_enter Try.func85, Try.ntmps85
    go_wp2_with (first | (with_reducible refine at_list ?_; refine wpList_fop rfl rfl rfl rfl rfl ?_; intro r n hr0; have hr := hr0 _ _ (by first | with_reducible assumption | exact rfl) (by first | with_reducible assumption | exact rfl); clear hr0) | (with_reducible refine at_list ?_; refine wpList_neg rfl rfl rfl ?_; intro r hr0; have hr := hr0 _ (by first | with_reducible assumption | exact rfl); clear hr0) | (with_reducible refine at_list ?_; refine wpList_fop_g rfl rfl rfl rfl rfl ?_; intro r n hr0; have hr := hr0 _ _ (by first | with_reducible assumption | exact rfl) (by first | with_reducible assumption | exact rfl); clear hr0) | (with_reducible refine at_list ?_; refine wpList_wide_g rfl rfl Try.underlying28 Try.underlying39 rfl ?_; intro r n hr0; have hr := hr0 _ (by first | with_reducible assumption | exact rfl); clear hr0) | (with_reducible refine at_list ?_; refine wpList_wide rfl rfl rfl Try.underlying28 Try.underlying39 ?_; intro r n hr0; have hr := hr0 _ (by first | with_reducible assumption | exact rfl); clear hr0) | (go_at_call 94; refine ((mathInf_any _) ).mono ?_; rintro e w' ⟨r, rfl, hr, hb⟩; obtain ⟨hT, hk⟩ := bv_next hb (by (repeat (with_reducible first | assumption | apply Trk.alloc | apply Trk.setCell | apply Trk.drewN | apply Trk.drew | exact Trk.nil _))); simp only [SameOn, World.size_alloc, World.size_setCell, World.size_drew, size_drewN', and_true] at hk; have hsz := Below.size hb; (try simp only [World.size_alloc, World.size_setCell, World.size_drew, size_drewN'] at hsz)))
    go_ret
    exact ⟨_, rfl, by simp only [*] <;> rfl, by (repeat (first | (with_reducible exact Below.refl _ _) | (with_reducible assumption) | (with_reducible refine below_then ?_ (by assumption)) | (with_reducible refine Below.trans ?_ (by assumption)) | (with_reducible refine below_drewN ?_ _) | (with_reducible apply Below.drew) | (with_reducible refine below_alloc ?_ _) | refine Below.setCell ?_ (by first | (simp; done) | (simp; omega)) _))⟩
theorem implExp_g (x : Nat) (w : World) (h : feq .f64 (wide (cn .f32 x)) (wide (cn .f32 x)) = true) (hf : fits (exG (wide (cn .f32 x))) = true) : Calls Try.prog 61 #[.float .f32 x] w (BF w .f32 (narrow (exG (wide (cn .f32 x))))) := by
  have HR : Hid (∀ r w, cn .f64 r = wide (cn .f32 x) → Calls Try.prog 85 #[.float .f64 r] w (BF w .f64 (exG (wide (cn .f32 x))))) := fun r w e => by
    have h2 := exponential_g r w (by rw [e]; exact h)
    rw [e] at h2
    exact h2
  have HF := Lib.hid hf
  clear h hf
  generalize exG (wide (cn .f32 x)) = E at *
  go_enter Try.func61, Try.ntmps61
  go_wp2_with (first | (with_reducible refine at_list ?_; refine wpList_fop rfl rfl rfl rfl rfl ?_; intro r n hr0; have hr := hr0 _ _ (by first | with_reducible assumption | exact rfl) (by first | with_reducible assumption | exact rfl); clear hr0) | (with_reducible refine at_list ?_; refine wpList_neg rfl rfl rfl ?_; intro r hr0; have hr := hr0 _ (by first | with_reducible assumption | exact rfl); clear hr0) | (with_reducible refine at_list ?_; refine wpList_fop_g rfl rfl rfl rfl rfl ?_; intro r n hr0; have hr := hr0 _ _ (by first | with_reducible assumption | exact rfl) (by first | with_reducible assumption | exact rfl); clear hr0) | (with_reducible refine at_list ?_; refine wpList_wide_g rfl rfl Try.underlying28 Try.underlying39 rfl ?_; intro r n hr0; have hr := hr0 _ (by first | with_reducible assumption | exact rfl); clear hr0) | (with_reducible refine at_list ?_; refine wpList_wide rfl rfl rfl Try.underlying28 Try.underlying39 ?_; intro r n hr0; have hr := hr0 _ (by first | with_reducible assumption | exact rfl); clear hr0) | (with_reducible refine at_list ?_; refine wpList_narrow rfl rfl rfl Try.underlying39 Try.underlying28 (by with_reducible assumption) HF.out ?_; intro r n hr) | (go_at_call 85; refine ((HR.out _ _ (by assumption)) ).mono ?_; rintro e w' ⟨r, rfl, hr, hb⟩; obtain ⟨hT, hk⟩ := bv_next hb (by (repeat (with_reducible first | assumption | apply Trk.alloc | apply Trk.setCell | apply Trk.drewN | apply Trk.drew | exact Trk.nil _))); simp only [SameOn, World.size_alloc, World.size_setCell, World.size_drew, size_drewN', and_true] at hk; have hsz := Below.size hb; (try simp only [World.size_alloc, World.size_setCell, World.size_drew, size_drewN'] at hsz)))
  go_ret
  exact ⟨_, rfl, by assumption, by (repeat (first | (with_reducible exact Below.refl _ _) | (with_reducible assumption) | (with_reducible refine below_then ?_ (by assumption)) | (with_reducible refine Below.trans ?_ (by assumption)) | (with_reducible refine below_drewN ?_ _) | (with_reducible apply Below.drew) | (with_reducible refine below_alloc ?_ _) | refine Below.setCell ?_ (by first | (simp; done) | (simp; omega)) _))⟩
end Go.Proofs.Ytpnkapdemgieaaa
set_option linter.unusedSimpArgs false
set_option linter.unusedVariables false
set_option linter.unusedSectionVars false
namespace Go.Proofs.Ytpnkapdemgieaaa
open Go Go.RowKit
open Go.ChangeShapes Go.WideShapes Go.ChangeAt Go.RowKit Go.Joins
theorem idx_eight : ∀ j : Nat, j < 9 → idxF (fI (8 - (j : Int))) = 8 - j := by decide +kernel
theorem tame_fin {x : Nat} (h : Tame x) : feq .f64 (fop .sub .f64 x x) (cn .f64 0) = true := by
  have := fnt_fin .f64 x
  rw [h.1] at this
  exact this.symm
set_option maxHeartbeats 8000000 in
theorem implSine_any (x : Nat) (w : World) (h : Tame x) : Calls Try.prog 84 #[.float .f64 x] w (BF w .f64 (sn x)) := by
  have HP := Lib.hid (fun w => partOfTurn_any x w h)
  have H1 : Hid (snS x = fge .f64 (poT x) (cn .f64 4602678819172646912)) := rfl
  have H2 : Hid (snG x = if snS x then fop .sub .f64 (poT x) (cn .f64 4602678819172646912) else poT x) := rfl
  have H3 : Hid (snH x = if fgt .f64 (snG x) (cn .f64 4598175219545276416) then fop .sub .f64 (cn .f64 4602678819172646912) (snG x) else snG x) := rfl
  have H4 : Hid (sn x = if snS x then fneg .f64 (fop .mul .f64 (snZ x) (snP (snU x) 8)) else fop .mul .f64 (snZ x) (snP (snU x) 8)) := rfl
  have H5 : Hid (snZ x = fop .mul .f64 (snH x) (cn .f64 4618760256179416344)) := rfl
  have H6 : Hid (snU x = fop .mul .f64 (snZ x) (snZ x)) := rfl
  rw [H4.out]
  obtain ⟨P0, hP0⟩ : ∃ P, poT x = P := ⟨_, rfl⟩
  rw [hP0] at HP H1 H2
  clear h hP0
  rcases f1 : snS x <;> rcases f2 : fgt .f64 (snG x) (cn .f64 4598175219545276416)
  all_goals
    have g1 := H1.out
    have g2 := H2.out
    have g3 := H3.out
    rw [f1] at g1 g2
    rw [f2] at g3
    first | rw [if_pos rfl] at g2 | rw [if_neg Bool.false_ne_true] at g2
    first | rw [if_pos rfl] at g3 | rw [if_neg Bool.false_ne_true] at g3
    rw [g2] at f2 g3
    replace g1 := g1.symm
    have g5 := H5.out
    rw [g3] at g5
    replace g5 := g5.symm
    have g6 := H6.out.symm
    first | rw [if_pos rfl] | rw [if_neg Bool.false_ne_true]
    clear H1 H2 H3 H4 H5 H6 g2 g3 f1
    generalize snU x = U at *
    generalize snZ x = Z at *
    go_enter Try.func84, Try.ntmps84
    go_wp2_with (first | (with_reducible refine at_list ?_; refine wpList_fop rfl rfl rfl rfl rfl ?_; intro r n hr0; have hr := hr0 _ _ (by first | with_reducible assumption | exact rfl) (by first | with_reducible assumption | exact rfl); clear hr0) | (with_reducible refine at_list ?_; refine wpList_neg rfl rfl rfl ?_; intro r hr0; have hr := hr0 _ (by first | with_reducible assumption | exact rfl); clear hr0) | (with_reducible refine at_list ?_; refine wpList_fop_g rfl rfl rfl rfl rfl ?_; intro r n hr0; have hr := hr0 _ _ (by first | with_reducible assumption | exact rfl) (by first | with_reducible assumption | exact rfl); clear hr0) | (with_reducible refine at_list ?_; refine wpList_wide_g rfl rfl Try.underlying28 Try.underlying39 rfl ?_; intro r n hr0; have hr := hr0 _ (by first | with_reducible assumption | exact rfl); clear hr0) | (with_reducible refine at_list ?_; refine wpList_wide rfl rfl rfl Try.underlying28 Try.underlying39 ?_; intro r n hr0; have hr := hr0 _ (by first | with_reducible assumption | exact rfl); clear hr0) | (go_at_call 83; refine ((HP.out _) ).mono ?_; rintro e w' ⟨r, rfl, hr, hb⟩; obtain ⟨hT, hk⟩ := bv_next hb (by (repeat (with_reducible first | assumption | apply Trk.alloc | apply Trk.setCell | apply Trk.drewN | apply Trk.drew | exact Trk.nil _))); simp only [SameOn, World.size_alloc, World.size_setCell, World.size_drew, size_drewN', and_true] at hk; have hsz := Below.size hb; (try simp only [World.size_alloc, World.size_setCell, World.size_drew, size_drewN'] at hsz)))
    have HB := Lib.hid (show Below w.heap.size w _ by (repeat (first | (with_reducible exact Below.refl _ _) | (with_reducible assumption) | (with_reducible refine below_then ?_ (by assumption)) | (with_reducible refine Below.trans ?_ (by assumption)) | (with_reducible refine below_drewN ?_ _) | (with_reducible apply Below.drew) | (with_reducible refine below_alloc ?_ _) | refine Below.setCell ?_ (by first | (simp; done) | (simp; omega)) _)))
    simp only [g5, g6] at *
    refine wp_named ?_
    intro w1 hw1
    have HB1 : Hid (Below w.heap.size w w1) := by show Below _ _ _; rw [hw1]; (repeat (first | (with_reducible exact Below.refl _ _) | (with_reducible assumption) | (with_reducible refine below_then ?_ (by assumption)) | (with_reducible refine Below.trans ?_ (by assumption)) | (with_reducible refine below_drewN ?_ _) | (with_reducible apply Below.drew) | (with_reducible refine below_alloc ?_ _) | refine Below.setCell ?_ (by first | (simp; done) | (simp; omega)) _))
    obtain ⟨xz, hxz⟩ : ∃ x, cn .f64 x = Z := ⟨_, by assumption⟩
    clear hw1 hb hk hT hsz HB f2 g1
    go_loopw [7, 8] (fun p z wr => ∃ k r1 r2 : Nat, k ≤ 8 ∧ p = .float .f64 r1 ∧ z = .float .f64 r2 ∧ Hid (cn .f64 r1 = snP U k) ∧ Hid (cn .f64 r2 = fI (8 - (k : Int))) ∧ Hid (Below w1.heap.size w1 wr)) (fun _ z _ => idxF (cn .f64 (fltOf z)))
    case atStart => exact ⟨0, _, _, by omega, rfl, rfl, rfl, fI_8.symm, Below.refl _ _⟩
    case round =>
      obtain ⟨k, r1, r2, hk, rfl, rfl, K1, K2, HW⟩ := hrel
      by_cases hlt : k < 8
      · obtain ⟨e0, e1, e2⟩ := snC_drawn k hlt
        have HP1 : Hid (snP U (k + 1) = fop .sub .f64 (cn .f64 4607182418800017408) (fop .quo .f64 (fop .mul .f64 U (snP U k)) (snC k))) := rfl
        have HI1 := Lib.hid (idx_eight k (by omega))
        have HI2 := Lib.hid (idx_eight (k + 1) (by omega))
        have E2 := Lib.hid e2
        have k1 := K1.out
        have k2 := K2.out
        generalize snP U k = S at *
        generalize snC k = C at *
        obtain ⟨F, hF⟩ : ∃ F, F = fI (8 - (k : Int)) := ⟨_, rfl⟩
        rw [← hF] at k2 e0 e1
        have HF := Lib.hid hF
        have hbW := HW.out
        clear e2 hF K1 K2
        go_wp2_with (first | (with_reducible refine at_list ?_; refine wpList_fop rfl rfl rfl rfl rfl ?_; intro r n hr0; have hr := hr0 _ _ (by first | with_reducible assumption | exact rfl) (by first | with_reducible assumption | exact rfl); clear hr0) | (with_reducible refine at_list ?_; refine wpList_neg rfl rfl rfl ?_; intro r hr0; have hr := hr0 _ (by first | with_reducible assumption | exact rfl); clear hr0) | (with_reducible refine at_list ?_; refine wpList_fop_g rfl rfl rfl rfl rfl ?_; intro r n hr0; have hr := hr0 _ _ (by first | with_reducible assumption | exact rfl) (by first | with_reducible assumption | exact rfl); clear hr0) | (with_reducible refine at_list ?_; refine wpList_wide_g rfl rfl Try.underlying28 Try.underlying39 rfl ?_; intro r n hr0; have hr := hr0 _ (by first | with_reducible assumption | exact rfl); clear hr0) | (with_reducible refine at_list ?_; refine wpList_wide rfl rfl rfl Try.underlying28 Try.underlying39 ?_; intro r n hr0; have hr := hr0 _ (by first | with_reducible assumption | exact rfl); clear hr0))
        go_roundw
        case rel => exact ⟨k + 1, _, _, by omega, rfl, rfl, by show _ = _; rw [HP1.out]; simp only [*], by show _ = _; rw [← E2.out, ← HF.out]; assumption, by show Below _ _ _; exact below_then hbW (by (repeat (first | (with_reducible exact Below.refl _ _) | (with_reducible assumption) | (with_reducible refine below_then ?_ (by assumption)) | (with_reducible refine Below.trans ?_ (by assumption)) | (with_reducible refine below_drewN ?_ _) | (with_reducible apply Below.drew) | (with_reducible refine below_alloc ?_ _) | refine Below.setCell ?_ (by first | (simp; done) | (simp; omega)) _)))⟩
        case measure =>
          have a1 : idxF (cn .f64 r2) = 8 - k := by rw [k2, HF.out]; exact HI1.out
          have a2 : ∀ r, cn .f64 r = fop .sub .f64 F (cn .f64 4607182418800017408) → idxF (cn .f64 r) = 8 - (k + 1) := by
            intro r h
            rw [h, HF.out, E2.out]; exact HI2.out
          simp only [fltOf]
          rw [a1, a2 _ (by assumption)]
          omega
      · have he : k = 8 := by omega
        subst he
        have k1 := K1.out
        have k2 := K2.out
        obtain ⟨F, hF⟩ : ∃ F, F = fI (8 - ((8 : Nat) : Int)) := ⟨_, rfl⟩
        rw [← hF] at k2
        have e1 : fge .f64 F (cn .f64 4607182418800017408) = false := by rw [hF]; exact fI_0
        generalize snP U 8 = S at *
        have hbW := below_then HB1.out HW.out
        clear hF K1 K2
        go_wp2_with (first | (with_reducible refine at_list ?_; refine wpList_fop rfl rfl rfl rfl rfl ?_; intro r n hr0; have hr := hr0 _ _ (by first | with_reducible assumption | exact rfl) (by first | with_reducible assumption | exact rfl); clear hr0) | (with_reducible refine at_list ?_; refine wpList_neg rfl rfl rfl ?_; intro r hr0; have hr := hr0 _ (by first | with_reducible assumption | exact rfl); clear hr0) | (with_reducible refine at_list ?_; refine wpList_fop_g rfl rfl rfl rfl rfl ?_; intro r n hr0; have hr := hr0 _ _ (by first | with_reducible assumption | exact rfl) (by first | with_reducible assumption | exact rfl); clear hr0) | (with_reducible refine at_list ?_; refine wpList_wide_g rfl rfl Try.underlying28 Try.underlying39 rfl ?_; intro r n hr0; have hr := hr0 _ (by first | with_reducible assumption | exact rfl); clear hr0) | (with_reducible refine at_list ?_; refine wpList_wide rfl rfl rfl Try.underlying28 Try.underlying39 ?_; intro r n hr0; have hr := hr0 _ (by first | with_reducible assumption | exact rfl); clear hr0))
        go_ret
        exact ⟨_, rfl, by simp only [*] <;> rfl, by (repeat (first | (with_reducible exact Below.refl _ _) | (with_reducible assumption) | (with_reducible refine below_then ?_ (by assumption)) | (with_reducible refine Below.trans ?_ (by assumption)) | (with_reducible refine below_drewN ?_ _) | (with_reducible apply Below.drew) | (with_reducible refine below_alloc ?_ _) | refine Below.setCell ?_ (by first | (simp; done) | (simp; omega)) _))⟩
end Go.Proofs.Ytpnkapdemgieaaa
set_option linter.unusedSimpArgs false
set_option linter.unusedVariables false
set_option linter.unusedSectionVars false
namespace Go.Proofs.Ytpnkapdemgieaaa
open Go Go.RowKit
open Go.ChangeShapes Go.WideShapes Go.ChangeAt Go.RowKit Go.Joins
def RC (w : World) (c d : Nat) (e : Ending) (w' : World) : Prop := ∃ x y, e = .returned (.complex .f32 x y) ∧ cn .f32 x = c ∧ cn .f32 y = d ∧ Below w.heap.size w w'
theorem fits_nan : fits (qn .f64) = true := by decide +kernel
/-- Facts of a point, for a walk. -/
structure PhF (x k : Nat) : Prop where
  fc : fits (phC x k) = true
  fs : fits (phS x k) = true
  f0c : fits (fop .sub .f64 (cn .f64 0) (phC x k)) = true
  f0s : fits (fop .sub .f64 (cn .f64 0) (phS x k)) = true
theorem phF_of {x k : Nat} (h : Qtr x k) : PhF x k := by
  obtain ⟨C, S, _, _⟩ := ph_bnd h
  exact ⟨(fits_two C).1, (fits_two S).1, (fits_two (less_bnd C)).1, (fits_two (less_bnd S)).1⟩
set_option maxHeartbeats 8000000 in
theorem implPhasor_any (x k : Nat) (w : World) (h : Tame x) (hq : Qtr x k) (hlt : x < 18446744073709551616) : Calls Try.prog 60 #[.float .f64 x] w (RC w (narrow (phA x k)) (narrow (phB x k))) := by
  have HN := Lib.hid (fun w => mathNaN_any w)
  have HH := Lib.hid (fun w => isHuge_any x w h.1 hlt (tame_not h).1)
  have HP := Lib.hid (fun w => partOfTurn_any x w h)
  have hx : cn .f64 x = x := fnt_cn h.1
  have f1 : feq .f64 (fop .sub .f64 x x) (cn .f64 0) = true := tame_fin h
  have F := Lib.hid fits_nan
  have HF := Lib.hid (phF_of hq)
  obtain ⟨ta, tb⟩ := qtr_args hq
  have HS1 : Hid (∀ r w, cn .f64 r = phF x k → Calls Try.prog 84 #[.float .f64 r] w (BF w .f64 (phS x k))) := fun r w e => by
    have e2 : r = phF x k := by
      have hn : isN .f64 r = false := by
        cases hn : isN .f64 r with
        | false => rfl
        | true => rw [cn_of_isN hn] at e; rw [← e] at ta; have := fnt_not_nan ta.1; rw [isN_qn] at this; cases this
      rw [cn_of_not hn] at e; exact e
    rw [e2]; exact implSine_any _ w ta
  have HS2 : Hid (∀ r w, cn .f64 r = fop .sub .f64 (cn .f64 4598175219545276416) (phF x k) → Calls Try.prog 84 #[.float .f64 r] w (BF w .f64 (phC x k))) := fun r w e => by
    have e2 : r = fop .sub .f64 (cn .f64 4598175219545276416) (phF x k) := by
      have hn : isN .f64 r = false := by
        cases hn : isN .f64 r with
        | false => rfl
        | true => rw [cn_of_isN hn] at e; rw [← e] at tb; have := fnt_not_nan tb.1; rw [isN_qn] at this; cases this
      rw [cn_of_not hn] at e; exact e
    rw [e2]; exact implSine_any _ w tb
  have HQ := Lib.hid hq
  generalize qn .f64 = q at *
  clear h hq ta tb
  go_enter Try.func60, Try.ntmps60
  go_wp2_with (first | (with_reducible refine at_list ?_; refine wpList_fop rfl rfl rfl rfl rfl ?_; intro r n hr0; have hr := hr0 _ _ (by first | with_reducible assumption | exact rfl) (by first | with_reducible assumption | exact rfl); clear hr0) | (with_reducible refine at_list ?_; refine wpList_neg rfl rfl rfl ?_; intro r hr0; have hr := hr0 _ (by first | with_reducible assumption | exact rfl); clear hr0) | (with_reducible refine at_list ?_; refine wpList_fop_g rfl rfl rfl rfl rfl ?_; intro r n hr0; have hr := hr0 _ _ (by first | with_reducible assumption | exact rfl) (by first | with_reducible assumption | exact rfl); clear hr0) | (with_reducible refine at_list ?_; refine wpList_wide_g rfl rfl Try.underlying28 Try.underlying39 rfl ?_; intro r n hr0; have hr := hr0 _ (by first | with_reducible assumption | exact rfl); clear hr0) | (with_reducible refine at_list ?_; refine wpList_wide rfl rfl rfl Try.underlying28 Try.underlying39 ?_; intro r n hr0; have hr := hr0 _ (by first | with_reducible assumption | exact rfl); clear hr0) | (with_reducible refine at_list ?_; refine wpList_narrow rfl rfl rfl Try.underlying39 Try.underlying28 (by with_reducible assumption) F.out ?_; intro r n hr) | (go_at_call 81; refine ((HN.out _) ).mono ?_; rintro e w' ⟨r, rfl, hr, hb⟩; obtain ⟨hT, hk⟩ := bv_next hb (by (repeat (with_reducible first | assumption | apply Trk.alloc | apply Trk.setCell | apply Trk.drewN | apply Trk.drew | exact Trk.nil _))); simp only [SameOn, World.size_alloc, World.size_setCell, World.size_drew, size_drewN', and_true] at hk; have hsz := Below.size hb; (try simp only [World.size_alloc, World.size_setCell, World.size_drew, size_drewN'] at hsz)) | (go_at_call 82; refine ((HH.out _) ).mono ?_; rintro e w' ⟨rfl, hb⟩; obtain ⟨hT, hk⟩ := bv_next hb (by (repeat (with_reducible first | assumption | apply Trk.alloc | apply Trk.setCell | apply Trk.drewN | apply Trk.drew | exact Trk.nil _))); simp only [SameOn, World.size_alloc, World.size_setCell, World.size_drew, size_drewN', and_true] at hk; have hsz := Below.size hb; (try simp only [World.size_alloc, World.size_setCell, World.size_drew, size_drewN'] at hsz)) | (go_at_call 83; refine ((HP.out _) ).mono ?_; rintro e w' ⟨r, rfl, hr, hb⟩; obtain ⟨hT, hk⟩ := bv_next hb (by (repeat (with_reducible first | assumption | apply Trk.alloc | apply Trk.setCell | apply Trk.drewN | apply Trk.drew | exact Trk.nil _))); simp only [SameOn, World.size_alloc, World.size_setCell, World.size_drew, size_drewN', and_true] at hk; have hsz := Below.size hb; (try simp only [World.size_alloc, World.size_setCell, World.size_drew, size_drewN'] at hsz)))
  refine wp_named ?_
  intro w1 hw1
  have HB1 : Hid (Below w.heap.size w w1) := by show Below _ _ _; rw [hw1]; (repeat (first | (with_reducible exact Below.refl _ _) | (with_reducible assumption) | (with_reducible refine below_then ?_ (by assumption)) | (with_reducible refine Below.trans ?_ (by assumption)) | (with_reducible refine below_drewN ?_ _) | (with_reducible apply Below.drew) | (with_reducible refine below_alloc ?_ _) | refine Below.setCell ?_ (by first | (simp; done) | (simp; omega)) _))
  have h0 : ∃ r0, cn .f64 r0 = poT x := ⟨_, by assumption⟩
  clear hw1 f1 HN HH HP F
  go_loopw [4, 5] (fun f z wr => ∃ j r : Nat, j ≤ k ∧ f = .float .f64 r ∧ z = .int .i64 (j : Int) ∧ Hid (cn .f64 r = phF x j) ∧ Hid (Below w1.heap.size w1 wr)) (fun _ z _ => k - (intOf z).toNat)
  case atStart => exact ⟨0, _, by omega, rfl, rfl, by show _ = poT x; assumption, Below.refl _ _⟩
  case round =>
    (repeat (clear hk)); (repeat (clear hT)); (repeat (clear hb)); (repeat (clear hsz)); (repeat (clear hr))
    obtain ⟨j, r, hjk, rfl, rfl, K1, HW⟩ := hrel
    have k1 := K1.out
    have hbW := HW.out
    have hk4 := HQ.out.le
    by_cases hj : j < k
    · have e1 := HQ.out.all j hj
      have HP1 : Hid (phF x (j + 1) = fop .sub .f64 (phF x j) (cn .f64 4598175219545276416)) := rfl
      generalize phF x j = P at *
      clear K1
      go_wp2_with (first | (with_reducible refine at_list ?_; refine wpList_fop rfl rfl rfl rfl rfl ?_; intro r n hr0; have hr := hr0 _ _ (by first | with_reducible assumption | exact rfl) (by first | with_reducible assumption | exact rfl); clear hr0) | (with_reducible refine at_list ?_; refine wpList_neg rfl rfl rfl ?_; intro r hr0; have hr := hr0 _ (by first | with_reducible assumption | exact rfl); clear hr0) | (with_reducible refine at_list ?_; refine wpList_fop_g rfl rfl rfl rfl rfl ?_; intro r n hr0; have hr := hr0 _ _ (by first | with_reducible assumption | exact rfl) (by first | with_reducible assumption | exact rfl); clear hr0) | (with_reducible refine at_list ?_; refine wpList_wide_g rfl rfl Try.underlying28 Try.underlying39 rfl ?_; intro r n hr0; have hr := hr0 _ (by first | with_reducible assumption | exact rfl); clear hr0) | (with_reducible refine at_list ?_; refine wpList_wide rfl rfl rfl Try.underlying28 Try.underlying39 ?_; intro r n hr0; have hr := hr0 _ (by first | with_reducible assumption | exact rfl); clear hr0))
      go_roundw
      case rel => exact ⟨j + 1, _, by omega, rfl, by go_num, by show _ = _; rw [HP1.out]; assumption, by show Below _ _ _; exact below_then hbW (by (repeat (first | (with_reducible exact Below.refl _ _) | (with_reducible assumption) | (with_reducible refine below_then ?_ (by assumption)) | (with_reducible refine Below.trans ?_ (by assumption)) | (with_reducible refine below_drewN ?_ _) | (with_reducible apply Below.drew) | (with_reducible refine below_alloc ?_ _) | refine Below.setCell ?_ (by first | (simp; done) | (simp; omega)) _)))⟩
      case measure => simp only [intOf]; omega
    · have hje : k = j := by omega
      subst hje
      have e1 := HQ.out.last
      have F1 := Lib.hid HF.out.fc
      have F2 := Lib.hid HF.out.fs
      have F3 := Lib.hid HF.out.f0c
      have F4 := Lib.hid HF.out.f0s
      have hbw := below_then HB1.out HW.out
      clear HQ HF K1 HB1 HW hbW hjk hj
      have hk5 : k = 0 ∨ k = 1 ∨ k = 2 ∨ k = 3 ∨ k = 4 := by omega
      rcases hk5 with rfl | rfl | rfl | rfl | rfl
      · have EA : phA x 0 = phC x 0 := rfl
        have EB : phB x 0 = phS x 0 := rfl
        generalize phC x _ = C at *
        generalize phS x _ = S at *
        generalize phF x _ = P at *
        go_wp2_with (first | (with_reducible refine at_list ?_; refine wpList_fop rfl rfl rfl rfl rfl ?_; intro r n hr0; have hr := hr0 _ _ (by first | with_reducible assumption | exact rfl) (by first | with_reducible assumption | exact rfl); clear hr0) | (with_reducible refine at_list ?_; refine wpList_neg rfl rfl rfl ?_; intro r hr0; have hr := hr0 _ (by first | with_reducible assumption | exact rfl); clear hr0) | (with_reducible refine at_list ?_; refine wpList_fop_g rfl rfl rfl rfl rfl ?_; intro r n hr0; have hr := hr0 _ _ (by first | with_reducible assumption | exact rfl) (by first | with_reducible assumption | exact rfl); clear hr0) | (with_reducible refine at_list ?_; refine wpList_wide_g rfl rfl Try.underlying28 Try.underlying39 rfl ?_; intro r n hr0; have hr := hr0 _ (by first | with_reducible assumption | exact rfl); clear hr0) | (with_reducible refine at_list ?_; refine wpList_wide rfl rfl rfl Try.underlying28 Try.underlying39 ?_; intro r n hr0; have hr := hr0 _ (by first | with_reducible assumption | exact rfl); clear hr0) | (with_reducible refine at_list ?_; refine wpList_narrow rfl rfl rfl Try.underlying39 Try.underlying28 (by with_reducible assumption) (by first | exact F1.out | exact F2.out | exact F3.out | exact F4.out) ?_; intro r n hr) | (go_at_call 84; refine ((HS1.out _ _ (by with_reducible assumption)) ).mono ?_; rintro e w' ⟨r, rfl, hr, hb⟩; obtain ⟨hT, hk⟩ := bv_next hb (by (repeat (with_reducible first | assumption | apply Trk.alloc | apply Trk.setCell | apply Trk.drewN | apply Trk.drew | exact Trk.nil _))); simp only [SameOn, World.size_alloc, World.size_setCell, World.size_drew, size_drewN', and_true] at hk; have hsz := Below.size hb; (try simp only [World.size_alloc, World.size_setCell, World.size_drew, size_drewN'] at hsz)) | (go_at_call 84; refine ((HS2.out _ _ (by with_reducible assumption)) ).mono ?_; rintro e w' ⟨r, rfl, hr, hb⟩; obtain ⟨hT, hk⟩ := bv_next hb (by (repeat (with_reducible first | assumption | apply Trk.alloc | apply Trk.setCell | apply Trk.drewN | apply Trk.drew | exact Trk.nil _))); simp only [SameOn, World.size_alloc, World.size_setCell, World.size_drew, size_drewN', and_true] at hk; have hsz := Below.size hb; (try simp only [World.size_alloc, World.size_setCell, World.size_drew, size_drewN'] at hsz)))
        go_ret
        exact ⟨_, _, rfl, by first | assumption | (rw [EA]; assumption), by first | assumption | (rw [EB]; assumption), by (repeat (first | (with_reducible exact Below.refl _ _) | (with_reducible assumption) | (with_reducible refine below_then ?_ (by assumption)) | (with_reducible refine Below.trans ?_ (by assumption)) | (with_reducible refine below_drewN ?_ _) | (with_reducible apply Below.drew) | (with_reducible refine below_alloc ?_ _) | refine Below.setCell ?_ (by first | (simp; done) | (simp; omega)) _))⟩
      · have EA : phA x 1 = fop .sub .f64 (cn .f64 0) (phS x 1) := rfl
        have EB : phB x 1 = phC x 1 := rfl
        generalize phC x _ = C at *
        generalize phS x _ = S at *
        generalize phF x _ = P at *
        go_wp2_with (first | (with_reducible refine at_list ?_; refine wpList_fop rfl rfl rfl rfl rfl ?_; intro r n hr0; have hr := hr0 _ _ (by first | with_reducible assumption | exact rfl) (by first | with_reducible assumption | exact rfl); clear hr0) | (with_reducible refine at_list ?_; refine wpList_neg rfl rfl rfl ?_; intro r hr0; have hr := hr0 _ (by first | with_reducible assumption | exact rfl); clear hr0) | (with_reducible refine at_list ?_; refine wpList_fop_g rfl rfl rfl rfl rfl ?_; intro r n hr0; have hr := hr0 _ _ (by first | with_reducible assumption | exact rfl) (by first | with_reducible assumption | exact rfl); clear hr0) | (with_reducible refine at_list ?_; refine wpList_wide_g rfl rfl Try.underlying28 Try.underlying39 rfl ?_; intro r n hr0; have hr := hr0 _ (by first | with_reducible assumption | exact rfl); clear hr0) | (with_reducible refine at_list ?_; refine wpList_wide rfl rfl rfl Try.underlying28 Try.underlying39 ?_; intro r n hr0; have hr := hr0 _ (by first | with_reducible assumption | exact rfl); clear hr0) | (with_reducible refine at_list ?_; refine wpList_narrow rfl rfl rfl Try.underlying39 Try.underlying28 (by with_reducible assumption) (by first | exact F1.out | exact F2.out | exact F3.out | exact F4.out) ?_; intro r n hr) | (go_at_call 84; refine ((HS1.out _ _ (by with_reducible assumption)) ).mono ?_; rintro e w' ⟨r, rfl, hr, hb⟩; obtain ⟨hT, hk⟩ := bv_next hb (by (repeat (with_reducible first | assumption | apply Trk.alloc | apply Trk.setCell | apply Trk.drewN | apply Trk.drew | exact Trk.nil _))); simp only [SameOn, World.size_alloc, World.size_setCell, World.size_drew, size_drewN', and_true] at hk; have hsz := Below.size hb; (try simp only [World.size_alloc, World.size_setCell, World.size_drew, size_drewN'] at hsz)) | (go_at_call 84; refine ((HS2.out _ _ (by with_reducible assumption)) ).mono ?_; rintro e w' ⟨r, rfl, hr, hb⟩; obtain ⟨hT, hk⟩ := bv_next hb (by (repeat (with_reducible first | assumption | apply Trk.alloc | apply Trk.setCell | apply Trk.drewN | apply Trk.drew | exact Trk.nil _))); simp only [SameOn, World.size_alloc, World.size_setCell, World.size_drew, size_drewN', and_true] at hk; have hsz := Below.size hb; (try simp only [World.size_alloc, World.size_setCell, World.size_drew, size_drewN'] at hsz)))
        go_ret
        exact ⟨_, _, rfl, by first | assumption | (rw [EA]; assumption), by first | assumption | (rw [EB]; assumption), by (repeat (first | (with_reducible exact Below.refl _ _) | (with_reducible assumption) | (with_reducible refine below_then ?_ (by assumption)) | (with_reducible refine Below.trans ?_ (by assumption)) | (with_reducible refine below_drewN ?_ _) | (with_reducible apply Below.drew) | (with_reducible refine below_alloc ?_ _) | refine Below.setCell ?_ (by first | (simp; done) | (simp; omega)) _))⟩
      · have EA : phA x 2 = fop .sub .f64 (cn .f64 0) (phC x 2) := rfl
        have EB : phB x 2 = fop .sub .f64 (cn .f64 0) (phS x 2) := rfl
        generalize phC x _ = C at *
        generalize phS x _ = S at *
        generalize phF x _ = P at *
        go_wp2_with (first | (with_reducible refine at_list ?_; refine wpList_fop rfl rfl rfl rfl rfl ?_; intro r n hr0; have hr := hr0 _ _ (by first | with_reducible assumption | exact rfl) (by first | with_reducible assumption | exact rfl); clear hr0) | (with_reducible refine at_list ?_; refine wpList_neg rfl rfl rfl ?_; intro r hr0; have hr := hr0 _ (by first | with_reducible assumption | exact rfl); clear hr0) | (with_reducible refine at_list ?_; refine wpList_fop_g rfl rfl rfl rfl rfl ?_; intro r n hr0; have hr := hr0 _ _ (by first | with_reducible assumption | exact rfl) (by first | with_reducible assumption | exact rfl); clear hr0) | (with_reducible refine at_list ?_; refine wpList_wide_g rfl rfl Try.underlying28 Try.underlying39 rfl ?_; intro r n hr0; have hr := hr0 _ (by first | with_reducible assumption | exact rfl); clear hr0) | (with_reducible refine at_list ?_; refine wpList_wide rfl rfl rfl Try.underlying28 Try.underlying39 ?_; intro r n hr0; have hr := hr0 _ (by first | with_reducible assumption | exact rfl); clear hr0) | (with_reducible refine at_list ?_; refine wpList_narrow rfl rfl rfl Try.underlying39 Try.underlying28 (by with_reducible assumption) (by first | exact F1.out | exact F2.out | exact F3.out | exact F4.out) ?_; intro r n hr) | (go_at_call 84; refine ((HS1.out _ _ (by with_reducible assumption)) ).mono ?_; rintro e w' ⟨r, rfl, hr, hb⟩; obtain ⟨hT, hk⟩ := bv_next hb (by (repeat (with_reducible first | assumption | apply Trk.alloc | apply Trk.setCell | apply Trk.drewN | apply Trk.drew | exact Trk.nil _))); simp only [SameOn, World.size_alloc, World.size_setCell, World.size_drew, size_drewN', and_true] at hk; have hsz := Below.size hb; (try simp only [World.size_alloc, World.size_setCell, World.size_drew, size_drewN'] at hsz)) | (go_at_call 84; refine ((HS2.out _ _ (by with_reducible assumption)) ).mono ?_; rintro e w' ⟨r, rfl, hr, hb⟩; obtain ⟨hT, hk⟩ := bv_next hb (by (repeat (with_reducible first | assumption | apply Trk.alloc | apply Trk.setCell | apply Trk.drewN | apply Trk.drew | exact Trk.nil _))); simp only [SameOn, World.size_alloc, World.size_setCell, World.size_drew, size_drewN', and_true] at hk; have hsz := Below.size hb; (try simp only [World.size_alloc, World.size_setCell, World.size_drew, size_drewN'] at hsz)))
        go_ret
        exact ⟨_, _, rfl, by first | assumption | (rw [EA]; assumption), by first | assumption | (rw [EB]; assumption), by (repeat (first | (with_reducible exact Below.refl _ _) | (with_reducible assumption) | (with_reducible refine below_then ?_ (by assumption)) | (with_reducible refine Below.trans ?_ (by assumption)) | (with_reducible refine below_drewN ?_ _) | (with_reducible apply Below.drew) | (with_reducible refine below_alloc ?_ _) | refine Below.setCell ?_ (by first | (simp; done) | (simp; omega)) _))⟩
      · have EA : phA x 3 = phS x 3 := rfl
        have EB : phB x 3 = fop .sub .f64 (cn .f64 0) (phC x 3) := rfl
        generalize phC x _ = C at *
        generalize phS x _ = S at *
        generalize phF x _ = P at *
        go_wp2_with (first | (with_reducible refine at_list ?_; refine wpList_fop rfl rfl rfl rfl rfl ?_; intro r n hr0; have hr := hr0 _ _ (by first | with_reducible assumption | exact rfl) (by first | with_reducible assumption | exact rfl); clear hr0) | (with_reducible refine at_list ?_; refine wpList_neg rfl rfl rfl ?_; intro r hr0; have hr := hr0 _ (by first | with_reducible assumption | exact rfl); clear hr0) | (with_reducible refine at_list ?_; refine wpList_fop_g rfl rfl rfl rfl rfl ?_; intro r n hr0; have hr := hr0 _ _ (by first | with_reducible assumption | exact rfl) (by first | with_reducible assumption | exact rfl); clear hr0) | (with_reducible refine at_list ?_; refine wpList_wide_g rfl rfl Try.underlying28 Try.underlying39 rfl ?_; intro r n hr0; have hr := hr0 _ (by first | with_reducible assumption | exact rfl); clear hr0) | (with_reducible refine at_list ?_; refine wpList_wide rfl rfl rfl Try.underlying28 Try.underlying39 ?_; intro r n hr0; have hr := hr0 _ (by first | with_reducible assumption | exact rfl); clear hr0) | (with_reducible refine at_list ?_; refine wpList_narrow rfl rfl rfl Try.underlying39 Try.underlying28 (by with_reducible assumption) (by first | exact F1.out | exact F2.out | exact F3.out | exact F4.out) ?_; intro r n hr) | (go_at_call 84; refine ((HS1.out _ _ (by with_reducible assumption)) ).mono ?_; rintro e w' ⟨r, rfl, hr, hb⟩; obtain ⟨hT, hk⟩ := bv_next hb (by (repeat (with_reducible first | assumption | apply Trk.alloc | apply Trk.setCell | apply Trk.drewN | apply Trk.drew | exact Trk.nil _))); simp only [SameOn, World.size_alloc, World.size_setCell, World.size_drew, size_drewN', and_true] at hk; have hsz := Below.size hb; (try simp only [World.size_alloc, World.size_setCell, World.size_drew, size_drewN'] at hsz)) | (go_at_call 84; refine ((HS2.out _ _ (by with_reducible assumption)) ).mono ?_; rintro e w' ⟨r, rfl, hr, hb⟩; obtain ⟨hT, hk⟩ := bv_next hb (by (repeat (with_reducible first | assumption | apply Trk.alloc | apply Trk.setCell | apply Trk.drewN | apply Trk.drew | exact Trk.nil _))); simp only [SameOn, World.size_alloc, World.size_setCell, World.size_drew, size_drewN', and_true] at hk; have hsz := Below.size hb; (try simp only [World.size_alloc, World.size_setCell, World.size_drew, size_drewN'] at hsz)))
        go_ret
        exact ⟨_, _, rfl, by first | assumption | (rw [EA]; assumption), by first | assumption | (rw [EB]; assumption), by (repeat (first | (with_reducible exact Below.refl _ _) | (with_reducible assumption) | (with_reducible refine below_then ?_ (by assumption)) | (with_reducible refine Below.trans ?_ (by assumption)) | (with_reducible refine below_drewN ?_ _) | (with_reducible apply Below.drew) | (with_reducible refine below_alloc ?_ _) | refine Below.setCell ?_ (by first | (simp; done) | (simp; omega)) _))⟩
      · have EA : phA x 4 = phC x 4 := rfl
        have EB : phB x 4 = phS x 4 := rfl
        generalize phC x _ = C at *
        generalize phS x _ = S at *
        generalize phF x _ = P at *
        go_wp2_with (first | (with_reducible refine at_list ?_; refine wpList_fop rfl rfl rfl rfl rfl ?_; intro r n hr0; have hr := hr0 _ _ (by first | with_reducible assumption | exact rfl) (by first | with_reducible assumption | exact rfl); clear hr0) | (with_reducible refine at_list ?_; refine wpList_neg rfl rfl rfl ?_; intro r hr0; have hr := hr0 _ (by first | with_reducible assumption | exact rfl); clear hr0) | (with_reducible refine at_list ?_; refine wpList_fop_g rfl rfl rfl rfl rfl ?_; intro r n hr0; have hr := hr0 _ _ (by first | with_reducible assumption | exact rfl) (by first | with_reducible assumption | exact rfl); clear hr0) | (with_reducible refine at_list ?_; refine wpList_wide_g rfl rfl Try.underlying28 Try.underlying39 rfl ?_; intro r n hr0; have hr := hr0 _ (by first | with_reducible assumption | exact rfl); clear hr0) | (with_reducible refine at_list ?_; refine wpList_wide rfl rfl rfl Try.underlying28 Try.underlying39 ?_; intro r n hr0; have hr := hr0 _ (by first | with_reducible assumption | exact rfl); clear hr0) | (with_reducible refine at_list ?_; refine wpList_narrow rfl rfl rfl Try.underlying39 Try.underlying28 (by with_reducible assumption) (by first | exact F1.out | exact F2.out | exact F3.out | exact F4.out) ?_; intro r n hr) | (go_at_call 84; refine ((HS1.out _ _ (by with_reducible assumption)) ).mono ?_; rintro e w' ⟨r, rfl, hr, hb⟩; obtain ⟨hT, hk⟩ := bv_next hb (by (repeat (with_reducible first | assumption | apply Trk.alloc | apply Trk.setCell | apply Trk.drewN | apply Trk.drew | exact Trk.nil _))); simp only [SameOn, World.size_alloc, World.size_setCell, World.size_drew, size_drewN', and_true] at hk; have hsz := Below.size hb; (try simp only [World.size_alloc, World.size_setCell, World.size_drew, size_drewN'] at hsz)) | (go_at_call 84; refine ((HS2.out _ _ (by with_reducible assumption)) ).mono ?_; rintro e w' ⟨r, rfl, hr, hb⟩; obtain ⟨hT, hk⟩ := bv_next hb (by (repeat (with_reducible first | assumption | apply Trk.alloc | apply Trk.setCell | apply Trk.drewN | apply Trk.drew | exact Trk.nil _))); simp only [SameOn, World.size_alloc, World.size_setCell, World.size_drew, size_drewN', and_true] at hk; have hsz := Below.size hb; (try simp only [World.size_alloc, World.size_setCell, World.size_drew, size_drewN'] at hsz)))
        go_ret
        exact ⟨_, _, rfl, by first | assumption | (rw [EA]; assumption), by first | assumption | (rw [EB]; assumption), by (repeat (first | (with_reducible exact Below.refl _ _) | (with_reducible assumption) | (with_reducible refine below_then ?_ (by assumption)) | (with_reducible refine Below.trans ?_ (by assumption)) | (with_reducible refine below_drewN ?_ _) | (with_reducible apply Below.drew) | (with_reducible refine below_alloc ?_ _) | refine Below.setCell ?_ (by first | (simp; done) | (simp; omega)) _))⟩
end Go.Proofs.Ytpnkapdemgieaaa
set_option linter.unusedSimpArgs false
set_option linter.unusedVariables false
set_option linter.unusedSectionVars false
namespace Go.Proofs.Ytpnkapdemgieaaa
open Go Go.RowKit
theorem run_sqrt (x : Nat) (w : World) : ∃ r n, (callFunc 86 #[.float .f64 x]).run Try.prog w = .ok (.value (.float .f64 r)) (w.drewN n) ∧ cn .f64 r = sqC (cn .f64 x) := by
  have h := run_callFunc_extern (P := Try.prog) (e := Extern.MathSqrt.sqrt) Try.func86 (by kernel_rfl) (by kernel_rfl) (by kernel_rfl) (by kernel_rfl) #[.float .f64 x] w
  have hq : Extern.MathSqrt.sqrt #[.float .f64 x] = (match FloatKind.f64.format.sqrt x with | some r => pure (.float .f64 r) | none => do pure (.float .f64 (← choose (.nanBits .f64 x x)))) := rfl
  rw [h, sqC_cn, hq]
  unfold sqC
  cases hs : FloatKind.f64.format.sqrt x with
  | some r =>
    refine ⟨r, 0, ?_, ?_⟩
    · simp [hs, Result.andThen]; rfl
    · exact cn_of_not (map_write_not_nan (fun _ => root_not_nan) hs)
  | none =>
    have hf : (Question.nanBits .f64 x x).forced = false := rfl
    refine ⟨(Question.nanBits .f64 x x).cut (w.tape w.drawn (.nanBits .f64 x x)), 1, ?_, ?_⟩
    · simp [hs, hf, World.drew_is_drewN, Result.andThen]
    · rw [cn_of_isN (isN_nanBits _ _ _ _)]; rfl
theorem wpList_sqrt {w : World} {ops : Array Oper} {rest : List Oper} {o : Oper} {a : Act} {Q : Exit → Act → World → Prop} (hg : o.guard = none) {X : Operand} {T : TypeId}
    (ho : o.op = .call { callee := .value (.func 86), args := #[X], argTypes := #[T] }) {x : Nat} (hx : a.eval X = .float .f64 x)
    (h : ∀ r n, (∀ cx, cn .f64 x = cx → cn .f64 r = sqC cx) → wpList Try.prog ops Q rest (a.put o.dst (.float .f64 r)) (w.drewN n)) : wpList Try.prog ops Q (o :: rest) a w := by
  obtain ⟨r, n, h1, h2⟩ := run_sqrt x w
  refine wpList_plain hg fun K hK => ?_
  have he : (execOp a.eval o).run Try.prog w = .ok (.value (.float .f64 r)) (w.drewN n) := by
    unfold execOp
    simp only [ho, resolve, invoke, Sem.run_bind, Sem.run_pure, Result.andThen_ok, List.map_toArray, List.map_cons, List.map_nil, hx, h1]
    have ef : a.eval (.func 86) = .func (.func 86) #[] #[] := rfl
    rw [ef]
    simp [Deferred.ofValue, h1, Result.andThen]
  unfold Oper.wp
  rw [he]
  exact hK _ _ (h r n (by rintro cx rfl; exact h2))
end Go.Proofs.Ytpnkapdemgieaaa

/-
  Drawn rods: their heat, exactly; how great a rod is; the law's comparisons of heats. No condition but what each law says; nothing of the program is named here.
  Drawn rods: a short tick keeps their heat. No condition but what each law says; nothing of the program is named here.
  Drawn rods: a tick by rows, of any length; how near the warmths are. No condition but what each law says; nothing of the program is named here.
  slices.Repeat of one number. No condition but what each contract says.
  Rods that are as warm everywhere: the program's way and the reference's. No condition but what each contract says.
  The mean warmth of a rod, how much it hinders heat (the program's), what passes at an end: the program's and the reference's. No condition but what each contract says.
-/
import Derived.Test.YtpnkapdemgieaaaQM8
import Derived.Test.YtpnkapdemgieaaaQM5
import Derived.Test.YtpnkapdemgieaaaQM3
import Derived.Laws.CopyOwn
import Derived.Laws.Bits64b
import Derived.Deep.Upon
import Derived.Test.YtpnkapdemgieaaaQM4
import Derived.Test.YtpnkapdemgieaaaQM6
set_option linter.unusedSimpArgs false
set_option linter.unusedVariables false
set_option linter.unusedSectionVars false
namespace Go.Proofs.Ytpnkapdemgieaaa
open Go Go.RowKit
/-- A drawn rod. -/
structure DR (P : Rd) (n : Nat) (A C T : Nat → Int) : Prop where
  g : GR P n A C 8
  t : ∀ i, i < n → V .f32 (cn .f32 (P.d.getD i 0)) ((T i : Rat) / 2) ∧ -16 ≤ T i ∧ T i ≤ 16
def sumZ (f : Nat → Int) : Nat → Int
  | 0 => 0
  | k + 1 => sumZ f k + f k
theorem sumZ_bd {f : Nat → Int} {B : Int} : ∀ k, (∀ i, i < k → -B ≤ f i ∧ f i ≤ B) → -(k * B) ≤ sumZ f k ∧ sumZ f k ≤ k * B
  | 0, _ => by simp [sumZ]
  | k + 1, h => by
    obtain ⟨a, b⟩ := sumZ_bd k (fun i hi => h i (by omega))
    obtain ⟨c, d⟩ := h k (by omega)
    have e : ((k + 1 : Nat) : Int) * B = k * B + B := by rw [Int.natCast_add, Int.add_mul]; simp
    simp only [sumZ]
    rw [e]
    exact ⟨by omega, by omega⟩
theorem act_bd {a c t : Int} (h1 : 1 ≤ a ∧ a ≤ 8) (h2 : 1 ≤ c ∧ c ≤ 8) (h3 : -16 ≤ t ∧ t ≤ 16) : (1 ≤ a * c ∧ a * c ≤ 64) ∧ -1024 ≤ a * c * t ∧ a * c * t ≤ 1024 := by
  have m1 : 1 * 1 ≤ a * c := Int.mul_le_mul h1.1 h2.1 (by omega) (by omega)
  have m2 : a * c ≤ 8 * 8 := Int.mul_le_mul h1.2 h2.2 (by omega) (by omega)
  have m3 : a * c * t ≤ 64 * 16 := by
    by_cases ht : 0 ≤ t
    · exact Int.mul_le_mul (by omega) (by omega) ht (by omega)
    · have := Int.mul_nonneg (show 0 ≤ a * c by omega) (show 0 ≤ -t by omega)
      rw [Int.mul_neg] at this; omega
  have m4 : a * c * (-t) ≤ 64 * 16 := by
    by_cases ht : 0 ≤ -t
    · exact Int.mul_le_mul (by omega) (by omega) ht (by omega)
    · have := Int.mul_nonneg (show 0 ≤ a * c by omega) (show 0 ≤ t by omega)
      rw [Int.mul_neg]; omega
  rw [Int.mul_neg] at m4
  exact ⟨⟨by omega, by omega⟩, by omega, by omega⟩
theorem tp_m5 : tp (-5) * 32 = 1 := by
  have h : tp (-5) * tp 5 = 1 := by rw [← tp_add]; exact tp_zero
  rwa [show tp 5 = 32 from (tp_nat 5).trans rfl] at h
theorem rep32 {z : Int} (h : z.natAbs < 16777216) : Rep .f32 ((z : Rat) / 32) := rep_at (k := .f32) z (-5) (by show z.natAbs < 2 ^ (23 + 1); omega) (by decide) (by decide) (by have := tp_m5; grind)
theorem rep32d {z : Int} (h : z.natAbs < 16777216) : Rep .f64 ((z : Rat) / 32) := rep64 z (-5) (by omega) (by decide) (by decide) (by have := tp_m5; grind)
section
variable {P : Rd} {n : Nat} {A C T : Nat → Int}
theorem DR.b (h : DR P n A C T) {i : Nat} (hi : i < n) : (1 ≤ A i * C i ∧ A i * C i ≤ 64) ∧ -1024 ≤ A i * C i * T i ∧ A i * C i * T i ≤ 1024 := act_bd (h.g.a i hi).2 (h.g.c i hi).2 (h.t i hi).2
theorem DR.x (h : DR P n A C T) {i : Nat} (hi : i < n) : xR P i = (T i : Rat) / 2 := (h.t i hi).1.2
/-- The heat, exactly. -/
theorem DR.heat (h : DR P n A C T) : ∀ k, k ≤ n → V .f32 (heatK P k) (((sumZ (fun i => A i * C i * T i) k : Int) : Rat) / 32) ∧ hR P A C k = ((sumZ (fun i => A i * C i * T i) k : Int) : Rat) / 8
  | 0, _ => by
    refine ⟨V0.eq ?_, ?_⟩
    · show (0 : Rat) = ((0 : Int) : Rat) / 32
      have e : ((0 : Int) : Rat) = 0 := rfl
      rw [e]; grind
    · show (0 : Rat) = ((0 : Int) : Rat) / 8
      have e : ((0 : Int) : Rat) = 0 := rfl
      rw [e]; grind
  | k + 1, hk => by
    obtain ⟨a, b⟩ := h.heat k (by omega)
    have hn := h.g.hn
    obtain ⟨⟨c1, c2⟩, c3, c4⟩ := h.b (i := k) (by omega)
    obtain ⟨vd, _⟩ := h.t k (by omega)
    have vm := h.g.mass (i := k) (by omega)
    obtain ⟨s1, s2⟩ := sumZ_bd (f := fun i => A i * C i * T i) (B := 1024) k (fun i hi => (h.b (i := i) (by omega)).2)
    have kb : (k : Int) * 1024 ≤ 5 * 1024 := Int.mul_le_mul_of_nonneg_right (by omega) (by decide)
    have es : sumZ (fun i => A i * C i * T i) (k + 1) = sumZ (fun i => A i * C i * T i) k + A k * C k * T k := rfl
    have e1 : ex .mul (((A k * C k : Int) : Rat) / 16) ((T k : Rat) / 2) = ((A k * C k * T k : Int) : Rat) / 32 := by simp only [ex]; rw [Rat.intCast_mul (A k * C k) (T k)]; grind
    have Q := V.op .mul rfl vm vd (by simp) (by rw [e1]; exact rep32 (by omega))
    rw [e1] at Q
    have e2 : ex .add (((sumZ (fun i => A i * C i * T i) k : Int) : Rat) / 32) (((A k * C k * T k : Int) : Rat) / 32) = ((sumZ (fun i => A i * C i * T i) (k + 1) : Int) : Rat) / 32 := by simp only [ex]; rw [es, Rat.intCast_add]; grind
    have R := V.op .add rfl a Q (by simp) (by rw [e2]; exact rep32 (by rw [es]; omega))
    rw [e2] at R
    refine ⟨R, ?_⟩
    show hR P A C k + wR A C k * xR P k = _
    rw [b, h.x (i := k) (by omega), es, Rat.intCast_add, Rat.intCast_mul (A k * C k) (T k)]
    unfold wR
    grind
/-- How great a rod is, as the law draws it. -/
def szW (P : Rd) : Nat → Nat
  | 0 => cn .f64 4607182418800017408
  | k + 1 => fop .add .f64 (szW P k) (fop .mul .f64 (fop .mul .f64 (wide (cn .f32 (P.a.getD k 0))) (wide (cn .f32 (P.c.getD k 0)))) (gap8 (wide (cn .f32 (P.d.getD k 0))) (cn .f64 0)))
theorem Vone : V .f64 (cn .f64 4607182418800017408) 1 := ⟨by decide +kernel, by decide +kernel⟩
theorem Vnil : V .f64 (cn .f64 0) 0 := ⟨by decide +kernel, by decide +kernel⟩
theorem wide_v {x : Nat} {q : Rat} (h : V .f32 x q) : V .f64 (wide x) q := by
  obtain ⟨a, b⟩ := wide_val h.1
  exact ⟨a, by rw [b, h.2]⟩
/-- The amount of a small number. -/
theorem gap_abs {x : Nat} {t : Int} (h : V .f32 x ((t : Rat) / 2)) (ht : -16 ≤ t ∧ t ≤ 16) : gapOk (wide x) (cn .f64 0) ∧ V .f64 (gap8 (wide x) (cn .f64 0)) (((t.natAbs : Int) : Rat) / 2) := by
  have w := wide_v h
  have r : ∀ z : Int, z.natAbs ≤ 16 → Rep .f64 ((z : Rat) / 2) := fun z hz => rep64 z (-1) (by omega) (by decide) (by decide) (by have := tp_n1; grind)
  have e1 : ex .sub ((t : Rat) / 2) 0 = (t : Rat) / 2 := by simp only [ex]; grind
  have e2 : ex .sub 0 ((t : Rat) / 2) = ((-t : Int) : Rat) / 2 := by simp only [ex]; rw [Rat.intCast_neg]; grind
  have a := V.op .sub rfl w Vnil (by simp) (by rw [e1]; exact r t (by omega))
  have b := V.op .sub rfl Vnil w (by simp) (by rw [e2]; exact r (-t) (by omega))
  rw [e1] at a
  rw [e2] at b
  refine ⟨⟨a.1, b.1⟩, ?_⟩
  obtain ⟨g1, g2, g3, g4⟩ := fmax64_val a.1 b.1
  refine ⟨g1, ?_⟩
  show fv .f64 (fmax64 _ _) = _
  have g5 : fv .f64 (fmax64 (fop .sub .f64 (wide x) (cn .f64 0)) (fop .sub .f64 (cn .f64 0) (wide x))) = (t : Rat) / 2 ∨ fv .f64 (fmax64 (fop .sub .f64 (wide x) (cn .f64 0)) (fop .sub .f64 (cn .f64 0) (wide x))) = -(t : Rat) / 2 := by
    rcases g4 with e | e
    · left; rw [e]; exact a.2
    · right; rw [e, b.2, Rat.intCast_neg]
  rw [a.2] at g2
  rw [b.2, Rat.intCast_neg] at g3
  clear g4
  generalize fv .f64 (fmax64 (fop .sub .f64 (wide x) (cn .f64 0)) (fop .sub .f64 (cn .f64 0) (wide x))) = F at *
  by_cases h0 : 0 ≤ t
  · have e : (t.natAbs : Int) = t := by omega
    have h1 : ((0 : Int) : Rat) ≤ (t : Rat) := icast_le h0
    have z : ((0 : Int) : Rat) = 0 := rfl
    rw [z] at h1
    rw [e]
    rcases g5 with g5 | g5 <;> grind
  · have e : (t.natAbs : Int) = -t := by omega
    have h1 : (t : Rat) ≤ ((0 : Int) : Rat) := icast_le (by omega)
    have z : ((0 : Int) : Rat) = 0 := rfl
    rw [z] at h1
    rw [e, Rat.intCast_neg]
    rcases g5 with g5 | g5 <;> grind
theorem DR.size (h : DR P n A C T) : ∀ k, k ≤ n → V .f64 (szW P k) (1 + ((sumZ (fun i => A i * C i * ((T i).natAbs : Int)) k : Int) : Rat) / 32) ∧ 0 ≤ sumZ (fun i => A i * C i * ((T i).natAbs : Int)) k ∧ sumZ (fun i => A i * C i * ((T i).natAbs : Int)) k ≤ k * 1024
  | 0, _ => by
    refine ⟨Vone.eq ?_, by simp [sumZ], by simp [sumZ]⟩
    show (1 : Rat) = 1 + ((0 : Int) : Rat) / 32
    have e : ((0 : Int) : Rat) = 0 := rfl
    rw [e]; grind
  | k + 1, hk => by
    obtain ⟨a, b, c⟩ := h.size k (by omega)
    have hn := h.g.hn
    obtain ⟨⟨c1, c2⟩, _⟩ := h.b (i := k) (by omega)
    obtain ⟨va, ka⟩ := h.g.a k (by omega)
    obtain ⟨vc, kc⟩ := h.g.c k (by omega)
    obtain ⟨vd, kd⟩ := h.t k (by omega)
    obtain ⟨_, vg⟩ := gap_abs vd kd
    have n0 : 0 ≤ A k * C k * ((T k).natAbs : Int) := Int.mul_nonneg (by omega) (by omega)
    have n1 : A k * C k * ((T k).natAbs : Int) ≤ 64 * 16 := Int.mul_le_mul c2 (by omega) (by omega) (by omega)
    have es : sumZ (fun i => A i * C i * ((T i).natAbs : Int)) (k + 1) = sumZ (fun i => A i * C i * ((T i).natAbs : Int)) k + A k * C k * ((T k).natAbs : Int) := rfl
    have e1 : ex .mul ((A k : Rat) / 4) ((C k : Rat) / 4) = ((A k * C k : Int) : Rat) / 16 := by simp only [ex]; rw [Rat.intCast_mul]; grind
    have Q := V.op .mul rfl (wide_v va) (wide_v vc) (by simp) (by rw [e1]; exact rep64 (A k * C k) (-4) (by omega) (by decide) (by decide) (by have := tp_m4; grind))
    rw [e1] at Q
    have e2 : ex .mul (((A k * C k : Int) : Rat) / 16) ((((T k).natAbs : Int) : Rat) / 2) = ((A k * C k * ((T k).natAbs : Int) : Int) : Rat) / 32 := by simp only [ex]; rw [Rat.intCast_mul (A k * C k)]; grind
    have R := V.op .mul rfl Q vg (by simp) (by rw [e2]; exact rep32d (by omega))
    rw [e2] at R
    have k5 : (k : Int) * 1024 ≤ 5 * 1024 := Int.mul_le_mul_of_nonneg_right (by omega) (by decide)
    have e3 : ex .add (1 + ((sumZ (fun i => A i * C i * ((T i).natAbs : Int)) k : Int) : Rat) / 32) (((A k * C k * ((T k).natAbs : Int) : Int) : Rat) / 32) = ((32 + sumZ (fun i => A i * C i * ((T i).natAbs : Int)) (k + 1) : Int) : Rat) / 32 := by
      simp only [ex]; rw [es, Rat.intCast_add 32, Rat.intCast_add]
      have e : ((32 : Int) : Rat) = 32 := rfl
      rw [e]; grind
    have S := V.op .add rfl a R (by simp) (by rw [e3]; exact rep32d (by rw [es]; omega))
    rw [e3] at S
    refine ⟨S.eq ?_, by rw [es]; omega, ?_⟩
    · rw [Rat.intCast_add 32]
      have e : ((32 : Int) : Rat) = 32 := rfl
      rw [e]; grind
    · have e : ((k + 1 : Nat) : Int) * 1024 = k * 1024 + 1024 := by rw [Int.natCast_add, Int.add_mul]; simp
      rw [es, e]; omega
/-- A bound of the warmths that is told by the size. -/
theorem DR.bound (h : DR P n A C T) : ∀ k, k ≤ n → ∃ M : Rat, (1 / 1024 ≤ M ∧ M ≤ 8) ∧ (∀ i, i < k → xR P i ≤ M ∧ -xR P i ≤ M) ∧ M - 1 / 1024 ≤ 16 * (((sumZ (fun i => A i * C i * ((T i).natAbs : Int)) k : Int) : Rat) / 32)
  | 0, _ => ⟨1 / 1024, ⟨Rat.le_refl, by grind⟩, fun i hi => by omega, by
    have e : ((sumZ (fun i => A i * C i * ((T i).natAbs : Int)) 0 : Int) : Rat) = 0 := rfl
    rw [e]; grind⟩
  | k + 1, hk => by
    obtain ⟨M, ⟨m1, m2⟩, m3, m4⟩ := h.bound k (by omega)
    obtain ⟨_, s0, _⟩ := h.size k (by omega)
    obtain ⟨⟨c1, c2⟩, _⟩ := h.b (i := k) (by omega)
    obtain ⟨vd, k1, k2⟩ := h.t k (by omega)
    have hx := h.x (i := k) (by omega)
    have es : sumZ (fun i => A i * C i * ((T i).natAbs : Int)) (k + 1) = sumZ (fun i => A i * C i * ((T i).natAbs : Int)) k + A k * C k * ((T k).natAbs : Int) := rfl
    have n0 : 1 * ((T k).natAbs : Int) ≤ A k * C k * ((T k).natAbs : Int) := Int.mul_le_mul_of_nonneg_right c1 (by omega)
    have g1 := icast_le (show ((T k).natAbs : Int) ≤ A k * C k * ((T k).natAbs : Int) by omega)
    have g0 := icast_le (show (0 : Int) ≤ ((T k).natAbs : Int) by omega)
    have z : ((0 : Int) : Rat) = 0 := rfl
    rw [z] at g0
    have s0' := icast_le s0
    rw [z] at s0'
    have t1 := icast_le (show T k ≤ ((T k).natAbs : Int) by omega)
    have t2 := icast_le (show -T k ≤ ((T k).natAbs : Int) by omega)
    rw [Rat.intCast_neg] at t2
    have t3 := icast_le (show ((T k).natAbs : Int) ≤ (16 : Int) by omega)
    have e16 : ((16 : Int) : Rat) = 16 := rfl
    rw [e16] at t3
    rw [es, Rat.intCast_add]
    by_cases hle : (((T k).natAbs : Int) : Rat) / 2 ≤ M
    · refine ⟨M, ⟨m1, m2⟩, fun i hi => ?_, by grind⟩
      by_cases he : i = k
      · subst he; rw [hx]; exact ⟨by grind, by grind⟩
      · exact m3 i (by omega)
    · refine ⟨(((T k).natAbs : Int) : Rat) / 2, ⟨by grind, by grind⟩, fun i hi => ?_, by grind⟩
      by_cases he : i = k
      · subst he; rw [hx]; exact ⟨by grind, by grind⟩
      · have := m3 i (by omega); exact ⟨by grind, by grind⟩
theorem cTho_b : fnt .f64 cTho = true ∧ 999 / 1000000 ≤ fv .f64 cTho ∧ fv .f64 cTho ≤ 1 := by
  have h1 : fnt .f64 cTho = true := by decide +kernel
  have h2 : (999 : Rat) / 1000000 ≤ fv .f64 cTho := by decide +kernel
  have h3 : fv .f64 cTho ≤ 1 := by decide +kernel
  exact ⟨h1, h2, h3⟩
/-- What the law allows is not less. -/
theorem tol_ge {S : Nat} {s c : Rat} (hS : V .f64 S s) (h1 : 1 ≤ s) (h2 : s ≤ 1000) (hc : Rep .f64 c) (h : c ≤ 999 / 1000000 * s) : fnt .f64 (fop .mul .f64 cTho S) = true ∧ c ≤ fv .f64 (fop .mul .f64 cTho S) := by
  obtain ⟨t0, t1, t2⟩ := cTho_b
  have k1 := Rat.mul_le_mul_of_nonneg_right t1 (show 0 ≤ s by grind)
  have k2 := Rat.mul_le_mul_of_nonneg_right t2 (show 0 ≤ s by grind)
  have r : Rep .f64 (1000 : Rat) := Rep.int (k := .f64) 1000 (by decide)
  obtain ⟨a, b, _⟩ := fop_btw .mul rfl .f64 t0 hS.1 (by simp) hc r (by simp only [ex]; rw [hS.2]; grind) (by simp only [ex]; rw [hS.2]; grind)
  exact ⟨a, b⟩
theorem gap_within {x y S : Nat} {s c : Rat} (hx : fnt .f32 x = true) (hy : fnt .f32 y = true) (h1 : fv .f32 x - fv .f32 y ≤ c) (h2 : fv .f32 y - fv .f32 x ≤ c) (hS : V .f64 S s) (s1 : 1 ≤ s) (s2 : s ≤ 1000) (hc : Rep .f64 c) (h : c ≤ 999 / 1000000 * s) :
    gapOk (wide x) (wide y) ∧ fgt .f64 (gap8 (wide x) (wide y)) (fop .mul .f64 cTho S) = false := by
  obtain ⟨x0, x1⟩ := wide_val hx
  obtain ⟨y0, y1⟩ := wide_val hy
  obtain ⟨g, b0, b1, b2⟩ := gap8_le x0 y0 hc (by rw [x1, y1]; exact h1) (by rw [x1, y1]; exact h2)
  obtain ⟨t0, t1⟩ := tol_ge hS s1 s2 hc h
  refine ⟨g, ?_⟩
  rw [fgtv b0 t0]
  exact decide_eq_false (by grind)
theorem tp_m15 : tp (-15) * 32768 = 1 := by
  have h : tp (-15) * tp 15 = 1 := by rw [← tp_add]; exact tp_zero
  rwa [show tp 15 = 32768 from (tp_nat 15).trans rfl] at h
theorem rep_c (z : Int) (h : z.natAbs < 16777216) : Rep .f64 ((z : Rat) / 32768) := rep64 z (-15) (by omega) (by decide) (by decide) (by have := tp_m15; grind)
end
end Go.Proofs.Ytpnkapdemgieaaa
set_option linter.unusedSimpArgs false
set_option linter.unusedVariables false
set_option linter.unusedSectionVars false
namespace Go.Proofs.Ytpnkapdemgieaaa
open Go Go.RowKit
theorem V64th : V .f32 (cn .f32 1015021568) ((1 : Rat) / 64) := ⟨by decide +kernel, by decide +kernel⟩
section
variable {P : Rd} {n : Nat} {A C : Nat → Int} {M : Rat} {E G : EndT}
theorem seq_bd (h : GR P n A C M) (hE : GE E M) (hG : GE G M) {i : Nat} (hi : i ≤ n + 1) : fnt .f32 (seqW P.d E.t G.t i) = true ∧ fv .f32 (seqW P.d E.t G.t i) ≤ M ∧ -fv .f32 (seqW P.d E.t G.t i) ≤ M := by
  cases i with
  | zero => exact hE.t
  | succ i =>
    show fnt .f32 (if i < P.d.length then cn .f32 (P.d.getD i 0) else cn .f32 G.t) = true ∧ _ ∧ _
    show fnt .f32 (if i < P.d.length then cn .f32 (P.d.getD i 0) else cn .f32 G.t) = true ∧ fv .f32 (if i < P.d.length then cn .f32 (P.d.getD i 0) else cn .f32 G.t) ≤ M ∧ -fv .f32 (if i < P.d.length then cn .f32 (P.d.getD i 0) else cn .f32 G.t) ≤ M
    rw [h.ld]
    by_cases hl : i < n
    · rw [if_pos hl]; exact h.d i hl
    · rw [if_neg hl]; exact hG.t
theorem fAt_eq (P : Rd) (E G : EndT) {i : Nat} (hi : i ≤ P.a.length) : fAt P E G i = fop .mul .f32 (pG P E G i) (fop .sub .f32 (seqW P.d E.t G.t i) (seqW P.d E.t G.t (i + 1))) := by
  unfold fAt flowR flowL
  rw [List.getD_eq_getElem?_getD, List.getElem?_map, List.getElem?_range (by omega)]; rfl
theorem GR.flow (h : GR P n A C M) (hM : 1 / 1024 ≤ M ∧ M ≤ 1000) (hE : GE E M) (hG : GE G M) {i : Nat} (hi : i ≤ n) {B : Rat} (hB : 0 ≤ B ∧ B ≤ 16) (hp : pR P E G i ≤ B) : fnt .f32 (fAt P E G i) = true ∧ fv .f32 (fAt P E G i) ≤ 2 * B * M + M / 1000 ∧ -fv .f32 (fAt P E G i) ≤ 2 * B * M + M / 1000 := by
  have u0 : 0 < uu := by unfold uu; decide +kernel
  have u1 : 16700000 * uu = 1 := by unfold uu; decide +kernel
  have u2 : 16700000 * (M * uu) = M := by grind
  obtain ⟨a0, a1, a2⟩ := seq_bd h hE hG (i := i) (by omega)
  obtain ⟨b0, b1, b2⟩ := seq_bd h hE hG (i := i + 1) (by omega)
  obtain ⟨vp, p0, _⟩ := h.p hE hG hi
  rw [fAt_eq P E G (by rw [h.la]; exact hi)]
  obtain ⟨c0, c1, c2⟩ := fop_u .sub rfl a0 b0 (by simp) (M := 2 * M) (by grind) (by grind) (by simp only [ex]; grind) (by simp only [ex]; grind)
  simp only [ex] at c1 c2
  generalize fop .sub .f32 (seqW P.d E.t G.t i) (seqW P.d E.t G.t (i + 1)) = d at *
  have k := mul_bd (a := B) (b := 2 * M + 2 * (M * uu)) (x := pR P E G i) (y := fv .f32 d) (by grind) hp (by grind) (by grind)
  have k2 := Rat.mul_le_mul_of_nonneg_right hB.2 (show 0 ≤ M * uu by grind)
  have k3 := Rat.mul_le_mul_of_nonneg_right hB.2 (show 0 ≤ M by grind)
  have k4 := Rat.mul_nonneg hB.1 (show 0 ≤ M by grind)
  obtain ⟨e0, e1, e2⟩ := fop_u .mul rfl vp.1 c0 (by simp) (M := 33 * M) (by grind) (by grind) (by simp only [ex]; rw [vp.2]; grind) (by simp only [ex]; rw [vp.2]; grind)
  simp only [ex] at e1 e2
  rw [vp.2] at e1 e2
  exact ⟨e0, by grind, by grind⟩
theorem GR.flowOk (h : GR P n A C M) (hM : 1 / 1024 ≤ M ∧ M ≤ 1000) (hE : GE E M) (hG : GE G M) : flowOk P E G = true := by
  have hn := h.hn
  unfold Go.Proofs.Ytpnkapdemgieaaa.flowOk flowFin
  rw [h.passOk hE hG]
  have : (flowR P E G).any (fun x => !fin .f32 x) = false := by
    rw [List.any_eq_false]
    intro x hx
    obtain ⟨i, hi, rfl⟩ := mem_getD hx
    rw [flowR_len, h.la] at hi
    have := (h.flow hM hE hG (i := i) (by omega) (B := 16) ⟨by decide, by decide⟩ (h.p hE hG (i := i) (by omega)).2.2).1
    have e : (flowR P E G).getD i 0 = fAt P E G i := rfl
    rw [e, fin_of_fnt this]; simp
  rw [this]; rfl
theorem stepL_at {P : Rd} {f : Nat → Nat} {t k i : Nat} (h : i < k) : (stepL P f t k).getD i 0 = stepB P f t i := by
  unfold stepL
  rw [List.getD_eq_getElem?_getD, List.getElem?_map, List.getElem?_range h]; rfl
theorem cn_stepB (P : Rd) (f : Nat → Nat) (t i : Nat) : cn .f32 (stepB P f t i) = stepB P f t i := cn_fop _ _ _ _
theorem quu {Q : Rat} (h : Q ≤ 67) : (8 + Q + Q * uu) * uu ≤ 1 / 1000 ∧ Q * uu ≤ 1 / 1000 := by
  unfold uu
  exact ⟨by grind, by grind⟩
/-- A cell, a short tick later. -/
theorem GR.cell (h : GR P n A C 8) (hE : GE E 8) (hG : GE G 8) {i : Nat} (hi : i < n) (h1 : pR P E G i ≤ 8) (h2 : pR P E G (i + 1) ≤ 8) :
    fnt .f32 (stepB P (fAt P E G) 1015021568 i) = true ∧ (fv .f32 (stepB P (fAt P E G) 1015021568 i) ≤ 80 ∧ -fv .f32 (stepB P (fAt P E G) 1015021568 i) ≤ 80) ∧
    (wR A C i * fv .f32 (stepB P (fAt P E G) 1015021568 i) ≤ 148 ∧ -(wR A C i * fv .f32 (stepB P (fAt P E G) 1015021568 i)) ≤ 148) ∧
    wR A C i * (fv .f32 (stepB P (fAt P E G) 1015021568 i) - xR P i) - (fv .f32 (fAt P E G i) - fv .f32 (fAt P E G (i + 1))) / 16 ≤ 210 * uu ∧ (fv .f32 (fAt P E G i) - fv .f32 (fAt P E G (i + 1))) / 16 - wR A C i * (fv .f32 (stepB P (fAt P E G) 1015021568 i) - xR P i) ≤ 210 * uu := by
  have u0 : 0 < uu := by unfold uu; decide +kernel
  have u1 : 16700000 * uu = 1 := by unfold uu; decide +kernel
  obtain ⟨a0, a1, a2⟩ := h.flow ⟨by grind, by grind⟩ hE hG (i := i) (by omega) (B := 8) ⟨by decide, by decide⟩ h1
  obtain ⟨b0, b1, b2⟩ := h.flow ⟨by grind, by grind⟩ hE hG (i := i + 1) (by omega) (B := 8) ⟨by decide, by decide⟩ h2
  obtain ⟨d0, d1, d2⟩ := h.d i hi
  have vm := h.mass hi
  obtain ⟨w1, w2⟩ := h.wb hi
  unfold stepB
  have ew : ((A i * C i : Int) : Rat) / 16 = wR A C i / 4 := by unfold wR; grind
  rw [ew] at vm
  have ex0 : fv .f32 (cn .f32 (P.d.getD i 0)) = xR P i := rfl
  rw [ex0] at d1 d2
  generalize fAt P E G i = f at *
  generalize fAt P E G (i + 1) = g at *
  obtain ⟨s0, s1, s2⟩ := fop_u .sub rfl a0 b0 (by simp) (M := 257) (by grind) (by grind) (by simp only [ex]; grind) (by simp only [ex]; grind)
  simp only [ex] at s1 s2
  generalize fop .sub .f32 f g = s at *
  obtain ⟨t0, t1, t2⟩ := fop_u .mul rfl V64th.1 s0 (by simp) (M := 41 / 10) (by grind) (by grind) (by simp only [ex]; rw [V64th.2]; grind) (by simp only [ex]; rw [V64th.2]; grind)
  simp only [ex] at t1 t2
  rw [V64th.2] at t1 t2
  generalize fop .mul .f32 (cn .f32 1015021568) s = t at *
  generalize fop .mul .f32 (cn .f32 (P.a.getD i 0)) (cn .f32 (P.c.getD i 0)) = m at *
  have mp : 0 < wR A C i / 4 := by grind
  have dv : fv .f32 t / (wR A C i / 4) * (wR A C i / 4) = fv .f32 t := Rat.div_mul_cancel (by grind)
  have dn : -(fv .f32 t / (wR A C i / 4)) * (wR A C i / 4) = -fv .f32 t := by grind
  have q1 : fv .f32 t / (wR A C i / 4) ≤ 66 := mul_cancel_le mp (by rw [dv]; grind)
  have q2 : -(fv .f32 t / (wR A C i / 4)) ≤ 66 := mul_cancel_le mp (by rw [dn]; grind)
  have ta : fv .f32 t ≤ 411 / 100 ∧ -fv .f32 t ≤ 411 / 100 := ⟨by grind, by grind⟩
  -- the amount of the quotient
  obtain ⟨Q, q0, qa, qb, qc⟩ : ∃ Q : Rat, 1 / 1000000 ≤ Q ∧ (fv .f32 t / (wR A C i / 4) ≤ Q ∧ -(fv .f32 t / (wR A C i / 4)) ≤ Q) ∧ Q ≤ 67 ∧ Q * (wR A C i / 4) ≤ 412 / 100 := by
    by_cases hs : 0 ≤ fv .f32 t / (wR A C i / 4)
    · exact ⟨fv .f32 t / (wR A C i / 4) + 1 / 1000000, by grind, ⟨by grind, by grind⟩, by grind, by grind⟩
    · exact ⟨-(fv .f32 t / (wR A C i / 4)) + 1 / 1000000, by grind, ⟨by grind, by grind⟩, by grind, by grind⟩
  obtain ⟨b10, b11, b12⟩ := fop_u .quo rfl t0 vm.1 (fun _ => by rw [vm.2]; grind) (M := Q) q0 (by grind) (by simp only [ex]; rw [vm.2]; exact qa.1) (by simp only [ex]; rw [vm.2]; exact qa.2)
  simp only [ex] at b11 b12
  rw [vm.2] at b11 b12
  generalize fop .quo .f32 t m = y at *
  generalize fv .f32 t / (wR A C i / 4) = q at *
  have c1 := Rat.mul_le_mul_of_nonneg_right b11 (Rat.le_of_lt mp)
  have c2 := Rat.mul_le_mul_of_nonneg_right b12 (Rat.le_of_lt mp)
  have c3 := Rat.mul_le_mul_of_nonneg_right qc (Rat.le_of_lt u0)
  have c4 := Rat.mul_le_mul_of_nonneg_right qb (Rat.le_of_lt u0)
  obtain ⟨e0, e1, e2⟩ := fop_u .add rfl d0 b10 (by simp) (M := 8 + Q + Q * uu) (by grind) (by grind) (by simp only [ex]; rw [ex0]; grind) (by simp only [ex]; rw [ex0]; grind)
  simp only [ex] at e1 e2
  rw [ex0] at e1 e2
  generalize fop .add .f32 (cn .f32 (P.d.getD i 0)) y = z at *
  have f1 := Rat.mul_le_mul_of_nonneg_right e1 (Rat.le_of_lt mp)
  have f2 := Rat.mul_le_mul_of_nonneg_right e2 (Rat.le_of_lt mp)
  have c5 := Rat.mul_le_mul_of_nonneg_right c3 (Rat.le_of_lt u0)
  have c6 := Rat.mul_le_mul_of_nonneg_right w2 (Rat.le_of_lt u0)
  have c7 := Rat.mul_le_mul_of_nonneg_right (show uu ≤ 1 by grind) (Rat.le_of_lt u0)
  have g1 := Rat.mul_le_mul_of_nonneg_left d1 (show 0 ≤ wR A C i by grind)
  have g2 := Rat.mul_le_mul_of_nonneg_left d2 (show 0 ≤ wR A C i by grind)
  generalize wR A C i = w at *
  generalize xR P i = x at *
  have r1 : w * (fv .f32 z - x) - (fv .f32 f - fv .f32 g) / 16 ≤ 210 * uu := by grind
  have r2 : (fv .f32 f - fv .f32 g) / 16 - w * (fv .f32 z - x) ≤ 210 * uu := by grind
  obtain ⟨m1, m2⟩ := quu (Q := Q) qb
  have ff : fv .f32 f - fv .f32 g ≤ 257 ∧ -(fv .f32 f - fv .f32 g) ≤ 257 := by clear f1 f2 g1 g2 r1 r2 e1 e2 c1 c2 c4 dv dn qa m1 m2 b11 b12; exact ⟨by grind, by grind⟩
  have q66 : fv .f32 z - (x + fv .f32 y) ≤ 1 / 1000 ∧ (x + fv .f32 y) - fv .f32 z ≤ 1 / 1000 := by clear f1 f2 g1 g2 r1 r2 c1 c2 c4 dv dn qa m2 b11 b12; exact ⟨by grind, by grind⟩
  have y66 : fv .f32 y ≤ 67 ∧ -fv .f32 y ≤ 67 := by clear f1 f2 g1 g2 r1 r2 c1 c2 c4 dv dn qa m1 e1 e2 q66; exact ⟨by grind, by grind⟩
  have a210 : 210 * uu ≤ 1 / 1000 := by clear f1 f2 g1 g2 r1 r2 c1 c2 c4 dv dn qa m1 e1 e2 q66 y66; grind
  clear f1 f2 c1 c2 c3 c4 c5 c6 c7 dv dn qa m1 m2 b11 b12 e1 e2 s1 s2 t1 t2 a1 a2 b1 b2 qb qc q0 mp vm u1
  refine ⟨e0, ⟨?_, ?_⟩, ⟨?_, ?_⟩, r1, r2⟩
  · clear r1 r2 g1 g2 ff; grind
  · clear r1 r2 g1 g2 ff; grind
  · clear q66 y66; grind
  · clear q66 y66; grind
theorem tele {f : Nat → Rat} : ∀ k, sumQ (fun i => (f i - f (i + 1)) / 16) k = (f 0 - f k) / 16
  | 0 => by simp only [sumQ]; grind
  | k + 1 => by simp only [sumQ]; rw [tele k]; grind
/-- The rod behind a short tick. -/
theorem GR.short (h : GR P n A C 8) (hE : GE E 8) (hG : GE G 8) (k1 : E.k = 1) (k2 : G.k = 1) :
    GR (stepR P E G 1015021568) n A C 80 ∧ stepOk P E G 1015021568 = true ∧ fnt .f32 (heatK (stepR P E G 1015021568) n) = true ∧ 4 * fv .f32 (heatK (stepR P E G 1015021568) n) - hR P A C n ≤ 8000 * uu ∧ hR P A C n - 4 * fv .f32 (heatK (stepR P E G 1015021568) n) ≤ 8000 * uu := by
  have u0 : 0 < uu := by unfold uu; decide +kernel
  have u1 : 16700000 * uu = 1 := by unfold uu; decide +kernel
  have hn := h.hn
  have p8 := fun i (hi : i ≤ n) => h.p8 hE hG k1 k2 hi
  have cell := fun i (hi : i < n) => h.cell hE hG hi (p8 i (by omega)) (p8 (i + 1) (by omega))
  have hl : (stepR P E G 1015021568).d.length = n := by show (stepL P (fAt P E G) 1015021568 P.d.length).length = n; rw [stepL_len, h.ld]
  have hat : ∀ i, i < n → cn .f32 ((stepR P E G 1015021568).d.getD i 0) = stepB P (fAt P E G) 1015021568 i := fun i hi => by
    show cn .f32 ((stepL P (fAt P E G) 1015021568 P.d.length).getD i 0) = _
    rw [stepL_at (by rw [h.ld]; exact hi), cn_stepB]
  have R : GR (stepR P E G 1015021568) n A C 80 := h.with (L := stepL P (fAt P E G) 1015021568 P.d.length) hl (fun i hi => by
    have := hat i hi
    have e : (stepR P E G 1015021568).d = stepL P (fAt P E G) 1015021568 P.d.length := rfl
    rw [e] at this
    rw [this]; exact ⟨(cell i hi).1, (cell i hi).2.1⟩)
  have xe : ∀ i, i < n → xR (stepR P E G 1015021568) i = fv .f32 (stepB P (fAt P E G) 1015021568 i) := fun i hi => by unfold xR; rw [hat i hi]
  have H := R.heat (B := 37) ⟨by grind, by grind⟩ (fun i hi => by rw [xe i hi]; exact ⟨by have := (cell i hi).2.2.1.1; grind, by have := (cell i hi).2.2.1.2; grind⟩) n (Nat.le_refl _)
  have S := sumQ_bd (f := fun i => wR A C i * (fv .f32 (stepB P (fAt P E G) 1015021568 i) - xR P i) - (fv .f32 (fAt P E G i) - fv .f32 (fAt P E G (i + 1))) / 16) (B := 210 * uu) n (fun i hi => ⟨(cell i hi).2.2.2.1, by have := (cell i hi).2.2.2.2; grind⟩)
  rw [sumQ_sub, tele (f := fun i => fv .f32 (fAt P E G i))] at S
  have z0 : fv .f32 (fAt P E G 0) = 0 := by
    rw [fAt_eq P E G (Nat.zero_le _), pG_zero, endV_1 k1]
    have c := (seq_bd h hE hG (i := 0) (by omega))
    have d := (seq_bd h hE hG (i := 0 + 1) (by omega))
    obtain ⟨c0, _, _⟩ := fop_u .sub rfl c.1 d.1 (by simp) (M := 16) (by grind) (by grind) (by simp only [ex]; grind) (by simp only [ex]; grind)
    have e : ex .mul (fv .f32 (cn .f32 0)) (fv .f32 (fop .sub .f32 (seqW P.d E.t G.t 0) (seqW P.d E.t G.t (0 + 1)))) = 0 := by simp only [ex]; rw [V0.2]; grind
    obtain ⟨_, g1, g2⟩ := fop_btw .mul rfl .f32 V0.1 c0 (by simp) Rp0 Rp0 (by rw [e]; exact Rat.le_refl) (by rw [e]; exact Rat.le_refl)
    exact Rat.le_antisymm g2 g1
  have zn : fv .f32 (fAt P E G n) = 0 := by
    rw [fAt_eq P E G (by rw [h.la]; exact Nat.le_refl _)]
    have c := (seq_bd h hE hG (i := n) (by omega))
    have d := (seq_bd h hE hG (i := n + 1) (by omega))
    obtain ⟨c0, _, _⟩ := fop_u .sub rfl c.1 d.1 (by simp) (M := 16) (by grind) (by grind) (by simp only [ex]; grind) (by simp only [ex]; grind)
    have hp : pG P E G n = cn .f32 0 := by rw [← h.la, pG_last (by rw [h.la]; omega), endV_1 k2]
    rw [hp]
    have e : ex .mul (fv .f32 (cn .f32 0)) (fv .f32 (fop .sub .f32 (seqW P.d E.t G.t n) (seqW P.d E.t G.t (n + 1)))) = 0 := by simp only [ex]; rw [V0.2]; grind
    obtain ⟨_, g1, g2⟩ := fop_btw .mul rfl .f32 V0.1 c0 (by simp) Rp0 Rp0 (by rw [e]; exact Rat.le_refl) (by rw [e]; exact Rat.le_refl)
    exact Rat.le_antisymm g2 g1
  rw [z0, zn] at S
  have eq : sumQ (fun i => wR A C i * (fv .f32 (stepB P (fAt P E G) 1015021568 i) - xR P i)) n = hR (stepR P E G 1015021568) A C n - hR P A C n := by
    unfold hR
    rw [← sumQ_sub]
    refine sumQ_congr n (fun i hi => ?_)
    rw [xe i hi]; grind
  rw [eq] at S
  have ok : stepOk P E G 1015021568 = true := by
    unfold stepOk stepPre
    have l : lst (cn .f32 1015021568) = true := by
      unfold lst
      rw [fin_of_fnt V64th.1, fgev V64th.1 V0.1, V64th.2, V0.2]; decide +kernel
    rw [h.flowOk ⟨by grind, by grind⟩ hE hG, l, R.ok]; rfl
  have nb : (n : Rat) ≤ ((6 : Nat) : Rat) := by exact_mod_cast hn.2
  have e6 : ((6 : Nat) : Rat) = 6 := rfl
  rw [e6] at nb
  have n1 := Rat.mul_le_mul_of_nonneg_right nb (show 0 ≤ 30 * (37 * uu) by grind)
  have n2 := Rat.mul_le_mul_of_nonneg_right nb (show 0 ≤ 210 * uu by grind)
  obtain ⟨h0, h1, h2, _⟩ := H
  exact ⟨R, ok, h0, by have := S.1; grind, by have := S.2; grind⟩
end
end Go.Proofs.Ytpnkapdemgieaaa
set_option linter.unusedSimpArgs false
set_option linter.unusedVariables false
set_option linter.unusedSectionVars false
namespace Go.Proofs.Ytpnkapdemgieaaa
open Go Go.RowKit
/-- How much heat a cell holds for each degree and tick; how warm an end is. -/
def wT (P : Rd) (t i : Nat) : Rat := fv .f32 (rwW P t i)
def tE (E : EndT) : Rat := fv .f32 (cn .f32 E.t)
/-- The right side, exactly. -/
def soG (P : Rd) (E G : EndT) (n t i : Nat) : Rat := wT P t i * xR P i + (if i = 0 then pR P E G 0 * tE E else 0) + (if i + 1 = n then pR P E G (i + 1) * tE G else 0)
structure GT (P : Rd) (n : Nat) (A C : Nat → Int) (M : Rat) (E G : EndT) (t : Nat) (ρ : Rat) : Prop where
  g : GR P n A C M
  hE : GE E M
  hG : GE G M
  hM : 1 / 1024 ≤ M ∧ M ≤ 1000
  hr : 1 ≤ ρ ∧ ρ ≤ 520
  tk : fnt .f32 (cn .f32 t) = true ∧ 0 < fv .f32 (cn .f32 t)
  w : ∀ i, i < n → fnt .f32 (rwW P t i) = true ∧ 1 / 100 ≤ wT P t i ∧ wT P t i ≤ 300
  r : ∀ i, i < n → sgm (wT P t) (pR P E G) i ≤ ρ * wT P t i
theorem GE.mono {E : EndT} {M N : Rat} (h : GE E M) (hMN : M ≤ N) : GE E N := ⟨h.k, h.e, h.t.1, by have := h.t.2.1; grind, by have := h.t.2.2; grind⟩
theorem GR.mono {P : Rd} {n : Nat} {A C : Nat → Int} {M N : Rat} (h : GR P n A C M) (hMN : M ≤ N) : GR P n A C N := ⟨h.hn, h.la, h.lb, h.lc, h.ld, h.a, h.b, h.c, fun i hi => ⟨(h.d i hi).1, by have := (h.d i hi).2.1; grind, by have := (h.d i hi).2.2; grind⟩⟩
section
variable {P : Rd} {n : Nat} {A C : Nat → Int} {M ρ : Rat} {E G : EndT} {t : Nat}
theorem GT.mu (h : GT P n A C M E G t ρ) : 0 < uu ∧ 16700000 * uu = 1 ∧ 16700000 * (M * uu) = M ∧ 0 < M * uu := by
  have u1 : 16700000 * uu = 1 := by unfold uu; decide +kernel
  have u0 : 0 < uu := by unfold uu; decide +kernel
  have hM := h.hM
  exact ⟨u0, u1, by grind, Rat.mul_pos (by grind) u0⟩
theorem GT.sz (h : GT P n A C M E G t ρ) {i : Nat} (hi : i < n) : (1 / 100 ≤ wT P t i ∧ wT P t i ≤ 300) ∧ (0 ≤ pR P E G i ∧ pR P E G i ≤ 16) ∧ (0 ≤ pR P E G (i + 1) ∧ pR P E G (i + 1) ≤ 16) ∧ sgm (wT P t) (pR P E G) i = wT P t i + pR P E G i + pR P E G (i + 1) :=
  ⟨(h.w i hi).2, (h.g.p h.hE h.hG (i := i) (by omega)).2, (h.g.p h.hE h.hG (i := i + 1) (by omega)).2, rfl⟩
theorem GT.diag (h : GT P n A C M E G t ρ) {i : Nat} (hi : i < n) : fnt .f32 (rwA P E G t i) = true ∧ fv .f32 (rwA P E G t i) - sgm (wT P t) (pR P E G) i ≤ 21 / 10 * (sgm (wT P t) (pR P E G) i * uu) ∧ sgm (wT P t) (pR P E G) i - fv .f32 (rwA P E G t i) ≤ 21 / 10 * (sgm (wT P t) (pR P E G) i * uu) := by
  obtain ⟨u0, u1, _, _⟩ := h.mu
  obtain ⟨⟨w1, w2⟩, ⟨p0, p1⟩, ⟨q0, q1⟩, e⟩ := h.sz hi
  obtain ⟨vp, _⟩ := h.g.p h.hE h.hG (i := i) (by omega)
  obtain ⟨vq, _⟩ := h.g.p h.hE h.hG (i := i + 1) (by omega)
  have fw := (h.w i hi).1
  have ew : fv .f32 (rwW P t i) = wT P t i := rfl
  generalize sgm (wT P t) (pR P E G) i = σ at *
  have k := Rat.mul_nonneg (show 0 ≤ σ by grind) (Rat.le_of_lt u0)
  have k2 : 16700000 * (σ * uu) = σ := by grind
  obtain ⟨a0, a1, a2⟩ := fop_u .add rfl fw vp.1 (by simp) (M := σ) (by grind) (by grind) (by simp only [ex]; rw [ew, vp.2]; grind) (by simp only [ex]; rw [ew, vp.2]; grind)
  simp only [ex] at a1 a2
  rw [ew, vp.2] at a1 a2
  obtain ⟨b0, b1, b2⟩ := fop_u .add rfl a0 vq.1 (by simp) (M := 11 / 10 * σ) (by grind) (by grind) (by simp only [ex]; rw [vq.2]; grind) (by simp only [ex]; rw [vq.2]; grind)
  simp only [ex] at b1 b2
  rw [vq.2] at b1 b2
  unfold rwA
  exact ⟨b0, by grind, by grind⟩
/-- A product that goes into a right side. -/
theorem GT.prod (h : GT P n A C M E G t ρ) {y : Nat} {p : Rat} {F : EndT} (hF : GE F M) (hy : V .f32 y p) (h0 : 0 ≤ p) (h1 : p ≤ 16) : fnt .f32 (fop .mul .f32 y (cn .f32 F.t)) = true ∧ fv .f32 (fop .mul .f32 y (cn .f32 F.t)) - p * tE F ≤ (p * M + 1 / 1000000) * uu ∧ p * tE F - fv .f32 (fop .mul .f32 y (cn .f32 F.t)) ≤ (p * M + 1 / 1000000) * uu ∧ p * tE F ≤ p * M ∧ -(p * tE F) ≤ p * M := by
  obtain ⟨f0, f1, f2⟩ := hF.t
  have hM := h.hM
  have ef : fv .f32 (cn .f32 F.t) = tE F := rfl
  rw [ef] at f1 f2
  have k1 := Rat.mul_le_mul_of_nonneg_left f1 h0
  have k2 := Rat.mul_le_mul_of_nonneg_left f2 h0
  have k3 := Rat.mul_nonneg h0 (show 0 ≤ M by grind)
  have k4 := Rat.mul_le_mul_of_nonneg_right h1 (show 0 ≤ M by grind)
  obtain ⟨c0, c1, c2⟩ := fop_u .mul rfl hy.1 f0 (by simp) (M := p * M + 1 / 1000000) (by grind) (by grind) (by simp only [ex]; rw [hy.2, ef]; grind) (by simp only [ex]; rw [hy.2, ef]; grind)
  simp only [ex] at c1 c2
  rw [hy.2, ef] at c1 c2
  exact ⟨c0, c1, c2, k1, by grind⟩
theorem GT.rhs (h : GT P n A C M E G t ρ) {i : Nat} (hi : i < n) : (fnt .f32 (rwS P E G t i) = true ∧ fv .f32 (rwS P E G t i) - soG P E G n t i ≤ 5 * (sgm (wT P t) (pR P E G) i * (M * uu)) ∧ soG P E G n t i - fv .f32 (rwS P E G t i) ≤ 5 * (sgm (wT P t) (pR P E G) i * (M * uu))) ∧ soG P E G n t i ≤ 11 / 10 * (sgm (wT P t) (pR P E G) i * M) ∧ -soG P E G n t i ≤ 11 / 10 * (sgm (wT P t) (pR P E G) i * M) := by
  obtain ⟨u0, u1, u2, u3⟩ := h.mu
  obtain ⟨⟨w1, w2⟩, ⟨p0, p1⟩, ⟨q0, q1⟩, e⟩ := h.sz hi
  obtain ⟨vp, _⟩ := h.g.p h.hE h.hG (i := i) (by omega)
  obtain ⟨vq, _⟩ := h.g.p h.hE h.hG (i := i + 1) (by omega)
  obtain ⟨M1, M2⟩ := h.hM
  have fw := (h.w i hi).1
  obtain ⟨d0, d1, d2⟩ := h.g.d i hi
  have ew : fv .f32 (rwW P t i) = wT P t i := rfl
  have ed : fv .f32 (cn .f32 (P.d.getD i 0)) = xR P i := rfl
  rw [ed] at d1 d2
  obtain ⟨c0, c1, c2, c3, c4⟩ := h.prod (F := E) h.hE vp p0 p1
  obtain ⟨g0, g1, g2, g3, g4⟩ := h.prod (F := G) h.hG vq q0 q1
  have k1 := Rat.mul_le_mul_of_nonneg_left d1 (show 0 ≤ wT P t i by grind)
  have k2 := Rat.mul_le_mul_of_nonneg_left d2 (show 0 ≤ wT P t i by grind)
  have k3 := Rat.mul_le_mul_of_nonneg_right w1 (show 0 ≤ M by grind)
  have k4 := Rat.mul_le_mul_of_nonneg_right w2 (show 0 ≤ M by grind)
  have k5 := Rat.mul_nonneg p0 (show 0 ≤ M by grind)
  have k6 := Rat.mul_nonneg q0 (show 0 ≤ M by grind)
  have k7 := Rat.mul_le_mul_of_nonneg_right p1 (show 0 ≤ M by grind)
  have k8 := Rat.mul_le_mul_of_nonneg_right q1 (show 0 ≤ M by grind)
  have eσ : sgm (wT P t) (pR P E G) i * M = wT P t i * M + pR P E G i * M + pR P E G (i + 1) * M := by rw [e]; grind
  have eσu : sgm (wT P t) (pR P E G) i * (M * uu) = wT P t i * M * uu + pR P E G i * M * uu + pR P E G (i + 1) * M * uu := by rw [e]; grind
  rw [eσ, eσu]
  obtain ⟨a0, a1, a2⟩ := fop_u .mul rfl fw d0 (by simp) (M := wT P t i * M) (by grind) (by grind) (by simp only [ex]; rw [ew, ed]; exact k1) (by simp only [ex]; rw [ew, ed]; grind)
  simp only [ex] at a1 a2
  rw [ew, ed] at a1 a2
  have a0 : fnt .f32 (rwS0 P t i) = true := a0
  have a1 : fv .f32 (rwS0 P t i) - wT P t i * xR P i ≤ wT P t i * M * uu := a1
  have a2 : wT P t i * xR P i - fv .f32 (rwS0 P t i) ≤ wT P t i * M * uu := a2
  have i1 := Rat.mul_le_mul_of_nonneg_right k3 (Rat.le_of_lt u0)
  have i2 := Rat.mul_nonneg k5 (Rat.le_of_lt u0)
  have i3 := Rat.mul_nonneg k6 (Rat.le_of_lt u0)
  have i4 := Rat.mul_le_mul_of_nonneg_right M1 (Rat.le_of_lt u0)
  have j1 : 16700000 * (wT P t i * M * uu) = wT P t i * M := by grind
  have j2 : 16700000 * (pR P E G i * M * uu) = pR P E G i * M := by grind
  have j3 : 16700000 * (pR P E G (i + 1) * M * uu) = pR P E G (i + 1) * M := by grind
  -- the left end
  have s1 : fnt .f32 (rwS1 P E G t i) = true ∧ fv .f32 (rwS1 P E G t i) - (wT P t i * xR P i + (if i = 0 then pR P E G 0 * tE E else 0)) ≤ 23 / 10 * (wT P t i * M * uu) + 21 / 10 * (pR P E G i * M * uu) ∧ (wT P t i * xR P i + (if i = 0 then pR P E G 0 * tE E else 0)) - fv .f32 (rwS1 P E G t i) ≤ 23 / 10 * (wT P t i * M * uu) + 21 / 10 * (pR P E G i * M * uu) ∧ (wT P t i * xR P i + (if i = 0 then pR P E G 0 * tE E else 0)) ≤ wT P t i * M + pR P E G i * M ∧ -(wT P t i * xR P i + (if i = 0 then pR P E G 0 * tE E else 0)) ≤ wT P t i * M + pR P E G i * M := by
    unfold rwS1
    by_cases h0 : i = 0
    · subst h0
      rw [if_pos rfl, if_pos rfl]
      obtain ⟨f0, f1, f2⟩ := fop_u .add rfl a0 c0 (by simp) (M := 101 / 100 * (wT P t 0 * M + pR P E G 0 * M)) (by grind) (by grind) (by simp only [ex]; grind) (by simp only [ex]; grind)
      simp only [ex] at f1 f2
      exact ⟨f0, by grind, by grind, by grind, by grind⟩
    · rw [if_neg h0, if_neg h0]
      exact ⟨a0, by grind, by grind, by grind, by grind⟩
  clear a0 a1 a2 c0 c1 c2 c3 c4 k1 k2
  obtain ⟨b0, b1, b2, b3, b4⟩ := s1
  unfold soG rwS
  rw [h.g.la]
  generalize rwS1 P E G t i = s at *
  generalize wT P t i * xR P i + (if i = 0 then pR P E G 0 * tE E else 0) = o at *
  by_cases hl : i + 1 = n
  · rw [if_pos hl, if_pos hl]
    obtain ⟨f0, f1, f2⟩ := fop_u .add rfl b0 g0 (by simp) (M := 101 / 100 * (wT P t i * M + pR P E G i * M + pR P E G (i + 1) * M)) (by grind) (by grind) (by simp only [ex]; grind) (by simp only [ex]; grind)
    simp only [ex] at f1 f2
    exact ⟨⟨f0, by grind, by grind⟩, by grind, by grind⟩
  · rw [if_neg hl, if_neg hl]
    exact ⟨⟨b0, by grind, by grind⟩, by grind, by grind⟩
theorem GT.rows (h : GT P n A C M E G t ρ) {Z : Nat → Rat} {D Zm : Rat} (hD : 0 ≤ D ∧ 0 ≤ Zm ∧ Zm + D ≤ M) (hZ : ∀ i, Z i ≤ Zm ∧ -Z i ≤ Zm)
    (hof : soG P E G n t 0 - ((wT P t 0 + pR P E G 0 + (qiR (pR P E G) n 0 + qlR (pR P E G) n 0)) * Z 0 - qiR (pR P E G) n 0 * Z 1) ≤ (wT P t 0 + pR P E G 0 + qlR (pR P E G) n 0) * D - 16 * (ρ * wT P t 0 * (M * uu)) ∧ ((wT P t 0 + pR P E G 0 + (qiR (pR P E G) n 0 + qlR (pR P E G) n 0)) * Z 0 - qiR (pR P E G) n 0 * Z 1) - soG P E G n t 0 ≤ (wT P t 0 + pR P E G 0 + qlR (pR P E G) n 0) * D - 16 * (ρ * wT P t 0 * (M * uu)))
    (hoi : ∀ i, i + 1 < n → soG P E G n t (i + 1) - ((wT P t (i + 1) + pR P E G (i + 1) + (qiR (pR P E G) n (i + 1) + qlR (pR P E G) n (i + 1))) * Z (i + 1) - pR P E G (i + 1) * Z i - qiR (pR P E G) n (i + 1) * Z (i + 2)) ≤ (wT P t (i + 1) + qlR (pR P E G) n (i + 1)) * D - 16 * (ρ * wT P t (i + 1) * (M * uu)) ∧ ((wT P t (i + 1) + pR P E G (i + 1) + (qiR (pR P E G) n (i + 1) + qlR (pR P E G) n (i + 1))) * Z (i + 1) - pR P E G (i + 1) * Z i - qiR (pR P E G) n (i + 1) * Z (i + 2)) - soG P E G n t (i + 1) ≤ (wT P t (i + 1) + qlR (pR P E G) n (i + 1)) * D - 16 * (ρ * wT P t (i + 1) * (M * uu))) :
    RowsQ n (rwB P E G) (rwA P E G t) (rwX P E G) (rwS P E G t) (pR P E G) (wT P t) (soG P E G n t) Z M D Zm ρ := by
  refine ⟨h.g.hn, h.hM, hD, h.hr, fun i hi => (h.g.p h.hE h.hG hi).2, fun i hi => (h.w i hi).2, h.r, fun i hi => ?_, fun i hi => ?_, fun i hi => h.diag hi, fun i hi => (h.rhs hi).1, fun i hi => (h.rhs hi).2, hZ, hof, hoi⟩
  · obtain ⟨v, _⟩ := h.g.p h.hE h.hG (i := i) (by omega)
    have := fneg_val v.1
    exact ⟨this.1, by show fv .f32 (fneg .f32 _) = _; rw [this.2]; rfl⟩
  · obtain ⟨v, _⟩ := h.g.p h.hE h.hG (i := i + 1) (by omega)
    have := fneg_val v.1
    exact ⟨this.1, by show fv .f32 (fneg .f32 _) = _; rw [this.2]; rfl⟩
/-- What a tick by rows gives, where the rows are near. -/
theorem GT.out (h : GT P n A C M E G t ρ) {Z : Nat → Rat} {D Zm : Rat} (R : RowsQ n (rwB P E G) (rwA P E G t) (rwX P E G) (rwS P E G t) (pR P E G) (wT P t) (soG P E G n t) Z M D Zm ρ) :
    rwsOk P E G t = true ∧ GR (rwsR P E G t) n A C (M + M / 1000) ∧ ∀ i, i < n → xR (rwsR P E G t) i - Z i ≤ D + 34 / 10 * (ρ * (M * uu)) ∧ Z i - xR (rwsR P E G t) i ≤ D + 34 / 10 * (ρ * (M * uu)) := by
  obtain ⟨u0, u1, u2, u3⟩ := R.mu
  obtain ⟨D0, Z0, ZD⟩ := R.hD
  obtain ⟨rm1, rm2⟩ := R.rm
  have hat : ∀ i, i < n → cn .f32 ((rwsL P E G t).getD i 0) = solO (rwB P E G) (rwA P E G t) (rwX P E G) (rwS P E G t) n i := fun i hi => by
    unfold rwsL
    rw [h.g.la, solL_at hi, cn_solO]
  have Q : GR (rwsR P E G t) n A C (M + M / 1000) := h.g.with (L := rwsL P E G t) (by unfold rwsL; rw [solL_len, h.g.la]) (fun i hi => by
    rw [hat i hi]
    have Y := R.y hi
    have Z1 := R.hZ i
    exact ⟨Y.f, by have := Y.y1; grind, by have := Y.y2; grind⟩)
  refine ⟨?_, Q, fun i hi => ?_⟩
  · unfold rwsOk rwsPre
    rw [h.g.passOk h.hE h.hG, Q.ok, abv_of h.tk.1 h.tk.2]; rfl
  · have Y := R.y hi
    have e : xR (rwsR P E G t) i = fv .f32 (solO (rwB P E G) (rwA P E G t) (rwX P E G) (rwS P E G t) n i) := by
      show fv .f32 (cn .f32 ((rwsL P E G t).getD i 0)) = _
      rw [hat i hi]
    rw [e]
    exact ⟨Y.y1, Y.y2⟩
/-- How warm it is, one after the other: the left end, the cells, the right end. -/
def xe (P : Rd) (E G : EndT) (i : Nat) : Rat := fv .f32 (seqW P.d E.t G.t i)
theorem xe_zero (P : Rd) (E G : EndT) : xe P E G 0 = tE E := rfl
theorem xe_in {P : Rd} {E G : EndT} {i : Nat} (h : i < P.d.length) : xe P E G (i + 1) = xR P i := by
  show fv .f32 (if i < P.d.length then cn .f32 (P.d.getD i 0) else cn .f32 G.t) = _
  rw [if_pos h]; rfl
theorem xe_last {P : Rd} {E G : EndT} {i : Nat} (h : ¬ i < P.d.length) : xe P E G (i + 1) = tE G := by
  show fv .f32 (if i < P.d.length then cn .f32 (P.d.getD i 0) else cn .f32 G.t) = _
  rw [if_neg h]; rfl
/-- What flows, exactly. -/
def phi (P : Rd) (E G : EndT) (i : Nat) : Rat := pR P E G i * (xe P E G i - xe P E G (i + 1))
/-- A rod at rest stays. -/
theorem GT.stay (h : GT P n A C M E G t ρ) {T wm Zm : Rat} (hwm : 0 < wm) (hw : ∀ i, i < n → wm ≤ wT P t i) (hT : 0 ≤ T) (hx : ∀ i, i < n → xR P i ≤ Zm ∧ -xR P i ≤ Zm) (hZ0 : 0 ≤ Zm) (hZ : Zm + (T + 16 * (ρ * (M * uu))) ≤ M) (hf : ∀ i, i < n → phi P E G i - phi P E G (i + 1) ≤ wm * T + (if i = 0 then pR P E G 0 * T else 0) + (if i + 1 = n then pR P E G (i + 1) * T else 0) ∧ phi P E G (i + 1) - phi P E G i ≤ wm * T + (if i = 0 then pR P E G 0 * T else 0) + (if i + 1 = n then pR P E G (i + 1) * T else 0)) :
    rwsOk P E G t = true ∧ GR (rwsR P E G t) n A C (M + M / 1000) ∧ ∀ i, i < n → xR (rwsR P E G t) i - xR P i ≤ T + 194 / 10 * (ρ * (M * uu)) ∧ xR P i - xR (rwsR P E G t) i ≤ T + 194 / 10 * (ρ * (M * uu)) := by
  obtain ⟨u0, u1, u2, u3⟩ := h.mu
  have hn := h.g.hn
  have ld := h.g.ld
  have r0 := Rat.mul_nonneg (show 0 ≤ ρ by have := h.hr; grind) (Rat.le_of_lt u3)
  have key : ∀ i, i < n → wm * T ≤ wT P t i * (T + 16 * (ρ * (M * uu))) - 16 * (ρ * wT P t i * (M * uu)) := fun i hi => by
    have := Rat.mul_le_mul_of_nonneg_right (hw i hi) hT
    grind
  obtain ⟨Zf, hZf⟩ : ∃ Z : Nat → Rat, Z = fun i => if i < n then xR P i else 0 := ⟨_, rfl⟩
  have hZi : ∀ i, i < n → Zf i = xR P i := fun i hi => by rw [hZf]; exact if_pos hi
  have R := h.rows (Z := Zf) (D := T + 16 * (ρ * (M * uu))) (Zm := Zm) ⟨by grind, hZ0, hZ⟩ (fun i => by
      rw [hZf]
      show (if i < n then xR P i else 0) ≤ Zm ∧ -(if i < n then xR P i else 0) ≤ Zm
      split
      · exact hx i (by assumption)
      · exact ⟨hZ0, by grind⟩) (by
      have k := key 0 (by omega)
      obtain ⟨f1, f2⟩ := hf 0 (by omega)
      obtain ⟨⟨w1, _⟩, ⟨p0, _⟩, ⟨q0, _⟩, _⟩ := h.sz (i := 0) (by omega)
      have n1 := Rat.mul_nonneg p0 (show 0 ≤ 16 * (ρ * (M * uu)) by grind)
      have n2 := Rat.mul_nonneg q0 (show 0 ≤ 16 * (ρ * (M * uu)) by grind)
      unfold phi at f1 f2
      rw [xe_zero, xe_in (by omega), if_pos rfl] at f1 f2
      rw [hZi 0 (by omega)]
      unfold soG qiR qlR
      rw [if_pos rfl]
      by_cases hl : 0 + 1 = n
      · rw [if_pos hl, if_neg (by omega), if_neg (by omega)]
        rw [xe_last (by omega), if_pos hl] at f1 f2
        exact ⟨by grind, by grind⟩
      · rw [if_neg hl, if_pos (by omega), if_pos (by omega), hZi 1 (by omega)]
        rw [xe_in (by omega), if_neg hl] at f1 f2
        exact ⟨by grind, by grind⟩) (fun i hi => by
      have k := key (i + 1) hi
      obtain ⟨f1, f2⟩ := hf (i + 1) hi
      obtain ⟨⟨w1, _⟩, ⟨p0, _⟩, ⟨q0, _⟩, _⟩ := h.sz (i := i + 1) hi
      have n2 := Rat.mul_nonneg q0 (show 0 ≤ 16 * (ρ * (M * uu)) by grind)
      unfold phi at f1 f2
      rw [xe_in (show i < P.d.length by omega), xe_in (show i + 1 < P.d.length by omega), if_neg (show ¬ i + 1 = 0 by omega)] at f1 f2
      rw [hZi (i + 1) hi, hZi i (by omega)]
      unfold soG qiR qlR
      rw [if_neg (show ¬ i + 1 = 0 by omega)]
      by_cases hl : i + 1 + 1 = n
      · rw [if_pos hl, if_neg (by omega), if_neg (by omega)]
        rw [xe_last (by omega), if_pos hl] at f1 f2
        exact ⟨by grind, by grind⟩
      · rw [if_neg hl, if_pos (by omega), if_pos (by omega), hZi (i + 2) (by omega)]
        rw [xe_in (by omega), if_neg hl] at f1 f2
        exact ⟨by grind, by grind⟩)
  obtain ⟨o1, o2, o3⟩ := h.out R
  refine ⟨o1, o2, fun i hi => ?_⟩
  have := o3 i hi
  rw [hZi i hi] at this
  exact ⟨by grind, by grind⟩
/-- Within the bounds of what is there. -/
theorem GT.between (h : GT P n A C M E G t ρ) {lo hi : Rat} (hx : ∀ i, i < n → lo ≤ xR P i ∧ xR P i ≤ hi) (hE : E.k = 1 ∨ (lo ≤ tE E ∧ tE E ≤ hi)) (hG : lo ≤ tE G ∧ tE G ≤ hi) (h8 : -8 ≤ lo ∧ hi ≤ 8) (h9 : 8 + 16 * (ρ * (M * uu)) ≤ M) :
    rwsOk P E G t = true ∧ GR (rwsR P E G t) n A C (M + M / 1000) ∧ ∀ i, i < n → lo - 194 / 10 * (ρ * (M * uu)) ≤ xR (rwsR P E G t) i ∧ xR (rwsR P E G t) i ≤ hi + 194 / 10 * (ρ * (M * uu)) := by
  obtain ⟨u0, u1, u2, u3⟩ := h.mu
  have hn := h.g.hn
  have r0 := Rat.mul_nonneg (show 0 ≤ ρ by have := h.hr; grind) (Rat.le_of_lt u3)
  have lh : lo ≤ hi := by grind
  have pe : pR P E G 0 * (tE E - (lo + hi) / 2) ≤ pR P E G 0 * ((hi - lo) / 2) ∧ -(pR P E G 0 * (tE E - (lo + hi) / 2)) ≤ pR P E G 0 * ((hi - lo) / 2) := by
    rcases hE with e | ⟨e1, e2⟩
    · have : pR P E G 0 = 0 := by unfold pR; rw [pG_zero, endV_1 e, V0.2]
      rw [this]; exact ⟨by grind, by grind⟩
    · obtain ⟨_, p0, _⟩ := h.g.p h.hE h.hG (i := 0) (by omega)
      have a := Rat.mul_le_mul_of_nonneg_left (show tE E - (lo + hi) / 2 ≤ (hi - lo) / 2 by grind) p0
      have b := Rat.mul_le_mul_of_nonneg_left (show -(tE E - (lo + hi) / 2) ≤ (hi - lo) / 2 by grind) p0
      exact ⟨a, by grind⟩
  have pg : pR P E G n * (tE G - (lo + hi) / 2) ≤ pR P E G n * ((hi - lo) / 2) ∧ -(pR P E G n * (tE G - (lo + hi) / 2)) ≤ pR P E G n * ((hi - lo) / 2) := by
    obtain ⟨_, p0, _⟩ := h.g.p h.hE h.hG (i := n) (by omega)
    have a := Rat.mul_le_mul_of_nonneg_left (show tE G - (lo + hi) / 2 ≤ (hi - lo) / 2 by grind) p0
    have b := Rat.mul_le_mul_of_nonneg_left (show -(tE G - (lo + hi) / 2) ≤ (hi - lo) / 2 by grind) p0
    exact ⟨a, by grind⟩
  have wx : ∀ i, i < n → wT P t i * (xR P i - (lo + hi) / 2) ≤ wT P t i * ((hi - lo) / 2) ∧ -(wT P t i * (xR P i - (lo + hi) / 2)) ≤ wT P t i * ((hi - lo) / 2) := fun i hi' => by
    obtain ⟨⟨w1, _⟩, _, _, _⟩ := h.sz hi'
    obtain ⟨x1, x2⟩ := hx i hi'
    have a := Rat.mul_le_mul_of_nonneg_left (show xR P i - (lo + hi) / 2 ≤ (hi - lo) / 2 by grind) (show 0 ≤ wT P t i by grind)
    have b := Rat.mul_le_mul_of_nonneg_left (show -(xR P i - (lo + hi) / 2) ≤ (hi - lo) / 2 by grind) (show 0 ≤ wT P t i by grind)
    exact ⟨a, by grind⟩
  have R := h.rows (Z := fun _ => (lo + hi) / 2) (D := (hi - lo) / 2 + 16 * (ρ * (M * uu))) (Zm := 8 - (hi - lo) / 2) ⟨by grind, by grind, by grind⟩ (fun i => ⟨by grind, by grind⟩) (by
      obtain ⟨k1, k2⟩ := wx 0 (by omega)
      obtain ⟨⟨w1, _⟩, ⟨p0, _⟩, ⟨q0, _⟩, _⟩ := h.sz (i := 0) (by omega)
      have n1 := Rat.mul_nonneg p0 (show 0 ≤ 16 * (ρ * (M * uu)) by grind)
      have n2 := Rat.mul_nonneg q0 (show 0 ≤ 16 * (ρ * (M * uu)) by grind)
      unfold soG qiR qlR
      rw [if_pos rfl]
      by_cases hl : 0 + 1 = n
      · rw [if_pos hl, if_neg (by omega), if_neg (by omega)]
        rw [← hl] at pg
        exact ⟨by grind, by grind⟩
      · rw [if_neg hl, if_pos (by omega), if_pos (by omega)]
        exact ⟨by grind, by grind⟩) (fun i hi' => by
      obtain ⟨k1, k2⟩ := wx (i + 1) hi'
      obtain ⟨⟨w1, _⟩, ⟨p0, _⟩, ⟨q0, _⟩, _⟩ := h.sz (i := i + 1) hi'
      have n2 := Rat.mul_nonneg q0 (show 0 ≤ 16 * (ρ * (M * uu)) by grind)
      unfold soG qiR qlR
      rw [if_neg (show ¬ i + 1 = 0 by omega)]
      by_cases hl : i + 1 + 1 = n
      · rw [if_pos hl, if_neg (by omega), if_neg (by omega)]
        rw [← hl] at pg
        exact ⟨by grind, by grind⟩
      · rw [if_neg hl, if_pos (by omega), if_pos (by omega)]
        exact ⟨by grind, by grind⟩)
  obtain ⟨o1, o2, o3⟩ := h.out R
  refine ⟨o1, o2, fun i hi' => ?_⟩
  have := o3 i hi'
  exact ⟨by grind, by grind⟩
end
end Go.Proofs.Ytpnkapdemgieaaa
set_option linter.unusedSimpArgs false
set_option linter.unusedVariables false
set_option linter.unusedSectionVars false
namespace Go.Proofs.Ytpnkapdemgieaaa
open Go Go.RowKit
open Go.ChangeShapes Go.WideShapes Go.ChangeAt Go.RowKit Go.Joins
/-- In a plan: a call that hands its last argument back, with 'true'. -/
def Clm.pass : Clm := ⟨1, fun x v => v = .tuple #[x.getLastD undef, .bool true], fun _ _ _ => True, fun _ => ⟨_, rfl⟩, fun _ _ _ _ _ _ => trivial, fun h => nomatch h⟩
theorem u64_mask (n : Nat) (h : n < 4294967296) : bits .and .u64 (n : Int) 4294967295 = (n : Int) := by
  have h' := bits_and_u64_nat n 4294967295 (by omega) (by omega)
  have e : n &&& 4294967295 = n % 4294967296 := Nat.and_two_pow_sub_one_eq_mod n 32
  rw [e, Nat.mod_eq_of_lt h] at h'
  exact h'
theorem wpL_named {P : Program} {ops l : _} {Q : Exit → Act → World → Prop} {a : Act} {w : World} (h : ∀ W, W = w → wpList P ops Q l a W) : wpList P ops Q l a w := h w rfl
theorem mul64_any (n : Nat) (hn : n < 4294967296) (w : World) : Calls Try.prog 96 #[.int .u64 1, .int .u64 (n : Int)] w (fun e w' => e = .returned (.tuple #[.int .u64 0, .int .u64 (n : Int)]) ∧ w' = w) := by
  have hm := u64_mask n hn
  have hd : (n : Int) / 4294967296 = 0 := by omega
  have hw : IntKind.u64.wrap (n : Int) = (n : Int) := by rw [IntKind.wrap_u64]; omega
  have hm1 : bits .and .u64 1 4294967295 = 1 := by decide
  have hm0 : bits .and .u64 0 4294967295 = 0 := by decide
  have hw0 : IntKind.u64.wrap 0 = 0 := by decide
  go_enter Try.func96, Try.ntmps96
  go_wp2
  go_ret2
  exact ⟨by simp [hm, hm1, hm0, hw, hw0, hd], rfl⟩
theorem bitsMul_any (n : Nat) (hn : n < 4294967296) (w : World) : Calls Try.prog 89 #[.int .u64 1, .int .u64 (n : Int)] w (fun e w' => e = .returned (.tuple #[.int .u64 0, .int .u64 (n : Int)]) ∧ w' = w) := by
  go_enter Try.func89, Try.ntmps89
  go_wp2_with (go_at_call 96; refine (mul64_any n hn _).mono ?_; rintro e w' ⟨rfl, hw'⟩; rw [hw']; clear hw')
  go_ret2
  exact ⟨rfl, rfl⟩
theorem at_copy {P : Program} {w : World} {ops : Array Oper} {rest : List Oper} {o : Oper} {a : Act} {Q : Exit → Act → World → Prop} {d s : Operand} {dT sT : TypeId} (_ : o.op = .call { callee := .builtin .copy, args := #[d, s], argTypes := #[dT, sT] }) (h : Stop (wpList P ops Q (o :: rest) a w)) : wpList P ops Q (o :: rest) a w := h
/-- A row of the call's own, with all of its cells. -/
def RowAt (w : World) (g : Nat) (zs : List Nat) : Prop := w.heap[g]? = some (.cells (zs.map (Value.float .f32)).toArray 28 (0, 0))
theorem RowAt.later {w w' : World} {g : Nat} {zs : List Nat} (h : RowAt w g zs) (hb : Below w.heap.size w w') : RowAt w' g zs := (hb.block g (Array.getElem?_eq_some_iff.1 h).1).trans h
theorem RowAt.cell {w : World} {g : Nat} {zs : List Nat} (h : RowAt w g zs) {j : Nat} (hj : j < zs.length) : w.cell? ⟨g, j, none⟩ = some (.float .f32 (zs.getD j 0)) := by
  rw [cell_of_row w g j _ _ (0, 0) h]
  simp [hj]
theorem RowAt.of {B : Nat} {w : World} {g n : Nat} {zs : List Nat} (h : OF B w (.slice (some ⟨g, 0, none⟩) n n) zs) (hn : zs.length = n) : RowAt w g zs := by
  subst hn
  rcases h.2 with ⟨h', _⟩ | ⟨g', c', cur, h1, _, h3, _, _, h6, h7⟩
  · simp at h'
  · simp only [Value.slice.injEq, Option.some.injEq, Addr.mk.injEq, and_true, true_and] at h1
    obtain ⟨rfl, rfl⟩ := h1
    unfold RowAt
    rw [h3, ← h7, List.take_of_length_le (by rw [Array.length_toList, h6]; exact Nat.le_refl _)]
theorem RowAt.own {B : Nat} {w : World} {g : Nat} {zs : List Nat} (h : RowAt w g zs) (hB : B ≤ g) (hn : zs.length ≤ maxLen) : OF B w (.slice (some ⟨g, 0, none⟩) zs.length zs.length) zs :=
  ⟨by simp, .inr ⟨g, zs.length, _, rfl, hB, h, Nat.le_refl _, hn, by simp, by rw [List.take_of_length_le (by simp)]⟩⟩
theorem rep_copy {n k : Nat} (r : Nat) (h1 : 1 ≤ k) (h2 : k < n) : ((List.replicate k r ++ List.replicate (n - k) 0).map (Value.float .f32)).take k ++ ((List.replicate (Nat.min k (n - k)) r).map (Value.float .f32) ++ ((List.replicate k r ++ List.replicate (n - k) 0).map (Value.float .f32)).drop (k + Nat.min k (n - k))) = (List.replicate (k + Nat.min k (n - k)) r ++ List.replicate (n - (k + Nat.min k (n - k))) 0).map (Value.float .f32) := by
  simp only [List.map_append, List.map_replicate]
  rw [List.take_append_of_le_length (by simp), List.take_of_length_le (by simp), List.drop_append, List.drop_of_length_le (by simp), List.nil_append, List.length_replicate, List.drop_replicate, ← List.append_assoc, List.replicate_append_replicate]
  congr 2
  omega
theorem exec_repCopy {o : Oper} {a : Act} {w W0 : World} {d s : Operand} {g k n r m : Nat} (hm : m = Nat.min k (n - k)) (ho : o.op = .call { callee := .builtin .copy, args := #[d, s], argTypes := #[24, 24] })
    (hd : a.eval d = .slice (some ⟨g, k, none⟩) (n - k) (n - k)) (hs : a.eval s = .slice (some ⟨g, 0, none⟩) k n) (hr : RowAt w g (List.replicate k r ++ List.replicate (n - k) 0)) (h1 : 1 ≤ k) (h2 : k < n) (hb : Below W0.heap.size W0 w) (hB : W0.heap.size ≤ g) :
    ∃ w', (execOp a.eval o).run Try.prog w = .ok (.value (.int .i64 (m : Int))) w' ∧ (RowAt w' g (List.replicate (k + m) r ++ List.replicate (n - (k + m)) 0) ∧ Below W0.heap.size W0 w') ∧ True := by
  have hsz : (Try.prog.info? 28).map (·.size) = some 1 := by kernel_rfl
  have hmin : m ≤ n - k := by rw [hm]; exact Nat.min_le_right ..
  have hmin2 : m ≤ k := by rw [hm]; exact Nat.min_le_left ..
  have hrow : w.heap[g]? = some (.cells ((List.replicate k r ++ List.replicate (n - k) 0).map (Value.float .f32)).toArray 28 (0, 0)) := hr
  have hcp := rep_copy r h1 h2
  rw [← hm] at hcp
  have hrun := run_copy_row (P := Try.prog) w 24 24 o.type 28 g k (n - k) (n - k) ⟨g, 0, none⟩ k n _ 28 ((List.replicate m r).map (Value.float .f32)) Try.underlying24 hsz hrow (by simp [hm]) (fun j v hj => by
      have hjl : j < m := by have := (List.getElem?_eq_some_iff.1 hj).1; simpa using this
      have hv : v = .float .f32 r := by
        rw [List.getElem?_map, List.getElem?_replicate, if_pos hjl] at hj
        simpa using hj.symm
      subst hv
      have hc := hr.cell (j := j) (by simp; omega)
      rw [List.getD_eq_getElem?_getD, List.getElem?_append_left (by simp; omega), List.getElem?_replicate, if_pos (by omega)] at hc
      have ea : (⟨g, 0, none⟩ : Addr).add j = ⟨g, j, none⟩ := by
        by_cases h0 : j = 0
        · subst h0; rfl
        · simp [Addr.add, h0]
      rw [ea]
      simpa using hc) (by simp; omega) (by intro v hv; simp at hv; obtain ⟨_, rfl⟩ := hv; rfl)
  simp only [List.length_map, List.length_replicate, List.append_assoc, hcp] at hrun
  refine ⟨w.setRow g ((List.replicate (k + m) r ++ List.replicate (n - (k + m)) 0).map (Value.float .f32)).toArray, ?_, ⟨?_, below_setRow hb hB _⟩, trivial⟩
  · unfold execOp
    simp only [ho, resolve, invoke, builtin, Sem.run_bind, Sem.run_pure, Result.andThen_ok, List.map_toArray, List.map_cons, List.map_nil, hd, hs, hrun]
    rfl
  · exact setRow_heap w g _ _ _ _ hrow
set_option maxHeartbeats 4000000 in
set_option maxRecDepth 100000 in
theorem repeatF_any (r n : Nat) (v : Value) (w : World) (hs : FS w v [r]) (hn : 1 ≤ n ∧ n ≤ 1048576) : Calls Try.prog 71 #[v, .int .i64 (n : Int)] w (fun e w' => ∃ u, e = .returned u ∧ Below w.heap.size w w' ∧ OF w.heap.size w' u (List.replicate n r)) := by
  obtain ⟨hn1, hn2⟩ := hn
  obtain ⟨b, o, c, rfl, _, HV⟩ := hs.ptr (Nat.le_refl 1)
  have hcell : w.cell? ⟨b, o, none⟩ = some (.float .f32 r) := HV.out 0 (by simp)
  have hbw : b < w.heap.size := World.block_lt_of_cell? _ _ hcell
  obtain ⟨i0, hi, hz0, hz1, hz2⟩ := info_parts Try.infoF32
  have hib : i0.bytes * n ≤ 281474976710656 := by rw [hz2]; omega
  have hml : n ≤ maxLen := by unfold maxLen; omega
  have hw1 : IntKind.u64.wrap (n : Int) = (n : Int) := by rw [IntKind.wrap_u64]; omega
  have hw2 : IntKind.i64.wrap (n : Int) = (n : Int) := IntWalk.i64_in _ (by omega)
  have hw3 : IntKind.u64.wrap 1 = 1 := by decide
  have hneg : ¬ (n : Int) < 0 := by omega
  have hbig : ¬ (9223372036854775807 : Int) < (n : Int) := by omega
  have hnpos : (0 : Int) < n := by omega
  have HC := Lib.hid hcell
  clear HV hs
  go_enter Try.func71, Try.ntmps71
  go_wp2_with (first | (go_at_call 89; refine (bitsMul_any n (by omega) _).mono ?_; rintro e w' ⟨rfl, hw'⟩; rw [hw']; clear hw') | (at_make; refine wpList_make_full _ rfl _ _ 24 rfl w.heap.size 28 i0 (.float .f32 0) 1 Try.underlying24 hi hz0 hz1 _ _ _ _ n rfl rfl rfl rfl hib hml (Nat.le_refl _) ?_; intro w1 hown hgrow) | (with_reducible refine at_list ?_; refine at_copy rfl ?_))
  unfold Stop
  have hown0 : OF w.heap.size w1 (.slice (some ⟨w.heap.size, 0, none⟩) n n) (List.replicate n 0) := by
    unfold OF
    simp only [Value.cells, Nat.mul_one, toList_madeCells_one, List.length_replicate, List.map_replicate] at hown ⊢
    exact hown
  have hB0 : Below w.heap.size w w1 := (Below.refl _ _).grown hgrow (Nat.le_refl _) (fun k h => by cases h)
  have hR0 : RowAt w1 w.heap.size (List.replicate n 0) := RowAt.of hown0 (by simp)
  have hsz : (Try.prog.info? 28).map (·.size) = some 1 := by kernel_rfl
  have hc1 : w1.cell? ⟨b, o, none⟩ = some (.float .f32 r) := cell_later hB0 HC.out
  have HB0 := Lib.hid hB0
  have e0 : ((List.replicate n 0).map (Value.float .f32)).toArray.toList.take 0 ++ ([Value.float .f32 r] ++ ((List.replicate n 0).map (Value.float .f32)).toArray.toList.drop (0 + 1)) = (List.replicate 1 r ++ List.replicate (n - 1) 0).map (Value.float .f32) := by
    simp
  refine wpList_copy_own rfl _ _ 24 24 rfl 28 Try.underlying24 hsz w.heap.size 0 n n ⟨b, o, none⟩ 1 c rfl rfl _ 28 hR0 [.float .f32 r] (by show 1 = Nat.min 1 n; exact (Nat.min_eq_left hn1).symm) ?_ (by simp; omega) (by simp [Value.oneCell']) ?_
  · intro j v hj
    match j, hj with
    | 0, hj => simp at hj; subst hj; simpa [Addr.add] using hc1
    | j + 1, hj => simp at hj
  refine wpL_named ?_
  intro w2 hw2
  have HR2 : Hid (RowAt w2 w.heap.size (List.replicate 1 r ++ List.replicate (n - 1) 0)) := by
    show RowAt _ _ _
    rw [hw2]
    unfold RowAt
    rw [← e0]
    exact setRow_heap w1 w.heap.size _ _ _ _ hR0
  have HB2 : Hid (Below w.heap.size w w2) := by show Below _ _ _; rw [hw2]; exact below_setRow HB0.out (Nat.le_refl _) _
  clear hw2 hR0 hown0 hB0 hown hgrow e0 hc1
  go_wp2_with fail
  go_loopw [8] (fun z wr => ∃ k : Nat, 1 ≤ k ∧ k ≤ n ∧ z = .int .i64 (k : Int) ∧ Hid (RowAt wr w.heap.size (List.replicate k r ++ List.replicate (n - k) 0)) ∧ Hid (Below w.heap.size w wr)) (fun z _ => n - (intOf z).toNat)
  case atStart => exact ⟨1, Nat.le_refl _, hn1, rfl, HR2.out, HB2.out⟩
  case round =>
    obtain ⟨k, hk1, hkn, rfl, HR, HB⟩ := hrel
    by_cases hlt : k < n
    · have hlti : (k : Int) < (n : Int) := by omega
      have hki : 0 ≤ (k : Int) := by omega
      have hkt : ((k : Int)).toNat = k := by omega
      have hnk : n ≠ k := by omega
      obtain ⟨m, hm⟩ : ∃ m, m = Nat.min k (n - k) := ⟨_, rfl⟩
      have hm1 : 1 ≤ m ∧ k + m ≤ n := by rw [hm]; exact ⟨Nat.le_min.2 ⟨hk1, by omega⟩, by have := Nat.min_le_right k (n - k); have e : Nat.min k (n - k) = min k (n - k) := rfl; omega⟩
      obtain ⟨hm1, hm2⟩ := hm1
      have hmw : IntKind.i64.wrap ((k : Int) + (m : Int)) = (k : Int) + (m : Int) := IntWalk.i64_in _ (by omega)
      have HM := Lib.hid hm
      have hrow := HR.out
      have hbel := HB.out
      clear hm
      go_wp2_with fail
      (apply wp_region_planG (F := (fun _ => True)) (fun w' => RowAt w' w.heap.size (List.replicate k r ++ List.replicate (n - k) 0) ∧ Below w.heap.size w w') (fun a c h hb => ⟨h.1.later hb, h.2.trans (hb.mono h.2.size)⟩); (case hW => exact (by exact ⟨hrow, hbel⟩)); (case hF0 => exact (by intro w h; first | exact h | trivial)); (iterate 7 ((apply wpG_det; (case hw => exact rfl); (case hs => (intro cs b h; cases h)); (case h1 => (intro w'; go_simp <;> exact rfl))); apply wpG_norm; (case ha => (simp only [Act.put, List.setIfInBounds_toArray, List.set_cons_zero, List.set_cons_succ]; exact rfl)))); ((apply wpG_turn (.int .i64 (m : Int)) (fun w' => RowAt w' w.heap.size (List.replicate (k + m) r ++ List.replicate (n - (k + m)) 0) ∧ Below w.heap.size w w') (fun _ => True) (fun a c h hb => ⟨h.1.later hb, h.2.trans (hb.mono h.2.size)⟩) (fun _ _ _ _ => trivial); (case hw => exact rfl); (case h1 => (intro w' hi hk0; exact exec_repCopy HM.out rfl rfl rfl hi.1 hk1 hlt hi.2 (Nat.le_refl _)))); apply wpG_norm; (case ha => (simp only [Act.put, List.setIfInBounds_toArray, List.set_cons_zero, List.set_cons_succ]; exact rfl))); (iterate 2 ((apply wpG_det; (case hw => exact rfl); (case hs => (intro cs b h; cases h)); (case h1 => (intro w'; go_simp <;> exact rfl))); apply wpG_norm; (case ha => (simp only [Act.put, List.setIfInBounds_toArray, List.set_cons_zero, List.set_cons_succ]; exact rfl)))); refine wpG_nil ?_; intro w' hi hkk)
      rotate_left
      case hFs => repeat' (first | exact trivial | (intro u hu; exact trivial) | constructor)
      all_goals (try (first | kernel_rfl | rfl))
      have HR8 := Lib.hid hi.1
      have HB8 := Lib.hid hi.2
      clear hi hkk
      go_wp2_with fail
      go_roundw
      case rel => exact ⟨k + m, by omega, hm2, by first | rfl | (congr 1; omega) | (simp; done), HR8.out, HB8.out⟩
      case measure => simp [intOf]; omega
    · have hke : k = n := by omega
      have hlti : ¬ (k : Int) < (n : Int) := by omega
      have HO : Hid (OF w.heap.size wr (.slice (some ⟨w.heap.size, 0, none⟩) n n) (List.replicate n r)) := by
        show OF _ _ _ _
        have h := HR.out
        subst hke
        rw [Nat.sub_self, List.replicate_zero, List.append_nil] at h
        have h2 := h.own (Nat.le_refl _) (by simpa using hml)
        rw [List.length_replicate] at h2
        exact h2
      go_wp2_with fail
      go_ret
      exact ⟨_, rfl, HB.out, HO.out⟩
end Go.Proofs.Ytpnkapdemgieaaa
set_option linter.unusedSimpArgs false
set_option linter.unusedVariables false
set_option linter.unusedSectionVars false
namespace Go.Proofs.Ytpnkapdemgieaaa
open Go Go.RowKit
open Go.ChangeShapes Go.WideShapes Go.ChangeAt Go.RowKit Go.Joins
def evenR (P : Rd) (x : Nat) : Rd := ⟨P.a, P.b, P.c, List.replicate P.d.length x⟩
theorem evenR_ok {P : Rd} {x : Nat} (h : P.ok = true) (hx : fin .f32 (cn .f32 x) = true) : (evenR P x).ok = true := by
  unfold Rd.ok at h ⊢
  simp only [Bool.and_eq_true] at h ⊢
  refine ⟨?_, h.2.1, h.2.2.1, h.2.2.2.1, ?_⟩
  · have := h.1
    unfold Rd.sized evenR at *
    simpa using this
  · unfold finL evenR
    rw [Bool.not_eq_true', List.any_eq_false]
    intro y hy
    rw [List.mem_replicate] at hy
    rw [hy.2, hx]
    simp
/-- A rod of the call's own, a number and a bool. -/
def BRFB (w : World) (R : Rd) (f : Nat) (b : Bool) (e : Ending) (w' : World) : Prop := ∃ m g, cn .f32 g = f ∧ e = .returned (.tuple #[.agg #[.slice m.p1 R.a.length m.c1, .slice m.p2 R.b.length m.c2, .slice m.p3 R.c.length m.c3, .slice m.p4 R.d.length m.c4], .float .f32 g, .bool b]) ∧ Below w.heap.size w w' ∧ RdX w.heap.size w'.heap.size w' R m
set_option maxHeartbeats 4000000 in
set_option maxRecDepth 100000 in
theorem evenRod_any (P : Rd) (l : RL) (x : Nat) (w : World) (hs : P.fs w l) (h0 : P.ok = true) (hx : fin .f32 (cn .f32 x) = true) (R0 : Rd) (hR0 : R0 = evenR P x) : Calls Try.prog 37 #[.agg #[.slice l.p1 P.a.length l.c1, .slice l.p2 P.b.length l.c2, .slice l.p3 P.c.length l.c3, .slice l.p4 P.d.length l.c4], .float .f32 x] w (fun e w' => ∃ m, e = .returned (.tuple #[.agg #[.slice m.p1 R0.a.length m.c1, .slice m.p2 R0.b.length m.c2, .slice m.p3 R0.c.length m.c3, .slice m.p4 R0.d.length m.c4], .float .f32 0, .bool true]) ∧ Below w.heap.size w w' ∧ RdX w.heap.size w'.heap.size w' R0 m) := by
  have HS := Lib.hid hs
  have hnl := Rd.ok_len h0
  have HN0 : Hid ((1 ≤ P.a.length ∧ P.a.length ≤ 1048576) ∧ (1 ≤ P.b.length ∧ P.b.length ≤ 1048576) ∧ (1 ≤ P.c.length ∧ P.c.length ≤ 1048576) ∧ 1 ≤ P.d.length ∧ P.d.length ≤ 1048576) := by show _ ∧ _; omega
  obtain ⟨zs, hz⟩ : ∃ zs, zs = List.replicate P.d.length x := ⟨_, rfl⟩
  have hzl : zs.length = P.d.length := by rw [hz]; simp
  have HN : Hid ((1 ≤ P.a.length ∧ P.a.length ≤ 1048576) ∧ (1 ≤ P.b.length ∧ P.b.length ≤ 1048576) ∧ (1 ≤ P.c.length ∧ P.c.length ≤ 1048576) ∧ 1 ≤ zs.length ∧ zs.length ≤ 1048576) := by rw [hzl]; exact HN0
  have HRP : Hid (∀ v w, FS w v [x] → Calls Try.prog 71 #[v, .int .i64 (P.d.length : Int)] w (fun e w' => ∃ u, e = .returned u ∧ Below w.heap.size w w' ∧ OF w.heap.size w' u zs)) := fun v w h => hz ▸ repeatF_any x P.d.length v w h HN0.out.2.2.2
  have HOK : Hid ((Rd.mk P.a P.b P.c zs).ok = true) := by show _ = _; rw [hz]; exact evenR_ok h0 hx
  replace hR0 : R0 = Rd.mk P.a P.b P.c zs := by rw [hR0, hz]; rfl
  obtain ⟨b0, hb0⟩ : ∃ b0, b0 = true := ⟨_, rfl⟩
  have HW : Hid (∀ v w, P.fs w l → FS w v zs → Calls Try.prog 40 #[.agg #[.slice l.p1 P.a.length l.c1, .slice l.p2 P.b.length l.c2, .slice l.p3 P.c.length l.c3, .slice l.p4 P.d.length l.c4], v] w (BRB w R0 b0)) := by
    intro v w h1 h2
    rw [hR0, hb0]
    exact withWarms_yes P l zs v w h1 h2 HN.out HOK.out
  have HR : Hid (b0 = true) := hb0
  clear hs h0 hx hnl hz hzl hR0 hb0
  go_enter Try.func37, Try.ntmps37
  go_wp2_with (first | (go_at_call 71; refine (repeatF_any _ _ _ _ (by assumption) (by omega)).mono ?_; rintro e w' ⟨u, rfl, hb, hO⟩; obtain ⟨pu, cu, rfl⟩ := OF.shape hO; (try simp only [World.size_alloc, World.size_setCell, World.size_drew, World.drewN] at hO); obtain ⟨hT, hk⟩ := bv_next hb (by (repeat (with_reducible first | assumption | apply Trk.alloc | apply Trk.setCell | apply Trk.drewN | apply Trk.drew | exact Trk.nil _))); simp only [SameOn, World.size_alloc, World.size_setCell, World.size_drew, size_drewN', and_true] at hk; have hsz := Below.size hb; (try simp only [World.size_alloc, World.size_setCell, World.size_drew, size_drewN'] at hsz)))
  (apply wp_region_plan; ((apply wpC_val; (case hw => exact rfl); (case h1 => (intro w' hb hk0; obtain ⟨hT, hk⟩ := bv_next hb (by (repeat (with_reducible first | assumption | apply Trk.alloc | apply Trk.setCell | apply Trk.drewN | apply Trk.drew | exact Trk.nil _))); simp only [SameOn, World.size_alloc, World.size_setCell, World.size_drew, size_drewN', and_true] at hk; have hsz := Below.size hb; (try simp only [World.size_alloc, World.size_setCell, World.size_drew, size_drewN'] at hsz); go_simp <;> exact rfl))); apply wpC_norm; (case ha => (simp only [Act.put, List.setIfInBounds_toArray, List.set_cons_zero, List.set_cons_succ]; exact rfl))); ((apply wpC_det; (case hw => exact rfl); (case hs => (intro cs b h; cases h)); (case h1 => (intro w'; go_simp <;> exact rfl))); apply wpC_norm; (case ha => (simp only [Act.put, List.setIfInBounds_toArray, List.set_cons_zero, List.set_cons_succ]; exact rfl))); ((apply wpC_lit1; (case hx => (first | exact rfl | (simp [Op.operands]; exact rfl))); (case hw => exact rfl); (case h1 => (intro w'; go_simp <;> exact rfl)); intro bv); apply wpC_norm; (case ha => (simp only [Act.put, List.setIfInBounds_toArray, List.set_cons_zero, List.set_cons_succ]; exact rfl))); ((apply wpC_det; (case hw => exact rfl); (case hs => (intro cs b h; cases h)); (case h1 => (intro w'; go_simp <;> exact rfl))); apply wpC_norm; (case ha => (simp only [Act.put, List.setIfInBounds_toArray, List.set_cons_zero, List.set_cons_succ]; exact rfl))); ((apply wpC_val; (case hw => exact rfl); (case h1 => (intro w' hb hk0; obtain ⟨hT, hk⟩ := bv_next hb (by (repeat (with_reducible first | assumption | apply Trk.alloc | apply Trk.setCell | apply Trk.drewN | apply Trk.drew | exact Trk.nil _))); simp only [SameOn, World.size_alloc, World.size_setCell, World.size_drew, size_drewN', and_true] at hk; have hsz := Below.size hb; (try simp only [World.size_alloc, World.size_setCell, World.size_drew, size_drewN'] at hsz); go_simp <;> exact rfl))); apply wpC_norm; (case ha => (simp only [Act.put, List.setIfInBounds_toArray, List.set_cons_zero, List.set_cons_succ]; exact rfl))); ((apply wpC_det; (case hw => exact rfl); (case hs => (intro cs b h; cases h)); (case h1 => (intro w'; go_simp <;> exact rfl))); apply wpC_norm; (case ha => (simp only [Act.put, List.setIfInBounds_toArray, List.set_cons_zero, List.set_cons_succ]; exact rfl))); ((apply wpC_callO; (case hw => exact rfl); (case h1 => (intro w'; go_simp; exact ⟨rfl, rfl⟩)); (case hc => (intro w' hb hk0; obtain ⟨hT, hk⟩ := bv_next hb (by (repeat (with_reducible first | assumption | apply Trk.alloc | apply Trk.setCell | apply Trk.drewN | apply Trk.drew | exact Trk.nil _))); simp only [SameOn, World.size_alloc, World.size_setCell, World.size_drew, size_drewN', and_true] at hk; have hsz := Below.size hb; (try simp only [World.size_alloc, World.size_setCell, World.size_drew, size_drewN'] at hsz); exact ((HRP.out _ _ (FS1 (hk0.2.1.2 0 _ rfl).1)) ))); (case hmk => (intro u u' h; simpa using h)); intro pu cu); apply wpC_norm; (case ha => (simp only [Act.put, List.setIfInBounds_toArray, List.set_cons_zero, List.set_cons_succ]; exact rfl))); ((apply wpC_callRB; (case hw => exact rfl); (case h1 => (intro w'; go_simp; exact ⟨rfl, rfl⟩)); (case hc => (intro w' hb hk0; obtain ⟨hT, hk⟩ := bv_next hb (by (repeat (with_reducible first | assumption | apply Trk.alloc | apply Trk.setCell | apply Trk.drewN | apply Trk.drew | exact Trk.nil _))); simp only [SameOn, World.size_alloc, World.size_setCell, World.size_drew, size_drewN', and_true] at hk; have hsz := Below.size hb; (try simp only [World.size_alloc, World.size_setCell, World.size_drew, size_drewN'] at hsz); exact ((HW.out _ _ (HS.out.later (by (repeat (first | (with_reducible exact Below.refl _ _) | (with_reducible assumption) | (with_reducible refine below_then ?_ (by assumption)) | (with_reducible refine Below.trans ?_ (by assumption)) | (with_reducible refine below_drewN ?_ _) | (with_reducible apply Below.drew) | (with_reducible refine below_alloc ?_ _) | refine Below.setCell ?_ (by first | (simp; done) | (simp; omega)) _)))) (OF.fs (hk0.1 _ rfl))) ))); intro mq); apply wpC_norm; (case ha => (simp only [Act.put, List.setIfInBounds_toArray, List.set_cons_zero, List.set_cons_succ]; exact rfl))); (iterate 3 ((apply wpC_det; (case hw => exact rfl); (case hs => (intro cs b h; cases h)); (case h1 => (intro w'; go_simp <;> exact rfl))); apply wpC_norm; (case ha => (simp only [Act.put, List.setIfInBounds_toArray, List.set_cons_zero, List.set_cons_succ]; exact rfl)))); ((apply wpC_varT [.slice none 0 0, .slice none 0 0, .slice none 0 0, .slice none 0 0] 26; (case hw => exact rfl); (case h1 => (intro w'; go_simp <;> exact rfl)); intro bv); apply wpC_norm; (case ha => (simp only [Act.put, List.setIfInBounds_toArray, List.set_cons_zero, List.set_cons_succ]; exact rfl))); ((apply wpC_putR (R := R0) (m := mq) [.slice none 0 0, .slice none 0 0, .slice none 0 0, .slice none 0 0] 26 rfl; (case hx => exact rfl); (case hy => exact rfl); (case hn => rfl); (case hi => kernel_rfl); (case hw => exact rfl); (case hk => (intro w' hk0; exact hk0.1)); (case ht => decide); (case hm => (intro w' hb hk0; exact (show ∀ u, Value.tuple #[rdV R0 mq, .bool b0] = .tuple #[rdV R0 u, .bool b0] → RdA _ _ R0 u from hk0.2.1) _ rfl))); apply wpC_norm; (case ha => (simp only [Act.put, List.setIfInBounds_toArray, List.set_cons_zero, List.set_cons_succ]; exact rfl))); ((apply wpC_det; (case hw => exact rfl); (case hs => (intro cs b h; cases h)); (case h1 => (intro w'; go_simp <;> exact rfl))); apply wpC_norm; (case ha => (simp only [Act.put, List.setIfInBounds_toArray, List.set_cons_zero, List.set_cons_succ]; exact rfl))); refine wpC_nil ?_; intro w' hb hkk; obtain ⟨hT, hk⟩ := bv_next hb (by (repeat (with_reducible first | assumption | apply Trk.alloc | apply Trk.setCell | apply Trk.drewN | apply Trk.drew | exact Trk.nil _))); simp only [SameOn, World.size_alloc, World.size_setCell, World.size_drew, size_drewN', and_true] at hk; have hsz := Below.size hb; (try simp only [World.size_alloc, World.size_setCell, World.size_drew, size_drewN'] at hsz))
  rotate_left
  all_goals (try (first | kernel_rfl | rfl))
  have hA := (show ∀ u, rdV R0 mq = rdV R0 u → RdA _ _ R0 u from hkk.1.2.1) _ rfl
  have hX := hA.rx (Nat.le_refl _)
  obtain ⟨⟨⟨hv0, hv1⟩, _⟩, _⟩ := hkk
  (try simp only [World.size_alloc, World.size_setCell, World.size_drew, size_drewN'] at hv0 hX)
  obtain ⟨y0, f0⟩ := hv1 0 _ rfl
  obtain ⟨y1, f1⟩ := hv1 1 _ rfl
  obtain ⟨y2, f2⟩ := hv1 2 _ rfl
  obtain ⟨y3, f3⟩ := hv1 3 _ rfl
  rename Nat => bv1
  rename World => wv1
  have hbv := World.block_lt_of_cell? _ _ y0
  have hbv' : bv1 < wv1.heap.size := hbv
  have hT2 := hT.more hbv'
  clear hT hv1 hbv hA
  have hbt := HR.out
  subst hbt
  go_wp2_with (first | (go_at_call 71; refine (repeatF_any _ _ _ _ (by assumption) (by omega)).mono ?_; rintro e w' ⟨u, rfl, hb, hO⟩; obtain ⟨pu, cu, rfl⟩ := OF.shape hO; (try simp only [World.size_alloc, World.size_setCell, World.size_drew, World.drewN] at hO); obtain ⟨hT, hk⟩ := bv_next hb (by (repeat (with_reducible first | assumption | apply Trk.alloc | apply Trk.setCell | apply Trk.drewN | apply Trk.drew | exact Trk.nil _))); simp only [SameOn, World.size_alloc, World.size_setCell, World.size_drew, size_drewN', and_true] at hk; have hsz := Below.size hb; (try simp only [World.size_alloc, World.size_setCell, World.size_drew, size_drewN'] at hsz)))
  refine bodyPost_ret (v := .tuple #[.agg #[.slice mq.p1 R0.a.length mq.c1, .slice mq.p2 R0.b.length mq.c2, .slice mq.p3 R0.c.length mq.c3, .slice mq.p4 R0.d.length mq.c4], .float .f32 0, .bool true]) (by simp [results, Try.results37, go_sem, *]) rfl ?_
  exact ⟨mq, rfl, by (repeat (first | (with_reducible exact Below.refl _ _) | (with_reducible assumption) | (with_reducible refine below_then ?_ (by assumption)) | (with_reducible refine Below.trans ?_ (by assumption)) | (with_reducible refine below_drewN ?_ _) | (with_reducible apply Below.drew) | (with_reducible refine below_alloc ?_ _) | refine Below.setCell ?_ (by first | (simp; done) | (simp; omega)) _)), RdX.base (by (repeat' (first | (with_reducible assumption) | (with_reducible apply RdX.setCell) | (with_reducible apply RdX.alloc) | (with_reducible apply RdX.later; rotate_left; with_reducible assumption) | (with_reducible apply RdX.turn; rotate_left; with_reducible assumption) | (with_reducible apply RdX.drewN))) <;> (first | omega | (simp; done) | (simp; omega))) (by first | omega | (simp; done) | (simp; omega)) (by first | omega | (simp; done) | (simp; omega))⟩
end Go.Proofs.Ytpnkapdemgieaaa
set_option linter.unusedSimpArgs false
set_option linter.unusedVariables false
set_option linter.unusedSectionVars false
namespace Go.Proofs.Ytpnkapdemgieaaa
open Go Go.RowKit
open Go.ChangeShapes Go.WideShapes Go.ChangeAt Go.RowKit Go.Joins
def meanQ (P : Rd) : Nat := fop .quo .f32 (heatK P P.a.length) (massK P P.a.length)
def meanG (P : Rd) : Bool := gB P.ok (heatK P P.a.length)
theorem meanG_split {P : Rd} (h : meanG P = true) : P.ok = true ∧ fin .f32 (heatK P P.a.length) = true := by
  unfold meanG gB at h
  simpa using h
set_option maxHeartbeats 2000000 in
set_option maxRecDepth 100000 in
theorem implMeanOf_any (P : Rd) (l : RL) (w : World) (hs : P.fs w l) : Calls Try.prog 19 #[.agg #[.slice l.p1 P.a.length l.c1, .slice l.p2 P.b.length l.c2, .slice l.p3 P.c.length l.c3, .slice l.p4 P.d.length l.c4]] w (BFB w .f32 (gF (meanG P) (meanQ P)) (gB (meanG P) (meanQ P))) := by
  have HS := Lib.hid hs
  have HH := Lib.hid (fun w h => implHeatOf_any P l w h)
  rcases hg : meanG P
  · have HH2 : Hid (∀ w', P.fs w' l → Calls Try.prog 18 #[.agg #[.slice l.p1 P.a.length l.c1, .slice l.p2 P.b.length l.c2, .slice l.p3 P.c.length l.c3, .slice l.p4 P.d.length l.c4]] w' (BFB w' .f32 (gF P.ok (heatK P P.a.length)) false)) := fun w' h => by
      have := HH.out w' h
      rw [show gB P.ok (heatK P P.a.length) = false from hg] at this
      exact this
    have HK := Lib.hid (cn_heatK P P.a.length)
    clear hs HH
    go_enter Try.func19, Try.ntmps19
    go_wp2_with (first | (with_reducible refine at_list ?_; refine wpList_fop rfl rfl rfl rfl rfl ?_; intro r n hr0; have hr := hr0 _ _ (by first | with_reducible assumption | exact rfl) (by first | with_reducible assumption | exact rfl); clear hr0) | (with_reducible refine at_list ?_; refine wpList_neg rfl rfl rfl ?_; intro r hr0; have hr := hr0 _ (by first | with_reducible assumption | exact rfl); clear hr0) | (with_reducible refine at_list ?_; refine wpList_fop_g rfl rfl rfl rfl rfl ?_; intro r n hr0; have hr := hr0 _ _ (by first | with_reducible assumption | exact rfl) (by first | with_reducible assumption | exact rfl); clear hr0) | (go_at_call 18; refine ((HH2.out _ (HS.out.later (by (repeat (first | (with_reducible exact Below.refl _ _) | (with_reducible assumption) | (with_reducible refine below_then ?_ (by assumption)) | (with_reducible refine Below.trans ?_ (by assumption)) | (with_reducible refine below_drewN ?_ _) | (with_reducible apply Below.drew) | (with_reducible refine below_alloc ?_ _) | refine Below.setCell ?_ (by first | (simp; done) | (simp; omega)) _))))) ).mono ?_; rintro e w' ⟨r, rfl, hr, hb⟩; obtain ⟨hT, hk⟩ := bv_next hb (by (repeat (with_reducible first | assumption | apply Trk.alloc | apply Trk.setCell | apply Trk.drewN | apply Trk.drew | exact Trk.nil _))); simp only [SameOn, World.size_alloc, World.size_setCell, World.size_drew, size_drewN', and_true] at hk; have hsz := Below.size hb; (try simp only [World.size_alloc, World.size_setCell, World.size_drew, size_drewN'] at hsz)) | (go_at_call 47; refine (checked_any _ _).mono ?_; rintro e w' ⟨r, rfl, hr, n, rfl⟩))
    all_goals
      go_ret2
      exact ⟨_, rfl, by simp [gF], by (repeat (first | (with_reducible exact Below.refl _ _) | (with_reducible assumption) | (with_reducible refine below_then ?_ (by assumption)) | (with_reducible refine Below.trans ?_ (by assumption)) | (with_reducible refine below_drewN ?_ _) | (with_reducible apply Below.drew) | (with_reducible refine below_alloc ?_ _) | refine Below.setCell ?_ (by first | (simp; done) | (simp; omega)) _))⟩
  obtain ⟨h0, hf⟩ := meanG_split hg
  have HH2 : Hid (∀ w', P.fs w' l → Calls Try.prog 18 #[.agg #[.slice l.p1 P.a.length l.c1, .slice l.p2 P.b.length l.c2, .slice l.p3 P.c.length l.c3, .slice l.p4 P.d.length l.c4]] w' (BFB w' .f32 (heatK P P.a.length) true)) := fun w' h => by
    have := HH.out w' h
    rw [show gB P.ok (heatK P P.a.length) = true from hg, show gF P.ok (heatK P P.a.length) = heatK P P.a.length by rw [h0]; exact chk_yes hf] at this
    exact this
  have HQ : Hid (meanQ P = fop .quo .f32 (heatK P P.a.length) (massK P P.a.length)) := rfl
  rw [HQ.out]
  have HK := Lib.hid (cn_heatK P P.a.length)
  obtain ⟨hn1, hn2⟩ := (Rd.ok_len h0).1
  have HLN := Lib.hid (Rd.ok_len h0).2
  obtain ⟨b1, o1, c1, b2, o2, c2, b3, o3, c3, b4, o4, c4, rfl, HA, HB, HC, HD⟩ := Rd.open hs h0
  clear hs h0 hf hg HH
  generalize heatK P P.a.length = HT at HH2 HK
  go_enter Try.func19, Try.ntmps19
  go_wp2_with (first | (with_reducible refine at_list ?_; refine wpList_fop rfl rfl rfl rfl rfl ?_; intro r n hr0; have hr := hr0 _ _ (by first | with_reducible assumption | exact rfl) (by first | with_reducible assumption | exact rfl); clear hr0) | (with_reducible refine at_list ?_; refine wpList_neg rfl rfl rfl ?_; intro r hr0; have hr := hr0 _ (by first | with_reducible assumption | exact rfl); clear hr0) | (with_reducible refine at_list ?_; refine wpList_fop_g rfl rfl rfl rfl rfl ?_; intro r n hr0; have hr := hr0 _ _ (by first | with_reducible assumption | exact rfl) (by first | with_reducible assumption | exact rfl); clear hr0) | (go_at_call 18; refine ((HH2.out _ (HS.out.later (by (repeat (first | (with_reducible exact Below.refl _ _) | (with_reducible assumption) | (with_reducible refine below_then ?_ (by assumption)) | (with_reducible refine Below.trans ?_ (by assumption)) | (with_reducible refine below_drewN ?_ _) | (with_reducible apply Below.drew) | (with_reducible refine below_alloc ?_ _) | refine Below.setCell ?_ (by first | (simp; done) | (simp; omega)) _))))) ).mono ?_; rintro e w' ⟨r, rfl, hr, hb⟩; obtain ⟨hT, hk⟩ := bv_next hb (by (repeat (with_reducible first | assumption | apply Trk.alloc | apply Trk.setCell | apply Trk.drewN | apply Trk.drew | exact Trk.nil _))); simp only [SameOn, World.size_alloc, World.size_setCell, World.size_drew, size_drewN', and_true] at hk; have hsz := Below.size hb; (try simp only [World.size_alloc, World.size_setCell, World.size_drew, size_drewN'] at hsz)) | (go_at_call 47; refine (checked_any _ _).mono ?_; rintro e w' ⟨r, rfl, hr, n, rfl⟩))
  refine wp_named ?_
  intro W0 hW0
  have HBW : Hid (Below w.heap.size w W0) := by show Below _ _ _; rw [hW0]; (repeat (first | (with_reducible exact Below.refl _ _) | (with_reducible assumption) | (with_reducible refine below_then ?_ (by assumption)) | (with_reducible refine Below.trans ?_ (by assumption)) | (with_reducible refine below_drewN ?_ _) | (with_reducible apply Below.drew) | (with_reducible refine below_alloc ?_ _) | refine Below.setCell ?_ (by first | (simp; done) | (simp; omega)) _))
  have D0 : Hid (RdAt P ⟨some ⟨b1, o1, none⟩, c1, some ⟨b2, o2, none⟩, c2, some ⟨b3, o3, none⟩, c3, some ⟨b4, o4, none⟩, c4⟩ W0 w.heap.size 0) := by show RdAt _ _ _ _ _; rw [hW0]; exact (by unfold RdAt; refine ⟨?_, ?_, ?_, ?_⟩ <;> go_simp)
  have EA : Hid (∀ i, i < P.a.length → W0.cell? ⟨b1, o1 + i, none⟩ = some (.float .f32 (P.a.getD i 0))) := fun i hi => cell_later HBW.out (HA.out i hi)
  have EB : Hid (∀ i, i < P.a.length → W0.cell? ⟨b2, o2 + i, none⟩ = some (.float .f32 (P.b.getD i 0))) := fun i hi => cell_later HBW.out (HB.out i hi)
  have EC : Hid (∀ i, i < P.a.length → W0.cell? ⟨b3, o3 + i, none⟩ = some (.float .f32 (P.c.getD i 0))) := fun i hi => cell_later HBW.out (HC.out i hi)
  have ED : Hid (∀ i, i < P.a.length → W0.cell? ⟨b4, o4 + i, none⟩ = some (.float .f32 (P.d.getD i 0))) := fun i hi => cell_later HBW.out (HD.out i hi)
  clear hW0 HA HB HC HD
  go_loopw [6, 19] (fun s z wr => ∃ (k r m : Nat), k ≤ P.a.length ∧ z = .int .i64 (k : Int) ∧ s = .float .f32 r ∧ Hid (cn .f32 r = massK P k) ∧ Hid (wr = W0.drewN m)) (fun _ z _ => P.a.length - (intOf z).toNat)
  case atStart => exact ⟨0, 0, 0, Nat.zero_le _, rfl, rfl, rfl, (rfl : _ = W0.drewN 0)⟩
  case round =>
    obtain ⟨k, r0, m, hk, rfl, rfl, HR, HWR⟩ := hrel
    have hcw : ∀ a, wr.cell? a = W0.cell? a := fun a => by rw [HWR.out]; rfl
    have HDR : Hid (∀ n, wr.drewN n = W0.drewN (m + n)) := fun n => by rw [HWR.out, World.drewN_drewN]
    have q0 := (hcw _).trans D0.out.1
    have q1 := (hcw _).trans D0.out.2.1
    have q2 := (hcw _).trans D0.out.2.2.1
    have q3 := (hcw _).trans D0.out.2.2.2
    by_cases hlt : k < P.a.length
    · have hlti : (k : Int) < (P.a.length : Int) := by omega
      have hlb : k < P.b.length := by have := HLN.out; omega
      have hlc : k < P.c.length := by have := HLN.out; omega
      have hld : k < P.d.length := by have := HLN.out; omega
      have hlbi : (k : Int) < (P.b.length : Int) := by omega
      have hlci : (k : Int) < (P.c.length : Int) := by omega
      have hldi : (k : Int) < (P.d.length : Int) := by omega
      have za := (hcw _).trans (EA.out k hlt)
      have zb := (hcw _).trans (EB.out k hlt)
      have zc := (hcw _).trans (EC.out k hlt)
      have zd := (hcw _).trans (ED.out k hlt)
      have HST : Hid (massK P (k + 1) = fop .add .f32 (massK P k) (fop .mul .f32 (cn .f32 (P.a.getD k 0)) (cn .f32 (P.c.getD k 0)))) := rfl
      have hr2 := HR.out
      generalize P.a.getD k 0 = xa at za HST
      generalize P.b.getD k 0 = xb at zb HST
      generalize P.c.getD k 0 = xc at zc HST
      generalize P.d.getD k 0 = xd at zd HST
      clear hcw EA EB EC ED D0
      go_wp2_with (first | (with_reducible refine at_list ?_; refine wpList_fop rfl rfl rfl rfl rfl ?_; intro r n hr0; have hr := hr0 _ _ (by first | with_reducible assumption | exact rfl) (by first | with_reducible assumption | exact rfl); clear hr0) | (with_reducible refine at_list ?_; refine wpList_neg rfl rfl rfl ?_; intro r hr0; have hr := hr0 _ (by first | with_reducible assumption | exact rfl); clear hr0) | (with_reducible refine at_list ?_; refine wpList_fop_g rfl rfl rfl rfl rfl ?_; intro r n hr0; have hr := hr0 _ _ (by first | with_reducible assumption | exact rfl) (by first | with_reducible assumption | exact rfl); clear hr0) | (go_at_call 18; refine (implHeatOf_any _ _ _ (by assumption)).mono ?_; rintro e w' ⟨r, rfl, hr, hb⟩; obtain ⟨hT, hk⟩ := bv_next hb (by (repeat (with_reducible first | assumption | apply Trk.alloc | apply Trk.setCell | apply Trk.drewN | apply Trk.drew | exact Trk.nil _))); simp only [SameOn, World.size_alloc, World.size_setCell, World.size_drew, size_drewN', and_true] at hk; have hsz := Below.size hb; (try simp only [World.size_alloc, World.size_setCell, World.size_drew, size_drewN'] at hsz)) | (go_at_call 47; refine (checked_any _ _).mono ?_; rintro e w' ⟨r, rfl, hr, n, rfl⟩))
      go_roundw
      case rel => exact ⟨k + 1, _, _, by omega, by go_num, rfl, by show _ = _; rw [HST.out]; assumption, HDR.out _⟩
      case measure => simp [intOf]; omega
      all_goals first | kernel_rfl | rfl
    · have hlti : ¬ (k : Int) < (P.a.length : Int) := by omega
      obtain hke : k = P.a.length := by omega
      have HRE : Hid (cn .f32 r0 = massK P P.a.length) := by show _ = _; rw [HR.out, hke]
      have hre := HRE.out
      clear hcw EA EB EC ED D0 HR hke
      go_wp2_with (first | (with_reducible refine at_list ?_; refine wpList_fop rfl rfl rfl rfl rfl ?_; intro r n hr0; have hr := hr0 _ _ (by first | with_reducible assumption | exact rfl) (by first | with_reducible assumption | exact rfl); clear hr0) | (with_reducible refine at_list ?_; refine wpList_neg rfl rfl rfl ?_; intro r hr0; have hr := hr0 _ (by first | with_reducible assumption | exact rfl); clear hr0) | (with_reducible refine at_list ?_; refine wpList_fop_g rfl rfl rfl rfl rfl ?_; intro r n hr0; have hr := hr0 _ _ (by first | with_reducible assumption | exact rfl) (by first | with_reducible assumption | exact rfl); clear hr0) | (go_at_call 18; refine (implHeatOf_any _ _ _ (by assumption)).mono ?_; rintro e w' ⟨r, rfl, hr, hb⟩; obtain ⟨hT, hk⟩ := bv_next hb (by (repeat (with_reducible first | assumption | apply Trk.alloc | apply Trk.setCell | apply Trk.drewN | apply Trk.drew | exact Trk.nil _))); simp only [SameOn, World.size_alloc, World.size_setCell, World.size_drew, size_drewN', and_true] at hk; have hsz := Below.size hb; (try simp only [World.size_alloc, World.size_setCell, World.size_drew, size_drewN'] at hsz)) | (go_at_call 47; refine (checked_any _ _).mono ?_; rintro e w' ⟨r, rfl, hr, n, rfl⟩))
      go_ret2
      exact ⟨_, by first | rfl | (simp only [gB, Bool.true_and]; first | rfl | simp only [*]), by simp only [gF, if_true]; first | assumption | simp only [*], by first | exact HBW.out | (rw [HWR.out]; exact below_drewN HBW.out _) | exact below_drewN HBW.out _ | (rw [HDR.out]; exact below_drewN HBW.out _) | (simp only [World.drewN_drewN, HDR.out]; exact below_drewN HBW.out _)⟩
set_option maxHeartbeats 2000000 in
set_option maxRecDepth 100000 in
theorem implHinder_any (P : Rd) (l : RL) (w : World) (hs : P.fs w l) : Calls Try.prog 25 #[.agg #[.slice l.p1 P.a.length l.c1, .slice l.p2 P.b.length l.c2, .slice l.p3 P.c.length l.c3, .slice l.p4 P.d.length l.c4]] w (BFB w .f32 (gF P.ok (hindK P P.a.length)) (gB P.ok (hindK P P.a.length))) := by
  have HS := Lib.hid hs
  have HV := Lib.hid (fun w h => implValidRod_any P l w h)
  rcases h0 : P.ok
  · rw [h0] at HV
    clear hs
    go_enter Try.func25, Try.ntmps25
    go_wp2_with (first | (with_reducible refine at_list ?_; refine wpList_fop rfl rfl rfl rfl rfl ?_; intro r n hr0; have hr := hr0 _ _ (by first | with_reducible assumption | exact rfl) (by first | with_reducible assumption | exact rfl); clear hr0) | (with_reducible refine at_list ?_; refine wpList_neg rfl rfl rfl ?_; intro r hr0; have hr := hr0 _ (by first | with_reducible assumption | exact rfl); clear hr0) | (with_reducible refine at_list ?_; refine wpList_fop_g rfl rfl rfl rfl rfl ?_; intro r n hr0; have hr := hr0 _ _ (by first | with_reducible assumption | exact rfl) (by first | with_reducible assumption | exact rfl); clear hr0) | (go_at_call 35; refine ((HV.out _ (HS.out.later (by (repeat (first | (with_reducible exact Below.refl _ _) | (with_reducible assumption) | (with_reducible refine below_then ?_ (by assumption)) | (with_reducible refine Below.trans ?_ (by assumption)) | (with_reducible refine below_drewN ?_ _) | (with_reducible apply Below.drew) | (with_reducible refine below_alloc ?_ _) | refine Below.setCell ?_ (by first | (simp; done) | (simp; omega)) _))))) ).mono ?_; rintro e w' ⟨rfl, hb⟩; obtain ⟨hT, hk⟩ := bv_next hb (by (repeat (with_reducible first | assumption | apply Trk.alloc | apply Trk.setCell | apply Trk.drewN | apply Trk.drew | exact Trk.nil _))); simp only [SameOn, World.size_alloc, World.size_setCell, World.size_drew, size_drewN', and_true] at hk; have hsz := Below.size hb; (try simp only [World.size_alloc, World.size_setCell, World.size_drew, size_drewN'] at hsz)) | (go_at_call 47; refine (checked_any _ _).mono ?_; rintro e w' ⟨r, rfl, hr, n, rfl⟩))
    all_goals
      go_ret2
      exact ⟨_, rfl, by simp [gF], by (repeat (first | (with_reducible exact Below.refl _ _) | (with_reducible assumption) | (with_reducible refine below_then ?_ (by assumption)) | (with_reducible refine Below.trans ?_ (by assumption)) | (with_reducible refine below_drewN ?_ _) | (with_reducible apply Below.drew) | (with_reducible refine below_alloc ?_ _) | refine Below.setCell ?_ (by first | (simp; done) | (simp; omega)) _))⟩
  rw [h0] at HV
  obtain ⟨hn1, hn2⟩ := (Rd.ok_len h0).1
  have HLN := Lib.hid (Rd.ok_len h0).2
  obtain ⟨b1, o1, c1, b2, o2, c2, b3, o3, c3, b4, o4, c4, rfl, HA, HB, HC, HD⟩ := Rd.open hs h0
  clear hs h0
  go_enter Try.func25, Try.ntmps25
  go_wp2_with (first | (with_reducible refine at_list ?_; refine wpList_fop rfl rfl rfl rfl rfl ?_; intro r n hr0; have hr := hr0 _ _ (by first | with_reducible assumption | exact rfl) (by first | with_reducible assumption | exact rfl); clear hr0) | (with_reducible refine at_list ?_; refine wpList_neg rfl rfl rfl ?_; intro r hr0; have hr := hr0 _ (by first | with_reducible assumption | exact rfl); clear hr0) | (with_reducible refine at_list ?_; refine wpList_fop_g rfl rfl rfl rfl rfl ?_; intro r n hr0; have hr := hr0 _ _ (by first | with_reducible assumption | exact rfl) (by first | with_reducible assumption | exact rfl); clear hr0) | (go_at_call 35; refine ((HV.out _ (HS.out.later (by (repeat (first | (with_reducible exact Below.refl _ _) | (with_reducible assumption) | (with_reducible refine below_then ?_ (by assumption)) | (with_reducible refine Below.trans ?_ (by assumption)) | (with_reducible refine below_drewN ?_ _) | (with_reducible apply Below.drew) | (with_reducible refine below_alloc ?_ _) | refine Below.setCell ?_ (by first | (simp; done) | (simp; omega)) _))))) ).mono ?_; rintro e w' ⟨rfl, hb⟩; obtain ⟨hT, hk⟩ := bv_next hb (by (repeat (with_reducible first | assumption | apply Trk.alloc | apply Trk.setCell | apply Trk.drewN | apply Trk.drew | exact Trk.nil _))); simp only [SameOn, World.size_alloc, World.size_setCell, World.size_drew, size_drewN', and_true] at hk; have hsz := Below.size hb; (try simp only [World.size_alloc, World.size_setCell, World.size_drew, size_drewN'] at hsz)) | (go_at_call 47; refine (checked_any _ _).mono ?_; rintro e w' ⟨r, rfl, hr, n, rfl⟩))
  refine wp_named ?_
  intro W0 hW0
  have HBW : Hid (Below w.heap.size w W0) := by show Below _ _ _; rw [hW0]; (repeat (first | (with_reducible exact Below.refl _ _) | (with_reducible assumption) | (with_reducible refine below_then ?_ (by assumption)) | (with_reducible refine Below.trans ?_ (by assumption)) | (with_reducible refine below_drewN ?_ _) | (with_reducible apply Below.drew) | (with_reducible refine below_alloc ?_ _) | refine Below.setCell ?_ (by first | (simp; done) | (simp; omega)) _))
  have D0 : Hid (RdAt P ⟨some ⟨b1, o1, none⟩, c1, some ⟨b2, o2, none⟩, c2, some ⟨b3, o3, none⟩, c3, some ⟨b4, o4, none⟩, c4⟩ W0 w.heap.size 0) := by show RdAt _ _ _ _ _; rw [hW0]; exact (by unfold RdAt; refine ⟨?_, ?_, ?_, ?_⟩ <;> go_simp)
  have EA : Hid (∀ i, i < P.a.length → W0.cell? ⟨b1, o1 + i, none⟩ = some (.float .f32 (P.a.getD i 0))) := fun i hi => cell_later HBW.out (HA.out i hi)
  have EB : Hid (∀ i, i < P.a.length → W0.cell? ⟨b2, o2 + i, none⟩ = some (.float .f32 (P.b.getD i 0))) := fun i hi => cell_later HBW.out (HB.out i hi)
  have EC : Hid (∀ i, i < P.a.length → W0.cell? ⟨b3, o3 + i, none⟩ = some (.float .f32 (P.c.getD i 0))) := fun i hi => cell_later HBW.out (HC.out i hi)
  have ED : Hid (∀ i, i < P.a.length → W0.cell? ⟨b4, o4 + i, none⟩ = some (.float .f32 (P.d.getD i 0))) := fun i hi => cell_later HBW.out (HD.out i hi)
  clear hW0 HA HB HC HD
  go_loopw [4, 13] (fun s z wr => ∃ (k r m : Nat), k ≤ P.a.length ∧ z = .int .i64 (k : Int) ∧ s = .float .f32 r ∧ Hid (cn .f32 r = hindK P k) ∧ Hid (wr = W0.drewN m)) (fun _ z _ => P.a.length - (intOf z).toNat)
  case atStart => exact ⟨0, 0, 0, Nat.zero_le _, rfl, rfl, rfl, (rfl : _ = W0.drewN 0)⟩
  case round =>
    obtain ⟨k, r0, m, hk, rfl, rfl, HR, HWR⟩ := hrel
    have hcw : ∀ a, wr.cell? a = W0.cell? a := fun a => by rw [HWR.out]; rfl
    have HDR : Hid (∀ n, wr.drewN n = W0.drewN (m + n)) := fun n => by rw [HWR.out, World.drewN_drewN]
    have q0 := (hcw _).trans D0.out.1
    have q1 := (hcw _).trans D0.out.2.1
    have q2 := (hcw _).trans D0.out.2.2.1
    have q3 := (hcw _).trans D0.out.2.2.2
    by_cases hlt : k < P.a.length
    · have hlti : (k : Int) < (P.a.length : Int) := by omega
      have hlb : k < P.b.length := by have := HLN.out; omega
      have hlc : k < P.c.length := by have := HLN.out; omega
      have hld : k < P.d.length := by have := HLN.out; omega
      have hlbi : (k : Int) < (P.b.length : Int) := by omega
      have hlci : (k : Int) < (P.c.length : Int) := by omega
      have hldi : (k : Int) < (P.d.length : Int) := by omega
      have za := (hcw _).trans (EA.out k hlt)
      have zb := (hcw _).trans (EB.out k hlt)
      have zc := (hcw _).trans (EC.out k hlt)
      have zd := (hcw _).trans (ED.out k hlt)
      have HST : Hid (hindK P (k + 1) = fop .add .f32 (hindK P k) (fop .quo .f32 (cn .f32 (P.a.getD k 0)) (cn .f32 (P.b.getD k 0)))) := rfl
      have hr2 := HR.out
      generalize P.a.getD k 0 = xa at za HST
      generalize P.b.getD k 0 = xb at zb HST
      generalize P.c.getD k 0 = xc at zc HST
      generalize P.d.getD k 0 = xd at zd HST
      clear hcw EA EB EC ED D0
      go_wp2_with (first | (with_reducible refine at_list ?_; refine wpList_fop rfl rfl rfl rfl rfl ?_; intro r n hr0; have hr := hr0 _ _ (by first | with_reducible assumption | exact rfl) (by first | with_reducible assumption | exact rfl); clear hr0) | (with_reducible refine at_list ?_; refine wpList_neg rfl rfl rfl ?_; intro r hr0; have hr := hr0 _ (by first | with_reducible assumption | exact rfl); clear hr0) | (with_reducible refine at_list ?_; refine wpList_fop_g rfl rfl rfl rfl rfl ?_; intro r n hr0; have hr := hr0 _ _ (by first | with_reducible assumption | exact rfl) (by first | with_reducible assumption | exact rfl); clear hr0) | (go_at_call 35; refine (implValidRod_any _ _ _ (by assumption)).mono ?_; rintro e w' ⟨rfl, hb⟩; obtain ⟨hT, hk⟩ := bv_next hb (by (repeat (with_reducible first | assumption | apply Trk.alloc | apply Trk.setCell | apply Trk.drewN | apply Trk.drew | exact Trk.nil _))); simp only [SameOn, World.size_alloc, World.size_setCell, World.size_drew, size_drewN', and_true] at hk; have hsz := Below.size hb; (try simp only [World.size_alloc, World.size_setCell, World.size_drew, size_drewN'] at hsz)) | (go_at_call 47; refine (checked_any _ _).mono ?_; rintro e w' ⟨r, rfl, hr, n, rfl⟩))
      go_roundw
      case rel => exact ⟨k + 1, _, _, by omega, by go_num, rfl, by show _ = _; rw [HST.out]; assumption, HDR.out _⟩
      case measure => simp [intOf]; omega
      all_goals first | kernel_rfl | rfl
    · have hlti : ¬ (k : Int) < (P.a.length : Int) := by omega
      obtain hke : k = P.a.length := by omega
      have HRE : Hid (cn .f32 r0 = hindK P P.a.length) := by show _ = _; rw [HR.out, hke]
      have hre := HRE.out
      clear hcw EA EB EC ED D0 HR hke
      go_wp2_with (first | (with_reducible refine at_list ?_; refine wpList_fop rfl rfl rfl rfl rfl ?_; intro r n hr0; have hr := hr0 _ _ (by first | with_reducible assumption | exact rfl) (by first | with_reducible assumption | exact rfl); clear hr0) | (with_reducible refine at_list ?_; refine wpList_neg rfl rfl rfl ?_; intro r hr0; have hr := hr0 _ (by first | with_reducible assumption | exact rfl); clear hr0) | (with_reducible refine at_list ?_; refine wpList_fop_g rfl rfl rfl rfl rfl ?_; intro r n hr0; have hr := hr0 _ _ (by first | with_reducible assumption | exact rfl) (by first | with_reducible assumption | exact rfl); clear hr0) | (go_at_call 35; refine (implValidRod_any _ _ _ (by assumption)).mono ?_; rintro e w' ⟨rfl, hb⟩; obtain ⟨hT, hk⟩ := bv_next hb (by (repeat (with_reducible first | assumption | apply Trk.alloc | apply Trk.setCell | apply Trk.drewN | apply Trk.drew | exact Trk.nil _))); simp only [SameOn, World.size_alloc, World.size_setCell, World.size_drew, size_drewN', and_true] at hk; have hsz := Below.size hb; (try simp only [World.size_alloc, World.size_setCell, World.size_drew, size_drewN'] at hsz)) | (go_at_call 47; refine (checked_any _ _).mono ?_; rintro e w' ⟨r, rfl, hr, n, rfl⟩))
      go_ret2
      exact ⟨_, by first | rfl | (simp only [gB, Bool.true_and]; first | rfl | simp only [*]), by simp only [gF, if_true]; first | assumption | simp only [*], by first | exact HBW.out | (rw [HWR.out]; exact below_drewN HBW.out _) | exact below_drewN HBW.out _ | (rw [HDR.out]; exact below_drewN HBW.out _)⟩
set_option maxHeartbeats 2000000 in
set_option maxRecDepth 100000 in
theorem implPassAtEnd_any (P : Rd) (l : RL) (last : Bool) (E : EndT) (w : World) (hs : P.fs w l) : Calls Try.prog 38 #[.agg #[.slice l.p1 P.a.length l.c1, .slice l.p2 P.b.length l.c2, .slice l.p3 P.c.length l.c3, .slice l.p4 P.d.length l.c4], .bool last, .agg #[.int .i64 E.k, .float .f32 E.t, .float .f32 E.e]] w (BFB w .f32 (gF (P.ok && E.ok) (endV P (if last then P.a.length - 1 else 0) E)) (gB (P.ok && E.ok) (endV P (if last then P.a.length - 1 else 0) E))) := by
  have HS := Lib.hid hs
  have HV := Lib.hid (fun w h => implValidRod_any P l w h)
  have HE := Lib.hid (fun w => implValidEnd_any E w)
  obtain ⟨V, hV⟩ : ∃ V, V = endV P (if last then P.a.length - 1 else 0) E := ⟨_, rfl⟩
  rw [← hV]
  have HKV : Hid (cn .f32 V = V) := by show _ = _; rw [hV]; exact cn_end _ _ _
  rcases h0 : P.ok
  · rw [h0] at HV
    clear hs hV
    go_enter Try.func38, Try.ntmps38
    go_wp2_with (first | (with_reducible refine at_list ?_; refine wpList_fop rfl rfl rfl rfl rfl ?_; intro r n hr0; have hr := hr0 _ _ (by first | with_reducible assumption | exact rfl) (by first | with_reducible assumption | exact rfl); clear hr0) | (with_reducible refine at_list ?_; refine wpList_neg rfl rfl rfl ?_; intro r hr0; have hr := hr0 _ (by first | with_reducible assumption | exact rfl); clear hr0) | (with_reducible refine at_list ?_; refine wpList_fop_g rfl rfl rfl rfl rfl ?_; intro r n hr0; have hr := hr0 _ _ (by first | with_reducible assumption | exact rfl) (by first | with_reducible assumption | exact rfl); clear hr0) | (go_at_call 35; refine ((HV.out _ (HS.out.later (by (repeat (first | (with_reducible exact Below.refl _ _) | (with_reducible assumption) | (with_reducible refine below_then ?_ (by assumption)) | (with_reducible refine Below.trans ?_ (by assumption)) | (with_reducible refine below_drewN ?_ _) | (with_reducible apply Below.drew) | (with_reducible refine below_alloc ?_ _) | refine Below.setCell ?_ (by first | (simp; done) | (simp; omega)) _))))) ).mono ?_; rintro e w' ⟨rfl, hb⟩; obtain ⟨hT, hk⟩ := bv_next hb (by (repeat (with_reducible first | assumption | apply Trk.alloc | apply Trk.setCell | apply Trk.drewN | apply Trk.drew | exact Trk.nil _))); simp only [SameOn, World.size_alloc, World.size_setCell, World.size_drew, size_drewN', and_true] at hk; have hsz := Below.size hb; (try simp only [World.size_alloc, World.size_setCell, World.size_drew, size_drewN'] at hsz)) | (go_at_call 36; refine ((HE.out _) ).mono ?_; rintro e w' ⟨rfl, hb⟩; obtain ⟨hT, hk⟩ := bv_next hb (by (repeat (with_reducible first | assumption | apply Trk.alloc | apply Trk.setCell | apply Trk.drewN | apply Trk.drew | exact Trk.nil _))); simp only [SameOn, World.size_alloc, World.size_setCell, World.size_drew, size_drewN', and_true] at hk; have hsz := Below.size hb; (try simp only [World.size_alloc, World.size_setCell, World.size_drew, size_drewN'] at hsz)) | (go_at_call 72; refine (passAt_any _ _ _ _ _ (by assumption) (by assumption) (by omega)).mono ?_; rintro e w' ⟨r, rfl, hr, hb⟩; obtain ⟨hT, hk⟩ := bv_next hb (by (repeat (with_reducible first | assumption | apply Trk.alloc | apply Trk.setCell | apply Trk.drewN | apply Trk.drew | exact Trk.nil _))); simp only [SameOn, World.size_alloc, World.size_setCell, World.size_drew, size_drewN', and_true] at hk; have hsz := Below.size hb; (try simp only [World.size_alloc, World.size_setCell, World.size_drew, size_drewN'] at hsz)) | (go_at_call 47; refine (checked_any _ _).mono ?_; rintro e w' ⟨r, rfl, hr, n, rfl⟩))
    all_goals
      go_ret2
      exact ⟨_, rfl, by simp [gF], by (repeat (first | (with_reducible exact Below.refl _ _) | (with_reducible assumption) | (with_reducible refine below_then ?_ (by assumption)) | (with_reducible refine Below.trans ?_ (by assumption)) | (with_reducible refine below_drewN ?_ _) | (with_reducible apply Below.drew) | (with_reducible refine below_alloc ?_ _) | refine Below.setCell ?_ (by first | (simp; done) | (simp; omega)) _))⟩
  rw [h0] at HV
  rcases h1 : E.ok
  · rw [h1] at HE
    clear hs hV h0
    go_enter Try.func38, Try.ntmps38
    go_wp2_with (first | (with_reducible refine at_list ?_; refine wpList_fop rfl rfl rfl rfl rfl ?_; intro r n hr0; have hr := hr0 _ _ (by first | with_reducible assumption | exact rfl) (by first | with_reducible assumption | exact rfl); clear hr0) | (with_reducible refine at_list ?_; refine wpList_neg rfl rfl rfl ?_; intro r hr0; have hr := hr0 _ (by first | with_reducible assumption | exact rfl); clear hr0) | (with_reducible refine at_list ?_; refine wpList_fop_g rfl rfl rfl rfl rfl ?_; intro r n hr0; have hr := hr0 _ _ (by first | with_reducible assumption | exact rfl) (by first | with_reducible assumption | exact rfl); clear hr0) | (go_at_call 35; refine ((HV.out _ (HS.out.later (by (repeat (first | (with_reducible exact Below.refl _ _) | (with_reducible assumption) | (with_reducible refine below_then ?_ (by assumption)) | (with_reducible refine Below.trans ?_ (by assumption)) | (with_reducible refine below_drewN ?_ _) | (with_reducible apply Below.drew) | (with_reducible refine below_alloc ?_ _) | refine Below.setCell ?_ (by first | (simp; done) | (simp; omega)) _))))) ).mono ?_; rintro e w' ⟨rfl, hb⟩; obtain ⟨hT, hk⟩ := bv_next hb (by (repeat (with_reducible first | assumption | apply Trk.alloc | apply Trk.setCell | apply Trk.drewN | apply Trk.drew | exact Trk.nil _))); simp only [SameOn, World.size_alloc, World.size_setCell, World.size_drew, size_drewN', and_true] at hk; have hsz := Below.size hb; (try simp only [World.size_alloc, World.size_setCell, World.size_drew, size_drewN'] at hsz)) | (go_at_call 36; refine ((HE.out _) ).mono ?_; rintro e w' ⟨rfl, hb⟩; obtain ⟨hT, hk⟩ := bv_next hb (by (repeat (with_reducible first | assumption | apply Trk.alloc | apply Trk.setCell | apply Trk.drewN | apply Trk.drew | exact Trk.nil _))); simp only [SameOn, World.size_alloc, World.size_setCell, World.size_drew, size_drewN', and_true] at hk; have hsz := Below.size hb; (try simp only [World.size_alloc, World.size_setCell, World.size_drew, size_drewN'] at hsz)) | (go_at_call 72; refine (passAt_any _ _ _ _ _ (by assumption) (by assumption) (by omega)).mono ?_; rintro e w' ⟨r, rfl, hr, hb⟩; obtain ⟨hT, hk⟩ := bv_next hb (by (repeat (with_reducible first | assumption | apply Trk.alloc | apply Trk.setCell | apply Trk.drewN | apply Trk.drew | exact Trk.nil _))); simp only [SameOn, World.size_alloc, World.size_setCell, World.size_drew, size_drewN', and_true] at hk; have hsz := Below.size hb; (try simp only [World.size_alloc, World.size_setCell, World.size_drew, size_drewN'] at hsz)) | (go_at_call 47; refine (checked_any _ _).mono ?_; rintro e w' ⟨r, rfl, hr, n, rfl⟩))
    all_goals
      go_ret2
      exact ⟨_, rfl, by simp [gF], by (repeat (first | (with_reducible exact Below.refl _ _) | (with_reducible assumption) | (with_reducible refine below_then ?_ (by assumption)) | (with_reducible refine Below.trans ?_ (by assumption)) | (with_reducible refine below_drewN ?_ _) | (with_reducible apply Below.drew) | (with_reducible refine below_alloc ?_ _) | refine Below.setCell ?_ (by first | (simp; done) | (simp; omega)) _))⟩
  rw [h1] at HE
  obtain ⟨hn1, hn2⟩ := (Rd.ok_len h0).1
  have HP1 : Hid (last = true → ∀ w', Below w.heap.size w w' → Calls Try.prog 72 #[.agg #[.slice l.p1 P.a.length l.c1, .slice l.p2 P.b.length l.c2, .slice l.p3 P.c.length l.c3, .slice l.p4 P.d.length l.c4], .int .i64 ((P.a.length : Int) - 1), .agg #[.int .i64 E.k, .float .f32 E.t, .float .f32 E.e]] w' (BF w' .f32 V)) := fun hl w' h => by
    have := passAt_any P l (P.a.length - 1) E w' (HS.out.later h) h0 (by omega)
    rw [show ((P.a.length - 1 : Nat) : Int) = (P.a.length : Int) - 1 by omega] at this
    rw [hV, hl]; exact this
  have HP0 : Hid (last = false → ∀ w', Below w.heap.size w w' → Calls Try.prog 72 #[.agg #[.slice l.p1 P.a.length l.c1, .slice l.p2 P.b.length l.c2, .slice l.p3 P.c.length l.c3, .slice l.p4 P.d.length l.c4], .int .i64 (0 : Int), .agg #[.int .i64 E.k, .float .f32 E.t, .float .f32 E.e]] w' (BF w' .f32 V)) := fun hl w' h => by
    have := passAt_any P l 0 E w' (HS.out.later h) h0 (by omega)
    rw [hV, hl]; exact this
  clear hV
  have hq0 : IntKind.i64.wrap ((P.a.length : Int) - 1) = (P.a.length : Int) - 1 := IntWalk.i64_in _ (by omega)
  have hkv := HKV.out
  clear hs h0 h1 HKV
  cases last
  have HPA := Lib.hid (HP0.out rfl)
  rotate_left
  have HPA := Lib.hid (HP1.out rfl)
  all_goals
    go_enter Try.func38, Try.ntmps38
    go_wp2_with (first | (with_reducible refine at_list ?_; refine wpList_fop rfl rfl rfl rfl rfl ?_; intro r n hr0; have hr := hr0 _ _ (by first | with_reducible assumption | exact rfl) (by first | with_reducible assumption | exact rfl); clear hr0) | (with_reducible refine at_list ?_; refine wpList_neg rfl rfl rfl ?_; intro r hr0; have hr := hr0 _ (by first | with_reducible assumption | exact rfl); clear hr0) | (with_reducible refine at_list ?_; refine wpList_fop_g rfl rfl rfl rfl rfl ?_; intro r n hr0; have hr := hr0 _ _ (by first | with_reducible assumption | exact rfl) (by first | with_reducible assumption | exact rfl); clear hr0) | (go_at_call 35; refine ((HV.out _ (HS.out.later (by (repeat (first | (with_reducible exact Below.refl _ _) | (with_reducible assumption) | (with_reducible refine below_then ?_ (by assumption)) | (with_reducible refine Below.trans ?_ (by assumption)) | (with_reducible refine below_drewN ?_ _) | (with_reducible apply Below.drew) | (with_reducible refine below_alloc ?_ _) | refine Below.setCell ?_ (by first | (simp; done) | (simp; omega)) _))))) ).mono ?_; rintro e w' ⟨rfl, hb⟩; obtain ⟨hT, hk⟩ := bv_next hb (by (repeat (with_reducible first | assumption | apply Trk.alloc | apply Trk.setCell | apply Trk.drewN | apply Trk.drew | exact Trk.nil _))); simp only [SameOn, World.size_alloc, World.size_setCell, World.size_drew, size_drewN', and_true] at hk; have hsz := Below.size hb; (try simp only [World.size_alloc, World.size_setCell, World.size_drew, size_drewN'] at hsz)) | (go_at_call 36; refine ((HE.out _) ).mono ?_; rintro e w' ⟨rfl, hb⟩; obtain ⟨hT, hk⟩ := bv_next hb (by (repeat (with_reducible first | assumption | apply Trk.alloc | apply Trk.setCell | apply Trk.drewN | apply Trk.drew | exact Trk.nil _))); simp only [SameOn, World.size_alloc, World.size_setCell, World.size_drew, size_drewN', and_true] at hk; have hsz := Below.size hb; (try simp only [World.size_alloc, World.size_setCell, World.size_drew, size_drewN'] at hsz)) | (go_at_call 72; refine ((HPA.out _ (by (repeat (first | (with_reducible exact Below.refl _ _) | (with_reducible assumption) | (with_reducible refine below_then ?_ (by assumption)) | (with_reducible refine Below.trans ?_ (by assumption)) | (with_reducible refine below_drewN ?_ _) | (with_reducible apply Below.drew) | (with_reducible refine below_alloc ?_ _) | refine Below.setCell ?_ (by first | (simp; done) | (simp; omega)) _)))) ).mono ?_; rintro e w' ⟨r, rfl, hr, hb⟩; obtain ⟨hT, hk⟩ := bv_next hb (by (repeat (with_reducible first | assumption | apply Trk.alloc | apply Trk.setCell | apply Trk.drewN | apply Trk.drew | exact Trk.nil _))); simp only [SameOn, World.size_alloc, World.size_setCell, World.size_drew, size_drewN', and_true] at hk; have hsz := Below.size hb; (try simp only [World.size_alloc, World.size_setCell, World.size_drew, size_drewN'] at hsz)) | (go_at_call 47; refine (checked_any _ _).mono ?_; rintro e w' ⟨r, rfl, hr, n, rfl⟩))
    all_goals
      go_ret2
      exact ⟨_, by first | rfl | (simp only [gB, Bool.true_and, Bool.and_self]; first | rfl | simp only [*]), by simp only [gF, Bool.and_self, if_true]; first | assumption | simp only [*], by (repeat (first | (with_reducible exact Below.refl _ _) | (with_reducible assumption) | (with_reducible refine below_then ?_ (by assumption)) | (with_reducible refine Below.trans ?_ (by assumption)) | (with_reducible refine below_drewN ?_ _) | (with_reducible apply Below.drew) | (with_reducible refine below_alloc ?_ _) | refine Below.setCell ?_ (by first | (simp; done) | (simp; omega)) _))⟩
end Go.Proofs.Ytpnkapdemgieaaa

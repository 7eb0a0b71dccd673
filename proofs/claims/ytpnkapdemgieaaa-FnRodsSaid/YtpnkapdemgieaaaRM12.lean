/-
  Drawn rods: the law's comparisons of even rods and of rods that are joined to themselves. No condition but what each law says; nothing of the program is named here.
  Drawn rods: what the program answers about them goes through, and is what the plain functions tell. No condition but what each law says; nothing of the program is named here.
  Drawn rods: the even rod of the law. No condition but what each law says; nothing of the program is named here.
  A run of a rod: the program's way. No condition but what each contract says.
  What a 32-bit word stands for, as a whole number of units of the least place; comparisons are those of these numbers. No condition but what each lemma says.
-/
import Derived.Test.YtpnkapdemgieaaaRM11
import Derived.Test.YtpnkapdemgieaaaRM9
import Derived.Test.YtpnkapdemgieaaaRM2
set_option linter.unusedSimpArgs false
set_option linter.unusedVariables false
set_option linter.unusedSectionVars false
namespace Go.Proofs.Ytpnkapdemgieaaa
open Go Go.RowKit
theorem Vtwo : V .f64 (cn .f64 4611686018427387904) 2 := ⟨by decide +kernel, by decide +kernel⟩
theorem one_add {b : Nat} (hb : fnt .f64 b = true) (h0 : 0 ≤ fv .f64 b) (h1 : fv .f64 b ≤ 999) : V .f64 (fop .add .f64 (cn .f64 4607182418800017408) b) (fv .f64 (fop .add .f64 (cn .f64 4607182418800017408) b)) ∧ 1 ≤ fv .f64 (fop .add .f64 (cn .f64 4607182418800017408) b) ∧ fv .f64 (fop .add .f64 (cn .f64 4607182418800017408) b) ≤ 1000 := by
  have r1 : Rep .f64 (1 : Rat) := Rep.int (k := .f64) 1 (by decide)
  have r2 : Rep .f64 (1000 : Rat) := Rep.int (k := .f64) 1000 (by decide)
  obtain ⟨a, b1, b2⟩ := fop_btw .add rfl .f64 Vone.1 hb (by simp) r1 r2 (by simp only [ex]; rw [Vone.2]; grind) (by simp only [ex]; rw [Vone.2]; grind)
  exact ⟨⟨a, rfl⟩, b1, b2⟩
theorem within_lt {x y b : Nat} (hx : fnt .f64 x = true) (hy : fnt .f64 y = true) (hb : fnt .f64 b = true) (h0 : 0 ≤ fv .f64 b) (h1 : fv .f64 b ≤ 999) (h2 : fv .f64 x - fv .f64 y ≤ 30 / 32768) (h3 : fv .f64 y - fv .f64 x ≤ 30 / 32768) :
    gapOk x y ∧ flt .f64 (gap8 x y) (fop .mul .f64 cTho (fop .add .f64 (cn .f64 4607182418800017408) b)) = true := by
  obtain ⟨vS, s1, s2⟩ := one_add hb h0 h1
  have r30 := rep_c 30 (by decide)
  have r31 := rep_c 31 (by decide)
  have e30 : ((30 : Int) : Rat) = 30 := rfl
  have e31 : ((31 : Int) : Rat) = 31 := rfl
  rw [e30] at r30
  rw [e31] at r31
  obtain ⟨t0, t1⟩ := tol_ge vS s1 s2 r31 (by grind)
  obtain ⟨g, b0, b1, b2⟩ := gap8_le hx hy r30 h2 h3
  refine ⟨g, ?_⟩
  rw [fltv b0 t0]
  exact decide_eq_true (by grind)
/-- Twice a number of 32 bits, near. -/
theorem twice_near {x : Nat} (hx : fnt .f32 x = true) (h0 : 0 ≤ fv .f32 x) (h1 : fv .f32 x ≤ 60) : fnt .f64 (fop .mul .f64 (cn .f64 4611686018427387904) (wide x)) = true ∧ fv .f64 (fop .mul .f64 (cn .f64 4611686018427387904) (wide x)) - 2 * fv .f32 x ≤ 1 / 100000 ∧ 2 * fv .f32 x - fv .f64 (fop .mul .f64 (cn .f64 4611686018427387904) (wide x)) ≤ 1 / 100000 := by
  obtain ⟨w0, w1⟩ := wide_val hx
  have t7 : tp 7 = 128 := (tp_nat 7).trans rfl
  have e : ex .mul (fv .f64 (cn .f64 4611686018427387904)) (fv .f64 (wide x)) = 2 * fv .f32 x := by simp only [ex]; rw [Vtwo.2, w1]
  obtain ⟨a, b⟩ := fop_rnd .mul rfl .f64 Vtwo.1 w0 (by simp) 7 (by decide) (by rw [e, t7]; grind) (by rw [e, t7]; grind)
  rw [e] at b
  have c := rnd_err (Q := 7) b (by rw [t7]; grind) (by rw [t7]; grind) (by decide)
  have d : tp (7 - (FloatKind.f64.format.fractionBits : Int) - 1) ≤ tp (-20) := tp_le (by decide)
  have f : tp (-20) * 1048576 = 1 := by
    have h : tp (-20) * tp 20 = 1 := by rw [← tp_add]; exact tp_zero
    rwa [show tp 20 = 1048576 from (tp_nat 20).trans rfl] at h
  exact ⟨a, by grind, by grind⟩
section
variable {P : Rd} {n : Nat} {A B C T : Nat → Int}
/-- How much hinders: twice as much. -/
theorem WR.law3 (h : WR P n A B C T) (h6 : n ≤ 6) :
    gapOk (fop .mul .f64 (cn .f64 4611686018427387904) (wide (hindK P n))) (wide (hindK (joinR P (bkR P)) (n + n))) ∧
    flt .f64 (gap8 (fop .mul .f64 (cn .f64 4611686018427387904) (wide (hindK P n))) (wide (hindK (joinR P (bkR P)) (n + n)))) (fop .mul .f64 cTho (fop .add .f64 (cn .f64 4607182418800017408) (wide (hindK (joinR P (bkR P)) (n + n))))) = true := by
  have hn := h.hn
  have u0 : 0 < uu := by unfold uu; decide +kernel
  have u1 : 16700000 * uu = 1 := by unfold uu; decide +kernel
  obtain ⟨a0, a1, a2, a3, a4⟩ := h.hinder n (Nat.le_refl _)
  obtain ⟨b0, b1, b2, b3, b4⟩ := (h.tw h6).hinder (n + n) (Nat.le_refl _)
  have es : sumQ (rH (fun i => A (mi n i)) (fun i => B (mi n i))) (n + n) = sumQ (rH A B) n + sumQ (rH A B) n := sumQ_tw (rH A B) n
  rw [es] at b1 b2 b3 b4
  have nb : (n : Rat) ≤ ((6 : Nat) : Rat) := by exact_mod_cast h6
  have n0 : ((1 : Nat) : Rat) ≤ (n : Rat) := by exact_mod_cast hn.1
  have e6 : ((6 : Nat) : Rat) = 6 := rfl
  have e1 : ((1 : Nat) : Rat) = 1 := rfl
  rw [e6] at nb
  rw [e1] at n0
  have e : ((n + n : Nat) : Rat) = (n : Rat) + (n : Rat) := Rat.natCast_add n n
  rw [e] at b1 b2 b3 b4
  have k1 := Rat.mul_le_mul_of_nonneg_right nb (show 0 ≤ 106 * uu by grind)
  obtain ⟨t0, t1, t2⟩ := twice_near a0 (by grind) (by grind)
  obtain ⟨w0, w1⟩ := wide_val b0
  exact within_lt t0 w0 w0 (by rw [w1]; grind) (by rw [w1]; grind) (by rw [w1]; grind) (by rw [w1]; grind)
theorem WR.longN (h : WR P n A B C T) : V .f32 (accC id P.a) (((sumZ A n : Int) : Rat) / 4) ∧ 0 ≤ ((sumZ A n : Int) : Rat) / 4 ∧ ((sumZ A n : Int) : Rat) / 4 ≤ 192 := by
  have hn := h.hn
  have e := h.long n (Nat.le_refl _)
  rw [List.take_of_length_le (by rw [h.la]; exact Nat.le_refl _)] at e
  obtain ⟨s1, s2⟩ := sumZ_lo (f := A) n (fun i hi => by have := (h.a i hi).2; omega)
  have a := icast_le (show (0 : Int) ≤ sumZ A n by omega)
  have b := icast_le (show sumZ A n ≤ (768 : Int) by omega)
  have e7 : ((768 : Int) : Rat) = 768 := rfl
  rw [z_of] at a
  rw [e7] at b
  exact ⟨e, by grind, by grind⟩
/-- How long: twice as long. -/
theorem WR.law4 (h : WR P n A B C T) (h6 : n ≤ 6) :
    gapOk (fop .mul .f64 (cn .f64 4611686018427387904) (wide (accC id P.a))) (wide (accC id (joinR P (bkR P)).a)) ∧
    flt .f64 (gap8 (fop .mul .f64 (cn .f64 4611686018427387904) (wide (accC id P.a))) (wide (accC id (joinR P (bkR P)).a))) (fop .mul .f64 cTho (fop .add .f64 (cn .f64 4607182418800017408) (wide (accC id (joinR P (bkR P)).a)))) = true := by
  obtain ⟨v, a, b⟩ := h.longN
  obtain ⟨v2, a2, b2⟩ := (h.tw h6).longN
  have es : sumZ (fun i => A (mi n i)) (n + n) = sumZ A n + sumZ A n := sumZ_tw A n
  have hn := h.hn
  obtain ⟨s1, s2⟩ := sumZ_lo (f := A) n (fun i hi => by have := (h.a i hi).2; omega)
  have b' := icast_le (show sumZ A n ≤ (240 : Int) by have := sumZ_bd (f := A) (B := 8) n (fun i hi => by have := (h.a i hi).2; omega); have k : (n : Int) * 8 ≤ 6 * 8 := Int.mul_le_mul_of_nonneg_right (by omega) (by decide); omega)
  have e2 : ((240 : Int) : Rat) = 240 := rfl
  rw [e2] at b'
  rw [es, Rat.intCast_add] at v2 a2 b2
  obtain ⟨t0, t1, t2⟩ := twice_near v.1 (by rw [v.2]; exact a) (by rw [v.2]; grind)
  rw [v.2] at t1 t2
  have w := wide_v v2
  exact within_lt t0 w.1 w.1 (by rw [w.2]; exact a2) (by rw [w.2]; grind) (by rw [w.2]; grind) (by rw [w.2]; grind)
theorem WR.meanN (h : WR P n A B C T) : fnt .f32 (meanQ P) = true ∧ fv .f32 (meanQ P) - ((sumZ (fun i => A i * C i * T i) n : Int) : Rat) / 32 / (((sumZ (fun i => A i * C i) n : Int) : Rat) / 16) ≤ 8 * uu ∧ ((sumZ (fun i => A i * C i * T i) n : Int) : Rat) / 32 / (((sumZ (fun i => A i * C i) n : Int) : Rat) / 16) - fv .f32 (meanQ P) ≤ 8 * uu ∧ 0 < ((sumZ (fun i => A i * C i) n : Int) : Rat) := by
  have hn := h.hn
  have vh := h.heat n (Nat.le_refl _)
  have vm := h.mass n (Nat.le_refl _)
  obtain ⟨s1, s2⟩ := sumZ_lo (f := fun i => A i * C i) n (fun i hi => (h.ac hi).1)
  have key : ∀ k, k ≤ n → sumZ (fun i => A i * C i * T i) k ≤ 16 * sumZ (fun i => A i * C i) k ∧ -(16 * sumZ (fun i => A i * C i) k) ≤ sumZ (fun i => A i * C i * T i) k := by
    intro k
    induction k with
    | zero => intro _; simp [sumZ]
    | succ k ih =>
      intro hk
      obtain ⟨i1, i2⟩ := ih (by omega)
      obtain ⟨⟨c1, c2⟩, _⟩ := h.ac (i := k) (by omega)
      obtain ⟨_, d1, d2⟩ := h.d k (by omega)
      have m1 := Int.mul_le_mul_of_nonneg_left d2 (show 0 ≤ A k * C k by omega)
      have m2 := Int.mul_le_mul_of_nonneg_left d1 (show 0 ≤ A k * C k by omega)
      simp only [sumZ]
      exact ⟨by omega, by omega⟩
  obtain ⟨k1, k2⟩ := key n (Nat.le_refl _)
  have m0 := icast_le (show (1 : Int) ≤ sumZ (fun i => A i * C i) n by omega)
  have e1 : ((1 : Int) : Rat) = 1 := rfl
  rw [e1] at m0
  have r1 := icast_le k1
  have r2 := icast_le k2
  rw [Rat.intCast_neg, Rat.intCast_mul] at r2
  rw [Rat.intCast_mul] at r1
  have e16 : ((16 : Int) : Rat) = 16 := rfl
  rw [e16] at r1 r2
  generalize ((sumZ (fun i => A i * C i * T i) n : Int) : Rat) = H at *
  generalize ((sumZ (fun i => A i * C i) n : Int) : Rat) = m at *
  have dv : H / 32 / (m / 16) * (m / 16) = H / 32 := Rat.div_mul_cancel (by grind)
  have dn : -(H / 32 / (m / 16)) * (m / 16) = -(H / 32) := by grind
  have q1 : H / 32 / (m / 16) ≤ 8 := mul_cancel_le (c := m / 16) (by grind) (by rw [dv]; grind)
  have q2 : -(H / 32 / (m / 16)) ≤ 8 := mul_cancel_le (c := m / 16) (by grind) (by rw [dn]; grind)
  obtain ⟨c0, c1, c2⟩ := fop_u .quo rfl vh.1 vm.1 (fun _ => by rw [vm.2]; grind) (M := 8) (by grind) (by grind) (by simp only [ex]; rw [vh.2, vm.2]; exact q1) (by simp only [ex]; rw [vh.2, vm.2]; exact q2)
  simp only [ex] at c1 c2
  rw [vh.2, vm.2] at c1 c2
  have e : meanQ P = fop .quo .f32 (heatK P n) (massK P n) := by unfold meanQ; rw [h.la]
  rw [e]
  exact ⟨c0, c1, c2, by grind⟩
/-- How warm: as warm. -/
theorem WR.law5 (h : WR P n A B C T) (h6 : n ≤ 6) :
    gapOk (wide (meanQ (joinR P (bkR P)))) (wide (meanQ P)) ∧
    flt .f64 (gap8 (wide (meanQ (joinR P (bkR P)))) (wide (meanQ P))) (fop .mul .f64 cTho (fop .add .f64 (cn .f64 4607182418800017408) (szW P n))) = true := by
  have u1 : 16700000 * uu = 1 := by unfold uu; decide +kernel
  obtain ⟨a0, a1, a2, a3⟩ := h.meanN
  obtain ⟨b0, b1, b2, b3⟩ := (h.tw h6).meanN
  have es : sumZ (fun i => A (mi n i) * C (mi n i) * T (mi n i)) (n + n) = sumZ (fun i => A i * C i * T i) n + sumZ (fun i => A i * C i * T i) n := sumZ_tw (fun i => A i * C i * T i) n
  have em : sumZ (fun i => A (mi n i) * C (mi n i)) (n + n) = sumZ (fun i => A i * C i) n + sumZ (fun i => A i * C i) n := sumZ_tw (fun i => A i * C i) n
  rw [es, em, Rat.intCast_add, Rat.intCast_add] at b1 b2
  obtain ⟨vs, s0, s1⟩ := (h.dr h6).size n (Nat.le_refl _)
  have s0' := icast_le s0
  rw [z_of] at s0'
  have s1' := icast_le (show sumZ (fun i => A i * C i * ((T i).natAbs : Int)) n ≤ (6144 : Int) by omega)
  have e6 : ((6144 : Int) : Rat) = 6144 := rfl
  rw [e6] at s1'
  generalize ((sumZ (fun i => A i * C i * T i) n : Int) : Rat) = H at *
  generalize ((sumZ (fun i => A i * C i) n : Int) : Rat) = m at *
  have q : (H + H) / 32 / ((m + m) / 16) = H / 32 / (m / 16) := by
    have d1 : (H + H) / 32 / ((m + m) / 16) * ((m + m) / 16) = (H + H) / 32 := Rat.div_mul_cancel (by grind)
    have d2 : H / 32 / (m / 16) * (m / 16) = H / 32 := Rat.div_mul_cancel (by grind)
    exact Rat.le_antisymm (mul_cancel_le (c := m / 16) (by grind) (by grind)) (mul_cancel_le (c := m / 16) (by grind) (by grind))
  rw [q] at b1 b2
  obtain ⟨x0, x1⟩ := wide_val a0
  obtain ⟨y0, y1⟩ := wide_val b0
  exact within_lt y0 x0 vs.1 (by rw [vs.2]; grind) (by rw [vs.2]; grind) (by rw [x1, y1]; grind) (by rw [x1, y1]; grind)
end
section
variable {P : Rd} {n : Nat} {A C : Nat → Int} {E G : EndT} {t : Int}
/-- An even rod's flows. -/
theorem EV.none {M : Rat} (h : EV P n A C E G t M) {i : Nat} (hi : i ≤ n) : feq .f32 (fAt P E G i) (cn .f32 0) = true := by
  obtain ⟨a, b⟩ := h.flow hi
  rw [feqv a V0.1, b, V0.2]; rfl
theorem thirteen {a u x y : Rat} (hu : 16700000 * u = 1) (h0 : 0 ≤ a) (h1 : x - y ≤ 13100 * ((a / 2 + 1 / 1024) * u)) : x - y ≤ (1 + 13 * a) / 32768 := by
  have e : 16700000 * ((a / 2 + 1 / 1024) * u) = a / 2 + 1 / 1024 := by grind
  grind
/-- An even rod behind a tick by rows. -/
theorem EV.law (h : EV P n A C E G t (((t.natAbs : Int) : Rat) / 2 + 1 / 1024)) {i : Nat} (hi : i < n) :
    gapOk (wide (cn .f32 ((rwsR P E G 1048576000).d.getD i 0))) (wide (wmW t)) ∧ gapOk (wide (wmW t)) (cn .f64 0) ∧
    fgt .f64 (gap8 (wide (cn .f32 ((rwsR P E G 1048576000).d.getD i 0))) (wide (wmW t))) (fop .mul .f64 cTho (fop .add .f64 (cn .f64 4607182418800017408) (gap8 (wide (wmW t)) (cn .f64 0)))) = false := by
  obtain ⟨_, R, hh⟩ := h.held
  obtain ⟨h1, h2⟩ := hh i hi
  have u1 : 16700000 * uu = 1 := by unfold uu; decide +kernel
  have v := wmW_v h.ht
  obtain ⟨g, vg⟩ := gap_abs v h.ht
  have f0 := (R.d i hi).1
  have tn : 0 ≤ ((t.natAbs : Int) : Rat) := by have := icast_le (show (0 : Int) ≤ (t.natAbs : Int) by omega); rwa [z_of] at this
  have tb : ((t.natAbs : Int) : Rat) ≤ 16 := by
    have := icast_le (show (t.natAbs : Int) ≤ (16 : Int) by have := h.ht; omega)
    have e : ((16 : Int) : Rat) = 16 := rfl
    rwa [e] at this
  have eS : ex .add 1 (((t.natAbs : Int) : Rat) / 2) = ((2 + (t.natAbs : Int) : Int) : Rat) / 2 := by
    simp only [ex]; rw [Rat.intCast_add]
    have e : ((2 : Int) : Rat) = 2 := rfl
    rw [e]; grind
  have vS := V.op .add rfl Vone vg (by simp) (by rw [eS]; exact rep64 (2 + (t.natAbs : Int)) (-1) (by have := h.ht; omega) (by decide) (by decide) (by have := tp_n1; grind))
  have eS' : ex .add 1 (((t.natAbs : Int) : Rat) / 2) = 1 + ((t.natAbs : Int) : Rat) / 2 := rfl
  rw [eS'] at vS
  have r := rep_c (1 + 13 * (t.natAbs : Int)) (by have := h.ht; omega)
  have ec : ((1 + 13 * (t.natAbs : Int) : Int) : Rat) = 1 + 13 * ((t.natAbs : Int) : Rat) := by
    rw [Rat.intCast_add, Rat.intCast_mul]; rfl
  rw [ec] at r
  have ex' : xR (rwsR P E G 1048576000) i = fv .f32 (cn .f32 ((rwsR P E G 1048576000).d.getD i 0)) := rfl
  rw [ex'] at h1 h2
  generalize cn .f32 ((rwsR P E G 1048576000).d.getD i 0) = y at *
  have W := gap_within (x := y) (y := wmW t) (S := fop .add .f64 (cn .f64 4607182418800017408) (gap8 (wide (wmW t)) (cn .f64 0))) (c := (1 + 13 * ((t.natAbs : Int) : Rat)) / 32768) f0 v.1 (by rw [v.2]; exact thirteen u1 tn h1) (by rw [v.2]; exact thirteen u1 tn h2) vS (by grind) (by grind) r (by grind)
  exact ⟨W.1, g, W.2⟩
end
end Go.Proofs.Ytpnkapdemgieaaa
set_option linter.unusedSimpArgs false
set_option linter.unusedVariables false
set_option linter.unusedSectionVars false
namespace Go.Proofs.Ytpnkapdemgieaaa
open Go Go.RowKit
theorem gBF_yes {ok : Bool} {c : Nat} (h : ok = true) (hf : fnt .f32 c = true) : gB ok c = true ∧ gF ok c = c := by
  subst h
  have f := fin_of_fnt hf
  unfold gB gF chk
  rw [f]
  exact ⟨rfl, rfl⟩
section
variable {P : Rd} {n : Nat} {A B C T : Nat → Int}
theorem WR.heatG (h : WR P n A B C T) : gB P.ok (heatK P P.a.length) = true ∧ gF P.ok (heatK P P.a.length) = heatK P n := by
  rw [h.la]; exact gBF_yes h.ok (h.heat n (Nat.le_refl _)).1
theorem WR.hindG (h : WR P n A B C T) : gB P.ok (hindK P P.a.length) = true ∧ gF P.ok (hindK P P.a.length) = hindK P n := by
  rw [h.la]; exact gBF_yes h.ok (h.hinder n (Nat.le_refl _)).1
theorem WR.longG (h : WR P n A B C T) : gB P.ok (accC id P.a) = true ∧ gF P.ok (accC id P.a) = accC id P.a := gBF_yes h.ok h.longN.1.1
theorem WR.meanGG (h : WR P n A B C T) : gB (meanG P) (meanQ P) = true ∧ gF (meanG P) (meanQ P) = meanQ P := gBF_yes h.heatG.1 h.meanN.1
/-- The shut end of the law. -/
def shE : EndT := ⟨1, 0, 1065353216⟩
theorem shE_ge (M : Rat) (hM : 0 ≤ M) : GE shE M := by
  refine ⟨⟨by decide, by decide⟩, ⟨2, ⟨by decide, by decide⟩, ?_⟩, V0.1, ?_, ?_⟩
  · have e : ((2 : Int) : Rat) = 2 := rfl
    have e1 : ((2 : Int) : Rat) / 2 = 1 := by rw [e]; grind
    rw [e1]; exact V1
  · show fv .f32 (cn .f32 0) ≤ M; rw [V0.2]; exact hM
  · show -fv .f32 (cn .f32 0) ≤ M; rw [V0.2]; grind
theorem WR.runB (h : WR P n A B C T) (h6 : n ≤ 6) : runB true shE shE 1048576000 5 P = true := by
  have g := (h.dr h6).g
  have hE := shE_ge 8 (by decide)
  have R := fun k (hk : k ≤ 5) => g.run ⟨by grind, by grind⟩ hE hE rfl rfl V0 V0 k hk
  have H := fun k (hk : k ≤ 5) => (g.heats ⟨by grind, by grind⟩ hE hE rfl rfl V0 V0 hk).1
  have l : lst (cn .f32 1048576000) = true := by
    unfold lst
    rw [fin_of_fnt V25w.1, fgev V25w.1 V0.1, V25w.2, V0.2]; decide +kernel
  have ne : feq .f32 (cn .f32 1048576000) (cn .f32 0) = false := by
    rw [feqv V25w.1 V0.1, V25w.2, V0.2]; decide +kernel
  have pre : runPre true shE shE 1048576000 5 P = true := by
    unfold runPre endsOk
    rw [h.ok, hE.ok, l, ne]; rfl
  rw [runB_yes pre, runU_eq]
  have e5 : (5 : Int).toNat = 5 := rfl
  rw [e5, (R 5 (by decide)).2.1, Bool.true_and]
  unfold finC
  rw [Bool.not_eq_true', List.any_eq_false]
  intro x hx
  unfold runL at hx
  obtain ⟨j, hj, rfl⟩ := List.mem_map.1 hx
  rw [List.mem_range] at hj
  rw [fin_of_fnt (H (j + 1) (by omega))]; simp
end
end Go.Proofs.Ytpnkapdemgieaaa
set_option linter.unusedSimpArgs false
set_option linter.unusedVariables false
set_option linter.unusedSectionVars false
namespace Go.Proofs.Ytpnkapdemgieaaa
open Go Go.RowKit
theorem nat_bd {t : Int} : (t : Rat) / 2 ≤ ((t.natAbs : Int) : Rat) / 2 + 1 / 1024 ∧ -((t : Rat) / 2) ≤ ((t.natAbs : Int) : Rat) / 2 + 1 / 1024 := by
  have a := icast_le (show t ≤ (t.natAbs : Int) by omega)
  have b := icast_le (show -t ≤ (t.natAbs : Int) by omega)
  rw [Rat.intCast_neg] at b
  exact ⟨by grind, by grind⟩
theorem WR.ev {P : Rd} {n : Nat} {A B C T : Nat → Int} (h : WR P n A B C T) (h6 : n ≤ 6) {x : Nat} {t : Int} (ht : -16 ≤ t ∧ t ≤ 16) (hx : cn .f32 x = wmW t) {k : Int} (hk : 0 ≤ k ∧ k ≤ 2) :
    EV ⟨P.a, P.b, P.c, List.replicate n x⟩ n A C ⟨k, x, 1065353216⟩ ⟨k, x, 1065353216⟩ t (((t.natAbs : Int) : Rat) / 2 + 1 / 1024) := by
  have v := wmW_v ht
  have nb := nat_bd (t := t)
  have at' : ∀ i, i < n → cn .f32 ((List.replicate n x).getD i 0) = wmW t := fun i hi => by
    rw [List.getD_eq_getElem?_getD, List.getElem?_replicate, if_pos hi]; exact hx
  have ge : GE ⟨k, x, 1065353216⟩ (((t.natAbs : Int) : Rat) / 2 + 1 / 1024) := by
    refine ⟨hk, ⟨2, ⟨by decide, by decide⟩, ?_⟩, ?_⟩
    · have e : ((2 : Int) : Rat) = 2 := rfl
      have e1 : ((2 : Int) : Rat) / 2 = 1 := by rw [e]; grind
      rw [e1]; exact V1
    · show fnt .f32 (cn .f32 x) = true ∧ fv .f32 (cn .f32 x) ≤ _ ∧ -fv .f32 (cn .f32 x) ≤ _
      rw [hx, v.2]; exact ⟨v.1, nb⟩
  have tn : 0 ≤ ((t.natAbs : Int) : Rat) := by have := icast_le (show (0 : Int) ≤ (t.natAbs : Int) by omega); rwa [z_of] at this
  have tb : ((t.natAbs : Int) : Rat) ≤ 16 := by
    have := icast_le (show (t.natAbs : Int) ≤ (16 : Int) by omega)
    have e : ((16 : Int) : Rat) = 16 := rfl
    rwa [e] at this
  refine ⟨(h.dr h6).g.with (by simp) (fun i hi => ?_), ge, ge, ht, ⟨by grind, by grind⟩, at', hx, hx⟩
  rw [at' i hi, v.2]; exact ⟨v.1, nb⟩
end Go.Proofs.Ytpnkapdemgieaaa
set_option linter.unusedSimpArgs false
set_option linter.unusedVariables false
set_option linter.unusedSectionVars false
namespace Go.Proofs.Ytpnkapdemgieaaa
open Go Go.RowKit
open Go.ChangeShapes Go.WideShapes Go.ChangeAt Go.RowKit Go.Joins
set_option maxHeartbeats 16000000 in
set_option maxRecDepth 100000 in
theorem implRun_any (P : Rd) (l : RL) (E G : EndT) (t : Nat) (z : Int) (rows : Bool) (w : World) (hs : P.fs w l) : Calls Try.prog 20 #[.agg #[.slice l.p1 P.a.length l.c1, .slice l.p2 P.b.length l.c2, .slice l.p3 P.c.length l.c3, .slice l.p4 P.d.length l.c4], .agg #[.int .i64 E.k, .float .f32 E.t, .float .f32 E.e], .agg #[.int .i64 G.k, .float .f32 G.t, .float .f32 G.e], .float .f32 t, .int .i64 z, .bool rows] w (BRL w (okR (runB rows E G t z P) (runR rows E G t P z.toNat)) (okL (runB rows E G t z P) (runL rows E G t P z.toNat)) (runB rows E G t z P)) := by
  have HS := Lib.hid hs
  obtain ⟨B0, hB0⟩ : ∃ B0, B0 = runB rows E G t z P := ⟨_, rfl⟩
  have HB0 := Lib.hid hB0
  have HV := Lib.hid (fun w h => implValidRod_any P l w h)
  have HE1 := Lib.hid (fun w => implValidEnd_any E w)
  have HE2 := Lib.hid (fun w => implValidEnd_any G w)
  rw [← hB0]
  clear hs hB0
  rcases h0 : P.ok
  · have HE : Hid (B0 = false) := by show _ = _; rw [HB0.out]; exact runB_no (by simp [runPre, endsOk, h0])
    rw [h0] at HV
    clear h0
    go_enter Try.func20, Try.ntmps20
    go_wp2_with (first | (with_reducible refine at_list ?_; refine wpList_wide_g rfl rfl Try.underlying28 Try.underlying39 rfl ?_; intro r n hr0; have hr := hr0 _ (by first | with_reducible assumption | exact rfl); clear hr0) | (with_reducible refine at_list ?_; refine wpList_wide rfl rfl rfl Try.underlying28 Try.underlying39 ?_; intro r n hr0; have hr := hr0 _ (by first | with_reducible assumption | exact rfl); clear hr0) | (go_at_call 35; refine ((HV.out _ (HS.out.later (by (repeat (first | (with_reducible exact Below.refl _ _) | (with_reducible assumption) | (with_reducible refine below_then ?_ (by assumption)) | (with_reducible refine Below.trans ?_ (by assumption)) | (with_reducible refine below_drewN ?_ _) | (with_reducible apply Below.drew) | (with_reducible refine below_alloc ?_ _) | refine Below.setCell ?_ (by first | (simp; done) | (simp; omega)) _))))) ).mono ?_; rintro e w' ⟨rfl, hb⟩; obtain ⟨hT, hk⟩ := bv_next hb (by (repeat (with_reducible first | assumption | apply Trk.alloc | apply Trk.setCell | apply Trk.drewN | apply Trk.drew | exact Trk.nil _))); simp only [SameOn, World.size_alloc, World.size_setCell, World.size_drew, size_drewN', and_true] at hk; have hsz := Below.size hb; (try simp only [World.size_alloc, World.size_setCell, World.size_drew, size_drewN'] at hsz)) | (go_at_call 36; refine (implValidEnd_any _ _).mono ?_; rintro e w' ⟨rfl, hb⟩; obtain ⟨hT, hk⟩ := bv_next hb (by (repeat (with_reducible first | assumption | apply Trk.alloc | apply Trk.setCell | apply Trk.drewN | apply Trk.drew | exact Trk.nil _))); simp only [SameOn, World.size_alloc, World.size_setCell, World.size_drew, size_drewN', and_true] at hk; have hsz := Below.size hb; (try simp only [World.size_alloc, World.size_setCell, World.size_drew, size_drewN'] at hsz)) | (go_at_call 52; refine (within_any _ _ _ _).mono ?_; rintro e w' ⟨rfl, n, rfl⟩) | (go_at_call 41; refine (IsFinite_any _ _).mono ?_; rintro e w' ⟨rfl, n, rfl⟩) | (go_at_call 18; refine (implHeatOf_any _ _ _ (by assumption)).mono ?_; rintro e w' ⟨r, rfl, hr, hb⟩; obtain ⟨hT, hk⟩ := bv_next hb (by (repeat (with_reducible first | assumption | apply Trk.alloc | apply Trk.setCell | apply Trk.drewN | apply Trk.drew | exact Trk.nil _))); simp only [SameOn, World.size_alloc, World.size_setCell, World.size_drew, size_drewN', and_true] at hk; have hsz := Below.size hb; (try simp only [World.size_alloc, World.size_setCell, World.size_drew, size_drewN'] at hsz)))
    all_goals
      refine bodyPost_ret (v := .tuple #[.agg #[.slice none 0 0, .slice none 0 0, .slice none 0 0, .slice none 0 0], .slice none 0 0, .bool false]) (by simp [results, Try.results20, go_sem, *]) rfl ?_
      exact brl_no rfl (by (repeat (first | (with_reducible exact Below.refl _ _) | (with_reducible assumption) | (with_reducible refine below_then ?_ (by assumption)) | (with_reducible refine Below.trans ?_ (by assumption)) | (with_reducible refine below_drewN ?_ _) | (with_reducible apply Below.drew) | (with_reducible refine below_alloc ?_ _) | refine Below.setCell ?_ (by first | (simp; done) | (simp; omega)) _))) HE.out
  rcases h1 : E.ok
  · have HE : Hid (B0 = false) := by show _ = _; rw [HB0.out]; exact runB_no (by simp [runPre, endsOk, h1])
    rw [h0] at HV
    rw [h1] at HE1
    clear h0 h1
    go_enter Try.func20, Try.ntmps20
    go_wp2_with (first | (with_reducible refine at_list ?_; refine wpList_wide_g rfl rfl Try.underlying28 Try.underlying39 rfl ?_; intro r n hr0; have hr := hr0 _ (by first | with_reducible assumption | exact rfl); clear hr0) | (with_reducible refine at_list ?_; refine wpList_wide rfl rfl rfl Try.underlying28 Try.underlying39 ?_; intro r n hr0; have hr := hr0 _ (by first | with_reducible assumption | exact rfl); clear hr0) | (go_at_call 35; refine ((HV.out _ (HS.out.later (by (repeat (first | (with_reducible exact Below.refl _ _) | (with_reducible assumption) | (with_reducible refine below_then ?_ (by assumption)) | (with_reducible refine Below.trans ?_ (by assumption)) | (with_reducible refine below_drewN ?_ _) | (with_reducible apply Below.drew) | (with_reducible refine below_alloc ?_ _) | refine Below.setCell ?_ (by first | (simp; done) | (simp; omega)) _))))) ).mono ?_; rintro e w' ⟨rfl, hb⟩; obtain ⟨hT, hk⟩ := bv_next hb (by (repeat (with_reducible first | assumption | apply Trk.alloc | apply Trk.setCell | apply Trk.drewN | apply Trk.drew | exact Trk.nil _))); simp only [SameOn, World.size_alloc, World.size_setCell, World.size_drew, size_drewN', and_true] at hk; have hsz := Below.size hb; (try simp only [World.size_alloc, World.size_setCell, World.size_drew, size_drewN'] at hsz)) | (go_at_call_of 36 (Value.agg #[.int .i64 E.k, .float .f32 E.t, .float .f32 E.e]); refine ((HE1.out _) ).mono ?_; rintro e w' ⟨rfl, hb⟩; obtain ⟨hT, hk⟩ := bv_next hb (by (repeat (with_reducible first | assumption | apply Trk.alloc | apply Trk.setCell | apply Trk.drewN | apply Trk.drew | exact Trk.nil _))); simp only [SameOn, World.size_alloc, World.size_setCell, World.size_drew, size_drewN', and_true] at hk; have hsz := Below.size hb; (try simp only [World.size_alloc, World.size_setCell, World.size_drew, size_drewN'] at hsz)) | (go_at_call_of 36 (Value.agg #[.int .i64 G.k, .float .f32 G.t, .float .f32 G.e]); refine ((HE2.out _) ).mono ?_; rintro e w' ⟨rfl, hb⟩; obtain ⟨hT, hk⟩ := bv_next hb (by (repeat (with_reducible first | assumption | apply Trk.alloc | apply Trk.setCell | apply Trk.drewN | apply Trk.drew | exact Trk.nil _))); simp only [SameOn, World.size_alloc, World.size_setCell, World.size_drew, size_drewN', and_true] at hk; have hsz := Below.size hb; (try simp only [World.size_alloc, World.size_setCell, World.size_drew, size_drewN'] at hsz)) | (go_at_call 52; refine (within_any _ _ _ _).mono ?_; rintro e w' ⟨rfl, n, rfl⟩) | (go_at_call 41; refine (IsFinite_any _ _).mono ?_; rintro e w' ⟨rfl, n, rfl⟩) | (go_at_call 18; refine (implHeatOf_any _ _ _ (by assumption)).mono ?_; rintro e w' ⟨r, rfl, hr, hb⟩; obtain ⟨hT, hk⟩ := bv_next hb (by (repeat (with_reducible first | assumption | apply Trk.alloc | apply Trk.setCell | apply Trk.drewN | apply Trk.drew | exact Trk.nil _))); simp only [SameOn, World.size_alloc, World.size_setCell, World.size_drew, size_drewN', and_true] at hk; have hsz := Below.size hb; (try simp only [World.size_alloc, World.size_setCell, World.size_drew, size_drewN'] at hsz)))
    all_goals
      refine bodyPost_ret (v := .tuple #[.agg #[.slice none 0 0, .slice none 0 0, .slice none 0 0, .slice none 0 0], .slice none 0 0, .bool false]) (by simp [results, Try.results20, go_sem, *]) rfl ?_
      exact brl_no rfl (by (repeat (first | (with_reducible exact Below.refl _ _) | (with_reducible assumption) | (with_reducible refine below_then ?_ (by assumption)) | (with_reducible refine Below.trans ?_ (by assumption)) | (with_reducible refine below_drewN ?_ _) | (with_reducible apply Below.drew) | (with_reducible refine below_alloc ?_ _) | refine Below.setCell ?_ (by first | (simp; done) | (simp; omega)) _))) HE.out
  rcases h2 : G.ok
  · have HE : Hid (B0 = false) := by show _ = _; rw [HB0.out]; exact runB_no (by simp [runPre, endsOk, h2])
    rw [h0] at HV
    rw [h1] at HE1
    rw [h2] at HE2
    clear h0 h1 h2
    go_enter Try.func20, Try.ntmps20
    go_wp2_with (first | (with_reducible refine at_list ?_; refine wpList_wide_g rfl rfl Try.underlying28 Try.underlying39 rfl ?_; intro r n hr0; have hr := hr0 _ (by first | with_reducible assumption | exact rfl); clear hr0) | (with_reducible refine at_list ?_; refine wpList_wide rfl rfl rfl Try.underlying28 Try.underlying39 ?_; intro r n hr0; have hr := hr0 _ (by first | with_reducible assumption | exact rfl); clear hr0) | (go_at_call 35; refine ((HV.out _ (HS.out.later (by (repeat (first | (with_reducible exact Below.refl _ _) | (with_reducible assumption) | (with_reducible refine below_then ?_ (by assumption)) | (with_reducible refine Below.trans ?_ (by assumption)) | (with_reducible refine below_drewN ?_ _) | (with_reducible apply Below.drew) | (with_reducible refine below_alloc ?_ _) | refine Below.setCell ?_ (by first | (simp; done) | (simp; omega)) _))))) ).mono ?_; rintro e w' ⟨rfl, hb⟩; obtain ⟨hT, hk⟩ := bv_next hb (by (repeat (with_reducible first | assumption | apply Trk.alloc | apply Trk.setCell | apply Trk.drewN | apply Trk.drew | exact Trk.nil _))); simp only [SameOn, World.size_alloc, World.size_setCell, World.size_drew, size_drewN', and_true] at hk; have hsz := Below.size hb; (try simp only [World.size_alloc, World.size_setCell, World.size_drew, size_drewN'] at hsz)) | (go_at_call_of 36 (Value.agg #[.int .i64 E.k, .float .f32 E.t, .float .f32 E.e]); refine ((HE1.out _) ).mono ?_; rintro e w' ⟨rfl, hb⟩; obtain ⟨hT, hk⟩ := bv_next hb (by (repeat (with_reducible first | assumption | apply Trk.alloc | apply Trk.setCell | apply Trk.drewN | apply Trk.drew | exact Trk.nil _))); simp only [SameOn, World.size_alloc, World.size_setCell, World.size_drew, size_drewN', and_true] at hk; have hsz := Below.size hb; (try simp only [World.size_alloc, World.size_setCell, World.size_drew, size_drewN'] at hsz)) | (go_at_call_of 36 (Value.agg #[.int .i64 G.k, .float .f32 G.t, .float .f32 G.e]); refine ((HE2.out _) ).mono ?_; rintro e w' ⟨rfl, hb⟩; obtain ⟨hT, hk⟩ := bv_next hb (by (repeat (with_reducible first | assumption | apply Trk.alloc | apply Trk.setCell | apply Trk.drewN | apply Trk.drew | exact Trk.nil _))); simp only [SameOn, World.size_alloc, World.size_setCell, World.size_drew, size_drewN', and_true] at hk; have hsz := Below.size hb; (try simp only [World.size_alloc, World.size_setCell, World.size_drew, size_drewN'] at hsz)) | (go_at_call 52; refine (within_any _ _ _ _).mono ?_; rintro e w' ⟨rfl, n, rfl⟩) | (go_at_call 41; refine (IsFinite_any _ _).mono ?_; rintro e w' ⟨rfl, n, rfl⟩) | (go_at_call 18; refine (implHeatOf_any _ _ _ (by assumption)).mono ?_; rintro e w' ⟨r, rfl, hr, hb⟩; obtain ⟨hT, hk⟩ := bv_next hb (by (repeat (with_reducible first | assumption | apply Trk.alloc | apply Trk.setCell | apply Trk.drewN | apply Trk.drew | exact Trk.nil _))); simp only [SameOn, World.size_alloc, World.size_setCell, World.size_drew, size_drewN', and_true] at hk; have hsz := Below.size hb; (try simp only [World.size_alloc, World.size_setCell, World.size_drew, size_drewN'] at hsz)))
    all_goals
      refine bodyPost_ret (v := .tuple #[.agg #[.slice none 0 0, .slice none 0 0, .slice none 0 0, .slice none 0 0], .slice none 0 0, .bool false]) (by simp [results, Try.results20, go_sem, *]) rfl ?_
      exact brl_no rfl (by (repeat (first | (with_reducible exact Below.refl _ _) | (with_reducible assumption) | (with_reducible refine below_then ?_ (by assumption)) | (with_reducible refine Below.trans ?_ (by assumption)) | (with_reducible refine below_drewN ?_ _) | (with_reducible apply Below.drew) | (with_reducible refine below_alloc ?_ _) | refine Below.setCell ?_ (by first | (simp; done) | (simp; omega)) _))) HE.out
  rcases h3 : inB z 0 128
  · have HE : Hid (B0 = false) := by show _ = _; rw [HB0.out]; exact runB_no (by simp [runPre, h3])
    rw [h0] at HV
    rw [h1] at HE1
    rw [h2] at HE2
    clear h0 h1 h2
    go_enter Try.func20, Try.ntmps20
    go_wp2_with (first | (with_reducible refine at_list ?_; refine wpList_wide_g rfl rfl Try.underlying28 Try.underlying39 rfl ?_; intro r n hr0; have hr := hr0 _ (by first | with_reducible assumption | exact rfl); clear hr0) | (with_reducible refine at_list ?_; refine wpList_wide rfl rfl rfl Try.underlying28 Try.underlying39 ?_; intro r n hr0; have hr := hr0 _ (by first | with_reducible assumption | exact rfl); clear hr0) | (go_at_call 35; refine ((HV.out _ (HS.out.later (by (repeat (first | (with_reducible exact Below.refl _ _) | (with_reducible assumption) | (with_reducible refine below_then ?_ (by assumption)) | (with_reducible refine Below.trans ?_ (by assumption)) | (with_reducible refine below_drewN ?_ _) | (with_reducible apply Below.drew) | (with_reducible refine below_alloc ?_ _) | refine Below.setCell ?_ (by first | (simp; done) | (simp; omega)) _))))) ).mono ?_; rintro e w' ⟨rfl, hb⟩; obtain ⟨hT, hk⟩ := bv_next hb (by (repeat (with_reducible first | assumption | apply Trk.alloc | apply Trk.setCell | apply Trk.drewN | apply Trk.drew | exact Trk.nil _))); simp only [SameOn, World.size_alloc, World.size_setCell, World.size_drew, size_drewN', and_true] at hk; have hsz := Below.size hb; (try simp only [World.size_alloc, World.size_setCell, World.size_drew, size_drewN'] at hsz)) | (go_at_call_of 36 (Value.agg #[.int .i64 E.k, .float .f32 E.t, .float .f32 E.e]); refine ((HE1.out _) ).mono ?_; rintro e w' ⟨rfl, hb⟩; obtain ⟨hT, hk⟩ := bv_next hb (by (repeat (with_reducible first | assumption | apply Trk.alloc | apply Trk.setCell | apply Trk.drewN | apply Trk.drew | exact Trk.nil _))); simp only [SameOn, World.size_alloc, World.size_setCell, World.size_drew, size_drewN', and_true] at hk; have hsz := Below.size hb; (try simp only [World.size_alloc, World.size_setCell, World.size_drew, size_drewN'] at hsz)) | (go_at_call_of 36 (Value.agg #[.int .i64 G.k, .float .f32 G.t, .float .f32 G.e]); refine ((HE2.out _) ).mono ?_; rintro e w' ⟨rfl, hb⟩; obtain ⟨hT, hk⟩ := bv_next hb (by (repeat (with_reducible first | assumption | apply Trk.alloc | apply Trk.setCell | apply Trk.drewN | apply Trk.drew | exact Trk.nil _))); simp only [SameOn, World.size_alloc, World.size_setCell, World.size_drew, size_drewN', and_true] at hk; have hsz := Below.size hb; (try simp only [World.size_alloc, World.size_setCell, World.size_drew, size_drewN'] at hsz)) | (go_at_call 52; refine (within_any _ _ _ _).mono ?_; rintro e w' ⟨rfl, n, rfl⟩) | (go_at_call 41; refine (IsFinite_any _ _).mono ?_; rintro e w' ⟨rfl, n, rfl⟩) | (go_at_call 18; refine (implHeatOf_any _ _ _ (by assumption)).mono ?_; rintro e w' ⟨r, rfl, hr, hb⟩; obtain ⟨hT, hk⟩ := bv_next hb (by (repeat (with_reducible first | assumption | apply Trk.alloc | apply Trk.setCell | apply Trk.drewN | apply Trk.drew | exact Trk.nil _))); simp only [SameOn, World.size_alloc, World.size_setCell, World.size_drew, size_drewN', and_true] at hk; have hsz := Below.size hb; (try simp only [World.size_alloc, World.size_setCell, World.size_drew, size_drewN'] at hsz)))
    all_goals
      refine bodyPost_ret (v := .tuple #[.agg #[.slice none 0 0, .slice none 0 0, .slice none 0 0, .slice none 0 0], .slice none 0 0, .bool false]) (by simp [results, Try.results20, go_sem, *]) rfl ?_
      exact brl_no rfl (by (repeat (first | (with_reducible exact Below.refl _ _) | (with_reducible assumption) | (with_reducible refine below_then ?_ (by assumption)) | (with_reducible refine Below.trans ?_ (by assumption)) | (with_reducible refine below_drewN ?_ _) | (with_reducible apply Below.drew) | (with_reducible refine below_alloc ?_ _) | refine Below.setCell ?_ (by first | (simp; done) | (simp; omega)) _))) HE.out
  rcases h4 : fin .f32 (cn .f32 t)
  · have HE : Hid (B0 = false) := by show _ = _; rw [HB0.out]; exact runB_no (by simp [runPre, lst, h4])
    rw [h0] at HV
    rw [h1] at HE1
    rw [h2] at HE2
    clear h0 h1 h2
    go_enter Try.func20, Try.ntmps20
    go_wp2_with (first | (with_reducible refine at_list ?_; refine wpList_wide_g rfl rfl Try.underlying28 Try.underlying39 rfl ?_; intro r n hr0; have hr := hr0 _ (by first | with_reducible assumption | exact rfl); clear hr0) | (with_reducible refine at_list ?_; refine wpList_wide rfl rfl rfl Try.underlying28 Try.underlying39 ?_; intro r n hr0; have hr := hr0 _ (by first | with_reducible assumption | exact rfl); clear hr0) | (go_at_call 35; refine ((HV.out _ (HS.out.later (by (repeat (first | (with_reducible exact Below.refl _ _) | (with_reducible assumption) | (with_reducible refine below_then ?_ (by assumption)) | (with_reducible refine Below.trans ?_ (by assumption)) | (with_reducible refine below_drewN ?_ _) | (with_reducible apply Below.drew) | (with_reducible refine below_alloc ?_ _) | refine Below.setCell ?_ (by first | (simp; done) | (simp; omega)) _))))) ).mono ?_; rintro e w' ⟨rfl, hb⟩; obtain ⟨hT, hk⟩ := bv_next hb (by (repeat (with_reducible first | assumption | apply Trk.alloc | apply Trk.setCell | apply Trk.drewN | apply Trk.drew | exact Trk.nil _))); simp only [SameOn, World.size_alloc, World.size_setCell, World.size_drew, size_drewN', and_true] at hk; have hsz := Below.size hb; (try simp only [World.size_alloc, World.size_setCell, World.size_drew, size_drewN'] at hsz)) | (go_at_call_of 36 (Value.agg #[.int .i64 E.k, .float .f32 E.t, .float .f32 E.e]); refine ((HE1.out _) ).mono ?_; rintro e w' ⟨rfl, hb⟩; obtain ⟨hT, hk⟩ := bv_next hb (by (repeat (with_reducible first | assumption | apply Trk.alloc | apply Trk.setCell | apply Trk.drewN | apply Trk.drew | exact Trk.nil _))); simp only [SameOn, World.size_alloc, World.size_setCell, World.size_drew, size_drewN', and_true] at hk; have hsz := Below.size hb; (try simp only [World.size_alloc, World.size_setCell, World.size_drew, size_drewN'] at hsz)) | (go_at_call_of 36 (Value.agg #[.int .i64 G.k, .float .f32 G.t, .float .f32 G.e]); refine ((HE2.out _) ).mono ?_; rintro e w' ⟨rfl, hb⟩; obtain ⟨hT, hk⟩ := bv_next hb (by (repeat (with_reducible first | assumption | apply Trk.alloc | apply Trk.setCell | apply Trk.drewN | apply Trk.drew | exact Trk.nil _))); simp only [SameOn, World.size_alloc, World.size_setCell, World.size_drew, size_drewN', and_true] at hk; have hsz := Below.size hb; (try simp only [World.size_alloc, World.size_setCell, World.size_drew, size_drewN'] at hsz)) | (go_at_call 52; refine (within_any _ _ _ _).mono ?_; rintro e w' ⟨rfl, n, rfl⟩) | (go_at_call 41; refine (IsFinite_any _ _).mono ?_; rintro e w' ⟨rfl, n, rfl⟩) | (go_at_call 18; refine (implHeatOf_any _ _ _ (by assumption)).mono ?_; rintro e w' ⟨r, rfl, hr, hb⟩; obtain ⟨hT, hk⟩ := bv_next hb (by (repeat (with_reducible first | assumption | apply Trk.alloc | apply Trk.setCell | apply Trk.drewN | apply Trk.drew | exact Trk.nil _))); simp only [SameOn, World.size_alloc, World.size_setCell, World.size_drew, size_drewN', and_true] at hk; have hsz := Below.size hb; (try simp only [World.size_alloc, World.size_setCell, World.size_drew, size_drewN'] at hsz)))
    all_goals
      refine bodyPost_ret (v := .tuple #[.agg #[.slice none 0 0, .slice none 0 0, .slice none 0 0, .slice none 0 0], .slice none 0 0, .bool false]) (by simp [results, Try.results20, go_sem, *]) rfl ?_
      exact brl_no rfl (by (repeat (first | (with_reducible exact Below.refl _ _) | (with_reducible assumption) | (with_reducible refine below_then ?_ (by assumption)) | (with_reducible refine Below.trans ?_ (by assumption)) | (with_reducible refine below_drewN ?_ _) | (with_reducible apply Below.drew) | (with_reducible refine below_alloc ?_ _) | refine Below.setCell ?_ (by first | (simp; done) | (simp; omega)) _))) HE.out
  have hge : flt .f32 (cn .f32 t) (cn .f32 0) = !fge .f32 (cn .f32 t) (cn .f32 0) := flt_not_fge (fin_not_nan h4) (by rw [isN_cn]; exact isN_lit .f32)
  rcases h5 : flt .f32 (cn .f32 t) (cn .f32 0)
  case true =>
    have HE : Hid (B0 = false) := by
      show _ = _; rw [HB0.out]
      rw [h5] at hge
      have h6 : fge .f32 (cn .f32 t) (cn .f32 0) = false := by simpa using hge.symm
      exact runB_no (by simp [runPre, lst, h6])
    rw [h0] at HV
    rw [h1] at HE1
    rw [h2] at HE2
    clear h0 h1 h2 hge
    go_enter Try.func20, Try.ntmps20
    go_wp2_with (first | (with_reducible refine at_list ?_; refine wpList_wide_g rfl rfl Try.underlying28 Try.underlying39 rfl ?_; intro r n hr0; have hr := hr0 _ (by first | with_reducible assumption | exact rfl); clear hr0) | (with_reducible refine at_list ?_; refine wpList_wide rfl rfl rfl Try.underlying28 Try.underlying39 ?_; intro r n hr0; have hr := hr0 _ (by first | with_reducible assumption | exact rfl); clear hr0) | (go_at_call 35; refine ((HV.out _ (HS.out.later (by (repeat (first | (with_reducible exact Below.refl _ _) | (with_reducible assumption) | (with_reducible refine below_then ?_ (by assumption)) | (with_reducible refine Below.trans ?_ (by assumption)) | (with_reducible refine below_drewN ?_ _) | (with_reducible apply Below.drew) | (with_reducible refine below_alloc ?_ _) | refine Below.setCell ?_ (by first | (simp; done) | (simp; omega)) _))))) ).mono ?_; rintro e w' ⟨rfl, hb⟩; obtain ⟨hT, hk⟩ := bv_next hb (by (repeat (with_reducible first | assumption | apply Trk.alloc | apply Trk.setCell | apply Trk.drewN | apply Trk.drew | exact Trk.nil _))); simp only [SameOn, World.size_alloc, World.size_setCell, World.size_drew, size_drewN', and_true] at hk; have hsz := Below.size hb; (try simp only [World.size_alloc, World.size_setCell, World.size_drew, size_drewN'] at hsz)) | (go_at_call_of 36 (Value.agg #[.int .i64 E.k, .float .f32 E.t, .float .f32 E.e]); refine ((HE1.out _) ).mono ?_; rintro e w' ⟨rfl, hb⟩; obtain ⟨hT, hk⟩ := bv_next hb (by (repeat (with_reducible first | assumption | apply Trk.alloc | apply Trk.setCell | apply Trk.drewN | apply Trk.drew | exact Trk.nil _))); simp only [SameOn, World.size_alloc, World.size_setCell, World.size_drew, size_drewN', and_true] at hk; have hsz := Below.size hb; (try simp only [World.size_alloc, World.size_setCell, World.size_drew, size_drewN'] at hsz)) | (go_at_call_of 36 (Value.agg #[.int .i64 G.k, .float .f32 G.t, .float .f32 G.e]); refine ((HE2.out _) ).mono ?_; rintro e w' ⟨rfl, hb⟩; obtain ⟨hT, hk⟩ := bv_next hb (by (repeat (with_reducible first | assumption | apply Trk.alloc | apply Trk.setCell | apply Trk.drewN | apply Trk.drew | exact Trk.nil _))); simp only [SameOn, World.size_alloc, World.size_setCell, World.size_drew, size_drewN', and_true] at hk; have hsz := Below.size hb; (try simp only [World.size_alloc, World.size_setCell, World.size_drew, size_drewN'] at hsz)) | (go_at_call 52; refine (within_any _ _ _ _).mono ?_; rintro e w' ⟨rfl, n, rfl⟩) | (go_at_call 41; refine (IsFinite_any _ _).mono ?_; rintro e w' ⟨rfl, n, rfl⟩) | (go_at_call 18; refine (implHeatOf_any _ _ _ (by assumption)).mono ?_; rintro e w' ⟨r, rfl, hr, hb⟩; obtain ⟨hT, hk⟩ := bv_next hb (by (repeat (with_reducible first | assumption | apply Trk.alloc | apply Trk.setCell | apply Trk.drewN | apply Trk.drew | exact Trk.nil _))); simp only [SameOn, World.size_alloc, World.size_setCell, World.size_drew, size_drewN', and_true] at hk; have hsz := Below.size hb; (try simp only [World.size_alloc, World.size_setCell, World.size_drew, size_drewN'] at hsz)))
    all_goals
      refine bodyPost_ret (v := .tuple #[.agg #[.slice none 0 0, .slice none 0 0, .slice none 0 0, .slice none 0 0], .slice none 0 0, .bool false]) (by simp [results, Try.results20, go_sem, *]) rfl ?_
      exact brl_no rfl (by (repeat (first | (with_reducible exact Below.refl _ _) | (with_reducible assumption) | (with_reducible refine below_then ?_ (by assumption)) | (with_reducible refine Below.trans ?_ (by assumption)) | (with_reducible refine below_drewN ?_ _) | (with_reducible apply Below.drew) | (with_reducible refine below_alloc ?_ _) | refine Below.setCell ?_ (by first | (simp; done) | (simp; omega)) _))) HE.out
  have hls : lst (cn .f32 t) = true := by
    rw [h5] at hge
    have h6 : fge .f32 (cn .f32 t) (cn .f32 0) = true := by simpa using hge.symm
    unfold lst; rw [h4, h6]; rfl
  have HP := Lib.hid h0
  have hPRE : runPre rows E G t z P = (!rows || !feq .f32 (cn .f32 t) (cn .f32 0)) := by simp [runPre, endsOk, h0, h1, h2, h3, hls]
  rw [h0] at HV
  rw [h1] at HE1
  rw [h2] at HE2
  have hin : 0 ≤ z ∧ z ≤ 128 := by simpa [inB] using h3
  obtain ⟨N, hN⟩ : ∃ N : Nat, N = z.toNat := ⟨_, rfl⟩
  obtain ⟨RK, MK, UK, OK, LK, ⟨hRK, hMK, hRS, hUK, hLK⟩, ⟨r0, u0, -, l0⟩, hUS, -, -, hLS, hLL, hOk, hStop, -, hMok, hUO⟩ := run_abs rows E G t P h0
  have HRUN : Hid (runPre rows E G t z P = true → B0 = UK N) := fun h => by rw [HB0.out, hN, hUK]; exact runB_yes h
  have HNO : Hid (runPre rows E G t z P = false → B0 = false) := fun h => by rw [HB0.out]; exact runB_no h
  have hMS : ∀ (Q : Rd) (m : RL) (w' : World), Q.fs w' m → Calls Try.prog (if rows then 12 else 15) #[.agg #[.slice m.p1 Q.a.length m.c1, .slice m.p2 Q.b.length m.c2, .slice m.p3 Q.c.length m.c3, .slice m.p4 Q.d.length m.c4], .agg #[.int .i64 E.k, .float .f32 E.t, .float .f32 E.e], .agg #[.int .i64 G.k, .float .f32 G.t, .float .f32 G.e], .float .f32 t] w' (BRB w' (okR (mvOk rows E G t Q) (mvR rows E G t Q)) (mvOk rows E G t Q)) := by
    cases rows
    · exact fun P' l' w' h => (implStep_any P' l' E G t w' h).mono fun e w' h => brb_of2 h
    · exact fun P' l' w' h => (implRows_any P' l' E G t w' h).mono fun e w' h => brb_of2 h
  have HM : Hid (∀ (k : Nat) (m : RL) (w' : World), (RK k).fs w' m → Calls Try.prog (if rows then 12 else 15) #[.agg #[.slice m.p1 (RK k).a.length m.c1, .slice m.p2 (RK k).b.length m.c2, .slice m.p3 (RK k).c.length m.c3, .slice m.p4 (RK k).d.length m.c4], .agg #[.int .i64 E.k, .float .f32 E.t, .float .f32 E.e], .agg #[.int .i64 G.k, .float .f32 G.t, .float .f32 G.e], .float .f32 t] w' (BRB w' (okR (MK k) (RK (k + 1))) (MK k))) := fun k l' w' h => by rw [hRS k, hMK k]; exact hMS (RK k) l' w' h
  rw [← hRK, ← hLK, ← hN]
  rw [hPRE] at HRUN HNO
  have HF := Lib.hid (And.intro hUS (And.intro hLS (And.intro hLL (And.intro hOk (And.intro hStop (And.intro hMok hUO))))))
  have HR0 := Lib.hid (And.intro r0 (And.intro u0 l0))
  have HNN := Lib.hid hN
  clear h0 h1 h2 hge hls hPRE hRK hMK hRS hUK hLK r0 u0 l0 hUS hLS hLL hOk hStop hMok hUO hMS HB0 hN
  cases rows
  all_goals rcases h7 : feq .f32 (cn .f32 t) (cn .f32 0)
  case true.true =>
    have HE : Hid (B0 = false) := HNO.out (by rw [h7]; rfl)
    go_enter Try.func20, Try.ntmps20
    go_wp2_with (first | (with_reducible refine at_list ?_; refine wpList_wide_g rfl rfl Try.underlying28 Try.underlying39 rfl ?_; intro r n hr0; have hr := hr0 _ (by first | with_reducible assumption | exact rfl); clear hr0) | (with_reducible refine at_list ?_; refine wpList_wide rfl rfl rfl Try.underlying28 Try.underlying39 ?_; intro r n hr0; have hr := hr0 _ (by first | with_reducible assumption | exact rfl); clear hr0) | (go_at_call 35; refine ((HV.out _ (HS.out.later (by (repeat (first | (with_reducible exact Below.refl _ _) | (with_reducible assumption) | (with_reducible refine below_then ?_ (by assumption)) | (with_reducible refine Below.trans ?_ (by assumption)) | (with_reducible refine below_drewN ?_ _) | (with_reducible apply Below.drew) | (with_reducible refine below_alloc ?_ _) | refine Below.setCell ?_ (by first | (simp; done) | (simp; omega)) _))))) ).mono ?_; rintro e w' ⟨rfl, hb⟩; obtain ⟨hT, hk⟩ := bv_next hb (by (repeat (with_reducible first | assumption | apply Trk.alloc | apply Trk.setCell | apply Trk.drewN | apply Trk.drew | exact Trk.nil _))); simp only [SameOn, World.size_alloc, World.size_setCell, World.size_drew, size_drewN', and_true] at hk; have hsz := Below.size hb; (try simp only [World.size_alloc, World.size_setCell, World.size_drew, size_drewN'] at hsz)) | (go_at_call_of 36 (Value.agg #[.int .i64 E.k, .float .f32 E.t, .float .f32 E.e]); refine ((HE1.out _) ).mono ?_; rintro e w' ⟨rfl, hb⟩; obtain ⟨hT, hk⟩ := bv_next hb (by (repeat (with_reducible first | assumption | apply Trk.alloc | apply Trk.setCell | apply Trk.drewN | apply Trk.drew | exact Trk.nil _))); simp only [SameOn, World.size_alloc, World.size_setCell, World.size_drew, size_drewN', and_true] at hk; have hsz := Below.size hb; (try simp only [World.size_alloc, World.size_setCell, World.size_drew, size_drewN'] at hsz)) | (go_at_call_of 36 (Value.agg #[.int .i64 G.k, .float .f32 G.t, .float .f32 G.e]); refine ((HE2.out _) ).mono ?_; rintro e w' ⟨rfl, hb⟩; obtain ⟨hT, hk⟩ := bv_next hb (by (repeat (with_reducible first | assumption | apply Trk.alloc | apply Trk.setCell | apply Trk.drewN | apply Trk.drew | exact Trk.nil _))); simp only [SameOn, World.size_alloc, World.size_setCell, World.size_drew, size_drewN', and_true] at hk; have hsz := Below.size hb; (try simp only [World.size_alloc, World.size_setCell, World.size_drew, size_drewN'] at hsz)) | (go_at_call 52; refine (within_any _ _ _ _).mono ?_; rintro e w' ⟨rfl, n, rfl⟩) | (go_at_call 41; refine (IsFinite_any _ _).mono ?_; rintro e w' ⟨rfl, n, rfl⟩) | (go_at_call 18; refine (implHeatOf_any _ _ _ (by assumption)).mono ?_; rintro e w' ⟨r, rfl, hr, hb⟩; obtain ⟨hT, hk⟩ := bv_next hb (by (repeat (with_reducible first | assumption | apply Trk.alloc | apply Trk.setCell | apply Trk.drewN | apply Trk.drew | exact Trk.nil _))); simp only [SameOn, World.size_alloc, World.size_setCell, World.size_drew, size_drewN', and_true] at hk; have hsz := Below.size hb; (try simp only [World.size_alloc, World.size_setCell, World.size_drew, size_drewN'] at hsz)))
    all_goals
      refine bodyPost_ret (v := .tuple #[.agg #[.slice none 0 0, .slice none 0 0, .slice none 0 0, .slice none 0 0], .slice none 0 0, .bool false]) (by simp [results, Try.results20, go_sem, *]) rfl ?_
      exact brl_no rfl (by (repeat (first | (with_reducible exact Below.refl _ _) | (with_reducible assumption) | (with_reducible refine below_then ?_ (by assumption)) | (with_reducible refine Below.trans ?_ (by assumption)) | (with_reducible refine below_drewN ?_ _) | (with_reducible apply Below.drew) | (with_reducible refine below_alloc ?_ _) | refine Below.setCell ?_ (by first | (simp; done) | (simp; omega)) _))) HE.out
  all_goals
    have HU : Hid (B0 = UK N) := HRUN.out (by first | rfl | (rw [h7]; rfl))
    have hmx : (z.toNat : Int) = z := by omega
    have HMX := Lib.hid hmx
    have HLN := Lib.hid (Rd.ok_len HP.out)
    simp only [if_true, if_false, Bool.false_eq_true] at HM
    clear HRUN HNO hmx
    go_enter Try.func20, Try.ntmps20
    go_wp2_with (first | (with_reducible refine at_list ?_; refine wpList_wide_g rfl rfl Try.underlying28 Try.underlying39 rfl ?_; intro r n hr0; have hr := hr0 _ (by first | with_reducible assumption | exact rfl); clear hr0) | (with_reducible refine at_list ?_; refine wpList_wide rfl rfl rfl Try.underlying28 Try.underlying39 ?_; intro r n hr0; have hr := hr0 _ (by first | with_reducible assumption | exact rfl); clear hr0) | (go_at_call 40; refine stop_here ?_) | (go_at_call 35; refine ((HV.out _ (HS.out.later (by (repeat (first | (with_reducible exact Below.refl _ _) | (with_reducible assumption) | (with_reducible refine below_then ?_ (by assumption)) | (with_reducible refine Below.trans ?_ (by assumption)) | (with_reducible refine below_drewN ?_ _) | (with_reducible apply Below.drew) | (with_reducible refine below_alloc ?_ _) | refine Below.setCell ?_ (by first | (simp; done) | (simp; omega)) _))))) ).mono ?_; rintro e w' ⟨rfl, hb⟩; obtain ⟨hT, hk⟩ := bv_next hb (by (repeat (with_reducible first | assumption | apply Trk.alloc | apply Trk.setCell | apply Trk.drewN | apply Trk.drew | exact Trk.nil _))); simp only [SameOn, World.size_alloc, World.size_setCell, World.size_drew, size_drewN', and_true] at hk; have hsz := Below.size hb; (try simp only [World.size_alloc, World.size_setCell, World.size_drew, size_drewN'] at hsz)) | (go_at_call_of 36 (Value.agg #[.int .i64 E.k, .float .f32 E.t, .float .f32 E.e]); refine ((HE1.out _) ).mono ?_; rintro e w' ⟨rfl, hb⟩; obtain ⟨hT, hk⟩ := bv_next hb (by (repeat (with_reducible first | assumption | apply Trk.alloc | apply Trk.setCell | apply Trk.drewN | apply Trk.drew | exact Trk.nil _))); simp only [SameOn, World.size_alloc, World.size_setCell, World.size_drew, size_drewN', and_true] at hk; have hsz := Below.size hb; (try simp only [World.size_alloc, World.size_setCell, World.size_drew, size_drewN'] at hsz)) | (go_at_call_of 36 (Value.agg #[.int .i64 G.k, .float .f32 G.t, .float .f32 G.e]); refine ((HE2.out _) ).mono ?_; rintro e w' ⟨rfl, hb⟩; obtain ⟨hT, hk⟩ := bv_next hb (by (repeat (with_reducible first | assumption | apply Trk.alloc | apply Trk.setCell | apply Trk.drewN | apply Trk.drew | exact Trk.nil _))); simp only [SameOn, World.size_alloc, World.size_setCell, World.size_drew, size_drewN', and_true] at hk; have hsz := Below.size hb; (try simp only [World.size_alloc, World.size_setCell, World.size_drew, size_drewN'] at hsz)) | (go_at_call 52; refine (within_any _ _ _ _).mono ?_; rintro e w' ⟨rfl, n, rfl⟩) | (go_at_call 41; refine (IsFinite_any _ _).mono ?_; rintro e w' ⟨rfl, n, rfl⟩) | (go_at_call 18; refine (implHeatOf_any _ _ _ (by assumption)).mono ?_; rintro e w' ⟨r, rfl, hr, hb⟩; obtain ⟨hT, hk⟩ := bv_next hb (by (repeat (with_reducible first | assumption | apply Trk.alloc | apply Trk.setCell | apply Trk.drewN | apply Trk.drew | exact Trk.nil _))); simp only [SameOn, World.size_alloc, World.size_setCell, World.size_drew, size_drewN', and_true] at hk; have hsz := Below.size hb; (try simp only [World.size_alloc, World.size_setCell, World.size_drew, size_drewN'] at hsz)))
    unfold Stop
    refine (withWarms_yes P l P.d _ _ (HS.out.later (by (repeat (first | (with_reducible exact Below.refl _ _) | (with_reducible assumption) | (with_reducible refine below_then ?_ (by assumption)) | (with_reducible refine Below.trans ?_ (by assumption)) | (with_reducible refine below_drewN ?_ _) | (with_reducible apply Below.drew) | (with_reducible refine below_alloc ?_ _) | refine Below.setCell ?_ (by first | (simp; done) | (simp; omega)) _)))) (HS.out.later (by (repeat (first | (with_reducible exact Below.refl _ _) | (with_reducible assumption) | (with_reducible refine below_then ?_ (by assumption)) | (with_reducible refine Below.trans ?_ (by assumption)) | (with_reducible refine below_drewN ?_ _) | (with_reducible apply Below.drew) | (with_reducible refine below_alloc ?_ _) | refine Below.setCell ?_ (by first | (simp; done) | (simp; omega)) _)))).2.2.2 (by have := HLN.out; omega) HP.out).mono ?_
    rename World => wa
    rintro e w' ⟨m0, rfl, hb, hX⟩
    obtain ⟨hT, hk⟩ := bv_next hb (by (repeat (with_reducible first | assumption | apply Trk.alloc | apply Trk.setCell | apply Trk.drewN | apply Trk.drew | exact Trk.nil _))); simp only [SameOn, World.size_alloc, World.size_setCell, World.size_drew, size_drewN', and_true] at hk; have hsz := Below.size hb; (try simp only [World.size_alloc, World.size_setCell, World.size_drew, size_drewN'] at hsz)
    have HX := Lib.hid hX
    clear hX
    go_wp2_with (first | (with_reducible refine at_list ?_; refine wpList_wide_g rfl rfl Try.underlying28 Try.underlying39 rfl ?_; intro r n hr0; have hr := hr0 _ (by first | with_reducible assumption | exact rfl); clear hr0) | (with_reducible refine at_list ?_; refine wpList_wide rfl rfl rfl Try.underlying28 Try.underlying39 ?_; intro r n hr0; have hr := hr0 _ (by first | with_reducible assumption | exact rfl); clear hr0) | (go_at_call 35; refine (implValidRod_any _ _ _ (by assumption)).mono ?_; rintro e w' ⟨rfl, hb⟩; obtain ⟨hT, hk⟩ := bv_next hb (by (repeat (with_reducible first | assumption | apply Trk.alloc | apply Trk.setCell | apply Trk.drewN | apply Trk.drew | exact Trk.nil _))); simp only [SameOn, World.size_alloc, World.size_setCell, World.size_drew, size_drewN', and_true] at hk; have hsz := Below.size hb; (try simp only [World.size_alloc, World.size_setCell, World.size_drew, size_drewN'] at hsz)) | (go_at_call 36; refine (implValidEnd_any _ _).mono ?_; rintro e w' ⟨rfl, hb⟩; obtain ⟨hT, hk⟩ := bv_next hb (by (repeat (with_reducible first | assumption | apply Trk.alloc | apply Trk.setCell | apply Trk.drewN | apply Trk.drew | exact Trk.nil _))); simp only [SameOn, World.size_alloc, World.size_setCell, World.size_drew, size_drewN', and_true] at hk; have hsz := Below.size hb; (try simp only [World.size_alloc, World.size_setCell, World.size_drew, size_drewN'] at hsz)) | (go_at_call 52; refine (within_any _ _ _ _).mono ?_; rintro e w' ⟨rfl, n, rfl⟩) | (go_at_call 41; refine (IsFinite_any _ _).mono ?_; rintro e w' ⟨rfl, n, rfl⟩) | (go_at_call 18; refine (implHeatOf_any _ _ _ (by assumption)).mono ?_; rintro e w' ⟨r, rfl, hr, hb⟩; obtain ⟨hT, hk⟩ := bv_next hb (by (repeat (with_reducible first | assumption | apply Trk.alloc | apply Trk.setCell | apply Trk.drewN | apply Trk.drew | exact Trk.nil _))); simp only [SameOn, World.size_alloc, World.size_setCell, World.size_drew, size_drewN', and_true] at hk; have hsz := Below.size hb; (try simp only [World.size_alloc, World.size_setCell, World.size_drew, size_drewN'] at hsz)))
    refine wp_named ?_
    intro ws hws
    obtain ⟨B, b17, hBw, hB17, HBS, HRA, HEN, HR8⟩ : ∃ B b17, w.heap.size + 4 ≤ B ∧ (B ≤ w'.heap.size ∧ b17 = w'.heap.size) ∧ Hid (Below w.heap.size w ws ∧ b17 < ws.heap.size) ∧ Hid (RunAt B ws b17 P m0 (some ⟨wa.heap.size, 0, none⟩) 0 []) ∧ Hid ((ws.cell? ⟨w.heap.size + 1, 0, none⟩ = some (.int .i64 E.k) ∧ ws.cell? ⟨w.heap.size + 1, 1, none⟩ = some (.float .f32 E.t) ∧ ws.cell? ⟨w.heap.size + 1, 2, none⟩ = some (.float .f32 E.e)) ∧ (ws.cell? ⟨w.heap.size + 2, 0, none⟩ = some (.int .i64 G.k) ∧ ws.cell? ⟨w.heap.size + 2, 1, none⟩ = some (.float .f32 G.t) ∧ ws.cell? ⟨w.heap.size + 2, 2, none⟩ = some (.float .f32 G.e))) ∧ Hid (ws.cell? ⟨w.heap.size + 3, 0, none⟩ = some (.slice none 0 0) ∧ ws.cell? ⟨w.heap.size + 3, 1, none⟩ = some (.slice none 0 0) ∧ ws.cell? ⟨w.heap.size + 3, 2, none⟩ = some (.slice none 0 0) ∧ ws.cell? ⟨w.heap.size + 3, 3, none⟩ = some (.slice none 0 0) ∧ ∀ o, ws.frozen? ⟨w.heap.size + 3, o, none⟩ = false) := by
      have hsz' := hb.size
      simp only [World.size_alloc, World.size_setCell, World.size_drew, size_drewN'] at hsz'
      have hX := HX.out
      simp only [World.size_alloc, World.size_setCell, World.size_drew, size_drewN'] at hX
      have hlw : w.heap.size + 4 ≤ wa.heap.size := by first | omega | (simp at *; omega)
      refine ⟨wa.heap.size, w'.heap.size, hlw, ⟨by omega, rfl⟩, ?_, ?_, ?_, ?_⟩
      · rw [hws]; exact ⟨by (repeat (first | (with_reducible exact Below.refl _ _) | (with_reducible assumption) | (with_reducible refine below_then ?_ (by assumption)) | (with_reducible refine Below.trans ?_ (by assumption)) | (with_reducible refine below_drewN ?_ _) | (with_reducible apply Below.drew) | (with_reducible refine below_alloc ?_ _) | refine Below.setCell ?_ (by first | (simp; done) | (simp; omega)) _)), by first | (simp; done) | (simp; omega)⟩
      · rw [hws]
        refine ⟨⟨?_, by omega⟩, (hX.ra (B' := wa.heap.size) (by omega)).later (by (repeat (first | (with_reducible exact Below.refl _ _) | (with_reducible assumption) | (with_reducible refine below_then ?_ (by assumption)) | (with_reducible refine Below.trans ?_ (by assumption)) | (with_reducible refine below_drewN ?_ _) | (with_reducible apply Below.drew) | (with_reducible refine below_alloc ?_ _) | refine Below.setCell ?_ (by first | (simp; done) | (simp; omega)) _))), OF.later (OF.empty wa 28 rfl (Nat.le_refl _) rfl) (by (repeat (first | (with_reducible exact Below.refl _ _) | (with_reducible assumption) | (with_reducible refine below_then ?_ (by assumption)) | (with_reducible refine Below.trans ?_ (by assumption)) | (with_reducible refine below_drewN ?_ _) | (with_reducible apply Below.drew) | (with_reducible refine below_alloc ?_ _) | refine Below.setCell ?_ (by first | (simp; done) | (simp; omega)) _))), fun k hk => by (have e : wa.heap.size = k := by cases hk; rfl); omega, ?_⟩
        · intro j x hj
          match j, hj with
          | 0, hj => simp at hj; subst hj; exact ⟨by go_simp, by go_simp⟩
          | 1, hj => simp at hj; subst hj; exact ⟨by go_simp, by go_simp⟩
          | 2, hj => simp at hj; subst hj; exact ⟨by go_simp, by go_simp⟩
          | 3, hj => simp at hj; subst hj; exact ⟨by go_simp, by go_simp⟩
          | j + 4, hj => simp at hj
        · refine ⟨?_, ?_, ?_, ?_⟩
          · rintro a a' ha ha'; cases ha; have := (OF.block hX.1.1.1 a'.block (by rw [ha']; rfl)).1; show wa.heap.size ≠ a'.block; omega
          · rintro a a' ha ha'; cases ha; have := (OF.block hX.1.1.2.1 a'.block (by rw [ha']; rfl)).1; show wa.heap.size ≠ a'.block; omega
          · rintro a a' ha ha'; cases ha; have := (OF.block hX.1.1.2.2.1 a'.block (by rw [ha']; rfl)).1; show wa.heap.size ≠ a'.block; omega
          · rintro a a' ha ha'; cases ha; have := (OF.block hX.1.1.2.2.2 a'.block (by rw [ha']; rfl)).1; show wa.heap.size ≠ a'.block; omega
      · rw [hws]; exact ⟨⟨by go_simp, by go_simp, by go_simp⟩, by go_simp, by go_simp, by go_simp⟩
      · rw [hws]; exact ⟨by go_simp, by go_simp, by go_simp, by go_simp, fun o => by go_simp⟩
    rw [← hB17.2]
    have HBB := Lib.hid hB17.1
    clear hws hb hk hT hsz HX hB17 HV HE1 HE2 HS
    go_loopw [15, 68] (fun u q68 wr => ∃ (k c : Nat) (q : Option Addr) (ys : List Nat) (m : RL), k ≤ N ∧ q68 = .int .i64 (k : Int) ∧ u = .slice q ys.length c ∧ ys.length = k ∧ Hid (RunAt B wr b17 (RK k) m q c ys) ∧ Hid (ys.map (cn .f32) = LK k) ∧ Hid (UK k = true) ∧ Below B ws wr) (fun _ q68 _ => N - (intOf q68).toNat)
    case atStart => exact ⟨0, 0, _, [], m0, Nat.zero_le _, rfl, rfl, rfl, by show RunAt _ _ _ _ _ _ _ _; rw [HR0.out.1]; exact HRA.out, by show _ = _; rw [HR0.out.2.2]; rfl, HR0.out.2.1, Below.refl _ _⟩
    case round =>
      obtain ⟨k, c, q, ys, m, hkN, rfl, rfl, hyl, HAT, HL, HUK, hB⟩ := hrel
      have hzr := hB.size
      have hBr : Below w.heap.size w wr := HBS.out.1.trans (hB.mono (by omega))
      obtain ⟨en0, en1⟩ := HEN.out
      have en0 : wr.cell? ⟨w.heap.size + 1, 0, none⟩ = some (.int .i64 E.k) ∧ wr.cell? ⟨w.heap.size + 1, 1, none⟩ = some (.float .f32 E.t) ∧ wr.cell? ⟨w.heap.size + 1, 2, none⟩ = some (.float .f32 E.e) := ⟨(hB.cell (p := ⟨w.heap.size + 1, 0, none⟩) (by show w.heap.size + 1 < B; omega)).trans en0.1, (hB.cell (p := ⟨w.heap.size + 1, 1, none⟩) (by show w.heap.size + 1 < B; omega)).trans en0.2.1, (hB.cell (p := ⟨w.heap.size + 1, 2, none⟩) (by show w.heap.size + 1 < B; omega)).trans en0.2.2⟩
      have en1 : wr.cell? ⟨w.heap.size + 2, 0, none⟩ = some (.int .i64 G.k) ∧ wr.cell? ⟨w.heap.size + 2, 1, none⟩ = some (.float .f32 G.t) ∧ wr.cell? ⟨w.heap.size + 2, 2, none⟩ = some (.float .f32 G.e) := ⟨(hB.cell (p := ⟨w.heap.size + 2, 0, none⟩) (by show w.heap.size + 2 < B; omega)).trans en1.1, (hB.cell (p := ⟨w.heap.size + 2, 1, none⟩) (by show w.heap.size + 2 < B; omega)).trans en1.2.1, (hB.cell (p := ⟨w.heap.size + 2, 2, none⟩) (by show w.heap.size + 2 < B; omega)).trans en1.2.2⟩
      obtain ⟨a0, a1, a2⟩ := en0
      obtain ⟨e0, e1, e2⟩ := en1
      obtain ⟨q0, q1, q2, q3, qf⟩ := HR8.out
      have hl3 : w.heap.size + 3 < B := by omega
      have q0 := (hB.cell (p := ⟨w.heap.size + 3, 0, none⟩) hl3).trans q0
      have q1 := (hB.cell (p := ⟨w.heap.size + 3, 1, none⟩) hl3).trans q1
      have q2 := (hB.cell (p := ⟨w.heap.size + 3, 2, none⟩) hl3).trans q2
      have q3 := (hB.cell (p := ⟨w.heap.size + 3, 3, none⟩) hl3).trans q3
      have qf : ∀ o, wr.frozen? ⟨w.heap.size + 3, o, none⟩ = false := fun o => (hB.frozen (p := ⟨w.heap.size + 3, o, none⟩) hl3).trans (qf o)
      have g0 := (HAT.out.1.1 0 _ rfl).1
      have g1 := (HAT.out.1.1 1 _ rfl).1
      have g2 := (HAT.out.1.1 2 _ rfl).1
      have g3 := (HAT.out.1.1 3 _ rfl).1
      have hb17 : b17 < wr.heap.size := World.block_lt_of_cell? _ _ g0
      have hbB : B ≤ b17 := HAT.out.1.2
      have hT : Trk wr [b17, w.heap.size + 3, w.heap.size + 1, w.heap.size + 2] := ((((Trk.nil wr).more (by omega)).more (by omega)).more (by omega)).more hb17
      have HZ := Lib.hid hzr
      have HZ' : Hid (B ≤ wr.heap.size) := by show _ ≤ _; omega
      have HYL := Lib.hid hyl
      have HBr := Lib.hid hBr
      have HBW := Lib.hid hB
      by_cases hlt : k < N
      · have hlti : (k : Int) < z := by have := HMX.out; have := HNN.out; omega
        have hwb : b17 < wr.heap.size := hb17
        have HFS : Hid ((RK k).fs wr m) := HAT.out.2.1.1.fs
        have HMK := Lib.hid (HM.out k)
        rcases hmk : MK k
        · rw [hmk, okR_no rfl] at HMK
          have HE : Hid (B0 = false) := by
            show _ = _
            rw [HU.out]
            exact HF.out.2.2.2.2.1 (k + 1) N (by rw [HF.out.1 k, hmk]; simp) (by omega)
          clear hmk hB hyl hzr hb17
          go_wp2_with (first | (with_reducible refine at_list ?_; refine wpList_wide_g rfl rfl Try.underlying28 Try.underlying39 rfl ?_; intro r n hr0; have hr := hr0 _ (by first | with_reducible assumption | exact rfl); clear hr0) | (with_reducible refine at_list ?_; refine wpList_wide rfl rfl rfl Try.underlying28 Try.underlying39 ?_; intro r n hr0; have hr := hr0 _ (by first | with_reducible assumption | exact rfl); clear hr0) | (go_at_call 15; refine stop_here ?_) | (go_at_call 12; refine stop_here ?_) | (go_at_call 35; refine (implValidRod_any _ _ _ (by assumption)).mono ?_; rintro e w' ⟨rfl, hb⟩; obtain ⟨hT, hk⟩ := bv_next hb (by (repeat (with_reducible first | assumption | apply Trk.alloc | apply Trk.setCell | apply Trk.drewN | apply Trk.drew | exact Trk.nil _))); simp only [SameOn, World.size_alloc, World.size_setCell, World.size_drew, size_drewN', and_true] at hk; have hsz := Below.size hb; (try simp only [World.size_alloc, World.size_setCell, World.size_drew, size_drewN'] at hsz)) | (go_at_call 36; refine (implValidEnd_any _ _).mono ?_; rintro e w' ⟨rfl, hb⟩; obtain ⟨hT, hk⟩ := bv_next hb (by (repeat (with_reducible first | assumption | apply Trk.alloc | apply Trk.setCell | apply Trk.drewN | apply Trk.drew | exact Trk.nil _))); simp only [SameOn, World.size_alloc, World.size_setCell, World.size_drew, size_drewN', and_true] at hk; have hsz := Below.size hb; (try simp only [World.size_alloc, World.size_setCell, World.size_drew, size_drewN'] at hsz)) | (go_at_call 52; refine (within_any _ _ _ _).mono ?_; rintro e w' ⟨rfl, n, rfl⟩) | (go_at_call 41; refine (IsFinite_any _ _).mono ?_; rintro e w' ⟨rfl, n, rfl⟩) | (go_at_call 18; refine (implHeatOf_any _ _ _ (by assumption)).mono ?_; rintro e w' ⟨r, rfl, hr, hb⟩; obtain ⟨hT, hk⟩ := bv_next hb (by (repeat (with_reducible first | assumption | apply Trk.alloc | apply Trk.setCell | apply Trk.drewN | apply Trk.drew | exact Trk.nil _))); simp only [SameOn, World.size_alloc, World.size_setCell, World.size_drew, size_drewN', and_true] at hk; have hsz := Below.size hb; (try simp only [World.size_alloc, World.size_setCell, World.size_drew, size_drewN'] at hsz)))
          unfold Stop
          refine (HMK.out m _ (HFS.out.later (by (repeat (first | (with_reducible exact Below.refl _ _) | (with_reducible assumption) | (with_reducible refine below_then ?_ (by assumption)) | (with_reducible refine Below.trans ?_ (by assumption)) | (with_reducible refine below_drewN ?_ _) | (with_reducible apply Below.drew) | (with_reducible refine below_alloc ?_ _) | refine Below.setCell ?_ (by first | (simp; done) | (simp; omega)) _))))).mono ?_
          rintro e w' ⟨mq, rfl, hb, hX⟩
          obtain ⟨hT, hk⟩ := bv_next hb (by (repeat (with_reducible first | assumption | apply Trk.alloc | apply Trk.setCell | apply Trk.drewN | apply Trk.drew | exact Trk.nil _))); simp only [SameOn, World.size_alloc, World.size_setCell, World.size_drew, size_drewN', and_true] at hk; have hsz := Below.size hb; (try simp only [World.size_alloc, World.size_setCell, World.size_drew, size_drewN'] at hsz)
          have HXF : Hid (nilRd.fs w' mq) := hX.fs
          clear hX
          go_wp2_with (first | (with_reducible refine at_list ?_; refine wpList_wide_g rfl rfl Try.underlying28 Try.underlying39 rfl ?_; intro r n hr0; have hr := hr0 _ (by first | with_reducible assumption | exact rfl); clear hr0) | (with_reducible refine at_list ?_; refine wpList_wide rfl rfl rfl Try.underlying28 Try.underlying39 ?_; intro r n hr0; have hr := hr0 _ (by first | with_reducible assumption | exact rfl); clear hr0) | (go_at_call 35; refine (implValidRod_any _ _ _ (by assumption)).mono ?_; rintro e w' ⟨rfl, hb⟩; obtain ⟨hT, hk⟩ := bv_next hb (by (repeat (with_reducible first | assumption | apply Trk.alloc | apply Trk.setCell | apply Trk.drewN | apply Trk.drew | exact Trk.nil _))); simp only [SameOn, World.size_alloc, World.size_setCell, World.size_drew, size_drewN', and_true] at hk; have hsz := Below.size hb; (try simp only [World.size_alloc, World.size_setCell, World.size_drew, size_drewN'] at hsz)) | (go_at_call 36; refine (implValidEnd_any _ _).mono ?_; rintro e w' ⟨rfl, hb⟩; obtain ⟨hT, hk⟩ := bv_next hb (by (repeat (with_reducible first | assumption | apply Trk.alloc | apply Trk.setCell | apply Trk.drewN | apply Trk.drew | exact Trk.nil _))); simp only [SameOn, World.size_alloc, World.size_setCell, World.size_drew, size_drewN', and_true] at hk; have hsz := Below.size hb; (try simp only [World.size_alloc, World.size_setCell, World.size_drew, size_drewN'] at hsz)) | (go_at_call 52; refine (within_any _ _ _ _).mono ?_; rintro e w' ⟨rfl, n, rfl⟩) | (go_at_call 41; refine (IsFinite_any _ _).mono ?_; rintro e w' ⟨rfl, n, rfl⟩) | (go_at_call 18; refine ((implHeatOf_any nilRd mq _ (HXF.out.later (by (repeat (first | (with_reducible exact Below.refl _ _) | (with_reducible assumption) | (with_reducible refine below_then ?_ (by assumption)) | (with_reducible refine Below.trans ?_ (by assumption)) | (with_reducible refine below_drewN ?_ _) | (with_reducible apply Below.drew) | (with_reducible refine below_alloc ?_ _) | refine Below.setCell ?_ (by first | (simp; done) | (simp; omega)) _))))) ).mono ?_; rintro e w' ⟨r, rfl, hr, hb⟩; obtain ⟨hT, hk⟩ := bv_next hb (by (repeat (with_reducible first | assumption | apply Trk.alloc | apply Trk.setCell | apply Trk.drewN | apply Trk.drew | exact Trk.nil _))); simp only [SameOn, World.size_alloc, World.size_setCell, World.size_drew, size_drewN', and_true] at hk; have hsz := Below.size hb; (try simp only [World.size_alloc, World.size_setCell, World.size_drew, size_drewN'] at hsz)))
          refine bodyPost_ret (v := .tuple #[.agg #[.slice none 0 0, .slice none 0 0, .slice none 0 0, .slice none 0 0], .slice none 0 0, .bool false]) (by simp [results, Try.results20, go_sem, *]) rfl ?_
          exact brl_no rfl (by (repeat (first | (with_reducible exact Below.refl _ _) | (with_reducible assumption) | (with_reducible refine below_then ?_ (by assumption)) | (with_reducible refine Below.trans ?_ (by assumption)) | (with_reducible refine below_drewN ?_ _) | (with_reducible apply Below.drew) | (with_reducible refine below_alloc ?_ _) | refine Below.setCell ?_ (by first | (simp; done) | (simp; omega)) _))) HE.out
        · rw [hmk, okR_yes rfl] at HMK
          have hOK1 : (RK (k + 1)).ok = true := HF.out.2.2.2.2.2.1 k hmk
          have HHT : Hid (∀ (m : RL) (w : World), (RK (k + 1)).fs w m → Calls Try.prog 18 #[.agg #[.slice m.p1 (RK (k + 1)).a.length m.c1, .slice m.p2 (RK (k + 1)).b.length m.c2, .slice m.p3 (RK (k + 1)).c.length m.c3, .slice m.p4 (RK (k + 1)).d.length m.c4]] w (BFB w .f32 (chk (htV (RK (k + 1)))) (fin .f32 (htV (RK (k + 1)))))) := fun m w h => by
            have h2 := implHeatOf_any (RK (k + 1)) m w h
            rw [hOK1] at h2
            exact h2
          have HU1 : Hid (UK (k + 1) = fin .f32 (htV (RK (k + 1)))) := by show _ = _; rw [HF.out.1 k, HUK.out, hmk]; rfl
          have HL1 : Hid (LK (k + 1) = LK k ++ [htV (RK (k + 1))]) := HF.out.2.1 k
          obtain ⟨R1, hR1⟩ : ∃ R1, R1 = RK (k + 1) := ⟨_, rfl⟩
          rw [← hR1] at HMK HHT HU1 HL1
          have HR1 := Lib.hid hR1
          clear hR1 hOK1 hmk
          rcases hf : fin .f32 (htV R1)
          · rw [hf] at HHT HU1
            have HE : Hid (B0 = false) := by
              show _ = _
              rw [HU.out]
              exact HF.out.2.2.2.2.1 (k + 1) N HU1.out (by omega)
            clear hf hB hyl hzr hb17
            go_wp2_with (first | (with_reducible refine at_list ?_; refine wpList_wide_g rfl rfl Try.underlying28 Try.underlying39 rfl ?_; intro r n hr0; have hr := hr0 _ (by first | with_reducible assumption | exact rfl); clear hr0) | (with_reducible refine at_list ?_; refine wpList_wide rfl rfl rfl Try.underlying28 Try.underlying39 ?_; intro r n hr0; have hr := hr0 _ (by first | with_reducible assumption | exact rfl); clear hr0) | (go_at_call 15; refine stop_here ?_) | (go_at_call 12; refine stop_here ?_) | (go_at_call 35; refine (implValidRod_any _ _ _ (by assumption)).mono ?_; rintro e w' ⟨rfl, hb⟩; obtain ⟨hT, hk⟩ := bv_next hb (by (repeat (with_reducible first | assumption | apply Trk.alloc | apply Trk.setCell | apply Trk.drewN | apply Trk.drew | exact Trk.nil _))); simp only [SameOn, World.size_alloc, World.size_setCell, World.size_drew, size_drewN', and_true] at hk; have hsz := Below.size hb; (try simp only [World.size_alloc, World.size_setCell, World.size_drew, size_drewN'] at hsz)) | (go_at_call 36; refine (implValidEnd_any _ _).mono ?_; rintro e w' ⟨rfl, hb⟩; obtain ⟨hT, hk⟩ := bv_next hb (by (repeat (with_reducible first | assumption | apply Trk.alloc | apply Trk.setCell | apply Trk.drewN | apply Trk.drew | exact Trk.nil _))); simp only [SameOn, World.size_alloc, World.size_setCell, World.size_drew, size_drewN', and_true] at hk; have hsz := Below.size hb; (try simp only [World.size_alloc, World.size_setCell, World.size_drew, size_drewN'] at hsz)) | (go_at_call 52; refine (within_any _ _ _ _).mono ?_; rintro e w' ⟨rfl, n, rfl⟩) | (go_at_call 41; refine (IsFinite_any _ _).mono ?_; rintro e w' ⟨rfl, n, rfl⟩) | (go_at_call 18; refine (implHeatOf_any _ _ _ (by assumption)).mono ?_; rintro e w' ⟨r, rfl, hr, hb⟩; obtain ⟨hT, hk⟩ := bv_next hb (by (repeat (with_reducible first | assumption | apply Trk.alloc | apply Trk.setCell | apply Trk.drewN | apply Trk.drew | exact Trk.nil _))); simp only [SameOn, World.size_alloc, World.size_setCell, World.size_drew, size_drewN', and_true] at hk; have hsz := Below.size hb; (try simp only [World.size_alloc, World.size_setCell, World.size_drew, size_drewN'] at hsz)))
            unfold Stop
            refine (HMK.out m _ (HFS.out.later (by (repeat (first | (with_reducible exact Below.refl _ _) | (with_reducible assumption) | (with_reducible refine below_then ?_ (by assumption)) | (with_reducible refine Below.trans ?_ (by assumption)) | (with_reducible refine below_drewN ?_ _) | (with_reducible apply Below.drew) | (with_reducible refine below_alloc ?_ _) | refine Below.setCell ?_ (by first | (simp; done) | (simp; omega)) _))))).mono ?_
            rintro e w' ⟨mq, rfl, hb, hX⟩
            obtain ⟨hT, hk⟩ := bv_next hb (by (repeat (with_reducible first | assumption | apply Trk.alloc | apply Trk.setCell | apply Trk.drewN | apply Trk.drew | exact Trk.nil _))); simp only [SameOn, World.size_alloc, World.size_setCell, World.size_drew, size_drewN', and_true] at hk; have hsz := Below.size hb; (try simp only [World.size_alloc, World.size_setCell, World.size_drew, size_drewN'] at hsz)
            have HXF : Hid (R1.fs w' mq) := hX.fs
            clear hX
            go_wp2_with (first | (with_reducible refine at_list ?_; refine wpList_wide_g rfl rfl Try.underlying28 Try.underlying39 rfl ?_; intro r n hr0; have hr := hr0 _ (by first | with_reducible assumption | exact rfl); clear hr0) | (with_reducible refine at_list ?_; refine wpList_wide rfl rfl rfl Try.underlying28 Try.underlying39 ?_; intro r n hr0; have hr := hr0 _ (by first | with_reducible assumption | exact rfl); clear hr0) | (go_at_call 35; refine (implValidRod_any _ _ _ (by assumption)).mono ?_; rintro e w' ⟨rfl, hb⟩; obtain ⟨hT, hk⟩ := bv_next hb (by (repeat (with_reducible first | assumption | apply Trk.alloc | apply Trk.setCell | apply Trk.drewN | apply Trk.drew | exact Trk.nil _))); simp only [SameOn, World.size_alloc, World.size_setCell, World.size_drew, size_drewN', and_true] at hk; have hsz := Below.size hb; (try simp only [World.size_alloc, World.size_setCell, World.size_drew, size_drewN'] at hsz)) | (go_at_call 36; refine (implValidEnd_any _ _).mono ?_; rintro e w' ⟨rfl, hb⟩; obtain ⟨hT, hk⟩ := bv_next hb (by (repeat (with_reducible first | assumption | apply Trk.alloc | apply Trk.setCell | apply Trk.drewN | apply Trk.drew | exact Trk.nil _))); simp only [SameOn, World.size_alloc, World.size_setCell, World.size_drew, size_drewN', and_true] at hk; have hsz := Below.size hb; (try simp only [World.size_alloc, World.size_setCell, World.size_drew, size_drewN'] at hsz)) | (go_at_call 52; refine (within_any _ _ _ _).mono ?_; rintro e w' ⟨rfl, n, rfl⟩) | (go_at_call 41; refine (IsFinite_any _ _).mono ?_; rintro e w' ⟨rfl, n, rfl⟩) | (go_at_call 18; refine ((HHT.out mq _ (HXF.out.later (by (repeat (first | (with_reducible exact Below.refl _ _) | (with_reducible assumption) | (with_reducible refine below_then ?_ (by assumption)) | (with_reducible refine Below.trans ?_ (by assumption)) | (with_reducible refine below_drewN ?_ _) | (with_reducible apply Below.drew) | (with_reducible refine below_alloc ?_ _) | refine Below.setCell ?_ (by first | (simp; done) | (simp; omega)) _))))) ).mono ?_; rintro e w' ⟨r, rfl, hr, hb⟩; obtain ⟨hT, hk⟩ := bv_next hb (by (repeat (with_reducible first | assumption | apply Trk.alloc | apply Trk.setCell | apply Trk.drewN | apply Trk.drew | exact Trk.nil _))); simp only [SameOn, World.size_alloc, World.size_setCell, World.size_drew, size_drewN', and_true] at hk; have hsz := Below.size hb; (try simp only [World.size_alloc, World.size_setCell, World.size_drew, size_drewN'] at hsz)))
            refine bodyPost_ret (v := .tuple #[.agg #[.slice none 0 0, .slice none 0 0, .slice none 0 0, .slice none 0 0], .slice none 0 0, .bool false]) (by simp [results, Try.results20, go_sem, *]) rfl ?_
            exact brl_no rfl (by (repeat (first | (with_reducible exact Below.refl _ _) | (with_reducible assumption) | (with_reducible refine below_then ?_ (by assumption)) | (with_reducible refine Below.trans ?_ (by assumption)) | (with_reducible refine below_drewN ?_ _) | (with_reducible apply Below.drew) | (with_reducible refine below_alloc ?_ _) | refine Below.setCell ?_ (by first | (simp; done) | (simp; omega)) _))) HE.out
          · rw [hf] at HHT HU1
            rw [chk_yes hf] at HHT
            have hyn : ys.length ≤ 128 := by have := HNN.out; omega
            have HYN := Lib.hid hyn
            clear hf hB hyl hzr hb17 hyn
            go_wp2_with (first | (with_reducible refine at_list ?_; refine wpList_wide_g rfl rfl Try.underlying28 Try.underlying39 rfl ?_; intro r n hr0; have hr := hr0 _ (by first | with_reducible assumption | exact rfl); clear hr0) | (with_reducible refine at_list ?_; refine wpList_wide rfl rfl rfl Try.underlying28 Try.underlying39 ?_; intro r n hr0; have hr := hr0 _ (by first | with_reducible assumption | exact rfl); clear hr0) | (go_at_call 15; refine stop_here ?_) | (go_at_call 12; refine stop_here ?_) | (go_at_call 35; refine (implValidRod_any _ _ _ (by assumption)).mono ?_; rintro e w' ⟨rfl, hb⟩; obtain ⟨hT, hk⟩ := bv_next hb (by (repeat (with_reducible first | assumption | apply Trk.alloc | apply Trk.setCell | apply Trk.drewN | apply Trk.drew | exact Trk.nil _))); simp only [SameOn, World.size_alloc, World.size_setCell, World.size_drew, size_drewN', and_true] at hk; have hsz := Below.size hb; (try simp only [World.size_alloc, World.size_setCell, World.size_drew, size_drewN'] at hsz)) | (go_at_call 36; refine (implValidEnd_any _ _).mono ?_; rintro e w' ⟨rfl, hb⟩; obtain ⟨hT, hk⟩ := bv_next hb (by (repeat (with_reducible first | assumption | apply Trk.alloc | apply Trk.setCell | apply Trk.drewN | apply Trk.drew | exact Trk.nil _))); simp only [SameOn, World.size_alloc, World.size_setCell, World.size_drew, size_drewN', and_true] at hk; have hsz := Below.size hb; (try simp only [World.size_alloc, World.size_setCell, World.size_drew, size_drewN'] at hsz)) | (go_at_call 52; refine (within_any _ _ _ _).mono ?_; rintro e w' ⟨rfl, n, rfl⟩) | (go_at_call 41; refine (IsFinite_any _ _).mono ?_; rintro e w' ⟨rfl, n, rfl⟩) | (go_at_call 18; refine (implHeatOf_any _ _ _ (by assumption)).mono ?_; rintro e w' ⟨r, rfl, hr, hb⟩; obtain ⟨hT, hk⟩ := bv_next hb (by (repeat (with_reducible first | assumption | apply Trk.alloc | apply Trk.setCell | apply Trk.drewN | apply Trk.drew | exact Trk.nil _))); simp only [SameOn, World.size_alloc, World.size_setCell, World.size_drew, size_drewN', and_true] at hk; have hsz := Below.size hb; (try simp only [World.size_alloc, World.size_setCell, World.size_drew, size_drewN'] at hsz)))
            unfold Stop
            refine (HMK.out m _ (HFS.out.later (by (repeat (first | (with_reducible exact Below.refl _ _) | (with_reducible assumption) | (with_reducible refine below_then ?_ (by assumption)) | (with_reducible refine Below.trans ?_ (by assumption)) | (with_reducible refine below_drewN ?_ _) | (with_reducible apply Below.drew) | (with_reducible refine below_alloc ?_ _) | refine Below.setCell ?_ (by first | (simp; done) | (simp; omega)) _))))).mono ?_
            rintro e w' ⟨mq, rfl, hb, hX⟩
            obtain ⟨hT, hk⟩ := bv_next hb (by (repeat (with_reducible first | assumption | apply Trk.alloc | apply Trk.setCell | apply Trk.drewN | apply Trk.drew | exact Trk.nil _))); simp only [SameOn, World.size_alloc, World.size_setCell, World.size_drew, size_drewN', and_true] at hk; have hsz := Below.size hb; (try simp only [World.size_alloc, World.size_setCell, World.size_drew, size_drewN'] at hsz)
            have HXF : Hid (R1.fs w' mq) := hX.fs
            have HX := Lib.hid hX
            have HB1 := Lib.hid hb
            clear hX
            rename World => w1
            go_wp2_with (first | (with_reducible refine at_list ?_; refine wpList_wide_g rfl rfl Try.underlying28 Try.underlying39 rfl ?_; intro r n hr0; have hr := hr0 _ (by first | with_reducible assumption | exact rfl); clear hr0) | (with_reducible refine at_list ?_; refine wpList_wide rfl rfl rfl Try.underlying28 Try.underlying39 ?_; intro r n hr0; have hr := hr0 _ (by first | with_reducible assumption | exact rfl); clear hr0) | (go_at_call 18; refine stop_here ?_) | (go_at_call 35; refine (implValidRod_any _ _ _ (by assumption)).mono ?_; rintro e w' ⟨rfl, hb⟩; obtain ⟨hT, hk⟩ := bv_next hb (by (repeat (with_reducible first | assumption | apply Trk.alloc | apply Trk.setCell | apply Trk.drewN | apply Trk.drew | exact Trk.nil _))); simp only [SameOn, World.size_alloc, World.size_setCell, World.size_drew, size_drewN', and_true] at hk; have hsz := Below.size hb; (try simp only [World.size_alloc, World.size_setCell, World.size_drew, size_drewN'] at hsz)) | (go_at_call 36; refine (implValidEnd_any _ _).mono ?_; rintro e w' ⟨rfl, hb⟩; obtain ⟨hT, hk⟩ := bv_next hb (by (repeat (with_reducible first | assumption | apply Trk.alloc | apply Trk.setCell | apply Trk.drewN | apply Trk.drew | exact Trk.nil _))); simp only [SameOn, World.size_alloc, World.size_setCell, World.size_drew, size_drewN', and_true] at hk; have hsz := Below.size hb; (try simp only [World.size_alloc, World.size_setCell, World.size_drew, size_drewN'] at hsz)) | (go_at_call 52; refine (within_any _ _ _ _).mono ?_; rintro e w' ⟨rfl, n, rfl⟩) | (go_at_call 41; refine (IsFinite_any _ _).mono ?_; rintro e w' ⟨rfl, n, rfl⟩) | (go_at_call 18; refine (implHeatOf_any _ _ _ (by assumption)).mono ?_; rintro e w' ⟨r, rfl, hr, hb⟩; obtain ⟨hT, hk⟩ := bv_next hb (by (repeat (with_reducible first | assumption | apply Trk.alloc | apply Trk.setCell | apply Trk.drewN | apply Trk.drew | exact Trk.nil _))); simp only [SameOn, World.size_alloc, World.size_setCell, World.size_drew, size_drewN', and_true] at hk; have hsz := Below.size hb; (try simp only [World.size_alloc, World.size_setCell, World.size_drew, size_drewN'] at hsz)))
            unfold Stop
            refine (HHT.out mq _ (HXF.out.later (by (repeat (first | (with_reducible exact Below.refl _ _) | (with_reducible assumption) | (with_reducible refine below_then ?_ (by assumption)) | (with_reducible refine Below.trans ?_ (by assumption)) | (with_reducible refine below_drewN ?_ _) | (with_reducible apply Below.drew) | (with_reducible refine below_alloc ?_ _) | refine Below.setCell ?_ (by first | (simp; done) | (simp; omega)) _))))).mono ?_
            rintro e w' ⟨r3, rfl, hr3, hb⟩
            obtain ⟨hT, hk⟩ := bv_next hb (by (repeat (with_reducible first | assumption | apply Trk.alloc | apply Trk.setCell | apply Trk.drewN | apply Trk.drew | exact Trk.nil _))); simp only [SameOn, World.size_alloc, World.size_setCell, World.size_drew, size_drewN', and_true] at hk; have hsz := Below.size hb; (try simp only [World.size_alloc, World.size_setCell, World.size_drew, size_drewN'] at hsz)
            have HR3 := Lib.hid hr3
            clear hr3
            go_wp2_with (first | (with_reducible refine at_list ?_; refine wpList_wide_g rfl rfl Try.underlying28 Try.underlying39 rfl ?_; intro r n hr0; have hr := hr0 _ (by first | with_reducible assumption | exact rfl); clear hr0) | (with_reducible refine at_list ?_; refine wpList_wide rfl rfl rfl Try.underlying28 Try.underlying39 ?_; intro r n hr0; have hr := hr0 _ (by first | with_reducible assumption | exact rfl); clear hr0) | (go_at_call 35; refine (implValidRod_any _ _ _ (by assumption)).mono ?_; rintro e w' ⟨rfl, hb⟩; obtain ⟨hT, hk⟩ := bv_next hb (by (repeat (with_reducible first | assumption | apply Trk.alloc | apply Trk.setCell | apply Trk.drewN | apply Trk.drew | exact Trk.nil _))); simp only [SameOn, World.size_alloc, World.size_setCell, World.size_drew, size_drewN', and_true] at hk; have hsz := Below.size hb; (try simp only [World.size_alloc, World.size_setCell, World.size_drew, size_drewN'] at hsz)) | (go_at_call 36; refine (implValidEnd_any _ _).mono ?_; rintro e w' ⟨rfl, hb⟩; obtain ⟨hT, hk⟩ := bv_next hb (by (repeat (with_reducible first | assumption | apply Trk.alloc | apply Trk.setCell | apply Trk.drewN | apply Trk.drew | exact Trk.nil _))); simp only [SameOn, World.size_alloc, World.size_setCell, World.size_drew, size_drewN', and_true] at hk; have hsz := Below.size hb; (try simp only [World.size_alloc, World.size_setCell, World.size_drew, size_drewN'] at hsz)) | (go_at_call 52; refine (within_any _ _ _ _).mono ?_; rintro e w' ⟨rfl, n, rfl⟩) | (go_at_call 41; refine (IsFinite_any _ _).mono ?_; rintro e w' ⟨rfl, n, rfl⟩) | (go_at_call 18; refine (implHeatOf_any _ _ _ (by assumption)).mono ?_; rintro e w' ⟨r, rfl, hr, hb⟩; obtain ⟨hT, hk⟩ := bv_next hb (by (repeat (with_reducible first | assumption | apply Trk.alloc | apply Trk.setCell | apply Trk.drewN | apply Trk.drew | exact Trk.nil _))); simp only [SameOn, World.size_alloc, World.size_setCell, World.size_drew, size_drewN', and_true] at hk; have hsz := Below.size hb; (try simp only [World.size_alloc, World.size_setCell, World.size_drew, size_drewN'] at hsz)))
            refine wp_named ?_
            intro w3 hw3
            obtain ⟨b19, h19, H3, HX3, H19⟩ : ∃ b19, b19 = w1.heap.size ∧ Hid (Below wr.heap.size wr w3 ∧ wr.heap.size ≤ w3.heap.size) ∧ Hid (RdX wr.heap.size w3.heap.size w3 R1 mq) ∧ Hid (((w3.cell? ⟨b19, 0, none⟩ = some (.slice mq.p1 R1.a.length mq.c1) ∧ w3.cell? ⟨b19, 1, none⟩ = some (.slice mq.p2 R1.b.length mq.c2)) ∧ w3.cell? ⟨b19, 2, none⟩ = some (.slice mq.p3 R1.c.length mq.c3) ∧ w3.cell? ⟨b19, 3, none⟩ = some (.slice mq.p4 R1.d.length mq.c4)) ∧ wr.heap.size ≤ b19) := by
              have hz1 := HB1.out.size
              have hz2 : w1.heap.size ≤ w3.heap.size := by rw [hw3]; have h9 := hb.size; simp only [World.size_alloc, World.size_setCell, World.size_drew, size_drewN'] at h9 ⊢; omega
              have hbe : Below w1.heap.size w1 w3 := by rw [hw3]; (repeat (first | (with_reducible exact Below.refl _ _) | (with_reducible assumption) | (with_reducible refine below_then ?_ (by assumption)) | (with_reducible refine Below.trans ?_ (by assumption)) | (with_reducible refine below_drewN ?_ _) | (with_reducible apply Below.drew) | (with_reducible refine below_alloc ?_ _) | refine Below.setCell ?_ (by first | (simp; done) | (simp; omega)) _))
              refine ⟨w1.heap.size, rfl, ⟨HB1.out.trans (hbe.mono hz1), by omega⟩, (HX.out.later hbe).base (Nat.le_refl _) hz2, ?_, hz1⟩
              rw [hw3]
              exact ⟨⟨by go_simp, by go_simp⟩, by go_simp, by go_simp⟩
            rw [← h19]
            have HO3 : Hid (OF B w3 (.slice q ys.length c) ys) := HAT.out.2.2.1.later H3.out.1
            have HO17 : Hid (owned w3 b17 [.slice m.p1 (RK k).a.length m.c1, .slice m.p2 (RK k).b.length m.c2, .slice m.p3 (RK k).c.length m.c3, .slice m.p4 (RK k).d.length m.c4]) := HAT.out.1.1.later H3.out.1
            have HNE : Hid (∀ kk, (Value.slice q ys.length c).ownBlock = some kk → kk ≠ b17) := HAT.out.2.2.2.1
            have HGL : Hid (∀ kk, (Value.slice q ys.length c).ownBlock = some kk → kk < wr.heap.size) := fun kk hkk => (HAT.out.2.2.1.block kk hkk).2
            have hl19 : b19 < w3.heap.size := World.block_lt_of_cell? _ _ H19.out.1.1.1
            have h193 := H19.out.2
            have HBZ : Hid (B ≤ w3.heap.size ∧ b17 < wr.heap.size ∧ b17 < w3.heap.size ∧ b19 ≠ b17 ∧ some b19 ≠ (Value.slice q ys.length c).ownBlock) := ⟨Nat.le_trans HZ'.out H3.out.2, hwb, by omega, by omega, fun e => by have := HGL.out b19 e.symm; omega⟩
            have HC19 : Hid (∀ u : World, u.heap[b19]? = w3.heap[b19]? → (u.cell? ⟨b19, 0, none⟩ = some (.slice mq.p1 R1.a.length mq.c1) ∧ u.cell? ⟨b19, 1, none⟩ = some (.slice mq.p2 R1.b.length mq.c2)) ∧ u.cell? ⟨b19, 2, none⟩ = some (.slice mq.p3 R1.c.length mq.c3) ∧ u.cell? ⟨b19, 3, none⟩ = some (.slice mq.p4 R1.d.length mq.c4)) := fun u hu => ⟨⟨(World.cell?_of_block (a := ⟨b19, 0, none⟩) hu).trans H19.out.1.1.1, (World.cell?_of_block (a := ⟨b19, 1, none⟩) hu).trans H19.out.1.1.2⟩, (World.cell?_of_block (a := ⟨b19, 2, none⟩) hu).trans H19.out.1.2.1, (World.cell?_of_block (a := ⟨b19, 3, none⟩) hu).trans H19.out.1.2.2⟩
            have HL19 := Lib.hid hl19
            clear hw3 hb hT hk hsz h19 h193 hl19 a0 a1 a2 e0 e1 e2 q0 q1 q2 q3 qf g0 g1 g2 g3
            (apply wp_region_planG (F := (fun u => u.heap[b19]? = w3.heap[b19]?)) (fun u => Below w3.heap.size w3 u) (fun a c h hb => h.trans (hb.mono h.size)); (case hW => exact (by first | assumption | exact Below.refl _ _)); (case hF0 => exact (by (intro u h; exact h.block b19 HL19.out))); ((apply wpG_any; (case hw => exact rfl); (case h1 => (intro w' hb; obtain ⟨⟨x0, x1⟩, x2, x3⟩ := HC19.out w' hb; go_simp <;> exact rfl))); apply wpG_norm; (case ha => (simp only [Act.put, List.setIfInBounds_toArray, List.set_cons_zero, List.set_cons_succ]; exact rfl))); ((apply wpG_det; (case hw => exact rfl); (case hs => (intro cs b h; cases h)); (case h1 => (intro w'; go_simp <;> exact rfl))); apply wpG_norm; (case ha => (simp only [Act.put, List.setIfInBounds_toArray, List.set_cons_zero, List.set_cons_succ]; exact rfl))); ((apply wpG_det; (case hw => exact rfl); (case hs => (intro cs b h; cases h)); (case h1 => (intro w'; go_simp <;> exact rfl))); apply wpG_norm; (case ha => (simp only [Act.put, List.setIfInBounds_toArray, List.set_cons_zero, List.set_cons_succ]; exact rfl))); ((apply wpG_lit1 (B := w3.heap.size) (x := .float .f32 r3); (case hx => (first | exact rfl | (simp [Op.operands]; exact rfl))); (case hw => exact rfl); (case hB => (intro u h; exact h.size)); (case h1 => (intro w'; go_simp <;> exact rfl)); intro bl); apply wpG_norm; (case ha => (simp only [Act.put, List.setIfInBounds_toArray, List.set_cons_zero, List.set_cons_succ]; exact rfl))); ((apply wpG_app B w3.heap.size ys r3 (fun u => w3.grownBy u (Value.slice q ys.length c).ownBlock) (fun a c h hb => grown_later h hb) (v := .slice q ys.length c) (b := bl); (case ho => exact rfl); (case hs => exact rfl); (case hx => exact rfl); (case hw => exact rfl); (case hk => (intro w' hi hd; exact ⟨⟨HO3.out.later hi, (hd.1.2 0 _ rfl).1⟩, Nat.le_trans HBZ.out.1 hi.size, hi.size⟩)); (case hn => (have h9 := HYN.out; omega)); (case hI' => (intro a c hi hg; exact below_grown2 hi hg)); intro q2 c2); apply wpG_norm; (case ha => (simp only [Act.put, List.setIfInBounds_toArray, List.set_cons_zero, List.set_cons_succ]; exact rfl))); ((apply wpG_putM [.slice m.p1 (RK k).a.length m.c1, .slice m.p2 (RK k).b.length m.c2, .slice m.p3 (RK k).c.length m.c3, .slice m.p4 (RK k).d.length m.c4] (runM B b17 R1 mq (ys ++ [r3])) (runM_keeps _ _ _ _ _) (fun u => K2 w3 (Value.slice q ys.length c).ownBlock b17 u) (fun a c h hb => h.later hb) (b := b17) (vs := #[.slice mq.p1 R1.a.length mq.c1, .slice mq.p2 R1.b.length mq.c2, .slice mq.p3 R1.c.length mq.c3, .slice mq.p4 R1.d.length mq.c4]) (x0 := [.pointer (some ⟨b17, 0, none⟩), .agg #[.slice mq.p1 R1.a.length mq.c1, .slice mq.p2 R1.b.length mq.c2, .slice mq.p3 R1.c.length mq.c3, .slice mq.p4 R1.d.length mq.c4], .agg #[.slice mq.p1 R1.a.length mq.c1, .slice mq.p2 R1.b.length mq.c2, .slice mq.p3 R1.c.length mq.c3, .slice mq.p4 R1.d.length mq.c4], .slice q2 (ys ++ [r3]).length c2]); (case hox => (first | exact rfl | kernel_rfl)); (case ho => exact rfl); (case hx => exact rfl); (case hy => exact rfl); (case hn => exact rfl); (case hi => kernel_rfl); (case h2 => exact rfl); (case hw => exact rfl); (case hk => (intro w' hi; exact owned_kept HO17.out hi HBZ.out.2.2.1 HNE.out)); (case hI' => (intro w' hi hd; refine ⟨K2.of hi 0 _, fun q c hm => ?_⟩; have hm2 : q = q2 ∧ c = c2 := (by simpa using hm); rw [hm2.1, hm2.2]; exact runAt_put hi HO17.out hbB HNE.out HX3.out HBZ.out.2.1 HGL.out hd.1))); apply wpG_norm; (case ha => (simp only [Act.put, List.setIfInBounds_toArray, List.set_cons_zero, List.set_cons_succ]; exact rfl))); ((apply wpG_det; (case hw => exact rfl); (case hs => (intro cs b h; cases h)); (case h1 => (intro w'; go_simp <;> exact rfl))); apply wpG_norm; (case ha => (simp only [Act.put, List.setIfInBounds_toArray, List.set_cons_zero, List.set_cons_succ]; exact rfl))); refine wpG_nil ?_; intro w' hi hkk)
            rotate_left
            case hFs => repeat' (first | exact trivial | (intro u hu; exact hu) | (intro u hu; exact World.grownBy.block hu b19 HL19.out HBZ.out.2.2.2.2) | (intro u hu; exact K2.block hu b19 HL19.out HBZ.out.2.2.2.2 HBZ.out.2.2.2.1) | constructor)
            all_goals (try (first | kernel_rfl | rfl))
            have hq := hkk.1 q2 c2 (by simp)
            have HQ := Lib.hid hq
            have HGB : Hid (∀ kk, (Value.slice q ys.length c).ownBlock = some kk → B ≤ kk) := fun kk hkk => (HAT.out.2.2.1.block kk hkk).1
            have HBL : Hid (Below B ws w') := (HBW.out.trans (H3.out.1.mono HZ'.out)).trans (K2.below hi HBZ.out.1 HGB.out hbB)
            clear hq hkk hi
            have HMAP : Hid ((ys ++ [r3]).map (cn .f32) = LK (k + 1)) := by show _ = _; rw [HL1.out, List.map_append, HL.out]; simp [HR3.out]
            rw [HR1.out] at HQ
            go_wp2_with (first | (with_reducible refine at_list ?_; refine wpList_wide_g rfl rfl Try.underlying28 Try.underlying39 rfl ?_; intro r n hr0; have hr := hr0 _ (by first | with_reducible assumption | exact rfl); clear hr0) | (with_reducible refine at_list ?_; refine wpList_wide rfl rfl rfl Try.underlying28 Try.underlying39 ?_; intro r n hr0; have hr := hr0 _ (by first | with_reducible assumption | exact rfl); clear hr0) | (go_at_call 35; refine (implValidRod_any _ _ _ (by assumption)).mono ?_; rintro e w' ⟨rfl, hb⟩; obtain ⟨hT, hk⟩ := bv_next hb (by (repeat (with_reducible first | assumption | apply Trk.alloc | apply Trk.setCell | apply Trk.drewN | apply Trk.drew | exact Trk.nil _))); simp only [SameOn, World.size_alloc, World.size_setCell, World.size_drew, size_drewN', and_true] at hk; have hsz := Below.size hb; (try simp only [World.size_alloc, World.size_setCell, World.size_drew, size_drewN'] at hsz)) | (go_at_call 36; refine (implValidEnd_any _ _).mono ?_; rintro e w' ⟨rfl, hb⟩; obtain ⟨hT, hk⟩ := bv_next hb (by (repeat (with_reducible first | assumption | apply Trk.alloc | apply Trk.setCell | apply Trk.drewN | apply Trk.drew | exact Trk.nil _))); simp only [SameOn, World.size_alloc, World.size_setCell, World.size_drew, size_drewN', and_true] at hk; have hsz := Below.size hb; (try simp only [World.size_alloc, World.size_setCell, World.size_drew, size_drewN'] at hsz)) | (go_at_call 52; refine (within_any _ _ _ _).mono ?_; rintro e w' ⟨rfl, n, rfl⟩) | (go_at_call 41; refine (IsFinite_any _ _).mono ?_; rintro e w' ⟨rfl, n, rfl⟩) | (go_at_call 18; refine (implHeatOf_any _ _ _ (by assumption)).mono ?_; rintro e w' ⟨r, rfl, hr, hb⟩; obtain ⟨hT, hk⟩ := bv_next hb (by (repeat (with_reducible first | assumption | apply Trk.alloc | apply Trk.setCell | apply Trk.drewN | apply Trk.drew | exact Trk.nil _))); simp only [SameOn, World.size_alloc, World.size_setCell, World.size_drew, size_drewN', and_true] at hk; have hsz := Below.size hb; (try simp only [World.size_alloc, World.size_setCell, World.size_drew, size_drewN'] at hsz)))
            go_roundw
            case rel => exact ⟨k + 1, c2, q2, ys ++ [r3], mq, by omega, by go_num, by simp, by simp [HYL.out], HQ.out, HMAP.out, HU1.out, HBL.out⟩
            case measure => simp [intOf]; omega
            all_goals first | kernel_rfl | rfl
      · have hlti : ¬ (k : Int) < z := by have := HMX.out; have := HNN.out; omega
        have hke : k = N := by omega
        have hb0 : B0 = true := by rw [HU.out, ← hke]; exact HUK.out
        subst hke
        subst hb0
        have HRA9 : Hid (RdA B (wr.setCells (w.heap.size + 1 + 1 + 1) 0 [.slice m.p1 (RK k).a.length m.c1, .slice m.p2 (RK k).b.length m.c2, .slice m.p3 (RK k).c.length m.c3, .slice m.p4 (RK k).d.length m.c4]) (RK k) m) := HAT.out.2.1.low (by omega) 0 _
        have HO9 : Hid (OF B (wr.setCells (w.heap.size + 1 + 1 + 1) 0 [.slice m.p1 (RK k).a.length m.c1, .slice m.p2 (RK k).b.length m.c2, .slice m.p3 (RK k).c.length m.c3, .slice m.p4 (RK k).d.length m.c4]) (.slice q ys.length c) ys) := by
          refine HAT.out.2.2.1.kept (grown_setCells _ _ _ _) ?_
          cases hu : (Value.slice q ys.length c).ownBlock with
          | none => exact .inl rfl
          | some kk =>
            refine .inr fun e => ?_
            have h9 := (HAT.out.2.2.1.block kk hu).1
            cases e
            omega
        clear hB hyl hzr hb17
        go_wp2_with (first | (with_reducible refine at_list ?_; refine wpList_wide_g rfl rfl Try.underlying28 Try.underlying39 rfl ?_; intro r n hr0; have hr := hr0 _ (by first | with_reducible assumption | exact rfl); clear hr0) | (with_reducible refine at_list ?_; refine wpList_wide rfl rfl rfl Try.underlying28 Try.underlying39 ?_; intro r n hr0; have hr := hr0 _ (by first | with_reducible assumption | exact rfl); clear hr0) | (go_at_call 35; refine (implValidRod_any _ _ _ (by assumption)).mono ?_; rintro e w' ⟨rfl, hb⟩; obtain ⟨hT, hk⟩ := bv_next hb (by (repeat (with_reducible first | assumption | apply Trk.alloc | apply Trk.setCell | apply Trk.drewN | apply Trk.drew | exact Trk.nil _))); simp only [SameOn, World.size_alloc, World.size_setCell, World.size_drew, size_drewN', and_true] at hk; have hsz := Below.size hb; (try simp only [World.size_alloc, World.size_setCell, World.size_drew, size_drewN'] at hsz)) | (go_at_call 36; refine (implValidEnd_any _ _).mono ?_; rintro e w' ⟨rfl, hb⟩; obtain ⟨hT, hk⟩ := bv_next hb (by (repeat (with_reducible first | assumption | apply Trk.alloc | apply Trk.setCell | apply Trk.drewN | apply Trk.drew | exact Trk.nil _))); simp only [SameOn, World.size_alloc, World.size_setCell, World.size_drew, size_drewN', and_true] at hk; have hsz := Below.size hb; (try simp only [World.size_alloc, World.size_setCell, World.size_drew, size_drewN'] at hsz)) | (go_at_call 52; refine (within_any _ _ _ _).mono ?_; rintro e w' ⟨rfl, n, rfl⟩) | (go_at_call 41; refine (IsFinite_any _ _).mono ?_; rintro e w' ⟨rfl, n, rfl⟩) | (go_at_call 18; refine (implHeatOf_any _ _ _ (by assumption)).mono ?_; rintro e w' ⟨r, rfl, hr, hb⟩; obtain ⟨hT, hk⟩ := bv_next hb (by (repeat (with_reducible first | assumption | apply Trk.alloc | apply Trk.setCell | apply Trk.drewN | apply Trk.drew | exact Trk.nil _))); simp only [SameOn, World.size_alloc, World.size_setCell, World.size_drew, size_drewN', and_true] at hk; have hsz := Below.size hb; (try simp only [World.size_alloc, World.size_setCell, World.size_drew, size_drewN'] at hsz)))
        refine bodyPost_ret (v := .tuple #[.agg #[.slice m.p1 (RK k).a.length m.c1, .slice m.p2 (RK k).b.length m.c2, .slice m.p3 (RK k).c.length m.c3, .slice m.p4 (RK k).d.length m.c4], .slice q ys.length c, .bool true]) (by simp [results, Try.results20, go_sem, *]) rfl ?_
        exact ⟨m, q, c, ys, rfl, by (repeat (first | (with_reducible exact Below.refl _ _) | (with_reducible assumption) | (with_reducible refine below_then ?_ (by assumption)) | (with_reducible refine Below.trans ?_ (by assumption)) | (with_reducible refine below_drewN ?_ _) | (with_reducible apply Below.drew) | (with_reducible refine below_alloc ?_ _) | refine Below.setCell ?_ (by first | (simp; done) | (simp; omega)) _)), HRA9.out.rx (by omega), HO9.out.base (by omega), HL.out, HAT.out.2.2.2.2⟩
end Go.Proofs.Ytpnkapdemgieaaa
set_option linter.unusedSimpArgs false
set_option linter.unusedVariables false
set_option linter.unusedSectionVars false
namespace Go.Proofs.Ytpnkapdemgieaaa
open Go Go.RowKit
/-- The magnitude of a rung, in units of the least place. -/
def mag32 (r : Nat) : Nat := if r < 8388608 then r else (8388608 + r % 8388608) * 2 ^ (r / 8388608 - 1)
def neg32 (c : Nat) : Bool := c / 2147483648 % 2 == 1
/-- What a finite word stands for. -/
def val (c : Nat) : Int := if neg32 c then -(mag32 (c % 2147483648) : Int) else (mag32 (c % 2147483648) : Int)
/-- Is a word finite. -/
def isF (c : Nat) : Bool := c % 2147483648 < 2139095040
theorem mag32_lo (r : Nat) (h : 8388608 ≤ r) : 2 ^ (r / 8388608 + 22) ≤ mag32 r := by
  unfold mag32
  rw [if_neg (by omega)]
  calc 2 ^ (r / 8388608 + 22) = 8388608 * 2 ^ (r / 8388608 - 1) := by
        rw [show r / 8388608 + 22 = 23 + (r / 8388608 - 1) by omega, Nat.pow_add]
    _ ≤ _ := Nat.mul_le_mul_right _ (by omega)
theorem mag32_hi (r : Nat) (h : 8388608 ≤ r) : mag32 r < 2 ^ (r / 8388608 + 23) := by
  unfold mag32
  rw [if_neg (by omega)]
  calc (8388608 + r % 8388608) * 2 ^ (r / 8388608 - 1) < 16777216 * 2 ^ (r / 8388608 - 1) := Nat.mul_lt_mul_of_pos_right (by omega) (Nat.two_pow_pos _)
    _ = 2 ^ (r / 8388608 + 23) := by
        rw [show r / 8388608 + 23 = 24 + (r / 8388608 - 1) by omega, Nat.pow_add]
theorem mag32_lt {r s : Nat} (h : r < s) : mag32 r < mag32 s := by
  by_cases h1 : s < 8388608
  · unfold mag32; rw [if_pos h1, if_pos (by omega)]; exact h
  · by_cases h2 : r < 8388608
    · have := mag32_lo s (by omega)
      have h3 : 2 ^ 23 ≤ 2 ^ (s / 8388608 + 22) := Nat.pow_le_pow_right (by omega) (by omega)
      have h4 : mag32 r = r := by unfold mag32; rw [if_pos h2]
      omega
    · by_cases h3 : r / 8388608 = s / 8388608
      · unfold mag32
        rw [if_neg h2, if_neg h1, h3]
        exact Nat.mul_lt_mul_of_pos_right (by omega) (Nat.two_pow_pos _)
      · have h5 : r / 8388608 < s / 8388608 := by
          have := Nat.div_le_div_right (c := 8388608) (Nat.le_of_lt h)
          omega
        have h6 := mag32_hi r (by omega)
        have h7 := mag32_lo s (by omega)
        have h8 : 2 ^ (r / 8388608 + 23) ≤ 2 ^ (s / 8388608 + 22) := Nat.pow_le_pow_right (by omega) (by omega)
        omega
theorem mag32_inj {r s : Nat} (h : mag32 r = mag32 s) : r = s := by
  rcases Nat.lt_trichotomy r s with h1 | h1 | h1
  · have := mag32_lt h1; omega
  · exact h1
  · have := mag32_lt h1; omega
/-- A finite word's datum. -/
theorem decode_fin {c : Nat} (h : isF c = true) : ∃ m p, FloatKind.f32.decode c = .number (neg32 c) m p ∧ -149 ≤ p ∧ m * 2 ^ (p + 149).toNat = mag32 (c % 2147483648) := by
  simp only [isF, decide_eq_true_eq] at h
  rw [decode_single]
  by_cases h1 : c % 2147483648 < 8388608
  · rw [if_pos h1]
    exact ⟨_, _, rfl, by omega, by unfold mag32; rw [if_pos h1]; simp⟩
  · rw [if_neg h1, if_pos h]
    refine ⟨_, _, rfl, by omega, ?_⟩
    unfold mag32
    rw [if_neg h1]
    congr 2
    omega
theorem signed_scale (s : Bool) (m : Nat) (p b : Int) (hb : -149 ≤ b) (hp : b ≤ p) : Ieee.signed s m (p - b).toNat * (2 ^ (b + 149).toNat : Nat) = if s then -((m * 2 ^ (p + 149).toNat : Nat) : Int) else ((m * 2 ^ (p + 149).toNat : Nat) : Int) := by
  have e : m <<< (p - b).toNat * 2 ^ (b + 149).toNat = m * 2 ^ (p + 149).toNat := by
    rw [Nat.shiftLeft_eq, Nat.mul_assoc, ← Nat.pow_add]
    congr 2
    omega
  unfold Ieee.signed
  cases s
  · simp only [Bool.false_eq_true, if_false]; rw [← Int.natCast_mul, e]
  · simp only [if_true]; rw [Int.neg_mul, ← Int.natCast_mul, e]
theorem compare_scale (a b : Int) (k : Nat) (hk : 0 < k) : compare a b = compare (a * k) (b * k) := by
  have hk' : (0 : Int) < k := by omega
  simp only [compare, compareOfLessAndEq]
  have e1 : (a < b) ↔ (a * k < b * k) := (Int.mul_lt_mul_right hk').symm
  have e2 : (a = b) ↔ (a * k = b * k) := ⟨fun h => by rw [h], fun h => Int.eq_of_mul_eq_mul_right (by omega) h⟩
  by_cases h1 : a < b
  · rw [if_pos h1, if_pos (e1.1 h1)]
  · rw [if_neg h1, if_neg (fun h => h1 (e1.2 h))]
    by_cases h2 : a = b
    · rw [if_pos h2, if_pos (e2.1 h2)]
    · rw [if_neg h2, if_neg (fun h => h2 (e2.2 h))]
theorem order_val {x y : Nat} (hx : isF x = true) (hy : isF y = true) : FloatKind.f32.format.order x y = some (compare (val x) (val y)) := by
  obtain ⟨m, p, e1, hp, hm⟩ := decode_fin hx
  obtain ⟨n, q, e2, hq, hn⟩ := decode_fin hy
  have d1 : FloatKind.f32.format.read x = .number (neg32 x) m p := e1
  have d2 : FloatKind.f32.format.read y = .number (neg32 y) n q := e2
  unfold Ieee.Format.order
  rw [d1, d2]
  simp only [Ieee.Datum.order]
  rw [compare_scale _ _ (2 ^ (min p q + 149).toNat) (Nat.two_pow_pos _), signed_scale _ _ _ _ (by omega) (by omega), signed_scale _ _ _ _ (by omega) (by omega), hm, hn]
  rfl
theorem feq_val {x y : Nat} (hx : isF x = true) (hy : isF y = true) : feq .f32 x y = decide (val x = val y) := by
  unfold feq
  rw [order_val hx hy]
  simp only [compare, compareOfLessAndEq]
  by_cases h : val x < val y
  · simp [h]; omega
  · by_cases h2 : val x = val y <;> simp [h, h2]
/-- Equal numbers with equal signs are one word. -/
theorem word_of_val {x y : Nat} (hx : x < 4294967296) (hy : y < 4294967296) (hv : val x = val y) (hs : neg32 x = neg32 y) : x = y := by
  have hm : mag32 (x % 2147483648) = mag32 (y % 2147483648) := by
    unfold val at hv
    rw [hs] at hv
    split at hv <;> omega
  have hr := mag32_inj hm
  simp only [neg32] at hs
  have : x / 2147483648 % 2 = y / 2147483648 % 2 := by
    rcases Nat.mod_two_eq_zero_or_one (x / 2147483648) with h1 | h1 <;> rcases Nat.mod_two_eq_zero_or_one (y / 2147483648) with h2 | h2 <;> simp [h1, h2] at hs <;> omega
  omega
end Go.Proofs.Ytpnkapdemgieaaa

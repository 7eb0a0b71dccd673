/-
  Drawn rods: where it is as warm as told, and how warm it is there. No condition but what each law says; nothing of the program is named here.
  Drawn rods: the law's comparisons of even rods and of rods that are joined to themselves. No condition but what each law says; nothing of the program is named here.
  What a 32-bit word stands for, as a whole number of units of the least place; comparisons are those of these numbers. No condition but what each lemma says.
  The lesser and the greater of two finite numbers. No condition; nothing of the program is named here.
  Drawn rods: the comparisons of the law on rods at rest, in 64 bits. No condition but what each law says; nothing of the program is named here.
  Where a rod is as warm as told (the program's). No condition but what each contract says.
  How warm a rod is between two of its middles (the program's). No condition but what each contract says.
-/
import Derived.Test.YtpnkapdemgieaaaQM10
import Derived.Test.YtpnkapdemgieaaaQM6
import Derived.Test.YtpnkapdemgieaaaQM2
set_option linter.unusedSimpArgs false
set_option linter.unusedVariables false
set_option linter.unusedSectionVars false
namespace Go.Proofs.Ytpnkapdemgieaaa
open Go Go.RowKit
/-- Does a warmth lie between a cell's and the next one's. -/
def crB (P : Rd) (x i : Nat) : Bool := flt .f32 (cn .f32 (P.d.getD i 0)) x != flt .f32 (cn .f32 (P.d.getD (i + 1) 0)) x
/-- Where, then. -/
def plW (P : Rd) (x i : Nat) : Nat := fop .add .f32 (midAt P.a i) (fop .mul .f32 (fop .sub .f32 (midAt P.a (i + 1)) (midAt P.a i)) (fop .quo .f32 (fop .sub .f32 x (cn .f32 (P.d.getD i 0))) (fop .sub .f32 (cn .f32 (P.d.getD (i + 1) 0)) (cn .f32 (P.d.getD i 0)))))
section
variable {P : Rd} {n : Nat} {A C T : Nat → Int}
theorem DR.sumA (h : DR P n A C T) {k : Nat} (hk : k ≤ n) : 0 ≤ sumZ A k ∧ sumZ A k ≤ 48 := by
  have hn := h.g.hn
  have a := sumZ_bd (f := A) (B := 8) k (fun i hi => by have := (h.g.a i (by omega)).2; omega)
  obtain ⟨s1, s2⟩ := sumZ_lo (f := A) k (fun i hi => by have := (h.g.a i (by omega)).2; omega)
  have b : (k : Int) * 8 ≤ 6 * 8 := Int.mul_le_mul_of_nonneg_right (by omega) (by decide)
  exact ⟨by omega, by omega⟩
theorem DR.bef (h : DR P n A C T) : ∀ k, k ≤ n → V .f32 (befS P.a k) (((sumZ A k : Int) : Rat) / 4)
  | 0, _ => V0.eq (by show (0 : Rat) = ((0 : Int) : Rat) / 4; rw [z_of]; grind)
  | k + 1, hk => by
    have a := h.bef k (by omega)
    obtain ⟨va, c1, c2⟩ := h.g.a k (by omega)
    have s := h.sumA (k := k + 1) hk
    have es : sumZ A (k + 1) = sumZ A k + A k := rfl
    have e2 : ex .add (((sumZ A k : Int) : Rat) / 4) ((A k : Rat) / 4) = ((sumZ A (k + 1) : Int) : Rat) / 4 := by simp only [ex]; rw [es, Rat.intCast_add]; grind
    have R := V.op .add rfl a va (by simp) (by rw [e2]; exact rep_quarter (by omega))
    rwa [e2] at R
/-- Middles, in eighths. -/
def mdZ (A : Nat → Int) (i : Nat) : Int := 2 * sumZ A i + A i
theorem DR.mid (h : DR P n A C T) {i : Nat} (hi : i < n) : V .f32 (midAt P.a i) ((mdZ A i : Rat) / 8) ∧ 0 ≤ mdZ A i ∧ mdZ A i ≤ 104 := by
  have a := h.bef i (by omega)
  obtain ⟨va, c1, c2⟩ := h.g.a i hi
  have s := h.sumA (k := i) (by omega)
  have e1 : ex .quo ((A i : Rat) / 4) 2 = (A i : Rat) / 8 := by simp only [ex]; grind
  have Q := V.op .quo rfl va V2 (fun _ => by decide) (by rw [e1]; exact rep_eighth (by omega))
  rw [e1] at Q
  have e2 : ex .add (((sumZ A i : Int) : Rat) / 4) ((A i : Rat) / 8) = ((mdZ A i : Int) : Rat) / 8 := by
    simp only [ex, mdZ]
    rw [Rat.intCast_add, Rat.intCast_mul]
    have e : ((2 : Int) : Rat) = 2 := rfl
    rw [e]; grind
  have R := V.op .add rfl a Q (by simp) (by rw [e2]; exact rep_eighth (by unfold mdZ; omega))
  rw [e2] at R
  exact ⟨R, by unfold mdZ; omega, by unfold mdZ; omega⟩
theorem mdZ_step (A : Nat → Int) (i : Nat) : mdZ A (i + 1) = mdZ A i + A i + A (i + 1) := by
  unfold mdZ
  have es : sumZ A (i + 1) = sumZ A i + A i := rfl
  omega
theorem DR.mid_le (h : DR P n A C T) : ∀ j i, i + j < n → mdZ A i ≤ mdZ A (i + j)
  | 0, i, _ => Int.le_refl _
  | j + 1, i, hj => by
    have a := h.mid_le j i (by omega)
    have b := (h.g.a (i + j) (by omega)).2
    have c := (h.g.a (i + j + 1) (by omega)).2
    have e := mdZ_step A (i + j)
    rw [show i + (j + 1) = i + j + 1 by omega]
    omega
theorem DR.midOk (h : DR P n A C T) : midOk P.a = true := by
  unfold Go.Proofs.Ytpnkapdemgieaaa.midOk
  rw [Bool.not_eq_true', List.any_eq_false]
  intro x hx
  obtain ⟨i, hi, rfl⟩ := mem_getD hx
  rw [midL_len, h.g.la] at hi
  rw [midL_at (by rw [h.g.la]; exact hi), fin_of_fnt (h.mid hi).1.1]; simp
theorem ilt {a b : Int} (h : a < b) : (a : Rat) + 1 ≤ (b : Rat) := by
  have := icast_le (show a + 1 ≤ b by omega)
  rw [Rat.intCast_add] at this
  have e : ((1 : Int) : Rat) = 1 := rfl
  rwa [e] at this
/-- Between two cells: in quarters. -/
theorem DR.cross (h : DR P n A C T) {x : Nat} {s : Int} (hx : V .f32 x ((s : Rat) / 4)) (hs : s % 2 = 1) {i : Nat} (hi : i + 1 < n) : crB P x i = true ↔ (2 * T i < s ∧ s < 2 * T (i + 1)) ∨ (2 * T (i + 1) < s ∧ s < 2 * T i) := by
  have key : ∀ j, j < n → (flt .f32 (cn .f32 (P.d.getD j 0)) x = true ↔ 2 * T j < s) := fun j hj => by
    have v := (h.t j hj).1
    rw [fltv v.1 hx.1, v.2, hx.2, decide_eq_true_eq]
    constructor
    · intro k
      rcases Int.lt_or_le (2 * T j) s with g | g
      · exact g
      · have := icast_le g
        rw [Rat.intCast_mul] at this
        have e : ((2 : Int) : Rat) = 2 := rfl
        rw [e] at this
        grind
    · intro k
      have := ilt k
      rw [Rat.intCast_mul] at this
      have e : ((2 : Int) : Rat) = 2 := rfl
      rw [e] at this
      grind
  have a := key i (by omega)
  have b := key (i + 1) hi
  unfold crB
  generalize flt .f32 (cn .f32 (P.d.getD i 0)) x = p at *
  generalize flt .f32 (cn .f32 (P.d.getD (i + 1) 0)) x = q at *
  cases p <;> cases q <;> simp at a b ⊢ <;> omega
/-- The place, near; how warm it is there. -/
theorem DR.place (h : DR P n A C T) {x : Nat} {s : Int} (hx : V .f32 x ((s : Rat) / 4)) (hs : s % 2 = 1) (hsb : -40 ≤ s ∧ s ≤ 40) {i : Nat} (hi : i + 1 < n) (hc : crB P x i = true) :
    fnt .f32 (plW P x i) = true ∧ (fle .f32 (plW P x i) (midAt P.a 0) = false ∧ fge .f32 (plW P x i) (midAt P.a (P.a.length - 1)) = false) ∧ ∃ v, wAt P (plW P x i) = (v, true) ∧ fnt .f32 v = true ∧ fv .f32 v - fv .f32 x ≤ 1 / 1024 ∧ fv .f32 x - fv .f32 v ≤ 1 / 1024 := by
  obtain ⟨u0, u1⟩ := uu_pos
  have hcr := (h.cross hx hs hi).1 hc
  obtain ⟨va, a1, a2⟩ := h.t i (by omega)
  obtain ⟨vb, b1, b2⟩ := h.t (i + 1) hi
  obtain ⟨vm, m1, m2⟩ := h.mid (i := i) (by omega)
  obtain ⟨vm', m1', m2'⟩ := h.mid hi
  have st := mdZ_step A i
  have k1 := (h.g.a i (by omega)).2
  have k2 := (h.g.a (i + 1) hi).2
  have e2 : ((2 : Int) : Rat) = 2 := rfl
  -- the differences, exactly
  have ea : ex .sub ((s : Rat) / 4) ((T i : Rat) / 2) = ((s - 2 * T i : Int) : Rat) / 4 := by simp only [ex]; rw [Rat.intCast_sub, Rat.intCast_mul, e2]; grind
  have Va := V.op .sub rfl hx va (by simp) (by rw [ea]; exact rep_quarter (by omega))
  rw [ea] at Va
  have eb : ex .sub ((T (i + 1) : Rat) / 2) ((T i : Rat) / 2) = ((T (i + 1) - T i : Int) : Rat) / 2 := by simp only [ex]; rw [Rat.intCast_sub]; grind
  have Vb := V.op .sub rfl vb va (by simp) (by rw [eb]; exact rep_half (by omega))
  rw [eb] at Vb
  have em : ex .sub ((mdZ A (i + 1) : Rat) / 8) ((mdZ A i : Rat) / 8) = ((mdZ A (i + 1) - mdZ A i : Int) : Rat) / 8 := by simp only [ex]; rw [Rat.intCast_sub]; grind
  have Vm := V.op .sub rfl vm' vm (by simp) (by rw [em]; exact rep_eighth (by omega))
  rw [em] at Vm
  -- how wide
  obtain ⟨d1, d2⟩ : (2 : Rat) ≤ ((mdZ A (i + 1) - mdZ A i : Int) : Rat) ∧ ((mdZ A (i + 1) - mdZ A i : Int) : Rat) ≤ 16 := by
    have a := icast_le (show (2 : Int) ≤ mdZ A (i + 1) - mdZ A i by omega)
    have b := icast_le (show mdZ A (i + 1) - mdZ A i ≤ (16 : Int) by omega)
    have e16 : ((16 : Int) : Rat) = 16 := rfl
    rw [e2] at a
    rw [e16] at b
    exact ⟨a, b⟩
  obtain ⟨p0, p1⟩ : (0 : Rat) ≤ ((mdZ A i : Int) : Rat) ∧ ((mdZ A i : Int) : Rat) ≤ 104 := by
    have a := icast_le m1
    have b := icast_le m2
    have e104 : ((104 : Int) : Rat) = 104 := rfl
    rw [z_of] at a
    rw [e104] at b
    exact ⟨a, b⟩
  -- the share
  have sh : ∃ q : Rat, ((s - 2 * T i : Int) : Rat) / 4 / (((T (i + 1) - T i : Int) : Rat) / 2) = q ∧ q * (((T (i + 1) - T i : Int) : Rat) / 2) = ((s - 2 * T i : Int) : Rat) / 4 ∧ 1 / 64 ≤ q ∧ q ≤ 63 / 64 ∧ (((T (i + 1) - T i : Int) : Rat) / 2 ≤ 16 ∧ -(((T (i + 1) - T i : Int) : Rat) / 2) ≤ 16 ∧ ((T (i + 1) - T i : Int) : Rat) / 2 ≠ 0) := by
    rcases hcr with ⟨c1, c2⟩ | ⟨c1, c2⟩
    · have i1 := icast_le (show (1 : Int) ≤ s - 2 * T i by omega)
      have i2 := icast_le (show (s - 2 * T i) + 1 ≤ 2 * (T (i + 1) - T i) by omega)
      have i3 := icast_le (show T (i + 1) - T i ≤ (32 : Int) by omega)
      rw [Rat.intCast_add, Rat.intCast_mul, e2] at i2
      have e1 : ((1 : Int) : Rat) = 1 := rfl
      have e32 : ((32 : Int) : Rat) = 32 := rfl
      rw [e1] at i1 i2
      rw [e32] at i3
      generalize ((s - 2 * T i : Int) : Rat) = u at *
      generalize ((T (i + 1) - T i : Int) : Rat) = v at *
      have vp : 0 < v / 2 := by grind
      have dv : u / 4 / (v / 2) * (v / 2) = u / 4 := Rat.div_mul_cancel (by grind)
      exact ⟨_, rfl, dv, mul_cancel_le vp (by rw [dv]; grind), mul_cancel_le vp (by rw [dv]; grind), by grind, by grind, by grind⟩
    · have i1 := icast_le (show (1 : Int) ≤ -(s - 2 * T i) by omega)
      have i2 := icast_le (show -(s - 2 * T i) + 1 ≤ -(2 * (T (i + 1) - T i)) by omega)
      have i3 := icast_le (show -(T (i + 1) - T i) ≤ (32 : Int) by omega)
      rw [Rat.intCast_add, Rat.intCast_neg, Rat.intCast_neg, Rat.intCast_mul, e2] at i2
      rw [Rat.intCast_neg] at i1 i3
      have e1 : ((1 : Int) : Rat) = 1 := rfl
      have e32 : ((32 : Int) : Rat) = 32 := rfl
      rw [e1] at i1 i2
      rw [e32] at i3
      generalize ((s - 2 * T i : Int) : Rat) = u at *
      generalize ((T (i + 1) - T i : Int) : Rat) = v at *
      have vp : 0 < -(v / 2) := by grind
      have dv : u / 4 / (v / 2) * (v / 2) = u / 4 := Rat.div_mul_cancel (by grind)
      exact ⟨_, rfl, dv, mul_cancel_le vp (by grind), mul_cancel_le vp (by grind), by grind, by grind, by grind⟩
  obtain ⟨q, eq, dv, q1, q2, w1, w2, w3⟩ := sh
  obtain ⟨f0, f1, f2⟩ := fop_u .quo rfl Va.1 Vb.1 (fun _ => by rw [Vb.2]; exact w3) (M := 1) (by grind) (by grind) (by simp only [ex]; rw [Va.2, Vb.2, eq]; grind) (by simp only [ex]; rw [Va.2, Vb.2, eq]; grind)
  simp only [ex] at f1 f2
  rw [Va.2, Vb.2, eq] at f1 f2
  have hP : plW P x i = fop .add .f32 (midAt P.a i) (fop .mul .f32 (fop .sub .f32 (midAt P.a (i + 1)) (midAt P.a i)) (fop .quo .f32 (fop .sub .f32 x (cn .f32 (P.d.getD i 0))) (fop .sub .f32 (cn .f32 (P.d.getD (i + 1) 0)) (cn .f32 (P.d.getD i 0))))) := rfl
  generalize fop .quo .f32 (fop .sub .f32 x (cn .f32 (P.d.getD i 0))) (fop .sub .f32 (cn .f32 (P.d.getD (i + 1) 0)) (cn .f32 (P.d.getD i 0))) = y at *
  -- how far into it
  obtain ⟨D, hD⟩ : ∃ D : Rat, ((mdZ A (i + 1) - mdZ A i : Int) : Rat) / 8 = D := ⟨_, rfl⟩
  have D1 : 1 / 4 ≤ D := by rw [← hD]; grind
  have D2 : D ≤ 2 := by rw [← hD]; grind
  have eD : ((mdZ A (i + 1) : Int) : Rat) / 8 = ((mdZ A i : Int) : Rat) / 8 + D := by rw [← hD, Rat.intCast_sub]; grind
  rw [hD] at Vm
  have g1' := Rat.mul_le_mul_of_nonneg_left f1 (show 0 ≤ D by grind)
  have g2' := Rat.mul_le_mul_of_nonneg_left f2 (show 0 ≤ D by grind)
  have Du := Rat.mul_le_mul_of_nonneg_right D2 (Rat.le_of_lt u0)
  have q3 := Rat.mul_le_mul_of_nonneg_left q2 (show 0 ≤ D by grind)
  have q4 := Rat.mul_le_mul_of_nonneg_left q1 (show 0 ≤ D by grind)
  obtain ⟨g0, g1, g2⟩ := fop_u .mul rfl Vm.1 f0 (by simp) (M := 21 / 10) (by grind) (by grind) (by simp only [ex]; rw [Vm.2]; grind) (by simp only [ex]; rw [Vm.2]; grind)
  simp only [ex] at g1 g2
  rw [Vm.2] at g1 g2
  generalize fop .mul .f32 (fop .sub .f32 (midAt P.a (i + 1)) (midAt P.a i)) y = z at *
  obtain ⟨i0, i1, i2⟩ := fop_u .add rfl vm.1 g0 (by simp) (M := 16) (by grind) (by grind) (by simp only [ex]; rw [vm.2]; grind) (by simp only [ex]; rw [vm.2]; grind)
  simp only [ex] at i1 i2
  rw [vm.2, ← hP] at i1 i2
  rw [← hP] at i0
  have L1 : fv .f32 (plW P x i) - (((mdZ A i : Int) : Rat) / 8 + D * q) ≤ 21 * uu := by grind
  have L2 : (((mdZ A i : Int) : Rat) / 8 + D * q) - fv .f32 (plW P x i) ≤ 21 * uu := by grind
  generalize plW P x i = c at *
  clear i1 i2 g1 g2 g1' g2' hP
  -- it lies between the two middles
  have lo : ((mdZ A i : Int) : Rat) / 8 < fv .f32 c := by grind
  have hi' : fv .f32 c < ((mdZ A (i + 1) : Int) : Rat) / 8 := by rw [eD]; grind
  have hok : (P.ok && (fin .f32 c && Go.Proofs.Ytpnkapdemgieaaa.midOk P.a)) = true := by rw [h.g.ok, h.midOk, fin_of_fnt i0]; rfl
  have below : ∀ j, j < i + 1 → fv .f32 (midAt P.a j) < fv .f32 c := fun j hj => by
    rw [(h.mid (i := j) (by omega)).1.2]
    have := icast_le (h.mid_le (i - j) j (by omega))
    rw [show j + (i - j) = i by omega] at this
    grind
  have c0 : fle .f32 c (midAt P.a 0) = false := by
    rw [flev i0 (h.mid (i := 0) (by omega)).1.1]
    exact decide_eq_false (by have := below 0 (by omega); grind)
  have c1 : fge .f32 c (midAt P.a (P.a.length - 1)) = false := by
    rw [h.g.la]
    have v := (h.mid (i := n - 1) (by omega)).1
    rw [fgev i0 v.1, v.2]
    have := icast_le (h.mid_le (n - 1 - (i + 1)) (i + 1) (by omega))
    rw [show i + 1 + (n - 1 - (i + 1)) = n - 1 by omega] at this
    exact decide_eq_false (by grind)
  have c2 : fge .f32 (midAt P.a (i + 1)) c = true := by
    rw [fgev vm'.1 i0, vm'.2]
    exact decide_eq_true (by grind)
  have c3 : ∀ j, j < i + 1 → fge .f32 (midAt P.a j) c = false := fun j hj => by
    rw [fgev (h.mid (i := j) (by omega)).1.1 i0]
    exact decide_eq_false (by have := below j hj; grind)
  have W := wAt_mid hok c0 c1 (j := i) (by rw [h.g.la]; exact hi) c2 c3 rfl
  -- how warm it is there
  obtain ⟨n0, n1, n2⟩ := fop_u .sub rfl i0 vm.1 (by simp) (M := 21 / 10) (by grind) (by grind) (by simp only [ex]; rw [vm.2]; grind) (by simp only [ex]; rw [vm.2]; grind)
  simp only [ex] at n1 n2
  rw [vm.2] at n1 n2
  generalize fop .sub .f32 c (midAt P.a i) = r at *
  have Dp : 0 < D := by grind
  have dr : fv .f32 r / D * D = fv .f32 r := Rat.div_mul_cancel (by grind)
  have R1 : fv .f32 r - D * q ≤ 24 * uu := by grind
  have R2 : D * q - fv .f32 r ≤ 24 * uu := by grind
  have Dl := Rat.mul_le_mul_of_nonneg_right D1 (Rat.le_of_lt u0)
  have r1 : fv .f32 r / D ≤ q + 96 * uu := mul_cancel_le Dp (by rw [dr]; grind)
  have r2 : q - 96 * uu ≤ fv .f32 r / D := mul_cancel_le Dp (by rw [dr]; grind)
  obtain ⟨o0, o1, o2⟩ := fop_u .quo rfl n0 Vm.1 (fun _ => by rw [Vm.2]; grind) (M := 11 / 10) (by grind) (by grind) (by simp only [ex]; rw [Vm.2]; grind) (by simp only [ex]; rw [Vm.2]; grind)
  simp only [ex] at o1 o2
  rw [Vm.2] at o1 o2
  generalize fop .quo .f32 r (fop .sub .f32 (midAt P.a (i + 1)) (midAt P.a i)) = t at *
  generalize fv .f32 r / D = ρ at *
  have T1 : fv .f32 t - q ≤ 98 * uu := by grind
  have T2 : q - fv .f32 t ≤ 98 * uu := by grind
  obtain ⟨E, hE⟩ : ∃ E : Rat, ((T (i + 1) - T i : Int) : Rat) / 2 = E := ⟨_, rfl⟩
  rw [hE] at Vb w1 w2 w3 dv
  have ME := mul_bd (a := 98 * uu) (b := 16) (x := fv .f32 t - q) (y := E) (by grind) T1 (by grind) w1
  have MQ := mul_bd (a := 1) (b := 16) (x := q) (y := E) (by grind) (by grind) (by grind) w1
  obtain ⟨s0, s1, s2⟩ := fop_u .mul rfl o0 Vb.1 (by simp) (M := 17) (by grind) (by grind) (by simp only [ex]; rw [Vb.2]; grind) (by simp only [ex]; rw [Vb.2]; grind)
  simp only [ex] at s1 s2
  rw [Vb.2] at s1 s2
  generalize fop .mul .f32 t (fop .sub .f32 (cn .f32 (P.d.getD (i + 1) 0)) (cn .f32 (P.d.getD i 0))) = v at *
  have xa : ((T i : Int) : Rat) / 2 + q * E = (s : Rat) / 4 := by
    rw [dv, Rat.intCast_sub, Rat.intCast_mul, e2]; grind
  obtain ⟨sb1, sb2⟩ : (s : Rat) ≤ 40 ∧ -40 ≤ (s : Rat) := by
    have a := icast_le hsb.1
    have b := icast_le hsb.2
    have e40 : ((40 : Int) : Rat) = 40 := rfl
    have e40' : ((-40 : Int) : Rat) = -40 := rfl
    rw [e40'] at a
    rw [e40] at b
    exact ⟨b, a⟩
  obtain ⟨l0, l1, l2⟩ := fop_u .add rfl va.1 s0 (by simp) (M := 11) (by grind) (by grind) (by simp only [ex]; rw [va.2]; grind) (by simp only [ex]; rw [va.2]; grind)
  simp only [ex] at l1 l2
  rw [va.2] at l1 l2
  generalize fop .add .f32 (cn .f32 (P.d.getD i 0)) v = g at *
  refine ⟨i0, ⟨c0, c1⟩, g, ?_, l0, ?_, ?_⟩
  · rw [W, fin_of_fnt l0]
    have ch : chk g = g := by unfold chk; rw [fin_of_fnt l0]; rfl
    rw [ch]
  · rw [hx.2]; grind
  · rw [hx.2]; grind
end
end Go.Proofs.Ytpnkapdemgieaaa
set_option linter.unusedSimpArgs false
set_option linter.unusedVariables false
set_option linter.unusedSectionVars false
namespace Go.Proofs.Ytpnkapdemgieaaa
open Go Go.RowKit
section
variable {P : Rd} {n : Nat} {A B C T : Nat → Int}
end
section
variable {P : Rd} {n : Nat} {A C : Nat → Int} {E G : EndT} {t : Int}
/-- An even rod's flows. -/
theorem EV.none {M : Rat} (h : EV P n A C E G t M) {i : Nat} (hi : i ≤ n) : feq .f32 (fAt P E G i) (cn .f32 0) = true := by
  obtain ⟨a, b⟩ := h.flow hi
  rw [feqv a V0.1, b, V0.2]; rfl
theorem thirteen {a u x y : Rat} (hu : 16700000 * u = 1) (h0 : 0 ≤ a) (h1 : x - y ≤ 13100 * ((a / 2 + 1 / 1024) * u)) : x - y ≤ (1 + 13 * a) / 32768 := by
  have e : 16700000 * ((a / 2 + 1 / 1024) * u) = a / 2 + 1 / 1024 := by grind
  grind
/-- An even rod behind a tick by rows. -/
theorem EV.law (h : EV P n A C E G t (((t.natAbs : Int) : Rat) / 2 + 1 / 1024)) {i : Nat} (hi : i < n) :
    gapOk (wide (cn .f32 ((rwsR P E G 1048576000).d.getD i 0))) (wide (wmW t)) ∧ gapOk (wide (wmW t)) (cn .f64 0) ∧
    fgt .f64 (gap8 (wide (cn .f32 ((rwsR P E G 1048576000).d.getD i 0))) (wide (wmW t))) (fop .mul .f64 cTho (fop .add .f64 (cn .f64 4607182418800017408) (gap8 (wide (wmW t)) (cn .f64 0)))) = false := by
  obtain ⟨_, R, hh⟩ := h.held
  obtain ⟨h1, h2⟩ := hh i hi
  have u1 : 16700000 * uu = 1 := by unfold uu; decide +kernel
  have v := wmW_v h.ht
  obtain ⟨g, vg⟩ := gap_abs v h.ht
  have f0 := (R.d i hi).1
  have tn : 0 ≤ ((t.natAbs : Int) : Rat) := by have := icast_le (show (0 : Int) ≤ (t.natAbs : Int) by omega); rwa [z_of] at this
  have tb : ((t.natAbs : Int) : Rat) ≤ 16 := by
    have := icast_le (show (t.natAbs : Int) ≤ (16 : Int) by have := h.ht; omega)
    have e : ((16 : Int) : Rat) = 16 := rfl
    rwa [e] at this
  have eS : ex .add 1 (((t.natAbs : Int) : Rat) / 2) = ((2 + (t.natAbs : Int) : Int) : Rat) / 2 := by
    simp only [ex]; rw [Rat.intCast_add]
    have e : ((2 : Int) : Rat) = 2 := rfl
    rw [e]; grind
  have vS := V.op .add rfl Vone vg (by simp) (by rw [eS]; exact rep64 (2 + (t.natAbs : Int)) (-1) (by have := h.ht; omega) (by decide) (by decide) (by have := tp_n1; grind))
  have eS' : ex .add 1 (((t.natAbs : Int) : Rat) / 2) = 1 + ((t.natAbs : Int) : Rat) / 2 := rfl
  rw [eS'] at vS
  have r := rep_c (1 + 13 * (t.natAbs : Int)) (by have := h.ht; omega)
  have ec : ((1 + 13 * (t.natAbs : Int) : Int) : Rat) = 1 + 13 * ((t.natAbs : Int) : Rat) := by
    rw [Rat.intCast_add, Rat.intCast_mul]; rfl
  rw [ec] at r
  have ex' : xR (rwsR P E G 1048576000) i = fv .f32 (cn .f32 ((rwsR P E G 1048576000).d.getD i 0)) := rfl
  rw [ex'] at h1 h2
  generalize cn .f32 ((rwsR P E G 1048576000).d.getD i 0) = y at *
  have W := gap_within (x := y) (y := wmW t) (S := fop .add .f64 (cn .f64 4607182418800017408) (gap8 (wide (wmW t)) (cn .f64 0))) (c := (1 + 13 * ((t.natAbs : Int) : Rat)) / 32768) f0 v.1 (by rw [v.2]; exact thirteen u1 tn h1) (by rw [v.2]; exact thirteen u1 tn h2) vS (by grind) (by grind) r (by grind)
  exact ⟨W.1, g, W.2⟩
end
end Go.Proofs.Ytpnkapdemgieaaa
set_option linter.unusedSimpArgs false
set_option linter.unusedVariables false
set_option linter.unusedSectionVars false
namespace Go.Proofs.Ytpnkapdemgieaaa
open Go Go.RowKit
/-- The magnitude of a rung, in units of the least place. -/
def mag32 (r : Nat) : Nat := if r < 8388608 then r else (8388608 + r % 8388608) * 2 ^ (r / 8388608 - 1)
def neg32 (c : Nat) : Bool := c / 2147483648 % 2 == 1
/-- What a finite word stands for. -/
def val (c : Nat) : Int := if neg32 c then -(mag32 (c % 2147483648) : Int) else (mag32 (c % 2147483648) : Int)
/-- Is a word finite. -/
def isF (c : Nat) : Bool := c % 2147483648 < 2139095040
/-- A finite word's datum. -/
theorem decode_fin {c : Nat} (h : isF c = true) : ∃ m p, FloatKind.f32.decode c = .number (neg32 c) m p ∧ -149 ≤ p ∧ m * 2 ^ (p + 149).toNat = mag32 (c % 2147483648) := by
  simp only [isF, decide_eq_true_eq] at h
  rw [decode_single]
  by_cases h1 : c % 2147483648 < 8388608
  · rw [if_pos h1]
    exact ⟨_, _, rfl, by omega, by unfold mag32; rw [if_pos h1]; simp⟩
  · rw [if_neg h1, if_pos h]
    refine ⟨_, _, rfl, by omega, ?_⟩
    unfold mag32
    rw [if_neg h1]
    congr 2
    omega
theorem signed_scale (s : Bool) (m : Nat) (p b : Int) (hb : -149 ≤ b) (hp : b ≤ p) : Ieee.signed s m (p - b).toNat * (2 ^ (b + 149).toNat : Nat) = if s then -((m * 2 ^ (p + 149).toNat : Nat) : Int) else ((m * 2 ^ (p + 149).toNat : Nat) : Int) := by
  have e : m <<< (p - b).toNat * 2 ^ (b + 149).toNat = m * 2 ^ (p + 149).toNat := by
    rw [Nat.shiftLeft_eq, Nat.mul_assoc, ← Nat.pow_add]
    congr 2
    omega
  unfold Ieee.signed
  cases s
  · simp only [Bool.false_eq_true, if_false]; rw [← Int.natCast_mul, e]
  · simp only [if_true]; rw [Int.neg_mul, ← Int.natCast_mul, e]
theorem compare_scale (a b : Int) (k : Nat) (hk : 0 < k) : compare a b = compare (a * k) (b * k) := by
  have hk' : (0 : Int) < k := by omega
  simp only [compare, compareOfLessAndEq]
  have e1 : (a < b) ↔ (a * k < b * k) := (Int.mul_lt_mul_right hk').symm
  have e2 : (a = b) ↔ (a * k = b * k) := ⟨fun h => by rw [h], fun h => Int.eq_of_mul_eq_mul_right (by omega) h⟩
  by_cases h1 : a < b
  · rw [if_pos h1, if_pos (e1.1 h1)]
  · rw [if_neg h1, if_neg (fun h => h1 (e1.2 h))]
    by_cases h2 : a = b
    · rw [if_pos h2, if_pos (e2.1 h2)]
    · rw [if_neg h2, if_neg (fun h => h2 (e2.2 h))]
theorem order_val {x y : Nat} (hx : isF x = true) (hy : isF y = true) : FloatKind.f32.format.order x y = some (compare (val x) (val y)) := by
  obtain ⟨m, p, e1, hp, hm⟩ := decode_fin hx
  obtain ⟨n, q, e2, hq, hn⟩ := decode_fin hy
  have d1 : FloatKind.f32.format.read x = .number (neg32 x) m p := e1
  have d2 : FloatKind.f32.format.read y = .number (neg32 y) n q := e2
  unfold Ieee.Format.order
  rw [d1, d2]
  simp only [Ieee.Datum.order]
  rw [compare_scale _ _ (2 ^ (min p q + 149).toNat) (Nat.two_pow_pos _), signed_scale _ _ _ _ (by omega) (by omega), signed_scale _ _ _ _ (by omega) (by omega), hm, hn]
  rfl
theorem flt_val {x y : Nat} (hx : isF x = true) (hy : isF y = true) : flt .f32 x y = decide (val x < val y) := by
  unfold flt
  rw [order_val hx hy]
  simp only [compare, compareOfLessAndEq]
  by_cases h : val x < val y
  · simp [h]
  · by_cases h2 : val x = val y <;> simp [h, h2]
end Go.Proofs.Ytpnkapdemgieaaa
set_option linter.unusedSimpArgs false
set_option linter.unusedVariables false
set_option linter.unusedSectionVars false
namespace Go.Proofs.Ytpnkapdemgieaaa
open Go Go.RowKit
theorem fin_isF0 {c : Nat} (h : fin .f32 c = true) : isF c = true := by
  obtain ⟨s, m, i, e⟩ := fin_decode h
  rw [decode_single] at e
  unfold isF
  by_cases c1 : c % 2147483648 < 8388608
  · exact decide_eq_true (by omega)
  · rw [if_neg c1] at e
    by_cases c2 : c % 2147483648 < 2139095040
    · exact decide_eq_true c2
    · rw [if_neg c2] at e
      by_cases c3 : c % 2147483648 = 2139095040
      · rw [if_pos c3] at e; cases e
      · rw [if_neg c3] at e; cases e
def fmin (x y : Nat) : Nat := if val y < val x then y else if val x < val y then x else if (FloatKind.f32.decode x).neg then x else y
def fmax (x y : Nat) : Nat := if val x < val y then y else if val y < val x then x else if (FloatKind.f32.decode x).neg then y else x
theorem run_fmin {P : Program} {x y : Nat} (hx : isF x = true) (hy : isF y = true) (ts : Array TypeId) (t : TypeId) (w : World) : (Builtin.min_ ts t #[.float .f32 x, .float .f32 y]).run P w = .ok (.float .f32 (fmin x y)) w := by
  have h := order_val hx hy
  unfold fmin
  rcases hc : compare (val x) (val y) with _ | _ | _
  · have := Int.compare_eq_lt.1 hc
    rw [hc] at h
    simp [Builtin.min_, Builtin.min2, h, show ¬ val y < val x by omega, show val x < val y from this]
  · have := Int.compare_eq_eq.1 hc
    rw [hc] at h
    simp [Builtin.min_, Builtin.min2, h, show ¬ val y < val x by omega, show ¬ val x < val y by omega]
  · have := Int.compare_eq_gt.1 hc
    rw [hc] at h
    simp [Builtin.min_, Builtin.min2, h, show val y < val x from this, show ¬ val x < val y by omega]
theorem run_fmax {P : Program} {x y : Nat} (hx : isF x = true) (hy : isF y = true) (ts : Array TypeId) (t : TypeId) (w : World) : (Builtin.max_ ts t #[.float .f32 x, .float .f32 y]).run P w = .ok (.float .f32 (fmax x y)) w := by
  have h := order_val hx hy
  unfold fmax
  rcases hc : compare (val x) (val y) with _ | _ | _
  · have := Int.compare_eq_lt.1 hc
    rw [hc] at h
    simp [Builtin.max_, Builtin.max2, h, show ¬ val y < val x by omega, show val x < val y from this]
  · have := Int.compare_eq_eq.1 hc
    rw [hc] at h
    simp [Builtin.max_, Builtin.max2, h, show ¬ val y < val x by omega, show ¬ val x < val y by omega]
  · have := Int.compare_eq_gt.1 hc
    rw [hc] at h
    simp [Builtin.max_, Builtin.max2, h, show val y < val x from this, show ¬ val x < val y by omega]
end Go.Proofs.Ytpnkapdemgieaaa
set_option linter.unusedSimpArgs false
set_option linter.unusedVariables false
set_option linter.unusedSectionVars false
namespace Go.Proofs.Ytpnkapdemgieaaa
open Go Go.RowKit
/-- A hundredth and two hundredths. -/
def c01 : Nat := cn .f64 4576918229304087675
def c02 : Nat := cn .f64 4581421828931458171
theorem c01_val : fnt .f64 c01 = true ∧ 1 / 120 ≤ fv .f64 c01 ∧ fv .f64 c01 ≤ 1 / 64 := ⟨by decide +kernel, by decide +kernel, by decide +kernel⟩
theorem c02_val : fnt .f64 c02 = true ∧ 1 / 64 ≤ fv .f64 c02 ∧ fv .f64 c02 ≤ 1 / 32 := ⟨by decide +kernel, by decide +kernel, by decide +kernel⟩
theorem tp_m20 : tp (-20) * 1048576 = 1 := by
  have h : tp (-20) * tp 20 = 1 := by rw [← tp_add]; exact tp_zero
  rwa [show tp 20 = 1048576 from (tp_nat 20).trans rfl] at h
/-- A bound and a hundredth. -/
theorem c01_op {l : Nat} (op : BinOp) (hop : op = .sub ∨ op = .add) (hl : fnt .f32 l = true) (b1 : fv .f32 l ≤ 9) (b2 : -9 ≤ fv .f32 l) : fnt .f64 (fop op .f64 (wide l) c01) = true ∧ fv .f64 (fop op .f64 (wide l) c01) - ex op (fv .f32 l) (fv .f64 c01) ≤ 1 / 100000 ∧ ex op (fv .f32 l) (fv .f64 c01) - fv .f64 (fop op .f64 (wide l) c01) ≤ 1 / 100000 := by
  obtain ⟨c0, c1, c2⟩ := c01_val
  obtain ⟨w0, w1⟩ := wide_val hl
  have t7 : tp 7 = 128 := (tp_nat 7).trans rfl
  have d : tp (7 - (FloatKind.f64.format.fractionBits : Int) - 1) ≤ tp (-20) := tp_le (by decide)
  have f := tp_m20
  rcases hop with rfl | rfl
  · obtain ⟨a, b⟩ := fop_rnd .sub rfl .f64 w0 c0 (by simp) 7 (by decide) (by simp only [ex]; rw [w1, t7]; grind) (by simp only [ex]; rw [w1, t7]; grind)
    have c := rnd_err (Q := 7) b (by simp only [ex]; rw [w1, t7]; grind) (by simp only [ex]; rw [w1, t7]; grind) (by decide)
    simp only [ex] at c ⊢
    rw [w1] at c
    exact ⟨a, by grind, by grind⟩
  · obtain ⟨a, b⟩ := fop_rnd .add rfl .f64 w0 c0 (by simp) 7 (by decide) (by simp only [ex]; rw [w1, t7]; grind) (by simp only [ex]; rw [w1, t7]; grind)
    have c := rnd_err (Q := 7) b (by simp only [ex]; rw [w1, t7]; grind) (by simp only [ex]; rw [w1, t7]; grind) (by decide)
    simp only [ex] at c ⊢
    rw [w1] at c
    exact ⟨a, by grind, by grind⟩
theorem not_below {x l : Nat} (hx : fnt .f32 x = true) (hl : fnt .f32 l = true) (b1 : fv .f32 l ≤ 9) (b2 : -9 ≤ fv .f32 l) (h : fv .f32 l - 1 / 128 ≤ fv .f32 x) : flt .f64 (wide x) (fop .sub .f64 (wide l) c01) = false := by
  obtain ⟨c0, c1, c2⟩ := c01_val
  obtain ⟨a, b, c⟩ := c01_op .sub (.inl rfl) hl b1 b2
  obtain ⟨w0, w1⟩ := wide_val hx
  simp only [ex] at b c
  rw [fltv w0 a, w1]
  exact decide_eq_false (by grind)
theorem not_above {x l : Nat} (hx : fnt .f32 x = true) (hl : fnt .f32 l = true) (b1 : fv .f32 l ≤ 9) (b2 : -9 ≤ fv .f32 l) (h : fv .f32 x ≤ fv .f32 l + 1 / 128) : fgt .f64 (wide x) (fop .add .f64 (wide l) c01) = false := by
  obtain ⟨c0, c1, c2⟩ := c01_val
  obtain ⟨a, b, c⟩ := c01_op .add (.inr rfl) hl b1 b2
  obtain ⟨w0, w1⟩ := wide_val hx
  simp only [ex] at b c
  rw [fgtv w0 a, w1]
  exact decide_eq_false (by grind)
/-- Near one another. -/
theorem near_not {x y : Nat} (hx : fnt .f32 x = true) (hy : fnt .f32 y = true) (h1 : fv .f32 x - fv .f32 y ≤ 1 / 128) (h2 : fv .f32 y - fv .f32 x ≤ 1 / 128) : gapOk (wide x) (wide y) ∧ fgt .f64 (gap8 (wide x) (wide y)) c01 = false ∧ flt .f64 (gap8 (wide x) (wide y)) c01 = true := by
  obtain ⟨c0, c1, c2⟩ := c01_val
  obtain ⟨w0, w1⟩ := wide_val hx
  obtain ⟨v0, v1⟩ := wide_val hy
  obtain ⟨g, b0, b1, b2⟩ := gap8_le w0 v0 rep128 (by rw [w1, v1]; exact h1) (by rw [w1, v1]; exact h2)
  refine ⟨g, ?_, ?_⟩
  · rw [fgtv b0 c0]; exact decide_eq_false (by grind)
  · rw [fltv b0 c0]; exact decide_eq_true (by grind)
theorem gap8_ge {x y : Nat} (hx : fnt .f64 x = true) (hy : fnt .f64 y = true) (g : gapOk x y) (x1 : fv .f64 x ≤ 1000) (x2 : -1000 ≤ fv .f64 x) (y1 : fv .f64 y ≤ 1000) (y2 : -1000 ≤ fv .f64 y) : 0 ≤ fv .f64 (gap8 x y) := by
  have r0 : Rep .f64 (0 : Rat) := Rep.int (k := .f64) 0 (by decide)
  have r2 : Rep .f64 (2048 : Rat) := Rep.int (k := .f64) 2048 (by decide)
  obtain ⟨g1, g2, g3, _⟩ := fmax64_val g.1 g.2
  rcases rle_tot (fv .f64 y) (fv .f64 x) with h | h
  · obtain ⟨_, a, _⟩ := fop_btw .sub rfl .f64 (a := 0) (b := 2048) hx hy (by simp) r0 r2 (by simp only [ex]; grind) (by simp only [ex]; grind)
    show 0 ≤ fv .f64 (fmax64 _ _); grind
  · obtain ⟨_, a, _⟩ := fop_btw .sub rfl .f64 (a := 0) (b := 2048) hy hx (by simp) r0 r2 (by simp only [ex]; grind) (by simp only [ex]; grind)
    show 0 ≤ fv .f64 (fmax64 _ _); grind
theorem V0d : V .f64 (cn .f64 0) 0 := ⟨by decide +kernel, by decide +kernel⟩
theorem rep_k : Rep .f64 ((1 : Rat) / 1024) := rep64 1 (-10) (by decide) (by decide) (by decide) (by
  have h : tp (-10) * tp 10 = 1 := by rw [← tp_add]; exact tp_zero
  rw [show tp 10 = 1024 from (tp_nat 10).trans rfl] at h
  have e : ((1 : Int) : Rat) = 1 := rfl
  rw [e]; grind)
theorem rep_64 : Rep .f64 ((1 : Rat) / 64) := rep64 1 (-6) (by decide) (by decide) (by decide) (by
  have h : tp (-6) * tp 6 = 1 := by rw [← tp_add]; exact tp_zero
  rw [show tp 6 = 64 from (tp_nat 6).trans rfl] at h
  have e : ((1 : Int) : Rat) = 1 := rfl
  rw [e]; grind)
/-- The flows. -/
theorem flow_law {f F : Nat} (hf : fnt .f32 f = true) (hF : fnt .f32 F = true) (F1 : fv .f32 F ≤ 200) (F2 : -200 ≤ fv .f32 F) (h1 : fv .f32 f - fv .f32 F ≤ 1 / 1024) (h2 : fv .f32 F - fv .f32 f ≤ 1 / 1024) :
    gapOk (wide f) (wide F) ∧ gapOk (wide F) (cn .f64 0) ∧ fgt .f64 (gap8 (wide f) (wide F)) (fop .mul .f64 c02 (fop .add .f64 (cn .f64 4607182418800017408) (gap8 (wide F) (cn .f64 0)))) = false := by
  obtain ⟨c0, c1, c2⟩ := c02_val
  obtain ⟨w0, w1⟩ := wide_val hf
  obtain ⟨v0, v1⟩ := wide_val hF
  have r1 : Rep .f64 (1 : Rat) := Rep.int (k := .f64) 1 (by decide)
  have r256 : Rep .f64 (256 : Rat) := Rep.int (k := .f64) 256 (by decide)
  have r1000 : Rep .f64 (1000 : Rat) := Rep.int (k := .f64) 1000 (by decide)
  obtain ⟨g, b0, b1, b2⟩ := gap8_le w0 v0 rep_k (by rw [w1, v1]; exact h1) (by rw [w1, v1]; exact h2)
  obtain ⟨k, d0, d1, d2⟩ := gap8_le v0 V0d.1 r256 (by rw [v1, V0d.2]; grind) (by rw [v1, V0d.2]; grind)
  have d3 := gap8_ge v0 V0d.1 k (by rw [v1]; grind) (by rw [v1]; grind) (by rw [V0d.2]; grind) (by rw [V0d.2]; grind)
  obtain ⟨e0, e1, e2⟩ := fop_btw .add rfl .f64 (a := 1) (b := 1000) Vone.1 d0 (by simp) r1 r1000 (by simp only [ex]; rw [Vone.2]; grind) (by simp only [ex]; rw [Vone.2]; grind)
  generalize fop .add .f64 (cn .f64 4607182418800017408) (gap8 (wide F) (cn .f64 0)) = S at *
  have m1 := Rat.mul_le_mul_of_nonneg_left e1 (show 0 ≤ fv .f64 c02 by grind)
  have m2 := Rat.mul_le_mul_of_nonneg_right c2 (show 0 ≤ fv .f64 S by grind)
  obtain ⟨f0, f1, _⟩ := fop_btw .mul rfl .f64 (a := 1 / 64) (b := 1000) c0 e0 (by simp) rep_64 r1000 (by simp only [ex]; grind) (by simp only [ex]; grind)
  refine ⟨g, k, ?_⟩
  rw [fgtv b0 f0]
  exact decide_eq_false (by grind)
/-! ### The lesser and the greater -/
theorem fnt_isF {x : Nat} (h : fnt .f32 x = true) : isF x = true := fin_isF0 (fin_of_fnt h)
theorem same_rawR {k : FloatKind} {x : Nat} (hf : fnt k (cn k x) = true) : cn k x = x := by
  cases hn : isN k x with
  | true =>
    rw [cn_of_isN hn] at hf
    have : fnt k (qn k) = false := by cases k <;> decide +kernel
    rw [this] at hf; cases hf
  | false => exact cn_of_not hn
theorem val_fvR {x y : Nat} (hx : fnt .f32 x = true) (hy : fnt .f32 y = true) : (val x < val y) ↔ (fv .f32 x < fv .f32 y) := by
  have a := flt_val (fin_isF0 (fin_of_fnt hx)) (fin_isF0 (fin_of_fnt hy))
  rw [fltv hx hy] at a
  exact (decide_eq_decide.1 a).symm
theorem fmin_fvR {x y : Nat} (hx : fnt .f32 x = true) (hy : fnt .f32 y = true) : (fmin x y = x ∨ fmin x y = y) ∧ fv .f32 (fmin x y) ≤ fv .f32 x ∧ fv .f32 (fmin x y) ≤ fv .f32 y := by
  have h1 := val_fvR hx hy
  have h2 := val_fvR hy hx
  unfold fmin
  by_cases c : val y < val x
  · rw [if_pos c]; exact ⟨.inr rfl, Rat.le_of_lt (h2.1 c), Rat.le_refl⟩
  · rw [if_neg c]
    have n2 : ¬ fv .f32 y < fv .f32 x := fun e => c (h2.2 e)
    by_cases c2 : val x < val y
    · rw [if_pos c2]; exact ⟨.inl rfl, Rat.le_refl, by grind⟩
    · rw [if_neg c2]
      have n1 : ¬ fv .f32 x < fv .f32 y := fun e => c2 (h1.2 e)
      split
      · exact ⟨.inl rfl, Rat.le_refl, by grind⟩
      · exact ⟨.inr rfl, by grind, Rat.le_refl⟩
theorem fmax_fvR {x y : Nat} (hx : fnt .f32 x = true) (hy : fnt .f32 y = true) : (fmax x y = x ∨ fmax x y = y) ∧ fv .f32 x ≤ fv .f32 (fmax x y) ∧ fv .f32 y ≤ fv .f32 (fmax x y) := by
  have h1 := val_fvR hx hy
  have h2 := val_fvR hy hx
  unfold fmax
  by_cases c : val x < val y
  · rw [if_pos c]; exact ⟨.inr rfl, Rat.le_of_lt (h1.1 c), Rat.le_refl⟩
  · rw [if_neg c]
    have n2 : ¬ fv .f32 x < fv .f32 y := fun e => c (h1.2 e)
    by_cases c2 : val y < val x
    · rw [if_pos c2]; exact ⟨.inl rfl, Rat.le_refl, by grind⟩
    · rw [if_neg c2]
      have n1 : ¬ fv .f32 y < fv .f32 x := fun e => c2 (h2.2 e)
      split
      · exact ⟨.inr rfl, by grind, Rat.le_refl⟩
      · exact ⟨.inl rfl, Rat.le_refl, by grind⟩
/-- The bounds that the law keeps: a lower and an upper one. -/
structure LH (l h : Nat) (lo hi : Rat) : Prop where
  fl : fnt .f32 l = true
  fh : fnt .f32 h = true
  bl : -8 ≤ fv .f32 l ∧ fv .f32 l ≤ 8
  bh : -8 ≤ fv .f32 h ∧ fv .f32 h ≤ 8
  l : fv .f32 l ≤ lo
  h : hi ≤ fv .f32 h
theorem LH.next {l h : Nat} {lo hi : Rat} (k : LH l h lo hi) {x : Nat} (hx : fnt .f32 x = true) (b1 : -8 ≤ fv .f32 x) (b2 : fv .f32 x ≤ 8) : LH (fmin l x) (fmax h x) lo hi ∧ fv .f32 (fmin l x) ≤ fv .f32 x ∧ fv .f32 x ≤ fv .f32 (fmax h x) ∧ fv .f32 (fmin l x) ≤ fv .f32 l ∧ fv .f32 h ≤ fv .f32 (fmax h x) := by
  obtain ⟨a1, a2, a3⟩ := fmin_fvR k.fl hx
  obtain ⟨c1, c2, c3⟩ := fmax_fvR k.fh hx
  have m := k.bl
  have n := k.bh
  have p := k.l
  have q := k.h
  refine ⟨⟨?_, ?_, ?_, ?_, ?_, ?_⟩, a3, c3, a2, c2⟩
  · rcases a1 with e | e <;> rw [e]
    · exact k.fl
    · exact hx
  · rcases c1 with e | e <;> rw [e]
    · exact k.fh
    · exact hx
  · rcases a1 with e | e <;> rw [e] <;> exact ⟨by grind, by grind⟩
  · rcases c1 with e | e <;> rw [e] <;> exact ⟨by grind, by grind⟩
  · grind
  · grind
end Go.Proofs.Ytpnkapdemgieaaa
set_option linter.unusedSimpArgs false
set_option linter.unusedVariables false
set_option linter.unusedSectionVars false
namespace Go.Proofs.Ytpnkapdemgieaaa
open Go Go.RowKit
open Go.ChangeShapes Go.WideShapes Go.ChangeAt Go.RowKit Go.Joins
theorem crB_in {a b : Nat} {P : Rd} {X i : Nat} (ha : P.d.getD i 0 = a) (hb : P.d.getD (i + 1) 0 = b) : crB P X i = (flt .f32 (cn .f32 a) X != flt .f32 (cn .f32 b) X) := by unfold crB; rw [ha, hb]
set_option maxHeartbeats 4000000 in
set_option maxRecDepth 100000 in
theorem implPlace_any (P : Rd) (l : RL) (x X : Nat) (w : World) (hs : P.fs w l) (hX : cn .f32 x = X) (h0 : P.ok = true) (hm : midOk P.a = true) (hx : fin .f32 X = true) (c0 : Nat) (b0 : Bool)
    (H : ∀ k, (∀ i, i < k → crB P X i = false) → (k + 1 < P.a.length → crB P X k = true → c0 = plW P X k ∧ b0 = true ∧ fin .f32 (plW P X k) = true) ∧ (¬ k + 1 < P.a.length → c0 = cn .f32 0 ∧ b0 = false)) : Calls Try.prog 16 #[.agg #[.slice l.p1 P.a.length l.c1, .slice l.p2 P.b.length l.c2, .slice l.p3 P.c.length l.c3, .slice l.p4 P.d.length l.c4], .float .f32 x] w (BFB w .f32 c0 b0) := by
  have HH := Lib.hid H
  have HS := Lib.hid hs
  have HV := Lib.hid (fun w h => implValidRod_any P l w h)
  have HM := Lib.hid (fun w h => implMiddles_any P l w h h0)
  rw [h0] at HV
  rw [hm] at HM
  obtain ⟨hn1, hn2⟩ := (Rd.ok_len h0).1
  have HLD := Lib.hid (Rd.ok_len h0).2.2.2
  obtain ⟨b1, o1, c1, b2, o2, c2, b3, o3, c3, b4, o4, c4, rfl, HA, HB, HCC, HD⟩ := Rd.open hs h0
  clear hs h0 hm H HA HB HCC
  go_enter Try.func16, Try.ntmps16
  go_wp2_with (first | (with_reducible refine at_list ?_; refine wpList_fop rfl rfl rfl rfl rfl ?_; intro r n hr0; have hr := hr0 _ _ (by first | with_reducible assumption | exact rfl) (by first | with_reducible assumption | exact rfl); clear hr0) | (with_reducible refine at_list ?_; refine wpList_neg rfl rfl rfl ?_; intro r hr0; have hr := hr0 _ (by first | with_reducible assumption | exact rfl); clear hr0) | (with_reducible refine at_list ?_; refine wpList_fop_g rfl rfl rfl rfl rfl ?_; intro r n hr0; have hr := hr0 _ _ (by first | with_reducible assumption | exact rfl) (by first | with_reducible assumption | exact rfl); clear hr0) | (go_at_call 48; refine stop_here ?_) | (go_at_call 35; refine ((HV.out _ (HS.out.later (by (repeat (first | (with_reducible exact Below.refl _ _) | (with_reducible assumption) | (with_reducible refine below_then ?_ (by assumption)) | (with_reducible refine Below.trans ?_ (by assumption)) | (with_reducible refine below_drewN ?_ _) | (with_reducible apply Below.drew) | (with_reducible refine below_alloc ?_ _) | refine Below.setCell ?_ (by first | (simp; done) | (simp; omega)) _))))) ).mono ?_; rintro e w' ⟨rfl, hb⟩; obtain ⟨hT, hk⟩ := bv_next hb (by (repeat (with_reducible first | assumption | apply Trk.alloc | apply Trk.setCell | apply Trk.drewN | apply Trk.drew | exact Trk.nil _))); simp only [SameOn, World.size_alloc, World.size_setCell, World.size_drew, size_drewN', and_true] at hk; have hsz := Below.size hb; (try simp only [World.size_alloc, World.size_setCell, World.size_drew, size_drewN'] at hsz)) | (go_at_call 41; refine (IsFinite_any _ _).mono ?_; rintro e w' ⟨rfl, n, rfl⟩) | (go_at_call 48; refine (implMiddles_any _ _ _ (by assumption) (by assumption)).mono ?_; rintro e w' ⟨u, ys, rfl, hb, hO, hL⟩; obtain ⟨pu, cu, rfl⟩ := OF.shape hO; (try simp only [World.size_alloc, World.size_setCell, World.size_drew, World.drewN] at hO); obtain ⟨hT, hk⟩ := bv_next hb (by (repeat (with_reducible first | assumption | apply Trk.alloc | apply Trk.setCell | apply Trk.drewN | apply Trk.drew | exact Trk.nil _))); simp only [SameOn, World.size_alloc, World.size_setCell, World.size_drew, size_drewN', and_true] at hk; have hsz := Below.size hb; (try simp only [World.size_alloc, World.size_setCell, World.size_drew, size_drewN'] at hsz)) | (go_at_call 47; refine (checked_any _ _).mono ?_; rintro e w' ⟨r, rfl, hr, n, rfl⟩))
  unfold Stop
  refine (HM.out _ (HS.out.later (by (repeat (first | (with_reducible exact Below.refl _ _) | (with_reducible assumption) | (with_reducible refine below_then ?_ (by assumption)) | (with_reducible refine Below.trans ?_ (by assumption)) | (with_reducible refine below_drewN ?_ _) | (with_reducible apply Below.drew) | (with_reducible refine below_alloc ?_ _) | refine Below.setCell ?_ (by first | (simp; done) | (simp; omega)) _))))).mono ?_
  rintro e w' ⟨u, ys, rfl, hb, hO, hL⟩
  have hyl : ys.length = P.a.length := by have := congrArg List.length hL; rw [midL_len] at this; simpa using this
  obtain ⟨bm, om, cm, rfl, _, HY⟩ := FS.ptr hO.fs (by omega)
  rw [hyl]
  rw [hyl] at HY
  obtain ⟨hT, hk⟩ := bv_next hb (by (repeat (with_reducible first | assumption | apply Trk.alloc | apply Trk.setCell | apply Trk.drewN | apply Trk.drew | exact Trk.nil _))); simp only [SameOn, World.size_alloc, World.size_setCell, World.size_drew, size_drewN', and_true] at hk; have hsz := Below.size hb; (try simp only [World.size_alloc, World.size_setCell, World.size_drew, size_drewN'] at hsz)
  have hbw : Below w.heap.size w w' := by (repeat (first | (with_reducible exact Below.refl _ _) | (with_reducible assumption) | (with_reducible refine below_then ?_ (by assumption)) | (with_reducible refine Below.trans ?_ (by assumption)) | (with_reducible refine below_drewN ?_ _) | (with_reducible apply Below.drew) | (with_reducible refine below_alloc ?_ _) | refine Below.setCell ?_ (by first | (simp; done) | (simp; omega)) _))
  have HG : Hid (∀ i, i < P.a.length → cn .f32 (ys.getD i 0) = midAt P.a i) := fun i hi => by
    rw [← midL_at hi, ← hL, List.getD_eq_getElem?_getD, List.getD_eq_getElem?_getD, List.getElem?_map, List.getElem?_eq_getElem (by omega)]; rfl
  have HBW := Lib.hid hbw
  clear hL hyl hbw HV HM
  go_wp2
  refine wp_named ?_
  intro ws hws
  have hbs : Below w.heap.size w ws := by rw [hws]; exact HBW.out
  have HC : Hid ((ws.cell? ⟨w.heap.size, 0, none⟩ = some (.slice (some ⟨b1, o1, none⟩) P.a.length c1) ∧ ws.cell? ⟨w.heap.size, 1, none⟩ = some (.slice (some ⟨b2, o2, none⟩) P.b.length c2) ∧ ws.cell? ⟨w.heap.size, 2, none⟩ = some (.slice (some ⟨b3, o3, none⟩) P.c.length c3) ∧ ws.cell? ⟨w.heap.size, 3, none⟩ = some (.slice (some ⟨b4, o4, none⟩) P.d.length c4)) ∧ w.heap.size < ws.heap.size) := by
    show _ ∧ _
    rw [hws]
    exact ⟨⟨by go_simp, by go_simp, by go_simp, by go_simp⟩, by omega⟩
  have HYs : Hid (∀ i, i < P.a.length → ws.cell? ⟨bm, om + i, none⟩ = some (.float .f32 (ys.getD i 0))) := fun i hi => by rw [hws]; exact HY.out i hi
  have HDs : Hid (∀ i, i < P.d.length → ws.cell? ⟨b4, o4 + i, none⟩ = some (.float .f32 (P.d.getD i 0))) := fun i hi => cell_later hbs (HD.out i (by rw [← HLD.out]; exact hi))
  have HBS := Lib.hid hbs
  have HX := Lib.hid hX
  have HF := Lib.hid hx
  (repeat (clear hk))
  (repeat (clear hT))
  clear hws hbs HBW HY HD hO hb hx hX
  go_loopw [8] (fun t wr => ∃ (k : Nat), k + 1 ≤ P.a.length ∧ t = .int .i64 ((k : Int) + 1) ∧ Hid (∀ i, i < k → crB P X i = false) ∧ Hid (Below ws.heap.size ws wr)) (fun t _ => P.a.length - (intOf t).toNat)
  case atStart => exact ⟨0, by omega, rfl, fun i hi => by omega, Below.refl _ _⟩
  case round =>
    obtain ⟨k, hkn, rfl, HN, HW⟩ := hrel
    have hbW := HW.out
    have hbww : Below w.heap.size w wr := HBS.out.trans (HW.out.mono HBS.out.size)
    by_cases hlt : k + 1 < P.a.length
    · have hki : (k : Int) + 1 < (P.a.length : Int) := by omega
      have hld := HLD.out
      have hkd : k + 1 < P.d.length := by omega
      have hkd0 : k < P.d.length := by omega
      have hkdi : (k : Int) + 1 < (P.d.length : Int) := by omega
      have hkdi0 : (k : Int) < (P.d.length : Int) := by omega
      have hkdi1 : (k : Int) < (P.a.length : Int) := by omega
      have hw1 : IntKind.i64.wrap (k : Int) = (k : Int) := IntWalk.i64_in _ (by omega)
      have hw2 : 0 ≤ (k : Int) + 1 := by omega
      have hw3 : ((k : Int) + 1).toNat = k + 1 := by omega
      clear hld
      have z0 := cell_later hbW (HDs.out k hkd0)
      have z1 := cell_later hbW (HDs.out (k + 1) hkd)
      have y0 := cell_later hbW (HYs.out k (by omega))
      have y1 := cell_later hbW (HYs.out (k + 1) hlt)
      obtain ⟨⟨d0, d1, d2, d3⟩, dl⟩ : (wr.cell? ⟨w.heap.size, 0, none⟩ = some (.slice (some ⟨b1, o1, none⟩) P.a.length c1) ∧ wr.cell? ⟨w.heap.size, 1, none⟩ = some (.slice (some ⟨b2, o2, none⟩) P.b.length c2) ∧ wr.cell? ⟨w.heap.size, 2, none⟩ = some (.slice (some ⟨b3, o3, none⟩) P.c.length c3) ∧ wr.cell? ⟨w.heap.size, 3, none⟩ = some (.slice (some ⟨b4, o4, none⟩) P.d.length c4)) ∧ w.heap.size < wr.heap.size := ⟨⟨cell_later hbW HC.out.1.1, cell_later hbW HC.out.1.2.1, cell_later hbW HC.out.1.2.2.1, cell_later hbW HC.out.1.2.2.2⟩, Nat.lt_of_lt_of_le HC.out.2 hbW.size⟩
      have hT : Trk wr [w.heap.size, b4, bm] := (((Trk.nil wr).more (World.block_lt_of_cell? _ _ y1)).more (World.block_lt_of_cell? _ _ z1)).more dl
      have m0 := HG.out k (by omega)
      have m1 := HG.out (k + 1) hlt
      have HCR : Hid (∀ a b, P.d.getD k 0 = a → P.d.getD (k + 1) 0 = b → crB P X k = (flt .f32 (cn .f32 a) X != flt .f32 (cn .f32 b) X)) := fun a b ha hb => crB_in ha hb
      have HPL : Hid (∀ a b, P.d.getD k 0 = a → P.d.getD (k + 1) 0 = b → plW P X k = fop .add .f32 (midAt P.a k) (fop .mul .f32 (fop .sub .f32 (midAt P.a (k + 1)) (midAt P.a k)) (fop .quo .f32 (fop .sub .f32 X (cn .f32 a)) (fop .sub .f32 (cn .f32 b) (cn .f32 a))))) := fun a b ha hb => by unfold plW; rw [ha, hb]
      generalize hva : P.d.getD k 0 = va at z0 HCR HPL
      generalize hvb : P.d.getD (k + 1) 0 = vb at z1 HCR HPL
      have HCR2 := Lib.hid (HCR.out _ _ rfl rfl)
      have HPL2 := Lib.hid (HPL.out _ _ rfl rfl)
      clear HCR HPL hva hvb
      generalize midAt P.a k = M0 at m0 HPL2
      generalize midAt P.a (k + 1) = M1 at m1 HPL2
      generalize ys.getD k 0 = r0 at y0 m0
      generalize ys.getD (k + 1) 0 = r1 at y1 m1
      have hX := HX.out
      have hR := HH.out k HN.out
      have HRR := Lib.hid hR
      clear hR
      go_wp2
      (refine wp_some_lit (by kernel_rfl) (by kernel_rfl) ?_; (iterate 13 (refine wpSome_one ?_; go_big_quiet_step (fail); refine wpQuiet_nil ?_)); refine wpSome_nil ?_; intro w' hw'; obtain ⟨nq, rfl⟩ := hw')
      rotate_left
      all_goals (try (first | kernel_rfl | rfl))
      rcases f1 : flt .f32 (cn .f32 va) X <;> rcases f2 : flt .f32 (cn .f32 vb) X
      · have HCF : Hid (crB P X k = false) := by show _ = _; rw [HCR2.out, f1, f2]; rfl
        clear HPL2 HCR2 HRR m0 m1
        go_wp2
        go_roundw
        case rel => exact ⟨k + 1, by omega, by go_num, fun i hi => by rcases Nat.lt_succ_iff_lt_or_eq.1 hi with h | rfl; exact HN.out i h; exact HCF.out, by show Below _ _ _; exact below_then hbW (by (repeat (first | (with_reducible exact Below.refl _ _) | (with_reducible assumption) | (with_reducible refine below_then ?_ (by assumption)) | (with_reducible refine Below.trans ?_ (by assumption)) | (with_reducible refine below_drewN ?_ _) | (with_reducible apply Below.drew) | (with_reducible refine below_alloc ?_ _) | refine Below.setCell ?_ (by first | (simp; done) | (simp; omega)) _)))⟩
        case measure => simp [intOf]; omega
      · have HCF : Hid (crB P X k = true) := by show _ = _; rw [HCR2.out, f1, f2]; rfl
        obtain ⟨e1, e2, e3⟩ := HRR.out.1 hlt HCF.out
        have HE := Lib.hid e1
        have HE2 := Lib.hid e2
        clear HCR2 HRR e1 e2
        rw [HPL2.out] at e3
        have HCH : Hid (∀ r, cn .f32 r = chk (fop .add .f32 M0 (fop .mul .f32 (fop .sub .f32 M1 M0) (fop .quo .f32 (fop .sub .f32 X (cn .f32 va)) (fop .sub .f32 (cn .f32 vb) (cn .f32 va))))) → cn .f32 r = c0) := fun r h => by rw [h, chk_yes e3, HE.out, HPL2.out]
        go_wp2_with (first | (with_reducible refine at_list ?_; refine wpList_fop rfl rfl rfl rfl rfl ?_; intro r n hr0; have hr := hr0 _ _ (by first | with_reducible assumption | exact rfl) (by first | with_reducible assumption | exact rfl); clear hr0) | (with_reducible refine at_list ?_; refine wpList_neg rfl rfl rfl ?_; intro r hr0; have hr := hr0 _ (by first | with_reducible assumption | exact rfl); clear hr0) | (with_reducible refine at_list ?_; refine wpList_fop_g rfl rfl rfl rfl rfl ?_; intro r n hr0; have hr := hr0 _ _ (by first | with_reducible assumption | exact rfl) (by first | with_reducible assumption | exact rfl); clear hr0) | (go_at_call 35; refine (implValidRod_any _ _ _ (by assumption)).mono ?_; rintro e w' ⟨rfl, hb⟩; obtain ⟨hT, hk⟩ := bv_next hb (by (repeat (with_reducible first | assumption | apply Trk.alloc | apply Trk.setCell | apply Trk.drewN | apply Trk.drew | exact Trk.nil _))); simp only [SameOn, World.size_alloc, World.size_setCell, World.size_drew, size_drewN', and_true] at hk; have hsz := Below.size hb; (try simp only [World.size_alloc, World.size_setCell, World.size_drew, size_drewN'] at hsz)) | (go_at_call 41; refine (IsFinite_any _ _).mono ?_; rintro e w' ⟨rfl, n, rfl⟩) | (go_at_call 48; refine (implMiddles_any _ _ _ (by assumption) (by assumption)).mono ?_; rintro e w' ⟨u, ys, rfl, hb, hO, hL⟩; obtain ⟨pu, cu, rfl⟩ := OF.shape hO; (try simp only [World.size_alloc, World.size_setCell, World.size_drew, World.drewN] at hO); obtain ⟨hT, hk⟩ := bv_next hb (by (repeat (with_reducible first | assumption | apply Trk.alloc | apply Trk.setCell | apply Trk.drewN | apply Trk.drew | exact Trk.nil _))); simp only [SameOn, World.size_alloc, World.size_setCell, World.size_drew, size_drewN', and_true] at hk; have hsz := Below.size hb; (try simp only [World.size_alloc, World.size_setCell, World.size_drew, size_drewN'] at hsz)) | (go_at_call 47; refine (checked_any _ _).mono ?_; rintro e w' ⟨r, rfl, hr, n, rfl⟩))
        (apply wp_region_plan; (iterate 4 ((apply wpC_det; (case hw => exact rfl); (case hs => (intro cs b h; cases h)); (case h1 => (intro w'; go_simp <;> exact rfl))); apply wpC_norm; (case ha => (simp only [Act.put, List.setIfInBounds_toArray, List.set_cons_zero, List.set_cons_succ]; exact rfl)))); ((apply wpC_val; (case hw => exact rfl); (case h1 => (intro w' hb hk0; obtain ⟨hT, hk⟩ := bv_next hb (by (repeat (with_reducible first | assumption | apply Trk.alloc | apply Trk.setCell | apply Trk.drewN | apply Trk.drew | exact Trk.nil _))); simp only [SameOn, World.size_alloc, World.size_setCell, World.size_drew, size_drewN', and_true] at hk; have hsz := Below.size hb; (try simp only [World.size_alloc, World.size_setCell, World.size_drew, size_drewN'] at hsz); go_simp <;> exact rfl))); apply wpC_norm; (case ha => (simp only [Act.put, List.setIfInBounds_toArray, List.set_cons_zero, List.set_cons_succ]; exact rfl))); (iterate 3 ((apply wpC_det; (case hw => exact rfl); (case hs => (intro cs b h; cases h)); (case h1 => (intro w'; go_simp <;> exact rfl))); apply wpC_norm; (case ha => (simp only [Act.put, List.setIfInBounds_toArray, List.set_cons_zero, List.set_cons_succ]; exact rfl)))); ((apply wpC_val; (case hw => exact rfl); (case h1 => (intro w' hb hk0; obtain ⟨hT, hk⟩ := bv_next hb (by (repeat (with_reducible first | assumption | apply Trk.alloc | apply Trk.setCell | apply Trk.drewN | apply Trk.drew | exact Trk.nil _))); simp only [SameOn, World.size_alloc, World.size_setCell, World.size_drew, size_drewN', and_true] at hk; have hsz := Below.size hb; (try simp only [World.size_alloc, World.size_setCell, World.size_drew, size_drewN'] at hsz); go_simp <;> exact rfl))); apply wpC_norm; (case ha => (simp only [Act.put, List.setIfInBounds_toArray, List.set_cons_zero, List.set_cons_succ]; exact rfl))); (iterate 4 ((apply wpC_det; (case hw => exact rfl); (case hs => (intro cs b h; cases h)); (case h1 => (intro w'; go_simp <;> exact rfl))); apply wpC_norm; (case ha => (simp only [Act.put, List.setIfInBounds_toArray, List.set_cons_zero, List.set_cons_succ]; exact rfl)))); ((apply wpC_val; (case hw => exact rfl); (case h1 => (intro w' hb hk0; obtain ⟨hT, hk⟩ := bv_next hb (by (repeat (with_reducible first | assumption | apply Trk.alloc | apply Trk.setCell | apply Trk.drewN | apply Trk.drew | exact Trk.nil _))); simp only [SameOn, World.size_alloc, World.size_setCell, World.size_drew, size_drewN', and_true] at hk; have hsz := Below.size hb; (try simp only [World.size_alloc, World.size_setCell, World.size_drew, size_drewN'] at hsz); go_simp <;> exact rfl))); apply wpC_norm; (case ha => (simp only [Act.put, List.setIfInBounds_toArray, List.set_cons_zero, List.set_cons_succ]; exact rfl))); ((apply wpC_fop rfl rfl rfl rfl rfl; intro r hr0; have hr := hr0 _ _ (by first | with_reducible assumption | exact rfl) (by first | with_reducible assumption | exact rfl); clear hr0); apply wpC_norm; (case ha => (simp only [Act.put, List.setIfInBounds_toArray, List.set_cons_zero, List.set_cons_succ]; exact rfl))); ((apply wpC_det; (case hw => exact rfl); (case hs => (intro cs b h; cases h)); (case h1 => (intro w'; go_simp <;> exact rfl))); apply wpC_norm; (case ha => (simp only [Act.put, List.setIfInBounds_toArray, List.set_cons_zero, List.set_cons_succ]; exact rfl))); (iterate 2 ((apply wpC_fop rfl rfl rfl rfl rfl; intro r hr0; have hr := hr0 _ _ (by first | with_reducible assumption | exact rfl) (by first | with_reducible assumption | exact rfl); clear hr0); apply wpC_norm; (case ha => (simp only [Act.put, List.setIfInBounds_toArray, List.set_cons_zero, List.set_cons_succ]; exact rfl)))); ((apply wpC_callFB _ _ _; ((case hw => exact rfl)); (case h1 => (intro w'; go_simp; exact ⟨rfl, rfl⟩)); (case hc => (intro w' hb hk0; obtain ⟨hT, hk⟩ := bv_next hb (by (repeat (with_reducible first | assumption | apply Trk.alloc | apply Trk.setCell | apply Trk.drewN | apply Trk.drew | exact Trk.nil _))); simp only [SameOn, World.size_alloc, World.size_setCell, World.size_drew, size_drewN', and_true] at hk; have hsz := Below.size hb; (try simp only [World.size_alloc, World.size_setCell, World.size_drew, size_drewN'] at hsz); refine (checked_any _ _).mono ?_; intro e2 w3 h; (try simp only [*] at h); exact RFB.bfb h)); (case hcc => (first | (with_reducible first | assumption | exact cn_fop _ _ _ _ | exact cn_cn _ _ | exact cn_wide _ | exact cn_narrow _ | exact cn_accC .. | exact cn_half .. | exact cn_bet .. | exact cn_end .. | exact cn_erV .. | exact cn_exV .. | exact cn_warmC .. | exact cn_partC .. | exact cn_easeC .. | exact cn_gapC ..) | (refine cn_chk ?_; (with_reducible first | assumption | exact cn_fop _ _ _ _ | exact cn_cn _ _ | exact cn_wide _ | exact cn_narrow _ | exact cn_accC .. | exact cn_half .. | exact cn_bet .. | exact cn_end .. | exact cn_erV .. | exact cn_exV .. | exact cn_warmC .. | exact cn_partC .. | exact cn_easeC .. | exact cn_gapC ..)) | (refine cn_gF ?_; (with_reducible first | assumption | exact cn_fop _ _ _ _ | exact cn_cn _ _ | exact cn_wide _ | exact cn_narrow _ | exact cn_accC .. | exact cn_half .. | exact cn_bet .. | exact cn_end .. | exact cn_erV .. | exact cn_exV .. | exact cn_warmC .. | exact cn_partC .. | exact cn_easeC .. | exact cn_gapC ..)))); intro r hr); apply wpC_norm; (case ha => (simp only [Act.put, List.setIfInBounds_toArray, List.set_cons_zero, List.set_cons_succ]; exact rfl))); (iterate 4 ((apply wpC_det; (case hw => exact rfl); (case hs => (intro cs b h; cases h)); (case h1 => (intro w'; go_simp <;> exact rfl))); apply wpC_norm; (case ha => (simp only [Act.put, List.setIfInBounds_toArray, List.set_cons_zero, List.set_cons_succ]; exact rfl)))); refine wpC_nil ?_; intro w' hb hkk; obtain ⟨hT, hk⟩ := bv_next hb (by (repeat (with_reducible first | assumption | apply Trk.alloc | apply Trk.setCell | apply Trk.drewN | apply Trk.drew | exact Trk.nil _))); simp only [SameOn, World.size_alloc, World.size_setCell, World.size_drew, size_drewN', and_true] at hk; have hsz := Below.size hb; (try simp only [World.size_alloc, World.size_setCell, World.size_drew, size_drewN'] at hsz))
        all_goals (try (first | kernel_rfl | rfl))
        go_wp2_with (first | (with_reducible refine at_list ?_; refine wpList_fop rfl rfl rfl rfl rfl ?_; intro r n hr0; have hr := hr0 _ _ (by first | with_reducible assumption | exact rfl) (by first | with_reducible assumption | exact rfl); clear hr0) | (with_reducible refine at_list ?_; refine wpList_neg rfl rfl rfl ?_; intro r hr0; have hr := hr0 _ (by first | with_reducible assumption | exact rfl); clear hr0) | (with_reducible refine at_list ?_; refine wpList_fop_g rfl rfl rfl rfl rfl ?_; intro r n hr0; have hr := hr0 _ _ (by first | with_reducible assumption | exact rfl) (by first | with_reducible assumption | exact rfl); clear hr0) | (go_at_call 35; refine (implValidRod_any _ _ _ (by assumption)).mono ?_; rintro e w' ⟨rfl, hb⟩; obtain ⟨hT, hk⟩ := bv_next hb (by (repeat (with_reducible first | assumption | apply Trk.alloc | apply Trk.setCell | apply Trk.drewN | apply Trk.drew | exact Trk.nil _))); simp only [SameOn, World.size_alloc, World.size_setCell, World.size_drew, size_drewN', and_true] at hk; have hsz := Below.size hb; (try simp only [World.size_alloc, World.size_setCell, World.size_drew, size_drewN'] at hsz)) | (go_at_call 41; refine (IsFinite_any _ _).mono ?_; rintro e w' ⟨rfl, n, rfl⟩) | (go_at_call 48; refine (implMiddles_any _ _ _ (by assumption) (by assumption)).mono ?_; rintro e w' ⟨u, ys, rfl, hb, hO, hL⟩; obtain ⟨pu, cu, rfl⟩ := OF.shape hO; (try simp only [World.size_alloc, World.size_setCell, World.size_drew, World.drewN] at hO); obtain ⟨hT, hk⟩ := bv_next hb (by (repeat (with_reducible first | assumption | apply Trk.alloc | apply Trk.setCell | apply Trk.drewN | apply Trk.drew | exact Trk.nil _))); simp only [SameOn, World.size_alloc, World.size_setCell, World.size_drew, size_drewN', and_true] at hk; have hsz := Below.size hb; (try simp only [World.size_alloc, World.size_setCell, World.size_drew, size_drewN'] at hsz)) | (go_at_call 47; refine (checked_any _ _).mono ?_; rintro e w' ⟨r, rfl, hr, n, rfl⟩))
        all_goals (try (first | kernel_rfl | rfl))
        all_goals
          go_ret2
          exact ⟨_, by rw [HE2.out] <;> first | rfl | (simp only [*]; done), by first | (exact HCH.out _ (by assumption)) | (apply HCH.out; simp only [*]; done), by (repeat (first | (with_reducible exact Below.refl _ _) | (with_reducible assumption) | (with_reducible refine below_then ?_ (by assumption)) | (with_reducible refine Below.trans ?_ (by assumption)) | (with_reducible refine below_drewN ?_ _) | (with_reducible apply Below.drew) | (with_reducible refine below_alloc ?_ _) | refine Below.setCell ?_ (by first | (simp; done) | (simp; omega)) _))⟩
      · have HCF : Hid (crB P X k = true) := by show _ = _; rw [HCR2.out, f1, f2]; rfl
        obtain ⟨e1, e2, e3⟩ := HRR.out.1 hlt HCF.out
        have HE := Lib.hid e1
        have HE2 := Lib.hid e2
        clear HCR2 HRR e1 e2
        rw [HPL2.out] at e3
        have HCH : Hid (∀ r, cn .f32 r = chk (fop .add .f32 M0 (fop .mul .f32 (fop .sub .f32 M1 M0) (fop .quo .f32 (fop .sub .f32 X (cn .f32 va)) (fop .sub .f32 (cn .f32 vb) (cn .f32 va))))) → cn .f32 r = c0) := fun r h => by rw [h, chk_yes e3, HE.out, HPL2.out]
        go_wp2_with (first | (with_reducible refine at_list ?_; refine wpList_fop rfl rfl rfl rfl rfl ?_; intro r n hr0; have hr := hr0 _ _ (by first | with_reducible assumption | exact rfl) (by first | with_reducible assumption | exact rfl); clear hr0) | (with_reducible refine at_list ?_; refine wpList_neg rfl rfl rfl ?_; intro r hr0; have hr := hr0 _ (by first | with_reducible assumption | exact rfl); clear hr0) | (with_reducible refine at_list ?_; refine wpList_fop_g rfl rfl rfl rfl rfl ?_; intro r n hr0; have hr := hr0 _ _ (by first | with_reducible assumption | exact rfl) (by first | with_reducible assumption | exact rfl); clear hr0) | (go_at_call 35; refine (implValidRod_any _ _ _ (by assumption)).mono ?_; rintro e w' ⟨rfl, hb⟩; obtain ⟨hT, hk⟩ := bv_next hb (by (repeat (with_reducible first | assumption | apply Trk.alloc | apply Trk.setCell | apply Trk.drewN | apply Trk.drew | exact Trk.nil _))); simp only [SameOn, World.size_alloc, World.size_setCell, World.size_drew, size_drewN', and_true] at hk; have hsz := Below.size hb; (try simp only [World.size_alloc, World.size_setCell, World.size_drew, size_drewN'] at hsz)) | (go_at_call 41; refine (IsFinite_any _ _).mono ?_; rintro e w' ⟨rfl, n, rfl⟩) | (go_at_call 48; refine (implMiddles_any _ _ _ (by assumption) (by assumption)).mono ?_; rintro e w' ⟨u, ys, rfl, hb, hO, hL⟩; obtain ⟨pu, cu, rfl⟩ := OF.shape hO; (try simp only [World.size_alloc, World.size_setCell, World.size_drew, World.drewN] at hO); obtain ⟨hT, hk⟩ := bv_next hb (by (repeat (with_reducible first | assumption | apply Trk.alloc | apply Trk.setCell | apply Trk.drewN | apply Trk.drew | exact Trk.nil _))); simp only [SameOn, World.size_alloc, World.size_setCell, World.size_drew, size_drewN', and_true] at hk; have hsz := Below.size hb; (try simp only [World.size_alloc, World.size_setCell, World.size_drew, size_drewN'] at hsz)) | (go_at_call 47; refine (checked_any _ _).mono ?_; rintro e w' ⟨r, rfl, hr, n, rfl⟩))
        (apply wp_region_plan; (iterate 4 ((apply wpC_det; (case hw => exact rfl); (case hs => (intro cs b h; cases h)); (case h1 => (intro w'; go_simp <;> exact rfl))); apply wpC_norm; (case ha => (simp only [Act.put, List.setIfInBounds_toArray, List.set_cons_zero, List.set_cons_succ]; exact rfl)))); ((apply wpC_val; (case hw => exact rfl); (case h1 => (intro w' hb hk0; obtain ⟨hT, hk⟩ := bv_next hb (by (repeat (with_reducible first | assumption | apply Trk.alloc | apply Trk.setCell | apply Trk.drewN | apply Trk.drew | exact Trk.nil _))); simp only [SameOn, World.size_alloc, World.size_setCell, World.size_drew, size_drewN', and_true] at hk; have hsz := Below.size hb; (try simp only [World.size_alloc, World.size_setCell, World.size_drew, size_drewN'] at hsz); go_simp <;> exact rfl))); apply wpC_norm; (case ha => (simp only [Act.put, List.setIfInBounds_toArray, List.set_cons_zero, List.set_cons_succ]; exact rfl))); (iterate 3 ((apply wpC_det; (case hw => exact rfl); (case hs => (intro cs b h; cases h)); (case h1 => (intro w'; go_simp <;> exact rfl))); apply wpC_norm; (case ha => (simp only [Act.put, List.setIfInBounds_toArray, List.set_cons_zero, List.set_cons_succ]; exact rfl)))); ((apply wpC_val; (case hw => exact rfl); (case h1 => (intro w' hb hk0; obtain ⟨hT, hk⟩ := bv_next hb (by (repeat (with_reducible first | assumption | apply Trk.alloc | apply Trk.setCell | apply Trk.drewN | apply Trk.drew | exact Trk.nil _))); simp only [SameOn, World.size_alloc, World.size_setCell, World.size_drew, size_drewN', and_true] at hk; have hsz := Below.size hb; (try simp only [World.size_alloc, World.size_setCell, World.size_drew, size_drewN'] at hsz); go_simp <;> exact rfl))); apply wpC_norm; (case ha => (simp only [Act.put, List.setIfInBounds_toArray, List.set_cons_zero, List.set_cons_succ]; exact rfl))); (iterate 4 ((apply wpC_det; (case hw => exact rfl); (case hs => (intro cs b h; cases h)); (case h1 => (intro w'; go_simp <;> exact rfl))); apply wpC_norm; (case ha => (simp only [Act.put, List.setIfInBounds_toArray, List.set_cons_zero, List.set_cons_succ]; exact rfl)))); ((apply wpC_val; (case hw => exact rfl); (case h1 => (intro w' hb hk0; obtain ⟨hT, hk⟩ := bv_next hb (by (repeat (with_reducible first | assumption | apply Trk.alloc | apply Trk.setCell | apply Trk.drewN | apply Trk.drew | exact Trk.nil _))); simp only [SameOn, World.size_alloc, World.size_setCell, World.size_drew, size_drewN', and_true] at hk; have hsz := Below.size hb; (try simp only [World.size_alloc, World.size_setCell, World.size_drew, size_drewN'] at hsz); go_simp <;> exact rfl))); apply wpC_norm; (case ha => (simp only [Act.put, List.setIfInBounds_toArray, List.set_cons_zero, List.set_cons_succ]; exact rfl))); ((apply wpC_fop rfl rfl rfl rfl rfl; intro r hr0; have hr := hr0 _ _ (by first | with_reducible assumption | exact rfl) (by first | with_reducible assumption | exact rfl); clear hr0); apply wpC_norm; (case ha => (simp only [Act.put, List.setIfInBounds_toArray, List.set_cons_zero, List.set_cons_succ]; exact rfl))); ((apply wpC_det; (case hw => exact rfl); (case hs => (intro cs b h; cases h)); (case h1 => (intro w'; go_simp <;> exact rfl))); apply wpC_norm; (case ha => (simp only [Act.put, List.setIfInBounds_toArray, List.set_cons_zero, List.set_cons_succ]; exact rfl))); (iterate 2 ((apply wpC_fop rfl rfl rfl rfl rfl; intro r hr0; have hr := hr0 _ _ (by first | with_reducible assumption | exact rfl) (by first | with_reducible assumption | exact rfl); clear hr0); apply wpC_norm; (case ha => (simp only [Act.put, List.setIfInBounds_toArray, List.set_cons_zero, List.set_cons_succ]; exact rfl)))); ((apply wpC_callFB _ _ _; ((case hw => exact rfl)); (case h1 => (intro w'; go_simp; exact ⟨rfl, rfl⟩)); (case hc => (intro w' hb hk0; obtain ⟨hT, hk⟩ := bv_next hb (by (repeat (with_reducible first | assumption | apply Trk.alloc | apply Trk.setCell | apply Trk.drewN | apply Trk.drew | exact Trk.nil _))); simp only [SameOn, World.size_alloc, World.size_setCell, World.size_drew, size_drewN', and_true] at hk; have hsz := Below.size hb; (try simp only [World.size_alloc, World.size_setCell, World.size_drew, size_drewN'] at hsz); refine (checked_any _ _).mono ?_; intro e2 w3 h; (try simp only [*] at h); exact RFB.bfb h)); (case hcc => (first | (with_reducible first | assumption | exact cn_fop _ _ _ _ | exact cn_cn _ _ | exact cn_wide _ | exact cn_narrow _ | exact cn_accC .. | exact cn_half .. | exact cn_bet .. | exact cn_end .. | exact cn_erV .. | exact cn_exV .. | exact cn_warmC .. | exact cn_partC .. | exact cn_easeC .. | exact cn_gapC ..) | (refine cn_chk ?_; (with_reducible first | assumption | exact cn_fop _ _ _ _ | exact cn_cn _ _ | exact cn_wide _ | exact cn_narrow _ | exact cn_accC .. | exact cn_half .. | exact cn_bet .. | exact cn_end .. | exact cn_erV .. | exact cn_exV .. | exact cn_warmC .. | exact cn_partC .. | exact cn_easeC .. | exact cn_gapC ..)) | (refine cn_gF ?_; (with_reducible first | assumption | exact cn_fop _ _ _ _ | exact cn_cn _ _ | exact cn_wide _ | exact cn_narrow _ | exact cn_accC .. | exact cn_half .. | exact cn_bet .. | exact cn_end .. | exact cn_erV .. | exact cn_exV .. | exact cn_warmC .. | exact cn_partC .. | exact cn_easeC .. | exact cn_gapC ..)))); intro r hr); apply wpC_norm; (case ha => (simp only [Act.put, List.setIfInBounds_toArray, List.set_cons_zero, List.set_cons_succ]; exact rfl))); (iterate 4 ((apply wpC_det; (case hw => exact rfl); (case hs => (intro cs b h; cases h)); (case h1 => (intro w'; go_simp <;> exact rfl))); apply wpC_norm; (case ha => (simp only [Act.put, List.setIfInBounds_toArray, List.set_cons_zero, List.set_cons_succ]; exact rfl)))); refine wpC_nil ?_; intro w' hb hkk; obtain ⟨hT, hk⟩ := bv_next hb (by (repeat (with_reducible first | assumption | apply Trk.alloc | apply Trk.setCell | apply Trk.drewN | apply Trk.drew | exact Trk.nil _))); simp only [SameOn, World.size_alloc, World.size_setCell, World.size_drew, size_drewN', and_true] at hk; have hsz := Below.size hb; (try simp only [World.size_alloc, World.size_setCell, World.size_drew, size_drewN'] at hsz))
        all_goals (try (first | kernel_rfl | rfl))
        go_wp2_with (first | (with_reducible refine at_list ?_; refine wpList_fop rfl rfl rfl rfl rfl ?_; intro r n hr0; have hr := hr0 _ _ (by first | with_reducible assumption | exact rfl) (by first | with_reducible assumption | exact rfl); clear hr0) | (with_reducible refine at_list ?_; refine wpList_neg rfl rfl rfl ?_; intro r hr0; have hr := hr0 _ (by first | with_reducible assumption | exact rfl); clear hr0) | (with_reducible refine at_list ?_; refine wpList_fop_g rfl rfl rfl rfl rfl ?_; intro r n hr0; have hr := hr0 _ _ (by first | with_reducible assumption | exact rfl) (by first | with_reducible assumption | exact rfl); clear hr0) | (go_at_call 35; refine (implValidRod_any _ _ _ (by assumption)).mono ?_; rintro e w' ⟨rfl, hb⟩; obtain ⟨hT, hk⟩ := bv_next hb (by (repeat (with_reducible first | assumption | apply Trk.alloc | apply Trk.setCell | apply Trk.drewN | apply Trk.drew | exact Trk.nil _))); simp only [SameOn, World.size_alloc, World.size_setCell, World.size_drew, size_drewN', and_true] at hk; have hsz := Below.size hb; (try simp only [World.size_alloc, World.size_setCell, World.size_drew, size_drewN'] at hsz)) | (go_at_call 41; refine (IsFinite_any _ _).mono ?_; rintro e w' ⟨rfl, n, rfl⟩) | (go_at_call 48; refine (implMiddles_any _ _ _ (by assumption) (by assumption)).mono ?_; rintro e w' ⟨u, ys, rfl, hb, hO, hL⟩; obtain ⟨pu, cu, rfl⟩ := OF.shape hO; (try simp only [World.size_alloc, World.size_setCell, World.size_drew, World.drewN] at hO); obtain ⟨hT, hk⟩ := bv_next hb (by (repeat (with_reducible first | assumption | apply Trk.alloc | apply Trk.setCell | apply Trk.drewN | apply Trk.drew | exact Trk.nil _))); simp only [SameOn, World.size_alloc, World.size_setCell, World.size_drew, size_drewN', and_true] at hk; have hsz := Below.size hb; (try simp only [World.size_alloc, World.size_setCell, World.size_drew, size_drewN'] at hsz)) | (go_at_call 47; refine (checked_any _ _).mono ?_; rintro e w' ⟨r, rfl, hr, n, rfl⟩))
        all_goals (try (first | kernel_rfl | rfl))
        all_goals
          go_ret2
          exact ⟨_, by rw [HE2.out] <;> first | rfl | (simp only [*]; done), by first | (exact HCH.out _ (by assumption)) | (apply HCH.out; simp only [*]; done), by (repeat (first | (with_reducible exact Below.refl _ _) | (with_reducible assumption) | (with_reducible refine below_then ?_ (by assumption)) | (with_reducible refine Below.trans ?_ (by assumption)) | (with_reducible refine below_drewN ?_ _) | (with_reducible apply Below.drew) | (with_reducible refine below_alloc ?_ _) | refine Below.setCell ?_ (by first | (simp; done) | (simp; omega)) _))⟩
      · have HCF : Hid (crB P X k = false) := by show _ = _; rw [HCR2.out, f1, f2]; rfl
        clear HPL2 HCR2 HRR m0 m1
        go_wp2
        go_roundw
        case rel => exact ⟨k + 1, by omega, by go_num, fun i hi => by rcases Nat.lt_succ_iff_lt_or_eq.1 hi with h | rfl; exact HN.out i h; exact HCF.out, by show Below _ _ _; exact below_then hbW (by (repeat (first | (with_reducible exact Below.refl _ _) | (with_reducible assumption) | (with_reducible refine below_then ?_ (by assumption)) | (with_reducible refine Below.trans ?_ (by assumption)) | (with_reducible refine below_drewN ?_ _) | (with_reducible apply Below.drew) | (with_reducible refine below_alloc ?_ _) | refine Below.setCell ?_ (by first | (simp; done) | (simp; omega)) _)))⟩
        case measure => simp [intOf]; omega
    · obtain ⟨e1, e2⟩ := (HH.out k HN.out).2 hlt
      have HE := Lib.hid e1
      have HE2 := Lib.hid e2
      clear e1 e2
      have hki : ¬ (k : Int) + 1 < (P.a.length : Int) := by omega
      go_wp2
      go_ret2
      exact ⟨_, by rw [HE2.out] <;> rfl, by rw [HE.out], by (repeat (first | (with_reducible exact Below.refl _ _) | (with_reducible assumption) | (with_reducible refine below_then ?_ (by assumption)) | (with_reducible refine Below.trans ?_ (by assumption)) | (with_reducible refine below_drewN ?_ _) | (with_reducible apply Below.drew) | (with_reducible refine below_alloc ?_ _) | refine Below.setCell ?_ (by first | (simp; done) | (simp; omega)) _))⟩
end Go.Proofs.Ytpnkapdemgieaaa
set_option linter.unusedSimpArgs false
set_option linter.unusedVariables false
set_option linter.unusedSectionVars false
namespace Go.Proofs.Ytpnkapdemgieaaa
open Go Go.RowKit
open Go.ChangeShapes Go.WideShapes Go.ChangeAt Go.RowKit Go.Joins
set_option maxHeartbeats 1000000 in
set_option maxRecDepth 100000 in
theorem implWarm_mid (P : Rd) (l : RL) (x : Nat) (w : World) (hs : P.fs w l) (h0 : P.ok = true) (h1 : fin .f32 (cn .f32 x) = true) (h2 : midOk P.a = true) (hlo : fle .f32 (cn .f32 x) (midAt P.a 0) = false) (hhi : fge .f32 (cn .f32 x) (midAt P.a (P.a.length - 1)) = false) : Calls Try.prog 17 #[.agg #[.slice l.p1 P.a.length l.c1, .slice l.p2 P.b.length l.c2, .slice l.p3 P.c.length l.c3, .slice l.p4 P.d.length l.c4], .float .f32 x] w (BFB w .f32 (wAt P (cn .f32 x)).1 (wAt P (cn .f32 x)).2) := by
  obtain ⟨V, B, hW⟩ : ∃ V B, wAt P (cn .f32 x) = (V, B) := ⟨_, _, rfl⟩
  rw [hW]
  have HW : Hid (∀ v b, wAt P (cn .f32 x) = (v, b) → V = v ∧ B = b) := fun v b h => Prod.mk.inj (hW.symm.trans h)
  clear hW
  dsimp only
  have HS := Lib.hid hs
  have HV := Lib.hid (fun w h => implValidRod_any P l w h)
  rw [h0] at HV
  have HM := Lib.hid (fun w h => implMiddles_any P l w h h0)
  rw [h2] at HM
  have HC : Hid ((P.ok && (fin .f32 (cn .f32 x) && midOk P.a)) = true) := by show _ = _; rw [h0, h1, h2]; rfl
  have HAN : Hid (((midL P.a P.a.length).any fun x => !fin .f32 x) = false) := by
    show _ = _
    have h := h2
    unfold midOk at h
    rwa [Bool.not_eq_true'] at h
  have HX := Lib.hid h1
  obtain ⟨hn1, hn2⟩ := (Rd.ok_len h0).1
  have HLD := Lib.hid (Rd.ok_len h0).2.2.2
  obtain ⟨b1, o1, c1, b2, o2, c2, b3, o3, c3, b4, o4, c4, rfl, HA, HB, HCC, HD⟩ := Rd.open hs h0
  clear hs h0 h2 HA HB HCC
  go_enter Try.func17, Try.ntmps17
  go_wp2_with (first | (go_at_call 48; refine stop_here ?_) | (go_at_call 35; refine ((HV.out _ (HS.out.later (by (repeat (first | (with_reducible exact Below.refl _ _) | (with_reducible assumption) | (with_reducible refine below_then ?_ (by assumption)) | (with_reducible refine Below.trans ?_ (by assumption)) | (with_reducible refine below_drewN ?_ _) | (with_reducible apply Below.drew) | (with_reducible refine below_alloc ?_ _) | refine Below.setCell ?_ (by first | (simp; done) | (simp; omega)) _))))) ).mono ?_; rintro e w' ⟨rfl, hb⟩; obtain ⟨hT, hk⟩ := bv_next hb (by (repeat (with_reducible first | assumption | apply Trk.alloc | apply Trk.setCell | apply Trk.drewN | apply Trk.drew | exact Trk.nil _))); simp only [SameOn, World.size_alloc, World.size_setCell, World.size_drew, size_drewN', and_true] at hk; have hsz := Below.size hb; (try simp only [World.size_alloc, World.size_setCell, World.size_drew, size_drewN'] at hsz)) | (go_at_call 41; refine (IsFinite_any _ _).mono ?_; rintro e w' ⟨rfl, n, rfl⟩) | (go_at_call 48; refine (implMiddles_any _ _ _ (by assumption) (by assumption)).mono ?_; rintro e w' ⟨u, ys, rfl, hb, hO, hL⟩; obtain ⟨pu, cu, rfl⟩ := OF.shape hO; (try simp only [World.size_alloc, World.size_setCell, World.size_drew, World.drewN] at hO); obtain ⟨hT, hk⟩ := bv_next hb (by (repeat (with_reducible first | assumption | apply Trk.alloc | apply Trk.setCell | apply Trk.drewN | apply Trk.drew | exact Trk.nil _))); simp only [SameOn, World.size_alloc, World.size_setCell, World.size_drew, size_drewN', and_true] at hk; have hsz := Below.size hb; (try simp only [World.size_alloc, World.size_setCell, World.size_drew, size_drewN'] at hsz)) | (go_at_call 47; refine (checked_any _ _).mono ?_; rintro e w' ⟨r, rfl, hr, n, rfl⟩))
  unfold Stop
  refine (HM.out _ (HS.out.later (by (repeat (first | (with_reducible exact Below.refl _ _) | (with_reducible assumption) | (with_reducible refine below_then ?_ (by assumption)) | (with_reducible refine Below.trans ?_ (by assumption)) | (with_reducible refine below_drewN ?_ _) | (with_reducible apply Below.drew) | (with_reducible refine below_alloc ?_ _) | refine Below.setCell ?_ (by first | (simp; done) | (simp; omega)) _))))).mono ?_
  rintro e w' ⟨u, ys, rfl, hb, hO, hL⟩
  have hyl : ys.length = P.a.length := by have := congrArg List.length hL; rw [midL_len] at this; simpa using this
  obtain ⟨bm, om, cm, rfl, _, HY⟩ := FS.ptr hO.fs (by omega)
  rw [hyl]
  rw [hyl] at HY
  obtain ⟨hT, hk⟩ := bv_next hb (by (repeat (with_reducible first | assumption | apply Trk.alloc | apply Trk.setCell | apply Trk.drewN | apply Trk.drew | exact Trk.nil _))); simp only [SameOn, World.size_alloc, World.size_setCell, World.size_drew, size_drewN', and_true] at hk; have hsz := Below.size hb; (try simp only [World.size_alloc, World.size_setCell, World.size_drew, size_drewN'] at hsz)
  have hbw : Below w.heap.size w w' := by (repeat (first | (with_reducible exact Below.refl _ _) | (with_reducible assumption) | (with_reducible refine below_then ?_ (by assumption)) | (with_reducible refine Below.trans ?_ (by assumption)) | (with_reducible refine below_drewN ?_ _) | (with_reducible apply Below.drew) | (with_reducible refine below_alloc ?_ _) | refine Below.setCell ?_ (by first | (simp; done) | (simp; omega)) _))
  have HG : Hid (∀ i, i < P.a.length → cn .f32 (ys.getD i 0) = midAt P.a i) := fun i hi => by
    rw [← midL_at hi, ← hL, List.getD_eq_getElem?_getD, List.getD_eq_getElem?_getD, List.getElem?_map, List.getElem?_eq_getElem (by omega)]; rfl
  have HFN : Hid (∀ i, i < P.a.length → fin .f32 (midAt P.a i) = true) := fun i hi => by rw [← midL_at hi]; exact any_of_at HAN.out i (by rw [midL_len]; exact hi)
  have hd4 : P.d.length = P.a.length := HLD.out
  have hnd : 0 < P.d.length := by omega
  have hnd1 : P.a.length - 1 < P.d.length := by omega
  have hndi : (P.a.length : Int) - 1 < P.d.length := by omega
  have HLY := Lib.hid hyl
  have HBW := Lib.hid hbw
  clear hL hyl hd4 hbw
  have hq0 : IntKind.i64.wrap ((P.a.length : Int) - 1) = (P.a.length : Int) - 1 := IntWalk.i64_in _ (by omega)
  have hq1 : 0 ≤ (P.a.length : Int) - 1 := by omega
  have hq2 : (P.a.length : Int) - 1 < P.a.length := by omega
  have hq3 : ((P.a.length : Int) - 1).toNat = P.a.length - 1 := by omega
  have hq4 : P.a.length - 1 < P.a.length := by omega
  have hq5 : 0 < P.a.length := by omega
  have H00 := Lib.hid (HG.out 0 (by omega))
  have H0l := Lib.hid (HG.out (P.a.length - 1) (by omega))
  have h3 : fle .f32 (cn .f32 x) (cn .f32 (ys.getD 0 0)) = false := by rw [H00.out]; exact hlo
  have h3' : fle .f32 (cn .f32 x) (midAt P.a 0) = false := by rw [← H00.out]; exact h3
  have H3 := Lib.hid h3'
  have h4 : fge .f32 (cn .f32 x) (cn .f32 (ys.getD (P.a.length - 1) 0)) = false := by rw [H0l.out]; exact hhi
  have h4' : fge .f32 (cn .f32 x) (midAt P.a (P.a.length - 1)) = false := by rw [← H0l.out]; exact h4
  have hp1 : fge .f32 (cn .f32 (ys.getD (P.a.length - 1) 0)) (cn .f32 x) = true := by rw [H0l.out]; exact fge_turn HX.out (HFN.out _ (by omega)) h4'
  have hp0 : fge .f32 (cn .f32 (ys.getD 0 0)) (cn .f32 x) = false := by rw [H00.out]; exact fge_none HX.out (HFN.out _ (by omega)) h3'
  obtain ⟨j, hj, hf, hg1, hg2⟩ := findI_first (fun y => fge .f32 (cn .f32 y) (cn .f32 x)) ys (n := P.a.length - 1) (by rw [HLY.out]; omega) hp1 hp0
  rw [HLY.out] at hj
  have HI : Hid (∀ b o w', Below w.heap.size w w' → w'.cell? ⟨b, o, none⟩ = some (.float .f32 x) → FS w' (.slice (some ⟨bm, om, none⟩) P.a.length cm) ys → Calls Try.prog 49 #[.slice (some ⟨bm, om, none⟩) P.a.length cm, .func (.func 50) #[] #[.pointer (some ⟨b, o, none⟩)]] w' (BV w' (.int .i64 ((j : Int) + 1)))) := by
    intro b o w' hb hx hs
    rw [← hf]
    exact IndexFuncC_any 50 _ (fun y => fge .f32 (cn .f32 y) (cn .f32 x)) ys _ _ hs (fun x w' => by kernel_rfl) (fun y w2 hb2 => (warmAt1_any y x b o w2 (cell_later hb2 hx)).mono fun e w3 h => RB.bv h)
  have HE : Hid (∀ v, v = fop .add .f32 (cn .f32 (P.d.getD j 0)) (fop .mul .f32 (fop .quo .f32 (fop .sub .f32 (cn .f32 x) (cn .f32 (ys.getD j 0))) (fop .sub .f32 (cn .f32 (ys.getD (j + 1) 0)) (cn .f32 (ys.getD j 0)))) (fop .sub .f32 (cn .f32 (P.d.getD (j + 1) 0)) (cn .f32 (P.d.getD j 0)))) → V = chk v ∧ B = fin .f32 v) := by
    intro v hv
    refine HW.out _ _ (wAt_mid HC.out h3' h4' hj (by rw [← HG.out _ hj]; exact hg1) (fun i hi => by rw [← HG.out _ (by omega)]; exact hg2 i hi) ?_)
    rw [hv, HG.out j (by omega), HG.out _ hj]
  have y0 := HY.out 0 (by omega); rw [Nat.add_zero] at y0
  have yl := HY.out (P.a.length - 1) (by omega)
  have yj := HY.out j (by omega)
  have yk := HY.out (j + 1) (by omega)
  have zj := cell_later HBW.out (HD.out j (by omega))
  have zk := cell_later HBW.out (HD.out (j + 1) (by omega))
  have HO := Lib.hid (show FS w' (.slice (some ⟨bm, om, none⟩) P.a.length cm) ys from by have := hO.fs; rw [HLY.out] at this; exact this)
  have hbm := World.block_lt_of_cell? _ _ yj
  have hb4 := World.block_lt_of_cell? _ _ zj
  have hT2 := (hT.more hb4).more hbm
  clear hT
  have hji : (j : Int) + 1 < (P.a.length : Int) := by omega
  have hji2 : (j : Int) < (P.a.length : Int) := by omega
  have hjd : (j : Int) + 1 < (P.d.length : Int) := by have := HLD.out; omega
  have hjd2 : (j : Int) < (P.d.length : Int) := by omega
  have hlk : j < P.a.length := by omega
  have hlkd : j < P.d.length := by omega
  have hlkd1 : j + 1 < P.d.length := by omega
  have hi1 : IntKind.i64.wrap (j : Int) = (j : Int) := IntWalk.i64_in _ (by omega)
  have hi2 : ((j : Int) + 1).toNat = j + 1 := by omega
  have hi3 : 0 ≤ (j : Int) + 1 := by omega
  generalize ys.getD 0 0 = v0 at y0 h3
  generalize ys.getD (P.a.length - 1) 0 = vl at yl h4
  generalize ys.getD j 0 = vj at yj HE
  generalize ys.getD (j + 1) 0 = vk at yk HE
  generalize P.d.getD j 0 = uj at zj HE
  generalize P.d.getD (j + 1) 0 = uk at zk HE
  clear HG HFN H00 H0l HY HD HAN HM HV HC HX hO HW h3' h4' hlo hhi hp1 hp0 hf hg1 hg2 H3
  go_wp2
  (refine wp_some_lit (by kernel_rfl) (by kernel_rfl) ?_; (iterate 6 (refine wpSome_one ?_; go_big_quiet_step (fail); refine wpQuiet_nil ?_)); refine wpSome_nil ?_; intro w' hw'; obtain ⟨nq, rfl⟩ := hw')
  go_wp2
  (refine wp_some_lit (by kernel_rfl) (by kernel_rfl) ?_; (iterate 7 (refine wpSome_one ?_; go_big_quiet_step (fail); refine wpQuiet_nil ?_)); refine wpSome_nil ?_; intro w' hw'; obtain ⟨nq, rfl⟩ := hw')
  go_wp2_with (first | (go_at_call 49; refine (HI.out _ _ _ (by (repeat (first | (with_reducible exact Below.refl _ _) | (with_reducible assumption) | (with_reducible refine below_then ?_ (by assumption)) | (with_reducible refine Below.trans ?_ (by assumption)) | (with_reducible refine below_drewN ?_ _) | (with_reducible apply Below.drew) | (with_reducible refine below_alloc ?_ _) | refine Below.setCell ?_ (by first | (simp; done) | (simp; omega)) _))) (by go_simp) (FS.later HO.out (by (repeat (first | (with_reducible exact Below.refl _ _) | (with_reducible assumption) | (with_reducible refine below_then ?_ (by assumption)) | (with_reducible refine Below.trans ?_ (by assumption)) | (with_reducible refine below_drewN ?_ _) | (with_reducible apply Below.drew) | (with_reducible refine below_alloc ?_ _) | refine Below.setCell ?_ (by first | (simp; done) | (simp; omega)) _))))).mono ?_; rintro e w' ⟨rfl, hb⟩; obtain ⟨hT, hk⟩ := bv_next hb (by (repeat (with_reducible first | assumption | apply Trk.alloc | apply Trk.setCell | apply Trk.drewN | apply Trk.drew | exact Trk.nil _))); simp only [SameOn, World.size_alloc, World.size_setCell, World.size_drew, size_drewN', and_true] at hk; have hsz := Below.size hb; (try simp only [World.size_alloc, World.size_setCell, World.size_drew, size_drewN'] at hsz)))
  (refine wp_some_lit (by kernel_rfl) (by kernel_rfl) ?_; (iterate 6 (refine wpSome_one ?_; go_big_quiet_step (fail); refine wpQuiet_nil ?_)); ((with_reducible refine at_some ?_; refine wpSome_fop rfl rfl rfl rfl rfl ?_; intro r hr0; have hr := hr0 _ _ (by first | with_reducible assumption | exact rfl) (by first | with_reducible assumption | exact rfl); clear hr0); simp only [Act.put, List.setIfInBounds_toArray, List.set_cons_zero, List.set_cons_succ]); (iterate 9 (refine wpSome_one ?_; go_big_quiet_step (fail); refine wpQuiet_nil ?_)); (iterate 2 ((with_reducible refine at_some ?_; refine wpSome_fop rfl rfl rfl rfl rfl ?_; intro r hr0; have hr := hr0 _ _ (by first | with_reducible assumption | exact rfl) (by first | with_reducible assumption | exact rfl); clear hr0); simp only [Act.put, List.setIfInBounds_toArray, List.set_cons_zero, List.set_cons_succ])); (refine wpSome_one ?_; go_big_quiet_step (fail); refine wpQuiet_nil ?_); refine wpSome_nil ?_; intro w' hw'; obtain ⟨nq, rfl⟩ := hw')
  go_wp2
  (apply wp_region_plan; ((apply wpC_det; (case hw => exact rfl); (case hs => (intro cs b h; cases h)); (case h1 => (intro w'; go_simp <;> exact rfl))); apply wpC_norm; (case ha => (simp only [Act.put, List.setIfInBounds_toArray, List.set_cons_zero, List.set_cons_succ]; exact rfl))); ((apply wpC_val; (case hw => exact rfl); (case h1 => (intro w' hb hk0; obtain ⟨hT, hk⟩ := bv_next hb (by (repeat (with_reducible first | assumption | apply Trk.alloc | apply Trk.setCell | apply Trk.drewN | apply Trk.drew | exact Trk.nil _))); simp only [SameOn, World.size_alloc, World.size_setCell, World.size_drew, size_drewN', and_true] at hk; have hsz := Below.size hb; (try simp only [World.size_alloc, World.size_setCell, World.size_drew, size_drewN'] at hsz); go_simp <;> exact rfl))); apply wpC_norm; (case ha => (simp only [Act.put, List.setIfInBounds_toArray, List.set_cons_zero, List.set_cons_succ]; exact rfl))); (iterate 3 ((apply wpC_det; (case hw => exact rfl); (case hs => (intro cs b h; cases h)); (case h1 => (intro w'; go_simp <;> exact rfl))); apply wpC_norm; (case ha => (simp only [Act.put, List.setIfInBounds_toArray, List.set_cons_zero, List.set_cons_succ]; exact rfl)))); ((apply wpC_val; (case hw => exact rfl); (case h1 => (intro w' hb hk0; obtain ⟨hT, hk⟩ := bv_next hb (by (repeat (with_reducible first | assumption | apply Trk.alloc | apply Trk.setCell | apply Trk.drewN | apply Trk.drew | exact Trk.nil _))); simp only [SameOn, World.size_alloc, World.size_setCell, World.size_drew, size_drewN', and_true] at hk; have hsz := Below.size hb; (try simp only [World.size_alloc, World.size_setCell, World.size_drew, size_drewN'] at hsz); go_simp <;> exact rfl))); apply wpC_norm; (case ha => (simp only [Act.put, List.setIfInBounds_toArray, List.set_cons_zero, List.set_cons_succ]; exact rfl))); (iterate 2 ((apply wpC_det; (case hw => exact rfl); (case hs => (intro cs b h; cases h)); (case h1 => (intro w'; go_simp <;> exact rfl))); apply wpC_norm; (case ha => (simp only [Act.put, List.setIfInBounds_toArray, List.set_cons_zero, List.set_cons_succ]; exact rfl)))); ((apply wpC_val; (case hw => exact rfl); (case h1 => (intro w' hb hk0; obtain ⟨hT, hk⟩ := bv_next hb (by (repeat (with_reducible first | assumption | apply Trk.alloc | apply Trk.setCell | apply Trk.drewN | apply Trk.drew | exact Trk.nil _))); simp only [SameOn, World.size_alloc, World.size_setCell, World.size_drew, size_drewN', and_true] at hk; have hsz := Below.size hb; (try simp only [World.size_alloc, World.size_setCell, World.size_drew, size_drewN'] at hsz); go_simp <;> exact rfl))); apply wpC_norm; (case ha => (simp only [Act.put, List.setIfInBounds_toArray, List.set_cons_zero, List.set_cons_succ]; exact rfl))); (iterate 2 ((apply wpC_det; (case hw => exact rfl); (case hs => (intro cs b h; cases h)); (case h1 => (intro w'; go_simp <;> exact rfl))); apply wpC_norm; (case ha => (simp only [Act.put, List.setIfInBounds_toArray, List.set_cons_zero, List.set_cons_succ]; exact rfl)))); ((apply wpC_val; (case hw => exact rfl); (case h1 => (intro w' hb hk0; obtain ⟨hT, hk⟩ := bv_next hb (by (repeat (with_reducible first | assumption | apply Trk.alloc | apply Trk.setCell | apply Trk.drewN | apply Trk.drew | exact Trk.nil _))); simp only [SameOn, World.size_alloc, World.size_setCell, World.size_drew, size_drewN', and_true] at hk; have hsz := Below.size hb; (try simp only [World.size_alloc, World.size_setCell, World.size_drew, size_drewN'] at hsz); go_simp <;> exact rfl))); apply wpC_norm; (case ha => (simp only [Act.put, List.setIfInBounds_toArray, List.set_cons_zero, List.set_cons_succ]; exact rfl))); ((apply wpC_det; (case hw => exact rfl); (case hs => (intro cs b h; cases h)); (case h1 => (intro w'; go_simp <;> exact rfl))); apply wpC_norm; (case ha => (simp only [Act.put, List.setIfInBounds_toArray, List.set_cons_zero, List.set_cons_succ]; exact rfl))); ((apply wpC_val; (case hw => exact rfl); (case h1 => (intro w' hb hk0; obtain ⟨hT, hk⟩ := bv_next hb (by (repeat (with_reducible first | assumption | apply Trk.alloc | apply Trk.setCell | apply Trk.drewN | apply Trk.drew | exact Trk.nil _))); simp only [SameOn, World.size_alloc, World.size_setCell, World.size_drew, size_drewN', and_true] at hk; have hsz := Below.size hb; (try simp only [World.size_alloc, World.size_setCell, World.size_drew, size_drewN'] at hsz); go_simp <;> exact rfl))); apply wpC_norm; (case ha => (simp only [Act.put, List.setIfInBounds_toArray, List.set_cons_zero, List.set_cons_succ]; exact rfl))); (iterate 3 ((apply wpC_det; (case hw => exact rfl); (case hs => (intro cs b h; cases h)); (case h1 => (intro w'; go_simp <;> exact rfl))); apply wpC_norm; (case ha => (simp only [Act.put, List.setIfInBounds_toArray, List.set_cons_zero, List.set_cons_succ]; exact rfl)))); ((apply wpC_val; (case hw => exact rfl); (case h1 => (intro w' hb hk0; obtain ⟨hT, hk⟩ := bv_next hb (by (repeat (with_reducible first | assumption | apply Trk.alloc | apply Trk.setCell | apply Trk.drewN | apply Trk.drew | exact Trk.nil _))); simp only [SameOn, World.size_alloc, World.size_setCell, World.size_drew, size_drewN', and_true] at hk; have hsz := Below.size hb; (try simp only [World.size_alloc, World.size_setCell, World.size_drew, size_drewN'] at hsz); go_simp <;> exact rfl))); apply wpC_norm; (case ha => (simp only [Act.put, List.setIfInBounds_toArray, List.set_cons_zero, List.set_cons_succ]; exact rfl))); (iterate 3 ((apply wpC_fop rfl rfl rfl rfl rfl; intro r hr0; have hr := hr0 _ _ (by first | with_reducible assumption | exact rfl) (by first | with_reducible assumption | exact rfl); clear hr0); apply wpC_norm; (case ha => (simp only [Act.put, List.setIfInBounds_toArray, List.set_cons_zero, List.set_cons_succ]; exact rfl)))); ((apply wpC_callFB _ _ _; ((case hw => exact rfl)); (case h1 => (intro w'; go_simp; exact ⟨rfl, rfl⟩)); (case hc => (intro w' hb hk0; obtain ⟨hT, hk⟩ := bv_next hb (by (repeat (with_reducible first | assumption | apply Trk.alloc | apply Trk.setCell | apply Trk.drewN | apply Trk.drew | exact Trk.nil _))); simp only [SameOn, World.size_alloc, World.size_setCell, World.size_drew, size_drewN', and_true] at hk; have hsz := Below.size hb; (try simp only [World.size_alloc, World.size_setCell, World.size_drew, size_drewN'] at hsz); refine (checked_any _ _).mono ?_; intro e2 w3 h; (try simp only [*] at h); exact RFB.bfb h)); (case hcc => (first | (with_reducible first | assumption | exact cn_fop _ _ _ _ | exact cn_cn _ _ | exact cn_wide _ | exact cn_narrow _ | exact cn_accC .. | exact cn_half .. | exact cn_bet .. | exact cn_end .. | exact cn_erV .. | exact cn_exV .. | exact cn_warmC .. | exact cn_partC .. | exact cn_easeC .. | exact cn_gapC ..) | (refine cn_chk ?_; (with_reducible first | assumption | exact cn_fop _ _ _ _ | exact cn_cn _ _ | exact cn_wide _ | exact cn_narrow _ | exact cn_accC .. | exact cn_half .. | exact cn_bet .. | exact cn_end .. | exact cn_erV .. | exact cn_exV .. | exact cn_warmC .. | exact cn_partC .. | exact cn_easeC .. | exact cn_gapC ..)) | (refine cn_gF ?_; (with_reducible first | assumption | exact cn_fop _ _ _ _ | exact cn_cn _ _ | exact cn_wide _ | exact cn_narrow _ | exact cn_accC .. | exact cn_half .. | exact cn_bet .. | exact cn_end .. | exact cn_erV .. | exact cn_exV .. | exact cn_warmC .. | exact cn_partC .. | exact cn_easeC .. | exact cn_gapC ..)))); intro r hr); apply wpC_norm; (case ha => (simp only [Act.put, List.setIfInBounds_toArray, List.set_cons_zero, List.set_cons_succ]; exact rfl))); (iterate 4 ((apply wpC_det; (case hw => exact rfl); (case hs => (intro cs b h; cases h)); (case h1 => (intro w'; go_simp <;> exact rfl))); apply wpC_norm; (case ha => (simp only [Act.put, List.setIfInBounds_toArray, List.set_cons_zero, List.set_cons_succ]; exact rfl)))); refine wpC_nil ?_; intro w' hb hkk; obtain ⟨hT, hk⟩ := bv_next hb (by (repeat (with_reducible first | assumption | apply Trk.alloc | apply Trk.setCell | apply Trk.drewN | apply Trk.drew | exact Trk.nil _))); simp only [SameOn, World.size_alloc, World.size_setCell, World.size_drew, size_drewN', and_true] at hk; have hsz := Below.size hb; (try simp only [World.size_alloc, World.size_setCell, World.size_drew, size_drewN'] at hsz))
  go_wp2
  all_goals (try (first | kernel_rfl | rfl))
  all_goals
    go_ret2
    exact ⟨_, by rw [(HE.out _ rfl).2] <;> rfl, by rw [(HE.out _ rfl).1]; simp only [*], by (repeat (first | (with_reducible exact Below.refl _ _) | (with_reducible assumption) | (with_reducible refine below_then ?_ (by assumption)) | (with_reducible refine Below.trans ?_ (by assumption)) | (with_reducible refine below_drewN ?_ _) | (with_reducible apply Below.drew) | (with_reducible refine below_alloc ?_ _) | refine Below.setCell ?_ (by first | (simp; done) | (simp; omega)) _))⟩
end Go.Proofs.Ytpnkapdemgieaaa

/-
  Drawn stuffs: how ice grows in the cold, shrinks in the warmth and stays: bounds. No condition but what each law says.
-/
import Derived.Test.YtiodpahbmoeiaaaStAll
import Derived.Test.YtiodpahbmoeiaaaIce
set_option linter.unusedSimpArgs false
set_option linter.unusedVariables false
set_option linter.unusedSectionVars false
namespace Go.Proofs.Ytiodpahbmoeiaaa
open Go Go.RowKit
theorem cQ : cn .f32 1048576000 = fop .quo .f32 (floatOfInt .f32 1) (floatOfInt .f32 4) := by decide +kernel
theorem VQ : V .f32 (cn .f32 1048576000) ((1 : Rat) / 4) := by
  rw [cQ]
  have e : (((1 : Int) : Rat) / ((4 : Int) : Rat)) = (1 : Rat) / 4 := rfl
  have := V.op .quo rfl (V.int .f32 1 (by decide)) (V.int .f32 4 (by decide)) (fun _ => by decide) (by simp only [ex]; exact rep_quarter (n := 1) (by decide))
  exact this.eq e
theorem tp_n4 : tp (-4) * 16 = 1 := by
  have e : tp (-4) = tp (-2) * tp (-2) := by rw [← tp_add]; rfl
  have := tp_n2
  rw [e]; grind
theorem tp_n8 : tp (-8) * 256 = 1 := by
  have e : tp (-8) = tp (-4) * tp (-4) := by rw [← tp_add]; rfl
  have := tp_n4
  rw [e]; grind
theorem rep256 {n : Int} (h : n.natAbs < 16777216) : Rep .f32 ((n : Rat) / 256) := rep_at (k := .f32) n (-8) h (by decide) (by decide) (by have := tp_n8; grind)
section
variable {s : St} {a b c d p l n m j : Int} {I K A : Nat}
def numC (s : St) (A : Nat) : Nat := fop .mul .f32 (fop .mul .f32 (cn .f32 1048576000) s.c) (fop .sub .f32 s.p A)
def denC (s : St) (I K : Nat) : Nat := fop .mul .f32 (fop .add .f32 I K) s.l
theorem num_val (h : SV s a b c d p l) (hA : V .f32 A ((p + j : Int) : Rat)) (hj : -20 ≤ j ∧ j ≤ 20) : V .f32 (numC s.k A) (((-(c * j) : Int) : Rat) / 16) := by
  have hb := h.bd
  have e1 : ex .mul ((1 : Rat) / 4) ((c : Rat) / 4) = (c : Rat) / 16 := by simp only [ex]; grind
  have u := V.op .mul rfl VQ h.C (by simp) (by rw [e1]; exact rep16 c (by omega))
  rw [e1] at u
  have e2 : ex .sub (p : Rat) ((p + j : Int) : Rat) = ((-j : Int) : Rat) := by simp only [ex]; rw [Rat.intCast_add, Rat.intCast_neg]; grind
  have v := V.op .sub rfl h.P hA (by simp) (by rw [e2]; exact rep_int (by omega))
  rw [e2] at v
  have e3 : ex .mul ((c : Rat) / 16) ((-j : Int) : Rat) = ((-(c * j) : Int) : Rat) / 16 := by simp only [ex]; rw [Rat.intCast_neg, Rat.intCast_neg, Rat.intCast_mul]; grind
  have hcj : (-(c * j)).natAbs < 16777216 := by
    have h1 : (c * j).natAbs ≤ 8 * 20 := by rw [Int.natAbs_mul]; exact Nat.mul_le_mul (by omega) (by omega)
    omega
  have := V.op .mul rfl u v (by simp) (by rw [e3]; exact rep16 _ hcj)
  rwa [e3] at this
theorem den_val (h : SV s a b c d p l) (hI : V .f32 I ((n : Rat) / 4)) (hK : V .f32 K ((m : Rat) / 8)) (hn : 1 ≤ n ∧ n ≤ 8) (hm : 0 ≤ m ∧ m ≤ 4) : V .f32 (fop .add .f32 I K) (((2 * n + m : Int) : Rat) / 8) ∧ V .f32 (denC s.k I K) ((((2 * n + m) * l : Int) : Rat) / 16) ∧ 2 ≤ (2 * n + m) * l ∧ (2 * n + m) * l ≤ 320 := by
  have hb := h.bd
  have e1 : ex .add ((n : Rat) / 4) ((m : Rat) / 8) = ((2 * n + m : Int) : Rat) / 8 := by simp only [ex]; rw [Rat.intCast_add, Rat.intCast_mul]; grind
  have u := V.op .add rfl hI hK (by simp) (by rw [e1]; exact rep_eighth (by omega))
  rw [e1] at u
  have e2 : ex .mul (((2 * n + m : Int) : Rat) / 8) ((l : Rat) / 2) = (((2 * n + m) * l : Int) : Rat) / 16 := by simp only [ex]; rw [Rat.intCast_mul]; grind
  have h1 : (2 * n + m) * l ≤ 20 * 16 := Int.mul_le_mul (by omega) (by omega) (by omega) (by omega)
  have h2 : 2 * 1 ≤ (2 * n + m) * l := Int.mul_le_mul (by omega) (by omega) (by omega) (by omega)
  have v := V.op .mul rfl u h.L (by simp) (by rw [e2]; exact rep16 _ (by omega))
  rw [e2] at v
  exact ⟨u, v, by omega, by omega⟩
/-- A quotient between bounds. -/
theorem quo_small {x y : Nat} {N D : Int} (hx : V .f32 x ((N : Rat) / 16)) (hy : V .f32 y ((D : Rat) / 16)) (hD : 2 ≤ D ∧ D ≤ 320) (hN : 2 ≤ N ∧ N ≤ 16) : Btw .f32 (fop .quo .f32 x y) ((1 : Rat) / 256) 8 := by
  have d1 : ((2 : Int) : Rat) ≤ (D : Rat) := icast_le hD.1
  have d2 : (D : Rat) ≤ ((320 : Int) : Rat) := icast_le hD.2
  have n1 : ((2 : Int) : Rat) ≤ (N : Rat) := icast_le hN.1
  have n2 : (N : Rat) ≤ ((16 : Int) : Rat) := icast_le hN.2
  have e : (((N : Rat) / 16) / ((D : Rat) / 16)) * (D : Rat) = (N : Rat) := by grind
  have r1 : Rep .f32 ((1 : Rat) / 256) := rep256 (n := 1) (by decide)
  have r8 : Rep .f32 (8 : Rat) := by simpa using Rep.int (k := .f32) 8 (by decide)
  refine fop_btw .quo rfl .f32 hx.1 hy.1 (fun _ => by rw [hy.2]; grind) r1 r8 ?_ ?_
  · simp only [ex]
    rw [hx.2, hy.2]
    generalize (((N : Rat) / 16) / ((D : Rat) / 16)) = q at e ⊢
    refine mul_cancel_le (c := (D : Rat)) (by grind) ?_
    rw [e]; grind
  · simp only [ex]
    rw [hx.2, hy.2]
    generalize (((N : Rat) / 16) / ((D : Rat) / 16)) = q at e ⊢
    refine mul_cancel_le (c := (D : Rat)) (by grind) ?_
    rw [e]; grind
theorem quo_small' {x y : Nat} {N D : Int} (hx : V .f32 x ((N : Rat) / 16)) (hy : V .f32 y ((D : Rat) / 16)) (hD : 2 ≤ D ∧ D ≤ 320) (hN : -16 ≤ N ∧ N ≤ -2) : Btw .f32 (fop .quo .f32 x y) (-8) (-((1 : Rat) / 256)) := by
  have d1 : ((2 : Int) : Rat) ≤ (D : Rat) := icast_le hD.1
  have d2 : (D : Rat) ≤ ((320 : Int) : Rat) := icast_le hD.2
  have n1 : ((-16 : Int) : Rat) ≤ (N : Rat) := icast_le hN.1
  have n2 : (N : Rat) ≤ ((-2 : Int) : Rat) := icast_le hN.2
  have e : (((N : Rat) / 16) / ((D : Rat) / 16)) * (D : Rat) = (N : Rat) := by grind
  have r1 : Rep .f32 ((1 : Rat) / 256) := rep256 (n := 1) (by decide)
  have r8 : Rep .f32 (8 : Rat) := by simpa using Rep.int (k := .f32) 8 (by decide)
  refine fop_btw .quo rfl .f32 hx.1 hy.1 (fun _ => by rw [hy.2]; grind) r8.neg r1.neg ?_ ?_
  · simp only [ex]
    rw [hx.2, hy.2]
    generalize (((N : Rat) / 16) / ((D : Rat) / 16)) = q at e ⊢
    refine mul_cancel_le (c := (D : Rat)) (by grind) ?_
    rw [e]; grind
  · simp only [ex]
    rw [hx.2, hy.2]
    generalize (((N : Rat) / 16) / ((D : Rat) / 16)) = q at e ⊢
    refine mul_cancel_le (c := (D : Rat)) (by grind) ?_
    rw [e]; grind
theorem grown_up (h : SV s a b c d p l) (hI : V .f32 I ((n : Rat) / 4)) (hK : V .f32 K ((m : Rat) / 8)) (hn : 1 ≤ n ∧ n ≤ 8) (hm : 0 ≤ m ∧ m ≤ 4) (hA : V .f32 A ((p + -2 : Int) : Rat)) :
    fnt .f32 (grownC s.k I K A (cn .f32 1048576000)) = true ∧ (n : Rat) / 4 < fv .f32 (grownC s.k I K A (cn .f32 1048576000)) := by
  have hb := h.bd
  have N := num_val h hA (by omega)
  obtain ⟨_, D, d1, d2⟩ := den_val h hI hK hn hm
  obtain ⟨q0, q1, q2⟩ := quo_small N D ⟨d1, d2⟩ (by omega)
  have r : Rep .f32 ((n : Rat) / 4 + 1 / 256) := by
    have := rep256 (n := 64 * n + 1) (by omega)
    rw [Rat.intCast_add, Rat.intCast_mul] at this
    have e : (((64 : Int) : Rat) * (n : Rat) + ((1 : Int) : Rat)) / 256 = (n : Rat) / 4 + 1 / 256 := by grind
    rwa [e] at this
  have r8 : Rep .f32 ((n : Rat) / 4 + 8) := by
    have := rep_quarter (n := n + 32) (by omega)
    rw [Rat.intCast_add] at this
    have e : ((n : Rat) + ((32 : Int) : Rat)) / 4 = (n : Rat) / 4 + 8 := by grind
    rwa [e] at this
  obtain ⟨g0, g1, g2⟩ := fop_btw .add rfl .f32 (x := I) (y := fop .quo .f32 (numC s.k A) (denC s.k I K)) hI.1 q0 (by simp) r r8 (by simp only [ex]; rw [hI.2]; grind) (by simp only [ex]; rw [hI.2]; grind)
  exact ⟨g0, by show _ < fv .f32 (fop .add .f32 I (fop .quo .f32 (numC s.k A) (denC s.k I K))); grind⟩
theorem grown_down (h : SV s a b c d p l) (hI : V .f32 I ((n : Rat) / 4)) (hK : V .f32 K ((m : Rat) / 8)) (hn : 1 ≤ n ∧ n ≤ 8) (hm : 0 ≤ m ∧ m ≤ 4) (hA : V .f32 A ((p + 2 : Int) : Rat)) :
    fnt .f32 (grownC s.k I K A (cn .f32 1048576000)) = true ∧ fv .f32 (grownC s.k I K A (cn .f32 1048576000)) < (n : Rat) / 4 := by
  have hb := h.bd
  have N := num_val h hA (by omega)
  obtain ⟨_, D, d1, d2⟩ := den_val h hI hK hn hm
  obtain ⟨q0, q1, q2⟩ := quo_small' N D ⟨d1, d2⟩ (by omega)
  have r : Rep .f32 ((n : Rat) / 4 - 1 / 256) := by
    have := rep256 (n := 64 * n - 1) (by omega)
    rw [Rat.intCast_sub, Rat.intCast_mul] at this
    have e : (((64 : Int) : Rat) * (n : Rat) - ((1 : Int) : Rat)) / 256 = (n : Rat) / 4 - 1 / 256 := by grind
    rwa [e] at this
  have r8 : Rep .f32 ((n : Rat) / 4 - 8) := by
    have := rep_quarter (n := n - 32) (by omega)
    rw [Rat.intCast_sub] at this
    have e : ((n : Rat) - ((32 : Int) : Rat)) / 4 = (n : Rat) / 4 - 8 := by grind
    rwa [e] at this
  obtain ⟨g0, g1, g2⟩ := fop_btw .add rfl .f32 (x := I) (y := fop .quo .f32 (numC s.k A) (denC s.k I K)) hI.1 q0 (by simp) r8 r (by simp only [ex]; rw [hI.2]; grind) (by simp only [ex]; rw [hI.2]; grind)
  exact ⟨g0, by show fv .f32 (fop .add .f32 I (fop .quo .f32 (numC s.k A) (denC s.k I K))) < _; grind⟩
theorem grown_same (h : SV s a b c d p l) (hI : V .f32 I ((n : Rat) / 4)) (hK : V .f32 K ((m : Rat) / 8)) (hn : 1 ≤ n ∧ n ≤ 8) (hm : 0 ≤ m ∧ m ≤ 4) (hA : V .f32 A ((p + 0 : Int) : Rat)) : V .f32 (grownC s.k I K A (cn .f32 1048576000)) ((n : Rat) / 4) := by
  have N := num_val h hA (by omega)
  obtain ⟨_, D, d1, d2⟩ := den_val h hI hK hn hm
  have d1' : ((2 : Int) : Rat) ≤ (((2 * n + m) * l : Int) : Rat) := icast_le d1
  have e0 : ((-(c * 0) : Int) : Rat) / 16 = 0 := by
    have h0 : (-(c * 0) : Int) = 0 := by simp
    have h1 : ((0 : Int) : Rat) = 0 := rfl
    rw [h0, h1]; grind
  rw [e0] at N
  have r0 : Rep .f32 (0 : Rat) := Rep.int 0 (by decide)
  have e1 : ex .quo 0 ((((2 * n + m) * l : Int) : Rat) / 16) = 0 := by simp only [ex]; grind
  have Q := V.op .quo rfl N D (fun _ => by grind) (by rw [e1]; exact r0)
  rw [e1] at Q
  have e2 : ex .add ((n : Rat) / 4) 0 = (n : Rat) / 4 := by simp only [ex]; grind
  have S := V.op .add rfl hI Q (by simp) (by rw [e2]; exact rep_quarter (by omega))
  rw [e2] at S
  exact S
end
end Go.Proofs.Ytiodpahbmoeiaaa

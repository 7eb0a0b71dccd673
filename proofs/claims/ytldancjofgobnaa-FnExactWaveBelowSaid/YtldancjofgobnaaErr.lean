/-
  The error function in 64 bits as a plain function, and how great it gets. No condition but what each law says.
-/
import Derived.Test.YtldancjofgobnaaBnd
set_option linter.unusedSimpArgs false
set_option linter.unusedVariables false
set_option linter.unusedSectionVars false
namespace Go.Proofs.Ytldancjofgobnaa
open Go Go.RowKit
/-- A whole number as a word. -/
def fI (n : Int) : Nat := cn .f64 (floatOfInt .f64 n)
/-- The term of the k-th round, and the sum ahead of it. -/
def erT (x : Nat) : Nat → Nat
  | 0 => x
  | k + 1 => fop .quo .f64 (fop .mul .f64 (fop .mul .f64 (erT x k) (fneg .f64 (fop .mul .f64 x x))) (fI (2 * k + 1))) (fI ((k + 1) * (2 * k + 3)))
def erS (x : Nat) : Nat → Nat
  | 0 => cn .f64 0
  | k + 1 => fop .add .f64 (erS x k) (erT x k)
def erV (x : Nat) : Nat := if fge .f64 x (cn .f64 4616189618054758400) then cn .f64 4607182418800017408 else if fle .f64 x (cn .f64 13839561654909534208) then cn .f64 13830554455654793216 else fop .mul .f64 (cn .f64 4607760587169110893) (erS x 60)
theorem cn_erV (x : Nat) : cn .f64 (erV x) = erV x := by
  unfold erV; split
  · exact cn_cn _ _
  · split
    · exact cn_cn _ _
    · exact cn_fop _ _ _ _
theorem fI_step : ∀ k : Nat, k < 60 → (fop .add .f64 (fI ((k : Int) + 1)) (cn .f64 4607182418800017408) = fI (((k + 1 : Nat) : Int) + 1) ∧ fop .sub .f64 (fop .mul .f64 (cn .f64 4611686018427387904) (fI ((k : Int) + 1))) (cn .f64 4607182418800017408) = fI (2 * k + 1)) ∧ fop .mul .f64 (fI ((k : Int) + 1)) (fop .add .f64 (fop .mul .f64 (cn .f64 4611686018427387904) (fI ((k : Int) + 1))) (cn .f64 4607182418800017408)) = fI ((k + 1) * (2 * k + 3)) ∧ fle .f64 (fI ((k : Int) + 1)) (cn .f64 4633641066610819072) = true := by decide +kernel
theorem fI_one : fI 1 = cn .f64 4607182418800017408 := by decide +kernel
theorem fI_end : fle .f64 (fI 61) (cn .f64 4633641066610819072) = false := by decide +kernel
/-! ### How great -/
theorem ofInt_val (k : FloatKind) (n : Int) (h : n.natAbs < 2 ^ (digK k + 1)) : fnt k (floatOfInt k n) = true ∧ fv k (floatOfInt k n) = n := by
  have e : dv (.number (decide (n < 0)) n.natAbs 0) = (n : Rat) := by
    simp only [dv, tp_zero, Rat.mul_one]
    by_cases h0 : n < 0
    · have : (n.natAbs : Int) = -n := by omega
      have h2 : ((n.natAbs : Nat) : Rat) = ((-n : Int) : Rat) := by rw [← this]; rfl
      rw [h2]; simp [h0, sg]; grind
    · have : (n.natAbs : Int) = n := by omega
      have h2 : ((n.natAbs : Nat) : Rat) = ((n : Int) : Rat) := by rw [← Rat.intCast_natCast, this]
      rw [h2]; simp [h0, sg]
  have hup : (n : Rat) ≤ tp (digK k + 1) ∧ -(n : Rat) ≤ tp (digK k + 1) := by
    have e1 : tp ((digK k : Int) + 1) = ((2 ^ (digK k + 1) : Nat) : Rat) := tp_nat (digK k + 1)
    rw [e1]
    have a1 : n ≤ ((2 ^ (digK k + 1) : Nat) : Int) := by omega
    have a2 : -n ≤ ((2 ^ (digK k + 1) : Nat) : Int) := by omega
    exact ⟨by exact_mod_cast a1, by exact_mod_cast a2⟩
  have key := write_rnd k.format (.number (decide (n < 0)) n.natAbs 0) rfl (fmt_exp k) (digK k + 1) (by rw [top_eq]; cases k <;> decide) (by rw [e]; exact hup.1) (by rw [e]; exact hup.2)
  rw [e] at key
  refine ⟨key.1, ?_⟩
  exact key.2.eq (z := n) (q := 0) (by rw [dig_eq]; exact h) (by rw [low_eq]; cases k <;> decide) (by rw [tp_zero, Rat.mul_one])
theorem fI_val (n : Nat) (h : n < 9000) : Bnd .f64 (fI n) n ∧ fnt .f64 (fI n) = true ∧ fv .f64 (fI n) = n := by
  obtain ⟨h1, h2⟩ := ofInt_val .f64 (n : Int) (by show _ < 2 ^ 53; omega)
  have e : fI n = floatOfInt .f64 n := fnt_cn h1
  have h0 : (0 : Rat) ≤ n := by exact_mod_cast Nat.zero_le n
  rw [e]
  rw [Rat.intCast_natCast] at h2
  exact ⟨⟨h1, by rw [h2]; grind, by rw [h2]; exact Rat.le_refl⟩, h1, h2⟩
theorem tp4 : tp 4 = 16 := by rw [show (4 : Int) = ((4 : Nat) : Int) from rfl, tp_nat]; rfl
theorem erT_bnd {x : Nat} (hx : Bnd .f64 x 4) (k : Nat) (hk : k ≤ 60) : Bnd .f64 (erT x k) (tp (4 * (min k 16 : Nat) + 2)) := by
  induction k with
  | zero =>
    have : tp (4 * (min 0 16 : Nat) + 2) = 4 := by rw [show (4 * ((min 0 16 : Nat) : Int) + 2) = ((2 : Nat) : Int) from rfl, tp_nat]; rfl
    rw [this]; exact hx
  | succ k ih =>
    have ih := ih (by omega)
    obtain ⟨q, hq⟩ : ∃ q : Int, q = 4 * (min k 16 : Nat) + 2 := ⟨_, rfl⟩
    rw [← hq] at ih
    have hqb : 0 ≤ q ∧ q ≤ 66 := by omega
    have hp := tp_pos q
    have e4 : tp (q + 4) = tp q * 16 := by rw [tp_add, tp4]
    have h1 : Bnd .f64 (fneg .f64 (fop .mul .f64 x x)) 16 := (hx.mul hx (Rep.nat 16 (by decide)) (by decide +kernel)).neg
    have h2 : Bnd .f64 (fop .mul .f64 (erT x k) (fneg .f64 (fop .mul .f64 x x))) (tp (q + 4)) := ih.mul h1 (Rep.tp _ (by simp only [lowK]; omega) (by simp only [topK]; omega)) (by rw [e4]; exact Rat.le_refl)
    have h3 : Bnd .f64 (fI (2 * k + 1)) ((2 * k + 1 : Nat) : Rat) := (fI_val (2 * k + 1) (by omega)).1
    have h4 : Bnd .f64 (fop .mul .f64 (fop .mul .f64 (erT x k) (fneg .f64 (fop .mul .f64 x x))) (fI (2 * k + 1))) (((2 * k + 1 : Nat) : Int) * tp (q + 4)) :=
      h2.mul h3 (Rep.mul_tp _ _ (by simp only [digK]; omega) (by simp only [lowK]; omega) (by simp only [topK, digK]; omega)) (by rw [Rat.intCast_natCast, Rat.mul_comm]; exact Rat.le_refl)
    obtain ⟨_, g1, g2⟩ := fI_val ((k + 1) * (2 * k + 3)) (by have : (k + 1) * (2 * k + 3) ≤ 60 * 121 := Nat.mul_le_mul (by omega) (by omega); omega)
    have e5 : ((((k + 1) * (2 * k + 3) : Nat) : Int)) = ((k : Int) + 1) * (2 * (k : Int) + 3) := by push_cast; rfl
    rw [e5] at g1 g2
    have hd : (0 : Rat) < (((k + 1) * (2 * k + 3) : Nat) : Rat) := by
      have : 0 < (k + 1) * (2 * k + 3) := Nat.mul_pos (by omega) (by omega)
      exact_mod_cast this
    refine h4.div g1 hd (by rw [g2]; exact Rat.le_refl) (Rep.tp _ (by simp only [lowK]; omega) (by simp only [topK]; omega)) ?_
    rw [Rat.intCast_natCast]
    by_cases hk16 : k < 16
    · have e6 : 4 * ((min (k + 1) 16 : Nat) : Int) + 2 = q + 4 := by omega
      rw [e6]
      have hn : 2 * k + 1 ≤ (k + 1) * (2 * k + 3) := by
        have := Nat.mul_le_mul (show 1 ≤ k + 1 by omega) (Nat.le_refl (2 * k + 3)); omega
      have hr : ((2 * k + 1 : Nat) : Rat) ≤ (((k + 1) * (2 * k + 3) : Nat) : Rat) := by exact_mod_cast hn
      rw [Rat.mul_comm]
      exact Rat.mul_le_mul_of_nonneg_left hr (Rat.le_of_lt (tp_pos _))
    · have e6 : 4 * ((min (k + 1) 16 : Nat) : Int) + 2 = q := by omega
      rw [e6, e4]
      have hn : 16 * (2 * k + 1) ≤ (k + 1) * (2 * k + 3) := by
        have := Nat.mul_le_mul (show 17 ≤ k + 1 by omega) (Nat.le_refl (2 * k + 3)); omega
      have hr : ((16 * (2 * k + 1) : Nat) : Rat) ≤ (((k + 1) * (2 * k + 3) : Nat) : Rat) := by exact_mod_cast hn
      have hm := Rat.mul_le_mul_of_nonneg_left hr (Rat.le_of_lt hp)
      have e7 : ((16 * (2 * k + 1) : Nat) : Rat) = 16 * ((2 * k + 1 : Nat) : Rat) := by push_cast; rfl
      rw [e7] at hm
      grind
theorem erT_bnd2 {x : Nat} (hx : Bnd .f64 x 4) (k : Nat) (hk : k ≤ 60) : Bnd .f64 (erT x k) (tp 66) := (erT_bnd hx k hk).mono (tp_le (by omega))
theorem erS_bnd {x : Nat} (hx : Bnd .f64 x 4) (k : Nat) (hk : k ≤ 60) : Bnd .f64 (erS x k) (((k : Nat) : Int) * tp 66) := by
  induction k with
  | zero =>
    refine ⟨(show fnt .f64 (cn .f64 0) = true by decide +kernel), ?_, ?_⟩
    · have : fv .f64 (erS x 0) = 0 := by
        have : fv .f64 (cn .f64 0) = 0 := by decide +kernel
        exact this
      rw [this]; simp
    · have : fv .f64 (erS x 0) = 0 := by
        have : fv .f64 (cn .f64 0) = 0 := by decide +kernel
        exact this
      rw [this]; simp
  | succ k ih =>
    refine (ih (by omega)).add (erT_bnd2 hx k (by omega)) (Rep.mul_tp _ _ (by simp only [digK]; omega) (by simp only [lowK]; omega) (by simp only [topK, digK]; omega)) ?_
    have : (((k + 1 : Nat) : Int) : Rat) = ((k : Nat) : Int) + 1 := by push_cast; rfl
    rw [this]; grind
theorem one_bnd : Bnd .f64 (cn .f64 4607182418800017408) 1 := ⟨by decide +kernel, by decide +kernel, by decide +kernel⟩
theorem mone_bnd : Bnd .f64 (cn .f64 13830554455654793216) 1 := ⟨by decide +kernel, by decide +kernel, by decide +kernel⟩
theorem c2_bnd : Bnd .f64 (cn .f64 4607760587169110893) 2 := ⟨by decide +kernel, by decide +kernel, by decide +kernel⟩
theorem four_val : fnt .f64 (cn .f64 4616189618054758400) = true ∧ fv .f64 (cn .f64 4616189618054758400) = 4 := ⟨by decide +kernel, by decide +kernel⟩
theorem mfour_val : fnt .f64 (cn .f64 13839561654909534208) = true ∧ fv .f64 (cn .f64 13839561654909534208) = -4 := ⟨by decide +kernel, by decide +kernel⟩
/-- A finite number's error function is small. -/
theorem erV_bnd {x : Nat} (hx : fnt .f64 x = true) : Bnd .f64 (erV x) (tp 80) := by
  have t1 : (1 : Rat) ≤ tp 80 := by rw [← tp_zero]; exact tp_le (by decide)
  unfold erV
  rw [fgev hx four_val.1, four_val.2, flev hx mfour_val.1, mfour_val.2]
  by_cases h1 : (4 : Rat) ≤ fv .f64 x
  · rw [if_pos (by simpa using h1)]; exact one_bnd.mono t1
  · rw [if_neg (by simpa using h1)]
    by_cases h2 : fv .f64 x ≤ (-4 : Rat)
    · rw [if_pos (by simpa using h2)]; exact mone_bnd.mono t1
    · rw [if_neg (by simpa using h2)]
      have hb : Bnd .f64 x 4 := ⟨hx, by grind, by grind⟩
      refine c2_bnd.mul (erS_bnd hb 60 (by omega)) (Rep.tp _ (by decide) (by decide)) ?_
      have e : tp 80 = tp 66 * 16384 := by rw [show (80 : Int) = 66 + 14 from rfl, tp_add]; congr 1
      have := tp_pos 66
      rw [e]
      have e2 : (((60 : Nat) : Int) : Rat) = 60 := rfl
      rw [e2]
      grind
theorem fnt_fin (k : FloatKind) (x : Nat) : fnt k x = fin k x := (fin_num k x).symm
/-- What the error function's word narrows to is finite. -/
theorem erV_narrow {x : Nat} (hx : fin .f32 x = true) : fits (erV (wide x)) = true ∧ fin .f32 (narrow (erV (wide x))) = true := by
  rw [← fnt_fin] at hx
  obtain ⟨h1, h2⟩ := narrow_bnd (erV_bnd (wide_val hx).1) (Rep.tp 80 (by decide) (by decide))
  exact ⟨h1, by rw [← fnt_fin]; exact h2.1⟩
/-! ### Where the counter stands -/
def fltOf : Value → Nat
  | .float _ r => r
  | _ => 0
def idxF (c : Nat) : Nat := (List.range 62).findIdx fun j => fI (j : Nat) == c
theorem idx_fI : ∀ j : Nat, j < 62 → idxF (fI (j : Nat)) = j := by decide +kernel
/-! ### The exponential function, and how fast a front goes -/
def exP (t : Nat) : Nat → Nat
  | 0 => cn .f64 4607182418800017408
  | j + 1 => fop .add .f64 (cn .f64 4607182418800017408) (fop .quo .f64 (fop .mul .f64 t (exP t j)) (fI (12 - (j : Int))))
def exQ (p : Nat) : Nat → Nat
  | 0 => p
  | j + 1 => fop .mul .f64 (exQ p j) (exQ p j)
def exV (y : Nat) : Nat := exQ (exP (fop .quo .f64 y (cn .f64 4643211215818981376)) 12) 8
theorem cn_exP (t j : Nat) : cn .f64 (exP t j) = exP t j := by cases j; exact cn_cn _ _; exact cn_fop _ _ _ _
theorem cn_exQ {p : Nat} (h : cn .f64 p = p) (j : Nat) : cn .f64 (exQ p j) = exQ p j := by cases j; exact h; exact cn_fop _ _ _ _
theorem cn_exV (y : Nat) : cn .f64 (exV y) = exV y := cn_exQ (cn_exP _ _) _
theorem fI_down : ∀ j : Nat, j < 12 → fge .f64 (fI (12 - (j : Int))) (cn .f64 4607182418800017408) = true ∧ fop .sub .f64 (fI (12 - (j : Int))) (cn .f64 4607182418800017408) = fI (12 - ((j + 1 : Nat) : Int)) := by decide +kernel
theorem fI_12 : fI 12 = cn .f64 4622945017495814144 := by decide +kernel
theorem fI_0 : fge .f64 (fI 0) (cn .f64 4607182418800017408) = false := by decide +kernel
/-- The middle of two numbers. -/
def midW (a b : Nat) : Nat := fop .quo .f64 (fop .add .f64 a b) (cn .f64 4611686018427387904)
def stP (m : Nat) : Nat := fop .mul .f64 (fop .mul .f64 (fop .mul .f64 (cn .f64 4610661241675116395) m) (exV (fop .mul .f64 m m))) (erV m)
def stB (s a b : Nat) : Bool := fgt .f64 (stP (midW a b)) s
/-- The two bounds ahead of the k-th round. -/
def stLH (s : Nat) : Nat → Nat × Nat
  | 0 => (cn .f64 0, cn .f64 4613937818241073152)
  | k + 1 => if stB s (stLH s k).1 (stLH s k).2 then ((stLH s k).1, midW (stLH s k).1 (stLH s k).2) else (midW (stLH s k).1 (stLH s k).2, (stLH s k).2)
def stV (s : Nat) : Nat := (stLH s 50).1
/-- What StefanRoot says. -/
def stF (x : Nat) : Nat := if abv x then narrow (stV (wide x)) else cn .f32 0
theorem two_val : fnt .f64 (cn .f64 4611686018427387904) = true ∧ fv .f64 (cn .f64 4611686018427387904) = 2 := ⟨by decide +kernel, by decide +kernel⟩
theorem midW_btw {a b : Nat} (ha : Btw .f64 a 0 3) (hb : Btw .f64 b 0 3) : Btw .f64 (midW a b) 0 3 := by
  have a1 := ha.2; have b1 := hb.2
  have r0 : Rep .f64 0 := Rep.nat 0 (by decide)
  have r3 : Rep .f64 3 := Rep.nat 3 (by decide)
  have r6 : Rep .f64 6 := Rep.nat 6 (by decide)
  have h1 : Btw .f64 (fop .add .f64 a b) 0 6 := fop_btw .add rfl .f64 ha.1 hb.1 (by simp) r0 r6 (by simp only [ex]; grind) (by simp only [ex]; grind)
  have h2 := h1.2
  have hne : fv .f64 (cn .f64 4611686018427387904) ≠ 0 := by rw [two_val.2]; decide
  exact fop_btw .quo rfl .f64 h1.1 two_val.1 (fun _ => hne) r0 r3 (by simp only [ex]; rw [two_val.2]; grind) (by simp only [ex]; rw [two_val.2]; grind)
theorem stLH_btw (s : Nat) : ∀ k, Btw .f64 (stLH s k).1 0 3 ∧ Btw .f64 (stLH s k).2 0 3
  | 0 => (show Btw .f64 (cn .f64 0) 0 3 ∧ Btw .f64 (cn .f64 4613937818241073152) 0 3 from ⟨⟨by decide +kernel, by decide +kernel, by decide +kernel⟩, ⟨by decide +kernel, by decide +kernel, by decide +kernel⟩⟩)
  | k + 1 => by
    obtain ⟨h1, h2⟩ := stLH_btw s k
    simp only [stLH]
    split
    · exact ⟨h1, midW_btw h1 h2⟩
    · exact ⟨midW_btw h1 h2, h2⟩
theorem stV_narrow (s : Nat) : fits (stV s) = true ∧ fin .f32 (narrow (stV s)) = true := by
  obtain ⟨h1, h2, h3⟩ := (stLH_btw s 50).1
  have hb : Bnd .f64 (stV s) 3 := ⟨h1, by have : (0 : Rat) ≤ fv .f64 (stV s) := h2; grind, h3⟩
  obtain ⟨g1, g2⟩ := narrow_bnd hb (Rep.nat 3 (by decide))
  exact ⟨g1, by rw [← fnt_fin]; exact g2.1⟩
theorem hundred_val : (fnt .f64 (cn .f64 4641240890982006784) = true ∧ fv .f64 (cn .f64 4641240890982006784) = 200) ∧ fnt .f64 (cn .f64 13864612927836782592) = true ∧ fv .f64 (cn .f64 13864612927836782592) = -200 := ⟨⟨by decide +kernel, by decide +kernel⟩, by decide +kernel, by decide +kernel⟩
/-- May the exponential function be drawn so. -/
def exOk (y : Nat) : Prop := feq .f64 y y = true ∧ fgt .f64 y (cn .f64 4641240890982006784) = false ∧ flt .f64 y (cn .f64 13864612927836782592) = false
theorem exOk_mid (s : Nat) {k : Nat} : exOk (fop .mul .f64 (midW (stLH s k).1 (stLH s k).2) (midW (stLH s k).1 (stLH s k).2)) := by
  obtain ⟨h1, h2⟩ := stLH_btw s k
  have hm := midW_btw h1 h2
  have hb : Bnd .f64 (midW (stLH s k).1 (stLH s k).2) 3 := ⟨hm.1, by have := hm.2.1; grind, hm.2.2⟩
  have h9 := hb.mul hb (Rep.nat 9 (by decide)) (by decide +kernel)
  have h10 := h9.2
  obtain ⟨⟨c1, c2⟩, c3, c4⟩ := hundred_val
  refine ⟨by rw [feqv h9.1 h9.1]; simp, ?_, ?_⟩
  · rw [fgtv h9.1 c1, c2]; exact decide_eq_false (by intro hh; have : ((9 : Nat) : Rat) = 9 := rfl; grind)
  · rw [fltv h9.1 c3, c4]; exact decide_eq_false (by intro hh; have : ((9 : Nat) : Rat) = 9 := rfl; grind)
end Go.Proofs.Ytldancjofgobnaa

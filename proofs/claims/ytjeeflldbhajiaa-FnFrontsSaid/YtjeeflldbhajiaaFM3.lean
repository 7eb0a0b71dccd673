/-
  The error function in 64 bits as a plain function, and how great it gets. No condition but what each law says.
  Bounds of floating-point numbers, worked out quickly: two whole numbers at a fixed place. No condition but what each law says; nothing of the program is named here.
  64-bit floating-point numbers, nearly, worked out quickly: a whole number at a fixed place, and how far it may be off. No condition but what each law says; nothing of the program is named here.
  How fast a front goes: bounds, worked out quickly. No condition but what each law says; nothing of the program is named here.
  How fast a front goes, nearly, worked out quickly. No condition but what each law says; nothing of the program is named here.
  Slices that are only read: later they hold what they held. No condition.
  Slices of 32-bit numbers: what a call makes, writes and compares; the laws' own helpers (toFloat32S, eqFloat32S, markFloat32S, heldFloat32S, szFloat32S), each proved once. No condition but what each contract says.
  Slices that are appended to, one number at a time; which lists are finite (the reference's). No condition but what each law says.
  Marks: what a call leaves that writes into one own slice; slices that lie apart. No condition but what each law says.
  Rows of the call's own, with the blocks between which they lie; what a call leaves that writes into some of these blocks. No condition; nothing of the program is named here.
  Bytes that choose numbers: the source of what the statements draw. No condition but what each contract says.
  How this seat's bars and slices of numbers are opened to their cells. No condition.
-/
import Derived.Test.YtjeeflldbhajiaaFM2
import Derived.Deep.Slices
set_option linter.unusedSimpArgs false
set_option linter.unusedVariables false
set_option linter.unusedSectionVars false
namespace Go.Proofs.Ytjeeflldbhajiaa
open Go Go.RowKit
/-- A whole number as a word. -/
def fI (n : Int) : Nat := cn .f64 (floatOfInt .f64 n)
/-- The term of the k-th round, and the sum ahead of it. -/
def erT (x : Nat) : Nat → Nat
  | 0 => x
  | k + 1 => fop .quo .f64 (fop .mul .f64 (fop .mul .f64 (erT x k) (fneg .f64 (fop .mul .f64 x x))) (fI (2 * k + 1))) (fI ((k + 1) * (2 * k + 3)))
def erS (x : Nat) : Nat → Nat
  | 0 => cn .f64 0
  | k + 1 => fop .add .f64 (erS x k) (erT x k)
def erV (x : Nat) : Nat := if fge .f64 x (cn .f64 4616189618054758400) then cn .f64 4607182418800017408 else if fle .f64 x (cn .f64 13839561654909534208) then cn .f64 13830554455654793216 else fop .mul .f64 (cn .f64 4607760587169110893) (erS x 60)
theorem cn_erV (x : Nat) : cn .f64 (erV x) = erV x := by
  unfold erV; split
  · exact cn_cn _ _
  · split
    · exact cn_cn _ _
    · exact cn_fop _ _ _ _
theorem fI_step : ∀ k : Nat, k < 60 → (fop .add .f64 (fI ((k : Int) + 1)) (cn .f64 4607182418800017408) = fI (((k + 1 : Nat) : Int) + 1) ∧ fop .sub .f64 (fop .mul .f64 (cn .f64 4611686018427387904) (fI ((k : Int) + 1))) (cn .f64 4607182418800017408) = fI (2 * k + 1)) ∧ fop .mul .f64 (fI ((k : Int) + 1)) (fop .add .f64 (fop .mul .f64 (cn .f64 4611686018427387904) (fI ((k : Int) + 1))) (cn .f64 4607182418800017408)) = fI ((k + 1) * (2 * k + 3)) ∧ fle .f64 (fI ((k : Int) + 1)) (cn .f64 4633641066610819072) = true := by decide +kernel
theorem fI_one : fI 1 = cn .f64 4607182418800017408 := by decide +kernel
theorem fI_end : fle .f64 (fI 61) (cn .f64 4633641066610819072) = false := by decide +kernel
/-! ### How great -/
theorem ofInt_val (k : FloatKind) (n : Int) (h : n.natAbs < 2 ^ (digK k + 1)) : fnt k (floatOfInt k n) = true ∧ fv k (floatOfInt k n) = n := by
  have e : dv (.number (decide (n < 0)) n.natAbs 0) = (n : Rat) := by
    simp only [dv, tp_zero, Rat.mul_one]
    by_cases h0 : n < 0
    · have : (n.natAbs : Int) = -n := by omega
      have h2 : ((n.natAbs : Nat) : Rat) = ((-n : Int) : Rat) := by rw [← this]; rfl
      rw [h2]; simp [h0, sg]; grind
    · have : (n.natAbs : Int) = n := by omega
      have h2 : ((n.natAbs : Nat) : Rat) = ((n : Int) : Rat) := by rw [← Rat.intCast_natCast, this]
      rw [h2]; simp [h0, sg]
  have hup : (n : Rat) ≤ tp (digK k + 1) ∧ -(n : Rat) ≤ tp (digK k + 1) := by
    have e1 : tp ((digK k : Int) + 1) = ((2 ^ (digK k + 1) : Nat) : Rat) := tp_nat (digK k + 1)
    rw [e1]
    have a1 : n ≤ ((2 ^ (digK k + 1) : Nat) : Int) := by omega
    have a2 : -n ≤ ((2 ^ (digK k + 1) : Nat) : Int) := by omega
    exact ⟨by exact_mod_cast a1, by exact_mod_cast a2⟩
  have key := write_rnd k.format (.number (decide (n < 0)) n.natAbs 0) rfl (fmt_exp k) (digK k + 1) (by rw [top_eq]; cases k <;> decide) (by rw [e]; exact hup.1) (by rw [e]; exact hup.2)
  rw [e] at key
  refine ⟨key.1, ?_⟩
  exact key.2.eq (z := n) (q := 0) (by rw [dig_eq]; exact h) (by rw [low_eq]; cases k <;> decide) (by rw [tp_zero, Rat.mul_one])
theorem fI_val (n : Nat) (h : n < 9000) : Bnd .f64 (fI n) n ∧ fnt .f64 (fI n) = true ∧ fv .f64 (fI n) = n := by
  obtain ⟨h1, h2⟩ := ofInt_val .f64 (n : Int) (by show _ < 2 ^ 53; omega)
  have e : fI n = floatOfInt .f64 n := fnt_cn h1
  have h0 : (0 : Rat) ≤ n := by exact_mod_cast Nat.zero_le n
  rw [e]
  rw [Rat.intCast_natCast] at h2
  exact ⟨⟨h1, by rw [h2]; grind, by rw [h2]; exact Rat.le_refl⟩, h1, h2⟩
theorem tp4 : tp 4 = 16 := by rw [show (4 : Int) = ((4 : Nat) : Int) from rfl, tp_nat]; rfl
theorem erT_bnd {x : Nat} (hx : Bnd .f64 x 4) (k : Nat) (hk : k ≤ 60) : Bnd .f64 (erT x k) (tp (4 * (min k 16 : Nat) + 2)) := by
  induction k with
  | zero =>
    have : tp (4 * (min 0 16 : Nat) + 2) = 4 := by rw [show (4 * ((min 0 16 : Nat) : Int) + 2) = ((2 : Nat) : Int) from rfl, tp_nat]; rfl
    rw [this]; exact hx
  | succ k ih =>
    have ih := ih (by omega)
    obtain ⟨q, hq⟩ : ∃ q : Int, q = 4 * (min k 16 : Nat) + 2 := ⟨_, rfl⟩
    rw [← hq] at ih
    have hqb : 0 ≤ q ∧ q ≤ 66 := by omega
    have hp := tp_pos q
    have e4 : tp (q + 4) = tp q * 16 := by rw [tp_add, tp4]
    have h1 : Bnd .f64 (fneg .f64 (fop .mul .f64 x x)) 16 := (hx.mul hx (Rep.nat 16 (by decide)) (by decide +kernel)).neg
    have h2 : Bnd .f64 (fop .mul .f64 (erT x k) (fneg .f64 (fop .mul .f64 x x))) (tp (q + 4)) := ih.mul h1 (Rep.tp _ (by simp only [lowK]; omega) (by simp only [topK]; omega)) (by rw [e4]; exact Rat.le_refl)
    have h3 : Bnd .f64 (fI (2 * k + 1)) ((2 * k + 1 : Nat) : Rat) := (fI_val (2 * k + 1) (by omega)).1
    have h4 : Bnd .f64 (fop .mul .f64 (fop .mul .f64 (erT x k) (fneg .f64 (fop .mul .f64 x x))) (fI (2 * k + 1))) (((2 * k + 1 : Nat) : Int) * tp (q + 4)) :=
      h2.mul h3 (Rep.mul_tp _ _ (by simp only [digK]; omega) (by simp only [lowK]; omega) (by simp only [topK, digK]; omega)) (by rw [Rat.intCast_natCast, Rat.mul_comm]; exact Rat.le_refl)
    obtain ⟨_, g1, g2⟩ := fI_val ((k + 1) * (2 * k + 3)) (by have : (k + 1) * (2 * k + 3) ≤ 60 * 121 := Nat.mul_le_mul (by omega) (by omega); omega)
    have e5 : ((((k + 1) * (2 * k + 3) : Nat) : Int)) = ((k : Int) + 1) * (2 * (k : Int) + 3) := by push_cast; rfl
    rw [e5] at g1 g2
    have hd : (0 : Rat) < (((k + 1) * (2 * k + 3) : Nat) : Rat) := by
      have : 0 < (k + 1) * (2 * k + 3) := Nat.mul_pos (by omega) (by omega)
      exact_mod_cast this
    refine h4.div g1 hd (by rw [g2]; exact Rat.le_refl) (Rep.tp _ (by simp only [lowK]; omega) (by simp only [topK]; omega)) ?_
    rw [Rat.intCast_natCast]
    by_cases hk16 : k < 16
    · have e6 : 4 * ((min (k + 1) 16 : Nat) : Int) + 2 = q + 4 := by omega
      rw [e6]
      have hn : 2 * k + 1 ≤ (k + 1) * (2 * k + 3) := by
        have := Nat.mul_le_mul (show 1 ≤ k + 1 by omega) (Nat.le_refl (2 * k + 3)); omega
      have hr : ((2 * k + 1 : Nat) : Rat) ≤ (((k + 1) * (2 * k + 3) : Nat) : Rat) := by exact_mod_cast hn
      rw [Rat.mul_comm]
      exact Rat.mul_le_mul_of_nonneg_left hr (Rat.le_of_lt (tp_pos _))
    · have e6 : 4 * ((min (k + 1) 16 : Nat) : Int) + 2 = q := by omega
      rw [e6, e4]
      have hn : 16 * (2 * k + 1) ≤ (k + 1) * (2 * k + 3) := by
        have := Nat.mul_le_mul (show 17 ≤ k + 1 by omega) (Nat.le_refl (2 * k + 3)); omega
      have hr : ((16 * (2 * k + 1) : Nat) : Rat) ≤ (((k + 1) * (2 * k + 3) : Nat) : Rat) := by exact_mod_cast hn
      have hm := Rat.mul_le_mul_of_nonneg_left hr (Rat.le_of_lt hp)
      have e7 : ((16 * (2 * k + 1) : Nat) : Rat) = 16 * ((2 * k + 1 : Nat) : Rat) := by push_cast; rfl
      rw [e7] at hm
      grind
theorem erT_bnd2 {x : Nat} (hx : Bnd .f64 x 4) (k : Nat) (hk : k ≤ 60) : Bnd .f64 (erT x k) (tp 66) := (erT_bnd hx k hk).mono (tp_le (by omega))
theorem erS_bnd {x : Nat} (hx : Bnd .f64 x 4) (k : Nat) (hk : k ≤ 60) : Bnd .f64 (erS x k) (((k : Nat) : Int) * tp 66) := by
  induction k with
  | zero =>
    refine ⟨(show fnt .f64 (cn .f64 0) = true by decide +kernel), ?_, ?_⟩
    · have : fv .f64 (erS x 0) = 0 := by
        have : fv .f64 (cn .f64 0) = 0 := by decide +kernel
        exact this
      rw [this]; simp
    · have : fv .f64 (erS x 0) = 0 := by
        have : fv .f64 (cn .f64 0) = 0 := by decide +kernel
        exact this
      rw [this]; simp
  | succ k ih =>
    refine (ih (by omega)).add (erT_bnd2 hx k (by omega)) (Rep.mul_tp _ _ (by simp only [digK]; omega) (by simp only [lowK]; omega) (by simp only [topK, digK]; omega)) ?_
    have : (((k + 1 : Nat) : Int) : Rat) = ((k : Nat) : Int) + 1 := by push_cast; rfl
    rw [this]; grind
theorem one_bnd : Bnd .f64 (cn .f64 4607182418800017408) 1 := ⟨by decide +kernel, by decide +kernel, by decide +kernel⟩
theorem mone_bnd : Bnd .f64 (cn .f64 13830554455654793216) 1 := ⟨by decide +kernel, by decide +kernel, by decide +kernel⟩
theorem c2_bnd : Bnd .f64 (cn .f64 4607760587169110893) 2 := ⟨by decide +kernel, by decide +kernel, by decide +kernel⟩
theorem four_val : fnt .f64 (cn .f64 4616189618054758400) = true ∧ fv .f64 (cn .f64 4616189618054758400) = 4 := ⟨by decide +kernel, by decide +kernel⟩
theorem mfour_val : fnt .f64 (cn .f64 13839561654909534208) = true ∧ fv .f64 (cn .f64 13839561654909534208) = -4 := ⟨by decide +kernel, by decide +kernel⟩
/-- A finite number's error function is small. -/
theorem erV_bnd {x : Nat} (hx : fnt .f64 x = true) : Bnd .f64 (erV x) (tp 80) := by
  have t1 : (1 : Rat) ≤ tp 80 := by rw [← tp_zero]; exact tp_le (by decide)
  unfold erV
  rw [fgev hx four_val.1, four_val.2, flev hx mfour_val.1, mfour_val.2]
  by_cases h1 : (4 : Rat) ≤ fv .f64 x
  · rw [if_pos (by simpa using h1)]; exact one_bnd.mono t1
  · rw [if_neg (by simpa using h1)]
    by_cases h2 : fv .f64 x ≤ (-4 : Rat)
    · rw [if_pos (by simpa using h2)]; exact mone_bnd.mono t1
    · rw [if_neg (by simpa using h2)]
      have hb : Bnd .f64 x 4 := ⟨hx, by grind, by grind⟩
      refine c2_bnd.mul (erS_bnd hb 60 (by omega)) (Rep.tp _ (by decide) (by decide)) ?_
      have e : tp 80 = tp 66 * 16384 := by rw [show (80 : Int) = 66 + 14 from rfl, tp_add]; congr 1
      have := tp_pos 66
      rw [e]
      have e2 : (((60 : Nat) : Int) : Rat) = 60 := rfl
      rw [e2]
      grind
theorem fnt_fin (k : FloatKind) (x : Nat) : fnt k x = fin k x := (fin_num k x).symm
/-- What the error function's word narrows to is finite. -/
theorem erV_narrow {x : Nat} (hx : fin .f32 x = true) : fits (erV (wide x)) = true ∧ fin .f32 (narrow (erV (wide x))) = true := by
  rw [← fnt_fin] at hx
  obtain ⟨h1, h2⟩ := narrow_bnd (erV_bnd (wide_val hx).1) (Rep.tp 80 (by decide) (by decide))
  exact ⟨h1, by rw [← fnt_fin]; exact h2.1⟩
/-! ### Where the counter stands -/
def fltOf : Value → Nat
  | .float _ r => r
  | _ => 0
def idxF (c : Nat) : Nat := (List.range 62).findIdx fun j => fI (j : Nat) == c
theorem idx_fI : ∀ j : Nat, j < 62 → idxF (fI (j : Nat)) = j := by decide +kernel
/-! ### The exponential function, and how fast a front goes -/
def exP (t : Nat) : Nat → Nat
  | 0 => cn .f64 4607182418800017408
  | j + 1 => fop .add .f64 (cn .f64 4607182418800017408) (fop .quo .f64 (fop .mul .f64 t (exP t j)) (fI (12 - (j : Int))))
def exQ (p : Nat) : Nat → Nat
  | 0 => p
  | j + 1 => fop .mul .f64 (exQ p j) (exQ p j)
def exV (y : Nat) : Nat := exQ (exP (fop .quo .f64 y (cn .f64 4643211215818981376)) 12) 8
theorem cn_exP (t j : Nat) : cn .f64 (exP t j) = exP t j := by cases j; exact cn_cn _ _; exact cn_fop _ _ _ _
theorem cn_exQ {p : Nat} (h : cn .f64 p = p) (j : Nat) : cn .f64 (exQ p j) = exQ p j := by cases j; exact h; exact cn_fop _ _ _ _
theorem cn_exV (y : Nat) : cn .f64 (exV y) = exV y := cn_exQ (cn_exP _ _) _
theorem fI_down : ∀ j : Nat, j < 12 → fge .f64 (fI (12 - (j : Int))) (cn .f64 4607182418800017408) = true ∧ fop .sub .f64 (fI (12 - (j : Int))) (cn .f64 4607182418800017408) = fI (12 - ((j + 1 : Nat) : Int)) := by decide +kernel
theorem fI_12 : fI 12 = cn .f64 4622945017495814144 := by decide +kernel
theorem fI_0 : fge .f64 (fI 0) (cn .f64 4607182418800017408) = false := by decide +kernel
/-- The middle of two numbers. -/
def midW (a b : Nat) : Nat := fop .quo .f64 (fop .add .f64 a b) (cn .f64 4611686018427387904)
def stP (m : Nat) : Nat := fop .mul .f64 (fop .mul .f64 (fop .mul .f64 (cn .f64 4610661241675116395) m) (exV (fop .mul .f64 m m))) (erV m)
def stB (s a b : Nat) : Bool := fgt .f64 (stP (midW a b)) s
/-- The two bounds ahead of the k-th round. -/
def stLH (s : Nat) : Nat → Nat × Nat
  | 0 => (cn .f64 0, cn .f64 4613937818241073152)
  | k + 1 => if stB s (stLH s k).1 (stLH s k).2 then ((stLH s k).1, midW (stLH s k).1 (stLH s k).2) else (midW (stLH s k).1 (stLH s k).2, (stLH s k).2)
def stV (s : Nat) : Nat := (stLH s 50).1
/-- What StefanRoot says. -/
def stF (x : Nat) : Nat := if abv x then narrow (stV (wide x)) else cn .f32 0
theorem two_val : fnt .f64 (cn .f64 4611686018427387904) = true ∧ fv .f64 (cn .f64 4611686018427387904) = 2 := ⟨by decide +kernel, by decide +kernel⟩
theorem midW_btw {a b : Nat} (ha : Btw .f64 a 0 3) (hb : Btw .f64 b 0 3) : Btw .f64 (midW a b) 0 3 := by
  have a1 := ha.2; have b1 := hb.2
  have r0 : Rep .f64 0 := Rep.nat 0 (by decide)
  have r3 : Rep .f64 3 := Rep.nat 3 (by decide)
  have r6 : Rep .f64 6 := Rep.nat 6 (by decide)
  have h1 : Btw .f64 (fop .add .f64 a b) 0 6 := fop_btw .add rfl .f64 ha.1 hb.1 (by simp) r0 r6 (by simp only [ex]; grind) (by simp only [ex]; grind)
  have h2 := h1.2
  have hne : fv .f64 (cn .f64 4611686018427387904) ≠ 0 := by rw [two_val.2]; decide
  exact fop_btw .quo rfl .f64 h1.1 two_val.1 (fun _ => hne) r0 r3 (by simp only [ex]; rw [two_val.2]; grind) (by simp only [ex]; rw [two_val.2]; grind)
theorem stLH_btw (s : Nat) : ∀ k, Btw .f64 (stLH s k).1 0 3 ∧ Btw .f64 (stLH s k).2 0 3
  | 0 => (show Btw .f64 (cn .f64 0) 0 3 ∧ Btw .f64 (cn .f64 4613937818241073152) 0 3 from ⟨⟨by decide +kernel, by decide +kernel, by decide +kernel⟩, ⟨by decide +kernel, by decide +kernel, by decide +kernel⟩⟩)
  | k + 1 => by
    obtain ⟨h1, h2⟩ := stLH_btw s k
    simp only [stLH]
    split
    · exact ⟨h1, midW_btw h1 h2⟩
    · exact ⟨midW_btw h1 h2, h2⟩
theorem stV_narrow (s : Nat) : fits (stV s) = true ∧ fin .f32 (narrow (stV s)) = true := by
  obtain ⟨h1, h2, h3⟩ := (stLH_btw s 50).1
  have hb : Bnd .f64 (stV s) 3 := ⟨h1, by have : (0 : Rat) ≤ fv .f64 (stV s) := h2; grind, h3⟩
  obtain ⟨g1, g2⟩ := narrow_bnd hb (Rep.nat 3 (by decide))
  exact ⟨g1, by rw [← fnt_fin]; exact g2.1⟩
theorem hundred_val : (fnt .f64 (cn .f64 4641240890982006784) = true ∧ fv .f64 (cn .f64 4641240890982006784) = 200) ∧ fnt .f64 (cn .f64 13864612927836782592) = true ∧ fv .f64 (cn .f64 13864612927836782592) = -200 := ⟨⟨by decide +kernel, by decide +kernel⟩, by decide +kernel, by decide +kernel⟩
/-- May the exponential function be drawn so. -/
def exOk (y : Nat) : Prop := feq .f64 y y = true ∧ fgt .f64 y (cn .f64 4641240890982006784) = false ∧ flt .f64 y (cn .f64 13864612927836782592) = false
theorem exOk_mid (s : Nat) {k : Nat} : exOk (fop .mul .f64 (midW (stLH s k).1 (stLH s k).2) (midW (stLH s k).1 (stLH s k).2)) := by
  obtain ⟨h1, h2⟩ := stLH_btw s k
  have hm := midW_btw h1 h2
  have hb : Bnd .f64 (midW (stLH s k).1 (stLH s k).2) 3 := ⟨hm.1, by have := hm.2.1; grind, hm.2.2⟩
  have h9 := hb.mul hb (Rep.nat 9 (by decide)) (by decide +kernel)
  have h10 := h9.2
  obtain ⟨⟨c1, c2⟩, c3, c4⟩ := hundred_val
  refine ⟨by rw [feqv h9.1 h9.1]; simp, ?_, ?_⟩
  · rw [fgtv h9.1 c1, c2]; exact decide_eq_false (by intro hh; have : ((9 : Nat) : Rat) = 9 := rfl; grind)
  · rw [fltv h9.1 c3, c4]; exact decide_eq_false (by intro hh; have : ((9 : Nat) : Rat) = 9 := rfl; grind)
end Go.Proofs.Ytjeeflldbhajiaa
set_option linter.unusedSimpArgs false
set_option linter.unusedVariables false
set_option linter.unusedSectionVars false
namespace Go.Proofs.Ytjeeflldbhajiaa
open Go Go.RowKit
/-- A value worked out ahead of its use. -/
def frc {α : Type} (v : Nat) (f : Nat → α) : α := match v with | 0 => f 0 | n + 1 => f (n + 1)
theorem frc_eq {α : Type} (v : Nat) (f : Nat → α) : frc v f = f v := by cases v <;> rfl
def frcI {α : Type} (v : Int) (f : Int → α) : α := match v with | .ofNat n => frc n fun n => f (.ofNat n) | .negSucc n => frc n fun n => f (.negSucc n)
theorem frcI_eq {α : Type} (v : Int) (f : Int → α) : frcI v f = f v := by
  cases v with
  | ofNat n => show frc n (fun n => f (.ofNat n)) = _; rw [frc_eq]
  | negSucc n => show frc n (fun n => f (.negSucc n)) = _; rw [frc_eq]
structure Iv where
  lo : Int
  hi : Int
/-- The place. -/
def ep : Rat := tp (-96)
theorem ep_pos : 0 < ep := tp_pos _
theorem ep_tp : ep * tp 96 = 1 := by unfold ep; rw [← tp_add]; exact tp_zero
theorem tp96 : tp 96 = ((2 ^ 96 : Nat) : Rat) := tp_nat 96
/-- A word between these bounds. -/
def Bw (k : FloatKind) (x : Nat) (a : Iv) : Prop := fnt k x = true ∧ (a.lo : Rat) * ep ≤ fv k x ∧ fv k x ≤ (a.hi : Rat) * ep
def ivx (k : FloatKind) (lo hi : Int) : Option Iv := frc (max lo.natAbs hi.natAbs) fun M => if M < 2 ^ 190 then frc (M / 2 ^ digK k + 2) fun w => frcI (lo - w) fun l => frcI (hi + w) fun h => some ⟨l, h⟩ else none
theorem rnd_err2 {f : Ieee.Format} {v r M : Rat} (h : Rnd f v r) (h1 : v ≤ M) (h2 : -v ≤ M) : r - v ≤ M * tp (-(f.fractionBits : Int)) + tp f.leastPlace ∧ v - r ≤ M * tp (-(f.fractionBits : Int)) + tp f.leastPlace := by
  obtain ⟨last, k, hl, hr, e1, e2, h3⟩ := h
  have t0 := tp_pos f.leastPlace
  have t1 := tp_pos (-(f.fractionBits : Int))
  have M0 : 0 ≤ M := by grind
  have m0 := Rat.mul_nonneg M0 (Rat.le_of_lt t1)
  have t2 := tp_pos last
  rcases h3 with h3 | h3 | h3
  · rw [h3] at e1 e2; constructor <;> grind
  · have e : tp last = tp (last + f.fractionBits) * tp (-(f.fractionBits : Int)) := by rw [← tp_add]; congr 1; omega
    have := Rat.mul_le_mul_of_nonneg_right (show tp (last + f.fractionBits) ≤ M by grind) (Rat.le_of_lt t1)
    constructor <;> grind
  · have e : tp last = tp (last + f.fractionBits) * tp (-(f.fractionBits : Int)) := by rw [← tp_add]; congr 1; omega
    have := Rat.mul_le_mul_of_nonneg_right (show tp (last + f.fractionBits) ≤ M by grind) (Rat.le_of_lt t1)
    constructor <;> grind
theorem icl {a b : Int} (h : a ≤ b) : (a : Rat) ≤ (b : Rat) := by exact_mod_cast h
/-- What is rounded stays between bounds that are a little wider. -/
theorem ivx_ok {k : FloatKind} {lo hi : Int} {c : Iv} (h : ivx k lo hi = some c) {v : Rat} (h1 : (lo : Rat) * ep ≤ v) (h2 : v ≤ (hi : Rat) * ep) : (v ≤ tp 100 ∧ -v ≤ tp 100) ∧ ∀ r, Rnd k.format v r → (c.lo : Rat) * ep ≤ r ∧ r ≤ (c.hi : Rat) * ep := by
  unfold ivx at h
  rw [frc_eq] at h
  split at h
  · rename_i hM
    rw [frc_eq, frcI_eq, frcI_eq] at h
    simp only [Option.some.injEq] at h
    subst h
    obtain ⟨M, hMe⟩ : ∃ M : Nat, max lo.natAbs hi.natAbs = M := ⟨_, rfl⟩
    rw [hMe] at hM ⊢
    have e0 := ep_pos
    have a1 : hi ≤ (M : Int) := by omega
    have a2 : -(M : Int) ≤ lo := by omega
    have c1 : (hi : Rat) ≤ (M : Rat) := by have := icl a1; rwa [Rat.intCast_natCast] at this
    have c2 : -(M : Rat) ≤ (lo : Rat) := by have := icl a2; rwa [Rat.intCast_neg, Rat.intCast_natCast] at this
    have b1 := Rat.mul_le_mul_of_nonneg_right c1 (Rat.le_of_lt e0)
    have b2 := Rat.mul_le_mul_of_nonneg_right c2 (Rat.le_of_lt e0)
    have u1 : v ≤ (M : Rat) * ep := Rat.le_trans h2 b1
    have u2 : -v ≤ (M : Rat) * ep := by grind
    have hM2 : (M : Rat) ≤ ((2 ^ 190 : Nat) : Rat) := by exact_mod_cast (by omega : M ≤ 2 ^ 190)
    have hM3 := Rat.mul_le_mul_of_nonneg_right hM2 (Rat.le_of_lt e0)
    have e5 : ((2 ^ 190 : Nat) : Rat) * ep ≤ tp 100 := by
      have : ((2 ^ 190 : Nat) : Rat) = tp (190 : Nat) := (tp_nat 190).symm
      rw [this]; unfold ep; rw [← tp_add]; exact tp_le (by decide)
    refine ⟨⟨by grind, by grind⟩, fun r hr => ?_⟩
    obtain ⟨g1, g2⟩ := rnd_err2 hr u1 u2
    have low : tp k.format.leastPlace ≤ ep := by unfold ep; rw [low_eq]; exact tp_le (by cases k <;> decide)
    rw [dig_eq] at g1 g2
    -- M ep 2^-dig <= (M / 2^dig + 1) ep
    have dv : (M : Rat) * tp (-(digK k : Int)) ≤ ((M / 2 ^ digK k + 1 : Nat) : Rat) := by
      have hlt : M < (M / 2 ^ digK k + 1) * 2 ^ digK k := by
        have h1 := Nat.div_add_mod M (2 ^ digK k)
        have h2 := Nat.mod_lt M (Nat.two_pow_pos (digK k))
        rw [Nat.add_mul, Nat.one_mul, Nat.mul_comm (M / 2 ^ digK k)]
        omega
      have c3 : (M : Rat) ≤ ((M / 2 ^ digK k + 1 : Nat) : Rat) * ((2 ^ digK k : Nat) : Rat) := by exact_mod_cast Nat.le_of_lt hlt
      rw [← tp_nat] at c3
      have t := tp_pos (-(digK k : Int))
      have c4 := Rat.mul_le_mul_of_nonneg_right c3 (Rat.le_of_lt t)
      have e6 : tp (digK k : Int) * tp (-(digK k : Int)) = 1 := by rw [← tp_add, Int.add_right_neg]; exact tp_zero
      have e7 : ((M / 2 ^ digK k + 1 : Nat) : Rat) * tp (digK k : Int) * tp (-(digK k : Int)) = ((M / 2 ^ digK k + 1 : Nat) : Rat) * (tp (digK k : Int) * tp (-(digK k : Int))) := by grind
      rw [e7, e6] at c4
      grind
    have d2 := Rat.mul_le_mul_of_nonneg_right dv (Rat.le_of_lt e0)
    have w1 : ((M / 2 ^ digK k + 2 : Nat) : Rat) = ((M / 2 ^ digK k + 1 : Nat) : Rat) + 1 := by rw [← Nat.add_assoc (M / 2 ^ digK k) 1 1]; exact Rat.natCast_add _ _
    have ci : (((M / 2 ^ digK k + 2 : Nat) : Int) : Rat) = ((M / 2 ^ digK k + 2 : Nat) : Rat) := Rat.intCast_natCast _
    have s1 : ((lo - (M / 2 ^ digK k + 2 : Nat) : Int) : Rat) = (lo : Rat) - ((M / 2 ^ digK k + 2 : Nat) : Rat) := by rw [Rat.intCast_sub, ci]
    have s2 : ((hi + (M / 2 ^ digK k + 2 : Nat) : Int) : Rat) = (hi : Rat) + ((M / 2 ^ digK k + 2 : Nat) : Rat) := by rw [Rat.intCast_add, ci]
    show ((lo - (M / 2 ^ digK k + 2 : Nat) : Int) : Rat) * ep ≤ r ∧ r ≤ ((hi + (M / 2 ^ digK k + 2 : Nat) : Int) : Rat) * ep
    rw [s1, s2, w1]
    have e8 : (M : Rat) * ep * tp (-(digK k : Int)) = (M : Rat) * tp (-(digK k : Int)) * ep := by grind
    rw [e8] at g1 g2
    constructor <;> grind
  · cases h
/-- An operation on numbers between bounds. -/
theorem Bw.op {op : BinOp} (hop : arithOp op = true) {k : FloatKind} {x y : Nat} (hx : fnt k x = true) (hy : fnt k y = true) (h0 : op = .quo → fv k y ≠ 0) {lo hi : Int} {c : Iv} (h : ivx k lo hi = some c) (h1 : (lo : Rat) * ep ≤ ex op (fv k x) (fv k y)) (h2 : ex op (fv k x) (fv k y) ≤ (hi : Rat) * ep) : Bw k (fop op k x y) c := by
  obtain ⟨⟨a1, a2⟩, a3⟩ := ivx_ok h h1 h2
  obtain ⟨g1, g2⟩ := fop_rnd op hop k hx hy h0 100 (by cases k <;> decide) a1 a2
  exact ⟨g1, a3 _ g2⟩
/-! ### Operations -/
def iadd (k : FloatKind) (a b : Iv) : Option Iv := ivx k (a.lo + b.lo) (a.hi + b.hi)
def isub (k : FloatKind) (a b : Iv) : Option Iv := ivx k (a.lo - b.hi) (a.hi - b.lo)
def ineg (a : Iv) : Iv := ⟨-a.hi, -a.lo⟩
def imin (a b : Int) : Int := if a ≤ b then a else b
def imax (a b : Int) : Int := if a ≤ b then b else a
def imul (k : FloatKind) (a b : Iv) : Option Iv := frcI (a.lo * b.lo) fun p => frcI (a.lo * b.hi) fun q => frcI (a.hi * b.lo) fun r => frcI (a.hi * b.hi) fun s =>
  frcI (imin (imin p q) (imin r s) / 2 ^ 96) fun l => frcI (imax (imax p q) (imax r s) / 2 ^ 96 + 1) fun h => ivx k l h
section
variable {k : FloatKind} {x y : Nat} {a b c : Iv}
theorem Bw.add (hx : Bw k x a) (hy : Bw k y b) (h : iadd k a b = some c) : Bw k (fop .add k x y) c := by
  obtain ⟨x0, x1, x2⟩ := hx
  obtain ⟨y0, y1, y2⟩ := hy
  exact Bw.op rfl x0 y0 (by simp) h (by simp only [ex]; rw [Rat.intCast_add]; grind) (by simp only [ex]; rw [Rat.intCast_add]; grind)
theorem Bw.sub (hx : Bw k x a) (hy : Bw k y b) (h : isub k a b = some c) : Bw k (fop .sub k x y) c := by
  obtain ⟨x0, x1, x2⟩ := hx
  obtain ⟨y0, y1, y2⟩ := hy
  exact Bw.op rfl x0 y0 (by simp) h (by simp only [ex]; rw [Rat.intCast_sub]; grind) (by simp only [ex]; rw [Rat.intCast_sub]; grind)
theorem Bw.neg (hx : Bw k x a) : Bw k (fneg k x) (ineg a) := by
  obtain ⟨x0, x1, x2⟩ := hx
  obtain ⟨n0, n1⟩ := fneg_val x0
  refine ⟨n0, ?_, ?_⟩
  · rw [n1]; show ((-a.hi : Int) : Rat) * ep ≤ _; rw [Rat.intCast_neg]; grind
  · rw [n1]; show _ ≤ ((-a.lo : Int) : Rat) * ep; rw [Rat.intCast_neg]; grind
theorem imin_le (a b : Int) : imin a b ≤ a ∧ imin a b ≤ b := by unfold imin; split <;> omega
theorem le_imax (a b : Int) : a ≤ imax a b ∧ b ≤ imax a b := by unfold imax; split <;> omega
/-- A product lies between the products of the bounds. -/
theorem mul_corner {X Y a b c d lo hi : Rat} (h1 : a ≤ X) (h2 : X ≤ b) (h3 : c ≤ Y) (h4 : Y ≤ d) (l1 : lo ≤ a * c) (l2 : lo ≤ a * d) (l3 : lo ≤ b * c) (l4 : lo ≤ b * d) (u1 : a * c ≤ hi) (u2 : a * d ≤ hi) (u3 : b * c ≤ hi) (u4 : b * d ≤ hi) : lo ≤ X * Y ∧ X * Y ≤ hi := by
  have at_ : ∀ Z, (Z = a ∨ Z = b) → lo ≤ Z * Y ∧ Z * Y ≤ hi := by
    intro Z hZ
    rcases (Rat.le_total : 0 ≤ Z ∨ Z ≤ 0) with hz | hz
    · have m1 := Rat.mul_le_mul_of_nonneg_left h3 hz
      have m2 := Rat.mul_le_mul_of_nonneg_left h4 hz
      rcases hZ with rfl | rfl <;> constructor <;> grind
    · have m1 := Rat.mul_le_mul_of_nonneg_left h3 (show 0 ≤ -Z by grind)
      have m2 := Rat.mul_le_mul_of_nonneg_left h4 (show 0 ≤ -Z by grind)
      rcases hZ with rfl | rfl <;> constructor <;> grind
  obtain ⟨a1, a2⟩ := at_ a (.inl rfl)
  obtain ⟨b1, b2⟩ := at_ b (.inr rfl)
  rcases (Rat.le_total : 0 ≤ Y ∨ Y ≤ 0) with hy | hy
  · have m1 := Rat.mul_le_mul_of_nonneg_right h1 hy
    have m2 := Rat.mul_le_mul_of_nonneg_right h2 hy
    constructor <;> grind
  · have m1 := Rat.mul_le_mul_of_nonneg_right h1 (show 0 ≤ -Y by grind)
    have m2 := Rat.mul_le_mul_of_nonneg_right h2 (show 0 ≤ -Y by grind)
    constructor <;> grind
theorem div_le (z : Int) {n : Nat} (hn : 0 < n) : ((z / (n : Int) : Int) : Rat) * (n : Rat) ≤ (z : Rat) ∧ (z : Rat) ≤ ((z / (n : Int) + 1 : Int) : Rat) * (n : Rat) := by
  have hp : (0 : Int) < (n : Int) := by omega
  have h1 : z / (n : Int) * n ≤ z := Int.ediv_mul_le z (by omega)
  have h2 : z < (z / (n : Int) + 1) * n := Int.lt_ediv_add_one_mul_self z hp
  have c1 := icl h1
  have c2 := icl (Int.le_of_lt h2)
  rw [Rat.intCast_mul, Rat.intCast_natCast] at c1 c2
  exact ⟨c1, c2⟩
theorem Bw.mul (hx : Bw k x a) (hy : Bw k y b) (h : imul k a b = some c) : Bw k (fop .mul k x y) c := by
  obtain ⟨x0, x1, x2⟩ := hx
  obtain ⟨y0, y1, y2⟩ := hy
  unfold imul at h
  simp only [frcI_eq] at h
  have e0 := ep_pos
  obtain ⟨m1, m2⟩ := imin_le (imin (a.lo * b.lo) (a.lo * b.hi)) (imin (a.hi * b.lo) (a.hi * b.hi))
  obtain ⟨m3, m4⟩ := imin_le (a.lo * b.lo) (a.lo * b.hi)
  obtain ⟨m5, m6⟩ := imin_le (a.hi * b.lo) (a.hi * b.hi)
  obtain ⟨n1, n2⟩ := le_imax (imax (a.lo * b.lo) (a.lo * b.hi)) (imax (a.hi * b.lo) (a.hi * b.hi))
  obtain ⟨n3, n4⟩ := le_imax (a.lo * b.lo) (a.lo * b.hi)
  obtain ⟨n5, n6⟩ := le_imax (a.hi * b.lo) (a.hi * b.hi)
  generalize imin (imin (a.lo * b.lo) (a.lo * b.hi)) (imin (a.hi * b.lo) (a.hi * b.hi)) = L at *
  generalize imax (imax (a.lo * b.lo) (a.lo * b.hi)) (imax (a.hi * b.lo) (a.hi * b.hi)) = H at *
  have ee := Rat.mul_nonneg (Rat.le_of_lt e0) (Rat.le_of_lt e0)
  have sc : ∀ {p q r s : Int}, p * q ≤ r → ((p : Rat) * ep) * ((q : Rat) * ep) ≤ (r : Rat) * (ep * ep) := fun {p q r s} h => by
    have := icl h
    rw [Rat.intCast_mul] at this
    have := Rat.mul_le_mul_of_nonneg_right this ee
    grind
  have sc2 : ∀ {p q r s : Int}, r ≤ p * q → (r : Rat) * (ep * ep) ≤ ((p : Rat) * ep) * ((q : Rat) * ep) := fun {p q r s} h => by
    have := icl h
    rw [Rat.intCast_mul] at this
    have := Rat.mul_le_mul_of_nonneg_right this ee
    grind
  obtain ⟨k1, k2⟩ := mul_corner (lo := (L : Rat) * (ep * ep)) (hi := (H : Rat) * (ep * ep)) x1 x2 y1 y2 (sc2 (s := 0) (by omega)) (sc2 (s := 0) (by omega)) (sc2 (s := 0) (by omega)) (sc2 (s := 0) (by omega)) (sc (s := 0) (by omega)) (sc (s := 0) (by omega)) (sc (s := 0) (by omega)) (sc (s := 0) (by omega))
  obtain ⟨d1, _⟩ := div_le L (n := 2 ^ 96) (Nat.two_pow_pos 96)
  obtain ⟨_, d2⟩ := div_le H (n := 2 ^ 96) (Nat.two_pow_pos 96)
  have te : ((2 ^ 96 : Nat) : Rat) * ep = 1 := by rw [← tp96, Rat.mul_comm]; exact ep_tp
  have q1 := Rat.mul_le_mul_of_nonneg_right d1 ee
  have q2 := Rat.mul_le_mul_of_nonneg_right d2 ee
  have cc : ((2 : Int) ^ 96) = ((2 ^ 96 : Nat) : Int) := by decide
  rw [cc] at h
  refine Bw.op rfl x0 y0 (by simp) h ?_ ?_
  · simp only [ex]
    generalize ((L / ((2 ^ 96 : Nat) : Int) : Int) : Rat) = l at *
    generalize ((2 ^ 96 : Nat) : Rat) = T at *
    have : l * T * (ep * ep) = l * ep * (T * ep) := by grind
    rw [this, te] at q1
    grind
  · simp only [ex]
    generalize ((H / ((2 ^ 96 : Nat) : Int) + 1 : Int) : Rat) = l at *
    generalize ((2 ^ 96 : Nat) : Rat) = T at *
    have : l * T * (ep * ep) = l * ep * (T * ep) := by grind
    rw [this, te] at q2
    grind
end
end Go.Proofs.Ytjeeflldbhajiaa
set_option linter.unusedSimpArgs false
set_option linter.unusedVariables false
set_option linter.unusedSectionVars false
namespace Go.Proofs.Ytjeeflldbhajiaa
open Go Go.RowKit
inductive Cr where
  | no : Cr
  | c (s : Bool) (m r : Nat) : Cr
/-- A word that is this number, nearly. -/
def Cw (x : Nat) : Cr → Prop
  | .no => False
  | .c s m r => fnt .f64 x = true ∧ fv .f64 x - sg s * ((m : Rat) * ep) ≤ (r : Rat) * ep ∧ sg s * ((m : Rat) * ep) - fv .f64 x ≤ (r : Rat) * ep
/-- What rounding adds. -/
def crn (s : Bool) (m r : Nat) : Cr := frc m fun m => frc (Nat.add (Nat.add r (Nat.div (Nat.add m r) 4503599627370496)) 2) fun r => match Nat.ble (Nat.add m r) (Nat.pow 2 190) with
  | true => (match s with | true => .c true m r | false => .c false m r)
  | false => .no
theorem crn_ok {s : Bool} {m r : Nat} (h : crn s m r ≠ .no) : crn s m r = .c s m (r + (m + r) / 4503599627370496 + 2) ∧ m + (r + (m + r) / 4503599627370496 + 2) ≤ 2 ^ 190 := by
  unfold crn at h ⊢
  rw [frc_eq, frc_eq] at h ⊢
  have e : Nat.add (Nat.add r (Nat.div (Nat.add m r) 4503599627370496)) 2 = r + (m + r) / 4503599627370496 + 2 := rfl
  rw [e] at h ⊢
  cases hb : Nat.ble (Nat.add m (r + (m + r) / 4503599627370496 + 2)) (Nat.pow 2 190) with
  | true =>
    have := Nat.le_of_ble_eq_true hb
    refine ⟨by cases s <;> rfl, this⟩
  | false => rw [hb] at h; exact absurd rfl h
theorem cr_rnd {v w : Rat} {s : Bool} {m r : Nat} (hm : m + (r + (m + r) / 4503599627370496 + 2) ≤ 2 ^ 190) (h1 : v - sg s * ((m : Rat) * ep) ≤ (r : Rat) * ep) (h2 : sg s * ((m : Rat) * ep) - v ≤ (r : Rat) * ep) : (v ≤ tp 100 ∧ -v ≤ tp 100) ∧ (Rnd Ieee.double v w → w - sg s * ((m : Rat) * ep) ≤ ((r + (m + r) / 4503599627370496 + 2 : Nat) : Rat) * ep ∧ sg s * ((m : Rat) * ep) - w ≤ ((r + (m + r) / 4503599627370496 + 2 : Nat) : Rat) * ep) := by
  have e0 := ep_pos
  have c0 : ((m + r : Nat) : Rat) = (m : Rat) + r := Rat.natCast_add _ _
  have mp : 0 ≤ (m : Rat) * ep := Rat.mul_nonneg (by exact_mod_cast Nat.zero_le m) (Rat.le_of_lt e0)
  have u1 : v ≤ ((m + r : Nat) : Rat) * ep := by rw [c0]; cases s <;> simp only [sg] at h1 h2 <;> grind
  have u2 : -v ≤ ((m + r : Nat) : Rat) * ep := by rw [c0]; cases s <;> simp only [sg] at h1 h2 <;> grind
  have hM : m + r ≤ 2 ^ 190 := by omega
  generalize hMe : m + r = M at *
  have hM2 : (M : Rat) ≤ ((2 ^ 190 : Nat) : Rat) := by exact_mod_cast hM
  have hM3 := Rat.mul_le_mul_of_nonneg_right hM2 (Rat.le_of_lt e0)
  have e5 : ((2 ^ 190 : Nat) : Rat) * ep ≤ tp 100 := by
    have : ((2 ^ 190 : Nat) : Rat) = tp (190 : Nat) := (tp_nat 190).symm
    rw [this]; unfold ep; rw [← tp_add]; exact tp_le (by decide)
  refine ⟨⟨by grind, by grind⟩, fun hr => ?_⟩
  obtain ⟨g1, g2⟩ := rnd_err2 hr u1 u2
  have low : tp Ieee.double.leastPlace ≤ ep := by unfold ep; exact tp_le (by decide)
  have fb : -((Ieee.double.fractionBits : Nat) : Int) = -52 := rfl
  rw [fb] at g1 g2
  have dv : (M : Rat) * tp (-52) ≤ ((M / 4503599627370496 + 1 : Nat) : Rat) := by
    have hlt : M ≤ (M / 4503599627370496 + 1) * 4503599627370496 := by omega
    have c3 : (M : Rat) ≤ ((M / 4503599627370496 + 1 : Nat) : Rat) * ((4503599627370496 : Nat) : Rat) := by exact_mod_cast hlt
    have t := tp_pos (-52)
    have e6 : ((4503599627370496 : Nat) : Rat) * tp (-52) = 1 := by
      have : ((4503599627370496 : Nat) : Rat) = tp (52 : Nat) := (tp_nat 52).symm
      rw [this, ← tp_add]; exact tp_zero
    have c4 := Rat.mul_le_mul_of_nonneg_right c3 (Rat.le_of_lt t)
    have e7 : ((M / 4503599627370496 + 1 : Nat) : Rat) * ((4503599627370496 : Nat) : Rat) * tp (-52) = ((M / 4503599627370496 + 1 : Nat) : Rat) * (((4503599627370496 : Nat) : Rat) * tp (-52)) := by grind
    rw [e7, e6] at c4
    grind
  have d2 := Rat.mul_le_mul_of_nonneg_right dv (Rat.le_of_lt e0)
  have w1 : ((r + M / 4503599627370496 + 2 : Nat) : Rat) = (r : Rat) + ((M / 4503599627370496 + 1 : Nat) : Rat) + 1 := by
    rw [show r + M / 4503599627370496 + 2 = r + (M / 4503599627370496 + 1) + 1 by omega, Rat.natCast_add, Rat.natCast_add]; rfl
  rw [w1]
  have e8 : (M : Rat) * ep * tp (-52) = (M : Rat) * tp (-52) * ep := by grind
  rw [e8] at g1 g2
  constructor <;> grind
/-- An operation whose exact result is near s m at the place. -/
theorem Cw.op {op : BinOp} (hop : arithOp op = true) {x y : Nat} (hx : fnt .f64 x = true) (hy : fnt .f64 y = true) (h0 : op = .quo → fv .f64 y ≠ 0) {s : Bool} {m r : Nat} (h : crn s m r ≠ .no) (h1 : ex op (fv .f64 x) (fv .f64 y) - sg s * ((m : Rat) * ep) ≤ (r : Rat) * ep) (h2 : sg s * ((m : Rat) * ep) - ex op (fv .f64 x) (fv .f64 y) ≤ (r : Rat) * ep) : Cw (fop op .f64 x y) (crn s m r) := by
  obtain ⟨e1, e2⟩ := crn_ok h
  rw [e1]
  obtain ⟨⟨a1, a2⟩, a3⟩ := cr_rnd (w := fv .f64 (fop op .f64 x y)) e2 h1 h2
  obtain ⟨g1, g2⟩ := fop_rnd op hop .f64 hx hy h0 100 (by decide) a1 a2
  exact ⟨g1, a3 g2⟩
/-! ### Operations -/
def xr : Bool → Bool → Bool
  | true, b => (match b with | true => false | false => true)
  | false, b => b
theorem sg_xr (a b : Bool) : sg (xr a b) = sg a * sg b := by cases a <;> cases b <;> simp [xr, sg] <;> grind
def cmul : Cr → Cr → Cr
  | .c s1 m1 r1, .c s2 m2 r2 => crn (xr s1 s2) (Nat.div (Nat.mul m1 m2) 79228162514264337593543950336) (Nat.add (Nat.div (Nat.add (Nat.add (Nat.mul m1 r2) (Nat.mul r1 m2)) (Nat.mul r1 r2)) 79228162514264337593543950336) 2)
  | _, _ => .no
def cadd : Cr → Cr → Cr
  | .c s1 m1 r1, .c s2 m2 r2 => (match xr s1 s2 with
    | false => crn s1 (Nat.add m1 m2) (Nat.add r1 r2)
    | true => (match Nat.ble m2 m1 with
      | true => crn s1 (Nat.sub m1 m2) (Nat.add r1 r2)
      | false => crn s2 (Nat.sub m2 m1) (Nat.add r1 r2)))
  | _, _ => .no
def cneg : Cr → Cr
  | .c s m r => (match s with | true => .c false m r | false => .c true m r)
  | .no => .no
/-- Divided by a whole number above 0. -/
def cdiv : Cr → Nat → Cr
  | .c s m r, n => crn s (Nat.div m n) (Nat.add (Nat.div r n) 2)
  | .no, _ => .no
theorem div_near (z : Nat) {n : Nat} (hn : 0 < n) : ((z / n : Nat) : Rat) * (n : Rat) ≤ (z : Rat) ∧ (z : Rat) ≤ ((z / n : Nat) : Rat) * (n : Rat) + (n : Rat) := by
  have h1 := Nat.div_add_mod z n
  have h2 := Nat.mod_lt z hn
  have e : n * (z / n) = z / n * n := Nat.mul_comm _ _
  have a1 : z / n * n ≤ z := by omega
  have a2 : z ≤ z / n * n + n := by omega
  exact ⟨by exact_mod_cast a1, by exact_mod_cast a2⟩
theorem te96 : ((79228162514264337593543950336 : Nat) : Rat) * ep = 1 := by
  have : ((79228162514264337593543950336 : Nat) : Rat) = tp 96 := (tp_nat 96).symm
  rw [this, Rat.mul_comm]; exact ep_tp
section
variable {x y : Nat} {a b : Cr}
theorem Cw.neg (hx : Cw x a) : Cw (fneg .f64 x) (cneg a) := by
  cases a with
  | no => exact hx.elim
  | c s m r =>
    obtain ⟨x0, x1, x2⟩ := hx
    obtain ⟨n0, n1⟩ := fneg_val x0
    cases s <;> (refine ⟨n0, ?_, ?_⟩ <;> rw [n1] <;> simp only [sg] at x1 x2 ⊢ <;> grind)
theorem Cw.mul (hx : Cw x a) (hy : Cw y b) (h : cmul a b ≠ .no) : Cw (fop .mul .f64 x y) (cmul a b) := by
  cases a with
  | no => exact hx.elim
  | c s1 m1 r1 =>
    cases b with
    | no => exact hy.elim
    | c s2 m2 r2 =>
      obtain ⟨x0, x1, x2⟩ := hx
      obtain ⟨y0, y1, y2⟩ := hy
      have e0 := ep_pos
      have ee := Rat.mul_pos e0 e0
      have hc : (0 : Nat) < 79228162514264337593543950336 := by decide
      have d1 := div_near (m1 * m2) hc
      have d2 := div_near (m1 * r2 + r1 * m2 + r1 * r2) hc
      have T := te96
      have n1 : (0 : Rat) ≤ m1 := by exact_mod_cast Nat.zero_le m1
      have n2 : (0 : Rat) ≤ m2 := by exact_mod_cast Nat.zero_le m2
      have n3 : (0 : Rat) ≤ r1 := by exact_mod_cast Nat.zero_le r1
      have n4 : (0 : Rat) ≤ r2 := by exact_mod_cast Nat.zero_le r2
      show Cw _ (crn (xr s1 s2) (m1 * m2 / 79228162514264337593543950336) ((m1 * r2 + r1 * m2 + r1 * r2) / 79228162514264337593543950336 + 2))
      have k1 : (((m1 * m2 : Nat)) : Rat) = (m1 : Rat) * m2 := Rat.natCast_mul _ _
      have k2 : ((m1 * r2 + r1 * m2 + r1 * r2 : Nat) : Rat) = (m1 : Rat) * r2 + r1 * m2 + r1 * r2 := by rw [Rat.natCast_add, Rat.natCast_add, Rat.natCast_mul, Rat.natCast_mul, Rat.natCast_mul]
      rw [k1] at d1
      rw [k2] at d2
      have k3 : (((m1 * r2 + r1 * m2 + r1 * r2) / 79228162514264337593543950336 + 2 : Nat) : Rat) = (((m1 * r2 + r1 * m2 + r1 * r2) / 79228162514264337593543950336 : Nat) : Rat) + 2 := Rat.natCast_add _ _
      -- the product's distance
      have dist : fv .f64 x * fv .f64 y - sg (xr s1 s2) * ((m1 : Rat) * m2 * (ep * ep)) ≤ ((m1 : Rat) * r2 + r1 * m2 + r1 * r2) * (ep * ep) ∧ sg (xr s1 s2) * ((m1 : Rat) * m2 * (ep * ep)) - fv .f64 x * fv .f64 y ≤ ((m1 : Rat) * r2 + r1 * m2 + r1 * r2) * (ep * ep) := by
        rw [sg_xr]
        have q1 := mul_bd (a := (r1 : Rat) * ep) (b := (r2 : Rat) * ep) (x := fv .f64 x - sg s1 * ((m1 : Rat) * ep)) (y := fv .f64 y - sg s2 * ((m2 : Rat) * ep)) (by grind) (by grind) (by grind) (by grind)
        have p1 := Rat.mul_nonneg n1 (Rat.le_of_lt e0)
        have p2 := Rat.mul_nonneg n2 (Rat.le_of_lt e0)
        have q2 := mul_bd (a := (m1 : Rat) * ep) (b := (r2 : Rat) * ep) (x := sg s1 * ((m1 : Rat) * ep)) (y := fv .f64 y - sg s2 * ((m2 : Rat) * ep)) (by cases s1 <;> simp only [sg] <;> grind) (by cases s1 <;> simp only [sg] <;> grind) (by grind) (by grind)
        have q3 := mul_bd (a := (r1 : Rat) * ep) (b := (m2 : Rat) * ep) (x := fv .f64 x - sg s1 * ((m1 : Rat) * ep)) (y := sg s2 * ((m2 : Rat) * ep)) (by grind) (by grind) (by cases s2 <;> simp only [sg] <;> grind) (by cases s2 <;> simp only [sg] <;> grind)
        have hXY : sg s1 * sg s2 * ((m1 : Rat) * m2 * (ep * ep)) = (sg s1 * ((m1 : Rat) * ep)) * (sg s2 * ((m2 : Rat) * ep)) := by grind
        rw [hXY]
        have hR : ((m1 : Rat) * r2 + r1 * m2 + r1 * r2) * (ep * ep) = (r1 : Rat) * ep * ((r2 : Rat) * ep) + (m1 : Rat) * ep * ((r2 : Rat) * ep) + (r1 : Rat) * ep * ((m2 : Rat) * ep) := by grind
        rw [hR]
        generalize sg s1 * ((m1 : Rat) * ep) = X at *
        generalize sg s2 * ((m2 : Rat) * ep) = Y at *
        generalize (r1 : Rat) * ep * ((r2 : Rat) * ep) = A at *
        generalize (m1 : Rat) * ep * ((r2 : Rat) * ep) = B at *
        generalize (r1 : Rat) * ep * ((m2 : Rat) * ep) = C at *
        constructor <;> grind
      refine Cw.op rfl x0 y0 (by simp) h ?_ ?_
      all_goals
        simp only [ex]
        rw [k3]
        generalize ((m1 * m2 / 79228162514264337593543950336 : Nat) : Rat) = M at *
        generalize (((m1 * r2 + r1 * m2 + r1 * r2) / 79228162514264337593543950336 : Nat) : Rat) = R at *
        generalize (m1 : Rat) * m2 = P at *
        generalize (m1 : Rat) * r2 + r1 * m2 + r1 * r2 = Q at *
        generalize ((79228162514264337593543950336 : Nat) : Rat) = C at *
        have z1 := Rat.mul_le_mul_of_nonneg_right d1.1 (Rat.le_of_lt ee)
        have z2 := Rat.mul_le_mul_of_nonneg_right d1.2 (Rat.le_of_lt ee)
        have z3 := Rat.mul_le_mul_of_nonneg_right d2.2 (Rat.le_of_lt ee)
        have z4 : M * C * (ep * ep) = M * ep := by have : M * C * (ep * ep) = M * ep * (C * ep) := by grind
                                                   rw [this, T]; grind
        have z5 : R * C * (ep * ep) = R * ep := by have : R * C * (ep * ep) = R * ep * (C * ep) := by grind
                                                   rw [this, T]; grind
        have z6 : C * (ep * ep) = ep := by have : C * (ep * ep) = (C * ep) * ep := by grind
                                           rw [this, T]; grind
        have z7 : (M * C + C) * (ep * ep) = M * ep + ep := by grind
        have z8 : (R * C + C) * (ep * ep) = R * ep + ep := by grind
        rw [z4] at z1
        rw [z7] at z2
        rw [z8] at z3
        generalize P * (ep * ep) = PP at *
        generalize Q * (ep * ep) = QQ at *
        generalize fv .f64 x * fv .f64 y = XY at *
        obtain ⟨dist1, dist2⟩ := dist
        clear h x1 x2 y1 y2 k1 k2 k3 d1 d2 z4 z5 z6 z7 z8 T n1 n2 n3 n4
        generalize xr s1 s2 = sx at *
        have e3 : (R + 2) * ep = R * ep + 2 * ep := by grind
        rw [e3]
        cases sx <;> simp only [sg, if_true, Bool.false_eq_true, if_false] at dist1 dist2 ⊢ <;> grind
theorem Cw.add (hx : Cw x a) (hy : Cw y b) (h : cadd a b ≠ .no) : Cw (fop .add .f64 x y) (cadd a b) := by
  cases a with
  | no => exact hx.elim
  | c s1 m1 r1 =>
    cases b with
    | no => exact hy.elim
    | c s2 m2 r2 =>
      obtain ⟨x0, x1, x2⟩ := hx
      obtain ⟨y0, y1, y2⟩ := hy
      have kr : ((r1 + r2 : Nat) : Rat) = (r1 : Rat) + r2 := Rat.natCast_add _ _
      have ka : ((m1 + m2 : Nat) : Rat) = (m1 : Rat) + m2 := Rat.natCast_add _ _
      have ks1 : m2 ≤ m1 → ((m1 - m2 : Nat) : Rat) = (m1 : Rat) - m2 := fun h => by
        have : ((m1 - m2 : Nat) : Rat) + (m2 : Rat) = (m1 : Rat) := by rw [← Rat.natCast_add, Nat.sub_add_cancel h]
        grind
      have ks2 : m1 ≤ m2 → ((m2 - m1 : Nat) : Rat) = (m2 : Rat) - m1 := fun h => by
        have : ((m2 - m1 : Nat) : Rat) + (m1 : Rat) = (m2 : Rat) := by rw [← Rat.natCast_add, Nat.sub_add_cancel h]
        grind
      have key : ∀ {s : Bool} {m : Nat}, sg s * ((m : Rat) * ep) = sg s1 * ((m1 : Rat) * ep) + sg s2 * ((m2 : Rat) * ep) → crn s m (r1 + r2) ≠ .no → Cw (fop .add .f64 x y) (crn s m (r1 + r2)) := fun {s m} e hh => by
        refine Cw.op rfl x0 y0 (by simp) hh ?_ ?_
        · simp only [ex]; rw [e, kr]; grind
        · simp only [ex]; rw [e, kr]; grind
      have eq : cadd (.c s1 m1 r1) (.c s2 m2 r2) = (match xr s1 s2 with
        | false => crn s1 (m1 + m2) (r1 + r2)
        | true => (match Nat.ble m2 m1 with
          | true => crn s1 (m1 - m2) (r1 + r2)
          | false => crn s2 (m2 - m1) (r1 + r2))) := rfl
      rw [eq] at h ⊢
      clear eq
      cases hs : xr s1 s2 with
      | false =>
        have e12 : s2 = s1 := by cases s1 <;> cases s2 <;> simp [xr] at hs <;> rfl
        rw [hs] at h
        subst e12
        show Cw _ (crn s2 (m1 + m2) (r1 + r2))
        exact key (by show sg s2 * (((m1 + m2 : Nat) : Rat) * ep) = _; rw [ka]; grind) h
      | true =>
        rw [hs] at h
        have e12 : sg s2 = -sg s1 := by cases s1 <;> cases s2 <;> simp [xr] at hs <;> simp only [sg] <;> grind
        cases hb : Nat.ble m2 m1 with
        | true =>
          have hle := Nat.le_of_ble_eq_true hb
          simp only [hb] at h ⊢
          exact key (by show sg s1 * (((m1 - m2 : Nat) : Rat) * ep) = _; rw [ks1 hle, e12]; grind) h
        | false =>
          have hle : m1 ≤ m2 := by
            by_cases h9 : m2 ≤ m1
            · rw [Nat.ble_eq_true_of_le h9] at hb; cases hb
            · omega
          simp only [hb] at h ⊢
          exact key (by show sg s2 * (((m2 - m1 : Nat) : Rat) * ep) = _; rw [ks2 hle, e12]; grind) h
theorem Cw.div (hx : Cw x a) {n : Nat} (hy : fnt .f64 y = true ∧ fv .f64 y = n) (hn : 0 < n) (h : cdiv a n ≠ .no) : Cw (fop .quo .f64 x y) (cdiv a n) := by
  cases a with
  | no => exact hx.elim
  | c s m r =>
    obtain ⟨x0, x1, x2⟩ := hx
    have e0 := ep_pos
    have np : (0 : Rat) < (n : Rat) := by exact_mod_cast hn
    have d1 := div_near m hn
    have d2 := div_near r hn
    have k3 : ((r / n + 2 : Nat) : Rat) = ((r / n : Nat) : Rat) + 2 := Rat.natCast_add _ _
    have hm : fv .f64 x / (n : Rat) * (n : Rat) = fv .f64 x := Rat.div_mul_cancel (by grind)
    have z1 := Rat.mul_le_mul_of_nonneg_right d1.1 (Rat.le_of_lt e0)
    have z2 := Rat.mul_le_mul_of_nonneg_right d1.2 (Rat.le_of_lt e0)
    have z3 := Rat.mul_le_mul_of_nonneg_right d2.2 (Rat.le_of_lt e0)
    show Cw _ (crn s (m / n) (r / n + 2))
    refine Cw.op rfl x0 hy.1 (fun _ => by rw [hy.2]; grind) h ?_ ?_
    · simp only [ex]; rw [hy.2, k3]
      refine mul_cancel_le np ?_
      generalize ((m / n : Nat) : Rat) = M at *
      generalize ((r / n : Nat) : Rat) = R at *
      generalize fv .f64 x / (n : Rat) = V at *
      cases s <;> simp only [sg] at x1 x2 ⊢ <;> grind
    · simp only [ex]; rw [hy.2, k3]
      refine mul_cancel_le np ?_
      generalize ((m / n : Nat) : Rat) = M at *
      generalize ((r / n : Nat) : Rat) = R at *
      generalize fv .f64 x / (n : Rat) = V at *
      cases s <;> simp only [sg] at x1 x2 ⊢ <;> grind
end
end Go.Proofs.Ytjeeflldbhajiaa
set_option linter.unusedSimpArgs false
set_option linter.unusedVariables false
set_option linter.unusedSectionVars false
namespace Go.Proofs.Ytjeeflldbhajiaa
open Go Go.RowKit
theorem fI_at {z : Int} (n : Nat) (hz : z = n) (h : n < 9000) : fnt .f64 (fI z) = true ∧ fv .f64 (fI z) = n := by
  subst hz
  exact (fI_val n h).2
theorem at_one : fnt .f64 (cn .f64 4607182418800017408) = true ∧ fv .f64 (cn .f64 4607182418800017408) = (1 : Nat) := by rw [← fI_one]; exact fI_at 1 rfl (by decide)
theorem at_zero : fnt .f64 (cn .f64 0) = true ∧ fv .f64 (cn .f64 0) = (0 : Nat) := by
  have e : cn .f64 0 = fI 0 := by decide +kernel
  rw [e]; exact fI_at 0 rfl (by decide)
theorem at_two : fnt .f64 (cn .f64 4611686018427387904) = true ∧ fv .f64 (cn .f64 4611686018427387904) = (2 : Nat) := two_val
theorem at_three : fnt .f64 (cn .f64 4613937818241073152) = true ∧ fv .f64 (cn .f64 4613937818241073152) = (3 : Nat) := by
  have e : cn .f64 4613937818241073152 = fI 3 := by decide +kernel
  rw [e]; exact fI_at 3 rfl (by decide)
theorem at_256 : fnt .f64 (cn .f64 4643211215818981376) = true ∧ fv .f64 (cn .f64 4643211215818981376) = (256 : Nat) := by
  have e : cn .f64 4643211215818981376 = fI 256 := by decide +kernel
  rw [e]; exact fI_at 256 rfl (by decide)
/-! ### The exponential function -/
/-! ### The error function -/
/-! ### Fronts -/
end Go.Proofs.Ytjeeflldbhajiaa
set_option linter.unusedSimpArgs false
set_option linter.unusedVariables false
set_option linter.unusedSectionVars false
namespace Go.Proofs.Ytjeeflldbhajiaa
open Go Go.RowKit
def fC (v : Cr) (f : Cr → Cr) : Cr := match v with
  | .no => .no
  | .c s m r => f (.c s m r)
theorem fC_ok {v : Cr} {f : Cr → Cr} (h : fC v f ≠ .no) : v ≠ .no ∧ fC v f = f v := by
  cases v with
  | no => exact absurd rfl h
  | c s m r => exact ⟨by simp, rfl⟩
def cnat (n : Nat) : Cr := frc (Nat.mul n 79228162514264337593543950336) fun m => .c false m 0
theorem cw_at {x m : Nat} (h : fnt .f64 x = true) (hv : fv .f64 x = (m : Rat) * ep) : Cw x (.c false m 0) := by
  have z : ((0 : Nat) : Rat) = 0 := rfl
  refine ⟨h, ?_, ?_⟩ <;> rw [hv, z] <;> simp only [sg] <;> grind
theorem cw_nat {x n : Nat} (h : fnt .f64 x = true ∧ fv .f64 x = n) : Cw x (cnat n) := by
  unfold cnat
  rw [frc_eq]
  refine cw_at h.1 ?_
  rw [h.2]
  show (n : Rat) = ((n * 79228162514264337593543950336 : Nat) : Rat) * ep
  rw [Rat.natCast_mul]
  have := te96
  have e : (n : Rat) * ((79228162514264337593543950336 : Nat) : Rat) * ep = n * (((79228162514264337593543950336 : Nat) : Rat) * ep) := by grind
  rw [e, this]; grind
def ccE : Cr := .c false 89399408028353503383410180096 0
def ccS : Cr := .c false 140428261748575882129522556928 0
theorem cw_lit {x m u : Nat} (h : fnt .f64 x = true) (hu : u ≤ 96) (hv : fv .f64 x * ((2 ^ u : Nat) : Rat) = m) : fv .f64 x = ((m * 2 ^ (96 - u) : Nat) : Rat) * ep := by
  rw [Rat.natCast_mul, ← hv]
  have e1 : ((2 ^ u : Nat) : Rat) * ((2 ^ (96 - u) : Nat) : Rat) = tp 96 := by
    rw [← Rat.natCast_mul, ← Nat.pow_add, show u + (96 - u) = 96 by omega, tp96]
  have e2 : fv .f64 x * ((2 ^ u : Nat) : Rat) * ((2 ^ (96 - u) : Nat) : Rat) * ep = fv .f64 x * (((2 ^ u : Nat) : Rat) * ((2 ^ (96 - u) : Nat) : Rat) * ep) := by grind
  have e3 : tp 96 * ep = 1 := by rw [Rat.mul_comm]; exact ep_tp
  rw [e2, e1, e3]; grind
theorem cw_cE : Cw (cn .f64 4607760587169110893) ccE := cw_at (by decide +kernel) ((cw_lit (x := cn .f64 4607760587169110893) (m := 5081767996463981) (u := 52) (by decide +kernel) (by decide) (by decide +kernel)).trans (by rw [show 5081767996463981 * 2 ^ (96 - 52) = 89399408028353503383410180096 by decide +kernel]))
theorem cw_cS : Cw (cn .f64 4610661241675116395) ccS := cw_at (by decide +kernel) ((cw_lit (x := cn .f64 4610661241675116395) (m := 7982422502469483) (u := 52) (by decide +kernel) (by decide) (by decide +kernel)).trans (by rw [show 7982422502469483 * 2 ^ (96 - 52) = 140428261748575882129522556928 by decide +kernel]))
/-! ### The exponential function -/
def cexL (t : Cr) : Nat → Nat → Cr → Cr
  | 0, _, p => p
  | j + 1, k, p => fC (cmul t p) fun a => fC (cdiv a (Nat.sub 12 k)) fun b => fC (cadd (cnat 1) b) fun p' => frc (Nat.add k 1) fun k' => cexL t j k' p'
theorem cexL_ok {tw : Nat} {t : Cr} (ht : Cw tw t) {N : Nat} (hN : N ≤ 12) (j : Nat) : ∀ (k : Nat) (p : Cr), Cw (exP tw k) p → k + j = N → cexL t j k p ≠ .no → Cw (exP tw N) (cexL t j k p) := by
  induction j with
  | zero =>
    intro k p hp hk h
    rw [Nat.add_zero] at hk
    subst hk; exact hp
  | succ j ih =>
    intro k p hp hk h
    have e : cexL t (j + 1) k p = fC (cmul t p) fun a => fC (cdiv a (Nat.sub 12 k)) fun b => fC (cadd (cnat 1) b) fun p' => frc (Nat.add k 1) fun k' => cexL t j k' p' := rfl
    rw [e] at h ⊢
    obtain ⟨h1, e1⟩ := fC_ok h
    rw [e1] at h ⊢
    obtain ⟨h2, e2⟩ := fC_ok h
    rw [e2] at h ⊢
    obtain ⟨h3, e3⟩ := fC_ok h
    rw [e3, frc_eq] at h ⊢
    have hI := fI_at (z := 12 - (k : Int)) (Nat.sub 12 k) (by show _ = ((12 - k : Nat) : Int); omega) (by show 12 - k < _; omega)
    exact ih (k + 1) _ (Cw.add (cw_nat at_one) (Cw.div (Cw.mul ht hp h1) hI (by show 0 < 12 - k; omega) h2) h3) (by omega) h
def cexS : Nat → Cr → Cr
  | 0, p => p
  | j + 1, p => fC (cmul p p) fun p' => cexS j p'
theorem cexS_ok {pw : Nat} {N : Nat} (j : Nat) : ∀ (k : Nat) (p : Cr), Cw (exQ pw k) p → k + j = N → cexS j p ≠ .no → Cw (exQ pw N) (cexS j p) := by
  induction j with
  | zero =>
    intro k p hp hk h
    rw [Nat.add_zero] at hk
    subst hk; exact hp
  | succ j ih =>
    intro k p hp hk h
    have e : cexS (j + 1) p = fC (cmul p p) fun p' => cexS j p' := rfl
    rw [e] at h ⊢
    obtain ⟨h1, e1⟩ := fC_ok h
    rw [e1] at h ⊢
    exact ih (k + 1) _ (Cw.mul hp hp h1) (by omega) h
def cex (y : Cr) : Cr := fC (cdiv y 256) fun t => fC (cexL t 12 0 (cnat 1)) fun p => cexS 8 p
theorem cex_ok {yw : Nat} {y : Cr} (hy : Cw yw y) (h : cex y ≠ .no) : Cw (exV yw) (cex y) := by
  unfold cex at h ⊢
  obtain ⟨h1, e1⟩ := fC_ok h
  rw [e1] at h ⊢
  obtain ⟨h2, e2⟩ := fC_ok h
  rw [e2] at h ⊢
  have q1 := Cw.div hy at_256 (by decide) h1
  have q2 := cexL_ok q1 (Nat.le_refl 12) 12 0 (cnat 1) (cw_nat at_one) (Nat.zero_add 12) h2
  exact cexS_ok 8 0 _ q2 (Nat.zero_add 8) h
/-! ### The error function -/
def cert (u : Cr) (k : Nat) (t : Cr) : Cr := fC (cmul t u) fun a => fC (cmul a (cnat (Nat.add (Nat.mul 2 k) 1))) fun b => cdiv b (Nat.mul (Nat.add k 1) (Nat.add (Nat.mul 2 k) 3))
theorem fI_i2 (k : Nat) (hk : k < 60) : fnt .f64 (fI (((k : Int) + 1) * (2 * (k : Int) + 3))) = true ∧ fv .f64 (fI (((k : Int) + 1) * (2 * (k : Int) + 3))) = (((k + 1) * (2 * k + 3) : Nat) : Rat) := by
  have hb1 : (k + 1) * (2 * k + 3) ≤ 60 * 121 := Nat.mul_le_mul (by omega) (by omega)
  exact fI_at (z := ((k : Int) + 1) * (2 * (k : Int) + 3)) ((k + 1) * (2 * k + 3)) (by rw [Int.natCast_mul, Int.natCast_add, Int.natCast_add, Int.natCast_mul]; rfl) (by omega)
theorem fI_i1 (k : Nat) (hk : k < 60) : fnt .f64 (fI (2 * (k : Int) + 1)) = true ∧ fv .f64 (fI (2 * (k : Int) + 1)) = ((2 * k + 1 : Nat) : Rat) := fI_at (z := 2 * (k : Int) + 1) (2 * k + 1) (by omega) (by omega)
theorem cert_ok {x : Nat} {u : Cr} (hu : Cw (fneg .f64 (fop .mul .f64 x x)) u) {k : Nat} (hk : k < 60) {t : Cr} (ht : Cw (erT x k) t) (h : cert u k t ≠ .no) : Cw (erT x (k + 1)) (cert u k t) := by
  unfold cert at h ⊢
  obtain ⟨h1, e1⟩ := fC_ok h
  rw [e1] at h ⊢
  obtain ⟨h2, e2⟩ := fC_ok h
  rw [e2] at h ⊢
  exact Cw.div (Cw.mul (Cw.mul ht hu h1) (cw_nat (fI_i1 k hk)) h2) (fI_i2 k hk) (Nat.mul_pos (by show 0 < k + 1; omega) (by show 0 < 2 * k + 3; omega)) h
/-- Nothing but a little is added. -/
def cerX : Nat → Cr → Cr
  | 0, s => s
  | j + 1, s => fC (cadd s (.c false 0 1099511627776)) fun s' => cerX j s'
def csml (u : Cr) (k : Nat) (t : Cr) : Bool := match u, t with
  | .c _ m1 r1, .c _ m2 r2 => (match Nat.ble (Nat.add m1 r1) (Nat.mul (Nat.add k 1) 79228162514264337593543950336) with
    | true => Nat.ble (Nat.add m2 r2) 1099511627776
    | false => false)
  | _, _ => false
def cerL (u : Cr) : Nat → Nat → Cr → Cr → Cr
  | 0, _, _, s => s
  | j + 1, k, t, s => match csml u k t with
    | true => cerX (j + 1) s
    | false => fC (cadd s t) fun s' => fC (cert u k t) fun t' => frc (Nat.add k 1) fun k' => cerL u j k' t' s'
theorem cw_abs {x : Nat} {s : Bool} {m r : Nat} (h : Cw x (.c s m r)) {M : Nat} (hM : m + r ≤ M) : fnt .f64 x = true ∧ -((M : Rat) * ep) ≤ fv .f64 x ∧ fv .f64 x ≤ (M : Rat) * ep := by
  obtain ⟨x0, x1, x2⟩ := h
  have e0 := ep_pos
  have c1 : ((m + r : Nat) : Rat) ≤ (M : Rat) := by exact_mod_cast hM
  rw [Rat.natCast_add] at c1
  have c2 := Rat.mul_le_mul_of_nonneg_right c1 (Rat.le_of_lt e0)
  have mp : 0 ≤ (m : Rat) * ep := Rat.mul_nonneg (by exact_mod_cast Nat.zero_le m) (Rat.le_of_lt e0)
  refine ⟨x0, ?_, ?_⟩ <;> cases s <;> simp only [sg] at x1 x2 <;> grind
theorem sml_step {x : Nat} {k i : Nat} (hi : k ≤ i) (hi6 : i < 60) (hu : Bnd .f64 (fneg .f64 (fop .mul .f64 x x)) ((k + 1 : Nat) : Rat)) (ht : Bnd .f64 (erT x i) (tp (-56))) : Bnd .f64 (erT x (i + 1)) (tp (-56)) := by
  have t0 := tp_pos (-56)
  have r1 : Rep .f64 (((k + 1 : Nat) : Int) * tp (-56)) := Rep.mul_tp _ _ (by show ((k + 1 : Nat) : Int).natAbs < 2 ^ 53; omega) (by decide) (by decide)
  have r2 : Rep .f64 ((((k + 1) * (2 * i + 1) : Nat) : Int) * tp (-56)) := by
    have hb : (k + 1) * (2 * i + 1) ≤ 60 * 121 := Nat.mul_le_mul (by omega) (by omega)
    exact Rep.mul_tp _ _ (by show (((k + 1) * (2 * i + 1) : Nat) : Int).natAbs < 2 ^ 53; omega) (by decide) (by decide)
  have r3 : Rep .f64 (tp (-56)) := Rep.tp _ (by decide) (by decide)
  rw [Rat.intCast_natCast] at r1 r2
  have a1 := Bnd.mul ht hu r1 (by grind)
  have i1 := fI_i1 i hi6
  have b1 : Bnd .f64 (fI (2 * (i : Int) + 1)) ((2 * i + 1 : Nat) : Rat) := ⟨i1.1, by rw [i1.2]; have : (0 : Rat) ≤ ((2 * i + 1 : Nat) : Rat) := (by exact_mod_cast Nat.zero_le _); grind, by rw [i1.2]; exact Rat.le_refl⟩
  have a2 := Bnd.mul a1 b1 r2 (by rw [Rat.natCast_mul]; grind)
  have i2 := fI_i2 i hi6
  have hpos : 0 < (i + 1) * (2 * i + 3) := Nat.mul_pos (by omega) (by omega)
  exact Bnd.div (d := (((i + 1) * (2 * i + 3) : Nat) : Rat)) a2 i2.1 (by exact_mod_cast hpos) (by rw [i2.2]; exact Rat.le_refl) r3 (by
    have hle : (k + 1) * (2 * i + 1) ≤ (i + 1) * (2 * i + 3) := Nat.mul_le_mul (by omega) (by omega)
    have : (((k + 1) * (2 * i + 1) : Nat) : Rat) ≤ (((i + 1) * (2 * i + 3) : Nat) : Rat) := by exact_mod_cast hle
    have := Rat.mul_le_mul_of_nonneg_right this (Rat.le_of_lt t0)
    grind)
theorem cw_sml {x : Nat} (h : Bnd .f64 x (tp (-56))) : Cw x (.c false 0 1099511627776) := by
  have e : ((1099511627776 : Nat) : Rat) * ep = tp (-56) := by
    have : ((1099511627776 : Nat) : Rat) = tp (40 : Nat) := (tp_nat 40).symm
    rw [this]; unfold ep; rw [← tp_add]; rfl
  have z : ((0 : Nat) : Rat) = 0 := rfl
  refine ⟨h.1, ?_, ?_⟩ <;> rw [e, z] <;> simp only [sg] <;> have h1 := h.2.1 <;> have h2 := h.2.2 <;> grind
theorem cerX_ok {x k : Nat} (hu : Bnd .f64 (fneg .f64 (fop .mul .f64 x x)) ((k + 1 : Nat) : Rat)) {N : Nat} (hN : N ≤ 60) (j : Nat) : ∀ (i : Nat) (s : Cr), k ≤ i → Bnd .f64 (erT x i) (tp (-56)) → Cw (erS x i) s → i + j = N → cerX j s ≠ .no → Cw (erS x N) (cerX j s) := by
  induction j with
  | zero =>
    intro i s hi ht hs hk h
    rw [Nat.add_zero] at hk
    subst hk; exact hs
  | succ j ih =>
    intro i s hi ht hs hk h
    have e : cerX (j + 1) s = fC (cadd s (.c false 0 1099511627776)) fun s' => cerX j s' := rfl
    rw [e] at h ⊢
    obtain ⟨h1, e1⟩ := fC_ok h
    rw [e1] at h ⊢
    exact ih (i + 1) _ (by omega) (sml_step hi (by omega) hu ht) (Cw.add hs (cw_sml ht) h1) (by omega) h
theorem cerL_ok {x : Nat} {u : Cr} (hu : Cw (fneg .f64 (fop .mul .f64 x x)) u) {N : Nat} (hN : N ≤ 60) (j : Nat) : ∀ (k : Nat) (t s : Cr), Cw (erT x k) t → Cw (erS x k) s → k + j = N → cerL u j k t s ≠ .no → Cw (erS x N) (cerL u j k t s) := by
  induction j with
  | zero =>
    intro k t s ht hs hk h
    rw [Nat.add_zero] at hk
    subst hk; exact hs
  | succ j ih =>
    intro k t s ht hs hk h
    have e : cerL u (j + 1) k t s = (match csml u k t with
      | true => cerX (j + 1) s
      | false => fC (cadd s t) fun s' => fC (cert u k t) fun t' => frc (Nat.add k 1) fun k' => cerL u j k' t' s') := rfl
    rw [e] at h ⊢
    cases hc : csml u k t with
    | true =>
      rw [hc] at h
      simp only at h ⊢
      cases u with
      | no => exact hu.elim
      | c su mu ru =>
        cases t with
        | no => exact ht.elim
        | c st mt rt =>
          have hc' : (match Nat.ble (mu + ru) ((k + 1) * 79228162514264337593543950336) with
            | true => Nat.ble (mt + rt) 1099511627776
            | false => false) = true := hc
          cases hb : Nat.ble (mu + ru) ((k + 1) * 79228162514264337593543950336) with
          | false => rw [hb] at hc'; cases hc'
          | true =>
            rw [hb] at hc'
            have g1 := Nat.le_of_ble_eq_true hb
            have g2 := Nat.le_of_ble_eq_true hc'
            have v1 := cw_abs hu g1
            have v2 := cw_abs ht g2
            have eu : (((k + 1) * 79228162514264337593543950336 : Nat) : Rat) * ep = ((k + 1 : Nat) : Rat) := by
              rw [Rat.natCast_mul]
              have := te96
              have e : ((k + 1 : Nat) : Rat) * ((79228162514264337593543950336 : Nat) : Rat) * ep = ((k + 1 : Nat) : Rat) * (((79228162514264337593543950336 : Nat) : Rat) * ep) := by grind
              rw [e, this]; grind
            have et : ((1099511627776 : Nat) : Rat) * ep = tp (-56) := by
              have : ((1099511627776 : Nat) : Rat) = tp (40 : Nat) := (tp_nat 40).symm
              rw [this]; unfold ep; rw [← tp_add]; rfl
            rw [eu] at v1
            rw [et] at v2
            exact cerX_ok v1 hN (j + 1) k s (Nat.le_refl k) v2 hs hk h
    | false =>
      rw [hc] at h
      simp only at h ⊢
      obtain ⟨h1, e1⟩ := fC_ok h
      rw [e1] at h ⊢
      obtain ⟨h2, e2⟩ := fC_ok h
      rw [e2, frc_eq] at h ⊢
      exact ih (k + 1) _ _ (cert_ok hu (by omega) ht h2) (Cw.add hs ht h1) (by omega) h
/-- Bounds of a number that is not below 0: no less, no more. -/
def clow : Cr → Nat
  | .c false m r => Nat.sub m r
  | _ => 0
def chig : Cr → Nat
  | .c false m r => Nat.add m r
  | .c true _ r => r
  | .no => 0
theorem clow_ok {x : Nat} {a : Cr} (h : Cw x a) (hp : 0 ≤ fv .f64 x) : ((clow a : Nat) : Rat) * ep ≤ fv .f64 x := by
  have e0 := ep_pos
  have z : ((0 : Nat) : Rat) = 0 := rfl
  cases a with
  | no => exact h.elim
  | c s m r =>
    cases s with
    | true => show ((0 : Nat) : Rat) * ep ≤ _; rw [z]; grind
    | false =>
      obtain ⟨_, x1, x2⟩ := h
      show ((m - r : Nat) : Rat) * ep ≤ _
      by_cases hr : r ≤ m
      · have : ((m - r : Nat) : Rat) + (r : Rat) = (m : Rat) := by rw [← Rat.natCast_add, Nat.sub_add_cancel hr]
        have e : ((m - r : Nat) : Rat) = (m : Rat) - r := by grind
        rw [e]; simp only [sg] at x1 x2; grind
      · rw [show m - r = 0 by omega, z]; grind
theorem chig_ok {x : Nat} {a : Cr} (h : Cw x a) : fv .f64 x ≤ ((chig a : Nat) : Rat) * ep := by
  have e0 := ep_pos
  cases a with
  | no => exact h.elim
  | c s m r =>
    obtain ⟨_, x1, x2⟩ := h
    have mp : 0 ≤ (m : Rat) * ep := Rat.mul_nonneg (by exact_mod_cast Nat.zero_le m) (Rat.le_of_lt e0)
    cases s with
    | true => show _ ≤ ((r : Nat) : Rat) * ep; simp only [sg] at x1 x2; grind
    | false =>
      show _ ≤ ((m + r : Nat) : Rat) * ep
      rw [Rat.natCast_add]; simp only [sg] at x1 x2; grind
theorem cw_fnt {x : Nat} {a : Cr} (h : Cw x a) : fnt .f64 x = true := by
  cases a with
  | no => exact h.elim
  | c s m r => exact h.1
def cmag : Cr → Nat
  | .c _ m r => Nat.add m r
  | .no => 0
def cer (x : Cr) : Cr := match Nat.ble (cmag x) 237684487542793012780631851008 with
  | true => fC (cmul x x) fun q => fC (cneg q) fun u => fC (cerL u 60 0 x (cnat 0)) fun r => cmul ccE r
  | false => .no
theorem cmag_ok {x : Nat} {a : Cr} (h : Cw x a) {M : Nat} (hM : cmag a ≤ M) : fnt .f64 x = true ∧ -((M : Rat) * ep) ≤ fv .f64 x ∧ fv .f64 x ≤ (M : Rat) * ep := by
  cases a with
  | no => exact h.elim
  | c s m r => exact cw_abs h hM
theorem e_three : ((237684487542793012780631851008 : Nat) : Rat) * ep = 3 := by
  have e : (237684487542793012780631851008 : Nat) = 3 * 79228162514264337593543950336 := by decide
  rw [e, Rat.natCast_mul]
  have := te96
  have e : ((3 : Nat) : Rat) * ((79228162514264337593543950336 : Nat) : Rat) * ep = ((3 : Nat) : Rat) * (((79228162514264337593543950336 : Nat) : Rat) * ep) := by grind
  rw [e, this]
  have : ((3 : Nat) : Rat) = 3 := rfl
  rw [this]; grind
theorem cer_ok {xw : Nat} {x : Cr} (hx : Cw xw x) (h : cer x ≠ .no) : Cw (erV xw) (cer x) := by
  unfold cer at h ⊢
  cases hb : Nat.ble (cmag x) 237684487542793012780631851008 with
  | false => rw [hb] at h; exact absurd rfl h
  | true =>
    rw [hb] at h
    simp only at h ⊢
    obtain ⟨h1, e1⟩ := fC_ok h
    rw [e1] at h ⊢
    obtain ⟨h2, e2⟩ := fC_ok h
    rw [e2] at h ⊢
    obtain ⟨h3, e3⟩ := fC_ok h
    rw [e3] at h ⊢
    have m1 := Cw.mul hx hx h1
    have m2 := cerL_ok (Cw.neg m1) (Nat.le_refl 60) 60 0 x (cnat 0) (show Cw (erT xw 0) x from hx) (show Cw (erS xw 0) (cnat 0) from cw_nat at_zero) (Nat.zero_add 60) h3
    obtain ⟨g0, g1, g2⟩ := cmag_ok hx (Nat.le_of_ble_eq_true hb)
    rw [e_three] at g1 g2
    have f1 : fge .f64 xw (cn .f64 4616189618054758400) = false := by rw [fgev g0 four_val.1, four_val.2]; exact decide_eq_false (by grind)
    have f2 : fle .f64 xw (cn .f64 13839561654909534208) = false := by rw [flev g0 mfour_val.1, mfour_val.2]; exact decide_eq_false (by grind)
    unfold erV
    rw [f1, f2, if_neg (by simp), if_neg (by simp)]
    exact Cw.mul cw_cE m2 h
/-! ### Fronts -/
def cstP (m : Cr) : Cr := fC (cmul m m) fun q => fC (cex q) fun e => fC (cer m) fun r => fC (cmul ccS m) fun a => fC (cmul a e) fun b => cmul b r
theorem cstP_ok {mw : Nat} {m : Cr} (hm : Cw mw m) (h : cstP m ≠ .no) : Cw (stP mw) (cstP m) := by
  unfold cstP at h ⊢
  obtain ⟨h1, e1⟩ := fC_ok h
  rw [e1] at h ⊢
  obtain ⟨h2, e2⟩ := fC_ok h
  rw [e2] at h ⊢
  obtain ⟨h3, e3⟩ := fC_ok h
  rw [e3] at h ⊢
  obtain ⟨h4, e4⟩ := fC_ok h
  rw [e4] at h ⊢
  obtain ⟨h5, e5⟩ := fC_ok h
  rw [e5] at h ⊢
  exact Cw.mul (Cw.mul (Cw.mul cw_cS hm h4) (cex_ok (Cw.mul hm hm h1) h2) h5) (cer_ok hm h3) h
def cmid (a b : Cr) : Cr := fC (cadd a b) fun c => cdiv c 2
theorem cmid_ok {aw bw : Nat} {a b : Cr} (ha : Cw aw a) (hb : Cw bw b) (h : cmid a b ≠ .no) : Cw (midW aw bw) (cmid a b) := by
  unfold cmid at h ⊢
  obtain ⟨h1, e1⟩ := fC_ok h
  rw [e1] at h ⊢
  exact Cw.div (Cw.add ha hb h1) at_two (by decide) h
theorem clow_pos {x : Nat} {a : Cr} (h : Cw x a) (hp : 0 < clow a) : ((clow a : Nat) : Rat) * ep ≤ fv .f64 x := by
  cases a with
  | no => exact h.elim
  | c s m r =>
    cases s with
    | true => exact absurd hp (by show ¬ 0 < 0; omega)
    | false =>
      obtain ⟨_, x1, x2⟩ := h
      have hr : r ≤ m := by have : 0 < m - r := hp; omega
      show ((m - r : Nat) : Rat) * ep ≤ _
      have : ((m - r : Nat) : Rat) + (r : Rat) = (m : Rat) := by rw [← Rat.natCast_add, Nat.sub_add_cancel hr]
      have e : ((m - r : Nat) : Rat) = (m : Rat) - r := by grind
      rw [e]; simp only [sg] at x1 x2; grind
/-- Is the product above the size: yes, no, not told. -/
def cabv (s p : Cr) : Option Bool := match Nat.blt (chig s) (clow p) with
  | true => some true
  | false => (match Nat.ble (chig p) (clow s) with
    | true => some false
    | false => none)
def cst (s : Cr) : Nat → Cr → Cr → Option (Cr × Cr)
  | 0, a, b => some (a, b)
  | k + 1, a, b => match cmid a b with
    | .no => none
    | .c sm mm rm => match cstP (.c sm mm rm) with
      | .no => none
      | .c sp mp rp => match cabv s (.c sp mp rp) with
        | none => none
        | some true => cst s k a (.c sm mm rm)
        | some false => cst s k (.c sm mm rm) b
theorem cst_ok {sw : Nat} {s : Cr} (hs : Cw sw s) (hp : 0 ≤ fv .f64 sw) {N : Nat} (k : Nat) : ∀ (i : Nat) (a b : Cr) (r : Cr × Cr), Cw (stLH sw i).1 a → Cw (stLH sw i).2 b → i + k = N → cst s k a b = some r → Cw (stLH sw N).1 r.1 ∧ Cw (stLH sw N).2 r.2 := by
  induction k with
  | zero =>
    intro i a b r ha hb hi h
    simp only [cst, Option.some.injEq] at h
    rw [Nat.add_zero] at hi
    subst h; subst hi; exact ⟨ha, hb⟩
  | succ k ih =>
    intro i a b r ha hb hi h
    unfold cst at h
    split at h
    · cases h
    · rename_i sm mm rm hm
      have vm := cmid_ok ha hb (by rw [hm]; simp)
      rw [hm] at vm
      split at h
      · cases h
      · rename_i sp mp rp hpp
        have vp := cstP_ok vm (by rw [hpp]; simp)
        rw [hpp] at vp
        have e : stLH sw (i + 1) = if stB sw (stLH sw i).1 (stLH sw i).2 then ((stLH sw i).1, midW (stLH sw i).1 (stLH sw i).2) else (midW (stLH sw i).1 (stLH sw i).2, (stLH sw i).2) := rfl
        have eb : stB sw (stLH sw i).1 (stLH sw i).2 = decide (fv .f64 sw < fv .f64 (stP (midW (stLH sw i).1 (stLH sw i).2))) := fgtv (cw_fnt vp) (cw_fnt hs)
        have e0 := ep_pos
        split at h
        · cases h
        · rename_i hl
          have g : Nat.blt (chig s) (clow (.c sp mp rp)) = true := by
            unfold cabv at hl
            cases hb2 : Nat.blt (chig s) (clow (.c sp mp rp)) with
            | true => rfl
            | false =>
              rw [hb2] at hl
              simp only at hl
              split at hl <;> cases hl
          have g2 : chig s < clow (.c sp mp rp) := Nat.le_of_ble_eq_true g
          have l1 := chig_ok hs
          have l2 := clow_pos vp (by omega)
          have g3 : ((chig s : Nat) : Rat) < ((clow (.c sp mp rp) : Nat) : Rat) := by exact_mod_cast g2
          have g4 := Rat.mul_lt_mul_of_pos_right g3 e0
          rw [decide_eq_true (by grind)] at eb
          rw [eb, if_pos rfl] at e
          exact ih (i + 1) a _ r (by rw [e]; exact ha) (by rw [e]; exact vm) (by omega) h
        · rename_i hl
          have g : Nat.ble (chig (.c sp mp rp)) (clow s) = true := by
            unfold cabv at hl
            split at hl
            · cases hl
            · split at hl
              · assumption
              · cases hl
          have g2 := Nat.le_of_ble_eq_true g
          have l1 := clow_ok hs hp
          have l2 := chig_ok vp
          have g3 : ((chig (.c sp mp rp) : Nat) : Rat) ≤ ((clow s : Nat) : Rat) := by exact_mod_cast g2
          have g4 := Rat.mul_le_mul_of_nonneg_right g3 (Rat.le_of_lt e0)
          rw [decide_eq_false (by grind)] at eb
          rw [eb, if_neg (by simp)] at e
          exact ih (i + 1) _ b r (by rw [e]; exact vm) (by rw [e]; exact hb) (by omega) h
theorem cst_all {sw : Nat} {s : Cr} (hs : Cw sw s) (hp : 0 ≤ fv .f64 sw) {k : Nat} {r : Cr × Cr} (h : cst s k (cnat 0) (cnat 3) = some r) : Cw (stLH sw k).1 r.1 ∧ Cw (stLH sw k).2 r.2 :=
  cst_ok hs hp k 0 (cnat 0) (cnat 3) r (show Cw (stLH sw 0).1 (cnat 0) from cw_nat at_zero) (show Cw (stLH sw 0).2 (cnat 3) from cw_nat at_three) (Nat.zero_add k) h
end Go.Proofs.Ytjeeflldbhajiaa
set_option linter.unusedSimpArgs false
set_option linter.unusedVariables false
set_option linter.unusedSectionVars false
namespace Go.Proofs.Ytjeeflldbhajiaa
open Go Go.RowKit
theorem FS.later {w w' : World} {v : Value} {xs : List Nat} (h : FS w v xs) (hb : Below w.heap.size w w') : FS w' v xs := by
  obtain ⟨p, c, rfl, h1, h2, h3⟩ := h
  refine ⟨p, c, rfl, h1, h2, fun i hi => ?_⟩
  obtain ⟨b, o, rfl, hc⟩ := h3 i hi
  exact ⟨b, o, rfl, cell_later hb hc⟩
theorem FS.drew {w : World} {v : Value} {xs : List Nat} (h : FS w v xs) (n : Nat) : FS (w.drewN n) v xs := h
end Go.Proofs.Ytjeeflldbhajiaa
set_option linter.unusedSimpArgs false
set_option linter.unusedVariables false
set_option linter.unusedSectionVars false
namespace Go.Proofs.Ytjeeflldbhajiaa
open Go Go.RowKit
set_option maxRecDepth 100000 in
theorem Try.infoF32 : (Try.prog.info? 22).map (fun i => (i.zero, i.size, i.bytes)) = some (some (.float .f32 0), 1, 4) := by kernel_rfl
/-- A slice of numbers that the call itself has made, from block number B on. -/
def OF (B : Nat) (w : World) (u : Value) (xs : List Nat) : Prop := w.ownsRow B 22 1 u xs.length (xs.map (Value.float .f32))
theorem OF.block {B : Nat} {w : World} {u : Value} {xs : List Nat} (h : OF B w u xs) : ∀ k, u.ownBlock = some k → B ≤ k ∧ k < w.heap.size := World.ownsRow.lt h
theorem OF.kept {B : Nat} {w w' : World} {u : Value} {xs : List Nat} {row : Option Nat} (h : OF B w u xs) (hg : w.grownBy w' row) (hne : u.ownBlock = none ∨ u.ownBlock ≠ row) : OF B w' u xs := World.ownsRow.kept h hg hne
theorem below_grown {w w' : World} (h : Below w.heap.size w w') (row : Option Nat) : w.grownBy w' row := ⟨h.os, h.tape, h.output, h.size, fun k hk _ => h.block k hk⟩
theorem OF.later {B : Nat} {w w' : World} {u : Value} {xs : List Nat} (h : OF B w u xs) (hb : Below w.heap.size w w') : OF B w' u xs := by
  cases hu : u.ownBlock with
  | none => exact h.kept (below_grown hb none) (.inl hu)
  | some k => exact h.kept (below_grown hb none) (.inr (by rw [hu]; simp))
theorem OF.base {B B' : Nat} {w : World} {u : Value} {xs : List Nat} (h : OF B w u xs) (hB : B' ≤ B) : OF B' w u xs := by
  refine ⟨h.1, ?_⟩
  rcases h.2 with h2 | ⟨g, c, cur, r1, r2, r⟩
  · exact .inl h2
  · exact .inr ⟨g, c, cur, r1, by omega, r⟩
/-- An own slice, seen. -/
theorem OF.view {B : Nat} {w : World} {u : Value} {xs : List Nat} (h : OF B w u xs) : (u = .slice none 0 0 ∧ xs = []) ∨ ∃ g c, u = .slice (some ⟨g, 0, none⟩) xs.length c ∧ B ≤ g ∧ g < w.heap.size ∧ xs.length ≤ c ∧ c ≤ maxLen ∧ ∀ j, j < xs.length → w.cell? ⟨g, j, none⟩ = some (.float .f32 (xs.getD j 0)) ∧ w.frozen? ⟨g, j, none⟩ = false := by
  rcases h.2 with ⟨h1, h2⟩ | ⟨g, c, cur, h1, h2, h3, h4, h5, _⟩
  · exact .inl ⟨h1, by simpa using h2⟩
  · subst h1
    refine .inr ⟨g, c, rfl, h2, (OF.block h g rfl).2, h4, h5, fun j hj => ⟨?_, World.ownsRow.frozenAt h j⟩⟩
    have := World.ownsRow.cellAt h j (by simpa using hj)
    rw [this]
    simp [hj]
theorem OF.setCell {B : Nat} {w : World} {u : Value} {xs : List Nat} (h : OF B w u xs) {a : Addr} (ha : a.block < B) (v : Value) : OF B (w.setCell a v) u xs := by
  refine h.kept (row := some a.block) ⟨rfl, rfl, rfl, by simp, fun k _ hk => Below.heap_setCell _ _ _ _ (fun e => hk (by rw [e]))⟩ ?_
  cases hu : u.ownBlock with
  | none => exact .inl rfl
  | some k =>
    refine .inr fun e => ?_
    have := (h.block k hu).1
    simp at e
    omega
theorem OF.alloc {B : Nat} {w : World} {u : Value} {xs : List Nat} (h : OF B w u xs) (o : Obj) : OF B (w.alloc o) u xs := h.later ((Below.refl _ _).alloc (Nat.le_refl _) o)
theorem OF.drewN {B : Nat} {w : World} {u : Value} {xs : List Nat} (h : OF B w u xs) (n : Nat) : OF B (w.drewN n) u xs := h.later (below_drewN (Below.refl _ _) n)
theorem OF.shape {B : Nat} {w : World} {u : Value} {xs : List Nat} (h : OF B w u xs) : ∃ q c, u = .slice q xs.length c := by
  rcases h.view with ⟨rfl, rfl⟩ | ⟨g, c, rfl, _⟩
  · exact ⟨none, 0, rfl⟩
  · exact ⟨_, c, rfl⟩
theorem OF.fs {B : Nat} {w : World} {u : Value} {xs : List Nat} (h : OF B w u xs) : FS w u xs := by
  rcases h.view with ⟨rfl, rfl⟩ | ⟨g, c, rfl, _, _, h1, h2, h3⟩
  · exact ⟨none, 0, rfl, by omega, by simp, fun i hi => by simp at hi⟩
  · exact ⟨_, c, rfl, by simpa [maxLen] using h2, h1, fun i hi => ⟨g, 0, rfl, by rw [Nat.zero_add]; exact (h3 i hi).1⟩⟩
theorem FS.kept {w w' : World} {v : Value} {xs : List Nat} {row : Option Nat} (h : FS w v xs) (hg : w.grownBy w' row) (hne : v.ownBlock = none ∨ v.ownBlock ≠ row) : FS w' v xs := by
  obtain ⟨p, c, rfl, h1, h2, h3⟩ := h
  refine ⟨p, c, rfl, h1, h2, fun i hi => ?_⟩
  obtain ⟨b, o, rfl, hc⟩ := h3 i hi
  refine ⟨b, o, rfl, hg.cell hc ?_⟩
  rcases hne with hne | hne
  · cases hne
  · exact hne
/-- In a plan: a call that hands back an own slice, somewhere in its value. -/
def Clm.own (mk : Value → Value) (B : Nat) (xs : List Nat) : Clm := ⟨1, fun _ v => ∃ q c, v = mk (.slice q xs.length c), fun _ v w => ∀ u, v = mk u → OF B w u xs, fun _ => ⟨_, none, 0, rfl⟩,
  fun _ v w w' h hb u e => (h u e).later hb, fun h => nomatch h⟩
theorem wpC_callO {P : Program} {ops : Array Oper} {Q : Exit → Act → World → Prop} {W : World} {l : List Oper} {cs : List Clm} {i : Nat} {ks : List (Nat × (World → Prop))} {a : Act} {o : Oper}
    (mk : Value → Value) (xs : List Nat) (hw : Region.wanted o (yielded ops a.tmps) = true) {f : FuncId} {args : Array Value} (h1 : ∀ w, (execOp a.eval o).run P w = .ok (.enter f args) w)
    (hc : ∀ w, Below W.heap.size W w → depK o ks w → Calls P f args w (fun e w' => ∃ u, e = .returned (mk u) ∧ Below w.heap.size w w' ∧ OF w.heap.size w' u xs)) (hmk : ∀ u u', mk u = mk u' → u = u')
    (h : ∀ q c, wpC P ops Q W l cs (i + 1) ((i, fun w => ∀ u, mk (.slice q xs.length c) = mk u → OF W.heap.size w u xs) :: ks) (a.put o.dst (mk (.slice q xs.length c)))) : wpC P ops Q W (o :: l) (Clm.own mk W.heap.size xs :: cs) i ks a := by
  refine wpC_call (Clm.own mk W.heap.size xs) rfl hw h1 (fun w hb hk => (hc w hb hk).mono ?_) ?_
  · rintro e w' ⟨u, rfl, hbl, hO⟩
    obtain ⟨q, c, rfl⟩ := hO.shape
    exact ⟨_, rfl, hbl, ⟨q, c, rfl⟩, fun u' e => by rw [← hmk _ _ e]; exact hO.base hb.size⟩
  · rintro v ⟨q, c, rfl⟩; exact h q c
end Go.Proofs.Ytjeeflldbhajiaa
set_option linter.unusedSimpArgs false
set_option linter.unusedVariables false
set_option linter.unusedSectionVars false
namespace Go.Proofs.Ytjeeflldbhajiaa
open Go Go.RowKit
theorem wp_named {P : Program} {c : Code} {Q : Exit → Act → World → Prop} {a : Act} {w : World} (h : ∀ W, W = w → c.wp P Q a W) : c.wp P Q a w := h _ rfl
/-- The walk stands still here. -/
def Stop (p : Prop) : Prop := p
theorem stop_here {p : Prop} (h : Stop p) : p := h
theorem OF.nil0 (B : Nat) (w : World) : OF B w (.slice .none 0 0) [] := World.ownsRow_nil _ _ _ _
theorem OF.empty {B n : Nat} (w : World) (t : TypeId) (hn : n = w.heap.size) (hB : B ≤ w.heap.size) (ht : t = 22) : OF B (w.alloc (.cells #[] t)) (.slice (some ⟨n, 0, .none⟩) 0 0) [] := by
  subst ht
  subst hn
  exact World.ownsRow_lit w #[] 0 hB (by simp) (by simp)
theorem wpList_app {B : Nat} {xs : List Nat} {v : Value} {b r : Nat} {w : World} {ops : Array Oper} {rest : List Oper} {o : Oper} {a : Act} {Q : Exit → Act → World → Prop} (hg : o.guard = .none) {s x : Operand}
    (ho : o.op = .call { callee := .builtin .append, args := #[s, x], argTypes := #[25, 25] }) (hs : a.eval s = v) (hx : a.eval x = .slice (some ⟨b, 0, .none⟩) 1 1) (hO : OF B w v xs) (hc : w.cell? ⟨b, 0, .none⟩ = some (.float .f32 r)) (hn : xs.length < 1048576) (hB : B ≤ w.heap.size)
    (h : ∀ q c w', OF B w' (.slice q (xs.length + 1) c) (xs ++ [r]) → Below B w w' → wpList Try.prog ops Q rest (a.put o.dst (.slice q (xs.length + 1) c)) w') : wpList Try.prog ops Q (o :: rest) a w := by
  obtain ⟨i0, hi, hz0, hz1, hz2⟩ := info_parts Try.infoF32
  refine wpList_append_own w hg s x 25 ho B 22 i0 (.float .f32 0) 1 4 Try.underlying25 hi hz0 hz1 hz2 rfl (by decide) v xs.length (xs.map (Value.float .f32)) hs hO ⟨b, 0, .none⟩ 1 1 [.float .f32 r] hx rfl ?_ ?_ (by unfold maxLen; omega) (by omega) hB ?_
  · intro j u hj
    match j, hj with
    | 0, hj => simp at hj; subst hj; simpa [Addr.add] using hc
    | j + 1, hj => simp at hj
  · intro u hu; simp at hu; subst hu; rfl
  · intro v' w' hown hgrow _
    have hO' : OF B w' v' (xs ++ [r]) := by
      unfold OF
      simpa using hown
    obtain ⟨q, c, rfl⟩ := hO'.shape
    simp only [List.length_append, List.length_cons, List.length_nil, Nat.zero_add] at hO' ⊢
    exact h q c w' hO' ((Below.refl _ _).grown hgrow hB fun k hk => (OF.block hO k hk).1)
/-- A slice of numbers (of these classes) that the call has made, and a bool. -/
def BC (w : World) (L : List Nat) (b : Bool) (e : Ending) (w' : World) : Prop := ∃ u ys, e = .returned (.tuple #[u, .bool b]) ∧ Below w.heap.size w w' ∧ OF w.heap.size w' u ys ∧ ys.map (cn .f32) = L
theorem at_later {s : St} {w w' : World} {b o B : Nat} (h : s.at w b o) (hb : Below B w w') (hB : b < B) : s.at w' b o := by
  obtain ⟨h0, h1, h2, h3, h4, h5⟩ := h
  exact ⟨(hb.cell hB).trans h0, (hb.cell hB).trans h1, (hb.cell hB).trans h2, (hb.cell hB).trans h3, (hb.cell hB).trans h4, (hb.cell hB).trans h5⟩
end Go.Proofs.Ytjeeflldbhajiaa
set_option linter.unusedSimpArgs false
set_option linter.unusedVariables false
set_option linter.unusedSectionVars false
namespace Go.Proofs.Ytjeeflldbhajiaa
open Go Go.RowKit
theorem OF.sep {B B' : Nat} {w w' : World} {v u : Value} {xs ys : List Nat} (h1 : OF B w v xs) (h2 : OF B' w' u ys) (h : w.heap.size ≤ B') : v.ownBlock = none ∨ v.ownBlock ≠ u.ownBlock := by
  cases hv : v.ownBlock with
  | none => exact .inl rfl
  | some k =>
    refine .inr fun e => ?_
    have a := (h1.block k hv).2
    have b := (h2.block k e.symm).1
    omega
theorem OF.sep' {B B' : Nat} {w w' : World} {v u : Value} {xs ys : List Nat} (h1 : OF B w v xs) (h2 : OF B' w' u ys) (h : w'.heap.size ≤ B) : v.ownBlock = none ∨ v.ownBlock ≠ u.ownBlock := by
  cases hv : v.ownBlock with
  | none => exact .inl rfl
  | some k =>
    refine .inr fun e => ?_
    have a := (h1.block k hv).1
    have b := (h2.block k e.symm).2
    omega
theorem FS.alloc {w : World} {v : Value} {xs : List Nat} (h : FS w v xs) (o : Obj) : FS (w.alloc o) v xs := h.later ((Below.refl _ _).alloc (Nat.le_refl _) o)
theorem FS.drewN {w : World} {v : Value} {xs : List Nat} (h : FS w v xs) (n : Nat) : FS (w.drewN n) v xs := h
end Go.Proofs.Ytjeeflldbhajiaa
set_option linter.unusedSimpArgs false
set_option linter.unusedVariables false
set_option linter.unusedSectionVars false
namespace Go.Proofs.Ytjeeflldbhajiaa
open Go Go.RowKit
/-- Only blocks from B on and ahead of S have turned; none is new. -/
structure Turn (B S : Nat) (w w' : World) : Prop where
  os : w'.os = w.os
  tape : w'.tape = w.tape
  output : w'.output = w.output
  size : w.heap.size ≤ w'.heap.size
  block : ∀ k, k < w.heap.size → k < B ∨ S ≤ k → w'.heap[k]? = w.heap[k]?
theorem Turn.refl (B S : Nat) (w : World) : Turn B S w w := ⟨rfl, rfl, rfl, Nat.le_refl _, fun _ _ _ => rfl⟩
theorem Turn.trans {B S : Nat} {a b c : World} (h : Turn B S a b) (h' : Turn B S b c) : Turn B S a c :=
  ⟨h'.os.trans h.os, h'.tape.trans h.tape, h'.output.trans h.output, Nat.le_trans h.size h'.size, fun k hk hr => (h'.block k (Nat.lt_of_lt_of_le hk h.size) hr).trans (h.block k hk hr)⟩
theorem Turn.draws {B S : Nat} {a b : World} (h : Turn B S a b) (n : Nat) : Turn B S a (b.drewN n) := ⟨h.os, h.tape, h.output, h.size, h.block⟩
theorem Turn.of {B S : Nat} {w w' : World} {u : Value} (hg : w.grownBy w' u.ownBlock) (h : ∀ k, u.ownBlock = some k → B ≤ k ∧ k < S) : Turn B S w w' :=
  ⟨hg.os, hg.tape, hg.output, hg.size, fun k hk hr => hg.block k hk fun e => by have := h k e.symm; omega⟩
theorem Turn.below {B S : Nat} {a b : World} (h : Below a.heap.size a b) : Turn B S a b := ⟨h.os, h.tape, h.output, h.size, fun k hk _ => h.block k hk⟩
theorem Turn.alloc {B S : Nat} {a b : World} (h : Turn B S a b) (o : Obj) : Turn B S a (b.alloc o) := h.trans (Turn.below ((Below.refl _ _).alloc (Nat.le_refl _) o))
theorem turn_track {B S : Nat} {w w' : World} (hg : Turn B S w w') : ∀ {L : List Nat}, Trk w L → (∀ b ∈ L, b < B ∨ S ≤ b) → Trk w' L ∧ SameOn w w' L
  | [], _, _ => ⟨Trk.nil _, trivial⟩
  | b :: L, h, hL => by
    have h0 : b < w.heap.size := h b (by simp)
    have h1 := hg.size
    obtain ⟨i1, i2⟩ := turn_track hg (L := L) (fun c hc => h c (by simp [hc])) (fun c hc => hL c (by simp [hc]))
    have hb := hL b (by simp)
    exact ⟨i1.more (by omega), ⟨⟨by omega, by omega, by omega, fun k => by omega, fun k => by omega⟩, fun o => World.cell?_of_block (hg.block b h0 hb), fun o => World.frozen?_of_block (hg.block b h0 hb)⟩, i2⟩
/-- A row of the call's own, of n cells of a type, in a block from B on and ahead of S. -/
def RX (t : TypeId) (B S : Nat) (w : World) (u : Value) (n : Nat) (vs : List Value) : Prop := w.ownsRow B t 1 u n vs ∧ ∀ k, u.ownBlock = some k → k < S
section
variable {t : TypeId} {B S : Nat} {w w' : World} {u : Value} {n : Nat} {vs : List Value}
theorem RX.of (h : w.ownsRow B t 1 u n vs) : RX t B w.heap.size w u n vs := ⟨h, fun k hk => (World.ownsRow.lt h k hk).2⟩
theorem RX.lt (h : RX t B S w u n vs) : ∀ k, u.ownBlock = some k → B ≤ k ∧ k < S := fun k hk => ⟨(World.ownsRow.lt h.1 k hk).1, h.2 k hk⟩
theorem RX.kept {row : Option Nat} (h : RX t B S w u n vs) (hg : w.grownBy w' row) (hne : u.ownBlock = none ∨ u.ownBlock ≠ row) : RX t B S w' u n vs := ⟨World.ownsRow.kept h.1 hg hne, h.2⟩
theorem RX.later (h : RX t B S w u n vs) (hb : Below w.heap.size w w') : RX t B S w' u n vs := by
  cases hu : u.ownBlock with
  | none => exact h.kept (below_grown hb none) (.inl hu)
  | some k => exact h.kept (below_grown hb none) (.inr (by rw [hu]; simp))
theorem RX.alloc (h : RX t B S w u n vs) (o : Obj) : RX t B S (w.alloc o) u n vs := h.later ((Below.refl _ _).alloc (Nat.le_refl _) o)
theorem RX.drewN (h : RX t B S w u n vs) (m : Nat) : RX t B S (w.drewN m) u n vs := h.later (below_drewN (Below.refl _ _) m)
theorem RX.turn {B' S' : Nat} (h : RX t B S w u n vs) (hg : Turn B' S' w w') (hd : S ≤ B' ∨ S' ≤ B) : RX t B S w' u n vs := by
  refine ⟨?_, h.2⟩
  obtain ⟨h1, h2⟩ := h
  refine ⟨h1.1, ?_⟩
  rcases h1.2 with h3 | ⟨g, c, cur, e, hb, hg', r⟩
  · exact .inl h3
  · have hgS := h2 g (by rw [e]; rfl)
    have hgw : g < w.heap.size := (Array.getElem?_eq_some_iff.1 hg').1
    exact .inr ⟨g, c, cur, e, hb, (hg.block g hgw (by omega)).trans hg', r⟩
theorem RX.setCell (h : RX t B S w u n vs) {a : Addr} (ha : a.block < B ∨ S ≤ a.block) (v : Value) : RX t B S (w.setCell a v) u n vs := by
  refine h.kept (row := some a.block) ⟨rfl, rfl, rfl, by simp, fun k _ hk => Below.heap_setCell _ _ _ _ (fun e => hk (by rw [e]))⟩ ?_
  cases hu : u.ownBlock with
  | none => exact .inl rfl
  | some k =>
    refine .inr fun e => ?_
    have := h.lt k hu
    simp at e
    omega
end
def FX (B S : Nat) (w : World) (u : Value) (xs : List Nat) : Prop := RX 22 B S w u xs.length (xs.map (Value.float .f32))
section
variable {B S B' S' : Nat} {w w' : World} {u : Value} {xs : List Nat}
theorem FX.of (h : OF B w u xs) : FX B w.heap.size w u xs := RX.of h
theorem FX.own (h : FX B S w u xs) : OF B w u xs := h.1
theorem FX.later (h : FX B S w u xs) (hb : Below w.heap.size w w') : FX B S w' u xs := RX.later h hb
theorem FX.alloc (h : FX B S w u xs) (o : Obj) : FX B S (w.alloc o) u xs := RX.alloc h o
theorem FX.drewN (h : FX B S w u xs) (m : Nat) : FX B S (w.drewN m) u xs := RX.drewN h m
theorem FX.turn (h : FX B S w u xs) (hg : Turn B' S' w w') (hd : S ≤ B' ∨ S' ≤ B) : FX B S w' u xs := RX.turn h hg hd
theorem FX.setCell (h : FX B S w u xs) {a : Addr} (ha : a.block < B ∨ S ≤ a.block) (v : Value) : FX B S (w.setCell a v) u xs := RX.setCell h ha v
end
end Go.Proofs.Ytjeeflldbhajiaa
set_option linter.unusedSimpArgs false
set_option linter.unusedVariables false
set_option linter.unusedSectionVars false
namespace Go.Proofs.Ytjeeflldbhajiaa
open Go Go.RowKit
/-- A slice of bytes, in blocks ahead of B. -/
def BY (B : Nat) (w : World) (p : Option Addr) (n c : Nat) : Prop := (n ≤ c ∧ c ≤ 9223372036854775807) ∧ ∀ i, i < n → ∃ b o x, p = some ⟨b, o, none⟩ ∧ b < B ∧ w.cell? ⟨b, o + i, none⟩ = some (.int .u8 x) ∧ 0 ≤ x ∧ x ≤ 255
theorem BY.later {B C : Nat} {w w' : World} {p : Option Addr} {n c : Nat} (h : BY B w p n c) (hb : Below C w w') (hB : B ≤ C) : BY B w' p n c :=
  ⟨h.1, fun i hi => by
    obtain ⟨b, o, x, e, h1, h2, h3⟩ := h.2 i hi
    exact ⟨b, o, x, e, h1, (hb.cell (p := ⟨b, o + i, none⟩) (show b < C by omega)).trans h2, h3⟩⟩
theorem BY.mono {B C : Nat} {w : World} {p : Option Addr} {n c : Nat} (h : BY B w p n c) (hB : B ≤ C) : BY C w p n c :=
  ⟨h.1, fun i hi => by
    obtain ⟨b, o, x, e, h1, h2⟩ := h.2 i hi
    exact ⟨b, o, x, e, by omega, h2⟩⟩
/-- A source of draws in block b, after at most K draws. -/
def SrcAt (w : World) (b K : Nat) : Prop := ∃ (p : Option Addr) (n c : Nat) (k s : Int), (w.cell? ⟨b, 0, none⟩ = some (.slice p n c) ∧ w.cell? ⟨b, 1, none⟩ = some (.int .i64 k) ∧ w.cell? ⟨b, 2, none⟩ = some (.int .u64 s)) ∧ (w.frozen? ⟨b, 1, none⟩ = false ∧ w.frozen? ⟨b, 2, none⟩ = false) ∧ BY b w p n c ∧ n ≤ 1048576 ∧ (0 ≤ k ∧ k ≤ K) ∧ 0 ≤ s ∧ s < 18446744073709551616
theorem SrcAt.later {w w' : World} {b K B : Nat} (h : SrcAt w b K) (hb : Below B w w') (hB : b < B) : SrcAt w' b K := by
  obtain ⟨p, n, c, k, s, ⟨h1, h2, h3⟩, ⟨h4, h5⟩, h6, h7⟩ := h
  exact ⟨p, n, c, k, s, ⟨(hb.cell hB).trans h1, (hb.cell hB).trans h2, (hb.cell hB).trans h3⟩, ⟨(hb.frozen hB).trans h4, (hb.frozen hB).trans h5⟩, h6.later hb (by omega), h7⟩
theorem SrcAt.mono {w : World} {b K L : Nat} (h : SrcAt w b K) (hL : K ≤ L) : SrcAt w b L := by
  obtain ⟨p, n, c, k, s, h1, h2, h3, h4, ⟨h5, h6⟩, h7⟩ := h
  exact ⟨p, n, c, k, s, h1, h2, h3, h4, ⟨h5, by omega⟩, h7⟩
/-- What a draw leaves. -/
def SP (w : World) (b K : Nat) (lo hi : Int) (e : Ending) (w' : World) : Prop := ∃ r, e = .returned (.int .i64 r) ∧ (lo ≤ r ∧ r ≤ hi) ∧ Turn b (b + 1) w w' ∧ w'.heap.size = w.heap.size ∧ SrcAt w' b K
theorem src_next {w : World} {b K n c : Nat} {p : Option Addr} {k s : Int} (c0 : w.cell? ⟨b, 0, none⟩ = some (.slice p n c)) (c1 : w.cell? ⟨b, 1, none⟩ = some (.int .i64 k)) (c2 : w.cell? ⟨b, 2, none⟩ = some (.int .u64 s)) (f1 : w.frozen? ⟨b, 1, none⟩ = false) (f2 : w.frozen? ⟨b, 2, none⟩ = false) (hb : BY b w p n c) (hn : n ≤ 1048576) (hk : 0 ≤ k ∧ k ≤ K) (x : Int) (m : Nat) :
    Turn b (b + 1) w (((w.setCell ⟨b, 1, none⟩ (.int .i64 (k + 1))).setCell ⟨b, 2, none⟩ (.int .u64 (IntKind.u64.wrap x))).drewN m) ∧ (((w.setCell ⟨b, 1, none⟩ (.int .i64 (k + 1))).setCell ⟨b, 2, none⟩ (.int .u64 (IntKind.u64.wrap x))).drewN m).heap.size = w.heap.size ∧ SrcAt (((w.setCell ⟨b, 1, none⟩ (.int .i64 (k + 1))).setCell ⟨b, 2, none⟩ (.int .u64 (IntKind.u64.wrap x))).drewN m) b (K + 1) := by
  have hgt : ∀ (w' : World) (j : Nat) (v : Value), w'.grownBy (w'.setCell ⟨b, j, none⟩ v) (some b) := fun w' j v => ⟨rfl, rfl, rfl, by simp, fun i _ hi => Below.heap_setCell _ _ _ _ (fun e => hi (by rw [e]))⟩
  have h1 : Turn b (b + 1) w ((w.setCell ⟨b, 1, none⟩ (.int .i64 (k + 1))).setCell ⟨b, 2, none⟩ (.int .u64 (IntKind.u64.wrap x))) := by
    have a := hgt w 1 (.int .i64 (k + 1))
    have d := hgt (w.setCell ⟨b, 1, none⟩ (.int .i64 (k + 1))) 2 (.int .u64 (IntKind.u64.wrap x))
    exact ⟨rfl, rfl, rfl, by simp, fun i hi hr => (d.block i (by simpa using hi) (by simp; omega)).trans (a.block i hi (by simp; omega))⟩
  refine ⟨h1.draws m, by simp, p, n, c, k + 1, IntKind.u64.wrap x, ⟨by go_simp, ?_, ?_⟩, ⟨by simp; exact f1, by simp; exact f2⟩, ⟨hb.1, fun i hi => ?_⟩, hn, ⟨by omega, by omega⟩, ?_⟩
  · have := World.block_lt_of_cell? _ _ c1
    go_simp
  · go_simp
  · obtain ⟨bb, o, y, e, e1, e2, e3⟩ := hb.2 i hi
    refine ⟨bb, o, y, e, e1, ?_, e3⟩
    have hbl : Below bb.succ w (((w.setCell ⟨b, 1, none⟩ (.int .i64 (k + 1))).setCell ⟨b, 2, none⟩ (.int .u64 (IntKind.u64.wrap x))).drewN m) := by
      have h2 := h1.draws m
      exact ⟨h2.os, h2.tape, h2.output, h2.size, fun j hj => by
        by_cases hjw : j < w.heap.size
        · exact h2.block j hjw (.inl (by omega))
        · have := World.block_lt_of_cell? _ _ e2
          exact absurd (show j < w.heap.size by have : bb < w.heap.size := this; omega) hjw⟩
    exact (hbl.cell (p := ⟨bb, o + i, none⟩) (Nat.lt_succ_self bb)).trans e2
  · rw [IntKind.wrap_u64]
    omega
theorem and255 (x : Int) (h : 0 ≤ x) (h2 : x < 18446744073709551616) : 0 ≤ bits .and .u64 x 255 ∧ bits .and .u64 x 255 ≤ 255 := by
  obtain ⟨n, rfl⟩ := Int.eq_ofNat_of_zero_le h
  have e : bits .and .u64 (n : Int) 255 = ((n &&& 255 : Nat) : Int) := bits_and_u64_nat n 255 (by omega) (by omega)
  rw [e]
  have := Nat.and_le_right (n := n) (m := 255)
  omega
set_option maxHeartbeats 2000000 in
theorem next_any (b K : Nat) (w : World) (h : SrcAt w b K) (hK : K ≤ 1000000) : Calls Try.prog 123 #[.pointer (some ⟨b, 0, none⟩)] w (SP w b (K + 1) 0 255) := by
  obtain ⟨p, n, c, k, s, ⟨c0, c1, c2⟩, ⟨f1, f2⟩, hby, hn, ⟨hk0, hk1⟩, hs0, hs1⟩ := h
  obtain ⟨⟨hc1, hc2⟩, hv⟩ := hby
  have HV := Lib.hid hv
  clear hv
  by_cases hlt : k < n
  · obtain ⟨km, rfl⟩ := Int.eq_ofNat_of_zero_le hk0
    obtain ⟨bb, o, x, rfl, hbb, hx, hx0, hx1⟩ := HV.out km (by omega)
    go_enter Try.func123, Try.ntmps123
    go_wp2_with (first | (with_reducible refine at_list ?_; refine wpList_fop rfl rfl rfl rfl rfl ?_; intro r n hr0; have hr := hr0 _ _ (by first | with_reducible assumption | exact rfl) (by first | with_reducible assumption | exact rfl); clear hr0) | (with_reducible refine at_list ?_; refine wpList_neg rfl rfl rfl ?_; intro r hr0; have hr := hr0 _ (by first | with_reducible assumption | exact rfl); clear hr0) | (with_reducible refine at_list ?_; refine wpList_fop_g rfl rfl rfl rfl rfl ?_; intro r n hr0; have hr := hr0 _ _ (by first | with_reducible assumption | exact rfl) (by first | with_reducible assumption | exact rfl); clear hr0) | (with_reducible refine at_list ?_; refine wpList_wide_g rfl rfl Try.underlying22 Try.underlying40 rfl ?_; intro r n hr0; have hr := hr0 _ (by first | with_reducible assumption | exact rfl); clear hr0) | (with_reducible refine at_list ?_; refine wpList_wide rfl rfl rfl Try.underlying22 Try.underlying40 ?_; intro r n hr0; have hr := hr0 _ (by first | with_reducible assumption | exact rfl); clear hr0))
    all_goals (try ((first | (refine wp_some_lit (by kernel_rfl) (by kernel_rfl) ?_; (refine wpSome_one ?_; go_big_quiet_step (fail); refine wpQuiet_nil ?_); (refine wpSome_one ?_; go_big_quiet_step (fail); refine wpQuiet_nil ?_); (refine wpSome_one ?_; go_big_quiet_step (fail); refine wpQuiet_nil ?_); (refine wpSome_one ?_; go_big_quiet_step (fail); refine wpQuiet_nil ?_); (refine wpSome_one ?_; go_big_quiet_step (fail); refine wpQuiet_nil ?_); (refine wpSome_one ?_; go_big_quiet_step (fail); refine wpQuiet_nil ?_); (refine wpSome_one ?_; go_big_quiet_step (fail); refine wpQuiet_nil ?_); (refine wpSome_one ?_; go_big_quiet_step (fail); refine wpQuiet_nil ?_); (refine wpSome_one ?_; go_big_quiet_step (fail); refine wpQuiet_nil ?_); (refine wpSome_one ?_; go_big_quiet_step (fail); refine wpQuiet_nil ?_); refine wpSome_nil ?_; intro w' hw'; obtain ⟨nq, rfl⟩ := hw') | (refine wp_some_lit (by kernel_rfl) (by kernel_rfl) ?_; (refine wpSome_one ?_; go_big_quiet_step (fail); refine wpQuiet_nil ?_); (refine wpSome_one ?_; go_big_quiet_step (fail); refine wpQuiet_nil ?_); (refine wpSome_one ?_; go_big_quiet_step (fail); refine wpQuiet_nil ?_); (refine wpSome_one ?_; go_big_quiet_step (fail); refine wpQuiet_nil ?_); (refine wpSome_one ?_; go_big_quiet_step (fail); refine wpQuiet_nil ?_); (refine wpSome_one ?_; go_big_quiet_step (fail); refine wpQuiet_nil ?_); (refine wpSome_one ?_; go_big_quiet_step (fail); refine wpQuiet_nil ?_); (refine wpSome_one ?_; go_big_quiet_step (fail); refine wpQuiet_nil ?_); (refine wpSome_one ?_; go_big_quiet_step (fail); refine wpQuiet_nil ?_); (refine wpSome_one ?_; go_big_quiet_step (fail); refine wpQuiet_nil ?_); (refine wpSome_one ?_; go_big_quiet_step (fail); refine wpQuiet_nil ?_); (refine wpSome_one ?_; go_big_quiet_step (fail); refine wpQuiet_nil ?_); refine wpSome_nil ?_; intro w' hw'; obtain ⟨nq, rfl⟩ := hw') | (refine wp_some_lit (by kernel_rfl) (by kernel_rfl) ?_; (refine wpSome_one ?_; go_big_quiet_step (fail); refine wpQuiet_nil ?_); (refine wpSome_one ?_; go_big_quiet_step (fail); refine wpQuiet_nil ?_); (refine wpSome_one ?_; go_big_quiet_step (fail); refine wpQuiet_nil ?_); (refine wpSome_one ?_; go_big_quiet_step (fail); refine wpQuiet_nil ?_); (refine wpSome_one ?_; go_big_quiet_step (fail); refine wpQuiet_nil ?_); (refine wpSome_one ?_; go_big_quiet_step (fail); refine wpQuiet_nil ?_); (refine wpSome_one ?_; go_big_quiet_step (fail); refine wpQuiet_nil ?_); (refine wpSome_one ?_; go_big_quiet_step (fail); refine wpQuiet_nil ?_); (refine wpSome_one ?_; go_big_quiet_step (fail); refine wpQuiet_nil ?_); (refine wpSome_one ?_; go_big_quiet_step (fail); refine wpQuiet_nil ?_); refine wpSome_nil ?_; intro w' hw'; obtain ⟨nq, rfl⟩ := hw')); go_wp2_with (first | (with_reducible refine at_list ?_; refine wpList_fop rfl rfl rfl rfl rfl ?_; intro r n hr0; have hr := hr0 _ _ (by first | with_reducible assumption | exact rfl) (by first | with_reducible assumption | exact rfl); clear hr0) | (with_reducible refine at_list ?_; refine wpList_neg rfl rfl rfl ?_; intro r hr0; have hr := hr0 _ (by first | with_reducible assumption | exact rfl); clear hr0) | (with_reducible refine at_list ?_; refine wpList_fop_g rfl rfl rfl rfl rfl ?_; intro r n hr0; have hr := hr0 _ _ (by first | with_reducible assumption | exact rfl) (by first | with_reducible assumption | exact rfl); clear hr0) | (with_reducible refine at_list ?_; refine wpList_wide_g rfl rfl Try.underlying22 Try.underlying40 rfl ?_; intro r n hr0; have hr := hr0 _ (by first | with_reducible assumption | exact rfl); clear hr0) | (with_reducible refine at_list ?_; refine wpList_wide rfl rfl rfl Try.underlying22 Try.underlying40 ?_; intro r n hr0; have hr := hr0 _ (by first | with_reducible assumption | exact rfl); clear hr0))))
    all_goals (try ((first | (refine wp_some_lit (by kernel_rfl) (by kernel_rfl) ?_; (refine wpSome_one ?_; go_big_quiet_step (fail); refine wpQuiet_nil ?_); (refine wpSome_one ?_; go_big_quiet_step (fail); refine wpQuiet_nil ?_); (refine wpSome_one ?_; go_big_quiet_step (fail); refine wpQuiet_nil ?_); (refine wpSome_one ?_; go_big_quiet_step (fail); refine wpQuiet_nil ?_); (refine wpSome_one ?_; go_big_quiet_step (fail); refine wpQuiet_nil ?_); (refine wpSome_one ?_; go_big_quiet_step (fail); refine wpQuiet_nil ?_); (refine wpSome_one ?_; go_big_quiet_step (fail); refine wpQuiet_nil ?_); (refine wpSome_one ?_; go_big_quiet_step (fail); refine wpQuiet_nil ?_); (refine wpSome_one ?_; go_big_quiet_step (fail); refine wpQuiet_nil ?_); (refine wpSome_one ?_; go_big_quiet_step (fail); refine wpQuiet_nil ?_); refine wpSome_nil ?_; intro w' hw'; obtain ⟨nq, rfl⟩ := hw') | (refine wp_some_lit (by kernel_rfl) (by kernel_rfl) ?_; (refine wpSome_one ?_; go_big_quiet_step (fail); refine wpQuiet_nil ?_); (refine wpSome_one ?_; go_big_quiet_step (fail); refine wpQuiet_nil ?_); (refine wpSome_one ?_; go_big_quiet_step (fail); refine wpQuiet_nil ?_); (refine wpSome_one ?_; go_big_quiet_step (fail); refine wpQuiet_nil ?_); (refine wpSome_one ?_; go_big_quiet_step (fail); refine wpQuiet_nil ?_); (refine wpSome_one ?_; go_big_quiet_step (fail); refine wpQuiet_nil ?_); (refine wpSome_one ?_; go_big_quiet_step (fail); refine wpQuiet_nil ?_); (refine wpSome_one ?_; go_big_quiet_step (fail); refine wpQuiet_nil ?_); (refine wpSome_one ?_; go_big_quiet_step (fail); refine wpQuiet_nil ?_); (refine wpSome_one ?_; go_big_quiet_step (fail); refine wpQuiet_nil ?_); (refine wpSome_one ?_; go_big_quiet_step (fail); refine wpQuiet_nil ?_); (refine wpSome_one ?_; go_big_quiet_step (fail); refine wpQuiet_nil ?_); refine wpSome_nil ?_; intro w' hw'; obtain ⟨nq, rfl⟩ := hw') | (refine wp_some_lit (by kernel_rfl) (by kernel_rfl) ?_; (refine wpSome_one ?_; go_big_quiet_step (fail); refine wpQuiet_nil ?_); (refine wpSome_one ?_; go_big_quiet_step (fail); refine wpQuiet_nil ?_); (refine wpSome_one ?_; go_big_quiet_step (fail); refine wpQuiet_nil ?_); (refine wpSome_one ?_; go_big_quiet_step (fail); refine wpQuiet_nil ?_); (refine wpSome_one ?_; go_big_quiet_step (fail); refine wpQuiet_nil ?_); (refine wpSome_one ?_; go_big_quiet_step (fail); refine wpQuiet_nil ?_); (refine wpSome_one ?_; go_big_quiet_step (fail); refine wpQuiet_nil ?_); (refine wpSome_one ?_; go_big_quiet_step (fail); refine wpQuiet_nil ?_); (refine wpSome_one ?_; go_big_quiet_step (fail); refine wpQuiet_nil ?_); (refine wpSome_one ?_; go_big_quiet_step (fail); refine wpQuiet_nil ?_); refine wpSome_nil ?_; intro w' hw'; obtain ⟨nq, rfl⟩ := hw')); go_wp2_with (first | (with_reducible refine at_list ?_; refine wpList_fop rfl rfl rfl rfl rfl ?_; intro r n hr0; have hr := hr0 _ _ (by first | with_reducible assumption | exact rfl) (by first | with_reducible assumption | exact rfl); clear hr0) | (with_reducible refine at_list ?_; refine wpList_neg rfl rfl rfl ?_; intro r hr0; have hr := hr0 _ (by first | with_reducible assumption | exact rfl); clear hr0) | (with_reducible refine at_list ?_; refine wpList_fop_g rfl rfl rfl rfl rfl ?_; intro r n hr0; have hr := hr0 _ _ (by first | with_reducible assumption | exact rfl) (by first | with_reducible assumption | exact rfl); clear hr0) | (with_reducible refine at_list ?_; refine wpList_wide_g rfl rfl Try.underlying22 Try.underlying40 rfl ?_; intro r n hr0; have hr := hr0 _ (by first | with_reducible assumption | exact rfl); clear hr0) | (with_reducible refine at_list ?_; refine wpList_wide rfl rfl rfl Try.underlying22 Try.underlying40 ?_; intro r n hr0; have hr := hr0 _ (by first | with_reducible assumption | exact rfl); clear hr0))))
    all_goals (try ((first | (refine wp_some_lit (by kernel_rfl) (by kernel_rfl) ?_; (refine wpSome_one ?_; go_big_quiet_step (fail); refine wpQuiet_nil ?_); (refine wpSome_one ?_; go_big_quiet_step (fail); refine wpQuiet_nil ?_); (refine wpSome_one ?_; go_big_quiet_step (fail); refine wpQuiet_nil ?_); (refine wpSome_one ?_; go_big_quiet_step (fail); refine wpQuiet_nil ?_); (refine wpSome_one ?_; go_big_quiet_step (fail); refine wpQuiet_nil ?_); (refine wpSome_one ?_; go_big_quiet_step (fail); refine wpQuiet_nil ?_); (refine wpSome_one ?_; go_big_quiet_step (fail); refine wpQuiet_nil ?_); (refine wpSome_one ?_; go_big_quiet_step (fail); refine wpQuiet_nil ?_); (refine wpSome_one ?_; go_big_quiet_step (fail); refine wpQuiet_nil ?_); (refine wpSome_one ?_; go_big_quiet_step (fail); refine wpQuiet_nil ?_); refine wpSome_nil ?_; intro w' hw'; obtain ⟨nq, rfl⟩ := hw') | (refine wp_some_lit (by kernel_rfl) (by kernel_rfl) ?_; (refine wpSome_one ?_; go_big_quiet_step (fail); refine wpQuiet_nil ?_); (refine wpSome_one ?_; go_big_quiet_step (fail); refine wpQuiet_nil ?_); (refine wpSome_one ?_; go_big_quiet_step (fail); refine wpQuiet_nil ?_); (refine wpSome_one ?_; go_big_quiet_step (fail); refine wpQuiet_nil ?_); (refine wpSome_one ?_; go_big_quiet_step (fail); refine wpQuiet_nil ?_); (refine wpSome_one ?_; go_big_quiet_step (fail); refine wpQuiet_nil ?_); (refine wpSome_one ?_; go_big_quiet_step (fail); refine wpQuiet_nil ?_); (refine wpSome_one ?_; go_big_quiet_step (fail); refine wpQuiet_nil ?_); (refine wpSome_one ?_; go_big_quiet_step (fail); refine wpQuiet_nil ?_); (refine wpSome_one ?_; go_big_quiet_step (fail); refine wpQuiet_nil ?_); (refine wpSome_one ?_; go_big_quiet_step (fail); refine wpQuiet_nil ?_); (refine wpSome_one ?_; go_big_quiet_step (fail); refine wpQuiet_nil ?_); refine wpSome_nil ?_; intro w' hw'; obtain ⟨nq, rfl⟩ := hw') | (refine wp_some_lit (by kernel_rfl) (by kernel_rfl) ?_; (refine wpSome_one ?_; go_big_quiet_step (fail); refine wpQuiet_nil ?_); (refine wpSome_one ?_; go_big_quiet_step (fail); refine wpQuiet_nil ?_); (refine wpSome_one ?_; go_big_quiet_step (fail); refine wpQuiet_nil ?_); (refine wpSome_one ?_; go_big_quiet_step (fail); refine wpQuiet_nil ?_); (refine wpSome_one ?_; go_big_quiet_step (fail); refine wpQuiet_nil ?_); (refine wpSome_one ?_; go_big_quiet_step (fail); refine wpQuiet_nil ?_); (refine wpSome_one ?_; go_big_quiet_step (fail); refine wpQuiet_nil ?_); (refine wpSome_one ?_; go_big_quiet_step (fail); refine wpQuiet_nil ?_); (refine wpSome_one ?_; go_big_quiet_step (fail); refine wpQuiet_nil ?_); (refine wpSome_one ?_; go_big_quiet_step (fail); refine wpQuiet_nil ?_); refine wpSome_nil ?_; intro w' hw'; obtain ⟨nq, rfl⟩ := hw')); go_wp2_with (first | (with_reducible refine at_list ?_; refine wpList_fop rfl rfl rfl rfl rfl ?_; intro r n hr0; have hr := hr0 _ _ (by first | with_reducible assumption | exact rfl) (by first | with_reducible assumption | exact rfl); clear hr0) | (with_reducible refine at_list ?_; refine wpList_neg rfl rfl rfl ?_; intro r hr0; have hr := hr0 _ (by first | with_reducible assumption | exact rfl); clear hr0) | (with_reducible refine at_list ?_; refine wpList_fop_g rfl rfl rfl rfl rfl ?_; intro r n hr0; have hr := hr0 _ _ (by first | with_reducible assumption | exact rfl) (by first | with_reducible assumption | exact rfl); clear hr0) | (with_reducible refine at_list ?_; refine wpList_wide_g rfl rfl Try.underlying22 Try.underlying40 rfl ?_; intro r n hr0; have hr := hr0 _ (by first | with_reducible assumption | exact rfl); clear hr0) | (with_reducible refine at_list ?_; refine wpList_wide rfl rfl rfl Try.underlying22 Try.underlying40 ?_; intro r n hr0; have hr := hr0 _ (by first | with_reducible assumption | exact rfl); clear hr0))))
    all_goals (try (first | kernel_rfl | rfl))
    all_goals
      go_ret
      obtain ⟨e1, e2, e3⟩ := src_next c0 c1 c2 f1 f2 ⟨⟨hc1, hc2⟩, HV.out⟩ hn ⟨hk0, hk1⟩ (IntKind.u64.wrap (IntKind.u64.wrap (s * 6364136223846793005) + x) + 1442695040888963407) 0
      exact ⟨_, rfl, ⟨hx0, hx1⟩, ⟨e1.os, e1.tape, e1.output, e1.size, e1.block⟩, e2, e3⟩
  · go_enter Try.func123, Try.ntmps123
    go_wp2_with (first | (with_reducible refine at_list ?_; refine wpList_fop rfl rfl rfl rfl rfl ?_; intro r n hr0; have hr := hr0 _ _ (by first | with_reducible assumption | exact rfl) (by first | with_reducible assumption | exact rfl); clear hr0) | (with_reducible refine at_list ?_; refine wpList_neg rfl rfl rfl ?_; intro r hr0; have hr := hr0 _ (by first | with_reducible assumption | exact rfl); clear hr0) | (with_reducible refine at_list ?_; refine wpList_fop_g rfl rfl rfl rfl rfl ?_; intro r n hr0; have hr := hr0 _ _ (by first | with_reducible assumption | exact rfl) (by first | with_reducible assumption | exact rfl); clear hr0) | (with_reducible refine at_list ?_; refine wpList_wide_g rfl rfl Try.underlying22 Try.underlying40 rfl ?_; intro r n hr0; have hr := hr0 _ (by first | with_reducible assumption | exact rfl); clear hr0) | (with_reducible refine at_list ?_; refine wpList_wide rfl rfl rfl Try.underlying22 Try.underlying40 ?_; intro r n hr0; have hr := hr0 _ (by first | with_reducible assumption | exact rfl); clear hr0))
    all_goals (try ((first | (refine wp_some_lit (by kernel_rfl) (by kernel_rfl) ?_; (refine wpSome_one ?_; go_big_quiet_step (fail); refine wpQuiet_nil ?_); (refine wpSome_one ?_; go_big_quiet_step (fail); refine wpQuiet_nil ?_); (refine wpSome_one ?_; go_big_quiet_step (fail); refine wpQuiet_nil ?_); (refine wpSome_one ?_; go_big_quiet_step (fail); refine wpQuiet_nil ?_); (refine wpSome_one ?_; go_big_quiet_step (fail); refine wpQuiet_nil ?_); (refine wpSome_one ?_; go_big_quiet_step (fail); refine wpQuiet_nil ?_); (refine wpSome_one ?_; go_big_quiet_step (fail); refine wpQuiet_nil ?_); (refine wpSome_one ?_; go_big_quiet_step (fail); refine wpQuiet_nil ?_); (refine wpSome_one ?_; go_big_quiet_step (fail); refine wpQuiet_nil ?_); (refine wpSome_one ?_; go_big_quiet_step (fail); refine wpQuiet_nil ?_); refine wpSome_nil ?_; intro w' hw'; obtain ⟨nq, rfl⟩ := hw') | (refine wp_some_lit (by kernel_rfl) (by kernel_rfl) ?_; (refine wpSome_one ?_; go_big_quiet_step (fail); refine wpQuiet_nil ?_); (refine wpSome_one ?_; go_big_quiet_step (fail); refine wpQuiet_nil ?_); (refine wpSome_one ?_; go_big_quiet_step (fail); refine wpQuiet_nil ?_); (refine wpSome_one ?_; go_big_quiet_step (fail); refine wpQuiet_nil ?_); (refine wpSome_one ?_; go_big_quiet_step (fail); refine wpQuiet_nil ?_); (refine wpSome_one ?_; go_big_quiet_step (fail); refine wpQuiet_nil ?_); (refine wpSome_one ?_; go_big_quiet_step (fail); refine wpQuiet_nil ?_); (refine wpSome_one ?_; go_big_quiet_step (fail); refine wpQuiet_nil ?_); (refine wpSome_one ?_; go_big_quiet_step (fail); refine wpQuiet_nil ?_); (refine wpSome_one ?_; go_big_quiet_step (fail); refine wpQuiet_nil ?_); (refine wpSome_one ?_; go_big_quiet_step (fail); refine wpQuiet_nil ?_); (refine wpSome_one ?_; go_big_quiet_step (fail); refine wpQuiet_nil ?_); refine wpSome_nil ?_; intro w' hw'; obtain ⟨nq, rfl⟩ := hw') | (refine wp_some_lit (by kernel_rfl) (by kernel_rfl) ?_; (refine wpSome_one ?_; go_big_quiet_step (fail); refine wpQuiet_nil ?_); (refine wpSome_one ?_; go_big_quiet_step (fail); refine wpQuiet_nil ?_); (refine wpSome_one ?_; go_big_quiet_step (fail); refine wpQuiet_nil ?_); (refine wpSome_one ?_; go_big_quiet_step (fail); refine wpQuiet_nil ?_); (refine wpSome_one ?_; go_big_quiet_step (fail); refine wpQuiet_nil ?_); (refine wpSome_one ?_; go_big_quiet_step (fail); refine wpQuiet_nil ?_); (refine wpSome_one ?_; go_big_quiet_step (fail); refine wpQuiet_nil ?_); (refine wpSome_one ?_; go_big_quiet_step (fail); refine wpQuiet_nil ?_); (refine wpSome_one ?_; go_big_quiet_step (fail); refine wpQuiet_nil ?_); (refine wpSome_one ?_; go_big_quiet_step (fail); refine wpQuiet_nil ?_); refine wpSome_nil ?_; intro w' hw'; obtain ⟨nq, rfl⟩ := hw')); go_wp2_with (first | (with_reducible refine at_list ?_; refine wpList_fop rfl rfl rfl rfl rfl ?_; intro r n hr0; have hr := hr0 _ _ (by first | with_reducible assumption | exact rfl) (by first | with_reducible assumption | exact rfl); clear hr0) | (with_reducible refine at_list ?_; refine wpList_neg rfl rfl rfl ?_; intro r hr0; have hr := hr0 _ (by first | with_reducible assumption | exact rfl); clear hr0) | (with_reducible refine at_list ?_; refine wpList_fop_g rfl rfl rfl rfl rfl ?_; intro r n hr0; have hr := hr0 _ _ (by first | with_reducible assumption | exact rfl) (by first | with_reducible assumption | exact rfl); clear hr0) | (with_reducible refine at_list ?_; refine wpList_wide_g rfl rfl Try.underlying22 Try.underlying40 rfl ?_; intro r n hr0; have hr := hr0 _ (by first | with_reducible assumption | exact rfl); clear hr0) | (with_reducible refine at_list ?_; refine wpList_wide rfl rfl rfl Try.underlying22 Try.underlying40 ?_; intro r n hr0; have hr := hr0 _ (by first | with_reducible assumption | exact rfl); clear hr0))))
    all_goals (try ((first | (refine wp_some_lit (by kernel_rfl) (by kernel_rfl) ?_; (refine wpSome_one ?_; go_big_quiet_step (fail); refine wpQuiet_nil ?_); (refine wpSome_one ?_; go_big_quiet_step (fail); refine wpQuiet_nil ?_); (refine wpSome_one ?_; go_big_quiet_step (fail); refine wpQuiet_nil ?_); (refine wpSome_one ?_; go_big_quiet_step (fail); refine wpQuiet_nil ?_); (refine wpSome_one ?_; go_big_quiet_step (fail); refine wpQuiet_nil ?_); (refine wpSome_one ?_; go_big_quiet_step (fail); refine wpQuiet_nil ?_); (refine wpSome_one ?_; go_big_quiet_step (fail); refine wpQuiet_nil ?_); (refine wpSome_one ?_; go_big_quiet_step (fail); refine wpQuiet_nil ?_); (refine wpSome_one ?_; go_big_quiet_step (fail); refine wpQuiet_nil ?_); (refine wpSome_one ?_; go_big_quiet_step (fail); refine wpQuiet_nil ?_); refine wpSome_nil ?_; intro w' hw'; obtain ⟨nq, rfl⟩ := hw') | (refine wp_some_lit (by kernel_rfl) (by kernel_rfl) ?_; (refine wpSome_one ?_; go_big_quiet_step (fail); refine wpQuiet_nil ?_); (refine wpSome_one ?_; go_big_quiet_step (fail); refine wpQuiet_nil ?_); (refine wpSome_one ?_; go_big_quiet_step (fail); refine wpQuiet_nil ?_); (refine wpSome_one ?_; go_big_quiet_step (fail); refine wpQuiet_nil ?_); (refine wpSome_one ?_; go_big_quiet_step (fail); refine wpQuiet_nil ?_); (refine wpSome_one ?_; go_big_quiet_step (fail); refine wpQuiet_nil ?_); (refine wpSome_one ?_; go_big_quiet_step (fail); refine wpQuiet_nil ?_); (refine wpSome_one ?_; go_big_quiet_step (fail); refine wpQuiet_nil ?_); (refine wpSome_one ?_; go_big_quiet_step (fail); refine wpQuiet_nil ?_); (refine wpSome_one ?_; go_big_quiet_step (fail); refine wpQuiet_nil ?_); (refine wpSome_one ?_; go_big_quiet_step (fail); refine wpQuiet_nil ?_); (refine wpSome_one ?_; go_big_quiet_step (fail); refine wpQuiet_nil ?_); refine wpSome_nil ?_; intro w' hw'; obtain ⟨nq, rfl⟩ := hw') | (refine wp_some_lit (by kernel_rfl) (by kernel_rfl) ?_; (refine wpSome_one ?_; go_big_quiet_step (fail); refine wpQuiet_nil ?_); (refine wpSome_one ?_; go_big_quiet_step (fail); refine wpQuiet_nil ?_); (refine wpSome_one ?_; go_big_quiet_step (fail); refine wpQuiet_nil ?_); (refine wpSome_one ?_; go_big_quiet_step (fail); refine wpQuiet_nil ?_); (refine wpSome_one ?_; go_big_quiet_step (fail); refine wpQuiet_nil ?_); (refine wpSome_one ?_; go_big_quiet_step (fail); refine wpQuiet_nil ?_); (refine wpSome_one ?_; go_big_quiet_step (fail); refine wpQuiet_nil ?_); (refine wpSome_one ?_; go_big_quiet_step (fail); refine wpQuiet_nil ?_); (refine wpSome_one ?_; go_big_quiet_step (fail); refine wpQuiet_nil ?_); (refine wpSome_one ?_; go_big_quiet_step (fail); refine wpQuiet_nil ?_); refine wpSome_nil ?_; intro w' hw'; obtain ⟨nq, rfl⟩ := hw')); go_wp2_with (first | (with_reducible refine at_list ?_; refine wpList_fop rfl rfl rfl rfl rfl ?_; intro r n hr0; have hr := hr0 _ _ (by first | with_reducible assumption | exact rfl) (by first | with_reducible assumption | exact rfl); clear hr0) | (with_reducible refine at_list ?_; refine wpList_neg rfl rfl rfl ?_; intro r hr0; have hr := hr0 _ (by first | with_reducible assumption | exact rfl); clear hr0) | (with_reducible refine at_list ?_; refine wpList_fop_g rfl rfl rfl rfl rfl ?_; intro r n hr0; have hr := hr0 _ _ (by first | with_reducible assumption | exact rfl) (by first | with_reducible assumption | exact rfl); clear hr0) | (with_reducible refine at_list ?_; refine wpList_wide_g rfl rfl Try.underlying22 Try.underlying40 rfl ?_; intro r n hr0; have hr := hr0 _ (by first | with_reducible assumption | exact rfl); clear hr0) | (with_reducible refine at_list ?_; refine wpList_wide rfl rfl rfl Try.underlying22 Try.underlying40 ?_; intro r n hr0; have hr := hr0 _ (by first | with_reducible assumption | exact rfl); clear hr0))))
    all_goals (try ((first | (refine wp_some_lit (by kernel_rfl) (by kernel_rfl) ?_; (refine wpSome_one ?_; go_big_quiet_step (fail); refine wpQuiet_nil ?_); (refine wpSome_one ?_; go_big_quiet_step (fail); refine wpQuiet_nil ?_); (refine wpSome_one ?_; go_big_quiet_step (fail); refine wpQuiet_nil ?_); (refine wpSome_one ?_; go_big_quiet_step (fail); refine wpQuiet_nil ?_); (refine wpSome_one ?_; go_big_quiet_step (fail); refine wpQuiet_nil ?_); (refine wpSome_one ?_; go_big_quiet_step (fail); refine wpQuiet_nil ?_); (refine wpSome_one ?_; go_big_quiet_step (fail); refine wpQuiet_nil ?_); (refine wpSome_one ?_; go_big_quiet_step (fail); refine wpQuiet_nil ?_); (refine wpSome_one ?_; go_big_quiet_step (fail); refine wpQuiet_nil ?_); (refine wpSome_one ?_; go_big_quiet_step (fail); refine wpQuiet_nil ?_); refine wpSome_nil ?_; intro w' hw'; obtain ⟨nq, rfl⟩ := hw') | (refine wp_some_lit (by kernel_rfl) (by kernel_rfl) ?_; (refine wpSome_one ?_; go_big_quiet_step (fail); refine wpQuiet_nil ?_); (refine wpSome_one ?_; go_big_quiet_step (fail); refine wpQuiet_nil ?_); (refine wpSome_one ?_; go_big_quiet_step (fail); refine wpQuiet_nil ?_); (refine wpSome_one ?_; go_big_quiet_step (fail); refine wpQuiet_nil ?_); (refine wpSome_one ?_; go_big_quiet_step (fail); refine wpQuiet_nil ?_); (refine wpSome_one ?_; go_big_quiet_step (fail); refine wpQuiet_nil ?_); (refine wpSome_one ?_; go_big_quiet_step (fail); refine wpQuiet_nil ?_); (refine wpSome_one ?_; go_big_quiet_step (fail); refine wpQuiet_nil ?_); (refine wpSome_one ?_; go_big_quiet_step (fail); refine wpQuiet_nil ?_); (refine wpSome_one ?_; go_big_quiet_step (fail); refine wpQuiet_nil ?_); (refine wpSome_one ?_; go_big_quiet_step (fail); refine wpQuiet_nil ?_); (refine wpSome_one ?_; go_big_quiet_step (fail); refine wpQuiet_nil ?_); refine wpSome_nil ?_; intro w' hw'; obtain ⟨nq, rfl⟩ := hw') | (refine wp_some_lit (by kernel_rfl) (by kernel_rfl) ?_; (refine wpSome_one ?_; go_big_quiet_step (fail); refine wpQuiet_nil ?_); (refine wpSome_one ?_; go_big_quiet_step (fail); refine wpQuiet_nil ?_); (refine wpSome_one ?_; go_big_quiet_step (fail); refine wpQuiet_nil ?_); (refine wpSome_one ?_; go_big_quiet_step (fail); refine wpQuiet_nil ?_); (refine wpSome_one ?_; go_big_quiet_step (fail); refine wpQuiet_nil ?_); (refine wpSome_one ?_; go_big_quiet_step (fail); refine wpQuiet_nil ?_); (refine wpSome_one ?_; go_big_quiet_step (fail); refine wpQuiet_nil ?_); (refine wpSome_one ?_; go_big_quiet_step (fail); refine wpQuiet_nil ?_); (refine wpSome_one ?_; go_big_quiet_step (fail); refine wpQuiet_nil ?_); (refine wpSome_one ?_; go_big_quiet_step (fail); refine wpQuiet_nil ?_); refine wpSome_nil ?_; intro w' hw'; obtain ⟨nq, rfl⟩ := hw')); go_wp2_with (first | (with_reducible refine at_list ?_; refine wpList_fop rfl rfl rfl rfl rfl ?_; intro r n hr0; have hr := hr0 _ _ (by first | with_reducible assumption | exact rfl) (by first | with_reducible assumption | exact rfl); clear hr0) | (with_reducible refine at_list ?_; refine wpList_neg rfl rfl rfl ?_; intro r hr0; have hr := hr0 _ (by first | with_reducible assumption | exact rfl); clear hr0) | (with_reducible refine at_list ?_; refine wpList_fop_g rfl rfl rfl rfl rfl ?_; intro r n hr0; have hr := hr0 _ _ (by first | with_reducible assumption | exact rfl) (by first | with_reducible assumption | exact rfl); clear hr0) | (with_reducible refine at_list ?_; refine wpList_wide_g rfl rfl Try.underlying22 Try.underlying40 rfl ?_; intro r n hr0; have hr := hr0 _ (by first | with_reducible assumption | exact rfl); clear hr0) | (with_reducible refine at_list ?_; refine wpList_wide rfl rfl rfl Try.underlying22 Try.underlying40 ?_; intro r n hr0; have hr := hr0 _ (by first | with_reducible assumption | exact rfl); clear hr0))))
    all_goals (try (first | kernel_rfl | rfl))
    all_goals
      go_ret
      obtain ⟨e1, e2, e3⟩ := src_next c0 c1 c2 f1 f2 ⟨⟨hc1, hc2⟩, HV.out⟩ hn ⟨hk0, hk1⟩ (IntKind.u64.wrap (IntKind.u64.wrap (s * 6364136223846793005)) + 1442695040888963407) 0
      obtain ⟨g1, g2⟩ := and255 (IntKind.u64.wrap (IntKind.u64.wrap (IntKind.u64.wrap (s * 6364136223846793005)) + 1442695040888963407) / 1099511627776) (by rw [IntKind.wrap_u64]; omega) (by rw [IntKind.wrap_u64]; omega)
      refine ⟨_, rfl, ?_, ⟨e1.os, e1.tape, e1.output, e1.size, e1.block⟩, e2, e3⟩
      unfold wrap64
      omega
end Go.Proofs.Ytjeeflldbhajiaa
set_option linter.unusedSimpArgs false
set_option linter.unusedVariables false
set_option linter.unusedSectionVars false
namespace Go.Proofs.Ytjeeflldbhajiaa
open Go Go.RowKit
open Go.ChangeShapes Go.WideShapes Go.ChangeAt Go.RowKit Go.Joins
theorem spot_none {w : World} {a : Addr} {v : Value} (h : w.cell? a = some v) : a.spot = none := by
  unfold World.cell? at h
  split at h
  · split at h
    · cases h
    · rename_i hs; simpa using hs
  · cases h
section
variable {H : Type} {enc : TypeId × Value → H} {P : Program} {w : World} {base : Nat} {spare : Nat → Bool} {held : Bool}
end
section
variable {H : Type} {enc : TypeId × Value → H} {w : World} {base : Nat} {spare : Nat → Bool} {held : Bool}
end
section
variable {H : Type} {enc : TypeId × Value → H} {w : World} {base : Nat} {spare : Nat → Bool} {held : Bool}
end
end Go.Proofs.Ytjeeflldbhajiaa

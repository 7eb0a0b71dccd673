/-
  Words of floats as rational numbers: what an operation gives, rounded; bounds that are kept. No condition but what each law says.
-/
import Derived.Test.YtldancjofgobnaaRnd
import Derived.Test.YtldancjofgobnaaFw
set_option linter.unusedSimpArgs false
set_option linter.unusedVariables false
set_option linter.unusedSectionVars false
namespace Go.Proofs.Ytldancjofgobnaa
open Go Go.RowKit
/-- A finite word. -/
def fnt (k : FloatKind) (x : Nat) : Bool := isNum (k.format.read x)
/-- Its value. -/
def fv (k : FloatKind) (x : Nat) : Rat := dv (k.format.read x)
theorem fmt_exp (k : FloatKind) : 4 ≤ 2 ^ k.format.exponentBits := by cases k <;> decide
def topK : FloatKind → Int
  | .f32 => 128
  | .f64 => 1024
def lowK : FloatKind → Int
  | .f32 => -149
  | .f64 => -1074
def digK : FloatKind → Nat
  | .f32 => 23
  | .f64 => 52
theorem top_eq (k : FloatKind) : top k.format = topK k := by cases k <;> decide
theorem low_eq (k : FloatKind) : k.format.leastPlace = lowK k := by cases k <;> decide
theorem dig_eq (k : FloatKind) : k.format.fractionBits = digK k := by cases k <;> rfl
/-- The exact operation. -/
def ex (op : BinOp) (a b : Rat) : Rat := match op with | .add => a + b | .sub => a - b | .mul => a * b | .quo => a / b | _ => 0
theorem fop_rnd (op : BinOp) (hop : arithOp op = true) (k : FloatKind) {x y : Nat} (hx : fnt k x = true) (hy : fnt k y = true) (h0 : op = .quo → fv k y ≠ 0) (Q : Int) (hQ : Q < topK k) (h1 : ex op (fv k x) (fv k y) ≤ tp Q) (h2 : -ex op (fv k x) (fv k y) ≤ tp Q) :
    fnt k (fop op k x y) = true ∧ Rnd k.format (ex op (fv k x) (fv k y)) (fv k (fop op k x y)) := by
  have hQ' : Q < top k.format := by rw [top_eq]; exact hQ
  have he := fmt_exp k
  unfold fnt at hx hy
  unfold fv at h0 h1 h2 ⊢
  unfold fnt fop
  cases op <;> simp [arithOp] at hop
  · -- add
    have h : ∃ d, (k.format.read x).sum (k.format.read y) = some d := by
      cases h3 : k.format.read x <;> rw [h3] at hx <;> first | cases hx | skip
      cases h4 : k.format.read y <;> rw [h4] at hy <;> first | cases hy | skip
      exact ⟨_, rfl⟩
    obtain ⟨d, hd⟩ := h
    have hb : floatBits .add k x y = some (k.format.write d) := by simp [floatBits, Ieee.Format.add, hd]
    rw [hb, Option.getD_some]
    obtain ⟨g1, g2⟩ := sum_val hx hy hd
    have e : ex .add (dv (k.format.read x)) (dv (k.format.read y)) = dv d := g2.symm
    rw [e] at h1 h2 ⊢
    exact write_rnd k.format d g1 he Q hQ' h1 h2
  · -- sub
    have hy' := opposite_val hy
    have h : ∃ d, (k.format.read x).sum (k.format.read y).opposite = some d := by
      cases h3 : k.format.read x <;> rw [h3] at hx <;> first | cases hx | skip
      cases h4 : k.format.read y <;> rw [h4] at hy <;> first | cases hy | skip
      exact ⟨_, rfl⟩
    obtain ⟨d, hd⟩ := h
    have hb : floatBits .sub k x y = some (k.format.write d) := by simp [floatBits, Ieee.Format.sub, hd]
    rw [hb, Option.getD_some]
    obtain ⟨g1, g2⟩ := sum_val hx hy'.1 hd
    have e : ex .sub (dv (k.format.read x)) (dv (k.format.read y)) = dv d := by rw [g2, hy'.2, ex, Rat.sub_eq_add_neg]
    rw [e] at h1 h2 ⊢
    exact write_rnd k.format d g1 he Q hQ' h1 h2
  · -- mul
    have h : ∃ d, (k.format.read x).product (k.format.read y) = some d := by
      cases h3 : k.format.read x <;> rw [h3] at hx <;> first | cases hx | skip
      cases h4 : k.format.read y <;> rw [h4] at hy <;> first | cases hy | skip
      exact ⟨_, rfl⟩
    obtain ⟨d, hd⟩ := h
    have hb : floatBits .mul k x y = some (k.format.write d) := by simp [floatBits, Ieee.Format.mul, hd]
    rw [hb, Option.getD_some]
    obtain ⟨g1, g2⟩ := product_val hx hy hd
    have e : ex .mul (dv (k.format.read x)) (dv (k.format.read y)) = dv d := g2.symm
    rw [e] at h1 h2 ⊢
    exact write_rnd k.format d g1 he Q hQ' h1 h2
  · -- quo
    have hn0 := h0 rfl
    have h : ∃ d, (k.format.read x).quotient (k.format.fractionBits + 2) (k.format.read y) = some d := by
      cases h3 : k.format.read x <;> rw [h3] at hx <;> first | cases hx | skip
      cases h4 : k.format.read y <;> rw [h4] at hy <;> first | cases hy | skip
      rw [h4] at hn0
      have hnz := dv_zero hn0
      exact ⟨_, by simp only [Ieee.Datum.quotient, if_neg hnz]; rfl⟩
    obtain ⟨d, hd⟩ := h
    have hb : floatBits .quo k x y = some (k.format.write d) := by simp [floatBits, Ieee.Format.div, hd]
    rw [hb, Option.getD_some]
    exact div_rnd k.format hx hy hn0 he hd Q hQ' h1 h2

/-- A number that a format has. -/
def Rep (k : FloatKind) (c : Rat) : Prop := (∃ z q : Int, z.natAbs < 2 ^ (digK k + 1) ∧ lowK k ≤ q ∧ c = z * tp q) ∧ c ≤ tp (topK k - 1) ∧ -c ≤ tp (topK k - 1)
theorem Rnd.rep_le {k : FloatKind} {v r c : Rat} (h : Rnd k.format v r) (hc : Rep k c) (hv : v ≤ c) : r ≤ c := by
  obtain ⟨⟨z, q, h1, h2, rfl⟩, _⟩ := hc
  exact h.le (by rw [dig_eq]; exact h1) (by rw [low_eq]; exact h2) hv
theorem Rnd.rep_ge {k : FloatKind} {v r c : Rat} (h : Rnd k.format v r) (hc : Rep k c) (hv : c ≤ v) : c ≤ r := by
  obtain ⟨⟨z, q, h1, h2, rfl⟩, _⟩ := hc
  exact h.ge (by rw [dig_eq]; exact h1) (by rw [low_eq]; exact h2) hv
theorem Rep.neg {k : FloatKind} {c : Rat} (h : Rep k c) : Rep k (-c) := by
  obtain ⟨⟨z, q, h1, h2, rfl⟩, h3, h4⟩ := h
  exact ⟨⟨-z, q, by omega, h2, by rw [Rat.intCast_neg]; grind⟩, h4, by rw [Rat.neg_neg]; exact h3⟩
theorem Rep.int {k : FloatKind} (z : Int) (h : z.natAbs < 2 ^ (digK k + 1)) : Rep k (z : Rat) := by
  have h1 : (z : Rat) ≤ ((2 ^ (digK k + 1) : Nat) : Rat) := by
    have : z ≤ ((2 ^ (digK k + 1) : Nat) : Int) := by omega
    exact_mod_cast this
  have h2 : -(z : Rat) ≤ ((2 ^ (digK k + 1) : Nat) : Rat) := by
    have : -z ≤ ((2 ^ (digK k + 1) : Nat) : Int) := by omega
    exact_mod_cast this
  have h3 : ((2 ^ (digK k + 1) : Nat) : Rat) ≤ tp (topK k - 1) := by rw [← tp_nat]; exact tp_le (by cases k <;> decide)
  exact ⟨⟨z, 0, h, by cases k <;> decide, by rw [tp_zero, Rat.mul_one]⟩, Rat.le_trans h1 h3, Rat.le_trans h2 h3⟩
theorem Rep.nat {k : FloatKind} (n : Nat) (h : n < 2 ^ (digK k + 1)) : Rep k (n : Rat) := by
  have := Rep.int (k := k) (n : Int) (by omega)
  rwa [Rat.intCast_natCast] at this
theorem Rep.tp {k : FloatKind} (q : Int) (h1 : lowK k ≤ q) (h2 : q < topK k) : Rep k (tp q) := by
  have h3 := tp_pos q
  have h4 := tp_pos (topK k - 1)
  exact ⟨⟨1, q, by cases k <;> decide, h1, by simp⟩, tp_le (by omega), by grind⟩
theorem Rep.mul_tp {k : FloatKind} (z q : Int) (h : z.natAbs < 2 ^ (digK k + 1)) (h1 : lowK k ≤ q) (h2 : q + digK k + 1 < topK k) : Rep k (z * Go.Proofs.Ytldancjofgobnaa.tp q) := by
  have hq := tp_pos q
  have e : ((2 ^ (digK k + 1) : Nat) : Rat) * Go.Proofs.Ytldancjofgobnaa.tp q ≤ Go.Proofs.Ytldancjofgobnaa.tp (topK k - 1) := by
    rw [← tp_nat, ← tp_add]; exact tp_le (by omega)
  have a1 : (z : Rat) ≤ ((2 ^ (digK k + 1) : Nat) : Rat) := by
    have : z ≤ ((2 ^ (digK k + 1) : Nat) : Int) := by omega
    exact_mod_cast this
  have a2 : -(z : Rat) ≤ ((2 ^ (digK k + 1) : Nat) : Rat) := by
    have : -z ≤ ((2 ^ (digK k + 1) : Nat) : Int) := by omega
    exact_mod_cast this
  have b1 := Rat.mul_le_mul_of_nonneg_right a1 (Rat.le_of_lt hq)
  have b2 := Rat.mul_le_mul_of_nonneg_right a2 (Rat.le_of_lt hq)
  exact ⟨⟨z, q, h, h1, rfl⟩, by grind, by grind⟩
/-- Between two numbers. -/
def Btw (k : FloatKind) (x : Nat) (a b : Rat) : Prop := fnt k x = true ∧ a ≤ fv k x ∧ fv k x ≤ b
theorem fop_btw (op : BinOp) (hop : arithOp op = true) (k : FloatKind) {x y : Nat} {a b : Rat} (hx : fnt k x = true) (hy : fnt k y = true) (h0 : op = .quo → fv k y ≠ 0) (ha : Rep k a) (hb : Rep k b) (h1 : a ≤ ex op (fv k x) (fv k y)) (h2 : ex op (fv k x) (fv k y) ≤ b) : Btw k (fop op k x y) a b := by
  have h3 := ha.2.2
  have h4 := hb.2.1
  obtain ⟨g1, g2⟩ := fop_rnd op hop k hx hy h0 (topK k - 1) (by omega) (by grind) (by grind)
  exact ⟨g1, g2.rep_ge ha h1, g2.rep_le hb h2⟩
/-- At most so great. -/
def Bnd (k : FloatKind) (x : Nat) (b : Rat) : Prop := fnt k x = true ∧ -b ≤ fv k x ∧ fv k x ≤ b
theorem Bnd.btw {k : FloatKind} {x : Nat} {b : Rat} (h : Btw k x (-b) b) : Bnd k x b := h
theorem Bnd.mono {k : FloatKind} {x : Nat} {b c : Rat} (h : Bnd k x b) (hc : b ≤ c) : Bnd k x c := ⟨h.1, by have := h.2.1; grind, by have := h.2.2; grind⟩
theorem Bnd.nonneg {k : FloatKind} {x : Nat} {b : Rat} (h : Bnd k x b) : 0 ≤ b := by have := h.2.1; have := h.2.2; grind
theorem mul_bd {a b x y : Rat} (h1 : -a ≤ x) (h2 : x ≤ a) (h3 : -b ≤ y) (h4 : y ≤ b) : -(a * b) ≤ x * y ∧ x * y ≤ a * b := by
  have p1 := Rat.mul_nonneg (show 0 ≤ a - x by grind) (show 0 ≤ b - y by grind)
  have p2 := Rat.mul_nonneg (show 0 ≤ a + x by grind) (show 0 ≤ b + y by grind)
  have p3 := Rat.mul_nonneg (show 0 ≤ a - x by grind) (show 0 ≤ b + y by grind)
  have p4 := Rat.mul_nonneg (show 0 ≤ a + x by grind) (show 0 ≤ b - y by grind)
  constructor <;> grind
theorem Bnd.mul {k : FloatKind} {x y : Nat} {a b c : Rat} (hx : Bnd k x a) (hy : Bnd k y b) (hc : Rep k c) (h : a * b ≤ c) : Bnd k (fop .mul k x y) c := by
  have := mul_bd hx.2.1 hx.2.2 hy.2.1 hy.2.2
  exact Bnd.btw (fop_btw .mul rfl k hx.1 hy.1 (by simp) hc.neg hc (by simp only [ex]; grind) (by simp only [ex]; grind))
theorem Bnd.add {k : FloatKind} {x y : Nat} {a b c : Rat} (hx : Bnd k x a) (hy : Bnd k y b) (hc : Rep k c) (h : a + b ≤ c) : Bnd k (fop .add k x y) c := by
  have h1 := hx.2; have h2 := hy.2
  exact Bnd.btw (fop_btw .add rfl k hx.1 hy.1 (by simp) hc.neg hc (by simp only [ex]; grind) (by simp only [ex]; grind))
theorem Bnd.sub {k : FloatKind} {x y : Nat} {a b c : Rat} (hx : Bnd k x a) (hy : Bnd k y b) (hc : Rep k c) (h : a + b ≤ c) : Bnd k (fop .sub k x y) c := by
  have h1 := hx.2; have h2 := hy.2
  exact Bnd.btw (fop_btw .sub rfl k hx.1 hy.1 (by simp) hc.neg hc (by simp only [ex]; grind) (by simp only [ex]; grind))
/-- By a number that is at least d. -/
theorem Bnd.div {k : FloatKind} {x y : Nat} {a c d : Rat} (hx : Bnd k x a) (hy : fnt k y = true) (hd : 0 < d) (hyd : d ≤ fv k y) (hc : Rep k c) (h : a ≤ c * d) : Bnd k (fop .quo k x y) c := by
  have h1 := hx.2
  have hy0 : 0 < fv k y := by grind
  have hne : fv k y ≠ 0 := by grind
  have e : fv k x / fv k y * fv k y = fv k x := by grind
  have hc0 : 0 ≤ c := by
    have := hx.nonneg
    by_cases h0 : 0 ≤ c
    · exact h0
    · have := Rat.mul_pos (show 0 < -c by grind) hd
      grind
  have h2 := Rat.mul_le_mul_of_nonneg_left hyd hc0
  exact Bnd.btw (fop_btw .quo rfl k hx.1 hy (fun _ => hne) hc.neg hc
    (by simp only [ex]; exact Rat.le_of_mul_le_mul_right (c := fv k y) (by grind) hy0)
    (by simp only [ex]; exact Rat.le_of_mul_le_mul_right (c := fv k y) (by grind) hy0))
/-! ### Order -/
theorem ordv (k : FloatKind) {x y : Nat} (hx : fnt k x = true) (hy : fnt k y = true) : (k.format.order x y = some .lt ∧ fv k x < fv k y) ∨ (k.format.order x y = some .eq ∧ fv k x = fv k y) ∨ (k.format.order x y = some .gt ∧ fv k y < fv k x) := by
  unfold fnt at hx hy
  unfold fv Ieee.Format.order
  cases h3 : k.format.read x with
  | number s m i =>
    cases h4 : k.format.read y with
    | number t n j =>
      simp only [Ieee.Datum.order]
      obtain ⟨a, ha⟩ : ∃ a : Nat, i = min i j + a := ⟨(i - min i j).toNat, by omega⟩
      obtain ⟨b, hb⟩ : ∃ b : Nat, j = min i j + b := ⟨(j - min i j).toNat, by omega⟩
      have ea : (i - min i j).toNat = a := by omega
      have eb : (j - min i j).toNat = b := by omega
      rw [ea, eb]
      have hs := signed_val s m a
      have ht := signed_val t n b
      generalize Ieee.signed s m a = A at hs ⊢
      generalize Ieee.signed t n b = B at ht ⊢
      generalize min i j = base at *
      have hp := tp_pos base
      have e1 : dv (.number s m i) = ((A : Int) : Rat) * tp base := by
        rw [hs, ha]; simp only [dv]; rw [tp_add]; grind
      have e2 : dv (.number t n j) = ((B : Int) : Rat) * tp base := by
        rw [ht, hb]; simp only [dv]; rw [tp_add]; grind
      rw [e1, e2]
      rcases Int.lt_trichotomy A B with h | h | h
      · left
        refine ⟨by rw [Int.compare_eq_lt.2 h], ?_⟩
        exact Rat.mul_lt_mul_of_pos_right (by exact_mod_cast h) hp
      · right; left
        subst h
        exact ⟨by rw [Int.compare_eq_eq.2 rfl], rfl⟩
      · right; right
        refine ⟨by rw [Int.compare_eq_gt.2 h], ?_⟩
        exact Rat.mul_lt_mul_of_pos_right (by exact_mod_cast h) hp
    | infinity => rw [h4] at hy; cases hy
    | nan => rw [h4] at hy; cases hy
  | infinity => rw [h3] at hx; cases hx
  | nan => rw [h3] at hx; cases hx
theorem fltv {k : FloatKind} {x y : Nat} (hx : fnt k x = true) (hy : fnt k y = true) : flt k x y = decide (fv k x < fv k y) := by
  unfold flt
  rcases ordv k hx hy with ⟨h, h'⟩ | ⟨h, h'⟩ | ⟨h, h'⟩ <;> rw [h]
  · simp [h']
  · rw [h']; simp [Rat.lt_irrefl]
  · have : ¬ fv k x < fv k y := by grind
    simp [this]
theorem flev {k : FloatKind} {x y : Nat} (hx : fnt k x = true) (hy : fnt k y = true) : fle k x y = decide (fv k x ≤ fv k y) := by
  unfold fle
  rcases ordv k hx hy with ⟨h, h'⟩ | ⟨h, h'⟩ | ⟨h, h'⟩ <;> rw [h]
  · have : fv k x ≤ fv k y := by grind
    simp [this]
  · rw [h']; simp [Rat.le_refl]
  · have : ¬ fv k x ≤ fv k y := by grind
    simp [this]
theorem fgtv {k : FloatKind} {x y : Nat} (hx : fnt k x = true) (hy : fnt k y = true) : fgt k x y = decide (fv k y < fv k x) := by
  unfold fgt
  rcases ordv k hx hy with ⟨h, h'⟩ | ⟨h, h'⟩ | ⟨h, h'⟩ <;> rw [h]
  · have : ¬ fv k y < fv k x := by grind
    simp [this]
  · rw [h']; simp [Rat.lt_irrefl]
  · simp [h']
theorem fgev {k : FloatKind} {x y : Nat} (hx : fnt k x = true) (hy : fnt k y = true) : fge k x y = decide (fv k y ≤ fv k x) := by
  unfold fge
  rcases ordv k hx hy with ⟨h, h'⟩ | ⟨h, h'⟩ | ⟨h, h'⟩ <;> rw [h]
  · have : ¬ fv k y ≤ fv k x := by grind
    simp [this]
  · rw [h']; simp [Rat.le_refl]
  · have : fv k y ≤ fv k x := by grind
    simp [this]
theorem feqv {k : FloatKind} {x y : Nat} (hx : fnt k x = true) (hy : fnt k y = true) : feq k x y = decide (fv k x = fv k y) := by
  unfold feq
  rcases ordv k hx hy with ⟨h, h'⟩ | ⟨h, h'⟩ | ⟨h, h'⟩ <;> rw [h]
  · have : ¬ fv k x = fv k y := by grind
    simp [this]
  · simp [h']
  · have : ¬ fv k x = fv k y := by grind
    simp [this]
theorem fnt_not_nan {k : FloatKind} {x : Nat} (h : fnt k x = true) : isN k x = false := by
  unfold fnt at h
  unfold isN FloatKind.decode
  cases h3 : k.format.read x <;> rw [h3] at h <;> first | rfl | cases h
theorem fnt_cn {k : FloatKind} {x : Nat} (h : fnt k x = true) : cn k x = x := cn_of_not (fnt_not_nan h)
/-! ### The opposite, conversions -/
theorem read_neg (k : FloatKind) (b : Nat) : k.format.read (Op.negFloat k b) = (k.format.read b).opposite := by
  have key : ∀ (f : Ieee.Format), f.read (b ^^^ 2 ^ (f.exponentBits + f.fractionBits)) = (f.read b).opposite := by
    intro f
    have e : (b ^^^ 2 ^ (f.exponentBits + f.fractionBits)) % f.signWeight = b % f.signWeight := by
      unfold Ieee.Format.signWeight
      rw [Nat.xor_mod_two_pow, Nat.mod_self, Nat.xor_zero]
    have e2 : ((b ^^^ 2 ^ (f.exponentBits + f.fractionBits)) / f.signWeight % 2 == 1) = !(b / f.signWeight % 2 == 1) := by
      unfold Ieee.Format.signWeight
      rw [← Nat.shiftRight_eq_div_pow, ← Nat.shiftRight_eq_div_pow, Nat.shiftRight_xor_distrib, Nat.shiftRight_eq_div_pow (2 ^ _), Nat.div_self (Nat.two_pow_pos _)]
      generalize b >>> (f.exponentBits + f.fractionBits) = c
      rcases Nat.mod_two_eq_zero_or_one c with h | h
      · have : (c ^^^ 1) % 2 = 1 := by rw [show (2 : Nat) = 2 ^ 1 from rfl, Nat.xor_mod_two_pow]; rw [show (2 : Nat) ^ 1 = 2 from rfl, h]; rfl
        rw [h, this]; rfl
      · have : (c ^^^ 1) % 2 = 0 := by rw [show (2 : Nat) = 2 ^ 1 from rfl, Nat.xor_mod_two_pow]; rw [show (2 : Nat) ^ 1 = 2 from rfl, h]; rfl
        rw [h, this]; rfl
    unfold Ieee.Format.read
    simp only [e, e2]
    split
    · rfl
    · split
      · rfl
      · split <;> rfl
  cases k <;> exact key _
theorem fneg_val {k : FloatKind} {x : Nat} (h : fnt k x = true) : fnt k (fneg k x) = true ∧ fv k (fneg k x) = -fv k x := by
  have hn := fnt_not_nan h
  unfold fneg fnt fv
  rw [if_neg (by rw [hn]; decide), read_neg]
  exact opposite_val h
theorem Bnd.neg {k : FloatKind} {x : Nat} {b : Rat} (h : Bnd k x b) : Bnd k (fneg k x) b := by
  obtain ⟨h1, h2⟩ := fneg_val h.1
  have h3 := h.2
  exact ⟨h1, by grind, by grind⟩
theorem read_bd (f : Ieee.Format) {x : Nat} {s : Bool} {m : Nat} {p : Int} (h : f.read x = .number s m p) : m < 2 ^ (f.fractionBits + 1) ∧ f.leastPlace ≤ p ∧ p ≤ f.leastPlace + (2 ^ f.exponentBits : Nat) := by
  have hb : 0 < f.binade := binade_pos' f
  have e2 : 2 ^ (f.fractionBits + 1) = 2 * f.binade := by unfold Ieee.Format.binade; rw [Nat.pow_succ]; omega
  have hE : f.infRung / f.binade = 2 ^ f.exponentBits - 1 := by unfold Ieee.Format.infRung; exact Nat.mul_div_cancel _ hb
  have hE0 : (0 : Int) < ((2 ^ f.exponentBits : Nat) : Int) := by exact_mod_cast Nat.two_pow_pos f.exponentBits
  unfold Ieee.Format.read at h
  simp only at h
  split at h
  · injection h with h1 h2 h3
    omega
  · split at h
    · rename_i h4 h5
      injection h with h1 h2 h3
      have := Nat.mod_lt (x % f.signWeight) hb
      have h6 : x % f.signWeight / f.binade ≤ f.infRung / f.binade := Nat.div_le_div_right (Nat.le_of_lt h5)
      rw [hE] at h6
      generalize 2 ^ f.exponentBits = E at *
      generalize x % f.signWeight / f.binade = y at *
      omega
    · split at h <;> exact absurd h (by simp)
theorem wide_val {x : Nat} (h : fnt .f32 x = true) : fnt .f64 (wide x) = true ∧ fv .f64 (wide x) = fv .f32 x := by
  have hn := fnt_not_nan h
  unfold wide
  rw [if_neg (by rw [hn]; decide)]
  unfold fnt at h
  cases h3 : FloatKind.f32.format.read x with
  | number s m p =>
    obtain ⟨b1, b2, b3⟩ := read_bd _ h3
    have e1 : FloatKind.f32.format.fractionBits = 23 := rfl
    have e2 : FloatKind.f32.format.leastPlace = -149 := by decide
    have e3 : FloatKind.f32.format.exponentBits = 8 := rfl
    rw [e1] at b1
    rw [e2] at b2 b3
    rw [e3] at b3
    have ed : FloatKind.f32.decode x = .number s m p := h3
    have hm0 : (0 : Rat) ≤ m := by exact_mod_cast Nat.zero_le m
    have hm1 : (m : Rat) ≤ ((2 ^ 24 : Nat) : Rat) := by exact_mod_cast Nat.le_of_lt b1
    have hp := tp_pos p
    have hup : (m : Rat) * tp p ≤ tp 1023 := by
      have a1 := Rat.mul_le_mul_of_nonneg_right hm1 (Rat.le_of_lt hp)
      have a2 : ((2 ^ 24 : Nat) : Rat) * tp p ≤ tp 1023 := by rw [← tp_nat, ← tp_add]; exact tp_le (by omega)
      exact Rat.le_trans a1 a2
    have hlo := Rat.mul_nonneg hm0 (Rat.le_of_lt hp)
    have hpp := tp_pos 1023
    have hsg : dv (.number s m p) ≤ tp 1023 ∧ -dv (.number s m p) ≤ tp 1023 := by
      simp only [dv]
      rcases abs_sg s ((m : Rat) * tp p) with ⟨e, _⟩ | ⟨e, _⟩ <;> rw [e] <;> constructor <;> grind
    have key := write_rnd FloatKind.f64.format (.number s m p) rfl (fmt_exp .f64) 1023 (by rw [top_eq]; decide) hsg.1 hsg.2
    have e4 : fv .f32 x = dv (.number s m p) := by unfold fv; rw [h3]
    rw [e4, ed]
    refine ⟨key.1, ?_⟩
    have e5 : dv (.number s m p) = ((if s then -(m : Int) else m : Int) : Rat) * tp p := by
      cases s
      · rw [if_neg (by decide), Rat.intCast_natCast]; simp [dv, sg]
      · rw [if_pos rfl, Rat.intCast_neg, Rat.intCast_natCast]; simp only [dv, sg]; grind
    refine key.2.eq (z := if s then -(m : Int) else m) (q := p) ?_ (by rw [low_eq]; show (-1074 : Int) ≤ p; omega) e5
    rw [dig_eq]
    show _ < 2 ^ 53
    split <;> omega
  | infinity => rw [h3] at h; cases h
  | nan => rw [h3] at h; cases h
theorem narrow_val {x : Nat} (h : fnt .f64 x = true) (Q : Int) (hQ : Q < 128) (h1 : fv .f64 x ≤ tp Q) (h2 : -fv .f64 x ≤ tp Q) : fits x = true ∧ fnt .f32 (narrow x) = true ∧ Rnd Ieee.single (fv .f64 x) (fv .f32 (narrow x)) := by
  have hn := fnt_not_nan h
  have hd : isNum (FloatKind.f64.decode x) = true := h
  have key := write_rnd FloatKind.f32.format (FloatKind.f64.decode x) hd (fmt_exp .f32) Q (by rw [top_eq]; exact hQ) h1 h2
  unfold narrow
  rw [if_neg (by rw [hn]; decide)]
  refine ⟨?_, key.1, key.2⟩
  unfold fits
  have : (FloatKind.f32.decode (FloatKind.f32.encode (FloatKind.f64.decode x))).isInfinity = false := by
    have k1 := key.1
    show Ieee.Datum.isInfinity (FloatKind.f32.format.read _) = false
    unfold FloatKind.encode
    generalize FloatKind.f32.format.read (FloatKind.f32.format.write (FloatKind.f64.decode x)) = dd at k1 ⊢
    cases dd <;> first | rfl | (cases k1; done)
  rw [this]; simp
theorem narrow_bnd {x : Nat} {b : Rat} (h : Bnd .f64 x b) (hb : Rep .f32 b) : fits x = true ∧ Bnd .f32 (narrow x) b := by
  have h3 := hb.2.1
  have h4 := h.2
  obtain ⟨g1, g2, g3⟩ := narrow_val h.1 127 (by decide) (by have : topK .f32 - 1 = 127 := rfl; rw [this] at h3; grind) (by have : topK .f32 - 1 = 127 := rfl; rw [this] at h3; grind)
  have g4 : Rnd FloatKind.f32.format (fv .f64 x) (fv .f32 (narrow x)) := g3
  exact ⟨g1, g2, g4.rep_ge hb.neg h4.1, g4.rep_le hb h4.2⟩
/-- A word whose datum is known. -/
theorem fv_of {k : FloatKind} {x : Nat} {s : Bool} {m : Nat} {p : Int} (h : k.format.read x = .number s m p) : fnt k x = true ∧ fv k x = sg s * ((m : Rat) * tp p) := by
  unfold fnt fv; rw [h]; exact ⟨rfl, rfl⟩
end Go.Proofs.Ytldancjofgobnaa

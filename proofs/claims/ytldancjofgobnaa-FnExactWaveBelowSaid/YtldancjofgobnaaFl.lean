/-
  What Go's operations on floats give, all NaNs taken as one word, as plain functions of the operands' words; the walk's laws for them, in a list of operations and in a region that draws its order. No condition but what each law says.
-/
import Derived.Test.YtldancjofgobnaaReg
set_option linter.unusedSimpArgs false
set_option linter.unusedVariables false
set_option linter.unusedSectionVars false
namespace Go.Proofs.Ytldancjofgobnaa
open Go Go.RowKit

theorem isN_qn (k : FloatKind) : isN k (qn k) = true := by cases k <;> decide +kernel
theorem cn_of_isN {k : FloatKind} {b : Nat} (h : isN k b = true) : cn k b = qn k := by simp [cn, h]
theorem cn_of_not {k : FloatKind} {b : Nat} (h : isN k b = false) : cn k b = b := by simp [cn, h]
theorem isN_cn (k : FloatKind) (b : Nat) : isN k (cn k b) = isN k b := by
  by_cases h : isN k b = true
  · rw [cn_of_isN h, isN_qn, h]
  · rw [cn_of_not (by simpa using h)]
theorem cn_cn (k : FloatKind) (b : Nat) : cn k (cn k b) = cn k b := by
  by_cases h : isN k b = true
  · rw [cn_of_isN h, cn_of_isN (isN_qn k)]
  · rw [cn_of_not (b := cn k b) (by rw [isN_cn]; simpa using h)]

theorem decode_nan {k : FloatKind} {b : Nat} (h : isN k b = true) : ∃ s t, k.format.read b = .nan s t := by
  unfold isN FloatKind.decode at h
  cases hd : k.format.read b <;> rw [hd] at h <;> simp [Ieee.Datum.isNaN] at h
  exact ⟨_, _, rfl⟩

theorem order_nan_l {k : FloatKind} {x y : Nat} (h : isN k x = true) : k.format.order x y = none := by
  obtain ⟨s, t, e⟩ := decode_nan h
  simp [Ieee.Format.order, e, Ieee.Datum.order]
theorem order_nan_r {k : FloatKind} {x y : Nat} (h : isN k y = true) : k.format.order x y = none := by
  obtain ⟨s, t, e⟩ := decode_nan h
  simp only [Ieee.Format.order, e]
  cases k.format.read x <;> rfl
theorem order_cn (k : FloatKind) (x y : Nat) : k.format.order (cn k x) (cn k y) = k.format.order x y := by
  by_cases hx : isN k x = true
  · rw [order_nan_l hx, order_nan_l (by rw [isN_cn]; exact hx)]
  · by_cases hy : isN k y = true
    · rw [order_nan_r hy, order_nan_r (by rw [isN_cn]; exact hy)]
    · rw [cn_of_not (by simpa using hx), cn_of_not (by simpa using hy)]

theorem floatBits_nan_l {op : BinOp} {k : FloatKind} {x y : Nat} (h : isN k x = true) : floatBits op k x y = none := by
  obtain ⟨s, t, e⟩ := decode_nan h
  cases op <;> simp [floatBits, Ieee.Format.add, Ieee.Format.sub, Ieee.Format.mul, Ieee.Format.div, e, Ieee.Datum.sum, Ieee.Datum.product, Ieee.Datum.quotient]
theorem floatBits_nan_r {op : BinOp} {k : FloatKind} {x y : Nat} (h : isN k y = true) : floatBits op k x y = none := by
  obtain ⟨s, t, e⟩ := decode_nan h
  cases op <;> simp only [floatBits, Ieee.Format.add, Ieee.Format.sub, Ieee.Format.mul, Ieee.Format.div, e, Ieee.Datum.opposite] <;> cases k.format.read x <;> rfl
theorem floatBits_cn (op : BinOp) (k : FloatKind) (x y : Nat) : floatBits op k (cn k x) (cn k y) = floatBits op k x y := by
  by_cases hx : isN k x = true
  · rw [floatBits_nan_l hx, floatBits_nan_l (by rw [isN_cn]; exact hx)]
  · by_cases hy : isN k y = true
    · rw [floatBits_nan_r hy, floatBits_nan_r (by rw [isN_cn]; exact hy)]
    · rw [cn_of_not (by simpa using hx), cn_of_not (by simpa using hy)]

theorem binade_pos (f : Ieee.Format) : 0 < f.binade := Nat.two_pow_pos _
/-- A word whose rung is at most infinity's is no NaN. -/
theorem read_word_not_nan (f : Ieee.Format) (neg : Bool) {rung : Nat} (h : rung ≤ f.infRung) : (f.read (f.word neg rung)).isNaN = false := by
  have hlt : f.infRung < f.signWeight := f.infRung_lt
  have e : f.word neg rung % f.signWeight = rung := by
    unfold Ieee.Format.word
    split
    · rw [Nat.add_mod_left, Nat.mod_eq_of_lt (by omega)]
    · rw [Nat.mod_eq_of_lt (by omega)]
  unfold Ieee.Format.read
  simp only [e]
  split
  · rfl
  · split
    · rfl
    · have : rung = f.infRung := by omega
      rw [if_pos this]; rfl

theorem nearest_not_nan (f : Ieee.Format) (neg : Bool) (m : Nat) (p : Int) : (f.read (f.nearest neg m p)).isNaN = false := by
  unfold Ieee.Format.nearest
  split
  · exact read_word_not_nan f _ (Nat.zero_le _)
  · exact read_word_not_nan f _ (Nat.min_le_right ..)

theorem write_not_nan (f : Ieee.Format) {d : Ieee.Datum} (h : d.isNaN = false) : (f.read (f.write d)).isNaN = false := by
  cases d with
  | number => exact nearest_not_nan ..
  | infinity => exact read_word_not_nan f _ (Nat.le_refl _)
  | nan => simp [Ieee.Datum.isNaN] at h

theorem sum_not_nan {x y d : Ieee.Datum} (h : x.sum y = some d) : d.isNaN = false := by
  cases x <;> cases y <;> simp [Ieee.Datum.sum] at h <;> first | (obtain ⟨_, rfl⟩ := h; rfl) | (subst h; rfl)
theorem product_not_nan {x y d : Ieee.Datum} (h : x.product y = some d) : d.isNaN = false := by
  cases x <;> cases y <;> simp [Ieee.Datum.product] at h <;> first | (obtain ⟨_, rfl⟩ := h; rfl) | (subst h; rfl)
theorem quotient_not_nan {n : Nat} {x y d : Ieee.Datum} (h : x.quotient n y = some d) : d.isNaN = false := by
  cases x <;> cases y <;> simp [Ieee.Datum.quotient] at h
  case number.number => split at h <;> (try split at h) <;> simp at h <;> subst h <;> rfl
  all_goals (subst h; rfl)
theorem root_not_nan {n : Nat} {x d : Ieee.Datum} (h : x.root n = some d) : d.isNaN = false := by
  cases x <;> simp [Ieee.Datum.root] at h
  case number => split at h <;> (try split at h) <;> simp at h <;> subst h <;> rfl
  all_goals (obtain ⟨_, h⟩ := h; subst h; rfl)

theorem map_write_not_nan {f : Ieee.Format} {o : Option Ieee.Datum} {r : Nat} (hn : ∀ d, o = some d → d.isNaN = false) (h : o.map f.write = some r) : (f.read r).isNaN = false := by
  cases o with
  | none => cases h
  | some d => cases h; exact write_not_nan f (hn d rfl)

theorem floatBits_not_nan {op : BinOp} {k : FloatKind} {x y r : Nat} (h : floatBits op k x y = some r) : isN k r = false := by
  unfold floatBits at h
  unfold isN FloatKind.decode
  split at h
  · exact map_write_not_nan (fun _ => sum_not_nan) h
  · exact map_write_not_nan (fun _ => sum_not_nan) h
  · exact map_write_not_nan (fun _ => product_not_nan) h
  · exact map_write_not_nan (fun _ => quotient_not_nan) h
  · cases h

/-- '+' ¦ '-' ¦ '*' ¦ '/' on words. -/
def fop (op : BinOp) (k : FloatKind) (x y : Nat) : Nat := (floatBits op k x y).getD (qn k)

theorem cn_fop (op : BinOp) (k : FloatKind) (x y : Nat) : cn k (fop op k x y) = fop op k x y := by
  unfold fop
  cases h : floatBits op k x y with
  | none => exact cn_of_isN (isN_qn k)
  | some r => exact cn_of_not (floatBits_not_nan h)
theorem fop_cn (op : BinOp) (k : FloatKind) (x y : Nat) : fop op k (cn k x) (cn k y) = fop op k x y := by unfold fop; rw [floatBits_cn]

/-- The tape's NaN is one. -/
theorem isN_nanBits (k : FloatKind) (x y t : Nat) : isN k (Question.cut (.nanBits k x y) t) = true := by
  have hw : ∀ (f : Ieee.Format) (_ : f.binade ≤ f.infRung) (s : Bool) (r : Nat), f.infRung < r → r < f.signWeight → (f.read (f.word s r)).isNaN = true := by
    intro f hbi s r h1 h2
    have e : f.word s r % f.signWeight = r := by
      unfold Ieee.Format.word
      split
      · rw [Nat.add_mod_left, Nat.mod_eq_of_lt h2]
      · rw [Nat.mod_eq_of_lt h2]
    unfold Ieee.Format.read
    simp only [e]
    rw [if_neg (by omega), if_neg (by omega), if_neg (by omega)]
    rfl
  unfold isN FloatKind.decode
  cases k with
  | f32 =>
    have h := hw Ieee.single (by decide) (t % 2 == 1) (0x7f800000 + 1 + (t / 2) % (2 ^ 23 - 1)) (by simp [Ieee.Format.infRung, Ieee.single, Ieee.Format.binade]; omega) (by simp [Ieee.Format.signWeight, Ieee.single]; omega)
    have e : Question.cut (.nanBits .f32 x y) t = Ieee.single.word (t % 2 == 1) (0x7f800000 + 1 + (t / 2) % (2 ^ 23 - 1)) := by
      simp only [Question.cut, Ieee.Format.word, Ieee.Format.signWeight, Ieee.single]
      split <;> rename_i hb <;> simp at hb <;> omega
    rw [e]; exact h
  | f64 =>
    have h := hw Ieee.double (by decide) (t % 2 == 1) (0x7ff0000000000000 + 1 + (t / 2) % (2 ^ 52 - 1)) (by simp [Ieee.Format.infRung, Ieee.double, Ieee.Format.binade]; omega) (by simp [Ieee.Format.signWeight, Ieee.double]; omega)
    have e : Question.cut (.nanBits .f64 x y) t = Ieee.double.word (t % 2 == 1) (0x7ff0000000000000 + 1 + (t / 2) % (2 ^ 52 - 1)) := by
      simp only [Question.cut, Ieee.Format.word, Ieee.Format.signWeight, Ieee.double]
      split <;> rename_i hb <;> simp at hb <;> omega
    rw [e]; exact h

end Go.Proofs.Ytldancjofgobnaa

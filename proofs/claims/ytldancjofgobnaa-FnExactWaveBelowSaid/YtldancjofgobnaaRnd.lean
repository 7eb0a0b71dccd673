/-
  What IEEE 754's rounding does to the exact value of a result: the nearest number of a grid that has at least the format's digits. Plain laws on data; no condition but what each law says.
-/
import Derived.Test.YtldancjofgobnaaFin
set_option linter.unusedSimpArgs false
set_option linter.unusedVariables false
set_option linter.unusedSectionVars false
namespace Go.Proofs.Ytldancjofgobnaa
def tp (z : Int) : Rat := (2 : Rat) ^ z
theorem tp_pos (z : Int) : 0 < tp z := Rat.zpow_pos (by decide)
theorem tp_add (a b : Int) : tp (a + b) = tp a * tp b := Rat.zpow_add (by decide) a b
theorem tp_zero : tp 0 = 1 := Rat.zpow_zero 2
theorem tp_one : tp 1 = 2 := Rat.zpow_one 2
theorem tp_nat (n : Nat) : tp n = ((2 ^ n : Nat) : Rat) := by
  unfold tp
  rw [Rat.zpow_natCast, Rat.natCast_pow]; rfl
theorem tp_succ (a : Int) : tp (a + 1) = 2 * tp a := by rw [tp_add, tp_one, Rat.mul_comm]
theorem tp_le {a b : Int} (h : a ≤ b) : tp a ≤ tp b := by
  obtain ⟨n, rfl⟩ : ∃ n : Nat, b = a + n := ⟨(b - a).toNat, by omega⟩
  rw [tp_add, tp_nat]
  have h1 : (1 : Rat) ≤ ((2 ^ n : Nat) : Rat) := by
    have := Nat.one_le_two_pow (n := n)
    exact_mod_cast this
  have h2 := tp_pos a
  have := Rat.mul_le_mul_of_nonneg_left h1 (Rat.le_of_lt h2)
  grind
theorem tp_lt {a b : Int} (h : a < b) : tp a < tp b := by
  have h1 := tp_le (show a + 1 ≤ b by omega)
  have h2 := tp_pos a
  rw [tp_succ] at h1
  grind
theorem lt_of_tp {a b : Int} (h : tp a < tp b) : a < b := by
  by_cases h1 : a < b
  · exact h1
  · have := tp_le (show b ≤ a by omega); grind
theorem le_of_tp {a b : Int} (h : tp a ≤ tp b) : a ≤ b := by
  by_cases h1 : a ≤ b
  · exact h1
  · have := tp_lt (show b < a by omega); grind
/-- to the nearest multiple of a place that has at least f's digits -/
def RndAt (f : Ieee.Format) (last : Int) (v r : Rat) : Prop := ∃ k : Int, f.leastPlace ≤ last ∧ r = (k : Rat) * tp last ∧ 2 * (r - v) ≤ tp last ∧ 2 * (v - r) ≤ tp last ∧ (last = f.leastPlace ∨ tp (last + f.fractionBits) ≤ v ∨ tp (last + f.fractionBits) ≤ -v)
def Rnd (f : Ieee.Format) (v r : Rat) : Prop := ∃ last, RndAt f last v r
theorem mul_cancel_le {a b c : Rat} (h : 0 < c) (h1 : a * c ≤ b * c) : a ≤ b := Rat.le_of_mul_le_mul_right h1 h
theorem rnd_near {v r t : Rat} {k N : Int} (ht : 0 < t) (hr : r = k * t) (h1 : 2 * (r - v) ≤ t) (hv : v ≤ N * t) : r ≤ N * t := by
  by_cases h : k ≤ N
  · rw [hr]
    exact Rat.mul_le_mul_of_nonneg_right (by exact_mod_cast h) (Rat.le_of_lt ht)
  · exfalso
    have h2 : ((N + 1 : Int) : Rat) ≤ (k : Rat) := by exact_mod_cast (by omega : N + 1 ≤ k)
    have h3 := Rat.mul_le_mul_of_nonneg_right h2 (Rat.le_of_lt ht)
    rw [Rat.intCast_add] at h3
    grind
theorem Rnd.le {f : Ieee.Format} {v r : Rat} (h : Rnd f v r) {z q : Int} (hz : z.natAbs < 2 ^ (f.fractionBits + 1)) (hq : f.leastPlace ≤ q) (hv : v ≤ z * tp q) : r ≤ z * tp q := by
  obtain ⟨last, k, hl, hr, h1, h2, h3⟩ := h
  by_cases hlq : last ≤ q
  · obtain ⟨n, rfl⟩ : ∃ n : Nat, q = last + n := ⟨(q - last).toNat, by omega⟩
    have e : (z : Rat) * tp (last + n) = ((z * (2 ^ n : Nat) : Int) : Rat) * tp last := by
      rw [tp_add, tp_nat, Rat.intCast_mul]
      have : (((2 ^ n : Nat) : Int) : Rat) = ((2 ^ n : Nat) : Rat) := Rat.intCast_natCast _
      rw [this]
      grind
    rw [e] at hv ⊢
    exact rnd_near (tp_pos last) hr h1 hv
  · have hb : tp (q + f.fractionBits + 1) ≤ tp (last + f.fractionBits) := tp_le (by omega)
    have e : tp (q + f.fractionBits + 1) = ((2 ^ (f.fractionBits + 1) : Nat) : Rat) * tp q := by
      rw [show q + (f.fractionBits : Int) + 1 = ((f.fractionBits + 1 : Nat) : Int) + q by omega, tp_add, tp_nat]
    have hq0 := tp_pos q
    have hz1 : (z : Rat) < ((2 ^ (f.fractionBits + 1) : Nat) : Rat) := by
      have : z < ((2 ^ (f.fractionBits + 1) : Nat) : Int) := by omega
      have := Rat.intCast_lt_intCast.2 this
      rwa [Rat.intCast_natCast] at this
    have hz2 : -((2 ^ (f.fractionBits + 1) : Nat) : Rat) < (z : Rat) := by
      have : -((2 ^ (f.fractionBits + 1) : Nat) : Int) < z := by omega
      have := Rat.intCast_lt_intCast.2 this
      rwa [Rat.intCast_neg, Rat.intCast_natCast] at this
    have hz3 := Rat.mul_lt_mul_of_pos_right hz1 hq0
    have hz4 := Rat.mul_lt_mul_of_pos_right hz2 hq0
    rcases h3 with h3 | h3 | h3
    · omega
    · exfalso; grind
    · have e2 : tp (last + f.fractionBits) = ((2 ^ f.fractionBits : Nat) : Rat) * tp last := by
        rw [Int.add_comm, tp_add, tp_nat]
      have := rnd_near (N := -((2 ^ f.fractionBits : Nat) : Int)) (tp_pos last) hr h1 (by rw [Rat.intCast_neg, Rat.intCast_natCast]; grind)
      rw [Rat.intCast_neg, Rat.intCast_natCast] at this
      grind
theorem RndAt.neg {f : Ieee.Format} {last : Int} {v r : Rat} (h : RndAt f last v r) : RndAt f last (-v) (-r) := by
  obtain ⟨k, hl, hr, h1, h2, h3⟩ := h
  refine ⟨-k, hl, by rw [hr, Rat.intCast_neg]; grind, by grind, by grind, by grind⟩
theorem Rnd.neg {f : Ieee.Format} {v r : Rat} (h : Rnd f v r) : Rnd f (-v) (-r) := by
  obtain ⟨last, h⟩ := h
  exact ⟨last, h.neg⟩
theorem Rnd.ge {f : Ieee.Format} {v r : Rat} (h : Rnd f v r) {z q : Int} (hz : z.natAbs < 2 ^ (f.fractionBits + 1)) (hq : f.leastPlace ≤ q) (hv : z * tp q ≤ v) : z * tp q ≤ r := by
  have := h.neg.le (z := -z) (by omega) hq (by rw [Rat.intCast_neg]; grind)
  rw [Rat.intCast_neg] at this
  grind
theorem Rnd.eq {f : Ieee.Format} {v r : Rat} (h : Rnd f v r) {z q : Int} (hz : z.natAbs < 2 ^ (f.fractionBits + 1)) (hq : f.leastPlace ≤ q) (hv : v = z * tp q) : r = v := by
  have h1 := h.le hz hq (by grind)
  have h2 := h.ge hz hq (by grind)
  grind

def sg (s : Bool) : Rat := if s then -1 else 1
/-- The value of a datum. -/
def dv : Ieee.Datum → Rat
  | .number s m p => sg s * ((m : Rat) * tp p)
  | _ => 0
theorem rnd_cut (s : Bool) (m d : Nat) : 2 * (Ieee.Toward.even.cut s m d * 2 ^ d) ≤ 2 * m + 2 ^ d ∧ 2 * m ≤ 2 * (Ieee.Toward.even.cut s m d * 2 ^ d) + 2 ^ d := by
  unfold Ieee.Toward.cut
  simp only [Nat.one_shiftLeft]
  by_cases hd : d ≤ m.log2 + 2
  · rw [Nat.min_eq_left hd]
    have hp := Nat.two_pow_pos d
    have hm1 := Nat.div_add_mod m (2 ^ d)
    have hm2 := Nat.mod_lt m hp
    generalize m % 2 ^ d = rest at *
    generalize m / 2 ^ d = low at *
    generalize 2 ^ d = g at *
    rw [Nat.mul_comm] at hm1
    by_cases h1 : g < 2 * rest
    · have e : (decide (g < 2 * rest) || g == 2 * rest && low % 2 == 1) = true := by simp [h1]
      rw [e, Bool.toNat_true, Nat.add_mul]
      omega
    · by_cases h2 : g = 2 * rest ∧ low % 2 = 1
      · have e : (decide (g < 2 * rest) || g == 2 * rest && low % 2 == 1) = true := by simp [h2.1, h2.2]
        rw [e, Bool.toNat_true, Nat.add_mul]
        omega
      · have e : (decide (g < 2 * rest) || g == 2 * rest && low % 2 == 1) = false := by
          simp only [h1, decide_false, Bool.false_or, Bool.and_eq_false_iff, beq_eq_false_iff_ne]
          omega
        rw [e, Bool.toNat_false, Nat.add_zero]
        omega
  · rw [Nat.min_eq_right (by omega)]
    have h2 : m < 2 ^ (m.log2 + 1) := Nat.lt_log2_self
    have h3 : 2 ^ (m.log2 + 2) = 2 * 2 ^ (m.log2 + 1) := by rw [show m.log2 + 2 = (m.log2 + 1) + 1 by omega, Nat.pow_succ]; omega
    have h4 : 2 ^ (m.log2 + 2) ≤ 2 ^ d := Nat.pow_le_pow_right (by omega) (by omega)
    rw [Nat.div_eq_of_lt (by omega), Nat.mod_eq_of_lt (by omega)]
    have e : (decide (2 ^ (m.log2 + 2) < 2 * m) || 2 ^ (m.log2 + 2) == 2 * m && 0 % 2 == 1) = false := by
      simp; omega
    rw [e]
    simp; omega
theorem infRung_lt' (f : Ieee.Format) : f.infRung + f.binade = f.signWeight := by
  unfold Ieee.Format.infRung Ieee.Format.binade Ieee.Format.signWeight
  rw [Nat.pow_add, Nat.sub_mul, Nat.one_mul]
  have : 1 * 2 ^ f.fractionBits ≤ 2 ^ f.exponentBits * 2 ^ f.fractionBits := Nat.mul_le_mul_right _ (Nat.two_pow_pos _)
  omega
theorem binade_pos' (f : Ieee.Format) : 0 < f.binade := Nat.two_pow_pos _
theorem read_wordR (f : Ieee.Format) (s : Bool) {r : Nat} (h : r < f.signWeight) : f.read (f.word s r) = (if r < f.binade then .number s r f.leastPlace else if r < f.infRung then .number s (f.binade + r % f.binade) (f.leastPlace + (r / f.binade - 1 : Nat)) else if r = f.infRung then .infinity s else .nan s (r - f.infRung)) := by
  have hp : 0 < f.signWeight := by have := infRung_lt' f; have := binade_pos' f; omega
  have e1 : f.word s r % f.signWeight = r := by
    unfold Ieee.Format.word
    split
    · rw [Nat.add_mod_left, Nat.mod_eq_of_lt h]
    · exact Nat.mod_eq_of_lt h
  have e2 : (f.word s r / f.signWeight % 2 == 1) = s := by
    unfold Ieee.Format.word
    cases s
    · simp [Nat.div_eq_of_lt h]
    · simp [Nat.add_div_left _ hp, Nat.div_eq_of_lt h]
  unfold Ieee.Format.read
  simp only [e1, e2]
theorem dv_rung (f : Ieee.Format) (s : Bool) (e k : Nat) (h1 : e = 0 ∨ f.binade ≤ k) (h2 : k ≤ 2 * f.binade) (h3 : e * f.binade + k < f.infRung) :
    isNum (f.read (f.word s (e * f.binade + k))) = true ∧ dv (f.read (f.word s (e * f.binade + k))) = sg s * ((k : Rat) * tp (f.leastPlace + e)) := by
  have hb := binade_pos' f
  have hlt : e * f.binade + k < f.signWeight := by have := infRung_lt' f; omega
  rw [read_wordR f s hlt]
  by_cases h4 : e * f.binade + k < f.binade
  · rw [if_pos h4]
    have he : e = 0 := by
      rcases h1 with h1 | h1
      · exact h1
      · omega
    subst he
    simp [isNum, dv]
  · rw [if_neg h4, if_pos h3]
    refine ⟨rfl, ?_⟩
    by_cases h5 : k < f.binade
    · rcases h1 with h1 | h1
      · subst h1; omega
      · omega
    by_cases h6 : k < 2 * f.binade
    · have e1 : (e * f.binade + k) % f.binade = k - f.binade := by
        rw [show e * f.binade + k = (k - f.binade) + f.binade * (e + 1) by rw [Nat.mul_add, Nat.mul_comm]; omega, Nat.add_mul_mod_self_left]
        exact Nat.mod_eq_of_lt (by omega)
      have e2 : (e * f.binade + k) / f.binade = e + 1 := by
        rw [show e * f.binade + k = (k - f.binade) + f.binade * (e + 1) by rw [Nat.mul_add, Nat.mul_comm]; omega, Nat.add_mul_div_left _ _ hb, Nat.div_eq_of_lt (by omega)]
        omega
      rw [e1, e2]
      unfold dv
      rw [show f.binade + (k - f.binade) = k by omega, show e + 1 - 1 = e by omega]
    · have hk : k = 2 * f.binade := by omega
      subst hk
      have e0 : e * f.binade + 2 * f.binade = f.binade * (e + 2) := by rw [Nat.mul_add, Nat.mul_comm, Nat.mul_comm 2]
      rw [e0, Nat.mul_mod_right, Nat.mul_div_cancel_left _ hb]
      have e3 : tp (f.leastPlace + ((e + 2 - 1 : Nat) : Int)) = 2 * tp (f.leastPlace + e) := by
        rw [← tp_succ]; congr 1; omega
      simp only [dv]
      rw [e3, Nat.add_zero, Rat.natCast_mul]
      have : ((2 : Nat) : Rat) = 2 := rfl
      rw [this]
      grind
theorem abs_sg (s : Bool) (x : Rat) : (sg s * x = x ∧ s = false) ∨ (sg s * x = -x ∧ s = true) := by
  cases s
  · left; simp [sg]
  · right; refine ⟨?_, rfl⟩; simp only [sg]; grind
/-- one above the greatest place of a finite number's first digit -/
def top (f : Ieee.Format) : Int := f.leastPlace + (2 ^ f.exponentBits : Nat) - 2 + f.fractionBits
theorem nearest_at (f : Ieee.Format) (s : Bool) (m : Nat) (p : Int) (h2 : 4 ≤ 2 ^ f.exponentBits) (Q : Int) (hQ : Q < top f) (hv : (m : Rat) * tp p ≤ tp Q) :
    isNum (f.read (f.nearest s m p)) = true ∧ ∃ last, (m ≠ 0 → p + m.log2 - f.fractionBits ≤ last) ∧ RndAt f last (sg s * ((m : Rat) * tp p)) (dv (f.read (f.nearest s m p))) := by
  have hb := binade_pos' f
  by_cases hm : m = 0
  · subst hm
    unfold Ieee.Format.nearest
    rw [if_pos rfl]
    have hinf : 0 < f.infRung := by
      unfold Ieee.Format.infRung
      exact Nat.mul_pos (by omega) hb
    have := dv_rung f s 0 0 (.inl rfl) (by omega) (by omega)
    simp only [Nat.zero_mul, Nat.add_zero] at this
    refine ⟨this.1, ?_⟩
    rw [this.2]
    refine ⟨f.leastPlace, fun h => absurd rfl h, 0, Int.le_refl _, ?_, ?_, ?_, .inl rfl⟩
    · simp
    · have := tp_pos f.leastPlace; simp; grind
    · have := tp_pos f.leastPlace; simp; grind
  unfold Ieee.Format.nearest
  rw [if_neg hm]
  simp only
  obtain ⟨last, hlast⟩ : ∃ last, last = max (p + m.log2 - f.fractionBits) f.leastPlace := ⟨_, rfl⟩
  rw [← hlast]
  obtain ⟨kept, hkept⟩ : ∃ kept, kept = Ieee.Toward.even.cut s (m <<< (p - last).toNat) (last - p).toNat := ⟨_, rfl⟩
  rw [← hkept]
  have hge : f.leastPlace ≤ last := by omega
  obtain ⟨e, he⟩ : ∃ e : Nat, last = f.leastPlace + e := ⟨(last - f.leastPlace).toNat, by omega⟩
  have he' : (last - f.leastPlace).toNat = e := by omega
  rw [he']
  -- near
  have hnear : 2 * ((kept : Rat) * tp last) ≤ 2 * ((m : Rat) * tp p) + tp last ∧ 2 * ((m : Rat) * tp p) ≤ 2 * ((kept : Rat) * tp last) + tp last := by
    by_cases hlp : last ≤ p
    · have e1 : (last - p).toNat = 0 := by omega
      have e2 : kept = m * 2 ^ (p - last).toNat := by
        rw [hkept, e1, Nat.shiftLeft_eq]
        simp [Ieee.Toward.cut, Nat.mod_one]
      obtain ⟨n, hn⟩ : ∃ n : Nat, p = last + n := ⟨(p - last).toNat, by omega⟩
      have e3 : (p - last).toNat = n := by omega
      rw [e3] at e2
      rw [e2, hn, tp_add, tp_nat, Rat.natCast_mul]
      have := tp_pos last
      constructor <;> grind
    · obtain ⟨n, hn⟩ : ∃ n : Nat, last = p + n := ⟨(last - p).toNat, by omega⟩
      have e1 : (p - last).toNat = 0 := by omega
      have e3 : (last - p).toNat = n := by omega
      rw [e1, e3, Nat.shiftLeft_zero] at hkept
      have hc := rnd_cut s m n
      rw [← hkept] at hc
      rw [hn, tp_add, tp_nat]
      have c1 : ((2 * (kept * 2 ^ n) : Nat) : Rat) ≤ ((2 * m + 2 ^ n : Nat) : Rat) := by exact_mod_cast hc.1
      have c2 : ((2 * m : Nat) : Rat) ≤ ((2 * (kept * 2 ^ n) + 2 ^ n : Nat) : Rat) := by exact_mod_cast hc.2
      rw [Rat.natCast_add, Rat.natCast_mul, Rat.natCast_mul, Rat.natCast_mul] at c1 c2
      have hp0 := tp_pos p
      have e2 : ((2 : Nat) : Rat) = 2 := rfl
      rw [e2] at c1 c2
      have d1 := Rat.mul_le_mul_of_nonneg_right c1 (Rat.le_of_lt hp0)
      have d2 := Rat.mul_le_mul_of_nonneg_right c2 (Rat.le_of_lt hp0)
      constructor <;> grind
  have hlow : ((2 ^ m.log2 : Nat) : Rat) ≤ m := by exact_mod_cast Nat.log2_self_le hm
  have hup : (m : Rat) < ((2 ^ (m.log2 + 1) : Nat) : Rat) := by exact_mod_cast Nat.lt_log2_self (n := m)
  have hp0 := tp_pos p
  have hlow' : tp (p + m.log2) ≤ (m : Rat) * tp p := by
    rw [Int.add_comm, tp_add, tp_nat]; exact Rat.mul_le_mul_of_nonneg_right hlow (Rat.le_of_lt hp0)
  have hup' : (m : Rat) * tp p < tp (p + m.log2 + 1) := by
    rw [show p + (m.log2 : Int) + 1 = ((m.log2 + 1 : Nat) : Int) + p by omega, tp_add, tp_nat]; exact Rat.mul_lt_mul_of_pos_right hup hp0
  have hsub : last = f.leastPlace ∨ tp (last + f.fractionBits) ≤ (m : Rat) * tp p := by
    by_cases h : last = f.leastPlace
    · exact .inl h
    · right
      have : last + f.fractionBits = p + m.log2 := by omega
      rw [this]; exact hlow'
  have htop : (m : Rat) * tp p < tp (last + f.fractionBits + 1) := by
    have := tp_le (show p + (m.log2 : Int) + 1 ≤ last + f.fractionBits + 1 by omega)
    grind
  have hl0 := tp_pos last
  have eB : tp (last + f.fractionBits) = (f.binade : Rat) * tp last := by
    rw [Int.add_comm, tp_add, tp_nat]; rfl
  -- kept between
  have hk2 : kept ≤ 2 * f.binade := by
    have h1 := rnd_near (N := ((2 * f.binade : Nat) : Int)) (k := (kept : Int)) (v := (m : Rat) * tp p) (r := (kept : Rat) * tp last) hl0 (by rw [Rat.intCast_natCast]) (by grind) (by
      rw [Rat.intCast_natCast, Rat.natCast_mul]
      rw [tp_succ, eB] at htop
      have e2 : ((2 : Nat) : Rat) = 2 := rfl
      rw [e2]; grind)
    rw [Rat.intCast_natCast] at h1
    have h2 := mul_cancel_le hl0 h1
    exact_mod_cast h2
  have hk1 : e = 0 ∨ f.binade ≤ kept := by
    rcases hsub with h | h
    · left; omega
    · right
      have h1 := rnd_near (N := -(f.binade : Int)) (k := -(kept : Int)) (v := -((m : Rat) * tp p)) (r := -((kept : Rat) * tp last)) hl0 (by rw [Rat.intCast_neg, Rat.intCast_natCast]; grind) (by grind) (by
        rw [Rat.intCast_neg, Rat.intCast_natCast]; grind)
      rw [Rat.intCast_neg, Rat.intCast_natCast] at h1
      have h2 := mul_cancel_le (a := (f.binade : Rat)) (b := (kept : Rat)) hl0 (by grind)
      exact_mod_cast h2
  have hrnd : RndAt f last (sg s * ((m : Rat) * tp p)) (sg s * ((kept : Rat) * tp last)) := by
    rcases abs_sg s ((m : Rat) * tp p) with ⟨e1, e2⟩ | ⟨e1, e2⟩ <;> rcases abs_sg s ((kept : Rat) * tp last) with ⟨e3, e4⟩ | ⟨e3, e4⟩
    · rw [e1, e3]
      exact ⟨kept, hge, by rw [Rat.intCast_natCast], by grind, by grind, by rcases hsub with h | h; exact .inl h; exact .inr (.inl h)⟩
    · rw [e2] at e4; cases e4
    · rw [e2] at e4; cases e4
    · rw [e1, e3]
      exact ⟨-kept, hge, by rw [Rat.intCast_neg, Rat.intCast_natCast]; grind, by grind, by grind, by rcases hsub with h | h; exact .inl h; exact .inr (.inr (by grind))⟩
  -- no overflow
  have hfin : e * f.binade + kept < f.infRung := by
    have eI : f.infRung = (2 ^ f.exponentBits - 1) * f.binade := rfl
    rw [eI]
    obtain ⟨E, hE⟩ : ∃ E, 2 ^ f.exponentBits = E + 2 := ⟨2 ^ f.exponentBits - 2, by omega⟩
    have ht : top f = f.leastPlace + E + f.fractionBits := by unfold top; rw [hE]; omega
    rw [ht] at hQ
    rw [hE, show E + 2 - 1 = E + 1 by omega, Nat.add_mul, Nat.one_mul]
    have hlastQ : last = f.leastPlace ∨ last + f.fractionBits ≤ Q := by
      rcases hsub with h | h
      · exact .inl h
      · right; exact le_of_tp (by grind)
    rcases hlastQ with h | h
    · have he0 : e = 0 := by omega
      subst he0
      rw [Nat.zero_mul]
      have := Nat.mul_le_mul_right f.binade (show 2 ≤ E by omega)
      omega
    · have he1 : (e : Int) ≤ E - 1 := by omega
      have hEe : e + 1 ≤ E := by omega
      have := Nat.mul_le_mul_right f.binade hEe
      rw [Nat.add_mul, Nat.one_mul] at this
      by_cases hk : kept = 2 * f.binade
      · have h1 : (kept : Rat) * tp last ≤ tp Q := by
          have hh := (show Rnd f ((m : Rat) * tp p) ((kept : Rat) * tp last) from ⟨last, kept, hge, by rw [Rat.intCast_natCast], by grind, by grind, by rcases hsub with h | h; exact .inl h; exact .inr (.inl h)⟩)
          have := hh.le (z := 1) (q := Q) (by have := Nat.one_lt_two_pow (n := f.fractionBits + 1) (by omega); simp) (by omega) (by simpa using hv)
          simpa using this
        rw [hk, Rat.natCast_mul] at h1
        have e2 : ((2 : Nat) : Rat) = 2 := rfl
        have h6 : tp (last + f.fractionBits + 1) ≤ tp Q := by rw [tp_succ, eB]; rw [e2] at h1; grind
        have h7 := le_of_tp h6
        have hEe : e + 2 ≤ E := by omega
        have := Nat.mul_le_mul_right f.binade hEe
        rw [Nat.add_mul] at this
        omega
      · omega
  rw [Nat.min_eq_left (by omega)]
  have := dv_rung f s e kept hk1 hk2 hfin
  refine ⟨this.1, ?_⟩
  rw [this.2, ← he]
  exact ⟨last, fun _ => by omega, hrnd⟩
theorem nearest_rnd (f : Ieee.Format) (s : Bool) (m : Nat) (p : Int) (h2 : 4 ≤ 2 ^ f.exponentBits) (Q : Int) (hQ : Q < top f) (hv : (m : Rat) * tp p ≤ tp Q) :
    isNum (f.read (f.nearest s m p)) = true ∧ Rnd f (sg s * ((m : Rat) * tp p)) (dv (f.read (f.nearest s m p))) := by
  obtain ⟨h1, last, _, h⟩ := nearest_at f s m p h2 Q hQ hv
  exact ⟨h1, last, h⟩

/-! words -/
theorem Rnd.zero {f : Ieee.Format} {r : Rat} (h : Rnd f 0 r) : r = 0 := by
  have := h.eq (z := 0) (q := f.leastPlace) (by simp; exact Nat.two_pow_pos _) (Int.le_refl _) (by simp)
  exact this
theorem abs_le_of_sg {s : Bool} {x b : Rat} (h1 : sg s * x ≤ b) (h2 : -(sg s * x) ≤ b) : x ≤ b := by
  rcases abs_sg s x with ⟨e, _⟩ | ⟨e, _⟩ <;> rw [e] at h1 h2 <;> grind
/-- what a datum's word stands for, rounded -/
theorem write_rnd (f : Ieee.Format) (d : Ieee.Datum) (hd : isNum d = true) (h2 : 4 ≤ 2 ^ f.exponentBits) (Q : Int) (hQ : Q < top f) (h3 : dv d ≤ tp Q) (h4 : -dv d ≤ tp Q) : isNum (f.read (f.write d)) = true ∧ Rnd f (dv d) (dv (f.read (f.write d))) := by
  cases d with
  | number s m p =>
    refine nearest_rnd f s m p h2 Q hQ ?_
    exact abs_le_of_sg h3 h4
  | infinity => cases hd
  | nan => cases hd
theorem signed_val (s : Bool) (m n : Nat) : ((Ieee.signed s m n : Int) : Rat) = sg s * ((m : Rat) * tp n) := by
  unfold Ieee.signed
  rw [tp_nat]
  cases s
  · rw [if_neg (by decide), Rat.intCast_natCast, Nat.shiftLeft_eq, Rat.natCast_mul]; simp only [sg]; grind
  · rw [if_pos rfl, Rat.intCast_neg, Rat.intCast_natCast, Nat.shiftLeft_eq, Rat.natCast_mul]; simp only [sg]; grind
theorem sum_val {x y d : Ieee.Datum} (hx : isNum x = true) (hy : isNum y = true) (h : x.sum y = some d) : isNum d = true ∧ dv d = dv x + dv y := by
  cases x with
  | number s m i =>
    cases y with
    | number t n j =>
      simp only [Ieee.Datum.sum, Option.some.injEq] at h
      subst h
      refine ⟨rfl, ?_⟩
      obtain ⟨a, ha⟩ : ∃ a : Nat, i = min i j + a := ⟨(i - min i j).toNat, by omega⟩
      obtain ⟨b, hb⟩ : ∃ b : Nat, j = min i j + b := ⟨(j - min i j).toNat, by omega⟩
      have ea : (i - min i j).toNat = a := by omega
      have eb : (j - min i j).toNat = b := by omega
      rw [ea, eb]
      have hs := signed_val s m a
      have ht := signed_val t n b
      generalize Ieee.signed s m a = A at hs ⊢
      generalize Ieee.signed t n b = B at ht ⊢
      generalize min i j = base at *
      have e1 : dv (.number s m i) = ((A : Int) : Rat) * tp base := by
        rw [hs, ha]; simp only [dv]; rw [tp_add]; grind
      have e2 : dv (.number t n j) = ((B : Int) : Rat) * tp base := by
        rw [ht, hb]; simp only [dv]; rw [tp_add]; grind
      rw [e1, e2]
      simp only [dv]
      have e3 : sg (if A + B = 0 then s && t else decide (A + B < 0)) * (((A + B).natAbs : Nat) : Rat) = ((A + B : Int) : Rat) := by
        by_cases h0 : A + B = 0
        · rw [h0]; simp
        · rw [if_neg h0]
          by_cases h1 : A + B < 0
          · simp only [h1, decide_true, sg, if_true]
            have : ((A + B : Int) : Rat) = -((-(A + B) : Int) : Rat) := by rw [Rat.intCast_neg]; grind
            rw [this]
            have h5 : ((A + B).natAbs : Int) = -(A + B) := by omega
            rw [← h5, Rat.intCast_natCast]; grind
          · simp only [h1, decide_false, sg]
            have h5 : ((A + B).natAbs : Int) = (A + B) := by omega
            rw [← h5, Rat.intCast_natCast]; simp
      rw [← Rat.mul_assoc, e3, Rat.intCast_add]
      grind
    | infinity => cases hy
    | nan => cases hy
  | infinity => cases hx
  | nan => cases hx
theorem sg_xor (s t : Bool) : sg (s ^^ t) = sg s * sg t := by cases s <;> cases t <;> simp [sg] <;> grind
theorem product_val {x y d : Ieee.Datum} (hx : isNum x = true) (hy : isNum y = true) (h : x.product y = some d) : isNum d = true ∧ dv d = dv x * dv y := by
  cases x with
  | number s m i =>
    cases y with
    | number t n j =>
      simp only [Ieee.Datum.product, Option.some.injEq] at h
      subst h
      refine ⟨rfl, ?_⟩
      simp only [dv]
      rw [sg_xor, tp_add, Rat.natCast_mul]
      grind
    | infinity => cases hy
    | nan => cases hy
  | infinity => cases hx
  | nan => cases hx
theorem opposite_val {x : Ieee.Datum} (hx : isNum x = true) : isNum x.opposite = true ∧ dv x.opposite = -dv x := by
  cases x with
  | number s m i => refine ⟨rfl, ?_⟩; cases s <;> simp [Ieee.Datum.opposite, dv, sg] <;> grind
  | infinity => cases hx
  | nan => cases hx

/-- A number just above or just below: it is rounded as the one that tells so by its last digit. -/
theorem sticky (f : Ieee.Format) {last place : Int} {q : Nat} {st : Bool} {v r : Rat} (h : RndAt f last (((2 * q + st.toNat : Nat) : Rat) * tp place) r) (hl : place + 2 ≤ last)
    (hv : if st then ((2 * q : Nat) : Rat) * tp place < v ∧ v < ((2 * q + 2 : Nat) : Rat) * tp place else v = ((2 * q : Nat) : Rat) * tp place) : RndAt f last v r := by
  cases st with
  | false =>
    simp only [Bool.toNat_false, Nat.add_zero] at h
    simp only [Bool.false_eq_true, if_false] at hv
    rw [hv]; exact h
  | true =>
    simp only [Bool.toNat_true] at h
    simp only [if_true] at hv
    obtain ⟨k, h0, hr, h1, h2, h3⟩ := h
    obtain ⟨n, hn⟩ : ∃ n : Nat, last = place + 2 + n := ⟨(last - place - 2).toNat, by omega⟩
    have et : tp last = ((4 * 2 ^ n : Nat) : Rat) * tp place := by
      rw [hn, Int.add_assoc, Int.add_comm, tp_add, show (2 : Int) + (n : Int) = ((n + 2 : Nat) : Int) by omega, tp_nat, Nat.pow_add]
      congr 2; omega
    have hp := tp_pos place
    obtain ⟨g, hg⟩ : ∃ g : Nat, g = 2 ^ n := ⟨_, rfl⟩
    rw [← hg] at et
    -- in units of the place
    have et1 : tp last = 4 * (g : Rat) * tp place := by rw [et]; push_cast; grind
    have a1 : ((8 * (k * g) - 2 * (2 * q + 1) : Int) : Rat) ≤ ((4 * g : Int) : Rat) := by
      refine mul_cancel_le hp ?_
      rw [hr, et1] at h1
      push_cast at h1 ⊢
      grind
    have a2 : ((2 * (2 * q + 1) - 8 * (k * g) : Int) : Rat) ≤ ((4 * g : Int) : Rat) := by
      refine mul_cancel_le hp ?_
      rw [hr, et1] at h2
      push_cast at h2 ⊢
      grind
    obtain ⟨K, hK⟩ : ∃ K : Int, K = k * g := ⟨_, rfl⟩
    rw [← hK] at a1 a2
    have a1' : 8 * K - 2 * (2 * q + 1) ≤ 4 * (g : Int) := by exact_mod_cast a1
    have a2' : 2 * (2 * q + 1) - 8 * K ≤ 4 * (g : Int) := by exact_mod_cast a2
    -- 2q+1 is odd
    have b1 : 4 * K - 2 * g ≤ 2 * (q : Int) := by omega
    have b2 : (2 * q + 2 : Int) ≤ 4 * K + 2 * g := by omega
    have c1 : ((4 * K - 2 * g : Int) : Rat) ≤ ((2 * q : Int) : Rat) := by exact_mod_cast b1
    have c2 : ((2 * q + 2 : Int) : Rat) ≤ ((4 * K + 2 * g : Int) : Rat) := by exact_mod_cast b2
    have d1 := Rat.mul_le_mul_of_nonneg_right c1 (Rat.le_of_lt hp)
    have d2 := Rat.mul_le_mul_of_nonneg_right c2 (Rat.le_of_lt hp)
    have er : r = 4 * ((K : Int) : Rat) * tp place := by
      rw [hr, et1, hK]; push_cast; grind
    push_cast at d1 d2 hv
    have f1 : 2 * (r - v) ≤ tp last := by
      rw [er, et1]
      grind
    have f2 : 2 * (v - r) ≤ tp last := by
      rw [er, et1]
      grind
    refine ⟨k, h0, hr, f1, f2, ?_⟩
    rcases h3 with h3 | h3 | h3
    · exact .inl h3
    · right; left
      have e5 : tp (last + f.fractionBits) = ((2 * (2 * g * 2 ^ f.fractionBits) : Nat) : Rat) * tp place := by
        rw [Int.add_comm, tp_add, tp_nat, et1]; push_cast; grind
      rw [e5] at h3 ⊢
      generalize 2 * g * 2 ^ f.fractionBits = X at h3 ⊢
      have h4 := mul_cancel_le hp h3
      have h5 : 2 * X ≤ 2 * q + 1 := by exact_mod_cast h4
      have h6 : ((2 * X : Nat) : Rat) ≤ ((2 * q : Nat) : Rat) := by exact_mod_cast (show 2 * X ≤ 2 * q by omega)
      have := Rat.mul_le_mul_of_nonneg_right h6 (Rat.le_of_lt hp)
      push_cast at this ⊢
      grind
    · exfalso
      have h4 := tp_pos (last + f.fractionBits)
      have h5 : (0 : Rat) ≤ ((2 * q + 1 : Nat) : Rat) := by exact_mod_cast Nat.zero_le _
      have h6 := Rat.mul_nonneg h5 (Rat.le_of_lt hp)
      grind

theorem sg_ne (s : Bool) : sg s * sg s = 1 := by cases s <;> simp [sg] <;> grind
theorem dv_zero {s : Bool} {n : Nat} {j : Int} (h : dv (.number s n j) ≠ 0) : n ≠ 0 := by
  rintro rfl
  apply h
  simp [dv]
theorem div_rnd (f : Ieee.Format) {x y d : Ieee.Datum} (hx : isNum x = true) (hy : isNum y = true) (h0 : dv y ≠ 0) (h2 : 4 ≤ 2 ^ f.exponentBits) (h : x.quotient (f.fractionBits + 2) y = some d) (Q : Int) (hQ : Q < top f)
    (h3 : dv x / dv y ≤ tp Q) (h4 : -(dv x / dv y) ≤ tp Q) : isNum (f.read (f.write d)) = true ∧ Rnd f (dv x / dv y) (dv (f.read (f.write d))) := by
  cases x with
  | number s m i =>
    cases y with
    | number t n j =>
      have hn : n ≠ 0 := dv_zero h0
      simp only [Ieee.Datum.quotient, if_neg hn, Option.some.injEq] at h
      obtain ⟨more, hmore⟩ : ∃ more, more = f.fractionBits + 2 + n.log2 - m.log2 := ⟨_, rfl⟩
      rw [← hmore, Nat.shiftLeft_eq] at h
      obtain ⟨D, hD⟩ : ∃ D, D = m * 2 ^ more := ⟨_, rfl⟩
      rw [← hD] at h
      obtain ⟨q, hq⟩ : ∃ q, q = D / n := ⟨_, rfl⟩
      obtain ⟨r, hr⟩ : ∃ r, r = D % n := ⟨_, rfl⟩
      rw [← hq, ← hr] at h
      have hdm := Nat.div_add_mod D n
      rw [← hq, ← hr] at hdm
      have hrn : r < n := by rw [hr]; exact Nat.mod_lt _ (by omega)
      obtain ⟨place, hpl⟩ : ∃ place, place = i - j - more - 1 := ⟨_, rfl⟩
      rw [← hpl] at h
      have hu := tp_pos place
      have hj := tp_pos j
      have hn0 : (0 : Rat) < n := by exact_mod_cast (show 0 < n by omega)
      -- the value
      obtain ⟨V, hV⟩ : ∃ V : Rat, V = (m : Rat) * tp (i - j) / n := ⟨_, rfl⟩
      have hVm : V * n = (m : Rat) * tp (i - j) := by rw [hV]; grind
      have hVn : V * n = 2 * (D : Rat) * tp place := by
        rw [hVm, show i - j = ((more : Nat) : Int) + 1 + place by omega, tp_add, tp_succ, tp_nat, hD]
        push_cast
        grind
      have e2 : tp i = tp (i - j) * tp j := by rw [← tp_add]; congr 1; omega
      have hst := sg_ne t
      have hval : dv (.number s m i) / dv (.number t n j) = sg (s ^^ t) * V := by
        rw [sg_xor, hV]
        simp only [dv]
        rw [e2]
        have h5 : sg t ≠ 0 := by intro h; rw [h] at hst; grind
        grind
      have hV0 : 0 ≤ V := by
        rw [hV]
        have := Rat.mul_nonneg (show (0 : Rat) ≤ m by exact_mod_cast Nat.zero_le m) (Rat.le_of_lt (tp_pos (i - j)))
        refine Rat.le_of_mul_le_mul_right (c := (n : Rat)) ?_ hn0
        rw [Rat.zero_mul, ← hV, hVm]
        exact this
      rw [hval] at h3 h4 ⊢
      have hVQ := abs_le_of_sg h3 h4
      have hDq : (D : Rat) = (n : Rat) * q + r := by exact_mod_cast hdm.symm
      -- the sticky digit
      have hcase : if (r != 0) = true then ((2 * q : Nat) : Rat) * tp place < V ∧ V < ((2 * q + 2 : Nat) : Rat) * tp place else V = ((2 * q : Nat) : Rat) * tp place := by
        by_cases hr0 : r = 0
        · subst hr0
          rw [if_neg (by simp)]
          rw [hDq] at hVn
          push_cast at hVn ⊢
          have : (V - 2 * q * tp place) * n = 0 := by grind
          have := Rat.mul_eq_zero.1 this
          grind
        · rw [if_pos (by simpa using hr0)]
          have hr1 : (0 : Rat) < r := by exact_mod_cast (show 0 < r by omega)
          have hr2 : (r : Rat) < n := by exact_mod_cast hrn
          have k1 := Rat.mul_lt_mul_of_pos_right hr1 hu
          have k2 := Rat.mul_lt_mul_of_pos_right hr2 hu
          rw [hDq] at hVn
          push_cast
          constructor
          · exact Rat.lt_of_mul_lt_mul_right (c := (n : Rat)) (by grind) (Rat.le_of_lt hn0)
          · exact Rat.lt_of_mul_lt_mul_right (c := (n : Rat)) (by grind) (Rat.le_of_lt hn0)
      have hst0 : (r != 0).toNat ≤ 1 := by cases (r != 0) <;> simp
      by_cases hm : m = 0
      · have hD0 : D = 0 := by rw [hD, hm, Nat.zero_mul]
        have hq0 : q = 0 := by rw [hq, hD0, Nat.zero_div]
        have hr0 : r = 0 := by rw [hr, hD0, Nat.zero_mod]
        subst hq0
        subst hr0
        simp at h
        subst h
        have := write_rnd f (.number (s ^^ t) 0 place) rfl h2 Q hQ (by simp [dv]; exact Rat.le_of_lt (tp_pos Q)) (by simp [dv]; exact Rat.le_of_lt (tp_pos Q))
        refine ⟨this.1, ?_⟩
        have hz : V = 0 := by simpa using hcase
        rw [hz]
        have h6 := this.2
        simpa [dv] using h6
      -- enough digits
      have hqb : 2 ^ (f.fractionBits + 1) ≤ q := by
        by_cases hlt : 2 ^ (f.fractionBits + 1) ≤ q
        · exact hlt
        · exfalso
          have a1 : q + 1 ≤ 2 ^ (f.fractionBits + 1) := by omega
          have a2 : (q + 1) * n ≤ 2 ^ (f.fractionBits + 1) * n := Nat.mul_le_mul_right _ a1
          have a3 : n < 2 ^ (n.log2 + 1) := Nat.lt_log2_self
          have a4 : 2 ^ (f.fractionBits + 1) * n < 2 ^ (f.fractionBits + 1) * 2 ^ (n.log2 + 1) := Nat.mul_lt_mul_of_pos_left a3 (Nat.two_pow_pos _)
          rw [← Nat.pow_add] at a4
          have a5 : 2 ^ m.log2 ≤ m := Nat.log2_self_le hm
          have a6 : 2 ^ m.log2 * 2 ^ more ≤ D := by rw [hD]; exact Nat.mul_le_mul_right _ a5
          rw [← Nat.pow_add] at a6
          have a7 : 2 ^ (f.fractionBits + 1 + (n.log2 + 1)) ≤ 2 ^ (m.log2 + more) := Nat.pow_le_pow_right (by omega) (by omega)
          rw [Nat.add_mul, Nat.one_mul, Nat.mul_comm] at a2
          omega
      have hnum : 2 * q + (r != 0).toNat ≠ 0 := by have := Nat.two_pow_pos (f.fractionBits + 1); omega
      have hlog : f.fractionBits + 2 ≤ (2 * q + (r != 0).toNat).log2 := by
        rw [Nat.le_log2 hnum, Nat.pow_succ]
        omega
      subst h
      -- bound of the told number
      have hQ2 : ((2 * q + (r != 0).toNat : Nat) : Rat) * tp place ≤ tp Q := by
        by_cases hr0 : (r != 0) = true
        · rw [if_pos hr0] at hcase
          have hpq : place < Q := by
            refine lt_of_tp ?_
            have : (1 : Rat) ≤ ((2 * q : Nat) : Rat) := by exact_mod_cast (show 1 ≤ 2 * q by have := Nat.two_pow_pos (f.fractionBits + 1); omega)
            have := Rat.mul_le_mul_of_nonneg_right this (Rat.le_of_lt hu)
            grind
          obtain ⟨e, he⟩ : ∃ e : Nat, Q = e + place := ⟨(Q - place).toNat, by omega⟩
          have e5 : tp Q = ((2 ^ e : Nat) : Rat) * tp place := by rw [he, tp_add, tp_nat]
          rw [e5] at hVQ ⊢
          have h7 : ((2 * q : Nat) : Rat) * tp place < ((2 ^ e : Nat) : Rat) * tp place := by grind
          have h8 := Rat.lt_of_mul_lt_mul_right h7 (Rat.le_of_lt hu)
          have h9 : 2 * q < 2 ^ e := by exact_mod_cast h8
          rw [hr0, Bool.toNat_true]
          exact Rat.mul_le_mul_of_nonneg_right (by exact_mod_cast (show 2 * q + 1 ≤ 2 ^ e by omega)) (Rat.le_of_lt hu)
        · rw [if_neg hr0] at hcase
          have hr1 : (r != 0) = false := by simpa using hr0
          rw [hr1, Bool.toNat_false, Nat.add_zero, ← hcase]
          exact hVQ
      obtain ⟨g1, last, g2, g3⟩ := nearest_at f (s ^^ t) (2 * q + (r != 0).toNat) place h2 Q hQ hQ2
      refine ⟨g1, last, ?_⟩
      have g2' := g2 hnum
      have hpl2 : place + 2 ≤ last := by omega
      show RndAt f last (sg (s ^^ t) * V) (dv (f.read (f.nearest (s ^^ t) (2 * q + (r != 0).toNat) place)))
      rcases hs : (s ^^ t)
      · rw [hs] at g3
        have e1 : ∀ z : Rat, sg false * z = z := fun z => by simp [sg]
        rw [e1] at g3 ⊢
        exact sticky f g3 hpl2 hcase
      · rw [hs] at g3
        have e1 : ∀ z : Rat, sg true * z = -z := fun z => by simp only [sg]; grind
        rw [e1] at g3 ⊢
        have g4 := g3.neg
        rw [Rat.neg_neg] at g4
        have g5 := (sticky f g4 hpl2 hcase).neg
        rwa [Rat.neg_neg] at g5
    | infinity => cases hy
    | nan => cases hy
  | infinity => cases hx
  | nan => cases hx
end Go.Proofs.Ytldancjofgobnaa

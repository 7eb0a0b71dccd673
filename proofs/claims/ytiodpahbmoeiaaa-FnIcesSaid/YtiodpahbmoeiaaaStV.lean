/-
  Drawn stuffs: how warm they are, how far molten, what heat that comes to: between bounds. No condition but what each law says.
-/
import Derived.Test.YtiodpahbmoeiaaaDraw
set_option linter.unusedSimpArgs false
set_option linter.unusedVariables false
set_option linter.unusedSectionVars false
namespace Go.Proofs.Ytiodpahbmoeiaaa
open Go Go.RowKit
theorem rnd_err {f : Ieee.Format} {v r : Rat} {Q : Int} (h : Rnd f v r) (h1 : v ≤ tp Q) (h2 : -v ≤ tp Q) (hQ : f.leastPlace ≤ Q - f.fractionBits) : r - v ≤ tp (Q - f.fractionBits - 1) ∧ v - r ≤ tp (Q - f.fractionBits - 1) := by
  obtain ⟨last, k, hl, hr, e1, e2, h3⟩ := h
  have hle : tp last ≤ tp (Q - f.fractionBits) := by
    rcases h3 with h3 | h3 | h3
    · exact tp_le (by omega)
    · exact tp_le (by have := le_of_tp (Rat.le_trans h3 h1); omega)
    · exact tp_le (by have := le_of_tp (Rat.le_trans h3 h2); omega)
  have e : tp (Q - f.fractionBits) = 2 * tp (Q - f.fractionBits - 1) := by
    have := tp_succ (Q - f.fractionBits - 1)
    rw [show Q - (f.fractionBits : Int) - 1 + 1 = Q - f.fractionBits by omega] at this
    exact this
  constructor <;> grind
/-- A word near a number. -/
def Nr (x : Nat) (v e : Rat) : Prop := fnt .f32 x = true ∧ fv .f32 x - v ≤ e ∧ v - fv .f32 x ≤ e
theorem tp7 : tp 7 = 128 := (tp_nat 7).trans rfl
theorem tp_n17 : tp (-17) * 131072 = 1 := by
  have h : tp (-17) * tp 17 = 1 := by rw [← tp_add]; exact tp_zero
  rwa [show tp 17 = 131072 from (tp_nat 17).trans rfl] at h
/-- One operation on numbers that are not great. -/
theorem fop_nr (op : BinOp) (hop : arithOp op = true) {x y : Nat} (hx : fnt .f32 x = true) (hy : fnt .f32 y = true) (h0 : op = .quo → fv .f32 y ≠ 0) (h1 : ex op (fv .f32 x) (fv .f32 y) ≤ 128) (h2 : -ex op (fv .f32 x) (fv .f32 y) ≤ 128) :
    Nr (fop op .f32 x y) (ex op (fv .f32 x) (fv .f32 y)) (tp (-17)) := by
  obtain ⟨g1, g2⟩ := fop_rnd op hop .f32 hx hy h0 7 (by decide) (by rw [tp7]; exact h1) (by rw [tp7]; exact h2)
  have := rnd_err (Q := 7) g2 (by rw [tp7]; exact h1) (by rw [tp7]; exact h2) (by decide)
  exact ⟨g1, this.1, this.2⟩
theorem V.fin {x : Nat} {q : Rat} (h : V .f32 x q) : fin .f32 x = true := by rw [fin_num]; exact h.1
theorem abv_of {x : Nat} (h : fnt .f32 x = true) (h0 : 0 < fv .f32 x) : abv x = true := by
  have e : fgt .f32 x (cn .f32 0) = true := by
    rw [fgtv h V0.1, V0.2]
    exact decide_eq_true h0
  have hf : fin .f32 x = true := by rw [fin_num]; exact h
  have := abv_neg x
  rw [hf, flev h V0.1, V0.2] at this
  simp only [Bool.not_true, Bool.false_or] at this
  have h2 : decide (fv .f32 x ≤ 0) = false := decide_eq_false (by grind)
  rw [h2] at this
  simpa using this.symm
/-- What is known of a drawn stuff's canonical words. -/
structure SV (s : St) (a b c d p l : Int) : Prop where
  bd : (1 ≤ a ∧ a ≤ 8) ∧ (1 ≤ b ∧ b ≤ 8) ∧ (1 ≤ c ∧ c ≤ 8) ∧ (1 ≤ d ∧ d ≤ 8) ∧ (-4 ≤ p ∧ p ≤ 4) ∧ (1 ≤ l ∧ l ≤ 16)
  A : V .f32 s.k.a ((a : Rat) / 2)
  B : V .f32 s.k.b ((b : Rat) / 2)
  C : V .f32 s.k.c ((c : Rat) / 4)
  D : V .f32 s.k.d ((d : Rat) / 4)
  P : V .f32 s.k.p (p : Rat)
  L : V .f32 s.k.l ((l : Rat) / 2)
theorem DS.sv {s : St} (h : DS s) : ∃ a b c d p l, SV s a b c d p l := by
  obtain ⟨a, b, c, d, p, l, h0, h1, h2, h3, h4, h5, h6⟩ := h
  exact ⟨a, b, c, d, p, l, h0, h1, h2, h3, h4, h5, h6⟩
theorem icast_le {a b : Int} (h : a ≤ b) : (a : Rat) ≤ (b : Rat) := by exact_mod_cast h
theorem icast_lt {a b : Int} (h : a < b) : (a : Rat) < (b : Rat) := by exact_mod_cast h
theorem SV.ok {s : St} {a b c d p l : Int} (h : SV s a b c d p l) : s.ok = true := by
  obtain ⟨⟨h1, _⟩, ⟨h2, _⟩, ⟨h3, _⟩, ⟨h4, _⟩, _, ⟨h6, _⟩⟩ := h.bd
  have pos : ∀ {n : Int}, 1 ≤ n → (1 : Rat) ≤ (n : Rat) := fun {n} h => icast_le h
  have q1 := pos h1; have q2 := pos h2; have q3 := pos h3; have q4 := pos h4; have q6 := pos h6
  have e1 : abv (cn .f32 s.a) = true := abv_of h.A.1 (by rw [show fv .f32 (cn .f32 s.a) = _ from h.A.2]; grind)
  have e2 : abv (cn .f32 s.b) = true := abv_of h.B.1 (by rw [show fv .f32 (cn .f32 s.b) = _ from h.B.2]; grind)
  have e3 : abv (cn .f32 s.c) = true := abv_of h.C.1 (by rw [show fv .f32 (cn .f32 s.c) = _ from h.C.2]; grind)
  have e4 : abv (cn .f32 s.d) = true := abv_of h.D.1 (by rw [show fv .f32 (cn .f32 s.d) = _ from h.D.2]; grind)
  have e5 : fin .f32 (cn .f32 s.p) = true := h.P.fin
  have e6 : abv (cn .f32 s.l) = true := abv_of h.L.1 (by rw [show fv .f32 (cn .f32 s.l) = _ from h.L.2]; grind)
  unfold St.ok
  rw [e1, e2, e3, e4, e5, e6]
  rfl
/-- The three ways of a heat. -/
theorem heat_ways (k l : Int) : k < 0 ∨ (0 ≤ k ∧ k ≤ 2 * l) ∨ 2 * l < k := by omega
section
variable {s : St} {a b c d p l k : Int} {H : Nat}
theorem flt0 (hH : V .f32 H ((k : Rat) / 4)) : flt .f32 H (cn .f32 0) = decide (k < 0) := by
  rw [fltv hH.1 V0.1, hH.2, V0.2]
  by_cases h : k < 0
  · rw [decide_eq_true h]; exact decide_eq_true (by have : (k : Rat) < ((0 : Int) : Rat) := icast_lt h; grind)
  · rw [decide_eq_false h]; exact decide_eq_false (by have : ((0 : Int) : Rat) ≤ (k : Rat) := icast_le (by omega); grind)
theorem fgtL (h : SV s a b c d p l) (hH : V .f32 H ((k : Rat) / 4)) : fgt .f32 H s.k.l = decide (2 * l < k) := by
  rw [fgtv hH.1 h.L.1, hH.2, h.L.2]
  by_cases hk : 2 * l < k
  · rw [decide_eq_true hk]; exact decide_eq_true (by have : ((2 * l : Int) : Rat) < (k : Rat) := icast_lt hk; rw [Rat.intCast_mul] at this; grind)
  · rw [decide_eq_false hk]; exact decide_eq_false (by have : (k : Rat) ≤ ((2 * l : Int) : Rat) := icast_le (by omega); rw [Rat.intCast_mul] at this; grind)
theorem rep16 (z : Int) (h : z.natAbs < 16777216) : Rep .f32 ((z : Rat) / 16) := rep_at (k := .f32) z (-4) h (by decide) (by decide) (by have e : tp (-4) = tp (-2) * tp (-2) := (by rw [← tp_add]; rfl); have := tp_n2; rw [e]; grind)
/-- A quotient of a number of quarters by a number of halves, and a warmth ahead of it. -/
theorem quo_cut {x y : Nat} {m n : Int} (hx : V .f32 x ((m : Rat) / 4)) (hy : V .f32 y ((n : Rat) / 2)) (hn : 1 ≤ n ∧ n ≤ 16) (hm : m.natAbs ≤ 200) : fnt .f32 (fop .quo .f32 x y) = true ∧ (∀ z : Int, z * n ≤ 8 * m → z.natAbs < 16777216 → (z : Rat) / 16 ≤ fv .f32 (fop .quo .f32 x y)) ∧ (∀ z : Int, 8 * m ≤ z * n → z.natAbs < 16777216 → fv .f32 (fop .quo .f32 x y) ≤ (z : Rat) / 16) ∧ Nr (fop .quo .f32 x y) (((m : Rat) / 4) / ((n : Rat) / 2)) (tp (-17)) := by
  have q1 : (1 : Rat) ≤ (n : Rat) := icast_le hn.1
  have hne : fv .f32 y ≠ 0 := by rw [hy.2]; grind
  have e : (((m : Rat) / 4) / ((n : Rat) / 2)) * (n : Rat) = (m : Rat) / 2 := by grind
  have bd : -(128 : Rat) ≤ (((m : Rat) / 4) / ((n : Rat) / 2)) ∧ (((m : Rat) / 4) / ((n : Rat) / 2)) ≤ 128 := by
    have m1 : (m : Rat) ≤ ((200 : Int) : Rat) := icast_le (by omega)
    have m2 : ((-200 : Int) : Rat) ≤ (m : Rat) := icast_le (by omega)
    generalize (((m : Rat) / 4) / ((n : Rat) / 2)) = x at e ⊢
    constructor
    · refine mul_cancel_le (c := (n : Rat)) (by grind) ?_
      rw [e]
      have : (-(128 : Rat)) * (n : Rat) ≤ -128 := by grind
      grind
    · refine mul_cancel_le (c := (n : Rat)) (by grind) ?_
      rw [e]
      have : (128 : Rat) ≤ 128 * (n : Rat) := by grind
      grind
  have N := fop_nr .quo rfl hx.1 hy.1 (fun _ => hne) (by simp only [ex]; rw [hx.2, hy.2]; exact bd.2) (by simp only [ex]; rw [hx.2, hy.2]; grind)
  simp only [ex] at N
  rw [hx.2, hy.2] at N
  refine ⟨N.1, fun z hz hb => ?_, fun z hz hb => ?_, N⟩
  · obtain ⟨g1, g2⟩ := fop_rnd .quo rfl .f32 hx.1 hy.1 (fun _ => hne) 7 (by decide) (by rw [tp7]; simp only [ex]; rw [hx.2, hy.2]; exact bd.2) (by rw [tp7]; simp only [ex]; rw [hx.2, hy.2]; grind)
    refine g2.rep_ge (rep16 z hb) ?_
    simp only [ex]
    rw [hx.2, hy.2]
    have hz' : ((z * n : Int) : Rat) ≤ ((8 * m : Int) : Rat) := icast_le hz
    rw [Rat.intCast_mul, Rat.intCast_mul] at hz'
    generalize (((m : Rat) / 4) / ((n : Rat) / 2)) = x at e ⊢
    refine mul_cancel_le (c := (n : Rat)) (by grind) ?_
    rw [e]; grind
  · obtain ⟨g1, g2⟩ := fop_rnd .quo rfl .f32 hx.1 hy.1 (fun _ => hne) 7 (by decide) (by rw [tp7]; simp only [ex]; rw [hx.2, hy.2]; exact bd.2) (by rw [tp7]; simp only [ex]; rw [hx.2, hy.2]; grind)
    refine g2.rep_le (rep16 z hb) ?_
    simp only [ex]
    rw [hx.2, hy.2]
    have hz' : ((8 * m : Int) : Rat) ≤ ((z * n : Int) : Rat) := icast_le hz
    rw [Rat.intCast_mul, Rat.intCast_mul] at hz'
    generalize (((m : Rat) / 4) / ((n : Rat) / 2)) = x at e ⊢
    refine mul_cancel_le (c := (n : Rat)) (by grind) ?_
    rw [e]; grind
end
end Go.Proofs.Ytiodpahbmoeiaaa

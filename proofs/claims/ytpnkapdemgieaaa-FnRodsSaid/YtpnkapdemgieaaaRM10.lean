/-
  Drawn rods: runs of ticks by rows; the heat of a rod. No condition but what each law says; nothing of the program is named here.
  Drawn stuffs, on: how warm a heat makes them, and back. No condition but what each law says.
  Drawn stuffs, on: what the law on stuffs asks of heats, warmths and parts. No condition but what each law says.
  Drawn stuffs, on: the heat that a warmth and a part come to; how easily heat flows. No condition but what each law says.
  Drawn stuffs, in 64 bits: gaps, the lesser and the greater; all that the law on stuffs asks. No condition but what each law says.
  How far two numbers lie apart, in 64 bits: the laws' own helper. No condition but what each law says.
  Drawn rods: their heat, exactly; how great a rod is; the law's comparisons of heats. No condition but what each law says; nothing of the program is named here.
  Drawn rods: a short tick keeps their heat. No condition but what each law says; nothing of the program is named here.
  Drawn rods of one warmth: nothing flows, a tick changes no word, a tick by rows hardly changes a warmth. No condition but what each law says; nothing of the program is named here.
  slices.Grow at no slice, and slices.Concat of two slices of numbers. No condition but what each contract says.
-/
import Derived.Test.YtpnkapdemgieaaaRM9
import Derived.Test.YtpnkapdemgieaaaRM4
import Derived.Test.YtpnkapdemgieaaaRM2
import Derived.Lib.AppendZeros
set_option linter.unusedSimpArgs false
set_option linter.unusedVariables false
set_option linter.unusedSectionVars false
namespace Go.Proofs.Ytpnkapdemgieaaa
open Go Go.RowKit
/-- The heat of a rod, exactly, four times. -/
def hR (P : Rd) (A C : Nat → Int) (k : Nat) : Rat := sumQ (fun i => wR A C i * xR P i) k
theorem sumQ_sub {f g : Nat → Rat} : ∀ k, sumQ (fun i => f i - g i) k = sumQ f k - sumQ g k
  | 0 => by simp only [sumQ]; grind
  | k + 1 => by simp only [sumQ]; rw [sumQ_sub k]; grind
theorem sumQ_congr {f g : Nat → Rat} : ∀ k, (∀ i, i < k → f i = g i) → sumQ f k = sumQ g k
  | 0, _ => rfl
  | k + 1, h => by simp only [sumQ]; rw [sumQ_congr k (fun i hi => h i (by omega)), h k (by omega)]
section
variable {P : Rd} {n : Nat} {A C : Nat → Int} {M : Rat} {E G : EndT}
/-- The heat as it is drawn, near. -/
theorem GR.heat (h : GR P n A C M) {B : Rat} (hB : 1 / 1024 ≤ B ∧ B ≤ 100000) (hb : ∀ i, i < n → wR A C i * xR P i ≤ 4 * B ∧ -(wR A C i * xR P i) ≤ 4 * B) : ∀ k, k ≤ n → fnt .f32 (heatK P k) = true ∧ 4 * fv .f32 (heatK P k) - hR P A C k ≤ (k : Rat) * (30 * (B * uu)) ∧ hR P A C k - 4 * fv .f32 (heatK P k) ≤ (k : Rat) * (30 * (B * uu)) ∧ hR P A C k ≤ (k : Rat) * (4 * B) ∧ -hR P A C k ≤ (k : Rat) * (4 * B)
  | 0, _ => by
    have e : ((0 : Nat) : Rat) = 0 := rfl
    rw [e]
    refine ⟨V0.1, ?_, ?_, ?_, ?_⟩
    · show 4 * fv .f32 (cn .f32 0) - 0 ≤ _; rw [V0.2]; grind
    · show 0 - 4 * fv .f32 (cn .f32 0) ≤ _; rw [V0.2]; grind
    · show (0 : Rat) ≤ _; grind
    · show -(0 : Rat) ≤ _; grind
  | k + 1, hk => by
    obtain ⟨a0, a1, a2, a3, a4⟩ := h.heat hB hb k (by omega)
    have u0 : 0 < uu := by unfold uu; decide +kernel
    have u1 : 16700000 * uu = 1 := by unfold uu; decide +kernel
    have u2 : 16700000 * (B * uu) = B := by grind
    have u3 : 0 < B * uu := Rat.mul_pos (by grind) u0
    have hn := h.hn
    have kb : (k : Rat) ≤ ((5 : Nat) : Rat) := by exact_mod_cast (by omega : k ≤ 5)
    have k0 : (0 : Rat) ≤ (k : Rat) := by exact_mod_cast Nat.zero_le k
    have e5 : ((5 : Nat) : Rat) = 5 := rfl
    rw [e5] at kb
    have e : ((k + 1 : Nat) : Rat) = (k : Rat) + 1 := by rw [Rat.natCast_add]; rfl
    have vm := h.mass (i := k) (by omega)
    obtain ⟨d0, _, _⟩ := h.d k (by omega)
    obtain ⟨b1, b2⟩ := hb k (by omega)
    have kb1 := Rat.mul_le_mul_of_nonneg_right kb (show 0 ≤ 4 * B by grind)
    have kb2 := Rat.mul_le_mul_of_nonneg_right kb (show 0 ≤ 30 * (B * uu) by grind)
    have em : ((A k * C k : Int) : Rat) / 16 * fv .f32 (cn .f32 (P.d.getD k 0)) = wR A C k * xR P k / 4 := by unfold wR xR; grind
    obtain ⟨c0, c1, c2⟩ := fop_u .mul rfl vm.1 d0 (by simp) (M := B) (by grind) (by grind) (by simp only [ex]; rw [vm.2, em]; grind) (by simp only [ex]; rw [vm.2, em]; grind)
    simp only [ex] at c1 c2
    rw [vm.2, em] at c1 c2
    obtain ⟨g0, g1, g2⟩ := fop_u .add rfl a0 c0 (by simp) (M := 65 / 10 * B) (by grind) (by grind) (by simp only [ex]; grind) (by simp only [ex]; grind)
    simp only [ex] at g1 g2
    have eh : heatK P (k + 1) = fop .add .f32 (heatK P k) (fop .mul .f32 (fop .mul .f32 (cn .f32 (P.a.getD k 0)) (cn .f32 (P.c.getD k 0))) (cn .f32 (P.d.getD k 0))) := rfl
    have es : hR P A C (k + 1) = hR P A C k + wR A C k * xR P k := rfl
    rw [eh, es, e]
    exact ⟨g0, by grind, by grind, by grind, by grind⟩
/-- Bounds behind some ticks. -/
def mK (M : Rat) : Nat → Rat
  | 0 => M
  | k + 1 => mK M k + mK M k / 1000
theorem mK_le {M : Rat} (h : 0 ≤ M) : ∀ k, k ≤ 5 → M ≤ mK M k ∧ mK M k ≤ M + (k : Rat) * (M / 990)
  | 0, _ => by
    have e : ((0 : Nat) : Rat) = 0 := rfl
    show M ≤ M ∧ M ≤ _
    rw [e]; exact ⟨Rat.le_refl, by grind⟩
  | k + 1, hk => by
    obtain ⟨a, b⟩ := mK_le h k (by omega)
    have e : ((k + 1 : Nat) : Rat) = (k : Rat) + 1 := by rw [Rat.natCast_add]; rfl
    have kb : (k : Rat) ≤ ((5 : Nat) : Rat) := by exact_mod_cast (by omega : k ≤ 5)
    have e5 : ((5 : Nat) : Rat) = 5 := rfl
    rw [e5] at kb
    have k1 := Rat.mul_le_mul_of_nonneg_right kb (show 0 ≤ M / 990 by grind)
    show M ≤ mK M k + mK M k / 1000 ∧ mK M k + mK M k / 1000 ≤ _
    rw [e]
    exact ⟨by grind, by grind⟩
theorem solL_at {b a x s : Nat → Nat} {n i : Nat} (h : i < n) : (solL b a x s n).getD i 0 = solO b a x s n i := by
  unfold solL
  rw [List.getD_eq_getElem?_getD, List.getElem?_map, List.getElem?_range h]; rfl
theorem cn_solO (b a x s : Nat → Nat) (n i : Nat) : cn .f32 (solO b a x s n i) = solO b a x s n i := cn_bkO _ _ _ _ _ _
/-- A rod of other warmths. -/
theorem GR.with (h : GR P n A C M) {L : List Nat} {M' : Rat} (hl : L.length = n) (hL : ∀ i, i < n → fnt .f32 (cn .f32 (L.getD i 0)) = true ∧ fv .f32 (cn .f32 (L.getD i 0)) ≤ M' ∧ -fv .f32 (cn .f32 (L.getD i 0)) ≤ M') : GR ⟨P.a, P.b, P.c, L⟩ n A C M' :=
  ⟨h.hn, h.la, h.lb, h.lc, hl, h.a, h.b, h.c, hL⟩
theorem GR.tick (h : GR P n A C M) (hM : 1 / 1024 ≤ M ∧ M ≤ 1000) {N : Rat} (hE : GE E N) (hG : GE G N) (k1 : E.k = 1) (k2 : G.k = 1) (t1 : V .f32 (cn .f32 E.t) 0) (t2 : V .f32 (cn .f32 G.t) 0) :
    GR (rwsR P E G 1048576000) n A C (M + M / 1000) ∧ rwsOk P E G 1048576000 = true ∧ hR (rwsR P E G 1048576000) A C n - hR P A C n ≤ 1860 * (M * uu) ∧ hR P A C n - hR (rwsR P E G 1048576000) A C n ≤ 1860 * (M * uu) := by
  obtain ⟨y, s1, s2⟩ := h.kept hM hE hG k1 k2 t1 t2
  have hl : (rwsL P E G 1048576000).length = n := by unfold rwsL; rw [solL_len, h.la]
  have hat : ∀ i, i < n → cn .f32 ((rwsL P E G 1048576000).getD i 0) = solO (rwB P E G) (rwA P E G 1048576000) (rwX P E G) (rwS P E G 1048576000) n i := fun i hi => by
    unfold rwsL
    rw [h.la, solL_at hi, cn_solO]
  have R : GR (rwsR P E G 1048576000) n A C (M + M / 1000) := h.with hl (fun i hi => by rw [hat i hi]; exact y i hi)
  have ok : rwsOk P E G 1048576000 = true := by
    unfold rwsOk rwsPre
    rw [h.passOk hE hG, R.ok, abv_of V25w.1 (by rw [V25w.2]; grind)]; rfl
  have es : sumQ (fun i => wR A C i * (fv .f32 (solO (rwB P E G) (rwA P E G 1048576000) (rwX P E G) (rwS P E G 1048576000) n i) - xR P i)) n = hR (rwsR P E G 1048576000) A C n - hR P A C n := by
    unfold hR
    rw [← sumQ_sub]
    refine sumQ_congr n (fun i hi => ?_)
    have : xR (rwsR P E G 1048576000) i = fv .f32 (solO (rwB P E G) (rwA P E G 1048576000) (rwX P E G) (rwS P E G 1048576000) n i) := by
      show fv .f32 (cn .f32 ((rwsL P E G 1048576000).getD i 0)) = _
      rw [hat i hi]
    rw [this]; grind
  rw [es] at s1 s2
  exact ⟨R, ok, s1, by grind⟩
/-- Five ticks. -/
theorem GR.run (h : GR P n A C M) (hM : 1 / 1024 ≤ M ∧ M ≤ 100) {N : Rat} (hE : GE E N) (hG : GE G N) (k1 : E.k = 1) (k2 : G.k = 1) (t1 : V .f32 (cn .f32 E.t) 0) (t2 : V .f32 (cn .f32 G.t) 0) :
    ∀ k, k ≤ 5 → GR (runR true E G 1048576000 P k) n A C (mK M k) ∧ runO true E G 1048576000 P k = true ∧ hR (runR true E G 1048576000 P k) A C n - hR P A C n ≤ (k : Rat) * (1872 * (M * uu)) ∧ hR P A C n - hR (runR true E G 1048576000 P k) A C n ≤ (k : Rat) * (1872 * (M * uu))
  | 0, _ => by
    have e : ((0 : Nat) : Rat) = 0 := rfl
    rw [e]
    exact ⟨h, rfl, by show hR P A C n - hR P A C n ≤ _; grind, by show hR P A C n - hR P A C n ≤ _; grind⟩
  | k + 1, hk => by
    obtain ⟨R, ok, a, b⟩ := h.run hM hE hG k1 k2 t1 t2 k (by omega)
    obtain ⟨m1, m2⟩ := mK_le (M := M) (by grind) k (by omega)
    have kb : (k : Rat) ≤ ((5 : Nat) : Rat) := by exact_mod_cast (by omega : k ≤ 5)
    have e5 : ((5 : Nat) : Rat) = 5 := rfl
    rw [e5] at kb
    have k3 := Rat.mul_le_mul_of_nonneg_right kb (show 0 ≤ M / 990 by grind)
    have m3 : mK M k ≤ 1006 / 1000 * M := by grind
    obtain ⟨R', ok', a', b'⟩ := R.tick ⟨by grind, by grind⟩ hE hG k1 k2 t1 t2
    have u0 : 0 < uu := by unfold uu; decide +kernel
    have mu := Rat.mul_le_mul_of_nonneg_right m3 (Rat.le_of_lt u0)
    have e : ((k + 1 : Nat) : Rat) = (k : Rat) + 1 := by rw [Rat.natCast_add]; rfl
    have er : runR true E G 1048576000 P (k + 1) = rwsR (runR true E G 1048576000 P k) E G 1048576000 := rfl
    have eo : runO true E G 1048576000 P (k + 1) = (runO true E G 1048576000 P k && rwsOk (runR true E G 1048576000 P k) E G 1048576000) := rfl
    have em : mK M (k + 1) = mK M k + mK M k / 1000 := rfl
    rw [er, eo, em, e, ok, ok']
    exact ⟨R', rfl, by grind, by grind⟩
/-- The heats of a run, near the first. -/
theorem GR.heats (h : GR P n A C M) (hM : 1 / 1024 ≤ M ∧ M ≤ 100) {N : Rat} (hE : GE E N) (hG : GE G N) (k1 : E.k = 1) (k2 : G.k = 1) (t1 : V .f32 (cn .f32 E.t) 0) (t2 : V .f32 (cn .f32 G.t) 0) {k : Nat} (hk : k ≤ 5) :
    fnt .f32 (htV (runR true E G 1048576000 P k)) = true ∧ 4 * fv .f32 (htV (runR true E G 1048576000 P k)) - hR P A C n ≤ 10200 * (M * uu) ∧ hR P A C n - 4 * fv .f32 (htV (runR true E G 1048576000 P k)) ≤ 10200 * (M * uu) := by
  obtain ⟨R, ok, a, b⟩ := h.run hM hE hG k1 k2 t1 t2 k hk
  obtain ⟨m1, m2⟩ := mK_le (M := M) (by grind) k hk
  have kb : (k : Rat) ≤ ((5 : Nat) : Rat) := by exact_mod_cast hk
  have e5 : ((5 : Nat) : Rat) = 5 := rfl
  rw [e5] at kb
  have k3 := Rat.mul_le_mul_of_nonneg_right kb (show 0 ≤ M / 990 by grind)
  have m3 : mK M k ≤ 1006 / 1000 * M := by grind
  have u0 : 0 < uu := by unfold uu; decide +kernel
  have u3 : 0 < M * uu := Rat.mul_pos (by grind) u0
  have hn := h.hn
  have H := R.heat (B := 4 * mK M k) ⟨by grind, by grind⟩ (fun i hi => by
    obtain ⟨w1, w2⟩ := h.wb hi
    obtain ⟨_, d1, d2⟩ := R.d i hi
    have a1 := Rat.mul_le_mul_of_nonneg_left d1 (show 0 ≤ wR A C i by grind)
    have a2 := Rat.mul_le_mul_of_nonneg_left d2 (show 0 ≤ wR A C i by grind)
    have a3 := Rat.mul_le_mul_of_nonneg_right w2 (show 0 ≤ mK M k by grind)
    exact ⟨by show wR A C i * fv .f32 (cn .f32 ((runR true E G 1048576000 P k).d.getD i 0)) ≤ _; grind, by show -(wR A C i * fv .f32 (cn .f32 ((runR true E G 1048576000 P k).d.getD i 0))) ≤ _; grind⟩) n (Nat.le_refl _)
  have la : (runR true E G 1048576000 P k).a.length = n := R.la
  unfold htV
  rw [la]
  obtain ⟨h0, h1, h2, _⟩ := H
  have nb : (n : Rat) ≤ ((6 : Nat) : Rat) := by exact_mod_cast hn.2
  have e6 : ((6 : Nat) : Rat) = 6 := rfl
  rw [e6] at nb
  have mu := Rat.mul_le_mul_of_nonneg_right m3 (Rat.le_of_lt u0)
  have n1 := Rat.mul_le_mul_of_nonneg_right nb (show 0 ≤ 30 * (4 * mK M k * uu) by have := Rat.mul_nonneg (show 0 ≤ mK M k by grind) (Rat.le_of_lt u0); grind)
  have k4 := Rat.mul_le_mul_of_nonneg_right kb (show 0 ≤ 1872 * (M * uu) by grind)
  exact ⟨h0, by grind, by grind⟩
end
end Go.Proofs.Ytpnkapdemgieaaa
set_option linter.unusedSimpArgs false
set_option linter.unusedVariables false
set_option linter.unusedSectionVars false
namespace Go.Proofs.Ytpnkapdemgieaaa
open Go Go.RowKit
section
variable {P X Y : Nat} {p m n : Int}
end
end Go.Proofs.Ytpnkapdemgieaaa
set_option linter.unusedSimpArgs false
set_option linter.unusedVariables false
set_option linter.unusedSectionVars false
namespace Go.Proofs.Ytpnkapdemgieaaa
open Go Go.RowKit
section
variable {s : St} {a b c d p l k : Int} {H : Nat}
/-- What a heat of k quarters leads to. -/
structure HV (s : St) (p k : Int) (W T : Nat) : Prop where
  fW : fnt .f32 W = true
  fT : fnt .f32 T = true
  t0 : 0 ≤ fv .f32 T
  t1 : fv .f32 T ≤ 1
  sg : (fv .f32 W < fv .f32 s.k.p ↔ k < 0) ∧ (0 ≤ k → fv .f32 s.k.p ≤ fv .f32 W)
end
end Go.Proofs.Ytpnkapdemgieaaa
set_option linter.unusedSimpArgs false
set_option linter.unusedVariables false
set_option linter.unusedSectionVars false
namespace Go.Proofs.Ytpnkapdemgieaaa
open Go Go.RowKit
section
variable {s : St} {a b c d p l k : Int} {H : Nat}
end
end Go.Proofs.Ytpnkapdemgieaaa
set_option linter.unusedSimpArgs false
set_option linter.unusedVariables false
set_option linter.unusedSectionVars false
namespace Go.Proofs.Ytpnkapdemgieaaa
open Go Go.RowKit
def gapC (x y : Nat) : Nat := if flt .f64 x y then fop .sub .f64 y x else fop .sub .f64 x y
theorem cn_gapC (x y : Nat) : cn .f64 (gapC x y) = gapC x y := by unfold gapC; split <;> exact cn_fop _ _ _ _
def cTho : Nat := cn .f64 4562254508917369340
theorem rep64 (z q : Int) (h : z.natAbs < 9007199254740992) (h1 : -1000 ≤ q) (h2 : q ≤ 900) {r : Rat} (hr : r = z * tp q) : Rep .f64 r := rep_at (k := .f64) z q (by show z.natAbs < 2 ^ (52 + 1); exact h) (by show -1074 ≤ q; omega) (by show q + 52 + 1 < 1024; omega) hr
def fmax64 (x y : Nat) : Nat := if flt .f64 x y then y else if flt .f64 y x then x else if (FloatKind.f64.decode x).neg then y else x
theorem run_fmax64 {P : Program} {x y : Nat} (hx : fnt .f64 x = true) (hy : fnt .f64 y = true) (ts : Array TypeId) (t : TypeId) (w : World) : (Builtin.max_ ts t #[.float .f64 x, .float .f64 y]).run P w = .ok (.float .f64 (fmax64 x y)) w := by
  have h1 := fltv hx hy
  have h2 := fltv hy hx
  unfold fmax64
  rcases ordv .f64 hx hy with ⟨h, e⟩ | ⟨h, e⟩ | ⟨h, e⟩
  · rw [h1, decide_eq_true e]
    simp [Builtin.max_, Builtin.max2, h]
  · rw [h1, h2, decide_eq_false (by grind), decide_eq_false (by grind)]
    simp [Builtin.max_, Builtin.max2, h]
  · rw [h1, h2, decide_eq_false (by grind), decide_eq_true e]
    simp [Builtin.max_, Builtin.max2, h]
theorem fmax64_val {x y : Nat} (hx : fnt .f64 x = true) (hy : fnt .f64 y = true) : fnt .f64 (fmax64 x y) = true ∧ fv .f64 x ≤ fv .f64 (fmax64 x y) ∧ fv .f64 y ≤ fv .f64 (fmax64 x y) ∧ (fmax64 x y = x ∨ fmax64 x y = y) := by
  have h1 := fltv hx hy
  have h2 := fltv hy hx
  unfold fmax64
  rcases ordv .f64 hx hy with ⟨h, e⟩ | ⟨h, e⟩ | ⟨h, e⟩
  · rw [h1, decide_eq_true e]
    exact ⟨hy, Rat.le_of_lt e, Rat.le_refl, .inr rfl⟩
  · rw [h1, h2, decide_eq_false (by grind), decide_eq_false (by grind)]
    simp only [Bool.false_eq_true, if_false]
    split
    · exact ⟨hy, by grind, Rat.le_refl, .inr rfl⟩
    · exact ⟨hx, Rat.le_refl, by grind, .inl rfl⟩
  · rw [h1, h2, decide_eq_false (by grind), decide_eq_true e]
    exact ⟨hx, Rat.le_refl, Rat.le_of_lt e, .inl rfl⟩
end Go.Proofs.Ytpnkapdemgieaaa
set_option linter.unusedSimpArgs false
set_option linter.unusedVariables false
set_option linter.unusedSectionVars false
namespace Go.Proofs.Ytpnkapdemgieaaa
open Go Go.RowKit
open Go.ChangeShapes Go.WideShapes Go.ChangeAt Go.RowKit Go.Joins
def gap8 (x y : Nat) : Nat := fmax64 (fop .sub .f64 x y) (fop .sub .f64 y x)
/-- Both differences are finite. -/
def gapOk (x y : Nat) : Prop := fnt .f64 (fop .sub .f64 x y) = true ∧ fnt .f64 (fop .sub .f64 y x) = true
theorem gap8_le {x y : Nat} {c : Rat} (hx : fnt .f64 x = true) (hy : fnt .f64 y = true) (hc : Rep .f64 c) (h1 : fv .f64 x - fv .f64 y ≤ c) (h2 : fv .f64 y - fv .f64 x ≤ c) : gapOk x y ∧ Btw .f64 (gap8 x y) (-c) c := by
  obtain ⟨a1, a2, a3⟩ := fop_btw .sub rfl .f64 (a := -c) (b := c) hx hy (by simp) hc.neg hc (by simp only [ex]; grind) (by simp only [ex]; grind)
  obtain ⟨b1, b2, b3⟩ := fop_btw .sub rfl .f64 (a := -c) (b := c) hy hx (by simp) hc.neg hc (by simp only [ex]; grind) (by simp only [ex]; grind)
  obtain ⟨g1, g2, g3, g4⟩ := fmax64_val a1 b1
  refine ⟨⟨a1, b1⟩, g1, ?_, ?_⟩
  · show -c ≤ fv .f64 (fmax64 _ _); grind
  · show fv .f64 (fmax64 _ _) ≤ c
    rcases g4 with e | e <;> rw [e] <;> assumption
theorem cn_fmax64 {x y : Nat} (hx : fnt .f64 x = true) (hy : fnt .f64 y = true) : cn .f64 (fmax64 x y) = fmax64 x y := fnt_cn (fmax64_val hx hy).1
theorem raw_fnt {k : FloatKind} {x c : Nat} (h : cn k x = c) (hf : fnt k c = true) : x = c := by
  cases hn : isN k x with
  | true =>
    rw [cn_of_isN hn] at h
    subst h
    have : fnt k (qn k) = false := by cases k <;> decide +kernel
    rw [this] at hf; cases hf
  | false => rw [cn_of_not hn] at h; exact h
theorem max_raw {C D : Nat} (hC : fnt .f64 C = true) (hD : fnt .f64 D = true) {P : Program} (x y : Nat) (hx : cn .f64 x = C) (hy : cn .f64 y = D) (ts : Array TypeId) (t : TypeId) (w : World) : (Builtin.max_ ts t #[.float .f64 x, .float .f64 y]).run P w = .ok (.float .f64 (fmax64 C D)) w := by
  rw [raw_fnt hx hC, raw_fnt hy hD]
  exact run_fmax64 hC hD ts t w
theorem r8Gap_any (x y : Nat) (w : World) (h : gapOk (cn .f64 x) (cn .f64 y)) : Calls Try.prog 13 #[.float .f64 x, .float .f64 y] w (RF w .f64 (gap8 (cn .f64 x) (cn .f64 y))) := by
  obtain ⟨h1, h2⟩ := h
  have HC := Lib.hid (cn_fmax64 h1 h2)
  have HM := Lib.hid (fun x y hx hy ts t w => max_raw (P := Try.prog) h1 h2 x y hx hy ts t w)
  have HV : Hid (gap8 (cn .f64 x) (cn .f64 y) = fmax64 (fop .sub .f64 (cn .f64 x) (cn .f64 y)) (fop .sub .f64 (cn .f64 y) (cn .f64 x))) := rfl
  rw [HV.out]
  clear HV
  have hm := HM.out
  go_enter Try.func13, Try.ntmps13
  go_wp2_with (first | (with_reducible refine at_list ?_; refine wpList_fop rfl rfl rfl rfl rfl ?_; intro r n hr0; have hr := hr0 _ _ (by first | with_reducible assumption | exact rfl) (by first | with_reducible assumption | exact rfl); clear hr0) | (with_reducible refine at_list ?_; refine wpList_neg rfl rfl rfl ?_; intro r hr0; have hr := hr0 _ (by first | with_reducible assumption | exact rfl); clear hr0) | (with_reducible refine at_list ?_; refine wpList_fop_g rfl rfl rfl rfl rfl ?_; intro r n hr0; have hr := hr0 _ _ (by first | with_reducible assumption | exact rfl) (by first | with_reducible assumption | exact rfl); clear hr0) | (with_reducible refine at_list ?_; refine wpList_wide_g rfl rfl Try.underlying28 Try.underlying39 rfl ?_; intro r n hr0; have hr := hr0 _ (by first | with_reducible assumption | exact rfl); clear hr0) | (with_reducible refine at_list ?_; refine wpList_wide rfl rfl rfl Try.underlying28 Try.underlying39 ?_; intro r n hr0; have hr := hr0 _ (by first | with_reducible assumption | exact rfl); clear hr0))
  go_ret
  exact ⟨_, rfl, HC.out, by first | exact ⟨_, rfl⟩ | exact ⟨0, rfl⟩⟩
end Go.Proofs.Ytpnkapdemgieaaa
set_option linter.unusedSimpArgs false
set_option linter.unusedVariables false
set_option linter.unusedSectionVars false
namespace Go.Proofs.Ytpnkapdemgieaaa
open Go Go.RowKit
/-- A drawn rod. -/
structure DR (P : Rd) (n : Nat) (A C T : Nat → Int) : Prop where
  g : GR P n A C 8
  t : ∀ i, i < n → V .f32 (cn .f32 (P.d.getD i 0)) ((T i : Rat) / 2) ∧ -16 ≤ T i ∧ T i ≤ 16
def sumZ (f : Nat → Int) : Nat → Int
  | 0 => 0
  | k + 1 => sumZ f k + f k
theorem sumZ_bd {f : Nat → Int} {B : Int} : ∀ k, (∀ i, i < k → -B ≤ f i ∧ f i ≤ B) → -(k * B) ≤ sumZ f k ∧ sumZ f k ≤ k * B
  | 0, _ => by simp [sumZ]
  | k + 1, h => by
    obtain ⟨a, b⟩ := sumZ_bd k (fun i hi => h i (by omega))
    obtain ⟨c, d⟩ := h k (by omega)
    have e : ((k + 1 : Nat) : Int) * B = k * B + B := by rw [Int.natCast_add, Int.add_mul]; simp
    simp only [sumZ]
    rw [e]
    exact ⟨by omega, by omega⟩
theorem act_bd {a c t : Int} (h1 : 1 ≤ a ∧ a ≤ 8) (h2 : 1 ≤ c ∧ c ≤ 8) (h3 : -16 ≤ t ∧ t ≤ 16) : (1 ≤ a * c ∧ a * c ≤ 64) ∧ -1024 ≤ a * c * t ∧ a * c * t ≤ 1024 := by
  have m1 : 1 * 1 ≤ a * c := Int.mul_le_mul h1.1 h2.1 (by omega) (by omega)
  have m2 : a * c ≤ 8 * 8 := Int.mul_le_mul h1.2 h2.2 (by omega) (by omega)
  have m3 : a * c * t ≤ 64 * 16 := by
    by_cases ht : 0 ≤ t
    · exact Int.mul_le_mul (by omega) (by omega) ht (by omega)
    · have := Int.mul_nonneg (show 0 ≤ a * c by omega) (show 0 ≤ -t by omega)
      rw [Int.mul_neg] at this; omega
  have m4 : a * c * (-t) ≤ 64 * 16 := by
    by_cases ht : 0 ≤ -t
    · exact Int.mul_le_mul (by omega) (by omega) ht (by omega)
    · have := Int.mul_nonneg (show 0 ≤ a * c by omega) (show 0 ≤ t by omega)
      rw [Int.mul_neg]; omega
  rw [Int.mul_neg] at m4
  exact ⟨⟨by omega, by omega⟩, by omega, by omega⟩
theorem tp_m5 : tp (-5) * 32 = 1 := by
  have h : tp (-5) * tp 5 = 1 := by rw [← tp_add]; exact tp_zero
  rwa [show tp 5 = 32 from (tp_nat 5).trans rfl] at h
theorem rep32 {z : Int} (h : z.natAbs < 16777216) : Rep .f32 ((z : Rat) / 32) := rep_at (k := .f32) z (-5) (by show z.natAbs < 2 ^ (23 + 1); omega) (by decide) (by decide) (by have := tp_m5; grind)
theorem rep32d {z : Int} (h : z.natAbs < 16777216) : Rep .f64 ((z : Rat) / 32) := rep64 z (-5) (by omega) (by decide) (by decide) (by have := tp_m5; grind)
section
variable {P : Rd} {n : Nat} {A C T : Nat → Int}
theorem DR.b (h : DR P n A C T) {i : Nat} (hi : i < n) : (1 ≤ A i * C i ∧ A i * C i ≤ 64) ∧ -1024 ≤ A i * C i * T i ∧ A i * C i * T i ≤ 1024 := act_bd (h.g.a i hi).2 (h.g.c i hi).2 (h.t i hi).2
theorem DR.x (h : DR P n A C T) {i : Nat} (hi : i < n) : xR P i = (T i : Rat) / 2 := (h.t i hi).1.2
/-- The heat, exactly. -/
theorem DR.heat (h : DR P n A C T) : ∀ k, k ≤ n → V .f32 (heatK P k) (((sumZ (fun i => A i * C i * T i) k : Int) : Rat) / 32) ∧ hR P A C k = ((sumZ (fun i => A i * C i * T i) k : Int) : Rat) / 8
  | 0, _ => by
    refine ⟨V0.eq ?_, ?_⟩
    · show (0 : Rat) = ((0 : Int) : Rat) / 32
      have e : ((0 : Int) : Rat) = 0 := rfl
      rw [e]; grind
    · show (0 : Rat) = ((0 : Int) : Rat) / 8
      have e : ((0 : Int) : Rat) = 0 := rfl
      rw [e]; grind
  | k + 1, hk => by
    obtain ⟨a, b⟩ := h.heat k (by omega)
    have hn := h.g.hn
    obtain ⟨⟨c1, c2⟩, c3, c4⟩ := h.b (i := k) (by omega)
    obtain ⟨vd, _⟩ := h.t k (by omega)
    have vm := h.g.mass (i := k) (by omega)
    obtain ⟨s1, s2⟩ := sumZ_bd (f := fun i => A i * C i * T i) (B := 1024) k (fun i hi => (h.b (i := i) (by omega)).2)
    have kb : (k : Int) * 1024 ≤ 5 * 1024 := Int.mul_le_mul_of_nonneg_right (by omega) (by decide)
    have es : sumZ (fun i => A i * C i * T i) (k + 1) = sumZ (fun i => A i * C i * T i) k + A k * C k * T k := rfl
    have e1 : ex .mul (((A k * C k : Int) : Rat) / 16) ((T k : Rat) / 2) = ((A k * C k * T k : Int) : Rat) / 32 := by simp only [ex]; rw [Rat.intCast_mul (A k * C k) (T k)]; grind
    have Q := V.op .mul rfl vm vd (by simp) (by rw [e1]; exact rep32 (by omega))
    rw [e1] at Q
    have e2 : ex .add (((sumZ (fun i => A i * C i * T i) k : Int) : Rat) / 32) (((A k * C k * T k : Int) : Rat) / 32) = ((sumZ (fun i => A i * C i * T i) (k + 1) : Int) : Rat) / 32 := by simp only [ex]; rw [es, Rat.intCast_add]; grind
    have R := V.op .add rfl a Q (by simp) (by rw [e2]; exact rep32 (by rw [es]; omega))
    rw [e2] at R
    refine ⟨R, ?_⟩
    show hR P A C k + wR A C k * xR P k = _
    rw [b, h.x (i := k) (by omega), es, Rat.intCast_add, Rat.intCast_mul (A k * C k) (T k)]
    unfold wR
    grind
/-- How great a rod is, as the law draws it. -/
def szW (P : Rd) : Nat → Nat
  | 0 => cn .f64 4607182418800017408
  | k + 1 => fop .add .f64 (szW P k) (fop .mul .f64 (fop .mul .f64 (wide (cn .f32 (P.a.getD k 0))) (wide (cn .f32 (P.c.getD k 0)))) (gap8 (wide (cn .f32 (P.d.getD k 0))) (cn .f64 0)))
theorem Vone : V .f64 (cn .f64 4607182418800017408) 1 := ⟨by decide +kernel, by decide +kernel⟩
theorem Vnil : V .f64 (cn .f64 0) 0 := ⟨by decide +kernel, by decide +kernel⟩
theorem wide_v {x : Nat} {q : Rat} (h : V .f32 x q) : V .f64 (wide x) q := by
  obtain ⟨a, b⟩ := wide_val h.1
  exact ⟨a, by rw [b, h.2]⟩
/-- The amount of a small number. -/
theorem gap_abs {x : Nat} {t : Int} (h : V .f32 x ((t : Rat) / 2)) (ht : -16 ≤ t ∧ t ≤ 16) : gapOk (wide x) (cn .f64 0) ∧ V .f64 (gap8 (wide x) (cn .f64 0)) (((t.natAbs : Int) : Rat) / 2) := by
  have w := wide_v h
  have r : ∀ z : Int, z.natAbs ≤ 16 → Rep .f64 ((z : Rat) / 2) := fun z hz => rep64 z (-1) (by omega) (by decide) (by decide) (by have := tp_n1; grind)
  have e1 : ex .sub ((t : Rat) / 2) 0 = (t : Rat) / 2 := by simp only [ex]; grind
  have e2 : ex .sub 0 ((t : Rat) / 2) = ((-t : Int) : Rat) / 2 := by simp only [ex]; rw [Rat.intCast_neg]; grind
  have a := V.op .sub rfl w Vnil (by simp) (by rw [e1]; exact r t (by omega))
  have b := V.op .sub rfl Vnil w (by simp) (by rw [e2]; exact r (-t) (by omega))
  rw [e1] at a
  rw [e2] at b
  refine ⟨⟨a.1, b.1⟩, ?_⟩
  obtain ⟨g1, g2, g3, g4⟩ := fmax64_val a.1 b.1
  refine ⟨g1, ?_⟩
  show fv .f64 (fmax64 _ _) = _
  have g5 : fv .f64 (fmax64 (fop .sub .f64 (wide x) (cn .f64 0)) (fop .sub .f64 (cn .f64 0) (wide x))) = (t : Rat) / 2 ∨ fv .f64 (fmax64 (fop .sub .f64 (wide x) (cn .f64 0)) (fop .sub .f64 (cn .f64 0) (wide x))) = -(t : Rat) / 2 := by
    rcases g4 with e | e
    · left; rw [e]; exact a.2
    · right; rw [e, b.2, Rat.intCast_neg]
  rw [a.2] at g2
  rw [b.2, Rat.intCast_neg] at g3
  clear g4
  generalize fv .f64 (fmax64 (fop .sub .f64 (wide x) (cn .f64 0)) (fop .sub .f64 (cn .f64 0) (wide x))) = F at *
  by_cases h0 : 0 ≤ t
  · have e : (t.natAbs : Int) = t := by omega
    have h1 : ((0 : Int) : Rat) ≤ (t : Rat) := icast_le h0
    have z : ((0 : Int) : Rat) = 0 := rfl
    rw [z] at h1
    rw [e]
    rcases g5 with g5 | g5 <;> grind
  · have e : (t.natAbs : Int) = -t := by omega
    have h1 : (t : Rat) ≤ ((0 : Int) : Rat) := icast_le (by omega)
    have z : ((0 : Int) : Rat) = 0 := rfl
    rw [z] at h1
    rw [e, Rat.intCast_neg]
    rcases g5 with g5 | g5 <;> grind
theorem DR.size (h : DR P n A C T) : ∀ k, k ≤ n → V .f64 (szW P k) (1 + ((sumZ (fun i => A i * C i * ((T i).natAbs : Int)) k : Int) : Rat) / 32) ∧ 0 ≤ sumZ (fun i => A i * C i * ((T i).natAbs : Int)) k ∧ sumZ (fun i => A i * C i * ((T i).natAbs : Int)) k ≤ k * 1024
  | 0, _ => by
    refine ⟨Vone.eq ?_, by simp [sumZ], by simp [sumZ]⟩
    show (1 : Rat) = 1 + ((0 : Int) : Rat) / 32
    have e : ((0 : Int) : Rat) = 0 := rfl
    rw [e]; grind
  | k + 1, hk => by
    obtain ⟨a, b, c⟩ := h.size k (by omega)
    have hn := h.g.hn
    obtain ⟨⟨c1, c2⟩, _⟩ := h.b (i := k) (by omega)
    obtain ⟨va, ka⟩ := h.g.a k (by omega)
    obtain ⟨vc, kc⟩ := h.g.c k (by omega)
    obtain ⟨vd, kd⟩ := h.t k (by omega)
    obtain ⟨_, vg⟩ := gap_abs vd kd
    have n0 : 0 ≤ A k * C k * ((T k).natAbs : Int) := Int.mul_nonneg (by omega) (by omega)
    have n1 : A k * C k * ((T k).natAbs : Int) ≤ 64 * 16 := Int.mul_le_mul c2 (by omega) (by omega) (by omega)
    have es : sumZ (fun i => A i * C i * ((T i).natAbs : Int)) (k + 1) = sumZ (fun i => A i * C i * ((T i).natAbs : Int)) k + A k * C k * ((T k).natAbs : Int) := rfl
    have e1 : ex .mul ((A k : Rat) / 4) ((C k : Rat) / 4) = ((A k * C k : Int) : Rat) / 16 := by simp only [ex]; rw [Rat.intCast_mul]; grind
    have Q := V.op .mul rfl (wide_v va) (wide_v vc) (by simp) (by rw [e1]; exact rep64 (A k * C k) (-4) (by omega) (by decide) (by decide) (by have := tp_m4; grind))
    rw [e1] at Q
    have e2 : ex .mul (((A k * C k : Int) : Rat) / 16) ((((T k).natAbs : Int) : Rat) / 2) = ((A k * C k * ((T k).natAbs : Int) : Int) : Rat) / 32 := by simp only [ex]; rw [Rat.intCast_mul (A k * C k)]; grind
    have R := V.op .mul rfl Q vg (by simp) (by rw [e2]; exact rep32d (by omega))
    rw [e2] at R
    have k5 : (k : Int) * 1024 ≤ 5 * 1024 := Int.mul_le_mul_of_nonneg_right (by omega) (by decide)
    have e3 : ex .add (1 + ((sumZ (fun i => A i * C i * ((T i).natAbs : Int)) k : Int) : Rat) / 32) (((A k * C k * ((T k).natAbs : Int) : Int) : Rat) / 32) = ((32 + sumZ (fun i => A i * C i * ((T i).natAbs : Int)) (k + 1) : Int) : Rat) / 32 := by
      simp only [ex]; rw [es, Rat.intCast_add 32, Rat.intCast_add]
      have e : ((32 : Int) : Rat) = 32 := rfl
      rw [e]; grind
    have S := V.op .add rfl a R (by simp) (by rw [e3]; exact rep32d (by rw [es]; omega))
    rw [e3] at S
    refine ⟨S.eq ?_, by rw [es]; omega, ?_⟩
    · rw [Rat.intCast_add 32]
      have e : ((32 : Int) : Rat) = 32 := rfl
      rw [e]; grind
    · have e : ((k + 1 : Nat) : Int) * 1024 = k * 1024 + 1024 := by rw [Int.natCast_add, Int.add_mul]; simp
      rw [es, e]; omega
/-- A bound of the warmths that is told by the size. -/
theorem DR.bound (h : DR P n A C T) : ∀ k, k ≤ n → ∃ M : Rat, (1 / 1024 ≤ M ∧ M ≤ 8) ∧ (∀ i, i < k → xR P i ≤ M ∧ -xR P i ≤ M) ∧ M - 1 / 1024 ≤ 16 * (((sumZ (fun i => A i * C i * ((T i).natAbs : Int)) k : Int) : Rat) / 32)
  | 0, _ => ⟨1 / 1024, ⟨Rat.le_refl, by grind⟩, fun i hi => by omega, by
    have e : ((sumZ (fun i => A i * C i * ((T i).natAbs : Int)) 0 : Int) : Rat) = 0 := rfl
    rw [e]; grind⟩
  | k + 1, hk => by
    obtain ⟨M, ⟨m1, m2⟩, m3, m4⟩ := h.bound k (by omega)
    obtain ⟨_, s0, _⟩ := h.size k (by omega)
    obtain ⟨⟨c1, c2⟩, _⟩ := h.b (i := k) (by omega)
    obtain ⟨vd, k1, k2⟩ := h.t k (by omega)
    have hx := h.x (i := k) (by omega)
    have es : sumZ (fun i => A i * C i * ((T i).natAbs : Int)) (k + 1) = sumZ (fun i => A i * C i * ((T i).natAbs : Int)) k + A k * C k * ((T k).natAbs : Int) := rfl
    have n0 : 1 * ((T k).natAbs : Int) ≤ A k * C k * ((T k).natAbs : Int) := Int.mul_le_mul_of_nonneg_right c1 (by omega)
    have g1 := icast_le (show ((T k).natAbs : Int) ≤ A k * C k * ((T k).natAbs : Int) by omega)
    have g0 := icast_le (show (0 : Int) ≤ ((T k).natAbs : Int) by omega)
    have z : ((0 : Int) : Rat) = 0 := rfl
    rw [z] at g0
    have s0' := icast_le s0
    rw [z] at s0'
    have t1 := icast_le (show T k ≤ ((T k).natAbs : Int) by omega)
    have t2 := icast_le (show -T k ≤ ((T k).natAbs : Int) by omega)
    rw [Rat.intCast_neg] at t2
    have t3 := icast_le (show ((T k).natAbs : Int) ≤ (16 : Int) by omega)
    have e16 : ((16 : Int) : Rat) = 16 := rfl
    rw [e16] at t3
    rw [es, Rat.intCast_add]
    by_cases hle : (((T k).natAbs : Int) : Rat) / 2 ≤ M
    · refine ⟨M, ⟨m1, m2⟩, fun i hi => ?_, by grind⟩
      by_cases he : i = k
      · subst he; rw [hx]; exact ⟨by grind, by grind⟩
      · exact m3 i (by omega)
    · refine ⟨(((T k).natAbs : Int) : Rat) / 2, ⟨by grind, by grind⟩, fun i hi => ?_, by grind⟩
      by_cases he : i = k
      · subst he; rw [hx]; exact ⟨by grind, by grind⟩
      · have := m3 i (by omega); exact ⟨by grind, by grind⟩
theorem cTho_b : fnt .f64 cTho = true ∧ 999 / 1000000 ≤ fv .f64 cTho ∧ fv .f64 cTho ≤ 1 := by
  have h1 : fnt .f64 cTho = true := by decide +kernel
  have h2 : (999 : Rat) / 1000000 ≤ fv .f64 cTho := by decide +kernel
  have h3 : fv .f64 cTho ≤ 1 := by decide +kernel
  exact ⟨h1, h2, h3⟩
/-- What the law allows is not less. -/
theorem tol_ge {S : Nat} {s c : Rat} (hS : V .f64 S s) (h1 : 1 ≤ s) (h2 : s ≤ 1000) (hc : Rep .f64 c) (h : c ≤ 999 / 1000000 * s) : fnt .f64 (fop .mul .f64 cTho S) = true ∧ c ≤ fv .f64 (fop .mul .f64 cTho S) := by
  obtain ⟨t0, t1, t2⟩ := cTho_b
  have k1 := Rat.mul_le_mul_of_nonneg_right t1 (show 0 ≤ s by grind)
  have k2 := Rat.mul_le_mul_of_nonneg_right t2 (show 0 ≤ s by grind)
  have r : Rep .f64 (1000 : Rat) := Rep.int (k := .f64) 1000 (by decide)
  obtain ⟨a, b, _⟩ := fop_btw .mul rfl .f64 t0 hS.1 (by simp) hc r (by simp only [ex]; rw [hS.2]; grind) (by simp only [ex]; rw [hS.2]; grind)
  exact ⟨a, b⟩
theorem gap_within {x y S : Nat} {s c : Rat} (hx : fnt .f32 x = true) (hy : fnt .f32 y = true) (h1 : fv .f32 x - fv .f32 y ≤ c) (h2 : fv .f32 y - fv .f32 x ≤ c) (hS : V .f64 S s) (s1 : 1 ≤ s) (s2 : s ≤ 1000) (hc : Rep .f64 c) (h : c ≤ 999 / 1000000 * s) :
    gapOk (wide x) (wide y) ∧ fgt .f64 (gap8 (wide x) (wide y)) (fop .mul .f64 cTho S) = false := by
  obtain ⟨x0, x1⟩ := wide_val hx
  obtain ⟨y0, y1⟩ := wide_val hy
  obtain ⟨g, b0, b1, b2⟩ := gap8_le x0 y0 hc (by rw [x1, y1]; exact h1) (by rw [x1, y1]; exact h2)
  obtain ⟨t0, t1⟩ := tol_ge hS s1 s2 hc h
  refine ⟨g, ?_⟩
  rw [fgtv b0 t0]
  exact decide_eq_false (by grind)
theorem tp_m15 : tp (-15) * 32768 = 1 := by
  have h : tp (-15) * tp 15 = 1 := by rw [← tp_add]; exact tp_zero
  rwa [show tp 15 = 32768 from (tp_nat 15).trans rfl] at h
theorem rep_c (z : Int) (h : z.natAbs < 16777216) : Rep .f64 ((z : Rat) / 32768) := rep64 z (-15) (by omega) (by decide) (by decide) (by have := tp_m15; grind)
/-- The heats of a run: within what the law allows. -/
theorem DR.law1 (h : DR P n A C T) {E G : EndT} {N : Rat} (hE : GE E N) (hG : GE G N) (k1 : E.k = 1) (k2 : G.k = 1) (t1 : V .f32 (cn .f32 E.t) 0) (t2 : V .f32 (cn .f32 G.t) 0) {k : Nat} (hk : k ≤ 5) :
    gapOk (wide (htV (runR true E G 1048576000 P k))) (wide (heatK P n)) ∧ fgt .f64 (gap8 (wide (htV (runR true E G 1048576000 P k))) (wide (heatK P n))) (fop .mul .f64 cTho (szW P n)) = false := by
  have hn := h.g.hn
  obtain ⟨M, ⟨m1, m2⟩, m3, m4⟩ := h.bound n (Nat.le_refl _)
  obtain ⟨vs, s0, s1⟩ := h.size n (Nat.le_refl _)
  obtain ⟨vh, eh⟩ := h.heat n (Nat.le_refl _)
  have g : GR P n A C M := ⟨hn, h.g.la, h.g.lb, h.g.lc, h.g.ld, h.g.a, h.g.b, h.g.c, fun i hi => ⟨(h.g.d i hi).1, m3 i hi⟩⟩
  obtain ⟨f0, f1, f2⟩ := g.heats ⟨m1, by grind⟩ hE hG k1 k2 t1 t2 hk
  rw [eh] at f1 f2
  have u1 : 16700000 * uu = 1 := by unfold uu; decide +kernel
  have u2 : 16700000 * (M * uu) = M := by grind
  have z : ((0 : Int) : Rat) = 0 := rfl
  have s0' := icast_le s0
  rw [z] at s0'
  have s1' := icast_le (show sumZ (fun i => A i * C i * ((T i).natAbs : Int)) n ≤ (6144 : Int) by omega)
  have e6 : ((6144 : Int) : Rat) = 6144 := rfl
  rw [e6] at s1'
  generalize ((sumZ (fun i => A i * C i * ((T i).natAbs : Int)) n : Int) : Rat) = S at *
  generalize ((sumZ (fun i => A i * C i * T i) n : Int) : Rat) = H at *
  by_cases hs : S / 32 ≤ 3 / 10
  · have r := rep_c 32 (by decide)
    have e : ((32 : Int) : Rat) = 32 := rfl
    rw [e] at r
    exact gap_within (c := 32 / 32768) f0 vh.1 (by rw [vh.2]; grind) (by rw [vh.2]; grind) vs (by grind) (by grind) r (by grind)
  · have r := rep_c 41 (by decide)
    have e : ((41 : Int) : Rat) = 41 := rfl
    rw [e] at r
    exact gap_within (c := 41 / 32768) f0 vh.1 (by rw [vh.2]; grind) (by rw [vh.2]; grind) vs (by grind) (by grind) r (by grind)
end
end Go.Proofs.Ytpnkapdemgieaaa
set_option linter.unusedSimpArgs false
set_option linter.unusedVariables false
set_option linter.unusedSectionVars false
namespace Go.Proofs.Ytpnkapdemgieaaa
open Go Go.RowKit
theorem V64th : V .f32 (cn .f32 1015021568) ((1 : Rat) / 64) := ⟨by decide +kernel, by decide +kernel⟩
section
variable {P : Rd} {n : Nat} {A C : Nat → Int} {M : Rat} {E G : EndT}
theorem seq_bd (h : GR P n A C M) (hE : GE E M) (hG : GE G M) {i : Nat} (hi : i ≤ n + 1) : fnt .f32 (seqW P.d E.t G.t i) = true ∧ fv .f32 (seqW P.d E.t G.t i) ≤ M ∧ -fv .f32 (seqW P.d E.t G.t i) ≤ M := by
  cases i with
  | zero => exact hE.t
  | succ i =>
    show fnt .f32 (if i < P.d.length then cn .f32 (P.d.getD i 0) else cn .f32 G.t) = true ∧ _ ∧ _
    show fnt .f32 (if i < P.d.length then cn .f32 (P.d.getD i 0) else cn .f32 G.t) = true ∧ fv .f32 (if i < P.d.length then cn .f32 (P.d.getD i 0) else cn .f32 G.t) ≤ M ∧ -fv .f32 (if i < P.d.length then cn .f32 (P.d.getD i 0) else cn .f32 G.t) ≤ M
    rw [h.ld]
    by_cases hl : i < n
    · rw [if_pos hl]; exact h.d i hl
    · rw [if_neg hl]; exact hG.t
theorem fAt_eq (P : Rd) (E G : EndT) {i : Nat} (hi : i ≤ P.a.length) : fAt P E G i = fop .mul .f32 (pG P E G i) (fop .sub .f32 (seqW P.d E.t G.t i) (seqW P.d E.t G.t (i + 1))) := by
  unfold fAt flowR flowL
  rw [List.getD_eq_getElem?_getD, List.getElem?_map, List.getElem?_range (by omega)]; rfl
theorem GR.flow (h : GR P n A C M) (hM : 1 / 1024 ≤ M ∧ M ≤ 1000) (hE : GE E M) (hG : GE G M) {i : Nat} (hi : i ≤ n) {B : Rat} (hB : 0 ≤ B ∧ B ≤ 16) (hp : pR P E G i ≤ B) : fnt .f32 (fAt P E G i) = true ∧ fv .f32 (fAt P E G i) ≤ 2 * B * M + M / 1000 ∧ -fv .f32 (fAt P E G i) ≤ 2 * B * M + M / 1000 := by
  have u0 : 0 < uu := by unfold uu; decide +kernel
  have u1 : 16700000 * uu = 1 := by unfold uu; decide +kernel
  have u2 : 16700000 * (M * uu) = M := by grind
  obtain ⟨a0, a1, a2⟩ := seq_bd h hE hG (i := i) (by omega)
  obtain ⟨b0, b1, b2⟩ := seq_bd h hE hG (i := i + 1) (by omega)
  obtain ⟨vp, p0, _⟩ := h.p hE hG hi
  rw [fAt_eq P E G (by rw [h.la]; exact hi)]
  obtain ⟨c0, c1, c2⟩ := fop_u .sub rfl a0 b0 (by simp) (M := 2 * M) (by grind) (by grind) (by simp only [ex]; grind) (by simp only [ex]; grind)
  simp only [ex] at c1 c2
  generalize fop .sub .f32 (seqW P.d E.t G.t i) (seqW P.d E.t G.t (i + 1)) = d at *
  have k := mul_bd (a := B) (b := 2 * M + 2 * (M * uu)) (x := pR P E G i) (y := fv .f32 d) (by grind) hp (by grind) (by grind)
  have k2 := Rat.mul_le_mul_of_nonneg_right hB.2 (show 0 ≤ M * uu by grind)
  have k3 := Rat.mul_le_mul_of_nonneg_right hB.2 (show 0 ≤ M by grind)
  have k4 := Rat.mul_nonneg hB.1 (show 0 ≤ M by grind)
  obtain ⟨e0, e1, e2⟩ := fop_u .mul rfl vp.1 c0 (by simp) (M := 33 * M) (by grind) (by grind) (by simp only [ex]; rw [vp.2]; grind) (by simp only [ex]; rw [vp.2]; grind)
  simp only [ex] at e1 e2
  rw [vp.2] at e1 e2
  exact ⟨e0, by grind, by grind⟩
theorem GR.flowOk (h : GR P n A C M) (hM : 1 / 1024 ≤ M ∧ M ≤ 1000) (hE : GE E M) (hG : GE G M) : flowOk P E G = true := by
  have hn := h.hn
  unfold Go.Proofs.Ytpnkapdemgieaaa.flowOk flowFin
  rw [h.passOk hE hG]
  have : (flowR P E G).any (fun x => !fin .f32 x) = false := by
    rw [List.any_eq_false]
    intro x hx
    obtain ⟨i, hi, rfl⟩ := mem_getD hx
    rw [flowR_len, h.la] at hi
    have := (h.flow hM hE hG (i := i) (by omega) (B := 16) ⟨by decide, by decide⟩ (h.p hE hG (i := i) (by omega)).2.2).1
    have e : (flowR P E G).getD i 0 = fAt P E G i := rfl
    rw [e, fin_of_fnt this]; simp
  rw [this]; rfl
theorem stepL_at {P : Rd} {f : Nat → Nat} {t k i : Nat} (h : i < k) : (stepL P f t k).getD i 0 = stepB P f t i := by
  unfold stepL
  rw [List.getD_eq_getElem?_getD, List.getElem?_map, List.getElem?_range h]; rfl
theorem cn_stepB (P : Rd) (f : Nat → Nat) (t i : Nat) : cn .f32 (stepB P f t i) = stepB P f t i := cn_fop _ _ _ _
theorem quu {Q : Rat} (h : Q ≤ 67) : (8 + Q + Q * uu) * uu ≤ 1 / 1000 ∧ Q * uu ≤ 1 / 1000 := by
  unfold uu
  exact ⟨by grind, by grind⟩
/-- A cell, a short tick later. -/
theorem GR.cell (h : GR P n A C 8) (hE : GE E 8) (hG : GE G 8) {i : Nat} (hi : i < n) (h1 : pR P E G i ≤ 8) (h2 : pR P E G (i + 1) ≤ 8) :
    fnt .f32 (stepB P (fAt P E G) 1015021568 i) = true ∧ (fv .f32 (stepB P (fAt P E G) 1015021568 i) ≤ 80 ∧ -fv .f32 (stepB P (fAt P E G) 1015021568 i) ≤ 80) ∧
    (wR A C i * fv .f32 (stepB P (fAt P E G) 1015021568 i) ≤ 148 ∧ -(wR A C i * fv .f32 (stepB P (fAt P E G) 1015021568 i)) ≤ 148) ∧
    wR A C i * (fv .f32 (stepB P (fAt P E G) 1015021568 i) - xR P i) - (fv .f32 (fAt P E G i) - fv .f32 (fAt P E G (i + 1))) / 16 ≤ 210 * uu ∧ (fv .f32 (fAt P E G i) - fv .f32 (fAt P E G (i + 1))) / 16 - wR A C i * (fv .f32 (stepB P (fAt P E G) 1015021568 i) - xR P i) ≤ 210 * uu := by
  have u0 : 0 < uu := by unfold uu; decide +kernel
  have u1 : 16700000 * uu = 1 := by unfold uu; decide +kernel
  obtain ⟨a0, a1, a2⟩ := h.flow ⟨by grind, by grind⟩ hE hG (i := i) (by omega) (B := 8) ⟨by decide, by decide⟩ h1
  obtain ⟨b0, b1, b2⟩ := h.flow ⟨by grind, by grind⟩ hE hG (i := i + 1) (by omega) (B := 8) ⟨by decide, by decide⟩ h2
  obtain ⟨d0, d1, d2⟩ := h.d i hi
  have vm := h.mass hi
  obtain ⟨w1, w2⟩ := h.wb hi
  unfold stepB
  have ew : ((A i * C i : Int) : Rat) / 16 = wR A C i / 4 := by unfold wR; grind
  rw [ew] at vm
  have ex0 : fv .f32 (cn .f32 (P.d.getD i 0)) = xR P i := rfl
  rw [ex0] at d1 d2
  generalize fAt P E G i = f at *
  generalize fAt P E G (i + 1) = g at *
  obtain ⟨s0, s1, s2⟩ := fop_u .sub rfl a0 b0 (by simp) (M := 257) (by grind) (by grind) (by simp only [ex]; grind) (by simp only [ex]; grind)
  simp only [ex] at s1 s2
  generalize fop .sub .f32 f g = s at *
  obtain ⟨t0, t1, t2⟩ := fop_u .mul rfl V64th.1 s0 (by simp) (M := 41 / 10) (by grind) (by grind) (by simp only [ex]; rw [V64th.2]; grind) (by simp only [ex]; rw [V64th.2]; grind)
  simp only [ex] at t1 t2
  rw [V64th.2] at t1 t2
  generalize fop .mul .f32 (cn .f32 1015021568) s = t at *
  generalize fop .mul .f32 (cn .f32 (P.a.getD i 0)) (cn .f32 (P.c.getD i 0)) = m at *
  have mp : 0 < wR A C i / 4 := by grind
  have dv : fv .f32 t / (wR A C i / 4) * (wR A C i / 4) = fv .f32 t := Rat.div_mul_cancel (by grind)
  have dn : -(fv .f32 t / (wR A C i / 4)) * (wR A C i / 4) = -fv .f32 t := by grind
  have q1 : fv .f32 t / (wR A C i / 4) ≤ 66 := mul_cancel_le mp (by rw [dv]; grind)
  have q2 : -(fv .f32 t / (wR A C i / 4)) ≤ 66 := mul_cancel_le mp (by rw [dn]; grind)
  have ta : fv .f32 t ≤ 411 / 100 ∧ -fv .f32 t ≤ 411 / 100 := ⟨by grind, by grind⟩
  -- the amount of the quotient
  obtain ⟨Q, q0, qa, qb, qc⟩ : ∃ Q : Rat, 1 / 1000000 ≤ Q ∧ (fv .f32 t / (wR A C i / 4) ≤ Q ∧ -(fv .f32 t / (wR A C i / 4)) ≤ Q) ∧ Q ≤ 67 ∧ Q * (wR A C i / 4) ≤ 412 / 100 := by
    by_cases hs : 0 ≤ fv .f32 t / (wR A C i / 4)
    · exact ⟨fv .f32 t / (wR A C i / 4) + 1 / 1000000, by grind, ⟨by grind, by grind⟩, by grind, by grind⟩
    · exact ⟨-(fv .f32 t / (wR A C i / 4)) + 1 / 1000000, by grind, ⟨by grind, by grind⟩, by grind, by grind⟩
  obtain ⟨b10, b11, b12⟩ := fop_u .quo rfl t0 vm.1 (fun _ => by rw [vm.2]; grind) (M := Q) q0 (by grind) (by simp only [ex]; rw [vm.2]; exact qa.1) (by simp only [ex]; rw [vm.2]; exact qa.2)
  simp only [ex] at b11 b12
  rw [vm.2] at b11 b12
  generalize fop .quo .f32 t m = y at *
  generalize fv .f32 t / (wR A C i / 4) = q at *
  have c1 := Rat.mul_le_mul_of_nonneg_right b11 (Rat.le_of_lt mp)
  have c2 := Rat.mul_le_mul_of_nonneg_right b12 (Rat.le_of_lt mp)
  have c3 := Rat.mul_le_mul_of_nonneg_right qc (Rat.le_of_lt u0)
  have c4 := Rat.mul_le_mul_of_nonneg_right qb (Rat.le_of_lt u0)
  obtain ⟨e0, e1, e2⟩ := fop_u .add rfl d0 b10 (by simp) (M := 8 + Q + Q * uu) (by grind) (by grind) (by simp only [ex]; rw [ex0]; grind) (by simp only [ex]; rw [ex0]; grind)
  simp only [ex] at e1 e2
  rw [ex0] at e1 e2
  generalize fop .add .f32 (cn .f32 (P.d.getD i 0)) y = z at *
  have f1 := Rat.mul_le_mul_of_nonneg_right e1 (Rat.le_of_lt mp)
  have f2 := Rat.mul_le_mul_of_nonneg_right e2 (Rat.le_of_lt mp)
  have c5 := Rat.mul_le_mul_of_nonneg_right c3 (Rat.le_of_lt u0)
  have c6 := Rat.mul_le_mul_of_nonneg_right w2 (Rat.le_of_lt u0)
  have c7 := Rat.mul_le_mul_of_nonneg_right (show uu ≤ 1 by grind) (Rat.le_of_lt u0)
  have g1 := Rat.mul_le_mul_of_nonneg_left d1 (show 0 ≤ wR A C i by grind)
  have g2 := Rat.mul_le_mul_of_nonneg_left d2 (show 0 ≤ wR A C i by grind)
  generalize wR A C i = w at *
  generalize xR P i = x at *
  have r1 : w * (fv .f32 z - x) - (fv .f32 f - fv .f32 g) / 16 ≤ 210 * uu := by grind
  have r2 : (fv .f32 f - fv .f32 g) / 16 - w * (fv .f32 z - x) ≤ 210 * uu := by grind
  obtain ⟨m1, m2⟩ := quu (Q := Q) qb
  have ff : fv .f32 f - fv .f32 g ≤ 257 ∧ -(fv .f32 f - fv .f32 g) ≤ 257 := by clear f1 f2 g1 g2 r1 r2 e1 e2 c1 c2 c4 dv dn qa m1 m2 b11 b12; exact ⟨by grind, by grind⟩
  have q66 : fv .f32 z - (x + fv .f32 y) ≤ 1 / 1000 ∧ (x + fv .f32 y) - fv .f32 z ≤ 1 / 1000 := by clear f1 f2 g1 g2 r1 r2 c1 c2 c4 dv dn qa m2 b11 b12; exact ⟨by grind, by grind⟩
  have y66 : fv .f32 y ≤ 67 ∧ -fv .f32 y ≤ 67 := by clear f1 f2 g1 g2 r1 r2 c1 c2 c4 dv dn qa m1 e1 e2 q66; exact ⟨by grind, by grind⟩
  have a210 : 210 * uu ≤ 1 / 1000 := by clear f1 f2 g1 g2 r1 r2 c1 c2 c4 dv dn qa m1 e1 e2 q66 y66; grind
  clear f1 f2 c1 c2 c3 c4 c5 c6 c7 dv dn qa m1 m2 b11 b12 e1 e2 s1 s2 t1 t2 a1 a2 b1 b2 qb qc q0 mp vm u1
  refine ⟨e0, ⟨?_, ?_⟩, ⟨?_, ?_⟩, r1, r2⟩
  · clear r1 r2 g1 g2 ff; grind
  · clear r1 r2 g1 g2 ff; grind
  · clear q66 y66; grind
  · clear q66 y66; grind
theorem tele {f : Nat → Rat} : ∀ k, sumQ (fun i => (f i - f (i + 1)) / 16) k = (f 0 - f k) / 16
  | 0 => by simp only [sumQ]; grind
  | k + 1 => by simp only [sumQ]; rw [tele k]; grind
/-- The rod behind a short tick. -/
theorem GR.short (h : GR P n A C 8) (hE : GE E 8) (hG : GE G 8) (k1 : E.k = 1) (k2 : G.k = 1) :
    GR (stepR P E G 1015021568) n A C 80 ∧ stepOk P E G 1015021568 = true ∧ fnt .f32 (heatK (stepR P E G 1015021568) n) = true ∧ 4 * fv .f32 (heatK (stepR P E G 1015021568) n) - hR P A C n ≤ 8000 * uu ∧ hR P A C n - 4 * fv .f32 (heatK (stepR P E G 1015021568) n) ≤ 8000 * uu := by
  have u0 : 0 < uu := by unfold uu; decide +kernel
  have u1 : 16700000 * uu = 1 := by unfold uu; decide +kernel
  have hn := h.hn
  have p8 := fun i (hi : i ≤ n) => h.p8 hE hG k1 k2 hi
  have cell := fun i (hi : i < n) => h.cell hE hG hi (p8 i (by omega)) (p8 (i + 1) (by omega))
  have hl : (stepR P E G 1015021568).d.length = n := by show (stepL P (fAt P E G) 1015021568 P.d.length).length = n; rw [stepL_len, h.ld]
  have hat : ∀ i, i < n → cn .f32 ((stepR P E G 1015021568).d.getD i 0) = stepB P (fAt P E G) 1015021568 i := fun i hi => by
    show cn .f32 ((stepL P (fAt P E G) 1015021568 P.d.length).getD i 0) = _
    rw [stepL_at (by rw [h.ld]; exact hi), cn_stepB]
  have R : GR (stepR P E G 1015021568) n A C 80 := h.with (L := stepL P (fAt P E G) 1015021568 P.d.length) hl (fun i hi => by
    have := hat i hi
    have e : (stepR P E G 1015021568).d = stepL P (fAt P E G) 1015021568 P.d.length := rfl
    rw [e] at this
    rw [this]; exact ⟨(cell i hi).1, (cell i hi).2.1⟩)
  have xe : ∀ i, i < n → xR (stepR P E G 1015021568) i = fv .f32 (stepB P (fAt P E G) 1015021568 i) := fun i hi => by unfold xR; rw [hat i hi]
  have H := R.heat (B := 37) ⟨by grind, by grind⟩ (fun i hi => by rw [xe i hi]; exact ⟨by have := (cell i hi).2.2.1.1; grind, by have := (cell i hi).2.2.1.2; grind⟩) n (Nat.le_refl _)
  have S := sumQ_bd (f := fun i => wR A C i * (fv .f32 (stepB P (fAt P E G) 1015021568 i) - xR P i) - (fv .f32 (fAt P E G i) - fv .f32 (fAt P E G (i + 1))) / 16) (B := 210 * uu) n (fun i hi => ⟨(cell i hi).2.2.2.1, by have := (cell i hi).2.2.2.2; grind⟩)
  rw [sumQ_sub, tele (f := fun i => fv .f32 (fAt P E G i))] at S
  have z0 : fv .f32 (fAt P E G 0) = 0 := by
    rw [fAt_eq P E G (Nat.zero_le _), pG_zero, endV_1 k1]
    have c := (seq_bd h hE hG (i := 0) (by omega))
    have d := (seq_bd h hE hG (i := 0 + 1) (by omega))
    obtain ⟨c0, _, _⟩ := fop_u .sub rfl c.1 d.1 (by simp) (M := 16) (by grind) (by grind) (by simp only [ex]; grind) (by simp only [ex]; grind)
    have e : ex .mul (fv .f32 (cn .f32 0)) (fv .f32 (fop .sub .f32 (seqW P.d E.t G.t 0) (seqW P.d E.t G.t (0 + 1)))) = 0 := by simp only [ex]; rw [V0.2]; grind
    obtain ⟨_, g1, g2⟩ := fop_btw .mul rfl .f32 V0.1 c0 (by simp) Rp0 Rp0 (by rw [e]; exact Rat.le_refl) (by rw [e]; exact Rat.le_refl)
    exact Rat.le_antisymm g2 g1
  have zn : fv .f32 (fAt P E G n) = 0 := by
    rw [fAt_eq P E G (by rw [h.la]; exact Nat.le_refl _)]
    have c := (seq_bd h hE hG (i := n) (by omega))
    have d := (seq_bd h hE hG (i := n + 1) (by omega))
    obtain ⟨c0, _, _⟩ := fop_u .sub rfl c.1 d.1 (by simp) (M := 16) (by grind) (by grind) (by simp only [ex]; grind) (by simp only [ex]; grind)
    have hp : pG P E G n = cn .f32 0 := by rw [← h.la, pG_last (by rw [h.la]; omega), endV_1 k2]
    rw [hp]
    have e : ex .mul (fv .f32 (cn .f32 0)) (fv .f32 (fop .sub .f32 (seqW P.d E.t G.t n) (seqW P.d E.t G.t (n + 1)))) = 0 := by simp only [ex]; rw [V0.2]; grind
    obtain ⟨_, g1, g2⟩ := fop_btw .mul rfl .f32 V0.1 c0 (by simp) Rp0 Rp0 (by rw [e]; exact Rat.le_refl) (by rw [e]; exact Rat.le_refl)
    exact Rat.le_antisymm g2 g1
  rw [z0, zn] at S
  have eq : sumQ (fun i => wR A C i * (fv .f32 (stepB P (fAt P E G) 1015021568 i) - xR P i)) n = hR (stepR P E G 1015021568) A C n - hR P A C n := by
    unfold hR
    rw [← sumQ_sub]
    refine sumQ_congr n (fun i hi => ?_)
    rw [xe i hi]; grind
  rw [eq] at S
  have ok : stepOk P E G 1015021568 = true := by
    unfold stepOk stepPre
    have l : lst (cn .f32 1015021568) = true := by
      unfold lst
      rw [fin_of_fnt V64th.1, fgev V64th.1 V0.1, V64th.2, V0.2]; decide +kernel
    rw [h.flowOk ⟨by grind, by grind⟩ hE hG, l, R.ok]; rfl
  have nb : (n : Rat) ≤ ((6 : Nat) : Rat) := by exact_mod_cast hn.2
  have e6 : ((6 : Nat) : Rat) = 6 := rfl
  rw [e6] at nb
  have n1 := Rat.mul_le_mul_of_nonneg_right nb (show 0 ≤ 30 * (37 * uu) by grind)
  have n2 := Rat.mul_le_mul_of_nonneg_right nb (show 0 ≤ 210 * uu by grind)
  obtain ⟨h0, h1, h2, _⟩ := H
  exact ⟨R, ok, h0, by have := S.1; grind, by have := S.2; grind⟩
end
/-- A short tick: within what the law allows. -/
theorem DR.law2 {P : Rd} {n : Nat} {A C T : Nat → Int} (h : DR P n A C T) {E G : EndT} (hE : GE E 8) (hG : GE G 8) (k1 : E.k = 1) (k2 : G.k = 1) :
    gapOk (wide (heatK (stepR P E G 1015021568) n)) (wide (heatK P n)) ∧ fgt .f64 (gap8 (wide (heatK (stepR P E G 1015021568) n)) (wide (heatK P n))) (fop .mul .f64 cTho (szW P n)) = false := by
  have hn := h.g.hn
  obtain ⟨vs, s0, s1⟩ := h.size n (Nat.le_refl _)
  obtain ⟨vh, eh⟩ := h.heat n (Nat.le_refl _)
  obtain ⟨_, _, f0, f1, f2⟩ := h.g.short hE hG k1 k2
  rw [eh] at f1 f2
  have u1 : 16700000 * uu = 1 := by unfold uu; decide +kernel
  have z : ((0 : Int) : Rat) = 0 := rfl
  have s0' := icast_le s0
  rw [z] at s0'
  have s1' := icast_le (show sumZ (fun i => A i * C i * ((T i).natAbs : Int)) n ≤ (6144 : Int) by omega)
  have e6 : ((6144 : Int) : Rat) = 6144 := rfl
  rw [e6] at s1'
  generalize ((sumZ (fun i => A i * C i * ((T i).natAbs : Int)) n : Int) : Rat) = S at *
  generalize ((sumZ (fun i => A i * C i * T i) n : Int) : Rat) = H at *
  have r := rep_c 32 (by decide)
  have e : ((32 : Int) : Rat) = 32 := rfl
  rw [e] at r
  exact gap_within (c := 32 / 32768) f0 vh.1 (by rw [vh.2]; grind) (by rw [vh.2]; grind) vs (by grind) (by grind) r (by grind)
end Go.Proofs.Ytpnkapdemgieaaa
set_option linter.unusedSimpArgs false
set_option linter.unusedVariables false
set_option linter.unusedSectionVars false
namespace Go.Proofs.Ytpnkapdemgieaaa
open Go Go.RowKit
/-- A warmth that is drawn. -/
def wmW (t : Int) : Nat := fop .quo .f32 (floatOfInt .f32 t) (cn .f32 1073741824)
theorem wmW_v {t : Int} (h : -16 ≤ t ∧ t ≤ 16) : V .f32 (wmW t) ((t : Rat) / 2) := by
  have a := V.int .f32 t (by show t.natAbs < 2 ^ (23 + 1); omega)
  have e : ex .quo (t : Rat) 2 = (t : Rat) / 2 := rfl
  have r := V.op .quo rfl a V2 (fun _ => by decide) (by rw [e]; exact rep_half (by omega))
  rwa [e] at r
theorem sg_nz (s : Bool) : sg s = 1 ∨ sg s = -1 := by cases s <;> simp [sg]
/-- What reads as nothing. -/
theorem read_nil {y : Nat} (h : V .f32 y 0) : FloatKind.f32.format.read y = FloatKind.f32.format.read 0 ∨ FloatKind.f32.format.read y = FloatKind.f32.format.read 2147483648 := by
  obtain ⟨h1, h2⟩ := h
  unfold fnt at h1
  unfold fv at h2
  have e : FloatKind.f32.format.read y = FloatKind.f32.decode y := rfl
  rw [e, decode_single] at h1 h2 ⊢
  have nz : ∀ (s : Bool) (m : Nat) (p : Int), dv (.number s m p) = 0 → m = 0 := fun s m p h => by
    have h : sg s * ((m : Rat) * tp p) = 0 := h
    have hp := tp_pos p
    rcases Nat.eq_zero_or_pos m with h0 | h0
    · exact h0
    · have mp : (0 : Rat) < (m : Rat) := by exact_mod_cast h0
      have := Rat.mul_pos mp hp
      rcases sg_nz s with e | e <;> rw [e] at h <;> grind
  by_cases c1 : y % 2147483648 < 8388608
  · rw [if_pos c1] at h2 ⊢
    have := nz _ _ _ h2
    rw [this]
    rcases hs : (y / 2147483648 % 2 == 1)
    · left; rfl
    · right; rfl
  · rw [if_neg c1] at h1 h2
    by_cases c2 : y % 2147483648 < 2139095040
    · rw [if_pos c2] at h2
      have := nz _ _ _ h2
      omega
    · rw [if_neg c2] at h1
      by_cases c3 : y % 2147483648 = 2139095040
      · rw [if_pos c3] at h1; cases h1
      · rw [if_neg c3] at h1; cases h1
theorem add_read {x y z : Nat} (h : FloatKind.f32.format.read y = FloatKind.f32.format.read z) : fop .add .f32 x y = fop .add .f32 x z := by
  unfold fop
  simp only [floatBits, Ieee.Format.add, h]
theorem wm_add : ∀ k : Nat, k < 33 → fop .add .f32 (wmW ((k : Int) - 16)) 0 = wmW ((k : Int) - 16) ∧ fop .add .f32 (wmW ((k : Int) - 16)) 2147483648 = wmW ((k : Int) - 16) := by decide +kernel
/-- A drawn warmth and nothing: the same word. -/
theorem wmW_nil {t : Int} (h : -16 ≤ t ∧ t ≤ 16) {y : Nat} (hy : V .f32 y 0) : fop .add .f32 (wmW t) y = wmW t := by
  obtain ⟨k, hk, rfl⟩ : ∃ k : Nat, k < 33 ∧ t = (k : Int) - 16 := ⟨(t + 16).toNat, by omega, by omega⟩
  obtain ⟨a, b⟩ := wm_add k hk
  rcases read_nil hy with e | e
  · rw [add_read e]; exact a
  · rw [add_read e]; exact b
section
variable {P : Rd} {n : Nat} {A C : Nat → Int} {M : Rat} {E G : EndT} {t : Int}
/-- A rod of one drawn warmth between ends of it. -/
structure EV (P : Rd) (n : Nat) (A C : Nat → Int) (E G : EndT) (t : Int) (M : Rat) : Prop where
  g : GR P n A C M
  ge : GE E M
  gg : GE G M
  ht : -16 ≤ t ∧ t ≤ 16
  m : 1 / 1024 ≤ M ∧ M ≤ 1000
  d : ∀ i, i < n → cn .f32 (P.d.getD i 0) = wmW t
  e : cn .f32 E.t = wmW t
  g' : cn .f32 G.t = wmW t
theorem EV.seq (h : EV P n A C E G t M) {i : Nat} (hi : i ≤ n + 1) : seqW P.d E.t G.t i = wmW t := by
  cases i with
  | zero => exact h.e
  | succ i =>
    show (if i < P.d.length then cn .f32 (P.d.getD i 0) else cn .f32 G.t) = _
    rw [h.g.ld]
    by_cases hl : i < n
    · rw [if_pos hl]; exact h.d i hl
    · rw [if_neg hl]; exact h.g'
/-- Nothing flows. -/
theorem EV.flow (h : EV P n A C E G t M) {i : Nat} (hi : i ≤ n) : V .f32 (fAt P E G i) 0 := by
  have v := wmW_v h.ht
  rw [fAt_eq P E G (by rw [h.g.la]; exact hi), h.seq (by omega), h.seq (by omega)]
  have z : ex .sub ((t : Rat) / 2) ((t : Rat) / 2) = 0 := by simp only [ex]; grind
  have q := V.op .sub rfl v v (by simp) (by rw [z]; exact Rp0)
  rw [z] at q
  exact mul_nil (h.g.p h.ge h.gg hi).1.1 q
theorem EV.flowOk (h : EV P n A C E G t M) : flowOk P E G = true := h.g.flowOk h.m h.ge h.gg
/-- A cell behind a tick. -/
theorem EV.cell (h : EV P n A C E G t M) {i : Nat} (hi : i < n) : stepB P (fAt P E G) 1048576000 i = wmW t := by
  unfold stepB
  rw [h.d i hi]
  refine wmW_nil h.ht ?_
  have f := h.flow (i := i) (by omega)
  have g := h.flow (i := i + 1) (by omega)
  have z : ex .sub 0 0 = 0 := by simp only [ex]; grind
  have q := V.op .sub rfl f g (by simp) (by rw [z]; exact Rp0)
  rw [z] at q
  have r := mul_nil V25w.1 q
  have vm := h.g.mass hi
  obtain ⟨w1, w2⟩ := h.g.wb hi
  have ew : ((A i * C i : Int) : Rat) / 16 = wR A C i / 4 := by unfold wR; grind
  rw [ew] at vm
  have z2 : ex .quo 0 (wR A C i / 4) = 0 := by
    simp only [ex]
    have := Rat.div_mul_cancel (a := 0) (b := wR A C i / 4) (by grind)
    rw [Rat.div_def, Rat.zero_mul]
  have s := V.op .quo rfl r vm (fun _ => by grind) (by rw [z2]; exact Rp0)
  rwa [z2] at s
/-- The rod behind a tick: the same words. -/
theorem EV.step (h : EV P n A C E G t M) : stepOk P E G 1048576000 = true ∧ GR (stepR P E G 1048576000) n A C M ∧ ∀ i, i < n → cn .f32 ((stepR P E G 1048576000).d.getD i 0) = wmW t := by
  have hat : ∀ i, i < n → cn .f32 ((stepL P (fAt P E G) 1048576000 P.d.length).getD i 0) = wmW t := fun i hi => by
    rw [stepL_at (by rw [h.g.ld]; exact hi), cn_stepB, h.cell hi]
  have R : GR (stepR P E G 1048576000) n A C M := h.g.with (L := stepL P (fAt P E G) 1048576000 P.d.length) (by rw [stepL_len, h.g.ld]) (fun i hi => by
    rw [hat i hi, ← h.d i hi]; exact h.g.d i hi)
  refine ⟨?_, R, hat⟩
  unfold stepOk stepPre
  have l : lst (cn .f32 1048576000) = true := by
    unfold lst
    rw [fin_of_fnt V25w.1, fgev V25w.1 V0.1, V25w.2, V0.2]; decide +kernel
  rw [h.flowOk, l, R.ok]; rfl
def soE (P : Rd) (E G : EndT) (A C : Nat → Int) (n : Nat) (T : Rat) (i : Nat) : Rat := wR A C i * T + (if i = 0 then pR P E G 0 * T else 0) + (if i + 1 = n then pR P E G (i + 1) * T else 0)
theorem soE_first (P : Rd) (E G : EndT) (A C : Nat → Int) {n : Nat} (hn : 1 ≤ n) (T : Rat) : soE P E G A C n T 0 - ((wR A C 0 + pR P E G 0 + (qiR (pR P E G) n 0 + qlR (pR P E G) n 0)) * T - qiR (pR P E G) n 0 * T) ≤ (wR A C 0 + pR P E G 0 + qlR (pR P E G) n 0) * 0 ∧ ((wR A C 0 + pR P E G 0 + (qiR (pR P E G) n 0 + qlR (pR P E G) n 0)) * T - qiR (pR P E G) n 0 * T) - soE P E G A C n T 0 ≤ (wR A C 0 + pR P E G 0 + qlR (pR P E G) n 0) * 0 := by
  unfold soE qiR qlR
  rw [if_pos rfl]
  generalize wR A C 0 = w
  generalize pR P E G 0 = p0
  generalize pR P E G (0 + 1) = p1
  by_cases hl : 0 + 1 = n
  · rw [if_pos hl, if_neg (by omega), if_neg (by omega)]; exact ⟨by grind, by grind⟩
  · rw [if_neg hl, if_pos (by omega), if_pos (by omega)]; exact ⟨by grind, by grind⟩
theorem soE_next (P : Rd) (E G : EndT) (A C : Nat → Int) {n i : Nat} (hi : i + 1 < n) (T : Rat) : soE P E G A C n T (i + 1) - ((wR A C (i + 1) + pR P E G (i + 1) + (qiR (pR P E G) n (i + 1) + qlR (pR P E G) n (i + 1))) * T - pR P E G (i + 1) * T - qiR (pR P E G) n (i + 1) * T) ≤ (wR A C (i + 1) + qlR (pR P E G) n (i + 1)) * 0 ∧ ((wR A C (i + 1) + pR P E G (i + 1) + (qiR (pR P E G) n (i + 1) + qlR (pR P E G) n (i + 1))) * T - pR P E G (i + 1) * T - qiR (pR P E G) n (i + 1) * T) - soE P E G A C n T (i + 1) ≤ (wR A C (i + 1) + qlR (pR P E G) n (i + 1)) * 0 := by
  unfold soE qiR qlR
  rw [if_neg (show ¬ i + 1 = 0 by omega)]
  generalize wR A C (i + 1) = w
  generalize pR P E G (i + 1) = p0
  generalize pR P E G (i + 1 + 1) = p1
  by_cases hl : i + 1 + 1 = n
  · rw [if_pos hl, if_neg (by omega), if_neg (by omega)]; exact ⟨by grind, by grind⟩
  · rw [if_neg hl, if_pos (by omega), if_pos (by omega)]; exact ⟨by grind, by grind⟩
set_option maxHeartbeats 1000000 in
theorem EV.rows (h : EV P n A C E G t M) : RowsE n (rwB P E G) (rwA P E G 1048576000) (rwX P E G) (rwS P E G 1048576000) (pR P E G) (wR A C) (soE P E G A C n ((t : Rat) / 2)) (fun _ => (t : Rat) / 2) M 0 M := by
  have hn := h.g.hn
  have hM := h.m
  have u0 : 0 < uu := by unfold uu; decide +kernel
  have u1 : 16700000 * uu = 1 := by unfold uu; decide +kernel
  have mu : 16700000 * (M * uu) = M := by grind
  have v := wmW_v h.ht
  have tb : (t : Rat) / 2 ≤ M ∧ -((t : Rat) / 2) ≤ M := by
    have := h.ge.t
    rw [h.e, v.2] at this
    exact this.2
  have wt : ∀ i, i < n → wR A C i * ((t : Rat) / 2) ≤ 16 * M ∧ -(wR A C i * ((t : Rat) / 2)) ≤ 16 * M := fun i hi => by
    obtain ⟨w1, w2⟩ := h.g.wb hi
    have k := mul_bd (a := 16) (b := M) (x := wR A C i) (y := (t : Rat) / 2) (by grind) w2 (by grind) tb.1
    exact ⟨k.2, by have := k.1; grind⟩
  have pt : ∀ i, i ≤ n → pR P E G i * ((t : Rat) / 2) ≤ 16 * M ∧ -(pR P E G i * ((t : Rat) / 2)) ≤ 16 * M := fun i hi => by
    obtain ⟨_, p1, p2⟩ := h.g.p h.ge h.gg hi
    have k := mul_bd (a := 16) (b := M) (x := pR P E G i) (y := (t : Rat) / 2) (by grind) p2 (by grind) tb.1
    exact ⟨k.2, by have := k.1; grind⟩
  refine ⟨hn, hM, ⟨Rat.le_refl, by grind, by grind, by grind⟩, fun i hi => (h.g.p h.ge h.gg hi).2, fun i hi => h.g.wb hi, fun i hi => ?_, fun i hi => ?_, fun i hi => ?_, fun i hi => ?_, fun i hi => ?_, fun i => tb, ?_, fun i hi => ?_⟩
  · obtain ⟨v, _⟩ := h.g.p h.ge h.gg (i := i) (by omega)
    have := fneg_val v.1
    exact ⟨this.1, by show fv .f32 (fneg .f32 _) = _; rw [this.2]; rfl⟩
  · obtain ⟨v, _⟩ := h.g.p h.ge h.gg (i := i + 1) (by omega)
    have := fneg_val v.1
    exact ⟨this.1, by show fv .f32 (fneg .f32 _) = _; rw [this.2]; rfl⟩
  · have p16 := fun j (hj : j ≤ n) => (h.g.p h.ge h.gg hj).2.2
    have := h.g.diag h.ge h.gg hi (B := 16) (by decide) (p16 _ (by omega)) (p16 _ (by omega)) (by decide)
    exact ⟨this.1, by have := this.2.1; grind, by have := this.2.2; grind⟩
  · have vw := h.g.w hi
    obtain ⟨c1, c2⟩ := wt i hi
    obtain ⟨a0, a1, a2⟩ := fop_u .mul rfl vw.1 v.1 (by simp) (M := 16 * M) (by grind) (by grind) (by simp only [ex]; rw [vw.2, v.2]; exact c1) (by simp only [ex]; rw [vw.2, v.2]; exact c2)
    simp only [ex] at a1 a2
    rw [vw.2, v.2] at a1 a2
    have e0 : rwS0 P 1048576000 i = fop .mul .f32 (rwW P 1048576000 i) (wmW t) := by unfold rwS0; rw [h.d i hi]
    rw [← e0] at a0 a1 a2
    have s1 : fnt .f32 (rwS1 P E G 1048576000 i) = true ∧ fv .f32 (rwS1 P E G 1048576000 i) - (wR A C i * ((t : Rat) / 2) + (if i = 0 then pR P E G 0 * ((t : Rat) / 2) else 0)) ≤ 66 * (M * uu) ∧ (wR A C i * ((t : Rat) / 2) + (if i = 0 then pR P E G 0 * ((t : Rat) / 2) else 0)) - fv .f32 (rwS1 P E G 1048576000 i) ≤ 66 * (M * uu) ∧ (wR A C i * ((t : Rat) / 2) + (if i = 0 then pR P E G 0 * ((t : Rat) / 2) else 0)) ≤ 32 * M ∧ -(wR A C i * ((t : Rat) / 2) + (if i = 0 then pR P E G 0 * ((t : Rat) / 2) else 0)) ≤ 32 * M := by
      unfold rwS1
      by_cases h0 : i = 0
      · rw [if_pos h0, if_pos h0, h.e]
        obtain ⟨vp, _⟩ := h.g.p h.ge h.gg (i := 0) (by omega)
        obtain ⟨d1, d2⟩ := pt 0 (by omega)
        obtain ⟨b0, b1, b2⟩ := fop_u .mul rfl vp.1 v.1 (by simp) (M := 16 * M) (by grind) (by grind) (by simp only [ex]; rw [vp.2, v.2]; exact d1) (by simp only [ex]; rw [vp.2, v.2]; exact d2)
        simp only [ex] at b1 b2
        rw [vp.2, v.2] at b1 b2
        obtain ⟨f0, f1, f2⟩ := fop_u .add rfl a0 b0 (by simp) (M := 33 * M) (by grind) (by grind) (by simp only [ex]; grind) (by simp only [ex]; grind)
        simp only [ex] at f1 f2
        exact ⟨f0, by grind, by grind, by grind, by grind⟩
      · rw [if_neg h0, if_neg h0]
        exact ⟨a0, by grind, by grind, by grind, by grind⟩
    obtain ⟨g0, g1, g2, g3, g4⟩ := s1
    unfold soE rwS
    rw [h.g.la]
    generalize rwS1 P E G 1048576000 i = s at *
    generalize wR A C i * ((t : Rat) / 2) + (if i = 0 then pR P E G 0 * ((t : Rat) / 2) else 0) = o at *
    by_cases hl : i + 1 = n
    · rw [if_pos hl, if_pos hl, h.g']
      obtain ⟨vp, _⟩ := h.g.p h.ge h.gg (i := i + 1) (by omega)
      obtain ⟨d1, d2⟩ := pt (i + 1) (by omega)
      obtain ⟨b0, b1, b2⟩ := fop_u .mul rfl vp.1 v.1 (by simp) (M := 16 * M) (by grind) (by grind) (by simp only [ex]; rw [vp.2, v.2]; exact d1) (by simp only [ex]; rw [vp.2, v.2]; exact d2)
      simp only [ex] at b1 b2
      rw [vp.2, v.2] at b1 b2
      obtain ⟨f0, f1, f2⟩ := fop_u .add rfl g0 b0 (by simp) (M := 49 * M) (by grind) (by grind) (by simp only [ex]; grind) (by simp only [ex]; grind)
      simp only [ex] at f1 f2
      exact ⟨f0, by grind, by grind⟩
    · rw [if_neg hl, if_neg hl]
      exact ⟨g0, by grind, by grind⟩
  · obtain ⟨c1, c2⟩ := wt i hi
    obtain ⟨d1, d2⟩ := pt 0 (by omega)
    obtain ⟨e1, e2⟩ := pt (i + 1) (by omega)
    unfold soE
    split <;> split <;> exact ⟨by grind, by grind⟩
  · exact soE_first P E G A C (by omega) _
  · exact soE_next P E G A C hi _
/-- A tick by rows. -/
theorem EV.held (h : EV P n A C E G t M) : rwsOk P E G 1048576000 = true ∧ GR (rwsR P E G 1048576000) n A C (M + M / 1000) ∧ ∀ i, i < n → xR (rwsR P E G 1048576000) i - (t : Rat) / 2 ≤ 13100 * (M * uu) ∧ (t : Rat) / 2 - xR (rwsR P E G 1048576000) i ≤ 13100 * (M * uu) := by
  have R := h.rows
  obtain ⟨u0, u1, u2, u3⟩ := R.mu
  have v := wmW_v h.ht
  have tb : (t : Rat) / 2 ≤ M ∧ -((t : Rat) / 2) ≤ M := by
    have := h.ge.t
    rw [h.e, v.2] at this
    exact this.2
  have hat : ∀ i, i < n → cn .f32 ((rwsL P E G 1048576000).getD i 0) = solO (rwB P E G) (rwA P E G 1048576000) (rwX P E G) (rwS P E G 1048576000) n i := fun i hi => by
    unfold rwsL
    rw [h.g.la, solL_at hi, cn_solO]
  have Q : GR (rwsR P E G 1048576000) n A C (M + M / 1000) := h.g.with (L := rwsL P E G 1048576000) (by unfold rwsL; rw [solL_len, h.g.la]) (fun i hi => by
    rw [hat i hi]
    have Y := R.y hi
    exact ⟨Y.f, by have := Y.y1; grind, by have := Y.y2; grind⟩)
  refine ⟨?_, Q, fun i hi => ?_⟩
  · unfold rwsOk rwsPre
    rw [h.g.passOk h.ge h.gg, Q.ok, abv_of V25w.1 (by rw [V25w.2]; grind)]; rfl
  · have Y := R.y hi
    have e : xR (rwsR P E G 1048576000) i = fv .f32 (solO (rwB P E G) (rwA P E G 1048576000) (rwX P E G) (rwS P E G 1048576000) n i) := by
      show fv .f32 (cn .f32 ((rwsL P E G 1048576000).getD i 0)) = _
      rw [hat i hi]
    rw [e]
    exact ⟨by have := Y.y1; grind, by have := Y.y2; grind⟩
end
end Go.Proofs.Ytpnkapdemgieaaa
set_option linter.unusedSimpArgs false
set_option linter.unusedVariables false
set_option linter.unusedSectionVars false
namespace Go.Proofs.Ytpnkapdemgieaaa
open Go Go.RowKit
open Go.ChangeShapes Go.WideShapes Go.ChangeAt Go.RowKit Go.Joins
set_option maxHeartbeats 2000000 in
set_option maxRecDepth 100000 in
theorem growF_any (n : Nat) (w : World) (hn : 1 ≤ n ∧ n ≤ 1048576) : Calls Try.prog 80 #[.slice none 0 0, .int .i64 (n : Int)] w (fun e w' => ∃ c, e = .returned (.slice (some ⟨w.heap.size, 0, none⟩) 0 c) ∧ Below w.heap.size w w' ∧ OF w.heap.size w' (.slice (some ⟨w.heap.size, 0, none⟩) 0 c) [] ∧ w.heap.size + 1 ≤ w'.heap.size) := by
  obtain ⟨h1, h2⟩ := hn
  have hi1 : ¬ (n : Int) < 0 := by omega
  have hi2 : (0 : Int) < (n : Int) := by omega
  have hw1 : IntKind.i64.wrap (n : Int) = (n : Int) := IntWalk.i64_in _ (by omega)
  obtain ⟨i0, hi, hz0, hz1, hz2⟩ := info_parts Try.infoF32
  have hr := Lib.run_append_nil_zeros (P := Try.prog) w 24 3 24 28 i0 (.float .f32 0) .i64 .i64 Try.underlying24 (by kernel_rfl) hi hz0 n (by omega) (by omega) (by omega) (by rw [hz2]; omega)
  have hge := grownCap_ge w n 0 28
  have hcm : grownCap w n 0 28 ≤ maxLen := grownCap_le_maxLen w n 0 28 (by unfold maxLen; omega)
  have HO : Hid (OF w.heap.size (w.drew.alloc (.cells (Builtin.zeroCells (Value.float .f32 0).cells n ++ Builtin.zeroCells (Value.float .f32 0).cells (grownCap w n 0 28 - n)) 28)) (.slice (some ⟨w.heap.size, 0, none⟩) 0 (grownCap w n 0 28)) []) := by
    show World.ownsRow _ _ _ _ _ _ _
    refine ⟨by simp, .inr ⟨w.heap.size, _, _, rfl, Nat.le_refl _, heap_alloc_new w.drew _, Nat.zero_le _, hcm, ?_, by simp⟩⟩
    simp only [Array.size_append, size_zeroCells]
    show n * 1 + (grownCap w n 0 28 - n) * 1 = _
    omega
  have HR := Lib.hid hr
  have HB : Hid (Below w.heap.size w (w.drew.alloc (.cells (Builtin.zeroCells (Value.float .f32 0).cells n ++ Builtin.zeroCells (Value.float .f32 0).cells (grownCap w n 0 28 - n)) 28))) := ((Below.refl _ w).drew).alloc (Nat.le_refl _) _
  have HZ : Hid (w.heap.size + 1 ≤ (w.drew.alloc (.cells (Builtin.zeroCells (Value.float .f32 0).cells n ++ Builtin.zeroCells (Value.float .f32 0).cells (grownCap w n 0 28 - n)) 28)).heap.size) := by show _ ≤ _; simp
  clear hr hge hcm
  go_enter Try.func80, Try.ntmps80
  go_wp2_with (first | (with_reducible refine at_list ?_; refine wpList_wide_g rfl rfl Try.underlying28 Try.underlying39 rfl ?_; intro r n hr0; have hr := hr0 _ (by first | with_reducible assumption | exact rfl); clear hr0) | (with_reducible refine at_list ?_; refine wpList_wide rfl rfl rfl Try.underlying28 Try.underlying39 ?_; intro r n hr0; have hr := hr0 _ (by first | with_reducible assumption | exact rfl); clear hr0) | (at_builtin; refine stop_here ?_))
  unfold Stop
  refine Lib.wpList_append_run w rfl _ _ 24 3 rfl (.slice none 0 0) (.int .i64 (n : Int)) (by first | rfl | (go_simp <;> rfl)) (by first | rfl | (go_simp <;> rfl)) _ _ HR.out ?_
  generalize grownCap w n 0 28 = cap at HO HR HB HZ ⊢
  generalize (w.drew.alloc (.cells (Builtin.zeroCells (Value.float .f32 0).cells n ++ Builtin.zeroCells (Value.float .f32 0).cells (cap - n)) 28)) = w2 at HO HB HZ ⊢
  clear HR
  go_wp2
  go_ret
  exact ⟨cap, rfl, HB.out, HO.out, HZ.out⟩
def preC (xs ys : List Nat) : Nat → List Nat | 0 => [] | 1 => xs | _ => xs ++ ys
set_option maxHeartbeats 2000000 in
set_option maxRecDepth 100000 in
theorem concatF_any (xs1 xs2 : List Nat) (v1 v2 : Value) (g : Nat) (w : World) (h1 : FS w v1 xs1) (h2 : FS w v2 xs2) (hn : (1 ≤ xs1.length ∧ xs1.length ≤ 48) ∧ 1 ≤ xs2.length ∧ xs2.length ≤ 48) (e0 : w.cell? ⟨g, 0, none⟩ = some v1) (e1 : w.cell? ⟨g, 1, none⟩ = some v2) : Calls Try.prog 56 #[.slice (some ⟨g, 0, none⟩) 2 2] w (fun e w' => ∃ u, e = .returned u ∧ Below w.heap.size w w' ∧ OF w.heap.size w' u (xs1 ++ xs2)) := by
  obtain ⟨⟨n1, n2⟩, n3, n4⟩ := hn
  obtain ⟨b1, o1, c1, rfl, ⟨hc1, hc1'⟩, HV1⟩ := h1.ptr n1
  obtain ⟨b2, o2, c2, rfl, ⟨hc2, hc2'⟩, HV2⟩ := h2.ptr n3
  have HE0 := Lib.hid e0
  have HE1 := Lib.hid e1
  clear h1 h2
  have hw1 : IntKind.i64.wrap (xs1.length : Int) = (xs1.length : Int) := IntWalk.i64_in _ (by omega)
  have hw2 : IntKind.i64.wrap ((xs1.length : Int) + (xs2.length : Int)) = (xs1.length : Int) + (xs2.length : Int) := IntWalk.i64_in _ (by omega)
  have hp1 : ¬ (xs1.length : Int) < 0 := by omega
  have hp2 : ¬ (xs1.length : Int) + (xs2.length : Int) < 0 := by omega
  have HGR := Lib.hid (fun w' => growF_any (xs1.length + xs2.length) w' (by omega))
  simp only [Int.natCast_add] at HGR
  go_enter Try.func56, Try.ntmps56
  go_wp2_with (first | (with_reducible refine at_list ?_; refine wpList_wide_g rfl rfl Try.underlying28 Try.underlying39 rfl ?_; intro r n hr0; have hr := hr0 _ (by first | with_reducible assumption | exact rfl); clear hr0) | (with_reducible refine at_list ?_; refine wpList_wide rfl rfl rfl Try.underlying28 Try.underlying39 ?_; intro r n hr0; have hr := hr0 _ (by first | with_reducible assumption | exact rfl); clear hr0))
  go_loopw [3, 11] (fun s t wr => ∃ k : Nat, k ≤ 2 ∧ t = .int .i64 (k : Int) ∧ s = .int .i64 ((preC xs1 xs2 k).length : Int) ∧ wr = w) (fun _ t _ => 2 - (intOf t).toNat)
  case atStart => exact ⟨0, by omega, rfl, rfl, rfl⟩
  case round =>
    obtain ⟨k, hk, rfl, rfl, hww⟩ := hrel
    subst hww
    match k, hk with
    | 0, _ =>
      simp only [preC, List.length_nil]
      clear e1
      go_wp2_with (first | (with_reducible refine at_list ?_; refine wpList_wide_g rfl rfl Try.underlying28 Try.underlying39 rfl ?_; intro r n hr0; have hr := hr0 _ (by first | with_reducible assumption | exact rfl); clear hr0) | (with_reducible refine at_list ?_; refine wpList_wide rfl rfl rfl Try.underlying28 Try.underlying39 ?_; intro r n hr0; have hr := hr0 _ (by first | with_reducible assumption | exact rfl); clear hr0))
      go_roundw
      case rel => exact ⟨1, by omega, by go_num, by simp [preC], by first | rfl | trivial⟩
      case measure => simp [intOf]
    | 1, _ =>
      simp only [preC]
      clear e0
      go_wp2_with (first | (with_reducible refine at_list ?_; refine wpList_wide_g rfl rfl Try.underlying28 Try.underlying39 rfl ?_; intro r n hr0; have hr := hr0 _ (by first | with_reducible assumption | exact rfl); clear hr0) | (with_reducible refine at_list ?_; refine wpList_wide rfl rfl rfl Try.underlying28 Try.underlying39 ?_; intro r n hr0; have hr := hr0 _ (by first | with_reducible assumption | exact rfl); clear hr0))
      go_roundw
      case rel => exact ⟨2, by omega, by go_num, by simp [preC], by first | rfl | trivial⟩
      case measure => simp [intOf]
    | 2, _ =>
      simp only [preC, List.length_append, Int.natCast_add]
      clear e0 e1
      go_wp2_with (first | (with_reducible refine at_list ?_; refine wpList_wide_g rfl rfl Try.underlying28 Try.underlying39 rfl ?_; intro r n hr0; have hr := hr0 _ (by first | with_reducible assumption | exact rfl); clear hr0) | (with_reducible refine at_list ?_; refine wpList_wide rfl rfl rfl Try.underlying28 Try.underlying39 ?_; intro r n hr0; have hr := hr0 _ (by first | with_reducible assumption | exact rfl); clear hr0) | (go_at_call 80; refine (HGR.out _).mono ?_; rintro e w' ⟨cc, rfl, hb, hO, hsz⟩))
      have HB0 := Lib.hid hb
      have HO0 := Lib.hid hO
      have HZ0 := Lib.hid hsz
      clear hb hO hsz
      go_loopw [6, 27] (fun u t wi => ∃ (k c : Nat) (q : Option Addr) (ys : List Nat), k ≤ 2 ∧ t = .int .i64 (k : Int) ∧ u = .slice q ys.length c ∧ Hid (ys = preC xs1 xs2 k) ∧ Hid (OF wr.heap.size wi (.slice q ys.length c) ys) ∧ Below wr.heap.size wr wi) (fun _ t _ => 2 - (intOf t).toNat)
      case atStart => exact ⟨0, cc, some ⟨wr.heap.size, 0, none⟩, [], by omega, rfl, rfl, rfl, HO0.out, HB0.out⟩
      case round =>
        rename World => wi
        obtain ⟨k, c, q, ys, hk, rfl, rfl, HYS, HOF, hB⟩ := hrel
        have e0 := cell_later hB HE0.out
        have e1 := cell_later hB HE1.out
        have hzi := hB.size
        match k, hk with
        | 0, _ =>
          have hyl : ys.length ≤ 96 := by rw [HYS.out]; show (0 : Nat) ≤ 96; omega
          clear e1
          go_wp2_with (first | (with_reducible refine at_list ?_; refine wpList_wide_g rfl rfl Try.underlying28 Try.underlying39 rfl ?_; intro r n hr0; have hr := hr0 _ (by first | with_reducible assumption | exact rfl); clear hr0) | (with_reducible refine at_list ?_; refine wpList_wide rfl rfl rfl Try.underlying28 Try.underlying39 ?_; intro r n hr0; have hr := hr0 _ (by first | with_reducible assumption | exact rfl); clear hr0) | (at_builtin; refine stop_here ?_))
          unfold Stop
          apply wpList_appL (B := wr.heap.size) (xs := ys) (zs := xs1) (v := .slice q ys.length c)
          case hg => rfl
          case ho => rfl
          case hs => rfl
          case hx => rfl
          case hO => exact HOF.out
          case hc => intro i hi; exact cell_later hB (HV1.out i hi)
          case hn => omega
          case hB => exact hzi
          intro q5 c5 w5 hO5 hB5
          have HB5 : Hid (Below wr.heap.size wr w5) := hB.trans hB5
          have HO5 := Lib.hid hO5
          clear hB5 hO5
          go_wp2
          go_roundw
          case rel => exact ⟨1, c5, q5, ys ++ xs1, by omega, by go_num, by simp, by show _ = _; rw [HYS.out]; rfl, by show OF _ _ _ _; have := HO5.out; simpa using this, HB5.out⟩
          case measure => simp [intOf]
        | 1, _ =>
          have hyl : ys.length ≤ 96 := by rw [HYS.out]; show xs1.length ≤ 96; omega
          clear e0
          go_wp2_with (first | (with_reducible refine at_list ?_; refine wpList_wide_g rfl rfl Try.underlying28 Try.underlying39 rfl ?_; intro r n hr0; have hr := hr0 _ (by first | with_reducible assumption | exact rfl); clear hr0) | (with_reducible refine at_list ?_; refine wpList_wide rfl rfl rfl Try.underlying28 Try.underlying39 ?_; intro r n hr0; have hr := hr0 _ (by first | with_reducible assumption | exact rfl); clear hr0) | (at_builtin; refine stop_here ?_))
          unfold Stop
          apply wpList_appL (B := wr.heap.size) (xs := ys) (zs := xs2) (v := .slice q ys.length c)
          case hg => rfl
          case ho => rfl
          case hs => rfl
          case hx => rfl
          case hO => exact HOF.out
          case hc => intro i hi; exact cell_later hB (HV2.out i hi)
          case hn => omega
          case hB => exact hzi
          intro q5 c5 w5 hO5 hB5
          have HB5 : Hid (Below wr.heap.size wr w5) := hB.trans hB5
          have HO5 := Lib.hid hO5
          clear hB5 hO5
          go_wp2
          go_roundw
          case rel => exact ⟨2, c5, q5, ys ++ xs2, by omega, by go_num, by simp, by show _ = _; rw [HYS.out]; rfl, by show OF _ _ _ _; have := HO5.out; simpa using this, HB5.out⟩
          case measure => simp [intOf]
        | 2, _ =>
          have HYE : Hid (ys = xs1 ++ xs2) := HYS.out
          clear HYS e0 e1
          go_wp2_with (first | (with_reducible refine at_list ?_; refine wpList_wide_g rfl rfl Try.underlying28 Try.underlying39 rfl ?_; intro r n hr0; have hr := hr0 _ (by first | with_reducible assumption | exact rfl); clear hr0) | (with_reducible refine at_list ?_; refine wpList_wide rfl rfl rfl Try.underlying28 Try.underlying39 ?_; intro r n hr0; have hr := hr0 _ (by first | with_reducible assumption | exact rfl); clear hr0))
          go_ret
          exact ⟨_, rfl, hB, by rw [← HYE.out]; exact HOF.out⟩
end Go.Proofs.Ytpnkapdemgieaaa

/-
  Drawn stuffs, on: how warm a heat makes them, and back. No condition but what each law says.
  Drawn stuffs, on: what the law on stuffs asks of heats, warmths and parts. No condition but what each law says.
  Drawn stuffs, on: the heat that a warmth and a part come to; how easily heat flows. No condition but what each law says.
  Drawn stuffs, in 64 bits: gaps, the lesser and the greater; all that the law on stuffs asks. No condition but what each law says.
  How far two numbers lie apart, in 64 bits: the laws' own helper. No condition but what each law says.
  Complex numbers in the program: products, quotients, differences, lengths. No condition but what each contract says.
  Swings of a rod, solved by rows of complex equations on words: how great all numbers are on the way forward, and how far they may be off. No condition but what each law says; nothing of the program is named here.
  Swings of a rod on words, the way forward: from a row to the next one, and right sides. No condition but what each law says; nothing of the program is named here.
  Swings of a rod on words, the way back: the answers, how great they are, and how well they fulfil their rows. No condition but what each law says; nothing of the program is named here.
  Swings of a rod: rows that are nearly fulfilled have answers that grow weaker, nearly, and that are nearly one where all is slow. No condition but what each law says; nothing of the program is named here.
  Rows that are nearly fulfilled: the answers grow weaker along the rod, nearly, and where all is slow they are nearly one. Rational numbers alone. No condition but what each law says.
  Rows of equations, solved in single precision: how near the answers are, and what is left of each row (shut ends). No condition but what each law says; nothing of the program is named here.
-/
import Derived.Test.YtpnkapdemgieaaaSM3
import Derived.Test.YtpnkapdemgieaaaSM5
import Derived.Test.YtpnkapdemgieaaaSM4
set_option linter.unusedSimpArgs false
set_option linter.unusedVariables false
set_option linter.unusedSectionVars false
namespace Go.Proofs.Ytpnkapdemgieaaa
open Go Go.RowKit
section
variable {P X Y : Nat} {p m n : Int}
end
end Go.Proofs.Ytpnkapdemgieaaa
set_option linter.unusedSimpArgs false
set_option linter.unusedVariables false
set_option linter.unusedSectionVars false
namespace Go.Proofs.Ytpnkapdemgieaaa
open Go Go.RowKit
section
variable {s : St} {a b c d p l k : Int} {H : Nat}
/-- What a heat of k quarters leads to. -/
structure HV (s : St) (p k : Int) (W T : Nat) : Prop where
  fW : fnt .f32 W = true
  fT : fnt .f32 T = true
  t0 : 0 ≤ fv .f32 T
  t1 : fv .f32 T ≤ 1
  sg : (fv .f32 W < fv .f32 s.k.p ↔ k < 0) ∧ (0 ≤ k → fv .f32 s.k.p ≤ fv .f32 W)
end
end Go.Proofs.Ytpnkapdemgieaaa
set_option linter.unusedSimpArgs false
set_option linter.unusedVariables false
set_option linter.unusedSectionVars false
namespace Go.Proofs.Ytpnkapdemgieaaa
open Go Go.RowKit
section
variable {s : St} {a b c d p l k : Int} {H : Nat}
end
end Go.Proofs.Ytpnkapdemgieaaa
set_option linter.unusedSimpArgs false
set_option linter.unusedVariables false
set_option linter.unusedSectionVars false
namespace Go.Proofs.Ytpnkapdemgieaaa
open Go Go.RowKit
def gapC (x y : Nat) : Nat := if flt .f64 x y then fop .sub .f64 y x else fop .sub .f64 x y
theorem cn_gapC (x y : Nat) : cn .f64 (gapC x y) = gapC x y := by unfold gapC; split <;> exact cn_fop _ _ _ _
theorem rep64 (z q : Int) (h : z.natAbs < 9007199254740992) (h1 : -1000 ≤ q) (h2 : q ≤ 900) {r : Rat} (hr : r = z * tp q) : Rep .f64 r := rep_at (k := .f64) z q (by show z.natAbs < 2 ^ (52 + 1); exact h) (by show -1074 ≤ q; omega) (by show q + 52 + 1 < 1024; omega) hr
def fmax64 (x y : Nat) : Nat := if flt .f64 x y then y else if flt .f64 y x then x else if (FloatKind.f64.decode x).neg then y else x
theorem run_fmax64 {P : Program} {x y : Nat} (hx : fnt .f64 x = true) (hy : fnt .f64 y = true) (ts : Array TypeId) (t : TypeId) (w : World) : (Builtin.max_ ts t #[.float .f64 x, .float .f64 y]).run P w = .ok (.float .f64 (fmax64 x y)) w := by
  have h1 := fltv hx hy
  have h2 := fltv hy hx
  unfold fmax64
  rcases ordv .f64 hx hy with ⟨h, e⟩ | ⟨h, e⟩ | ⟨h, e⟩
  · rw [h1, decide_eq_true e]
    simp [Builtin.max_, Builtin.max2, h]
  · rw [h1, h2, decide_eq_false (by grind), decide_eq_false (by grind)]
    simp [Builtin.max_, Builtin.max2, h]
  · rw [h1, h2, decide_eq_false (by grind), decide_eq_true e]
    simp [Builtin.max_, Builtin.max2, h]
theorem fmax64_val {x y : Nat} (hx : fnt .f64 x = true) (hy : fnt .f64 y = true) : fnt .f64 (fmax64 x y) = true ∧ fv .f64 x ≤ fv .f64 (fmax64 x y) ∧ fv .f64 y ≤ fv .f64 (fmax64 x y) ∧ (fmax64 x y = x ∨ fmax64 x y = y) := by
  have h1 := fltv hx hy
  have h2 := fltv hy hx
  unfold fmax64
  rcases ordv .f64 hx hy with ⟨h, e⟩ | ⟨h, e⟩ | ⟨h, e⟩
  · rw [h1, decide_eq_true e]
    exact ⟨hy, Rat.le_of_lt e, Rat.le_refl, .inr rfl⟩
  · rw [h1, h2, decide_eq_false (by grind), decide_eq_false (by grind)]
    simp only [Bool.false_eq_true, if_false]
    split
    · exact ⟨hy, by grind, Rat.le_refl, .inr rfl⟩
    · exact ⟨hx, Rat.le_refl, by grind, .inl rfl⟩
  · rw [h1, h2, decide_eq_false (by grind), decide_eq_true e]
    exact ⟨hx, Rat.le_refl, Rat.le_of_lt e, .inl rfl⟩
end Go.Proofs.Ytpnkapdemgieaaa
set_option linter.unusedSimpArgs false
set_option linter.unusedVariables false
set_option linter.unusedSectionVars false
namespace Go.Proofs.Ytpnkapdemgieaaa
open Go Go.RowKit
open Go.ChangeShapes Go.WideShapes Go.ChangeAt Go.RowKit Go.Joins
def gap8 (x y : Nat) : Nat := fmax64 (fop .sub .f64 x y) (fop .sub .f64 y x)
/-- Both differences are finite. -/
def gapOk (x y : Nat) : Prop := fnt .f64 (fop .sub .f64 x y) = true ∧ fnt .f64 (fop .sub .f64 y x) = true
theorem gap8_le {x y : Nat} {c : Rat} (hx : fnt .f64 x = true) (hy : fnt .f64 y = true) (hc : Rep .f64 c) (h1 : fv .f64 x - fv .f64 y ≤ c) (h2 : fv .f64 y - fv .f64 x ≤ c) : gapOk x y ∧ Btw .f64 (gap8 x y) (-c) c := by
  obtain ⟨a1, a2, a3⟩ := fop_btw .sub rfl .f64 (a := -c) (b := c) hx hy (by simp) hc.neg hc (by simp only [ex]; grind) (by simp only [ex]; grind)
  obtain ⟨b1, b2, b3⟩ := fop_btw .sub rfl .f64 (a := -c) (b := c) hy hx (by simp) hc.neg hc (by simp only [ex]; grind) (by simp only [ex]; grind)
  obtain ⟨g1, g2, g3, g4⟩ := fmax64_val a1 b1
  refine ⟨⟨a1, b1⟩, g1, ?_, ?_⟩
  · show -c ≤ fv .f64 (fmax64 _ _); grind
  · show fv .f64 (fmax64 _ _) ≤ c
    rcases g4 with e | e <;> rw [e] <;> assumption
theorem cn_fmax64 {x y : Nat} (hx : fnt .f64 x = true) (hy : fnt .f64 y = true) : cn .f64 (fmax64 x y) = fmax64 x y := fnt_cn (fmax64_val hx hy).1
theorem raw_fnt {k : FloatKind} {x c : Nat} (h : cn k x = c) (hf : fnt k c = true) : x = c := by
  cases hn : isN k x with
  | true =>
    rw [cn_of_isN hn] at h
    subst h
    have : fnt k (qn k) = false := by cases k <;> decide +kernel
    rw [this] at hf; cases hf
  | false => rw [cn_of_not hn] at h; exact h
theorem max_raw {C D : Nat} (hC : fnt .f64 C = true) (hD : fnt .f64 D = true) {P : Program} (x y : Nat) (hx : cn .f64 x = C) (hy : cn .f64 y = D) (ts : Array TypeId) (t : TypeId) (w : World) : (Builtin.max_ ts t #[.float .f64 x, .float .f64 y]).run P w = .ok (.float .f64 (fmax64 C D)) w := by
  rw [raw_fnt hx hC, raw_fnt hy hD]
  exact run_fmax64 hC hD ts t w
theorem r8Gap_any (x y : Nat) (w : World) (h : gapOk (cn .f64 x) (cn .f64 y)) : Calls Try.prog 13 #[.float .f64 x, .float .f64 y] w (RF w .f64 (gap8 (cn .f64 x) (cn .f64 y))) := by
  obtain ⟨h1, h2⟩ := h
  have HC := Lib.hid (cn_fmax64 h1 h2)
  have HM := Lib.hid (fun x y hx hy ts t w => max_raw (P := Try.prog) h1 h2 x y hx hy ts t w)
  have HV : Hid (gap8 (cn .f64 x) (cn .f64 y) = fmax64 (fop .sub .f64 (cn .f64 x) (cn .f64 y)) (fop .sub .f64 (cn .f64 y) (cn .f64 x))) := rfl
  rw [HV.out]
  clear HV
  have hm := HM.out
  go_enter Try.func13, Try.ntmps13
  go_wp2_with (first | (with_reducible refine at_list ?_; refine wpList_fop rfl rfl rfl rfl rfl ?_; intro r n hr0; have hr := hr0 _ _ (by first | with_reducible assumption | exact rfl) (by first | with_reducible assumption | exact rfl); clear hr0) | (with_reducible refine at_list ?_; refine wpList_neg rfl rfl rfl ?_; intro r hr0; have hr := hr0 _ (by first | with_reducible assumption | exact rfl); clear hr0) | (with_reducible refine at_list ?_; refine wpList_fop_g rfl rfl rfl rfl rfl ?_; intro r n hr0; have hr := hr0 _ _ (by first | with_reducible assumption | exact rfl) (by first | with_reducible assumption | exact rfl); clear hr0) | (with_reducible refine at_list ?_; refine wpList_wide_g rfl rfl Try.underlying28 Try.underlying39 rfl ?_; intro r n hr0; have hr := hr0 _ (by first | with_reducible assumption | exact rfl); clear hr0) | (with_reducible refine at_list ?_; refine wpList_wide rfl rfl rfl Try.underlying28 Try.underlying39 ?_; intro r n hr0; have hr := hr0 _ (by first | with_reducible assumption | exact rfl); clear hr0))
  go_ret
  exact ⟨_, rfl, HC.out, by first | exact ⟨_, rfl⟩ | exact ⟨0, rfl⟩⟩
end Go.Proofs.Ytpnkapdemgieaaa
set_option linter.unusedSimpArgs false
set_option linter.unusedVariables false
set_option linter.unusedSectionVars false
namespace Go.Proofs.Ytpnkapdemgieaaa
open Go Go.RowKit
open Go.ChangeShapes Go.WideShapes Go.ChangeAt Go.RowKit Go.Joins
/-- Two numbers in 64 bits. -/
def RT2 (w : World) (c d : Nat) (e : Ending) (w' : World) : Prop := ∃ x y, e = .returned (.tuple #[.float .f64 x, .float .f64 y]) ∧ cn .f64 x = c ∧ cn .f64 y = d ∧ Below w.heap.size w w'
/-- A complex number, exactly these words. -/
theorem rc_bv {P : Program} {f : FuncId} {args : Array Value} {w : World} {c d : Nat} (h : Calls P f args w (RC w c d)) (h1 : fnt .f32 c = true) (h2 : fnt .f32 d = true) : Calls P f args w (BV w (.complex .f32 c d)) := by
  refine Calls.mono h ?_
  rintro e w' ⟨x, y, rfl, hx, hy, hb⟩
  exact ⟨by rw [raw_fnt hx h1, raw_fnt hy h2], hb⟩
theorem rf_bv {P : Program} {f : FuncId} {args : Array Value} {w : World} {k : FloatKind} {c : Nat} (h : Calls P f args w (RF w k c)) (h1 : fnt k c = true) : Calls P f args w (BV w (.float k c)) := by
  refine Calls.mono h ?_
  rintro e w' ⟨x, rfl, hx, n, rfl⟩
  exact ⟨by rw [raw_fnt hx h1], below_drewN (Below.refl _ _) _⟩
theorem power_any (a b : Nat) (w : World) : Calls Try.prog 64 #[.complex .f32 a b] w (RF w .f64 (pwW (cn .f32 a) (cn .f32 b))) := by
  have HV : Hid (pwW (cn .f32 a) (cn .f32 b) = fop .add .f64 (fop .mul .f64 (wide (cn .f32 a)) (wide (cn .f32 a))) (fop .mul .f64 (wide (cn .f32 b)) (wide (cn .f32 b)))) := rfl
  rw [HV.out]
  clear HV
  go_enter Try.func64, Try.ntmps64
  go_wp2_with (first | (with_reducible refine at_list ?_; refine wpList_fop rfl rfl rfl rfl rfl ?_; intro r n hr0; have hr := hr0 _ _ (by first | with_reducible assumption | exact rfl) (by first | with_reducible assumption | exact rfl); clear hr0) | (with_reducible refine at_list ?_; refine wpList_neg rfl rfl rfl ?_; intro r hr0; have hr := hr0 _ (by first | with_reducible assumption | exact rfl); clear hr0) | (with_reducible refine at_list ?_; refine wpList_fop_g rfl rfl rfl rfl rfl ?_; intro r n hr0; have hr := hr0 _ _ (by first | with_reducible assumption | exact rfl) (by first | with_reducible assumption | exact rfl); clear hr0) | (with_reducible refine at_list ?_; refine wpList_wide_g rfl rfl Try.underlying28 Try.underlying39 rfl ?_; intro r n hr0; have hr := hr0 _ (by first | with_reducible assumption | exact rfl); clear hr0) | (with_reducible refine at_list ?_; refine wpList_wide rfl rfl rfl Try.underlying28 Try.underlying39 ?_; intro r n hr0; have hr := hr0 _ (by first | with_reducible assumption | exact rfl); clear hr0))
  go_ret
  exact ⟨_, rfl, by assumption, _, rfl⟩
theorem times_any (a b c d : Nat) (w : World) : Calls Try.prog 87 #[.complex .f32 a b, .complex .f32 c d] w (RT2 w (t1W (cn .f32 a) (cn .f32 b) (cn .f32 c) (cn .f32 d)) (t2W (cn .f32 a) (cn .f32 b) (cn .f32 c) (cn .f32 d))) := by
  have HV : Hid (t1W (cn .f32 a) (cn .f32 b) (cn .f32 c) (cn .f32 d) = fop .sub .f64 (fop .mul .f64 (wide (cn .f32 a)) (wide (cn .f32 c))) (fop .mul .f64 (wide (cn .f32 b)) (wide (cn .f32 d)))) := rfl
  have HW : Hid (t2W (cn .f32 a) (cn .f32 b) (cn .f32 c) (cn .f32 d) = fop .add .f64 (fop .mul .f64 (wide (cn .f32 a)) (wide (cn .f32 d))) (fop .mul .f64 (wide (cn .f32 b)) (wide (cn .f32 c)))) := rfl
  rw [HV.out, HW.out]
  clear HV HW
  go_enter Try.func87, Try.ntmps87
  go_wp2_with (first | (with_reducible refine at_list ?_; refine wpList_fop rfl rfl rfl rfl rfl ?_; intro r n hr0; have hr := hr0 _ _ (by first | with_reducible assumption | exact rfl) (by first | with_reducible assumption | exact rfl); clear hr0) | (with_reducible refine at_list ?_; refine wpList_neg rfl rfl rfl ?_; intro r hr0; have hr := hr0 _ (by first | with_reducible assumption | exact rfl); clear hr0) | (with_reducible refine at_list ?_; refine wpList_fop_g rfl rfl rfl rfl rfl ?_; intro r n hr0; have hr := hr0 _ _ (by first | with_reducible assumption | exact rfl) (by first | with_reducible assumption | exact rfl); clear hr0) | (with_reducible refine at_list ?_; refine wpList_wide_g rfl rfl Try.underlying28 Try.underlying39 rfl ?_; intro r n hr0; have hr := hr0 _ (by first | with_reducible assumption | exact rfl); clear hr0) | (with_reducible refine at_list ?_; refine wpList_wide rfl rfl rfl Try.underlying28 Try.underlying39 ?_; intro r n hr0; have hr := hr0 _ (by first | with_reducible assumption | exact rfl); clear hr0))
  go_ret2
  exact ⟨_, _, rfl, by assumption, by assumption, by first | (repeat (first | (with_reducible exact Below.refl _ _) | (with_reducible assumption) | (with_reducible refine below_then ?_ (by assumption)) | (with_reducible refine Below.trans ?_ (by assumption)) | (with_reducible refine below_drewN ?_ _) | (with_reducible apply Below.drew) | (with_reducible refine below_alloc ?_ _) | refine Below.setCell ?_ (by first | (simp; done) | (simp; omega)) _)) | exact below_drewN (Below.refl _ _) _⟩
theorem conj_any (a b : Nat) (w : World) : Calls Try.prog 88 #[.complex .f32 a b] w (RC w (cn .f32 a) (fneg .f32 (cn .f32 b))) := by
  go_enter Try.func88, Try.ntmps88
  go_wp2_with (first | (with_reducible refine at_list ?_; refine wpList_fop rfl rfl rfl rfl rfl ?_; intro r n hr0; have hr := hr0 _ _ (by first | with_reducible assumption | exact rfl) (by first | with_reducible assumption | exact rfl); clear hr0) | (with_reducible refine at_list ?_; refine wpList_neg rfl rfl rfl ?_; intro r hr0; have hr := hr0 _ (by first | with_reducible assumption | exact rfl); clear hr0) | (with_reducible refine at_list ?_; refine wpList_fop_g rfl rfl rfl rfl rfl ?_; intro r n hr0; have hr := hr0 _ _ (by first | with_reducible assumption | exact rfl) (by first | with_reducible assumption | exact rfl); clear hr0) | (with_reducible refine at_list ?_; refine wpList_wide_g rfl rfl Try.underlying28 Try.underlying39 rfl ?_; intro r n hr0; have hr := hr0 _ (by first | with_reducible assumption | exact rfl); clear hr0) | (with_reducible refine at_list ?_; refine wpList_wide rfl rfl rfl Try.underlying28 Try.underlying39 ?_; intro r n hr0; have hr := hr0 _ (by first | with_reducible assumption | exact rfl); clear hr0))
  go_ret
  exact ⟨_, _, rfl, rfl, by assumption, by first | (repeat (first | (with_reducible exact Below.refl _ _) | (with_reducible assumption) | (with_reducible refine below_then ?_ (by assumption)) | (with_reducible refine Below.trans ?_ (by assumption)) | (with_reducible refine below_drewN ?_ _) | (with_reducible apply Below.drew) | (with_reducible refine below_alloc ?_ _) | refine Below.setCell ?_ (by first | (simp; done) | (simp; omega)) _)) | exact below_drewN (Below.refl _ _) _⟩
theorem minus_any (a b c d : Nat) (w : World) : Calls Try.prog 67 #[.complex .f32 a b, .complex .f32 c d] w (RC w (fop .sub .f32 (cn .f32 a) (cn .f32 c)) (fop .sub .f32 (cn .f32 b) (cn .f32 d))) := by
  go_enter Try.func67, Try.ntmps67
  go_wp2_with (first | (with_reducible refine at_list ?_; refine wpList_fop rfl rfl rfl rfl rfl ?_; intro r n hr0; have hr := hr0 _ _ (by first | with_reducible assumption | exact rfl) (by first | with_reducible assumption | exact rfl); clear hr0) | (with_reducible refine at_list ?_; refine wpList_neg rfl rfl rfl ?_; intro r hr0; have hr := hr0 _ (by first | with_reducible assumption | exact rfl); clear hr0) | (with_reducible refine at_list ?_; refine wpList_fop_g rfl rfl rfl rfl rfl ?_; intro r n hr0; have hr := hr0 _ _ (by first | with_reducible assumption | exact rfl) (by first | with_reducible assumption | exact rfl); clear hr0) | (with_reducible refine at_list ?_; refine wpList_wide_g rfl rfl Try.underlying28 Try.underlying39 rfl ?_; intro r n hr0; have hr := hr0 _ (by first | with_reducible assumption | exact rfl); clear hr0) | (with_reducible refine at_list ?_; refine wpList_wide rfl rfl rfl Try.underlying28 Try.underlying39 ?_; intro r n hr0; have hr := hr0 _ (by first | with_reducible assumption | exact rfl); clear hr0))
  go_ret
  exact ⟨_, _, rfl, by assumption, by assumption, by first | (repeat (first | (with_reducible exact Below.refl _ _) | (with_reducible assumption) | (with_reducible refine below_then ?_ (by assumption)) | (with_reducible refine Below.trans ?_ (by assumption)) | (with_reducible refine below_drewN ?_ _) | (with_reducible apply Below.drew) | (with_reducible refine below_alloc ?_ _) | refine Below.setCell ?_ (by first | (simp; done) | (simp; omega)) _)) | exact below_drewN (Below.refl _ _) _⟩
theorem mulC_any (a b c d : Nat) (w : World) (h : fits (t1W (cn .f32 a) (cn .f32 b) (cn .f32 c) (cn .f32 d)) = true ∧ fits (t2W (cn .f32 a) (cn .f32 b) (cn .f32 c) (cn .f32 d)) = true) : Calls Try.prog 68 #[.complex .f32 a b, .complex .f32 c d] w (RC w (narrow (t1W (cn .f32 a) (cn .f32 b) (cn .f32 c) (cn .f32 d))) (narrow (t2W (cn .f32 a) (cn .f32 b) (cn .f32 c) (cn .f32 d)))) := by
  have HT := Lib.hid (fun w => times_any a b c d w)
  have F1 := Lib.hid h.1
  have F2 := Lib.hid h.2
  clear h
  generalize t1W (cn .f32 a) (cn .f32 b) (cn .f32 c) (cn .f32 d) = T1 at *
  generalize t2W (cn .f32 a) (cn .f32 b) (cn .f32 c) (cn .f32 d) = T2 at *
  go_enter Try.func68, Try.ntmps68
  go_wp2_with (first | (with_reducible refine at_list ?_; refine wpList_fop rfl rfl rfl rfl rfl ?_; intro r n hr0; have hr := hr0 _ _ (by first | with_reducible assumption | exact rfl) (by first | with_reducible assumption | exact rfl); clear hr0) | (with_reducible refine at_list ?_; refine wpList_neg rfl rfl rfl ?_; intro r hr0; have hr := hr0 _ (by first | with_reducible assumption | exact rfl); clear hr0) | (with_reducible refine at_list ?_; refine wpList_fop_g rfl rfl rfl rfl rfl ?_; intro r n hr0; have hr := hr0 _ _ (by first | with_reducible assumption | exact rfl) (by first | with_reducible assumption | exact rfl); clear hr0) | (with_reducible refine at_list ?_; refine wpList_wide_g rfl rfl Try.underlying28 Try.underlying39 rfl ?_; intro r n hr0; have hr := hr0 _ (by first | with_reducible assumption | exact rfl); clear hr0) | (with_reducible refine at_list ?_; refine wpList_wide rfl rfl rfl Try.underlying28 Try.underlying39 ?_; intro r n hr0; have hr := hr0 _ (by first | with_reducible assumption | exact rfl); clear hr0) | (go_at_call 87; refine (HT.out _).mono ?_; rintro e w' ⟨x, y, rfl, hx, hy, hb⟩; obtain ⟨hT, hk⟩ := bv_next hb (by (repeat (with_reducible first | assumption | apply Trk.alloc | apply Trk.setCell | apply Trk.drewN | apply Trk.drew | exact Trk.nil _))); simp only [SameOn, World.size_alloc, World.size_setCell, World.size_drew, size_drewN', and_true] at hk; have hsz := Below.size hb; (try simp only [World.size_alloc, World.size_setCell, World.size_drew, size_drewN'] at hsz)) | (with_reducible refine at_list ?_; refine wpList_narrow rfl rfl rfl Try.underlying39 Try.underlying28 (by with_reducible assumption) (by first | exact F1.out | exact F2.out) ?_; intro r n hr))
  go_ret
  exact ⟨_, _, rfl, by assumption, by assumption, by (repeat (first | (with_reducible exact Below.refl _ _) | (with_reducible assumption) | (with_reducible refine below_then ?_ (by assumption)) | (with_reducible refine Below.trans ?_ (by assumption)) | (with_reducible refine below_drewN ?_ _) | (with_reducible apply Below.drew) | (with_reducible refine below_alloc ?_ _) | refine Below.setCell ?_ (by first | (simp; done) | (simp; omega)) _))⟩
theorem quoC_any (a b c d : Nat) (w : World) (h : fits (qaW (cn .f32 a) (cn .f32 b) (cn .f32 c) (cn .f32 d)) = true ∧ fits (qbW (cn .f32 a) (cn .f32 b) (cn .f32 c) (cn .f32 d)) = true) : Calls Try.prog 66 #[.complex .f32 a b, .complex .f32 c d] w (RC w (narrow (qaW (cn .f32 a) (cn .f32 b) (cn .f32 c) (cn .f32 d))) (narrow (qbW (cn .f32 a) (cn .f32 b) (cn .f32 c) (cn .f32 d)))) := by
  have HC := Lib.hid (fun w => conj_any c d w)
  have HP := Lib.hid (fun w => power_any c d w)
  have HT : Hid (∀ x y w, cn .f32 x = cn .f32 c → cn .f32 y = fneg .f32 (cn .f32 d) → Calls Try.prog 87 #[.complex .f32 a b, .complex .f32 x y] w (RT2 w (t1W (cn .f32 a) (cn .f32 b) (cn .f32 c) (fneg .f32 (cn .f32 d))) (t2W (cn .f32 a) (cn .f32 b) (cn .f32 c) (fneg .f32 (cn .f32 d))))) := fun x y w hx hy => by
    have := times_any a b x y w
    rw [hx, hy] at this
    exact this
  have Q1 : Hid (qaW (cn .f32 a) (cn .f32 b) (cn .f32 c) (cn .f32 d) = fop .quo .f64 (t1W (cn .f32 a) (cn .f32 b) (cn .f32 c) (fneg .f32 (cn .f32 d))) (pwW (cn .f32 c) (cn .f32 d))) := rfl
  have Q2 : Hid (qbW (cn .f32 a) (cn .f32 b) (cn .f32 c) (cn .f32 d) = fop .quo .f64 (t2W (cn .f32 a) (cn .f32 b) (cn .f32 c) (fneg .f32 (cn .f32 d))) (pwW (cn .f32 c) (cn .f32 d))) := rfl
  rw [Q1.out, Q2.out] at h ⊢
  clear Q1 Q2
  have F1 := Lib.hid h.1
  have F2 := Lib.hid h.2
  clear h
  generalize t1W (cn .f32 a) (cn .f32 b) (cn .f32 c) (fneg .f32 (cn .f32 d)) = T1 at *
  generalize t2W (cn .f32 a) (cn .f32 b) (cn .f32 c) (fneg .f32 (cn .f32 d)) = T2 at *
  generalize pwW (cn .f32 c) (cn .f32 d) = PW at *
  go_enter Try.func66, Try.ntmps66
  go_wp2_with (first | (with_reducible refine at_list ?_; refine wpList_fop rfl rfl rfl rfl rfl ?_; intro r n hr0; have hr := hr0 _ _ (by first | with_reducible assumption | exact rfl) (by first | with_reducible assumption | exact rfl); clear hr0) | (with_reducible refine at_list ?_; refine wpList_neg rfl rfl rfl ?_; intro r hr0; have hr := hr0 _ (by first | with_reducible assumption | exact rfl); clear hr0) | (with_reducible refine at_list ?_; refine wpList_fop_g rfl rfl rfl rfl rfl ?_; intro r n hr0; have hr := hr0 _ _ (by first | with_reducible assumption | exact rfl) (by first | with_reducible assumption | exact rfl); clear hr0) | (with_reducible refine at_list ?_; refine wpList_wide_g rfl rfl Try.underlying28 Try.underlying39 rfl ?_; intro r n hr0; have hr := hr0 _ (by first | with_reducible assumption | exact rfl); clear hr0) | (with_reducible refine at_list ?_; refine wpList_wide rfl rfl rfl Try.underlying28 Try.underlying39 ?_; intro r n hr0; have hr := hr0 _ (by first | with_reducible assumption | exact rfl); clear hr0) | (go_at_call 88; refine (HC.out _).mono ?_; rintro e w' ⟨x1, y1, rfl, hx1, hy1, hb⟩; obtain ⟨hT, hk⟩ := bv_next hb (by (repeat (with_reducible first | assumption | apply Trk.alloc | apply Trk.setCell | apply Trk.drewN | apply Trk.drew | exact Trk.nil _))); simp only [SameOn, World.size_alloc, World.size_setCell, World.size_drew, size_drewN', and_true] at hk; have hsz := Below.size hb; (try simp only [World.size_alloc, World.size_setCell, World.size_drew, size_drewN'] at hsz)) | (go_at_call 87; refine (HT.out _ _ _ (by with_reducible assumption) (by with_reducible assumption)).mono ?_; rintro e w' ⟨x, y, rfl, hx, hy, hb⟩; obtain ⟨hT, hk⟩ := bv_next hb (by (repeat (with_reducible first | assumption | apply Trk.alloc | apply Trk.setCell | apply Trk.drewN | apply Trk.drew | exact Trk.nil _))); simp only [SameOn, World.size_alloc, World.size_setCell, World.size_drew, size_drewN', and_true] at hk; have hsz := Below.size hb; (try simp only [World.size_alloc, World.size_setCell, World.size_drew, size_drewN'] at hsz)) | (with_reducible refine at_list ?_; refine wpList_narrow rfl rfl rfl Try.underlying39 Try.underlying28 (by with_reducible assumption) (by first | exact F1.out | exact F2.out) ?_; intro r n hr) | (go_at_call 64; refine ((HP.out _) ).mono ?_; rintro e w' ⟨r, rfl, hr, n, rfl⟩))
  go_ret
  exact ⟨_, _, rfl, by assumption, by assumption, by (repeat (first | (with_reducible exact Below.refl _ _) | (with_reducible assumption) | (with_reducible refine below_then ?_ (by assumption)) | (with_reducible refine Below.trans ?_ (by assumption)) | (with_reducible refine below_drewN ?_ _) | (with_reducible apply Below.drew) | (with_reducible refine below_alloc ?_ _) | refine Below.setCell ?_ (by first | (simp; done) | (simp; omega)) _))⟩
theorem swSqrt_any (x : Nat) (w : World) : Calls Try.prog 63 #[.float .f64 x] w (RF w .f64 (sqC (cn .f64 x))) := by
  go_enter Try.func63, Try.ntmps63
  go_wp2_with (first | (with_reducible refine at_list ?_; refine wpList_fop rfl rfl rfl rfl rfl ?_; intro r n hr0; have hr := hr0 _ _ (by first | with_reducible assumption | exact rfl) (by first | with_reducible assumption | exact rfl); clear hr0) | (with_reducible refine at_list ?_; refine wpList_neg rfl rfl rfl ?_; intro r hr0; have hr := hr0 _ (by first | with_reducible assumption | exact rfl); clear hr0) | (with_reducible refine at_list ?_; refine wpList_fop_g rfl rfl rfl rfl rfl ?_; intro r n hr0; have hr := hr0 _ _ (by first | with_reducible assumption | exact rfl) (by first | with_reducible assumption | exact rfl); clear hr0) | (with_reducible refine at_list ?_; refine wpList_wide_g rfl rfl Try.underlying28 Try.underlying39 rfl ?_; intro r n hr0; have hr := hr0 _ (by first | with_reducible assumption | exact rfl); clear hr0) | (with_reducible refine at_list ?_; refine wpList_wide rfl rfl rfl Try.underlying28 Try.underlying39 ?_; intro r n hr0; have hr := hr0 _ (by first | with_reducible assumption | exact rfl); clear hr0) | (with_reducible refine at_list ?_; refine wpList_sqrt rfl rfl rfl ?_; intro r n hr0; have hr := hr0 _ rfl; clear hr0))
  go_ret
  exact ⟨_, rfl, by assumption, _, rfl⟩
theorem longC_any (a b : Nat) (w : World) (h : fits (sqC (pwW (cn .f32 a) (cn .f32 b))) = true) : Calls Try.prog 30 #[.complex .f32 a b] w (RF w .f32 (narrow (sqC (pwW (cn .f32 a) (cn .f32 b))))) := by
  have HP := Lib.hid (fun w => power_any a b w)
  have HF := Lib.hid h
  clear h
  generalize pwW (cn .f32 a) (cn .f32 b) = PW at *
  have HS : Hid (∀ x w, cn .f64 x = PW → Calls Try.prog 63 #[.float .f64 x] w (RF w .f64 (sqC PW))) := fun x w hx => by
    have := swSqrt_any x w
    rw [hx] at this
    exact this
  generalize sqC PW = V at *
  go_enter Try.func30, Try.ntmps30
  go_wp2_with (first | (with_reducible refine at_list ?_; refine wpList_fop rfl rfl rfl rfl rfl ?_; intro r n hr0; have hr := hr0 _ _ (by first | with_reducible assumption | exact rfl) (by first | with_reducible assumption | exact rfl); clear hr0) | (with_reducible refine at_list ?_; refine wpList_neg rfl rfl rfl ?_; intro r hr0; have hr := hr0 _ (by first | with_reducible assumption | exact rfl); clear hr0) | (with_reducible refine at_list ?_; refine wpList_fop_g rfl rfl rfl rfl rfl ?_; intro r n hr0; have hr := hr0 _ _ (by first | with_reducible assumption | exact rfl) (by first | with_reducible assumption | exact rfl); clear hr0) | (with_reducible refine at_list ?_; refine wpList_wide_g rfl rfl Try.underlying28 Try.underlying39 rfl ?_; intro r n hr0; have hr := hr0 _ (by first | with_reducible assumption | exact rfl); clear hr0) | (with_reducible refine at_list ?_; refine wpList_wide rfl rfl rfl Try.underlying28 Try.underlying39 ?_; intro r n hr0; have hr := hr0 _ (by first | with_reducible assumption | exact rfl); clear hr0) | (with_reducible refine at_list ?_; refine wpList_narrow rfl rfl rfl Try.underlying39 Try.underlying28 (by with_reducible assumption) HF.out ?_; intro r n hr) | (go_at_call 64; refine ((HP.out _) ).mono ?_; rintro e w' ⟨r, rfl, hr, n, rfl⟩) | (go_at_call 63; refine ((HS.out _ _ (by with_reducible assumption)) ).mono ?_; rintro e w' ⟨r, rfl, hr, n, rfl⟩))
  go_ret
  exact ⟨_, rfl, by assumption, _, rfl⟩
end Go.Proofs.Ytpnkapdemgieaaa
set_option linter.unusedSimpArgs false
set_option linter.unusedVariables false
set_option linter.unusedSectionVars false
namespace Go.Proofs.Ytpnkapdemgieaaa
open Go Go.RowKit
/-! ### The words -/
/-- The quotient of what passes and the row before. -/
def fqA (p D1 D2 : Nat) : Nat := narrow (qaW (fneg .f32 p) 0 D1 D2)
def fqB (p D1 D2 : Nat) : Nat := narrow (qbW (fneg .f32 p) 0 D1 D2)
/-- The rows' middles. -/
def dW (p s : Nat → Nat) : Nat → Nat × Nat
  | 0 => (fop .add .f32 (p 0) (p 1), s 0)
  | i + 1 =>
    (fop .sub .f32 (fop .add .f32 (p (i + 1)) (p (i + 2))) (narrow (t1W (fqA (p (i + 1)) (dW p s i).1 (dW p s i).2) (fqB (p (i + 1)) (dW p s i).1 (dW p s i).2) (fneg .f32 (p (i + 1))) 0)),
     fop .sub .f32 (s (i + 1)) (narrow (t2W (fqA (p (i + 1)) (dW p s i).1 (dW p s i).2) (fqB (p (i + 1)) (dW p s i).1 (dW p s i).2) (fneg .f32 (p (i + 1))) 0)))
def fA (p s : Nat → Nat) (i : Nat) : Nat := fqA (p (i + 1)) (dW p s i).1 (dW p s i).2
def fB (p s : Nat → Nat) (i : Nat) : Nat := fqB (p (i + 1)) (dW p s i).1 (dW p s i).2
/-- The right sides. -/
def rW (p s : Nat → Nat) : Nat → Nat × Nat
  | 0 => (p 0, 0)
  | i + 1 => (fop .sub .f32 0 (narrow (t1W (fA p s i) (fB p s i) (rW p s i).1 (rW p s i).2)), fop .sub .f32 0 (narrow (t2W (fA p s i) (fB p s i) (rW p s i).1 (rW p s i).2)))
/-- What a row's answer is made of. -/
def sdW (p : Nat → Nat) (R : Nat × Nat) (i : Nat) (o : Nat × Nat) : Nat × Nat := (fop .sub .f32 R.1 (narrow (t1W (fneg .f32 (p (i + 1))) 0 o.1 o.2)), fop .sub .f32 R.2 (narrow (t2W (fneg .f32 (p (i + 1))) 0 o.1 o.2)))
def quW (a d : Nat × Nat) : Nat × Nat := (narrow (qaW a.1 a.2 d.1 d.2), narrow (qbW a.1 a.2 d.1 d.2))
/-- The answers from the last one on. -/
def kW (p s : Nat → Nat) (n : Nat) : Nat → Nat × Nat
  | 0 => quW (rW p s (n - 1)) (dW p s (n - 1))
  | k + 1 => quW (sdW p (rW p s (n - 1 - (k + 1))) (n - 1 - (k + 1)) (kW p s n k)) (dW p s (n - 1 - (k + 1)))
def oW (p s : Nat → Nat) (n i : Nat) : Nat × Nat := kW p s n (n - 1 - i)
theorem oW_last (p s : Nat → Nat) (n : Nat) {i : Nat} (h : i + 1 = n) : oW p s n i = quW (rW p s i) (dW p s i) := by
  subst h
  show kW p s (i + 1) (i + 1 - 1 - i) = _
  rw [show i + 1 - 1 - i = 0 by omega]
  rfl
theorem oW_next (p s : Nat → Nat) (n : Nat) {i : Nat} (h : i + 1 < n) : oW p s n i = quW (sdW p (rW p s i) i (oW p s n (i + 1))) (dW p s i) := by
  show kW p s n (n - 1 - i) = quW (sdW p (rW p s i) i (kW p s n (n - 1 - (i + 1)))) (dW p s i)
  rw [show n - 1 - i = (n - 1 - (i + 1)) + 1 by omega]
  show quW (sdW p (rW p s (n - 1 - (n - 1 - (i + 1) + 1))) (n - 1 - (n - 1 - (i + 1) + 1)) (kW p s n (n - 1 - (i + 1)))) (dW p s (n - 1 - (n - 1 - (i + 1) + 1))) = _
  rw [show n - 1 - (n - 1 - (i + 1) + 1) = i by omega]
/-! ### What is given -/
structure SwH (n : Nat) (p s : Nat → Nat) : Prop where
  n0 : 1 ≤ n
  n6 : n ≤ 6
  p0 : Btw .f32 (p 0) (1 / 4) 16
  pm : ∀ i, i + 1 < n → Btw .f32 (p (i + 1)) (1 / 8) 8
  pl : Btw .f32 (p n) 0 0
  sw : ∀ i, i < n → Btw .f32 (s i) (1 / 1000000) 101
variable {n : Nat} {p s : Nat → Nat}
theorem zero_fw : Fw 0 0 := ⟨⟨by decide +kernel, by decide +kernel, by decide +kernel⟩, by decide⟩
theorem zero_fv : fv .f32 0 = 0 := by decide +kernel
theorem SwH.ps (h : SwH n p s) {i : Nat} (hi : i < n) : Btw .f32 (p (i + 1)) 0 8 := by
  by_cases hl : i + 1 < n
  · obtain ⟨a, b, c⟩ := h.pm i hl
    exact ⟨a, by grind, c⟩
  · have e : i + 1 = n := by omega
    rw [e]
    obtain ⟨a, b, c⟩ := h.pl
    exact ⟨a, b, by grind⟩
theorem SwH.pc (h : SwH n p s) {i : Nat} (hi : i ≤ n) : Btw .f32 (p i) 0 16 := by
  cases i with
  | zero => obtain ⟨a, b, c⟩ := h.p0; exact ⟨a, by grind, c⟩
  | succ i => obtain ⟨a, b, c⟩ := h.ps (i := i) (by omega); exact ⟨a, b, by grind⟩
theorem Btw.fw {x : Nat} {a b : Rat} (h : Btw .f32 x a b) (h0 : 0 ≤ a) (hb : b ≤ 1048576) : Fw x b := ⟨⟨h.1, by have := h.2.1; have := h.2.2; grind, h.2.2⟩, hb⟩
/-- One step on the way forward, in exact numbers: the row's middle stays above what passes next. -/
theorem fwd_low {P x y N c a : Rat} (hP : 1 / 8 ≤ P) (hc : 0 ≤ c) (hx : 1 ≤ (x - P) * c) (hx0 : P ≤ x) (hN : N = x * x + y * y) (ha : a * N = -(P * x)) : 1 ≤ (P + P * a) * (c + 8) := by
  have x0 : 0 < x := by grind
  have y2 := sq_nonneg y
  have x2 := Rat.mul_pos x0 x0
  have N0 : 0 < N := by grind
  refine mul_cancel_le N0 ?_
  have e : (P + P * a) * (c + 8) * N = (P * N - P * (P * x)) * (c + 8) := by grind
  rw [e]
  -- (c + 8) P (x - P) >= x
  have k1 := Rat.mul_le_mul_of_nonneg_left hx (show 0 ≤ P by grind)
  have k2 := Rat.mul_nonneg (show 0 ≤ x - P by grind) (show 0 ≤ 8 * P - 1 by grind)
  have k3 : x ≤ (c + 8) * P * (x - P) := by grind
  have k4 := Rat.mul_le_mul_of_nonneg_left k3 (Rat.le_of_lt x0)
  have k5 := Rat.mul_nonneg y2 (show 0 ≤ (c + 8) * P - 1 by have := Rat.mul_nonneg (show 0 ≤ P by grind) hc; grind)
  clear k1 k2 k3 e ha
  subst hN
  grind
/-- The quotient is at most one, and its parts have their signs. -/
theorem fwd_quo {P x y N a b : Rat} (hP : 0 ≤ P) (hx : 0 < x) (hx0 : P ≤ x) (hy : 0 ≤ y) (hN : N = x * x + y * y) (ha : a * N = -(P * x)) (hb : b * N = P * y) : Nb a b 1 ∧ (-1 ≤ a ∧ a ≤ 0) ∧ 0 ≤ b ∧ P * b ≤ P * (1 / 2) := by
  have x2 := Rat.mul_pos hx hx
  have y2 := sq_nonneg y
  have N0 : 0 < N := by grind
  have p1 := Rat.mul_le_mul_of_nonneg_right hx0 (Rat.le_of_lt hx)
  have p2 := Rat.mul_nonneg hP (Rat.le_of_lt hx)
  have p3 := Rat.mul_nonneg hP hy
  have n1 : Nb a b 1 := by
    refine ⟨by decide, mul_cancel_le N0 (mul_cancel_le N0 ?_)⟩
    have e : (a * a + b * b) * N * N = (a * N) * (a * N) + (b * N) * (b * N) := by grind
    rw [e, ha, hb]
    have q1 := sq_le_of (x := P) (M := x) hx0 (by grind)
    have q2 := Rat.mul_le_mul_of_nonneg_right q1 (Rat.le_of_lt N0)
    have q3 := Rat.mul_nonneg y2 (Rat.le_of_lt N0)
    have e5 : P * P * N = -(P * x) * -(P * x) + P * y * (P * y) := by rw [hN]; grind
    have e6 : N * N = x * x * N + y * y * N := by rw [hN]; grind
    rw [← e5, show (1 : Rat) * 1 * N * N = N * N by grind, e6]
    clear e5 e6 e ha hb p1 p2 p3
    grind
  refine ⟨n1, ⟨by have := n1.re.2; grind, mul_cancel_le N0 (by grind)⟩, mul_cancel_le N0 (by grind), ?_⟩
  refine mul_cancel_le N0 ?_
  have e : P * b * N = P * (P * y) := by grind
  have q := sq_nonneg (x - y)
  have q2 := Rat.mul_le_mul_of_nonneg_right hx0 hy
  have q3 := Rat.mul_le_mul_of_nonneg_left (show P * y ≤ 1 / 2 * N by grind) hP
  grind
theorem nine_uu {P : Rat} (h : P ≤ 8) : uu * P + 2 * ((25 + 110) * tt) ≤ 9 * uu := by
  have u0 := uu_pos
  have k := Rat.mul_le_mul_of_nonneg_left h (Rat.le_of_lt u0)
  have ut : 2 * ((25 + 110) * tt) ≤ uu := by decide +kernel
  grind
theorem quo_norm {P x y N A B : Rat} (hN : N = x * x + y * y) (N0 : 0 < N) (eA : A * N = -(P * x)) (eB : B * N = P * y) : N * (A * A + B * B) ≤ P * P := by
  refine mul_cancel_le N0 ?_
  have e : N * (A * A + B * B) * N = (A * N) * (A * N) + (B * N) * (B * N) := by grind
  have e5 : P * P * N = -(P * x) * -(P * x) + P * y * (P * y) := by rw [hN]; grind
  rw [e, eA, eB, e5]
  exact Rat.le_refl
/-! ### A row's middle -/
structure Dv (p s : Nat → Nat) (i : Nat) : Prop where
  a : Fw (dW p s i).1 25
  b : Fw (dW p s i).2 110
  lo : fv .f32 (p (i + 1)) ≤ fv .f32 (dW p s i).1
  gap : 1 ≤ (fv .f32 (dW p s i).1 - fv .f32 (p (i + 1))) * ((5 + 9 * i : Nat) : Rat)
  im : 0 ≤ fv .f32 (dW p s i).2
theorem SwH.dv0 (h : SwH n p s) : Dv p s 0 := by
  have h0 := h.n0
  obtain ⟨a0, a1, a2⟩ := h.p0
  obtain ⟨b0, b1, b2⟩ := h.ps (i := 0) (by omega)
  obtain ⟨c0, c1, c2⟩ := h.sw 0 (by omega)
  obtain ⟨d0, d1⟩ := cs_ok .add (.inl rfl) (a := p 0) (c := p 1) (A := 16) (C := 8) ⟨⟨a0, by grind, a2⟩, by decide⟩ ⟨⟨b0, by grind, b2⟩, by decide⟩
  simp only [ex] at d1
  obtain ⟨e1, e2⟩ := Ru.nonneg uu_pos d1 (by grind)
  unfold uu tt at e1 e2
  refine ⟨⟨⟨d0, ?_, ?_⟩, by decide⟩, ⟨⟨c0, by show -110 ≤ fv .f32 (s 0); grind, by show fv .f32 (s 0) ≤ 110; grind⟩, by decide⟩, ?_, ?_, by show 0 ≤ fv .f32 (s 0); grind⟩
  · show -25 ≤ fv .f32 (fop .add .f32 (p 0) (p 1)); grind
  · show fv .f32 (fop .add .f32 (p 0) (p 1)) ≤ 25; grind
  · show fv .f32 (p 1) ≤ fv .f32 (fop .add .f32 (p 0) (p 1)); grind
  · show 1 ≤ (fv .f32 (fop .add .f32 (p 0) (p 1)) - fv .f32 (p 1)) * ((5 + 9 * 0 : Nat) : Rat)
    have e9 : ((5 + 9 * 0 : Nat) : Rat) = 5 := rfl
    rw [e9]; grind
/-- The quotient of a row. -/
structure Fv (p s : Nat → Nat) (i : Nat) : Prop where
  fit : fits (qaW (fneg .f32 (p (i + 1))) 0 (dW p s i).1 (dW p s i).2) = true ∧ fits (qbW (fneg .f32 (p (i + 1))) 0 (dW p s i).1 (dW p s i).2) = true
  a : Fw (fA p s i) 2
  b : Fw (fB p s i) 2
  nb : Nb (fv .f32 (fA p s i)) (fv .f32 (fB p s i)) (1 + 2 * uu)
  im : -tt ≤ fv .f32 (fB p s i) ∧ fv .f32 (p (i + 1)) * fv .f32 (fB p s i) ≤ 5
  re : fv .f32 (fA p s i) ≤ tt
  low : 1 ≤ (fv .f32 (p (i + 1)) + fv .f32 (p (i + 1)) * fv .f32 (fA p s i) + 16 * uu) * ((13 + 9 * i : Nat) : Rat)
  res : Nb (fv .f32 (dW p s i).1 * fv .f32 (fA p s i) - fv .f32 (dW p s i).2 * fv .f32 (fB p s i) + fv .f32 (p (i + 1))) (fv .f32 (dW p s i).1 * fv .f32 (fB p s i) + fv .f32 (dW p s i).2 * fv .f32 (fA p s i)) (9 * uu)
theorem Dv.fq (h : SwH n p s) {i : Nat} (hi : i + 1 < n) (hD : Dv p s i) : Fv p s i := by
  obtain ⟨a0, a1, a2⟩ := h.pm i hi
  have fp : Fw (p (i + 1)) 8 := ⟨⟨a0, by grind, a2⟩, by decide⟩
  have hlo : 1 / 1024 ≤ fv .f32 (dW p s i).1 := by have := hD.lo; grind
  obtain ⟨q1, ⟨q2, q3⟩, q4⟩ := cq_ok fp.neg zero_fw hD.a hD.b hlo
  rw [fv_neg fp, zero_fv] at q4
  have q2 : fnt .f32 (fA p s i) = true := q2
  have q3 : fnt .f32 (fB p s i) = true := q3
  have q4 : Er (fv .f32 (fA p s i)) (fv .f32 (fB p s i)) _ _ := q4
  have x0 : 0 < fv .f32 (dW p s i).1 := by grind
  have NN := sq_nonneg (fv .f32 (dW p s i).2)
  have XX := Rat.mul_pos x0 x0
  obtain ⟨N, hN⟩ : ∃ N, N = fv .f32 (dW p s i).1 * fv .f32 (dW p s i).1 + fv .f32 (dW p s i).2 * fv .f32 (dW p s i).2 := ⟨_, rfl⟩
  rw [← hN] at q4
  have N0 : 0 < N := by grind
  obtain ⟨A, hA⟩ : ∃ A, A = (-fv .f32 (p (i + 1)) * fv .f32 (dW p s i).1 + 0 * fv .f32 (dW p s i).2) / N := ⟨_, rfl⟩
  obtain ⟨B, hB⟩ : ∃ B, B = (0 * fv .f32 (dW p s i).1 - -fv .f32 (p (i + 1)) * fv .f32 (dW p s i).2) / N := ⟨_, rfl⟩
  rw [← hA, ← hB] at q4
  have eA : A * N = -(fv .f32 (p (i + 1)) * fv .f32 (dW p s i).1) := by rw [hA, Rat.div_mul_cancel (by grind)]; grind
  have eB : B * N = fv .f32 (p (i + 1)) * fv .f32 (dW p s i).2 := by rw [hB, Rat.div_mul_cancel (by grind)]; grind
  clear hA hB
  obtain ⟨g1, ⟨g2, g3⟩, g4, g5⟩ := fwd_quo (P := fv .f32 (p (i + 1))) (by grind) x0 hD.lo hD.im hN eA eB
  have hc : ((5 + 9 * i : Nat) : Rat) + 8 = ((13 + 9 * i : Nat) : Rat) := by
    have : ((13 + 9 * i : Nat) : Rat) = ((5 + 9 * i + 8 : Nat) : Rat) := by congr 1; omega
    rw [this, Rat.natCast_add (5 + 9 * i) 8]; rfl
  have g6 := fwd_low a1 (by exact_mod_cast Nat.zero_le (5 + 9 * i)) hD.gap hD.lo hN eA
  rw [hc] at g6
  have hc13 : (13 : Rat) ≤ ((13 + 9 * i : Nat) : Rat) := by exact_mod_cast (by omega : 13 ≤ 13 + 9 * i)
  have t0 := tt_pos
  have u0 := uu_pos
  have ut : 2 * tt ≤ uu * (1 / 1000000) := by decide +kernel
  have uv : uu ≤ 1 / 1000 := by decide +kernel
  have nb := q4.bd uu_pos g1
  have nb : Nb (fv .f32 (fA p s i)) (fv .f32 (fB p s i)) (1 + 2 * uu) := nb.mono (by grind)
  obtain ⟨o1, o2⟩ := Ru.off uu_pos q4.re (V := -A) (by grind) (by grind)
  obtain ⟨o3, o4⟩ := Ru.nonneg uu_pos q4.im g4
  have B1 := g1.im.1
  have uA := Rat.mul_nonneg (show 0 ≤ -A by grind) (Rat.le_of_lt u0)
  have uA1 := Rat.mul_nonneg (show 0 ≤ 1 + A by grind) (Rat.le_of_lt u0)
  have uB := Rat.mul_nonneg g4 (Rat.le_of_lt u0)
  have uB1 := Rat.mul_nonneg (show 0 ≤ 1 - B by grind) (Rat.le_of_lt u0)
  have bb : 0 ≤ B - B * uu := by have := Rat.mul_nonneg g4 (show 0 ≤ 1 - uu by grind); grind
  refine ⟨q1, ⟨⟨q2, by have := nb.re.2; grind, by have := nb.re.1; grind⟩, by decide⟩, ⟨⟨q3, by have := nb.im.2; grind, by have := nb.im.1; grind⟩, by decide⟩, nb, ⟨by grind, ?_⟩, ?_, ?_, ?_⟩
  · -- P b
    have e1 : fv .f32 (fB p s i) ≤ B + 2 * uu := by grind
    have e2 := Rat.mul_le_mul_of_nonneg_left e1 (show 0 ≤ fv .f32 (p (i + 1)) by grind)
    have e3 := Rat.mul_le_mul_of_nonneg_right a2 (show 0 ≤ 2 * uu by grind)
    grind
  · have := Rat.mul_nonneg (show 0 ≤ -A by grind) (show 0 ≤ 1 - uu by grind); grind
  · have e1 : A - 2 * uu ≤ fv .f32 (fA p s i) := by grind
    have e2 := Rat.mul_le_mul_of_nonneg_left e1 (show 0 ≤ fv .f32 (p (i + 1)) by grind)
    have e3 := Rat.mul_le_mul_of_nonneg_right a2 (show 0 ≤ 2 * uu by grind)
    exact Rat.le_trans g6 (Rat.mul_le_mul_of_nonneg_right (by grind) (by grind))
  · have hK := Nb.of hD.a.1.2.2 (show -fv .f32 (dW p s i).1 ≤ 25 by have := hD.a.1.2.1; grind) hD.b.1.2.2 (show -fv .f32 (dW p s i).2 ≤ 110 by have := hD.b.1.2.1; grind)
    have om := q4.offm uu_pos hK (P := fv .f32 (p (i + 1))) (by rw [← hN]; exact quo_norm hN N0 eA eB) (by grind)
    have e1 : fv .f32 (dW p s i).1 * (fv .f32 (fA p s i) - A) - fv .f32 (dW p s i).2 * (fv .f32 (fB p s i) - B) = fv .f32 (dW p s i).1 * fv .f32 (fA p s i) - fv .f32 (dW p s i).2 * fv .f32 (fB p s i) + fv .f32 (p (i + 1)) := by
      have k : fv .f32 (dW p s i).1 * A - fv .f32 (dW p s i).2 * B = -fv .f32 (p (i + 1)) := by
        have h1 : (fv .f32 (dW p s i).1 * A - fv .f32 (dW p s i).2 * B + fv .f32 (p (i + 1))) * N = 0 := by grind
        have := (Rat.mul_eq_zero.1 h1).resolve_right (by grind)
        grind
      grind
    have e2 : fv .f32 (dW p s i).1 * (fv .f32 (fB p s i) - B) + fv .f32 (dW p s i).2 * (fv .f32 (fA p s i) - A) = fv .f32 (dW p s i).1 * fv .f32 (fB p s i) + fv .f32 (dW p s i).2 * fv .f32 (fA p s i) := by
      have k : fv .f32 (dW p s i).1 * B + fv .f32 (dW p s i).2 * A = 0 := by
        have h1 : (fv .f32 (dW p s i).1 * B + fv .f32 (dW p s i).2 * A) * N = 0 := by grind
        exact (Rat.mul_eq_zero.1 h1).resolve_right (by grind)
      grind
    rw [e1, e2] at om
    exact om.mono (nine_uu a2)
end Go.Proofs.Ytpnkapdemgieaaa
set_option linter.unusedSimpArgs false
set_option linter.unusedVariables false
set_option linter.unusedSectionVars false
namespace Go.Proofs.Ytpnkapdemgieaaa
open Go Go.RowKit
variable {n : Nat} {p s : Nat → Nat}
theorem uu_tiny : 1000000000000 * tt ≤ uu := by decide +kernel
theorem uu_small : uu * 10000000 ≤ 1 := by decide +kernel
/-- The gap above what passes next. -/
theorem gap_next {z c : Rat} (h : 1 ≤ (z + 67 * uu) * c) (c1 : 13 ≤ c) (c2 : c ≤ 49) : 1 ≤ z * (c + 1) := by
  have u0 := uu_pos
  have us := uu_small
  have k1 := Rat.mul_le_mul_of_nonneg_left c2 (Rat.le_of_lt u0)
  have z0 : 0 ≤ z := by
    rcases Rat.le_total (a := 0) (b := z) with h0 | h0
    · exact h0
    · exfalso
      have := Rat.mul_nonneg (show 0 ≤ -z by grind) (show 0 ≤ c by grind)
      grind
  have k2 := Rat.mul_le_mul_of_nonneg_left c2 z0
  grind
/-- From a row to the next one. -/
structure Lk (p s : Nat → Nat) (i : Nat) : Prop where
  fit : fits (t1W (fA p s i) (fB p s i) (fneg .f32 (p (i + 1))) 0) = true ∧ fits (t2W (fA p s i) (fB p s i) (fneg .f32 (p (i + 1))) 0) = true
  fin : fnt .f32 (narrow (t1W (fA p s i) (fB p s i) (fneg .f32 (p (i + 1))) 0)) = true ∧ fnt .f32 (narrow (t2W (fA p s i) (fB p s i) (fneg .f32 (p (i + 1))) 0)) = true
  row : ∀ X Y B M : Rat, Nb X Y B → (X * X + Y * Y) * (fv .f32 (dW p s (i + 1)).1 * fv .f32 (dW p s (i + 1)).1 + fv .f32 (dW p s (i + 1)).2 * fv .f32 (dW p s (i + 1)).2) ≤ M * M → 0 ≤ M →
    Nb (X * (fv .f32 (p (i + 1)) + fv .f32 (p (i + 2)) + fv .f32 (p (i + 1)) * fv .f32 (fA p s i) - fv .f32 (dW p s (i + 1)).1) - Y * (fv .f32 (s (i + 1)) + fv .f32 (p (i + 1)) * fv .f32 (fB p s i) - fv .f32 (dW p s (i + 1)).2))
      (X * (fv .f32 (s (i + 1)) + fv .f32 (p (i + 1)) * fv .f32 (fB p s i) - fv .f32 (dW p s (i + 1)).2) + Y * (fv .f32 (p (i + 1)) + fv .f32 (p (i + 2)) + fv .f32 (p (i + 1)) * fv .f32 (fA p s i) - fv .f32 (dW p s (i + 1)).1)) (26 * uu * B + ww * M)
theorem fin_bd {u t a : Rat} (h : t ≤ a) (hu : 0 ≤ u) : u * t ≤ u * a := Rat.mul_le_mul_of_nonneg_left h hu
theorem row_sum {B M : Rat} (hB : 0 ≤ B) : B * (uu * (8 * (1 + 2 * uu)) + 2 * tt + (16 * uu + tt)) + (ww * M + 2 * (B * (2 * tt))) ≤ 26 * uu * B + ww * M := by
  have u0 := uu_pos
  have us := uu_small
  have ut := uu_tiny
  have t0 := tt_pos
  have uu2 := fin_bd (show uu ≤ 1 / 10000000 by grind) (Rat.le_of_lt u0)
  have key : uu * (8 * (1 + 2 * uu)) + 2 * tt + (16 * uu + tt) + 4 * tt ≤ 26 * uu := by grind
  have := Rat.mul_le_mul_of_nonneg_left key hB
  grind
/-- One row further, in exact numbers: products and sums. -/
theorem row_mid {P φ ψ M1 M2 : Rat} (hP : 1 / 8 ≤ P) (hP2 : P ≤ 8) (nb : Nb φ ψ (1 + 2 * uu)) (hM : Er M1 M2 (-P * φ) (-P * ψ)) : Nb M1 M2 9 ∧ Nb (M1 - -P * φ) (M2 - -P * ψ) (uu * (8 * (1 + 2 * uu)) + 2 * tt) := by
  have u0 := uu_pos
  have us := uu_small
  have ut := uu_tiny
  have uu2 := fin_bd (show uu ≤ 1 / 10000000 by grind) (Rat.le_of_lt u0)
  have nbm := nb.scale (c := -P) (K := 8) (by grind) (by grind)
  exact ⟨(hM.bd uu_pos nbm).mono (by grind), hM.off uu_pos nbm⟩
theorem row_low {P Q S φ ψ M1 M2 A0 α β : Rat} (hP : 1 / 8 ≤ P) (hP2 : P ≤ 8) (hQ : 0 ≤ Q) (hQ2 : Q ≤ 8) (nb : Nb φ ψ (1 + 2 * uu)) (re : φ ≤ tt)
    (hM : Er M1 M2 (-P * φ) (-P * ψ)) (hA : Ro A0 (P + Q)) (hα : Ro α (A0 - M1)) : P + P * φ - 51 * uu ≤ α - Q ∧ α ≤ 25 := by
  have u0 := uu_pos
  have us := uu_small
  have ut := uu_tiny
  have t0 := tt_pos
  have uu2 := fin_bd (show uu ≤ 1 / 10000000 by grind) (Rat.le_of_lt u0)
  obtain ⟨b, off⟩ := row_mid hP hP2 nb hM
  obtain ⟨o1, o2⟩ := (off.mono (show _ ≤ 9 * uu by grind)).re
  have p1 := Rat.mul_le_mul_of_nonneg_left re (show 0 ≤ P by grind)
  have p2 := Rat.mul_le_mul_of_nonneg_right hP2 (Rat.le_of_lt t0)
  obtain ⟨c1, c2⟩ := Ru.off uu_pos hA (V := 16) (by grind) (by grind)
  have b1 := b.re.1
  have b2 := b.re.2
  clear hM hA off b nb
  obtain ⟨w1, w2⟩ := Ru.off uu_pos hα (V := 17) (by grind) (by grind)
  clear hα
  constructor
  · grind
  · grind
theorem row_im {P S φ ψ M1 M2 β : Rat} (hP : 1 / 8 ≤ P) (hP2 : P ≤ 8) (hS : 1 / 1000000 ≤ S) (hS2 : S ≤ 101) (nb : Nb φ ψ (1 + 2 * uu)) (im : -tt ≤ ψ) (im2 : P * ψ ≤ 5)
    (hM : Er M1 M2 (-P * φ) (-P * ψ)) (hβ : Ro β (S - M2)) : 0 ≤ β ∧ β ≤ 110 := by
  have u0 := uu_pos
  have us := uu_small
  have ut := uu_tiny
  have t0 := tt_pos
  have p1 := Rat.mul_le_mul_of_nonneg_left im (show 0 ≤ P by grind)
  have p2 := Rat.mul_le_mul_of_nonneg_right hP2 (Rat.le_of_lt t0)
  obtain ⟨o1, o2⟩ := Ru.off uu_pos hM.im (V := 5) (by grind) (by grind)
  have m2u : M2 ≤ 1 / 2000000 := by
    rcases Rat.le_total (a := 0) (b := P * ψ) with h | h
    · obtain ⟨k1, k2⟩ := Ru.off uu_pos hM.im (V := P * ψ) (by grind) (by grind)
      have := Rat.mul_nonneg h (show 0 ≤ 1 - uu by grind)
      grind
    · obtain ⟨k1, k2⟩ := Ru.off uu_pos hM.im (V := 8 * tt) (by grind) (by grind)
      have := Rat.mul_nonneg (show 0 ≤ 8 * tt by grind) (show 0 ≤ 1 - uu by grind)
      grind
  obtain ⟨z1, z2⟩ := Ru.nonneg uu_pos hβ (by grind)
  have z3 := Rat.mul_nonneg (show 0 ≤ S - M2 by grind) (show 0 ≤ 1 / 1000 - uu by grind)
  clear hM hβ nb
  constructor
  · grind
  · grind
theorem row_off {P Q S φ ψ M1 M2 A0 α β : Rat} (hP : 1 / 8 ≤ P) (hP2 : P ≤ 8) (hQ : 0 ≤ Q) (hQ2 : Q ≤ 8) (nb : Nb φ ψ (1 + 2 * uu))
    (hM : Er M1 M2 (-P * φ) (-P * ψ)) (hA : Ro A0 (P + Q)) (hα : Ro α (A0 - M1)) (hβ : Ro β (S - M2)) {X Y B M : Rat} (hX : Nb X Y B) (hm : (X * X + Y * Y) * (α * α + β * β) ≤ M * M) (hM0 : 0 ≤ M) :
    Nb (X * (P + Q + P * φ - α) - Y * (S + P * ψ - β)) (X * (S + P * ψ - β) + Y * (P + Q + P * φ - α)) (26 * uu * B + ww * M) := by
  obtain ⟨_, off⟩ := row_mid hP hP2 nb hM
  obtain ⟨c1, c2⟩ := Ru.off uu_pos hA (V := 16) (by grind) (by grind)
  have sw : Eu ww (2 * tt) (A0 - M1) (S - M2) α β := ⟨Ro.swap hα, Ro.swap hβ⟩
  have n1 := sw.offm ww_pos hX hm hM0
  have n4 := hX.mul (off.sub (Nb.of (x := A0 - (P + Q)) (y := 0) (a := 16 * uu + tt) (b := 0) (by grind) (by grind) (by grind) (by grind)))
  have n5 := n4.add n1
  have q1 : X * (M1 - -P * φ - (A0 - (P + Q))) - Y * (M2 - -P * ψ - 0) + (X * (A0 - M1 - α) - Y * (S - M2 - β)) = X * (P + Q + P * φ - α) - Y * (S + P * ψ - β) := by clear n5 n4 n1 sw hM hA hα hβ hm; grind
  have q2 : X * (M2 - -P * ψ - 0) + Y * (M1 - -P * φ - (A0 - (P + Q))) + (X * (S - M2 - β) + Y * (A0 - M1 - α)) = X * (S + P * ψ - β) + Y * (P + Q + P * φ - α) := by clear n5 n4 n1 sw hM hA hα hβ hm; grind
  rw [q1, q2] at n5
  have q3 : (16 * uu + tt + 0 : Rat) = 16 * uu + tt := by grind
  rw [q3] at n5
  exact n5.mono (row_sum hX.1)
theorem row_gap {P Q φ α : Rat} {i : Nat} (hi : i ≤ 4) (hlo : P + P * φ - 51 * uu ≤ α - Q) (low : 1 ≤ (P + P * φ + 16 * uu) * ((13 + 9 * i : Nat) : Rat)) : 1 ≤ (α - Q) * ((5 + 9 * (i + 1) : Nat) : Rat) ∧ Q ≤ α := by
  have hc13 : (13 : Rat) ≤ ((13 + 9 * i : Nat) : Rat) := by exact_mod_cast (by omega : 13 ≤ 13 + 9 * i)
  have hc49 : ((13 + 9 * i : Nat) : Rat) ≤ 49 := by exact_mod_cast (by omega : 13 + 9 * i ≤ 49)
  have hg : 1 ≤ (α - Q) * (((13 + 9 * i : Nat) : Rat) + 1) := gap_next (Rat.le_trans low (Rat.mul_le_mul_of_nonneg_right (by grind) (by grind))) hc13 hc49
  have hcc : ((13 + 9 * i : Nat) : Rat) + 1 = ((5 + 9 * (i + 1) : Nat) : Rat) := by
    have : ((5 + 9 * (i + 1) : Nat) : Rat) = ((13 + 9 * i + 1 : Nat) : Rat) := by congr 1; omega
    rw [this, Rat.natCast_add (13 + 9 * i) 1]; rfl
  refine ⟨by rw [← hcc]; exact hg, ?_⟩
  rcases Rat.le_total (a := Q) (b := α) with hh | hh
  · exact hh
  · exfalso
    have := Rat.mul_nonneg (show 0 ≤ Q - α by grind) (show 0 ≤ ((13 + 9 * i : Nat) : Rat) + 1 by grind)
    grind
theorem Dv.next (h : SwH n p s) {i : Nat} (hi : i + 1 < n) (hD : Dv p s i) : Lk p s i ∧ Dv p s (i + 1) := by
  have F := hD.fq h hi
  obtain ⟨a0, a1, a2⟩ := h.pm i hi
  have fp : Fw (p (i + 1)) 8 := ⟨⟨a0, by grind, a2⟩, by decide⟩
  obtain ⟨b0, b1, b2⟩ := h.ps (i := i + 1) (by omega)
  have fq : Fw (p (i + 2)) 8 := ⟨⟨b0, by grind, b2⟩, by decide⟩
  obtain ⟨c0, c1, c2⟩ := h.sw (i + 1) (by omega)
  have fs : Fw (s (i + 1)) 101 := ⟨⟨c0, by grind, c2⟩, by decide⟩
  obtain ⟨m1, ⟨m2, m3⟩, m4⟩ := cm_ok F.a F.b fp.neg zero_fw
  rw [fv_neg fp, zero_fv] at m4
  obtain ⟨s1, s2⟩ := cs_ok .add (.inl rfl) fp fq
  simp only [ex] at s2
  have e1 : fv .f32 (fA p s i) * -fv .f32 (p (i + 1)) - fv .f32 (fB p s i) * 0 = -fv .f32 (p (i + 1)) * fv .f32 (fA p s i) := by grind
  have e2 : fv .f32 (fA p s i) * 0 + fv .f32 (fB p s i) * -fv .f32 (p (i + 1)) = -fv .f32 (p (i + 1)) * fv .f32 (fB p s i) := by grind
  rw [e1, e2] at m4
  obtain ⟨bd, off⟩ := row_mid a1 a2 F.nb m4
  have fm1 : Fw (narrow (t1W (fA p s i) (fB p s i) (fneg .f32 (p (i + 1))) 0)) 9 := ⟨⟨m2, by have := bd.re.2; grind, bd.re.1⟩, by decide⟩
  have fm2 : Fw (narrow (t2W (fA p s i) (fB p s i) (fneg .f32 (p (i + 1))) 0)) 9 := ⟨⟨m3, by have := bd.im.2; grind, bd.im.1⟩, by decide⟩
  have us := uu_small
  have ut := uu_tiny
  have t0 := tt_pos
  obtain ⟨sb1, sb2⟩ := Ru.off uu_pos s2 (V := 16) (by grind) (by grind)
  have fa : Fw (fop .add .f32 (p (i + 1)) (p (i + 2))) 17 := ⟨⟨s1, by grind, by grind⟩, by decide⟩
  obtain ⟨d1, d2⟩ := cs_ok .sub (.inr rfl) fa fm1
  obtain ⟨d3, d4⟩ := cs_ok .sub (.inr rfl) fs fm2
  simp only [ex] at d2 d4
  have d1 : fnt .f32 (dW p s (i + 1)).1 = true := d1
  have d3 : fnt .f32 (dW p s (i + 1)).2 = true := d3
  have d2 : Ro (fv .f32 (dW p s (i + 1)).1) _ := d2
  have d4 : Ro (fv .f32 (dW p s (i + 1)).2) _ := d4
  obtain ⟨l1, l2⟩ := row_low (S := 0) (β := 0) a1 a2 b1 b2 F.nb F.re m4 s2 d2
  obtain ⟨j1, j2⟩ := row_im a1 a2 c1 c2 F.nb F.im.1 F.im.2 m4 d4
  obtain ⟨g1, g2⟩ := row_gap (by have := h.n6; omega) l1 F.low
  have b1' : 0 ≤ fv .f32 (p (i + 2)) := b1
  refine ⟨⟨m1, ⟨m2, m3⟩, fun X Y B M hX hM hM0 => row_off a1 a2 b1 b2 F.nb m4 s2 d2 d4 hX hM hM0⟩, ⟨⟨d1, by grind, l2⟩, by decide⟩, ⟨⟨d3, by grind, j2⟩, by decide⟩, g2, g1, j1⟩
theorem SwH.dv (h : SwH n p s) : ∀ i, i < n → Dv p s i
  | 0, _ => h.dv0
  | i + 1, hi => ((h.dv i (by omega)).next h hi).2
theorem SwH.lk (h : SwH n p s) {i : Nat} (hi : i + 1 < n) : Lk p s i := ((h.dv i (by omega)).next h hi).1
theorem SwH.fq (h : SwH n p s) {i : Nat} (hi : i + 1 < n) : Fv p s i := (h.dv i (by omega)).fq h hi
/-! ### Right sides -/
structure Rv (p s : Nat → Nat) (i : Nat) : Prop where
  a : Fw (rW p s i).1 17
  b : Fw (rW p s i).2 17
  nb : Nb (fv .f32 (rW p s i).1) (fv .f32 (rW p s i).2) ((160 + i : Nat) / 10)
structure Rl (p s : Nat → Nat) (i : Nat) : Prop where
  fit : fits (t1W (fA p s i) (fB p s i) (rW p s i).1 (rW p s i).2) = true ∧ fits (t2W (fA p s i) (fB p s i) (rW p s i).1 (rW p s i).2) = true
  fin : fnt .f32 (narrow (t1W (fA p s i) (fB p s i) (rW p s i).1 (rW p s i).2)) = true ∧ fnt .f32 (narrow (t2W (fA p s i) (fB p s i) (rW p s i).1 (rW p s i).2)) = true
  off : Nb (fv .f32 (rW p s (i + 1)).1 + (fv .f32 (fA p s i) * fv .f32 (rW p s i).1 - fv .f32 (fB p s i) * fv .f32 (rW p s i).2)) (fv .f32 (rW p s (i + 1)).2 + (fv .f32 (fA p s i) * fv .f32 (rW p s i).2 + fv .f32 (fB p s i) * fv .f32 (rW p s i).1)) (18 * uu)
/-- Nothing less a number. -/
theorem zero_sub {x : Nat} {M : Rat} (hx : Fw x M) : fnt .f32 (fop .sub .f32 0 x) = true ∧ fv .f32 (fop .sub .f32 0 x) = -fv .f32 x := by
  obtain ⟨⟨x0, x1, x2⟩, xm⟩ := hx
  obtain ⟨n0, n1⟩ := fneg_val x0
  obtain ⟨g1, g2⟩ := fop_rnd .sub rfl .f32 zero_fw.1.1 x0 (by simp) 40 (by decide) (by simp only [ex]; rw [zero_fv, t40]; grind) (by simp only [ex]; rw [zero_fv, t40]; grind)
  simp only [ex] at g2
  rw [zero_fv] at g2
  refine ⟨g1, ?_⟩
  rw [← n1]
  exact rnd_eq_wd n0 g2 (by rw [n1]; grind)
theorem Rv.nb17 {i : Nat} (h : Rv p s i) (hi : i < 6) : Nb (fv .f32 (rW p s i).1) (fv .f32 (rW p s i).2) 17 := h.nb.mono (by
  have : ((160 + i : Nat) : Rat) ≤ 170 := by exact_mod_cast (by omega : 160 + i ≤ 170)
  grind)
theorem SwH.rv0 (h : SwH n p s) : Rv p s 0 := by
  obtain ⟨a0, a1, a2⟩ := h.p0
  refine ⟨⟨⟨a0, by show -17 ≤ fv .f32 (p 0); grind, by show fv .f32 (p 0) ≤ 17; grind⟩, by decide⟩, ⟨⟨zero_fw.1.1, by show -17 ≤ fv .f32 0; rw [zero_fv]; decide, by show fv .f32 0 ≤ 17; rw [zero_fv]; decide⟩, by decide⟩, ?_⟩
  show Nb (fv .f32 (p 0)) (fv .f32 0) _
  rw [zero_fv]
  have e : ((160 + 0 : Nat) : Rat) / 10 = 16 + 0 := by
    have : ((160 + 0 : Nat) : Rat) = 160 := rfl
    rw [this]; grind
  rw [e]
  exact Nb.of a2 (by grind) Rat.le_refl (by grind)
theorem right_bd {i : Nat} (hi : i < 6) : (1 + 2 * uu) * (((160 + i : Nat) : Rat) / 10) + (uu * ((1 + 2 * uu) * (((160 + i : Nat) : Rat) / 10)) + 2 * tt) ≤ ((160 + (i + 1) : Nat) : Rat) / 10 ∧ uu * ((1 + 2 * uu) * (((160 + i : Nat) : Rat) / 10)) + 2 * tt ≤ 18 * uu ∧ ((160 + (i + 1) : Nat) : Rat) / 10 ≤ 17 := by
  have h1 : ((160 + (i + 1) : Nat) : Rat) = ((160 + i : Nat) : Rat) + 1 := by
    rw [show 160 + (i + 1) = 160 + i + 1 by omega, Rat.natCast_add (160 + i) 1]; rfl
  have h2 : ((160 + i : Nat) : Rat) ≤ 165 := by exact_mod_cast (by omega : 160 + i ≤ 165)
  have h3 : (0 : Rat) ≤ ((160 + i : Nat) : Rat) := by exact_mod_cast Nat.zero_le _
  rw [h1]
  generalize ((160 + i : Nat) : Rat) = c at *
  have u0 := uu_pos
  have us := uu_small
  have ut := uu_tiny
  have t0 := tt_pos
  have k1 := Rat.mul_le_mul_of_nonneg_left h2 (Rat.le_of_lt u0)
  have k2 := Rat.mul_nonneg (Rat.le_of_lt u0) h3
  have k3 := Rat.mul_le_mul_of_nonneg_left k1 (Rat.le_of_lt u0)
  have uu2 := fin_bd (show uu ≤ 1 / 10000000 by grind) (Rat.le_of_lt u0)
  exact ⟨by grind, by grind, by grind⟩
theorem Rv.next (h : SwH n p s) {i : Nat} (hi : i + 1 < n) (hR : Rv p s i) : Rl p s i ∧ Rv p s (i + 1) := by
  have F := h.fq hi
  obtain ⟨m1, ⟨m2, m3⟩, m4⟩ := cm_ok F.a F.b hR.a hR.b
  have nb := F.nb.mul hR.nb
  obtain ⟨r1, r2, r3⟩ := right_bd (i := i) (by have := h.n6; omega)
  have bd := m4.bd uu_pos nb
  have off := m4.off uu_pos nb
  have bd17 := (bd.mono r1).mono r3
  have f1 : Fw (narrow (t1W (fA p s i) (fB p s i) (rW p s i).1 (rW p s i).2)) 17 := ⟨⟨m2, by have := bd17.re.2; grind, bd17.re.1⟩, by decide⟩
  have f2 : Fw (narrow (t2W (fA p s i) (fB p s i) (rW p s i).1 (rW p s i).2)) 17 := ⟨⟨m3, by have := bd17.im.2; grind, bd17.im.1⟩, by decide⟩
  obtain ⟨z1, z2⟩ := zero_sub f1
  obtain ⟨z3, z4⟩ := zero_sub f2
  have z1 : fnt .f32 (rW p s (i + 1)).1 = true := z1
  have z2 : fv .f32 (rW p s (i + 1)).1 = _ := z2
  have z3 : fnt .f32 (rW p s (i + 1)).2 = true := z3
  have z4 : fv .f32 (rW p s (i + 1)).2 = _ := z4
  refine ⟨⟨m1, ⟨m2, m3⟩, ?_⟩, ⟨⟨z1, by rw [z2]; have := f1.1.2.2; grind, by rw [z2]; have := f1.1.2.1; grind⟩, by decide⟩, ⟨⟨z3, by rw [z4]; have := f2.1.2.2; grind, by rw [z4]; have := f2.1.2.1; grind⟩, by decide⟩, ?_⟩
  · rw [z2, z4]
    have := (off.mono r2).neg
    have e1 : ∀ a b : Rat, -(a - b) = -a + b := fun a b => by grind
    rw [e1, e1] at this
    exact this
  · rw [z2, z4]
    exact (bd.mono r1).neg
theorem SwH.rv (h : SwH n p s) : ∀ i, i < n → Rv p s i
  | 0, _ => h.rv0
  | i + 1, hi => ((h.rv i (by omega)).next h hi).2
theorem SwH.rl (h : SwH n p s) {i : Nat} (hi : i + 1 < n) : Rl p s i := ((h.rv i (by omega)).next h hi).1
end Go.Proofs.Ytpnkapdemgieaaa
set_option linter.unusedSimpArgs false
set_option linter.unusedVariables false
set_option linter.unusedSectionVars false
namespace Go.Proofs.Ytpnkapdemgieaaa
open Go Go.RowKit
variable {n : Nat} {p s : Nat → Nat}
/-- A quotient of complex numbers, in exact numbers. -/
theorem quo_exact {a b x y N A B M : Rat} (hN : N = x * x + y * y) (N0 : 0 < N) (hA : A * N = a * x + b * y) (hB : B * N = b * x - a * y) (hM : Nb a b M) : x * A - y * B = a ∧ x * B + y * A = b ∧ (x * x + y * y) * (A * A + B * B) ≤ M * M := by
  refine ⟨?_, ?_, ?_⟩
  · have h1 : (x * A - y * B - a) * N = 0 := by
      have : (x * A - y * B - a) * N = x * (A * N) - y * (B * N) - a * N := by grind
      rw [this, hA, hB, hN]; grind
    have := (Rat.mul_eq_zero.1 h1).resolve_right (by grind)
    grind
  · have h1 : (x * B + y * A - b) * N = 0 := by
      have : (x * B + y * A - b) * N = x * (B * N) + y * (A * N) - b * N := by grind
      rw [this, hA, hB, hN]; grind
    have := (Rat.mul_eq_zero.1 h1).resolve_right (by grind)
    grind
  · rw [← hN]
    refine mul_cancel_le N0 ?_
    have e : N * (A * A + B * B) * N = (A * N) * (A * N) + (B * N) * (B * N) := by grind
    have e5 : (a * a + b * b) * N = (a * x + b * y) * (a * x + b * y) + (b * x - a * y) * (b * x - a * y) := by rw [hN]; grind
    rw [e, hA, hB, ← e5]
    exact Rat.mul_le_mul_of_nonneg_right hM.2 (Rat.le_of_lt N0)
theorem quo_small {x y A B M : Rat} (hx : 0 < x) (h : (x * x + y * y) * (A * A + B * B) ≤ M * M) (hM : M ≤ (9999 / 10) * x) (hM0 : 0 ≤ M) : Nb A B (9999 / 10) := by
  refine ⟨by decide +kernel, ?_⟩
  have x2 := Rat.mul_pos hx hx
  refine mul_cancel_le x2 ?_
  have y2 := sq_nonneg y
  have ab : 0 ≤ A * A + B * B := by have := sq_nonneg A; have := sq_nonneg B; grind
  have k1 := Rat.mul_nonneg y2 ab
  have k2 := sq_le_of (x := M) (M := (9999 / 10) * x) hM (by grind)
  grind
/-- A row's answer. -/
theorem Dv.answer {i : Nat} (hD : Dv p s i) {a b : Nat} {K M : Rat} (ha : Fw a K) (hb : Fw b K) (hM : Nb (fv .f32 a) (fv .f32 b) M) (hl : 1 / 1024 ≤ fv .f32 (dW p s i).1) (hMx : M ≤ (9999 / 10) * fv .f32 (dW p s i).1) :
    (fits (qaW a b (dW p s i).1 (dW p s i).2) = true ∧ fits (qbW a b (dW p s i).1 (dW p s i).2) = true) ∧ (Fw (quW (a, b) (dW p s i)).1 1000 ∧ Fw (quW (a, b) (dW p s i)).2 1000 ∧ Nb (fv .f32 (quW (a, b) (dW p s i)).1) (fv .f32 (quW (a, b) (dW p s i)).2) 1000) ∧
    Nb (fv .f32 (dW p s i).1 * fv .f32 (quW (a, b) (dW p s i)).1 - fv .f32 (dW p s i).2 * fv .f32 (quW (a, b) (dW p s i)).2 - fv .f32 a) (fv .f32 (dW p s i).1 * fv .f32 (quW (a, b) (dW p s i)).2 + fv .f32 (dW p s i).2 * fv .f32 (quW (a, b) (dW p s i)).1 - fv .f32 b) (uu * M + 2 * ((25 + 110) * tt)) := by
  obtain ⟨q1, ⟨q2, q3⟩, q4⟩ := cq_ok ha hb hD.a hD.b hl
  have q2 : fnt .f32 (quW (a, b) (dW p s i)).1 = true := q2
  have q3 : fnt .f32 (quW (a, b) (dW p s i)).2 = true := q3
  have q4 : Er (fv .f32 (quW (a, b) (dW p s i)).1) (fv .f32 (quW (a, b) (dW p s i)).2) _ _ := q4
  have hK := Nb.of hD.a.1.2.2 (show -fv .f32 (dW p s i).1 ≤ 25 by have := hD.a.1.2.1; grind) hD.b.1.2.2 (show -fv .f32 (dW p s i).2 ≤ 110 by have := hD.b.1.2.1; grind)
  generalize hX : fv .f32 (quW (a, b) (dW p s i)).1 = X at *
  generalize hY : fv .f32 (quW (a, b) (dW p s i)).2 = Y at *
  generalize fv .f32 (dW p s i).1 = x at *
  generalize fv .f32 (dW p s i).2 = y at *
  generalize fv .f32 a = u at *
  generalize fv .f32 b = v at *
  have x0 : 0 < x := by grind
  obtain ⟨N, hN⟩ : ∃ N, N = x * x + y * y := ⟨_, rfl⟩
  have N0 : 0 < N := by have := Rat.mul_pos x0 x0; have := sq_nonneg y; grind
  rw [← hN] at q4
  obtain ⟨A, hA⟩ : ∃ A, A = (u * x + v * y) / N := ⟨_, rfl⟩
  obtain ⟨B, hB⟩ : ∃ B, B = (v * x - u * y) / N := ⟨_, rfl⟩
  rw [← hA, ← hB] at q4
  have eA : A * N = u * x + v * y := by rw [hA, Rat.div_mul_cancel (by grind)]
  have eB : B * N = v * x - u * y := by rw [hB, Rat.div_mul_cancel (by grind)]
  obtain ⟨z1, z2, z3⟩ := quo_exact hN N0 eA eB hM
  have sm := quo_small x0 z3 hMx hM.1
  have bd := q4.bd uu_pos sm
  have u0 := uu_pos
  have us := uu_small
  have ut := uu_tiny
  have t0 := tt_pos
  have bd := bd.mono (show _ ≤ (1000 : Rat) by grind)
  have om := q4.offm uu_pos hK z3 hM.1
  have e1 : x * (X - A) - y * (Y - B) = x * X - y * Y - u := by clear hA hB eA eB q4 z3 om; grind
  have e2 : x * (Y - B) + y * (X - A) = x * Y + y * X - v := by clear hA hB eA eB q4 z3 om; grind
  rw [e1, e2] at om
  exact ⟨q1, ⟨⟨⟨q2, by rw [hX]; have := bd.re.2; grind, by rw [hX]; exact bd.re.1⟩, by decide⟩, ⟨⟨q3, by rw [hY]; have := bd.im.2; grind, by rw [hY]; exact bd.im.1⟩, by decide⟩, bd⟩, om⟩
theorem side_err {Q B : Rat} (a1 : 0 ≤ Q) (a2 : Q ≤ 8) (B0 : 0 ≤ B) : uu * (17 + (Q * B + (uu * (Q * B) + 2 * tt))) + 2 * tt + (uu * (Q * B) + 2 * tt) ≤ uu * (18 + 17 * B) := by
  have u0 := uu_pos
  have us := uu_small
  have ut := uu_tiny
  have t0 := tt_pos
  have pB := Rat.mul_le_mul_of_nonneg_right a2 B0
  have pB0 := Rat.mul_nonneg a1 B0
  have upB := Rat.mul_le_mul_of_nonneg_left pB (Rat.le_of_lt u0)
  have uB := Rat.mul_nonneg (Rat.le_of_lt u0) B0
  have upB0 := Rat.mul_nonneg (Rat.le_of_lt u0) pB0
  have k1 := Rat.mul_le_mul_of_nonneg_right (show uu ≤ 1 / 10000000 by grind) upB0
  have k2 := Rat.mul_le_mul_of_nonneg_right (show uu ≤ 1 / 10000000 by grind) (Rat.le_of_lt t0)
  generalize Q * B = QB at *
  grind
/-- What a row's answer is made of: a side less a product. -/
theorem SwH.side (h : SwH n p s) {i : Nat} (hi : i < n) {o : Nat × Nat} {B : Rat} (o1 : Fw o.1 1000) (o2 : Fw o.2 1000) (hB : Nb (fv .f32 o.1) (fv .f32 o.2) B) (hB1 : B ≤ 1000) :
    (fits (t1W (fneg .f32 (p (i + 1))) 0 o.1 o.2) = true ∧ fits (t2W (fneg .f32 (p (i + 1))) 0 o.1 o.2) = true) ∧ (fnt .f32 (narrow (t1W (fneg .f32 (p (i + 1))) 0 o.1 o.2)) = true ∧ fnt .f32 (narrow (t2W (fneg .f32 (p (i + 1))) 0 o.1 o.2)) = true) ∧ (Fw (sdW p (rW p s i) i o).1 9000 ∧ Fw (sdW p (rW p s i) i o).2 9000) ∧
    Nb (fv .f32 (sdW p (rW p s i) i o).1) (fv .f32 (sdW p (rW p s i) i o).2) (17 + fv .f32 (p (i + 1)) * B + uu * (18 + 17 * B)) ∧
    Nb (fv .f32 (sdW p (rW p s i) i o).1 - fv .f32 (rW p s i).1 - fv .f32 (p (i + 1)) * fv .f32 o.1) (fv .f32 (sdW p (rW p s i) i o).2 - fv .f32 (rW p s i).2 - fv .f32 (p (i + 1)) * fv .f32 o.2) (uu * (18 + 17 * B)) := by
  obtain ⟨a0, a1, a2⟩ := h.ps hi
  have fp : Fw (p (i + 1)) 8 := ⟨⟨a0, by grind, a2⟩, by decide⟩
  have hR := h.rv i hi
  have hR17 := hR.nb17 (by have := h.n6; omega)
  obtain ⟨m1, ⟨m2, m3⟩, m4⟩ := cm_ok fp.neg zero_fw o1 o2
  rw [fv_neg fp, zero_fv] at m4
  have e1 : -fv .f32 (p (i + 1)) * fv .f32 o.1 - 0 * fv .f32 o.2 = -fv .f32 (p (i + 1)) * fv .f32 o.1 := by grind
  have e2 : -fv .f32 (p (i + 1)) * fv .f32 o.2 + 0 * fv .f32 o.1 = -fv .f32 (p (i + 1)) * fv .f32 o.2 := by grind
  rw [e1, e2] at m4
  have nb := hB.scale (c := -fv .f32 (p (i + 1))) (K := fv .f32 (p (i + 1))) (by grind) (by grind)
  have bd := m4.bd uu_pos nb
  have off := m4.off uu_pos nb
  have u0 := uu_pos
  have us := uu_small
  have ut := uu_tiny
  have t0 := tt_pos
  have B0 := hB.1
  have pB := Rat.mul_le_mul_of_nonneg_right a2 B0
  have pB0 := Rat.mul_nonneg a1 B0
  have upB := Rat.mul_le_mul_of_nonneg_left pB (Rat.le_of_lt u0)
  have uB := Rat.mul_nonneg (Rat.le_of_lt u0) B0
  have uB1 := Rat.mul_le_mul_of_nonneg_left hB1 (Rat.le_of_lt u0)
  have uuB := Rat.mul_le_mul_of_nonneg_right (show uu ≤ 1 / 10000000 by grind) uB
  have upB0 := Rat.mul_nonneg (Rat.le_of_lt u0) pB0
  have bd9 := bd.mono (show _ ≤ (8001 : Rat) by grind)
  have f1 : Fw (narrow (t1W (fneg .f32 (p (i + 1))) 0 o.1 o.2)) 8001 := ⟨⟨m2, by have := bd9.re.2; grind, bd9.re.1⟩, by decide⟩
  have f2 : Fw (narrow (t2W (fneg .f32 (p (i + 1))) 0 o.1 o.2)) 8001 := ⟨⟨m3, by have := bd9.im.2; grind, bd9.im.1⟩, by decide⟩
  obtain ⟨d1, d2⟩ := cs_ok .sub (.inr rfl) hR.a f1
  obtain ⟨d3, d4⟩ := cs_ok .sub (.inr rfl) hR.b f2
  simp only [ex] at d2 d4
  have d1 : fnt .f32 (sdW p (rW p s i) i o).1 = true := d1
  have d3 : fnt .f32 (sdW p (rW p s i) i o).2 = true := d3
  have sub : Er (fv .f32 (sdW p (rW p s i) i o).1) (fv .f32 (sdW p (rW p s i) i o).2) _ _ := ⟨d2, d4⟩
  have nS := hR17.sub bd
  have oS := sub.off uu_pos nS
  have tot := oS.sub off
  have bS := (hR17.sub nb).add tot
  generalize hX : fv .f32 (sdW p (rW p s i) i o).1 = X at *
  generalize hY : fv .f32 (sdW p (rW p s i) i o).2 = Y at *
  generalize fv .f32 (narrow (t1W (fneg .f32 (p (i + 1))) 0 o.1 o.2)) = L1 at *
  generalize fv .f32 (narrow (t2W (fneg .f32 (p (i + 1))) 0 o.1 o.2)) = L2 at *
  have hp : fv .f32 (p (i + 1)) = fv .f32 (p (i + 1)) := rfl
  generalize fv .f32 (p (i + 1)) = Q at *
  generalize hR1 : fv .f32 (rW p s i).1 = R1 at *
  generalize hR2 : fv .f32 (rW p s i).2 = R2 at *
  generalize fv .f32 o.1 = U at *
  generalize fv .f32 o.2 = W at *
  have t1 : X - (R1 - L1) - (L1 - -Q * U) = X - R1 - Q * U := by clear sub d2 d4 m4; grind
  have t2 : Y - (R2 - L2) - (L2 - -Q * W) = Y - R2 - Q * W := by clear sub d2 d4 m4; grind
  have t3 : R1 - -Q * U + (X - (R1 - L1) - (L1 - -Q * U)) = X := by clear sub d2 d4 m4; grind
  have t4 : R2 - -Q * W + (Y - (R2 - L2) - (L2 - -Q * W)) = Y := by clear sub d2 d4 m4; grind
  rw [t3, t4] at bS
  rw [t1, t2] at tot
  have err := side_err a1 a2 B0
  have bS := bS.mono (show _ ≤ 17 + Q * B + uu * (18 + 17 * B) by clear sub d2 d4 m4 tot; grind)
  have tot := tot.mono err
  have b9 := bS.mono (show _ ≤ (9000 : Rat) by clear sub d2 d4 m4 tot; grind)
  exact ⟨m1, ⟨m2, m3⟩, ⟨⟨⟨d1, by rw [hX]; have := b9.re.2; grind, by rw [hX]; exact b9.re.1⟩, by decide⟩, ⟨⟨d3, by rw [hY]; have := b9.im.2; grind, by rw [hY]; exact b9.im.1⟩, by decide⟩⟩, bS, tot⟩
theorem Dv.far (h : SwH n p s) {i : Nat} (hi : i < n) (hD : Dv p s i) : fv .f32 (p (i + 1)) + 1 / 50 ≤ fv .f32 (dW p s i).1 := by
  have hc : ((5 + 9 * i : Nat) : Rat) ≤ 50 := by have := h.n6; exact_mod_cast (by omega : 5 + 9 * i ≤ 50)
  have g := hD.gap
  have l := hD.lo
  have := Rat.mul_le_mul_of_nonneg_left hc (show 0 ≤ fv .f32 (dW p s i).1 - fv .f32 (p (i + 1)) by grind)
  grind
/-- An answer, and how well its row is fulfilled. -/
structure Bk (n : Nat) (p s : Nat → Nat) (i : Nat) : Prop where
  a : Fw (oW p s n i).1 1000
  b : Fw (oW p s n i).2 1000
  nb : Nb (fv .f32 (oW p s n i).1) (fv .f32 (oW p s n i).2) 1000
  last : i + 1 = n → fits (qaW (rW p s i).1 (rW p s i).2 (dW p s i).1 (dW p s i).2) = true ∧ fits (qbW (rW p s i).1 (rW p s i).2 (dW p s i).1 (dW p s i).2) = true
  next : i + 1 < n → (fits (t1W (fneg .f32 (p (i + 1))) 0 (oW p s n (i + 1)).1 (oW p s n (i + 1)).2) = true ∧ fits (t2W (fneg .f32 (p (i + 1))) 0 (oW p s n (i + 1)).1 (oW p s n (i + 1)).2) = true) ∧ (fnt .f32 (narrow (t1W (fneg .f32 (p (i + 1))) 0 (oW p s n (i + 1)).1 (oW p s n (i + 1)).2)) = true ∧ fnt .f32 (narrow (t2W (fneg .f32 (p (i + 1))) 0 (oW p s n (i + 1)).1 (oW p s n (i + 1)).2)) = true) ∧
    (fnt .f32 (sdW p (rW p s i) i (oW p s n (i + 1))).1 = true ∧ fnt .f32 (sdW p (rW p s i) i (oW p s n (i + 1))).2 = true) ∧ fits (qaW (sdW p (rW p s i) i (oW p s n (i + 1))).1 (sdW p (rW p s i) i (oW p s n (i + 1))).2 (dW p s i).1 (dW p s i).2) = true ∧ fits (qbW (sdW p (rW p s i) i (oW p s n (i + 1))).1 (sdW p (rW p s i) i (oW p s n (i + 1))).2 (dW p s i).1 (dW p s i).2) = true
  row : ∀ B : Rat, 0 ≤ B → B ≤ 1000 → (i + 1 < n → Nb (fv .f32 (oW p s n (i + 1)).1) (fv .f32 (oW p s n (i + 1)).2) B) →
    Nb (fv .f32 (dW p s i).1 * fv .f32 (oW p s n i).1 - fv .f32 (dW p s i).2 * fv .f32 (oW p s n i).2 - fv .f32 (rW p s i).1 - fv .f32 (p (i + 1)) * fv .f32 (oW p s n (i + 1)).1)
      (fv .f32 (dW p s i).1 * fv .f32 (oW p s n i).2 + fv .f32 (dW p s i).2 * fv .f32 (oW p s n i).1 - fv .f32 (rW p s i).2 - fv .f32 (p (i + 1)) * fv .f32 (oW p s n (i + 1)).2) (uu * (37 + 27 * B)) ∧
    (fv .f32 (oW p s n i).1 * fv .f32 (oW p s n i).1 + fv .f32 (oW p s n i).2 * fv .f32 (oW p s n i).2) * (fv .f32 (dW p s i).1 * fv .f32 (dW p s i).1 + fv .f32 (dW p s i).2 * fv .f32 (dW p s i).2) ≤ (18 + 9 * B) * (18 + 9 * B)
theorem far_ok {Q B x : Rat} (a1 : 0 ≤ Q) (a2 : Q ≤ 8) (B0 : 0 ≤ B) (B1 : B ≤ 1000) (hx : Q + 1 / 50 ≤ x) : 17 + Q * B + uu * (18 + 17 * B) ≤ (9999 / 10) * x := by
  have u0 := uu_pos
  have us := uu_small
  have k1 := Rat.mul_le_mul_of_nonneg_left B1 a1
  have k2 := Rat.mul_le_mul_of_nonneg_left B1 (Rat.le_of_lt u0)
  grind
theorem tot_err {Q B : Rat} (a1 : 0 ≤ Q) (a2 : Q ≤ 8) (B0 : 0 ≤ B) : uu * (17 + Q * B + uu * (18 + 17 * B)) + 2 * ((25 + 110) * tt) + uu * (18 + 17 * B) ≤ uu * (37 + 27 * B) ∧ 17 + Q * B + uu * (18 + 17 * B) + (uu * (17 + Q * B + uu * (18 + 17 * B)) + 2 * ((25 + 110) * tt)) ≤ 18 + 9 * B := by
  have u0 := uu_pos
  have us := uu_small
  have ut := uu_tiny
  have t0 := tt_pos
  have pB := Rat.mul_le_mul_of_nonneg_right a2 B0
  have upB := Rat.mul_le_mul_of_nonneg_left pB (Rat.le_of_lt u0)
  have uB := Rat.mul_nonneg (Rat.le_of_lt u0) B0
  have k1 := Rat.mul_le_mul_of_nonneg_right (show uu ≤ 1 / 10000000 by grind) uB
  have k2 := Rat.mul_le_mul_of_nonneg_right (show uu ≤ 1 / 10000000 by grind) (Rat.le_of_lt u0)
  have k3 := Rat.mul_le_mul_of_nonneg_right (show uu ≤ 1 / 10000000 by grind) B0
  generalize Q * B = QB at *
  constructor <;> grind
/-- The answer's row, from its parts. -/
theorem row_join {x y X Y R1 R2 QU QW S1 S2 M e f K : Rat} (hS : Nb S1 S2 M) (h1 : Nb (x * X - y * Y - S1) (x * Y + y * X - S2) e) (h2 : Nb (S1 - R1 - QU) (S2 - R2 - QW) f) (hK : M + e ≤ K) : Nb (x * X - y * Y - R1 - QU) (x * Y + y * X - R2 - QW) (e + f) ∧ (X * X + Y * Y) * (x * x + y * y) ≤ K * K := by
  constructor
  · have := h1.add h2
    have e1 : x * X - y * Y - S1 + (S1 - R1 - QU) = x * X - y * Y - R1 - QU := by grind
    have e2 : x * Y + y * X - S2 + (S2 - R2 - QW) = x * Y + y * X - R2 - QW := by grind
    rwa [e1, e2] at this
  · have := (hS.add h1).mono hK
    have e1 : S1 + (x * X - y * Y - S1) = x * X - y * Y := by grind
    have e2 : S2 + (x * Y + y * X - S2) = x * Y + y * X := by grind
    rw [e1, e2] at this
    have := this.2
    grind
theorem SwH.bklast (h : SwH n p s) {i : Nat} (hi : i + 1 = n) : Bk n p s i := by
  have hD := h.dv i (by omega)
  have hR := h.rv i (by omega)
  have hR17 := hR.nb17 (by have := h.n6; omega)
  have hQ : fv .f32 (p (i + 1)) = 0 := by
    obtain ⟨a, b, c⟩ := h.pl
    rw [← hi] at b c
    grind
  have far := hD.far h (by omega)
  rw [hQ] at far
  have ho := oW_last p s n hi
  obtain ⟨q1, ⟨q2, q3, q4⟩, q5⟩ := hD.answer hR.a hR.b hR17 (by grind) (by grind)
  have e9 : ((rW p s i).1, (rW p s i).2) = rW p s i := rfl
  rw [e9, ← ho] at q2 q3 q4 q5
  refine ⟨q2, q3, q4, fun _ => q1, fun hh => by omega, fun B B0 B1 _ => ?_⟩
  obtain ⟨t1, t2⟩ := tot_err (Q := 0) (B := B) (by decide) (by decide) B0
  have u0 := uu_pos
  have uB := Rat.mul_nonneg (Rat.le_of_lt u0) B0
  rw [hQ]
  have z := row_join (QU := 0 * fv .f32 (oW p s n (i + 1)).1) (QW := 0 * fv .f32 (oW p s n (i + 1)).2) hR17 q5 (f := 0) (R1 := fv .f32 (rW p s i).1) (R2 := fv .f32 (rW p s i).2) (by
    have e1 : ∀ a b : Rat, a - a - 0 * b = 0 := fun a b => by grind
    rw [e1, e1]; exact Nb.zero) (K := 18 + 9 * B) (by have := Rat.mul_nonneg (Rat.le_of_lt u0) (show 0 ≤ uu * (18 + 17 * B) by grind); grind)
  refine ⟨z.1.mono ?_, z.2⟩
  have := Rat.mul_nonneg (Rat.le_of_lt u0) (show 0 ≤ uu * (18 + 17 * B) by grind)
  grind
theorem SwH.bknext (h : SwH n p s) {i : Nat} (hi : i + 1 < n) (hB : Bk n p s (i + 1)) : Bk n p s i := by
  have hD := h.dv i (by omega)
  obtain ⟨a0, a1, a2⟩ := h.ps (i := i) (by omega)
  have far := hD.far h (by omega)
  have ho := oW_next p s n hi
  have gen : ∀ B : Rat, 0 ≤ B → B ≤ 1000 → Nb (fv .f32 (oW p s n (i + 1)).1) (fv .f32 (oW p s n (i + 1)).2) B → _ := fun B B0 B1 hb => h.side (i := i) (by omega) hB.a hB.b hb B1
  obtain ⟨s1, s2, ⟨s3, s3'⟩, s4, s5⟩ := gen 1000 (by decide) (by decide) hB.nb
  obtain ⟨q1, ⟨q2, q3, q4⟩, q5⟩ := hD.answer s3 s3' s4 (by grind) (far_ok a1 a2 (by decide) (by decide) far)
  have e9 : ((sdW p (rW p s i) i (oW p s n (i + 1))).1, (sdW p (rW p s i) i (oW p s n (i + 1))).2) = sdW p (rW p s i) i (oW p s n (i + 1)) := rfl
  rw [e9, ← ho] at q2 q3 q4
  refine ⟨q2, q3, q4, fun hh => by omega, fun _ => ⟨s1, s2, ⟨s3.1.1, s3'.1.1⟩, q1⟩, fun B B0 B1 hb => ?_⟩
  obtain ⟨s1, s2, ⟨s3, s3'⟩, s4, s5⟩ := gen B B0 B1 (hb hi)
  obtain ⟨q1, _, q5⟩ := hD.answer s3 s3' s4 (by grind) (far_ok a1 a2 B0 B1 far)
  rw [e9, ← ho] at q5
  obtain ⟨t1, t2⟩ := tot_err a1 a2 B0
  obtain ⟨z1, z2⟩ := row_join s4 q5 s5 t2
  exact ⟨z1.mono t1, z2⟩
theorem SwH.bk' (h : SwH n p s) : ∀ k i, i + 1 + k = n → Bk n p s i
  | 0, i, hi => h.bklast (by omega)
  | k + 1, i, hi => h.bknext (by omega) (h.bk' k (i + 1) (by omega))
theorem SwH.bk (h : SwH n p s) {i : Nat} (hi : i < n) : Bk n p s i := h.bk' (n - (i + 1)) i (by omega)
end Go.Proofs.Ytpnkapdemgieaaa
set_option linter.unusedSimpArgs false
set_option linter.unusedVariables false
set_option linter.unusedSectionVars false
namespace Go.Proofs.Ytpnkapdemgieaaa
open Go Go.RowKit
/-! ### Rows -/
/-- The parts of a row, joined. -/
theorem row_one {P Q S φ ψ α' β' α β r1 r2 R1 R2 X' Y' X Y U V e0 e1 e2 e3 e4 B F : Rat} (hU' : Nb X' Y' B) (hf : Nb φ ψ F)
    (h0 : Nb (α' * φ - β' * ψ + P) (α' * ψ + β' * φ) e0)
    (h1 : Nb (α' * X' - β' * Y' - r1 - P * X) (α' * Y' + β' * X' - r2 - P * Y) e1)
    (h2 : Nb (α * X - β * Y - R1 - Q * U) (α * Y + β * X - R2 - Q * V) e2)
    (h3 : Nb (X * (P + Q + P * φ - α) - Y * (S + P * ψ - β)) (X * (S + P * ψ - β) + Y * (P + Q + P * φ - α)) e3)
    (h4 : Nb (R1 + (φ * r1 - ψ * r2)) (R2 + (φ * r2 + ψ * r1)) e4) :
    Nb (P * (X' - X) - Q * (X - U) + S * Y) (P * (Y' - Y) - Q * (Y - V) - S * X) (B * e0 + e3 + e2 + e4 + F * e1) := by
  have k := ((((hU'.mul h0).sub h3).sub h2).sub h4).sub (hf.mul h1)
  have q1 : X' * (α' * φ - β' * ψ + P) - Y' * (α' * ψ + β' * φ) - (X * (P + Q + P * φ - α) - Y * (S + P * ψ - β)) - (α * X - β * Y - R1 - Q * U) - (R1 + (φ * r1 - ψ * r2)) - (φ * (α' * X' - β' * Y' - r1 - P * X) - ψ * (α' * Y' + β' * X' - r2 - P * Y)) = P * (X' - X) - Q * (X - U) + S * Y := by grind
  have q2 : X' * (α' * ψ + β' * φ) + Y' * (α' * φ - β' * ψ + P) - (X * (S + P * ψ - β) + Y * (P + Q + P * φ - α)) - (α * Y + β * X - R2 - Q * V) - (R2 + (φ * r2 + ψ * r1)) - (φ * (α' * Y' + β' * X' - r2 - P * Y) + ψ * (α' * X' - β' * Y' - r1 - P * X)) = P * (Y' - Y) - Q * (Y - V) - S * X := by grind
  rwa [q1, q2] at k
variable {n : Nat} {p s : Nat → Nat}
/-- The answers, behind the end that is held at one. -/
def xS (p s : Nat → Nat) (n : Nat) : Nat → Rat
  | 0 => 1
  | i + 1 => fv .f32 (oW p s n i).1
def yS (p s : Nat → Nat) (n : Nat) : Nat → Rat
  | 0 => 0
  | i + 1 => fv .f32 (oW p s n i).2
theorem one_err {B : Rat} (B0 : 0 ≤ B) : B * (9 * uu) + (26 * uu * B + ww * (18 + 9 * B)) + uu * (37 + 27 * B) + 18 * uu + (1 + 2 * uu) * (uu * (37 + 27 * B)) ≤ uu * (112 + 100 * B) := by
  have u0 := uu_pos
  have us := uu_small
  have uB := Rat.mul_nonneg (Rat.le_of_lt u0) B0
  have k1 := Rat.mul_le_mul_of_nonneg_right (show uu ≤ 1 / 10000000 by grind) uB
  have k2 := Rat.mul_le_mul_of_nonneg_right (show uu ≤ 1 / 10000000 by grind) (Rat.le_of_lt u0)
  have hw : ww ≤ uu * (101 / 100) := by decide +kernel
  have k3 := Rat.mul_le_mul_of_nonneg_right hw (show 0 ≤ 18 + 9 * B by grind)
  grind
/-- All rows are nearly fulfilled. -/
theorem SwH.rows (h : SwH n p s) {B : Rat} (B1 : 1 ≤ B) (B2 : B ≤ 1000) (hB : ∀ i, i < n → Nb (xS p s n (i + 1)) (yS p s n (i + 1)) B) {i : Nat} (hi : i < n) :
    Nb (fv .f32 (p i) * (xS p s n i - xS p s n (i + 1)) - fv .f32 (p (i + 1)) * (xS p s n (i + 1) - xS p s n (i + 2)) + fv .f32 (s i) * yS p s n (i + 1))
      (fv .f32 (p i) * (yS p s n i - yS p s n (i + 1)) - fv .f32 (p (i + 1)) * (yS p s n (i + 1) - yS p s n (i + 2)) - fv .f32 (s i) * xS p s n (i + 1)) (uu * (112 + 100 * B)) := by
  cases i with
  | zero =>
    obtain ⟨r1, r2⟩ := (h.bk hi).row B (by grind) B2 (fun hh => hB 1 hh)
    obtain ⟨a0, a1, a2⟩ := h.p0
    obtain ⟨b0, b1, b2⟩ := h.ps (i := 0) hi
    obtain ⟨d0, d1⟩ := cs_ok .add (.inl rfl) (a := p 0) (c := p 1) (A := 16) (C := 8) ⟨⟨a0, by grind, a2⟩, by decide⟩ ⟨⟨b0, by grind, b2⟩, by decide⟩
    simp only [ex] at d1
    obtain ⟨c1, c2⟩ := Ru.off uu_pos d1 (V := 24) (by grind) (by grind)
    have hα : fv .f32 (dW p s 0).1 = fv .f32 (fop .add .f32 (p 0) (p 1)) := rfl
    have hβ : fv .f32 (dW p s 0).2 = fv .f32 (s 0) := rfl
    have hR1 : fv .f32 (rW p s 0).1 = fv .f32 (p 0) := rfl
    have hR2 : fv .f32 (rW p s 0).2 = 0 := zero_fv
    rw [hα, hβ, hR1, hR2] at r1
    have hx : fv .f32 (oW p s n 0).1 = xS p s n 1 := rfl
    have hy : fv .f32 (oW p s n 0).2 = yS p s n 1 := rfl
    have hx2 : fv .f32 (oW p s n (0 + 1)).1 = xS p s n 2 := rfl
    have hy2 : fv .f32 (oW p s n (0 + 1)).2 = yS p s n 2 := rfl
    rw [hx, hy, hx2, hy2] at r1
    have nB := hB 0 hi
    have sc := nB.scale (c := fv .f32 (fop .add .f32 (p 0) (p 1)) - (fv .f32 (p 0) + fv .f32 (p 1))) (K := 24 * uu + tt) (by grind) (by grind)
    have k := sc.sub r1
    have z0 : xS p s n 0 = 1 := rfl
    have z1 : yS p s n 0 = 0 := rfl
    rw [z0, z1]
    have e01 : (0 + 1 : Nat) = 1 := rfl
    have e02 : (0 + 2 : Nat) = 2 := rfl
    rw [e01, e02] at *
    generalize fv .f32 (fop .add .f32 (p 0) (p 1)) = α at *
    generalize fv .f32 (p 0) = P at *
    generalize fv .f32 (p 1) = Q at *
    generalize fv .f32 (s 0) = S at *
    generalize xS p s n 1 = X at *
    generalize yS p s n 1 = Y at *
    generalize xS p s n 2 = U at *
    generalize yS p s n 2 = V at *
    have q1 : (α - (P + Q)) * X - (α * X - S * Y - P - Q * U) = P * (1 - X) - Q * (X - U) + S * Y := by clear d1 k sc r1 r2; grind
    have q2 : (α - (P + Q)) * Y - (α * Y + S * X - 0 - Q * V) = P * (0 - Y) - Q * (Y - V) - S * X := by clear d1 k sc r1 r2; grind
    rw [q1, q2] at k
    refine k.mono ?_
    have u0 := uu_pos
    have ut := uu_tiny
    have t0 := tt_pos
    have uB := Rat.mul_nonneg (Rat.le_of_lt u0) (show 0 ≤ B by grind)
    have tB := Rat.mul_le_mul_of_nonneg_right (show tt ≤ uu by grind) (show 0 ≤ B by grind)
    clear d1 k sc r1 r2
    grind
  | succ i =>
    have F := h.fq hi
    have bk1 := h.bk (i := i) (by omega)
    have bk2 := h.bk hi
    obtain ⟨r1, _⟩ := bk1.row B (by grind) B2 (fun hh => hB (i + 1) hh)
    obtain ⟨r2, r3⟩ := bk2.row B (by grind) B2 (fun hh => hB (i + 2) hh)
    have L := h.lk hi
    have nB := hB (i + 1) hi
    have l1 := L.row (xS p s n (i + 2)) (yS p s n (i + 2)) B (18 + 9 * B) nB r3 (by grind)
    have k := row_one (hB i (by omega)) F.nb F.res r1 r2 l1 (h.rl hi).off
    exact k.mono (one_err (by grind))
end Go.Proofs.Ytpnkapdemgieaaa
set_option linter.unusedSimpArgs false
set_option linter.unusedVariables false
set_option linter.unusedSectionVars false
namespace Go.Proofs.Ytpnkapdemgieaaa
open Go Go.RowKit
/-- Rows of a rod that is held at one and shut behind. -/
structure Rz (n : Nat) (P S X Y : Nat → Rat) (A : Rat) : Prop where
  n6 : n ≤ 6
  x0 : X 0 = 1
  y0 : Y 0 = 0
  p0 : 1 / 4 ≤ P 0
  pm : ∀ i, i + 1 < n → 1 / 8 ≤ P (i + 1)
  pn : P n = 0
  row : ∀ i, i < n → Nb (P i * (X i - X (i + 1)) - P (i + 1) * (X (i + 1) - X (i + 2)) + S i * Y (i + 1)) (P i * (Y i - Y (i + 1)) - P (i + 1) * (Y (i + 1) - Y (i + 2)) - S i * X (i + 1)) A
variable {n : Nat} {P S X Y : Nat → Rat} {A : Rat}
theorem Rz.pp (h : Rz n P S X Y A) {i : Nat} (hi : i < n) : 1 / 8 ≤ P i := by
  cases i with
  | zero => have := h.p0; grind
  | succ i => exact h.pm i hi
theorem Rz.pz (h : Rz n P S X Y A) {i : Nat} (hi : i ≤ n) : 0 ≤ P i := by
  by_cases e : i = n
  · rw [e, h.pn]; exact Rat.le_refl
  · have := h.pp (i := i) (by omega); grind
/-- The flow's work at a cell. -/
def gg (P X Y : Nat → Rat) (i : Nat) : Rat := X (i + 1) * (P i * (X i - X (i + 1))) + Y (i + 1) * (P i * (Y i - Y (i + 1)))
theorem gg_alg {p q s x y x' y' x'' y'' T : Rat} (hq : 0 ≤ q) (hT : -(x * (p * (x' - x) - q * (x - x'') + s * y) + y * (p * (y' - y) - q * (y - y'') - s * x)) ≤ T) : x'' * (q * (x - x'')) + y'' * (q * (y - y'')) - T ≤ x * (p * (x' - x)) + y * (p * (y' - y)) := by
  have k1 := Rat.mul_nonneg hq (sq_nonneg (x - x''))
  have k2 := Rat.mul_nonneg hq (sq_nonneg (y - y''))
  grind
theorem Rz.gstep (h : Rz n P S X Y A) {i : Nat} (hi : i < n) {L : Rat} (hL : Nb (X (i + 1)) (Y (i + 1)) L) : gg P X Y (i + 1) - L * A ≤ gg P X Y i :=
  gg_alg (h.pz (by omega)) (hL.dot (h.row i hi)).2
theorem Rz.glow (h : Rz n P S X Y A) {L : Rat} : ∀ k i, i + k = n → (∀ j, i < j → j ≤ n → Nb (X j) (Y j) L) → -((k : Rat) * (L * A)) ≤ gg P X Y i
  | 0, i, hi, _ => by
    have e : i = n := by omega
    unfold gg
    rw [e, h.pn]
    have e0 : ((0 : Nat) : Rat) = 0 := rfl
    rw [e0]; grind
  | k + 1, i, hi, hL => by
    have h1 := h.gstep (i := i) (by omega) (hL (i + 1) (by omega) (by omega))
    have h2 := h.glow k (i + 1) (by omega) (fun j a b => hL j (by omega) b)
    have e : ((k + 1 : Nat) : Rat) = (k : Rat) + 1 := by rw [Rat.natCast_add]; rfl
    rw [e]; grind
/-- How strong an answer is. -/
def nn (X Y : Nat → Rat) (i : Nat) : Rat := X i * X i + Y i * Y i
theorem nn_alg {p x y x' y' T : Rat} (hp : 1 / 8 ≤ p) (hT : -T ≤ x * (p * (x' - x)) + y * (p * (y' - y))) (hT0 : 0 ≤ T) : x * x + y * y ≤ x' * x' + y' * y' + 16 * T := by
  have p0 : 0 < p := by grind
  refine mul_cancel_le p0 ?_
  have k1 := Rat.mul_nonneg (Rat.le_of_lt p0) (sq_nonneg (x' - x))
  have k2 := Rat.mul_nonneg (Rat.le_of_lt p0) (sq_nonneg (y' - y))
  have k3 := Rat.mul_le_mul_of_nonneg_right hp hT0
  grind
theorem Rz.A0 (h : Rz n P S X Y A) (hn : 0 < n) : 0 ≤ A := (h.row 0 hn).1
theorem Rz.nstep (h : Rz n P S X Y A) {L : Rat} {i : Nat} (hi : i < n) (hL : ∀ j, i < j → j ≤ n → Nb (X j) (Y j) L) : nn X Y (i + 1) ≤ nn X Y i + 96 * (L * A) := by
  have g := h.glow (n - i) i (by omega) hL
  have L0 : 0 ≤ L := (hL (i + 1) (by omega) (by omega)).1
  have la := Rat.mul_nonneg L0 (h.A0 (by omega))
  have c : ((n - i : Nat) : Rat) ≤ 6 := by have := h.n6; exact_mod_cast (by omega : n - i ≤ 6)
  have k := Rat.mul_le_mul_of_nonneg_right c la
  unfold gg at g
  generalize ((n - i : Nat) : Rat) = cc at *
  have := nn_alg (x := X (i + 1)) (y := Y (i + 1)) (x' := X i) (y' := Y i) (T := 6 * (L * A)) (h.pp hi) (by grind) (by grind)
  unfold nn
  grind
theorem Rz.down (h : Rz n P S X Y A) {L : Rat} {i : Nat} (hL : ∀ j, i < j → j ≤ n → Nb (X j) (Y j) L) (L0 : 0 ≤ L) (A0 : 0 ≤ A) : ∀ k, i + k ≤ n → nn X Y (i + k) ≤ nn X Y i + (k : Rat) * (96 * (L * A))
  | 0, _ => by
    have e0 : ((0 : Nat) : Rat) = 0 := rfl
    rw [e0]; show nn X Y i ≤ _; grind
  | k + 1, hk => by
    have h1 := h.down hL L0 A0 k (by omega)
    have h2 := h.nstep (i := i + k) (by omega) (fun j a b => hL j (by omega) b)
    have e : ((k + 1 : Nat) : Rat) = (k : Rat) + 1 := by rw [Rat.natCast_add]; rfl
    have e2 : i + (k + 1) = i + k + 1 := by omega
    rw [e, e2]; grind
theorem Rz.far (h : Rz n P S X Y A) {L : Rat} {i j : Nat} (hi : i < j) (hj : j ≤ n) (hL : ∀ j, i < j → j ≤ n → Nb (X j) (Y j) L) : nn X Y j ≤ nn X Y i + 576 * (L * A) := by
  have L0 : 0 ≤ L := (hL j hi hj).1
  have A0 := h.A0 (by omega)
  have k := h.down hL L0 A0 (j - i) (by omega)
  have e : i + (j - i) = j := by omega
  rw [e] at k
  have c : ((j - i : Nat) : Rat) ≤ 6 := by have := h.n6; exact_mod_cast (by omega : j - i ≤ 6)
  have la := Rat.mul_nonneg L0 A0
  have := Rat.mul_le_mul_of_nonneg_right c (show 0 ≤ 96 * (L * A) by grind)
  grind
/-! ### Lengths -/
def tiA : Rat := 1 / 1000000
/-- Lengths of the answers, nearly. -/
structure Lz (n : Nat) (X Y l : Nat → Rat) (e : Rat) : Prop where
  nb : ∀ j, 0 < j → j ≤ n → Nb (X j) (Y j) (l j + e)
  lo : ∀ j, 0 < j → j ≤ n → e ≤ l j → (l j - e) * (l j - e) ≤ nn X Y j
  l0 : ∀ j, 0 < j → j ≤ n → 0 ≤ l j
  top : ∀ j, 0 < j → j ≤ n → l j ≤ 1001
/-- How far great lengths may be off. -/
def tiB : Rat := 1 / 2000
theorem top_of (l : Nat → Rat) (i : Nat) : ∀ n, i < n → ∃ j, i < j ∧ j ≤ n ∧ ∀ k, i < k → k ≤ n → l k ≤ l j
  | 0, h => by omega
  | n + 1, h => by
    by_cases e : i = n
    · exact ⟨n + 1, by omega, Nat.le_refl _, fun k a b => by rw [show k = n + 1 by omega]; exact Rat.le_refl⟩
    · obtain ⟨j, h1, h2, h3⟩ := top_of l i n (by omega)
      rcases Rat.le_total (a := l j) (b := l (n + 1)) with hh | hh
      · refine ⟨n + 1, by omega, Nat.le_refl _, fun k a b => ?_⟩
        by_cases ek : k = n + 1
        · rw [ek]; exact Rat.le_refl
        · exact Rat.le_trans (h3 k a (by omega)) hh
      · refine ⟨j, h1, by omega, fun k a b => ?_⟩
        by_cases ek : k = n + 1
        · rw [ek]; exact hh
        · exact h3 k a (by omega)
theorem one_alg {m A : Rat} (h1 : 1006 / 1000 < m) (h : (m - tiB) * (m - tiB) ≤ 1 + 576 * ((m + tiB) * A)) (hA : A ≤ uu * (112 + 100 * (m + tiB))) : False := by
  have k := Rat.mul_le_mul_of_nonneg_left hA (show 0 ≤ m + tiB by unfold tiB; grind)
  have k2 := Rat.mul_nonneg (show 0 ≤ m by grind) (show 0 ≤ m - 1006 / 1000 by grind)
  unfold tiB uu at *
  grind
theorem big_alg {m A : Rat} (h1 : 998 < m) (h : (m - tiB) * (m - tiB) ≤ 1 + 576 * ((m + tiB) * A)) (hA : A ≤ uu * (112 + 100 * 1000)) : False := by
  have k := Rat.mul_le_mul_of_nonneg_left hA (show 0 ≤ m + tiB by unfold tiB; grind)
  have k2 := Rat.mul_nonneg (show 0 ≤ m by grind) (show 0 ≤ m - 998 by grind)
  unfold tiB uu at *
  grind
/-- All answers are at most one, nearly. -/
theorem len_one {l : Nat → Rat} (hn : 0 < n) (hR : ∀ B, 1 ≤ B → B ≤ 1000 → (∀ i, i < n → Nb (X (i + 1)) (Y (i + 1)) B) → Rz n P S X Y (uu * (112 + 100 * B))) (hK : ∀ i, i < n → Nb (X (i + 1)) (Y (i + 1)) 1000) (hl : Lz n X Y l tiB) : ∀ j, 0 < j → j ≤ n → l j ≤ 1006 / 1000 := by
  obtain ⟨j, h1, h2, h3⟩ := top_of l 0 n hn
  by_cases hm : l j ≤ 1006 / 1000
  · exact fun k a b => Rat.le_trans (h3 k a b) hm
  · exfalso
    have hm : 1006 / 1000 < l j := by grind
    have hL : ∀ k, 0 < k → k ≤ n → Nb (X k) (Y k) (l j + tiB) := fun k a b => (hl.nb k a b).mono (by have := h3 k a b; grind)
    have hlo := hl.lo j h1 h2 (by unfold tiB; grind)
    have fin : ∀ A, Rz n P S X Y A → (l j - tiB) * (l j - tiB) ≤ 1 + 576 * ((l j + tiB) * A) := fun A h => by
      have k := h.far h1 h2 hL
      have e0 : nn X Y 0 = 1 := by unfold nn; rw [h.x0, h.y0]; grind
      rw [e0] at k
      exact Rat.le_trans hlo k
    by_cases hb : l j ≤ 998
    · exact one_alg hm (fin _ (hR (l j + tiB) (by unfold tiB; grind) (by unfold tiB; grind) (fun i hi => hL (i + 1) (by omega) (by omega)))) Rat.le_refl
    · exact big_alg (by grind) (fin _ (hR 1000 (by decide) Rat.le_refl hK)) Rat.le_refl
theorem two_alg {m k : Rat} (hk : 0 ≤ k) (h1 : k + 99 / 10000 < m) (h : (m - tiA) * (m - tiA) ≤ (k + tiA) * (k + tiA) + 576 * ((m + tiA) * (uu * (112 + 100 * (1007 / 1000))))) : False := by
  have k2 := Rat.mul_nonneg (show 0 ≤ m + k by grind) (show 0 ≤ m - k - 99 / 10000 by grind)
  unfold tiA uu at *
  grind
/-- The answers grow weaker, nearly. -/
theorem len_down {l : Nat → Rat} (hR : Rz n P S X Y (uu * (112 + 100 * (1007 / 1000)))) (hl : Lz n X Y l tiA) {i : Nat} (h0 : 0 < i) (hi : i < n) : l (i + 1) ≤ l i + 99 / 10000 := by
  obtain ⟨j, h1, h2, h3⟩ := top_of l i n hi
  by_cases hm : l j ≤ l i + 99 / 10000
  · exact Rat.le_trans (h3 (i + 1) (by omega) (by omega)) hm
  · exfalso
    have hi0 := hl.l0 i h0 (by omega)
    have hL : ∀ k, i < k → k ≤ n → Nb (X k) (Y k) (l j + tiA) := fun k a b => (hl.nb k (by omega) b).mono (by have := h3 k a b; grind)
    have hlo := hl.lo j (by omega) h2 (by unfold tiA; grind)
    have k := hR.far h1 h2 hL
    have ni : nn X Y i ≤ (l i + tiA) * (l i + tiA) := (hl.nb i h0 (by omega)).2
    exact two_alg (m := l j) hi0 (by grind) (Rat.le_trans hlo (by grind))
/-! ### Slow swings -/
theorem Rz.hlow (h : Rz n P S X Y A) {c : Rat} (hc : ∀ i, i < n → S i * Y (i + 1) ≤ c - A ∧ -(S i * Y (i + 1)) ≤ c - A) : ∀ k i, i + k = n → P i * (X i - X (i + 1)) ≤ (k : Rat) * c
  | 0, i, hi => by
    have e : i = n := by omega
    rw [e, h.pn]
    have e0 : ((0 : Nat) : Rat) = 0 := rfl
    rw [e0]; grind
  | k + 1, i, hi => by
    have h1 := (h.row i (by omega)).re.1
    have h2 := h.hlow hc k (i + 1) (by omega)
    have h3 := (hc i (by omega)).2
    have e : ((k + 1 : Nat) : Rat) = (k : Rat) + 1 := by rw [Rat.natCast_add]; rfl
    have e2 : i + 1 + 1 = i + 2 := rfl
    rw [e2] at h2
    rw [e]; grind
theorem drop_alg {p x x' c k : Rat} (q : Rat) (hq : 0 < q) (hp : 1 ≤ q * p) (h : p * (x - x') ≤ k * c) (hc : 0 ≤ k * c) : x - q * (k * c) ≤ x' := by
  rcases Rat.le_total (a := x) (b := x') with hh | hh
  · have := Rat.mul_nonneg (Rat.le_of_lt hq) hc; grind
  · have k1 := Rat.mul_le_mul_of_nonneg_right hp (show 0 ≤ x - x' by grind)
    have k2 := Rat.mul_le_mul_of_nonneg_left h (Rat.le_of_lt hq)
    grind
def wX (i : Nat) : Nat := if i = 0 then 0 else 24 + 4 * (i - 1) * (12 - i)
theorem wX_step : ∀ i, i < 6 → (i = 0 → wX (i + 1) = wX i + 4 * 6) ∧ (i ≠ 0 → wX (i + 1) = wX i + 8 * (6 - i)) := by decide
theorem wX_top : ∀ i, i < 7 → wX i ≤ 144 := by decide
/-- Where all is slow no answer is far from one. -/
theorem Rz.slow (h : Rz n P S X Y A) {c : Rat} (c0 : 0 ≤ c) (hc : ∀ i, i < n → S i * Y (i + 1) ≤ c - A ∧ -(S i * Y (i + 1)) ≤ c - A) : ∀ i, i ≤ n → 1 - (wX i : Rat) * c ≤ X i
  | 0, _ => by
    rw [h.x0]
    have e0 : ((wX 0 : Nat) : Rat) = 0 := rfl
    rw [e0]; grind
  | i + 1, hi => by
    have h1 := h.slow c0 hc i (by omega)
    have h2 := h.hlow hc (n - i) i (by omega)
    have h6 := h.n6
    obtain ⟨w1, w2⟩ := wX_step i (by omega)
    have kn : (0 : Rat) ≤ ((n - i : Nat) : Rat) := by exact_mod_cast Nat.zero_le _
    have kc := Rat.mul_nonneg kn c0
    by_cases e : i = 0
    · rw [w1 e]
      have hp : 1 ≤ 4 * P i := by rw [e]; have := h.p0; grind
      have d := drop_alg 4 (by decide) hp h2 kc
      have c6 : ((n - i : Nat) : Rat) ≤ 6 := by exact_mod_cast (by omega : n - i ≤ 6)
      have := Rat.mul_le_mul_of_nonneg_right c6 c0
      have e2 : ((wX i + 4 * 6 : Nat) : Rat) = (wX i : Rat) + 24 := by rw [Rat.natCast_add]; rfl
      rw [e2]; grind
    · rw [w2 e]
      have d := drop_alg 8 (by decide) (by have := h.pp (i := i) (by omega); grind) h2 kc
      have c6 : ((n - i : Nat) : Rat) ≤ ((6 - i : Nat) : Rat) := by exact_mod_cast (by omega : n - i ≤ 6 - i)
      have := Rat.mul_le_mul_of_nonneg_right c6 c0
      have e2 : ((wX i + 8 * (6 - i) : Nat) : Rat) = (wX i : Rat) + 8 * ((6 - i : Nat) : Rat) := by rw [Rat.natCast_add, Rat.natCast_mul]; rfl
      rw [e2]; grind
end Go.Proofs.Ytpnkapdemgieaaa
set_option linter.unusedSimpArgs false
set_option linter.unusedVariables false
set_option linter.unusedSectionVars false
namespace Go.Proofs.Ytpnkapdemgieaaa
open Go Go.RowKit
/-- Rows, near exact ones. -/
structure RowsH (n : Nat) (b a x s : Nat → Nat) (p W so Z : Nat → Rat) (M D Zm : Rat) : Prop where
  hn : 1 ≤ n ∧ n ≤ 6
  hM : 1 / 1024 ≤ M ∧ M ≤ 1000
  hD : 0 ≤ D ∧ 0 ≤ Zm ∧ Zm + D ≤ M ∧ Zm ≤ 0 * M
  hp : ∀ i, i ≤ n → 0 ≤ p i ∧ p i ≤ 8
  hW : ∀ i, i < n → 1 / 4 ≤ W i ∧ W i ≤ 16
  hb : ∀ i, i < n → V .f32 (b i) (-(p i))
  hx : ∀ i, i < n → V .f32 (x i) (-(p (i + 1)))
  ha : ∀ i, i < n → fnt .f32 (a i) = true ∧ fv .f32 (a i) - (W i + p i + p (i + 1)) ≤ 57 * uu ∧ (W i + p i + p (i + 1)) - fv .f32 (a i) ≤ 57 * uu
  hs : ∀ i, i < n → fnt .f32 (s i) = true ∧ fv .f32 (s i) - so i ≤ 17 * (M * uu) ∧ so i - fv .f32 (s i) ≤ 17 * (M * uu)
  hsb : ∀ i, i < n → so i ≤ (161 / 10) * M ∧ -so i ≤ (161 / 10) * M
  hZ : ∀ i, Z i ≤ Zm ∧ -Z i ≤ Zm
  hof : so 0 - ((W 0 + p 0 + (qiR p n 0 + qlR p n 0)) * Z 0 - qiR p n 0 * Z 1) ≤ (W 0 + p 0 + qlR p n 0) * D ∧ ((W 0 + p 0 + (qiR p n 0 + qlR p n 0)) * Z 0 - qiR p n 0 * Z 1) - so 0 ≤ (W 0 + p 0 + qlR p n 0) * D
  hoi : ∀ i, i + 1 < n → so (i + 1) - ((W (i + 1) + p (i + 1) + (qiR p n (i + 1) + qlR p n (i + 1))) * Z (i + 1) - p (i + 1) * Z i - qiR p n (i + 1) * Z (i + 2)) ≤ (W (i + 1) + qlR p n (i + 1)) * D ∧ ((W (i + 1) + p (i + 1) + (qiR p n (i + 1) + qlR p n (i + 1))) * Z (i + 1) - p (i + 1) * Z i - qiR p n (i + 1) * Z (i + 2)) - so (i + 1) ≤ (W (i + 1) + qlR p n (i + 1)) * D
section
variable {n : Nat} {b a x s : Nat → Nat} {p W so Z : Nat → Rat} {M D Zm : Rat}
theorem RowsH.mu (h : RowsH n b a x s p W so Z M D Zm) : 0 < uu ∧ 16700000 * uu = 1 ∧ 16700000 * (M * uu) = M ∧ 0 < M * uu := by
  have u1 : 16700000 * uu = 1 := by unfold uu; decide +kernel
  have u0 : 0 < uu := by unfold uu; decide +kernel
  have hM := h.hM
  exact ⟨u0, u1, by grind, Rat.mul_pos (by grind) u0⟩
/-- The pivot. -/
structure PivH (p : Nat → Rat) (b a x : Nat → Nat) (i : Nat) : Prop where
  f : fnt .f32 (elA b a x i) = true
  lo : p (i + 1) + 1 / 5 ≤ fv .f32 (elA b a x i)
  hi : fv .f32 (elA b a x i) ≤ 32 + 1 / 10
/-- From pivot to pivot. -/
structure LnkH (p W : Nat → Rat) (b a x : Nat → Nat) (i : Nat) : Prop where
  f : fnt .f32 (elF b a x i) = true
  lo : -1 ≤ fv .f32 (elF b a x i)
  hi : fv .f32 (elF b a x i) ≤ 0
  g1 : fv .f32 (elF b a x i) * fv .f32 (elA b a x i) + p (i + 1) ≤ 9 * uu
  g2 : -(fv .f32 (elF b a x i) * fv .f32 (elA b a x i) + p (i + 1)) ≤ 9 * uu
  m1 : fv .f32 (elA b a x (i + 1)) - (W (i + 1) + p (i + 1) + p (i + 2) + fv .f32 (elF b a x i) * p (i + 1)) ≤ 98 * uu
  m2 : (W (i + 1) + p (i + 1) + p (i + 2) + fv .f32 (elF b a x i) * p (i + 1)) - fv .f32 (elA b a x (i + 1)) ≤ 98 * uu
theorem RowsH.first (h : RowsH n b a x s p W so Z M D Zm) : PivH p b a x 0 := by
  obtain ⟨u0, u1, _, _⟩ := h.mu
  have hn := h.hn
  obtain ⟨a0, a1, a2⟩ := h.ha 0 (by omega)
  obtain ⟨p0, p1⟩ := h.hp 0 (by omega)
  obtain ⟨q0, q1⟩ := h.hp 1 (by omega)
  obtain ⟨w0, w1⟩ := h.hW 0 (by omega)
  exact ⟨a0, by show p 1 + 1 / 5 ≤ fv .f32 (a 0); grind, by show fv .f32 (a 0) ≤ _; grind⟩
theorem RowsH.next (h : RowsH n b a x s p W so Z M D Zm) {i : Nat} (hi : i + 1 < n) (hp : PivH p b a x i) : LnkH p W b a x i ∧ PivH p b a x (i + 1) := by
  obtain ⟨u0, u1, _, _⟩ := h.mu
  obtain ⟨a0, a1, a2⟩ := h.ha (i + 1) hi
  obtain ⟨p0, p1⟩ := h.hp (i + 1) (by omega)
  obtain ⟨q0, q1⟩ := h.hp (i + 2) (by omega)
  obtain ⟨w0, w1⟩ := h.hW (i + 1) hi
  have hb := h.hb (i + 1) hi
  have hx := h.hx i (by omega)
  obtain ⟨m0, ml, mh⟩ := hp
  have mp : 0 < fv .f32 (elA b a x i) := by grind
  have dv : -(p (i + 1)) / fv .f32 (elA b a x i) * fv .f32 (elA b a x i) = -(p (i + 1)) := Rat.div_mul_cancel (by grind)
  have r0 : Rep .f32 (0 : Rat) := Rep.int (k := .f32) 0 (by decide)
  have r1 : Rep .f32 (1 : Rat) := Rep.int (k := .f32) 1 (by decide)
  have v1 : -1 ≤ -(p (i + 1)) / fv .f32 (elA b a x i) := mul_cancel_le mp (by rw [dv]; grind)
  have v2 : -(p (i + 1)) / fv .f32 (elA b a x i) ≤ 0 := mul_cancel_le mp (by rw [dv]; grind)
  obtain ⟨f0, f1, f2⟩ := fop_btw .quo rfl .f32 (a := -1) (b := 0) hb.1 m0 (fun _ => by grind) r1.neg r0 (by simp only [ex]; rw [hb.2]; exact v1) (by simp only [ex]; rw [hb.2]; exact v2)
  obtain ⟨_, e1, e2⟩ := fop_u .quo rfl hb.1 m0 (fun _ => by grind) (M := -(-(p (i + 1)) / fv .f32 (elA b a x i)) + 1 / 1000000) (by grind) (by grind) (by simp only [ex]; rw [hb.2]; grind) (by simp only [ex]; rw [hb.2]; grind)
  simp only [ex] at e1 e2
  rw [hb.2] at e1 e2
  have f0 : fnt .f32 (elF b a x i) = true := f0
  have f1 : -1 ≤ fv .f32 (elF b a x i) := f1
  have f2 : fv .f32 (elF b a x i) ≤ 0 := f2
  have e1 : fv .f32 (elF b a x i) - -(p (i + 1)) / fv .f32 (elA b a x i) ≤ (-(-(p (i + 1)) / fv .f32 (elA b a x i)) + 1 / 1000000) * uu := e1
  have e2 : -(p (i + 1)) / fv .f32 (elA b a x i) - fv .f32 (elF b a x i) ≤ (-(-(p (i + 1)) / fv .f32 (elA b a x i)) + 1 / 1000000) * uu := e2
  have g1' := Rat.mul_le_mul_of_nonneg_right e1 (Rat.le_of_lt mp)
  have g2' := Rat.mul_le_mul_of_nonneg_right e2 (Rat.le_of_lt mp)
  have eA : elA b a x (i + 1) = fop .sub .f32 (a (i + 1)) (fop .mul .f32 (elF b a x i) (x i)) := rfl
  rw [show i + 1 + 1 = i + 2 by omega] at a1 a2
  obtain ⟨mw, hmw⟩ : ∃ y, elA b a x i = y := ⟨_, rfl⟩
  obtain ⟨fw, hfw⟩ : ∃ y, elF b a x i = y := ⟨_, rfl⟩
  rw [hmw] at m0 ml mh mp dv v1 v2 e1 e2 g1' g2'
  rw [hfw] at f0 f1 f2 e1 e2 g1' g2' eA
  generalize -(p (i + 1)) / fv .f32 mw = q at *
  have mu1 := Rat.mul_le_mul_of_nonneg_right mh (Rat.le_of_lt u0)
  have pu1 := Rat.mul_le_mul_of_nonneg_right p1 (Rat.le_of_lt u0)
  have dvu : q * fv .f32 mw * uu = -(p (i + 1)) * uu := by rw [dv]
  clear e1 e2
  have g1 : fv .f32 fw * fv .f32 mw + p (i + 1) ≤ 9 * uu := by grind
  have g2 : -(fv .f32 fw * fv .f32 mw + p (i + 1)) ≤ 9 * uu := by grind
  -- the product
  obtain ⟨n0, n1⟩ := fneg_val hx.1
  have fp1 := Rat.mul_nonneg (show 0 ≤ -fv .f32 fw by grind) p0
  have fp2 := Rat.mul_le_mul_of_nonneg_right (show -fv .f32 fw ≤ 1 by grind) p0
  have hv : ex .mul (fv .f32 fw) (fv .f32 (x i)) = -fv .f32 fw * p (i + 1) := by simp only [ex]; rw [hx.2]; grind
  have t40 : tp 40 = 1099511627776 := (tp_nat 40).trans rfl
  obtain ⟨c0, c1⟩ := fop_rnd .mul rfl .f32 f0 hx.1 (by simp) 40 (by decide) (by rw [hv, t40]; grind) (by rw [hv, t40]; grind)
  rw [hv] at c1
  have c2 := rnd_u (M := 8) c1 (by grind) (by grind) (by grind)
  have c3 := c1.rep_ge r0 fp1
  have c4 := rnd_le_wd n0 c1 (by rw [n1, hx.2]; grind)
  rw [n1, hx.2] at c4
  generalize fop .mul .f32 fw (x i) = qw at *
  obtain ⟨d0, d1, d2⟩ := fop_u .sub rfl a0 c0 (by simp) (M := 32 + 1) (by grind) (by grind) (by simp only [ex]; grind) (by simp only [ex]; grind)
  simp only [ex] at d1 d2
  obtain ⟨m', hm'⟩ : ∃ y, fop .sub .f32 (a (i + 1)) qw = y := ⟨_, rfl⟩
  rw [hm'] at eA d0 d1 d2
  refine ⟨⟨?_, ?_, ?_, ?_, ?_, ?_, ?_⟩, ?_, ?_, ?_⟩
  · rw [hfw]; exact f0
  · rw [hfw]; exact f1
  · rw [hfw]; exact f2
  · rw [hfw, hmw]; exact g1
  · rw [hfw, hmw]; exact g2
  · rw [hfw, eA]; grind
  · rw [hfw, eA]; grind
  · rw [eA]; exact d0
  · rw [eA, show i + 1 + 1 = i + 2 by omega]; grind
  · rw [eA]; grind
theorem RowsH.piv (h : RowsH n b a x s p W so Z M D Zm) : ∀ i, i < n → PivH p b a x i
  | 0, _ => h.first
  | i + 1, hi => (h.next hi (h.piv i (by omega))).2
theorem RowsH.lnk (h : RowsH n b a x s p W so Z M D Zm) {i : Nat} (hi : i + 1 < n) : LnkH p W b a x i := (h.next hi (h.piv i (by omega))).1
/-- How far the right sides may be off by then. -/
def epH (M : Rat) (i : Nat) : Rat := ((i + 1 : Nat) : Rat) * ((782 / 5) * (M * uu))
theorem epH_succ (M : Rat) (i : Nat) : epH M (i + 1) = epH M i + (782 / 5) * (M * uu) := by
  unfold epH
  rw [Rat.natCast_add (i + 1) 1]
  have e : ((1 : Nat) : Rat) = 1 := rfl
  rw [e]; grind
theorem epH_le {M : Rat} {i : Nat} (h : 0 < M * uu) (hi : i < 6) : 0 ≤ epH M i ∧ epH M i ≤ 6 * ((782 / 5) * (M * uu)) := by
  unfold epH
  have k0 : (0 : Rat) ≤ ((i + 1 : Nat) : Rat) := by exact_mod_cast Nat.zero_le _
  have k1 : ((i + 1 : Nat) : Rat) ≤ ((6 : Nat) : Rat) := by exact_mod_cast (by omega : i + 1 ≤ 6)
  have e : ((6 : Nat) : Rat) = 6 := rfl
  rw [e] at k1
  have w : 0 ≤ (782 / 5) * (M * uu) := by grind
  exact ⟨Rat.mul_nonneg k0 w, Rat.mul_le_mul_of_nonneg_right k1 w⟩
/-- The right side. -/
structure SdH (n : Nat) (b a x s : Nat → Nat) (p Z : Nat → Rat) (M D : Rat) (i : Nat) : Prop where
  f : fnt .f32 (elS b a x s i) = true
  v1 : fv .f32 (elS b a x s i) - (fv .f32 (elA b a x i) * Z i - qiR p n i * Z (i + 1)) ≤ (fv .f32 (elA b a x i) - qiR p n i) * D + epH M i
  v2 : (fv .f32 (elA b a x i) * Z i - qiR p n i * Z (i + 1)) - fv .f32 (elS b a x s i) ≤ (fv .f32 (elA b a x i) - qiR p n i) * D + epH M i
/-- From right side to right side. -/
def SLH (b a x s : Nat → Nat) (M : Rat) (i : Nat) : Prop := fv .f32 (elS b a x s (i + 1)) - (fv .f32 (s (i + 1)) - fv .f32 (elF b a x i) * fv .f32 (elS b a x s i)) ≤ (162 / 5) * (M * uu) ∧ (fv .f32 (s (i + 1)) - fv .f32 (elF b a x i) * fv .f32 (elS b a x s i)) - fv .f32 (elS b a x s (i + 1)) ≤ (162 / 5) * (M * uu)
theorem RowsH.sfirst (h : RowsH n b a x s p W so Z M D Zm) : SdH n b a x s p Z M D 0 := by
  obtain ⟨u0, u1, u2, u3⟩ := h.mu
  obtain ⟨D0, Z0, ZD, _⟩ := h.hD
  have hn := h.hn
  obtain ⟨a0, a1, a2⟩ := h.ha 0 (by omega)
  obtain ⟨s0, s1, s2⟩ := h.hs 0 (by omega)
  obtain ⟨o1, o2⟩ := h.hof
  obtain ⟨z1, z2⟩ := h.hZ 0
  have q := qR_sum p n 0
  have k := Rat.mul_le_mul_of_nonneg_right ZD (Rat.le_of_lt u0)
  have E : epH M 0 = (782 / 5) * (M * uu) := by
    unfold epH
    have e : ((0 + 1 : Nat) : Rat) = 1 := rfl
    rw [e]; grind
  have r := el_first (W := W 0) (p := p 0) (qi := qiR p n 0) (ql := qlR p n 0) (m := fv .f32 (a 0)) (S := fv .f32 (s 0)) (so := so 0) (Z2 := Z 0) (Z3 := Z 1) (D := D) (c := 57 * uu) (k := 17 * (M * uu)) (Zm := Zm) D0 (by rw [q]; exact a1) (by rw [q]; exact a2) s1 s2 o1 o2 z1 z2 (by grind)
  exact ⟨s0, by show fv .f32 (s 0) - (fv .f32 (a 0) * Z 0 - _) ≤ (fv .f32 (a 0) - _) * D + _; rw [E]; have := r.1; grind, by show (fv .f32 (a 0) * Z 0 - _) - fv .f32 (s 0) ≤ (fv .f32 (a 0) - _) * D + _; rw [E]; have := r.2; grind⟩
theorem RowsH.snext (h : RowsH n b a x s p W so Z M D Zm) {i : Nat} (hi : i + 1 < n) (hS : SdH n b a x s p Z M D i) : SLH b a x s M i ∧ SdH n b a x s p Z M D (i + 1) := by
  obtain ⟨u0, u1, u2, u3⟩ := h.mu
  obtain ⟨D0, Z0, ZD, Zz⟩ := h.hD
  obtain ⟨M1, M2⟩ := h.hM
  have hn := h.hn
  obtain ⟨s0, s1, s2⟩ := h.hs (i + 1) hi
  obtain ⟨b1, b2⟩ := h.hsb (i + 1) hi
  obtain ⟨o1, o2⟩ := h.hoi i hi
  obtain ⟨z1, z1'⟩ := h.hZ i
  obtain ⟨z2, z2'⟩ := h.hZ (i + 1)
  obtain ⟨p0, p1⟩ := h.hp (i + 1) (by omega)
  obtain ⟨r0, _⟩ := h.hp (i + 2) (by omega)
  have P := h.piv i (by omega)
  have L := h.lnk hi
  obtain ⟨S0, v1, v2⟩ := hS
  rw [qiR_in hi] at v1 v2
  obtain ⟨e0, e6⟩ := epH_le (i := i) u3 (by omega)
  have q := qR_sum p n (i + 1)
  have qn := (qiR_le (n := n) (i := i + 1) r0).1
  have es := epH_succ M i
  have mp : 0 ≤ fv .f32 (elA b a x i) := by have := P.lo; grind
  obtain ⟨f1, f2⟩ := fs_bd L.lo L.hi p0 mp L.g2 v1 v2 z1 z1' z2 z2' e0 D0 Z0
  have hG : p (i + 1) + 9 * uu ≤ 8 + 9 * uu := by grind
  have k1 := Rat.mul_le_mul_of_nonneg_right hG (show 0 ≤ Zm + D by grind)
  have k2 := Rat.mul_le_mul_of_nonneg_left ZD (show 0 ≤ 8 + 9 * uu by grind)
  have k3 := Rat.mul_le_mul_of_nonneg_right p1 Z0
  have k4 := Rat.mul_le_mul_of_nonneg_right ZD (Rat.le_of_lt u0)
  have eS : elS b a x s (i + 1) = fop .sub .f32 (s (i + 1)) (fop .mul .f32 (elF b a x i) (elS b a x s i)) := rfl
  have F1 : fv .f32 (elF b a x i) * fv .f32 (elS b a x s i) ≤ (81 / 10) * M := by grind
  have F2 : -(fv .f32 (elF b a x i) * fv .f32 (elS b a x s i)) ≤ (81 / 10) * M := by grind
  obtain ⟨c0, c1, c2⟩ := fop_u .mul rfl L.f S0 (by simp) (M := (81 / 10) * M) (by grind) (by grind) (by simp only [ex]; exact F1) (by simp only [ex]; exact F2)
  simp only [ex] at c1 c2
  obtain ⟨pw, hpw⟩ : ∃ y, fop .mul .f32 (elF b a x i) (elS b a x s i) = y := ⟨_, rfl⟩
  rw [hpw] at c0 c1 c2 eS
  obtain ⟨d0, d1, d2⟩ := fop_u .sub rfl s0 c0 (by simp) (M := ((161 / 10) + (81 / 10) + 1 / 10) * M) (by grind) (by grind) (by simp only [ex]; grind) (by simp only [ex]; grind)
  simp only [ex] at d1 d2
  rw [← eS] at d0 d1 d2
  have D1 : fv .f32 (elS b a x s (i + 1)) - (fv .f32 (s (i + 1)) - fv .f32 (elF b a x i) * fv .f32 (elS b a x s i)) ≤ (162 / 5) * (M * uu) := by grind
  have D2 : (fv .f32 (s (i + 1)) - fv .f32 (elF b a x i) * fv .f32 (elS b a x s i)) - fv .f32 (elS b a x s (i + 1)) ≤ (162 / 5) * (M * uu) := by grind
  have r := el_step (W := W (i + 1)) (p := p (i + 1)) (qi := qiR p n (i + 1)) (ql := qlR p n (i + 1)) (m' := fv .f32 (elA b a x (i + 1))) (Z3 := Z (i + 2)) (c := 98 * uu) L.lo L.hi p0 qn e0 D0 L.g1 L.g2 (by rw [q]; exact L.m1) (by rw [q]; exact L.m2) v1 v2 s1 s2 D1 D2 o1 o2 z1 z1' z2 z2' (by grind) (by grind)
  refine ⟨⟨D1, D2⟩, d0, ?_, ?_⟩
  · rw [es]; have := r.1; grind
  · rw [es]; have := r.2; grind
theorem RowsH.sd (h : RowsH n b a x s p W so Z M D Zm) : ∀ i, i < n → SdH n b a x s p Z M D i
  | 0, _ => h.sfirst
  | i + 1, hi => (h.snext hi (h.sd i (by omega))).2
/-- The answer. -/
structure YdH (n : Nat) (b a x s : Nat → Nat) (p Z : Nat → Rat) (M D : Rat) (i : Nat) : Prop where
  f : fnt .f32 (solO b a x s n i) = true
  y1 : fv .f32 (solO b a x s n i) - Z i ≤ D + (508013 / 100) * (M * uu)
  y2 : Z i - fv .f32 (solO b a x s n i) ≤ D + (508013 / 100) * (M * uu)
  e1 : fv .f32 (elA b a x i) * fv .f32 (solO b a x s n i) - (fv .f32 (elS b a x s i) + qiR p n i * fv .f32 (solO b a x s n (i + 1))) ≤ (37813 / 500) * (M * uu)
  e2 : (fv .f32 (elS b a x s i) + qiR p n i * fv .f32 (solO b a x s n (i + 1))) - fv .f32 (elA b a x i) * fv .f32 (solO b a x s n i) ≤ (37813 / 500) * (M * uu)
theorem RowsH.ylast (h : RowsH n b a x s p W so Z M D Zm) {i : Nat} (hi : i + 1 = n) : YdH n b a x s p Z M D i := by
  obtain ⟨u0, u1, u2, u3⟩ := h.mu
  obtain ⟨D0, Z0, ZD, Zz⟩ := h.hD
  obtain ⟨M1, M2⟩ := h.hM
  have hn := h.hn
  obtain ⟨z1, z1'⟩ := h.hZ i
  obtain ⟨r0, _⟩ := h.hp (i + 1) (by omega)
  obtain ⟨m0, ml, mh⟩ := h.piv i (by omega)
  obtain ⟨S0, v1, v2⟩ := h.sd i (by omega)
  obtain ⟨e0, e6⟩ := epH_le (i := i) u3 (by omega)
  have qz : qiR p n i = 0 := qiR_last (by omega)
  rw [qz] at v1 v2
  have eY := solO_last b a x s n hi
  have mp : 0 < fv .f32 (elA b a x i) := by grind
  have dv : fv .f32 (elS b a x s i) / fv .f32 (elA b a x i) * fv .f32 (elA b a x i) = fv .f32 (elS b a x s i) := Rat.div_mul_cancel (by grind)
  have k1 := Rat.mul_le_mul_of_nonneg_left z1 (Rat.le_of_lt mp)
  have k2 := Rat.mul_le_mul_of_nonneg_left z1' (Rat.le_of_lt mp)
  have k3 := Rat.mul_le_mul_of_nonneg_left ZD (Rat.le_of_lt mp)
  have k4 := Rat.mul_le_mul_of_nonneg_left ml (show 0 ≤ M by grind)
  have k5 := Rat.mul_nonneg (show 0 ≤ M by grind) r0
  have q1 : fv .f32 (elS b a x s i) / fv .f32 (elA b a x i) ≤ 102 / 100 * M := mul_cancel_le mp (by rw [dv]; grind)
  have dn : -(fv .f32 (elS b a x s i) / fv .f32 (elA b a x i)) * fv .f32 (elA b a x i) = -fv .f32 (elS b a x s i) := by grind
  have q2 : -(fv .f32 (elS b a x s i) / fv .f32 (elA b a x i)) ≤ 102 / 100 * M := mul_cancel_le mp (by rw [dn]; grind)
  obtain ⟨y0, y1, y2⟩ := fop_u .quo rfl S0 m0 (fun _ => by grind) (M := 102 / 100 * M) (by grind) (by grind) (by simp only [ex]; exact q1) (by simp only [ex]; exact q2)
  simp only [ex] at y1 y2
  rw [← eY] at y0 y1 y2
  generalize fv .f32 (elS b a x s i) / fv .f32 (elA b a x i) = q at *
  have w1 := Rat.mul_le_mul_of_nonneg_right y1 (Rat.le_of_lt mp)
  have w2 := Rat.mul_le_mul_of_nonneg_right y2 (Rat.le_of_lt mp)
  have w3 := Rat.mul_le_mul_of_nonneg_left mh (Rat.le_of_lt u3)
  have E1 : fv .f32 (elA b a x i) * fv .f32 (solO b a x s n i) - (fv .f32 (elS b a x s i) + 0 * fv .f32 (solO b a x s n (i + 1))) ≤ (37813 / 500) * (M * uu) := by grind
  have E2 : (fv .f32 (elS b a x s i) + 0 * fv .f32 (solO b a x s n (i + 1))) - fv .f32 (elA b a x i) * fv .f32 (solO b a x s n i) ≤ (37813 / 500) * (M * uu) := by grind
  have B := bk_step (qi := 0) (y2 := 0) (Z2 := 0) (δ := (508013 / 100) * (M * uu)) (e := (37813 / 500) * (M * uu)) (w := 1 / 5) Rat.le_refl (by grind) (by grind) (by grind) (show fv .f32 (elS b a x s i) - (fv .f32 (elA b a x i) * Z i - 0 * 0) ≤ (fv .f32 (elA b a x i) - 0) * D + epH M i by grind) (by grind) (by grind) (by grind) (show fv .f32 (elA b a x i) * fv .f32 (solO b a x s n i) - (fv .f32 (elS b a x s i) + 0 * 0) ≤ (37813 / 500) * (M * uu) by grind) (by grind) (by grind)
  exact ⟨y0, B.1, B.2, by rw [qz]; exact E1, by rw [qz]; exact E2⟩
theorem RowsH.ynext (h : RowsH n b a x s p W so Z M D Zm) {i : Nat} (hi : i + 1 < n) (hY : YdH n b a x s p Z M D (i + 1)) : YdH n b a x s p Z M D i := by
  obtain ⟨u0, u1, u2, u3⟩ := h.mu
  obtain ⟨D0, Z0, ZD, Zz⟩ := h.hD
  obtain ⟨M1, M2⟩ := h.hM
  have hn := h.hn
  obtain ⟨z1, z1'⟩ := h.hZ i
  obtain ⟨z2, z2'⟩ := h.hZ (i + 1)
  obtain ⟨r0, r1⟩ := h.hp (i + 1) (by omega)
  have hx := h.hx i (by omega)
  obtain ⟨m0, ml, mh⟩ := h.piv i (by omega)
  obtain ⟨S0, v1, v2⟩ := h.sd i (by omega)
  obtain ⟨e0, e6⟩ := epH_le (i := i) u3 (by omega)
  have qz : qiR p n i = p (i + 1) := qiR_in hi
  rw [qz] at v1 v2
  obtain ⟨y0, y1, y2, _, _⟩ := hY
  have eY := solO_next b a x s n hi
  have mp : 0 < fv .f32 (elA b a x i) := by grind
  obtain ⟨yw, hyw⟩ : ∃ y, solO b a x s n (i + 1) = y := ⟨_, rfl⟩
  rw [hyw] at y0 y1 y2 eY
  -- the product
  have yb1 : fv .f32 yw ≤ 1002 / 1000 * M := by grind
  have yb2 : -fv .f32 yw ≤ 1002 / 1000 * M := by grind
  have pb := mul_bd (a := 8) (b := 1002 / 1000 * M) (x := p (i + 1)) (y := fv .f32 yw) (by grind) r1 (by grind) yb1
  obtain ⟨c0, c1, c2⟩ := fop_u .mul rfl hx.1 y0 (by simp) (M := 8 * (1002 / 1000 * M)) (by grind) (by grind) (by simp only [ex]; rw [hx.2]; grind) (by simp only [ex]; rw [hx.2]; grind)
  simp only [ex] at c1 c2
  rw [hx.2] at c1 c2
  generalize fop .mul .f32 (x i) yw = pw at *
  -- the sum
  have k1 := Rat.mul_le_mul_of_nonneg_left z1 (Rat.le_of_lt mp)
  have k2 := Rat.mul_le_mul_of_nonneg_left z1' (Rat.le_of_lt mp)
  have k3 := Rat.mul_le_mul_of_nonneg_left ZD (Rat.le_of_lt mp)
  have k6 := Rat.mul_le_mul_of_nonneg_right mh (show 0 ≤ M by grind)
  have k7 := Rat.mul_le_mul_of_nonneg_left y1 r0
  have k8 := Rat.mul_le_mul_of_nonneg_left y2 r0
  have k9 := Rat.mul_le_mul_of_nonneg_right r1 (show 0 ≤ (508013 / 100) * (M * uu) by grind)
  have t1 : fv .f32 (elS b a x s i) + p (i + 1) * fv .f32 yw ≤ fv .f32 (elA b a x i) * M + 15 / 1000 * M := by grind
  have t2 : -(fv .f32 (elS b a x s i) + p (i + 1) * fv .f32 yw) ≤ fv .f32 (elA b a x i) * M + 15 / 1000 * M := by grind
  obtain ⟨d0, d1, d2⟩ := fop_u .sub rfl S0 c0 (by simp) (M := (32 + 2 / 10) * M) (by grind) (by grind) (by simp only [ex]; grind) (by simp only [ex]; grind)
  simp only [ex] at d1 d2
  generalize fop .sub .f32 (elS b a x s i) pw = tw at *
  -- the quotient
  have dv : fv .f32 tw / fv .f32 (elA b a x i) * fv .f32 (elA b a x i) = fv .f32 tw := Rat.div_mul_cancel (by grind)
  have k4 := Rat.mul_le_mul_of_nonneg_left ml (show 0 ≤ M by grind)
  have k5 := Rat.mul_nonneg (show 0 ≤ M by grind) r0
  have dn : -(fv .f32 tw / fv .f32 (elA b a x i)) * fv .f32 (elA b a x i) = -fv .f32 tw := by grind
  have q1 : fv .f32 tw / fv .f32 (elA b a x i) ≤ 11 / 10 * M := mul_cancel_le mp (by rw [dv]; grind)
  have q2 : -(fv .f32 tw / fv .f32 (elA b a x i)) ≤ 11 / 10 * M := mul_cancel_le mp (by rw [dn]; grind)
  obtain ⟨x0, x1, x2⟩ := fop_u .quo rfl d0 m0 (fun _ => by grind) (M := 11 / 10 * M) (by grind) (by grind) (by simp only [ex]; exact q1) (by simp only [ex]; exact q2)
  simp only [ex] at x1 x2
  rw [← eY] at x0 x1 x2
  generalize fv .f32 tw / fv .f32 (elA b a x i) = q at *
  have w1 := Rat.mul_le_mul_of_nonneg_right x1 (Rat.le_of_lt mp)
  have w2 := Rat.mul_le_mul_of_nonneg_right x2 (Rat.le_of_lt mp)
  have w3 := Rat.mul_le_mul_of_nonneg_left mh (Rat.le_of_lt u3)
  have E1 : fv .f32 (elA b a x i) * fv .f32 (solO b a x s n i) - (fv .f32 (elS b a x s i) + p (i + 1) * fv .f32 yw) ≤ (37813 / 500) * (M * uu) := by grind
  have E2 : (fv .f32 (elS b a x s i) + p (i + 1) * fv .f32 yw) - fv .f32 (elA b a x i) * fv .f32 (solO b a x s n i) ≤ (37813 / 500) * (M * uu) := by grind
  have B := bk_step (qi := p (i + 1)) (y2 := fv .f32 yw) (Z2 := Z (i + 1)) (δ := (508013 / 100) * (M * uu)) (e := (37813 / 500) * (M * uu)) (w := 1 / 5) r0 (by grind) ml (by grind) v1 v2 y1 y2 E1 E2 (by grind)
  exact ⟨x0, B.1, B.2, by rw [qz, hyw]; exact E1, by rw [qz, hyw]; exact E2⟩
theorem RowsH.yd (h : RowsH n b a x s p W so Z M D Zm) : ∀ j i, i + 1 + j = n → YdH n b a x s p Z M D i
  | 0, i, hi => h.ylast (by omega)
  | j + 1, i, hi => h.ynext (by omega) (h.yd j (i + 1) (by omega))
theorem RowsH.y (h : RowsH n b a x s p W so Z M D Zm) {i : Nat} (hi : i < n) : YdH n b a x s p Z M D i := h.yd (n - (i + 1)) i (by omega)
/-- What is left of a row. -/
theorem RowsH.res (h : RowsH n b a x s p W so Z M D Zm) {i : Nat} (hi : i < n) :
    (W i + p i + p (i + 1)) * fv .f32 (solO b a x s n i) - (if i = 0 then 0 else p i * fv .f32 (solO b a x s n (i - 1))) - qiR p n i * fv .f32 (solO b a x s n (i + 1)) - so i ≤ (154361 / 500) * (M * uu) ∧
    so i - ((W i + p i + p (i + 1)) * fv .f32 (solO b a x s n i) - (if i = 0 then 0 else p i * fv .f32 (solO b a x s n (i - 1))) - qiR p n i * fv .f32 (solO b a x s n (i + 1))) ≤ (154361 / 500) * (M * uu) := by
  obtain ⟨u0, u1, u2, u3⟩ := h.mu
  obtain ⟨D0, Z0, ZD, Zz⟩ := h.hD
  obtain ⟨M1, M2⟩ := h.hM
  have Y := h.y hi
  obtain ⟨z1, z1'⟩ := h.hZ i
  obtain ⟨s0, s1, s2⟩ := h.hs i hi
  have yb1 : fv .f32 (solO b a x s n i) ≤ 101 / 100 * M := by have := Y.y1; grind
  have yb2 : -fv .f32 (solO b a x s n i) ≤ 101 / 100 * M := by have := Y.y2; grind
  cases i with
  | zero =>
    obtain ⟨a0, a1, a2⟩ := h.ha 0 hi
    rw [if_pos rfl]
    have r := res_first (W := W 0) (p := p 0) (q := p 1) (qi := qiR p n 0) (m := fv .f32 (elA b a x 0)) (S := fv .f32 (elS b a x s 0)) (so := so 0) (c := 57 * uu) (k := 17 * (M * uu)) (e := (37813 / 500) * (M * uu)) (Y := 101 / 100 * M) a1 a2 s1 s2 Y.e1 Y.e2 yb1 yb2
    rw [show 0 + 1 = 1 from rfl] at *
    constructor
    · have := r.1; grind
    · have := r.2; grind
  | succ i =>
    rw [if_neg (by omega), show i + 1 - 1 = i by omega]
    have Y0 := h.y (i := i) (by omega)
    obtain ⟨z0, z0'⟩ := h.hZ i
    have L := h.lnk hi
    have S := (h.snext hi (h.sd i (by omega))).1
    have yc1 : fv .f32 (solO b a x s n i) ≤ 101 / 100 * M := by have := Y0.y1; grind
    have yc2 : -fv .f32 (solO b a x s n i) ≤ 101 / 100 * M := by have := Y0.y2; grind
    have q0 := Y0.e1
    have q1 := Y0.e2
    rw [qiR_in hi] at q0 q1
    have r := res_step (W := W (i + 1)) (p := p (i + 1)) (q := p (i + 2)) (qi := qiR p n (i + 1)) (g := 9 * uu) (c := 98 * uu) (d := (162 / 5) * (M * uu)) (k := 17 * (M * uu)) (e0 := (37813 / 500) * (M * uu)) (e := (37813 / 500) * (M * uu)) (Y := 101 / 100 * M) L.lo L.hi L.g1 L.g2 L.m1 L.m2 s1 s2 S.1 S.2 q0 q1 Y.e1 Y.e2 yc1 yc2 yb1 yb2 (by grind)
    rw [show i + 1 + 1 = i + 2 by omega] at *
    constructor
    · have := r.1; grind
    · have := r.2; grind
end
end Go.Proofs.Ytpnkapdemgieaaa

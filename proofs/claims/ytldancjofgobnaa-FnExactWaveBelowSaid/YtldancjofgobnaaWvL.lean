/-
  Waves below a ground: the law. True for every input. No condition.
-/
import Derived.Test.YtldancjofgobnaaWvC
set_option linter.unusedSimpArgs false
set_option linter.unusedVariables false
set_option linter.unusedSectionVars false
namespace Go.Proofs.Ytldancjofgobnaa
open Go Go.RowKit
open Go.ChangeShapes Go.WideShapes Go.ChangeAt Go.RowKit Go.Joins
/-- What is written is a number or an infinity. -/
theorem write_inf (f : Ieee.Format) {d : Ieee.Datum} (hd : d.isNaN = false) : isNum (f.read (f.write d)) = true ∨ ∃ s, f.write d = f.word s f.infRung := by
  have hlt := infRung_lt' f
  have hb := binade_pos' f
  have key : ∀ (s : Bool) (r : Nat), r < f.infRung → isNum (f.read (f.word s r)) = true := by
    intro s r h
    rw [read_wordR f s (by omega)]
    split
    · rfl
    · first | rfl | (rw [if_pos h]; rfl)
  cases d with
  | nan s t => cases hd
  | infinity s => exact .inr ⟨s, rfl⟩
  | number s m i =>
    show isNum (f.read (f.nearest s m i)) = true ∨ ∃ s', f.nearest s m i = f.word s' f.infRung
    unfold Ieee.Format.nearest
    by_cases h0 : m = 0
    · rw [if_pos h0]
      by_cases hp : 0 < f.infRung
      · exact .inl (key s 0 hp)
      · exact .inr ⟨s, by rw [show f.infRung = 0 by omega]⟩
    · rw [if_neg h0]
      dsimp only
      generalize (max (i + (m.log2 : Int) - (f.fractionBits : Int)) f.leastPlace - f.leastPlace).toNat * f.binade + Ieee.Toward.even.cut s (m <<< (i - max (i + (m.log2 : Int) - (f.fractionBits : Int)) f.leastPlace).toNat) (max (i + (m.log2 : Int) - (f.fractionBits : Int)) f.leastPlace - i).toNat = z
      by_cases hz : z < f.infRung
      · rw [Nat.min_eq_left (Nat.le_of_lt hz)]; exact .inl (key s z hz)
      · rw [Nat.min_eq_right (by omega)]; exact .inr ⟨s, rfl⟩
/-- A quotient of numbers by one that is not nothing. -/
theorem quo_inf {x y : Nat} (hx : fnt .f32 x = true) (hy : fnt .f32 y = true) (h0 : fv .f32 y ≠ 0) : fnt .f32 (fop .quo .f32 x y) = true ∨ ∃ s, fop .quo .f32 x y = FloatKind.f32.format.word s FloatKind.f32.format.infRung := by
  obtain ⟨s, m, i, e⟩ := fnt_read hx
  obtain ⟨t, n, j, e2⟩ := fnt_read hy
  have hn : n ≠ 0 := by
    have e9 := (fv_of e2).2
    rintro rfl
    apply h0
    rw [e9]
    have z : ((0 : Nat) : Rat) = 0 := rfl
    rw [z]; grind
  have key : ∃ d : Ieee.Datum, d.isNaN = false ∧ fop .quo .f32 x y = FloatKind.f32.format.write d := by
    have hq : ∃ d, (FloatKind.f32.format.read x).quotient (FloatKind.f32.format.fractionBits + 2) (FloatKind.f32.format.read y) = some d := by
      rw [e, e2]
      simp only [Ieee.Datum.quotient, if_neg hn]
      exact ⟨_, rfl⟩
    obtain ⟨d, hd⟩ := hq
    refine ⟨d, quotient_not_nan hd, ?_⟩
    have : floatBits .quo .f32 x y = some (FloatKind.f32.format.write d) := by
      show FloatKind.f32.format.div x y = _
      unfold Ieee.Format.div
      rw [hd]; rfl
    unfold fop
    rw [this]; rfl
  obtain ⟨d, h1, h2⟩ := key
  rw [h2]
  exact write_inf _ h1
/-- Positive by positive: not below nothing. -/
theorem quo_sg {x y : Nat} (hx : fnt .f32 x = true) (hy : fnt .f32 y = true) (h0 : 0 < fv .f32 y) (h1 : 0 < fv .f32 x) (hq : fnt .f32 (fop .quo .f32 x y) = true) : 0 ≤ fv .f32 (fop .quo .f32 x y) := by
  obtain ⟨s, m, i, e⟩ := fnt_read hx
  obtain ⟨t, n, j, e2⟩ := fnt_read hy
  have ex1 := (fv_of e).2
  have ey1 := (fv_of e2).2
  have mp := Rat.mul_nonneg (show (0 : Rat) ≤ (m : Rat) by exact_mod_cast Nat.zero_le m) (Rat.le_of_lt (tp_pos i))
  have np := Rat.mul_nonneg (show (0 : Rat) ≤ (n : Rat) by exact_mod_cast Nat.zero_le n) (Rat.le_of_lt (tp_pos j))
  have st : sg true = -1 := rfl
  have hs : s = false := by
    cases s with
    | false => rfl
    | true => rw [st] at ex1; exfalso; grind
  have ht : t = false := by
    cases t with
    | false => rfl
    | true => rw [st] at ey1; exfalso; grind
  subst hs ht
  have hn : n ≠ 0 := by
    rintro rfl
    have z : ((0 : Nat) : Rat) = 0 := rfl
    rw [z] at ey1; grind
  have hQ : ∃ a b, fop .quo .f32 x y = FloatKind.f32.format.nearest false a b := by
    have hq : ∃ a b, (FloatKind.f32.format.read x).quotient (FloatKind.f32.format.fractionBits + 2) (FloatKind.f32.format.read y) = some (.number false a b) := by
      rw [e, e2]
      simp only [Ieee.Datum.quotient, if_neg hn]
      exact ⟨_, _, rfl⟩
    obtain ⟨a, b, hd⟩ := hq
    refine ⟨a, b, ?_⟩
    have : floatBits .quo .f32 x y = some (FloatKind.f32.format.nearest false a b) := by
      show FloatKind.f32.format.div x y = _
      unfold Ieee.Format.div
      rw [hd]; rfl
    unfold fop
    rw [this]; rfl
  obtain ⟨a, b, hQ⟩ := hQ
  have hw : ∃ z, z ≤ FloatKind.f32.format.infRung ∧ fop .quo .f32 x y = FloatKind.f32.format.word false z := by
    rw [hQ]
    unfold Ieee.Format.nearest
    split
    · exact ⟨0, Nat.zero_le _, rfl⟩
    · exact ⟨_, Nat.min_le_right _ _, rfl⟩
  obtain ⟨z, hz, hw⟩ := hw
  have hlt := infRung_lt' FloatKind.f32.format
  have hb := binade_pos' FloatKind.f32.format
  have hr : ∃ m' p', FloatKind.f32.format.read (fop .quo .f32 x y) = .number false m' p' := by
    have hq2 := hq
    unfold fnt at hq2
    rw [hw, read_wordR _ false (by omega)] at hq2 ⊢
    split
    · exact ⟨_, _, rfl⟩
    · rename_i h1
      rw [if_neg h1] at hq2
      split
      · exact ⟨_, _, rfl⟩
      · rename_i h2
        rw [if_neg h2] at hq2
        split at hq2 <;> cases hq2
  obtain ⟨m', p', hr⟩ := hr
  rw [(fv_of hr).2]
  have sf : sg false = 1 := rfl
  rw [sf]
  have := Rat.mul_nonneg (show (0 : Rat) ≤ (m' : Rat) by exact_mod_cast Nat.zero_le m') (Rat.le_of_lt (tp_pos p'))
  grind
theorem top32 {x : Nat} (h : fnt .f32 x = true) : fv .f32 x ≤ tp 128 ∧ -fv .f32 x ≤ tp 128 := by
  obtain ⟨s, m, p, e⟩ := fnt_read h
  have b : m < 16777216 ∧ p ≤ 104 := by
    have e2 := e
    unfold Ieee.Format.read at e2
    have c1 : FloatKind.f32.format.signWeight = 2147483648 := by decide
    have c2 : FloatKind.f32.format.binade = 8388608 := by decide
    have c3 : FloatKind.f32.format.infRung = 2139095040 := by decide
    have c4 : FloatKind.f32.format.leastPlace = -149 := by decide
    rw [c1, c2, c3, c4] at e2
    dsimp only at e2
    split at e2
    · injection e2 with h1 h2 h3; omega
    · split at e2
      · injection e2 with h1 h2 h3; omega
      · split at e2 <;> cases e2
  obtain ⟨_, ev⟩ := fv_of e
  have k1 : (m : Rat) ≤ ((16777216 : Nat) : Rat) := by exact_mod_cast (by omega : m ≤ 16777216)
  have k2 := tp_le b.2
  have tp0 := tp_pos p
  have m0 : (0 : Rat) ≤ (m : Rat) := by exact_mod_cast Nat.zero_le m
  have a1 := Rat.mul_le_mul_of_nonneg_right k1 (Rat.le_of_lt tp0)
  have a2 := Rat.mul_le_mul_of_nonneg_left k2 (show (0 : Rat) ≤ ((16777216 : Nat) : Rat) by decide)
  have e5 : ((16777216 : Nat) : Rat) * tp 104 = tp 128 := by
    have : ((16777216 : Nat) : Rat) = tp (24 : Nat) := (tp_nat 24).symm
    rw [this, ← tp_add]; rfl
  rw [e5] at a2
  have mp := Rat.mul_nonneg m0 (Rat.le_of_lt tp0)
  rw [ev]
  cases s
  · have : sg false = 1 := rfl
    rw [this]; exact ⟨by grind, by have := tp_pos 128; grind⟩
  · have : sg true = -1 := rfl
    rw [this]; exact ⟨by have := tp_pos 128; grind, by grind⟩
theorem fits_exG {x : Nat} (h : fnt .f64 x = true) (h0 : fv .f64 x ≤ 0) : fits (exG x) = true := by
  obtain ⟨⟨a0, a1⟩, b0, b1⟩ := hundred_val
  unfold exG
  have f1 : fgt .f64 x (cn .f64 4641240890982006784) = false := by rw [fgtv h a0, a1]; exact decide_eq_false (by grind)
  rw [f1, if_neg Bool.false_ne_true]
  by_cases hl : flt .f64 x (cn .f64 13864612927836782592) = true
  · rw [if_pos hl]; decide +kernel
  · rw [if_neg hl]
    rw [fltv h b0, b1] at hl
    have hl : ¬ fv .f64 x < -200 := fun hh => hl (decide_eq_true hh)
    obtain ⟨e0, e1, e2⟩ := exV_btw (x := x) ⟨h, by grind, h0⟩
    exact (narrow_bnd (b := 1) ⟨e0, by grind, e2⟩ (Rep.int (k := .f32) 1 (by decide))).1
def wvQ (d r : Nat) : Nat := fop .quo .f32 d r
def wvN (d r : Nat) : Nat := fneg .f32 (wvQ d r)
def wvT (d r : Nat) : Nat := wide (fop .quo .f32 (wvN d r) (cn .f32 1086918619))
/-- The three ways of a wave. -/
theorem wave_ways {d r : Nat} (hd : lst d = true) (hr : abv r = true) :
    (feq .f64 (wide (wvN d r)) (wide (wvN d r)) = true ∧ fits (exG (wide (wvN d r))) = true) ∧
    ((fin .f32 (wvQ d r) = false ∧ feq .f64 (fop .sub .f64 (wvT d r) (wvT d r)) (cn .f64 0) = false) ∨
     (fin .f32 (wvQ d r) = true ∧ fnt .f64 (wvT d r) = true ∧ fv .f64 (wvT d r) ≤ -4503599627370496) ∨
     (fin .f32 (wvQ d r) = true ∧ Tame (wvT d r))) := by
  unfold lst at hd
  unfold abv at hr
  rw [Bool.and_eq_true] at hd hr
  obtain ⟨hd0, hd1⟩ := hd
  obtain ⟨hr0, hr1⟩ := hr
  have fd : fnt .f32 d = true := by rw [fnt_fin]; exact hd0
  have fr : fnt .f32 r = true := by rw [fnt_fin]; exact hr0
  rw [fgev fd V0.1, V0.2] at hd1
  rw [fgtv fr V0.1, V0.2] at hr1
  have hd1 := of_decide_eq_true hd1
  have hr1 := of_decide_eq_true hr1
  have r0 : Rep .f32 (0 : Rat) := Rep.int (k := .f32) 0 (by decide)
  rcases quo_inf fd fr (by grind) with hq | ⟨s, hq⟩
  · have hq : fnt .f32 (wvQ d r) = true := hq
    have q0 : 0 ≤ fv .f32 (wvQ d r) := by
      by_cases hz : fv .f32 d = 0
      · have : ex .quo (fv .f32 d) (fv .f32 r) = 0 := by simp only [ex]; rw [hz]; grind
        have := fop_btw .quo rfl .f32 (a := 0) (b := 0) fd fr (fun _ => by grind) r0 r0 (by rw [this]; exact Rat.le_refl) (by rw [this]; exact Rat.le_refl)
        exact this.2.1
      · exact quo_sg fd fr hr1 (by grind) hq
    obtain ⟨n0, n1⟩ := fneg_val hq
    have n0 : fnt .f32 (wvN d r) = true := n0
    have n1 : fv .f32 (wvN d r) = -fv .f32 (wvQ d r) := n1
    obtain ⟨w0, w1⟩ := wide_val n0
    have c0 : fnt .f32 (cn .f32 1086918619) = true := by decide +kernel
    have c1 : 4 ≤ fv .f32 (cn .f32 1086918619) := by decide +kernel
    have cp : 0 < fv .f32 (cn .f32 1086918619) := by grind
    obtain ⟨t1, t2⟩ := top32 hq
    have fq : fin .f32 (wvQ d r) = true := by rw [← fnt_fin]; exact hq
    have e126 : tp 126 * 4 = tp 128 := by
      have h : tp 128 = tp 126 * tp 2 := by rw [← tp_add]; rfl
      rw [h, show tp 2 = 4 from (tp_nat 2).trans rfl]
    have dv : fv .f32 (wvN d r) / fv .f32 (cn .f32 1086918619) * fv .f32 (cn .f32 1086918619) = fv .f32 (wvN d r) := Rat.div_mul_cancel (by grind)
    have t126 := tp_pos 126
    have m1 := Rat.mul_le_mul_of_nonneg_left c1 (Rat.le_of_lt t126)
    have hlow : -tp 126 ≤ fv .f32 (wvN d r) / fv .f32 (cn .f32 1086918619) := mul_cancel_le cp (by rw [dv, n1]; grind)
    have hup : fv .f32 (wvN d r) / fv .f32 (cn .f32 1086918619) ≤ 0 := mul_cancel_le cp (by rw [dv, n1]; grind)
    have r126 : Rep .f32 (tp 126) := Rep.tp 126 (by decide) (by decide)
    obtain ⟨u0, u1, u2⟩ := fop_btw .quo rfl .f32 (a := -tp 126) (b := 0) n0 c0 (fun _ => by grind) r126.neg r0 (by simp only [ex]; exact hlow) (by simp only [ex]; exact hup)
    obtain ⟨x0, x1⟩ := wide_val u0
    have x0 : fnt .f64 (wvT d r) = true := x0
    have x1 : fv .f64 (wvT d r) = fv .f32 (fop .quo .f32 (wvN d r) (cn .f32 1086918619)) := x1
    refine ⟨⟨by rw [feqv w0 w0]; exact decide_eq_true rfl, fits_exG w0 (by rw [w1, n1]; grind)⟩, .inr ?_⟩
    by_cases ht : fv .f64 (wvT d r) ≤ -4503599627370496
    · exact .inl ⟨fq, x0, ht⟩
    · exact .inr ⟨fq, x0, by grind, by rw [x1]; grind⟩
  · have hq : wvQ d r = FloatKind.f32.format.word s FloatKind.f32.format.infRung := hq
    unfold wvT wvN
    rw [hq]
    cases s
    · have e : FloatKind.f32.format.word false FloatKind.f32.format.infRung = 2139095040 := by decide
      rw [e]
      exact ⟨⟨by decide +kernel, by decide +kernel⟩, .inl ⟨by decide +kernel, by decide +kernel⟩⟩
    · have e : FloatKind.f32.format.word true FloatKind.f32.format.infRung = 4286578688 := by decide
      rw [e]
      exact ⟨⟨by decide +kernel, by decide +kernel⟩, .inl ⟨by decide +kernel, by decide +kernel⟩⟩
theorem implScale_any (a b e : Nat) (w : World) : Calls Try.prog 17 #[.complex .f32 a b, .float .f32 e] w (RC w (fop .mul .f32 (cn .f32 a) (cn .f32 e)) (fop .mul .f32 (cn .f32 b) (cn .f32 e))) := by
  go_enter Try.func17, Try.ntmps17
  go_wp2_with (first | (with_reducible refine at_list ?_; refine wpList_fop rfl rfl rfl rfl rfl ?_; intro r n hr0; have hr := hr0 _ _ (by first | with_reducible assumption | exact rfl) (by first | with_reducible assumption | exact rfl); clear hr0) | (with_reducible refine at_list ?_; refine wpList_neg rfl rfl rfl ?_; intro r hr0; have hr := hr0 _ (by first | with_reducible assumption | exact rfl); clear hr0) | (with_reducible refine at_list ?_; refine wpList_fop_g rfl rfl rfl rfl rfl ?_; intro r n hr0; have hr := hr0 _ _ (by first | with_reducible assumption | exact rfl) (by first | with_reducible assumption | exact rfl); clear hr0) | (with_reducible refine at_list ?_; refine wpList_wide_g rfl rfl Try.underlying22 Try.underlying32 rfl ?_; intro r n hr0; have hr := hr0 _ (by first | with_reducible assumption | exact rfl); clear hr0) | (with_reducible refine at_list ?_; refine wpList_wide rfl rfl rfl Try.underlying22 Try.underlying32 ?_; intro r n hr0; have hr := hr0 _ (by first | with_reducible assumption | exact rfl); clear hr0))
  go_ret
  exact ⟨_, _, rfl, by assumption, by assumption, by first | (repeat (first | (with_reducible exact Below.refl _ _) | (with_reducible assumption) | (with_reducible refine below_then ?_ (by assumption)) | (with_reducible refine Below.trans ?_ (by assumption)) | (with_reducible refine below_drewN ?_ _) | (with_reducible apply Below.drew) | (with_reducible refine below_alloc ?_ _) | refine Below.setCell ?_ (by first | (simp; done) | (simp; omega)) _)) | exact below_drewN (Below.refl _ _) _⟩
theorem l01Scale_any (a b e : Nat) (w : World) : Calls Try.prog 9 #[.complex .f32 a b, .float .f32 e] w (RC w (fop .mul .f32 (cn .f32 a) (cn .f32 e)) (fop .mul .f32 (cn .f32 b) (cn .f32 e))) := by
  go_enter Try.func9, Try.ntmps9
  go_wp2_with (first | (with_reducible refine at_list ?_; refine wpList_fop rfl rfl rfl rfl rfl ?_; intro r n hr0; have hr := hr0 _ _ (by first | with_reducible assumption | exact rfl) (by first | with_reducible assumption | exact rfl); clear hr0) | (with_reducible refine at_list ?_; refine wpList_neg rfl rfl rfl ?_; intro r hr0; have hr := hr0 _ (by first | with_reducible assumption | exact rfl); clear hr0) | (with_reducible refine at_list ?_; refine wpList_fop_g rfl rfl rfl rfl rfl ?_; intro r n hr0; have hr := hr0 _ _ (by first | with_reducible assumption | exact rfl) (by first | with_reducible assumption | exact rfl); clear hr0) | (with_reducible refine at_list ?_; refine wpList_wide_g rfl rfl Try.underlying22 Try.underlying32 rfl ?_; intro r n hr0; have hr := hr0 _ (by first | with_reducible assumption | exact rfl); clear hr0) | (with_reducible refine at_list ?_; refine wpList_wide rfl rfl rfl Try.underlying22 Try.underlying32 ?_; intro r n hr0; have hr := hr0 _ (by first | with_reducible assumption | exact rfl); clear hr0))
  go_ret
  exact ⟨_, _, rfl, by assumption, by assumption, by first | (repeat (first | (with_reducible exact Below.refl _ _) | (with_reducible assumption) | (with_reducible refine below_then ?_ (by assumption)) | (with_reducible refine Below.trans ?_ (by assumption)) | (with_reducible refine below_drewN ?_ _) | (with_reducible apply Below.drew) | (with_reducible refine below_alloc ?_ _) | refine Below.setCell ?_ (by first | (simp; done) | (simp; omega)) _)) | exact below_drewN (Below.refl _ _) _⟩
/-- What a wave's words give. -/
def wvB (A B E : Nat) : Bool := fin .f32 (fop .mul .f32 A E) && fin .f32 (fop .mul .f32 B E)
theorem implWave_no (d r : Nat) (w : World) (h : (lst (cn .f32 d) && abv (cn .f32 r)) = false) : Calls Try.prog 5 #[.float .f32 d, .float .f32 r] w (BCB w 0 0 false) := by
  have HA := Lib.hid (fun v w hs => arePos1_any r v w hs)
  rcases h0 : fin .f32 (cn .f32 d)
  · clear h
    go_enter Try.func5, Try.ntmps5
    go_wp2_with (first | (with_reducible refine at_list ?_; refine wpList_fop rfl rfl rfl rfl rfl ?_; intro r n hr0; have hr := hr0 _ _ (by first | with_reducible assumption | exact rfl) (by first | with_reducible assumption | exact rfl); clear hr0) | (with_reducible refine at_list ?_; refine wpList_neg rfl rfl rfl ?_; intro r hr0; have hr := hr0 _ (by first | with_reducible assumption | exact rfl); clear hr0) | (with_reducible refine at_list ?_; refine wpList_fop_g rfl rfl rfl rfl rfl ?_; intro r n hr0; have hr := hr0 _ _ (by first | with_reducible assumption | exact rfl) (by first | with_reducible assumption | exact rfl); clear hr0) | (with_reducible refine at_list ?_; refine wpList_wide_g rfl rfl Try.underlying22 Try.underlying32 rfl ?_; intro r n hr0; have hr := hr0 _ (by first | with_reducible assumption | exact rfl); clear hr0) | (with_reducible refine at_list ?_; refine wpList_wide rfl rfl rfl Try.underlying22 Try.underlying32 ?_; intro r n hr0; have hr := hr0 _ (by first | with_reducible assumption | exact rfl); clear hr0) | (go_at_call 14; refine (IsFinite_any _ _).mono ?_; rintro e w' ⟨rfl, n, rfl⟩) | (go_at_call 15; refine (arePositive_any _ _ _ (by assumption)).mono ?_; rintro e w' ⟨rfl, n, rfl⟩) | (go_at_call 16; refine (checkedC_any _ _ _).mono ?_; rintro e w' ⟨x, y, rfl, hcx, hcy, hb⟩; obtain ⟨hT, hk⟩ := bv_next hb (by (repeat (with_reducible first | assumption | apply Trk.alloc | apply Trk.setCell | apply Trk.drewN | apply Trk.drew | exact Trk.nil _))); simp only [SameOn, World.size_alloc, World.size_setCell, World.size_drew, size_drewN', and_true] at hk; have hsz := Below.size hb; (try simp only [World.size_alloc, World.size_setCell, World.size_drew, size_drewN'] at hsz)))
    all_goals
      go_ret2
      exact ⟨_, _, rfl, rfl, rfl, by (repeat (first | (with_reducible exact Below.refl _ _) | (with_reducible assumption) | (with_reducible refine below_then ?_ (by assumption)) | (with_reducible refine Below.trans ?_ (by assumption)) | (with_reducible refine below_drewN ?_ _) | (with_reducible apply Below.drew) | (with_reducible refine below_alloc ?_ _) | refine Below.setCell ?_ (by first | (simp; done) | (simp; omega)) _))⟩
  have hlt : flt .f32 (cn .f32 d) (cn .f32 0) = !fge .f32 (cn .f32 d) (cn .f32 0) := flt_not_fge (fin_not_nan h0) (by rw [isN_cn]; exact isN_lit .f32)
  rcases h1 : fge .f32 (cn .f32 d) (cn .f32 0)
  · rw [h1] at hlt
    simp only [Bool.not_false] at hlt
    clear h h1
    go_enter Try.func5, Try.ntmps5
    go_wp2_with (first | (with_reducible refine at_list ?_; refine wpList_fop rfl rfl rfl rfl rfl ?_; intro r n hr0; have hr := hr0 _ _ (by first | with_reducible assumption | exact rfl) (by first | with_reducible assumption | exact rfl); clear hr0) | (with_reducible refine at_list ?_; refine wpList_neg rfl rfl rfl ?_; intro r hr0; have hr := hr0 _ (by first | with_reducible assumption | exact rfl); clear hr0) | (with_reducible refine at_list ?_; refine wpList_fop_g rfl rfl rfl rfl rfl ?_; intro r n hr0; have hr := hr0 _ _ (by first | with_reducible assumption | exact rfl) (by first | with_reducible assumption | exact rfl); clear hr0) | (with_reducible refine at_list ?_; refine wpList_wide_g rfl rfl Try.underlying22 Try.underlying32 rfl ?_; intro r n hr0; have hr := hr0 _ (by first | with_reducible assumption | exact rfl); clear hr0) | (with_reducible refine at_list ?_; refine wpList_wide rfl rfl rfl Try.underlying22 Try.underlying32 ?_; intro r n hr0; have hr := hr0 _ (by first | with_reducible assumption | exact rfl); clear hr0) | (go_at_call 14; refine (IsFinite_any _ _).mono ?_; rintro e w' ⟨rfl, n, rfl⟩) | (go_at_call 15; refine (arePositive_any _ _ _ (by assumption)).mono ?_; rintro e w' ⟨rfl, n, rfl⟩) | (go_at_call 16; refine (checkedC_any _ _ _).mono ?_; rintro e w' ⟨x, y, rfl, hcx, hcy, hb⟩; obtain ⟨hT, hk⟩ := bv_next hb (by (repeat (with_reducible first | assumption | apply Trk.alloc | apply Trk.setCell | apply Trk.drewN | apply Trk.drew | exact Trk.nil _))); simp only [SameOn, World.size_alloc, World.size_setCell, World.size_drew, size_drewN', and_true] at hk; have hsz := Below.size hb; (try simp only [World.size_alloc, World.size_setCell, World.size_drew, size_drewN'] at hsz)))
    all_goals
      go_ret2
      exact ⟨_, _, rfl, rfl, rfl, by (repeat (first | (with_reducible exact Below.refl _ _) | (with_reducible assumption) | (with_reducible refine below_then ?_ (by assumption)) | (with_reducible refine Below.trans ?_ (by assumption)) | (with_reducible refine below_drewN ?_ _) | (with_reducible apply Below.drew) | (with_reducible refine below_alloc ?_ _) | refine Below.setCell ?_ (by first | (simp; done) | (simp; omega)) _))⟩
  rw [h1] at hlt
  simp only [Bool.not_true] at hlt
  have h2 : abv (cn .f32 r) = false := by
    unfold lst at h
    rw [h0, h1] at h
    exact h
  rw [h2] at HA
  clear h h1 h2
  go_enter Try.func5, Try.ntmps5
  go_wp2_with (first | (with_reducible refine at_list ?_; refine wpList_fop rfl rfl rfl rfl rfl ?_; intro r n hr0; have hr := hr0 _ _ (by first | with_reducible assumption | exact rfl) (by first | with_reducible assumption | exact rfl); clear hr0) | (with_reducible refine at_list ?_; refine wpList_neg rfl rfl rfl ?_; intro r hr0; have hr := hr0 _ (by first | with_reducible assumption | exact rfl); clear hr0) | (with_reducible refine at_list ?_; refine wpList_fop_g rfl rfl rfl rfl rfl ?_; intro r n hr0; have hr := hr0 _ _ (by first | with_reducible assumption | exact rfl) (by first | with_reducible assumption | exact rfl); clear hr0) | (with_reducible refine at_list ?_; refine wpList_wide_g rfl rfl Try.underlying22 Try.underlying32 rfl ?_; intro r n hr0; have hr := hr0 _ (by first | with_reducible assumption | exact rfl); clear hr0) | (with_reducible refine at_list ?_; refine wpList_wide rfl rfl rfl Try.underlying22 Try.underlying32 ?_; intro r n hr0; have hr := hr0 _ (by first | with_reducible assumption | exact rfl); clear hr0) | (go_at_call 14; refine (IsFinite_any _ _).mono ?_; rintro e w' ⟨rfl, n, rfl⟩) | (go_at_call 15; refine ((HA.out _ _ (FS1 (by go_simp <;> exact rfl))) ).mono ?_; rintro e w' ⟨rfl, n, rfl⟩) | (go_at_call 16; refine (checkedC_any _ _ _).mono ?_; rintro e w' ⟨x, y, rfl, hcx, hcy, hb⟩; obtain ⟨hT, hk⟩ := bv_next hb (by (repeat (with_reducible first | assumption | apply Trk.alloc | apply Trk.setCell | apply Trk.drewN | apply Trk.drew | exact Trk.nil _))); simp only [SameOn, World.size_alloc, World.size_setCell, World.size_drew, size_drewN', and_true] at hk; have hsz := Below.size hb; (try simp only [World.size_alloc, World.size_setCell, World.size_drew, size_drewN'] at hsz)))
  all_goals
    go_ret2
    exact ⟨_, _, rfl, rfl, rfl, by (repeat (first | (with_reducible exact Below.refl _ _) | (with_reducible assumption) | (with_reducible refine below_then ?_ (by assumption)) | (with_reducible refine Below.trans ?_ (by assumption)) | (with_reducible refine below_drewN ?_ _) | (with_reducible apply Below.drew) | (with_reducible refine below_alloc ?_ _) | refine Below.setCell ?_ (by first | (simp; done) | (simp; omega)) _))⟩
theorem implWave_yes (d r A B E : Nat) (w : World) (h : (lst (cn .f32 d) && abv (cn .f32 r)) = true)
    (hP : ∀ x w, cn .f64 x = wvT (cn .f32 d) (cn .f32 r) → Calls Try.prog 18 #[.float .f64 x] w (RC w A B)) (hE : ∀ x w, cn .f32 x = wvN (cn .f32 d) (cn .f32 r) → Calls Try.prog 19 #[.float .f32 x] w (BF w .f32 E)) :
    Calls Try.prog 5 #[.float .f32 d, .float .f32 r] w (BCB w (if wvB A B E then fop .mul .f32 A E else 0) (if wvB A B E then fop .mul .f32 B E else 0) (wvB A B E)) := by
  rw [Bool.and_eq_true] at h
  have hA := h.2
  unfold lst at h
  rw [Bool.and_eq_true] at h
  have h0 := h.1.1
  have h1 := h.1.2
  have hlt : flt .f32 (cn .f32 d) (cn .f32 0) = !fge .f32 (cn .f32 d) (cn .f32 0) := flt_not_fge (fin_not_nan h0) (by rw [isN_cn]; exact isN_lit .f32)
  rw [h1] at hlt
  simp only [Bool.not_true] at hlt
  have HA := Lib.hid (fun v w hs => (hA ▸ arePos1_any r v w hs : Calls Try.prog 15 #[v] w (RB w _)))
  have HT : Hid (wvT (cn .f32 d) (cn .f32 r) = wide (fop .quo .f32 (fneg .f32 (fop .quo .f32 (cn .f32 d) (cn .f32 r))) (cn .f32 1086918619))) := rfl
  have HN : Hid (wvN (cn .f32 d) (cn .f32 r) = fneg .f32 (fop .quo .f32 (cn .f32 d) (cn .f32 r))) := rfl
  have HP := Lib.hid hP
  have HE := Lib.hid hE
  have HW : Hid (∀ w x y, cn .f32 x = fop .mul .f32 A E → cn .f32 y = fop .mul .f32 B E → Calls Try.prog 16 #[.complex .f32 x y] w (BCB w (if wvB A B E then fop .mul .f32 A E else 0) (if wvB A B E then fop .mul .f32 B E else 0) (wvB A B E))) := fun w x y hx hy => by
    have := checkedC_any x y w
    rw [hx, hy] at this
    exact this
  clear h h1 hA hP hE
  generalize wvB A B E = b at *
  generalize (if b then fop .mul .f32 A E else 0) = X at *
  generalize (if b then fop .mul .f32 B E else 0) = Y at *
  have HS : Hid (∀ w x y e, cn .f32 x = A → cn .f32 y = B → cn .f32 e = E → Calls Try.prog 17 #[.complex .f32 x y, .float .f32 e] w (RC w (fop .mul .f32 A E) (fop .mul .f32 B E))) := fun w x y e hx hy he => by
    have := implScale_any x y e w
    rw [hx, hy, he] at this
    exact this
  rw [HT.out] at HP
  rw [HN.out] at HE
  clear HT HN
  generalize fop .mul .f32 A E = F at *
  generalize fop .mul .f32 B E = G at *
  go_enter Try.func5, Try.ntmps5
  go_wp2_with (first | (with_reducible refine at_list ?_; refine wpList_fop rfl rfl rfl rfl rfl ?_; intro r n hr0; have hr := hr0 _ _ (by first | with_reducible assumption | exact rfl) (by first | with_reducible assumption | exact rfl); clear hr0) | (with_reducible refine at_list ?_; refine wpList_neg rfl rfl rfl ?_; intro r hr0; have hr := hr0 _ (by first | with_reducible assumption | exact rfl); clear hr0) | (with_reducible refine at_list ?_; refine wpList_fop_g rfl rfl rfl rfl rfl ?_; intro r n hr0; have hr := hr0 _ _ (by first | with_reducible assumption | exact rfl) (by first | with_reducible assumption | exact rfl); clear hr0) | (with_reducible refine at_list ?_; refine wpList_wide_g rfl rfl Try.underlying22 Try.underlying32 rfl ?_; intro r n hr0; have hr := hr0 _ (by first | with_reducible assumption | exact rfl); clear hr0) | (with_reducible refine at_list ?_; refine wpList_wide rfl rfl rfl Try.underlying22 Try.underlying32 ?_; intro r n hr0; have hr := hr0 _ (by first | with_reducible assumption | exact rfl); clear hr0) | (go_at_call 18; refine (HP.out _ _ (by with_reducible assumption)).mono ?_; rintro e w' ⟨x1, y1, rfl, hx1, hy1, hb⟩; obtain ⟨hT, hk⟩ := bv_next hb (by (repeat (with_reducible first | assumption | apply Trk.alloc | apply Trk.setCell | apply Trk.drewN | apply Trk.drew | exact Trk.nil _))); simp only [SameOn, World.size_alloc, World.size_setCell, World.size_drew, size_drewN', and_true] at hk; have hsz := Below.size hb; (try simp only [World.size_alloc, World.size_setCell, World.size_drew, size_drewN'] at hsz)) | (go_at_call 17; refine (HS.out _ _ _ _ (by with_reducible assumption) (by with_reducible assumption) (by with_reducible assumption)).mono ?_; rintro e w' ⟨x2, y2, rfl, hx2, hy2, hb⟩; obtain ⟨hT, hk⟩ := bv_next hb (by (repeat (with_reducible first | assumption | apply Trk.alloc | apply Trk.setCell | apply Trk.drewN | apply Trk.drew | exact Trk.nil _))); simp only [SameOn, World.size_alloc, World.size_setCell, World.size_drew, size_drewN', and_true] at hk; have hsz := Below.size hb; (try simp only [World.size_alloc, World.size_setCell, World.size_drew, size_drewN'] at hsz)) | (go_at_call 16; refine (HW.out _ _ _ (by with_reducible assumption) (by with_reducible assumption)).mono ?_; rintro e w' ⟨x3, y3, rfl, hx3, hy3, hb⟩; obtain ⟨hT, hk⟩ := bv_next hb (by (repeat (with_reducible first | assumption | apply Trk.alloc | apply Trk.setCell | apply Trk.drewN | apply Trk.drew | exact Trk.nil _))); simp only [SameOn, World.size_alloc, World.size_setCell, World.size_drew, size_drewN', and_true] at hk; have hsz := Below.size hb; (try simp only [World.size_alloc, World.size_setCell, World.size_drew, size_drewN'] at hsz)) | (go_at_call 14; refine (IsFinite_any _ _).mono ?_; rintro e w' ⟨rfl, n, rfl⟩) | (go_at_call 15; refine ((HA.out _ _ (FS1 (by go_simp <;> exact rfl))) ).mono ?_; rintro e w' ⟨rfl, n, rfl⟩) | (go_at_call 19; refine ((HE.out _ _ (by with_reducible assumption)) ).mono ?_; rintro e w' ⟨r, rfl, hr, hb⟩; obtain ⟨hT, hk⟩ := bv_next hb (by (repeat (with_reducible first | assumption | apply Trk.alloc | apply Trk.setCell | apply Trk.drewN | apply Trk.drew | exact Trk.nil _))); simp only [SameOn, World.size_alloc, World.size_setCell, World.size_drew, size_drewN', and_true] at hk; have hsz := Below.size hb; (try simp only [World.size_alloc, World.size_setCell, World.size_drew, size_drewN'] at hsz)) | (go_at_call 16; refine (checkedC_any _ _ _).mono ?_; rintro e w' ⟨x, y, rfl, hcx, hcy, hb⟩; obtain ⟨hT, hk⟩ := bv_next hb (by (repeat (with_reducible first | assumption | apply Trk.alloc | apply Trk.setCell | apply Trk.drewN | apply Trk.drew | exact Trk.nil _))); simp only [SameOn, World.size_alloc, World.size_setCell, World.size_drew, size_drewN', and_true] at hk; have hsz := Below.size hb; (try simp only [World.size_alloc, World.size_setCell, World.size_drew, size_drewN'] at hsz)))
  go_ret2
  exact ⟨_, _, rfl, by assumption, by assumption, by (repeat (first | (with_reducible exact Below.refl _ _) | (with_reducible assumption) | (with_reducible refine below_then ?_ (by assumption)) | (with_reducible refine Below.trans ?_ (by assumption)) | (with_reducible refine below_drewN ?_ _) | (with_reducible apply Below.drew) | (with_reducible refine below_alloc ?_ _) | refine Below.setCell ?_ (by first | (simp; done) | (simp; omega)) _))⟩
theorem specWave_no (d r : Nat) (w : World) (h : (lst (cn .f32 d) && abv (cn .f32 r)) = false) : Calls Try.prog 4 #[.float .f32 d, .float .f32 r] w (BCB w 0 0 false) := by
  rcases h0 : lst (cn .f32 d)
  · clear h
    go_enter Try.func4, Try.ntmps4
    go_wp2_with (first | (with_reducible refine at_list ?_; refine wpList_fop rfl rfl rfl rfl rfl ?_; intro r n hr0; have hr := hr0 _ _ (by first | with_reducible assumption | exact rfl) (by first | with_reducible assumption | exact rfl); clear hr0) | (with_reducible refine at_list ?_; refine wpList_neg rfl rfl rfl ?_; intro r hr0; have hr := hr0 _ (by first | with_reducible assumption | exact rfl); clear hr0) | (with_reducible refine at_list ?_; refine wpList_fop_g rfl rfl rfl rfl rfl ?_; intro r n hr0; have hr := hr0 _ _ (by first | with_reducible assumption | exact rfl) (by first | with_reducible assumption | exact rfl); clear hr0) | (with_reducible refine at_list ?_; refine wpList_wide_g rfl rfl Try.underlying22 Try.underlying32 rfl ?_; intro r n hr0; have hr := hr0 _ (by first | with_reducible assumption | exact rfl); clear hr0) | (with_reducible refine at_list ?_; refine wpList_wide rfl rfl rfl Try.underlying22 Try.underlying32 ?_; intro r n hr0; have hr := hr0 _ (by first | with_reducible assumption | exact rfl); clear hr0) | (go_at_call 7; refine (l02Least_any _ _).mono ?_; rintro e w' ⟨rfl, n, rfl⟩) | (go_at_call 8; refine (l02Above_any _ _).mono ?_; rintro e w' ⟨rfl, n, rfl⟩) | (go_at_call 12; refine (l01Finite_any _ _).mono ?_; rintro e w' ⟨rfl, n, rfl⟩) | (go_at_call 13; refine (l01CFinite_any _ _ _).mono ?_; rintro e w' ⟨rfl, n, rfl⟩))
    all_goals
      go_ret2
      exact ⟨_, _, rfl, rfl, rfl, by first | (repeat (first | (with_reducible exact Below.refl _ _) | (with_reducible assumption) | (with_reducible refine below_then ?_ (by assumption)) | (with_reducible refine Below.trans ?_ (by assumption)) | (with_reducible refine below_drewN ?_ _) | (with_reducible apply Below.drew) | (with_reducible refine below_alloc ?_ _) | refine Below.setCell ?_ (by first | (simp; done) | (simp; omega)) _)) | exact below_drewN (Below.refl _ _) _⟩
  rw [h0] at h
  have h1 : abv (cn .f32 r) = false := h
  clear h
  go_enter Try.func4, Try.ntmps4
  go_wp2_with (first | (with_reducible refine at_list ?_; refine wpList_fop rfl rfl rfl rfl rfl ?_; intro r n hr0; have hr := hr0 _ _ (by first | with_reducible assumption | exact rfl) (by first | with_reducible assumption | exact rfl); clear hr0) | (with_reducible refine at_list ?_; refine wpList_neg rfl rfl rfl ?_; intro r hr0; have hr := hr0 _ (by first | with_reducible assumption | exact rfl); clear hr0) | (with_reducible refine at_list ?_; refine wpList_fop_g rfl rfl rfl rfl rfl ?_; intro r n hr0; have hr := hr0 _ _ (by first | with_reducible assumption | exact rfl) (by first | with_reducible assumption | exact rfl); clear hr0) | (with_reducible refine at_list ?_; refine wpList_wide_g rfl rfl Try.underlying22 Try.underlying32 rfl ?_; intro r n hr0; have hr := hr0 _ (by first | with_reducible assumption | exact rfl); clear hr0) | (with_reducible refine at_list ?_; refine wpList_wide rfl rfl rfl Try.underlying22 Try.underlying32 ?_; intro r n hr0; have hr := hr0 _ (by first | with_reducible assumption | exact rfl); clear hr0) | (go_at_call 7; refine (l02Least_any _ _).mono ?_; rintro e w' ⟨rfl, n, rfl⟩) | (go_at_call 8; refine (l02Above_any _ _).mono ?_; rintro e w' ⟨rfl, n, rfl⟩) | (go_at_call 12; refine (l01Finite_any _ _).mono ?_; rintro e w' ⟨rfl, n, rfl⟩) | (go_at_call 13; refine (l01CFinite_any _ _ _).mono ?_; rintro e w' ⟨rfl, n, rfl⟩))
  all_goals
    go_ret2
    exact ⟨_, _, rfl, rfl, rfl, by first | (repeat (first | (with_reducible exact Below.refl _ _) | (with_reducible assumption) | (with_reducible refine below_then ?_ (by assumption)) | (with_reducible refine Below.trans ?_ (by assumption)) | (with_reducible refine below_drewN ?_ _) | (with_reducible apply Below.drew) | (with_reducible refine below_alloc ?_ _) | refine Below.setCell ?_ (by first | (simp; done) | (simp; omega)) _)) | exact below_drewN (Below.refl _ _) _⟩
theorem specWave_yes (d r A B E : Nat) (w : World) (h : (lst (cn .f32 d) && abv (cn .f32 r)) = true)
    (hP : ∀ x w, cn .f64 x = wvT (cn .f32 d) (cn .f32 r) → Calls Try.prog 10 #[.float .f64 x] w (RC w A B)) (hE : ∀ x w, cn .f32 x = wvN (cn .f32 d) (cn .f32 r) → Calls Try.prog 11 #[.float .f32 x] w (BF w .f32 E))
    (hQ : fin .f32 (wvQ (cn .f32 d) (cn .f32 r)) = true ∨ fin .f32 (fop .mul .f32 A E) = false) :
    Calls Try.prog 4 #[.float .f32 d, .float .f32 r] w (BCB w (if wvB A B E then fop .mul .f32 A E else 0) (if wvB A B E then fop .mul .f32 B E else 0) (wvB A B E)) := by
  rw [Bool.and_eq_true] at h
  have hA := h.2
  have hl := h.1
  have HT : Hid (wvT (cn .f32 d) (cn .f32 r) = wide (fop .quo .f32 (fneg .f32 (fop .quo .f32 (cn .f32 d) (cn .f32 r))) (cn .f32 1086918619))) := rfl
  have HN : Hid (wvN (cn .f32 d) (cn .f32 r) = fneg .f32 (fop .quo .f32 (cn .f32 d) (cn .f32 r))) := rfl
  have HP := Lib.hid hP
  have HE := Lib.hid hE
  have HS : Hid (∀ w x y e, cn .f32 x = A → cn .f32 y = B → cn .f32 e = E → Calls Try.prog 9 #[.complex .f32 x y, .float .f32 e] w (RC w (fop .mul .f32 A E) (fop .mul .f32 B E))) := fun w x y e hx hy he => by
    have := l01Scale_any x y e w
    rw [hx, hy, he] at this
    exact this
  have HB : Hid (wvB A B E = (fin .f32 (fop .mul .f32 A E) && fin .f32 (fop .mul .f32 B E))) := rfl
  have hQ' : fin .f32 (fop .quo .f32 (cn .f32 d) (cn .f32 r)) = true ∨ fin .f32 (fop .mul .f32 A E) = false := hQ
  rw [HB.out]
  rw [HT.out] at HP
  rw [HN.out] at HE
  clear h hP hE hQ HT HN HB
  generalize fop .mul .f32 A E = F at *
  generalize fop .mul .f32 B E = G at *
  rcases f1 : fin .f32 F <;> rcases f2 : fin .f32 G <;> rcases f3 : fin .f32 (fop .quo .f32 (cn .f32 d) (cn .f32 r))
  all_goals first
    | (exfalso; rw [f1, f3] at hQ'; rcases hQ' with h | h <;> cases h; done)
    | skip
  all_goals
    have HC : Hid (∀ w x y, cn .f32 x = F → cn .f32 y = G → Calls Try.prog 13 #[.complex .f32 x y] w (RB w (fin .f32 F && fin .f32 G))) := fun w x y hx hy => by
      have := l01CFinite_any x y w
      rw [hx, hy] at this
      exact this
    rw [f1, f2] at HC
    clear f1 f2 hQ'
    go_enter Try.func4, Try.ntmps4
    go_wp2_with (first | (with_reducible refine at_list ?_; refine wpList_fop rfl rfl rfl rfl rfl ?_; intro r n hr0; have hr := hr0 _ _ (by first | with_reducible assumption | exact rfl) (by first | with_reducible assumption | exact rfl); clear hr0) | (with_reducible refine at_list ?_; refine wpList_neg rfl rfl rfl ?_; intro r hr0; have hr := hr0 _ (by first | with_reducible assumption | exact rfl); clear hr0) | (with_reducible refine at_list ?_; refine wpList_fop_g rfl rfl rfl rfl rfl ?_; intro r n hr0; have hr := hr0 _ _ (by first | with_reducible assumption | exact rfl) (by first | with_reducible assumption | exact rfl); clear hr0) | (with_reducible refine at_list ?_; refine wpList_wide_g rfl rfl Try.underlying22 Try.underlying32 rfl ?_; intro r n hr0; have hr := hr0 _ (by first | with_reducible assumption | exact rfl); clear hr0) | (with_reducible refine at_list ?_; refine wpList_wide rfl rfl rfl Try.underlying22 Try.underlying32 ?_; intro r n hr0; have hr := hr0 _ (by first | with_reducible assumption | exact rfl); clear hr0) | (go_at_call 10; refine (HP.out _ _ (by with_reducible assumption)).mono ?_; rintro e w' ⟨x1, y1, rfl, hx1, hy1, hb⟩; obtain ⟨hT, hk⟩ := bv_next hb (by (repeat (with_reducible first | assumption | apply Trk.alloc | apply Trk.setCell | apply Trk.drewN | apply Trk.drew | exact Trk.nil _))); simp only [SameOn, World.size_alloc, World.size_setCell, World.size_drew, size_drewN', and_true] at hk; have hsz := Below.size hb; (try simp only [World.size_alloc, World.size_setCell, World.size_drew, size_drewN'] at hsz)) | (go_at_call 9; refine (HS.out _ _ _ _ (by with_reducible assumption) (by with_reducible assumption) (by with_reducible assumption)).mono ?_; rintro e w' ⟨x2, y2, rfl, hx2, hy2, hb⟩; obtain ⟨hT, hk⟩ := bv_next hb (by (repeat (with_reducible first | assumption | apply Trk.alloc | apply Trk.setCell | apply Trk.drewN | apply Trk.drew | exact Trk.nil _))); simp only [SameOn, World.size_alloc, World.size_setCell, World.size_drew, size_drewN', and_true] at hk; have hsz := Below.size hb; (try simp only [World.size_alloc, World.size_setCell, World.size_drew, size_drewN'] at hsz)) | (go_at_call 7; refine (l02Least_any _ _).mono ?_; rintro e w' ⟨rfl, n, rfl⟩) | (go_at_call 8; refine (l02Above_any _ _).mono ?_; rintro e w' ⟨rfl, n, rfl⟩) | (go_at_call 11; refine ((HE.out _ _ (by with_reducible assumption)) ).mono ?_; rintro e w' ⟨r, rfl, hr, hb⟩; obtain ⟨hT, hk⟩ := bv_next hb (by (repeat (with_reducible first | assumption | apply Trk.alloc | apply Trk.setCell | apply Trk.drewN | apply Trk.drew | exact Trk.nil _))); simp only [SameOn, World.size_alloc, World.size_setCell, World.size_drew, size_drewN', and_true] at hk; have hsz := Below.size hb; (try simp only [World.size_alloc, World.size_setCell, World.size_drew, size_drewN'] at hsz)) | (go_at_call 12; refine (l01Finite_any _ _).mono ?_; rintro e w' ⟨rfl, n, rfl⟩) | (go_at_call 13; refine ((HC.out _ _ _ (by with_reducible assumption) (by with_reducible assumption)) ).mono ?_; rintro e w' ⟨rfl, n, rfl⟩))
    go_ret2
    first
      | exact ⟨_, _, rfl, rfl, rfl, by (repeat (first | (with_reducible exact Below.refl _ _) | (with_reducible assumption) | (with_reducible refine below_then ?_ (by assumption)) | (with_reducible refine Below.trans ?_ (by assumption)) | (with_reducible refine below_drewN ?_ _) | (with_reducible apply Below.drew) | (with_reducible refine below_alloc ?_ _) | refine Below.setCell ?_ (by first | (simp; done) | (simp; omega)) _))⟩
      | exact ⟨_, _, rfl, by (show _ = cn .f32 F); simp only [*]; rw [← hx2]; exact (cn_cn _ _).symm, by (show _ = cn .f32 G); simp only [*]; rw [← hy2]; exact (cn_cn _ _).symm, by (repeat (first | (with_reducible exact Below.refl _ _) | (with_reducible assumption) | (with_reducible refine below_then ?_ (by assumption)) | (with_reducible refine Below.trans ?_ (by assumption)) | (with_reducible refine below_drewN ?_ _) | (with_reducible apply Below.drew) | (with_reducible refine below_alloc ?_ _) | refine Below.setCell ?_ (by first | (simp; done) | (simp; omega)) _))⟩
/-- Words, huge: nothing is left. -/
theorem exG_huge {x : Nat} (h : fnt .f64 x = true) (h0 : fv .f64 x < -200) : exG x = cn .f64 0 := by
  obtain ⟨⟨a0, a1⟩, b0, b1⟩ := hundred_val
  unfold exG
  have f1 : fgt .f64 x (cn .f64 4641240890982006784) = false := by rw [fgtv h a0, a1]; exact decide_eq_false (by grind)
  have f2 : flt .f64 x (cn .f64 13864612927836782592) = true := by rw [fltv h b0, b1]; exact decide_eq_true h0
  rw [f1, if_neg Bool.false_ne_true, if_pos f2]
theorem wide_lt (x : Nat) : wide x < 18446744073709551616 := by
  unfold wide
  split
  · decide +kernel
  · exact FloatKind.f64.format.write_lt _
theorem raw64 {x T : Nat} (h : cn .f64 x = T) (hT : fnt .f64 T = true) : x = T := by
  have hn : isN .f64 x = false := by
    cases hn : isN .f64 x with
    | false => rfl
    | true => rw [cn_of_isN hn] at h; rw [← h] at hT; have := fnt_not_nan hT; rw [isN_qn] at this; cases this
  rw [cn_of_not hn] at h; exact h
set_option maxHeartbeats 1000000 in
theorem wave_both (d r : Nat) : ∃ c1 c2 b, (∀ w, Calls Try.prog 4 #[.float .f32 d, .float .f32 r] w (BCB w c1 c2 b)) ∧ (∀ w, Calls Try.prog 5 #[.float .f32 d, .float .f32 r] w (BCB w c1 c2 b)) := by
  rcases h : (lst (cn .f32 d) && abv (cn .f32 r))
  · exact ⟨_, _, _, fun w => specWave_no d r w h, fun w => implWave_no d r w h⟩
  · have h' := h
    rw [Bool.and_eq_true] at h'
    obtain ⟨⟨e1, e2⟩, ways⟩ := wave_ways h'.1 h'.2
    have hEi : ∀ x w, cn .f32 x = wvN (cn .f32 d) (cn .f32 r) → Calls Try.prog 19 #[.float .f32 x] w (BF w .f32 (narrow (exG (wide (wvN (cn .f32 d) (cn .f32 r)))))) := fun x w hx => by
      have := implExp_g x w (by rw [hx]; exact e1) (by rw [hx]; exact e2)
      rwa [hx] at this
    have hEs : ∀ x w, cn .f32 x = wvN (cn .f32 d) (cn .f32 r) → Calls Try.prog 11 #[.float .f32 x] w (BF w .f32 (narrow (exG (wide (wvN (cn .f32 d) (cn .f32 r)))))) := fun x w hx => by
      have := l01Exp_g x w (by rw [hx]; exact e1) (by rw [hx]; exact e2)
      rwa [hx] at this
    rcases ways with ⟨q0, t0⟩ | ⟨q0, t0, t1⟩ | ⟨q0, t0⟩
    · have hn : ∀ E, fin .f32 (fop .mul .f32 (qn .f32) E) = false := fun E => by
        have : floatBits .mul .f32 (qn .f32) E = none := floatBits_nan_l (isN_qn _)
        have e : fop .mul .f32 (qn .f32) E = qn .f32 := by unfold fop; rw [this]; rfl
        rw [e]; decide +kernel
      exact ⟨_, _, _, fun w => specWave_yes d r (qn .f32) (qn .f32) _ w h (fun x w hx => specPhasor_nan x w (by rw [hx]; exact t0)) hEs (.inr (hn _)), fun w => implWave_yes d r (qn .f32) (qn .f32) _ w h (fun x w hx => implPhasor_nan x w (by rw [hx]; exact t0)) hEi⟩
    · exact ⟨_, _, _, fun w => specWave_yes d r (cn .f32 1065353216) (cn .f32 0) _ w h (fun x w hx => by have := raw64 hx t0; rw [this]; exact specPhasor_huge _ w t0 t1) hEs (.inl q0), fun w => implWave_yes d r (cn .f32 1065353216) (cn .f32 0) _ w h (fun x w hx => by have := raw64 hx t0; rw [this]; exact implPhasor_huge _ w t0 (wide_lt _) t1) hEi⟩
    · obtain ⟨k, hk⟩ := qtr_of t0
      exact ⟨_, _, _, fun w => specWave_yes d r _ _ _ w h (fun x w hx => by have := raw64 hx t0.1; rw [this]; exact specPhasor_any _ k w t0 hk) hEs (.inl q0), fun w => implWave_yes d r _ _ _ w h (fun x w hx => by have := raw64 hx t0.1; rw [this]; exact implPhasor_any _ k w t0 hk (wide_lt _)) hEi⟩
set_option maxHeartbeats 1000000 in
theorem walk_FnExactWaveBelow (d r : Nat) (_ : (Lit.float .f32 d).wf = true) (_ : (Lit.float .f32 r).wf = true) (w : World) : Calls Try.prog 3 #[.float .f32 d, .float .f32 r] w (BV w (.bool true)) := by
  obtain ⟨c1, c2, b, h1, h2⟩ := wave_both d r
  have H1 := Lib.hid h1
  have H2 := Lib.hid h2
  clear h1 h2
  go_enter Try.func3, Try.ntmps3
  go_wp2_with (first | (with_reducible refine at_list ?_; refine wpList_fop rfl rfl rfl rfl rfl ?_; intro r n hr0; have hr := hr0 _ _ (by first | with_reducible assumption | exact rfl) (by first | with_reducible assumption | exact rfl); clear hr0) | (with_reducible refine at_list ?_; refine wpList_neg rfl rfl rfl ?_; intro r hr0; have hr := hr0 _ (by first | with_reducible assumption | exact rfl); clear hr0) | (with_reducible refine at_list ?_; refine wpList_fop_g rfl rfl rfl rfl rfl ?_; intro r n hr0; have hr := hr0 _ _ (by first | with_reducible assumption | exact rfl) (by first | with_reducible assumption | exact rfl); clear hr0) | (with_reducible refine at_list ?_; refine wpList_wide_g rfl rfl Try.underlying22 Try.underlying32 rfl ?_; intro r n hr0; have hr := hr0 _ (by first | with_reducible assumption | exact rfl); clear hr0) | (with_reducible refine at_list ?_; refine wpList_wide rfl rfl rfl Try.underlying22 Try.underlying32 ?_; intro r n hr0; have hr := hr0 _ (by first | with_reducible assumption | exact rfl); clear hr0) | (with_reducible refine at_list ?_; refine wpList_cwide rfl rfl rfl Try.underlying23 Try.underlying27 ?_; intro r s n hr hs) | (go_at_call 4; refine ((H1.out _) ).mono ?_; rintro e w' ⟨x, y, rfl, hcx, hcy, hb⟩; obtain ⟨hT, hk⟩ := bv_next hb (by (repeat (with_reducible first | assumption | apply Trk.alloc | apply Trk.setCell | apply Trk.drewN | apply Trk.drew | exact Trk.nil _))); simp only [SameOn, World.size_alloc, World.size_setCell, World.size_drew, size_drewN', and_true] at hk; have hsz := Below.size hb; (try simp only [World.size_alloc, World.size_setCell, World.size_drew, size_drewN'] at hsz)) | (go_at_call 5; refine ((H2.out _) ).mono ?_; rintro e w' ⟨x, y, rfl, hcx, hcy, hb⟩; obtain ⟨hT, hk⟩ := bv_next hb (by (repeat (with_reducible first | assumption | apply Trk.alloc | apply Trk.setCell | apply Trk.drewN | apply Trk.drew | exact Trk.nil _))); simp only [SameOn, World.size_alloc, World.size_setCell, World.size_drew, size_drewN', and_true] at hk; have hsz := Below.size hb; (try simp only [World.size_alloc, World.size_setCell, World.size_drew, size_drewN'] at hsz)) | (go_at_call 6; refine ((sameComplex_cn _ _ _ _ (by simp only [*]) (by simp only [*]) _) ).mono ?_; rintro e w' ⟨rfl, n, rfl⟩))
  all_goals
    go_ret
    exact ⟨rfl, by (repeat (first | (with_reducible exact Below.refl _ _) | (with_reducible assumption) | (with_reducible refine below_then ?_ (by assumption)) | (with_reducible refine Below.trans ?_ (by assumption)) | (with_reducible refine below_drewN ?_ _) | (with_reducible apply Below.drew) | (with_reducible refine below_alloc ?_ _) | refine Below.setCell ?_ (by first | (simp; done) | (simp; omega)) _))⟩
set_option maxRecDepth 100000 in
set_option maxHeartbeats 2000000 in
theorem lifted_FnExactWaveBelow (os : Os) (started : os.Started) (H : Type) (enc : TypeId × Value → H) :
    ReturnsInHanded {} Try.checked os 3 .any (Rows.fnExactWaveBelowSpec.pre6 enc Try.prog Try.f3 Rows.fnExactWaveBelowRow.domain false) (Rows.fnExactWaveBelowSpec.post enc Try.prog Try.f3 false true false false) := by
  refine returnsInHanded_of_change (C := Try.checked) own started (by kernel_rfl) Try.func3
    (ChangeSpec.witness6 (enc := enc) (C := Try.checked) false ⟨#[], #[.float .f32 0, .float .f32 0], []⟩ 8 (by kernel_rfl) (by kernel_rfl) (by kernel_rfl) (by kernel_rfl)) ?_
  intro W base args ds gs before hval0 hW hcnd _
  have hval : ∀ (j : Nat) t v, Try.f3.params[j]? = some t → args[j]? = some v → Value.okWide Try.prog W .any base t v := hval0
  have hW' := hW
  obtain ⟨p, q, hA0, hV, rfl, hfz, hnd⟩ := hW
  have hA : DataW.TrodAll enc Try.prog W 0 (fun _ => true) true Try.f3.params.toList args.toList ds p := hA0
  rw [Try.params3] at hA hval
  obtain ⟨v0, vs0, d0, ds0, p0, q0, hargs, rfl, rfl, h0, r0⟩ := trodAll_cons hA
  obtain ⟨v1, vs1, d1, ds1, p1, q1, rfl, rfl, rfl, h1, r1⟩ := trodAll_cons r0
  obtain ⟨rfl, rfl, rfl⟩ := trodAll_nil r1
  obtain rfl : args = #[v0, v1] := by cases args; simp_all
  obtain ⟨rfl, rfl⟩ := trodVars_none hV
  have k0 := h0
  have lt0 : ∀ x ∈ p0, x.block < W.heap.size := by obtain ⟨m, hm⟩ := k0; exact DataW.trod_lt m _ _ _ hm
  obtain ⟨d, rfl, rfl, rfl, w0⟩ := open_float Try.underlying22 (hval 0 22 v0 rfl rfl) h0
  have k1 := h1
  have lt1 : ∀ x ∈ p1, x.block < W.heap.size := by obtain ⟨m, hm⟩ := k1; exact DataW.trod_lt m _ _ _ hm
  obtain ⟨r, rfl, rfl, rfl, w1⟩ := open_float Try.underlying22 (hval 1 22 v1 rfl rfl) h1
  clear hA0 hval0
  refine (walk_FnExactWaveBelow d r w0 w1 W).mono fun e W' ⟨he, hg⟩ => ?_
  subst he
  exact ⟨_, rfl, _, _, _, [], _, [], hW', trodAll_mk1 (shut_bool Try.underlying4 _), (trodAll_cons_mk (Below.trod laidOut (by kernel_rfl) (of_decide_eq_true (by kernel_rfl)) k0 hg lt0) (trodAll_cons_mk (Below.trod laidOut (by kernel_rfl) (of_decide_eq_true (by kernel_rfl)) k1 hg lt1) trodAll_mk0)), rfl, hg.frame _, fun h => by cases h⟩
theorem fnExactWaveBelow_holds : Rows.FnExactWaveBelowSaid :=
  OpenClaim.holds_of_wide 3 Try.f3 rfl rfl rfl rfl rfl rfl rfl ⟨rfl, rfl, rfl, rfl, rfl⟩ rfl rfl rfl rfl rfl (by kernel_rfl) Try.func3 (by kernel_rfl)
    (of_decide_eq_true (by kernel_rfl)) (by unfold Func.isWrapper; rw [if_neg (of_decide_eq_false (by kernel_rfl))]; exact ⟨rfl, rfl⟩)
    (fun os started H enc _ => lifted_FnExactWaveBelow os started H enc)
end Go.Proofs.Ytldancjofgobnaa

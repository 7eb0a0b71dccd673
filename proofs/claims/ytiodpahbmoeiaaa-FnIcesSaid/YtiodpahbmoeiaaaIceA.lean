/-
  Ice that grows, shrinks and stays: what the law on ice asks, as facts on words. No condition but what each law says.
-/
import Derived.Test.YtiodpahbmoeiaaaIceV
import Derived.Test.YtiodpahbmoeiaaaIceB
set_option linter.unusedSimpArgs false
set_option linter.unusedVariables false
set_option linter.unusedSectionVars false
namespace Go.Proofs.Ytiodpahbmoeiaaa
open Go Go.RowKit
def cQt : Nat := cn .f32 1048576000
/-- What is asked of ice I with a skin K. -/
structure IA (s : St) (I K : Nat) : Prop where
  ok : s.ok = true
  ice : iceB I K = true
  tick : abv cQt = true
  fI : fnt .f32 I = true
  fc : fin .f32 (fop .sub .f32 s.k.p (cn .f32 1073741824)) = true
  fw : fin .f32 (fop .add .f32 s.k.p (cn .f32 1073741824)) = true
  fs : fin .f32 s.k.p = true
  gc : fnt .f32 (growC s.k I K (fop .sub .f32 s.k.p (cn .f32 1073741824)) cQt) = true
  gw : fnt .f32 (growC s.k I K (fop .add .f32 s.k.p (cn .f32 1073741824)) cQt) = true
  gs : fnt .f32 (growC s.k I K s.k.p cQt) = true
  cold : fle .f32 (growC s.k I K (fop .sub .f32 s.k.p (cn .f32 1073741824)) cQt) I = false
  warm : fge .f32 (growC s.k I K (fop .add .f32 s.k.p (cn .f32 1073741824)) cQt) I = false
  same : feq .f32 (growC s.k I K s.k.p cQt) I = true
  pos : flt .f32 (growC s.k I K (fop .add .f32 s.k.p (cn .f32 1073741824)) cQt) (cn .f32 0) = false
theorem grow_or {s : St} {I K A T : Nat} (hf : fnt .f32 (grownC s I K A T) = true) : (0 < fv .f32 (grownC s I K A T) ∧ growC s I K A T = grownC s I K A T) ∨ (fv .f32 (grownC s I K A T) ≤ 0 ∧ growC s I K A T = cn .f32 0) := by
  unfold growC
  rw [fgtv hf V0.1, V0.2]
  by_cases h : 0 < fv .f32 (grownC s I K A T)
  · exact .inl ⟨h, by rw [if_pos (decide_eq_true h)]⟩
  · exact .inr ⟨by grind, by rw [if_neg (by rw [decide_eq_false h]; simp)]⟩
theorem ia_of {s : St} {a b c d p l n m : Int} {I K : Nat} (h : SV s a b c d p l) (hI : V .f32 I ((n : Rat) / 4)) (hK : V .f32 K ((m : Rat) / 8)) (hn : 1 ≤ n ∧ n ≤ 8) (hm : 0 ≤ m ∧ m ≤ 4) : IA s I K := by
  have hb := h.bd
  have n1 : ((1 : Int) : Rat) ≤ (n : Rat) := icast_le hn.1
  have m0 : ((0 : Int) : Rat) ≤ (m : Rat) := icast_le hm.1
  have ec : ex .sub (p : Rat) 2 = ((p + -2 : Int) : Rat) := by simp only [ex]; rw [Rat.intCast_add, Rat.intCast_neg]; grind
  have hc : V .f32 (fop .sub .f32 s.k.p (cn .f32 1073741824)) ((p + -2 : Int) : Rat) := by
    have := V.op .sub rfl h.P V2 (by simp) (by rw [ec]; exact rep_int (by omega))
    rwa [ec] at this
  have ew : ex .add (p : Rat) 2 = ((p + 2 : Int) : Rat) := by simp only [ex]; rw [Rat.intCast_add]; grind
  have hw : V .f32 (fop .add .f32 s.k.p (cn .f32 1073741824)) ((p + 2 : Int) : Rat) := by
    have := V.op .add rfl h.P V2 (by simp) (by rw [ew]; exact rep_int (by omega))
    rwa [ew] at this
  have hs : V .f32 s.k.p ((p + 0 : Int) : Rat) := h.P.eq (by rw [Int.add_zero])
  obtain ⟨c0, c1⟩ := grown_up h hI hK hn hm hc
  have VQ' : V .f32 cQt ((1 : Rat) / 4) := VQ
  have c0' : fnt .f32 (grownC s.k I K (fop .sub .f32 s.k.p (cn .f32 1073741824)) cQt) = true := c0
  obtain ⟨w0, w1⟩ := grown_down h hI hK hn hm hw
  have s0 : V .f32 (grownC s.k I K s.k.p cQt) ((n : Rat) / 4) := grown_same h hI hK hn hm hs
  obtain ⟨d0, _⟩ := den_val h hI hK hn hm
  have i0 : 0 < fv .f32 I := by rw [hI.2]; grind
  have iw : fgt .f32 I (cn .f32 0) = true := by rw [fgtv hI.1 V0.1, V0.2]; exact decide_eq_true i0
  have gC : growC s.k I K (fop .sub .f32 s.k.p (cn .f32 1073741824)) cQt = grownC s.k I K (fop .sub .f32 s.k.p (cn .f32 1073741824)) cQt := by
    rcases grow_or (T := cQt) c0 with ⟨_, e⟩ | ⟨e, _⟩
    · exact e
    · exfalso
      have c1' : (n : Rat) / 4 < fv .f32 (grownC s.k I K (fop .sub .f32 s.k.p (cn .f32 1073741824)) cQt) := c1
      grind
  have gS : growC s.k I K s.k.p cQt = grownC s.k I K s.k.p cQt := by
    rcases grow_or (T := cQt) s0.1 with ⟨_, e⟩ | ⟨e, _⟩
    · exact e
    · exfalso
      have s1 : fv .f32 (grownC s.k I K s.k.p cQt) = (n : Rat) / 4 := s0.2
      grind
  have gW : fnt .f32 (growC s.k I K (fop .add .f32 s.k.p (cn .f32 1073741824)) cQt) = true ∧ 0 ≤ fv .f32 (growC s.k I K (fop .add .f32 s.k.p (cn .f32 1073741824)) cQt) ∧ fv .f32 (growC s.k I K (fop .add .f32 s.k.p (cn .f32 1073741824)) cQt) < fv .f32 I := by
    rcases grow_or (T := cQt) w0 with ⟨e, e2⟩ | ⟨e, e2⟩
    · rw [e2]; exact ⟨w0, Rat.le_of_lt e, by rw [hI.2]; exact w1⟩
    · rw [e2]; exact ⟨V0.1, by rw [V0.2]; exact Rat.le_refl, by rw [V0.2]; exact i0⟩
  exact {
    ok := h.ok
    ice := by
      unfold iceB lst
      rw [fin_of' hI.1, fin_of' hK.1, fgev hI.1 V0.1, fgev hK.1 V0.1, V0.2, hK.2, abv_of d0.1 (by rw [d0.2, Rat.intCast_add, Rat.intCast_mul]; grind), decide_eq_true (Rat.le_of_lt i0), decide_eq_true (show (0 : Rat) ≤ (m : Rat) / 8 by grind)]
      rfl
    tick := abv_of VQ'.1 (by rw [VQ'.2]; grind)
    fI := hI.1
    fc := fin_of' hc.1
    fw := fin_of' hw.1
    fs := fin_of' h.P.1
    gc := by rw [gC]; exact c0
    gw := gW.1
    gs := by rw [gS]; exact s0.1
    cold := by rw [gC, flev c0' hI.1, hI.2]; exact decide_eq_false (by have c1' : (n : Rat) / 4 < fv .f32 (grownC s.k I K (fop .sub .f32 s.k.p (cn .f32 1073741824)) cQt) := c1
                                                                       grind)
    warm := by rw [fgev gW.1 hI.1]; exact decide_eq_false (by have := gW.2.2; grind)
    same := by rw [gS, feqv s0.1 hI.1, hI.2]; exact decide_eq_true s0.2
    pos := by rw [fltv gW.1 V0.1, V0.2]; exact decide_eq_false (by have := gW.2.1; grind) }
end Go.Proofs.Ytiodpahbmoeiaaa

/-
  Drawn stuffs: all that the law on stuffs asks, as facts on words. No condition but what each law says.
-/
import Derived.Test.YtiodpahbmoeiaaaSt64
set_option linter.unusedSimpArgs false
set_option linter.unusedVariables false
set_option linter.unusedSectionVars false
namespace Go.Proofs.Ytiodpahbmoeiaaa
open Go Go.RowKit
def plus1 (H : Nat) : Nat := fop .add .f32 H (cn .f32 1065353216)
structure SA (s : St) (H : Nat) (neg : Bool) : Prop where
  ok : s.ok = true
  fH : fnt .f32 H = true
  fH1 : fnt .f32 (plus1 H) = true
  fW : fnt .f32 (warmC s.k H) = true
  fT : fnt .f32 (partC s.k H) = true
  fB : fnt .f32 (heatC s.k (warmC s.k H) (partC s.k H)) = true
  fE : fnt .f32 (easeC s.k H) = true
  fW1 : fnt .f32 (warmC s.k (plus1 H)) = true
  fT1 : fnt .f32 (partC s.k (plus1 H)) = true
  fC : fnt .f32 (cn .f32 s.c) = true
  fD : fnt .f32 (cn .f32 s.d) = true
  sT : shr (partC s.k H) = true
  gap : flt .f64 (gapC (wide (heatC s.k (warmC s.k H) (partC s.k H))) (wide H)) (cn .f64 4576918229304087675) = true
  t0 : fge .f32 (partC s.k H) (cn .f32 0) = true
  t1 : fle .f32 (partC s.k H) (cn .f32 1065353216) = true
  w1 : fge .f32 (warmC s.k (plus1 H)) (warmC s.k H) = true
  tt : fge .f32 (partC s.k (plus1 H)) (partC s.k H) = true
  st : fgt .f32 (warmC s.k (plus1 H)) (warmC s.k H) = true ∨ fgt .f32 (partC s.k (plus1 H)) (partC s.k H) = true
  lo : fge .f64 (wide (easeC s.k H)) (fop .sub .f64 (fmin64 (wide (cn .f32 s.c)) (wide (cn .f32 s.d))) (cn .f64 4562254508917369340)) = true
  hi : fle .f64 (wide (easeC s.k H)) (fop .add .f64 (fmax64 (wide (cn .f32 s.c)) (wide (cn .f32 s.d))) (cn .f64 4562254508917369340)) = true
  sg : flt .f32 (warmC s.k H) (cn .f32 s.p) = neg
  sh : flt .f32 H (cn .f32 0) = neg
theorem sa_of {s : St} {a b c d p l k : Int} {H : Nat} (h : SV s a b c d p l) (hH : V .f32 H ((k : Rat) / 4)) (hk : -48 ≤ k ∧ k ≤ 80) : SA s H (decide (k < 0)) := by
  have hb := h.bd
  have e1 : ex .add ((k : Rat) / 4) 1 = ((k + 4 : Int) : Rat) / 4 := by simp only [ex]; rw [Rat.intCast_add]; grind
  have hH1 : V .f32 (plus1 H) (((k + 4 : Int) : Rat) / 4) := by
    have := V.op .add rfl hH V1 (by simp) (by rw [e1]; exact rep_quarter (by omega))
    rwa [e1] at this
  have v0 := hv_of h hH (by omega)
  have v1 := hv_of h hH1 (by omega)
  obtain ⟨s1, s2, s3⟩ := hv_step h hH hH1 hk
  obtain ⟨b0, b1, b2⟩ := heat_back h hH (by omega)
  obtain ⟨q0, q1, q2⟩ := ease_btw h v0.fT v0.t0 v0.t1
  obtain ⟨E1, E2⟩ := E_small
  have wB := wide_val b0
  have wH := wide_val hH.1
  have wE := wide_val (x := easeC s.k H) q0
  have wC := wide_val h.C.1
  have wD := wide_val h.D.1
  have m1 := fmin64_val wC.1 wD.1
  have m2 := fmax64_val wC.1 wD.1
  obtain ⟨t1, t2, t3⟩ := cTho_pos
  have hp := h.P
  have reps : ∀ n : Int, n.natAbs ≤ 8 → Rep .f64 ((n : Rat) / 4) := fun n hn => rep64 n (-2) (by omega) (by decide) (by decide) (by have := tp_n2; grind)
  have hCv : fv .f64 (wide s.k.c) = (c : Rat) / 4 := by rw [wC.2, h.C.2]
  have hDv : fv .f64 (wide s.k.d) = (d : Rat) / 4 := by rw [wD.2, h.D.2]
  have repL : Rep .f64 (fv .f64 (fmin64 (wide s.k.c) (wide s.k.d))) := by
    rcases m1.2.2.2 with e | e <;> rw [e]
    · rw [hCv]; exact reps c (by omega)
    · rw [hDv]; exact reps d (by omega)
  have repH : Rep .f64 (fv .f64 (fmax64 (wide s.k.c) (wide s.k.d))) := by
    rcases m2.2.2.2 with e | e <;> rw [e]
    · rw [hCv]; exact reps c (by omega)
    · rw [hDv]; exact reps d (by omega)
  have cd : ∀ n : Int, 1 ≤ n → n ≤ 8 → (0 : Rat) ≤ (n : Rat) / 4 ∧ (n : Rat) / 4 ≤ 2 := fun n h1 h2 => by
    have a1 : ((1 : Int) : Rat) ≤ (n : Rat) := icast_le h1
    have a2 : (n : Rat) ≤ ((8 : Int) : Rat) := icast_le h2
    exact ⟨by grind, by grind⟩
  obtain ⟨c1, c2⟩ := cd c hb.2.2.1.1 hb.2.2.1.2
  obtain ⟨d1, d2⟩ := cd d hb.2.2.2.1.1 hb.2.2.2.1.2
  have lo0 : 0 ≤ fv .f64 (fmin64 (wide s.k.c) (wide s.k.d)) := by rcases m1.2.2.2 with e | e <;> rw [e] <;> grind
  have hi2 : fv .f64 (fmax64 (wide s.k.c) (wide s.k.d)) ≤ 2 := by rcases m2.2.2.2 with e | e <;> rw [e] <;> grind
  have hi0 : 0 ≤ fv .f64 (fmax64 (wide s.k.c) (wide s.k.d)) := by rcases m2.2.2.2 with e | e <;> rw [e] <;> grind
  have r1 : Rep .f64 (-1 : Rat) := by simpa using Rep.int (k := .f64) (-1) (by decide)
  have r4 : Rep .f64 (4 : Rat) := by simpa using Rep.int (k := .f64) 4 (by decide)
  have loB := fop_btw .sub rfl .f64 (x := fmin64 (wide s.k.c) (wide s.k.d)) (y := cTho) (a := -1) (b := fv .f64 (fmin64 (wide s.k.c) (wide s.k.d))) m1.1 t1 (by simp) r1 repL (by simp only [ex]; grind) (by simp only [ex]; grind)
  have hiB := fop_btw .add rfl .f64 (x := fmax64 (wide s.k.c) (wide s.k.d)) (y := cTho) (a := fv .f64 (fmax64 (wide s.k.c) (wide s.k.d))) (b := 4) m2.1 t1 (by simp) repH r4 (by simp only [ex]; grind) (by simp only [ex]; grind)
  have minle : fv .f64 (fmin64 (wide s.k.c) (wide s.k.d)) ≤ ((min c d : Int) : Rat) / 4 := by
    rcases (show min c d = c ∨ min c d = d by omega) with e | e <;> rw [e]
    · rw [← hCv]; exact m1.2.1
    · rw [← hDv]; exact m1.2.2.1
  have maxle : ((max c d : Int) : Rat) / 4 ≤ fv .f64 (fmax64 (wide s.k.c) (wide s.k.d)) := by
    rcases (show max c d = c ∨ max c d = d by omega) with e | e <;> rw [e]
    · rw [← hCv]; exact m2.2.1
    · rw [← hDv]; exact m2.2.2.1
  have hfl : flt .f32 (partC s.k H) (cn .f32 0) = false := by
    rw [fltv v0.fT V0.1, V0.2]; exact decide_eq_false (by have := v0.t0; grind)
  have hfg : fgt .f32 (partC s.k H) (cn .f32 1065353216) = false := by
    rw [fgtv v0.fT V1.1, V1.2]; exact decide_eq_false (by have := v0.t1; grind)
  exact {
    ok := h.ok
    fH := hH.1
    fH1 := hH1.1
    fW := v0.fW
    fT := v0.fT
    fB := b0
    fE := q0
    fW1 := v1.fW
    fT1 := v1.fT
    fC := h.C.1
    fD := h.D.1
    sT := by rw [shr_fin, hfl, hfg, fin_num, show isNum (FloatKind.f32.decode (partC s.k H)) = true from v0.fT]; rfl
    gap := gap_small wB.1 wH.1 (by rw [wB.2, wH.2, hH.2]; grind) (by rw [wB.2, wH.2, hH.2]; grind)
    t0 := by rw [fgev v0.fT V0.1, V0.2]; exact decide_eq_true v0.t0
    t1 := by rw [flev v0.fT V1.1, V1.2]; exact decide_eq_true v0.t1
    w1 := by rw [fgev v1.fW v0.fW]; exact decide_eq_true s1
    tt := by rw [fgev v1.fT v0.fT]; exact decide_eq_true s2
    st := by
      rcases s3 with s3 | s3
      · exact .inl (by rw [fgtv v1.fW v0.fW]; exact decide_eq_true s3)
      · exact .inr (by rw [fgtv v1.fT v0.fT]; exact decide_eq_true s3)
    lo := by
      show fge .f64 (wide (easeC s.k H)) (fop .sub .f64 (fmin64 (wide s.k.c) (wide s.k.d)) cTho) = true
      rw [fgev wE.1 loB.1]
      have q1' : ((min c d : Int) : Rat) / 4 ≤ fv .f32 (easeC s.k H) := q1
      exact decide_eq_true (by rw [wE.2]; have := loB.2.2; grind)
    hi := by
      show fle .f64 (wide (easeC s.k H)) (fop .add .f64 (fmax64 (wide s.k.c) (wide s.k.d)) cTho) = true
      rw [flev wE.1 hiB.1]
      have q2' : fv .f32 (easeC s.k H) ≤ ((max c d : Int) : Rat) / 4 := q2
      exact decide_eq_true (by rw [wE.2]; have := hiB.2.1; grind)
    sg := by
      show flt .f32 (warmC s.k H) s.k.p = _
      rw [fltv v0.fW h.P.1]
      by_cases hk0 : k < 0
      · rw [decide_eq_true hk0]; exact decide_eq_true (v0.sg.1.2 hk0)
      · rw [decide_eq_false hk0]; exact decide_eq_false (fun x => hk0 (v0.sg.1.1 x))
    sh := flt0 hH }
end Go.Proofs.Ytiodpahbmoeiaaa

/-
  Drawn rods of one warmth: nothing flows, a tick changes no word, a tick by rows hardly changes a warmth. No condition but what each law says; nothing of the program is named here.
  slices.Grow at no slice, and slices.Concat of two slices of numbers. No condition but what each contract says.
  Rods that are joined: the program's way. No condition but what each contract says.
  The mean warmth of a rod, how much it hinders heat (the program's), what passes at an end: the program's and the reference's. No condition but what each contract says.
  Drawn rods, turned and joined to themselves: sums twice as great, warmths the same. No condition but what each law says; nothing of the program is named here.
  Swings of drawn rods: what the law asks of the answers, on words. No condition but what each law says; nothing of the program is named here.
-/
import Derived.Test.YtpnkapdemgieaaaSM7
import Derived.Test.YtpnkapdemgieaaaSM3
import Derived.Lib.AppendZeros
import Derived.Test.YtpnkapdemgieaaaSM4
import Derived.Test.YtpnkapdemgieaaaSM6
import Derived.Test.YtpnkapdemgieaaaSM5
set_option linter.unusedSimpArgs false
set_option linter.unusedVariables false
set_option linter.unusedSectionVars false
namespace Go.Proofs.Ytpnkapdemgieaaa
open Go Go.RowKit
/-- A warmth that is drawn. -/
def wmW (t : Int) : Nat := fop .quo .f32 (floatOfInt .f32 t) (cn .f32 1073741824)
theorem wmW_v {t : Int} (h : -16 ≤ t ∧ t ≤ 16) : V .f32 (wmW t) ((t : Rat) / 2) := by
  have a := V.int .f32 t (by show t.natAbs < 2 ^ (23 + 1); omega)
  have e : ex .quo (t : Rat) 2 = (t : Rat) / 2 := rfl
  have r := V.op .quo rfl a V2 (fun _ => by decide) (by rw [e]; exact rep_half (by omega))
  rwa [e] at r
theorem sg_nz (s : Bool) : sg s = 1 ∨ sg s = -1 := by cases s <;> simp [sg]
/-- What reads as nothing. -/
theorem read_nil {y : Nat} (h : V .f32 y 0) : FloatKind.f32.format.read y = FloatKind.f32.format.read 0 ∨ FloatKind.f32.format.read y = FloatKind.f32.format.read 2147483648 := by
  obtain ⟨h1, h2⟩ := h
  unfold fnt at h1
  unfold fv at h2
  have e : FloatKind.f32.format.read y = FloatKind.f32.decode y := rfl
  rw [e, decode_single] at h1 h2 ⊢
  have nz : ∀ (s : Bool) (m : Nat) (p : Int), dv (.number s m p) = 0 → m = 0 := fun s m p h => by
    have h : sg s * ((m : Rat) * tp p) = 0 := h
    have hp := tp_pos p
    rcases Nat.eq_zero_or_pos m with h0 | h0
    · exact h0
    · have mp : (0 : Rat) < (m : Rat) := by exact_mod_cast h0
      have := Rat.mul_pos mp hp
      rcases sg_nz s with e | e <;> rw [e] at h <;> grind
  by_cases c1 : y % 2147483648 < 8388608
  · rw [if_pos c1] at h2 ⊢
    have := nz _ _ _ h2
    rw [this]
    rcases hs : (y / 2147483648 % 2 == 1)
    · left; rfl
    · right; rfl
  · rw [if_neg c1] at h1 h2
    by_cases c2 : y % 2147483648 < 2139095040
    · rw [if_pos c2] at h2
      have := nz _ _ _ h2
      omega
    · rw [if_neg c2] at h1
      by_cases c3 : y % 2147483648 = 2139095040
      · rw [if_pos c3] at h1; cases h1
      · rw [if_neg c3] at h1; cases h1
theorem add_read {x y z : Nat} (h : FloatKind.f32.format.read y = FloatKind.f32.format.read z) : fop .add .f32 x y = fop .add .f32 x z := by
  unfold fop
  simp only [floatBits, Ieee.Format.add, h]
theorem wm_add : ∀ k : Nat, k < 33 → fop .add .f32 (wmW ((k : Int) - 16)) 0 = wmW ((k : Int) - 16) ∧ fop .add .f32 (wmW ((k : Int) - 16)) 2147483648 = wmW ((k : Int) - 16) := by decide +kernel
/-- A drawn warmth and nothing: the same word. -/
theorem wmW_nil {t : Int} (h : -16 ≤ t ∧ t ≤ 16) {y : Nat} (hy : V .f32 y 0) : fop .add .f32 (wmW t) y = wmW t := by
  obtain ⟨k, hk, rfl⟩ : ∃ k : Nat, k < 33 ∧ t = (k : Int) - 16 := ⟨(t + 16).toNat, by omega, by omega⟩
  obtain ⟨a, b⟩ := wm_add k hk
  rcases read_nil hy with e | e
  · rw [add_read e]; exact a
  · rw [add_read e]; exact b
section
variable {P : Rd} {n : Nat} {A C : Nat → Int} {M : Rat} {E G : EndT} {t : Int}
/-- A rod of one drawn warmth between ends of it. -/
structure EV (P : Rd) (n : Nat) (A C : Nat → Int) (E G : EndT) (t : Int) (M : Rat) : Prop where
  g : GR P n A C M
  ge : GE E M
  gg : GE G M
  ht : -16 ≤ t ∧ t ≤ 16
  m : 1 / 1024 ≤ M ∧ M ≤ 1000
  d : ∀ i, i < n → cn .f32 (P.d.getD i 0) = wmW t
  e : cn .f32 E.t = wmW t
  g' : cn .f32 G.t = wmW t
theorem EV.seq (h : EV P n A C E G t M) {i : Nat} (hi : i ≤ n + 1) : seqW P.d E.t G.t i = wmW t := by
  cases i with
  | zero => exact h.e
  | succ i =>
    show (if i < P.d.length then cn .f32 (P.d.getD i 0) else cn .f32 G.t) = _
    rw [h.g.ld]
    by_cases hl : i < n
    · rw [if_pos hl]; exact h.d i hl
    · rw [if_neg hl]; exact h.g'
/-- Nothing flows. -/
theorem EV.flow (h : EV P n A C E G t M) {i : Nat} (hi : i ≤ n) : V .f32 (fAt P E G i) 0 := by
  have v := wmW_v h.ht
  rw [fAt_eq P E G (by rw [h.g.la]; exact hi), h.seq (by omega), h.seq (by omega)]
  have z : ex .sub ((t : Rat) / 2) ((t : Rat) / 2) = 0 := by simp only [ex]; grind
  have q := V.op .sub rfl v v (by simp) (by rw [z]; exact Rp0)
  rw [z] at q
  exact mul_nil (h.g.p h.ge h.gg hi).1.1 q
theorem EV.flowOk (h : EV P n A C E G t M) : flowOk P E G = true := h.g.flowOk h.m h.ge h.gg
/-- A cell behind a tick. -/
theorem EV.cell (h : EV P n A C E G t M) {i : Nat} (hi : i < n) : stepB P (fAt P E G) 1048576000 i = wmW t := by
  unfold stepB
  rw [h.d i hi]
  refine wmW_nil h.ht ?_
  have f := h.flow (i := i) (by omega)
  have g := h.flow (i := i + 1) (by omega)
  have z : ex .sub 0 0 = 0 := by simp only [ex]; grind
  have q := V.op .sub rfl f g (by simp) (by rw [z]; exact Rp0)
  rw [z] at q
  have r := mul_nil V25w.1 q
  have vm := h.g.mass hi
  obtain ⟨w1, w2⟩ := h.g.wb hi
  have ew : ((A i * C i : Int) : Rat) / 16 = wR A C i / 4 := by unfold wR; grind
  rw [ew] at vm
  have z2 : ex .quo 0 (wR A C i / 4) = 0 := by
    simp only [ex]
    have := Rat.div_mul_cancel (a := 0) (b := wR A C i / 4) (by grind)
    rw [Rat.div_def, Rat.zero_mul]
  have s := V.op .quo rfl r vm (fun _ => by grind) (by rw [z2]; exact Rp0)
  rwa [z2] at s
/-- The rod behind a tick: the same words. -/
theorem EV.step (h : EV P n A C E G t M) : stepOk P E G 1048576000 = true ∧ GR (stepR P E G 1048576000) n A C M ∧ ∀ i, i < n → cn .f32 ((stepR P E G 1048576000).d.getD i 0) = wmW t := by
  have hat : ∀ i, i < n → cn .f32 ((stepL P (fAt P E G) 1048576000 P.d.length).getD i 0) = wmW t := fun i hi => by
    rw [stepL_at (by rw [h.g.ld]; exact hi), cn_stepB, h.cell hi]
  have R : GR (stepR P E G 1048576000) n A C M := h.g.with (L := stepL P (fAt P E G) 1048576000 P.d.length) (by rw [stepL_len, h.g.ld]) (fun i hi => by
    rw [hat i hi, ← h.d i hi]; exact h.g.d i hi)
  refine ⟨?_, R, hat⟩
  unfold stepOk stepPre
  have l : lst (cn .f32 1048576000) = true := by
    unfold lst
    rw [fin_of_fnt V25w.1, fgev V25w.1 V0.1, V25w.2, V0.2]; decide +kernel
  rw [h.flowOk, l, R.ok]; rfl
def soE (P : Rd) (E G : EndT) (A C : Nat → Int) (n : Nat) (T : Rat) (i : Nat) : Rat := wR A C i * T + (if i = 0 then pR P E G 0 * T else 0) + (if i + 1 = n then pR P E G (i + 1) * T else 0)
theorem soE_first (P : Rd) (E G : EndT) (A C : Nat → Int) {n : Nat} (hn : 1 ≤ n) (T : Rat) : soE P E G A C n T 0 - ((wR A C 0 + pR P E G 0 + (qiR (pR P E G) n 0 + qlR (pR P E G) n 0)) * T - qiR (pR P E G) n 0 * T) ≤ (wR A C 0 + pR P E G 0 + qlR (pR P E G) n 0) * 0 ∧ ((wR A C 0 + pR P E G 0 + (qiR (pR P E G) n 0 + qlR (pR P E G) n 0)) * T - qiR (pR P E G) n 0 * T) - soE P E G A C n T 0 ≤ (wR A C 0 + pR P E G 0 + qlR (pR P E G) n 0) * 0 := by
  unfold soE qiR qlR
  rw [if_pos rfl]
  generalize wR A C 0 = w
  generalize pR P E G 0 = p0
  generalize pR P E G (0 + 1) = p1
  by_cases hl : 0 + 1 = n
  · rw [if_pos hl, if_neg (by omega), if_neg (by omega)]; exact ⟨by grind, by grind⟩
  · rw [if_neg hl, if_pos (by omega), if_pos (by omega)]; exact ⟨by grind, by grind⟩
theorem soE_next (P : Rd) (E G : EndT) (A C : Nat → Int) {n i : Nat} (hi : i + 1 < n) (T : Rat) : soE P E G A C n T (i + 1) - ((wR A C (i + 1) + pR P E G (i + 1) + (qiR (pR P E G) n (i + 1) + qlR (pR P E G) n (i + 1))) * T - pR P E G (i + 1) * T - qiR (pR P E G) n (i + 1) * T) ≤ (wR A C (i + 1) + qlR (pR P E G) n (i + 1)) * 0 ∧ ((wR A C (i + 1) + pR P E G (i + 1) + (qiR (pR P E G) n (i + 1) + qlR (pR P E G) n (i + 1))) * T - pR P E G (i + 1) * T - qiR (pR P E G) n (i + 1) * T) - soE P E G A C n T (i + 1) ≤ (wR A C (i + 1) + qlR (pR P E G) n (i + 1)) * 0 := by
  unfold soE qiR qlR
  rw [if_neg (show ¬ i + 1 = 0 by omega)]
  generalize wR A C (i + 1) = w
  generalize pR P E G (i + 1) = p0
  generalize pR P E G (i + 1 + 1) = p1
  by_cases hl : i + 1 + 1 = n
  · rw [if_pos hl, if_neg (by omega), if_neg (by omega)]; exact ⟨by grind, by grind⟩
  · rw [if_neg hl, if_pos (by omega), if_pos (by omega)]; exact ⟨by grind, by grind⟩
set_option maxHeartbeats 1000000 in
theorem EV.rows (h : EV P n A C E G t M) : RowsE n (rwB P E G) (rwA P E G 1048576000) (rwX P E G) (rwS P E G 1048576000) (pR P E G) (wR A C) (soE P E G A C n ((t : Rat) / 2)) (fun _ => (t : Rat) / 2) M 0 M := by
  have hn := h.g.hn
  have hM := h.m
  have u0 : 0 < uu := by unfold uu; decide +kernel
  have u1 : 16700000 * uu = 1 := by unfold uu; decide +kernel
  have mu : 16700000 * (M * uu) = M := by grind
  have v := wmW_v h.ht
  have tb : (t : Rat) / 2 ≤ M ∧ -((t : Rat) / 2) ≤ M := by
    have := h.ge.t
    rw [h.e, v.2] at this
    exact this.2
  have wt : ∀ i, i < n → wR A C i * ((t : Rat) / 2) ≤ 16 * M ∧ -(wR A C i * ((t : Rat) / 2)) ≤ 16 * M := fun i hi => by
    obtain ⟨w1, w2⟩ := h.g.wb hi
    have k := mul_bd (a := 16) (b := M) (x := wR A C i) (y := (t : Rat) / 2) (by grind) w2 (by grind) tb.1
    exact ⟨k.2, by have := k.1; grind⟩
  have pt : ∀ i, i ≤ n → pR P E G i * ((t : Rat) / 2) ≤ 16 * M ∧ -(pR P E G i * ((t : Rat) / 2)) ≤ 16 * M := fun i hi => by
    obtain ⟨_, p1, p2⟩ := h.g.p h.ge h.gg hi
    have k := mul_bd (a := 16) (b := M) (x := pR P E G i) (y := (t : Rat) / 2) (by grind) p2 (by grind) tb.1
    exact ⟨k.2, by have := k.1; grind⟩
  refine ⟨hn, hM, ⟨Rat.le_refl, by grind, by grind, by grind⟩, fun i hi => (h.g.p h.ge h.gg hi).2, fun i hi => h.g.wb hi, fun i hi => ?_, fun i hi => ?_, fun i hi => ?_, fun i hi => ?_, fun i hi => ?_, fun i => tb, ?_, fun i hi => ?_⟩
  · obtain ⟨v, _⟩ := h.g.p h.ge h.gg (i := i) (by omega)
    have := fneg_val v.1
    exact ⟨this.1, by show fv .f32 (fneg .f32 _) = _; rw [this.2]; rfl⟩
  · obtain ⟨v, _⟩ := h.g.p h.ge h.gg (i := i + 1) (by omega)
    have := fneg_val v.1
    exact ⟨this.1, by show fv .f32 (fneg .f32 _) = _; rw [this.2]; rfl⟩
  · have p16 := fun j (hj : j ≤ n) => (h.g.p h.ge h.gg hj).2.2
    have := h.g.diag h.ge h.gg hi (B := 16) (by decide) (p16 _ (by omega)) (p16 _ (by omega)) (by decide)
    exact ⟨this.1, by have := this.2.1; grind, by have := this.2.2; grind⟩
  · have vw := h.g.w hi
    obtain ⟨c1, c2⟩ := wt i hi
    obtain ⟨a0, a1, a2⟩ := fop_u .mul rfl vw.1 v.1 (by simp) (M := 16 * M) (by grind) (by grind) (by simp only [ex]; rw [vw.2, v.2]; exact c1) (by simp only [ex]; rw [vw.2, v.2]; exact c2)
    simp only [ex] at a1 a2
    rw [vw.2, v.2] at a1 a2
    have e0 : rwS0 P 1048576000 i = fop .mul .f32 (rwW P 1048576000 i) (wmW t) := by unfold rwS0; rw [h.d i hi]
    rw [← e0] at a0 a1 a2
    have s1 : fnt .f32 (rwS1 P E G 1048576000 i) = true ∧ fv .f32 (rwS1 P E G 1048576000 i) - (wR A C i * ((t : Rat) / 2) + (if i = 0 then pR P E G 0 * ((t : Rat) / 2) else 0)) ≤ 66 * (M * uu) ∧ (wR A C i * ((t : Rat) / 2) + (if i = 0 then pR P E G 0 * ((t : Rat) / 2) else 0)) - fv .f32 (rwS1 P E G 1048576000 i) ≤ 66 * (M * uu) ∧ (wR A C i * ((t : Rat) / 2) + (if i = 0 then pR P E G 0 * ((t : Rat) / 2) else 0)) ≤ 32 * M ∧ -(wR A C i * ((t : Rat) / 2) + (if i = 0 then pR P E G 0 * ((t : Rat) / 2) else 0)) ≤ 32 * M := by
      unfold rwS1
      by_cases h0 : i = 0
      · rw [if_pos h0, if_pos h0, h.e]
        obtain ⟨vp, _⟩ := h.g.p h.ge h.gg (i := 0) (by omega)
        obtain ⟨d1, d2⟩ := pt 0 (by omega)
        obtain ⟨b0, b1, b2⟩ := fop_u .mul rfl vp.1 v.1 (by simp) (M := 16 * M) (by grind) (by grind) (by simp only [ex]; rw [vp.2, v.2]; exact d1) (by simp only [ex]; rw [vp.2, v.2]; exact d2)
        simp only [ex] at b1 b2
        rw [vp.2, v.2] at b1 b2
        obtain ⟨f0, f1, f2⟩ := fop_u .add rfl a0 b0 (by simp) (M := 33 * M) (by grind) (by grind) (by simp only [ex]; grind) (by simp only [ex]; grind)
        simp only [ex] at f1 f2
        exact ⟨f0, by grind, by grind, by grind, by grind⟩
      · rw [if_neg h0, if_neg h0]
        exact ⟨a0, by grind, by grind, by grind, by grind⟩
    obtain ⟨g0, g1, g2, g3, g4⟩ := s1
    unfold soE rwS
    rw [h.g.la]
    generalize rwS1 P E G 1048576000 i = s at *
    generalize wR A C i * ((t : Rat) / 2) + (if i = 0 then pR P E G 0 * ((t : Rat) / 2) else 0) = o at *
    by_cases hl : i + 1 = n
    · rw [if_pos hl, if_pos hl, h.g']
      obtain ⟨vp, _⟩ := h.g.p h.ge h.gg (i := i + 1) (by omega)
      obtain ⟨d1, d2⟩ := pt (i + 1) (by omega)
      obtain ⟨b0, b1, b2⟩ := fop_u .mul rfl vp.1 v.1 (by simp) (M := 16 * M) (by grind) (by grind) (by simp only [ex]; rw [vp.2, v.2]; exact d1) (by simp only [ex]; rw [vp.2, v.2]; exact d2)
      simp only [ex] at b1 b2
      rw [vp.2, v.2] at b1 b2
      obtain ⟨f0, f1, f2⟩ := fop_u .add rfl g0 b0 (by simp) (M := 49 * M) (by grind) (by grind) (by simp only [ex]; grind) (by simp only [ex]; grind)
      simp only [ex] at f1 f2
      exact ⟨f0, by grind, by grind⟩
    · rw [if_neg hl, if_neg hl]
      exact ⟨g0, by grind, by grind⟩
  · obtain ⟨c1, c2⟩ := wt i hi
    obtain ⟨d1, d2⟩ := pt 0 (by omega)
    obtain ⟨e1, e2⟩ := pt (i + 1) (by omega)
    unfold soE
    split <;> split <;> exact ⟨by grind, by grind⟩
  · exact soE_first P E G A C (by omega) _
  · exact soE_next P E G A C hi _
/-- A tick by rows. -/
theorem EV.held (h : EV P n A C E G t M) : rwsOk P E G 1048576000 = true ∧ GR (rwsR P E G 1048576000) n A C (M + M / 1000) ∧ ∀ i, i < n → xR (rwsR P E G 1048576000) i - (t : Rat) / 2 ≤ 13100 * (M * uu) ∧ (t : Rat) / 2 - xR (rwsR P E G 1048576000) i ≤ 13100 * (M * uu) := by
  have R := h.rows
  obtain ⟨u0, u1, u2, u3⟩ := R.mu
  have v := wmW_v h.ht
  have tb : (t : Rat) / 2 ≤ M ∧ -((t : Rat) / 2) ≤ M := by
    have := h.ge.t
    rw [h.e, v.2] at this
    exact this.2
  have hat : ∀ i, i < n → cn .f32 ((rwsL P E G 1048576000).getD i 0) = solO (rwB P E G) (rwA P E G 1048576000) (rwX P E G) (rwS P E G 1048576000) n i := fun i hi => by
    unfold rwsL
    rw [h.g.la, solL_at hi, cn_solO]
  have Q : GR (rwsR P E G 1048576000) n A C (M + M / 1000) := h.g.with (L := rwsL P E G 1048576000) (by unfold rwsL; rw [solL_len, h.g.la]) (fun i hi => by
    rw [hat i hi]
    have Y := R.y hi
    exact ⟨Y.f, by have := Y.y1; grind, by have := Y.y2; grind⟩)
  refine ⟨?_, Q, fun i hi => ?_⟩
  · unfold rwsOk rwsPre
    rw [h.g.passOk h.ge h.gg, Q.ok, abv_of V25w.1 (by rw [V25w.2]; grind)]; rfl
  · have Y := R.y hi
    have e : xR (rwsR P E G 1048576000) i = fv .f32 (solO (rwB P E G) (rwA P E G 1048576000) (rwX P E G) (rwS P E G 1048576000) n i) := by
      show fv .f32 (cn .f32 ((rwsL P E G 1048576000).getD i 0)) = _
      rw [hat i hi]
    rw [e]
    exact ⟨by have := Y.y1; grind, by have := Y.y2; grind⟩
end
end Go.Proofs.Ytpnkapdemgieaaa
set_option linter.unusedSimpArgs false
set_option linter.unusedVariables false
set_option linter.unusedSectionVars false
namespace Go.Proofs.Ytpnkapdemgieaaa
open Go Go.RowKit
open Go.ChangeShapes Go.WideShapes Go.ChangeAt Go.RowKit Go.Joins
end Go.Proofs.Ytpnkapdemgieaaa
set_option linter.unusedSimpArgs false
set_option linter.unusedVariables false
set_option linter.unusedSectionVars false
namespace Go.Proofs.Ytpnkapdemgieaaa
open Go Go.RowKit
open Go.ChangeShapes Go.WideShapes Go.ChangeAt Go.RowKit Go.Joins
section
variable {P : Program} {ops : Array Oper} {Q : Exit → Act → World → Prop} {W : World} {l : List Oper} {cs : List Clm} {i : Nat} {ks : List (Nat × (World → Prop))} {a : Act} {o : Oper}
end
def joinR (P Q : Rd) : Rd := ⟨P.a ++ Q.a, P.b ++ Q.b, P.c ++ Q.c, P.d ++ Q.d⟩
end Go.Proofs.Ytpnkapdemgieaaa
set_option linter.unusedSimpArgs false
set_option linter.unusedVariables false
set_option linter.unusedSectionVars false
namespace Go.Proofs.Ytpnkapdemgieaaa
open Go Go.RowKit
open Go.ChangeShapes Go.WideShapes Go.ChangeAt Go.RowKit Go.Joins
end Go.Proofs.Ytpnkapdemgieaaa
set_option linter.unusedSimpArgs false
set_option linter.unusedVariables false
set_option linter.unusedSectionVars false
namespace Go.Proofs.Ytpnkapdemgieaaa
open Go Go.RowKit
/-- A rod of drawn numbers, up to twelve cells. -/
structure WR (P : Rd) (n : Nat) (A B C T : Nat → Int) : Prop where
  hn : 1 ≤ n ∧ n ≤ 12
  la : P.a.length = n
  lb : P.b.length = n
  lc : P.c.length = n
  ld : P.d.length = n
  a : ∀ i, i < n → V .f32 (cn .f32 (P.a.getD i 0)) ((A i : Rat) / 4) ∧ 1 ≤ A i ∧ A i ≤ 8
  b : ∀ i, i < n → V .f32 (cn .f32 (P.b.getD i 0)) ((B i : Rat) / 4) ∧ 1 ≤ B i ∧ B i ≤ 8
  c : ∀ i, i < n → V .f32 (cn .f32 (P.c.getD i 0)) ((C i : Rat) / 4) ∧ 1 ≤ C i ∧ C i ≤ 8
  d : ∀ i, i < n → V .f32 (cn .f32 (P.d.getD i 0)) ((T i : Rat) / 2) ∧ -16 ≤ T i ∧ T i ≤ 16
theorem t8 {t : Int} (h : -16 ≤ t ∧ t ≤ 16) : (t : Rat) / 2 ≤ 8 ∧ -((t : Rat) / 2) ≤ 8 := by
  have a := icast_le h.1
  have b := icast_le h.2
  have e1 : ((-16 : Int) : Rat) = -16 := rfl
  have e2 : ((16 : Int) : Rat) = 16 := rfl
  rw [e1] at a
  rw [e2] at b
  exact ⟨by grind, by grind⟩
section
variable {P : Rd} {n : Nat} {A B C T : Nat → Int}
theorem WR.dr (h : WR P n A B C T) (hn : n ≤ 6) : DR P n A C T :=
  ⟨⟨⟨h.hn.1, hn⟩, h.la, h.lb, h.lc, h.ld, h.a, fun i hi => ⟨B i, (h.b i hi).2, (h.b i hi).1⟩, h.c, fun i hi => ⟨(h.d i hi).1.1, by rw [(h.d i hi).1.2]; exact t8 (h.d i hi).2⟩⟩, h.d⟩
theorem WR.ok (h : WR P n A B C T) : P.ok = true := by
  have hn := h.hn
  unfold Rd.ok Rd.sized
  rw [h.la, h.lb, h.lc, h.ld]
  rw [posL_of (xs := P.a) (fun i hi => by rw [h.la] at hi; obtain ⟨v, k⟩ := h.a i hi; have := int1 k; exact ⟨v.1, by rw [v.2]; grind⟩),
    posL_of (xs := P.b) (fun i hi => by rw [h.lb] at hi; obtain ⟨v, k⟩ := h.b i hi; have := int1 k; exact ⟨v.1, by rw [v.2]; grind⟩),
    posL_of (xs := P.c) (fun i hi => by rw [h.lc] at hi; obtain ⟨v, k⟩ := h.c i hi; have := int1 k; exact ⟨v.1, by rw [v.2]; grind⟩),
    finL_of (xs := P.d) (fun i hi => by rw [h.ld] at hi; exact (h.d i hi).1.1)]
  rw [decide_eq_true hn.1, decide_eq_true (show n ≤ 48 by omega), decide_eq_true (rfl : n = n)]; rfl
theorem WR.ac (h : WR P n A B C T) {i : Nat} (hi : i < n) : (1 ≤ A i * C i ∧ A i * C i ≤ 64) ∧ -1024 ≤ A i * C i * T i ∧ A i * C i * T i ≤ 1024 := act_bd (h.a i hi).2 (h.c i hi).2 (h.d i hi).2
theorem WR.m (h : WR P n A B C T) {i : Nat} (hi : i < n) : V .f32 (fop .mul .f32 (cn .f32 (P.a.getD i 0)) (cn .f32 (P.c.getD i 0))) (((A i * C i : Int) : Rat) / 16) := by
  have hh := (h.ac hi).1
  have e : ex .mul ((A i : Rat) / 4) ((C i : Rat) / 4) = ((A i * C i : Int) : Rat) / 16 := by simp only [ex]; rw [Rat.intCast_mul]; grind
  have r : Rep .f32 (((A i * C i : Int) : Rat) / 16) := rep_at (k := .f32) (A i * C i) (-4) (by show (A i * C i).natAbs < 2 ^ (23 + 1); omega) (by decide) (by decide) (by have := tp_m4; grind)
  have Q := V.op .mul rfl (h.a i hi).1 (h.c i hi).1 (by simp) (by rw [e]; exact r)
  rwa [e] at Q
theorem z_of : ((0 : Int) : Rat) = 0 := rfl
/-- The heat, exactly. -/
theorem WR.heat (h : WR P n A B C T) : ∀ k, k ≤ n → V .f32 (heatK P k) (((sumZ (fun i => A i * C i * T i) k : Int) : Rat) / 32)
  | 0, _ => V0.eq (by show (0 : Rat) = ((0 : Int) : Rat) / 32; rw [z_of]; grind)
  | k + 1, hk => by
    have a := h.heat k (by omega)
    have hn := h.hn
    obtain ⟨_, c3, c4⟩ := h.ac (i := k) (by omega)
    obtain ⟨s1, s2⟩ := sumZ_bd (f := fun i => A i * C i * T i) (B := 1024) k (fun i hi => (h.ac (i := i) (by omega)).2)
    have kb : (k : Int) * 1024 ≤ 12 * 1024 := Int.mul_le_mul_of_nonneg_right (by omega) (by decide)
    have es : sumZ (fun i => A i * C i * T i) (k + 1) = sumZ (fun i => A i * C i * T i) k + A k * C k * T k := rfl
    have e1 : ex .mul (((A k * C k : Int) : Rat) / 16) ((T k : Rat) / 2) = ((A k * C k * T k : Int) : Rat) / 32 := by simp only [ex]; rw [Rat.intCast_mul (A k * C k) (T k)]; grind
    have Q := V.op .mul rfl (h.m (i := k) (by omega)) (h.d k (by omega)).1 (by simp) (by rw [e1]; exact rep32 (by omega))
    rw [e1] at Q
    have e2 : ex .add (((sumZ (fun i => A i * C i * T i) k : Int) : Rat) / 32) (((A k * C k * T k : Int) : Rat) / 32) = ((sumZ (fun i => A i * C i * T i) (k + 1) : Int) : Rat) / 32 := by simp only [ex]; rw [es, Rat.intCast_add]; grind
    have R := V.op .add rfl a Q (by simp) (by rw [e2]; exact rep32 (by rw [es]; omega))
    rwa [e2] at R
theorem sumZ_lo {f : Nat → Int} : ∀ k, (∀ i, i < k → 1 ≤ f i ∧ f i ≤ 64) → (k : Int) ≤ sumZ f k ∧ sumZ f k ≤ k * 64
  | 0, _ => by simp [sumZ]
  | k + 1, h => by
    obtain ⟨a, b⟩ := sumZ_lo k (fun i hi => h i (by omega))
    obtain ⟨c, d⟩ := h k (by omega)
    simp only [sumZ]
    exact ⟨by omega, by omega⟩
/-- The mass, exactly. -/
theorem WR.mass (h : WR P n A B C T) : ∀ k, k ≤ n → V .f32 (massK P k) (((sumZ (fun i => A i * C i) k : Int) : Rat) / 16)
  | 0, _ => V0.eq (by show (0 : Rat) = ((0 : Int) : Rat) / 16; rw [z_of]; grind)
  | k + 1, hk => by
    have a := h.mass k (by omega)
    have hn := h.hn
    obtain ⟨⟨c1, c2⟩, _⟩ := h.ac (i := k) (by omega)
    obtain ⟨s1, s2⟩ := sumZ_lo (f := fun i => A i * C i) k (fun i hi => (h.ac (i := i) (by omega)).1)
    have es : sumZ (fun i => A i * C i) (k + 1) = sumZ (fun i => A i * C i) k + A k * C k := rfl
    have e2 : ex .add (((sumZ (fun i => A i * C i) k : Int) : Rat) / 16) (((A k * C k : Int) : Rat) / 16) = ((sumZ (fun i => A i * C i) (k + 1) : Int) : Rat) / 16 := by simp only [ex]; rw [es, Rat.intCast_add]; grind
    have R := V.op .add rfl a (h.m (i := k) (by omega)) (by simp) (by rw [e2]; exact rep_at (k := .f32) (sumZ (fun i => A i * C i) (k + 1)) (-4) (by rw [es]; show Int.natAbs _ < 2 ^ (23 + 1); omega) (by decide) (by decide) (by have := tp_m4; grind))
    rwa [e2] at R
/-- The length, exactly. -/
theorem WR.long (h : WR P n A B C T) : ∀ k, k ≤ n → V .f32 (accC id (P.a.take k)) (((sumZ A k : Int) : Rat) / 4)
  | 0, _ => V0.eq (by show (0 : Rat) = ((0 : Int) : Rat) / 4; rw [z_of]; grind)
  | k + 1, hk => by
    have a := h.long k (by omega)
    have hn := h.hn
    obtain ⟨va, c1, c2⟩ := h.a k (by omega)
    obtain ⟨s1, s2⟩ := sumZ_lo (f := A) k (fun i hi => by have := (h.a i (by omega)).2; omega)
    have es : sumZ A (k + 1) = sumZ A k + A k := rfl
    have e2 : ex .add (((sumZ A k : Int) : Rat) / 4) ((A k : Rat) / 4) = ((sumZ A (k + 1) : Int) : Rat) / 4 := by simp only [ex]; rw [es, Rat.intCast_add]; grind
    have R := V.op .add rfl a va (by simp) (by rw [e2]; exact rep_quarter (by rw [es]; omega))
    rw [e2] at R
    rw [accC_step id P.a (by rw [h.la]; omega)]
    exact R
/-- How much hinders, near. -/
def rH (A B : Nat → Int) (i : Nat) : Rat := (A i : Rat) / (B i : Rat)
theorem WR.r (h : WR P n A B C T) {i : Nat} (hi : i < n) : 1 / 8 ≤ rH A B i ∧ rH A B i ≤ 8 := by
  obtain ⟨a1, a2⟩ := int1 (h.a i hi).2
  obtain ⟨b1, b2⟩ := int1 (h.b i hi).2
  have dv : (A i : Rat) / (B i : Rat) * (B i : Rat) = (A i : Rat) := Rat.div_mul_cancel (by grind)
  unfold rH
  exact ⟨mul_cancel_le (c := (B i : Rat)) (by grind) (by rw [dv]; grind), mul_cancel_le (c := (B i : Rat)) (by grind) (by rw [dv]; grind)⟩
theorem WR.hinder (h : WR P n A B C T) : ∀ k, k ≤ n → fnt .f32 (hindK P k) = true ∧ fv .f32 (hindK P k) - sumQ (rH A B) k ≤ (k : Rat) * (106 * uu) ∧ sumQ (rH A B) k - fv .f32 (hindK P k) ≤ (k : Rat) * (106 * uu) ∧ (k : Rat) / 8 ≤ sumQ (rH A B) k ∧ sumQ (rH A B) k ≤ (k : Rat) * 8
  | 0, _ => by
    have e : ((0 : Nat) : Rat) = 0 := rfl
    rw [e]
    refine ⟨V0.1, ?_, ?_, ?_, ?_⟩
    · show fv .f32 (cn .f32 0) - 0 ≤ _; rw [V0.2]; grind
    · show 0 - fv .f32 (cn .f32 0) ≤ _; rw [V0.2]; grind
    · show _ ≤ (0 : Rat); grind
    · show (0 : Rat) ≤ _; grind
  | k + 1, hk => by
    obtain ⟨a0, a1, a2, a3, a4⟩ := h.hinder k (by omega)
    have u0 : 0 < uu := by unfold uu; decide +kernel
    have u1 : 16700000 * uu = 1 := by unfold uu; decide +kernel
    have hn := h.hn
    have kb : (k : Rat) ≤ ((11 : Nat) : Rat) := by exact_mod_cast (by omega : k ≤ 11)
    have k0 : (0 : Rat) ≤ (k : Rat) := by exact_mod_cast Nat.zero_le k
    have e11 : ((11 : Nat) : Rat) = 11 := rfl
    rw [e11] at kb
    have e : ((k + 1 : Nat) : Rat) = (k : Rat) + 1 := by rw [Rat.natCast_add]; rfl
    have kb2 := Rat.mul_le_mul_of_nonneg_right kb (show 0 ≤ 106 * uu by grind)
    obtain ⟨va, ka⟩ := h.a k (by omega)
    obtain ⟨vb, kb'⟩ := h.b k (by omega)
    obtain ⟨b1, b2⟩ := int1 kb'
    obtain ⟨r1, r2⟩ := h.r (i := k) (by omega)
    have eq : (A k : Rat) / 4 / ((B k : Rat) / 4) = rH A B k := by
      unfold rH
      have d1 : (A k : Rat) / (B k : Rat) * (B k : Rat) = (A k : Rat) := Rat.div_mul_cancel (by grind)
      have d2 : (A k : Rat) / 4 / ((B k : Rat) / 4) * ((B k : Rat) / 4) = (A k : Rat) / 4 := Rat.div_mul_cancel (by grind)
      exact Rat.le_antisymm (mul_cancel_le (c := (B k : Rat)) (by grind) (by grind)) (mul_cancel_le (c := (B k : Rat)) (by grind) (by grind))
    obtain ⟨c0, c1, c2⟩ := fop_u .quo rfl va.1 vb.1 (fun _ => by rw [vb.2]; grind) (M := 8) (by grind) (by grind) (by simp only [ex]; rw [va.2, vb.2, eq]; grind) (by simp only [ex]; rw [va.2, vb.2, eq]; grind)
    simp only [ex] at c1 c2
    rw [va.2, vb.2, eq] at c1 c2
    obtain ⟨g0, g1, g2⟩ := fop_u .add rfl a0 c0 (by simp) (M := 97) (by grind) (by grind) (by simp only [ex]; grind) (by simp only [ex]; grind)
    simp only [ex] at g1 g2
    have eh : hindK P (k + 1) = fop .add .f32 (hindK P k) (fop .quo .f32 (cn .f32 (P.a.getD k 0)) (cn .f32 (P.b.getD k 0))) := rfl
    have es : sumQ (rH A B) (k + 1) = sumQ (rH A B) k + rH A B k := rfl
    rw [eh, es, e]
    exact ⟨g0, by grind, by grind, by grind, by grind⟩
end
/-- The other way round. -/
def bkR (P : Rd) : Rd := ⟨P.a.reverse, P.b.reverse, P.c.reverse, P.d.reverse⟩
def mi (n i : Nat) : Nat := if i < n then i else 2 * n - 1 - i
theorem rv_at {xs : List Nat} {i : Nat} (h : i < xs.length) : xs.reverse.getD i 0 = xs.getD (xs.length - 1 - i) 0 := by
  rw [List.getD_eq_getElem?_getD, List.getElem?_reverse h, ← List.getD_eq_getElem?_getD]
theorem tw_at {xs : List Nat} {i : Nat} (h : i < xs.length + xs.length) : (xs ++ xs.reverse).getD i 0 = xs.getD (mi xs.length i) 0 := by
  unfold mi
  by_cases h1 : i < xs.length
  · rw [if_pos h1, List.getD_eq_getElem?_getD, List.getElem?_append_left h1, ← List.getD_eq_getElem?_getD]
  · rw [if_neg h1, List.getD_eq_getElem?_getD, List.getElem?_append_right (by omega), ← List.getD_eq_getElem?_getD, rv_at (by omega)]
    congr 1; omega
theorem mi_lt {n i : Nat} (h : i < n + n) : mi n i < n := by unfold mi; split <;> omega
section
variable {P : Rd} {n : Nat} {A B C T : Nat → Int}
theorem WR.bk (h : WR P n A B C T) : WR (bkR P) n (fun i => A (n - 1 - i)) (fun i => B (n - 1 - i)) (fun i => C (n - 1 - i)) (fun i => T (n - 1 - i)) := by
  refine ⟨h.hn, by simp [bkR, h.la], by simp [bkR, h.lb], by simp [bkR, h.lc], by simp [bkR, h.ld], fun i hi => ?_, fun i hi => ?_, fun i hi => ?_, fun i hi => ?_⟩
  · show V .f32 (cn .f32 (P.a.reverse.getD i 0)) _ ∧ _
    rw [rv_at (by rw [h.la]; exact hi), h.la]; exact h.a (n - 1 - i) (by omega)
  · show V .f32 (cn .f32 (P.b.reverse.getD i 0)) _ ∧ _
    rw [rv_at (by rw [h.lb]; exact hi), h.lb]; exact h.b (n - 1 - i) (by omega)
  · show V .f32 (cn .f32 (P.c.reverse.getD i 0)) _ ∧ _
    rw [rv_at (by rw [h.lc]; exact hi), h.lc]; exact h.c (n - 1 - i) (by omega)
  · show V .f32 (cn .f32 (P.d.reverse.getD i 0)) _ ∧ _
    rw [rv_at (by rw [h.ld]; exact hi), h.ld]; exact h.d (n - 1 - i) (by omega)
theorem WR.tw (h : WR P n A B C T) (h6 : n ≤ 6) : WR (joinR P (bkR P)) (n + n) (fun i => A (mi n i)) (fun i => B (mi n i)) (fun i => C (mi n i)) (fun i => T (mi n i)) := by
  have hn := h.hn
  refine ⟨by omega, by simp [joinR, bkR, h.la], by simp [joinR, bkR, h.lb], by simp [joinR, bkR, h.lc], by simp [joinR, bkR, h.ld], fun i hi => ?_, fun i hi => ?_, fun i hi => ?_, fun i hi => ?_⟩
  · show V .f32 (cn .f32 ((P.a ++ P.a.reverse).getD i 0)) _ ∧ _
    rw [tw_at (by rw [h.la]; exact hi), h.la]; exact h.a _ (mi_lt hi)
  · show V .f32 (cn .f32 ((P.b ++ P.b.reverse).getD i 0)) _ ∧ _
    rw [tw_at (by rw [h.lb]; exact hi), h.lb]; exact h.b _ (mi_lt hi)
  · show V .f32 (cn .f32 ((P.c ++ P.c.reverse).getD i 0)) _ ∧ _
    rw [tw_at (by rw [h.lc]; exact hi), h.lc]; exact h.c _ (mi_lt hi)
  · show V .f32 (cn .f32 ((P.d ++ P.d.reverse).getD i 0)) _ ∧ _
    rw [tw_at (by rw [h.ld]; exact hi), h.ld]; exact h.d _ (mi_lt hi)
end
end Go.Proofs.Ytpnkapdemgieaaa
set_option linter.unusedSimpArgs false
set_option linter.unusedVariables false
set_option linter.unusedSectionVars false
namespace Go.Proofs.Ytpnkapdemgieaaa
open Go Go.RowKit
section
variable {n : Nat} {p s : Nat → Nat}
/-- The lengths of the answers. -/
def lS (p s : Nat → Nat) (n j : Nat) : Rat := fv .f32 (lgW (oW p s n (j - 1)).1 (oW p s n (j - 1)).2)
theorem SwH.lg (h : SwH n p s) {i : Nat} (hi : i < n) : fits (sqC (pwW (oW p s n i).1 (oW p s n i).2)) = true ∧ fnt .f32 (lgW (oW p s n i).1 (oW p s n i).2) = true ∧ 0 ≤ fv .f32 (lgW (oW p s n i).1 (oW p s n i).2) ∧ fv .f32 (lgW (oW p s n i).1 (oW p s n i).2) ≤ 2000 ∧
    ∀ e, fv .f32 (lgW (oW p s n i).1 (oW p s n i).2) * (1 / 5000000) + 1 / 1000000000000000 ≤ e → Nb (xS p s n (i + 1)) (yS p s n (i + 1)) (fv .f32 (lgW (oW p s n i).1 (oW p s n i).2) + e) ∧ (e ≤ fv .f32 (lgW (oW p s n i).1 (oW p s n i).2) → (fv .f32 (lgW (oW p s n i).1 (oW p s n i).2) - e) * (fv .f32 (lgW (oW p s n i).1 (oW p s n i).2) - e) ≤ nn (xS p s n) (yS p s n) (i + 1)) :=
  lg_ok (h.bk hi).a (h.bk hi).b Rat.le_refl
theorem SwH.lz (h : SwH n p s) {e B : Rat} (he : e = tiB ∧ B = 1001 ∨ e = tiA ∧ B = 1006 / 1000 ∧ ∀ j, 0 < j → j ≤ n → lS p s n j ≤ B) : Lz n (xS p s n) (yS p s n) (lS p s n) e := by
  have key : ∀ j, 0 < j → j ≤ n → 0 ≤ lS p s n j ∧ lS p s n j ≤ 1001 ∧ Nb (xS p s n j) (yS p s n j) (lS p s n j + e) ∧ (e ≤ lS p s n j → (lS p s n j - e) * (lS p s n j - e) ≤ nn (xS p s n) (yS p s n) j) := fun j h0 hj => by
    obtain ⟨i, rfl⟩ : ∃ i, j = i + 1 := ⟨j - 1, by omega⟩
    obtain ⟨_, _, l0, l2, hl⟩ := h.lg (i := i) (by omega)
    have eL : lS p s n (i + 1) = fv .f32 (lgW (oW p s n i).1 (oW p s n i).2) := rfl
    rw [← eL] at l0 l2 hl
    -- at most 1001
    obtain ⟨_, m2⟩ := hl 1 (by grind)
    have nb := (h.bk (i := i) (by omega)).nb
    have top : lS p s n (i + 1) ≤ 1001 := by
      by_cases h1 : 1 ≤ lS p s n (i + 1)
      · have m3 := m2 h1
        have m4 : nn (xS p s n) (yS p s n) (i + 1) ≤ 1000 * 1000 := nb.2
        have := (abs_of_sq (x := lS p s n (i + 1) - 1) (M := 1000) (by grind) (by decide)).1
        grind
      · grind
    obtain ⟨k1, k2⟩ := hl e (by
      rcases he with ⟨rfl, _⟩ | ⟨rfl, hB, hh⟩
      · unfold tiB; grind
      · have := hh (i + 1) h0 hj
        unfold tiA; grind)
    exact ⟨l0, top, k1, k2⟩
  exact ⟨fun j a b => (key j a b).2.2.1, fun j a b => (key j a b).2.2.2, fun j a b => (key j a b).1, fun j a b => (key j a b).2.1⟩
theorem SwH.rz (h : SwH n p s) {B : Rat} (B1 : 1 ≤ B) (B2 : B ≤ 1000) (hB : ∀ i, i < n → Nb (xS p s n (i + 1)) (yS p s n (i + 1)) B) : Rz n (fun i => fv .f32 (p i)) (fun i => fv .f32 (s i)) (xS p s n) (yS p s n) (uu * (112 + 100 * B)) := by
  refine ⟨h.n6, rfl, rfl, h.p0.2.1, fun i hi => (h.pm i hi).2.1, ?_, fun i hi => h.rows B1 B2 hB hi⟩
  have := h.pl.2.1
  have := h.pl.2.2
  grind
theorem SwH.one (h : SwH n p s) : ∀ j, 0 < j → j ≤ n → lS p s n j ≤ 1006 / 1000 :=
  len_one h.n0 (fun B b1 b2 hB => h.rz b1 b2 hB) (fun i hi => (h.bk hi).nb) (h.lz (.inl ⟨rfl, rfl⟩))
theorem SwH.lz2 (h : SwH n p s) : Lz n (xS p s n) (yS p s n) (lS p s n) tiA := h.lz (.inr ⟨rfl, rfl, h.one⟩)
theorem SwH.rz2 (h : SwH n p s) : Rz n (fun i => fv .f32 (p i)) (fun i => fv .f32 (s i)) (xS p s n) (yS p s n) (uu * (112 + 100 * (1007 / 1000))) :=
  h.rz (by decide +kernel) (by decide +kernel) fun i hi => (h.lz2.nb (i + 1) (by omega) (by omega)).mono (by have := h.one (i + 1) (by omega) (by omega); unfold tiA; grind)
theorem SwH.down (h : SwH n p s) {i : Nat} (h0 : 0 < i) (hi : i < n) : lS p s n (i + 1) ≤ lS p s n i + 99 / 10000 := len_down h.rz2 h.lz2 h0 hi
theorem SwH.slow (h : SwH n p s) (hs : ∀ i, i < n → fv .f32 (s i) ≤ 25134 / 100000000) {j : Nat} (h0 : 0 < j) (hj : j ≤ n) : 96 / 100 ≤ lS p s n j := by
  have key := h.rz2.slow (c := 2660 / 10000000) (by decide +kernel) (fun i hi => by
    have nb := (h.lz2.nb (i + 1) (by omega) (by omega)).mono (show _ ≤ (1007 / 1000 : Rat) by have := h.one (i + 1) (by omega) (by omega); unfold tiA; grind)
    obtain ⟨a0, a1, a2⟩ := h.sw i hi
    have hh := hs i hi
    obtain ⟨m1, m2⟩ := mul_bd (x := fv .f32 (s i)) (a := 25134 / 100000000) (y := yS p s n (i + 1)) (b := 1007 / 1000) (by grind) hh (by have := nb.im.2; grind) nb.im.1
    unfold uu
    constructor <;> grind) j hj
  have w : ((wX j : Nat) : Rat) ≤ 144 := by exact_mod_cast wX_top j (by have := h.n6; omega)
  have nb := (h.lz2.nb j h0 hj).re.1
  have := Rat.mul_le_mul_of_nonneg_right w (show (0 : Rat) ≤ 2660 / 10000000 by decide +kernel)
  unfold tiA at nb
  grind
end
/-! ### On words -/
def c101 : Nat := cn .f64 4607227454796291113
def c005 : Nat := cn .f64 4587366580439587226
def c001 : Nat := cn .f64 4576918229304087675
def cOne : Nat := cn .f64 4607182418800017408
theorem c101_b : fnt .f64 c101 = true ∧ 1009 / 1000 ≤ fv .f64 c101 := ⟨by decide +kernel, by decide +kernel⟩
theorem c005_b : fnt .f64 c005 = true ∧ 49 / 1000 ≤ fv .f64 c005 := ⟨by decide +kernel, by decide +kernel⟩
theorem c001_b : fnt .f64 c001 = true ∧ 9999 / 1000000 ≤ fv .f64 c001 ∧ fv .f64 c001 ≤ 1 := ⟨by decide +kernel, by decide +kernel, by decide +kernel⟩
theorem cOne_b : V .f64 cOne 1 := ⟨by decide +kernel, by decide +kernel⟩
/-- What the law asks of a quick swing's answers. -/
theorem SwH.quickW {n : Nat} {p s : Nat → Nat} (h : SwH n p s) {i : Nat} (hi : i < n) : fgt .f64 (wide (lgW (oW p s n i).1 (oW p s n i).2)) c101 = false ∧ (0 < i → fgt .f64 (wide (lgW (oW p s n i).1 (oW p s n i).2)) (fop .add .f64 (wide (lgW (oW p s n (i - 1)).1 (oW p s n (i - 1)).2)) c001) = false) := by
  obtain ⟨_, f1, l0, _⟩ := h.lg hi
  have o1 := h.one (i + 1) (by omega) (by omega)
  have eL : lS p s n (i + 1) = fv .f32 (lgW (oW p s n i).1 (oW p s n i).2) := rfl
  rw [eL] at o1
  obtain ⟨w0, w1⟩ := wide_val f1
  obtain ⟨c0, c1⟩ := c101_b
  refine ⟨by rw [fgtv w0 c0]; exact decide_eq_false (by rw [w1]; grind), fun h0 => ?_⟩
  have dn := h.down (i := i) h0 hi
  obtain ⟨_, f2, k0, _⟩ := h.lg (i := i - 1) (by omega)
  have eM : lS p s n i = fv .f32 (lgW (oW p s n (i - 1)).1 (oW p s n (i - 1)).2) := rfl
  have o2 := h.one i h0 (by omega)
  rw [eL, eM] at dn
  rw [eM] at o2
  obtain ⟨v0, v1⟩ := wide_val f2
  obtain ⟨d0, d1, d2⟩ := c001_b
  obtain ⟨g1, g2⟩ := fop_rnd .add rfl .f64 v0 d0 (by simp) 40 (by decide) (by simp only [ex]; rw [v1, t40]; grind) (by simp only [ex]; rw [v1, t40]; grind)
  simp only [ex] at g2
  rw [v1] at g2
  obtain ⟨r1, r2⟩ := rnd64 g2 (M := 3) (by grind) (by grind)
  have zz1 : zz ≤ 1 / 1000000000 := by decide +kernel
  rw [fgtv w0 g1]
  exact decide_eq_false (by rw [w1]; grind)
theorem rep_3_64 : Rep .f64 ((3 : Rat) / 64) := rep_at (k := .f64) 3 (-6) (by decide) (by decide) (by decide) (by
  have h : tp (-6) * tp 6 = 1 := by rw [← tp_add]; exact tp_zero
  rw [show tp 6 = 64 from (tp_nat 6).trans rfl] at h
  have e : ((3 : Int) : Rat) = 3 := rfl
  rw [e]; grind)
/-- What the law asks of a slow swing's answers. -/
theorem SwH.slowW {n : Nat} {p s : Nat → Nat} (h : SwH n p s) (hs : ∀ i, i < n → fv .f32 (s i) ≤ 25134 / 100000000) {i : Nat} (hi : i < n) : gapOk (wide (lgW (oW p s n i).1 (oW p s n i).2)) cOne ∧ fgt .f64 (gap8 (wide (lgW (oW p s n i).1 (oW p s n i).2)) cOne) c005 = false := by
  obtain ⟨_, f1, l0, _⟩ := h.lg hi
  have o1 := h.one (i + 1) (by omega) (by omega)
  have o2 := h.slow hs (j := i + 1) (by omega) (by omega)
  have eL : lS p s n (i + 1) = fv .f32 (lgW (oW p s n i).1 (oW p s n i).2) := rfl
  rw [eL] at o1 o2
  obtain ⟨w0, w1⟩ := wide_val f1
  obtain ⟨v0, v1⟩ := cOne_b
  obtain ⟨c0, c1⟩ := c005_b
  obtain ⟨g, b0, b1, b2⟩ := gap8_le w0 v0 rep_3_64 (by rw [w1, v1]; grind) (by rw [w1, v1]; grind)
  exact ⟨g, by rw [fgtv b0 c0]; exact decide_eq_false (by grind)⟩
/-! ### Drawn rods -/
def heE : EndT := ⟨0, 0, 1065353216⟩
def huE : EndT := ⟨1, 0, 1065353216⟩
theorem heE_ge : GE heE 8 := ⟨⟨by decide, by decide⟩, ⟨2, by decide, V1.1, by show fv .f32 (cn .f32 1065353216) = _; rw [V1.2]; have : ((2 : Int) : Rat) = 2 := rfl; rw [this]; grind⟩, V0.1, by show fv .f32 (cn .f32 0) ≤ 8; rw [V0.2]; decide, by show -fv .f32 (cn .f32 0) ≤ 8; rw [V0.2]; decide⟩
theorem huE_ge : GE huE 8 := ⟨⟨by decide, by decide⟩, ⟨2, by decide, V1.1, by show fv .f32 (cn .f32 1065353216) = _; rw [V1.2]; have : ((2 : Int) : Rat) = 2 := rfl; rw [this]; grind⟩, V0.1, by show fv .f32 (cn .f32 0) ≤ 8; rw [V0.2]; decide, by show -fv .f32 (cn .f32 0) ≤ 8; rw [V0.2]; decide⟩
/-- What passes and what swings. -/
def swP (P : Rd) (i : Nat) : Nat := pG P heE huE i
def swS (P : Rd) (r i : Nat) : Nat := fop .mul .f32 (fop .mul .f32 (fop .mul .f32 (cn .f32 1086918619) (cn .f32 r)) (cn .f32 (P.a.getD i 0))) (cn .f32 (P.c.getD i 0))
theorem mul_ro {x y : Nat} {M K : Rat} (hx : Fw x M) (hy : Fw y K) : fnt .f32 (fop .mul .f32 x y) = true ∧ Ro (fv .f32 (fop .mul .f32 x y)) (fv .f32 x * fv .f32 y) := by
  obtain ⟨_, m1, m2, m3⟩ := wmul hx hy
  obtain ⟨g1, g2⟩ := fop_rnd .mul rfl .f32 hx.1.1 hy.1.1 (by simp) 40 (by decide) (by simp only [ex]; rw [t40]; grind) (by simp only [ex]; rw [t40]; grind)
  simp only [ex] at g2
  refine ⟨g1, Ro.of fun W w1 w2 w0 => ?_⟩
  obtain ⟨k1, k2⟩ := rnd32 g2 w1 w2
  unfold zz at k1 k2
  unfold uu tt
  constructor <;> grind
variable {P : Rd} {n : Nat} {A B C T : Nat → Int}
theorem WR.swing (h : WR P n A B C T) {r : Nat} {lo hi : Rat} (h1 : 1 / 50000 ≤ lo) (h2 : hi ≤ 252 / 10) (hr : Btw .f32 (fop .mul .f32 (cn .f32 1086918619) (cn .f32 r)) lo hi) {i : Nat} (hin : i < n) : Btw .f32 (swS P r i) (1 / 1000000) 101 ∧ fv .f32 (swS P r i) ≤ hi * (40001 / 10000) := by
  obtain ⟨r0, r1, r2⟩ := hr
  obtain ⟨va, ka⟩ := h.a i hin
  obtain ⟨vc, kc⟩ := h.c i hin
  obtain ⟨a1, a2⟩ := int1 ka
  obtain ⟨c1, c2⟩ := int1 kc
  have us := uu_small
  have u0 := uu_pos
  have ut := uu_tiny
  have t0 := tt_pos
  have fr : Fw (fop .mul .f32 (cn .f32 1086918619) (cn .f32 r)) 26 := ⟨⟨r0, by grind, by grind⟩, by decide⟩
  have fa : Fw (cn .f32 (P.a.getD i 0)) 2 := ⟨⟨va.1, by rw [va.2]; grind, by rw [va.2]; grind⟩, by decide⟩
  have fc : Fw (cn .f32 (P.c.getD i 0)) 2 := ⟨⟨vc.1, by rw [vc.2]; grind, by rw [vc.2]; grind⟩, by decide⟩
  obtain ⟨m0, m1⟩ := mul_ro fr fa
  rw [va.2] at m1
  have e1 := Rat.mul_le_mul_of_nonneg_left a2 (show 0 ≤ fv .f32 (fop .mul .f32 (cn .f32 1086918619) (cn .f32 r)) by grind)
  have e2 := Rat.mul_le_mul_of_nonneg_left a1 (show 0 ≤ fv .f32 (fop .mul .f32 (cn .f32 1086918619) (cn .f32 r)) by grind)
  obtain ⟨n1, n2⟩ := Ru.nonneg uu_pos m1 (by grind)
  obtain ⟨q, hq⟩ : ∃ q, q = fv .f32 (fop .mul .f32 (fop .mul .f32 (cn .f32 1086918619) (cn .f32 r)) (cn .f32 (P.a.getD i 0))) := ⟨_, rfl⟩
  rw [← hq] at n1 n2
  have b1 := Rat.mul_nonneg (show 0 ≤ fv .f32 (fop .mul .f32 (cn .f32 1086918619) (cn .f32 r)) * ((A i : Rat) / 4) by grind) (show 0 ≤ 1 / 10000000 - uu by grind)
  have q1 : lo / 4 * (9999 / 10000) ≤ q := by clear m1; grind
  have q2 : q ≤ hi * 2 * (1000001 / 1000000) := by clear m1; grind
  have fq : Fw (fop .mul .f32 (fop .mul .f32 (cn .f32 1086918619) (cn .f32 r)) (cn .f32 (P.a.getD i 0))) 52 := ⟨⟨m0, by rw [← hq]; clear m1; grind, by rw [← hq]; clear m1; grind⟩, by decide⟩
  clear m1 e1 e2 n1 n2 b1
  obtain ⟨s0, s1⟩ := mul_ro fq fc
  rw [vc.2, ← hq] at s1
  have e1 := Rat.mul_le_mul_of_nonneg_left c2 (show 0 ≤ q by grind)
  have e2 := Rat.mul_le_mul_of_nonneg_left c1 (show 0 ≤ q by grind)
  obtain ⟨n1, n2⟩ := Ru.nonneg uu_pos s1 (by grind)
  have b1 := Rat.mul_nonneg (show 0 ≤ q * ((C i : Rat) / 4) by grind) (show 0 ≤ 1 / 10000000 - uu by grind)
  have s0 : fnt .f32 (swS P r i) = true := s0
  have eS : fv .f32 (swS P r i) = fv .f32 (fop .mul .f32 (fop .mul .f32 (fop .mul .f32 (cn .f32 1086918619) (cn .f32 r)) (cn .f32 (P.a.getD i 0))) (cn .f32 (P.c.getD i 0))) := rfl
  rw [← eS] at n1 n2
  clear s1
  refine ⟨⟨s0, ?_, ?_⟩, ?_⟩
  · grind
  · grind
  · grind
theorem WR.swh (h : WR P n A B C T) (h6 : n ≤ 6) {r : Nat} {lo hi : Rat} (h1 : 1 / 50000 ≤ lo) (h2 : hi ≤ 252 / 10) (hr : Btw .f32 (fop .mul .f32 (cn .f32 1086918619) (cn .f32 r)) lo hi) : SwH n (swP P) (swS P r) := by
  have g := (h.dr h6).g
  have hn := h.hn
  refine ⟨hn.1, h6, ?_, fun i hi => (g.pass heE_ge huE_ge (i := i + 1) (by omega)).2 (by omega) (by omega), ?_, fun i hi => (h.swing h1 h2 hr hi).1⟩
  · show Btw .f32 (pG P heE huE 0) (1 / 4) 16
    rw [pG_zero, endV_0 rfl]
    exact one_quo (g.half (by omega)) (by grind) Rp4 Rpx16 (by grind) (by grind) (by grind) (by grind)
  · show Btw .f32 (pG P heE huE n) 0 0
    have := pG_last (E := heE) (G := huE) (P := P) (by rw [h.la]; omega)
    rw [h.la] at this
    rw [this, endV_1 rfl]
    exact ⟨V0.1, by rw [V0.2]; exact Rat.le_refl, by rw [V0.2]; exact Rat.le_refl⟩
theorem slow_rate : Btw .f32 (fop .mul .f32 (cn .f32 1086918619) (cn .f32 925353388)) (62831 / 1000000000) (62833 / 1000000000) := ⟨by decide +kernel, by decide +kernel, by decide +kernel⟩
theorem quick_rate : Btw .f32 (fop .mul .f32 (cn .f32 1086918619) (cn .f32 1082130432)) 25 (2514 / 100) := ⟨by decide +kernel, by decide +kernel, by decide +kernel⟩
theorem WR.swSlow (h : WR P n A B C T) (h6 : n ≤ 6) : SwH n (swP P) (swS P 925353388) ∧ ∀ i, i < n → fv .f32 (swS P 925353388 i) ≤ 25134 / 100000000 :=
  ⟨h.swh h6 (by decide +kernel) (by decide +kernel) slow_rate, fun i hi => Rat.le_trans (h.swing (by decide +kernel) (by decide +kernel) slow_rate hi).2 (by decide +kernel)⟩
theorem WR.swQuick (h : WR P n A B C T) (h6 : n ≤ 6) : SwH n (swP P) (swS P 1082130432) := h.swh h6 (by decide +kernel) (by decide +kernel) quick_rate
end Go.Proofs.Ytpnkapdemgieaaa

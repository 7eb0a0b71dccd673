/-
  Rods that heat flows through evenly: the program's way. No condition but what each contract says.
  Drawn rods at rest: the same heat flows everywhere, nearly. No condition but what each law says; nothing of the program is named here.
  Drawn rods at rest, second part: how warm the cells are, what flows. No condition but what each law says; nothing of the program is named here.
  Drawn rods at rest, third part: the rod itself: what flows in it, and that it stays. No condition but what each law says; nothing of the program is named here.
  Drawn rods: the tick that is safe, and what comes of half of it and of eight of it: warmths stay between their bounds, nearly. No condition but what each law says; nothing of the program is named here.
  Drawn rods of one warmth: nothing flows, a tick changes no word, a tick by rows hardly changes a warmth. No condition but what each law says; nothing of the program is named here.
  slices.Grow at no slice, and slices.Concat of two slices of numbers. No condition but what each contract says.
  Rods that are joined: the program's way. No condition but what each contract says.
  Drawn rods, turned and joined to themselves: sums twice as great, warmths the same. No condition but what each law says; nothing of the program is named here.
-/
import Derived.Test.YtpnkapdemgieaaaQM9
import Derived.Test.YtpnkapdemgieaaaQM7
import Derived.Test.YtpnkapdemgieaaaQM3
import Derived.Lib.AppendZeros
import Derived.Test.YtpnkapdemgieaaaQM4
import Derived.Test.YtpnkapdemgieaaaQM6
set_option linter.unusedSimpArgs false
set_option linter.unusedVariables false
set_option linter.unusedSectionVars false
namespace Go.Proofs.Ytpnkapdemgieaaa
open Go Go.RowKit
open Go.ChangeShapes Go.WideShapes Go.ChangeAt Go.RowKit Go.Joins
def stPw (P : Rd) (i : Nat) (E : EndT) : Nat := fop .sub .f32 (fop .quo .f32 (cn .f32 1065353216) (endV P i E)) (halfV P i)
def stFw (P : Rd) (E G : EndT) : Nat := fop .quo .f32 (fop .sub .f32 (cn .f32 E.t) (cn .f32 G.t)) (fop .add .f32 (fop .add .f32 (stPw P 0 E) (hindK P P.a.length)) (stPw P (P.a.length - 1) G))
def stU (P : Rd) (E : EndT) : Nat → Nat
  | 0 => stPw P 0 E
  | k + 1 => fop .add .f32 (fop .add .f32 (stU P E k) (halfV P k)) (halfV P k)
def stW (P : Rd) (E G : EndT) (k : Nat) : Nat := fop .sub .f32 (cn .f32 E.t) (fop .mul .f32 (stFw P E G) (fop .add .f32 (stU P E k) (halfV P k)))
def stL (P : Rd) (E G : EndT) (k : Nat) : List Nat := (List.range k).map (stW P E G)
theorem stL_step (P : Rd) (E G : EndT) (k : Nat) : stL P E G (k + 1) = stL P E G k ++ [stW P E G k] := by unfold stL; rw [List.range_succ, List.map_append]; rfl
theorem stL_cn (P : Rd) (E G : EndT) (k : Nat) : (stL P E G k).map (cn .f32) = stL P E G k := by
  unfold stL
  rw [List.map_map]
  exact List.map_congr_left fun i _ => cn_fop _ _ _ _
def stR (P : Rd) (E G : EndT) : Rd := ⟨P.a, P.b, P.c, stL P E G P.d.length⟩
def stPre (P : Rd) (E G : EndT) : Bool := (fin .f32 (endV P 0 E) && fin .f32 (endV P (P.a.length - 1) G)) && fin .f32 (hindK P P.a.length)
set_option maxHeartbeats 4000000 in
set_option maxRecDepth 100000 in
theorem implSteady_left (P : Rd) (l : RL) (t e k t' e' : Nat) (n : Int) (w : World) (hs : P.fs w l) (h : endsOk P ⟨1, t, e⟩ ⟨n, t', e'⟩ = true) (hn : ¬ n = 1) (R0 : Rd) (hR0 : R0 = evenR P t') : Calls Try.prog 10 #[.agg #[.slice l.p1 P.a.length l.c1, .slice l.p2 P.b.length l.c2, .slice l.p3 P.c.length l.c3, .slice l.p4 P.d.length l.c4], .agg #[.int .i64 1, .float .f32 t, .float .f32 e], .agg #[.int .i64 n, .float .f32 t', .float .f32 e']] w (BRFB w R0 (cn .f32 0) true) := by
  have HS := Lib.hid hs
  have hP := endsOk_rod h
  unfold endsOk at h
  rw [Bool.and_eq_true, Bool.and_eq_true] at h
  have HV := Lib.hid (fun w h => implValidRod_any P l w h)
  have HE1 := Lib.hid (fun w => implValidEnd_any ⟨1, t, e⟩ w)
  have HE2 := Lib.hid (fun w => implValidEnd_any ⟨n, t', e'⟩ w)
  have hf : fin .f32 (cn .f32 t') = true := by have := h.2.2; unfold EndT.ok at this; simp only [Bool.and_eq_true] at this; exact this.2.1
  rw [h.1] at HV
  rw [h.2.1] at HE1
  rw [h.2.2] at HE2
  have HEV := Lib.hid (fun w h => evenRod_any P l t' w h hP hf R0 hR0)
  clear hs h hP hR0 hf
  go_enter Try.func10, Try.ntmps10
  go_wp2_with (first | (go_at_call 37; refine (HEV.out _ (HS.out.later (by (repeat (first | (with_reducible exact Below.refl _ _) | (with_reducible assumption) | (with_reducible refine below_then ?_ (by assumption)) | (with_reducible refine Below.trans ?_ (by assumption)) | (with_reducible refine below_drewN ?_ _) | (with_reducible apply Below.drew) | (with_reducible refine below_alloc ?_ _) | refine Below.setCell ?_ (by first | (simp; done) | (simp; omega)) _))))).mono ?_; rintro e w' ⟨m, rfl, hb, hX⟩; (try simp only [World.size_alloc, World.size_setCell, World.size_drew, World.drewN] at hX); obtain ⟨hT, hk⟩ := bv_next hb (by (repeat (with_reducible first | assumption | apply Trk.alloc | apply Trk.setCell | apply Trk.drewN | apply Trk.drew | exact Trk.nil _))); simp only [SameOn, World.size_alloc, World.size_setCell, World.size_drew, size_drewN', and_true] at hk; have hsz := Below.size hb; (try simp only [World.size_alloc, World.size_setCell, World.size_drew, size_drewN'] at hsz)) | (go_at_call 35; refine ((HV.out _ (HS.out.later (by (repeat (first | (with_reducible exact Below.refl _ _) | (with_reducible assumption) | (with_reducible refine below_then ?_ (by assumption)) | (with_reducible refine Below.trans ?_ (by assumption)) | (with_reducible refine below_drewN ?_ _) | (with_reducible apply Below.drew) | (with_reducible refine below_alloc ?_ _) | refine Below.setCell ?_ (by first | (simp; done) | (simp; omega)) _))))) ).mono ?_; rintro e w' ⟨rfl, hb⟩; obtain ⟨hT, hk⟩ := bv_next hb (by (repeat (with_reducible first | assumption | apply Trk.alloc | apply Trk.setCell | apply Trk.drewN | apply Trk.drew | exact Trk.nil _))); simp only [SameOn, World.size_alloc, World.size_setCell, World.size_drew, size_drewN', and_true] at hk; have hsz := Below.size hb; (try simp only [World.size_alloc, World.size_setCell, World.size_drew, size_drewN'] at hsz)) | (go_at_call_of 36 (Value.float .f32 t); refine ((HE1.out _) ).mono ?_; rintro e w' ⟨rfl, hb⟩; obtain ⟨hT, hk⟩ := bv_next hb (by (repeat (with_reducible first | assumption | apply Trk.alloc | apply Trk.setCell | apply Trk.drewN | apply Trk.drew | exact Trk.nil _))); simp only [SameOn, World.size_alloc, World.size_setCell, World.size_drew, size_drewN', and_true] at hk; have hsz := Below.size hb; (try simp only [World.size_alloc, World.size_setCell, World.size_drew, size_drewN'] at hsz)) | (go_at_call_of 36 (Value.float .f32 t'); refine ((HE2.out _) ).mono ?_; rintro e w' ⟨rfl, hb⟩; obtain ⟨hT, hk⟩ := bv_next hb (by (repeat (with_reducible first | assumption | apply Trk.alloc | apply Trk.setCell | apply Trk.drewN | apply Trk.drew | exact Trk.nil _))); simp only [SameOn, World.size_alloc, World.size_setCell, World.size_drew, size_drewN', and_true] at hk; have hsz := Below.size hb; (try simp only [World.size_alloc, World.size_setCell, World.size_drew, size_drewN'] at hsz)) | (go_at_call 19; refine (implMeanOf_any _ _ _ (by assumption)).mono ?_; rintro e w' ⟨r, rfl, hr, hb⟩; obtain ⟨hT, hk⟩ := bv_next hb (by (repeat (with_reducible first | assumption | apply Trk.alloc | apply Trk.setCell | apply Trk.drewN | apply Trk.drew | exact Trk.nil _))); simp only [SameOn, World.size_alloc, World.size_setCell, World.size_drew, size_drewN', and_true] at hk; have hsz := Below.size hb; (try simp only [World.size_alloc, World.size_setCell, World.size_drew, size_drewN'] at hsz)) | (go_at_call 25; refine (implHinder_any _ _ _ (by assumption)).mono ?_; rintro e w' ⟨r, rfl, hr, hb⟩; obtain ⟨hT, hk⟩ := bv_next hb (by (repeat (with_reducible first | assumption | apply Trk.alloc | apply Trk.setCell | apply Trk.drewN | apply Trk.drew | exact Trk.nil _))); simp only [SameOn, World.size_alloc, World.size_setCell, World.size_drew, size_drewN', and_true] at hk; have hsz := Below.size hb; (try simp only [World.size_alloc, World.size_setCell, World.size_drew, size_drewN'] at hsz)) | (go_at_call 39; refine (halfOf_any _ _ _ _ (by assumption) (by assumption) (by omega)).mono ?_; rintro e w' ⟨r, rfl, hr, hb⟩; obtain ⟨hT, hk⟩ := bv_next hb (by (repeat (with_reducible first | assumption | apply Trk.alloc | apply Trk.setCell | apply Trk.drewN | apply Trk.drew | exact Trk.nil _))); simp only [SameOn, World.size_alloc, World.size_setCell, World.size_drew, size_drewN', and_true] at hk; have hsz := Below.size hb; (try simp only [World.size_alloc, World.size_setCell, World.size_drew, size_drewN'] at hsz)) | (go_at_call 41; refine (IsFinite_any _ _).mono ?_; rintro e w' ⟨rfl, n, rfl⟩))
  refine bodyPost_ret (v := .tuple #[.agg #[.slice m.p1 R0.a.length m.c1, .slice m.p2 R0.b.length m.c2, .slice m.p3 R0.c.length m.c3, .slice m.p4 R0.d.length m.c4], .float .f32 0, .bool true]) (by simp [results, Try.results10, go_sem, *]) rfl ?_
  exact ⟨m, 0, rfl, rfl, by (repeat (first | (with_reducible exact Below.refl _ _) | (with_reducible assumption) | (with_reducible refine below_then ?_ (by assumption)) | (with_reducible refine Below.trans ?_ (by assumption)) | (with_reducible refine below_drewN ?_ _) | (with_reducible apply Below.drew) | (with_reducible refine below_alloc ?_ _) | refine Below.setCell ?_ (by first | (simp; done) | (simp; omega)) _)), RdX.base (by (repeat' (first | (with_reducible assumption) | (with_reducible apply RdX.setCell) | (with_reducible apply RdX.alloc) | (with_reducible apply RdX.later; rotate_left; with_reducible assumption) | (with_reducible apply RdX.turn; rotate_left; with_reducible assumption) | (with_reducible apply RdX.drewN))) <;> (first | omega | (simp; done) | (simp; omega))) (by first | omega | (simp; done) | (simp; omega)) (by first | omega | (simp; done) | (simp; omega))⟩
end Go.Proofs.Ytpnkapdemgieaaa
set_option linter.unusedSimpArgs false
set_option linter.unusedVariables false
set_option linter.unusedSectionVars false
namespace Go.Proofs.Ytpnkapdemgieaaa
open Go Go.RowKit
theorem rle_tot (a b : Rat) : a ≤ b ∨ b ≤ a := Rat.le_total
theorem inv_u {x : Nat} (hx : fnt .f32 x = true) (h1 : 1 / 64 ≤ fv .f32 x) (h2 : fv .f32 x ≤ 64) : fnt .f32 (fop .quo .f32 (cn .f32 1065353216) x) = true ∧ fv .f32 x * fv .f32 (fop .quo .f32 (cn .f32 1065353216) x) - 1 ≤ uu ∧ 1 - fv .f32 x * fv .f32 (fop .quo .f32 (cn .f32 1065353216) x) ≤ uu ∧ 0 < fv .f32 (fop .quo .f32 (cn .f32 1065353216) x) := by
  have u0 : 0 < uu := by unfold uu; decide +kernel
  have u1 : 16700000 * uu = 1 := by unfold uu; decide +kernel
  have xp : 0 < fv .f32 x := by grind
  have dv : 1 / fv .f32 x * fv .f32 x = 1 := Rat.div_mul_cancel (by grind)
  have q1 : 1 / 64 ≤ 1 / fv .f32 x := mul_cancel_le xp (by rw [dv]; grind)
  have q2 : 1 / fv .f32 x ≤ 64 := mul_cancel_le xp (by rw [dv]; grind)
  obtain ⟨a0, a1, a2⟩ := fop_u .quo rfl V1.1 hx (fun _ => by grind) (M := 1 / fv .f32 x) (by grind) (by grind) (by simp only [ex]; rw [V1.2]; exact Rat.le_refl) (by simp only [ex]; rw [V1.2]; grind)
  simp only [ex] at a1 a2
  rw [V1.2] at a1 a2
  generalize fop .quo .f32 (cn .f32 1065353216) x = y at *
  generalize 1 / fv .f32 x = q at *
  have b1 := Rat.mul_le_mul_of_nonneg_right a1 (Rat.le_of_lt xp)
  have b2 := Rat.mul_le_mul_of_nonneg_right a2 (Rat.le_of_lt xp)
  have e : q * uu * fv .f32 x = uu := by grind
  have q3 := Rat.mul_le_mul_of_nonneg_right q2 (Rat.le_of_lt u0)
  exact ⟨a0, by grind, by grind, by grind⟩
/-- Twice over and half of a number that is not small: exactly. -/
theorem scale_rep {x : Nat} (hx : fnt .f32 x = true) (h1 : 1 / 1000 ≤ fv .f32 x) (h2 : fv .f32 x ≤ 1000) : Rep .f32 (fv .f32 x / 2) ∧ Rep .f32 (8 * fv .f32 x) := by
  obtain ⟨z, q, hz, hq, e⟩ := rp_word hx
  have hz' : z.natAbs < 2 ^ (23 + 1) := hz
  have hq' : (-149 : Int) ≤ q := hq
  have tq := tp_pos q
  have zb : (z : Rat) ≤ 16777216 := by
    have := icast_le (show z ≤ (16777216 : Int) by omega)
    have e : ((16777216 : Int) : Rat) = 16777216 := rfl
    rwa [e] at this
  have zp : 0 < z := by
    rcases Int.lt_or_le 0 z with h | h
    · exact h
    · have := icast_le h
      have z0 : ((0 : Int) : Rat) = 0 := rfl
      rw [z0] at this
      have k := Rat.mul_le_mul_of_nonneg_right this (Rat.le_of_lt tq)
      grind
  have q1 : -148 ≤ q := by
    rcases Int.lt_or_le q (-148) with h | h
    · exfalso
      have t := tp_le (show q ≤ -149 by omega)
      have k := Rat.mul_le_mul_of_nonneg_right zb (Rat.le_of_lt tq)
      have m := tp_m60
      grind
    · exact h
  have hh : tp q = 2 * tp (q - 1) := by
    have h : tp q = tp 1 * tp (q - 1) := by rw [← tp_add]; congr 1; omega
    rw [h, show tp 1 = 2 from (tp_nat 1).trans rfl]
  have h8 : tp (q + 3) = 8 * tp q := by
    have h : tp (q + 3) = tp 3 * tp q := by rw [← tp_add]; congr 1; omega
    rw [h, show tp 3 = 8 from (tp_nat 3).trans rfl]
  have eh : fv .f32 x / 2 = z * tp (q - 1) := by rw [e, hh]; grind
  have e8 : 8 * fv .f32 x = z * tp (q + 3) := by rw [e, h8]; grind
  have t127 : tp (topK .f32 - 1) = tp 127 := rfl
  have t10 := tp_le (show (14 : Int) ≤ 127 by decide)
  have e10 : tp 14 = 16384 := (tp_nat 14).trans rfl
  exact ⟨⟨⟨z, q - 1, hz, by show (-149 : Int) ≤ q - 1; omega, eh⟩, by rw [t127]; grind, by rw [t127]; grind⟩, ⟨⟨z, q + 3, hz, by show (-149 : Int) ≤ q + 3; omega, e8⟩, by rw [t127]; grind, by rw [t127]; grind⟩⟩
theorem half_ex {x : Nat} (hx : fnt .f32 x = true) (h1 : 1 / 1000 ≤ fv .f32 x) (h2 : fv .f32 x ≤ 1000) : V .f32 (fop .quo .f32 x (cn .f32 1073741824)) (fv .f32 x / 2) :=
  V.op .quo rfl (x := x) ⟨hx, rfl⟩ V2 (fun _ => by decide) (scale_rep hx h1 h2).1
def et (P : Rd) (i : Nat) : Rat := fv .f32 (halfV P i)
/-- Sums of resistances. -/
def sK (s : Rat) (f : Nat → Rat) : Nat → Rat
  | 0 => s
  | k + 1 => sK s f k + 2 * f k
theorem sK_le {s : Rat} {f : Nat → Rat} {n : Nat} (h : ∀ i, i < n → 0 ≤ f i) : ∀ j, ∀ k, k + j ≤ n → sK s f k ≤ sK s f (k + j)
  | 0, k, _ => Rat.le_refl
  | j + 1, k, hk => by
    have a := sK_le (s := s) h j k (by omega)
    have b := h (k + j) (by omega)
    show sK s f k ≤ sK s f (k + j) + 2 * f (k + j)
    grind
/-- A rod between an end that is not shut and a held one. -/
structure ST (P : Rd) (n : Nat) (A C : Nat → Int) (E G : EndT) : Prop where
  g : GR P n A C 8
  hE : GE E 8
  hG : GE G 8
  k0 : E.k ≠ 1
  k1 : G.k = 0
section
variable {P : Rd} {n : Nat} {A C : Nat → Int} {E G : EndT}
theorem GR.et (h : GR P n A C 8) {i : Nat} (hi : i < n) : fnt .f32 (halfV P i) = true ∧ 1 / 16 ≤ et P i ∧ et P i ≤ 4 := h.half hi
theorem GR.qq (h : GR P n A C 8) {i : Nat} (hi : i < n) : V .f32 (fop .quo .f32 (cn .f32 (P.a.getD i 0)) (cn .f32 (P.b.getD i 0))) (2 * Go.Proofs.Ytpnkapdemgieaaa.et P i) := by
  obtain ⟨va, ka⟩ := h.a i hi
  obtain ⟨z, kz, vb⟩ := h.b i hi
  obtain ⟨a1, a2⟩ := int1 ka
  obtain ⟨z1, z2⟩ := int1 kz
  have zp : (0 : Rat) < (z : Rat) / 4 := by grind
  have dv : ((A i : Rat) / 4) / ((z : Rat) / 4) * ((z : Rat) / 4) = (A i : Rat) / 4 := Rat.div_mul_cancel (by grind)
  obtain ⟨q0, q1, q2⟩ := fop_btw .quo rfl .f32 (a := 1 / 8) (b := 8) va.1 vb.1 (fun _ => by rw [vb.2]; grind) Rp8 Rpx8 (by simp only [ex]; rw [va.2, vb.2]; exact mul_cancel_le zp (by rw [dv]; grind)) (by simp only [ex]; rw [va.2, vb.2]; exact mul_cancel_le zp (by rw [dv]; grind))
  have hh := half_ex q0 (by grind) (by grind)
  refine ⟨q0, ?_⟩
  unfold Go.Proofs.Ytpnkapdemgieaaa.et halfV
  rw [hh.2]; grind
/-- The left end: the resistance ahead of the first cell. -/
theorem ST.left (h : ST P n A C E G) : fnt .f32 (stPw P 0 E) = true ∧ (-(40 * uu) ≤ fv .f32 (stPw P 0 E) ∧ fv .f32 (stPw P 0 E) ≤ 9) ∧ fnt .f32 (fop .add .f32 (stPw P 0 E) (halfV P 0)) = true ∧
    pR P E G 0 * fv .f32 (fop .add .f32 (stPw P 0 E) (halfV P 0)) - 1 ≤ 4 * uu ∧ 1 - pR P E G 0 * fv .f32 (fop .add .f32 (stPw P 0 E) (halfV P 0)) ≤ 4 * uu ∧ (1 / 8 ≤ pR P E G 0 ∧ pR P E G 0 ≤ 16) := by
  have u0 : 0 < uu := by unfold uu; decide +kernel
  have u1 : 16700000 * uu = 1 := by unfold uu; decide +kernel
  have hn := h.g.hn
  obtain ⟨e0, e1, e2⟩ := h.g.et (i := 0) (by omega)
  obtain ⟨p0, p1, p2⟩ := (h.g.end' h.hE (i := 0) (by omega)).2 h.k0
  -- the pass is not greater than the cell's own
  have pe : fv .f32 (endV P 0 E) * et P 0 ≤ 1 + 2 * uu := by
    obtain ⟨i0, i1, _, i2⟩ := inv_u e0 (by show 1 / 64 ≤ et P 0; grind) (by show et P 0 ≤ 64; grind)
    have ee : fv .f32 (halfV P 0) = et P 0 := rfl
    rw [ee] at i1
    by_cases hk : E.k = 0
    · rw [endV_0 hk]; grind
    · rw [endV_2 hk h.k0]
      obtain ⟨z, kz, ve⟩ := h.hE.e
      obtain ⟨z1, z2⟩ := int1 kz
      have e1' : Btw .f32 (cn .f32 E.e) (1 / 2) 4 := ⟨ve.1, by rw [ve.2]; grind, by rw [ve.2]; grind⟩
      obtain ⟨b0, b1, b2⟩ := one_quo e1' (lo := 1 / 4) (hi := 2) (by grind) Rp4 Rp2 (by grind) (by grind) (by grind) (by grind)
      obtain ⟨s0, s1, s2⟩ := fop_u .add rfl e0 b0 (by simp) (M := 8) (by grind) (by grind) (by simp only [ex]; rw [ee]; grind) (by simp only [ex]; rw [ee]; grind)
      simp only [ex] at s1 s2
      rw [ee] at s1 s2
      generalize fop .add .f32 (halfV P 0) (fop .quo .f32 (cn .f32 1065353216) (cn .f32 E.e)) = s at *
      obtain ⟨j0, j1, _, j2⟩ := inv_u s0 (by grind) (by grind)
      generalize fop .quo .f32 (cn .f32 1065353216) s = y at *
      have := Rat.mul_le_mul_of_nonneg_left (show et P 0 ≤ fv .f32 s by grind) (Rat.le_of_lt j2)
      grind
  have ep : pR P E G 0 = fv .f32 (endV P 0 E) := rfl
  rw [ep]
  unfold stPw
  generalize endV P 0 E = p at *
  obtain ⟨y0, y1, y2, yp⟩ := inv_u p0 (by grind) (by grind)
  generalize fop .quo .f32 (cn .f32 1065353216) p = y at *
  have ee : fv .f32 (halfV P 0) = et P 0 := rfl
  have pp : 0 < fv .f32 p := by grind
  -- bounds of y
  have yb : fv .f32 y ≤ 81 / 10 := by
    rcases rle_tot (fv .f32 y) (81 / 10) with k | k
    · exact k
    · have := Rat.mul_le_mul_of_nonneg_left k (Rat.le_of_lt pp); grind
  have yl : 1 / 17 ≤ fv .f32 y := by
    rcases rle_tot (1 / 17) (fv .f32 y) with k | k
    · exact k
    · have := Rat.mul_le_mul_of_nonneg_left k (Rat.le_of_lt pp); grind
  have py : fv .f32 p * (et P 0 - fv .f32 y) ≤ 3 * uu := by grind
  have ey : et P 0 - fv .f32 y ≤ 25 * uu := by
    rcases rle_tot (et P 0 - fv .f32 y) (25 * uu) with k | k
    · exact k
    · have := Rat.mul_le_mul_of_nonneg_left k (Rat.le_of_lt pp)
      have := Rat.mul_le_mul_of_nonneg_right p1 (Rat.le_of_lt u0)
      grind
  obtain ⟨s0, s1, s2⟩ := fop_u .sub rfl y0 e0 (by simp) (M := fv .f32 y) (by grind) (by grind) (by simp only [ex]; rw [ee]; grind) (by simp only [ex]; rw [ee]; grind)
  simp only [ex] at s1 s2
  rw [ee] at s1 s2
  generalize fop .sub .f32 y (halfV P 0) = sp at *
  have yu := Rat.mul_le_mul_of_nonneg_right yb (Rat.le_of_lt u0)
  obtain ⟨t0, t1, t2⟩ := fop_u .add rfl s0 e0 (by simp) (M := 11 / 10 * fv .f32 y) (by grind) (by grind) (by simp only [ex]; rw [ee]; grind) (by simp only [ex]; rw [ee]; grind)
  simp only [ex] at t1 t2
  rw [ee] at t1 t2
  generalize fop .add .f32 sp (halfV P 0) = t at *
  have r1 : fv .f32 t - fv .f32 y ≤ 21 / 10 * (fv .f32 y * uu) := by grind
  have r2 : fv .f32 y - fv .f32 t ≤ 21 / 10 * (fv .f32 y * uu) := by grind
  have m1 := Rat.mul_le_mul_of_nonneg_left r1 (Rat.le_of_lt pp)
  have m2 := Rat.mul_le_mul_of_nonneg_left r2 (Rat.le_of_lt pp)
  have m3 := Rat.mul_le_mul_of_nonneg_right y1 (Rat.le_of_lt u0)
  have m4 := Rat.mul_le_mul_of_nonneg_right (show uu ≤ 1 / 100 by grind) (Rat.le_of_lt u0)
  exact ⟨s0, ⟨by grind, by grind⟩, t0, by grind, by grind, p1, p2⟩
/-- The right end: nothing but the last cell. -/
theorem ST.right (h : ST P n A C E G) : fnt .f32 (stPw P (n - 1) G) = true ∧ fv .f32 (stPw P (n - 1) G) ≤ 5 * (et P (n - 1) * uu) ∧ -fv .f32 (stPw P (n - 1) G) ≤ 5 * (et P (n - 1) * uu) ∧ pR P E G n * et P (n - 1) - 1 ≤ uu ∧ 1 - pR P E G n * et P (n - 1) ≤ uu ∧ (0 ≤ pR P E G n ∧ pR P E G n ≤ 16) := by
  have u0 : 0 < uu := by unfold uu; decide +kernel
  have u1 : 16700000 * uu = 1 := by unfold uu; decide +kernel
  have hn := h.g.hn
  obtain ⟨e0, e1, e2⟩ := h.g.et (i := n - 1) (by omega)
  have ep : pR P E G n = fv .f32 (endV P (n - 1) G) := by
    unfold pR
    rw [← h.g.la, pG_last (by rw [h.g.la]; omega)]
  obtain ⟨_, p0', p2'⟩ := h.g.p h.hE h.hG (i := n) (by omega)
  rw [ep] at p0' p2'
  rw [ep]
  unfold stPw
  rw [endV_0 h.k1] at *
  have ee : fv .f32 (halfV P (n - 1)) = et P (n - 1) := rfl
  obtain ⟨i0, i1, i2, ip⟩ := inv_u e0 (by rw [ee]; grind) (by rw [ee]; grind)
  rw [ee] at i1 i2
  generalize fop .quo .f32 (cn .f32 1065353216) (halfV P (n - 1)) = p at *
  have pl : 1 / 5 ≤ fv .f32 p := by
    rcases rle_tot (1 / 5) (fv .f32 p) with k | k
    · exact k
    · have := Rat.mul_le_mul_of_nonneg_left k (show 0 ≤ et P (n - 1) by grind); grind
  obtain ⟨y0, y1, y2, yp⟩ := inv_u i0 (by grind) (by grind)
  generalize fop .quo .f32 (cn .f32 1065353216) p = y at *
  generalize et P (n - 1) = η at *
  -- p (y - η) is small
  have pp : 0 < fv .f32 p := by grind
  have k1 : fv .f32 p * (fv .f32 y - η) ≤ 2 * uu := by grind
  have k2 : fv .f32 p * (η - fv .f32 y) ≤ 2 * uu := by grind
  have hu := Rat.mul_nonneg (show 0 ≤ η by grind) (Rat.le_of_lt u0)
  have hη : 16700000 * (η * uu) = η := by grind
  have hb := Rat.mul_le_mul_of_nonneg_right i2 (Rat.le_of_lt u0)
  have hc := Rat.mul_le_mul_of_nonneg_right (show uu ≤ 1 / 100 by grind) (Rat.le_of_lt u0)
  have y3 : fv .f32 y - η ≤ 22 / 10 * (η * uu) := by
    rcases rle_tot (fv .f32 y - η) (22 / 10 * (η * uu)) with k | k
    · exact k
    · have := Rat.mul_le_mul_of_nonneg_left k (Rat.le_of_lt pp); grind
  have y4 : η - fv .f32 y ≤ 22 / 10 * (η * uu) := by
    rcases rle_tot (η - fv .f32 y) (22 / 10 * (η * uu)) with k | k
    · exact k
    · have := Rat.mul_le_mul_of_nonneg_left k (Rat.le_of_lt pp); grind
  obtain ⟨s0, s1, s2⟩ := fop_u .sub rfl y0 e0 (by simp) (M := η) (by grind) (by grind) (by simp only [ex]; rw [ee]; grind) (by simp only [ex]; rw [ee]; grind)
  simp only [ex] at s1 s2
  rw [ee] at s1 s2
  exact ⟨s0, by grind, by grind, by grind, by grind, p0', p2'⟩
/-- All of the resistance. -/
def sA (P : Rd) (E : EndT) (k : Nat) : Rat := sK (fv .f32 (stPw P 0 E)) (et P) k
theorem ST.sb (h : ST P n A C E G) : (∀ k, k < n → sA P E k + 2 * et P k ≤ sA P E n ∧ -(40 * uu) ≤ sA P E k) ∧ 1 / 9 ≤ sA P E n ∧ sA P E n ≤ 57 := by
  have u0 : 0 < uu := by unfold uu; decide +kernel
  have u1 : 16700000 * uu = 1 := by unfold uu; decide +kernel
  have hn := h.g.hn
  obtain ⟨_, ⟨p1, p2⟩, _⟩ := h.left
  have hp : ∀ i, i < n → 0 ≤ et P i := fun i hi => by have := (h.g.et hi).2.1; grind
  have up : ∀ k, k ≤ n → sA P E k ≤ 9 + 8 * (k : Rat) := by
    intro k
    induction k with
    | zero => intro _; show fv .f32 (stPw P 0 E) ≤ 9 + 8 * ((0 : Nat) : Rat); have e : ((0 : Nat) : Rat) = 0 := rfl; rw [e]; grind
    | succ k ih =>
      intro hk
      have a := ih (by omega)
      have b := (h.g.et (i := k) (by omega)).2.2
      show sA P E k + 2 * et P k ≤ _
      rw [Rat.natCast_add]
      have e : ((1 : Nat) : Rat) = 1 := rfl
      rw [e]; grind
  refine ⟨fun k hk => ⟨?_, ?_⟩, ?_, ?_⟩
  · have := sK_le (s := fv .f32 (stPw P 0 E)) hp (n - (k + 1)) (k + 1) (by omega)
    rw [show k + 1 + (n - (k + 1)) = n by omega] at this
    exact this
  · have := sK_le (s := fv .f32 (stPw P 0 E)) hp k 0 (by omega)
    rw [Nat.zero_add] at this
    exact Rat.le_trans p1 this
  · have := sK_le (s := fv .f32 (stPw P 0 E)) hp (n - 1) 1 (by omega)
    rw [show 1 + (n - 1) = n by omega] at this
    have e1 := (h.g.et (i := 0) (by omega)).2.1
    have : fv .f32 (stPw P 0 E) + 2 * et P 0 ≤ sA P E n := this
    grind
  · have a := up n (Nat.le_refl _)
    have b : (n : Rat) ≤ ((6 : Nat) : Rat) := by exact_mod_cast hn.2
    have e : ((6 : Nat) : Rat) = 6 := rfl
    rw [e] at b
    grind
/-- How far a sum may be off, each time. -/
def eS (P : Rd) (E : EndT) (n : Nat) : Rat := 101 / 100 * (sA P E n * uu)
theorem ST.eb (h : ST P n A C E G) : 0 < eS P E n ∧ 16700000 * eS P E n = 101 / 100 * sA P E n := by
  have u0 : 0 < uu := by unfold uu; decide +kernel
  have u1 : 16700000 * uu = 1 := by unfold uu; decide +kernel
  obtain ⟨_, b1, b2⟩ := h.sb
  unfold eS
  have := Rat.mul_pos (show 0 < sA P E n by grind) u0
  exact ⟨by grind, by grind⟩
theorem ST.acc (h : ST P n A C E G) : ∀ k, k ≤ n → fnt .f32 (stU P E k) = true ∧ fv .f32 (stU P E k) - sA P E k ≤ (k : Rat) * (2 * eS P E n) ∧ sA P E k - fv .f32 (stU P E k) ≤ (k : Rat) * (2 * eS P E n) ∧
    (k < n → fnt .f32 (fop .add .f32 (stU P E k) (halfV P k)) = true ∧ fv .f32 (fop .add .f32 (stU P E k) (halfV P k)) - (sA P E k + et P k) ≤ (k : Rat) * (2 * eS P E n) + eS P E n ∧ (sA P E k + et P k) - fv .f32 (fop .add .f32 (stU P E k) (halfV P k)) ≤ (k : Rat) * (2 * eS P E n) + eS P E n) := by
  have u0 : 0 < uu := by unfold uu; decide +kernel
  have u1 : 16700000 * uu = 1 := by unfold uu; decide +kernel
  have hn := h.g.hn
  obtain ⟨sb, b1, b2⟩ := h.sb
  obtain ⟨eb1, eb2⟩ := h.eb
  have ede : eS P E n = 101 / 100 * (sA P E n * uu) := rfl
  have kb : ∀ k, k ≤ n → 0 ≤ (k : Rat) ∧ (k : Rat) ≤ 6 := fun k hk => by
    have a : (0 : Rat) ≤ (k : Rat) := by exact_mod_cast Nat.zero_le k
    have b : (k : Rat) ≤ ((6 : Nat) : Rat) := by exact_mod_cast (by omega : k ≤ 6)
    have e : ((6 : Nat) : Rat) = 6 := rfl
    rw [e] at b
    exact ⟨a, b⟩
  -- half a step
  have half : ∀ k, k < n → ∀ {v : Nat} {s δ : Rat}, fnt .f32 v = true → fv .f32 v - s ≤ δ → s - fv .f32 v ≤ δ → δ ≤ 13 * eS P E n → -(40 * uu) ≤ s → s + et P k ≤ sA P E n → fnt .f32 (fop .add .f32 v (halfV P k)) = true ∧ fv .f32 (fop .add .f32 v (halfV P k)) - (s + et P k) ≤ δ + eS P E n ∧ (s + et P k) - fv .f32 (fop .add .f32 v (halfV P k)) ≤ δ + eS P E n := by
    intro k hk v s δ hv h1 h2 h3 h4 h5
    obtain ⟨e0, e1, e2⟩ := h.g.et hk
    have ee : fv .f32 (halfV P k) = et P k := rfl
    obtain ⟨s0, s1, s2⟩ := fop_u .add rfl hv e0 (by simp) (M := 1001 / 1000 * sA P E n) (by grind) (by grind) (by simp only [ex]; rw [ee]; grind) (by simp only [ex]; rw [ee]; grind)
    simp only [ex] at s1 s2
    rw [ee] at s1 s2
    exact ⟨s0, by grind, by grind⟩
  intro k
  induction k with
  | zero =>
    intro _
    obtain ⟨p0, ⟨p1, p2⟩, _⟩ := h.left
    have e : ((0 : Nat) : Rat) = 0 := rfl
    have b := sb 0 (by omega)
    have e1 := (h.g.et (i := 0) (by omega)).2.1
    refine ⟨p0, ?_, ?_, fun _ => ?_⟩
    · show fv .f32 (stPw P 0 E) - fv .f32 (stPw P 0 E) ≤ _; rw [e]; grind
    · show fv .f32 (stPw P 0 E) - fv .f32 (stPw P 0 E) ≤ _; rw [e]; grind
    · have q := half 0 (by omega) (v := stU P E 0) (s := sA P E 0) (δ := 0) p0 (by show fv .f32 (stPw P 0 E) - fv .f32 (stPw P 0 E) ≤ _; grind) (by show fv .f32 (stPw P 0 E) - fv .f32 (stPw P 0 E) ≤ _; grind) (by grind) b.2 (by grind)
      rw [e]
      exact ⟨q.1, by grind, by grind⟩
  | succ k ih =>
    intro hk
    obtain ⟨_, _, _, c⟩ := ih (by omega)
    obtain ⟨c0, c1, c2⟩ := c (by omega)
    obtain ⟨k0, k6⟩ := kb k (by omega)
    obtain ⟨b, b'⟩ := sb k (by omega)
    obtain ⟨_, e1, _⟩ := h.g.et (i := k) (by omega)
    have ke := Rat.mul_le_mul_of_nonneg_right k6 (show 0 ≤ 2 * eS P E n by grind)
    have hk5 : (k : Rat) ≤ 5 := by
      have b : (k : Rat) ≤ ((5 : Nat) : Rat) := by exact_mod_cast (by omega : k ≤ 5)
      have e : ((5 : Nat) : Rat) = 5 := rfl
      rwa [e] at b
    have ke5 := Rat.mul_le_mul_of_nonneg_right hk5 (show 0 ≤ 2 * eS P E n by grind)
    have q := half k (by omega) (s := sA P E k + et P k) (δ := (k : Rat) * (2 * eS P E n) + eS P E n) c0 c1 c2 (by grind) (by grind) (by grind)
    have es : sA P E (k + 1) = sA P E k + et P k + et P k := by show sA P E k + 2 * et P k = _; grind
    have eU : stU P E (k + 1) = fop .add .f32 (fop .add .f32 (stU P E k) (halfV P k)) (halfV P k) := rfl
    have en : ((k + 1 : Nat) : Rat) * (2 * eS P E n) = (k : Rat) * (2 * eS P E n) + 2 * eS P E n := by
      rw [Rat.natCast_add]
      have e : ((1 : Nat) : Rat) = 1 := rfl
      rw [e]; grind
    rw [← eU, ← es] at q
    have r1 : fv .f32 (stU P E (k + 1)) - sA P E (k + 1) ≤ ((k + 1 : Nat) : Rat) * (2 * eS P E n) := by rw [en]; have := q.2.1; grind
    have r2 : sA P E (k + 1) - fv .f32 (stU P E (k + 1)) ≤ ((k + 1 : Nat) : Rat) * (2 * eS P E n) := by rw [en]; have := q.2.2; grind
    refine ⟨q.1, r1, r2, fun hl => ?_⟩
    have b2 := sb (k + 1) hl
    have e2 := (h.g.et (i := k + 1) hl).2.1
    exact half (k + 1) hl q.1 r1 r2 (by rw [en]; grind) b2.2 (by grind)
end
end Go.Proofs.Ytpnkapdemgieaaa
set_option linter.unusedSimpArgs false
set_option linter.unusedVariables false
set_option linter.unusedSectionVars false
namespace Go.Proofs.Ytpnkapdemgieaaa
open Go Go.RowKit
theorem abs_mul {F D B u : Rat} (h1 : F * D ≤ B) (h2 : -(F * D) ≤ B) (hB : 0 ≤ B) (u0 : 0 ≤ u) (u1 : u ≤ D) : F * u ≤ B ∧ -(F * u) ≤ B := by
  rcases rle_tot 0 F with h | h
  · have a := Rat.mul_le_mul_of_nonneg_left u1 h
    have b := Rat.mul_nonneg h u0
    exact ⟨by grind, by grind⟩
  · have a := Rat.mul_le_mul_of_nonneg_left u1 (show 0 ≤ -F by grind)
    have b := Rat.mul_nonneg (show 0 ≤ -F by grind) u0
    exact ⟨by grind, by grind⟩
theorem mul_eps {F p x e B : Rat} (h1 : p * x - 1 ≤ e) (h2 : 1 - p * x ≤ e) (f1 : F ≤ B) (f2 : -F ≤ B) (hB : 0 ≤ B) : F * (p * x) - F ≤ B * e ∧ F - F * (p * x) ≤ B * e := by
  have a := mul_bd (a := B) (b := e) (x := F) (y := p * x - 1) (by grind) f1 (by grind) h1
  exact ⟨by grind, by grind⟩
section
variable {P : Rd} {n : Nat} {A C : Nat → Int} {E G : EndT}
/-- From cell to cell. -/
theorem ST.dif (h : ST P n A C E G) {k : Nat} (hk : k + 1 < n) : fv .f32 (fop .add .f32 (stU P E (k + 1)) (halfV P (k + 1))) - fv .f32 (fop .add .f32 (stU P E k) (halfV P k)) - (et P k + et P (k + 1)) ≤ 2 * eS P E n ∧ (et P k + et P (k + 1)) - (fv .f32 (fop .add .f32 (stU P E (k + 1)) (halfV P (k + 1))) - fv .f32 (fop .add .f32 (stU P E k) (halfV P k))) ≤ 2 * eS P E n := by
  have u0 : 0 < uu := by unfold uu; decide +kernel
  have u1 : 16700000 * uu = 1 := by unfold uu; decide +kernel
  have hn := h.g.hn
  obtain ⟨sb, b1, b2⟩ := h.sb
  obtain ⟨eb1, eb2⟩ := h.eb
  have ede : eS P E n = 101 / 100 * (sA P E n * uu) := rfl
  obtain ⟨_, _, _, c⟩ := h.acc k (by omega)
  obtain ⟨c0, c1, c2⟩ := c (by omega)
  obtain ⟨d0, d1, d2, _⟩ := h.acc (k + 1) (by omega)
  obtain ⟨e0, e1, e2⟩ := h.g.et (i := k) (by omega)
  obtain ⟨f0, f1, f2⟩ := h.g.et (i := k + 1) hk
  obtain ⟨s1, s2⟩ := sb k (by omega)
  obtain ⟨s3, s4⟩ := sb (k + 1) hk
  have es : sA P E (k + 1) = sA P E k + 2 * et P k := rfl
  have kb : (k : Rat) ≤ 5 := by
    have b : (k : Rat) ≤ ((5 : Nat) : Rat) := by exact_mod_cast (by omega : k ≤ 5)
    have e : ((5 : Nat) : Rat) = 5 := rfl
    rwa [e] at b
  have kb2 : ((k + 1 : Nat) : Rat) ≤ 6 := by
    have b : ((k + 1 : Nat) : Rat) ≤ ((6 : Nat) : Rat) := by exact_mod_cast (by omega : k + 1 ≤ 6)
    have e : ((6 : Nat) : Rat) = 6 := rfl
    rwa [e] at b
  have ke := Rat.mul_le_mul_of_nonneg_right kb (show 0 ≤ 2 * eS P E n by grind)
  have ke2 := Rat.mul_le_mul_of_nonneg_right kb2 (show 0 ≤ 2 * eS P E n by grind)
  have ee : fv .f32 (halfV P k) = et P k := rfl
  have ee2 : fv .f32 (halfV P (k + 1)) = et P (k + 1) := rfl
  have eU : stU P E (k + 1) = fop .add .f32 (fop .add .f32 (stU P E k) (halfV P k)) (halfV P k) := rfl
  generalize fop .add .f32 (stU P E k) (halfV P k) = v at *
  obtain ⟨g0, g1, g2⟩ := fop_u .add rfl c0 e0 (by simp) (M := 1001 / 1000 * sA P E n) (by grind) (by grind) (by simp only [ex]; rw [ee]; grind) (by simp only [ex]; rw [ee]; grind)
  simp only [ex] at g1 g2
  rw [ee, ← eU] at g1 g2
  obtain ⟨i0, i1, i2⟩ := fop_u .add rfl d0 f0 (by simp) (M := 1001 / 1000 * sA P E n) (by grind) (by grind) (by simp only [ex]; rw [ee2]; grind) (by simp only [ex]; rw [ee2]; grind)
  simp only [ex] at i1 i2
  rw [ee2] at i1 i2
  exact ⟨by grind, by grind⟩
theorem ST.hind (h : ST P n A C E G) : ∀ k, k ≤ n → fnt .f32 (hindK P k) = true ∧ fv .f32 (hindK P k) - (sA P E k - fv .f32 (stPw P 0 E)) ≤ (k : Rat) * eS P E n ∧ (sA P E k - fv .f32 (stPw P 0 E)) - fv .f32 (hindK P k) ≤ (k : Rat) * eS P E n := by
  have u0 : 0 < uu := by unfold uu; decide +kernel
  have u1 : 16700000 * uu = 1 := by unfold uu; decide +kernel
  have hn := h.g.hn
  obtain ⟨sb, b1, b2⟩ := h.sb
  obtain ⟨eb1, eb2⟩ := h.eb
  have ede : eS P E n = 101 / 100 * (sA P E n * uu) := rfl
  obtain ⟨_, ⟨p1, p2⟩, _⟩ := h.left
  intro k
  induction k with
  | zero =>
    intro _
    have e : ((0 : Nat) : Rat) = 0 := rfl
    rw [e]
    exact ⟨V0.1, by show fv .f32 (cn .f32 0) - (fv .f32 (stPw P 0 E) - fv .f32 (stPw P 0 E)) ≤ _; rw [V0.2]; grind, by show (fv .f32 (stPw P 0 E) - fv .f32 (stPw P 0 E)) - fv .f32 (cn .f32 0) ≤ _; rw [V0.2]; grind⟩
  | succ k ih =>
    intro hk
    obtain ⟨a0, a1, a2⟩ := ih (by omega)
    have vq := h.g.qq (i := k) (by omega)
    obtain ⟨s1, s2⟩ := sb k (by omega)
    obtain ⟨_, e1, e2⟩ := h.g.et (i := k) (by omega)
    have s0 := sK_le (s := fv .f32 (stPw P 0 E)) (f := et P) (n := n) (fun i hi => by have := (h.g.et hi).2.1; grind) k 0 (by omega)
    rw [Nat.zero_add] at s0
    have s0 : fv .f32 (stPw P 0 E) ≤ sA P E k := s0
    have kb : (k : Rat) ≤ 6 := by
      have b : (k : Rat) ≤ ((6 : Nat) : Rat) := by exact_mod_cast (by omega : k ≤ 6)
      have e : ((6 : Nat) : Rat) = 6 := rfl
      rwa [e] at b
    have ke := Rat.mul_le_mul_of_nonneg_right kb (Rat.le_of_lt eb1)
    have es : sA P E (k + 1) = sA P E k + 2 * et P k := rfl
    have en : ((k + 1 : Nat) : Rat) * eS P E n = (k : Rat) * eS P E n + eS P E n := by
      rw [Rat.natCast_add]
      have e : ((1 : Nat) : Rat) = 1 := rfl
      rw [e]; grind
    obtain ⟨g0, g1, g2⟩ := fop_u .add rfl a0 vq.1 (by simp) (M := 1001 / 1000 * sA P E n) (by grind) (by grind) (by simp only [ex]; rw [vq.2]; grind) (by simp only [ex]; rw [vq.2]; grind)
    simp only [ex] at g1 g2
    rw [vq.2] at g1 g2
    rw [en, es]
    exact ⟨g0, by show fv .f32 (fop .add .f32 (hindK P k) _) - _ ≤ _; grind, by show _ - fv .f32 (fop .add .f32 (hindK P k) _) ≤ _; grind⟩
/-- What divides. -/
def dnW (P : Rd) (E G : EndT) : Nat := fop .add .f32 (fop .add .f32 (stPw P 0 E) (hindK P P.a.length)) (stPw P (P.a.length - 1) G)
theorem ST.den (h : ST P n A C E G) : fnt .f32 (dnW P E G) = true ∧ fv .f32 (dnW P E G) - sA P E n ≤ 11 * eS P E n ∧ sA P E n - fv .f32 (dnW P E G) ≤ 11 * eS P E n := by
  have u0 : 0 < uu := by unfold uu; decide +kernel
  have u1 : 16700000 * uu = 1 := by unfold uu; decide +kernel
  have hn := h.g.hn
  obtain ⟨sb, b1, b2⟩ := h.sb
  obtain ⟨eb1, eb2⟩ := h.eb
  have ede : eS P E n = 101 / 100 * (sA P E n * uu) := rfl
  obtain ⟨l0, ⟨p1, p2⟩, _⟩ := h.left
  obtain ⟨r0, r1, r2, _⟩ := h.right
  obtain ⟨h0, h1, h2⟩ := h.hind n (Nat.le_refl _)
  obtain ⟨s1, s2⟩ := sb (n - 1) (by omega)
  obtain ⟨_, e1, e2⟩ := h.g.et (i := n - 1) (by omega)
  have kb : (n : Rat) ≤ 6 := by
    have b : (n : Rat) ≤ ((6 : Nat) : Rat) := by exact_mod_cast hn.2
    have e : ((6 : Nat) : Rat) = 6 := rfl
    rwa [e] at b
  have ke := Rat.mul_le_mul_of_nonneg_right kb (Rat.le_of_lt eb1)
  have eu := Rat.mul_le_mul_of_nonneg_right (show et P (n - 1) ≤ 51 / 100 * sA P E n by grind) (Rat.le_of_lt u0)
  unfold dnW
  rw [h.g.la]
  obtain ⟨g0, g1, g2⟩ := fop_u .add rfl l0 h0 (by simp) (M := 1001 / 1000 * sA P E n) (by grind) (by grind) (by simp only [ex]; grind) (by simp only [ex]; grind)
  simp only [ex] at g1 g2
  generalize fop .add .f32 (stPw P 0 E) (hindK P n) = d at *
  obtain ⟨i0, i1, i2⟩ := fop_u .add rfl g0 r0 (by simp) (M := 1001 / 1000 * sA P E n) (by grind) (by grind) (by simp only [ex]; grind) (by simp only [ex]; grind)
  simp only [ex] at i1 i2
  exact ⟨i0, by grind, by grind⟩
/-- The flow. -/
theorem ST.flow (h : ST P n A C E G) : fnt .f32 (stFw P E G) = true ∧ fv .f32 (stFw P E G) * fv .f32 (dnW P E G) - (tE E - tE G) ≤ 34 * uu ∧ (tE E - tE G) - fv .f32 (stFw P E G) * fv .f32 (dnW P E G) ≤ 34 * uu ∧ (fv .f32 (stFw P E G) ≤ 146 ∧ -fv .f32 (stFw P E G) ≤ 146) ∧ (fv .f32 (stFw P E G) * fv .f32 (dnW P E G) ≤ 1602 / 100 ∧ -(fv .f32 (stFw P E G) * fv .f32 (dnW P E G)) ≤ 1602 / 100) ∧ 11 / 100 ≤ fv .f32 (dnW P E G) := by
  have u0 : 0 < uu := by unfold uu; decide +kernel
  have u1 : 16700000 * uu = 1 := by unfold uu; decide +kernel
  obtain ⟨sb, b1, b2⟩ := h.sb
  obtain ⟨eb1, eb2⟩ := h.eb
  obtain ⟨d0, d1, d2⟩ := h.den
  obtain ⟨t0, t1, t2⟩ := h.hE.t
  obtain ⟨g0, g1, g2⟩ := h.hG.t
  have e1 : fv .f32 (cn .f32 E.t) = tE E := rfl
  have e2 : fv .f32 (cn .f32 G.t) = tE G := rfl
  rw [e1] at t1 t2
  rw [e2] at g1 g2
  obtain ⟨s0, s1, s2⟩ := fop_u .sub rfl t0 g0 (by simp) (M := 16) (by grind) (by grind) (by simp only [ex]; grind) (by simp only [ex]; grind)
  simp only [ex] at s1 s2
  rw [e1, e2] at s1 s2
  have eF : stFw P E G = fop .quo .f32 (fop .sub .f32 (cn .f32 E.t) (cn .f32 G.t)) (dnW P E G) := rfl
  rw [eF]
  generalize fop .sub .f32 (cn .f32 E.t) (cn .f32 G.t) = d at *
  have dp : 11 / 100 ≤ fv .f32 (dnW P E G) := by grind
  have du : fv .f32 (dnW P E G) ≤ 58 := by grind
  clear d1 d2
  generalize dnW P E G = D at *
  have D0 : 0 < fv .f32 D := by grind
  have dv : fv .f32 d / fv .f32 D * fv .f32 D = fv .f32 d := Rat.div_mul_cancel (by grind)
  have dn : -(fv .f32 d / fv .f32 D) * fv .f32 D = -fv .f32 d := by grind
  have d17 : 17 / fv .f32 D * fv .f32 D = 17 := Rat.div_mul_cancel (by grind)
  have q1 : fv .f32 d / fv .f32 D ≤ 17 / fv .f32 D := mul_cancel_le D0 (by rw [dv, d17]; grind)
  have q2 : -(fv .f32 d / fv .f32 D) ≤ 17 / fv .f32 D := mul_cancel_le D0 (by rw [dn, d17]; grind)
  have q3 : 1 / 1000000 ≤ 17 / fv .f32 D := mul_cancel_le D0 (by rw [d17]; grind)
  have q4 : 17 / fv .f32 D ≤ 155 := mul_cancel_le D0 (by rw [d17]; grind)
  obtain ⟨f0, f1, f2⟩ := fop_u .quo rfl s0 d0 (fun _ => by grind) (M := 17 / fv .f32 D) q3 (by grind) (by simp only [ex]; exact q1) (by simp only [ex]; exact q2)
  simp only [ex] at f1 f2
  generalize fop .quo .f32 d D = F at *
  generalize fv .f32 d / fv .f32 D = q at *
  generalize 17 / fv .f32 D = m at *
  have k1 := Rat.mul_le_mul_of_nonneg_right f1 (Rat.le_of_lt D0)
  have k2 := Rat.mul_le_mul_of_nonneg_right f2 (Rat.le_of_lt D0)
  have e : m * uu * fv .f32 D = 17 * uu := by grind
  have r1 : fv .f32 F * fv .f32 D - (tE E - tE G) ≤ 34 * uu := by grind
  have r2 : (tE E - tE G) - fv .f32 F * fv .f32 D ≤ 34 * uu := by grind
  have r3 : fv .f32 F * fv .f32 D ≤ 1602 / 100 := by grind
  have r4 : -(fv .f32 F * fv .f32 D) ≤ 1602 / 100 := by grind
  refine ⟨f0, r1, r2, ⟨?_, ?_⟩, ⟨r3, r4⟩, dp⟩
  · exact mul_cancel_le D0 (by grind)
  · exact mul_cancel_le D0 (by grind)
/-- How warm a cell is. -/
theorem ST.cell (h : ST P n A C E G) {k : Nat} (hk : k < n) {lo hi : Rat} (hL : lo ≤ tE E ∧ tE E ≤ hi) (hR : lo ≤ tE G ∧ tE G ≤ hi) (h8 : -8 ≤ lo ∧ hi ≤ 8) :
    fnt .f32 (stW P E G k) = true ∧ (fv .f32 (stW P E G k) - (tE E - fv .f32 (stFw P E G) * fv .f32 (fop .add .f32 (stU P E k) (halfV P k))) ≤ 26 * uu ∧ (tE E - fv .f32 (stFw P E G) * fv .f32 (fop .add .f32 (stU P E k) (halfV P k))) - fv .f32 (stW P E G k) ≤ 26 * uu) ∧ lo - 60 * uu ≤ fv .f32 (stW P E G k) ∧ fv .f32 (stW P E G k) ≤ hi + 60 * uu := by
  have u0 : 0 < uu := by unfold uu; decide +kernel
  have u1 : 16700000 * uu = 1 := by unfold uu; decide +kernel
  have hn := h.g.hn
  obtain ⟨sb, b1, b2⟩ := h.sb
  obtain ⟨eb1, eb2⟩ := h.eb
  obtain ⟨d0, d1, d2⟩ := h.den
  obtain ⟨f0, f1, f2, _, ⟨f3, f4⟩, dp⟩ := h.flow
  obtain ⟨_, _, _, c⟩ := h.acc k (by omega)
  obtain ⟨c0, c1, c2⟩ := c hk
  obtain ⟨s1, s2⟩ := sb k hk
  obtain ⟨_, e1, e2⟩ := h.g.et hk
  have kb : (k : Rat) ≤ 5 := by
    have b : (k : Rat) ≤ ((5 : Nat) : Rat) := by exact_mod_cast (by omega : k ≤ 5)
    have e : ((5 : Nat) : Rat) = 5 := rfl
    rwa [e] at b
  have ke := Rat.mul_le_mul_of_nonneg_right kb (show 0 ≤ 2 * eS P E n by grind)
  have eW : stW P E G k = fop .sub .f32 (cn .f32 E.t) (fop .mul .f32 (stFw P E G) (fop .add .f32 (stU P E k) (halfV P k))) := rfl
  rw [eW]
  obtain ⟨t0, t1, t2⟩ := h.hE.t
  have et1 : fv .f32 (cn .f32 E.t) = tE E := rfl
  generalize fop .add .f32 (stU P E k) (halfV P k) = v at *
  have v0 : 0 ≤ fv .f32 v := by grind
  have v1 : fv .f32 v ≤ fv .f32 (dnW P E G) := by grind
  obtain ⟨m1, m2⟩ := abs_mul f3 f4 (by grind) v0 v1
  -- between the ends
  have bt : lo - 34 * uu ≤ tE E - fv .f32 (stFw P E G) * fv .f32 v ∧ tE E - fv .f32 (stFw P E G) * fv .f32 v ≤ hi + 34 * uu := by
    rcases rle_tot 0 (fv .f32 (stFw P E G)) with hs | hs
    · have a := Rat.mul_le_mul_of_nonneg_left v1 hs
      have b := Rat.mul_nonneg hs v0
      exact ⟨by grind, by grind⟩
    · have a := Rat.mul_le_mul_of_nonneg_left v1 (show 0 ≤ -fv .f32 (stFw P E G) by grind)
      have b := Rat.mul_nonneg (show 0 ≤ -fv .f32 (stFw P E G) by grind) v0
      exact ⟨by grind, by grind⟩
  obtain ⟨g0, g1, g2⟩ := fop_u .mul rfl f0 c0 (by simp) (M := 17) (by grind) (by grind) (by simp only [ex]; grind) (by simp only [ex]; grind)
  simp only [ex] at g1 g2
  generalize fop .mul .f32 (stFw P E G) v = y at *
  obtain ⟨i0, i1, i2⟩ := fop_u .sub rfl t0 g0 (by simp) (M := 9) (by grind) (by grind) (by simp only [ex]; rw [et1]; grind) (by simp only [ex]; rw [et1]; grind)
  simp only [ex] at i1 i2
  rw [et1] at i1 i2
  exact ⟨i0, ⟨by grind, by grind⟩, by grind, by grind⟩
end
end Go.Proofs.Ytpnkapdemgieaaa
set_option linter.unusedSimpArgs false
set_option linter.unusedVariables false
set_option linter.unusedSectionVars false
namespace Go.Proofs.Ytpnkapdemgieaaa
open Go Go.RowKit
theorem uu_pos : 0 < uu ∧ 16700000 * uu = 1 := by unfold uu; exact ⟨by decide +kernel, by decide +kernel⟩
/-- A rod of the same cells with other warmths, near a flow. -/
structure RS (Q : Rd) (n : Nat) (A C : Nat → Int) (E G : EndT) (F : Nat) (lo hi : Rat) : Prop where
  g : GR Q n A C (8 + 1 / 1000)
  hE : GE E 8
  hG : GE G 8
  f : fnt .f32 F = true ∧ fv .f32 F ≤ 146 ∧ -fv .f32 F ≤ 146
  x : ∀ i, i < n → lo - 60 * uu ≤ xR Q i ∧ xR Q i ≤ hi + 60 * uu
  b : -8 ≤ lo ∧ lo ≤ hi ∧ hi ≤ 8
  p0 : phi Q E G 0 - fv .f32 F ≤ 600 * uu + pR Q E G 0 * (420 * uu) ∧ fv .f32 F - phi Q E G 0 ≤ 600 * uu + pR Q E G 0 * (420 * uu)
  pn : phi Q E G n - fv .f32 F ≤ 600 * uu + pR Q E G n * (420 * uu) ∧ fv .f32 F - phi Q E G n ≤ 600 * uu + pR Q E G n * (420 * uu)
  pk : ∀ k, 0 < k → k < n → phi Q E G k - fv .f32 F ≤ 1200 * uu ∧ fv .f32 F - phi Q E G k ≤ 1200 * uu
section
variable {P Q : Rd} {n F : Nat} {A C : Nat → Int} {E G : EndT} {lo hi : Rat}
theorem RS.gt (h : RS Q n A C E G F lo hi) : GT Q n A C (81 / 10) E G 1065353216 513 := by
  have hp := fun i (hi : i ≤ n) => (h.g.p h.hE h.hG hi).2
  have ww : ∀ i, i < n → V .f32 (rwW Q 1065353216 i) (((A i * C i : Int) : Rat) / 16) ∧ 1 / 16 ≤ (((A i * C i : Int) : Rat) / 16) ∧ (((A i * C i : Int) : Rat) / 16) ≤ 4 := fun i hi => by
    have vm := h.g.mass hi
    obtain ⟨w1, w2⟩ := h.g.wb hi
    have ew : ((A i * C i : Int) : Rat) / 16 = wR A C i / 4 := by unfold wR; grind
    have e : ex .quo (((A i * C i : Int) : Rat) / 16) 1 = ((A i * C i : Int) : Rat) / 16 := by simp only [ex]; grind
    obtain ⟨_, k1, k2⟩ := h.g.a i hi
    obtain ⟨_, k3, k4⟩ := h.g.c i hi
    have m1 : 1 * 1 ≤ A i * C i := Int.mul_le_mul k1 k3 (by omega) (by omega)
    have m2 : A i * C i ≤ 8 * 8 := Int.mul_le_mul k2 k4 (by omega) (by omega)
    have r : Rep .f32 (((A i * C i : Int) : Rat) / 16) := rep_at (k := .f32) (A i * C i) (-4) (by show (A i * C i).natAbs < 2 ^ (23 + 1); omega) (by decide) (by decide) (by have := tp_m4; grind)
    have Q' := V.op .quo rfl vm V1 (fun _ => by grind) (by rw [e]; exact r)
    rw [e] at Q'
    exact ⟨Q', by grind, by grind⟩
  have wt : ∀ i, i < n → wT Q 1065353216 i = ((A i * C i : Int) : Rat) / 16 := fun i hi => (ww i hi).1.2
  refine ⟨h.g.mono (by grind), h.hE.mono (by grind), h.hG.mono (by grind), ⟨by grind, by grind⟩, ⟨by grind, by grind⟩, ⟨V1.1, by rw [V1.2]; grind⟩, fun i hi => ⟨(ww i hi).1.1, by rw [wt i hi]; have := (ww i hi).2; grind, by rw [wt i hi]; have := (ww i hi).2; grind⟩, fun i hi => ?_⟩
  have a := hp i (by omega)
  have b := hp (i + 1) (by omega)
  have c := (ww i hi).2.1
  show wT Q 1065353216 i + pR Q E G i + pR Q E G (i + 1) ≤ _
  rw [wt i hi]
  grind
/-- It stays. -/
theorem RS.stay (h : RS Q n A C E G F lo hi) : rwsOk Q E G 1065353216 = true ∧ GR (rwsR Q E G 1065353216) n A C (81 / 10 + 81 / 10 / 1000) ∧ ∀ i, i < n → xR (rwsR Q E G 1065353216) i - xR Q i ≤ 1 / 128 ∧ xR Q i - xR (rwsR Q E G 1065353216) i ≤ 1 / 128 := by
  obtain ⟨u0, u1⟩ := uu_pos
  have hn := h.g.hn
  have gt := h.gt
  have wm : ∀ i, i < n → 1 / 16 ≤ wT Q 1065353216 i := fun i hi => by
    have vm := h.g.mass hi
    obtain ⟨w1, w2⟩ := h.g.wb hi
    have c := gt.w i hi
    obtain ⟨a0, a1, a2⟩ := fop_btw .quo rfl .f32 (a := 1 / 16) (b := 4) vm.1 V1.1 (fun _ => by rw [V1.2]; grind) Rp16 Rpx4 (by simp only [ex]; rw [vm.2, V1.2]; unfold wR at w1; grind) (by simp only [ex]; rw [vm.2, V1.2]; unfold wR at w2; grind)
    exact a1
  have pp := fun i (hi : i ≤ n) => (h.g.p h.hE h.hG hi).2
  have nb := h.b
  have S := gt.stay (T := 40000 * uu) (wm := 1 / 16) (Zm := 8 + 1 / 1000) (by grind) wm (by grind) (fun i hi => by obtain ⟨a, b⟩ := h.x i hi; exact ⟨by grind, by grind⟩) (by grind) (by grind) (fun i hi => by
    have z : ∀ j, j ≤ n → (phi Q E G j - fv .f32 F ≤ 1200 * uu + (if j = 0 then pR Q E G 0 * (420 * uu) else 0) + (if j = n then pR Q E G n * (420 * uu) else 0) ∧ fv .f32 F - phi Q E G j ≤ 1200 * uu + (if j = 0 then pR Q E G 0 * (420 * uu) else 0) + (if j = n then pR Q E G n * (420 * uu) else 0)) := fun j hj => by
      by_cases h0 : j = 0
      · subst h0
        rw [if_pos rfl, if_neg (by omega)]
        obtain ⟨a, b⟩ := h.p0
        exact ⟨by grind, by grind⟩
      · rw [if_neg h0]
        by_cases hl : j = n
        · subst hl
          rw [if_pos rfl]
          obtain ⟨a, b⟩ := h.pn
          exact ⟨by grind, by grind⟩
        · rw [if_neg hl]
          obtain ⟨a, b⟩ := h.pk j (by omega) (by omega)
          exact ⟨by grind, by grind⟩
    obtain ⟨a1, a2⟩ := z i (by omega)
    obtain ⟨b1, b2⟩ := z (i + 1) (by omega)
    rw [if_neg (show ¬ i + 1 = 0 by omega)] at b1 b2
    rw [if_neg (show ¬ i = n by omega)] at a1 a2
    have k0 := Rat.mul_le_mul_of_nonneg_left (show 420 * uu ≤ 40000 * uu by grind) (pp 0 (by omega)).1
    have kn := Rat.mul_le_mul_of_nonneg_left (show 420 * uu ≤ 40000 * uu by grind) (pp n (by omega)).1
    by_cases h0 : i = 0
    · rw [if_pos h0] at a1 a2 ⊢
      by_cases hl : i + 1 = n
      · rw [if_pos hl] at b1 b2 ⊢
        rw [← hl] at kn b1 b2
        exact ⟨by grind, by grind⟩
      · rw [if_neg hl] at b1 b2 ⊢
        exact ⟨by grind, by grind⟩
    · rw [if_neg h0] at a1 a2 ⊢
      by_cases hl : i + 1 = n
      · rw [if_pos hl] at b1 b2 ⊢
        rw [← hl] at kn b1 b2
        exact ⟨by grind, by grind⟩
      · rw [if_neg hl] at b1 b2 ⊢
        exact ⟨by grind, by grind⟩)
  refine ⟨S.1, S.2.1, fun i hi => ?_⟩
  obtain ⟨a, b⟩ := S.2.2 i hi
  exact ⟨by grind, by grind⟩
/-- What flows in it, in single precision. -/
theorem RS.flow (h : RS Q n A C E G F lo hi) {i : Nat} (hi' : i ≤ n) : fnt .f32 (fAt Q E G i) = true ∧ fv .f32 (fAt Q E G i) - fv .f32 F ≤ 10000 * uu ∧ fv .f32 F - fv .f32 (fAt Q E G i) ≤ 10000 * uu := by
  obtain ⟨u0, u1⟩ := uu_pos
  have hn := h.g.hn
  have nb := h.b
  obtain ⟨vp, p0, p1⟩ := h.g.p h.hE h.hG hi'
  have hb := fun j (hj : j ≤ n + 1) => seq_bd h.g (h.hE.mono (by grind)) (h.hG.mono (by grind)) (i := j) hj
  obtain ⟨a0, a1, a2⟩ := hb i (by omega)
  obtain ⟨b0, b1, b2⟩ := hb (i + 1) (by omega)
  rw [fAt_eq Q E G (by rw [h.g.la]; exact hi')]
  obtain ⟨c0, c1, c2⟩ := fop_u .sub rfl a0 b0 (by simp) (M := 17) (by grind) (by grind) (by simp only [ex]; grind) (by simp only [ex]; grind)
  simp only [ex] at c1 c2
  have e : phi Q E G i = pR Q E G i * (fv .f32 (seqW Q.d E.t G.t i) - fv .f32 (seqW Q.d E.t G.t (i + 1))) := rfl
  have k := mul_bd (a := 16) (b := 17 * uu) (x := pR Q E G i) (y := fv .f32 (fop .sub .f32 (seqW Q.d E.t G.t i) (seqW Q.d E.t G.t (i + 1))) - (fv .f32 (seqW Q.d E.t G.t i) - fv .f32 (seqW Q.d E.t G.t (i + 1)))) (by grind) p1 (by grind) c1
  have hp : phi Q E G i - fv .f32 F ≤ 8000 * uu ∧ fv .f32 F - phi Q E G i ≤ 8000 * uu := by
    have q0 := (h.g.p h.hE h.hG (i := 0) (by omega)).2.2
    have qn := (h.g.p h.hE h.hG (i := n) (by omega)).2.2
    have k0 := Rat.mul_le_mul_of_nonneg_right q0 (show 0 ≤ 420 * uu by grind)
    have kn := Rat.mul_le_mul_of_nonneg_right qn (show 0 ≤ 420 * uu by grind)
    by_cases h0 : i = 0
    · subst h0
      obtain ⟨a, b⟩ := h.p0
      exact ⟨by grind, by grind⟩
    · by_cases hl : i = n
      · subst hl
        obtain ⟨a, b⟩ := h.pn
        exact ⟨by grind, by grind⟩
      · obtain ⟨a, b⟩ := h.pk i (by omega) (by omega)
        exact ⟨by grind, by grind⟩
  obtain ⟨_, f1, f2⟩ := h.f
  generalize fop .sub .f32 (seqW Q.d E.t G.t i) (seqW Q.d E.t G.t (i + 1)) = d at *
  have k2 : pR Q E G i * fv .f32 d - phi Q E G i ≤ 272 * uu ∧ phi Q E G i - pR Q E G i * fv .f32 d ≤ 272 * uu := by
    rw [e]; exact ⟨by grind, by grind⟩
  obtain ⟨g0, g1, g2⟩ := fop_u .mul rfl vp.1 c0 (by simp) (M := 150) (by grind) (by grind) (by simp only [ex]; rw [vp.2]; grind) (by simp only [ex]; rw [vp.2]; grind)
  simp only [ex] at g1 g2
  rw [vp.2] at g1 g2
  exact ⟨g0, by grind, by grind⟩
/-- An even rod beside a shut end. -/
theorem rs_even (h : GR P n A C 8) (hE : GE E 8) (hG : GE G 8) (k1 : E.k = 1) (hl : lo ≤ tE G ∧ tE G ≤ hi) (hb : -8 ≤ lo ∧ lo ≤ hi ∧ hi ≤ 8) : RS (evenR P G.t) n A C E G (cn .f32 0) lo hi := by
  obtain ⟨u0, u1⟩ := uu_pos
  have hn := h.hn
  have at' : ∀ i, i < n → cn .f32 ((List.replicate P.d.length G.t).getD i 0) = cn .f32 G.t := fun i hi => by
    rw [List.getD_eq_getElem?_getD, List.getElem?_replicate, if_pos (by rw [h.ld]; exact hi)]; rfl
  have g : GR (evenR P G.t) n A C 8 := h.with (by rw [List.length_replicate, h.ld]) (fun i hi => by rw [at' i hi]; exact hG.t)
  have xx : ∀ i, i < n → xR (evenR P G.t) i = tE G := fun i hi => by
    show fv .f32 (cn .f32 ((List.replicate P.d.length G.t).getD i 0)) = _
    rw [at' i hi]; rfl
  have p0 : pR (evenR P G.t) E G 0 = 0 := by unfold pR; rw [pG_zero, endV_1 k1, V0.2]
  have xe' : ∀ j, 0 < j → xe (evenR P G.t) E G j = tE G := fun j hj => by
    obtain ⟨i, rfl⟩ : ∃ i, j = i + 1 := ⟨j - 1, by omega⟩
    by_cases hi : i < (evenR P G.t).d.length
    · rw [xe_in hi]; exact xx i (by rw [g.ld] at hi; exact hi)
    · rw [xe_last hi]
  have ph : ∀ j, phi (evenR P G.t) E G j = 0 := fun j => by
    unfold phi
    by_cases hj : j = 0
    · rw [hj, p0]; grind
    · rw [xe' j (by omega), xe' (j + 1) (by omega)]; grind
  have pz := fun i (hi : i ≤ n) => (g.p hE hG hi).2.1
  have m0 := Rat.mul_nonneg (pz 0 (by omega)) (show 0 ≤ 420 * uu by grind)
  have mn := Rat.mul_nonneg (pz n (by omega)) (show 0 ≤ 420 * uu by grind)
  refine ⟨g.mono (by grind), hE, hG, ⟨V0.1, by rw [V0.2]; grind, by rw [V0.2]; grind⟩, fun i hi => by rw [xx i hi]; exact ⟨by grind, by grind⟩, hb, ?_, ?_, fun k _ _ => ?_⟩
  · rw [ph, V0.2]; exact ⟨by grind, by grind⟩
  · rw [ph, V0.2]; exact ⟨by grind, by grind⟩
  · rw [ph, V0.2]; exact ⟨by grind, by grind⟩
/-- The rod at rest between its ends. -/
theorem ST.rs (h : ST P n A C E G) (hL : lo ≤ tE E ∧ tE E ≤ hi) (hR : lo ≤ tE G ∧ tE G ≤ hi) (hb : -8 ≤ lo ∧ hi ≤ 8) : RS (stR P E G) n A C E G (stFw P E G) lo hi := by
  obtain ⟨u0, u1⟩ := uu_pos
  have hn := h.g.hn
  obtain ⟨sb, b1, b2⟩ := h.sb
  obtain ⟨eb1, eb2⟩ := h.eb
  have cell := fun k (hk : k < n) => h.cell hk hL hR hb
  obtain ⟨f0, f1, f2, ⟨f3, f4⟩, ⟨f5, f6⟩, dp⟩ := h.flow
  have at' : ∀ i, i < n → cn .f32 ((stL P E G P.d.length).getD i 0) = stW P E G i := fun i hi => by
    unfold stL
    rw [List.getD_eq_getElem?_getD, List.getElem?_map, List.getElem?_range (by rw [h.g.ld]; exact hi)]
    exact cn_fop _ _ _ _
  have g : GR (stR P E G) n A C (8 + 1 / 1000) := h.g.with (L := stL P E G P.d.length) (by unfold stL; rw [List.length_map, List.length_range, h.g.ld]) (fun i hi => by
    rw [at' i hi]
    obtain ⟨c0, _, c1, c2⟩ := cell i hi
    exact ⟨c0, by grind, by grind⟩)
  have xx : ∀ i, i < n → xR (stR P E G) i = fv .f32 (stW P E G i) := fun i hi => by
    show fv .f32 (cn .f32 ((stL P E G P.d.length).getD i 0)) = _
    rw [at' i hi]
  have ld : (stR P E G).d.length = n := g.ld
  have pe : ∀ i, pR (stR P E G) E G i = pR P E G i := fun i => rfl
  -- the flow, times a sum of resistances
  have fe : fv .f32 (stFw P E G) * eS P E n ≤ 17 * uu ∧ -(fv .f32 (stFw P E G) * eS P E n) ≤ 17 * uu := by
    obtain ⟨_, d1, d2⟩ := h.den
    have ede : eS P E n = 101 / 100 * (sA P E n * uu) := rfl
    obtain ⟨m1, m2⟩ := abs_mul f5 f6 (by grind) (show 0 ≤ 100 / 101 * sA P E n by grind) (show 100 / 101 * sA P E n ≤ fv .f32 (dnW P E G) by grind)
    have a := Rat.mul_le_mul_of_nonneg_right m1 (Rat.le_of_lt u0)
    have b := Rat.mul_le_mul_of_nonneg_right m2 (Rat.le_of_lt u0)
    rw [ede]
    exact ⟨by grind, by grind⟩
  refine ⟨g, h.hE, h.hG, ⟨f0, f3, f4⟩, fun i hi => by rw [xx i hi]; exact (cell i hi).2.2, ⟨hb.1, by grind, hb.2⟩, ?_, ?_, fun k hk0 hk => ?_⟩
  · -- the left end
    unfold phi
    rw [xe_zero, xe_in (by omega), xx 0 (by omega), pe]
    obtain ⟨_, _, _, l1, l2, l3, l4⟩ := h.left
    obtain ⟨_, ⟨c1, c2⟩, _⟩ := cell 0 (by omega)
    have c1 : fv .f32 (stW P E G 0) - (tE E - fv .f32 (stFw P E G) * fv .f32 (fop .add .f32 (stPw P 0 E) (halfV P 0))) ≤ 26 * uu := c1
    have c2 : (tE E - fv .f32 (stFw P E G) * fv .f32 (fop .add .f32 (stPw P 0 E) (halfV P 0))) - fv .f32 (stW P E G 0) ≤ 26 * uu := c2
    generalize fv .f32 (fop .add .f32 (stPw P 0 E) (halfV P 0)) = v at *
    generalize fv .f32 (stW P E G 0) = x at *
    generalize fv .f32 (stFw P E G) = f at *
    generalize pR P E G 0 = p at *
    obtain ⟨m1, m2⟩ := mul_eps l1 l2 f3 f4 (by grind)
    have a := Rat.mul_le_mul_of_nonneg_left c1 (show 0 ≤ p by grind)
    have b := Rat.mul_le_mul_of_nonneg_left c2 (show 0 ≤ p by grind)
    have c := Rat.mul_nonneg (show 0 ≤ p by grind) (show 0 ≤ uu by grind)
    exact ⟨by grind, by grind⟩
  · -- the right end
    unfold phi
    obtain ⟨m, rfl⟩ : ∃ m, n = m + 1 := ⟨n - 1, by omega⟩
    rw [xe_in (by omega), xe_last (by omega), xx m (by omega), pe]
    obtain ⟨_, _, _, r1, r2, r3, r4⟩ := h.right
    rw [show m + 1 - 1 = m by omega] at r1 r2
    obtain ⟨_, ⟨c1, c2⟩, _⟩ := cell m (by omega)
    obtain ⟨_, d1, d2⟩ := h.den
    obtain ⟨_, _, _, ac⟩ := h.acc m (by omega)
    obtain ⟨_, v1, v2⟩ := ac (by omega)
    have es : sA P E (m + 1) = sA P E m + 2 * et P m := rfl
    have kb : (m : Rat) ≤ 5 := by
      have b : (m : Rat) ≤ ((5 : Nat) : Rat) := by exact_mod_cast (by omega : m ≤ 5)
      have e : ((5 : Nat) : Rat) = 5 := rfl
      rwa [e] at b
    have ke := Rat.mul_le_mul_of_nonneg_right kb (show 0 ≤ 2 * eS P E (m + 1) by grind)
    generalize fv .f32 (fop .add .f32 (stU P E m) (halfV P m)) = v at *
    generalize fv .f32 (stW P E G m) = x at *
    generalize fv .f32 (dnW P E G) = D at *
    -- what is left behind the last cell
    have w1 : D - v - et P m ≤ 22 * eS P E (m + 1) := by grind
    have w2 : -(D - v - et P m) ≤ 22 * eS P E (m + 1) := by grind
    generalize sA P E (m + 1) = S at *
    generalize sA P E m = s at *
    clear d1 d2 v1 v2 ke es sb b1 b2
    have q1 : fv .f32 (stFw P E G) * (D - v - et P m) ≤ 374 * uu ∧ -(fv .f32 (stFw P E G) * (D - v - et P m)) ≤ 374 * uu := by
      rcases rle_tot 0 (fv .f32 (stFw P E G)) with hs | hs
      · have a := Rat.mul_le_mul_of_nonneg_left w1 hs
        have b := Rat.mul_le_mul_of_nonneg_left w2 hs
        exact ⟨by grind, by grind⟩
      · have a := Rat.mul_le_mul_of_nonneg_left w1 (show 0 ≤ -fv .f32 (stFw P E G) by grind)
        have b := Rat.mul_le_mul_of_nonneg_left w2 (show 0 ≤ -fv .f32 (stFw P E G) by grind)
        exact ⟨by grind, by grind⟩
    generalize fv .f32 (stFw P E G) = f at *
    generalize pR P E G (m + 1) = p at *
    generalize et P m = η at *
    obtain ⟨m1, m2⟩ := mul_eps r1 r2 f3 f4 (by grind)
    have y1 : x - tE G - f * η ≤ 440 * uu := by grind
    have y2 : f * η - (x - tE G) ≤ 440 * uu := by grind
    have y1 : x - tE G - f * η ≤ 420 * uu + 20 * uu := by grind
    have a := Rat.mul_le_mul_of_nonneg_left y1 r3
    have b := Rat.mul_le_mul_of_nonneg_left y2 r3
    have c := Rat.mul_le_mul_of_nonneg_right r4 (show 0 ≤ uu by grind)
    exact ⟨by grind, by grind⟩
  · -- between two cells
    obtain ⟨j, rfl⟩ : ∃ j, k = j + 1 := ⟨k - 1, by omega⟩
    unfold phi
    rw [xe_in (by omega), xe_in (by omega), xx j (by omega), xx (j + 1) (by omega), pe]
    obtain ⟨_, ⟨c1, c2⟩, _⟩ := cell j (by omega)
    obtain ⟨_, ⟨e1, e2⟩, _⟩ := cell (j + 1) hk
    obtain ⟨d1, d2⟩ := h.dif hk
    obtain ⟨h0, h1, h2⟩ := h.g.et (i := j) (by omega)
    obtain ⟨i0, i1, i2⟩ := h.g.et (i := j + 1) hk
    have ep : pR P E G (j + 1) = fv .f32 (betV P j) := by unfold pR; rw [pG_mid (by rw [h.g.la]; exact hk)]
    have ea : fv .f32 (halfV P j) = et P j := rfl
    have eb : fv .f32 (halfV P (j + 1)) = et P (j + 1) := rfl
    obtain ⟨s0, s1, s2⟩ := fop_u .add rfl h0 i0 (by simp) (M := et P j + et P (j + 1)) (by grind) (by grind) (by simp only [ex]; rw [ea, eb]; grind) (by simp only [ex]; rw [ea, eb]; grind)
    simp only [ex] at s1 s2
    rw [ea, eb] at s1 s2
    obtain ⟨_, t1, t2⟩ := h.g.bet hk
    rw [ep]
    have ebv : betV P j = fop .quo .f32 (cn .f32 1065353216) (fop .add .f32 (halfV P j) (halfV P (j + 1))) := rfl
    rw [ebv] at t1 t2 ⊢
    generalize fop .add .f32 (halfV P j) (halfV P (j + 1)) = s at *
    have hu := Rat.mul_le_mul_of_nonneg_right (show et P j + et P (j + 1) ≤ 8 by grind) (Rat.le_of_lt u0)
    obtain ⟨y0, y1, y2, yp⟩ := inv_u s0 (by grind) (by grind)
    generalize fv .f32 (fop .quo .f32 (cn .f32 1065353216) s) = p at *
    generalize fv .f32 (fop .add .f32 (stU P E j) (halfV P j)) = v at *
    generalize fv .f32 (fop .add .f32 (stU P E (j + 1)) (halfV P (j + 1))) = v' at *
    generalize fv .f32 (stW P E G j) = x at *
    generalize fv .f32 (stW P E G (j + 1)) = x' at *
    have sl : 1 / 8 ≤ et P j + et P (j + 1) := by grind
    have su : et P j + et P (j + 1) ≤ 8 := by grind
    generalize et P j + et P (j + 1) = σ at *
    have σu : 16700000 * (σ * uu) = σ := by grind
    have ps1 := Rat.mul_le_mul_of_nonneg_left s1 (Rat.le_of_lt yp)
    have ps2 := Rat.mul_le_mul_of_nonneg_left s2 (Rat.le_of_lt yp)
    have pσ : p * σ ≤ 11 / 10 := by
      have := Rat.mul_le_mul_of_nonneg_left (show σ ≤ 1001 / 1000 * fv .f32 s by grind) (Rat.le_of_lt yp)
      grind
    have pσu := Rat.mul_le_mul_of_nonneg_right pσ (Rat.le_of_lt u0)
    have z1 : p * σ - 1 ≤ 22 / 10 * uu := by grind
    have z2 : 1 - p * σ ≤ 22 / 10 * uu := by grind
    have q1 : fv .f32 (stFw P E G) * (v' - v - σ) ≤ 34 * uu ∧ -(fv .f32 (stFw P E G) * (v' - v - σ)) ≤ 34 * uu := by
      rcases rle_tot 0 (fv .f32 (stFw P E G)) with hs | hs
      · have a := Rat.mul_le_mul_of_nonneg_left d1 hs
        have b := Rat.mul_le_mul_of_nonneg_left d2 hs
        exact ⟨by grind, by grind⟩
      · have a := Rat.mul_le_mul_of_nonneg_left d1 (show 0 ≤ -fv .f32 (stFw P E G) by grind)
        have b := Rat.mul_le_mul_of_nonneg_left d2 (show 0 ≤ -fv .f32 (stFw P E G) by grind)
        exact ⟨by grind, by grind⟩
    generalize fv .f32 (stFw P E G) = f at *
    obtain ⟨m1, m2⟩ := mul_eps z1 z2 f3 f4 (by grind)
    have r1 : x - x' - f * σ ≤ 86 * uu := by grind
    have r2 : f * σ - (x - x') ≤ 86 * uu := by grind
    have a := Rat.mul_le_mul_of_nonneg_left r1 (Rat.le_of_lt yp)
    have b := Rat.mul_le_mul_of_nonneg_left r2 (Rat.le_of_lt yp)
    have c := Rat.mul_le_mul_of_nonneg_right t2 (show 0 ≤ uu by grind)
    exact ⟨by grind, by grind⟩
end
end Go.Proofs.Ytpnkapdemgieaaa
set_option linter.unusedSimpArgs false
set_option linter.unusedVariables false
set_option linter.unusedSectionVars false
namespace Go.Proofs.Ytpnkapdemgieaaa
open Go Go.RowKit
section
variable {P : Rd} {n : Nat} {A C : Nat → Int} {E G : EndT}
/-- A cell's own tick. -/
def cdW (P : Rd) (E G : EndT) (i : Nat) : Nat := fop .quo .f32 (fop .mul .f32 (cn .f32 (P.a.getD i 0)) (cn .f32 (P.c.getD i 0))) (fop .add .f32 (pG P E G i) (pG P E G (i + 1)))
def ms (A C : Nat → Int) (i : Nat) : Rat := ((A i * C i : Int) : Rat) / 16
theorem GR.ms (h : GR P n A C 8) {i : Nat} (hi : i < n) : V .f32 (fop .mul .f32 (cn .f32 (P.a.getD i 0)) (cn .f32 (P.c.getD i 0))) (Go.Proofs.Ytpnkapdemgieaaa.ms A C i) ∧ 1 / 16 ≤ Go.Proofs.Ytpnkapdemgieaaa.ms A C i ∧ Go.Proofs.Ytpnkapdemgieaaa.ms A C i ≤ 4 := by
  obtain ⟨w1, w2⟩ := h.wb hi
  have e : Go.Proofs.Ytpnkapdemgieaaa.ms A C i = wR A C i / 4 := by unfold Go.Proofs.Ytpnkapdemgieaaa.ms wR; grind
  refine ⟨h.mass hi, ?_, ?_⟩ <;> rw [e] <;> grind
/-- To the right of each cell something passes. -/
theorem GR.pright (h : GR P n A C 8) (hE : GE E 8) (hG : GE G 8) (k1 : G.k = 0) {i : Nat} (hi : i < n) : 1 / 8 ≤ pR P E G (i + 1) := by
  by_cases hl : i + 1 = n
  · have e : pR P E G (i + 1) = fv .f32 (endV P (n - 1) G) := by
      unfold pR
      rw [hl, ← h.la, pG_last (by rw [h.la]; omega)]
    rw [e]
    exact ((h.end' hG (i := n - 1) (by omega)).2 (by omega)).2.1
  · exact ((h.pass hE hG (i := i + 1) (by omega)).2 (by omega) hl).2.1
theorem GR.cand (h : GR P n A C 8) (hE : GE E 8) (hG : GE G 8) (k1 : G.k = 0) {i : Nat} (hi : i < n) :
    (fnt .f32 (fop .add .f32 (pG P E G i) (pG P E G (i + 1))) = true ∧ 1 / 8 ≤ fv .f32 (fop .add .f32 (pG P E G i) (pG P E G (i + 1)))) ∧ fnt .f32 (cdW P E G i) = true ∧ (1 / 512 ≤ fv .f32 (cdW P E G i) ∧ fv .f32 (cdW P E G i) ≤ 32) ∧
    fv .f32 (cdW P E G i) * (pR P E G i + pR P E G (i + 1)) ≤ Go.Proofs.Ytpnkapdemgieaaa.ms A C i * (1 + 3 * uu) := by
  obtain ⟨u0, u1⟩ := uu_pos
  obtain ⟨vm, m1, m2⟩ := h.ms hi
  obtain ⟨vp, p0, p1⟩ := h.p hE hG (i := i) (by omega)
  obtain ⟨vq, q0, q1⟩ := h.p hE hG (i := i + 1) (by omega)
  have q8 := h.pright hE hG k1 hi
  unfold cdW
  have r32 : Rep .f32 (32 : Rat) := Rep.int (k := .f32) 32 (by decide)
  have r512 : Rep .f32 ((1 : Rat) / 512) := rep_at (k := .f32) 1 (-9) (by decide) (by decide) (by decide) (by
    have h : tp (-9) * tp 9 = 1 := by rw [← tp_add]; exact tp_zero
    rw [show tp 9 = 512 from (tp_nat 9).trans rfl] at h
    have e : ((1 : Int) : Rat) = 1 := rfl
    rw [e]; grind)
  obtain ⟨s0, s1, s2⟩ := fop_btw .add rfl .f32 (a := 1 / 8) (b := 32) vp.1 vq.1 (by simp) Rp8 r32 (by simp only [ex]; rw [vp.2, vq.2]; grind) (by simp only [ex]; rw [vp.2, vq.2]; grind)
  obtain ⟨_, t1, t2⟩ := fop_u .add rfl vp.1 vq.1 (by simp) (M := pR P E G i + pR P E G (i + 1)) (by grind) (by grind) (by simp only [ex]; rw [vp.2, vq.2]; grind) (by simp only [ex]; rw [vp.2, vq.2]; grind)
  simp only [ex] at t1 t2
  rw [vp.2, vq.2] at t1 t2
  generalize fop .add .f32 (pG P E G i) (pG P E G (i + 1)) = s at *
  generalize fop .mul .f32 (cn .f32 (P.a.getD i 0)) (cn .f32 (P.c.getD i 0)) = m at *
  have sp : 0 < fv .f32 s := by grind
  have dv : Go.Proofs.Ytpnkapdemgieaaa.ms A C i / fv .f32 s * fv .f32 s = Go.Proofs.Ytpnkapdemgieaaa.ms A C i := Rat.div_mul_cancel (by grind)
  have c1 : 1 / 512 ≤ Go.Proofs.Ytpnkapdemgieaaa.ms A C i / fv .f32 s := mul_cancel_le sp (by rw [dv]; grind)
  have c2 : Go.Proofs.Ytpnkapdemgieaaa.ms A C i / fv .f32 s ≤ 32 := mul_cancel_le sp (by rw [dv]; grind)
  obtain ⟨y0, y1, y2⟩ := fop_btw .quo rfl .f32 (a := 1 / 512) (b := 32) vm.1 s0 (fun _ => by grind) r512 r32 (by simp only [ex]; rw [vm.2]; exact c1) (by simp only [ex]; rw [vm.2]; exact c2)
  obtain ⟨_, z1, _⟩ := fop_u .quo rfl vm.1 s0 (fun _ => by grind) (M := Go.Proofs.Ytpnkapdemgieaaa.ms A C i / fv .f32 s) (by grind) (by grind) (by simp only [ex]; rw [vm.2]; exact Rat.le_refl) (by simp only [ex]; rw [vm.2]; grind)
  simp only [ex] at z1
  rw [vm.2] at z1
  refine ⟨⟨s0, s1⟩, y0, ⟨y1, y2⟩, ?_⟩
  generalize fv .f32 (fop .quo .f32 m s) = y at *
  generalize Go.Proofs.Ytpnkapdemgieaaa.ms A C i / fv .f32 s = q at *
  generalize Go.Proofs.Ytpnkapdemgieaaa.ms A C i = μ at *
  have σ0 : 0 ≤ pR P E G i + pR P E G (i + 1) := by grind
  generalize pR P E G i + pR P E G (i + 1) = σ at *
  have k1 := Rat.mul_le_mul_of_nonneg_right z1 (Rat.le_of_lt sp)
  have e : q * uu * fv .f32 s = μ * uu := by grind
  have k2 : y * fv .f32 s ≤ μ * (1 + uu) := by grind
  have k3 := Rat.mul_le_mul_of_nonneg_left t2 (show 0 ≤ y by grind)
  have k4 := Rat.mul_nonneg (show 0 ≤ y by grind) (show 0 ≤ fv .f32 s by grind)
  -- σ (1 - uu) ≤ s
  have k5 : y * σ * (1 - uu) ≤ μ * (1 + uu) := by grind
  have k6 := Rat.mul_le_mul_of_nonneg_right k5 (show 0 ≤ 1 + 11 / 10 * uu by grind)
  have m3 := Rat.mul_nonneg (Rat.mul_nonneg (show 0 ≤ y by grind) σ0) (show 0 ≤ (1 - uu) * (1 + 11 / 10 * uu) - 1 by
    have := Rat.mul_le_mul_of_nonneg_right (show uu ≤ 1 / 100 by grind) (Rat.le_of_lt u0)
    grind)
  have m4 := Rat.mul_nonneg (show 0 ≤ μ by grind) (show 0 ≤ (1 + 3 * uu) - (1 + uu) * (1 + 11 / 10 * uu) by
    have := Rat.mul_le_mul_of_nonneg_right (show uu ≤ 1 / 100 by grind) (Rat.le_of_lt u0)
    grind)
  grind
/-- The least of them. -/
theorem GR.least (h : GR P n A C 8) (hE : GE E 8) (hG : GE G 8) (k1 : G.k = 0) : ∀ k, k ≤ n → (k = 0 → tickS P.a P.c (pAt P E G) k = (cn .f32 0, false)) ∧ (0 < k → ∃ L, tickS P.a P.c (pAt P E G) k = (L, true) ∧ fnt .f32 L = true ∧ (1 / 512 ≤ fv .f32 L ∧ fv .f32 L ≤ 32) ∧ ∀ i, i < k → fv .f32 L ≤ fv .f32 (cdW P E G i)) := by
  intro k
  induction k with
  | zero => intro _; exact ⟨fun _ => rfl, fun h => absurd h (by omega)⟩
  | succ k ih =>
    intro hk
    obtain ⟨i0, i1⟩ := ih (by omega)
    obtain ⟨⟨s0, s1⟩, c0, ⟨c1, c2⟩, _⟩ := h.cand hE hG k1 (i := k) (by omega)
    refine ⟨fun h => absurd h (by omega), fun _ => ?_⟩
    have ef : fle .f32 (fop .add .f32 (pAt P E G k) (pAt P E G (k + 1))) (cn .f32 0) = false := by
      show fle .f32 (fop .add .f32 (pG P E G k) (pG P E G (k + 1))) (cn .f32 0) = false
      rw [flev s0 V0.1, V0.2]; exact decide_eq_false (by grind)
    have ec : fop .quo .f32 (fop .mul .f32 (cn .f32 (P.a.getD k 0)) (cn .f32 (P.c.getD k 0))) (fop .add .f32 (pAt P E G k) (pAt P E G (k + 1))) = cdW P E G k := rfl
    by_cases h0 : k = 0
    · subst h0
      refine ⟨cdW P E G 0, ?_, c0, ⟨c1, c2⟩, fun i hi => by rw [show i = 0 by omega]; exact Rat.le_refl⟩
      rw [tickS_step (i0 rfl), ef, ec]; rfl
    · obtain ⟨L, e, L0, ⟨L1, L2⟩, L3⟩ := i1 (by omega)
      rw [tickS_step e, ef, ec]
      simp only [Bool.not_true, Bool.false_or, Bool.false_eq_true, if_false]
      by_cases hlt : flt .f32 (cdW P E G k) L = true
      · rw [if_pos hlt]
        rw [fltv c0 L0, decide_eq_true_eq] at hlt
        exact ⟨_, rfl, c0, ⟨c1, c2⟩, fun i hi => by
          by_cases hik : i = k
          · rw [hik]; exact Rat.le_refl
          · have := L3 i (by omega); grind⟩
      · rw [if_neg hlt]
        rw [fltv c0 L0, decide_eq_true_eq] at hlt
        exact ⟨_, rfl, L0, ⟨L1, L2⟩, fun i hi => by
          by_cases hik : i = k
          · rw [hik]; grind
          · exact L3 i (by omega)⟩
/-- The safe tick. -/
structure SF (P : Rd) (n : Nat) (A C : Nat → Int) (E G : EndT) (L : Nat) : Prop where
  g : GR P n A C 8
  hE : GE E 8
  hG : GE G 8
  k1 : G.k = 0
  v : safeV P E G = (L, true)
  f : fnt .f32 L = true
  b : 1 / 512 ≤ fv .f32 L ∧ fv .f32 L ≤ 32
  c : ∀ i, i < n → fv .f32 L * (pR P E G i + pR P E G (i + 1)) ≤ Go.Proofs.Ytpnkapdemgieaaa.ms A C i * (1 + 3 * uu)
theorem GR.safe (h : GR P n A C 8) (hE : GE E 8) (hG : GE G 8) (k1 : G.k = 0) : ∃ L, SF P n A C E G L := by
  have hn := h.hn
  obtain ⟨L, e, L0, L1, L3⟩ := (h.least hE hG k1 n (Nat.le_refl _)).2 (by omega)
  have q := safeV_some (h.passOk hE hG) (by rw [h.la]; exact e)
  rw [fin_of_fnt L0] at q
  have ch : chk L = L := by unfold chk; rw [fin_of_fnt L0]; rfl
  rw [ch] at q
  refine ⟨L, h, hE, hG, k1, q, L0, L1, fun i hi => ?_⟩
  obtain ⟨_, _, _, c⟩ := h.cand hE hG k1 hi
  have p0 := (h.p hE hG (i := i) (by omega)).2.1
  have q0 := (h.p hE hG (i := i + 1) (by omega)).2.1
  have := Rat.mul_le_mul_of_nonneg_right (L3 i hi) (show 0 ≤ pR P E G i + pR P E G (i + 1) by grind)
  exact Rat.le_trans this c
variable {L : Nat} {lo hi : Rat}
theorem Vhalf : V .f32 (cn .f32 1056964608) ((1 : Rat) / 2) := ⟨by decide +kernel, by decide +kernel⟩
theorem Veight : V .f32 (cn .f32 1090519040) (8 : Rat) := ⟨by decide +kernel, by decide +kernel⟩
theorem SF.half (h : SF P n A C E G L) : V .f32 (fop .mul .f32 L (cn .f32 1056964608)) (fv .f32 L / 2) := by
  have e : ex .mul (fv .f32 L) ((1 : Rat) / 2) = fv .f32 L / 2 := by simp only [ex]; grind
  have := V.op .mul rfl (x := L) ⟨h.f, rfl⟩ Vhalf (by simp) (by rw [e]; exact (scale_rep h.f (by have := h.b; grind) (by have := h.b; grind)).1)
  rwa [e] at this
theorem SF.eight (h : SF P n A C E G L) : V .f32 (fop .mul .f32 L (cn .f32 1090519040)) (8 * fv .f32 L) := by
  have e : ex .mul (fv .f32 L) (8 : Rat) = 8 * fv .f32 L := by simp only [ex]; grind
  have := V.op .mul rfl (x := L) ⟨h.f, rfl⟩ Veight (by simp) (by rw [e]; exact (scale_rep h.f (by have := h.b; grind) (by have := h.b; grind)).2)
  rwa [e] at this
/-- Eight of them, by rows. -/
theorem SF.gt (h : SF P n A C E G L) {t : Nat} (ht : V .f32 (cn .f32 t) (8 * fv .f32 L)) : GT P n A C (801 / 100) E G t 10 := by
  obtain ⟨u0, u1⟩ := uu_pos
  obtain ⟨b1, b2⟩ := h.b
  have key : ∀ i, i < n → fnt .f32 (rwW P t i) = true ∧ (pR P E G i + pR P E G (i + 1) ≤ 81 / 10 * wT P t i) ∧ wT P t i ≤ 300 := fun i hi => by
    obtain ⟨vm, m1, m2⟩ := h.g.ms hi
    have c := h.c i hi
    have p0 := (h.g.p h.hE h.hG (i := i) (by omega)).2.1
    have q0 := (h.g.p h.hE h.hG (i := i + 1) (by omega)).2.1
    unfold wT rwW
    generalize fop .mul .f32 (cn .f32 (P.a.getD i 0)) (cn .f32 (P.c.getD i 0)) = m at *
    generalize fv .f32 L = l at *
    generalize Go.Proofs.Ytpnkapdemgieaaa.ms A C i = μ at *
    generalize pR P E G i + pR P E G (i + 1) = σ at *
    have lp : 0 < 8 * l := by grind
    have dv : μ / (8 * l) * (8 * l) = μ := Rat.div_mul_cancel (by grind)
    have c1 : 1 / 5000 ≤ μ / (8 * l) := mul_cancel_le lp (by rw [dv]; grind)
    have c2 : μ / (8 * l) ≤ 256 := mul_cancel_le lp (by rw [dv]; grind)
    obtain ⟨y0, y1, y2⟩ := fop_u .quo rfl vm.1 ht.1 (fun _ => by rw [ht.2]; grind) (M := μ / (8 * l)) (by grind) (by grind) (by simp only [ex]; rw [vm.2, ht.2]; exact Rat.le_refl) (by simp only [ex]; rw [vm.2, ht.2]; grind)
    simp only [ex] at y1 y2
    rw [vm.2, ht.2] at y1 y2
    generalize fop .quo .f32 m (cn .f32 t) = y at *
    generalize μ / (8 * l) = q at *
    have q3 := Rat.mul_le_mul_of_nonneg_right c2 (Rat.le_of_lt u0)
    have q4 := Rat.mul_le_mul_of_nonneg_right c1 (Rat.le_of_lt u0)
    have qu : 16700000 * (q * uu) = q := by grind
    have mu : 16700000 * (μ * uu) = μ := by grind
    -- q (1 - uu) ≤ y, l σ ≤ 8 l q (1 + 3 uu)
    have e1 : l * σ ≤ l * (8 * q * (1 + 3 * uu)) := by
      have : μ * (1 + 3 * uu) = q * (8 * l) * (1 + 3 * uu) := by rw [dv]
      grind
    have e2 : σ ≤ 8 * q * (1 + 3 * uu) := by
      rcases rle_tot σ (8 * q * (1 + 3 * uu)) with k | k
      · exact k
      · have l0 : 0 < l := by grind
        exact mul_cancel_le l0 (by grind)
    exact ⟨y0, by grind, by grind⟩
  refine ⟨h.g.mono (by grind), h.hE.mono (by grind), h.hG.mono (by grind), ⟨by grind, by grind⟩, ⟨by grind, by grind⟩, ⟨ht.1, by rw [ht.2]; grind⟩, fun i hi => ?_, fun i hi => ?_⟩
  · obtain ⟨a, b, c⟩ := key i hi
    have q8 := h.g.pright h.hE h.hG h.k1 hi
    have p0 := (h.g.p h.hE h.hG (i := i) (by omega)).2.1
    exact ⟨a, by grind, c⟩
  · obtain ⟨a, b, c⟩ := key i hi
    have q8 := h.g.pright h.hE h.hG h.k1 hi
    have p0 := (h.g.p h.hE h.hG (i := i) (by omega)).2.1
    show wT P t i + pR P E G i + pR P E G (i + 1) ≤ _
    grind
theorem SF.rows (h : SF P n A C E G L) {t : Nat} (ht : V .f32 (cn .f32 t) (8 * fv .f32 L)) (hx : ∀ i, i < n → lo ≤ xR P i ∧ xR P i ≤ hi) (hE : E.k = 1 ∨ (lo ≤ tE E ∧ tE E ≤ hi)) (hG : lo ≤ tE G ∧ tE G ≤ hi) (h8 : -8 ≤ lo ∧ hi ≤ 8) :
    rwsOk P E G t = true ∧ GR (rwsR P E G t) n A C (801 / 100 + 801 / 100 / 1000) ∧ ∀ i, i < n → lo - 1 / 1024 ≤ xR (rwsR P E G t) i ∧ xR (rwsR P E G t) i ≤ hi + 1 / 1024 := by
  obtain ⟨u0, u1⟩ := uu_pos
  obtain ⟨a, b, c⟩ := (h.gt ht).between hx hE hG h8 (by grind)
  refine ⟨a, b, fun i hi => ?_⟩
  obtain ⟨d, e⟩ := c i hi
  exact ⟨by grind, by grind⟩
/-- Half of it, step by step. -/
theorem SF.cell (h : SF P n A C E G L) {t : Nat} (ht : V .f32 (cn .f32 t) (fv .f32 L / 2)) (hx : ∀ i, i < n → lo ≤ xR P i ∧ xR P i ≤ hi) (hE : E.k = 1 ∨ (lo ≤ tE E ∧ tE E ≤ hi)) (hG : lo ≤ tE G ∧ tE G ≤ hi) (h8 : -8 ≤ lo ∧ hi ≤ 8) {i : Nat} (hi' : i < n) :
    fnt .f32 (stepB P (fAt P E G) t i) = true ∧ lo - 1 / 1024 ≤ fv .f32 (stepB P (fAt P E G) t i) ∧ fv .f32 (stepB P (fAt P E G) t i) ≤ hi + 1 / 1024 := by
  obtain ⟨u0, u1⟩ := uu_pos
  obtain ⟨b1, b2⟩ := h.b
  obtain ⟨vm, m1, m2⟩ := h.g.ms hi'
  have c := h.c i hi'
  obtain ⟨vp, p0, p1⟩ := h.g.p h.hE h.hG (i := i) (by omega)
  obtain ⟨vq, q0, q1⟩ := h.g.p h.hE h.hG (i := i + 1) (by omega)
  have q8 := h.g.pright h.hE h.hG h.k1 hi'
  have hb := fun j (hj : j ≤ n + 1) => seq_bd h.g h.hE h.hG (i := j) hj
  -- a flow
  have fl : ∀ j, j ≤ n → fnt .f32 (fAt P E G j) = true ∧ fv .f32 (fAt P E G j) - phi P E G j ≤ (34 * pR P E G j + 1 / 1000000) * uu ∧ phi P E G j - fv .f32 (fAt P E G j) ≤ (34 * pR P E G j + 1 / 1000000) * uu ∧ phi P E G j ≤ 16 * pR P E G j ∧ -phi P E G j ≤ 16 * pR P E G j := fun j hj => by
    obtain ⟨a0, a1, a2⟩ := hb j (by omega)
    obtain ⟨d0, d1, d2⟩ := hb (j + 1) (by omega)
    obtain ⟨vp, p0, p1⟩ := h.g.p h.hE h.hG hj
    rw [fAt_eq P E G (by rw [h.g.la]; exact hj)]
    have e : phi P E G j = pR P E G j * (fv .f32 (seqW P.d E.t G.t j) - fv .f32 (seqW P.d E.t G.t (j + 1))) := rfl
    rw [e]
    obtain ⟨c0, c1, c2⟩ := fop_u .sub rfl a0 d0 (by simp) (M := 16) (by grind) (by grind) (by simp only [ex]; grind) (by simp only [ex]; grind)
    simp only [ex] at c1 c2
    generalize fv .f32 (seqW P.d E.t G.t j) = x at *
    generalize fv .f32 (seqW P.d E.t G.t (j + 1)) = y at *
    generalize fop .sub .f32 (seqW P.d E.t G.t j) (seqW P.d E.t G.t (j + 1)) = d at *
    have k1 := Rat.mul_le_mul_of_nonneg_left c1 p0
    have k2 := Rat.mul_le_mul_of_nonneg_left c2 p0
    have k3 := Rat.mul_le_mul_of_nonneg_left (show x - y ≤ 16 by grind) p0
    have k4 := Rat.mul_le_mul_of_nonneg_left (show -(x - y) ≤ 16 by grind) p0
    have k5 := Rat.mul_nonneg p0 (Rat.le_of_lt u0)
    have k6 : 16700000 * (pR P E G j * uu) = pR P E G j := by grind
    obtain ⟨g0, g1, g2⟩ := fop_u .mul rfl vp.1 c0 (by simp) (M := 17 * pR P E G j + 1 / 1000000) (by grind) (by grind) (by simp only [ex]; rw [vp.2]; grind) (by simp only [ex]; rw [vp.2]; grind)
    simp only [ex] at g1 g2
    rw [vp.2] at g1 g2
    exact ⟨g0, by grind, by grind, by grind, by grind⟩
  obtain ⟨f0, f1, f2, f3, f4⟩ := fl i (by omega)
  obtain ⟨g0, g1, g2, g3, g4⟩ := fl (i + 1) (by omega)
  have hd := (h.g.d i hi').1
  have ed : fv .f32 (cn .f32 (P.d.getD i 0)) = xR P i := rfl
  -- the warmths about it
  have ld := h.g.ld
  have xm := hx i hi'
  have xr : lo ≤ xe P E G (i + 2) ∧ xe P E G (i + 2) ≤ hi := by
    by_cases hl : i + 1 < P.d.length
    · rw [xe_in hl]; exact hx (i + 1) (by omega)
    · rw [xe_last hl]; exact hG
  have el : pR P E G i * (xe P E G i - lo) ≥ 0 ∧ pR P E G i * (hi - xe P E G i) ≥ 0 := by
    by_cases h0 : i = 0
    · subst h0
      rcases hE with k | k
      · have : pR P E G 0 = 0 := by unfold pR; rw [pG_zero, endV_1 k, V0.2]
        rw [this]; exact ⟨by grind, by grind⟩
      · rw [xe_zero]; exact ⟨Rat.mul_nonneg p0 (by grind), Rat.mul_nonneg p0 (by grind)⟩
    · obtain ⟨j, rfl⟩ : ∃ j, i = j + 1 := ⟨i - 1, by omega⟩
      rw [xe_in (show j < P.d.length by omega)]
      have := hx j (by omega)
      exact ⟨Rat.mul_nonneg p0 (by grind), Rat.mul_nonneg p0 (by grind)⟩
  have er : pR P E G (i + 1) * (xe P E G (i + 2) - lo) ≥ 0 ∧ pR P E G (i + 1) * (hi - xe P E G (i + 2)) ≥ 0 := ⟨Rat.mul_nonneg q0 (by grind), Rat.mul_nonneg q0 (by grind)⟩
  have eφ : phi P E G i = pR P E G i * (xe P E G i - xR P i) := by unfold phi; rw [xe_in (by omega)]
  have eψ : phi P E G (i + 1) = pR P E G (i + 1) * (xR P i - xe P E G (i + 2)) := by unfold phi; rw [xe_in (by omega)]
  unfold stepB
  generalize fAt P E G i = fa at *
  generalize fAt P E G (i + 1) = fb at *
  generalize fop .mul .f32 (cn .f32 (P.a.getD i 0)) (cn .f32 (P.c.getD i 0)) = m at *
  -- the difference
  have su : 16700000 * ((pR P E G i + pR P E G (i + 1)) * uu) = pR P E G i + pR P E G (i + 1) := by grind
  have sl := Rat.mul_nonneg (show 0 ≤ pR P E G i + pR P E G (i + 1) - 1 / 8 by grind) (Rat.le_of_lt u0)
  obtain ⟨s0, s1, s2⟩ := fop_u .sub rfl f0 g0 (by simp) (M := 17 * (pR P E G i + pR P E G (i + 1))) (by grind) (by grind) (by simp only [ex]; grind) (by simp only [ex]; grind)
  simp only [ex] at s1 s2
  generalize fop .sub .f32 fa fb = s at *
  have S1 : fv .f32 s - (phi P E G i - phi P E G (i + 1)) ≤ 52 * (pR P E G i + pR P E G (i + 1)) * uu := by grind
  have S2 : (phi P E G i - phi P E G (i + 1)) - fv .f32 s ≤ 52 * (pR P E G i + pR P E G (i + 1)) * uu := by grind
  have S3 : fv .f32 s ≤ 17 * (pR P E G i + pR P E G (i + 1)) := by grind
  have S4 : -fv .f32 s ≤ 17 * (pR P E G i + pR P E G (i + 1)) := by grind
  clear s1 s2 f1 f2 g1 g2 f3 f4 g3 g4
  generalize hσ : pR P E G i + pR P E G (i + 1) = σ at *
  generalize fv .f32 L = l at *
  generalize Go.Proofs.Ytpnkapdemgieaaa.ms A C i = μ at *
  -- times the tick
  have l0 : 0 ≤ l / 2 := by grind
  have k1 := Rat.mul_le_mul_of_nonneg_left S3 l0
  have k2 := Rat.mul_le_mul_of_nonneg_left S4 l0
  have lσ := Rat.mul_le_mul_of_nonneg_right (show 1 / 8 ≤ σ by grind) l0
  have μu : 16700000 * (μ * uu) = μ := by grind
  obtain ⟨t0, t1, t2⟩ := fop_u .mul rfl ht.1 s0 (by simp) (M := 17 * (l / 2 * σ)) (by grind) (by grind) (by simp only [ex]; rw [ht.2]; grind) (by simp only [ex]; rw [ht.2]; grind)
  simp only [ex] at t1 t2
  rw [ht.2] at t1 t2
  generalize fop .mul .f32 (cn .f32 t) s = r at *
  have K1 := Rat.mul_le_mul_of_nonneg_left S1 l0
  have K2 := Rat.mul_le_mul_of_nonneg_left S2 l0
  have c2 : l / 2 * σ ≤ 51 / 100 * μ := by grind
  have c3 := Rat.mul_le_mul_of_nonneg_right c2 (Rat.le_of_lt u0)
  -- by the mass
  have mp : 0 < μ := by grind
  have dv : fv .f32 r / μ * μ = fv .f32 r := Rat.div_mul_cancel (by grind)
  have dn : -(fv .f32 r / μ) * μ = -fv .f32 r := by grind
  have r1 : fv .f32 r ≤ 9 * μ := by grind
  have r2 : -fv .f32 r ≤ 9 * μ := by grind
  have d1 : fv .f32 r / μ ≤ 9 := mul_cancel_le mp (by rw [dv]; grind)
  have d2 : -(fv .f32 r / μ) ≤ 9 := mul_cancel_le mp (by rw [dn]; grind)
  obtain ⟨y0, y1, y2⟩ := fop_u .quo rfl t0 vm.1 (fun _ => by rw [vm.2]; grind) (M := 9) (by grind) (by grind) (by simp only [ex]; rw [vm.2]; exact d1) (by simp only [ex]; rw [vm.2]; exact d2)
  simp only [ex] at y1 y2
  rw [vm.2] at y1 y2
  generalize fop .quo .f32 r m = y at *
  generalize fv .f32 r / μ = q at *
  obtain ⟨z0, z1, z2⟩ := fop_u .add rfl hd y0 (by simp) (M := 18) (by grind) (by grind) (by simp only [ex]; rw [ed]; grind) (by simp only [ex]; rw [ed]; grind)
  simp only [ex] at z1 z2
  rw [ed] at z1 z2
  generalize fop .add .f32 (cn .f32 (P.d.getD i 0)) y = z at *
  -- exactly: between the bounds
  have X1 : μ * (xR P i - lo) + l / 2 * (phi P E G i - phi P E G (i + 1)) ≥ 0 := by
    have a := Rat.mul_nonneg l0 (show 0 ≤ pR P E G i * (xe P E G i - lo) by grind)
    have b := Rat.mul_nonneg l0 (show 0 ≤ pR P E G (i + 1) * (xe P E G (i + 2) - lo) by grind)
    have e := Rat.mul_nonneg (show 0 ≤ μ - l / 2 * σ by grind) (show 0 ≤ xR P i - lo by grind)
    rw [eφ, eψ]
    rw [← hσ] at e
    grind
  have X2 : μ * (hi - xR P i) - l / 2 * (phi P E G i - phi P E G (i + 1)) ≥ 0 := by
    have a := Rat.mul_nonneg l0 (show 0 ≤ pR P E G i * (hi - xe P E G i) by grind)
    have b := Rat.mul_nonneg l0 (show 0 ≤ pR P E G (i + 1) * (hi - xe P E G (i + 2)) by grind)
    have e := Rat.mul_nonneg (show 0 ≤ μ - l / 2 * σ by grind) (show 0 ≤ hi - xR P i by grind)
    rw [eφ, eψ]
    rw [← hσ] at e
    grind
  have R1 : l / 2 * (phi P E G i - phi P E G (i + 1)) - fv .f32 r ≤ 36 * (μ * uu) := by grind
  have R2 : fv .f32 r - l / 2 * (phi P E G i - phi P E G (i + 1)) ≤ 36 * (μ * uu) := by grind
  have Y1 : lo - xR P i - 36 * uu ≤ q := by
    have : (lo - xR P i - 36 * uu) * μ ≤ q * μ := by rw [dv]; grind
    rcases rle_tot (lo - xR P i - 36 * uu) q with k | k
    · exact k
    · exact mul_cancel_le mp this
  have Y2 : q ≤ hi - xR P i + 36 * uu := by
    have : q * μ ≤ (hi - xR P i + 36 * uu) * μ := by rw [dv]; grind
    exact mul_cancel_le mp this
  exact ⟨z0, by grind, by grind⟩
theorem SF.step (h : SF P n A C E G L) {t : Nat} (ht : V .f32 (cn .f32 t) (fv .f32 L / 2)) (hx : ∀ i, i < n → lo ≤ xR P i ∧ xR P i ≤ hi) (hE : E.k = 1 ∨ (lo ≤ tE E ∧ tE E ≤ hi)) (hG : lo ≤ tE G ∧ tE G ≤ hi) (h8 : -8 ≤ lo ∧ hi ≤ 8) :
    stepOk P E G t = true ∧ GR (stepR P E G t) n A C 9 ∧ ∀ i, i < n → lo - 1 / 1024 ≤ xR (stepR P E G t) i ∧ xR (stepR P E G t) i ≤ hi + 1 / 1024 := by
  obtain ⟨b1, b2⟩ := h.b
  have cell := fun i (hi : i < n) => h.cell ht hx hE hG h8 hi
  have hat : ∀ i, i < n → cn .f32 ((stepL P (fAt P E G) t P.d.length).getD i 0) = stepB P (fAt P E G) t i := fun i hi => by
    rw [stepL_at (by rw [h.g.ld]; exact hi), cn_stepB]
  have R : GR (stepR P E G t) n A C 9 := h.g.with (L := stepL P (fAt P E G) t P.d.length) (by rw [stepL_len, h.g.ld]) (fun i hi => by
    rw [hat i hi]
    obtain ⟨a, b, c⟩ := cell i hi
    exact ⟨a, by grind, by grind⟩)
  refine ⟨?_, R, fun i hi => ?_⟩
  · unfold stepOk stepPre
    have l : lst (cn .f32 t) = true := by
      unfold lst
      rw [fin_of_fnt ht.1, fgev ht.1 V0.1, ht.2, V0.2]
      rw [decide_eq_true (show (0 : Rat) ≤ fv .f32 L / 2 by grind)]; rfl
    rw [h.g.flowOk ⟨by grind, by grind⟩ h.hE h.hG, l, R.ok]; rfl
  · have e : xR (stepR P E G t) i = fv .f32 (stepB P (fAt P E G) t i) := by
      show fv .f32 (cn .f32 ((stepL P (fAt P E G) t P.d.length).getD i 0)) = _
      rw [hat i hi]
    rw [e]
    exact (cell i hi).2
end
end Go.Proofs.Ytpnkapdemgieaaa
set_option linter.unusedSimpArgs false
set_option linter.unusedVariables false
set_option linter.unusedSectionVars false
namespace Go.Proofs.Ytpnkapdemgieaaa
open Go Go.RowKit
/-- A warmth that is drawn. -/
def wmW (t : Int) : Nat := fop .quo .f32 (floatOfInt .f32 t) (cn .f32 1073741824)
theorem wmW_v {t : Int} (h : -16 ≤ t ∧ t ≤ 16) : V .f32 (wmW t) ((t : Rat) / 2) := by
  have a := V.int .f32 t (by show t.natAbs < 2 ^ (23 + 1); omega)
  have e : ex .quo (t : Rat) 2 = (t : Rat) / 2 := rfl
  have r := V.op .quo rfl a V2 (fun _ => by decide) (by rw [e]; exact rep_half (by omega))
  rwa [e] at r
theorem sg_nz (s : Bool) : sg s = 1 ∨ sg s = -1 := by cases s <;> simp [sg]
/-- What reads as nothing. -/
theorem read_nil {y : Nat} (h : V .f32 y 0) : FloatKind.f32.format.read y = FloatKind.f32.format.read 0 ∨ FloatKind.f32.format.read y = FloatKind.f32.format.read 2147483648 := by
  obtain ⟨h1, h2⟩ := h
  unfold fnt at h1
  unfold fv at h2
  have e : FloatKind.f32.format.read y = FloatKind.f32.decode y := rfl
  rw [e, decode_single] at h1 h2 ⊢
  have nz : ∀ (s : Bool) (m : Nat) (p : Int), dv (.number s m p) = 0 → m = 0 := fun s m p h => by
    have h : sg s * ((m : Rat) * tp p) = 0 := h
    have hp := tp_pos p
    rcases Nat.eq_zero_or_pos m with h0 | h0
    · exact h0
    · have mp : (0 : Rat) < (m : Rat) := by exact_mod_cast h0
      have := Rat.mul_pos mp hp
      rcases sg_nz s with e | e <;> rw [e] at h <;> grind
  by_cases c1 : y % 2147483648 < 8388608
  · rw [if_pos c1] at h2 ⊢
    have := nz _ _ _ h2
    rw [this]
    rcases hs : (y / 2147483648 % 2 == 1)
    · left; rfl
    · right; rfl
  · rw [if_neg c1] at h1 h2
    by_cases c2 : y % 2147483648 < 2139095040
    · rw [if_pos c2] at h2
      have := nz _ _ _ h2
      omega
    · rw [if_neg c2] at h1
      by_cases c3 : y % 2147483648 = 2139095040
      · rw [if_pos c3] at h1; cases h1
      · rw [if_neg c3] at h1; cases h1
theorem add_read {x y z : Nat} (h : FloatKind.f32.format.read y = FloatKind.f32.format.read z) : fop .add .f32 x y = fop .add .f32 x z := by
  unfold fop
  simp only [floatBits, Ieee.Format.add, h]
theorem wm_add : ∀ k : Nat, k < 33 → fop .add .f32 (wmW ((k : Int) - 16)) 0 = wmW ((k : Int) - 16) ∧ fop .add .f32 (wmW ((k : Int) - 16)) 2147483648 = wmW ((k : Int) - 16) := by decide +kernel
/-- A drawn warmth and nothing: the same word. -/
theorem wmW_nil {t : Int} (h : -16 ≤ t ∧ t ≤ 16) {y : Nat} (hy : V .f32 y 0) : fop .add .f32 (wmW t) y = wmW t := by
  obtain ⟨k, hk, rfl⟩ : ∃ k : Nat, k < 33 ∧ t = (k : Int) - 16 := ⟨(t + 16).toNat, by omega, by omega⟩
  obtain ⟨a, b⟩ := wm_add k hk
  rcases read_nil hy with e | e
  · rw [add_read e]; exact a
  · rw [add_read e]; exact b
section
variable {P : Rd} {n : Nat} {A C : Nat → Int} {M : Rat} {E G : EndT} {t : Int}
/-- A rod of one drawn warmth between ends of it. -/
structure EV (P : Rd) (n : Nat) (A C : Nat → Int) (E G : EndT) (t : Int) (M : Rat) : Prop where
  g : GR P n A C M
  ge : GE E M
  gg : GE G M
  ht : -16 ≤ t ∧ t ≤ 16
  m : 1 / 1024 ≤ M ∧ M ≤ 1000
  d : ∀ i, i < n → cn .f32 (P.d.getD i 0) = wmW t
  e : cn .f32 E.t = wmW t
  g' : cn .f32 G.t = wmW t
theorem EV.seq (h : EV P n A C E G t M) {i : Nat} (hi : i ≤ n + 1) : seqW P.d E.t G.t i = wmW t := by
  cases i with
  | zero => exact h.e
  | succ i =>
    show (if i < P.d.length then cn .f32 (P.d.getD i 0) else cn .f32 G.t) = _
    rw [h.g.ld]
    by_cases hl : i < n
    · rw [if_pos hl]; exact h.d i hl
    · rw [if_neg hl]; exact h.g'
/-- Nothing flows. -/
theorem EV.flow (h : EV P n A C E G t M) {i : Nat} (hi : i ≤ n) : V .f32 (fAt P E G i) 0 := by
  have v := wmW_v h.ht
  rw [fAt_eq P E G (by rw [h.g.la]; exact hi), h.seq (by omega), h.seq (by omega)]
  have z : ex .sub ((t : Rat) / 2) ((t : Rat) / 2) = 0 := by simp only [ex]; grind
  have q := V.op .sub rfl v v (by simp) (by rw [z]; exact Rp0)
  rw [z] at q
  exact mul_nil (h.g.p h.ge h.gg hi).1.1 q
theorem EV.flowOk (h : EV P n A C E G t M) : flowOk P E G = true := h.g.flowOk h.m h.ge h.gg
/-- A cell behind a tick. -/
theorem EV.cell (h : EV P n A C E G t M) {i : Nat} (hi : i < n) : stepB P (fAt P E G) 1048576000 i = wmW t := by
  unfold stepB
  rw [h.d i hi]
  refine wmW_nil h.ht ?_
  have f := h.flow (i := i) (by omega)
  have g := h.flow (i := i + 1) (by omega)
  have z : ex .sub 0 0 = 0 := by simp only [ex]; grind
  have q := V.op .sub rfl f g (by simp) (by rw [z]; exact Rp0)
  rw [z] at q
  have r := mul_nil V25w.1 q
  have vm := h.g.mass hi
  obtain ⟨w1, w2⟩ := h.g.wb hi
  have ew : ((A i * C i : Int) : Rat) / 16 = wR A C i / 4 := by unfold wR; grind
  rw [ew] at vm
  have z2 : ex .quo 0 (wR A C i / 4) = 0 := by
    simp only [ex]
    have := Rat.div_mul_cancel (a := 0) (b := wR A C i / 4) (by grind)
    rw [Rat.div_def, Rat.zero_mul]
  have s := V.op .quo rfl r vm (fun _ => by grind) (by rw [z2]; exact Rp0)
  rwa [z2] at s
/-- The rod behind a tick: the same words. -/
theorem EV.step (h : EV P n A C E G t M) : stepOk P E G 1048576000 = true ∧ GR (stepR P E G 1048576000) n A C M ∧ ∀ i, i < n → cn .f32 ((stepR P E G 1048576000).d.getD i 0) = wmW t := by
  have hat : ∀ i, i < n → cn .f32 ((stepL P (fAt P E G) 1048576000 P.d.length).getD i 0) = wmW t := fun i hi => by
    rw [stepL_at (by rw [h.g.ld]; exact hi), cn_stepB, h.cell hi]
  have R : GR (stepR P E G 1048576000) n A C M := h.g.with (L := stepL P (fAt P E G) 1048576000 P.d.length) (by rw [stepL_len, h.g.ld]) (fun i hi => by
    rw [hat i hi, ← h.d i hi]; exact h.g.d i hi)
  refine ⟨?_, R, hat⟩
  unfold stepOk stepPre
  have l : lst (cn .f32 1048576000) = true := by
    unfold lst
    rw [fin_of_fnt V25w.1, fgev V25w.1 V0.1, V25w.2, V0.2]; decide +kernel
  rw [h.flowOk, l, R.ok]; rfl
def soE (P : Rd) (E G : EndT) (A C : Nat → Int) (n : Nat) (T : Rat) (i : Nat) : Rat := wR A C i * T + (if i = 0 then pR P E G 0 * T else 0) + (if i + 1 = n then pR P E G (i + 1) * T else 0)
theorem soE_first (P : Rd) (E G : EndT) (A C : Nat → Int) {n : Nat} (hn : 1 ≤ n) (T : Rat) : soE P E G A C n T 0 - ((wR A C 0 + pR P E G 0 + (qiR (pR P E G) n 0 + qlR (pR P E G) n 0)) * T - qiR (pR P E G) n 0 * T) ≤ (wR A C 0 + pR P E G 0 + qlR (pR P E G) n 0) * 0 ∧ ((wR A C 0 + pR P E G 0 + (qiR (pR P E G) n 0 + qlR (pR P E G) n 0)) * T - qiR (pR P E G) n 0 * T) - soE P E G A C n T 0 ≤ (wR A C 0 + pR P E G 0 + qlR (pR P E G) n 0) * 0 := by
  unfold soE qiR qlR
  rw [if_pos rfl]
  generalize wR A C 0 = w
  generalize pR P E G 0 = p0
  generalize pR P E G (0 + 1) = p1
  by_cases hl : 0 + 1 = n
  · rw [if_pos hl, if_neg (by omega), if_neg (by omega)]; exact ⟨by grind, by grind⟩
  · rw [if_neg hl, if_pos (by omega), if_pos (by omega)]; exact ⟨by grind, by grind⟩
theorem soE_next (P : Rd) (E G : EndT) (A C : Nat → Int) {n i : Nat} (hi : i + 1 < n) (T : Rat) : soE P E G A C n T (i + 1) - ((wR A C (i + 1) + pR P E G (i + 1) + (qiR (pR P E G) n (i + 1) + qlR (pR P E G) n (i + 1))) * T - pR P E G (i + 1) * T - qiR (pR P E G) n (i + 1) * T) ≤ (wR A C (i + 1) + qlR (pR P E G) n (i + 1)) * 0 ∧ ((wR A C (i + 1) + pR P E G (i + 1) + (qiR (pR P E G) n (i + 1) + qlR (pR P E G) n (i + 1))) * T - pR P E G (i + 1) * T - qiR (pR P E G) n (i + 1) * T) - soE P E G A C n T (i + 1) ≤ (wR A C (i + 1) + qlR (pR P E G) n (i + 1)) * 0 := by
  unfold soE qiR qlR
  rw [if_neg (show ¬ i + 1 = 0 by omega)]
  generalize wR A C (i + 1) = w
  generalize pR P E G (i + 1) = p0
  generalize pR P E G (i + 1 + 1) = p1
  by_cases hl : i + 1 + 1 = n
  · rw [if_pos hl, if_neg (by omega), if_neg (by omega)]; exact ⟨by grind, by grind⟩
  · rw [if_neg hl, if_pos (by omega), if_pos (by omega)]; exact ⟨by grind, by grind⟩
set_option maxHeartbeats 1000000 in
theorem EV.rows (h : EV P n A C E G t M) : RowsE n (rwB P E G) (rwA P E G 1048576000) (rwX P E G) (rwS P E G 1048576000) (pR P E G) (wR A C) (soE P E G A C n ((t : Rat) / 2)) (fun _ => (t : Rat) / 2) M 0 M := by
  have hn := h.g.hn
  have hM := h.m
  have u0 : 0 < uu := by unfold uu; decide +kernel
  have u1 : 16700000 * uu = 1 := by unfold uu; decide +kernel
  have mu : 16700000 * (M * uu) = M := by grind
  have v := wmW_v h.ht
  have tb : (t : Rat) / 2 ≤ M ∧ -((t : Rat) / 2) ≤ M := by
    have := h.ge.t
    rw [h.e, v.2] at this
    exact this.2
  have wt : ∀ i, i < n → wR A C i * ((t : Rat) / 2) ≤ 16 * M ∧ -(wR A C i * ((t : Rat) / 2)) ≤ 16 * M := fun i hi => by
    obtain ⟨w1, w2⟩ := h.g.wb hi
    have k := mul_bd (a := 16) (b := M) (x := wR A C i) (y := (t : Rat) / 2) (by grind) w2 (by grind) tb.1
    exact ⟨k.2, by have := k.1; grind⟩
  have pt : ∀ i, i ≤ n → pR P E G i * ((t : Rat) / 2) ≤ 16 * M ∧ -(pR P E G i * ((t : Rat) / 2)) ≤ 16 * M := fun i hi => by
    obtain ⟨_, p1, p2⟩ := h.g.p h.ge h.gg hi
    have k := mul_bd (a := 16) (b := M) (x := pR P E G i) (y := (t : Rat) / 2) (by grind) p2 (by grind) tb.1
    exact ⟨k.2, by have := k.1; grind⟩
  refine ⟨hn, hM, ⟨Rat.le_refl, by grind, by grind, by grind⟩, fun i hi => (h.g.p h.ge h.gg hi).2, fun i hi => h.g.wb hi, fun i hi => ?_, fun i hi => ?_, fun i hi => ?_, fun i hi => ?_, fun i hi => ?_, fun i => tb, ?_, fun i hi => ?_⟩
  · obtain ⟨v, _⟩ := h.g.p h.ge h.gg (i := i) (by omega)
    have := fneg_val v.1
    exact ⟨this.1, by show fv .f32 (fneg .f32 _) = _; rw [this.2]; rfl⟩
  · obtain ⟨v, _⟩ := h.g.p h.ge h.gg (i := i + 1) (by omega)
    have := fneg_val v.1
    exact ⟨this.1, by show fv .f32 (fneg .f32 _) = _; rw [this.2]; rfl⟩
  · have p16 := fun j (hj : j ≤ n) => (h.g.p h.ge h.gg hj).2.2
    have := h.g.diag h.ge h.gg hi (B := 16) (by decide) (p16 _ (by omega)) (p16 _ (by omega)) (by decide)
    exact ⟨this.1, by have := this.2.1; grind, by have := this.2.2; grind⟩
  · have vw := h.g.w hi
    obtain ⟨c1, c2⟩ := wt i hi
    obtain ⟨a0, a1, a2⟩ := fop_u .mul rfl vw.1 v.1 (by simp) (M := 16 * M) (by grind) (by grind) (by simp only [ex]; rw [vw.2, v.2]; exact c1) (by simp only [ex]; rw [vw.2, v.2]; exact c2)
    simp only [ex] at a1 a2
    rw [vw.2, v.2] at a1 a2
    have e0 : rwS0 P 1048576000 i = fop .mul .f32 (rwW P 1048576000 i) (wmW t) := by unfold rwS0; rw [h.d i hi]
    rw [← e0] at a0 a1 a2
    have s1 : fnt .f32 (rwS1 P E G 1048576000 i) = true ∧ fv .f32 (rwS1 P E G 1048576000 i) - (wR A C i * ((t : Rat) / 2) + (if i = 0 then pR P E G 0 * ((t : Rat) / 2) else 0)) ≤ 66 * (M * uu) ∧ (wR A C i * ((t : Rat) / 2) + (if i = 0 then pR P E G 0 * ((t : Rat) / 2) else 0)) - fv .f32 (rwS1 P E G 1048576000 i) ≤ 66 * (M * uu) ∧ (wR A C i * ((t : Rat) / 2) + (if i = 0 then pR P E G 0 * ((t : Rat) / 2) else 0)) ≤ 32 * M ∧ -(wR A C i * ((t : Rat) / 2) + (if i = 0 then pR P E G 0 * ((t : Rat) / 2) else 0)) ≤ 32 * M := by
      unfold rwS1
      by_cases h0 : i = 0
      · rw [if_pos h0, if_pos h0, h.e]
        obtain ⟨vp, _⟩ := h.g.p h.ge h.gg (i := 0) (by omega)
        obtain ⟨d1, d2⟩ := pt 0 (by omega)
        obtain ⟨b0, b1, b2⟩ := fop_u .mul rfl vp.1 v.1 (by simp) (M := 16 * M) (by grind) (by grind) (by simp only [ex]; rw [vp.2, v.2]; exact d1) (by simp only [ex]; rw [vp.2, v.2]; exact d2)
        simp only [ex] at b1 b2
        rw [vp.2, v.2] at b1 b2
        obtain ⟨f0, f1, f2⟩ := fop_u .add rfl a0 b0 (by simp) (M := 33 * M) (by grind) (by grind) (by simp only [ex]; grind) (by simp only [ex]; grind)
        simp only [ex] at f1 f2
        exact ⟨f0, by grind, by grind, by grind, by grind⟩
      · rw [if_neg h0, if_neg h0]
        exact ⟨a0, by grind, by grind, by grind, by grind⟩
    obtain ⟨g0, g1, g2, g3, g4⟩ := s1
    unfold soE rwS
    rw [h.g.la]
    generalize rwS1 P E G 1048576000 i = s at *
    generalize wR A C i * ((t : Rat) / 2) + (if i = 0 then pR P E G 0 * ((t : Rat) / 2) else 0) = o at *
    by_cases hl : i + 1 = n
    · rw [if_pos hl, if_pos hl, h.g']
      obtain ⟨vp, _⟩ := h.g.p h.ge h.gg (i := i + 1) (by omega)
      obtain ⟨d1, d2⟩ := pt (i + 1) (by omega)
      obtain ⟨b0, b1, b2⟩ := fop_u .mul rfl vp.1 v.1 (by simp) (M := 16 * M) (by grind) (by grind) (by simp only [ex]; rw [vp.2, v.2]; exact d1) (by simp only [ex]; rw [vp.2, v.2]; exact d2)
      simp only [ex] at b1 b2
      rw [vp.2, v.2] at b1 b2
      obtain ⟨f0, f1, f2⟩ := fop_u .add rfl g0 b0 (by simp) (M := 49 * M) (by grind) (by grind) (by simp only [ex]; grind) (by simp only [ex]; grind)
      simp only [ex] at f1 f2
      exact ⟨f0, by grind, by grind⟩
    · rw [if_neg hl, if_neg hl]
      exact ⟨g0, by grind, by grind⟩
  · obtain ⟨c1, c2⟩ := wt i hi
    obtain ⟨d1, d2⟩ := pt 0 (by omega)
    obtain ⟨e1, e2⟩ := pt (i + 1) (by omega)
    unfold soE
    split <;> split <;> exact ⟨by grind, by grind⟩
  · exact soE_first P E G A C (by omega) _
  · exact soE_next P E G A C hi _
/-- A tick by rows. -/
theorem EV.held (h : EV P n A C E G t M) : rwsOk P E G 1048576000 = true ∧ GR (rwsR P E G 1048576000) n A C (M + M / 1000) ∧ ∀ i, i < n → xR (rwsR P E G 1048576000) i - (t : Rat) / 2 ≤ 13100 * (M * uu) ∧ (t : Rat) / 2 - xR (rwsR P E G 1048576000) i ≤ 13100 * (M * uu) := by
  have R := h.rows
  obtain ⟨u0, u1, u2, u3⟩ := R.mu
  have v := wmW_v h.ht
  have tb : (t : Rat) / 2 ≤ M ∧ -((t : Rat) / 2) ≤ M := by
    have := h.ge.t
    rw [h.e, v.2] at this
    exact this.2
  have hat : ∀ i, i < n → cn .f32 ((rwsL P E G 1048576000).getD i 0) = solO (rwB P E G) (rwA P E G 1048576000) (rwX P E G) (rwS P E G 1048576000) n i := fun i hi => by
    unfold rwsL
    rw [h.g.la, solL_at hi, cn_solO]
  have Q : GR (rwsR P E G 1048576000) n A C (M + M / 1000) := h.g.with (L := rwsL P E G 1048576000) (by unfold rwsL; rw [solL_len, h.g.la]) (fun i hi => by
    rw [hat i hi]
    have Y := R.y hi
    exact ⟨Y.f, by have := Y.y1; grind, by have := Y.y2; grind⟩)
  refine ⟨?_, Q, fun i hi => ?_⟩
  · unfold rwsOk rwsPre
    rw [h.g.passOk h.ge h.gg, Q.ok, abv_of V25w.1 (by rw [V25w.2]; grind)]; rfl
  · have Y := R.y hi
    have e : xR (rwsR P E G 1048576000) i = fv .f32 (solO (rwB P E G) (rwA P E G 1048576000) (rwX P E G) (rwS P E G 1048576000) n i) := by
      show fv .f32 (cn .f32 ((rwsL P E G 1048576000).getD i 0)) = _
      rw [hat i hi]
    rw [e]
    exact ⟨by have := Y.y1; grind, by have := Y.y2; grind⟩
end
end Go.Proofs.Ytpnkapdemgieaaa
set_option linter.unusedSimpArgs false
set_option linter.unusedVariables false
set_option linter.unusedSectionVars false
namespace Go.Proofs.Ytpnkapdemgieaaa
open Go Go.RowKit
open Go.ChangeShapes Go.WideShapes Go.ChangeAt Go.RowKit Go.Joins
end Go.Proofs.Ytpnkapdemgieaaa
set_option linter.unusedSimpArgs false
set_option linter.unusedVariables false
set_option linter.unusedSectionVars false
namespace Go.Proofs.Ytpnkapdemgieaaa
open Go Go.RowKit
open Go.ChangeShapes Go.WideShapes Go.ChangeAt Go.RowKit Go.Joins
section
variable {P : Program} {ops : Array Oper} {Q : Exit → Act → World → Prop} {W : World} {l : List Oper} {cs : List Clm} {i : Nat} {ks : List (Nat × (World → Prop))} {a : Act} {o : Oper}
end
def joinR (P Q : Rd) : Rd := ⟨P.a ++ Q.a, P.b ++ Q.b, P.c ++ Q.c, P.d ++ Q.d⟩
end Go.Proofs.Ytpnkapdemgieaaa
set_option linter.unusedSimpArgs false
set_option linter.unusedVariables false
set_option linter.unusedSectionVars false
namespace Go.Proofs.Ytpnkapdemgieaaa
open Go Go.RowKit
/-- A rod of drawn numbers, up to twelve cells. -/
structure WR (P : Rd) (n : Nat) (A B C T : Nat → Int) : Prop where
  hn : 1 ≤ n ∧ n ≤ 12
  la : P.a.length = n
  lb : P.b.length = n
  lc : P.c.length = n
  ld : P.d.length = n
  a : ∀ i, i < n → V .f32 (cn .f32 (P.a.getD i 0)) ((A i : Rat) / 4) ∧ 1 ≤ A i ∧ A i ≤ 8
  b : ∀ i, i < n → V .f32 (cn .f32 (P.b.getD i 0)) ((B i : Rat) / 4) ∧ 1 ≤ B i ∧ B i ≤ 8
  c : ∀ i, i < n → V .f32 (cn .f32 (P.c.getD i 0)) ((C i : Rat) / 4) ∧ 1 ≤ C i ∧ C i ≤ 8
  d : ∀ i, i < n → V .f32 (cn .f32 (P.d.getD i 0)) ((T i : Rat) / 2) ∧ -16 ≤ T i ∧ T i ≤ 16
theorem t8 {t : Int} (h : -16 ≤ t ∧ t ≤ 16) : (t : Rat) / 2 ≤ 8 ∧ -((t : Rat) / 2) ≤ 8 := by
  have a := icast_le h.1
  have b := icast_le h.2
  have e1 : ((-16 : Int) : Rat) = -16 := rfl
  have e2 : ((16 : Int) : Rat) = 16 := rfl
  rw [e1] at a
  rw [e2] at b
  exact ⟨by grind, by grind⟩
section
variable {P : Rd} {n : Nat} {A B C T : Nat → Int}
theorem WR.dr (h : WR P n A B C T) (hn : n ≤ 6) : DR P n A C T :=
  ⟨⟨⟨h.hn.1, hn⟩, h.la, h.lb, h.lc, h.ld, h.a, fun i hi => ⟨B i, (h.b i hi).2, (h.b i hi).1⟩, h.c, fun i hi => ⟨(h.d i hi).1.1, by rw [(h.d i hi).1.2]; exact t8 (h.d i hi).2⟩⟩, h.d⟩
theorem WR.ok (h : WR P n A B C T) : P.ok = true := by
  have hn := h.hn
  unfold Rd.ok Rd.sized
  rw [h.la, h.lb, h.lc, h.ld]
  rw [posL_of (xs := P.a) (fun i hi => by rw [h.la] at hi; obtain ⟨v, k⟩ := h.a i hi; have := int1 k; exact ⟨v.1, by rw [v.2]; grind⟩),
    posL_of (xs := P.b) (fun i hi => by rw [h.lb] at hi; obtain ⟨v, k⟩ := h.b i hi; have := int1 k; exact ⟨v.1, by rw [v.2]; grind⟩),
    posL_of (xs := P.c) (fun i hi => by rw [h.lc] at hi; obtain ⟨v, k⟩ := h.c i hi; have := int1 k; exact ⟨v.1, by rw [v.2]; grind⟩),
    finL_of (xs := P.d) (fun i hi => by rw [h.ld] at hi; exact (h.d i hi).1.1)]
  rw [decide_eq_true hn.1, decide_eq_true (show n ≤ 48 by omega), decide_eq_true (rfl : n = n)]; rfl
theorem WR.ac (h : WR P n A B C T) {i : Nat} (hi : i < n) : (1 ≤ A i * C i ∧ A i * C i ≤ 64) ∧ -1024 ≤ A i * C i * T i ∧ A i * C i * T i ≤ 1024 := act_bd (h.a i hi).2 (h.c i hi).2 (h.d i hi).2
theorem WR.m (h : WR P n A B C T) {i : Nat} (hi : i < n) : V .f32 (fop .mul .f32 (cn .f32 (P.a.getD i 0)) (cn .f32 (P.c.getD i 0))) (((A i * C i : Int) : Rat) / 16) := by
  have hh := (h.ac hi).1
  have e : ex .mul ((A i : Rat) / 4) ((C i : Rat) / 4) = ((A i * C i : Int) : Rat) / 16 := by simp only [ex]; rw [Rat.intCast_mul]; grind
  have r : Rep .f32 (((A i * C i : Int) : Rat) / 16) := rep_at (k := .f32) (A i * C i) (-4) (by show (A i * C i).natAbs < 2 ^ (23 + 1); omega) (by decide) (by decide) (by have := tp_m4; grind)
  have Q := V.op .mul rfl (h.a i hi).1 (h.c i hi).1 (by simp) (by rw [e]; exact r)
  rwa [e] at Q
theorem z_of : ((0 : Int) : Rat) = 0 := rfl
/-- The heat, exactly. -/
theorem WR.heat (h : WR P n A B C T) : ∀ k, k ≤ n → V .f32 (heatK P k) (((sumZ (fun i => A i * C i * T i) k : Int) : Rat) / 32)
  | 0, _ => V0.eq (by show (0 : Rat) = ((0 : Int) : Rat) / 32; rw [z_of]; grind)
  | k + 1, hk => by
    have a := h.heat k (by omega)
    have hn := h.hn
    obtain ⟨_, c3, c4⟩ := h.ac (i := k) (by omega)
    obtain ⟨s1, s2⟩ := sumZ_bd (f := fun i => A i * C i * T i) (B := 1024) k (fun i hi => (h.ac (i := i) (by omega)).2)
    have kb : (k : Int) * 1024 ≤ 12 * 1024 := Int.mul_le_mul_of_nonneg_right (by omega) (by decide)
    have es : sumZ (fun i => A i * C i * T i) (k + 1) = sumZ (fun i => A i * C i * T i) k + A k * C k * T k := rfl
    have e1 : ex .mul (((A k * C k : Int) : Rat) / 16) ((T k : Rat) / 2) = ((A k * C k * T k : Int) : Rat) / 32 := by simp only [ex]; rw [Rat.intCast_mul (A k * C k) (T k)]; grind
    have Q := V.op .mul rfl (h.m (i := k) (by omega)) (h.d k (by omega)).1 (by simp) (by rw [e1]; exact rep32 (by omega))
    rw [e1] at Q
    have e2 : ex .add (((sumZ (fun i => A i * C i * T i) k : Int) : Rat) / 32) (((A k * C k * T k : Int) : Rat) / 32) = ((sumZ (fun i => A i * C i * T i) (k + 1) : Int) : Rat) / 32 := by simp only [ex]; rw [es, Rat.intCast_add]; grind
    have R := V.op .add rfl a Q (by simp) (by rw [e2]; exact rep32 (by rw [es]; omega))
    rwa [e2] at R
theorem sumZ_lo {f : Nat → Int} : ∀ k, (∀ i, i < k → 1 ≤ f i ∧ f i ≤ 64) → (k : Int) ≤ sumZ f k ∧ sumZ f k ≤ k * 64
  | 0, _ => by simp [sumZ]
  | k + 1, h => by
    obtain ⟨a, b⟩ := sumZ_lo k (fun i hi => h i (by omega))
    obtain ⟨c, d⟩ := h k (by omega)
    simp only [sumZ]
    exact ⟨by omega, by omega⟩
/-- The mass, exactly. -/
theorem WR.mass (h : WR P n A B C T) : ∀ k, k ≤ n → V .f32 (massK P k) (((sumZ (fun i => A i * C i) k : Int) : Rat) / 16)
  | 0, _ => V0.eq (by show (0 : Rat) = ((0 : Int) : Rat) / 16; rw [z_of]; grind)
  | k + 1, hk => by
    have a := h.mass k (by omega)
    have hn := h.hn
    obtain ⟨⟨c1, c2⟩, _⟩ := h.ac (i := k) (by omega)
    obtain ⟨s1, s2⟩ := sumZ_lo (f := fun i => A i * C i) k (fun i hi => (h.ac (i := i) (by omega)).1)
    have es : sumZ (fun i => A i * C i) (k + 1) = sumZ (fun i => A i * C i) k + A k * C k := rfl
    have e2 : ex .add (((sumZ (fun i => A i * C i) k : Int) : Rat) / 16) (((A k * C k : Int) : Rat) / 16) = ((sumZ (fun i => A i * C i) (k + 1) : Int) : Rat) / 16 := by simp only [ex]; rw [es, Rat.intCast_add]; grind
    have R := V.op .add rfl a (h.m (i := k) (by omega)) (by simp) (by rw [e2]; exact rep_at (k := .f32) (sumZ (fun i => A i * C i) (k + 1)) (-4) (by rw [es]; show Int.natAbs _ < 2 ^ (23 + 1); omega) (by decide) (by decide) (by have := tp_m4; grind))
    rwa [e2] at R
/-- How much hinders, near. -/
def rH (A B : Nat → Int) (i : Nat) : Rat := (A i : Rat) / (B i : Rat)
theorem WR.r (h : WR P n A B C T) {i : Nat} (hi : i < n) : 1 / 8 ≤ rH A B i ∧ rH A B i ≤ 8 := by
  obtain ⟨a1, a2⟩ := int1 (h.a i hi).2
  obtain ⟨b1, b2⟩ := int1 (h.b i hi).2
  have dv : (A i : Rat) / (B i : Rat) * (B i : Rat) = (A i : Rat) := Rat.div_mul_cancel (by grind)
  unfold rH
  exact ⟨mul_cancel_le (c := (B i : Rat)) (by grind) (by rw [dv]; grind), mul_cancel_le (c := (B i : Rat)) (by grind) (by rw [dv]; grind)⟩
theorem WR.hinder (h : WR P n A B C T) : ∀ k, k ≤ n → fnt .f32 (hindK P k) = true ∧ fv .f32 (hindK P k) - sumQ (rH A B) k ≤ (k : Rat) * (106 * uu) ∧ sumQ (rH A B) k - fv .f32 (hindK P k) ≤ (k : Rat) * (106 * uu) ∧ (k : Rat) / 8 ≤ sumQ (rH A B) k ∧ sumQ (rH A B) k ≤ (k : Rat) * 8
  | 0, _ => by
    have e : ((0 : Nat) : Rat) = 0 := rfl
    rw [e]
    refine ⟨V0.1, ?_, ?_, ?_, ?_⟩
    · show fv .f32 (cn .f32 0) - 0 ≤ _; rw [V0.2]; grind
    · show 0 - fv .f32 (cn .f32 0) ≤ _; rw [V0.2]; grind
    · show _ ≤ (0 : Rat); grind
    · show (0 : Rat) ≤ _; grind
  | k + 1, hk => by
    obtain ⟨a0, a1, a2, a3, a4⟩ := h.hinder k (by omega)
    have u0 : 0 < uu := by unfold uu; decide +kernel
    have u1 : 16700000 * uu = 1 := by unfold uu; decide +kernel
    have hn := h.hn
    have kb : (k : Rat) ≤ ((11 : Nat) : Rat) := by exact_mod_cast (by omega : k ≤ 11)
    have k0 : (0 : Rat) ≤ (k : Rat) := by exact_mod_cast Nat.zero_le k
    have e11 : ((11 : Nat) : Rat) = 11 := rfl
    rw [e11] at kb
    have e : ((k + 1 : Nat) : Rat) = (k : Rat) + 1 := by rw [Rat.natCast_add]; rfl
    have kb2 := Rat.mul_le_mul_of_nonneg_right kb (show 0 ≤ 106 * uu by grind)
    obtain ⟨va, ka⟩ := h.a k (by omega)
    obtain ⟨vb, kb'⟩ := h.b k (by omega)
    obtain ⟨b1, b2⟩ := int1 kb'
    obtain ⟨r1, r2⟩ := h.r (i := k) (by omega)
    have eq : (A k : Rat) / 4 / ((B k : Rat) / 4) = rH A B k := by
      unfold rH
      have d1 : (A k : Rat) / (B k : Rat) * (B k : Rat) = (A k : Rat) := Rat.div_mul_cancel (by grind)
      have d2 : (A k : Rat) / 4 / ((B k : Rat) / 4) * ((B k : Rat) / 4) = (A k : Rat) / 4 := Rat.div_mul_cancel (by grind)
      exact Rat.le_antisymm (mul_cancel_le (c := (B k : Rat)) (by grind) (by grind)) (mul_cancel_le (c := (B k : Rat)) (by grind) (by grind))
    obtain ⟨c0, c1, c2⟩ := fop_u .quo rfl va.1 vb.1 (fun _ => by rw [vb.2]; grind) (M := 8) (by grind) (by grind) (by simp only [ex]; rw [va.2, vb.2, eq]; grind) (by simp only [ex]; rw [va.2, vb.2, eq]; grind)
    simp only [ex] at c1 c2
    rw [va.2, vb.2, eq] at c1 c2
    obtain ⟨g0, g1, g2⟩ := fop_u .add rfl a0 c0 (by simp) (M := 97) (by grind) (by grind) (by simp only [ex]; grind) (by simp only [ex]; grind)
    simp only [ex] at g1 g2
    have eh : hindK P (k + 1) = fop .add .f32 (hindK P k) (fop .quo .f32 (cn .f32 (P.a.getD k 0)) (cn .f32 (P.b.getD k 0))) := rfl
    have es : sumQ (rH A B) (k + 1) = sumQ (rH A B) k + rH A B k := rfl
    rw [eh, es, e]
    exact ⟨g0, by grind, by grind, by grind, by grind⟩
end
/-- The other way round. -/
def bkR (P : Rd) : Rd := ⟨P.a.reverse, P.b.reverse, P.c.reverse, P.d.reverse⟩
def mi (n i : Nat) : Nat := if i < n then i else 2 * n - 1 - i
theorem rv_at {xs : List Nat} {i : Nat} (h : i < xs.length) : xs.reverse.getD i 0 = xs.getD (xs.length - 1 - i) 0 := by
  rw [List.getD_eq_getElem?_getD, List.getElem?_reverse h, ← List.getD_eq_getElem?_getD]
theorem tw_at {xs : List Nat} {i : Nat} (h : i < xs.length + xs.length) : (xs ++ xs.reverse).getD i 0 = xs.getD (mi xs.length i) 0 := by
  unfold mi
  by_cases h1 : i < xs.length
  · rw [if_pos h1, List.getD_eq_getElem?_getD, List.getElem?_append_left h1, ← List.getD_eq_getElem?_getD]
  · rw [if_neg h1, List.getD_eq_getElem?_getD, List.getElem?_append_right (by omega), ← List.getD_eq_getElem?_getD, rv_at (by omega)]
    congr 1; omega
theorem mi_lt {n i : Nat} (h : i < n + n) : mi n i < n := by unfold mi; split <;> omega
section
variable {P : Rd} {n : Nat} {A B C T : Nat → Int}
theorem WR.tw (h : WR P n A B C T) (h6 : n ≤ 6) : WR (joinR P (bkR P)) (n + n) (fun i => A (mi n i)) (fun i => B (mi n i)) (fun i => C (mi n i)) (fun i => T (mi n i)) := by
  have hn := h.hn
  refine ⟨by omega, by simp [joinR, bkR, h.la], by simp [joinR, bkR, h.lb], by simp [joinR, bkR, h.lc], by simp [joinR, bkR, h.ld], fun i hi => ?_, fun i hi => ?_, fun i hi => ?_, fun i hi => ?_⟩
  · show V .f32 (cn .f32 ((P.a ++ P.a.reverse).getD i 0)) _ ∧ _
    rw [tw_at (by rw [h.la]; exact hi), h.la]; exact h.a _ (mi_lt hi)
  · show V .f32 (cn .f32 ((P.b ++ P.b.reverse).getD i 0)) _ ∧ _
    rw [tw_at (by rw [h.lb]; exact hi), h.lb]; exact h.b _ (mi_lt hi)
  · show V .f32 (cn .f32 ((P.c ++ P.c.reverse).getD i 0)) _ ∧ _
    rw [tw_at (by rw [h.lc]; exact hi), h.lc]; exact h.c _ (mi_lt hi)
  · show V .f32 (cn .f32 ((P.d ++ P.d.reverse).getD i 0)) _ ∧ _
    rw [tw_at (by rw [h.ld]; exact hi), h.ld]; exact h.d _ (mi_lt hi)
end
end Go.Proofs.Ytpnkapdemgieaaa

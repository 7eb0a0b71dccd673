/-
  The law on rods at rest: rods that are at rest stay there, nearly, the same heat flows everywhere then, places are where they are told, and hurried steps keep between their bounds: true for every input. No condition.
-/
import Derived.Test.YtpnkapdemgieaaaQM13
import Derived.Deep.CutRange
set_option linter.unusedSimpArgs false
set_option linter.unusedVariables false
set_option linter.unusedSectionVars false
namespace Go.Proofs.Ytpnkapdemgieaaa
open Go Go.RowKit
open Go.ChangeShapes Go.WideShapes Go.ChangeAt Go.RowKit Go.Joins
set_option maxHeartbeats 16000000 in
set_option maxRecDepth 100000 in
theorem walk_FnRodRests (pa : Option Addr) (na ca : Nat) (pb : Option Addr) (nb cb : Nat) (w : World) (hp : BY w.heap.size w pa na ca) (hq : BY w.heap.size w pb nb cb) : Calls Try.prog 3 #[.slice pa na ca, .slice pb nb cb] w (BV w (.bool true)) := by
  have HP := Lib.hid hp
  have HQ := Lib.hid hq
  clear hp hq
  by_cases hlong : 48 < na ∨ 48 < nb
  · have HL := Lib.hid (fun w => (show Calls Try.prog 6 #[.slice pa na ca, .slice pb nb cb] w (RB w true) from (show (decide (48 < na) || decide (48 < nb)) = true by simpa using hlong) ▸ r8Long_any pa pb na ca nb cb w))
    go_enter Try.func3, Try.ntmps3
    go_wp2_with (first | (go_at_call 6; refine (HL.out _).mono ?_; rintro e w' ⟨rfl, n, rfl⟩))
    go_ret
    exact ⟨rfl, by (repeat (first | (with_reducible exact Below.refl _ _) | (with_reducible assumption) | (with_reducible refine below_then ?_ (by assumption)) | (with_reducible refine Below.trans ?_ (by assumption)) | (with_reducible refine below_drewN ?_ _) | (with_reducible apply Below.drew) | (with_reducible refine below_alloc ?_ _) | refine Below.setCell ?_ (by first | (simp; done) | (simp; omega)) _))⟩
  have HL := Lib.hid (fun w => (show Calls Try.prog 6 #[.slice pa na ca, .slice pb nb cb] w (RB w false) from (show (decide (48 < na) || decide (48 < nb)) = false by simp; omega) ▸ r8Long_any pa pb na ca nb cb w))
  have hn1 : na ≤ 1048576 := by omega
  have hk1 : nb ≤ 1048576 := by omega
  clear hlong
  go_enter Try.func3, Try.ntmps3
  go_wp2_with (first | (go_at_call 6; refine (HL.out _).mono ?_; rintro e w' ⟨rfl, n, rfl⟩) | (go_at_call 7; refine stop_here ?_))
  unfold Stop
  refine calls_named ?_
  intro w0 hw0
  have HW0 : Hid (Below w.heap.size w w0) := by show Below _ _ _; rw [hw0]; (repeat (first | (with_reducible exact Below.refl _ _) | (with_reducible assumption) | (with_reducible refine below_then ?_ (by assumption)) | (with_reducible refine Below.trans ?_ (by assumption)) | (with_reducible refine below_drewN ?_ _) | (with_reducible apply Below.drew) | (with_reducible refine below_alloc ?_ _) | refine Below.setCell ?_ (by first | (simp; done) | (simp; omega)) _))
  clear hw0
  refine (rt_rod _ _ _ _ ((HP.out.later (C := w.heap.size) HW0.out (Nat.le_refl _)).mono HW0.out.size) hn1).mono ?_
  rintro e w1 ⟨N, P, m0, A, B, C, T, rfl, ⟨hN1, hN6⟩, hwr, hfs, hb⟩
  have HDR := Lib.hid (hwr.dr hN6)
  have HK0 : Hid (Bag [Rdn P m0 N, Bel w] w1) := ((Bag.nil _).add (Bel.lat w) (HW0.out.trans (hb.mono HW0.out.size))).add (Rdn.lat _ _ _) hfs
  clear hwr hfs hb HW0 HL HP hn1
  go_wp2_with (first | (go_at_call 8; refine stop_here ?_))
  unfold Stop
  refine calls_named ?_
  intro w2 hw2
  obtain ⟨b5, hb5⟩ : ∃ b, b = w1.heap.size := ⟨_, rfl⟩
  simp only [← hb5]
  have hbw : Below w1.heap.size w1 w2 := by rw [hw2]; first | exact Below.refl _ _ | (repeat (first | (with_reducible exact Below.refl _ _) | (with_reducible assumption) | (with_reducible refine below_then ?_ (by assumption)) | (with_reducible refine Below.trans ?_ (by assumption)) | (with_reducible refine below_drewN ?_ _) | (with_reducible apply Below.drew) | (with_reducible refine below_alloc ?_ _) | refine Below.setCell ?_ (by first | (simp; done) | (simp; omega)) _))
  have HK1 : Hid (Bag _ w2) := (HK0.out.later hbw).add (F := Var b5 (.slice m0.p1 N m0.c1) (.slice m0.p2 N m0.c2) (.slice m0.p3 N m0.c3) (.slice m0.p4 N m0.c4)) (Var.lat _ _ _ _ _) (by show Var b5 (.slice m0.p1 N m0.c1) (.slice m0.p2 N m0.c2) (.slice m0.p3 N m0.c3) (.slice m0.p4 N m0.c4) w2; rw [hw2, hb5]; exact ⟨⟨by go_simp, by go_simp, by go_simp, by go_simp⟩, by first | (simp; done) | (simp; omega)⟩)
  clear HK0 hw2 hbw hb5
  refine (R8End_any _ _ _ _ ((HQ.out.later (C := w.heap.size) (HK1.out.t.t.g) (Nat.le_refl _)).mono (HK1.out.t.t.g).size) hk1).mono ?_
  rintro e w3 ⟨k, tz, z, t, es, rfl, hk, htz, ht, hz, hes, hb⟩
  have HGE : Hid (GE ⟨k, t, es⟩ 8) := end_ge hk htz ht hz hes
  have HK2 : Hid (Bag _ w3) := HK1.out.later hb
  clear HK1 hb hk htz ht hz hes hk1
  go_wp2_with (first | (go_at_call 9; refine stop_here ?_))
  unfold Stop
  refine calls_named ?_
  intro w4 hw4
  obtain ⟨b7, hb7⟩ : ∃ b, b = w3.heap.size := ⟨_, rfl⟩
  simp only [← hb7]
  have hbw : Below w3.heap.size w3 w4 := by rw [hw4]; first | exact Below.refl _ _ | (repeat (first | (with_reducible exact Below.refl _ _) | (with_reducible assumption) | (with_reducible refine below_then ?_ (by assumption)) | (with_reducible refine Below.trans ?_ (by assumption)) | (with_reducible refine below_drewN ?_ _) | (with_reducible apply Below.drew) | (with_reducible refine below_alloc ?_ _) | refine Below.setCell ?_ (by first | (simp; done) | (simp; omega)) _))
  have HK3 : Hid (Bag _ w4) := (HK2.out.later hbw).add (F := Var3 b7 (.int .i64 k) (.float .f32 t) (.float .f32 es)) (Var3.lat _ _ _ _) (by show Var3 b7 (.int .i64 k) (.float .f32 t) (.float .f32 es) w4; rw [hw4, hb7]; exact ⟨⟨by go_simp, by go_simp, by go_simp⟩, by first | (simp; done) | (simp; omega)⟩)
  clear HK2 hw4 hbw hb7
  refine (r8At_any _ _ _ 40 33 _ ((HQ.out.later (C := w.heap.size) (HK3.out.t.t.t.g) (Nat.le_refl _)).mono (HK3.out.t.t.t.g).size) (by omega) (by omega)).mono ?_
  rintro e w' ⟨j, rfl, ⟨hj1, hj2⟩, nq, rfl⟩
  obtain ⟨⟨d0, d1, d2, d3⟩, dl⟩ := HK3.out.t.g
  obtain ⟨⟨g0, g1, g2⟩, gl⟩ := HK3.out.g
  go_wp2_with (first | (with_reducible refine at_list ?_; refine wpList_fop rfl rfl rfl rfl rfl ?_; intro r n hr0; have hr := hr0 _ _ (by first | with_reducible assumption | exact rfl) (by first | with_reducible assumption | exact rfl); clear hr0) | (with_reducible refine at_list ?_; refine wpList_neg rfl rfl rfl ?_; intro r hr0; have hr := hr0 _ (by first | with_reducible assumption | exact rfl); clear hr0) | (with_reducible refine at_list ?_; refine wpList_fop_g rfl rfl rfl rfl rfl ?_; intro r n hr0; have hr := hr0 _ _ (by first | with_reducible assumption | exact rfl) (by first | with_reducible assumption | exact rfl); clear hr0) | (with_reducible refine at_list ?_; refine wpList_wide_g rfl rfl Try.underlying28 Try.underlying39 rfl ?_; intro r n hr0; have hr := hr0 _ (by first | with_reducible assumption | exact rfl); clear hr0) | (with_reducible refine at_list ?_; refine wpList_wide rfl rfl rfl Try.underlying28 Try.underlying39 ?_; intro r n hr0; have hr := hr0 _ (by first | with_reducible assumption | exact rfl); clear hr0) | (go_at_call 10; refine stop_here ?_))
  unfold Stop
  clear d0 d1 d2 d3 dl g0 g1 g2 gl
  obtain ⟨x8, rfl⟩ : ∃ x, x = r := ⟨r, rfl⟩
  have HGG : Hid (GE ⟨0, x8, 1065353216⟩ 8) := right_ge ⟨hj1, by omega⟩ (by exact hr)
  clear hr hj1 hj2
  refine calls_named ?_
  intro w5 hw5
  obtain ⟨b8, hb8⟩ : ∃ b, b = w4.heap.size := ⟨_, rfl⟩
  simp only [← hb8]
  have hbw : Below w4.heap.size w4 w5 := by rw [hw5]; first | exact Below.refl _ _ | (repeat (first | (with_reducible exact Below.refl _ _) | (with_reducible assumption) | (with_reducible refine below_then ?_ (by assumption)) | (with_reducible refine Below.trans ?_ (by assumption)) | (with_reducible refine below_drewN ?_ _) | (with_reducible apply Below.drew) | (with_reducible refine below_alloc ?_ _) | refine Below.setCell ?_ (by first | (simp; done) | (simp; omega)) _))
  have HK4 : Hid (Bag _ w5) := (HK3.out.later hbw).add (F := Var3 b8 (.int .i64 0) (.float .f32 x8) (.float .f32 1065353216)) (Var3.lat _ _ _ _) (by show Var3 b8 (.int .i64 0) (.float .f32 x8) (.float .f32 1065353216) w5; rw [hw5, hb8]; exact ⟨⟨by go_simp, by go_simp, by go_simp⟩, by first | (simp; done) | (simp; omega)⟩)
  clear HK3 hw5 hbw hb8
  have HRS : Hid (∀ lo hi : Rat, (k = 1 ∨ (lo ≤ tE ⟨k, t, es⟩ ∧ tE ⟨k, t, es⟩ ≤ hi)) → (lo ≤ tE ⟨0, x8, 1065353216⟩ ∧ tE ⟨0, x8, 1065353216⟩ ≤ hi) → (-8 ≤ lo ∧ hi ≤ 8) → RS (restR P ⟨k, t, es⟩ ⟨0, x8, 1065353216⟩) N A C ⟨k, t, es⟩ ⟨0, x8, 1065353216⟩ (restF P ⟨k, t, es⟩ ⟨0, x8, 1065353216⟩) lo hi) := fun lo hi a b c => rest_rs HDR.out.g HGE.out HGG.out rfl a b c
  have HTB := Lib.hid (ends_raw HGE.out HGG.out)
  refine (rt_steady HDR.out.g HGE.out HGG.out (HK4.out.t.t.t.g)).mono ?_
  rintro e w6 ⟨m9, g10, rfl, hg10, hb, hr9⟩
  obtain ⟨Q, hQ⟩ : ∃ Q, restR P ⟨k, t, es⟩ ⟨0, x8, 1065353216⟩ = Q := ⟨_, rfl⟩
  obtain ⟨F, hF⟩ : ∃ F, restF P ⟨k, t, es⟩ ⟨0, x8, 1065353216⟩ = F := ⟨_, rfl⟩
  rw [hQ] at HRS hr9
  rw [hF] at HRS hg10
  have HR0 : Hid (RS Q N A C ⟨k, t, es⟩ ⟨0, x8, 1065353216⟩ F (-8) 8) := by
    obtain ⟨⟨_, _, a1, a2⟩, ⟨_, _, b1, b2⟩, e1, e2⟩ := HTB.out
    exact HRS.out (-8) 8 (.inr (by rw [e1]; exact ⟨a1, a2⟩)) (by rw [e2]; exact ⟨b1, b2⟩) ⟨Rat.le_refl, Rat.le_refl⟩
  have H10 := Lib.hid hg10
  have HK5 : Hid (Bag _ w6) := (HK4.out.later hb).add (F := Rdn Q m9 N) (Rdn.lat _ _ _) (hr9)
  clear HK4 hb hr9 hg10 hQ hF
  obtain ⟨⟨d0, d1, d2⟩, dl⟩ := HK5.out.t.t.g
  obtain ⟨⟨g0, g1, g2⟩, gl⟩ := HK5.out.t.g
  go_wp2_with (first | (go_at_call 11; refine stop_here ?_))
  unfold Stop
  clear d0 d1 d2 dl g0 g1 g2 gl
  refine calls_named ?_
  intro w7 hw7
  obtain ⟨b9, hb9⟩ : ∃ b, b = w6.heap.size := ⟨_, rfl⟩
  simp only [← hb9]
  have hbw : Below w6.heap.size w6 w7 := by rw [hw7]; first | exact Below.refl _ _ | (repeat (first | (with_reducible exact Below.refl _ _) | (with_reducible assumption) | (with_reducible refine below_then ?_ (by assumption)) | (with_reducible refine Below.trans ?_ (by assumption)) | (with_reducible refine below_drewN ?_ _) | (with_reducible apply Below.drew) | (with_reducible refine below_alloc ?_ _) | refine Below.setCell ?_ (by first | (simp; done) | (simp; omega)) _))
  have HK6 : Hid (Bag _ w7) := (HK5.out.later hbw).add (F := Var b9 (.slice m9.p1 N m9.c1) (.slice m9.p2 N m9.c2) (.slice m9.p3 N m9.c3) (.slice m9.p4 N m9.c4)) (Var.lat _ _ _ _ _) (by show Var b9 (.slice m9.p1 N m9.c1) (.slice m9.p2 N m9.c2) (.slice m9.p3 N m9.c3) (.slice m9.p4 N m9.c4) w7; rw [hw7, hb9]; exact ⟨⟨by go_simp, by go_simp, by go_simp, by go_simp⟩, by first | (simp; done) | (simp; omega)⟩)
  clear HK5 hw7 hbw hb9
  refine (rt_flows HR0.out (HK6.out.t.g)).mono ?_
  rintro e w8 ⟨q12, c12, ys12, rfl, hb, hl12, hn12, hv12⟩
  have HV12 := Lib.hid hv12
  have HN12 := Lib.hid hn12
  have HK7 : Hid (Bag _ w8) := (HK6.out.later hb).add (F := Lst (.slice q12 (N + 1) c12) ys12) (Lst.lat _ _) (hl12)
  clear HK6 hb hl12 hn12 hv12
  obtain ⟨⟨d0, d1, d2, d3⟩, dl⟩ := HK7.out.t.g
  obtain ⟨⟨g0, g1, g2⟩, gl⟩ := HK7.out.t.t.t.t.g
  obtain ⟨⟨f0, f1, f2⟩, fl⟩ := HK7.out.t.t.t.g
  go_wp2_with (first | (go_at_call 12; refine stop_here ?_))
  unfold Stop
  clear d0 d1 d2 d3 dl g0 g1 g2 gl f0 f1 f2 fl
  refine (rt_stay HR0.out (HK7.out.t.t.g)).mono ?_
  rintro e w9 ⟨m14, rfl, hb, hr14⟩
  have HK8 : Hid (Bag _ w9) := (HK7.out.later hb).add (F := Rdn (rwsR Q ⟨k, t, es⟩ ⟨0, x8, 1065353216⟩ 1065353216) m14 N) (Rdn.lat _ _ _) (hr14)
  clear HK7 hb hr14
  obtain ⟨⟨d0, d1, d2, d3⟩, dl⟩ := HK8.out.t.t.g
  have hN1i : ((N + 1 : Nat) : Int) = (N : Int) + 1 := by omega
  go_wp2
  clear d0 d1 d2 d3 dl
  refine wp_named ?_
  intro ws hws
  obtain ⟨b14, hb14⟩ : ∃ b, b = w9.heap.size := ⟨_, rfl⟩
  simp only [← hb14]
  have hbw : Below w9.heap.size w9 ws := by rw [hws]; first | exact Below.refl _ _ | (repeat (first | (with_reducible exact Below.refl _ _) | (with_reducible assumption) | (with_reducible refine below_then ?_ (by assumption)) | (with_reducible refine Below.trans ?_ (by assumption)) | (with_reducible refine below_drewN ?_ _) | (with_reducible apply Below.drew) | (with_reducible refine below_alloc ?_ _) | refine Below.setCell ?_ (by first | (simp; done) | (simp; omega)) _))
  have HK9 : Hid (Bag _ ws) := (HK8.out.later hbw).add (F := Var b14 (.slice m14.p1 N m14.c1) (.slice m14.p2 N m14.c2) (.slice m14.p3 N m14.c3) (.slice m14.p4 N m14.c4)) (Var.lat _ _ _ _ _) (by show Var b14 (.slice m14.p1 N m14.c1) (.slice m14.p2 N m14.c2) (.slice m14.p3 N m14.c3) (.slice m14.p4 N m14.c4) ws; rw [hws, hb14]; exact ⟨⟨by go_simp, by go_simp, by go_simp, by go_simp⟩, by first | (simp; done) | (simp; omega)⟩)
  clear HK8 hws hbw hb14 hN1i
  obtain ⟨bf, of', rfl, hcf⟩ := Lst.at (HK9.out.t.t.g) HN12.out (by omega)
  have HCF := Lib.hid hcf
  clear hcf
  go_loopw [16] (fun s wr => ∃ (i : Nat), i ≤ N + 1 ∧ s = .int .i64 (i : Int) ∧ Hid (Below ws.heap.size ws wr)) (fun s _ => N + 1 - (intOf s).toNat)
  case atStart => exact ⟨0, by omega, rfl, Below.refl _ _⟩
  case round =>
    obtain ⟨i, hiN, rfl, HW⟩ := hrel
    have hbW := HW.out
    by_cases hi : i < N + 1
    · as_aux_lemma =>
        have hii : (i : Int) ≤ (N : Int) := by omega
        have hii2 : (i : Int) < ((N + 1 : Nat) : Int) := by omega
        have c1 := cell_later hbW (HCF.out i hi)
        have hy := HV12.out i (by omega)
        have hx := H10.out
        obtain ⟨g1, g2, f1⟩ := rest_flow HR0.out (i := i) (by omega)
        generalize fAt Q ⟨k, t, es⟩ ⟨0, x8, 1065353216⟩ i = YF at hy g1 f1
        generalize ys12.getD i 0 = y12 at c1 hy
        have HG1 := Lib.hid (fun x y w hx hy => rt_gap (X := wide YF) (Y := wide F) x y w hx hy g1)
        have HG2 := Lib.hid (fun x w hx => rt_gap (X := wide F) (Y := cn .f64 0) x 0 w hx rfl g2)
        simp only [c02] at f1
        clear g1 g2
        have hT : Trk wr [bf] := (Trk.nil wr).more (World.block_lt_of_cell? _ _ c1)
        go_wp2_with (first | (with_reducible refine at_list ?_; refine wpList_fop rfl rfl rfl rfl rfl ?_; intro r n hr0; have hr := hr0 _ _ (by first | with_reducible assumption | exact rfl) (by first | with_reducible assumption | exact rfl); clear hr0) | (with_reducible refine at_list ?_; refine wpList_neg rfl rfl rfl ?_; intro r hr0; have hr := hr0 _ (by first | with_reducible assumption | exact rfl); clear hr0) | (with_reducible refine at_list ?_; refine wpList_fop_g rfl rfl rfl rfl rfl ?_; intro r n hr0; have hr := hr0 _ _ (by first | with_reducible assumption | exact rfl) (by first | with_reducible assumption | exact rfl); clear hr0) | (with_reducible refine at_list ?_; refine wpList_wide_g rfl rfl Try.underlying28 Try.underlying39 rfl ?_; intro r n hr0; have hr := hr0 _ (by first | with_reducible assumption | exact rfl); clear hr0) | (with_reducible refine at_list ?_; refine wpList_wide rfl rfl rfl Try.underlying28 Try.underlying39 ?_; intro r n hr0; have hr := hr0 _ (by first | with_reducible assumption | exact rfl); clear hr0) | (go_at_call 13; refine ((HG1.out _ _ _ (by with_reducible assumption) (by with_reducible assumption)) ).mono ?_; rintro e w' ⟨r, rfl, hr, n, rfl⟩) | (go_at_call 13; refine ((HG2.out _ _ (by with_reducible assumption)) ).mono ?_; rintro e w' ⟨r, rfl, hr, n, rfl⟩))
        go_roundw
        case rel => exact ⟨i + 1, by omega, by go_num, by show Below _ _ _; exact below_then hbW (by (repeat (first | (with_reducible exact Below.refl _ _) | (with_reducible assumption) | (with_reducible refine below_then ?_ (by assumption)) | (with_reducible refine Below.trans ?_ (by assumption)) | (with_reducible refine below_drewN ?_ _) | (with_reducible apply Below.drew) | (with_reducible refine below_alloc ?_ _) | refine Below.setCell ?_ (by first | (simp; done) | (simp; omega)) _)))⟩
        case measure => simp [intOf]; omega
    · have hie : i = N + 1 := by omega
      have hii : ¬ (i : Int) ≤ (N : Int) := by omega
      clear hie
      rename World => wy
      have HK10 : Hid (Bag _ wy) := HK9.out.later hbW
      clear HK9 HW hbW HCF HV12 HN12 hiN hi
      obtain ⟨⟨tf, te, tl, th⟩, ⟨xf, xq, xl, xh⟩, _, _⟩ := HTB.out
      have hmin := fun ts ty w => run_fmin (P := Try.prog) (fnt_isF tf) (fnt_isF xf) ts ty w
      have hmax := fun ts ty w => run_fmax (P := Try.prog) (fnt_isF tf) (fnt_isF xf) ts ty w
      clear tf te tl th xf xq xl xh
      obtain ⟨⟨d0, d1, d2⟩, dl⟩ := HK10.out.t.t.t.t.t.t.g
      obtain ⟨⟨g0, g1, g2⟩, gl⟩ := HK10.out.t.t.t.t.t.g
      obtain ⟨lw0, hlw⟩ : ∃ l, l = if k = 1 then x8 else fmin t x8 := ⟨_, rfl⟩
      obtain ⟨hw0, hhw⟩ : ∃ l, l = if k = 1 then x8 else fmax t x8 := ⟨_, rfl⟩
      have HLW := Lib.hid hlw
      have HHW := Lib.hid hhw
      clear hlw hhw
      go_upto_if 128 with fail
      go_cut [17, 18] from 35 (fun s17 s18 wx => s17 = .float .f32 lw0 ∧ s18 = .float .f32 hw0 ∧ wy = wx)
      case first =>
        by_cases hk1 : k = 1
        · as_aux_lemma =>
            have e1 : lw0 = x8 := by rw [HLW.out, if_pos hk1]
            have e2 : hw0 = x8 := by rw [HHW.out, if_pos hk1]
            have hkd : (k == 1) = true := by rw [hk1]; rfl
            have hke : (k = 1) = True := eq_true hk1
            have HE1 := Lib.hid e1
            have HE2 := Lib.hid e2
            clear hk1 e1 e2
            go_wp2_with fail
            go_meet
            case rel => exact ⟨by rw [HE1.out], by rw [HE2.out], rfl⟩
        · as_aux_lemma =>
            have e1 : lw0 = fmin t x8 := by rw [HLW.out, if_neg hk1]
            have e2 : hw0 = fmax t x8 := by rw [HHW.out, if_neg hk1]
            have hkd : (k == 1) = false := beq_false_of_ne hk1
            have hke : (k = 1) = False := eq_false hk1
            have HE1 := Lib.hid e1
            have HE2 := Lib.hid e2
            clear hk1 e1 e2
            go_wp2_with fail
            go_meet
            case rel => exact ⟨by rw [HE1.out], by rw [HE2.out], rfl⟩
      case rest =>
      obtain ⟨rfl, rfl, hwc⟩ := hcut
      subst hwc
      clear hmin hmax hii
      clear d0 d1 d2 dl g0 g1 g2 gl
      have HLH : Hid (LH lw0 hw0 (fv .f32 lw0) (fv .f32 hw0) ∧ RS Q N A C ⟨k, t, es⟩ ⟨0, x8, 1065353216⟩ F (fv .f32 lw0) (fv .f32 hw0)) := by
        obtain ⟨⟨tf, te, tl, th⟩, ⟨xf, xq, xl, xh⟩, e1, e2⟩ := HTB.out
        obtain ⟨b, b1, b2⟩ := lh_first tf tl th xf xl xh HLW.out HHW.out
        exact ⟨b, HRS.out _ _ (by rw [e1]; exact b1) (by rw [e2]; exact b2) ⟨b.bl.1, b.bh.2⟩⟩
      clear HLW HHW HRS
      go_wp2
      refine wp_named ?_
      intro wl hwl
      have hbw : Below wy.heap.size wy wl := by rw [hwl]; first | exact Below.refl _ _ | (repeat (first | (with_reducible exact Below.refl _ _) | (with_reducible assumption) | (with_reducible refine below_then ?_ (by assumption)) | (with_reducible refine Below.trans ?_ (by assumption)) | (with_reducible refine below_drewN ?_ _) | (with_reducible apply Below.drew) | (with_reducible refine below_alloc ?_ _) | refine Below.setCell ?_ (by first | (simp; done) | (simp; omega)) _))
      have HK11 : Hid (Bag _ wl) := HK10.out.later hbw
      clear HK10 hwl hbw
      have hoP := HK11.out.t.t.t.t.t.t.t.t.g
      have hoQ := HK11.out.t.t.t.t.g
      have hoY := HK11.out.t.g
      obtain ⟨bp, op', ep, hcp⟩ := Lst.at (q := m0.p4) (n := N) (c := m0.c4) (xs := P.d) (by have := hoP.2.2.2.2; rwa [hoP.1.2.2.2] at this) hoP.1.2.2.2 (by omega)
      obtain ⟨bq, oq, eq, hcq⟩ := Lst.at (q := m9.p4) (n := N) (c := m9.c4) (xs := Q.d) (by have := hoQ.2.2.2.2; rwa [hoQ.1.2.2.2] at this) hoQ.1.2.2.2 (by omega)
      obtain ⟨by', oy, ey, hcy⟩ := Lst.at (q := m14.p4) (n := N) (c := m14.c4) (xs := (rwsR Q ⟨k, t, es⟩ ⟨0, x8, 1065353216⟩ 1065353216).d) (by have := hoY.2.2.2.2; rwa [hoY.1.2.2.2] at this) hoY.1.2.2.2 (by omega)
      have HCP := Lib.hid hcp
      have HCQ := Lib.hid hcq
      have HCY := Lib.hid hcy
      have HEP := Lib.hid (And.intro ep (And.intro eq ey))
      have HV5 := Lib.hid (HK11.out.t.t.t.t.t.t.t.g)
      have HV9 := Lib.hid (HK11.out.t.t.t.g)
      have HV14 := Lib.hid (HK11.out.g)
      clear hoP hoQ hoY hcp hcq hcy ep eq ey
      go_loopw [17, 18, 19, 20] (fun s17 s18 s19 _ wr => ∃ (i lw hw : Nat), i ≤ N ∧ s19 = .int .i64 (i : Int) ∧ s17 = .float .f32 lw ∧ s18 = .float .f32 hw ∧ Hid (LH lw hw (fv .f32 lw0) (fv .f32 hw0) ∧ ∀ j, j < i → fv .f32 lw ≤ xR P j ∧ xR P j ≤ fv .f32 hw) ∧ Hid (Below wl.heap.size wl wr)) (fun _ _ s19 _ _ => N - (intOf s19).toNat)
      case atStart => exact ⟨0, _, _, by omega, rfl, rfl, rfl, ⟨HLH.out.1, fun j hj => by omega⟩, Below.refl _ _⟩
      case round =>
        obtain ⟨i, lw, hw, hiN, rfl, rfl, rfl, HLL, HW⟩ := hrel
        have hbW := HW.out
        by_cases hi : i < N
        · as_aux_lemma =>
            have hii : (i : Int) < (N : Int) := by omega
            obtain ⟨⟨_, _, _, d3⟩, dl⟩ := Var.lat _ _ _ _ _ _ _ HV5.out hbW
            obtain ⟨⟨_, _, _, e3⟩, el⟩ := Var.lat _ _ _ _ _ _ _ HV9.out hbW
            obtain ⟨⟨_, _, _, f3⟩, fl⟩ := Var.lat _ _ _ _ _ _ _ HV14.out hbW
            have ep := HEP.out.1
            have eq := HEP.out.2.1
            have ey := HEP.out.2.2
            rw [ep] at d3
            rw [eq] at e3
            rw [ey] at f3
            clear ep eq ey
            have c1 := cell_later hbW (HCP.out i hi)
            have c2 := cell_later hbW (HCQ.out i hi)
            have c3 := cell_later hbW (HCY.out i hi)
            obtain ⟨g1, n1, n2, n3⟩ := rest_cell HLH.out.2 HLL.out.1 hi
            obtain ⟨vp, nx⟩ := lh_cell HDR.out HLL.out.1 hi HLL.out.2
            have HNX := Lib.hid nx
            have hmin := fun ts ty w => run_fmin (P := Try.prog) (fnt_isF HLL.out.1.fl) vp ts ty w
            have hmax := fun ts ty w => run_fmax (P := Try.prog) (fnt_isF HLL.out.1.fh) vp ts ty w
            have HG := Lib.hid (fun x y w hx hy => rt_gap (X := wide (cn .f32 ((rwsR Q ⟨k, t, es⟩ ⟨0, x8, 1065353216⟩ 1065353216).d.getD i 0))) (Y := wide (cn .f32 (Q.d.getD i 0))) x y w hx hy g1)
            simp only [c01] at n1 n2 n3
            clear g1 vp nx HLL
            generalize (rwsR Q ⟨k, t, es⟩ ⟨0, x8, 1065353216⟩ 1065353216).d.getD i 0 = yy at c3 n1 HG
            generalize Q.d.getD i 0 = yq at c2 n1 n2 n3 HG
            generalize P.d.getD i 0 = yp at c1 hmin hmax HNX
            have hT : Trk wr [b5, b9, b14, bp, bq, by'] := ((((((Trk.nil wr).more (World.block_lt_of_cell? _ _ c3)).more (World.block_lt_of_cell? _ _ c2)).more (World.block_lt_of_cell? _ _ c1)).more fl).more el).more dl
            go_wp2_with (first | (with_reducible refine at_list ?_; refine wpList_fop rfl rfl rfl rfl rfl ?_; intro r n hr0; have hr := hr0 _ _ (by first | with_reducible assumption | exact rfl) (by first | with_reducible assumption | exact rfl); clear hr0) | (with_reducible refine at_list ?_; refine wpList_neg rfl rfl rfl ?_; intro r hr0; have hr := hr0 _ (by first | with_reducible assumption | exact rfl); clear hr0) | (with_reducible refine at_list ?_; refine wpList_fop_g rfl rfl rfl rfl rfl ?_; intro r n hr0; have hr := hr0 _ _ (by first | with_reducible assumption | exact rfl) (by first | with_reducible assumption | exact rfl); clear hr0) | (with_reducible refine at_list ?_; refine wpList_wide_g rfl rfl Try.underlying28 Try.underlying39 rfl ?_; intro r n hr0; have hr := hr0 _ (by first | with_reducible assumption | exact rfl); clear hr0) | (with_reducible refine at_list ?_; refine wpList_wide rfl rfl rfl Try.underlying28 Try.underlying39 ?_; intro r n hr0; have hr := hr0 _ (by first | with_reducible assumption | exact rfl); clear hr0) | (go_at_call 13; refine ((HG.out _ _ _ (by with_reducible assumption) (by with_reducible assumption)) ).mono ?_; rintro e w' ⟨r, rfl, hr, n, rfl⟩))
            go_roundw
            case rel => exact ⟨i + 1, _, _, by omega, by go_num, rfl, rfl, HNX.out, by show Below _ _ _; exact below_then hbW (by (repeat (first | (with_reducible exact Below.refl _ _) | (with_reducible assumption) | (with_reducible refine below_then ?_ (by assumption)) | (with_reducible refine Below.trans ?_ (by assumption)) | (with_reducible refine below_drewN ?_ _) | (with_reducible apply Below.drew) | (with_reducible refine below_alloc ?_ _) | refine Below.setCell ?_ (by first | (simp; done) | (simp; omega)) _)))⟩
            case measure => simp [intOf]; omega
        · have hie : N = i := by omega
          subst hie
          have hii : ¬ (N : Int) < (N : Int) := by omega
          rename World => wz
          have HK12 : Hid (Bag _ wz) := HK11.out.later hbW
          clear HK11 HW hbW HCP HCQ HCY HEP HV5 HV9 HV14 HR0 H10 hiN hi
          obtain ⟨⟨d0, d1, d2⟩, dl⟩ := HK12.out.t.t.t.t.t.t.g
          obtain ⟨⟨g0, g1, g2⟩, gl⟩ := HK12.out.t.t.t.t.t.g
          obtain ⟨⟨tf, _, _, _⟩, _, _, _⟩ := HTB.out
          have hmin := fun ts ty w => run_fmin (P := Try.prog) (fnt_isF HLL.out.1.fl) (fnt_isF tf) ts ty w
          have hmax := fun ts ty w => run_fmax (P := Try.prog) (fnt_isF HLL.out.1.fh) (fnt_isF tf) ts ty w
          clear tf
          obtain ⟨lw2, hlw⟩ : ∃ l, l = if k = 1 then lw else fmin lw t := ⟨_, rfl⟩
          obtain ⟨hw2, hhw⟩ : ∃ l, l = if k = 1 then hw else fmax hw t := ⟨_, rfl⟩
          have HLW := Lib.hid hlw
          have HHW := Lib.hid hhw
          clear hlw hhw
          go_upto_if 183 with fail
          go_cut [17, 18] from 35 (fun s17 s18 wx => s17 = .float .f32 lw2 ∧ s18 = .float .f32 hw2 ∧ wz = wx)
          case first =>
            by_cases hk1 : k = 1
            · as_aux_lemma =>
                have e1 : lw2 = lw := by rw [HLW.out, if_pos hk1]
                have e2 : hw2 = hw := by rw [HHW.out, if_pos hk1]
                have hkd : (k == 1) = true := by rw [hk1]; rfl
                have hke : (k = 1) = True := eq_true hk1
                have HE1 := Lib.hid e1
                have HE2 := Lib.hid e2
                clear hk1 e1 e2
                go_wp2_with fail
                go_meet
                case rel => exact ⟨by rw [HE1.out], by rw [HE2.out], rfl⟩
            · as_aux_lemma =>
                have e1 : lw2 = fmin lw t := by rw [HLW.out, if_neg hk1]
                have e2 : hw2 = fmax hw t := by rw [HHW.out, if_neg hk1]
                have hkd : (k == 1) = false := beq_false_of_ne hk1
                have hke : (k = 1) = False := eq_false hk1
                have HE1 := Lib.hid e1
                have HE2 := Lib.hid e2
                clear hk1 e1 e2
                go_wp2_with fail
                go_meet
                case rel => exact ⟨by rw [HE1.out], by rw [HE2.out], rfl⟩
          case rest =>
          obtain ⟨rfl, rfl, hwc⟩ := hcut
          subst hwc
          clear hmin hmax hii
          have HL3 : Hid ((isF lw2 = true ∧ isF hw2 = true) ∧ (LH (fmin lw2 x8) (fmax hw2 x8) (fv .f32 lw0) (fv .f32 hw0) ∧ ∀ j, j < N → fv .f32 (fmin lw2 x8) ≤ xR P j ∧ xR P j ≤ fv .f32 (fmax hw2 x8)) ∧ (k = 1 ∨ (fv .f32 (fmin lw2 x8) ≤ tE ⟨k, t, es⟩ ∧ tE ⟨k, t, es⟩ ≤ fv .f32 (fmax hw2 x8))) ∧ (fv .f32 (fmin lw2 x8) ≤ tE ⟨0, x8, 1065353216⟩ ∧ tE ⟨0, x8, 1065353216⟩ ≤ fv .f32 (fmax hw2 x8))) := by
            obtain ⟨⟨tf, te, tl, th⟩, ⟨xf, xq, xl, xh⟩, e1, e2⟩ := HTB.out
            rw [e1, e2]
            exact lh_last HLL.out.1 HLL.out.2 tf tl th xf xl xh HLW.out HHW.out
          clear HLL HLW HHW
          obtain ⟨⟨vl, vh⟩, _⟩ := HL3.out
          obtain ⟨_, ⟨xf, _, _, _⟩, _, _⟩ := HTB.out
          have hmin := fun ts ty w => run_fmin (P := Try.prog) vl (fnt_isF xf) ts ty w
          have hmax := fun ts ty w => run_fmax (P := Try.prog) vh (fnt_isF xf) ts ty w
          have HL3 := Lib.hid HL3.out.2
          clear vl vh xf
          obtain ⟨L, hSF⟩ := HDR.out.g.safe HGE.out HGG.out rfl
          have HSF := Lib.hid hSF
          clear hSF
          obtain ⟨⟨f0, f1, f2, f3⟩, fl⟩ := HK12.out.t.t.t.t.t.t.t.g
          go_wp2_with (first | (go_at_call 14; refine stop_here ?_))
          unfold Stop
          clear hmin hmax d0 d1 d2 dl g0 g1 g2 gl f0 f1 f2 f3 fl
          generalize fmin lw2 x8 = lw3 at HL3 ⊢
          generalize fmax hw2 x8 = hw3 at HL3 ⊢
          refine (rt_safe HSF.out (HK12.out.t.t.t.t.t.t.t.t.g)).mono ?_
          rintro e u1 ⟨x21, rfl, h21, hb⟩
          have H21 := Lib.hid h21
          have HK13 : Hid (Bag _ u1) := HK12.out.later hb
          clear HK12 hb
          obtain ⟨⟨d0, d1, d2, d3⟩, dl⟩ := HK13.out.t.t.t.t.t.t.t.g
          obtain ⟨⟨g0, g1, g2⟩, gl⟩ := HK13.out.t.t.t.t.t.t.g
          obtain ⟨⟨f0, f1, f2⟩, fl⟩ := HK13.out.t.t.t.t.t.g
          go_wp2_with (first | (with_reducible refine at_list ?_; refine wpList_fop rfl rfl rfl rfl rfl ?_; intro r n hr0; have hr := hr0 _ _ (by first | with_reducible assumption | exact rfl) (by first | with_reducible assumption | exact rfl); clear hr0) | (with_reducible refine at_list ?_; refine wpList_neg rfl rfl rfl ?_; intro r hr0; have hr := hr0 _ (by first | with_reducible assumption | exact rfl); clear hr0) | (with_reducible refine at_list ?_; refine wpList_fop_g rfl rfl rfl rfl rfl ?_; intro r n hr0; have hr := hr0 _ _ (by first | with_reducible assumption | exact rfl) (by first | with_reducible assumption | exact rfl); clear hr0) | (with_reducible refine at_list ?_; refine wpList_wide_g rfl rfl Try.underlying28 Try.underlying39 rfl ?_; intro r n hr0; have hr := hr0 _ (by first | with_reducible assumption | exact rfl); clear hr0) | (with_reducible refine at_list ?_; refine wpList_wide rfl rfl rfl Try.underlying28 Try.underlying39 ?_; intro r n hr0; have hr := hr0 _ (by first | with_reducible assumption | exact rfl); clear hr0) | (go_at_call 15; refine stop_here ?_))
          unfold Stop
          clear d0 d1 d2 d3 dl g0 g1 g2 gl f0 f1 f2 fl
          obtain ⟨xh, rfl⟩ : ∃ x, x = r := ⟨r, rfl⟩
          have HSP : Hid (stepOk P ⟨k, t, es⟩ ⟨0, x8, 1065353216⟩ xh = true ∧ GR (stepR P ⟨k, t, es⟩ ⟨0, x8, 1065353216⟩ xh) N A C 9 ∧ ∀ i, i < N → fv .f32 lw3 - 1 / 1024 ≤ xR (stepR P ⟨k, t, es⟩ ⟨0, x8, 1065353216⟩ xh) i ∧ xR (stepR P ⟨k, t, es⟩ ⟨0, x8, 1065353216⟩ xh) i ≤ fv .f32 hw3 + 1 / 1024) := by
            obtain ⟨⟨lh, hall⟩, hor, hg⟩ := HL3.out
            exact HSF.out.step (by have := HSF.out.half; rw [← hr] at this; exact this) hall hor hg ⟨lh.bl.1, lh.bh.2⟩
          clear hr
          refine calls_named ?_
          intro u2 hu2
          have hbw : Below u1.heap.size u1 u2 := by rw [hu2]; first | exact Below.refl _ _ | (repeat (first | (with_reducible exact Below.refl _ _) | (with_reducible assumption) | (with_reducible refine below_then ?_ (by assumption)) | (with_reducible refine Below.trans ?_ (by assumption)) | (with_reducible refine below_drewN ?_ _) | (with_reducible apply Below.drew) | (with_reducible refine below_alloc ?_ _) | refine Below.setCell ?_ (by first | (simp; done) | (simp; omega)) _))
          have HK14 : Hid (Bag _ u2) := HK13.out.later hbw
          clear HK13 hu2 hbw
          refine (rt_step_of HSP.out.1 HSP.out.2.1 (HK14.out.t.t.t.t.t.t.t.t.g)).mono ?_
          rintro e u3 ⟨m23, rfl, hb, hr23⟩
          have HK15 : Hid (Bag _ u3) := (HK14.out.later hb).add (F := Rdn (stepR P ⟨k, t, es⟩ ⟨0, x8, 1065353216⟩ xh) m23 N) (Rdn.lat _ _ _) (hr23)
          clear HK14 hb hr23
          obtain ⟨⟨d0, d1, d2, d3⟩, dl⟩ := HK15.out.t.t.t.t.t.t.t.t.g
          obtain ⟨⟨g0, g1, g2⟩, gl⟩ := HK15.out.t.t.t.t.t.t.t.g
          obtain ⟨⟨f0, f1, f2⟩, fl⟩ := HK15.out.t.t.t.t.t.t.g
          go_wp2_with (first | (with_reducible refine at_list ?_; refine wpList_fop rfl rfl rfl rfl rfl ?_; intro r n hr0; have hr := hr0 _ _ (by first | with_reducible assumption | exact rfl) (by first | with_reducible assumption | exact rfl); clear hr0) | (with_reducible refine at_list ?_; refine wpList_neg rfl rfl rfl ?_; intro r hr0; have hr := hr0 _ (by first | with_reducible assumption | exact rfl); clear hr0) | (with_reducible refine at_list ?_; refine wpList_fop_g rfl rfl rfl rfl rfl ?_; intro r n hr0; have hr := hr0 _ _ (by first | with_reducible assumption | exact rfl) (by first | with_reducible assumption | exact rfl); clear hr0) | (with_reducible refine at_list ?_; refine wpList_wide_g rfl rfl Try.underlying28 Try.underlying39 rfl ?_; intro r n hr0; have hr := hr0 _ (by first | with_reducible assumption | exact rfl); clear hr0) | (with_reducible refine at_list ?_; refine wpList_wide rfl rfl rfl Try.underlying28 Try.underlying39 ?_; intro r n hr0; have hr := hr0 _ (by first | with_reducible assumption | exact rfl); clear hr0) | (go_at_call 12; refine stop_here ?_))
          unfold Stop
          clear d0 d1 d2 d3 dl g0 g1 g2 gl f0 f1 f2 fl
          obtain ⟨xt, rfl⟩ : ∃ x, x = r := ⟨r, rfl⟩
          have HRW : Hid (rwsOk P ⟨k, t, es⟩ ⟨0, x8, 1065353216⟩ xt = true ∧ GR (rwsR P ⟨k, t, es⟩ ⟨0, x8, 1065353216⟩ xt) N A C (801 / 100 + 801 / 100 / 1000) ∧ ∀ i, i < N → fv .f32 lw3 - 1 / 1024 ≤ xR (rwsR P ⟨k, t, es⟩ ⟨0, x8, 1065353216⟩ xt) i ∧ xR (rwsR P ⟨k, t, es⟩ ⟨0, x8, 1065353216⟩ xt) i ≤ fv .f32 hw3 + 1 / 1024) := by
            obtain ⟨⟨lh, hall⟩, hor, hg⟩ := HL3.out
            exact HSF.out.rows (by have := HSF.out.eight; rw [← hr] at this; exact this) hall hor hg ⟨lh.bl.1, lh.bh.2⟩
          clear hr
          refine calls_named ?_
          intro u4 hu4
          obtain ⟨b23, hb23⟩ : ∃ b, b = u3.heap.size := ⟨_, rfl⟩
          simp only [← hb23]
          have hbw : Below u3.heap.size u3 u4 := by rw [hu4]; first | exact Below.refl _ _ | (repeat (first | (with_reducible exact Below.refl _ _) | (with_reducible assumption) | (with_reducible refine below_then ?_ (by assumption)) | (with_reducible refine Below.trans ?_ (by assumption)) | (with_reducible refine below_drewN ?_ _) | (with_reducible apply Below.drew) | (with_reducible refine below_alloc ?_ _) | refine Below.setCell ?_ (by first | (simp; done) | (simp; omega)) _))
          have HK16 : Hid (Bag _ u4) := (HK15.out.later hbw).add (F := Var b23 (.slice m23.p1 N m23.c1) (.slice m23.p2 N m23.c2) (.slice m23.p3 N m23.c3) (.slice m23.p4 N m23.c4)) (Var.lat _ _ _ _ _) (by show Var b23 (.slice m23.p1 N m23.c1) (.slice m23.p2 N m23.c2) (.slice m23.p3 N m23.c3) (.slice m23.p4 N m23.c4) u4; rw [hu4, hb23]; exact ⟨⟨by go_simp, by go_simp, by go_simp, by go_simp⟩, by first | (simp; done) | (simp; omega)⟩)
          clear HK15 hu4 hbw hb23
          refine (rt_rows_of HRW.out.1 HRW.out.2.1 (HK16.out.t.t.t.t.t.t.t.t.t.t.g)).mono ?_
          rintro e u5 ⟨m25, rfl, hb, hr25⟩
          have HK17 : Hid (Bag _ u5) := (HK16.out.later hb).add (F := Rdn (rwsR P ⟨k, t, es⟩ ⟨0, x8, 1065353216⟩ xt) m25 N) (Rdn.lat _ _ _) (hr25)
          clear HK16 hb hr25
          have f21 := safe_pos HSF.out
          go_wp2_with (first | (with_reducible refine at_list ?_; refine wpList_fop rfl rfl rfl rfl rfl ?_; intro r n hr0; have hr := hr0 _ _ (by first | with_reducible assumption | exact rfl) (by first | with_reducible assumption | exact rfl); clear hr0) | (with_reducible refine at_list ?_; refine wpList_neg rfl rfl rfl ?_; intro r hr0; have hr := hr0 _ (by first | with_reducible assumption | exact rfl); clear hr0) | (with_reducible refine at_list ?_; refine wpList_fop_g rfl rfl rfl rfl rfl ?_; intro r n hr0; have hr := hr0 _ _ (by first | with_reducible assumption | exact rfl) (by first | with_reducible assumption | exact rfl); clear hr0) | (with_reducible refine at_list ?_; refine wpList_wide_g rfl rfl Try.underlying28 Try.underlying39 rfl ?_; intro r n hr0; have hr := hr0 _ (by first | with_reducible assumption | exact rfl); clear hr0) | (with_reducible refine at_list ?_; refine wpList_wide rfl rfl rfl Try.underlying28 Try.underlying39 ?_; intro r n hr0; have hr := hr0 _ (by first | with_reducible assumption | exact rfl); clear hr0) | (go_at_call 13; refine ((rt_gap _ _ _ rfl rfl (by assumption)) ).mono ?_; rintro e w' ⟨r, rfl, hr, n, rfl⟩))
          clear f21 h21
          refine wp_named ?_
          intro wv hwv
          obtain ⟨b25, hb25⟩ : ∃ b, b = u5.heap.size := ⟨_, rfl⟩
          simp only [← hb25]
          have hbw : Below u5.heap.size u5 wv := by rw [hwv]; first | exact Below.refl _ _ | (repeat (first | (with_reducible exact Below.refl _ _) | (with_reducible assumption) | (with_reducible refine below_then ?_ (by assumption)) | (with_reducible refine Below.trans ?_ (by assumption)) | (with_reducible refine below_drewN ?_ _) | (with_reducible apply Below.drew) | (with_reducible refine below_alloc ?_ _) | refine Below.setCell ?_ (by first | (simp; done) | (simp; omega)) _))
          have HK18 : Hid (Bag _ wv) := (HK17.out.later hbw).add (F := Var b25 (.slice m25.p1 N m25.c1) (.slice m25.p2 N m25.c2) (.slice m25.p3 N m25.c3) (.slice m25.p4 N m25.c4)) (Var.lat _ _ _ _ _) (by show Var b25 (.slice m25.p1 N m25.c1) (.slice m25.p2 N m25.c2) (.slice m25.p3 N m25.c3) (.slice m25.p4 N m25.c4) wv; rw [hwv, hb25]; exact ⟨⟨by go_simp, by go_simp, by go_simp, by go_simp⟩, by first | (simp; done) | (simp; omega)⟩)
          clear HK17 hwv hbw hb25
          have hoS := HK18.out.t.t.t.g
          have hoR := HK18.out.t.g
          obtain ⟨bs, os, es', hcs⟩ := Lst.at (q := m23.p4) (n := N) (c := m23.c4) (xs := (stepR P ⟨k, t, es⟩ ⟨0, x8, 1065353216⟩ xh).d) (by have := hoS.2.2.2.2; rwa [hoS.1.2.2.2] at this) hoS.1.2.2.2 (by omega)
          obtain ⟨br, or', er, hcr⟩ := Lst.at (q := m25.p4) (n := N) (c := m25.c4) (xs := (rwsR P ⟨k, t, es⟩ ⟨0, x8, 1065353216⟩ xt).d) (by have := hoR.2.2.2.2; rwa [hoR.1.2.2.2] at this) hoR.1.2.2.2 (by omega)
          have HCS := Lib.hid hcs
          have HCR := Lib.hid hcr
          have HES := Lib.hid (And.intro es' er)
          have HV23 := Lib.hid (HK18.out.t.t.g)
          have HV25 := Lib.hid (HK18.out.g)
          clear hoS hoR hcs hcr es' er
          go_loopw [27] (fun s wr => ∃ (i : Nat), i ≤ N ∧ s = .int .i64 (i : Int) ∧ Hid (Below wv.heap.size wv wr)) (fun s _ => N - (intOf s).toNat)
          case atStart => exact ⟨0, by omega, rfl, Below.refl _ _⟩
          case round =>
            obtain ⟨i, hiN, rfl, HW⟩ := hrel
            have hbW := HW.out
            by_cases hi : i < N
            · as_aux_lemma =>
                have hii : (i : Int) < (N : Int) := by omega
                obtain ⟨⟨_, _, _, d3⟩, dl⟩ := Var.lat _ _ _ _ _ _ _ HV23.out hbW
                obtain ⟨⟨_, _, _, e3⟩, el⟩ := Var.lat _ _ _ _ _ _ _ HV25.out hbW
                have e1 := HES.out.1
                have e2 := HES.out.2
                rw [e1] at d3
                rw [e2] at e3
                clear e1 e2
                have c1 := cell_later hbW (HCS.out i hi)
                have c2 := cell_later hbW (HCR.out i hi)
                obtain ⟨n1, n2⟩ := hurry_cell (x := 0) HL3.out.1.1 HSP.out.2.1 hi (HSP.out.2.2 i hi)
                obtain ⟨n3, n4⟩ := hurry_cell (x := 0) HL3.out.1.1 HRW.out.2.1 hi (HRW.out.2.2 i hi)
                simp only [c01] at n1 n2 n3 n4
                generalize (stepR P ⟨k, t, es⟩ ⟨0, x8, 1065353216⟩ xh).d.getD i 0 = ys at c1 n1 n2
                generalize (rwsR P ⟨k, t, es⟩ ⟨0, x8, 1065353216⟩ xt).d.getD i 0 = yr at c2 n3 n4
                have hT : Trk wr [b23, b25, bs, br] := ((((Trk.nil wr).more (World.block_lt_of_cell? _ _ c2)).more (World.block_lt_of_cell? _ _ c1)).more el).more dl
                go_wp2_with (first | (with_reducible refine at_list ?_; refine wpList_fop rfl rfl rfl rfl rfl ?_; intro r n hr0; have hr := hr0 _ _ (by first | with_reducible assumption | exact rfl) (by first | with_reducible assumption | exact rfl); clear hr0) | (with_reducible refine at_list ?_; refine wpList_neg rfl rfl rfl ?_; intro r hr0; have hr := hr0 _ (by first | with_reducible assumption | exact rfl); clear hr0) | (with_reducible refine at_list ?_; refine wpList_fop_g rfl rfl rfl rfl rfl ?_; intro r n hr0; have hr := hr0 _ _ (by first | with_reducible assumption | exact rfl) (by first | with_reducible assumption | exact rfl); clear hr0) | (with_reducible refine at_list ?_; refine wpList_wide_g rfl rfl Try.underlying28 Try.underlying39 rfl ?_; intro r n hr0; have hr := hr0 _ (by first | with_reducible assumption | exact rfl); clear hr0) | (with_reducible refine at_list ?_; refine wpList_wide rfl rfl rfl Try.underlying28 Try.underlying39 ?_; intro r n hr0; have hr := hr0 _ (by first | with_reducible assumption | exact rfl); clear hr0) | (go_at_call 13; refine ((rt_gap _ _ _ rfl rfl (by assumption)) ).mono ?_; rintro e w' ⟨r, rfl, hr, n, rfl⟩))
                go_roundw
                case rel => exact ⟨i + 1, by omega, by go_num, by show Below _ _ _; exact below_then hbW (by (repeat (first | (with_reducible exact Below.refl _ _) | (with_reducible assumption) | (with_reducible refine below_then ?_ (by assumption)) | (with_reducible refine Below.trans ?_ (by assumption)) | (with_reducible refine below_drewN ?_ _) | (with_reducible apply Below.drew) | (with_reducible refine below_alloc ?_ _) | refine Below.setCell ?_ (by first | (simp; done) | (simp; omega)) _)))⟩
                case measure => simp [intOf]; omega
            · have hie : N = i := by omega
              subst hie
              have hii : ¬ (N : Int) < (N : Int) := by omega
              rename World => wg
              have HK19 : Hid (Bag _ wg) := HK18.out.later hbW
              clear HK18 HW hbW HCS HCR HES HV23 HV25 HSP HRW HSF H21 HL3 HLH HTB hiN hi
              go_wp2_with (first | (go_at_call 9; refine stop_here ?_))
              unfold Stop
              clear hii
              refine (r8At_any _ _ _ 41 33 _ ((HQ.out.later (C := w.heap.size) (HK19.out.t.t.t.t.t.t.t.t.t.t.t.t.t.g) (Nat.le_refl _)).mono (HK19.out.t.t.t.t.t.t.t.t.t.t.t.t.t.g).size) (by omega) (by omega)).mono ?_
              rintro e w' ⟨j, rfl, ⟨hj1, hj2⟩, nq, rfl⟩
              obtain ⟨⟨d0, d1, d2, d3⟩, dl⟩ := HK19.out.t.t.t.t.t.t.t.t.t.t.t.g
              go_wp2_with (first | (with_reducible refine at_list ?_; refine wpList_fop rfl rfl rfl rfl rfl ?_; intro r n hr0; have hr := hr0 _ _ (by first | with_reducible assumption | exact rfl) (by first | with_reducible assumption | exact rfl); clear hr0) | (with_reducible refine at_list ?_; refine wpList_neg rfl rfl rfl ?_; intro r hr0; have hr := hr0 _ (by first | with_reducible assumption | exact rfl); clear hr0) | (with_reducible refine at_list ?_; refine wpList_fop_g rfl rfl rfl rfl rfl ?_; intro r n hr0; have hr := hr0 _ _ (by first | with_reducible assumption | exact rfl) (by first | with_reducible assumption | exact rfl); clear hr0) | (with_reducible refine at_list ?_; refine wpList_wide_g rfl rfl Try.underlying28 Try.underlying39 rfl ?_; intro r n hr0; have hr := hr0 _ (by first | with_reducible assumption | exact rfl); clear hr0) | (with_reducible refine at_list ?_; refine wpList_wide rfl rfl rfl Try.underlying28 Try.underlying39 ?_; intro r n hr0; have hr := hr0 _ (by first | with_reducible assumption | exact rfl); clear hr0) | (go_at_call 16; refine stop_here ?_))
              unfold Stop
              clear d0 d1 d2 d3 dl
              obtain ⟨x28, rfl⟩ : ∃ x, x = r := ⟨r, rfl⟩
              obtain ⟨s, hs⟩ : ∃ s : Int, 2 * (j - 16) + 1 = s := ⟨_, rfl⟩
              have hx28 : V .f32 (cn .f32 x28) ((s : Rat) / 4) := warm_val ⟨hj1, by omega⟩ hs (by exact hr)
              have hsb : -40 ≤ s ∧ s ≤ 40 := by omega
              have hso : s % 2 = 1 := by omega
              obtain ⟨X, hX⟩ : ∃ X, cn .f32 x28 = X := ⟨_, rfl⟩
              rw [hX] at hx28
              have HX := Lib.hid hX
              have HV28 := Lib.hid hx28
              clear hr hs hj1 hj2 hx28 hX
              refine calls_named ?_
              intro wh hwh
              have hbw : Below wg.heap.size wg wh := by rw [hwh]; first | exact Below.refl _ _ | (repeat (first | (with_reducible exact Below.refl _ _) | (with_reducible assumption) | (with_reducible refine below_then ?_ (by assumption)) | (with_reducible refine Below.trans ?_ (by assumption)) | (with_reducible refine below_drewN ?_ _) | (with_reducible apply Below.drew) | (with_reducible refine below_alloc ?_ _) | refine Below.setCell ?_ (by first | (simp; done) | (simp; omega)) _))
              have HK20 : Hid (Bag _ wh) := HK19.out.later hbw
              clear HK19 hwh hbw HQ
              rcases cross_first P X N with hno | ⟨jc, hjc, hcc, hbf⟩
              · as_aux_lemma =>
                  have HNO := Lib.hid hno
                  clear hno
                  refine (rt_place_no HDR.out HX.out HV28.out HNO.out (HK20.out.t.t.t.t.t.t.t.t.t.t.t.t.g)).mono ?_
                  rintro e wj ⟨x29, rfl, _, hb⟩
                  have HK21 : Hid (Bag _ wj) := HK20.out.later hb
                  clear HK20 hb
                  go_wp2
                  refine wp_named ?_
                  intro wk hwk
                  have hbw : Below wj.heap.size wj wk := by rw [hwk]; first | exact Below.refl _ _ | (repeat (first | (with_reducible exact Below.refl _ _) | (with_reducible assumption) | (with_reducible refine below_then ?_ (by assumption)) | (with_reducible refine Below.trans ?_ (by assumption)) | (with_reducible refine below_drewN ?_ _) | (with_reducible apply Below.drew) | (with_reducible refine below_alloc ?_ _) | refine Below.setCell ?_ (by first | (simp; done) | (simp; omega)) _))
                  have HK22 : Hid (Bag _ wk) := HK21.out.later hbw
                  clear HK21 hwk hbw
                  have hoP := HK22.out.t.t.t.t.t.t.t.t.t.t.t.t.g
                  obtain ⟨bp, op', ep, hcp⟩ := Lst.at (q := m0.p4) (n := N) (c := m0.c4) (xs := P.d) (by have := hoP.2.2.2.2; rwa [hoP.1.2.2.2] at this) hoP.1.2.2.2 (by omega)
                  have HCP := Lib.hid hcp
                  have HEP := Lib.hid ep
                  clear hoP hcp ep
                  have HV5 := Lib.hid (HK22.out.t.t.t.t.t.t.t.t.t.t.t.g)
                  go_loopw [31, 32] (fun s31 s32 wr => ∃ (i : Nat), i + 1 ≤ N ∧ s32 = .int .i64 ((i : Int) + 1) ∧ s31 = .bool (false) ∧ Hid (Below wk.heap.size wk wr)) (fun _ s32 _ => N - (intOf s32).toNat)
                  case atStart => exact ⟨0, by omega, rfl, by first | rfl | (congr 1; simp; done) | (congr 1; simp; omega), Below.refl _ _⟩
                  case round =>
                    obtain ⟨i, hiN, rfl, rfl, HW⟩ := hrel
                    have hbW := HW.out
                    by_cases hi : i + 1 < N
                    · as_aux_lemma =>
                        have hii : (i : Int) + 1 < (N : Int) := by omega
                        have hii0 : (i : Int) < (N : Int) := by omega
                        have hw1 : IntKind.i64.wrap (i : Int) = (i : Int) := IntWalk.i64_in _ (by omega)
                        have hw2 : 0 ≤ (i : Int) + 1 := by omega
                        have hw3 : ((i : Int) + 1).toNat = i + 1 := by omega
                        obtain ⟨⟨_, _, _, d3⟩, dl⟩ := Var.lat _ _ _ _ _ _ _ HV5.out hbW
                        have ep := HEP.out
                        rw [ep] at d3
                        clear ep
                        have c1 := cell_later hbW (HCP.out i (by omega))
                        have c2 := cell_later hbW (HCP.out (i + 1) hi)
                        have hx := HX.out
                        have HCB : Hid (crB P X i = (flt .f32 (cn .f32 (P.d.getD i 0)) X != flt .f32 (cn .f32 (P.d.getD (i + 1) 0)) X)) := crB_in rfl rfl
                        generalize P.d.getD i 0 = y1 at c1 HCB
                        generalize P.d.getD (i + 1) 0 = y2 at c2 HCB
                        have hT : Trk wr [b5, bp] := ((Trk.nil wr).more (World.block_lt_of_cell? _ _ c2)).more dl
                        have hc0 : (flt .f32 (cn .f32 y1) X != flt .f32 (cn .f32 y2) X) = false := HCB.out.symm.trans (HNO.out i hi)
                        rcases f1 : flt .f32 (cn .f32 y1) X <;> rcases f2 : flt .f32 (cn .f32 y2) X
                        · as_aux_lemma =>
                            clear hc0
                            go_wp2
                            (refine wp_some_lit (by kernel_rfl) (by kernel_rfl) ?_; (iterate 20 (refine wpSome_one ?_; go_big_quiet_step (fail); refine wpQuiet_nil ?_)); refine wpSome_nil ?_; intro w' hw'; obtain ⟨nq, rfl⟩ := hw')
                            rotate_left
                            all_goals (try (first | kernel_rfl | rfl))
                            go_wp2
                            go_roundw
                            case rel => exact ⟨i + 1, by omega, by go_num, rfl, by show Below _ _ _; exact below_then hbW (by (repeat (first | (with_reducible exact Below.refl _ _) | (with_reducible assumption) | (with_reducible refine below_then ?_ (by assumption)) | (with_reducible refine Below.trans ?_ (by assumption)) | (with_reducible refine below_drewN ?_ _) | (with_reducible apply Below.drew) | (with_reducible refine below_alloc ?_ _) | refine Below.setCell ?_ (by first | (simp; done) | (simp; omega)) _)))⟩
                            case measure => simp [intOf]; omega
                        · rw [f1, f2] at hc0; cases hc0
                        · rw [f1, f2] at hc0; cases hc0
                        · as_aux_lemma =>
                            clear hc0
                            go_wp2
                            (refine wp_some_lit (by kernel_rfl) (by kernel_rfl) ?_; (iterate 20 (refine wpSome_one ?_; go_big_quiet_step (fail); refine wpQuiet_nil ?_)); refine wpSome_nil ?_; intro w' hw'; obtain ⟨nq, rfl⟩ := hw')
                            rotate_left
                            all_goals (try (first | kernel_rfl | rfl))
                            go_wp2
                            go_roundw
                            case rel => exact ⟨i + 1, by omega, by go_num, rfl, by show Below _ _ _; exact below_then hbW (by (repeat (first | (with_reducible exact Below.refl _ _) | (with_reducible assumption) | (with_reducible refine below_then ?_ (by assumption)) | (with_reducible refine Below.trans ?_ (by assumption)) | (with_reducible refine below_drewN ?_ _) | (with_reducible apply Below.drew) | (with_reducible refine below_alloc ?_ _) | refine Below.setCell ?_ (by first | (simp; done) | (simp; omega)) _)))⟩
                            case measure => simp [intOf]; omega
                    · have hie : N = i + 1 := by omega
                      have hii : ¬ (i : Int) + 1 < (N : Int) := by omega
                      have hbw : Below w.heap.size w wr := (HK22.out.later hbW).t.t.t.t.t.t.t.t.t.t.t.t.t.g
                      go_wp2
                      go_ret
                      exact ⟨rfl, by (repeat (first | (with_reducible exact Below.refl _ _) | (with_reducible assumption) | (with_reducible refine below_then ?_ (by assumption)) | (with_reducible refine Below.trans ?_ (by assumption)) | (with_reducible refine below_drewN ?_ _) | (with_reducible apply Below.drew) | (with_reducible refine below_alloc ?_ _) | refine Below.setCell ?_ (by first | (simp; done) | (simp; omega)) _))⟩
              · have HCC := Lib.hid hcc
                have HBF := Lib.hid hbf
                obtain ⟨hpf, hpc, v, hv1, hv2, hv3, hv4⟩ := HDR.out.place HV28.out hso hsb hjc hcc
                have HPV := Lib.hid (And.intro hpf (And.intro hv1 (And.intro hv2 (And.intro hv3 hv4))))
                have HPC := Lib.hid (And.intro hpf hpc)
                clear hpf hpc hv1 hv2 hv3 hv4
                refine (rt_place_yes HDR.out HX.out HV28.out hso hsb hjc hcc hbf (HK20.out.t.t.t.t.t.t.t.t.t.t.t.t.g)).mono ?_
                rintro e wj ⟨x29, rfl, h29, hb⟩
                have H29 := Lib.hid h29
                have HK21 : Hid (Bag _ wj) := HK20.out.later hb
                clear HK20 hb hcc hbf h29
                go_wp2
                refine wp_named ?_
                intro wk hwk
                have hbw : Below wj.heap.size wj wk := by rw [hwk]; first | exact Below.refl _ _ | (repeat (first | (with_reducible exact Below.refl _ _) | (with_reducible assumption) | (with_reducible refine below_then ?_ (by assumption)) | (with_reducible refine Below.trans ?_ (by assumption)) | (with_reducible refine below_drewN ?_ _) | (with_reducible apply Below.drew) | (with_reducible refine below_alloc ?_ _) | refine Below.setCell ?_ (by first | (simp; done) | (simp; omega)) _))
                have HK22 : Hid (Bag _ wk) := HK21.out.later hbw
                clear HK21 hwk hbw
                have hoP := HK22.out.t.t.t.t.t.t.t.t.t.t.t.t.g
                obtain ⟨bp, op', ep, hcp⟩ := Lst.at (q := m0.p4) (n := N) (c := m0.c4) (xs := P.d) (by have := hoP.2.2.2.2; rwa [hoP.1.2.2.2] at this) hoP.1.2.2.2 (by omega)
                have HCP := Lib.hid hcp
                have HEP := Lib.hid ep
                clear hoP hcp ep
                have HV5 := Lib.hid (HK22.out.t.t.t.t.t.t.t.t.t.t.t.g)
                go_loopw [31, 32] (fun s31 s32 wr => ∃ (i : Nat), i + 1 ≤ N ∧ s32 = .int .i64 ((i : Int) + 1) ∧ s31 = .bool (decide (jc < i)) ∧ Hid (Below wk.heap.size wk wr)) (fun _ s32 _ => N - (intOf s32).toNat)
                case atStart => exact ⟨0, by omega, rfl, by first | rfl | (congr 1; simp; done) | (congr 1; simp; omega), Below.refl _ _⟩
                case round =>
                  obtain ⟨i, hiN, rfl, rfl, HW⟩ := hrel
                  have hbW := HW.out
                  by_cases hi : i + 1 < N
                  · as_aux_lemma =>
                      have hii : (i : Int) + 1 < (N : Int) := by omega
                      have hii0 : (i : Int) < (N : Int) := by omega
                      have hw1 : IntKind.i64.wrap (i : Int) = (i : Int) := IntWalk.i64_in _ (by omega)
                      have hw2 : 0 ≤ (i : Int) + 1 := by omega
                      have hw3 : ((i : Int) + 1).toNat = i + 1 := by omega
                      obtain ⟨⟨_, _, _, d3⟩, dl⟩ := Var.lat _ _ _ _ _ _ _ HV5.out hbW
                      have ep := HEP.out
                      rw [ep] at d3
                      clear ep
                      have c1 := cell_later hbW (HCP.out i (by omega))
                      have c2 := cell_later hbW (HCP.out (i + 1) hi)
                      have hx := HX.out
                      have HCB : Hid (crB P X i = (flt .f32 (cn .f32 (P.d.getD i 0)) X != flt .f32 (cn .f32 (P.d.getD (i + 1) 0)) X)) := crB_in rfl rfl
                      generalize P.d.getD i 0 = y1 at c1 HCB
                      generalize P.d.getD (i + 1) 0 = y2 at c2 HCB
                      have hT : Trk wr [b5, bp] := ((Trk.nil wr).more (World.block_lt_of_cell? _ _ c2)).more dl
                      rcases Nat.lt_trichotomy i jc with hlt | hlt | hlt
                      · have hd1 : decide (jc < i) = false := decide_eq_false (by omega)
                        simp only [hd1]
                        have hc0 : (flt .f32 (cn .f32 y1) X != flt .f32 (cn .f32 y2) X) = false := HCB.out.symm.trans (HBF.out i hlt)
                        rcases f1 : flt .f32 (cn .f32 y1) X <;> rcases f2 : flt .f32 (cn .f32 y2) X
                        · as_aux_lemma =>
                            clear hc0
                            go_wp2
                            (refine wp_some_lit (by kernel_rfl) (by kernel_rfl) ?_; (iterate 20 (refine wpSome_one ?_; go_big_quiet_step (fail); refine wpQuiet_nil ?_)); refine wpSome_nil ?_; intro w' hw'; obtain ⟨nq, rfl⟩ := hw')
                            rotate_left
                            all_goals (try (first | kernel_rfl | rfl))
                            go_wp2
                            go_roundw
                            case rel => exact ⟨i + 1, by omega, by go_num, by rw [decide_eq_false (show ¬ jc < i + 1 by omega)] <;> first | rfl | (simp [hd1]), by show Below _ _ _; exact below_then hbW (by (repeat (first | (with_reducible exact Below.refl _ _) | (with_reducible assumption) | (with_reducible refine below_then ?_ (by assumption)) | (with_reducible refine Below.trans ?_ (by assumption)) | (with_reducible refine below_drewN ?_ _) | (with_reducible apply Below.drew) | (with_reducible refine below_alloc ?_ _) | refine Below.setCell ?_ (by first | (simp; done) | (simp; omega)) _)))⟩
                            case measure => simp [intOf]; omega
                        · rw [f1, f2] at hc0; cases hc0
                        · rw [f1, f2] at hc0; cases hc0
                        · as_aux_lemma =>
                            clear hc0
                            go_wp2
                            (refine wp_some_lit (by kernel_rfl) (by kernel_rfl) ?_; (iterate 20 (refine wpSome_one ?_; go_big_quiet_step (fail); refine wpQuiet_nil ?_)); refine wpSome_nil ?_; intro w' hw'; obtain ⟨nq, rfl⟩ := hw')
                            rotate_left
                            all_goals (try (first | kernel_rfl | rfl))
                            go_wp2
                            go_roundw
                            case rel => exact ⟨i + 1, by omega, by go_num, by rw [decide_eq_false (show ¬ jc < i + 1 by omega)] <;> first | rfl | (simp [hd1]), by show Below _ _ _; exact below_then hbW (by (repeat (first | (with_reducible exact Below.refl _ _) | (with_reducible assumption) | (with_reducible refine below_then ?_ (by assumption)) | (with_reducible refine Below.trans ?_ (by assumption)) | (with_reducible refine below_drewN ?_ _) | (with_reducible apply Below.drew) | (with_reducible refine below_alloc ?_ _) | refine Below.setCell ?_ (by first | (simp; done) | (simp; omega)) _)))⟩
                            case measure => simp [intOf]; omega
                      · have hd1 : decide (jc < i) = false := decide_eq_false (by omega)
                        simp only [hd1]
                        have hc0 : (flt .f32 (cn .f32 y1) X != flt .f32 (cn .f32 y2) X) = true := HCB.out.symm.trans (by rw [hlt]; exact HCC.out)
                        have hj1 : jc < i + 1 := by omega
                        clear hlt
                        rcases f1 : flt .f32 (cn .f32 y1) X <;> rcases f2 : flt .f32 (cn .f32 y2) X
                        · rw [f1, f2] at hc0; cases hc0
                        · as_aux_lemma =>
                            clear hc0
                            go_wp2
                            (refine wp_some_lit (by kernel_rfl) (by kernel_rfl) ?_; (iterate 20 (refine wpSome_one ?_; go_big_quiet_step (fail); refine wpQuiet_nil ?_)); refine wpSome_nil ?_; intro w' hw'; obtain ⟨nq, rfl⟩ := hw')
                            rotate_left
                            all_goals (try (first | kernel_rfl | rfl))
                            go_wp2
                            go_roundw
                            case rel => exact ⟨i + 1, by omega, by go_num, by rw [decide_eq_true (show jc < i + 1 by omega)] <;> first | rfl | (simp [hd1]), by show Below _ _ _; exact below_then hbW (by (repeat (first | (with_reducible exact Below.refl _ _) | (with_reducible assumption) | (with_reducible refine below_then ?_ (by assumption)) | (with_reducible refine Below.trans ?_ (by assumption)) | (with_reducible refine below_drewN ?_ _) | (with_reducible apply Below.drew) | (with_reducible refine below_alloc ?_ _) | refine Below.setCell ?_ (by first | (simp; done) | (simp; omega)) _)))⟩
                            case measure => simp [intOf]; omega
                        · as_aux_lemma =>
                            clear hc0
                            go_wp2
                            (refine wp_some_lit (by kernel_rfl) (by kernel_rfl) ?_; (iterate 20 (refine wpSome_one ?_; go_big_quiet_step (fail); refine wpQuiet_nil ?_)); refine wpSome_nil ?_; intro w' hw'; obtain ⟨nq, rfl⟩ := hw')
                            rotate_left
                            all_goals (try (first | kernel_rfl | rfl))
                            go_wp2
                            go_roundw
                            case rel => exact ⟨i + 1, by omega, by go_num, by rw [decide_eq_true (show jc < i + 1 by omega)] <;> first | rfl | (simp [hd1]), by show Below _ _ _; exact below_then hbW (by (repeat (first | (with_reducible exact Below.refl _ _) | (with_reducible assumption) | (with_reducible refine below_then ?_ (by assumption)) | (with_reducible refine Below.trans ?_ (by assumption)) | (with_reducible refine below_drewN ?_ _) | (with_reducible apply Below.drew) | (with_reducible refine below_alloc ?_ _) | refine Below.setCell ?_ (by first | (simp; done) | (simp; omega)) _)))⟩
                            case measure => simp [intOf]; omega
                        · rw [f1, f2] at hc0; cases hc0
                      · as_aux_lemma =>
                          have hd1 : decide (jc < i) = true := decide_eq_true (by omega)
                          simp only [hd1]
                          go_wp2
                          (refine wp_some_lit (by kernel_rfl) (by kernel_rfl) ?_; (iterate 20 (refine wpSome_one ?_; go_big_quiet_step (fail); refine wpQuiet_nil ?_)); refine wpSome_nil ?_; intro w' hw'; obtain ⟨nq, rfl⟩ := hw')
                          rotate_left
                          all_goals (try (first | kernel_rfl | rfl))
                          go_wp2
                          go_roundw
                          case rel => exact ⟨i + 1, by omega, by go_num, by rw [decide_eq_true (show jc < i + 1 by omega)] <;> first | rfl | (simp [hd1]), by show Below _ _ _; exact below_then hbW (by (repeat (first | (with_reducible exact Below.refl _ _) | (with_reducible assumption) | (with_reducible refine below_then ?_ (by assumption)) | (with_reducible refine Below.trans ?_ (by assumption)) | (with_reducible refine below_drewN ?_ _) | (with_reducible apply Below.drew) | (with_reducible refine below_alloc ?_ _) | refine Below.setCell ?_ (by first | (simp; done) | (simp; omega)) _)))⟩
                          case measure => simp [intOf]; omega
                  · have hie : N = i + 1 := by omega
                    have hii : ¬ (i : Int) + 1 < (N : Int) := by omega
                    have hd1 : decide (jc < i) = true := decide_eq_true (by omega)
                    simp only [hd1]
                    clear hie
                    rename World => wm
                    have HK23 : Hid (Bag _ wm) := HK22.out.later hbW
                    clear HK22 HW hbW HCP HEP HV5 HCC HBF
                    obtain ⟨⟨d0, d1, d2, d3⟩, dl⟩ := HK23.out.t.t.t.t.t.t.t.t.t.t.t.g
                    go_wp2_with (first | (go_at_call 17; refine stop_here ?_))
                    unfold Stop
                    clear hii hd1 hjc hso hsb d0 d1 d2 d3 dl
                    refine (rt_warm HDR.out H29.out HPC.out.1 HPC.out.2 HPV.out.2.1 (HK23.out.t.t.t.t.t.t.t.t.t.t.t.t.g)).mono ?_
                    rintro e wo ⟨x33, rfl, h33, hb⟩
                    have HK24 : Hid (Bag _ wo) := HK23.out.later hb
                    clear HK23 hb
                    have hx := HX.out
                    have hbw : Below w.heap.size w wo := HK24.out.t.t.t.t.t.t.t.t.t.t.t.t.t.g
                    obtain ⟨g1, f1⟩ := near_k HPV.out.2.2.1 HV28.out.1 HPV.out.2.2.2.1 HPV.out.2.2.2.2
                    have HG := Lib.hid (fun x y w hx hy => rt_gap (X := wide v) (Y := wide X) x y w hx hy g1)
                    simp only [c01] at f1
                    clear g1
                    go_wp2_with (first | (with_reducible refine at_list ?_; refine wpList_fop rfl rfl rfl rfl rfl ?_; intro r n hr0; have hr := hr0 _ _ (by first | with_reducible assumption | exact rfl) (by first | with_reducible assumption | exact rfl); clear hr0) | (with_reducible refine at_list ?_; refine wpList_neg rfl rfl rfl ?_; intro r hr0; have hr := hr0 _ (by first | with_reducible assumption | exact rfl); clear hr0) | (with_reducible refine at_list ?_; refine wpList_fop_g rfl rfl rfl rfl rfl ?_; intro r n hr0; have hr := hr0 _ _ (by first | with_reducible assumption | exact rfl) (by first | with_reducible assumption | exact rfl); clear hr0) | (with_reducible refine at_list ?_; refine wpList_wide_g rfl rfl Try.underlying28 Try.underlying39 rfl ?_; intro r n hr0; have hr := hr0 _ (by first | with_reducible assumption | exact rfl); clear hr0) | (with_reducible refine at_list ?_; refine wpList_wide rfl rfl rfl Try.underlying28 Try.underlying39 ?_; intro r n hr0; have hr := hr0 _ (by first | with_reducible assumption | exact rfl); clear hr0) | (go_at_call 13; refine ((HG.out _ _ _ (by with_reducible assumption) (by with_reducible assumption)) ).mono ?_; rintro e w' ⟨r, rfl, hr, n, rfl⟩))
                    all_goals (try (first | kernel_rfl | rfl))
                    go_ret
                    exact ⟨by first | rfl | (simp only [*]; done), by (repeat (first | (with_reducible exact Below.refl _ _) | (with_reducible assumption) | (with_reducible refine below_then ?_ (by assumption)) | (with_reducible refine Below.trans ?_ (by assumption)) | (with_reducible refine below_drewN ?_ _) | (with_reducible apply Below.drew) | (with_reducible refine below_alloc ?_ _) | refine Below.setCell ?_ (by first | (simp; done) | (simp; omega)) _))⟩
set_option maxRecDepth 100000 in
set_option maxHeartbeats 2000000 in
theorem lifted_FnRodRests (os : Os) (started : os.Started) (H : Type) (enc : TypeId × Value → H) :
    ReturnsInHanded {} Try.checked os 3 .any (Rows.fnRodRestsSpec.pre6 enc Try.prog Try.f3 Rows.fnRodRestsRow.domain false) (Rows.fnRodRestsSpec.post enc Try.prog Try.f3 false true false false) := by
  refine returnsInHanded_of_change (C := Try.checked) own started (by kernel_rfl) Try.func3
    (ChangeSpec.witness6 (enc := enc) (C := Try.checked) false ⟨#[], #[.slice none 0 0, .slice none 0 0], []⟩ 8 (by kernel_rfl) (by kernel_rfl) (by kernel_rfl) (by kernel_rfl)) ?_
  intro W base args ds gs before hval0 hW hcnd _
  have hval : ∀ (j : Nat) t v, Try.f3.params[j]? = some t → args[j]? = some v → Value.okWide Try.prog W .any base t v := hval0
  have hW' := hW
  obtain ⟨p, q, hA0, hV, rfl, hfz, hnd⟩ := hW
  have hA : DataW.TrodAll enc Try.prog W 0 (fun _ => true) true Try.f3.params.toList args.toList ds p := hA0
  rw [Try.params3] at hA hval
  obtain ⟨v0, vs0, d0, ds0, p0, q0, hargs, rfl, rfl, h0, r0⟩ := trodAll_cons hA
  obtain ⟨v1, vs1, d1, ds1, p1, q1, rfl, rfl, rfl, h1, r1⟩ := trodAll_cons r0
  obtain ⟨rfl, rfl, rfl⟩ := trodAll_nil r1
  obtain rfl : args = #[v0, v1] := by cases args; simp_all
  obtain ⟨rfl, rfl⟩ := trodVars_none hV
  have k0 := h0
  have lt0 : ∀ x ∈ p0, x.block < W.heap.size := by obtain ⟨m, hm⟩ := k0; exact DataW.trod_lt m _ _ _ hm
  obtain ⟨pa, na, ca, rfl, w0⟩ := open_By (hval 0 22 v0 rfl rfl) h0
  have k1 := h1
  have lt1 : ∀ x ∈ p1, x.block < W.heap.size := by obtain ⟨m, hm⟩ := k1; exact DataW.trod_lt m _ _ _ hm
  obtain ⟨pb, nb, cb, rfl, w1⟩ := open_By (hval 1 22 v1 rfl rfl) h1
  clear hA0 hval0
  refine (walk_FnRodRests pa na ca pb nb cb W w0 w1).mono fun e W' ⟨he, hg⟩ => ?_
  subst he
  exact ⟨_, rfl, _, _, _, [], _, [], hW', trodAll_mk1 (shut_bool Try.underlying4 _), (trodAll_cons_mk (Below.trod laidOut (by kernel_rfl) (of_decide_eq_true (by kernel_rfl)) k0 hg lt0) (trodAll_cons_mk (Below.trod laidOut (by kernel_rfl) (of_decide_eq_true (by kernel_rfl)) k1 hg lt1) trodAll_mk0)), rfl, hg.frame _, fun h => by cases h⟩
theorem fnRodRests_holds : Rows.FnRodRestsSaid :=
  OpenClaim.holds_of_wide 3 Try.f3 rfl rfl rfl rfl rfl rfl rfl ⟨rfl, rfl, rfl, rfl, rfl⟩ rfl rfl rfl rfl rfl (by kernel_rfl) Try.func3 (by kernel_rfl)
    (of_decide_eq_true (by kernel_rfl)) (by unfold Func.isWrapper; rw [if_neg (of_decide_eq_false (by kernel_rfl))]; exact ⟨rfl, rfl⟩)
    (fun os started H enc _ => lifted_FnRodRests os started H enc)
end Go.Proofs.Ytpnkapdemgieaaa

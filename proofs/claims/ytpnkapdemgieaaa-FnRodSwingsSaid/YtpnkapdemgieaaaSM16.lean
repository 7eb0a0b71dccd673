/-
  Bytes handed in, for the laws of the other family: their lengths, a number chosen by one of them. No condition but what each contract says.
  What the law on swings calls, with drawn numbers. No condition but what each contract says.
  The law on swings: waves grow weaker and later with depth, fins give at most what they could, and slow swings go all through a rod, nearly: true for every input. No condition.
-/
import Derived.Test.YtpnkapdemgieaaaSM15
import Derived.Test.YtpnkapdemgieaaaSM9
import Derived.Deep.CutRange
set_option linter.unusedSimpArgs false
set_option linter.unusedVariables false
set_option linter.unusedSectionVars false
namespace Go.Proofs.Ytpnkapdemgieaaa
open Go Go.RowKit
open Go.ChangeShapes Go.WideShapes Go.ChangeAt Go.RowKit Go.Joins
theorem r8Long_any (p q : Option Addr) (n c m d : Nat) (w : World) : Calls Try.prog 6 #[.slice p n c, .slice q m d] w (RB w (decide (48 < n) || decide (48 < m))) := by
  by_cases h1 : 48 < n <;> by_cases h2 : 48 < m
  all_goals
    go_enter Try.func6, Try.ntmps6
    go_wp2_with (first | (with_reducible refine at_list ?_; refine wpList_fop rfl rfl rfl rfl rfl ?_; intro r n hr0; have hr := hr0 _ _ (by first | with_reducible assumption | exact rfl) (by first | with_reducible assumption | exact rfl); clear hr0) | (with_reducible refine at_list ?_; refine wpList_neg rfl rfl rfl ?_; intro r hr0; have hr := hr0 _ (by first | with_reducible assumption | exact rfl); clear hr0) | (with_reducible refine at_list ?_; refine wpList_fop_g rfl rfl rfl rfl rfl ?_; intro r n hr0; have hr := hr0 _ _ (by first | with_reducible assumption | exact rfl) (by first | with_reducible assumption | exact rfl); clear hr0) | (with_reducible refine at_list ?_; refine wpList_wide_g rfl rfl Try.underlying28 Try.underlying39 rfl ?_; intro r n hr0; have hr := hr0 _ (by first | with_reducible assumption | exact rfl); clear hr0) | (with_reducible refine at_list ?_; refine wpList_wide rfl rfl rfl Try.underlying28 Try.underlying39 ?_; intro r n hr0; have hr := hr0 _ (by first | with_reducible assumption | exact rfl); clear hr0))
    all_goals
      go_ret
      exact ⟨by first | (simp [h1, h2]; done) | (simp [h1, h2]; omega), by first | exact ⟨_, rfl⟩ | exact ⟨0, rfl⟩⟩
/-- A number below a bound. -/
def RN8 (w : World) (lo hi : Int) (e : Ending) (w' : World) : Prop := ∃ r, e = .returned (.int .i64 r) ∧ (lo ≤ r ∧ r ≤ hi) ∧ ∃ m, w' = w.drewN m
set_option maxHeartbeats 2000000 in
theorem r8At_any (p : Option Addr) (n c i : Nat) (k : Int) (w : World) (h : BY w.heap.size w p n c) (hi : i ≤ 1000) (hk : 1 ≤ k ∧ k ≤ 1000000) : Calls Try.prog 9 #[.slice p n c, .int .i64 i, .int .i64 k] w (RN8 w 0 (k - 1)) := by
  obtain ⟨⟨hc1, hc2⟩, hv⟩ := h
  have HV := Lib.hid hv
  clear hv
  obtain ⟨hk1, hk2⟩ := hk
  by_cases h1 : k ≤ 1
  · go_enter Try.func9, Try.ntmps9
    go_wp2_with (first | (with_reducible refine at_list ?_; refine wpList_fop rfl rfl rfl rfl rfl ?_; intro r n hr0; have hr := hr0 _ _ (by first | with_reducible assumption | exact rfl) (by first | with_reducible assumption | exact rfl); clear hr0) | (with_reducible refine at_list ?_; refine wpList_neg rfl rfl rfl ?_; intro r hr0; have hr := hr0 _ (by first | with_reducible assumption | exact rfl); clear hr0) | (with_reducible refine at_list ?_; refine wpList_fop_g rfl rfl rfl rfl rfl ?_; intro r n hr0; have hr := hr0 _ _ (by first | with_reducible assumption | exact rfl) (by first | with_reducible assumption | exact rfl); clear hr0) | (with_reducible refine at_list ?_; refine wpList_wide_g rfl rfl Try.underlying28 Try.underlying39 rfl ?_; intro r n hr0; have hr := hr0 _ (by first | with_reducible assumption | exact rfl); clear hr0) | (with_reducible refine at_list ?_; refine wpList_wide rfl rfl rfl Try.underlying28 Try.underlying39 ?_; intro r n hr0; have hr := hr0 _ (by first | with_reducible assumption | exact rfl); clear hr0))
    all_goals
      go_ret
      exact ⟨0, rfl, ⟨by omega, by omega⟩, by first | exact ⟨_, rfl⟩ | exact ⟨0, rfl⟩⟩
  by_cases hlt : i < n
  · obtain ⟨bb, o, x, rfl, hbb, hx, hx0, hx1⟩ := HV.out i hlt
    obtain ⟨g1, g2⟩ := rem_bd (x := x) (n := k) hx0 hk1
    go_enter Try.func9, Try.ntmps9
    go_wp2_with (first | (with_reducible refine at_list ?_; refine wpList_fop rfl rfl rfl rfl rfl ?_; intro r n hr0; have hr := hr0 _ _ (by first | with_reducible assumption | exact rfl) (by first | with_reducible assumption | exact rfl); clear hr0) | (with_reducible refine at_list ?_; refine wpList_neg rfl rfl rfl ?_; intro r hr0; have hr := hr0 _ (by first | with_reducible assumption | exact rfl); clear hr0) | (with_reducible refine at_list ?_; refine wpList_fop_g rfl rfl rfl rfl rfl ?_; intro r n hr0; have hr := hr0 _ _ (by first | with_reducible assumption | exact rfl) (by first | with_reducible assumption | exact rfl); clear hr0) | (with_reducible refine at_list ?_; refine wpList_wide_g rfl rfl Try.underlying28 Try.underlying39 rfl ?_; intro r n hr0; have hr := hr0 _ (by first | with_reducible assumption | exact rfl); clear hr0) | (with_reducible refine at_list ?_; refine wpList_wide rfl rfl rfl Try.underlying28 Try.underlying39 ?_; intro r n hr0; have hr := hr0 _ (by first | with_reducible assumption | exact rfl); clear hr0))
    all_goals
      go_ret
      exact ⟨_, rfl, ⟨by go_num, by go_num⟩, by first | exact ⟨_, rfl⟩ | exact ⟨0, rfl⟩⟩
  · obtain ⟨g1, g2⟩ := rem_bd (x := (i : Int) * 37 + 11) (n := k) (by omega) hk1
    go_enter Try.func9, Try.ntmps9
    go_wp2_with (first | (with_reducible refine at_list ?_; refine wpList_fop rfl rfl rfl rfl rfl ?_; intro r n hr0; have hr := hr0 _ _ (by first | with_reducible assumption | exact rfl) (by first | with_reducible assumption | exact rfl); clear hr0) | (with_reducible refine at_list ?_; refine wpList_neg rfl rfl rfl ?_; intro r hr0; have hr := hr0 _ (by first | with_reducible assumption | exact rfl); clear hr0) | (with_reducible refine at_list ?_; refine wpList_fop_g rfl rfl rfl rfl rfl ?_; intro r n hr0; have hr := hr0 _ _ (by first | with_reducible assumption | exact rfl) (by first | with_reducible assumption | exact rfl); clear hr0) | (with_reducible refine at_list ?_; refine wpList_wide_g rfl rfl Try.underlying28 Try.underlying39 rfl ?_; intro r n hr0; have hr := hr0 _ (by first | with_reducible assumption | exact rfl); clear hr0) | (with_reducible refine at_list ?_; refine wpList_wide rfl rfl rfl Try.underlying28 Try.underlying39 ?_; intro r n hr0; have hr := hr0 _ (by first | with_reducible assumption | exact rfl); clear hr0))
    all_goals
      go_ret
      exact ⟨_, rfl, ⟨by go_num, by go_num⟩, by first | exact ⟨_, rfl⟩ | exact ⟨0, rfl⟩⟩
end Go.Proofs.Ytpnkapdemgieaaa
set_option linter.unusedSimpArgs false
set_option linter.unusedVariables false
set_option linter.unusedSectionVars false
namespace Go.Proofs.Ytpnkapdemgieaaa
open Go Go.RowKit
open Go.ChangeShapes Go.WideShapes Go.ChangeAt Go.RowKit Go.Joins
theorem bcb_bv {P : Program} {f : FuncId} {args : Array Value} {w : World} {c d : Nat} {b : Bool} (h : Calls P f args w (BCB w c d b)) (h1 : fnt .f32 c = true) (h2 : fnt .f32 d = true) : Calls P f args w (BV w (.tuple #[.complex .f32 c d, .bool b])) := by
  refine Calls.mono h ?_
  rintro e w' ⟨x, y, rfl, hx, hy, hb⟩
  exact ⟨by rw [raw_fnt (hx.trans (cnf h1)) h1, raw_fnt (hy.trans (cnf h2)) h2], hb⟩
theorem bfb_bv {P : Program} {f : FuncId} {args : Array Value} {w : World} {c : Nat} {b : Bool} (h : Calls P f args w (BFB w .f32 c b)) (h1 : fnt .f32 c = true) : Calls P f args w (BV w (.tuple #[.float .f32 c, .bool b])) := by
  refine Calls.mono h ?_
  rintro e w' ⟨x, rfl, hx, hb⟩
  exact ⟨by rw [raw_fnt hx h1], hb⟩
theorem ord_eq {x y : Nat} (hx : fnt .f32 x = true) (hy : fnt .f32 y = true) (h : fv .f32 x = fv .f32 y) : FloatKind.f32.format.order x y = some Ordering.eq := by
  rcases ordv .f32 hx hy with ⟨_, h2⟩ | ⟨h1, _⟩ | ⟨_, h2⟩
  · grind
  · exact h1
  · grind
theorem fnt_abv {x : Nat} (h : abv x = true) : fnt .f32 x = true := by
  unfold abv at h
  rw [Bool.and_eq_true] at h
  rw [fnt_fin]; exact h.1
theorem fnt_lst {x : Nat} (h : lst x = true) : fnt .f32 x = true := by
  unfold lst at h
  rw [Bool.and_eq_true] at h
  rw [fnt_fin]; exact h.1
/-- What holds of all the words that the law draws ahead of the rod. -/
structure SwQ (R D XA YA XB YB X0 Y0 F1 F2 S1 S2 LA LB : Nat) : Prop where
  fR : fnt .f32 R = true
  fD : fnt .f32 D = true
  wA : ∀ w, Calls Try.prog 27 #[.float .f32 D, .float .f32 R] w (BV w (.tuple #[.complex .f32 XA YA, .bool true]))
  wB : ∀ x w, cn .f32 x = fop .add .f32 D (cn .f32 1040187392) → Calls Try.prog 27 #[.float .f32 x, .float .f32 R] w (BV w (.tuple #[.complex .f32 XB YB, .bool true]))
  w0 : ∀ w, Calls Try.prog 27 #[.float .f32 0, .float .f32 R] w (BV w (.tuple #[.complex .f32 X0 Y0, .bool true]))
  d1 : ∀ w, Calls Try.prog 28 #[.float .f32 R, .float .f32 1065353216, .float .f32 1048576000] w (BV w (.tuple #[.float .f32 F1, .bool true]))
  d2 : ∀ w, Calls Try.prog 28 #[.float .f32 R, .float .f32 1065353216, .float .f32 1065353216] w (BV w (.tuple #[.float .f32 F2, .bool true]))
  s1 : ∀ w, Calls Try.prog 29 #[.float .f32 1048576000, .float .f32 R, .float .f32 1040187392, .float .f32 1031798784] w (BV w (.tuple #[.float .f32 S1, .bool true]))
  s2 : ∀ w, Calls Try.prog 29 #[.float .f32 1073741824, .float .f32 R, .float .f32 1040187392, .float .f32 1031798784] w (BV w (.tuple #[.float .f32 S2, .bool true]))
  lA : ∀ w, Calls Try.prog 30 #[.complex .f32 XA YA] w (BV w (.float .f32 LA))
  lB : ∀ w, Calls Try.prog 30 #[.complex .f32 XB YB] w (BV w (.float .f32 LB))
  cn : (Go.Proofs.Ytpnkapdemgieaaa.cn .f32 F1 = F1 ∧ Go.Proofs.Ytpnkapdemgieaaa.cn .f32 F2 = F2) ∧ (Go.Proofs.Ytpnkapdemgieaaa.cn .f32 S1 = S1 ∧ Go.Proofs.Ytpnkapdemgieaaa.cn .f32 S2 = S2) ∧ Go.Proofs.Ytpnkapdemgieaaa.cn .f32 LA = LA ∧ Go.Proofs.Ytpnkapdemgieaaa.cn .f32 LB = LB
  top : FloatKind.f32.format.order X0 1065353216 = some Ordering.eq ∧ FloatKind.f32.format.order Y0 0 = some Ordering.eq
  lt : fgt .f32 LB LA = false
  one : fgt .f64 (wide LA) (Go.Proofs.Ytpnkapdemgieaaa.cn .f64 4607186922399644778) = false
  gap : gapOk (wide F1) (fop .mul .f64 (Go.Proofs.Ytpnkapdemgieaaa.cn .f64 4611686018427387904) (wide F2))
  gap2 : fgt .f64 (gap8 (wide F1) (fop .mul .f64 (Go.Proofs.Ytpnkapdemgieaaa.cn .f64 4611686018427387904) (wide F2))) (fop .mul .f64 (Go.Proofs.Ytpnkapdemgieaaa.cn .f64 4562254508917369340) (fop .add .f64 (Go.Proofs.Ytpnkapdemgieaaa.cn .f64 4607182418800017408) (wide F1))) = false
  pos : fle .f32 S1 (Go.Proofs.Ytpnkapdemgieaaa.cn .f32 0) = false
  one2 : fgt .f64 (wide S1) (Go.Proofs.Ytpnkapdemgieaaa.cn .f64 4607186922399644778) = false
  lt2 : fgt .f32 S2 S1 = false
theorem pos_lits : abv (cn .f32 1065353216) = true ∧ abv (cn .f32 1048576000) = true ∧ abv (cn .f32 1040187392) = true ∧ abv (cn .f32 1031798784) = true ∧ abv (cn .f32 1073741824) = true := by decide +kernel
theorem lit_one : fnt .f32 1065353216 = true ∧ cn .f32 1065353216 = 1065353216 := by decide +kernel
theorem swQ_all {i j : Nat} (hi : i ≤ 16) (hj : j < 16) : ∃ XA YA XB YB X0 Y0 F1 F2 S1 S2 LA LB, SwQ (rch j) (dpt i) XA YA XB YB X0 Y0 F1 F2 S1 S2 LA LB := by
  have G := wvG_all hj
  have Df := dfG_all hj
  obtain ⟨p1, p2, p3, p4, p5⟩ := pos_lits
  obtain ⟨e1, l1⟩ := dpt_next i (by omega)
  have l2 : lst (dpt (i + 1)) = true := by
    by_cases h : i = 16
    · subst h; exact dpt_17
    · exact (dpt_next (i + 1) (by omega)).2
  have l0 : lst (dpt 0) = true := (dpt_next 0 (by decide)).2
  have fR := fnt_abv Df.abv
  have A := wvOk_s (G.ok i (by omega))
  have B := wvOk_s (G.ok (i + 1) (by omega))
  have Z := wvOk_s (G.ok 0 (by decide))
  have ok := Df.ok
  unfold dfOk at ok
  simp only [Bool.and_eq_true, Bool.not_eq_true'] at ok
  obtain ⟨⟨⟨⟨⟨⟨⟨⟨k1, k2⟩, k3⟩, k4⟩, k5, k6⟩, k7⟩, k8⟩, k9⟩, k10⟩ := ok
  rw [← fnt_fin] at k1 k2 k3 k4 k5 k6
  have one := G.one
  unfold wvU isOne at one
  rw [Bool.and_eq_true] at one
  obtain ⟨o1, o2⟩ := one
  rw [feqv Z.fx V1.1, V1.2] at o1
  rw [feqv Z.fy V0.1, V0.2] at o2
  have o1 := of_decide_eq_true o1
  have o2 := of_decide_eq_true o2
  have fl : ∀ {x y : Nat}, fits (sqC (pwW x y)) = true → fnt .f32 x = true → fnt .f32 y = true → fnt .f32 (narrow (sqC (pwW x y))) = true → ∀ w, Calls Try.prog 30 #[.complex .f32 x y] w (BV w (.float .f32 (narrow (sqC (pwW x y))))) := fun {x y} h1 h2 h3 h4 w => by
    have q := longC_any x y w (by rw [cnf h2, cnf h3]; exact h1)
    rw [cnf h2, cnf h3] at q
    exact rf_bv q h4
  refine ⟨wvX (dpt i) (rch j), wvY (dpt i) (rch j), wvX (dpt (i + 1)) (rch j), wvY (dpt (i + 1)) (rch j), wvX (dpt 0) (rch j), wvY (dpt 0) (rch j), _, _, _, _, narrow (wvL (dpt i) (rch j)), narrow (wvL (dpt (i + 1)) (rch j)), ⟨fR, fnt_lst l1, ?_, ?_, ?_, ?_, ?_, ?_, ?_, ?_, ?_, ⟨⟨cnf k1, cnf k2⟩, ⟨cnf k3, cnf k4⟩, cnf A.fl, cnf B.fl⟩, ⟨?_, ?_⟩, G.lt i (by omega), A.one, ⟨k5, k6⟩, k7, k8, k9, k10⟩⟩
  · exact fun w => bcb_bv (wave_yes (dpt i) (rch j) _ _ w (cnf (fnt_lst l1)) (cnf fR) l1 Df.abv (G.ok i (by omega))) A.fx A.fy
  · intro x w hx
    rw [e1] at hx
    exact bcb_bv (wave_yes x (rch j) _ _ w hx (cnf fR) l2 Df.abv (G.ok (i + 1) (by omega))) B.fx B.fy
  · exact fun w => bcb_bv (wave_yes 0 (rch j) _ _ w dpt_0.symm (cnf fR) l0 Df.abv (G.ok 0 (by decide))) Z.fx Z.fy
  · intro w
    have q := waveDepth_yes (rch j) 1065353216 1048576000 w (by rw [cnf fR]; exact Df.abv) p1 p2 (by rw [cnf fR]; exact Df.a) (by rw [cnf fR, ← fnt_fin]; exact k1)
    rw [cnf fR] at q
    exact bfb_bv q k1
  · intro w
    have q := waveDepth_yes (rch j) 1065353216 1065353216 w (by rw [cnf fR]; exact Df.abv) p1 p1 (by rw [cnf fR]; exact Df.b) (by rw [cnf fR, ← fnt_fin]; exact k2)
    rw [cnf fR] at q
    exact bfb_bv q k2
  · intro w
    have q := finShare_yes 1048576000 (rch j) 1040187392 1031798784 w p2 (by rw [cnf fR]; exact Df.abv) p3 p4 (by rw [cnf fR]; exact Df.c) (by rw [cnf fR, ← fnt_fin]; exact k3)
    rw [cnf fR] at q
    exact bfb_bv q k3
  · intro w
    have q := finShare_yes 1073741824 (rch j) 1040187392 1031798784 w p5 (by rw [cnf fR]; exact Df.abv) p3 p4 (by rw [cnf fR]; exact Df.d) (by rw [cnf fR, ← fnt_fin]; exact k4)
    rw [cnf fR] at q
    exact bfb_bv q k4
  · exact fl A.fit A.fx A.fy A.fl
  · exact fl B.fit B.fx B.fy B.fl
  · exact ord_eq Z.fx lit_one.1 (by rw [o1, ← lit_one.2, V1.2])
  · exact ord_eq Z.fy zero_fw.1.1 (by rw [o2, zero_fv])
theorem sw_rod (p : Option Addr) (n c : Nat) (w : World) (h : BY w.heap.size w p n c) (hn : n ≤ 1048576) : Calls Try.prog 7 #[.slice p n c] w (fun e w' => ∃ (N : Nat) (P : Rd) (m : RL) (A B C T : Nat → Int), e = .returned (.agg #[.slice m.p1 N m.c1, .slice m.p2 N m.c2, .slice m.p3 N m.c3, .slice m.p4 N m.c4]) ∧ (1 ≤ N ∧ N ≤ 6) ∧ WR P N A B C T ∧ Rdn P m N w' ∧ Below w.heap.size w w') := by
  refine (R8Rod_any p n c w h hn).mono ?_
  rintro e w' ⟨N, L, m, rfl, hN, hL, hf, hb⟩
  obtain ⟨A, B, C, T, hw⟩ := hL.wr hN
  have q : Rdn ⟨L 0, L 1, L 2, L 3⟩ m N w' := ⟨⟨hw.la, hw.lb, hw.lc, hw.ld⟩, hf⟩
  refine ⟨N, ⟨L 0, L 1, L 2, L 3⟩, m, A, B, C, T, ?_, hN, hw, q, hb⟩
  have := q.val
  unfold rnV at this
  rw [← this]
theorem sw_gap {X Y : Nat} (x y : Nat) (w : World) (hx : cn .f64 x = X) (hy : cn .f64 y = Y) (h : gapOk X Y) : Calls Try.prog 13 #[.float .f64 x, .float .f64 y] w (RF w .f64 (gap8 X Y)) := by
  have := r8Gap_any x y w (by rw [hx, hy]; exact h)
  rwa [hx, hy] at this
end Go.Proofs.Ytpnkapdemgieaaa
set_option linter.unusedSimpArgs false
set_option linter.unusedVariables false
set_option linter.unusedSectionVars false
namespace Go.Proofs.Ytpnkapdemgieaaa
open Go Go.RowKit
open Go.ChangeShapes Go.WideShapes Go.ChangeAt Go.RowKit Go.Joins
theorem drn {a b : World} {n : Nat} (h : Below (a.drewN n).heap.size (a.drewN n) b) : Below a.heap.size a b := by
  rw [size_drewN'] at h
  exact (below_drewN (Below.refl _ _) n).trans h
theorem bel_step {w a b : World} (h : Below w.heap.size w a) (hb : Below a.heap.size a b) : Below w.heap.size w b := h.trans (hb.mono h.size)
theorem CW.lat (B g n : Nat) (f : Nat → Nat × Nat) : Lat (fun w => CW B w g n f) := fun _ _ h hb => h.later hb
theorem SwH.long {n : Nat} {p s : Nat → Nat} (h : SwH n p s) {i : Nat} (hi : i < n) (w : World) : Calls Try.prog 30 #[.complex .f32 (oW p s n i).1 (oW p s n i).2] w (BV w (.float .f32 (lgW (oW p s n i).1 (oW p s n i).2))) := by
  have B := h.bk hi
  obtain ⟨l1, l2, _⟩ := h.lg hi
  have q := longC_any (oW p s n i).1 (oW p s n i).2 w (by rw [cnf B.a.1.1, cnf B.b.1.1]; exact l1)
  rw [cnf B.a.1.1, cnf B.b.1.1] at q
  exact rf_bv q l2
theorem SwH.lcn {n : Nat} {p s : Nat → Nat} (h : SwH n p s) {i : Nat} (hi : i < n) : cn .f32 (lgW (oW p s n i).1 (oW p s n i).2) = lgW (oW p s n i).1 (oW p s n i).2 := cnf (h.lg hi).2.1
theorem rates : abv (cn .f32 925353388) = true ∧ abv (cn .f32 1082130432) = true := by decide +kernel
set_option maxHeartbeats 16000000 in
set_option maxRecDepth 100000 in
theorem walk_FnRodSwings (pa : Option Addr) (na ca : Nat) (pb : Option Addr) (nb cb : Nat) (w : World) (hp : BY w.heap.size w pa na ca) (hq : BY w.heap.size w pb nb cb) : Calls Try.prog 5 #[.slice pa na ca, .slice pb nb cb] w (BV w (.bool true)) := by
  have HP := Lib.hid hp
  have HQ := Lib.hid hq
  clear hp hq
  by_cases hlong : 48 < na ∨ 48 < nb
  · have HL := Lib.hid (fun w => (show Calls Try.prog 6 #[.slice pa na ca, .slice pb nb cb] w (RB w true) from (show (decide (48 < na) || decide (48 < nb)) = true by simpa using hlong) ▸ r8Long_any pa pb na ca nb cb w))
    go_enter Try.func5, Try.ntmps5
    go_wp2_with (first | (go_at_call 6; refine (HL.out _).mono ?_; rintro e w' ⟨rfl, n, rfl⟩))
    go_ret
    exact ⟨rfl, by (repeat (first | (with_reducible exact Below.refl _ _) | (with_reducible assumption) | (with_reducible refine below_then ?_ (by assumption)) | (with_reducible refine Below.trans ?_ (by assumption)) | (with_reducible refine below_drewN ?_ _) | (with_reducible apply Below.drew) | (with_reducible refine below_alloc ?_ _) | refine Below.setCell ?_ (by first | (simp; done) | (simp; omega)) _))⟩
  have HL := Lib.hid (fun w => (show Calls Try.prog 6 #[.slice pa na ca, .slice pb nb cb] w (RB w false) from (show (decide (48 < na) || decide (48 < nb)) = false by simp; omega) ▸ r8Long_any pa pb na ca nb cb w))
  have hn1 : na ≤ 1048576 := by omega
  have hk1 : nb ≤ 1048576 := by omega
  clear hlong
  go_enter Try.func5, Try.ntmps5
  go_wp2_with (first | (go_at_call 6; refine (HL.out _).mono ?_; rintro e w' ⟨rfl, n, rfl⟩) | (go_at_call 9; refine stop_here ?_))
  unfold Stop
  refine calls_named ?_
  intro w0 hw0
  have HW0 : Hid (Below w.heap.size w w0) := by show Below _ _ _; rw [hw0]; (repeat (first | (with_reducible exact Below.refl _ _) | (with_reducible assumption) | (with_reducible refine below_then ?_ (by assumption)) | (with_reducible refine Below.trans ?_ (by assumption)) | (with_reducible refine below_drewN ?_ _) | (with_reducible apply Below.drew) | (with_reducible refine below_alloc ?_ _) | refine Below.setCell ?_ (by first | (simp; done) | (simp; omega)) _))
  clear hw0
  refine (r8At_any _ _ _ 0 16 _ ((HQ.out.later (C := w.heap.size) HW0.out (Nat.le_refl _)).mono HW0.out.size) (by omega) (by omega)).mono ?_
  rintro e w' ⟨z, rfl, ⟨hz1, hz2⟩, nq, rfl⟩
  obtain ⟨j, rfl⟩ : ∃ j : Nat, z = (j : Int) := ⟨z.toNat, by omega⟩
  have hj : j < 16 := by omega
  have HJ : Hid (rch j = fop .quo .f32 (cn .f32 (floatOfInt .f32 ((1 : Int) + (j : Int)))) (cn .f32 1090519040)) := rfl
  have hwj : IntKind.i64.wrap (1 + (j : Int)) = 1 + (j : Int) := IntWalk.i64_in _ (by omega)
  go_wp2_with (first | (with_reducible refine at_list ?_; refine wpList_fop rfl rfl rfl rfl rfl ?_; intro r n hr0; have hr := hr0 _ _ (by first | with_reducible assumption | exact rfl) (by first | with_reducible assumption | exact rfl); clear hr0) | (with_reducible refine at_list ?_; refine wpList_neg rfl rfl rfl ?_; intro r hr0; have hr := hr0 _ (by first | with_reducible assumption | exact rfl); clear hr0) | (with_reducible refine at_list ?_; refine wpList_fop_g rfl rfl rfl rfl rfl ?_; intro r n hr0; have hr := hr0 _ _ (by first | with_reducible assumption | exact rfl) (by first | with_reducible assumption | exact rfl); clear hr0) | (with_reducible refine at_list ?_; refine wpList_wide_g rfl rfl Try.underlying28 Try.underlying39 rfl ?_; intro r n hr0; have hr := hr0 _ (by first | with_reducible assumption | exact rfl); clear hr0) | (with_reducible refine at_list ?_; refine wpList_wide rfl rfl rfl Try.underlying28 Try.underlying39 ?_; intro r n hr0; have hr := hr0 _ (by first | with_reducible assumption | exact rfl); clear hr0) | (go_at_call 9; refine stop_here ?_))
  unfold Stop
  obtain rfl : r = rch j := raw_fnt (hr.trans HJ.out.symm) (fnt_abv (dfG_all hj).abv)
  clear hr HJ hz1 hz2 hwj
  refine calls_named ?_
  intro w2 hw2
  have HW2 : Hid (Below w.heap.size w w2) := by show Below _ _ _; rw [hw2]; exact HW0.out.trans (by first | (repeat (first | (with_reducible exact Below.refl _ _) | (with_reducible assumption) | (with_reducible refine below_then ?_ (by assumption)) | (with_reducible refine Below.trans ?_ (by assumption)) | (with_reducible refine below_drewN ?_ _) | (with_reducible apply Below.drew) | (with_reducible refine below_alloc ?_ _) | refine Below.setCell ?_ (by first | (simp; done) | (simp; omega)) _)) | exact below_drewN (Below.refl _ _) _)
  clear hw2 HW0
  refine (r8At_any _ _ _ 1 17 _ ((HQ.out.later (C := w.heap.size) HW2.out (Nat.le_refl _)).mono HW2.out.size) (by omega) (by omega)).mono ?_
  rintro e w' ⟨z, rfl, ⟨hz1, hz2⟩, nq, rfl⟩
  obtain ⟨i, rfl⟩ : ∃ i : Nat, z = (i : Int) := ⟨z.toNat, by omega⟩
  have hi : i ≤ 16 := by omega
  have HI : Hid (dpt i = fop .quo .f32 (cn .f32 (floatOfInt .f32 (i : Int))) (cn .f32 1090519040)) := rfl
  obtain ⟨XA, YA, XB, YB, X0, Y0, F1, F2, S1, S2, LA, LB, hQ⟩ := swQ_all hi hj
  have SQ := Lib.hid hQ
  clear hQ hi hj
  generalize rch j = R at *
  go_wp2_with (first | (with_reducible refine at_list ?_; refine wpList_fop rfl rfl rfl rfl rfl ?_; intro r n hr0; have hr := hr0 _ _ (by first | with_reducible assumption | exact rfl) (by first | with_reducible assumption | exact rfl); clear hr0) | (with_reducible refine at_list ?_; refine wpList_neg rfl rfl rfl ?_; intro r hr0; have hr := hr0 _ (by first | with_reducible assumption | exact rfl); clear hr0) | (with_reducible refine at_list ?_; refine wpList_fop_g rfl rfl rfl rfl rfl ?_; intro r n hr0; have hr := hr0 _ _ (by first | with_reducible assumption | exact rfl) (by first | with_reducible assumption | exact rfl); clear hr0) | (with_reducible refine at_list ?_; refine wpList_wide_g rfl rfl Try.underlying28 Try.underlying39 rfl ?_; intro r n hr0; have hr := hr0 _ (by first | with_reducible assumption | exact rfl); clear hr0) | (with_reducible refine at_list ?_; refine wpList_wide rfl rfl rfl Try.underlying28 Try.underlying39 ?_; intro r n hr0; have hr := hr0 _ (by first | with_reducible assumption | exact rfl); clear hr0) | (go_at_call 27; refine stop_here ?_))
  unfold Stop
  obtain rfl : r = dpt i := raw_fnt (hr.trans HI.out.symm) SQ.out.fD
  clear hr HI hz1 hz2
  generalize dpt i = D at *
  refine (SQ.out.wA _).mono ?_
  rintro e w3 ⟨rfl, hb⟩
  have HW3 : Hid (Below w.heap.size w w3) := by show Below _ _ _; first | exact bel_step HW2.out (drn hb) | exact bel_step HW2.out hb
  clear hb HW2
  go_wp2_with (first | (with_reducible refine at_list ?_; refine wpList_fop rfl rfl rfl rfl rfl ?_; intro r n hr0; have hr := hr0 _ _ (by first | with_reducible assumption | exact rfl) (by first | with_reducible assumption | exact rfl); clear hr0) | (with_reducible refine at_list ?_; refine wpList_neg rfl rfl rfl ?_; intro r hr0; have hr := hr0 _ (by first | with_reducible assumption | exact rfl); clear hr0) | (with_reducible refine at_list ?_; refine wpList_fop_g rfl rfl rfl rfl rfl ?_; intro r n hr0; have hr := hr0 _ _ (by first | with_reducible assumption | exact rfl) (by first | with_reducible assumption | exact rfl); clear hr0) | (with_reducible refine at_list ?_; refine wpList_wide_g rfl rfl Try.underlying28 Try.underlying39 rfl ?_; intro r n hr0; have hr := hr0 _ (by first | with_reducible assumption | exact rfl); clear hr0) | (with_reducible refine at_list ?_; refine wpList_wide rfl rfl rfl Try.underlying28 Try.underlying39 ?_; intro r n hr0; have hr := hr0 _ (by first | with_reducible assumption | exact rfl); clear hr0) | (go_at_call 27; refine stop_here ?_))
  unfold Stop
  have hr2 := hr
  rw [cnf SQ.out.fD] at hr2
  refine (SQ.out.wB _ _ hr2).mono ?_
  rintro e w4 ⟨rfl, hb⟩
  have HW4 : Hid (Below w.heap.size w w4) := by show Below _ _ _; first | exact bel_step HW3.out (drn hb) | exact bel_step HW3.out hb
  clear hb HW3 hr hr2
  go_wp2_with (first | (with_reducible refine at_list ?_; refine wpList_fop rfl rfl rfl rfl rfl ?_; intro r n hr0; have hr := hr0 _ _ (by first | with_reducible assumption | exact rfl) (by first | with_reducible assumption | exact rfl); clear hr0) | (with_reducible refine at_list ?_; refine wpList_neg rfl rfl rfl ?_; intro r hr0; have hr := hr0 _ (by first | with_reducible assumption | exact rfl); clear hr0) | (with_reducible refine at_list ?_; refine wpList_fop_g rfl rfl rfl rfl rfl ?_; intro r n hr0; have hr := hr0 _ _ (by first | with_reducible assumption | exact rfl) (by first | with_reducible assumption | exact rfl); clear hr0) | (with_reducible refine at_list ?_; refine wpList_wide_g rfl rfl Try.underlying28 Try.underlying39 rfl ?_; intro r n hr0; have hr := hr0 _ (by first | with_reducible assumption | exact rfl); clear hr0) | (with_reducible refine at_list ?_; refine wpList_wide rfl rfl rfl Try.underlying28 Try.underlying39 ?_; intro r n hr0; have hr := hr0 _ (by first | with_reducible assumption | exact rfl); clear hr0) | (go_at_call 27; refine stop_here ?_))
  unfold Stop
  refine (SQ.out.w0 _).mono ?_
  rintro e w5 ⟨rfl, hb⟩
  have HW5 : Hid (Below w.heap.size w w5) := by show Below _ _ _; first | exact bel_step HW4.out (drn hb) | exact bel_step HW4.out hb
  clear hb HW4
  go_wp2_with (first | (with_reducible refine at_list ?_; refine wpList_fop rfl rfl rfl rfl rfl ?_; intro r n hr0; have hr := hr0 _ _ (by first | with_reducible assumption | exact rfl) (by first | with_reducible assumption | exact rfl); clear hr0) | (with_reducible refine at_list ?_; refine wpList_neg rfl rfl rfl ?_; intro r hr0; have hr := hr0 _ (by first | with_reducible assumption | exact rfl); clear hr0) | (with_reducible refine at_list ?_; refine wpList_fop_g rfl rfl rfl rfl rfl ?_; intro r n hr0; have hr := hr0 _ _ (by first | with_reducible assumption | exact rfl) (by first | with_reducible assumption | exact rfl); clear hr0) | (with_reducible refine at_list ?_; refine wpList_wide_g rfl rfl Try.underlying28 Try.underlying39 rfl ?_; intro r n hr0; have hr := hr0 _ (by first | with_reducible assumption | exact rfl); clear hr0) | (with_reducible refine at_list ?_; refine wpList_wide rfl rfl rfl Try.underlying28 Try.underlying39 ?_; intro r n hr0; have hr := hr0 _ (by first | with_reducible assumption | exact rfl); clear hr0) | (go_at_call 28; refine stop_here ?_))
  unfold Stop
  refine (SQ.out.d1 _).mono ?_
  rintro e w6 ⟨rfl, hb⟩
  have HW6 : Hid (Below w.heap.size w w6) := by show Below _ _ _; first | exact bel_step HW5.out (drn hb) | exact bel_step HW5.out hb
  clear hb HW5
  go_wp2_with (first | (with_reducible refine at_list ?_; refine wpList_fop rfl rfl rfl rfl rfl ?_; intro r n hr0; have hr := hr0 _ _ (by first | with_reducible assumption | exact rfl) (by first | with_reducible assumption | exact rfl); clear hr0) | (with_reducible refine at_list ?_; refine wpList_neg rfl rfl rfl ?_; intro r hr0; have hr := hr0 _ (by first | with_reducible assumption | exact rfl); clear hr0) | (with_reducible refine at_list ?_; refine wpList_fop_g rfl rfl rfl rfl rfl ?_; intro r n hr0; have hr := hr0 _ _ (by first | with_reducible assumption | exact rfl) (by first | with_reducible assumption | exact rfl); clear hr0) | (with_reducible refine at_list ?_; refine wpList_wide_g rfl rfl Try.underlying28 Try.underlying39 rfl ?_; intro r n hr0; have hr := hr0 _ (by first | with_reducible assumption | exact rfl); clear hr0) | (with_reducible refine at_list ?_; refine wpList_wide rfl rfl rfl Try.underlying28 Try.underlying39 ?_; intro r n hr0; have hr := hr0 _ (by first | with_reducible assumption | exact rfl); clear hr0) | (go_at_call 28; refine stop_here ?_))
  unfold Stop
  refine (SQ.out.d2 _).mono ?_
  rintro e w7 ⟨rfl, hb⟩
  have HW7 : Hid (Below w.heap.size w w7) := by show Below _ _ _; first | exact bel_step HW6.out (drn hb) | exact bel_step HW6.out hb
  clear hb HW6
  go_wp2_with (first | (with_reducible refine at_list ?_; refine wpList_fop rfl rfl rfl rfl rfl ?_; intro r n hr0; have hr := hr0 _ _ (by first | with_reducible assumption | exact rfl) (by first | with_reducible assumption | exact rfl); clear hr0) | (with_reducible refine at_list ?_; refine wpList_neg rfl rfl rfl ?_; intro r hr0; have hr := hr0 _ (by first | with_reducible assumption | exact rfl); clear hr0) | (with_reducible refine at_list ?_; refine wpList_fop_g rfl rfl rfl rfl rfl ?_; intro r n hr0; have hr := hr0 _ _ (by first | with_reducible assumption | exact rfl) (by first | with_reducible assumption | exact rfl); clear hr0) | (with_reducible refine at_list ?_; refine wpList_wide_g rfl rfl Try.underlying28 Try.underlying39 rfl ?_; intro r n hr0; have hr := hr0 _ (by first | with_reducible assumption | exact rfl); clear hr0) | (with_reducible refine at_list ?_; refine wpList_wide rfl rfl rfl Try.underlying28 Try.underlying39 ?_; intro r n hr0; have hr := hr0 _ (by first | with_reducible assumption | exact rfl); clear hr0) | (go_at_call 29; refine stop_here ?_))
  unfold Stop
  refine (SQ.out.s1 _).mono ?_
  rintro e w8 ⟨rfl, hb⟩
  have HW8 : Hid (Below w.heap.size w w8) := by show Below _ _ _; first | exact bel_step HW7.out (drn hb) | exact bel_step HW7.out hb
  clear hb HW7
  go_wp2_with (first | (with_reducible refine at_list ?_; refine wpList_fop rfl rfl rfl rfl rfl ?_; intro r n hr0; have hr := hr0 _ _ (by first | with_reducible assumption | exact rfl) (by first | with_reducible assumption | exact rfl); clear hr0) | (with_reducible refine at_list ?_; refine wpList_neg rfl rfl rfl ?_; intro r hr0; have hr := hr0 _ (by first | with_reducible assumption | exact rfl); clear hr0) | (with_reducible refine at_list ?_; refine wpList_fop_g rfl rfl rfl rfl rfl ?_; intro r n hr0; have hr := hr0 _ _ (by first | with_reducible assumption | exact rfl) (by first | with_reducible assumption | exact rfl); clear hr0) | (with_reducible refine at_list ?_; refine wpList_wide_g rfl rfl Try.underlying28 Try.underlying39 rfl ?_; intro r n hr0; have hr := hr0 _ (by first | with_reducible assumption | exact rfl); clear hr0) | (with_reducible refine at_list ?_; refine wpList_wide rfl rfl rfl Try.underlying28 Try.underlying39 ?_; intro r n hr0; have hr := hr0 _ (by first | with_reducible assumption | exact rfl); clear hr0) | (go_at_call 29; refine stop_here ?_))
  unfold Stop
  refine (SQ.out.s2 _).mono ?_
  rintro e w9 ⟨rfl, hb⟩
  have HW9 : Hid (Below w.heap.size w w9) := by show Below _ _ _; first | exact bel_step HW8.out (drn hb) | exact bel_step HW8.out hb
  clear hb HW8
  go_upto_region 12 with fail
  obtain ⟨⟨c1, c2⟩, ⟨c3, c4⟩, c5, c6⟩ := SQ.out.cn
  obtain ⟨t1, t2⟩ := SQ.out.top
  have f1 := SQ.out.lt
  have f2 := SQ.out.one
  have f3 := SQ.out.gap2
  have f4 := SQ.out.pos
  have f5 := SQ.out.one2
  have f6 := SQ.out.lt2
  have HLA := Lib.hid SQ.out.lA
  have HLB := Lib.hid SQ.out.lB
  have HG := Lib.hid (fun x y w hx hy => sw_gap (X := wide F1) (Y := fop .mul .f64 (cn .f64 4611686018427387904) (wide F2)) x y w hx hy SQ.out.gap)
  simp only [List.append]
  go_wp2_with (first | (with_reducible refine at_list ?_; refine wpList_fop rfl rfl rfl rfl rfl ?_; intro r n hr0; have hr := hr0 _ _ (by first | with_reducible assumption | exact rfl) (by first | with_reducible assumption | exact rfl); clear hr0) | (with_reducible refine at_list ?_; refine wpList_neg rfl rfl rfl ?_; intro r hr0; have hr := hr0 _ (by first | with_reducible assumption | exact rfl); clear hr0) | (with_reducible refine at_list ?_; refine wpList_fop_g rfl rfl rfl rfl rfl ?_; intro r n hr0; have hr := hr0 _ _ (by first | with_reducible assumption | exact rfl) (by first | with_reducible assumption | exact rfl); clear hr0) | (with_reducible refine at_list ?_; refine wpList_wide_g rfl rfl Try.underlying28 Try.underlying39 rfl ?_; intro r n hr0; have hr := hr0 _ (by first | with_reducible assumption | exact rfl); clear hr0) | (with_reducible refine at_list ?_; refine wpList_wide rfl rfl rfl Try.underlying28 Try.underlying39 ?_; intro r n hr0; have hr := hr0 _ (by first | with_reducible assumption | exact rfl); clear hr0) | (go_at_call 7; refine stop_here ?_) | (go_at_call_of 30 (Value.complex .f32 XA YA); refine ((HLA.out _) ).mono ?_; rintro e w' ⟨rfl, hb⟩; obtain ⟨hT, hk⟩ := bv_next hb (by (repeat (with_reducible first | assumption | apply Trk.alloc | apply Trk.setCell | apply Trk.drewN | apply Trk.drew | exact Trk.nil _))); simp only [SameOn, World.size_alloc, World.size_setCell, World.size_drew, size_drewN', and_true] at hk; have hsz := Below.size hb; (try simp only [World.size_alloc, World.size_setCell, World.size_drew, size_drewN'] at hsz)) | (go_at_call_of 30 (Value.complex .f32 XB YB); refine ((HLB.out _) ).mono ?_; rintro e w' ⟨rfl, hb⟩; obtain ⟨hT, hk⟩ := bv_next hb (by (repeat (with_reducible first | assumption | apply Trk.alloc | apply Trk.setCell | apply Trk.drewN | apply Trk.drew | exact Trk.nil _))); simp only [SameOn, World.size_alloc, World.size_setCell, World.size_drew, size_drewN', and_true] at hk; have hsz := Below.size hb; (try simp only [World.size_alloc, World.size_setCell, World.size_drew, size_drewN'] at hsz)) | (go_at_call 13; refine ((HG.out _ _ _ (by with_reducible assumption) (by with_reducible assumption)) ).mono ?_; rintro e w' ⟨r, rfl, hr, n, rfl⟩))
  unfold Stop
  refine calls_named ?_
  intro wa hwa
  have HWa : Hid (Below w.heap.size w wa) := by
    show Below _ _ _
    have h9 := HW9.out
    rw [hwa]
    exact bel_step h9 (by (repeat (first | (with_reducible exact Below.refl _ _) | (with_reducible assumption) | (with_reducible refine below_then ?_ (by assumption)) | (with_reducible refine Below.trans ?_ (by assumption)) | (with_reducible refine below_drewN ?_ _) | (with_reducible apply Below.drew) | (with_reducible refine below_alloc ?_ _) | refine Below.setCell ?_ (by first | (simp; done) | (simp; omega)) _)))
  clear hwa HW9 SQ c1 c2 c3 c4 c5 c6 t1 t2 f1 f2 f3 f4 f5 f6 HLA HLB HG
  refine (sw_rod _ _ _ _ ((HP.out.later (C := w.heap.size) HWa.out (Nat.le_refl _)).mono HWa.out.size) hn1).mono ?_
  rintro e w1 ⟨N, P, m0, A, B, C, T, rfl, ⟨hN1, hN6⟩, hwr, hfs, hb⟩
  have HWR := Lib.hid hwr
  have HK0 : Hid (Bag [Rdn P m0 N, Bel w] w1) := ((Bag.nil _).add (Bel.lat w) (bel_step HWa.out hb)).add (Rdn.lat _ _ _) hfs
  clear hwr hfs hb HWa HP HQ hn1 hk1 HL
  go_wp2_with (first | (with_reducible refine at_list ?_; refine wpList_fop rfl rfl rfl rfl rfl ?_; intro r n hr0; have hr := hr0 _ _ (by first | with_reducible assumption | exact rfl) (by first | with_reducible assumption | exact rfl); clear hr0) | (with_reducible refine at_list ?_; refine wpList_neg rfl rfl rfl ?_; intro r hr0; have hr := hr0 _ (by first | with_reducible assumption | exact rfl); clear hr0) | (with_reducible refine at_list ?_; refine wpList_fop_g rfl rfl rfl rfl rfl ?_; intro r n hr0; have hr := hr0 _ _ (by first | with_reducible assumption | exact rfl) (by first | with_reducible assumption | exact rfl); clear hr0) | (with_reducible refine at_list ?_; refine wpList_wide_g rfl rfl Try.underlying28 Try.underlying39 rfl ?_; intro r n hr0; have hr := hr0 _ (by first | with_reducible assumption | exact rfl); clear hr0) | (with_reducible refine at_list ?_; refine wpList_wide rfl rfl rfl Try.underlying28 Try.underlying39 ?_; intro r n hr0; have hr := hr0 _ (by first | with_reducible assumption | exact rfl); clear hr0) | (go_at_call 31; refine stop_here ?_))
  unfold Stop
  refine calls_named ?_
  intro w2 hw2
  obtain ⟨b5, hb5⟩ : ∃ b, b = w1.heap.size := ⟨_, rfl⟩
  simp only [← hb5]
  have hbw : Below w1.heap.size w1 w2 := by rw [hw2]; first | exact Below.refl _ _ | (repeat (first | (with_reducible exact Below.refl _ _) | (with_reducible assumption) | (with_reducible refine below_then ?_ (by assumption)) | (with_reducible refine Below.trans ?_ (by assumption)) | (with_reducible refine below_drewN ?_ _) | (with_reducible apply Below.drew) | (with_reducible refine below_alloc ?_ _) | refine Below.setCell ?_ (by first | (simp; done) | (simp; omega)) _))
  have HK1 : Hid (Bag _ w2) := (HK0.out.later hbw).add (F := Var b5 (.slice m0.p1 N m0.c1) (.slice m0.p2 N m0.c2) (.slice m0.p3 N m0.c3) (.slice m0.p4 N m0.c4)) (Var.lat _ _ _ _ _) (by show Var b5 (.slice m0.p1 N m0.c1) (.slice m0.p2 N m0.c2) (.slice m0.p3 N m0.c3) (.slice m0.p4 N m0.c4) w2; rw [hw2, hb5]; exact ⟨⟨by go_simp, by go_simp, by go_simp, by go_simp⟩, by first | (simp; done) | (simp; omega)⟩)
  clear HK0 hw2 hbw hb5
  refine (answer_yes HWR.out hN6 rates.1 (HWR.out.swSlow hN6).1 HK1.out.t.g).mono ?_
  rintro e w3 ⟨g1, rfl, hb, hC⟩
  have HK2 : Hid (Bag _ w3) := (HK1.out.later hb).add (CW.lat _ _ _ _) hC
  clear HK1 hb hC
  obtain ⟨⟨d0, d1, d2, d3⟩, dl⟩ := HK2.out.t.g
  go_wp2_with (first | (with_reducible refine at_list ?_; refine wpList_fop rfl rfl rfl rfl rfl ?_; intro r n hr0; have hr := hr0 _ _ (by first | with_reducible assumption | exact rfl) (by first | with_reducible assumption | exact rfl); clear hr0) | (with_reducible refine at_list ?_; refine wpList_neg rfl rfl rfl ?_; intro r hr0; have hr := hr0 _ (by first | with_reducible assumption | exact rfl); clear hr0) | (with_reducible refine at_list ?_; refine wpList_fop_g rfl rfl rfl rfl rfl ?_; intro r n hr0; have hr := hr0 _ _ (by first | with_reducible assumption | exact rfl) (by first | with_reducible assumption | exact rfl); clear hr0) | (with_reducible refine at_list ?_; refine wpList_wide_g rfl rfl Try.underlying28 Try.underlying39 rfl ?_; intro r n hr0; have hr := hr0 _ (by first | with_reducible assumption | exact rfl); clear hr0) | (with_reducible refine at_list ?_; refine wpList_wide rfl rfl rfl Try.underlying28 Try.underlying39 ?_; intro r n hr0; have hr := hr0 _ (by first | with_reducible assumption | exact rfl); clear hr0) | (go_at_call 31; refine stop_here ?_))
  unfold Stop
  clear d0 d1 d2 d3 dl
  refine (answer_yes HWR.out hN6 rates.2 (HWR.out.swQuick hN6) HK2.out.t.t.g).mono ?_
  rintro e w4 ⟨g2, rfl, hb, hC⟩
  have HK3 : Hid (Bag _ w4) := (HK2.out.later hb).add (CW.lat _ _ _ _) hC
  clear HK2 hb hC
  go_upto_region 20 with fail
  go_wp2_with (first | (with_reducible refine at_list ?_; refine wpList_fop rfl rfl rfl rfl rfl ?_; intro r n hr0; have hr := hr0 _ _ (by first | with_reducible assumption | exact rfl) (by first | with_reducible assumption | exact rfl); clear hr0) | (with_reducible refine at_list ?_; refine wpList_neg rfl rfl rfl ?_; intro r hr0; have hr := hr0 _ (by first | with_reducible assumption | exact rfl); clear hr0) | (with_reducible refine at_list ?_; refine wpList_fop_g rfl rfl rfl rfl rfl ?_; intro r n hr0; have hr := hr0 _ _ (by first | with_reducible assumption | exact rfl) (by first | with_reducible assumption | exact rfl); clear hr0) | (with_reducible refine at_list ?_; refine wpList_wide_g rfl rfl Try.underlying28 Try.underlying39 rfl ?_; intro r n hr0; have hr := hr0 _ (by first | with_reducible assumption | exact rfl); clear hr0) | (with_reducible refine at_list ?_; refine wpList_wide rfl rfl rfl Try.underlying28 Try.underlying39 ?_; intro r n hr0; have hr := hr0 _ (by first | with_reducible assumption | exact rfl); clear hr0))
  have HSL := Lib.hid (HWR.out.swSlow hN6)
  have HSQ := Lib.hid (HWR.out.swQuick hN6)
  go_loopw [27] (fun z wr => ∃ k : Nat, k ≤ N ∧ z = .int .i64 (k : Int) ∧ Hid (Below w4.heap.size w4 wr)) (fun z _ => N - (intOf z).toNat)
  case atStart => exact ⟨0, by omega, rfl, Below.refl _ _⟩
  case round =>
    obtain ⟨k, hk, rfl, HB⟩ := hrel
    have HK4 : Hid (Bag _ wr) := HK3.out.later HB.out
    clear HK3 HWR
    by_cases hlt : k < N
    · have hlti : (k : Int) < (N : Int) := by omega
      have hkw : IntKind.i64.wrap ((k : Int) + 1) = (k : Int) + 1 := IntWalk.i64_in _ (by omega)
      have hq := HK4.out.g
      have hs := HK4.out.t.g
      have a0 := (hs.cell hlt).1
      have a2 := (hq.cell hlt).1
      have l1 := hs.lt.2
      have l2 := hq.lt.2
      have HL1 := Lib.hid (HSL.out.1.long hlt)
      have HL2 := Lib.hid (HSQ.out.long hlt)
      have c1 := HSL.out.1.lcn hlt
      have c2 := HSQ.out.lcn hlt
      obtain ⟨g1ok, f1⟩ := HSL.out.1.slowW HSL.out.2 hlt
      obtain ⟨f2, f3⟩ := HSQ.out.quickW hlt
      have HG := Lib.hid (fun x w hx => sw_gap (Y := cn .f64 4607182418800017408) x 4607182418800017408 w hx rfl g1ok)
      have hgc : cn .f64 (gap8 (wide (lgW (oW (swP P) (swS P 925353388) N k).1 (oW (swP P) (swS P 925353388) N k).2)) (cn .f64 4607182418800017408)) = gap8 (wide (lgW (oW (swP P) (swS P 925353388) N k).1 (oW (swP P) (swS P 925353388) N k).2)) (cn .f64 4607182418800017408) := cn_fmax64 g1ok.1 g1ok.2
      simp only [cOne, c005] at f1 HG
      simp only [c101] at f2
      have HBW : Hid (Below w.heap.size w wr) := HK4.out.t.t.t.t.g
      clear hs g1ok
      have hT : Trk wr [g1, g2] := ((Trk.nil wr).more l2).more l1
      by_cases hk0 : k = 0
      · obtain rfl : k = 0 := hk0
        clear f3 hq
        generalize (oW (swP P) (swS P 925353388) N 0).1 = p1 at *
        generalize (oW (swP P) (swS P 925353388) N 0).2 = p2 at *
        generalize (oW (swP P) (swS P 1082130432) N 0).1 = q1 at *
        generalize (oW (swP P) (swS P 1082130432) N 0).2 = q2 at *
        generalize lgW p1 p2 = V1 at *
        generalize lgW q1 q2 = V2 at *
        clear HSL HSQ HK4
        go_wp2_with (first | (with_reducible refine at_list ?_; refine wpList_fop rfl rfl rfl rfl rfl ?_; intro r n hr0; have hr := hr0 _ _ (by first | with_reducible assumption | exact rfl) (by first | with_reducible assumption | exact rfl); clear hr0) | (with_reducible refine at_list ?_; refine wpList_neg rfl rfl rfl ?_; intro r hr0; have hr := hr0 _ (by first | with_reducible assumption | exact rfl); clear hr0) | (with_reducible refine at_list ?_; refine wpList_fop_g rfl rfl rfl rfl rfl ?_; intro r n hr0; have hr := hr0 _ _ (by first | with_reducible assumption | exact rfl) (by first | with_reducible assumption | exact rfl); clear hr0) | (with_reducible refine at_list ?_; refine wpList_wide_g rfl rfl Try.underlying28 Try.underlying39 rfl ?_; intro r n hr0; have hr := hr0 _ (by first | with_reducible assumption | exact rfl); clear hr0) | (with_reducible refine at_list ?_; refine wpList_wide rfl rfl rfl Try.underlying28 Try.underlying39 ?_; intro r n hr0; have hr := hr0 _ (by first | with_reducible assumption | exact rfl); clear hr0))
        (apply wp_region_plan; ((apply wpC_det; (case hw => exact rfl); (case hs => (intro cs b h; cases h)); (case h1 => (intro w'; go_simp <;> exact rfl))); apply wpC_norm; (case ha => (simp only [Act.put, List.setIfInBounds_toArray, List.set_cons_zero, List.set_cons_succ]; exact rfl))); ((apply wpC_det; (case hw => exact rfl); (case hs => (intro cs b h; cases h)); (case h1 => (intro w'; go_simp <;> exact rfl))); apply wpC_norm; (case ha => (simp only [Act.put, List.setIfInBounds_toArray, List.set_cons_zero, List.set_cons_succ]; exact rfl))); ((apply wpC_det; (case hw => exact rfl); (case hs => (intro cs b h; cases h)); (case h1 => (intro w'; go_simp <;> exact rfl))); apply wpC_norm; (case ha => (simp only [Act.put, List.setIfInBounds_toArray, List.set_cons_zero, List.set_cons_succ]; exact rfl))); ((apply wpC_val; (case hw => exact rfl); (case h1 => (intro w' hb hk0; obtain ⟨hT, hk⟩ := bv_next hb (by (repeat (with_reducible first | assumption | apply Trk.alloc | apply Trk.setCell | apply Trk.drewN | apply Trk.drew | exact Trk.nil _))); simp only [SameOn, World.size_alloc, World.size_setCell, World.size_drew, size_drewN', and_true] at hk; have hsz := Below.size hb; (try simp only [World.size_alloc, World.size_setCell, World.size_drew, size_drewN'] at hsz); go_simp <;> exact rfl))); apply wpC_norm; (case ha => (simp only [Act.put, List.setIfInBounds_toArray, List.set_cons_zero, List.set_cons_succ]; exact rfl))); ((first | (apply wpC_callB (.float .f32 V1); (case hw => exact rfl); (case h1 => (intro w'; go_simp; exact ⟨rfl, rfl⟩)); (case hc => (intro w' hb hk0; with_reducible exact HL1.out _))) | (apply wpC_callB (.float .f32 V2); (case hw => exact rfl); (case h1 => (intro w'; go_simp; exact ⟨rfl, rfl⟩)); (case hc => (intro w' hb hk0; with_reducible exact HL2.out _)))); apply wpC_norm; (case ha => (simp only [Act.put, List.setIfInBounds_toArray, List.set_cons_zero, List.set_cons_succ]; exact rfl))); ((apply wpC_wide rfl rfl Try.underlying28 Try.underlying39 rfl; intro r hr0; have hr := hr0 _ (by first | with_reducible assumption | exact rfl); clear hr0); apply wpC_norm; (case ha => (simp only [Act.put, List.setIfInBounds_toArray, List.set_cons_zero, List.set_cons_succ]; exact rfl))); ((apply wpC_callF _ _; ((case hw => exact rfl)); (case h1 => (intro w'; go_simp; exact ⟨rfl, rfl⟩)); (case hc => (intro w' hb hk0; obtain ⟨hT, hk⟩ := bv_next hb (by (repeat (with_reducible first | assumption | apply Trk.alloc | apply Trk.setCell | apply Trk.drewN | apply Trk.drew | exact Trk.nil _))); simp only [SameOn, World.size_alloc, World.size_setCell, World.size_drew, size_drewN', and_true] at hk; have hsz := Below.size hb; (try simp only [World.size_alloc, World.size_setCell, World.size_drew, size_drewN'] at hsz); refine ((HG.out _ _ (by with_reducible assumption)) ).mono ?_; intro e2 w3 h; (try simp only [*] at h); exact RF.bf h)); (case hcc => (first | (with_reducible first | assumption | exact cn_fop _ _ _ _ | exact cn_cn _ _ | exact cn_wide _ | exact cn_narrow _ | exact cn_accC .. | exact cn_half .. | exact cn_bet .. | exact cn_end .. | exact cn_erV .. | exact cn_exV .. | exact cn_warmC .. | exact cn_partC .. | exact cn_easeC .. | exact cn_sqC .. | exact cn_gapC .. | exact cn_exG .. | exact cn_poT .. | exact cn_sn ..) | (refine cn_chk ?_; (with_reducible first | assumption | exact cn_fop _ _ _ _ | exact cn_cn _ _ | exact cn_wide _ | exact cn_narrow _ | exact cn_accC .. | exact cn_half .. | exact cn_bet .. | exact cn_end .. | exact cn_erV .. | exact cn_exV .. | exact cn_warmC .. | exact cn_partC .. | exact cn_easeC .. | exact cn_sqC .. | exact cn_gapC .. | exact cn_exG .. | exact cn_poT .. | exact cn_sn ..)) | (refine cn_gF ?_; (with_reducible first | assumption | exact cn_fop _ _ _ _ | exact cn_cn _ _ | exact cn_wide _ | exact cn_narrow _ | exact cn_accC .. | exact cn_half .. | exact cn_bet .. | exact cn_end .. | exact cn_erV .. | exact cn_exV .. | exact cn_warmC .. | exact cn_partC .. | exact cn_easeC .. | exact cn_sqC .. | exact cn_gapC .. | exact cn_exG .. | exact cn_poT .. | exact cn_sn ..)))); intro r hr); apply wpC_norm; (case ha => (simp only [Act.put, List.setIfInBounds_toArray, List.set_cons_zero, List.set_cons_succ]; exact rfl))); ((apply wpC_det; (case hw => exact rfl); (case hs => (intro cs b h; cases h)); (case h1 => (intro w'; go_simp <;> exact rfl))); apply wpC_norm; (case ha => (simp only [Act.put, List.setIfInBounds_toArray, List.set_cons_zero, List.set_cons_succ]; exact rfl))); ((apply wpC_det; (case hw => exact rfl); (case hs => (intro cs b h; cases h)); (case h1 => (intro w'; go_simp <;> exact rfl))); apply wpC_norm; (case ha => (simp only [Act.put, List.setIfInBounds_toArray, List.set_cons_zero, List.set_cons_succ]; exact rfl))); ((first | (apply wpC_skip; (case hw => exact rfl)) | (apply wpC_det; (case hw => exact rfl); (case hs => (intro cs b h; cases h)); (case h1 => (intro w'; go_simp <;> exact rfl)))); apply wpC_norm; (case ha => (simp only [Act.put, List.setIfInBounds_toArray, List.set_cons_zero, List.set_cons_succ]; exact rfl))); ((first | (apply wpC_skip; (case hw => exact rfl)) | (apply wpC_det; (case hw => exact rfl); (case hs => (intro cs b h; cases h)); (case h1 => (intro w'; go_simp <;> exact rfl)))); apply wpC_norm; (case ha => (simp only [Act.put, List.setIfInBounds_toArray, List.set_cons_zero, List.set_cons_succ]; exact rfl))); ((first | (apply wpC_skip; (case hw => exact rfl)) | (apply wpC_det; (case hw => exact rfl); (case hs => (intro cs b h; cases h)); (case h1 => (intro w'; go_simp <;> exact rfl)))); apply wpC_norm; (case ha => (simp only [Act.put, List.setIfInBounds_toArray, List.set_cons_zero, List.set_cons_succ]; exact rfl))); ((first | (apply wpC_skip; (case hw => exact rfl)) | (apply wpC_val; (case hw => exact rfl); (case h1 => (intro w' hb hk0; obtain ⟨hT, hk⟩ := bv_next hb (by (repeat (with_reducible first | assumption | apply Trk.alloc | apply Trk.setCell | apply Trk.drewN | apply Trk.drew | exact Trk.nil _))); simp only [SameOn, World.size_alloc, World.size_setCell, World.size_drew, size_drewN', and_true] at hk; have hsz := Below.size hb; (try simp only [World.size_alloc, World.size_setCell, World.size_drew, size_drewN'] at hsz); go_simp <;> exact rfl)))); apply wpC_norm; (case ha => (simp only [Act.put, List.setIfInBounds_toArray, List.set_cons_zero, List.set_cons_succ]; exact rfl))); ((first | (apply wpC_skip; (case hw => exact rfl)) | first | (apply wpC_callB (.float .f32 V1); (case hw => exact rfl); (case h1 => (intro w'; go_simp; exact ⟨rfl, rfl⟩)); (case hc => (intro w' hb hk0; with_reducible exact HL1.out _))) | (apply wpC_callB (.float .f32 V2); (case hw => exact rfl); (case h1 => (intro w'; go_simp; exact ⟨rfl, rfl⟩)); (case hc => (intro w' hb hk0; with_reducible exact HL2.out _)))); apply wpC_norm; (case ha => (simp only [Act.put, List.setIfInBounds_toArray, List.set_cons_zero, List.set_cons_succ]; exact rfl))); ((first | (apply wpC_skip; (case hw => exact rfl)) | (apply wpC_wide rfl rfl Try.underlying28 Try.underlying39 rfl; intro r hr0; have hr := hr0 _ (by first | with_reducible assumption | exact rfl); clear hr0)); apply wpC_norm; (case ha => (simp only [Act.put, List.setIfInBounds_toArray, List.set_cons_zero, List.set_cons_succ]; exact rfl))); ((first | (apply wpC_skip; (case hw => exact rfl)) | (apply wpC_det; (case hw => exact rfl); (case hs => (intro cs b h; cases h)); (case h1 => (intro w'; go_simp <;> exact rfl)))); apply wpC_norm; (case ha => (simp only [Act.put, List.setIfInBounds_toArray, List.set_cons_zero, List.set_cons_succ]; exact rfl))); ((apply wpC_det; (case hw => exact rfl); (case hs => (intro cs b h; cases h)); (case h1 => (intro w'; go_simp <;> exact rfl))); apply wpC_norm; (case ha => (simp only [Act.put, List.setIfInBounds_toArray, List.set_cons_zero, List.set_cons_succ]; exact rfl))); ((apply wpC_det; (case hw => exact rfl); (case hs => (intro cs b h; cases h)); (case h1 => (intro w'; go_simp <;> exact rfl))); apply wpC_norm; (case ha => (simp only [Act.put, List.setIfInBounds_toArray, List.set_cons_zero, List.set_cons_succ]; exact rfl))); ((first | (apply wpC_skip; (case hw => exact rfl)) | (apply wpC_det; (case hw => exact rfl); (case hs => (intro cs b h; cases h)); (case h1 => (intro w'; go_simp <;> exact rfl)))); apply wpC_norm; (case ha => (simp only [Act.put, List.setIfInBounds_toArray, List.set_cons_zero, List.set_cons_succ]; exact rfl))); ((first | (apply wpC_skip; (case hw => exact rfl)) | (apply wpC_det; (case hw => exact rfl); (case hs => (intro cs b h; cases h)); (case h1 => (intro w'; go_simp <;> exact rfl)))); apply wpC_norm; (case ha => (simp only [Act.put, List.setIfInBounds_toArray, List.set_cons_zero, List.set_cons_succ]; exact rfl))); ((first | (apply wpC_skip; (case hw => exact rfl)) | (apply wpC_det; (case hw => exact rfl); (case hs => (intro cs b h; cases h)); (case h1 => (intro w'; go_simp <;> exact rfl)))); apply wpC_norm; (case ha => (simp only [Act.put, List.setIfInBounds_toArray, List.set_cons_zero, List.set_cons_succ]; exact rfl))); ((first | (apply wpC_skip; (case hw => exact rfl)) | (apply wpC_det; (case hw => exact rfl); (case hs => (intro cs b h; cases h)); (case h1 => (intro w'; go_simp <;> exact rfl)))); apply wpC_norm; (case ha => (simp only [Act.put, List.setIfInBounds_toArray, List.set_cons_zero, List.set_cons_succ]; exact rfl))); ((first | (apply wpC_skip; (case hw => exact rfl)) | (apply wpC_det; (case hw => exact rfl); (case hs => (intro cs b h; cases h)); (case h1 => (intro w'; go_simp <;> exact rfl)))); apply wpC_norm; (case ha => (simp only [Act.put, List.setIfInBounds_toArray, List.set_cons_zero, List.set_cons_succ]; exact rfl))); ((first | (apply wpC_skip; (case hw => exact rfl)) | (apply wpC_det; (case hw => exact rfl); (case hs => (intro cs b h; cases h)); (case h1 => (intro w'; go_simp <;> exact rfl)))); apply wpC_norm; (case ha => (simp only [Act.put, List.setIfInBounds_toArray, List.set_cons_zero, List.set_cons_succ]; exact rfl))); ((first | (apply wpC_skip; (case hw => exact rfl)) | (apply wpC_val; (case hw => exact rfl); (case h1 => (intro w' hb hk0; obtain ⟨hT, hk⟩ := bv_next hb (by (repeat (with_reducible first | assumption | apply Trk.alloc | apply Trk.setCell | apply Trk.drewN | apply Trk.drew | exact Trk.nil _))); simp only [SameOn, World.size_alloc, World.size_setCell, World.size_drew, size_drewN', and_true] at hk; have hsz := Below.size hb; (try simp only [World.size_alloc, World.size_setCell, World.size_drew, size_drewN'] at hsz); go_simp <;> exact rfl)))); apply wpC_norm; (case ha => (simp only [Act.put, List.setIfInBounds_toArray, List.set_cons_zero, List.set_cons_succ]; exact rfl))); ((first | (apply wpC_skip; (case hw => exact rfl)) | first | (apply wpC_callB (.float .f32 V1); (case hw => exact rfl); (case h1 => (intro w'; go_simp; exact ⟨rfl, rfl⟩)); (case hc => (intro w' hb hk0; with_reducible exact HL1.out _))) | (apply wpC_callB (.float .f32 V2); (case hw => exact rfl); (case h1 => (intro w'; go_simp; exact ⟨rfl, rfl⟩)); (case hc => (intro w' hb hk0; with_reducible exact HL2.out _)))); apply wpC_norm; (case ha => (simp only [Act.put, List.setIfInBounds_toArray, List.set_cons_zero, List.set_cons_succ]; exact rfl))); ((first | (apply wpC_skip; (case hw => exact rfl)) | (apply wpC_wide rfl rfl Try.underlying28 Try.underlying39 rfl; intro r hr0; have hr := hr0 _ (by first | with_reducible assumption | exact rfl); clear hr0)); apply wpC_norm; (case ha => (simp only [Act.put, List.setIfInBounds_toArray, List.set_cons_zero, List.set_cons_succ]; exact rfl))); ((first | (apply wpC_skip; (case hw => exact rfl)) | (apply wpC_det; (case hw => exact rfl); (case hs => (intro cs b h; cases h)); (case h1 => (intro w'; go_simp <;> exact rfl)))); apply wpC_norm; (case ha => (simp only [Act.put, List.setIfInBounds_toArray, List.set_cons_zero, List.set_cons_succ]; exact rfl))); ((first | (apply wpC_skip; (case hw => exact rfl)) | (apply wpC_det; (case hw => exact rfl); (case hs => (intro cs b h; cases h)); (case h1 => (intro w'; go_simp <;> exact rfl)))); apply wpC_norm; (case ha => (simp only [Act.put, List.setIfInBounds_toArray, List.set_cons_zero, List.set_cons_succ]; exact rfl))); ((first | (apply wpC_skip; (case hw => exact rfl)) | (apply wpC_det; (case hw => exact rfl); (case hs => (intro cs b h; cases h)); (case h1 => (intro w'; go_simp <;> exact rfl)))); apply wpC_norm; (case ha => (simp only [Act.put, List.setIfInBounds_toArray, List.set_cons_zero, List.set_cons_succ]; exact rfl))); ((first | (apply wpC_skip; (case hw => exact rfl)) | (apply wpC_det; (case hw => exact rfl); (case hs => (intro cs b h; cases h)); (case h1 => (intro w'; go_simp <;> exact rfl)))); apply wpC_norm; (case ha => (simp only [Act.put, List.setIfInBounds_toArray, List.set_cons_zero, List.set_cons_succ]; exact rfl))); ((first | (apply wpC_skip; (case hw => exact rfl)) | (apply wpC_val; (case hw => exact rfl); (case h1 => (intro w' hb hk0; obtain ⟨hT, hk⟩ := bv_next hb (by (repeat (with_reducible first | assumption | apply Trk.alloc | apply Trk.setCell | apply Trk.drewN | apply Trk.drew | exact Trk.nil _))); simp only [SameOn, World.size_alloc, World.size_setCell, World.size_drew, size_drewN', and_true] at hk; have hsz := Below.size hb; (try simp only [World.size_alloc, World.size_setCell, World.size_drew, size_drewN'] at hsz); go_simp <;> exact rfl)))); apply wpC_norm; (case ha => (simp only [Act.put, List.setIfInBounds_toArray, List.set_cons_zero, List.set_cons_succ]; exact rfl))); ((first | (apply wpC_skip; (case hw => exact rfl)) | first | (apply wpC_callB (.float .f32 V1); (case hw => exact rfl); (case h1 => (intro w'; go_simp; exact ⟨rfl, rfl⟩)); (case hc => (intro w' hb hk0; with_reducible exact HL1.out _))) | (apply wpC_callB (.float .f32 V2); (case hw => exact rfl); (case h1 => (intro w'; go_simp; exact ⟨rfl, rfl⟩)); (case hc => (intro w' hb hk0; with_reducible exact HL2.out _)))); apply wpC_norm; (case ha => (simp only [Act.put, List.setIfInBounds_toArray, List.set_cons_zero, List.set_cons_succ]; exact rfl))); ((first | (apply wpC_skip; (case hw => exact rfl)) | (apply wpC_wide rfl rfl Try.underlying28 Try.underlying39 rfl; intro r hr0; have hr := hr0 _ (by first | with_reducible assumption | exact rfl); clear hr0)); apply wpC_norm; (case ha => (simp only [Act.put, List.setIfInBounds_toArray, List.set_cons_zero, List.set_cons_succ]; exact rfl))); ((first | (apply wpC_skip; (case hw => exact rfl)) | (apply wpC_fop rfl rfl rfl rfl rfl; intro r hr0; have hr := hr0 _ _ (by first | with_reducible assumption | exact rfl) (by first | with_reducible assumption | exact rfl); clear hr0)); apply wpC_norm; (case ha => (simp only [Act.put, List.setIfInBounds_toArray, List.set_cons_zero, List.set_cons_succ]; exact rfl))); ((first | (apply wpC_skip; (case hw => exact rfl)) | (apply wpC_det; (case hw => exact rfl); (case hs => (intro cs b h; cases h)); (case h1 => (intro w'; go_simp <;> exact rfl)))); apply wpC_norm; (case ha => (simp only [Act.put, List.setIfInBounds_toArray, List.set_cons_zero, List.set_cons_succ]; exact rfl))); ((first | (apply wpC_skip; (case hw => exact rfl)) | (apply wpC_det; (case hw => exact rfl); (case hs => (intro cs b h; cases h)); (case h1 => (intro w'; go_simp <;> exact rfl)))); apply wpC_norm; (case ha => (simp only [Act.put, List.setIfInBounds_toArray, List.set_cons_zero, List.set_cons_succ]; exact rfl))); ((apply wpC_det; (case hw => exact rfl); (case hs => (intro cs b h; cases h)); (case h1 => (intro w'; go_simp <;> exact rfl))); apply wpC_norm; (case ha => (simp only [Act.put, List.setIfInBounds_toArray, List.set_cons_zero, List.set_cons_succ]; exact rfl))); refine wpC_nil ?_; intro w' hb hkk; obtain ⟨hT, hk⟩ := bv_next hb (by (repeat (with_reducible first | assumption | apply Trk.alloc | apply Trk.setCell | apply Trk.drewN | apply Trk.drew | exact Trk.nil _))); simp only [SameOn, World.size_alloc, World.size_setCell, World.size_drew, size_drewN', and_true] at hk; have hsz := Below.size hb; (try simp only [World.size_alloc, World.size_setCell, World.size_drew, size_drewN'] at hsz))
        rotate_left
        all_goals (try (first | kernel_rfl | rfl))
        go_wp2_with (first | (with_reducible refine at_list ?_; refine wpList_fop rfl rfl rfl rfl rfl ?_; intro r n hr0; have hr := hr0 _ _ (by first | with_reducible assumption | exact rfl) (by first | with_reducible assumption | exact rfl); clear hr0) | (with_reducible refine at_list ?_; refine wpList_neg rfl rfl rfl ?_; intro r hr0; have hr := hr0 _ (by first | with_reducible assumption | exact rfl); clear hr0) | (with_reducible refine at_list ?_; refine wpList_fop_g rfl rfl rfl rfl rfl ?_; intro r n hr0; have hr := hr0 _ _ (by first | with_reducible assumption | exact rfl) (by first | with_reducible assumption | exact rfl); clear hr0) | (with_reducible refine at_list ?_; refine wpList_wide_g rfl rfl Try.underlying28 Try.underlying39 rfl ?_; intro r n hr0; have hr := hr0 _ (by first | with_reducible assumption | exact rfl); clear hr0) | (with_reducible refine at_list ?_; refine wpList_wide rfl rfl rfl Try.underlying28 Try.underlying39 ?_; intro r n hr0; have hr := hr0 _ (by first | with_reducible assumption | exact rfl); clear hr0))
        exact ⟨⟨1, by omega, by first | rfl | go_num, bel_step HB.out (by (repeat (first | (with_reducible exact Below.refl _ _) | (with_reducible assumption) | (with_reducible refine below_then ?_ (by assumption)) | (with_reducible refine Below.trans ?_ (by assumption)) | (with_reducible refine below_drewN ?_ _) | (with_reducible apply Below.drew) | (with_reducible refine below_alloc ?_ _) | refine Below.setCell ?_ (by first | (simp; done) | (simp; omega)) _)))⟩, by first | (simp [intOf]; done) | (simp [intOf]; omega)⟩
      · have hk0i : (0 : Int) < (k : Int) := by omega
        have hkp : 0 < k := by omega
        have hkd : decide ((0 : Int) < (k : Int)) = true := decide_eq_true hk0i
        have hkd2 : decide (0 < k) = true := decide_eq_true hkp
        obtain ⟨i, hik⟩ : ∃ i, Hid (k = i + 1) := ⟨k - 1, by show _ = _; omega⟩
        have hiN : i < N := by have := hik.out; omega
        have hii : (i : Int) < (N : Int) := by omega
        have hkwi : IntKind.i64.wrap ((k : Int) - 1) = (i : Int) := by have := hik.out; rw [IntWalk.i64_in _ (by omega)]; omega
        have f3 := f3 (by omega)
        rw [show k - 1 = i by have := hik.out; omega] at f3
        simp only [c001] at f3
        have a3 := (hq.cell hiN).1
        have HL3 := Lib.hid (HSQ.out.long hiN)
        have c3 := HSQ.out.lcn hiN
        clear hq
        generalize (oW (swP P) (swS P 925353388) N k).1 = p1 at *
        generalize (oW (swP P) (swS P 925353388) N k).2 = p2 at *
        generalize (oW (swP P) (swS P 1082130432) N k).1 = q1 at *
        generalize (oW (swP P) (swS P 1082130432) N k).2 = q2 at *
        generalize (oW (swP P) (swS P 1082130432) N i).1 = r1 at *
        generalize (oW (swP P) (swS P 1082130432) N i).2 = r2 at *
        generalize lgW p1 p2 = V1 at *
        generalize lgW q1 q2 = V2 at *
        generalize lgW r1 r2 = V3 at *
        clear HSL HSQ HK4
        go_wp2_with (first | (with_reducible refine at_list ?_; refine wpList_fop rfl rfl rfl rfl rfl ?_; intro r n hr0; have hr := hr0 _ _ (by first | with_reducible assumption | exact rfl) (by first | with_reducible assumption | exact rfl); clear hr0) | (with_reducible refine at_list ?_; refine wpList_neg rfl rfl rfl ?_; intro r hr0; have hr := hr0 _ (by first | with_reducible assumption | exact rfl); clear hr0) | (with_reducible refine at_list ?_; refine wpList_fop_g rfl rfl rfl rfl rfl ?_; intro r n hr0; have hr := hr0 _ _ (by first | with_reducible assumption | exact rfl) (by first | with_reducible assumption | exact rfl); clear hr0) | (with_reducible refine at_list ?_; refine wpList_wide_g rfl rfl Try.underlying28 Try.underlying39 rfl ?_; intro r n hr0; have hr := hr0 _ (by first | with_reducible assumption | exact rfl); clear hr0) | (with_reducible refine at_list ?_; refine wpList_wide rfl rfl rfl Try.underlying28 Try.underlying39 ?_; intro r n hr0; have hr := hr0 _ (by first | with_reducible assumption | exact rfl); clear hr0))
        (apply wp_region_plan; ((apply wpC_det; (case hw => exact rfl); (case hs => (intro cs b h; cases h)); (case h1 => (intro w'; go_simp <;> exact rfl))); apply wpC_norm; (case ha => (simp only [Act.put, List.setIfInBounds_toArray, List.set_cons_zero, List.set_cons_succ]; exact rfl))); ((apply wpC_det; (case hw => exact rfl); (case hs => (intro cs b h; cases h)); (case h1 => (intro w'; go_simp <;> exact rfl))); apply wpC_norm; (case ha => (simp only [Act.put, List.setIfInBounds_toArray, List.set_cons_zero, List.set_cons_succ]; exact rfl))); ((apply wpC_det; (case hw => exact rfl); (case hs => (intro cs b h; cases h)); (case h1 => (intro w'; go_simp <;> exact rfl))); apply wpC_norm; (case ha => (simp only [Act.put, List.setIfInBounds_toArray, List.set_cons_zero, List.set_cons_succ]; exact rfl))); ((apply wpC_val; (case hw => exact rfl); (case h1 => (intro w' hb hk0; obtain ⟨hT, hk⟩ := bv_next hb (by (repeat (with_reducible first | assumption | apply Trk.alloc | apply Trk.setCell | apply Trk.drewN | apply Trk.drew | exact Trk.nil _))); simp only [SameOn, World.size_alloc, World.size_setCell, World.size_drew, size_drewN', and_true] at hk; have hsz := Below.size hb; (try simp only [World.size_alloc, World.size_setCell, World.size_drew, size_drewN'] at hsz); go_simp <;> exact rfl))); apply wpC_norm; (case ha => (simp only [Act.put, List.setIfInBounds_toArray, List.set_cons_zero, List.set_cons_succ]; exact rfl))); ((first | (apply wpC_callB (.float .f32 V1); (case hw => exact rfl); (case h1 => (intro w'; go_simp; exact ⟨rfl, rfl⟩)); (case hc => (intro w' hb hk0; with_reducible exact HL1.out _))) | (apply wpC_callB (.float .f32 V2); (case hw => exact rfl); (case h1 => (intro w'; go_simp; exact ⟨rfl, rfl⟩)); (case hc => (intro w' hb hk0; with_reducible exact HL2.out _))) | (apply wpC_callB (.float .f32 V3); (case hw => exact rfl); (case h1 => (intro w'; go_simp; exact ⟨rfl, rfl⟩)); (case hc => (intro w' hb hk0; with_reducible exact HL3.out _)))); apply wpC_norm; (case ha => (simp only [Act.put, List.setIfInBounds_toArray, List.set_cons_zero, List.set_cons_succ]; exact rfl))); ((apply wpC_wide rfl rfl Try.underlying28 Try.underlying39 rfl; intro r hr0; have hr := hr0 _ (by first | with_reducible assumption | exact rfl); clear hr0); apply wpC_norm; (case ha => (simp only [Act.put, List.setIfInBounds_toArray, List.set_cons_zero, List.set_cons_succ]; exact rfl))); ((apply wpC_callF _ _; ((case hw => exact rfl)); (case h1 => (intro w'; go_simp; exact ⟨rfl, rfl⟩)); (case hc => (intro w' hb hk0; obtain ⟨hT, hk⟩ := bv_next hb (by (repeat (with_reducible first | assumption | apply Trk.alloc | apply Trk.setCell | apply Trk.drewN | apply Trk.drew | exact Trk.nil _))); simp only [SameOn, World.size_alloc, World.size_setCell, World.size_drew, size_drewN', and_true] at hk; have hsz := Below.size hb; (try simp only [World.size_alloc, World.size_setCell, World.size_drew, size_drewN'] at hsz); refine ((HG.out _ _ (by with_reducible assumption)) ).mono ?_; intro e2 w3 h; (try simp only [*] at h); exact RF.bf h)); (case hcc => (first | (with_reducible first | assumption | exact cn_fop _ _ _ _ | exact cn_cn _ _ | exact cn_wide _ | exact cn_narrow _ | exact cn_accC .. | exact cn_half .. | exact cn_bet .. | exact cn_end .. | exact cn_erV .. | exact cn_exV .. | exact cn_warmC .. | exact cn_partC .. | exact cn_easeC .. | exact cn_sqC .. | exact cn_gapC .. | exact cn_exG .. | exact cn_poT .. | exact cn_sn ..) | (refine cn_chk ?_; (with_reducible first | assumption | exact cn_fop _ _ _ _ | exact cn_cn _ _ | exact cn_wide _ | exact cn_narrow _ | exact cn_accC .. | exact cn_half .. | exact cn_bet .. | exact cn_end .. | exact cn_erV .. | exact cn_exV .. | exact cn_warmC .. | exact cn_partC .. | exact cn_easeC .. | exact cn_sqC .. | exact cn_gapC .. | exact cn_exG .. | exact cn_poT .. | exact cn_sn ..)) | (refine cn_gF ?_; (with_reducible first | assumption | exact cn_fop _ _ _ _ | exact cn_cn _ _ | exact cn_wide _ | exact cn_narrow _ | exact cn_accC .. | exact cn_half .. | exact cn_bet .. | exact cn_end .. | exact cn_erV .. | exact cn_exV .. | exact cn_warmC .. | exact cn_partC .. | exact cn_easeC .. | exact cn_sqC .. | exact cn_gapC .. | exact cn_exG .. | exact cn_poT .. | exact cn_sn ..)))); intro r hr); apply wpC_norm; (case ha => (simp only [Act.put, List.setIfInBounds_toArray, List.set_cons_zero, List.set_cons_succ]; exact rfl))); ((apply wpC_det; (case hw => exact rfl); (case hs => (intro cs b h; cases h)); (case h1 => (intro w'; go_simp <;> exact rfl))); apply wpC_norm; (case ha => (simp only [Act.put, List.setIfInBounds_toArray, List.set_cons_zero, List.set_cons_succ]; exact rfl))); ((apply wpC_det; (case hw => exact rfl); (case hs => (intro cs b h; cases h)); (case h1 => (intro w'; go_simp <;> exact rfl))); apply wpC_norm; (case ha => (simp only [Act.put, List.setIfInBounds_toArray, List.set_cons_zero, List.set_cons_succ]; exact rfl))); ((first | (apply wpC_skip; (case hw => exact rfl)) | (apply wpC_det; (case hw => exact rfl); (case hs => (intro cs b h; cases h)); (case h1 => (intro w'; go_simp <;> exact rfl)))); apply wpC_norm; (case ha => (simp only [Act.put, List.setIfInBounds_toArray, List.set_cons_zero, List.set_cons_succ]; exact rfl))); ((first | (apply wpC_skip; (case hw => exact rfl)) | (apply wpC_det; (case hw => exact rfl); (case hs => (intro cs b h; cases h)); (case h1 => (intro w'; go_simp <;> exact rfl)))); apply wpC_norm; (case ha => (simp only [Act.put, List.setIfInBounds_toArray, List.set_cons_zero, List.set_cons_succ]; exact rfl))); ((first | (apply wpC_skip; (case hw => exact rfl)) | (apply wpC_det; (case hw => exact rfl); (case hs => (intro cs b h; cases h)); (case h1 => (intro w'; go_simp <;> exact rfl)))); apply wpC_norm; (case ha => (simp only [Act.put, List.setIfInBounds_toArray, List.set_cons_zero, List.set_cons_succ]; exact rfl))); ((first | (apply wpC_skip; (case hw => exact rfl)) | (apply wpC_val; (case hw => exact rfl); (case h1 => (intro w' hb hk0; obtain ⟨hT, hk⟩ := bv_next hb (by (repeat (with_reducible first | assumption | apply Trk.alloc | apply Trk.setCell | apply Trk.drewN | apply Trk.drew | exact Trk.nil _))); simp only [SameOn, World.size_alloc, World.size_setCell, World.size_drew, size_drewN', and_true] at hk; have hsz := Below.size hb; (try simp only [World.size_alloc, World.size_setCell, World.size_drew, size_drewN'] at hsz); go_simp <;> exact rfl)))); apply wpC_norm; (case ha => (simp only [Act.put, List.setIfInBounds_toArray, List.set_cons_zero, List.set_cons_succ]; exact rfl))); ((first | (apply wpC_skip; (case hw => exact rfl)) | first | (apply wpC_callB (.float .f32 V1); (case hw => exact rfl); (case h1 => (intro w'; go_simp; exact ⟨rfl, rfl⟩)); (case hc => (intro w' hb hk0; with_reducible exact HL1.out _))) | (apply wpC_callB (.float .f32 V2); (case hw => exact rfl); (case h1 => (intro w'; go_simp; exact ⟨rfl, rfl⟩)); (case hc => (intro w' hb hk0; with_reducible exact HL2.out _))) | (apply wpC_callB (.float .f32 V3); (case hw => exact rfl); (case h1 => (intro w'; go_simp; exact ⟨rfl, rfl⟩)); (case hc => (intro w' hb hk0; with_reducible exact HL3.out _)))); apply wpC_norm; (case ha => (simp only [Act.put, List.setIfInBounds_toArray, List.set_cons_zero, List.set_cons_succ]; exact rfl))); ((first | (apply wpC_skip; (case hw => exact rfl)) | (apply wpC_wide rfl rfl Try.underlying28 Try.underlying39 rfl; intro r hr0; have hr := hr0 _ (by first | with_reducible assumption | exact rfl); clear hr0)); apply wpC_norm; (case ha => (simp only [Act.put, List.setIfInBounds_toArray, List.set_cons_zero, List.set_cons_succ]; exact rfl))); ((first | (apply wpC_skip; (case hw => exact rfl)) | (apply wpC_det; (case hw => exact rfl); (case hs => (intro cs b h; cases h)); (case h1 => (intro w'; go_simp <;> exact rfl)))); apply wpC_norm; (case ha => (simp only [Act.put, List.setIfInBounds_toArray, List.set_cons_zero, List.set_cons_succ]; exact rfl))); ((apply wpC_det; (case hw => exact rfl); (case hs => (intro cs b h; cases h)); (case h1 => (intro w'; go_simp <;> exact rfl))); apply wpC_norm; (case ha => (simp only [Act.put, List.setIfInBounds_toArray, List.set_cons_zero, List.set_cons_succ]; exact rfl))); ((apply wpC_det; (case hw => exact rfl); (case hs => (intro cs b h; cases h)); (case h1 => (intro w'; go_simp <;> exact rfl))); apply wpC_norm; (case ha => (simp only [Act.put, List.setIfInBounds_toArray, List.set_cons_zero, List.set_cons_succ]; exact rfl))); ((first | (apply wpC_skip; (case hw => exact rfl)) | (apply wpC_det; (case hw => exact rfl); (case hs => (intro cs b h; cases h)); (case h1 => (intro w'; go_simp <;> exact rfl)))); apply wpC_norm; (case ha => (simp only [Act.put, List.setIfInBounds_toArray, List.set_cons_zero, List.set_cons_succ]; exact rfl))); ((first | (apply wpC_skip; (case hw => exact rfl)) | (apply wpC_det; (case hw => exact rfl); (case hs => (intro cs b h; cases h)); (case h1 => (intro w'; go_simp <;> exact rfl)))); apply wpC_norm; (case ha => (simp only [Act.put, List.setIfInBounds_toArray, List.set_cons_zero, List.set_cons_succ]; exact rfl))); ((first | (apply wpC_skip; (case hw => exact rfl)) | (apply wpC_det; (case hw => exact rfl); (case hs => (intro cs b h; cases h)); (case h1 => (intro w'; go_simp <;> exact rfl)))); apply wpC_norm; (case ha => (simp only [Act.put, List.setIfInBounds_toArray, List.set_cons_zero, List.set_cons_succ]; exact rfl))); ((first | (apply wpC_skip; (case hw => exact rfl)) | (apply wpC_det; (case hw => exact rfl); (case hs => (intro cs b h; cases h)); (case h1 => (intro w'; go_simp <;> exact rfl)))); apply wpC_norm; (case ha => (simp only [Act.put, List.setIfInBounds_toArray, List.set_cons_zero, List.set_cons_succ]; exact rfl))); ((first | (apply wpC_skip; (case hw => exact rfl)) | (apply wpC_det; (case hw => exact rfl); (case hs => (intro cs b h; cases h)); (case h1 => (intro w'; go_simp <;> exact rfl)))); apply wpC_norm; (case ha => (simp only [Act.put, List.setIfInBounds_toArray, List.set_cons_zero, List.set_cons_succ]; exact rfl))); ((first | (apply wpC_skip; (case hw => exact rfl)) | (apply wpC_det; (case hw => exact rfl); (case hs => (intro cs b h; cases h)); (case h1 => (intro w'; go_simp <;> exact rfl)))); apply wpC_norm; (case ha => (simp only [Act.put, List.setIfInBounds_toArray, List.set_cons_zero, List.set_cons_succ]; exact rfl))); ((first | (apply wpC_skip; (case hw => exact rfl)) | (apply wpC_val; (case hw => exact rfl); (case h1 => (intro w' hb hk0; obtain ⟨hT, hk⟩ := bv_next hb (by (repeat (with_reducible first | assumption | apply Trk.alloc | apply Trk.setCell | apply Trk.drewN | apply Trk.drew | exact Trk.nil _))); simp only [SameOn, World.size_alloc, World.size_setCell, World.size_drew, size_drewN', and_true] at hk; have hsz := Below.size hb; (try simp only [World.size_alloc, World.size_setCell, World.size_drew, size_drewN'] at hsz); go_simp <;> exact rfl)))); apply wpC_norm; (case ha => (simp only [Act.put, List.setIfInBounds_toArray, List.set_cons_zero, List.set_cons_succ]; exact rfl))); ((first | (apply wpC_skip; (case hw => exact rfl)) | first | (apply wpC_callB (.float .f32 V1); (case hw => exact rfl); (case h1 => (intro w'; go_simp; exact ⟨rfl, rfl⟩)); (case hc => (intro w' hb hk0; with_reducible exact HL1.out _))) | (apply wpC_callB (.float .f32 V2); (case hw => exact rfl); (case h1 => (intro w'; go_simp; exact ⟨rfl, rfl⟩)); (case hc => (intro w' hb hk0; with_reducible exact HL2.out _))) | (apply wpC_callB (.float .f32 V3); (case hw => exact rfl); (case h1 => (intro w'; go_simp; exact ⟨rfl, rfl⟩)); (case hc => (intro w' hb hk0; with_reducible exact HL3.out _)))); apply wpC_norm; (case ha => (simp only [Act.put, List.setIfInBounds_toArray, List.set_cons_zero, List.set_cons_succ]; exact rfl))); ((first | (apply wpC_skip; (case hw => exact rfl)) | (apply wpC_wide rfl rfl Try.underlying28 Try.underlying39 rfl; intro r hr0; have hr := hr0 _ (by first | with_reducible assumption | exact rfl); clear hr0)); apply wpC_norm; (case ha => (simp only [Act.put, List.setIfInBounds_toArray, List.set_cons_zero, List.set_cons_succ]; exact rfl))); ((first | (apply wpC_skip; (case hw => exact rfl)) | (apply wpC_det; (case hw => exact rfl); (case hs => (intro cs b h; cases h)); (case h1 => (intro w'; go_simp <;> exact rfl)))); apply wpC_norm; (case ha => (simp only [Act.put, List.setIfInBounds_toArray, List.set_cons_zero, List.set_cons_succ]; exact rfl))); ((first | (apply wpC_skip; (case hw => exact rfl)) | (apply wpC_det; (case hw => exact rfl); (case hs => (intro cs b h; cases h)); (case h1 => (intro w'; go_simp <;> exact rfl)))); apply wpC_norm; (case ha => (simp only [Act.put, List.setIfInBounds_toArray, List.set_cons_zero, List.set_cons_succ]; exact rfl))); ((first | (apply wpC_skip; (case hw => exact rfl)) | (apply wpC_det; (case hw => exact rfl); (case hs => (intro cs b h; cases h)); (case h1 => (intro w'; go_simp <;> exact rfl)))); apply wpC_norm; (case ha => (simp only [Act.put, List.setIfInBounds_toArray, List.set_cons_zero, List.set_cons_succ]; exact rfl))); ((first | (apply wpC_skip; (case hw => exact rfl)) | (apply wpC_det; (case hw => exact rfl); (case hs => (intro cs b h; cases h)); (case h1 => (intro w'; go_simp <;> exact rfl)))); apply wpC_norm; (case ha => (simp only [Act.put, List.setIfInBounds_toArray, List.set_cons_zero, List.set_cons_succ]; exact rfl))); ((first | (apply wpC_skip; (case hw => exact rfl)) | (apply wpC_val; (case hw => exact rfl); (case h1 => (intro w' hb hk0; obtain ⟨hT, hk⟩ := bv_next hb (by (repeat (with_reducible first | assumption | apply Trk.alloc | apply Trk.setCell | apply Trk.drewN | apply Trk.drew | exact Trk.nil _))); simp only [SameOn, World.size_alloc, World.size_setCell, World.size_drew, size_drewN', and_true] at hk; have hsz := Below.size hb; (try simp only [World.size_alloc, World.size_setCell, World.size_drew, size_drewN'] at hsz); go_simp <;> exact rfl)))); apply wpC_norm; (case ha => (simp only [Act.put, List.setIfInBounds_toArray, List.set_cons_zero, List.set_cons_succ]; exact rfl))); ((first | (apply wpC_skip; (case hw => exact rfl)) | first | (apply wpC_callB (.float .f32 V1); (case hw => exact rfl); (case h1 => (intro w'; go_simp; exact ⟨rfl, rfl⟩)); (case hc => (intro w' hb hk0; with_reducible exact HL1.out _))) | (apply wpC_callB (.float .f32 V2); (case hw => exact rfl); (case h1 => (intro w'; go_simp; exact ⟨rfl, rfl⟩)); (case hc => (intro w' hb hk0; with_reducible exact HL2.out _))) | (apply wpC_callB (.float .f32 V3); (case hw => exact rfl); (case h1 => (intro w'; go_simp; exact ⟨rfl, rfl⟩)); (case hc => (intro w' hb hk0; with_reducible exact HL3.out _)))); apply wpC_norm; (case ha => (simp only [Act.put, List.setIfInBounds_toArray, List.set_cons_zero, List.set_cons_succ]; exact rfl))); ((first | (apply wpC_skip; (case hw => exact rfl)) | (apply wpC_wide rfl rfl Try.underlying28 Try.underlying39 rfl; intro r hr0; have hr := hr0 _ (by first | with_reducible assumption | exact rfl); clear hr0)); apply wpC_norm; (case ha => (simp only [Act.put, List.setIfInBounds_toArray, List.set_cons_zero, List.set_cons_succ]; exact rfl))); ((first | (apply wpC_skip; (case hw => exact rfl)) | (apply wpC_fop rfl rfl rfl rfl rfl; intro r hr0; have hr := hr0 _ _ (by first | with_reducible assumption | exact rfl) (by first | with_reducible assumption | exact rfl); clear hr0)); apply wpC_norm; (case ha => (simp only [Act.put, List.setIfInBounds_toArray, List.set_cons_zero, List.set_cons_succ]; exact rfl))); ((first | (apply wpC_skip; (case hw => exact rfl)) | (apply wpC_det; (case hw => exact rfl); (case hs => (intro cs b h; cases h)); (case h1 => (intro w'; go_simp <;> exact rfl)))); apply wpC_norm; (case ha => (simp only [Act.put, List.setIfInBounds_toArray, List.set_cons_zero, List.set_cons_succ]; exact rfl))); ((first | (apply wpC_skip; (case hw => exact rfl)) | (apply wpC_det; (case hw => exact rfl); (case hs => (intro cs b h; cases h)); (case h1 => (intro w'; go_simp <;> exact rfl)))); apply wpC_norm; (case ha => (simp only [Act.put, List.setIfInBounds_toArray, List.set_cons_zero, List.set_cons_succ]; exact rfl))); ((apply wpC_det; (case hw => exact rfl); (case hs => (intro cs b h; cases h)); (case h1 => (intro w'; go_simp <;> exact rfl))); apply wpC_norm; (case ha => (simp only [Act.put, List.setIfInBounds_toArray, List.set_cons_zero, List.set_cons_succ]; exact rfl))); refine wpC_nil ?_; intro w' hb hkk; obtain ⟨hT, hk⟩ := bv_next hb (by (repeat (with_reducible first | assumption | apply Trk.alloc | apply Trk.setCell | apply Trk.drewN | apply Trk.drew | exact Trk.nil _))); simp only [SameOn, World.size_alloc, World.size_setCell, World.size_drew, size_drewN', and_true] at hk; have hsz := Below.size hb; (try simp only [World.size_alloc, World.size_setCell, World.size_drew, size_drewN'] at hsz))
        rotate_left
        all_goals (try (first | kernel_rfl | rfl))
        go_wp2_with (first | (with_reducible refine at_list ?_; refine wpList_fop rfl rfl rfl rfl rfl ?_; intro r n hr0; have hr := hr0 _ _ (by first | with_reducible assumption | exact rfl) (by first | with_reducible assumption | exact rfl); clear hr0) | (with_reducible refine at_list ?_; refine wpList_neg rfl rfl rfl ?_; intro r hr0; have hr := hr0 _ (by first | with_reducible assumption | exact rfl); clear hr0) | (with_reducible refine at_list ?_; refine wpList_fop_g rfl rfl rfl rfl rfl ?_; intro r n hr0; have hr := hr0 _ _ (by first | with_reducible assumption | exact rfl) (by first | with_reducible assumption | exact rfl); clear hr0) | (with_reducible refine at_list ?_; refine wpList_wide_g rfl rfl Try.underlying28 Try.underlying39 rfl ?_; intro r n hr0; have hr := hr0 _ (by first | with_reducible assumption | exact rfl); clear hr0) | (with_reducible refine at_list ?_; refine wpList_wide rfl rfl rfl Try.underlying28 Try.underlying39 ?_; intro r n hr0; have hr := hr0 _ (by first | with_reducible assumption | exact rfl); clear hr0))
        exact ⟨⟨k + 1, by omega, by go_num, bel_step HB.out (by (repeat (first | (with_reducible exact Below.refl _ _) | (with_reducible assumption) | (with_reducible refine below_then ?_ (by assumption)) | (with_reducible refine Below.trans ?_ (by assumption)) | (with_reducible refine below_drewN ?_ _) | (with_reducible apply Below.drew) | (with_reducible refine below_alloc ?_ _) | refine Below.setCell ?_ (by first | (simp; done) | (simp; omega)) _)))⟩, by first | (simp [intOf]; done) | (simp [intOf]; omega)⟩
    · have hlti : ¬ (k : Int) < (N : Int) := by omega
      have HBW : Hid (Below w.heap.size w wr) := HK4.out.t.t.t.t.g
      clear HSL HSQ HK4
      go_wp2_with (first | (with_reducible refine at_list ?_; refine wpList_fop rfl rfl rfl rfl rfl ?_; intro r n hr0; have hr := hr0 _ _ (by first | with_reducible assumption | exact rfl) (by first | with_reducible assumption | exact rfl); clear hr0) | (with_reducible refine at_list ?_; refine wpList_neg rfl rfl rfl ?_; intro r hr0; have hr := hr0 _ (by first | with_reducible assumption | exact rfl); clear hr0) | (with_reducible refine at_list ?_; refine wpList_fop_g rfl rfl rfl rfl rfl ?_; intro r n hr0; have hr := hr0 _ _ (by first | with_reducible assumption | exact rfl) (by first | with_reducible assumption | exact rfl); clear hr0) | (with_reducible refine at_list ?_; refine wpList_wide_g rfl rfl Try.underlying28 Try.underlying39 rfl ?_; intro r n hr0; have hr := hr0 _ (by first | with_reducible assumption | exact rfl); clear hr0) | (with_reducible refine at_list ?_; refine wpList_wide rfl rfl rfl Try.underlying28 Try.underlying39 ?_; intro r n hr0; have hr := hr0 _ (by first | with_reducible assumption | exact rfl); clear hr0))
      go_ret
      exact ⟨rfl, HBW.out⟩
set_option maxRecDepth 100000 in
set_option maxHeartbeats 2000000 in
theorem lifted_FnRodSwings (os : Os) (started : os.Started) (H : Type) (enc : TypeId × Value → H) :
    ReturnsInHanded {} Try.checked os 5 .any (Rows.fnRodSwingsSpec.pre6 enc Try.prog Try.f5 Rows.fnRodSwingsRow.domain false) (Rows.fnRodSwingsSpec.post enc Try.prog Try.f5 false true false false) := by
  refine returnsInHanded_of_change (C := Try.checked) own started (by kernel_rfl) Try.func5
    (ChangeSpec.witness6 (enc := enc) (C := Try.checked) false ⟨#[], #[.slice none 0 0, .slice none 0 0], []⟩ 8 (by kernel_rfl) (by kernel_rfl) (by kernel_rfl) (by kernel_rfl)) ?_
  intro W base args ds gs before hval0 hW hcnd _
  have hval : ∀ (j : Nat) t v, Try.f5.params[j]? = some t → args[j]? = some v → Value.okWide Try.prog W .any base t v := hval0
  have hW' := hW
  obtain ⟨p, q, hA0, hV, rfl, hfz, hnd⟩ := hW
  have hA : DataW.TrodAll enc Try.prog W 0 (fun _ => true) true Try.f5.params.toList args.toList ds p := hA0
  rw [Try.params5] at hA hval
  obtain ⟨v0, vs0, d0, ds0, p0, q0, hargs, rfl, rfl, h0, r0⟩ := trodAll_cons hA
  obtain ⟨v1, vs1, d1, ds1, p1, q1, rfl, rfl, rfl, h1, r1⟩ := trodAll_cons r0
  obtain ⟨rfl, rfl, rfl⟩ := trodAll_nil r1
  obtain rfl : args = #[v0, v1] := by cases args; simp_all
  obtain ⟨rfl, rfl⟩ := trodVars_none hV
  have k0 := h0
  have lt0 : ∀ x ∈ p0, x.block < W.heap.size := by obtain ⟨m, hm⟩ := k0; exact DataW.trod_lt m _ _ _ hm
  obtain ⟨pa, na, ca, rfl, w0⟩ := open_By (hval 0 22 v0 rfl rfl) h0
  have k1 := h1
  have lt1 : ∀ x ∈ p1, x.block < W.heap.size := by obtain ⟨m, hm⟩ := k1; exact DataW.trod_lt m _ _ _ hm
  obtain ⟨pb, nb, cb, rfl, w1⟩ := open_By (hval 1 22 v1 rfl rfl) h1
  clear hA0 hval0
  refine (walk_FnRodSwings pa na ca pb nb cb W w0 w1).mono fun e W' ⟨he, hg⟩ => ?_
  subst he
  exact ⟨_, rfl, _, _, _, [], _, [], hW', trodAll_mk1 (shut_bool Try.underlying4 _), (trodAll_cons_mk (Below.trod laidOut (by kernel_rfl) (of_decide_eq_true (by kernel_rfl)) k0 hg lt0) (trodAll_cons_mk (Below.trod laidOut (by kernel_rfl) (of_decide_eq_true (by kernel_rfl)) k1 hg lt1) trodAll_mk0)), rfl, hg.frame _, fun h => by cases h⟩
theorem fnRodSwings_holds : Rows.FnRodSwingsSaid :=
  OpenClaim.holds_of_wide 5 Try.f5 rfl rfl rfl rfl rfl rfl rfl ⟨rfl, rfl, rfl, rfl, rfl⟩ rfl rfl rfl rfl rfl (by kernel_rfl) Try.func5 (by kernel_rfl)
    (of_decide_eq_true (by kernel_rfl)) (by unfold Func.isWrapper; rw [if_neg (of_decide_eq_false (by kernel_rfl))]; exact ⟨rfl, rfl⟩)
    (fun os started H enc _ => lifted_FnRodSwings os started H enc)
end Go.Proofs.Ytpnkapdemgieaaa

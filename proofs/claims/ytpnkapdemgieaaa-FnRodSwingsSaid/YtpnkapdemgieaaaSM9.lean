/-
  Answers of a rod to swings, in the program: elimination over complex numbers. No condition but what each contract says.
  What stands in a world and goes on standing: a bag of facts. No condition but what each law says.
  Answers of drawn rods to swings, in the program. No condition but what each contract says.
-/
import Derived.Test.YtpnkapdemgieaaaSM6
import Derived.Test.YtpnkapdemgieaaaSM8
import Derived.Test.YtpnkapdemgieaaaSM5
import Derived.Deep.CutRange
import Derived.Deep.OwnRows
import Derived.Test.YtpnkapdemgieaaaSM7
set_option linter.unusedSimpArgs false
set_option linter.unusedVariables false
set_option linter.unusedSectionVars false
namespace Go.Proofs.Ytpnkapdemgieaaa
open Go Go.RowKit
open Go.ChangeShapes Go.WideShapes Go.ChangeAt Go.RowKit Go.Joins
/-! ### Complex numbers in a row of the call's own -/
def cV (z : Nat × Nat) : Value := .complex .f32 z.1 z.2
set_option maxRecDepth 100000 in
theorem Try.infoC64 : (Try.prog.info? 51).map (fun i => (i.zero, i.size, i.bytes)) = some (some (.complex .f32 0 0), 1, 8) := by kernel_rfl
def CW (B : Nat) (w : World) (g n : Nat) (f : Nat → Nat × Nat) : Prop := w.ownsRow B 51 1 (.slice (some ⟨g, 0, none⟩) n n) n ((List.range n).map fun j => cV (f j))
theorem CW.lt {B g n : Nat} {w : World} {f : Nat → Nat × Nat} (h : CW B w g n f) : B ≤ g ∧ g < w.heap.size := World.ownsRow.lt h g rfl
theorem CW.cell {B g n : Nat} {w : World} {f : Nat → Nat × Nat} (h : CW B w g n f) {j : Nat} (hj : j < n) : w.cell? ⟨g, j, none⟩ = some (.complex .f32 (f j).1 (f j).2) ∧ w.frozen? ⟨g, j, none⟩ = false := by
  refine ⟨?_, World.ownsRow.frozenAt h j⟩
  rw [World.ownsRow.cellAt h j (by omega), List.getElem?_map, List.getElem?_range hj]
  rfl
theorem CW.later {B g n : Nat} {w w' : World} {f : Nat → Nat × Nat} (h : CW B w g n f) (hb : Below w.heap.size w w') : CW B w' g n f :=
  World.ownsRow.kept h (below_grown hb none) (.inr (by simp [Value.ownBlock]))
theorem CW.ext {B g n : Nat} {w : World} {f f' : Nat → Nat × Nat} (h : CW B w g n f) (e : ∀ j, j < n → f j = f' j) : CW B w g n f' := by
  unfold CW at h ⊢
  have : (List.range n).map (fun j => cV (f' j)) = (List.range n).map fun j => cV (f j) := List.map_congr_left fun j hj => by rw [e j (List.mem_range.1 hj)]
  rw [this]
  exact h
theorem CW.stored {B g n : Nat} {w : World} {f : Nat → Nat × Nat} (h : CW B w g n f) (j : Nat) (z : Nat × Nat) : CW B (w.setCell ⟨g, j, none⟩ (.complex .f32 z.1 z.2)) g n (fun i => if i = j then z else f i) ∧ w.grownBy (w.setCell ⟨g, j, none⟩ (.complex .f32 z.1 z.2)) (some g) := by
  obtain ⟨h1, h2⟩ := World.ownsRow.stored h j (.complex .f32 z.1 z.2)
  refine ⟨?_, h2⟩
  unfold CW
  have e : (List.range n).map (fun i => cV (if i = j then z else f i)) = ((List.range n).map fun i => cV (f i)).set j (.complex .f32 z.1 z.2) := by
    apply List.ext_getElem (by simp)
    intro i h1 h2
    have hi : i < n := by simpa using h1
    rw [List.getElem_set]
    simp only [List.getElem_map, List.getElem_range]
    by_cases e : j = i
    · rw [if_pos e, if_pos e.symm]; rfl
    · rw [if_neg e, if_neg (fun h => e h.symm)]
  rw [e]
  exact h1
theorem CW.other {B g n b o : Nat} {w : World} {f : Nat → Nat × Nat} {v : Value} (h : CW B w g n f) (hg : w.grownBy (w.setCell ⟨b, o, none⟩ v) (some b)) (hne : g ≠ b) : CW B (w.setCell ⟨b, o, none⟩ v) g n f :=
  World.ownsRow.kept h hg (.inr (by simp [Value.ownBlock]; exact hne))
theorem CW.made {B n : Nat} {w : World} (hB : B ≤ w.heap.size) (hn : n ≤ 1048576) : CW B (w.alloc (.cells (madeCells #[.complex .f32 0 0] n) 51)) w.heap.size n (fun _ => (0, 0)) := by
  have e : (List.range n).map (fun _ => cV (0, 0)) = List.replicate n (.complex .f32 0 0) := by
    rw [List.map_const', List.length_range]; rfl
  unfold CW
  rw [e]
  have := World.ownsRow_lit w (e := 51) (size := 1) (madeCells #[.complex .f32 0 0] n) n hB (by unfold maxLen; omega) (by rw [size_madeCells]; omega)
  rwa [toList_madeCells_one] at this
theorem CW.two {n : Nat} {w : World} (hn : n ≤ 1048576) : CW w.heap.size ((w.alloc (.cells (madeCells #[.complex .f32 0 0] n) 51)).alloc (.cells (madeCells #[.complex .f32 0 0] n) 51)).drew w.heap.size n (fun _ => (0, 0)) ∧ CW w.heap.size ((w.alloc (.cells (madeCells #[.complex .f32 0 0] n) 51)).alloc (.cells (madeCells #[.complex .f32 0 0] n) 51)).drew (w.heap.size + 1) n (fun _ => (0, 0)) ∧ Below w.heap.size w ((w.alloc (.cells (madeCells #[.complex .f32 0 0] n) 51)).alloc (.cells (madeCells #[.complex .f32 0 0] n) 51)).drew := by
  have h1 := CW.made (w := w) (Nat.le_refl _) hn
  have h2 := CW.made (B := w.heap.size) (w := w.alloc (.cells (madeCells #[.complex .f32 0 0] n) 51)) (by simp) hn
  rw [World.size_alloc] at h2
  exact ⟨h1.later (by (repeat (first | (with_reducible exact Below.refl _ _) | (with_reducible assumption) | (with_reducible refine below_then ?_ (by assumption)) | (with_reducible refine Below.trans ?_ (by assumption)) | (with_reducible refine below_drewN ?_ _) | (with_reducible apply Below.drew) | (with_reducible refine below_alloc ?_ _) | refine Below.setCell ?_ (by first | (simp; done) | (simp; omega)) _))), h2.later (by (repeat (first | (with_reducible exact Below.refl _ _) | (with_reducible assumption) | (with_reducible refine below_then ?_ (by assumption)) | (with_reducible refine Below.trans ?_ (by assumption)) | (with_reducible refine below_drewN ?_ _) | (with_reducible apply Below.drew) | (with_reducible refine below_alloc ?_ _) | refine Below.setCell ?_ (by first | (simp; done) | (simp; omega)) _))), by (repeat (first | (with_reducible exact Below.refl _ _) | (with_reducible assumption) | (with_reducible refine below_then ?_ (by assumption)) | (with_reducible refine Below.trans ?_ (by assumption)) | (with_reducible refine below_drewN ?_ _) | (with_reducible apply Below.drew) | (with_reducible refine below_alloc ?_ _) | refine Below.setCell ?_ (by first | (simp; done) | (simp; omega)) _))⟩
theorem CW.base {B B' g n : Nat} {w : World} {f : Nat → Nat × Nat} (h : CW B w g n f) (hB : B' ≤ B) : CW B' w g n f := by
  refine ⟨h.1, ?_⟩
  rcases h.2 with ⟨h', _⟩ | ⟨g', cap, cur, h', hb, r⟩
  · cases h'
  · exact .inr ⟨g', cap, cur, h', Nat.le_trans hB hb, r⟩
/-- What an answer's calls give, one by one. -/
structure AnH (p s : Nat → Nat) (n : Nat) (P : Rd) (t : Nat) : Prop where
  ok : passOk P heE huE = true
  abv : abv (cn .f32 t) = true
  n0 : 1 ≤ n ∧ n ≤ 48
  la : P.a.length = n
  lc : P.c.length = n
  lb : P.b.length = n
  ld : P.d.length = n
  pE : ∀ i, i ≤ n → pG P heE huE i = p i
  pf : ∀ i, i ≤ n → fnt .f32 (p i) = true
  sE : ∀ i, i < n → swS P t i = s i
  sf : ∀ i, i < n → fnt .f32 (s i) = true
  af : ∀ i, i < n → fnt .f32 (fop .add .f32 (p i) (p (i + 1))) = true
  quo : ∀ i, i + 1 < n → ∀ w, Calls Try.prog 66 #[.complex .f32 (fneg .f32 (p (i + 1))) 0, .complex .f32 (dW p s i).1 (dW p s i).2] w (BV w (.complex .f32 (fA p s i) (fB p s i)))
  mul1 : ∀ i, i + 1 < n → ∀ w, Calls Try.prog 68 #[.complex .f32 (fA p s i) (fB p s i), .complex .f32 (fneg .f32 (p (i + 1))) 0] w (BV w (.complex .f32 (narrow (t1W (fA p s i) (fB p s i) (fneg .f32 (p (i + 1))) 0)) (narrow (t2W (fA p s i) (fB p s i) (fneg .f32 (p (i + 1))) 0))))
  min1 : ∀ i, i + 1 < n → ∀ w, Calls Try.prog 67 #[.complex .f32 (fop .add .f32 (p (i + 1)) (p (i + 2))) (s (i + 1)), .complex .f32 (narrow (t1W (fA p s i) (fB p s i) (fneg .f32 (p (i + 1))) 0)) (narrow (t2W (fA p s i) (fB p s i) (fneg .f32 (p (i + 1))) 0))] w (BV w (.complex .f32 (dW p s (i + 1)).1 (dW p s (i + 1)).2))
  mul2 : ∀ i, i + 1 < n → ∀ w, Calls Try.prog 68 #[.complex .f32 (fA p s i) (fB p s i), .complex .f32 (rW p s i).1 (rW p s i).2] w (BV w (.complex .f32 (narrow (t1W (fA p s i) (fB p s i) (rW p s i).1 (rW p s i).2)) (narrow (t2W (fA p s i) (fB p s i) (rW p s i).1 (rW p s i).2))))
  min2 : ∀ i, i + 1 < n → ∀ w, Calls Try.prog 67 #[.complex .f32 0 0, .complex .f32 (narrow (t1W (fA p s i) (fB p s i) (rW p s i).1 (rW p s i).2)) (narrow (t2W (fA p s i) (fB p s i) (rW p s i).1 (rW p s i).2))] w (BV w (.complex .f32 (rW p s (i + 1)).1 (rW p s (i + 1)).2))
  mul3 : ∀ i, i + 1 < n → ∀ w, Calls Try.prog 68 #[.complex .f32 (fneg .f32 (p (i + 1))) 0, .complex .f32 (oW p s n (i + 1)).1 (oW p s n (i + 1)).2] w (BV w (.complex .f32 (narrow (t1W (fneg .f32 (p (i + 1))) 0 (oW p s n (i + 1)).1 (oW p s n (i + 1)).2)) (narrow (t2W (fneg .f32 (p (i + 1))) 0 (oW p s n (i + 1)).1 (oW p s n (i + 1)).2))))
  min3 : ∀ i, i + 1 < n → ∀ w, Calls Try.prog 67 #[.complex .f32 (rW p s i).1 (rW p s i).2, .complex .f32 (narrow (t1W (fneg .f32 (p (i + 1))) 0 (oW p s n (i + 1)).1 (oW p s n (i + 1)).2)) (narrow (t2W (fneg .f32 (p (i + 1))) 0 (oW p s n (i + 1)).1 (oW p s n (i + 1)).2))] w (BV w (.complex .f32 (sdW p (rW p s i) i (oW p s n (i + 1))).1 (sdW p (rW p s i) i (oW p s n (i + 1))).2))
  quo2 : ∀ i, i + 1 < n → ∀ w, Calls Try.prog 66 #[.complex .f32 (sdW p (rW p s i) i (oW p s n (i + 1))).1 (sdW p (rW p s i) i (oW p s n (i + 1))).2, .complex .f32 (dW p s i).1 (dW p s i).2] w (BV w (.complex .f32 (oW p s n i).1 (oW p s n i).2))
  quo3 : ∀ i, i + 1 = n → ∀ w, Calls Try.prog 66 #[.complex .f32 (rW p s i).1 (rW p s i).2, .complex .f32 (dW p s i).1 (dW p s i).2] w (BV w (.complex .f32 (oW p s n i).1 (oW p s n i).2))
  fin : ∀ i, i < n → ∀ w, Calls Try.prog 69 #[.complex .f32 (oW p s n i).1 (oW p s n i).2] w (BV w (.bool true))
theorem beside_any (x c : Nat) (w : World) (h : cn .f32 x = c) (hf : fnt .f32 c = true) : Calls Try.prog 65 #[.float .f32 x] w (BV w (.complex .f32 (fneg .f32 c) 0)) := by
  have hn : fnt .f32 (fneg .f32 c) = true := (fneg_val hf).1
  have H := Lib.hid hn
  clear hn hf
  go_enter Try.func65, Try.ntmps65
  go_wp2_with (first | (with_reducible refine at_list ?_; refine wpList_fop rfl rfl rfl rfl rfl ?_; intro r n hr0; have hr := hr0 _ _ (by first | with_reducible assumption | exact rfl) (by first | with_reducible assumption | exact rfl); clear hr0) | (with_reducible refine at_list ?_; refine wpList_neg rfl rfl rfl ?_; intro r hr0; have hr := hr0 _ (by first | with_reducible assumption | exact rfl); clear hr0) | (with_reducible refine at_list ?_; refine wpList_fop_g rfl rfl rfl rfl rfl ?_; intro r n hr0; have hr := hr0 _ _ (by first | with_reducible assumption | exact rfl) (by first | with_reducible assumption | exact rfl); clear hr0) | (with_reducible refine at_list ?_; refine wpList_wide_g rfl rfl Try.underlying28 Try.underlying39 rfl ?_; intro r n hr0; have hr := hr0 _ (by first | with_reducible assumption | exact rfl); clear hr0) | (with_reducible refine at_list ?_; refine wpList_wide rfl rfl rfl Try.underlying28 Try.underlying39 ?_; intro r n hr0; have hr := hr0 _ (by first | with_reducible assumption | exact rfl); clear hr0))
  go_ret
  exact ⟨by rename cn .f32 _ = fneg .f32 _ => hr; rw [raw_fnt hr H.out]; rfl, by first | (repeat (first | (with_reducible exact Below.refl _ _) | (with_reducible assumption) | (with_reducible refine below_then ?_ (by assumption)) | (with_reducible refine Below.trans ?_ (by assumption)) | (with_reducible refine below_drewN ?_ _) | (with_reducible apply Below.drew) | (with_reducible refine below_alloc ?_ _) | refine Below.setCell ?_ (by first | (simp; done) | (simp; omega)) _)) | exact below_drewN (Below.refl _ _) _⟩
set_option maxHeartbeats 16000000 in
set_option maxRecDepth 100000 in
theorem implAnswer_yes (P : Rd) (l : RL) (t N : Nat) (p s : Nat → Nat) (w : World) (hs : P.fs w l) (H : AnH p s N P t) : Calls Try.prog 31 #[.agg #[.slice l.p1 P.a.length l.c1, .slice l.p2 P.b.length l.c2, .slice l.p3 P.c.length l.c3, .slice l.p4 P.d.length l.c4], .float .f32 t] w (fun e w' => ∃ g, e = .returned (.tuple #[.slice (some ⟨g, 0, none⟩) N N, .bool true]) ∧ Below w.heap.size w w' ∧ CW w.heap.size w' g N (oW p s N)) := by
  have HH := Lib.hid H
  have HS := Lib.hid hs
  have hen : endsOk P heE huE = true := by have h0 := H.ok; unfold passOk at h0; rw [Bool.and_eq_true] at h0; exact h0.1
  have HF := Lib.hid (fun w h => implPasses_any P l heE huE w h)
  rw [H.ok, passI_ok hen] at HF
  have HP := Lib.hid (endsOk_rod hen)
  have HA := Lib.hid (fun v w hs => (H.abv ▸ arePos1_any t v w hs : Calls Try.prog 45 #[v] w (RB w _)))
  obtain ⟨hn1, hn2⟩ := H.n0
  obtain ⟨b1, o1, c1, b2, o2, c2, b3, o3, c3, b4, o4, c4, rfl, HA1, HB1, HC1, HD1⟩ := Rd.open hs HP.out
  rw [H.la, H.lb, H.lc, H.ld] at *
  have hmk := fun w => run_make_row' (P := Try.prog) 57 51 (.complex .f32 0 0) 8 Try.underlying57 Try.infoC64 rfl .i64 .i64 N (by omega) (by omega) w
  clear hs H hen
  go_enter Try.func31, Try.ntmps31
  go_wp2_with (first | (with_reducible refine at_list ?_; refine wpList_fop rfl rfl rfl rfl rfl ?_; intro r n hr0; have hr := hr0 _ _ (by first | with_reducible assumption | exact rfl) (by first | with_reducible assumption | exact rfl); clear hr0) | (with_reducible refine at_list ?_; refine wpList_neg rfl rfl rfl ?_; intro r hr0; have hr := hr0 _ (by first | with_reducible assumption | exact rfl); clear hr0) | (with_reducible refine at_list ?_; refine wpList_fop_g rfl rfl rfl rfl rfl ?_; intro r n hr0; have hr := hr0 _ _ (by first | with_reducible assumption | exact rfl) (by first | with_reducible assumption | exact rfl); clear hr0) | (with_reducible refine at_list ?_; refine wpList_wide_g rfl rfl Try.underlying28 Try.underlying39 rfl ?_; intro r n hr0; have hr := hr0 _ (by first | with_reducible assumption | exact rfl); clear hr0) | (with_reducible refine at_list ?_; refine wpList_wide rfl rfl rfl Try.underlying28 Try.underlying39 ?_; intro r n hr0; have hr := hr0 _ (by first | with_reducible assumption | exact rfl); clear hr0) | (go_at_call 42; refine stop_here ?_) | (go_at_call 42; refine (implPasses_any _ _ _ _ _ (by assumption)).mono ?_; rintro e w' ⟨u, ys, rfl, hb, hO, hL⟩; obtain ⟨pu, cu, rfl⟩ := OF.shape hO; (try simp only [World.size_alloc, World.size_setCell, World.size_drew, World.drewN] at hO); obtain ⟨hT, hk⟩ := bv_next hb (by (repeat (with_reducible first | assumption | apply Trk.alloc | apply Trk.setCell | apply Trk.drewN | apply Trk.drew | exact Trk.nil _))); simp only [SameOn, World.size_alloc, World.size_setCell, World.size_drew, size_drewN', and_true] at hk; have hsz := Below.size hb; (try simp only [World.size_alloc, World.size_setCell, World.size_drew, size_drewN'] at hsz)) | (go_at_call 45; refine (arePositive_any _ _ _ (by assumption)).mono ?_; rintro e w' ⟨rfl, n, rfl⟩) | (go_at_call 69; refine (isFinC_any _ _ _).mono ?_; rintro e w' ⟨rfl, hb⟩; obtain ⟨hT, hk⟩ := bv_next hb (by (repeat (with_reducible first | assumption | apply Trk.alloc | apply Trk.setCell | apply Trk.drewN | apply Trk.drew | exact Trk.nil _))); simp only [SameOn, World.size_alloc, World.size_setCell, World.size_drew, size_drewN', and_true] at hk; have hsz := Below.size hb; (try simp only [World.size_alloc, World.size_setCell, World.size_drew, size_drewN'] at hsz)))
  unfold Stop
  refine (HF.out _ (HS.out.later (by (repeat (first | (with_reducible exact Below.refl _ _) | (with_reducible assumption) | (with_reducible refine below_then ?_ (by assumption)) | (with_reducible refine Below.trans ?_ (by assumption)) | (with_reducible refine below_drewN ?_ _) | (with_reducible apply Below.drew) | (with_reducible refine below_alloc ?_ _) | refine Below.setCell ?_ (by first | (simp; done) | (simp; omega)) _))))).mono ?_
  rintro e w' ⟨u, ys0, rfl, hb, hO, hL⟩
  have hyl : ys0.length = N + 1 := by have := congrArg List.length hL; rw [passL_lenR (by rw [HH.out.la]; omega), HH.out.la] at this; simpa using this
  obtain ⟨bm, om, cm, rfl, _, HY⟩ := FS.ptr hO.fs (by omega)
  rw [hyl]
  rw [hyl] at HY
  obtain ⟨hT, hk⟩ := bv_next hb (by (repeat (with_reducible first | assumption | apply Trk.alloc | apply Trk.setCell | apply Trk.drewN | apply Trk.drew | exact Trk.nil _))); simp only [SameOn, World.size_alloc, World.size_setCell, World.size_drew, size_drewN', and_true] at hk; have hsz := Below.size hb; (try simp only [World.size_alloc, World.size_setCell, World.size_drew, size_drewN'] at hsz)
  have HG : Hid (∀ i, i ≤ N → ys0.getD i 0 = p i) := fun i hi => by
    have := map_atR hL (show i < ys0.length by omega)
    exact raw_fnt (this.trans (HH.out.pE i hi)) (HH.out.pf i hi)
  have hbm : bm < w'.heap.size := World.block_lt_of_cell? _ _ (HY.out 0 (by omega))
  clear hL hyl hO HF
  rename World => wp
  go_wp2_with (first | (with_reducible refine at_list ?_; refine wpList_fop rfl rfl rfl rfl rfl ?_; intro r n hr0; have hr := hr0 _ _ (by first | with_reducible assumption | exact rfl) (by first | with_reducible assumption | exact rfl); clear hr0) | (with_reducible refine at_list ?_; refine wpList_neg rfl rfl rfl ?_; intro r hr0; have hr := hr0 _ (by first | with_reducible assumption | exact rfl); clear hr0) | (with_reducible refine at_list ?_; refine wpList_fop_g rfl rfl rfl rfl rfl ?_; intro r n hr0; have hr := hr0 _ _ (by first | with_reducible assumption | exact rfl) (by first | with_reducible assumption | exact rfl); clear hr0) | (with_reducible refine at_list ?_; refine wpList_wide_g rfl rfl Try.underlying28 Try.underlying39 rfl ?_; intro r n hr0; have hr := hr0 _ (by first | with_reducible assumption | exact rfl); clear hr0) | (with_reducible refine at_list ?_; refine wpList_wide rfl rfl rfl Try.underlying28 Try.underlying39 ?_; intro r n hr0; have hr := hr0 _ (by first | with_reducible assumption | exact rfl); clear hr0) | (go_at_call 42; refine (implPasses_any _ _ _ _ _ (by assumption)).mono ?_; rintro e w' ⟨u, ys, rfl, hb, hO, hL⟩; obtain ⟨pu, cu, rfl⟩ := OF.shape hO; (try simp only [World.size_alloc, World.size_setCell, World.size_drew, World.drewN] at hO); obtain ⟨hT, hk⟩ := bv_next hb (by (repeat (with_reducible first | assumption | apply Trk.alloc | apply Trk.setCell | apply Trk.drewN | apply Trk.drew | exact Trk.nil _))); simp only [SameOn, World.size_alloc, World.size_setCell, World.size_drew, size_drewN', and_true] at hk; have hsz := Below.size hb; (try simp only [World.size_alloc, World.size_setCell, World.size_drew, size_drewN'] at hsz)) | (go_at_call 45; refine ((HA.out _ _ (FS1 (by go_simp <;> exact rfl))) ).mono ?_; rintro e w' ⟨rfl, n, rfl⟩) | (go_at_call 69; refine (isFinC_any _ _ _).mono ?_; rintro e w' ⟨rfl, hb⟩; obtain ⟨hT, hk⟩ := bv_next hb (by (repeat (with_reducible first | assumption | apply Trk.alloc | apply Trk.setCell | apply Trk.drewN | apply Trk.drew | exact Trk.nil _))); simp only [SameOn, World.size_alloc, World.size_setCell, World.size_drew, size_drewN', and_true] at hk; have hsz := Below.size hb; (try simp only [World.size_alloc, World.size_setCell, World.size_drew, size_drewN'] at hsz)))
  refine wp_named ?_
  intro w1 hw1
  have HB1w : Hid (Below w.heap.size w w1) := by show Below _ _ _; rw [hw1]; (repeat (first | (with_reducible exact Below.refl _ _) | (with_reducible assumption) | (with_reducible refine below_then ?_ (by assumption)) | (with_reducible refine Below.trans ?_ (by assumption)) | (with_reducible refine below_drewN ?_ _) | (with_reducible apply Below.drew) | (with_reducible refine below_alloc ?_ _) | refine Below.setCell ?_ (by first | (simp; done) | (simp; omega)) _))
  have HBp : Hid (Below wp.heap.size wp w1) := by show Below _ _ _; rw [hw1]; (repeat (first | (with_reducible exact Below.refl _ _) | (with_reducible assumption) | (with_reducible refine below_then ?_ (by assumption)) | (with_reducible refine Below.trans ?_ (by assumption)) | (with_reducible refine below_drewN ?_ _) | (with_reducible apply Below.drew) | (with_reducible refine below_alloc ?_ _) | refine Below.setCell ?_ (by first | (simp; done) | (simp; omega)) _))
  have HR0 : Hid (w1.cell? ⟨w.heap.size, 0, none⟩ = some (.slice (some ⟨b1, o1, none⟩) N c1) ∧ w1.cell? ⟨w.heap.size, 2, none⟩ = some (.slice (some ⟨b3, o3, none⟩) N c3)) := by show _ ∧ _; rw [hw1]; exact ⟨by go_simp, by go_simp⟩
  have hz1 : w.heap.size < w1.heap.size := by rw [hw1]; first | omega | (simp; omega)
  have hbm1 : bm < w1.heap.size := Nat.lt_of_lt_of_le hbm HBp.out.size
  have HY1 : Hid (∀ i, i ≤ N → w1.cell? ⟨bm, om + i, none⟩ = some (.float .f32 (p i))) := fun i hi => by
    have := cell_later HBp.out (HY.out i (by omega))
    rwa [HG.out i hi] at this
  clear hw1 hb hk hT hsz HY hbm HG
  go_cut [9, 10] from 18 to 173 (fun s9 s10 wx => ∃ g1 g2, s9 = .slice (some ⟨g1, 0, none⟩) N N ∧ s10 = .slice (some ⟨g2, 0, none⟩) N N ∧ g1 ≠ g2 ∧ Hid (CW w1.heap.size wx g1 N (fun _ => (0, 0))) ∧ Hid (CW w1.heap.size wx g2 N (fun _ => (0, 0))) ∧ Hid (Below w1.heap.size w1 wx))
  case first =>
    have h2 := CW.two (n := N) (w := w1) (by omega)
    go_region
    · go_wp2_with fail
      go_meet
      case rel => exact ⟨_, _, rfl, rfl, by omega, h2.1, h2.2.1, h2.2.2⟩
    · go_wp2_with fail
      go_meet
      case rel => exact ⟨_, _, rfl, rfl, by omega, h2.2.1, h2.1, h2.2.2⟩
  case rest =>
    obtain ⟨g1, g2, rfl, rfl, hne, HC0, HC2, HBc⟩ := hcut
    have hp0 : wc.cell? ⟨bm, om, none⟩ = some (.float .f32 (p 0)) := cell_later HBc.out (by have := HY1.out 0 (by omega); simpa using this)
    have hbmc : bm < wc.heap.size := Nat.lt_of_lt_of_le hbm1 HBc.out.size
    have hg2c := HC2.out.lt.2
    have hT : Trk wc [bm, g2] := ((Trk.nil wc).more hg2c).more hbmc
    obtain ⟨k20, k21⟩ := HC2.out.cell (j := 0) (by omega)
    clear hmk
    go_wp2_with (first | (with_reducible refine at_list ?_; refine wpList_fop rfl rfl rfl rfl rfl ?_; intro r n hr0; have hr := hr0 _ _ (by first | with_reducible assumption | exact rfl) (by first | with_reducible assumption | exact rfl); clear hr0) | (with_reducible refine at_list ?_; refine wpList_neg rfl rfl rfl ?_; intro r hr0; have hr := hr0 _ (by first | with_reducible assumption | exact rfl); clear hr0) | (with_reducible refine at_list ?_; refine wpList_fop_g rfl rfl rfl rfl rfl ?_; intro r n hr0; have hr := hr0 _ _ (by first | with_reducible assumption | exact rfl) (by first | with_reducible assumption | exact rfl); clear hr0) | (with_reducible refine at_list ?_; refine wpList_wide_g rfl rfl Try.underlying28 Try.underlying39 rfl ?_; intro r n hr0; have hr := hr0 _ (by first | with_reducible assumption | exact rfl); clear hr0) | (with_reducible refine at_list ?_; refine wpList_wide rfl rfl rfl Try.underlying28 Try.underlying39 ?_; intro r n hr0; have hr := hr0 _ (by first | with_reducible assumption | exact rfl); clear hr0) | (go_at_call 42; refine (implPasses_any _ _ _ _ _ (by assumption)).mono ?_; rintro e w' ⟨u, ys, rfl, hb, hO, hL⟩; obtain ⟨pu, cu, rfl⟩ := OF.shape hO; (try simp only [World.size_alloc, World.size_setCell, World.size_drew, World.drewN] at hO); obtain ⟨hT, hk⟩ := bv_next hb (by (repeat (with_reducible first | assumption | apply Trk.alloc | apply Trk.setCell | apply Trk.drewN | apply Trk.drew | exact Trk.nil _))); simp only [SameOn, World.size_alloc, World.size_setCell, World.size_drew, size_drewN', and_true] at hk; have hsz := Below.size hb; (try simp only [World.size_alloc, World.size_setCell, World.size_drew, size_drewN'] at hsz)) | (go_at_call 45; refine (arePositive_any _ _ _ (by assumption)).mono ?_; rintro e w' ⟨rfl, n, rfl⟩) | (go_at_call 69; refine (isFinC_any _ _ _).mono ?_; rintro e w' ⟨rfl, hb⟩; obtain ⟨hT, hk⟩ := bv_next hb (by (repeat (with_reducible first | assumption | apply Trk.alloc | apply Trk.setCell | apply Trk.drewN | apply Trk.drew | exact Trk.nil _))); simp only [SameOn, World.size_alloc, World.size_setCell, World.size_drew, size_drewN', and_true] at hk; have hsz := Below.size hb; (try simp only [World.size_alloc, World.size_setCell, World.size_drew, size_drewN'] at hsz)))
    refine wp_named ?_
    intro w2 hw2
    have S2 := HC2.out.stored 0 (p 0, 0)
    have HS1 : Hid (CW w1.heap.size w2 g1 N (fun j => if j < 0 then dW p s j else (0, 0))) := by
      show CW _ _ _ _ _
      rw [hw2]
      exact (CW.other HC0.out S2.2 hne).ext (fun j hj => by rw [if_neg (by omega)])
    have HS2 : Hid (CW w1.heap.size w2 g2 N (fun j => if j < max 0 1 then rW p s j else (0, 0))) := by
      show CW _ _ _ _ _
      rw [hw2]
      refine S2.1.ext (fun j hj => ?_)
      by_cases e : j = 0
      · subst e; rfl
      · rw [if_neg e, if_neg (by omega)]
    have HB2 : Hid (Below w1.heap.size w1 w2) := by
      show Below _ _ _
      rw [hw2]
      exact HBc.out.setCell HC2.out.lt.1 _
    clear hw2 S2 k20 k21 hp0 hT hbmc hg2c HBc HC0 HC2
    go_loopw [47] (fun z wr => ∃ k : Nat, k ≤ N ∧ z = .int .i64 (k : Int) ∧ Hid (CW w1.heap.size wr g1 N (fun j => if j < k then dW p s j else (0, 0))) ∧ Hid (CW w1.heap.size wr g2 N (fun j => if j < max k 1 then rW p s j else (0, 0))) ∧ Hid (Below w1.heap.size w1 wr)) (fun z _ => N - (intOf z).toNat)
    case atStart => exact ⟨0, by omega, rfl, HS1.out, HS2.out, HB2.out⟩
    case round =>
      obtain ⟨k, hk, rfl, HC0, HC2, HBr⟩ := hrel
      have hg1 := HC0.out.lt
      have hg2 := HC2.out.lt
      have HBw : Hid (Below w.heap.size w wr) := HB1w.out.trans (HBr.out.mono (by omega))
      have hzr := HBr.out.size
      by_cases hlt : k < N
      · have hlti : (k : Int) < (N : Int) := by omega
        have hki : 0 ≤ (k : Int) + 1 := by omega
        have hkt : ((k : Int) + 1).toNat = k + 1 := by omega
        have hkw : IntKind.i64.wrap ((k : Int) + 1) = (k : Int) + 1 := IntWalk.i64_in _ (by omega)
        have hk1 : k < N + 1 := by omega
        have hk2 : k + 1 < N + 1 := by omega
        have hk3 : (k : Int) < (N : Int) + 1 := by omega
        have hk4 : (k : Int) + 1 < (N : Int) + 1 := by omega
        have d0 := (HBr.out.cell (p := ⟨w.heap.size, 0, none⟩) hz1).trans HR0.out.1
        have d2 := (HBr.out.cell (p := ⟨w.heap.size, 2, none⟩) hz1).trans HR0.out.2
        have ya := (HBr.out.cell (p := ⟨bm, om + k, none⟩) hbm1).trans (HY1.out k (by omega))
        have yb := (HBr.out.cell (p := ⟨bm, om + (k + 1), none⟩) hbm1).trans (HY1.out (k + 1) (by omega))
        have za := cell_later HBw.out (HA1.out k hlt)
        have zc := cell_later HBw.out (HC1.out k hlt)
        have HSW : Hid (fop .mul .f32 (fop .mul .f32 (fop .mul .f32 (cn .f32 1086918619) (cn .f32 t)) (cn .f32 (P.a.getD k 0))) (cn .f32 (P.c.getD k 0)) = s k ∧ fnt .f32 (s k) = true) := ⟨HH.out.sE k hlt, HH.out.sf k hlt⟩
        generalize P.a.getD k 0 = xa at za HSW
        generalize P.c.getD k 0 = xc at zc HSW
        obtain ⟨x0, x1⟩ := HC0.out.cell (j := k) hlt
        go_wp2_with (first | (with_reducible refine at_list ?_; refine wpList_fop rfl rfl rfl rfl rfl ?_; intro r n hr0; have hr := hr0 _ _ (by first | with_reducible assumption | exact rfl) (by first | with_reducible assumption | exact rfl); clear hr0) | (with_reducible refine at_list ?_; refine wpList_neg rfl rfl rfl ?_; intro r hr0; have hr := hr0 _ (by first | with_reducible assumption | exact rfl); clear hr0) | (with_reducible refine at_list ?_; refine wpList_fop_g rfl rfl rfl rfl rfl ?_; intro r n hr0; have hr := hr0 _ _ (by first | with_reducible assumption | exact rfl) (by first | with_reducible assumption | exact rfl); clear hr0) | (with_reducible refine at_list ?_; refine wpList_wide_g rfl rfl Try.underlying28 Try.underlying39 rfl ?_; intro r n hr0; have hr := hr0 _ (by first | with_reducible assumption | exact rfl); clear hr0) | (with_reducible refine at_list ?_; refine wpList_wide rfl rfl rfl Try.underlying28 Try.underlying39 ?_; intro r n hr0; have hr := hr0 _ (by first | with_reducible assumption | exact rfl); clear hr0) | (go_at_call 42; refine (implPasses_any _ _ _ _ _ (by assumption)).mono ?_; rintro e w' ⟨u, ys, rfl, hb, hO, hL⟩; obtain ⟨pu, cu, rfl⟩ := OF.shape hO; (try simp only [World.size_alloc, World.size_setCell, World.size_drew, World.drewN] at hO); obtain ⟨hT, hk⟩ := bv_next hb (by (repeat (with_reducible first | assumption | apply Trk.alloc | apply Trk.setCell | apply Trk.drewN | apply Trk.drew | exact Trk.nil _))); simp only [SameOn, World.size_alloc, World.size_setCell, World.size_drew, size_drewN', and_true] at hk; have hsz := Below.size hb; (try simp only [World.size_alloc, World.size_setCell, World.size_drew, size_drewN'] at hsz)) | (go_at_call 45; refine (arePositive_any _ _ _ (by assumption)).mono ?_; rintro e w' ⟨rfl, n, rfl⟩) | (go_at_call 69; refine (isFinC_any _ _ _).mono ?_; rintro e w' ⟨rfl, hb⟩; obtain ⟨hT, hk⟩ := bv_next hb (by (repeat (with_reducible first | assumption | apply Trk.alloc | apply Trk.setCell | apply Trk.drewN | apply Trk.drew | exact Trk.nil _))); simp only [SameOn, World.size_alloc, World.size_setCell, World.size_drew, size_drewN', and_true] at hk; have hsz := Below.size hb; (try simp only [World.size_alloc, World.size_setCell, World.size_drew, size_drewN'] at hsz)))
        (refine wp_some_lit (by kernel_rfl) (by kernel_rfl) ?_; (refine wpSome_one ?_; go_big_quiet_step (fail); refine wpQuiet_nil ?_); ((with_reducible refine at_some ?_; refine wpSome_fop rfl rfl rfl rfl rfl ?_; intro r hr0; have hr := hr0 _ _ (by first | with_reducible assumption | exact rfl) (by first | with_reducible assumption | exact rfl); clear hr0); simp only [Act.put, List.setIfInBounds_toArray, List.set_cons_zero, List.set_cons_succ]); (refine wpSome_one ?_; go_big_quiet_step (fail); refine wpQuiet_nil ?_); (refine wpSome_one ?_; go_big_quiet_step (fail); refine wpQuiet_nil ?_); (refine wpSome_one ?_; go_big_quiet_step (fail); refine wpQuiet_nil ?_); (refine wpSome_one ?_; go_big_quiet_step (fail); refine wpQuiet_nil ?_); (refine wpSome_one ?_; go_big_quiet_step (fail); refine wpQuiet_nil ?_); ((with_reducible refine at_some ?_; refine wpSome_fop rfl rfl rfl rfl rfl ?_; intro r hr0; have hr := hr0 _ _ (by first | with_reducible assumption | exact rfl) (by first | with_reducible assumption | exact rfl); clear hr0); simp only [Act.put, List.setIfInBounds_toArray, List.set_cons_zero, List.set_cons_succ]); (refine wpSome_one ?_; go_big_quiet_step (fail); refine wpQuiet_nil ?_); (refine wpSome_one ?_; go_big_quiet_step (fail); refine wpQuiet_nil ?_); (refine wpSome_one ?_; go_big_quiet_step (fail); refine wpQuiet_nil ?_); (refine wpSome_one ?_; go_big_quiet_step (fail); refine wpQuiet_nil ?_); (refine wpSome_one ?_; go_big_quiet_step (fail); refine wpQuiet_nil ?_); ((with_reducible refine at_some ?_; refine wpSome_fop rfl rfl rfl rfl rfl ?_; intro r hr0; have hr := hr0 _ _ (by first | with_reducible assumption | exact rfl) (by first | with_reducible assumption | exact rfl); clear hr0); simp only [Act.put, List.setIfInBounds_toArray, List.set_cons_zero, List.set_cons_succ]); (refine wpSome_one ?_; go_big_quiet_step (fail); refine wpQuiet_nil ?_); refine wpSome_nil ?_; intro w' hw'; obtain ⟨nq, rfl⟩ := hw')
        obtain rfl : r = s k := raw_fnt (hr.trans HSW.out.1) HSW.out.2
        clear hr za zc d0 d2
        have hbmr : bm < wr.heap.size := by omega
        have hT : Trk wr [bm, g1] := ((Trk.nil wr).more hg1.2).more hbmr
        have hfa := HH.out.af k hlt
        go_wp2_with (first | (with_reducible refine at_list ?_; refine wpList_fop rfl rfl rfl rfl rfl ?_; intro r n hr0; have hr := hr0 _ _ (by first | with_reducible assumption | exact rfl) (by first | with_reducible assumption | exact rfl); clear hr0) | (with_reducible refine at_list ?_; refine wpList_neg rfl rfl rfl ?_; intro r hr0; have hr := hr0 _ (by first | with_reducible assumption | exact rfl); clear hr0) | (with_reducible refine at_list ?_; refine wpList_fop_g rfl rfl rfl rfl rfl ?_; intro r n hr0; have hr := hr0 _ _ (by first | with_reducible assumption | exact rfl) (by first | with_reducible assumption | exact rfl); clear hr0) | (with_reducible refine at_list ?_; refine wpList_wide_g rfl rfl Try.underlying28 Try.underlying39 rfl ?_; intro r n hr0; have hr := hr0 _ (by first | with_reducible assumption | exact rfl); clear hr0) | (with_reducible refine at_list ?_; refine wpList_wide rfl rfl rfl Try.underlying28 Try.underlying39 ?_; intro r n hr0; have hr := hr0 _ (by first | with_reducible assumption | exact rfl); clear hr0) | (go_at_call 42; refine (implPasses_any _ _ _ _ _ (by assumption)).mono ?_; rintro e w' ⟨u, ys, rfl, hb, hO, hL⟩; obtain ⟨pu, cu, rfl⟩ := OF.shape hO; (try simp only [World.size_alloc, World.size_setCell, World.size_drew, World.drewN] at hO); obtain ⟨hT, hk⟩ := bv_next hb (by (repeat (with_reducible first | assumption | apply Trk.alloc | apply Trk.setCell | apply Trk.drewN | apply Trk.drew | exact Trk.nil _))); simp only [SameOn, World.size_alloc, World.size_setCell, World.size_drew, size_drewN', and_true] at hk; have hsz := Below.size hb; (try simp only [World.size_alloc, World.size_setCell, World.size_drew, size_drewN'] at hsz)) | (go_at_call 45; refine (arePositive_any _ _ _ (by assumption)).mono ?_; rintro e w' ⟨rfl, n, rfl⟩) | (go_at_call 69; refine (isFinC_any _ _ _).mono ?_; rintro e w' ⟨rfl, hb⟩; obtain ⟨hT, hk⟩ := bv_next hb (by (repeat (with_reducible first | assumption | apply Trk.alloc | apply Trk.setCell | apply Trk.drewN | apply Trk.drew | exact Trk.nil _))); simp only [SameOn, World.size_alloc, World.size_setCell, World.size_drew, size_drewN', and_true] at hk; have hsz := Below.size hb; (try simp only [World.size_alloc, World.size_setCell, World.size_drew, size_drewN'] at hsz)))
        (apply wp_region_plan; ((apply wpC_det; (case hw => exact rfl); (case hs => (intro cs b h; cases h)); (case h1 => (intro w'; go_simp <;> exact rfl))); apply wpC_norm; (case ha => (simp only [Act.put, List.setIfInBounds_toArray, List.set_cons_zero, List.set_cons_succ]; exact rfl))); ((apply wpC_det; (case hw => exact rfl); (case hs => (intro cs b h; cases h)); (case h1 => (intro w'; go_simp <;> exact rfl))); apply wpC_norm; (case ha => (simp only [Act.put, List.setIfInBounds_toArray, List.set_cons_zero, List.set_cons_succ]; exact rfl))); ((apply wpC_det; (case hw => exact rfl); (case hs => (intro cs b h; cases h)); (case h1 => (intro w'; go_simp <;> exact rfl))); apply wpC_norm; (case ha => (simp only [Act.put, List.setIfInBounds_toArray, List.set_cons_zero, List.set_cons_succ]; exact rfl))); ((apply wpC_det; (case hw => exact rfl); (case hs => (intro cs b h; cases h)); (case h1 => (intro w'; go_simp <;> exact rfl))); apply wpC_norm; (case ha => (simp only [Act.put, List.setIfInBounds_toArray, List.set_cons_zero, List.set_cons_succ]; exact rfl))); ((apply wpC_det; (case hw => exact rfl); (case hs => (intro cs b h; cases h)); (case h1 => (intro w'; go_simp <;> exact rfl))); apply wpC_norm; (case ha => (simp only [Act.put, List.setIfInBounds_toArray, List.set_cons_zero, List.set_cons_succ]; exact rfl))); ((apply wpC_val; (case hw => exact rfl); (case h1 => (intro w' hb hk0; obtain ⟨hT, hk⟩ := bv_next hb (by (repeat (with_reducible first | assumption | apply Trk.alloc | apply Trk.setCell | apply Trk.drewN | apply Trk.drew | exact Trk.nil _))); simp only [SameOn, World.size_alloc, World.size_setCell, World.size_drew, size_drewN', and_true] at hk; have hsz := Below.size hb; (try simp only [World.size_alloc, World.size_setCell, World.size_drew, size_drewN'] at hsz); go_simp <;> exact rfl))); apply wpC_norm; (case ha => (simp only [Act.put, List.setIfInBounds_toArray, List.set_cons_zero, List.set_cons_succ]; exact rfl))); ((apply wpC_det; (case hw => exact rfl); (case hs => (intro cs b h; cases h)); (case h1 => (intro w'; go_simp <;> exact rfl))); apply wpC_norm; (case ha => (simp only [Act.put, List.setIfInBounds_toArray, List.set_cons_zero, List.set_cons_succ]; exact rfl))); ((apply wpC_det; (case hw => exact rfl); (case hs => (intro cs b h; cases h)); (case h1 => (intro w'; go_simp <;> exact rfl))); apply wpC_norm; (case ha => (simp only [Act.put, List.setIfInBounds_toArray, List.set_cons_zero, List.set_cons_succ]; exact rfl))); ((apply wpC_det; (case hw => exact rfl); (case hs => (intro cs b h; cases h)); (case h1 => (intro w'; go_simp <;> exact rfl))); apply wpC_norm; (case ha => (simp only [Act.put, List.setIfInBounds_toArray, List.set_cons_zero, List.set_cons_succ]; exact rfl))); ((apply wpC_det; (case hw => exact rfl); (case hs => (intro cs b h; cases h)); (case h1 => (intro w'; go_simp <;> exact rfl))); apply wpC_norm; (case ha => (simp only [Act.put, List.setIfInBounds_toArray, List.set_cons_zero, List.set_cons_succ]; exact rfl))); ((apply wpC_val; (case hw => exact rfl); (case h1 => (intro w' hb hk0; obtain ⟨hT, hk⟩ := bv_next hb (by (repeat (with_reducible first | assumption | apply Trk.alloc | apply Trk.setCell | apply Trk.drewN | apply Trk.drew | exact Trk.nil _))); simp only [SameOn, World.size_alloc, World.size_setCell, World.size_drew, size_drewN', and_true] at hk; have hsz := Below.size hb; (try simp only [World.size_alloc, World.size_setCell, World.size_drew, size_drewN'] at hsz); go_simp <;> exact rfl))); apply wpC_norm; (case ha => (simp only [Act.put, List.setIfInBounds_toArray, List.set_cons_zero, List.set_cons_succ]; exact rfl))); ((apply wpC_fop rfl rfl rfl rfl rfl; intro r hr0; have hr := hr0 _ _ (by first | with_reducible assumption | exact rfl) (by first | with_reducible assumption | exact rfl); clear hr0); apply wpC_norm; (case ha => (simp only [Act.put, List.setIfInBounds_toArray, List.set_cons_zero, List.set_cons_succ]; exact rfl))); ((apply wpC_det; (case hw => exact rfl); (case hs => (intro cs b h; cases h)); (case h1 => (intro w'; go_simp <;> exact rfl))); apply wpC_norm; (case ha => (simp only [Act.put, List.setIfInBounds_toArray, List.set_cons_zero, List.set_cons_succ]; exact rfl))); ((apply wpC_det; (case hw => exact rfl); (case hs => (intro cs b h; cases h)); (case h1 => (intro w'; go_simp <;> exact rfl))); apply wpC_norm; (case ha => (simp only [Act.put, List.setIfInBounds_toArray, List.set_cons_zero, List.set_cons_succ]; exact rfl))); ((apply wpC_det; (case hw => exact rfl); (case hs => (intro cs b h; cases h)); (case h1 => (intro w'; go_simp <;> exact rfl))); apply wpC_norm; (case ha => (simp only [Act.put, List.setIfInBounds_toArray, List.set_cons_zero, List.set_cons_succ]; exact rfl))); refine wpC_tail (by kernel_rfl) (by first | rfl | kernel_rfl) ?_; intro w' hb hkk; obtain ⟨hT, hk⟩ := bv_next hb (by (repeat (with_reducible first | assumption | apply Trk.alloc | apply Trk.setCell | apply Trk.drewN | apply Trk.drew | exact Trk.nil _))); simp only [SameOn, World.size_alloc, World.size_setCell, World.size_drew, size_drewN', and_true] at hk; have hsz := Below.size hb; (try simp only [World.size_alloc, World.size_setCell, World.size_drew, size_drewN'] at hsz))
        rotate_left
        all_goals (try (first | kernel_rfl | rfl))
        rename World => w3
        have hra : r = fop .add .f32 (p k) (p (k + 1)) := raw_fnt (hr.trans (fop_cn _ _ _ _)) hfa
        clear hr
        subst hra
        have HB3 : Hid (Below wr.heap.size wr w3) := by show Below _ _ _; (repeat (first | (with_reducible exact Below.refl _ _) | (with_reducible assumption) | (with_reducible refine below_then ?_ (by assumption)) | (with_reducible refine Below.trans ?_ (by assumption)) | (with_reducible refine below_drewN ?_ _) | (with_reducible apply Below.drew) | (with_reducible refine below_alloc ?_ _) | refine Below.setCell ?_ (by first | (simp; done) | (simp; omega)) _))
        have C0 := HC0.out.later HB3.out
        have C2 := HC2.out.later HB3.out
        have S1 := C0.stored k (fop .add .f32 (p k) (p (k + 1)), s k)
        have GB5 : Hid (Below w1.heap.size w1 (w3.setCell ⟨g1, k, none⟩ (.complex .f32 (fop .add .f32 (p k) (p (k + 1))) (s k)))) := (HBr.out.trans (HB3.out.mono (by omega))).setCell hg1.1 _
        have GS1 := Lib.hid S1.1
        have GS2 := Lib.hid (CW.other C2 S1.2 hne.symm)
        clear S1 C0 C2 hfa
        go_upto_region 13 with fail
        refine wp_named ?_
        intro w4 hw4
        have HS1 : Hid (CW w1.heap.size w4 g1 N (fun i => if i = k then (fop .add .f32 (p k) (p (k + 1)), s k) else if i < k then dW p s i else (0, 0))) := by show CW _ _ _ _ _; rw [hw4]; exact GS1.out
        have HS2 : Hid (CW w1.heap.size w4 g2 N (fun j => if j < max k 1 then rW p s j else (0, 0))) := by show CW _ _ _ _ _; rw [hw4]; exact GS2.out
        have HB5 : Hid (Below w1.heap.size w1 w4) := by show Below _ _ _; rw [hw4]; exact GB5.out
        clear hw4 GS1 GS2 GB5 HC0 HC2 hb hT hsz ya yb x0 x1 HSW
        by_cases hk0 : k = 0
        · obtain rfl : k = 0 := hk0
          go_wp2_with (first | (with_reducible refine at_list ?_; refine wpList_fop rfl rfl rfl rfl rfl ?_; intro r n hr0; have hr := hr0 _ _ (by first | with_reducible assumption | exact rfl) (by first | with_reducible assumption | exact rfl); clear hr0) | (with_reducible refine at_list ?_; refine wpList_neg rfl rfl rfl ?_; intro r hr0; have hr := hr0 _ (by first | with_reducible assumption | exact rfl); clear hr0) | (with_reducible refine at_list ?_; refine wpList_fop_g rfl rfl rfl rfl rfl ?_; intro r n hr0; have hr := hr0 _ _ (by first | with_reducible assumption | exact rfl) (by first | with_reducible assumption | exact rfl); clear hr0) | (with_reducible refine at_list ?_; refine wpList_wide_g rfl rfl Try.underlying28 Try.underlying39 rfl ?_; intro r n hr0; have hr := hr0 _ (by first | with_reducible assumption | exact rfl); clear hr0) | (with_reducible refine at_list ?_; refine wpList_wide rfl rfl rfl Try.underlying28 Try.underlying39 ?_; intro r n hr0; have hr := hr0 _ (by first | with_reducible assumption | exact rfl); clear hr0) | (go_at_call 42; refine (implPasses_any _ _ _ _ _ (by assumption)).mono ?_; rintro e w' ⟨u, ys, rfl, hb, hO, hL⟩; obtain ⟨pu, cu, rfl⟩ := OF.shape hO; (try simp only [World.size_alloc, World.size_setCell, World.size_drew, World.drewN] at hO); obtain ⟨hT, hk⟩ := bv_next hb (by (repeat (with_reducible first | assumption | apply Trk.alloc | apply Trk.setCell | apply Trk.drewN | apply Trk.drew | exact Trk.nil _))); simp only [SameOn, World.size_alloc, World.size_setCell, World.size_drew, size_drewN', and_true] at hk; have hsz := Below.size hb; (try simp only [World.size_alloc, World.size_setCell, World.size_drew, size_drewN'] at hsz)) | (go_at_call 45; refine (arePositive_any _ _ _ (by assumption)).mono ?_; rintro e w' ⟨rfl, n, rfl⟩) | (go_at_call 69; refine (isFinC_any _ _ _).mono ?_; rintro e w' ⟨rfl, hb⟩; obtain ⟨hT, hk⟩ := bv_next hb (by (repeat (with_reducible first | assumption | apply Trk.alloc | apply Trk.setCell | apply Trk.drewN | apply Trk.drew | exact Trk.nil _))); simp only [SameOn, World.size_alloc, World.size_setCell, World.size_drew, size_drewN', and_true] at hk; have hsz := Below.size hb; (try simp only [World.size_alloc, World.size_setCell, World.size_drew, size_drewN'] at hsz)))
          refine ⟨⟨1, by omega, rfl, ?_, ?_, HB5.out⟩, by simp [intOf]; omega⟩
          rotate_left
          · exact HS2.out.ext (fun j hj => by rw [show max 0 1 = max 1 1 from rfl])
          exact HS1.out.ext (fun j hj => by
            by_cases e : j = 0
            · subst e; rfl
            · rw [if_neg e, if_neg (by omega), if_neg (by omega)])
        · have hk0i : ¬ (k : Int) = 0 := by omega
          obtain ⟨i, hik⟩ : ∃ i, Hid (k = i + 1) := ⟨k - 1, by show _ = _; omega⟩
          have hiN : i < N := by have := hik.out; omega
          have hii : (i : Int) < (N : Int) := by omega
          have hkwi : IntKind.i64.wrap ((k : Int) - 1) = (i : Int) := by have := hik.out; rw [IntWalk.i64_in _ (by omega)]; omega
          have hneki : ¬ i = k := by have := hik.out; omega
          have hneik : ¬ k = i := by have := hik.out; omega
          obtain ⟨a0, a1⟩ := HS1.out.cell (j := i) hiN
          obtain ⟨a2, a3⟩ := HS1.out.cell (j := k) hlt
          obtain ⟨a4, a5⟩ := HS2.out.cell (j := i) hiN
          obtain ⟨a6, a7⟩ := HS2.out.cell (j := k) hlt
          rw [if_neg hneki, if_pos (by have := hik.out; omega)] at a0
          rw [if_pos rfl] at a2
          rw [if_pos (by have := hik.out; omega)] at a4
          rw [if_neg (by omega)] at a6
          have ya := (HB5.out.cell (p := ⟨bm, om + k, none⟩) hbm1).trans (HY1.out k (by omega))
          have HBE : Hid (∀ w, Calls Try.prog 65 #[.float .f32 (p k)] w (BV w (.complex .f32 (fneg .f32 (p k)) 0))) := fun w => beside_any (p k) (p k) w (fnt_cn (HH.out.pf k (by omega))) (HH.out.pf k (by omega))
          have HQU := Lib.hid (HH.out.quo i (by have := hik.out; omega))
          have HM1 := Lib.hid (HH.out.mul1 i (by have := hik.out; omega))
          have HN1 := Lib.hid (HH.out.min1 i (by have := hik.out; omega))
          have HM2 := Lib.hid (HH.out.mul2 i (by have := hik.out; omega))
          have HN2 := Lib.hid (HH.out.min2 i (by have := hik.out; omega))
          have eik : i + 2 = k + 1 := by have := hik.out; omega
          rw [← hik.out] at HQU HM1 HN1 HN2
          have eik2 := Lib.hid eik
          rw [eik] at HN1
          clear eik eik2
          have hbm5 : bm < w4.heap.size := by have := HB5.out.size; omega
          have hT : Trk w4 [bm, g1, g2] := (((Trk.nil w4).more HS2.out.lt.2).more HS1.out.lt.2).more hbm5
          obtain ⟨E1, E2, hE⟩ : ∃ E1 E2, Hid ((E1, E2) = dW p s k) := ⟨_, _, rfl⟩
          obtain ⟨T1, T2, hTT⟩ : ∃ T1 T2, Hid ((T1, T2) = rW p s k) := ⟨_, _, rfl⟩
          rw [← hE.out] at HN1
          rw [← hTT.out] at HN2
          generalize (dW p s i).1 = D1 at a0 HQU
          generalize (dW p s i).2 = D2 at a0 HQU
          obtain ⟨R1, hR1⟩ : ∃ R1, Hid ((rW p s i).1 = R1) := ⟨_, rfl⟩
          obtain ⟨R2, hR2⟩ : ∃ R2, Hid ((rW p s i).2 = R2) := ⟨_, rfl⟩
          rw [hR1.out, hR2.out] at a4 HM2 HN2
          generalize fA p s i = F1 at *
          generalize fB p s i = F2 at *
          generalize narrow (t1W F1 F2 (fneg .f32 (p k)) 0) = M1 at HM1 HN1
          generalize narrow (t2W F1 F2 (fneg .f32 (p k)) 0) = M2 at HM1 HN1
          generalize narrow (t1W F1 F2 R1 R2) = K1 at HM2 HN2
          generalize narrow (t2W F1 F2 R1 R2) = K2 at HM2 HN2
          generalize fop .add .f32 (p k) (p (k + 1)) = A0 at *
          go_wp2_with (first | (with_reducible refine at_list ?_; refine wpList_fop rfl rfl rfl rfl rfl ?_; intro r n hr0; have hr := hr0 _ _ (by first | with_reducible assumption | exact rfl) (by first | with_reducible assumption | exact rfl); clear hr0) | (with_reducible refine at_list ?_; refine wpList_neg rfl rfl rfl ?_; intro r hr0; have hr := hr0 _ (by first | with_reducible assumption | exact rfl); clear hr0) | (with_reducible refine at_list ?_; refine wpList_fop_g rfl rfl rfl rfl rfl ?_; intro r n hr0; have hr := hr0 _ _ (by first | with_reducible assumption | exact rfl) (by first | with_reducible assumption | exact rfl); clear hr0) | (with_reducible refine at_list ?_; refine wpList_wide_g rfl rfl Try.underlying28 Try.underlying39 rfl ?_; intro r n hr0; have hr := hr0 _ (by first | with_reducible assumption | exact rfl); clear hr0) | (with_reducible refine at_list ?_; refine wpList_wide rfl rfl rfl Try.underlying28 Try.underlying39 ?_; intro r n hr0; have hr := hr0 _ (by first | with_reducible assumption | exact rfl); clear hr0) | (go_at_call 42; refine (implPasses_any _ _ _ _ _ (by assumption)).mono ?_; rintro e w' ⟨u, ys, rfl, hb, hO, hL⟩; obtain ⟨pu, cu, rfl⟩ := OF.shape hO; (try simp only [World.size_alloc, World.size_setCell, World.size_drew, World.drewN] at hO); obtain ⟨hT, hk⟩ := bv_next hb (by (repeat (with_reducible first | assumption | apply Trk.alloc | apply Trk.setCell | apply Trk.drewN | apply Trk.drew | exact Trk.nil _))); simp only [SameOn, World.size_alloc, World.size_setCell, World.size_drew, size_drewN', and_true] at hk; have hsz := Below.size hb; (try simp only [World.size_alloc, World.size_setCell, World.size_drew, size_drewN'] at hsz)) | (go_at_call 45; refine (arePositive_any _ _ _ (by assumption)).mono ?_; rintro e w' ⟨rfl, n, rfl⟩) | (go_at_call 69; refine (isFinC_any _ _ _).mono ?_; rintro e w' ⟨rfl, hb⟩; obtain ⟨hT, hk⟩ := bv_next hb (by (repeat (with_reducible first | assumption | apply Trk.alloc | apply Trk.setCell | apply Trk.drewN | apply Trk.drew | exact Trk.nil _))); simp only [SameOn, World.size_alloc, World.size_setCell, World.size_drew, size_drewN', and_true] at hk; have hsz := Below.size hb; (try simp only [World.size_alloc, World.size_setCell, World.size_drew, size_drewN'] at hsz)))
          (apply wp_region_plan; ((apply wpC_det; (case hw => exact rfl); (case hs => (intro cs b h; cases h)); (case h1 => (intro w'; go_simp <;> exact rfl))); apply wpC_norm; (case ha => (simp only [Act.put, List.setIfInBounds_toArray, List.set_cons_zero, List.set_cons_succ]; exact rfl))); ((apply wpC_det; (case hw => exact rfl); (case hs => (intro cs b h; cases h)); (case h1 => (intro w'; go_simp <;> exact rfl))); apply wpC_norm; (case ha => (simp only [Act.put, List.setIfInBounds_toArray, List.set_cons_zero, List.set_cons_succ]; exact rfl))); ((apply wpC_det; (case hw => exact rfl); (case hs => (intro cs b h; cases h)); (case h1 => (intro w'; go_simp <;> exact rfl))); apply wpC_norm; (case ha => (simp only [Act.put, List.setIfInBounds_toArray, List.set_cons_zero, List.set_cons_succ]; exact rfl))); ((apply wpC_det; (case hw => exact rfl); (case hs => (intro cs b h; cases h)); (case h1 => (intro w'; go_simp <;> exact rfl))); apply wpC_norm; (case ha => (simp only [Act.put, List.setIfInBounds_toArray, List.set_cons_zero, List.set_cons_succ]; exact rfl))); ((apply wpC_val; (case hw => exact rfl); (case h1 => (intro w' hb hk0; obtain ⟨hT, hk⟩ := bv_next hb (by (repeat (with_reducible first | assumption | apply Trk.alloc | apply Trk.setCell | apply Trk.drewN | apply Trk.drew | exact Trk.nil _))); simp only [SameOn, World.size_alloc, World.size_setCell, World.size_drew, size_drewN', and_true] at hk; have hsz := Below.size hb; (try simp only [World.size_alloc, World.size_setCell, World.size_drew, size_drewN'] at hsz); go_simp <;> exact rfl))); apply wpC_norm; (case ha => (simp only [Act.put, List.setIfInBounds_toArray, List.set_cons_zero, List.set_cons_succ]; exact rfl))); ((first | (apply wpC_callB (.complex .f32 (fneg .f32 (p k)) 0); (case hw => exact rfl); (case h1 => (intro w'; go_simp; exact ⟨rfl, rfl⟩)); (case hc => (intro w' hb hk0; with_reducible exact HBE.out _))) | (apply wpC_callB (.complex .f32 F1 F2); (case hw => exact rfl); (case h1 => (intro w'; go_simp; exact ⟨rfl, rfl⟩)); (case hc => (intro w' hb hk0; with_reducible exact HQU.out _)))); apply wpC_norm; (case ha => (simp only [Act.put, List.setIfInBounds_toArray, List.set_cons_zero, List.set_cons_succ]; exact rfl))); ((apply wpC_det; (case hw => exact rfl); (case hs => (intro cs b h; cases h)); (case h1 => (intro w'; go_simp <;> exact rfl))); apply wpC_norm; (case ha => (simp only [Act.put, List.setIfInBounds_toArray, List.set_cons_zero, List.set_cons_succ]; exact rfl))); ((apply wpC_det; (case hw => exact rfl); (case hs => (intro cs b h; cases h)); (case h1 => (intro w'; go_simp <;> exact rfl))); apply wpC_norm; (case ha => (simp only [Act.put, List.setIfInBounds_toArray, List.set_cons_zero, List.set_cons_succ]; exact rfl))); ((apply wpC_det; (case hw => exact rfl); (case hs => (intro cs b h; cases h)); (case h1 => (intro w'; go_simp <;> exact rfl))); apply wpC_norm; (case ha => (simp only [Act.put, List.setIfInBounds_toArray, List.set_cons_zero, List.set_cons_succ]; exact rfl))); ((apply wpC_det; (case hw => exact rfl); (case hs => (intro cs b h; cases h)); (case h1 => (intro w'; go_simp <;> exact rfl))); apply wpC_norm; (case ha => (simp only [Act.put, List.setIfInBounds_toArray, List.set_cons_zero, List.set_cons_succ]; exact rfl))); ((apply wpC_val; (case hw => exact rfl); (case h1 => (intro w' hb hk0; obtain ⟨hT, hk⟩ := bv_next hb (by (repeat (with_reducible first | assumption | apply Trk.alloc | apply Trk.setCell | apply Trk.drewN | apply Trk.drew | exact Trk.nil _))); simp only [SameOn, World.size_alloc, World.size_setCell, World.size_drew, size_drewN', and_true] at hk; have hsz := Below.size hb; (try simp only [World.size_alloc, World.size_setCell, World.size_drew, size_drewN'] at hsz); go_simp <;> exact rfl))); apply wpC_norm; (case ha => (simp only [Act.put, List.setIfInBounds_toArray, List.set_cons_zero, List.set_cons_succ]; exact rfl))); ((first | (apply wpC_callB (.complex .f32 (fneg .f32 (p k)) 0); (case hw => exact rfl); (case h1 => (intro w'; go_simp; exact ⟨rfl, rfl⟩)); (case hc => (intro w' hb hk0; with_reducible exact HBE.out _))) | (apply wpC_callB (.complex .f32 F1 F2); (case hw => exact rfl); (case h1 => (intro w'; go_simp; exact ⟨rfl, rfl⟩)); (case hc => (intro w' hb hk0; with_reducible exact HQU.out _)))); apply wpC_norm; (case ha => (simp only [Act.put, List.setIfInBounds_toArray, List.set_cons_zero, List.set_cons_succ]; exact rfl))); ((apply wpC_det; (case hw => exact rfl); (case hs => (intro cs b h; cases h)); (case h1 => (intro w'; go_simp <;> exact rfl))); apply wpC_norm; (case ha => (simp only [Act.put, List.setIfInBounds_toArray, List.set_cons_zero, List.set_cons_succ]; exact rfl))); refine wpC_nil ?_; intro w' hb hkk; obtain ⟨hT, hk⟩ := bv_next hb (by (repeat (with_reducible first | assumption | apply Trk.alloc | apply Trk.setCell | apply Trk.drewN | apply Trk.drew | exact Trk.nil _))); simp only [SameOn, World.size_alloc, World.size_setCell, World.size_drew, size_drewN', and_true] at hk; have hsz := Below.size hb; (try simp only [World.size_alloc, World.size_setCell, World.size_drew, size_drewN'] at hsz))
          rotate_left
          all_goals (try (first | kernel_rfl | rfl))
          rename World => w5
          have HB6 : Hid (Below w4.heap.size w4 w5) := by show Below _ _ _; (repeat (first | (with_reducible exact Below.refl _ _) | (with_reducible assumption) | (with_reducible refine below_then ?_ (by assumption)) | (with_reducible refine Below.trans ?_ (by assumption)) | (with_reducible refine below_drewN ?_ _) | (with_reducible apply Below.drew) | (with_reducible refine below_alloc ?_ _) | refine Below.setCell ?_ (by first | (simp; done) | (simp; omega)) _))
          have GS1 := Lib.hid (HS1.out.later HB6.out)
          have GS2 := Lib.hid (HS2.out.later HB6.out)
          have HB7 : Hid (Below w1.heap.size w1 w5) := HB5.out.trans (HB6.out.mono (by have := HB5.out.size; omega))
          clear HS1 HS2 HB5
          go_wp2_with (first | (with_reducible refine at_list ?_; refine wpList_fop rfl rfl rfl rfl rfl ?_; intro r n hr0; have hr := hr0 _ _ (by first | with_reducible assumption | exact rfl) (by first | with_reducible assumption | exact rfl); clear hr0) | (with_reducible refine at_list ?_; refine wpList_neg rfl rfl rfl ?_; intro r hr0; have hr := hr0 _ (by first | with_reducible assumption | exact rfl); clear hr0) | (with_reducible refine at_list ?_; refine wpList_fop_g rfl rfl rfl rfl rfl ?_; intro r n hr0; have hr := hr0 _ _ (by first | with_reducible assumption | exact rfl) (by first | with_reducible assumption | exact rfl); clear hr0) | (with_reducible refine at_list ?_; refine wpList_wide_g rfl rfl Try.underlying28 Try.underlying39 rfl ?_; intro r n hr0; have hr := hr0 _ (by first | with_reducible assumption | exact rfl); clear hr0) | (with_reducible refine at_list ?_; refine wpList_wide rfl rfl rfl Try.underlying28 Try.underlying39 ?_; intro r n hr0; have hr := hr0 _ (by first | with_reducible assumption | exact rfl); clear hr0) | (go_at_call 42; refine (implPasses_any _ _ _ _ _ (by assumption)).mono ?_; rintro e w' ⟨u, ys, rfl, hb, hO, hL⟩; obtain ⟨pu, cu, rfl⟩ := OF.shape hO; (try simp only [World.size_alloc, World.size_setCell, World.size_drew, World.drewN] at hO); obtain ⟨hT, hk⟩ := bv_next hb (by (repeat (with_reducible first | assumption | apply Trk.alloc | apply Trk.setCell | apply Trk.drewN | apply Trk.drew | exact Trk.nil _))); simp only [SameOn, World.size_alloc, World.size_setCell, World.size_drew, size_drewN', and_true] at hk; have hsz := Below.size hb; (try simp only [World.size_alloc, World.size_setCell, World.size_drew, size_drewN'] at hsz)) | (go_at_call 45; refine (arePositive_any _ _ _ (by assumption)).mono ?_; rintro e w' ⟨rfl, n, rfl⟩) | (go_at_call 69; refine (isFinC_any _ _ _).mono ?_; rintro e w' ⟨rfl, hb⟩; obtain ⟨hT, hk⟩ := bv_next hb (by (repeat (with_reducible first | assumption | apply Trk.alloc | apply Trk.setCell | apply Trk.drewN | apply Trk.drew | exact Trk.nil _))); simp only [SameOn, World.size_alloc, World.size_setCell, World.size_drew, size_drewN', and_true] at hk; have hsz := Below.size hb; (try simp only [World.size_alloc, World.size_setCell, World.size_drew, size_drewN'] at hsz)))
          (apply wp_region_plan; ((apply wpC_det; (case hw => exact rfl); (case hs => (intro cs b h; cases h)); (case h1 => (intro w'; go_simp <;> exact rfl))); apply wpC_norm; (case ha => (simp only [Act.put, List.setIfInBounds_toArray, List.set_cons_zero, List.set_cons_succ]; exact rfl))); ((apply wpC_det; (case hw => exact rfl); (case hs => (intro cs b h; cases h)); (case h1 => (intro w'; go_simp <;> exact rfl))); apply wpC_norm; (case ha => (simp only [Act.put, List.setIfInBounds_toArray, List.set_cons_zero, List.set_cons_succ]; exact rfl))); ((apply wpC_det; (case hw => exact rfl); (case hs => (intro cs b h; cases h)); (case h1 => (intro w'; go_simp <;> exact rfl))); apply wpC_norm; (case ha => (simp only [Act.put, List.setIfInBounds_toArray, List.set_cons_zero, List.set_cons_succ]; exact rfl))); ((apply wpC_det; (case hw => exact rfl); (case hs => (intro cs b h; cases h)); (case h1 => (intro w'; go_simp <;> exact rfl))); apply wpC_norm; (case ha => (simp only [Act.put, List.setIfInBounds_toArray, List.set_cons_zero, List.set_cons_succ]; exact rfl))); ((apply wpC_det; (case hw => exact rfl); (case hs => (intro cs b h; cases h)); (case h1 => (intro w'; go_simp <;> exact rfl))); apply wpC_norm; (case ha => (simp only [Act.put, List.setIfInBounds_toArray, List.set_cons_zero, List.set_cons_succ]; exact rfl))); ((apply wpC_val; (case hw => exact rfl); (case h1 => (intro w' hb hk0; obtain ⟨hT, hk⟩ := bv_next hb (by (repeat (with_reducible first | assumption | apply Trk.alloc | apply Trk.setCell | apply Trk.drewN | apply Trk.drew | exact Trk.nil _))); simp only [SameOn, World.size_alloc, World.size_setCell, World.size_drew, size_drewN', and_true] at hk; have hsz := Below.size hb; (try simp only [World.size_alloc, World.size_setCell, World.size_drew, size_drewN'] at hsz); go_simp <;> exact rfl))); apply wpC_norm; (case ha => (simp only [Act.put, List.setIfInBounds_toArray, List.set_cons_zero, List.set_cons_succ]; exact rfl))); ((apply wpC_det; (case hw => exact rfl); (case hs => (intro cs b h; cases h)); (case h1 => (intro w'; go_simp <;> exact rfl))); apply wpC_norm; (case ha => (simp only [Act.put, List.setIfInBounds_toArray, List.set_cons_zero, List.set_cons_succ]; exact rfl))); ((apply wpC_det; (case hw => exact rfl); (case hs => (intro cs b h; cases h)); (case h1 => (intro w'; go_simp <;> exact rfl))); apply wpC_norm; (case ha => (simp only [Act.put, List.setIfInBounds_toArray, List.set_cons_zero, List.set_cons_succ]; exact rfl))); ((apply wpC_det; (case hw => exact rfl); (case hs => (intro cs b h; cases h)); (case h1 => (intro w'; go_simp <;> exact rfl))); apply wpC_norm; (case ha => (simp only [Act.put, List.setIfInBounds_toArray, List.set_cons_zero, List.set_cons_succ]; exact rfl))); ((apply wpC_det; (case hw => exact rfl); (case hs => (intro cs b h; cases h)); (case h1 => (intro w'; go_simp <;> exact rfl))); apply wpC_norm; (case ha => (simp only [Act.put, List.setIfInBounds_toArray, List.set_cons_zero, List.set_cons_succ]; exact rfl))); ((apply wpC_det; (case hw => exact rfl); (case hs => (intro cs b h; cases h)); (case h1 => (intro w'; go_simp <;> exact rfl))); apply wpC_norm; (case ha => (simp only [Act.put, List.setIfInBounds_toArray, List.set_cons_zero, List.set_cons_succ]; exact rfl))); ((apply wpC_val; (case hw => exact rfl); (case h1 => (intro w' hb hk0; obtain ⟨hT, hk⟩ := bv_next hb (by (repeat (with_reducible first | assumption | apply Trk.alloc | apply Trk.setCell | apply Trk.drewN | apply Trk.drew | exact Trk.nil _))); simp only [SameOn, World.size_alloc, World.size_setCell, World.size_drew, size_drewN', and_true] at hk; have hsz := Below.size hb; (try simp only [World.size_alloc, World.size_setCell, World.size_drew, size_drewN'] at hsz); go_simp <;> exact rfl))); apply wpC_norm; (case ha => (simp only [Act.put, List.setIfInBounds_toArray, List.set_cons_zero, List.set_cons_succ]; exact rfl))); ((first | (apply wpC_callB (.complex .f32 (fneg .f32 (p k)) 0); (case hw => exact rfl); (case h1 => (intro w'; go_simp; exact ⟨rfl, rfl⟩)); (case hc => (intro w' hb hk0; with_reducible exact HBE.out _))) | (apply wpC_callB (.complex .f32 M1 M2); (case hw => exact rfl); (case h1 => (intro w'; go_simp; exact ⟨rfl, rfl⟩)); (case hc => (intro w' hb hk0; with_reducible exact HM1.out _))) | (apply wpC_callB (.complex .f32 E1 E2); (case hw => exact rfl); (case h1 => (intro w'; go_simp; exact ⟨rfl, rfl⟩)); (case hc => (intro w' hb hk0; with_reducible exact HN1.out _)))); apply wpC_norm; (case ha => (simp only [Act.put, List.setIfInBounds_toArray, List.set_cons_zero, List.set_cons_succ]; exact rfl))); ((first | (apply wpC_callB (.complex .f32 (fneg .f32 (p k)) 0); (case hw => exact rfl); (case h1 => (intro w'; go_simp; exact ⟨rfl, rfl⟩)); (case hc => (intro w' hb hk0; with_reducible exact HBE.out _))) | (apply wpC_callB (.complex .f32 M1 M2); (case hw => exact rfl); (case h1 => (intro w'; go_simp; exact ⟨rfl, rfl⟩)); (case hc => (intro w' hb hk0; with_reducible exact HM1.out _))) | (apply wpC_callB (.complex .f32 E1 E2); (case hw => exact rfl); (case h1 => (intro w'; go_simp; exact ⟨rfl, rfl⟩)); (case hc => (intro w' hb hk0; with_reducible exact HN1.out _)))); apply wpC_norm; (case ha => (simp only [Act.put, List.setIfInBounds_toArray, List.set_cons_zero, List.set_cons_succ]; exact rfl))); ((first | (apply wpC_callB (.complex .f32 (fneg .f32 (p k)) 0); (case hw => exact rfl); (case h1 => (intro w'; go_simp; exact ⟨rfl, rfl⟩)); (case hc => (intro w' hb hk0; with_reducible exact HBE.out _))) | (apply wpC_callB (.complex .f32 M1 M2); (case hw => exact rfl); (case h1 => (intro w'; go_simp; exact ⟨rfl, rfl⟩)); (case hc => (intro w' hb hk0; with_reducible exact HM1.out _))) | (apply wpC_callB (.complex .f32 E1 E2); (case hw => exact rfl); (case h1 => (intro w'; go_simp; exact ⟨rfl, rfl⟩)); (case hc => (intro w' hb hk0; with_reducible exact HN1.out _)))); apply wpC_norm; (case ha => (simp only [Act.put, List.setIfInBounds_toArray, List.set_cons_zero, List.set_cons_succ]; exact rfl))); ((apply wpC_det; (case hw => exact rfl); (case hs => (intro cs b h; cases h)); (case h1 => (intro w'; go_simp <;> exact rfl))); apply wpC_norm; (case ha => (simp only [Act.put, List.setIfInBounds_toArray, List.set_cons_zero, List.set_cons_succ]; exact rfl))); refine wpC_tail (by kernel_rfl) (by first | rfl | kernel_rfl) ?_; intro w' hb hkk; obtain ⟨hT, hk⟩ := bv_next hb (by (repeat (with_reducible first | assumption | apply Trk.alloc | apply Trk.setCell | apply Trk.drewN | apply Trk.drew | exact Trk.nil _))); simp only [SameOn, World.size_alloc, World.size_setCell, World.size_drew, size_drewN', and_true] at hk; have hsz := Below.size hb; (try simp only [World.size_alloc, World.size_setCell, World.size_drew, size_drewN'] at hsz))
          rotate_left
          all_goals (try (first | kernel_rfl | rfl))
          rename World => w6
          have HB8 : Hid (Below w5.heap.size w5 w6) := by show Below _ _ _; (repeat (first | (with_reducible exact Below.refl _ _) | (with_reducible assumption) | (with_reducible refine below_then ?_ (by assumption)) | (with_reducible refine Below.trans ?_ (by assumption)) | (with_reducible refine below_drewN ?_ _) | (with_reducible apply Below.drew) | (with_reducible refine below_alloc ?_ _) | refine Below.setCell ?_ (by first | (simp; done) | (simp; omega)) _))
          have C0 := GS1.out.later HB8.out
          have C2 := GS2.out.later HB8.out
          have S1 := C0.stored k (E1, E2)
          have HB9 : Hid (Below w1.heap.size w1 (w6.setCell ⟨g1, k, none⟩ (.complex .f32 E1 E2))) := (HB7.out.trans (HB8.out.mono (by have := HB7.out.size; omega))).setCell hg1.1 _
          have JS1 := Lib.hid S1.1
          have JS2 := Lib.hid (CW.other C2 S1.2 hne.symm)
          clear S1 C0 C2 GS1 GS2
          go_upto_region 16 with fail
          refine wp_named ?_
          intro w7 hw7
          have LS1 : Hid (CW w1.heap.size w7 g1 N (fun j => if j < k + 1 then dW p s j else (0, 0))) := by
            show CW _ _ _ _ _
            rw [hw7]
            exact JS1.out.ext (fun j hj => by
              by_cases e : j = k
              · subst e; rw [if_pos rfl, if_pos (by omega)]; exact hE.out
              · rw [if_neg e, if_neg e]
                by_cases e2 : j < k
                · rw [if_pos e2, if_pos (by omega)]
                · rw [if_neg e2, if_neg (by omega)])
          have LS2 : Hid (CW w1.heap.size w7 g2 N (fun j => if j < max k 1 then rW p s j else (0, 0))) := by show CW _ _ _ _ _; rw [hw7]; exact JS2.out
          have LB5 : Hid (Below w1.heap.size w1 w7) := by show Below _ _ _; rw [hw7]; exact HB9.out
          clear hw7 JS1 JS2 HB9 HB8 HB7 HB6 hb hT hkk hsz a0 a1 a2 a3 a4 a5 a6 a7 ya HBE HQU HM1 HN1
          obtain ⟨a4, a5⟩ := LS2.out.cell (j := i) hiN
          obtain ⟨a6, a7⟩ := LS2.out.cell (j := k) hlt
          rw [if_pos (by have := hik.out; omega)] at a4
          rw [if_neg (by omega)] at a6
          have e4 : (Value.complex .f32 (rW p s i).1 (rW p s i).2) = .complex .f32 R1 R2 := by rw [hR1.out, hR2.out]
          rw [e4] at a4
          clear e4
          have hT : Trk w7 [g2] := (Trk.nil w7).more LS2.out.lt.2
          (apply wp_region_plan; ((apply wpC_det; (case hw => exact rfl); (case hs => (intro cs b h; cases h)); (case h1 => (intro w'; go_simp <;> exact rfl))); apply wpC_norm; (case ha => (simp only [Act.put, List.setIfInBounds_toArray, List.set_cons_zero, List.set_cons_succ]; exact rfl))); ((apply wpC_det; (case hw => exact rfl); (case hs => (intro cs b h; cases h)); (case h1 => (intro w'; go_simp <;> exact rfl))); apply wpC_norm; (case ha => (simp only [Act.put, List.setIfInBounds_toArray, List.set_cons_zero, List.set_cons_succ]; exact rfl))); ((apply wpC_det; (case hw => exact rfl); (case hs => (intro cs b h; cases h)); (case h1 => (intro w'; go_simp <;> exact rfl))); apply wpC_norm; (case ha => (simp only [Act.put, List.setIfInBounds_toArray, List.set_cons_zero, List.set_cons_succ]; exact rfl))); ((apply wpC_det; (case hw => exact rfl); (case hs => (intro cs b h; cases h)); (case h1 => (intro w'; go_simp <;> exact rfl))); apply wpC_norm; (case ha => (simp only [Act.put, List.setIfInBounds_toArray, List.set_cons_zero, List.set_cons_succ]; exact rfl))); ((apply wpC_det; (case hw => exact rfl); (case hs => (intro cs b h; cases h)); (case h1 => (intro w'; go_simp <;> exact rfl))); apply wpC_norm; (case ha => (simp only [Act.put, List.setIfInBounds_toArray, List.set_cons_zero, List.set_cons_succ]; exact rfl))); ((apply wpC_val; (case hw => exact rfl); (case h1 => (intro w' hb hk0; obtain ⟨hT, hk⟩ := bv_next hb (by (repeat (with_reducible first | assumption | apply Trk.alloc | apply Trk.setCell | apply Trk.drewN | apply Trk.drew | exact Trk.nil _))); simp only [SameOn, World.size_alloc, World.size_setCell, World.size_drew, size_drewN', and_true] at hk; have hsz := Below.size hb; (try simp only [World.size_alloc, World.size_setCell, World.size_drew, size_drewN'] at hsz); go_simp <;> exact rfl))); apply wpC_norm; (case ha => (simp only [Act.put, List.setIfInBounds_toArray, List.set_cons_zero, List.set_cons_succ]; exact rfl))); ((apply wpC_det; (case hw => exact rfl); (case hs => (intro cs b h; cases h)); (case h1 => (intro w'; go_simp <;> exact rfl))); apply wpC_norm; (case ha => (simp only [Act.put, List.setIfInBounds_toArray, List.set_cons_zero, List.set_cons_succ]; exact rfl))); ((apply wpC_det; (case hw => exact rfl); (case hs => (intro cs b h; cases h)); (case h1 => (intro w'; go_simp <;> exact rfl))); apply wpC_norm; (case ha => (simp only [Act.put, List.setIfInBounds_toArray, List.set_cons_zero, List.set_cons_succ]; exact rfl))); ((apply wpC_det; (case hw => exact rfl); (case hs => (intro cs b h; cases h)); (case h1 => (intro w'; go_simp <;> exact rfl))); apply wpC_norm; (case ha => (simp only [Act.put, List.setIfInBounds_toArray, List.set_cons_zero, List.set_cons_succ]; exact rfl))); ((apply wpC_det; (case hw => exact rfl); (case hs => (intro cs b h; cases h)); (case h1 => (intro w'; go_simp <;> exact rfl))); apply wpC_norm; (case ha => (simp only [Act.put, List.setIfInBounds_toArray, List.set_cons_zero, List.set_cons_succ]; exact rfl))); ((apply wpC_det; (case hw => exact rfl); (case hs => (intro cs b h; cases h)); (case h1 => (intro w'; go_simp <;> exact rfl))); apply wpC_norm; (case ha => (simp only [Act.put, List.setIfInBounds_toArray, List.set_cons_zero, List.set_cons_succ]; exact rfl))); ((apply wpC_val; (case hw => exact rfl); (case h1 => (intro w' hb hk0; obtain ⟨hT, hk⟩ := bv_next hb (by (repeat (with_reducible first | assumption | apply Trk.alloc | apply Trk.setCell | apply Trk.drewN | apply Trk.drew | exact Trk.nil _))); simp only [SameOn, World.size_alloc, World.size_setCell, World.size_drew, size_drewN', and_true] at hk; have hsz := Below.size hb; (try simp only [World.size_alloc, World.size_setCell, World.size_drew, size_drewN'] at hsz); go_simp <;> exact rfl))); apply wpC_norm; (case ha => (simp only [Act.put, List.setIfInBounds_toArray, List.set_cons_zero, List.set_cons_succ]; exact rfl))); ((first | (apply wpC_callB (.complex .f32 K1 K2); (case hw => exact rfl); (case h1 => (intro w'; go_simp; exact ⟨rfl, rfl⟩)); (case hc => (intro w' hb hk0; with_reducible exact HM2.out _))) | (apply wpC_callB (.complex .f32 T1 T2); (case hw => exact rfl); (case h1 => (intro w'; go_simp; exact ⟨rfl, rfl⟩)); (case hc => (intro w' hb hk0; with_reducible exact HN2.out _)))); apply wpC_norm; (case ha => (simp only [Act.put, List.setIfInBounds_toArray, List.set_cons_zero, List.set_cons_succ]; exact rfl))); ((first | (apply wpC_callB (.complex .f32 K1 K2); (case hw => exact rfl); (case h1 => (intro w'; go_simp; exact ⟨rfl, rfl⟩)); (case hc => (intro w' hb hk0; with_reducible exact HM2.out _))) | (apply wpC_callB (.complex .f32 T1 T2); (case hw => exact rfl); (case h1 => (intro w'; go_simp; exact ⟨rfl, rfl⟩)); (case hc => (intro w' hb hk0; with_reducible exact HN2.out _)))); apply wpC_norm; (case ha => (simp only [Act.put, List.setIfInBounds_toArray, List.set_cons_zero, List.set_cons_succ]; exact rfl))); ((apply wpC_det; (case hw => exact rfl); (case hs => (intro cs b h; cases h)); (case h1 => (intro w'; go_simp <;> exact rfl))); apply wpC_norm; (case ha => (simp only [Act.put, List.setIfInBounds_toArray, List.set_cons_zero, List.set_cons_succ]; exact rfl))); refine wpC_tail (by kernel_rfl) (by first | rfl | kernel_rfl) ?_; intro w' hb hkk; obtain ⟨hT, hk⟩ := bv_next hb (by (repeat (with_reducible first | assumption | apply Trk.alloc | apply Trk.setCell | apply Trk.drewN | apply Trk.drew | exact Trk.nil _))); simp only [SameOn, World.size_alloc, World.size_setCell, World.size_drew, size_drewN', and_true] at hk; have hsz := Below.size hb; (try simp only [World.size_alloc, World.size_setCell, World.size_drew, size_drewN'] at hsz))
          rotate_left
          all_goals (try (first | kernel_rfl | rfl))
          rename World => w8
          have HB8 : Hid (Below w7.heap.size w7 w8) := by show Below _ _ _; (repeat (first | (with_reducible exact Below.refl _ _) | (with_reducible assumption) | (with_reducible refine below_then ?_ (by assumption)) | (with_reducible refine Below.trans ?_ (by assumption)) | (with_reducible refine below_drewN ?_ _) | (with_reducible apply Below.drew) | (with_reducible refine below_alloc ?_ _) | refine Below.setCell ?_ (by first | (simp; done) | (simp; omega)) _))
          have C0 := LS1.out.later HB8.out
          have C2 := LS2.out.later HB8.out
          have S1 := C2.stored k (T1, T2)
          have HB9 : Hid (Below w1.heap.size w1 (w8.setCell ⟨g2, k, none⟩ (.complex .f32 T1 T2))) := (LB5.out.trans (HB8.out.mono (by have := LB5.out.size; omega))).setCell hg2.1 _
          have JS2 := Lib.hid S1.1
          have JS1 := Lib.hid (CW.other C0 S1.2 hne)
          clear S1 C0 C2 LS1 LS2
          go_wp2_with (first | (with_reducible refine at_list ?_; refine wpList_fop rfl rfl rfl rfl rfl ?_; intro r n hr0; have hr := hr0 _ _ (by first | with_reducible assumption | exact rfl) (by first | with_reducible assumption | exact rfl); clear hr0) | (with_reducible refine at_list ?_; refine wpList_neg rfl rfl rfl ?_; intro r hr0; have hr := hr0 _ (by first | with_reducible assumption | exact rfl); clear hr0) | (with_reducible refine at_list ?_; refine wpList_fop_g rfl rfl rfl rfl rfl ?_; intro r n hr0; have hr := hr0 _ _ (by first | with_reducible assumption | exact rfl) (by first | with_reducible assumption | exact rfl); clear hr0) | (with_reducible refine at_list ?_; refine wpList_wide_g rfl rfl Try.underlying28 Try.underlying39 rfl ?_; intro r n hr0; have hr := hr0 _ (by first | with_reducible assumption | exact rfl); clear hr0) | (with_reducible refine at_list ?_; refine wpList_wide rfl rfl rfl Try.underlying28 Try.underlying39 ?_; intro r n hr0; have hr := hr0 _ (by first | with_reducible assumption | exact rfl); clear hr0) | (go_at_call 42; refine (implPasses_any _ _ _ _ _ (by assumption)).mono ?_; rintro e w' ⟨u, ys, rfl, hb, hO, hL⟩; obtain ⟨pu, cu, rfl⟩ := OF.shape hO; (try simp only [World.size_alloc, World.size_setCell, World.size_drew, World.drewN] at hO); obtain ⟨hT, hk⟩ := bv_next hb (by (repeat (with_reducible first | assumption | apply Trk.alloc | apply Trk.setCell | apply Trk.drewN | apply Trk.drew | exact Trk.nil _))); simp only [SameOn, World.size_alloc, World.size_setCell, World.size_drew, size_drewN', and_true] at hk; have hsz := Below.size hb; (try simp only [World.size_alloc, World.size_setCell, World.size_drew, size_drewN'] at hsz)) | (go_at_call 45; refine (arePositive_any _ _ _ (by assumption)).mono ?_; rintro e w' ⟨rfl, n, rfl⟩) | (go_at_call 69; refine (isFinC_any _ _ _).mono ?_; rintro e w' ⟨rfl, hb⟩; obtain ⟨hT, hk⟩ := bv_next hb (by (repeat (with_reducible first | assumption | apply Trk.alloc | apply Trk.setCell | apply Trk.drewN | apply Trk.drew | exact Trk.nil _))); simp only [SameOn, World.size_alloc, World.size_setCell, World.size_drew, size_drewN', and_true] at hk; have hsz := Below.size hb; (try simp only [World.size_alloc, World.size_setCell, World.size_drew, size_drewN'] at hsz)))
          refine ⟨⟨k + 1, by omega, by go_num, JS1.out, ?_, HB9.out⟩, by first | (simp [intOf]; done) | (simp [intOf]; omega)⟩
          exact JS2.out.ext (fun j hj => by
            by_cases e : j = k
            · subst e; rw [if_pos rfl, if_pos (by omega)]; exact hTT.out
            · rw [if_neg e]
              by_cases e2 : j < max k 1
              · rw [if_pos e2, if_pos (by omega)]
              · rw [if_neg e2, if_neg (by omega)])
      · have hlti : ¬ (k : Int) < (N : Int) := by omega
        obtain rfl : k = N := by omega
        have hmk := fun w => run_make_row' (P := Try.prog) 57 51 (.complex .f32 0 0) 8 Try.underlying57 Try.infoC64 rfl .i64 .i64 k (by omega) (by omega) w
        have hn1w : IntKind.i64.wrap ((k : Int) - 1) = ((k - 1 : Nat) : Int) := by rw [IntWalk.i64_in _ (by omega)]; omega
        have HT3 : Hid (CW wr.heap.size (wr.alloc (.cells (madeCells #[.complex .f32 0 0] k) 51)) wr.heap.size k (fun _ => (0, 0))) := CW.made (Nat.le_refl _) (by omega)
        have HA3 : Hid (Below wr.heap.size wr (wr.alloc (.cells (madeCells #[.complex .f32 0 0] k) 51))) := by show Below _ _ _; (repeat (first | (with_reducible exact Below.refl _ _) | (with_reducible assumption) | (with_reducible refine below_then ?_ (by assumption)) | (with_reducible refine Below.trans ?_ (by assumption)) | (with_reducible refine below_drewN ?_ _) | (with_reducible apply Below.drew) | (with_reducible refine below_alloc ?_ _) | refine Below.setCell ?_ (by first | (simp; done) | (simp; omega)) _))
        rename World => wo
        go_wp2_with (first | (with_reducible refine at_list ?_; refine wpList_fop rfl rfl rfl rfl rfl ?_; intro r n hr0; have hr := hr0 _ _ (by first | with_reducible assumption | exact rfl) (by first | with_reducible assumption | exact rfl); clear hr0) | (with_reducible refine at_list ?_; refine wpList_neg rfl rfl rfl ?_; intro r hr0; have hr := hr0 _ (by first | with_reducible assumption | exact rfl); clear hr0) | (with_reducible refine at_list ?_; refine wpList_fop_g rfl rfl rfl rfl rfl ?_; intro r n hr0; have hr := hr0 _ _ (by first | with_reducible assumption | exact rfl) (by first | with_reducible assumption | exact rfl); clear hr0) | (with_reducible refine at_list ?_; refine wpList_wide_g rfl rfl Try.underlying28 Try.underlying39 rfl ?_; intro r n hr0; have hr := hr0 _ (by first | with_reducible assumption | exact rfl); clear hr0) | (with_reducible refine at_list ?_; refine wpList_wide rfl rfl rfl Try.underlying28 Try.underlying39 ?_; intro r n hr0; have hr := hr0 _ (by first | with_reducible assumption | exact rfl); clear hr0) | (go_at_call 42; refine (implPasses_any _ _ _ _ _ (by assumption)).mono ?_; rintro e w' ⟨u, ys, rfl, hb, hO, hL⟩; obtain ⟨pu, cu, rfl⟩ := OF.shape hO; (try simp only [World.size_alloc, World.size_setCell, World.size_drew, World.drewN] at hO); obtain ⟨hT, hk⟩ := bv_next hb (by (repeat (with_reducible first | assumption | apply Trk.alloc | apply Trk.setCell | apply Trk.drewN | apply Trk.drew | exact Trk.nil _))); simp only [SameOn, World.size_alloc, World.size_setCell, World.size_drew, size_drewN', and_true] at hk; have hsz := Below.size hb; (try simp only [World.size_alloc, World.size_setCell, World.size_drew, size_drewN'] at hsz)) | (go_at_call 45; refine (arePositive_any _ _ _ (by assumption)).mono ?_; rintro e w' ⟨rfl, n, rfl⟩) | (go_at_call 69; refine (isFinC_any _ _ _).mono ?_; rintro e w' ⟨rfl, hb⟩; obtain ⟨hT, hk⟩ := bv_next hb (by (repeat (with_reducible first | assumption | apply Trk.alloc | apply Trk.setCell | apply Trk.drewN | apply Trk.drew | exact Trk.nil _))); simp only [SameOn, World.size_alloc, World.size_setCell, World.size_drew, size_drewN', and_true] at hk; have hsz := Below.size hb; (try simp only [World.size_alloc, World.size_setCell, World.size_drew, size_drewN'] at hsz)))
        clear hmk hlti hk hlt
        go_loopw [16] (fun z wr => ∃ m : Nat, m ≤ k ∧ ((m = 0 ∧ z = .int .i64 (-1)) ∨ ∃ j : Nat, m = j + 1 ∧ z = .int .i64 (j : Int)) ∧ Hid (CW wo.heap.size wr wo.heap.size k (fun j => if m ≤ j then oW p s k j else (0, 0))) ∧ Hid (Below wo.heap.size wo wr)) (fun z _ => (intOf z + 1).toNat)
        case atStart => exact ⟨k, by omega, .inr ⟨k - 1, by omega, rfl⟩, HT3.out.ext (fun j hj => by rw [if_neg (by omega)]), HA3.out⟩
        case round =>
          obtain ⟨m, hmk, hz, HC3, HB3⟩ := hrel
          have hzo := HB3.out.size
          have hg1 := HC0.out.lt
          have hg2 := HC2.out.lt
          have hg3 := HC3.out.lt.2
          rcases hz with ⟨rfl, rfl⟩ | ⟨j, rfl, rfl⟩
          · have HX : Hid (CW w.heap.size wr wo.heap.size k (oW p s k)) := by
              exact CW.base (CW.ext HC3.out (fun j hj => by rw [if_pos (Nat.zero_le _)])) (by omega)
            have HBX : Hid (Below w.heap.size w wr) := HBw.out.trans (HB3.out.mono (by omega))
            go_wp2_with (first | (with_reducible refine at_list ?_; refine wpList_fop rfl rfl rfl rfl rfl ?_; intro r n hr0; have hr := hr0 _ _ (by first | with_reducible assumption | exact rfl) (by first | with_reducible assumption | exact rfl); clear hr0) | (with_reducible refine at_list ?_; refine wpList_neg rfl rfl rfl ?_; intro r hr0; have hr := hr0 _ (by first | with_reducible assumption | exact rfl); clear hr0) | (with_reducible refine at_list ?_; refine wpList_fop_g rfl rfl rfl rfl rfl ?_; intro r n hr0; have hr := hr0 _ _ (by first | with_reducible assumption | exact rfl) (by first | with_reducible assumption | exact rfl); clear hr0) | (with_reducible refine at_list ?_; refine wpList_wide_g rfl rfl Try.underlying28 Try.underlying39 rfl ?_; intro r n hr0; have hr := hr0 _ (by first | with_reducible assumption | exact rfl); clear hr0) | (with_reducible refine at_list ?_; refine wpList_wide rfl rfl rfl Try.underlying28 Try.underlying39 ?_; intro r n hr0; have hr := hr0 _ (by first | with_reducible assumption | exact rfl); clear hr0) | (go_at_call 42; refine (implPasses_any _ _ _ _ _ (by assumption)).mono ?_; rintro e w' ⟨u, ys, rfl, hb, hO, hL⟩; obtain ⟨pu, cu, rfl⟩ := OF.shape hO; (try simp only [World.size_alloc, World.size_setCell, World.size_drew, World.drewN] at hO); obtain ⟨hT, hk⟩ := bv_next hb (by (repeat (with_reducible first | assumption | apply Trk.alloc | apply Trk.setCell | apply Trk.drewN | apply Trk.drew | exact Trk.nil _))); simp only [SameOn, World.size_alloc, World.size_setCell, World.size_drew, size_drewN', and_true] at hk; have hsz := Below.size hb; (try simp only [World.size_alloc, World.size_setCell, World.size_drew, size_drewN'] at hsz)) | (go_at_call 45; refine (arePositive_any _ _ _ (by assumption)).mono ?_; rintro e w' ⟨rfl, n, rfl⟩) | (go_at_call 69; refine (isFinC_any _ _ _).mono ?_; rintro e w' ⟨rfl, hb⟩; obtain ⟨hT, hk⟩ := bv_next hb (by (repeat (with_reducible first | assumption | apply Trk.alloc | apply Trk.setCell | apply Trk.drewN | apply Trk.drew | exact Trk.nil _))); simp only [SameOn, World.size_alloc, World.size_setCell, World.size_drew, size_drewN', and_true] at hk; have hsz := Below.size hb; (try simp only [World.size_alloc, World.size_setCell, World.size_drew, size_drewN'] at hsz)))
            refine bodyPost_ret (v := .tuple #[.slice (some ⟨wo.heap.size, 0, none⟩) k k, .bool true]) (by simp [results, Try.results31, go_sem, *]) rfl ?_
            exact ⟨wo.heap.size, rfl, HBX.out, HX.out⟩
          · have hj : j < k := by omega
            have hji : (j : Int) < (k : Int) := by omega
            have hj0 : (0 : Int) ≤ (j : Int) := by omega
            have hjw : IntKind.i64.wrap ((j : Int) - 1) = (j : Int) - 1 := IntWalk.i64_in _ (by omega)
            have a0 := (HB3.out.cell (p := ⟨g1, j, none⟩) hg1.2).trans (HC0.out.cell hj).1
            have a4 := (HB3.out.cell (p := ⟨g2, j, none⟩) hg2.2).trans (HC2.out.cell hj).1
            rw [if_pos hj] at a0
            rw [if_pos (by omega)] at a4
            obtain ⟨x0, x1⟩ := HC3.out.cell hj
            have key : ∀ wq wf : World, Below wr.heap.size wr wq → Below (wq.setCell ⟨wo.heap.size, j, none⟩ (.complex .f32 (oW p s k j).1 (oW p s k j).2)).heap.size (wq.setCell ⟨wo.heap.size, j, none⟩ (.complex .f32 (oW p s k j).1 (oW p s k j).2)) wf → (∃ m : Nat, m ≤ k ∧ ((m = 0 ∧ Value.int .i64 ((j : Int) - 1) = .int .i64 (-1)) ∨ ∃ j' : Nat, m = j' + 1 ∧ Value.int .i64 ((j : Int) - 1) = .int .i64 (j' : Int)) ∧ Hid (CW wo.heap.size wf wo.heap.size k (fun j => if m ≤ j then oW p s k j else (0, 0))) ∧ Hid (Below wo.heap.size wo wf)) := by
              intro wq wf hq hf
              have C3 := HC3.out.later hq
              have S := C3.stored j (oW p s k j)
              refine ⟨j, by omega, ?_, ?_, ?_⟩
              · rcases Nat.eq_zero_or_pos j with h | h
                · exact .inl ⟨h, by rw [h]; rfl⟩
                · exact .inr ⟨j - 1, by omega, by congr 1; omega⟩
              · exact (S.1.later hf).ext (fun i hi => by
                  by_cases e : i = j
                  · subst e; rw [if_pos rfl, if_pos (Nat.le_refl _)]
                  · rw [if_neg e]
                    by_cases e2 : j + 1 ≤ i
                    · rw [if_pos e2, if_pos (by omega)]
                    · rw [if_neg e2, if_neg (by omega)])
              · exact ((HB3.out.trans (hq.mono (by omega))).setCell (Nat.le_refl _) _).trans (hf.mono (by have := hq.size; simp; omega))
            have KEY := Lib.hid key
            clear key
            have HFI := Lib.hid (HH.out.fin j hj)
            by_cases hl : j + 1 < k
            · have hli : (j : Int) < ((k - 1 : Nat) : Int) := by omega
              have hjp : IntKind.i64.wrap ((j : Int) + 1) = (j : Int) + 1 := IntWalk.i64_in _ (by omega)
              have hjpt : ((j : Int) + 1).toNat = j + 1 := by omega
              have hjp0 : 0 ≤ (j : Int) + 1 := by omega
              have hjpi : (j : Int) + 1 < (k : Int) := by omega
              have hjpi2 : (j : Int) + 1 < (k : Int) + 1 := by omega
              have hjn1 : j + 1 < k + 1 := by omega
              have a8 := (HC3.out.cell (j := j + 1) hl).1
              rw [if_pos (by omega)] at a8
              have ya := (HB3.out.cell (p := ⟨bm, om + (j + 1), none⟩) (show bm < wo.heap.size by have := HBr.out.size; omega)).trans ((HBr.out.cell (p := ⟨bm, om + (j + 1), none⟩) hbm1).trans (HY1.out (j + 1) (by omega)))
              have HBE : Hid (∀ w, Calls Try.prog 65 #[.float .f32 (p (j + 1))] w (BV w (.complex .f32 (fneg .f32 (p (j + 1))) 0))) := fun w => beside_any (p (j + 1)) (p (j + 1)) w (fnt_cn (HH.out.pf (j + 1) (by omega))) (HH.out.pf (j + 1) (by omega))
              have HM3 := Lib.hid (HH.out.mul3 j hl)
              have HN3 := Lib.hid (HH.out.min3 j hl)
              have HQ2 := Lib.hid (HH.out.quo2 j hl)
              generalize (dW p s j).1 = D1 at a0 HQ2
              generalize (dW p s j).2 = D2 at a0 HQ2
              generalize narrow (t1W (fneg .f32 (p (j + 1))) 0 (oW p s k (j + 1)).1 (oW p s k (j + 1)).2) = M1 at HM3 HN3
              generalize narrow (t2W (fneg .f32 (p (j + 1))) 0 (oW p s k (j + 1)).1 (oW p s k (j + 1)).2) = M2 at HM3 HN3
              generalize (sdW p (rW p s j) j (oW p s k (j + 1))).1 = S1 at HN3 HQ2
              generalize (sdW p (rW p s j) j (oW p s k (j + 1))).2 = S2 at HN3 HQ2
              generalize (rW p s j).1 = R1 at a4 HN3
              generalize (rW p s j).2 = R2 at a4 HN3
              generalize (oW p s k (j + 1)).1 = P1 at a8 HM3
              generalize (oW p s k (j + 1)).2 = P2 at a8 HM3
              generalize (oW p s k j).1 = O1 at *
              generalize (oW p s k j).2 = O2 at *
              have hbmr : bm < wr.heap.size := by have := HBr.out.size; omega
              have hT : Trk wr [bm, wo.heap.size, g1] := (((Trk.nil wr).more (Nat.lt_of_lt_of_le hg1.2 hzo)).more hg3).more hbmr
              go_wp2_with (first | (with_reducible refine at_list ?_; refine wpList_fop rfl rfl rfl rfl rfl ?_; intro r n hr0; have hr := hr0 _ _ (by first | with_reducible assumption | exact rfl) (by first | with_reducible assumption | exact rfl); clear hr0) | (with_reducible refine at_list ?_; refine wpList_neg rfl rfl rfl ?_; intro r hr0; have hr := hr0 _ (by first | with_reducible assumption | exact rfl); clear hr0) | (with_reducible refine at_list ?_; refine wpList_fop_g rfl rfl rfl rfl rfl ?_; intro r n hr0; have hr := hr0 _ _ (by first | with_reducible assumption | exact rfl) (by first | with_reducible assumption | exact rfl); clear hr0) | (with_reducible refine at_list ?_; refine wpList_wide_g rfl rfl Try.underlying28 Try.underlying39 rfl ?_; intro r n hr0; have hr := hr0 _ (by first | with_reducible assumption | exact rfl); clear hr0) | (with_reducible refine at_list ?_; refine wpList_wide rfl rfl rfl Try.underlying28 Try.underlying39 ?_; intro r n hr0; have hr := hr0 _ (by first | with_reducible assumption | exact rfl); clear hr0) | (go_at_call 42; refine (implPasses_any _ _ _ _ _ (by assumption)).mono ?_; rintro e w' ⟨u, ys, rfl, hb, hO, hL⟩; obtain ⟨pu, cu, rfl⟩ := OF.shape hO; (try simp only [World.size_alloc, World.size_setCell, World.size_drew, World.drewN] at hO); obtain ⟨hT, hk⟩ := bv_next hb (by (repeat (with_reducible first | assumption | apply Trk.alloc | apply Trk.setCell | apply Trk.drewN | apply Trk.drew | exact Trk.nil _))); simp only [SameOn, World.size_alloc, World.size_setCell, World.size_drew, size_drewN', and_true] at hk; have hsz := Below.size hb; (try simp only [World.size_alloc, World.size_setCell, World.size_drew, size_drewN'] at hsz)) | (go_at_call 45; refine (arePositive_any _ _ _ (by assumption)).mono ?_; rintro e w' ⟨rfl, n, rfl⟩) | (go_at_call 69; refine (isFinC_any _ _ _).mono ?_; rintro e w' ⟨rfl, hb⟩; obtain ⟨hT, hk⟩ := bv_next hb (by (repeat (with_reducible first | assumption | apply Trk.alloc | apply Trk.setCell | apply Trk.drewN | apply Trk.drew | exact Trk.nil _))); simp only [SameOn, World.size_alloc, World.size_setCell, World.size_drew, size_drewN', and_true] at hk; have hsz := Below.size hb; (try simp only [World.size_alloc, World.size_setCell, World.size_drew, size_drewN'] at hsz)))
              (apply wp_region_plan; ((apply wpC_det; (case hw => exact rfl); (case hs => (intro cs b h; cases h)); (case h1 => (intro w'; go_simp <;> exact rfl))); apply wpC_norm; (case ha => (simp only [Act.put, List.setIfInBounds_toArray, List.set_cons_zero, List.set_cons_succ]; exact rfl))); ((apply wpC_det; (case hw => exact rfl); (case hs => (intro cs b h; cases h)); (case h1 => (intro w'; go_simp <;> exact rfl))); apply wpC_norm; (case ha => (simp only [Act.put, List.setIfInBounds_toArray, List.set_cons_zero, List.set_cons_succ]; exact rfl))); ((apply wpC_det; (case hw => exact rfl); (case hs => (intro cs b h; cases h)); (case h1 => (intro w'; go_simp <;> exact rfl))); apply wpC_norm; (case ha => (simp only [Act.put, List.setIfInBounds_toArray, List.set_cons_zero, List.set_cons_succ]; exact rfl))); ((apply wpC_det; (case hw => exact rfl); (case hs => (intro cs b h; cases h)); (case h1 => (intro w'; go_simp <;> exact rfl))); apply wpC_norm; (case ha => (simp only [Act.put, List.setIfInBounds_toArray, List.set_cons_zero, List.set_cons_succ]; exact rfl))); ((apply wpC_det; (case hw => exact rfl); (case hs => (intro cs b h; cases h)); (case h1 => (intro w'; go_simp <;> exact rfl))); apply wpC_norm; (case ha => (simp only [Act.put, List.setIfInBounds_toArray, List.set_cons_zero, List.set_cons_succ]; exact rfl))); ((apply wpC_det; (case hw => exact rfl); (case hs => (intro cs b h; cases h)); (case h1 => (intro w'; go_simp <;> exact rfl))); apply wpC_norm; (case ha => (simp only [Act.put, List.setIfInBounds_toArray, List.set_cons_zero, List.set_cons_succ]; exact rfl))); ((apply wpC_val; (case hw => exact rfl); (case h1 => (intro w' hb hk0; obtain ⟨hT, hk⟩ := bv_next hb (by (repeat (with_reducible first | assumption | apply Trk.alloc | apply Trk.setCell | apply Trk.drewN | apply Trk.drew | exact Trk.nil _))); simp only [SameOn, World.size_alloc, World.size_setCell, World.size_drew, size_drewN', and_true] at hk; have hsz := Below.size hb; (try simp only [World.size_alloc, World.size_setCell, World.size_drew, size_drewN'] at hsz); go_simp <;> exact rfl))); apply wpC_norm; (case ha => (simp only [Act.put, List.setIfInBounds_toArray, List.set_cons_zero, List.set_cons_succ]; exact rfl))); ((first | (apply wpC_callB (.complex .f32 (fneg .f32 (p (j + 1))) 0); (case hw => exact rfl); (case h1 => (intro w'; go_simp; exact ⟨rfl, rfl⟩)); (case hc => (intro w' hb hk0; with_reducible exact HBE.out _))) | (apply wpC_callB (.complex .f32 M1 M2); (case hw => exact rfl); (case h1 => (intro w'; go_simp; exact ⟨rfl, rfl⟩)); (case hc => (intro w' hb hk0; with_reducible exact HM3.out _))) | (apply wpC_callB (.complex .f32 S1 S2); (case hw => exact rfl); (case h1 => (intro w'; go_simp; exact ⟨rfl, rfl⟩)); (case hc => (intro w' hb hk0; with_reducible exact HN3.out _)))); apply wpC_norm; (case ha => (simp only [Act.put, List.setIfInBounds_toArray, List.set_cons_zero, List.set_cons_succ]; exact rfl))); ((apply wpC_det; (case hw => exact rfl); (case hs => (intro cs b h; cases h)); (case h1 => (intro w'; go_simp <;> exact rfl))); apply wpC_norm; (case ha => (simp only [Act.put, List.setIfInBounds_toArray, List.set_cons_zero, List.set_cons_succ]; exact rfl))); ((apply wpC_det; (case hw => exact rfl); (case hs => (intro cs b h; cases h)); (case h1 => (intro w'; go_simp <;> exact rfl))); apply wpC_norm; (case ha => (simp only [Act.put, List.setIfInBounds_toArray, List.set_cons_zero, List.set_cons_succ]; exact rfl))); ((apply wpC_det; (case hw => exact rfl); (case hs => (intro cs b h; cases h)); (case h1 => (intro w'; go_simp <;> exact rfl))); apply wpC_norm; (case ha => (simp only [Act.put, List.setIfInBounds_toArray, List.set_cons_zero, List.set_cons_succ]; exact rfl))); ((apply wpC_det; (case hw => exact rfl); (case hs => (intro cs b h; cases h)); (case h1 => (intro w'; go_simp <;> exact rfl))); apply wpC_norm; (case ha => (simp only [Act.put, List.setIfInBounds_toArray, List.set_cons_zero, List.set_cons_succ]; exact rfl))); ((apply wpC_val; (case hw => exact rfl); (case h1 => (intro w' hb hk0; obtain ⟨hT, hk⟩ := bv_next hb (by (repeat (with_reducible first | assumption | apply Trk.alloc | apply Trk.setCell | apply Trk.drewN | apply Trk.drew | exact Trk.nil _))); simp only [SameOn, World.size_alloc, World.size_setCell, World.size_drew, size_drewN', and_true] at hk; have hsz := Below.size hb; (try simp only [World.size_alloc, World.size_setCell, World.size_drew, size_drewN'] at hsz); go_simp <;> exact rfl))); apply wpC_norm; (case ha => (simp only [Act.put, List.setIfInBounds_toArray, List.set_cons_zero, List.set_cons_succ]; exact rfl))); ((first | (apply wpC_callB (.complex .f32 (fneg .f32 (p (j + 1))) 0); (case hw => exact rfl); (case h1 => (intro w'; go_simp; exact ⟨rfl, rfl⟩)); (case hc => (intro w' hb hk0; with_reducible exact HBE.out _))) | (apply wpC_callB (.complex .f32 M1 M2); (case hw => exact rfl); (case h1 => (intro w'; go_simp; exact ⟨rfl, rfl⟩)); (case hc => (intro w' hb hk0; with_reducible exact HM3.out _))) | (apply wpC_callB (.complex .f32 S1 S2); (case hw => exact rfl); (case h1 => (intro w'; go_simp; exact ⟨rfl, rfl⟩)); (case hc => (intro w' hb hk0; with_reducible exact HN3.out _)))); apply wpC_norm; (case ha => (simp only [Act.put, List.setIfInBounds_toArray, List.set_cons_zero, List.set_cons_succ]; exact rfl))); ((first | (apply wpC_callB (.complex .f32 (fneg .f32 (p (j + 1))) 0); (case hw => exact rfl); (case h1 => (intro w'; go_simp; exact ⟨rfl, rfl⟩)); (case hc => (intro w' hb hk0; with_reducible exact HBE.out _))) | (apply wpC_callB (.complex .f32 M1 M2); (case hw => exact rfl); (case h1 => (intro w'; go_simp; exact ⟨rfl, rfl⟩)); (case hc => (intro w' hb hk0; with_reducible exact HM3.out _))) | (apply wpC_callB (.complex .f32 S1 S2); (case hw => exact rfl); (case h1 => (intro w'; go_simp; exact ⟨rfl, rfl⟩)); (case hc => (intro w' hb hk0; with_reducible exact HN3.out _)))); apply wpC_norm; (case ha => (simp only [Act.put, List.setIfInBounds_toArray, List.set_cons_zero, List.set_cons_succ]; exact rfl))); ((apply wpC_det; (case hw => exact rfl); (case hs => (intro cs b h; cases h)); (case h1 => (intro w'; go_simp <;> exact rfl))); apply wpC_norm; (case ha => (simp only [Act.put, List.setIfInBounds_toArray, List.set_cons_zero, List.set_cons_succ]; exact rfl))); refine wpC_nil ?_; intro w' hb hkk; obtain ⟨hT, hk⟩ := bv_next hb (by (repeat (with_reducible first | assumption | apply Trk.alloc | apply Trk.setCell | apply Trk.drewN | apply Trk.drew | exact Trk.nil _))); simp only [SameOn, World.size_alloc, World.size_setCell, World.size_drew, size_drewN', and_true] at hk; have hsz := Below.size hb; (try simp only [World.size_alloc, World.size_setCell, World.size_drew, size_drewN'] at hsz))
              rotate_left
              all_goals (try (first | kernel_rfl | rfl))
              rename World => w5
              have HB5 : Hid (Below wr.heap.size wr w5) := by show Below _ _ _; (repeat (first | (with_reducible exact Below.refl _ _) | (with_reducible assumption) | (with_reducible refine below_then ?_ (by assumption)) | (with_reducible refine Below.trans ?_ (by assumption)) | (with_reducible refine below_drewN ?_ _) | (with_reducible apply Below.drew) | (with_reducible refine below_alloc ?_ _) | refine Below.setCell ?_ (by first | (simp; done) | (simp; omega)) _))
              have x0 := cell_later HB5.out x0
              have x1 := free_later HB5.out (HC3.out.cell hj).1 x1
              have a0 := cell_later HB5.out a0
              have hT : Trk w5 [wo.heap.size] := (Trk.nil w5).more (Nat.lt_of_lt_of_le hg3 HB5.out.size)
              clear hb hk hkk a4 a8 ya HBE HM3 HN3
              go_wp2_with (first | (with_reducible refine at_list ?_; refine wpList_fop rfl rfl rfl rfl rfl ?_; intro r n hr0; have hr := hr0 _ _ (by first | with_reducible assumption | exact rfl) (by first | with_reducible assumption | exact rfl); clear hr0) | (with_reducible refine at_list ?_; refine wpList_neg rfl rfl rfl ?_; intro r hr0; have hr := hr0 _ (by first | with_reducible assumption | exact rfl); clear hr0) | (with_reducible refine at_list ?_; refine wpList_fop_g rfl rfl rfl rfl rfl ?_; intro r n hr0; have hr := hr0 _ _ (by first | with_reducible assumption | exact rfl) (by first | with_reducible assumption | exact rfl); clear hr0) | (with_reducible refine at_list ?_; refine wpList_wide_g rfl rfl Try.underlying28 Try.underlying39 rfl ?_; intro r n hr0; have hr := hr0 _ (by first | with_reducible assumption | exact rfl); clear hr0) | (with_reducible refine at_list ?_; refine wpList_wide rfl rfl rfl Try.underlying28 Try.underlying39 ?_; intro r n hr0; have hr := hr0 _ (by first | with_reducible assumption | exact rfl); clear hr0) | (go_at_call 69; refine stop_here ?_) | (go_at_call 42; refine (implPasses_any _ _ _ _ _ (by assumption)).mono ?_; rintro e w' ⟨u, ys, rfl, hb, hO, hL⟩; obtain ⟨pu, cu, rfl⟩ := OF.shape hO; (try simp only [World.size_alloc, World.size_setCell, World.size_drew, World.drewN] at hO); obtain ⟨hT, hk⟩ := bv_next hb (by (repeat (with_reducible first | assumption | apply Trk.alloc | apply Trk.setCell | apply Trk.drewN | apply Trk.drew | exact Trk.nil _))); simp only [SameOn, World.size_alloc, World.size_setCell, World.size_drew, size_drewN', and_true] at hk; have hsz := Below.size hb; (try simp only [World.size_alloc, World.size_setCell, World.size_drew, size_drewN'] at hsz)) | (go_at_call 45; refine (arePositive_any _ _ _ (by assumption)).mono ?_; rintro e w' ⟨rfl, n, rfl⟩) | (go_at_call 66; refine ((HQ2.out _) ).mono ?_; rintro e w' ⟨rfl, hb⟩; obtain ⟨hT, hk⟩ := bv_next hb (by (repeat (with_reducible first | assumption | apply Trk.alloc | apply Trk.setCell | apply Trk.drewN | apply Trk.drew | exact Trk.nil _))); simp only [SameOn, World.size_alloc, World.size_setCell, World.size_drew, size_drewN', and_true] at hk; have hsz := Below.size hb; (try simp only [World.size_alloc, World.size_setCell, World.size_drew, size_drewN'] at hsz)) | (go_at_call 69; refine (isFinC_any _ _ _).mono ?_; rintro e w' ⟨rfl, hb⟩; obtain ⟨hT, hk⟩ := bv_next hb (by (repeat (with_reducible first | assumption | apply Trk.alloc | apply Trk.setCell | apply Trk.drewN | apply Trk.drew | exact Trk.nil _))); simp only [SameOn, World.size_alloc, World.size_setCell, World.size_drew, size_drewN', and_true] at hk; have hsz := Below.size hb; (try simp only [World.size_alloc, World.size_setCell, World.size_drew, size_drewN'] at hsz)))
              unfold Stop
              refine (HFI.out _).mono ?_
              rintro e wf ⟨rfl, hbf⟩
              go_wp2_with (first | (with_reducible refine at_list ?_; refine wpList_fop rfl rfl rfl rfl rfl ?_; intro r n hr0; have hr := hr0 _ _ (by first | with_reducible assumption | exact rfl) (by first | with_reducible assumption | exact rfl); clear hr0) | (with_reducible refine at_list ?_; refine wpList_neg rfl rfl rfl ?_; intro r hr0; have hr := hr0 _ (by first | with_reducible assumption | exact rfl); clear hr0) | (with_reducible refine at_list ?_; refine wpList_fop_g rfl rfl rfl rfl rfl ?_; intro r n hr0; have hr := hr0 _ _ (by first | with_reducible assumption | exact rfl) (by first | with_reducible assumption | exact rfl); clear hr0) | (with_reducible refine at_list ?_; refine wpList_wide_g rfl rfl Try.underlying28 Try.underlying39 rfl ?_; intro r n hr0; have hr := hr0 _ (by first | with_reducible assumption | exact rfl); clear hr0) | (with_reducible refine at_list ?_; refine wpList_wide rfl rfl rfl Try.underlying28 Try.underlying39 ?_; intro r n hr0; have hr := hr0 _ (by first | with_reducible assumption | exact rfl); clear hr0) | (go_at_call 42; refine (implPasses_any _ _ _ _ _ (by assumption)).mono ?_; rintro e w' ⟨u, ys, rfl, hb, hO, hL⟩; obtain ⟨pu, cu, rfl⟩ := OF.shape hO; (try simp only [World.size_alloc, World.size_setCell, World.size_drew, World.drewN] at hO); obtain ⟨hT, hk⟩ := bv_next hb (by (repeat (with_reducible first | assumption | apply Trk.alloc | apply Trk.setCell | apply Trk.drewN | apply Trk.drew | exact Trk.nil _))); simp only [SameOn, World.size_alloc, World.size_setCell, World.size_drew, size_drewN', and_true] at hk; have hsz := Below.size hb; (try simp only [World.size_alloc, World.size_setCell, World.size_drew, size_drewN'] at hsz)) | (go_at_call 45; refine (arePositive_any _ _ _ (by assumption)).mono ?_; rintro e w' ⟨rfl, n, rfl⟩) | (go_at_call 69; refine (isFinC_any _ _ _).mono ?_; rintro e w' ⟨rfl, hb⟩; obtain ⟨hT, hk⟩ := bv_next hb (by (repeat (with_reducible first | assumption | apply Trk.alloc | apply Trk.setCell | apply Trk.drewN | apply Trk.drew | exact Trk.nil _))); simp only [SameOn, World.size_alloc, World.size_setCell, World.size_drew, size_drewN', and_true] at hk; have hsz := Below.size hb; (try simp only [World.size_alloc, World.size_setCell, World.size_drew, size_drewN'] at hsz)))
              exact ⟨KEY.out _ wf (HB5.out.trans (Below.mono (by assumption) HB5.out.size)) hbf, by first | (simp [intOf]; done) | (simp [intOf]; omega)⟩
            · have hli : ¬ (j : Int) < ((k - 1 : Nat) : Int) := by omega
              have HQ3 := Lib.hid (HH.out.quo3 j (by omega))
              generalize (dW p s j).1 = D1 at a0 HQ3
              generalize (dW p s j).2 = D2 at a0 HQ3
              generalize (rW p s j).1 = R1 at a4 HQ3
              generalize (rW p s j).2 = R2 at a4 HQ3
              generalize (oW p s k j).1 = O1 at *
              generalize (oW p s k j).2 = O2 at *
              have hT : Trk wr [wo.heap.size] := (Trk.nil wr).more hg3
              go_wp2_with (first | (with_reducible refine at_list ?_; refine wpList_fop rfl rfl rfl rfl rfl ?_; intro r n hr0; have hr := hr0 _ _ (by first | with_reducible assumption | exact rfl) (by first | with_reducible assumption | exact rfl); clear hr0) | (with_reducible refine at_list ?_; refine wpList_neg rfl rfl rfl ?_; intro r hr0; have hr := hr0 _ (by first | with_reducible assumption | exact rfl); clear hr0) | (with_reducible refine at_list ?_; refine wpList_fop_g rfl rfl rfl rfl rfl ?_; intro r n hr0; have hr := hr0 _ _ (by first | with_reducible assumption | exact rfl) (by first | with_reducible assumption | exact rfl); clear hr0) | (with_reducible refine at_list ?_; refine wpList_wide_g rfl rfl Try.underlying28 Try.underlying39 rfl ?_; intro r n hr0; have hr := hr0 _ (by first | with_reducible assumption | exact rfl); clear hr0) | (with_reducible refine at_list ?_; refine wpList_wide rfl rfl rfl Try.underlying28 Try.underlying39 ?_; intro r n hr0; have hr := hr0 _ (by first | with_reducible assumption | exact rfl); clear hr0) | (go_at_call 69; refine stop_here ?_) | (go_at_call 42; refine (implPasses_any _ _ _ _ _ (by assumption)).mono ?_; rintro e w' ⟨u, ys, rfl, hb, hO, hL⟩; obtain ⟨pu, cu, rfl⟩ := OF.shape hO; (try simp only [World.size_alloc, World.size_setCell, World.size_drew, World.drewN] at hO); obtain ⟨hT, hk⟩ := bv_next hb (by (repeat (with_reducible first | assumption | apply Trk.alloc | apply Trk.setCell | apply Trk.drewN | apply Trk.drew | exact Trk.nil _))); simp only [SameOn, World.size_alloc, World.size_setCell, World.size_drew, size_drewN', and_true] at hk; have hsz := Below.size hb; (try simp only [World.size_alloc, World.size_setCell, World.size_drew, size_drewN'] at hsz)) | (go_at_call 45; refine (arePositive_any _ _ _ (by assumption)).mono ?_; rintro e w' ⟨rfl, n, rfl⟩) | (go_at_call 66; refine ((HQ3.out _) ).mono ?_; rintro e w' ⟨rfl, hb⟩; obtain ⟨hT, hk⟩ := bv_next hb (by (repeat (with_reducible first | assumption | apply Trk.alloc | apply Trk.setCell | apply Trk.drewN | apply Trk.drew | exact Trk.nil _))); simp only [SameOn, World.size_alloc, World.size_setCell, World.size_drew, size_drewN', and_true] at hk; have hsz := Below.size hb; (try simp only [World.size_alloc, World.size_setCell, World.size_drew, size_drewN'] at hsz)) | (go_at_call 69; refine (isFinC_any _ _ _).mono ?_; rintro e w' ⟨rfl, hb⟩; obtain ⟨hT, hk⟩ := bv_next hb (by (repeat (with_reducible first | assumption | apply Trk.alloc | apply Trk.setCell | apply Trk.drewN | apply Trk.drew | exact Trk.nil _))); simp only [SameOn, World.size_alloc, World.size_setCell, World.size_drew, size_drewN', and_true] at hk; have hsz := Below.size hb; (try simp only [World.size_alloc, World.size_setCell, World.size_drew, size_drewN'] at hsz)))
              unfold Stop
              refine (HFI.out _).mono ?_
              rintro e wf ⟨rfl, hbf⟩
              go_wp2_with (first | (with_reducible refine at_list ?_; refine wpList_fop rfl rfl rfl rfl rfl ?_; intro r n hr0; have hr := hr0 _ _ (by first | with_reducible assumption | exact rfl) (by first | with_reducible assumption | exact rfl); clear hr0) | (with_reducible refine at_list ?_; refine wpList_neg rfl rfl rfl ?_; intro r hr0; have hr := hr0 _ (by first | with_reducible assumption | exact rfl); clear hr0) | (with_reducible refine at_list ?_; refine wpList_fop_g rfl rfl rfl rfl rfl ?_; intro r n hr0; have hr := hr0 _ _ (by first | with_reducible assumption | exact rfl) (by first | with_reducible assumption | exact rfl); clear hr0) | (with_reducible refine at_list ?_; refine wpList_wide_g rfl rfl Try.underlying28 Try.underlying39 rfl ?_; intro r n hr0; have hr := hr0 _ (by first | with_reducible assumption | exact rfl); clear hr0) | (with_reducible refine at_list ?_; refine wpList_wide rfl rfl rfl Try.underlying28 Try.underlying39 ?_; intro r n hr0; have hr := hr0 _ (by first | with_reducible assumption | exact rfl); clear hr0) | (go_at_call 42; refine (implPasses_any _ _ _ _ _ (by assumption)).mono ?_; rintro e w' ⟨u, ys, rfl, hb, hO, hL⟩; obtain ⟨pu, cu, rfl⟩ := OF.shape hO; (try simp only [World.size_alloc, World.size_setCell, World.size_drew, World.drewN] at hO); obtain ⟨hT, hk⟩ := bv_next hb (by (repeat (with_reducible first | assumption | apply Trk.alloc | apply Trk.setCell | apply Trk.drewN | apply Trk.drew | exact Trk.nil _))); simp only [SameOn, World.size_alloc, World.size_setCell, World.size_drew, size_drewN', and_true] at hk; have hsz := Below.size hb; (try simp only [World.size_alloc, World.size_setCell, World.size_drew, size_drewN'] at hsz)) | (go_at_call 45; refine (arePositive_any _ _ _ (by assumption)).mono ?_; rintro e w' ⟨rfl, n, rfl⟩) | (go_at_call 69; refine (isFinC_any _ _ _).mono ?_; rintro e w' ⟨rfl, hb⟩; obtain ⟨hT, hk⟩ := bv_next hb (by (repeat (with_reducible first | assumption | apply Trk.alloc | apply Trk.setCell | apply Trk.drewN | apply Trk.drew | exact Trk.nil _))); simp only [SameOn, World.size_alloc, World.size_setCell, World.size_drew, size_drewN', and_true] at hk; have hsz := Below.size hb; (try simp only [World.size_alloc, World.size_setCell, World.size_drew, size_drewN'] at hsz)))
              exact ⟨KEY.out _ wf (by assumption) hbf, by first | (simp [intOf]; done) | (simp [intOf]; omega)⟩
        all_goals first | kernel_rfl | rfl
    all_goals first | kernel_rfl | rfl
end Go.Proofs.Ytpnkapdemgieaaa
set_option linter.unusedSimpArgs false
set_option linter.unusedVariables false
set_option linter.unusedSectionVars false
namespace Go.Proofs.Ytpnkapdemgieaaa
open Go Go.RowKit
open Go.ChangeShapes Go.WideShapes Go.ChangeAt Go.RowKit Go.Joins
theorem calls_named {P : Program} {f : FuncId} {args : Array Value} {w : World} {Q : Ending → World → Prop} (h : ∀ W, W = w → Calls P f args W Q) : Calls P f args w Q := h w rfl
/-- A fact that outlives what is made. -/
def Lat (F : World → Prop) : Prop := ∀ w w', F w → Below w.heap.size w w' → F w'
def Bag (L : List (World → Prop)) (w : World) : Prop := ∀ F ∈ L, Lat F ∧ F w
theorem Bag.nil (w : World) : Bag [] w := fun _ h => nomatch h
section
variable {L : List (World → Prop)} {F : World → Prop} {w w' : World}
theorem Bag.later (h : Bag L w) (hb : Below w.heap.size w w') : Bag L w' := fun F hF => ⟨(h F hF).1, (h F hF).1 _ _ (h F hF).2 hb⟩
theorem Bag.add (h : Bag L w) (l : Lat F) (x : F w) : Bag (F :: L) w := fun G hG => by
  rcases List.mem_cons.1 hG with rfl | hG
  · exact ⟨l, x⟩
  · exact h G hG
theorem Bag.g (h : Bag (F :: L) w) : F w := (h F List.mem_cons_self).2
theorem Bag.t (h : Bag (F :: L) w) : Bag L w := fun G hG => h G (List.mem_cons_of_mem _ hG)
end
/-- Below a world's size nothing has changed. -/
def Bel (w0 : World) (w : World) : Prop := Below w0.heap.size w0 w
theorem Bel.lat (w0 : World) : Lat (Bel w0) := fun _ _ h hb => h.trans (hb.mono h.size)
/-- A variable of four cells. -/
def Var (b : Nat) (v0 v1 v2 v3 : Value) (w : World) : Prop := (w.cell? ⟨b, 0, none⟩ = some v0 ∧ w.cell? ⟨b, 1, none⟩ = some v1 ∧ w.cell? ⟨b, 2, none⟩ = some v2 ∧ w.cell? ⟨b, 3, none⟩ = some v3) ∧ b < w.heap.size
theorem Var.lat (b : Nat) (v0 v1 v2 v3 : Value) : Lat (Var b v0 v1 v2 v3) := fun _ _ h hb => ⟨⟨(hb.cell h.2).trans h.1.1, (hb.cell h.2).trans h.1.2.1, (hb.cell h.2).trans h.1.2.2.1, (hb.cell h.2).trans h.1.2.2.2⟩, Nat.lt_of_lt_of_le h.2 hb.size⟩
/-- A variable of three cells. -/
def Var3 (b : Nat) (v0 v1 v2 : Value) (w : World) : Prop := (w.cell? ⟨b, 0, none⟩ = some v0 ∧ w.cell? ⟨b, 1, none⟩ = some v1 ∧ w.cell? ⟨b, 2, none⟩ = some v2) ∧ b < w.heap.size
theorem Var3.lat (b : Nat) (v0 v1 v2 : Value) : Lat (Var3 b v0 v1 v2) := fun _ _ h hb => ⟨⟨(hb.cell h.2).trans h.1.1, (hb.cell h.2).trans h.1.2.1, (hb.cell h.2).trans h.1.2.2⟩, Nat.lt_of_lt_of_le h.2 hb.size⟩
/-- A list that can be read. -/
def Lst (v : Value) (xs : List Nat) (w : World) : Prop := FS w v xs
theorem Lst.lat (v : Value) (xs : List Nat) : Lat (Lst v xs) := fun _ _ h hb => FS.later h hb
theorem Lst.at {q : Option Addr} {n c : Nat} {xs : List Nat} {w : World} (h : Lst (.slice q n c) xs w) (hl : xs.length = n) (hn : 0 < n) : ∃ b o, q = some ⟨b, o, none⟩ ∧ ∀ j, j < n → w.cell? ⟨b, o + j, none⟩ = some (.float .f32 (xs.getD j 0)) := by
  obtain ⟨p', c', e', _, _, hv⟩ := FS_view h
  simp only [Value.slice.injEq] at e'
  obtain ⟨rfl, _, rfl⟩ := e'
  obtain ⟨b, o, hp, _⟩ := hv 0 (by omega)
  refine ⟨b, o, hp, fun j hj => ?_⟩
  obtain ⟨b2, o2, hp2, hc⟩ := hv j (by omega)
  rw [hp] at hp2
  simp only [Option.some.injEq, Addr.mk.injEq] at hp2
  obtain ⟨rfl, rfl, _⟩ := hp2
  exact hc
/-- A rod of so many cells that can be read. -/
def Rdn (R : Rd) (m : RL) (n : Nat) (w : World) : Prop := (R.a.length = n ∧ R.b.length = n ∧ R.c.length = n ∧ R.d.length = n) ∧ R.fs w m
theorem Rdn.lat (R : Rd) (m : RL) (n : Nat) : Lat (Rdn R m n) := fun _ _ h hb => ⟨h.1, h.2.later hb⟩
def rnV (m : RL) (n : Nat) : Value := .agg #[.slice m.p1 n m.c1, .slice m.p2 n m.c2, .slice m.p3 n m.c3, .slice m.p4 n m.c4]
theorem Rdn.val {R : Rd} {m : RL} {n : Nat} {w : World} (h : Rdn R m n w) : .agg #[.slice m.p1 R.a.length m.c1, .slice m.p2 R.b.length m.c2, .slice m.p3 R.c.length m.c3, .slice m.p4 R.d.length m.c4] = rnV m n := by
  obtain ⟨⟨h1, h2, h3, h4⟩, _⟩ := h
  unfold rnV
  rw [h1, h2, h3, h4]
/-- A rod of so many cells, and that it is valid. -/
def BRN (w : World) (R : Rd) (n : Nat) (e : Ending) (w' : World) : Prop := ∃ m : RL, e = .returned (.tuple #[.agg #[.slice m.p1 n m.c1, .slice m.p2 n m.c2, .slice m.p3 n m.c3, .slice m.p4 n m.c4], .bool true]) ∧ Below w.heap.size w w' ∧ Rdn R m n w'
theorem BRB.n {w w' : World} {R : Rd} {e : Ending} {n : Nat} (h : BRB w R true e w') (hl : R.a.length = n ∧ R.b.length = n ∧ R.c.length = n ∧ R.d.length = n) : BRN w R n e w' := by
  obtain ⟨m, rfl, hb, hX⟩ := h
  have q : Rdn R m n w' := ⟨hl, hX.fs⟩
  refine ⟨m, ?_, hb, q⟩
  rw [q.val]; rfl
end Go.Proofs.Ytpnkapdemgieaaa
set_option linter.unusedSimpArgs false
set_option linter.unusedVariables false
set_option linter.unusedSectionVars false
namespace Go.Proofs.Ytpnkapdemgieaaa
open Go Go.RowKit
open Go.ChangeShapes Go.WideShapes Go.ChangeAt Go.RowKit Go.Joins
theorem dW_next (p s : Nat → Nat) (i : Nat) : dW p s (i + 1) = (fop .sub .f32 (fop .add .f32 (p (i + 1)) (p (i + 2))) (narrow (t1W (fA p s i) (fB p s i) (fneg .f32 (p (i + 1))) 0)), fop .sub .f32 (s (i + 1)) (narrow (t2W (fA p s i) (fB p s i) (fneg .f32 (p (i + 1))) 0))) := by
  rw [dW]; rfl
theorem rW_next (p s : Nat → Nat) (i : Nat) : rW p s (i + 1) = (fop .sub .f32 0 (narrow (t1W (fA p s i) (fB p s i) (rW p s i).1 (rW p s i).2)), fop .sub .f32 0 (narrow (t2W (fA p s i) (fB p s i) (rW p s i).1 (rW p s i).2))) := by
  rw [rW]
theorem cnf {x : Nat} (h : fnt .f32 x = true) : cn .f32 x = x := fnt_cn h
theorem quo_bv {a b c d : Nat} (w : World) (ha : fnt .f32 a = true) (hb : fnt .f32 b = true) (hc : fnt .f32 c = true) (hd : fnt .f32 d = true) (h : fits (qaW a b c d) = true ∧ fits (qbW a b c d) = true) (h1 : fnt .f32 (narrow (qaW a b c d)) = true) (h2 : fnt .f32 (narrow (qbW a b c d)) = true) : Calls Try.prog 66 #[.complex .f32 a b, .complex .f32 c d] w (BV w (.complex .f32 (narrow (qaW a b c d)) (narrow (qbW a b c d)))) := by
  have q := quoC_any a b c d w (by rw [cnf ha, cnf hb, cnf hc, cnf hd]; exact h)
  rw [cnf ha, cnf hb, cnf hc, cnf hd] at q
  exact rc_bv q h1 h2
theorem mul_bv {a b c d : Nat} (w : World) (ha : fnt .f32 a = true) (hb : fnt .f32 b = true) (hc : fnt .f32 c = true) (hd : fnt .f32 d = true) (h : fits (t1W a b c d) = true ∧ fits (t2W a b c d) = true) (h1 : fnt .f32 (narrow (t1W a b c d)) = true ∧ fnt .f32 (narrow (t2W a b c d)) = true) : Calls Try.prog 68 #[.complex .f32 a b, .complex .f32 c d] w (BV w (.complex .f32 (narrow (t1W a b c d)) (narrow (t2W a b c d)))) := by
  have q := mulC_any a b c d w (by rw [cnf ha, cnf hb, cnf hc, cnf hd]; exact h)
  rw [cnf ha, cnf hb, cnf hc, cnf hd] at q
  exact rc_bv q h1.1 h1.2
theorem minus_bv {a b c d : Nat} (w : World) (ha : fnt .f32 a = true) (hb : fnt .f32 b = true) (hc : fnt .f32 c = true) (hd : fnt .f32 d = true) (h1 : fnt .f32 (fop .sub .f32 a c) = true) (h2 : fnt .f32 (fop .sub .f32 b d) = true) : Calls Try.prog 67 #[.complex .f32 a b, .complex .f32 c d] w (BV w (.complex .f32 (fop .sub .f32 a c) (fop .sub .f32 b d))) := by
  have q := minus_any a b c d w
  rw [cnf ha, cnf hb, cnf hc, cnf hd] at q
  exact rc_bv q h1 h2
theorem fin_bv {a b : Nat} (w : World) (ha : fnt .f32 a = true) (hb : fnt .f32 b = true) : Calls Try.prog 69 #[.complex .f32 a b] w (BV w (.bool true)) := by
  have q := isFinC_any a b w
  rw [cnf ha, cnf hb, fin_of_fnt ha, fin_of_fnt hb] at q
  exact q
set_option maxHeartbeats 4000000 in
theorem WR.anh {P : Rd} {n : Nat} {A B C T : Nat → Int} (h : WR P n A B C T) (h6 : n ≤ 6) {t : Nat} (ht : abv (cn .f32 t) = true) (H : SwH n (swP P) (swS P t)) : AnH (swP P) (swS P t) n P t := by
  have hn := h.hn
  have z : fnt .f32 0 = true := zero_fw.1.1
  have ng : ∀ {i}, i ≤ n → fnt .f32 (fneg .f32 (swP P i)) = true := fun hi => (fneg_val (H.pc hi).1).1
  have D : ∀ {i}, i < n → fnt .f32 (dW (swP P) (swS P t) i).1 = true ∧ fnt .f32 (dW (swP P) (swS P t) i).2 = true := fun hi => ⟨(H.dv _ hi).a.1.1, (H.dv _ hi).b.1.1⟩
  have R : ∀ {i}, i < n → fnt .f32 (rW (swP P) (swS P t) i).1 = true ∧ fnt .f32 (rW (swP P) (swS P t) i).2 = true := fun hi => ⟨(H.rv _ hi).a.1.1, (H.rv _ hi).b.1.1⟩
  have O : ∀ {i}, i < n → fnt .f32 (oW (swP P) (swS P t) n i).1 = true ∧ fnt .f32 (oW (swP P) (swS P t) n i).2 = true := fun hi => ⟨(H.bk hi).a.1.1, (H.bk hi).b.1.1⟩
  have af : ∀ i, i < n → fnt .f32 (fop .add .f32 (swP P i) (swP P (i + 1))) = true := fun i hi => (cs_ok .add (.inl rfl) ((H.pc (i := i) (by omega)).fw (by decide) (by decide)) ((H.pc (i := i + 1) (by omega)).fw (by decide) (by decide))).1
  refine ⟨(h.dr h6).g.passOk heE_ge huE_ge, ht, ⟨hn.1, by omega⟩, h.la, h.lc, h.lb, h.ld, fun i hi => rfl, fun i hi => (H.pc hi).1, fun i hi => rfl, fun i hi => (H.sw i hi).1, af, ?_, ?_, ?_, ?_, ?_, ?_, ?_, ?_, ?_, fun i hi w => fin_bv w (O hi).1 (O hi).2⟩
  · intro i hi w
    have F := H.fq hi
    exact quo_bv w (ng (by omega)) z (D (by omega)).1 (D (by omega)).2 F.fit F.a.1.1 F.b.1.1
  · intro i hi w
    have F := H.fq hi
    exact mul_bv w F.a.1.1 F.b.1.1 (ng (by omega)) z (H.lk hi).fit (H.lk hi).fin
  · intro i hi w
    have d := D hi
    rw [dW_next] at d ⊢
    dsimp only at d ⊢
    exact minus_bv w (af (i + 1) hi) (H.sw (i + 1) hi).1 (H.lk hi).fin.1 (H.lk hi).fin.2 d.1 d.2
  · intro i hi w
    have F := H.fq hi
    exact mul_bv w F.a.1.1 F.b.1.1 (R (by omega)).1 (R (by omega)).2 (H.rl hi).fit (H.rl hi).fin
  · intro i hi w
    have r := R hi
    rw [rW_next] at r ⊢
    dsimp only at r ⊢
    exact minus_bv w z z (H.rl hi).fin.1 (H.rl hi).fin.2 r.1 r.2
  · intro i hi w
    obtain ⟨m1, m2, _, _⟩ := (H.bk (i := i) (by omega)).next hi
    exact mul_bv w (ng (by omega)) z (O hi).1 (O hi).2 m1 m2
  · intro i hi w
    obtain ⟨m1, m2, m3, _⟩ := (H.bk (i := i) (by omega)).next hi
    exact minus_bv w (R (by omega)).1 (R (by omega)).2 m2.1 m2.2 m3.1 m3.2
  · intro i hi w
    obtain ⟨m1, m2, m3, m4⟩ := (H.bk (i := i) (by omega)).next hi
    have o := O (i := i) (by omega)
    have e := oW_next (swP P) (swS P t) n hi
    rw [e] at o ⊢
    exact quo_bv w m3.1 m3.2 (D (by omega)).1 (D (by omega)).2 m4 o.1 o.2
  · intro i hi w
    have m := (H.bk (i := i) (by omega)).last hi
    have o := O (i := i) (by omega)
    have e := oW_last (swP P) (swS P t) n hi
    rw [e] at o ⊢
    exact quo_bv w (R (by omega)).1 (R (by omega)).2 (D (by omega)).1 (D (by omega)).2 m o.1 o.2
/-- The answers of a drawn rod, as a law's walk wants them. -/
theorem answer_yes {P : Rd} {n : Nat} {A B C T : Nat → Int} (h : WR P n A B C T) (h6 : n ≤ 6) {t : Nat} (ht : abv (cn .f32 t) = true) (H : SwH n (swP P) (swS P t)) {m : RL} {w : World} (hs : Rdn P m n w) : Calls Try.prog 31 #[.agg #[.slice m.p1 n m.c1, .slice m.p2 n m.c2, .slice m.p3 n m.c3, .slice m.p4 n m.c4], .float .f32 t] w (fun e w' => ∃ g, e = .returned (.tuple #[.slice (some ⟨g, 0, none⟩) n n, .bool true]) ∧ Below w.heap.size w w' ∧ CW w.heap.size w' g n (oW (swP P) (swS P t) n)) := by
  have q := implAnswer_yes P m t n (swP P) (swS P t) w hs.2 (h.anh h6 ht H)
  rwa [hs.val] at q
end Go.Proofs.Ytpnkapdemgieaaa

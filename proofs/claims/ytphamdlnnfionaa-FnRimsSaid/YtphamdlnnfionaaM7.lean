/-
  Complex numbers in single precision that are handed back with a bool, but for the bits of a NaN. No condition but what each contract says.
  How heat flows at a cell: the law. True for every input. No condition.
  Slices of whole numbers that are appended to. No condition but what each law says.
  What a 32-bit word stands for, as a whole number of units of the least place; comparisons are those of these numbers. No condition but what each lemma says.
  Paths to ever cooler cells: what they are, and that there is one. No condition but what each law says.
  Islands of warm cells, breadth first: a plain function; its bounds. No condition but what each law says.
-/
import Derived.Test.YtphamdlnnfionaaM6
import Derived.Laws.ComplexArith
import Derived.Test.YtphamdlnnfionaaM5
import Derived.Test.YtphamdlnnfionaaM2
set_option linter.unusedSimpArgs false
set_option linter.unusedVariables false
set_option linter.unusedSectionVars false
namespace Go.Proofs.Ytphamdlnnfionaa
open Go Go.RowKit
open Go.ChangeShapes Go.WideShapes Go.ChangeAt Go.RowKit Go.Joins
def BCB (w : World) (c d : Nat) (b : Bool) (e : Ending) (w' : World) : Prop := ∃ x y, e = .returned (.tuple #[.complex .f32 x y, .bool b]) ∧ cn .f32 x = cn .f32 c ∧ cn .f32 y = cn .f32 d ∧ Below w.heap.size w w'
def Clm.cb (c d : Nat) (b : Bool) : Clm := ⟨1, fun _ v => ∃ x y, v = .tuple #[.complex .f32 x y, .bool b] ∧ cn .f32 x = cn .f32 c ∧ cn .f32 y = cn .f32 d, fun _ _ _ => True, fun _ => ⟨_, c, d, rfl, rfl, rfl⟩, fun _ _ _ _ _ _ => trivial, fun h => nomatch h⟩
section
variable {P : Program} {ops : Array Oper} {Q : Exit → Act → World → Prop} {W : World} {l : List Oper} {cs : List Clm} {i : Nat} {ks : List (Nat × (World → Prop))} {a : Act} {o : Oper}
theorem wpC_callCB {c d : Nat} {b : Bool} (hw : Region.wanted o (yielded ops a.tmps) = true) {f : FuncId} {args : Array Value} (h1 : ∀ w, (execOp a.eval o).run P w = .ok (.enter f args) w)
    (hc : ∀ w, Below W.heap.size W w → depK o ks w → Calls P f args w (BCB w c d b))
    (h : ∀ x y, cn .f32 x = cn .f32 c → cn .f32 y = cn .f32 d → wpC P ops Q W l cs (i + 1) ((i, fun _ => True) :: ks) (a.put o.dst (.tuple #[.complex .f32 x y, .bool b]))) : wpC P ops Q W (o :: l) (Clm.cb c d b :: cs) i ks a := by
  refine wpC_call (Clm.cb c d b) rfl hw h1 (fun w hb hk => (hc w hb hk).mono ?_) ?_
  · rintro e w' ⟨x, y, rfl, hx, hy, hbl⟩; exact ⟨_, rfl, hbl, ⟨x, y, rfl, hx, hy⟩, trivial⟩
  · rintro v ⟨x, y, rfl, hx, hy⟩; exact h x y hx hy
end
theorem isFinC_any (x y : Nat) (w : World) : Calls Try.prog 72 #[.complex .f32 x y] w (BV w (.bool (fin .f32 (cn .f32 x) && fin .f32 (cn .f32 y)))) := by
  have A2 := Lib.hid (fun v w hs => areFin2_any x y v w hs)
  go_enter Try.func72, Try.ntmps72
  go_wp2_with (first | (with_reducible refine at_list ?_; refine wpList_fop rfl rfl rfl rfl rfl ?_; intro r n hr0; have hr := hr0 _ _ (by first | with_reducible assumption | exact rfl) (by first | with_reducible assumption | exact rfl); clear hr0) | (with_reducible refine at_list ?_; refine wpList_neg rfl rfl rfl ?_; intro r hr0; have hr := hr0 _ (by first | with_reducible assumption | exact rfl); clear hr0) | (with_reducible refine at_list ?_; refine wpList_fop_g rfl rfl rfl rfl rfl ?_; intro r n hr0; have hr := hr0 _ _ (by first | with_reducible assumption | exact rfl) (by first | with_reducible assumption | exact rfl); clear hr0) | (with_reducible refine at_list ?_; refine wpList_wide_g rfl rfl Try.underlying26 Try.underlying54 rfl ?_; intro r n hr0; have hr := hr0 _ (by first | with_reducible assumption | exact rfl); clear hr0) | (with_reducible refine at_list ?_; refine wpList_wide rfl rfl rfl Try.underlying26 Try.underlying54 ?_; intro r n hr0; have hr := hr0 _ (by first | with_reducible assumption | exact rfl); clear hr0) | (go_at_call 61; refine ((A2.out _ _ (FS2 (by go_simp <;> exact rfl) (by go_simp <;> exact rfl))) ).mono ?_; rintro e w' ⟨rfl, n, rfl⟩))
  go_ret
  exact ⟨rfl, by (repeat (first | (with_reducible exact Below.refl _ _) | (with_reducible assumption) | (with_reducible refine below_then ?_ (by assumption)) | (with_reducible refine Below.trans ?_ (by assumption)) | (with_reducible refine below_drewN ?_ _) | (with_reducible apply Below.drew) | (with_reducible refine below_alloc ?_ _) | refine Below.setCell ?_ (by first | (simp; done) | (simp; omega)) _))⟩
theorem checkedC_any (x y : Nat) (w : World) : Calls Try.prog 53 #[.complex .f32 x y] w (BCB w (if fin .f32 (cn .f32 x) && fin .f32 (cn .f32 y) then cn .f32 x else 0) (if fin .f32 (cn .f32 x) && fin .f32 (cn .f32 y) then cn .f32 y else 0) (fin .f32 (cn .f32 x) && fin .f32 (cn .f32 y))) := by
  rcases h0 : (fin .f32 (cn .f32 x) && fin .f32 (cn .f32 y))
  · have HF := Lib.hid (fun w => (h0 ▸ isFinC_any x y w : Calls Try.prog 72 #[.complex .f32 x y] w (BV w (.bool _))))
    clear h0
    go_enter Try.func53, Try.ntmps53
    go_wp2_with (first | (with_reducible refine at_list ?_; refine wpList_fop rfl rfl rfl rfl rfl ?_; intro r n hr0; have hr := hr0 _ _ (by first | with_reducible assumption | exact rfl) (by first | with_reducible assumption | exact rfl); clear hr0) | (with_reducible refine at_list ?_; refine wpList_neg rfl rfl rfl ?_; intro r hr0; have hr := hr0 _ (by first | with_reducible assumption | exact rfl); clear hr0) | (with_reducible refine at_list ?_; refine wpList_fop_g rfl rfl rfl rfl rfl ?_; intro r n hr0; have hr := hr0 _ _ (by first | with_reducible assumption | exact rfl) (by first | with_reducible assumption | exact rfl); clear hr0) | (with_reducible refine at_list ?_; refine wpList_wide_g rfl rfl Try.underlying26 Try.underlying54 rfl ?_; intro r n hr0; have hr := hr0 _ (by first | with_reducible assumption | exact rfl); clear hr0) | (with_reducible refine at_list ?_; refine wpList_wide rfl rfl rfl Try.underlying26 Try.underlying54 ?_; intro r n hr0; have hr := hr0 _ (by first | with_reducible assumption | exact rfl); clear hr0) | (go_at_call 72; refine ((HF.out _) ).mono ?_; rintro e w' ⟨rfl, hb⟩; obtain ⟨hT, hk⟩ := bv_next hb (by (repeat (with_reducible first | assumption | apply Trk.alloc | apply Trk.setCell | apply Trk.drewN | apply Trk.drew | exact Trk.nil _))); simp only [SameOn, World.size_alloc, World.size_setCell, World.size_drew, size_drewN', and_true] at hk; have hsz := Below.size hb; (try simp only [World.size_alloc, World.size_setCell, World.size_drew, size_drewN'] at hsz)))
    go_ret2
    exact ⟨_, _, rfl, rfl, rfl, by (repeat (first | (with_reducible exact Below.refl _ _) | (with_reducible assumption) | (with_reducible refine below_then ?_ (by assumption)) | (with_reducible refine Below.trans ?_ (by assumption)) | (with_reducible refine below_drewN ?_ _) | (with_reducible apply Below.drew) | (with_reducible refine below_alloc ?_ _) | refine Below.setCell ?_ (by first | (simp; done) | (simp; omega)) _))⟩
  · have HF := Lib.hid (fun w => (h0 ▸ isFinC_any x y w : Calls Try.prog 72 #[.complex .f32 x y] w (BV w (.bool _))))
    clear h0
    go_enter Try.func53, Try.ntmps53
    go_wp2_with (first | (with_reducible refine at_list ?_; refine wpList_fop rfl rfl rfl rfl rfl ?_; intro r n hr0; have hr := hr0 _ _ (by first | with_reducible assumption | exact rfl) (by first | with_reducible assumption | exact rfl); clear hr0) | (with_reducible refine at_list ?_; refine wpList_neg rfl rfl rfl ?_; intro r hr0; have hr := hr0 _ (by first | with_reducible assumption | exact rfl); clear hr0) | (with_reducible refine at_list ?_; refine wpList_fop_g rfl rfl rfl rfl rfl ?_; intro r n hr0; have hr := hr0 _ _ (by first | with_reducible assumption | exact rfl) (by first | with_reducible assumption | exact rfl); clear hr0) | (with_reducible refine at_list ?_; refine wpList_wide_g rfl rfl Try.underlying26 Try.underlying54 rfl ?_; intro r n hr0; have hr := hr0 _ (by first | with_reducible assumption | exact rfl); clear hr0) | (with_reducible refine at_list ?_; refine wpList_wide rfl rfl rfl Try.underlying26 Try.underlying54 ?_; intro r n hr0; have hr := hr0 _ (by first | with_reducible assumption | exact rfl); clear hr0) | (go_at_call 72; refine ((HF.out _) ).mono ?_; rintro e w' ⟨rfl, hb⟩; obtain ⟨hT, hk⟩ := bv_next hb (by (repeat (with_reducible first | assumption | apply Trk.alloc | apply Trk.setCell | apply Trk.drewN | apply Trk.drew | exact Trk.nil _))); simp only [SameOn, World.size_alloc, World.size_setCell, World.size_drew, size_drewN', and_true] at hk; have hsz := Below.size hb; (try simp only [World.size_alloc, World.size_setCell, World.size_drew, size_drewN'] at hsz)))
    go_ret2
    exact ⟨_, _, rfl, (cn_cn _ _).symm, (cn_cn _ _).symm, by (repeat (first | (with_reducible exact Below.refl _ _) | (with_reducible assumption) | (with_reducible refine below_then ?_ (by assumption)) | (with_reducible refine Below.trans ?_ (by assumption)) | (with_reducible refine below_drewN ?_ _) | (with_reducible apply Below.drew) | (with_reducible refine below_alloc ?_ _) | refine Below.setCell ?_ (by first | (simp; done) | (simp; omega)) _))⟩
end Go.Proofs.Ytphamdlnnfionaa
set_option linter.unusedSimpArgs false
set_option linter.unusedVariables false
set_option linter.unusedSectionVars false
namespace Go.Proofs.Ytphamdlnnfionaa
open Go Go.RowKit
open Go.ChangeShapes Go.WideShapes Go.ChangeAt Go.RowKit Go.Joins
def fxX (P : Pl) (i : Int) : Nat := slopeV P i (nb P.W P.H i (-1) (-0)) (nb P.W P.H i 1 0)
def fxY (P : Pl) (i : Int) : Nat := slopeV P i (nb P.W P.H i (-0) (-1)) (nb P.W P.H i 0 1)
def fxB (P : Pl) (i : Int) : Bool := (P.ok && P.cell i) && (fin .f32 (fxX P i) && fin .f32 (fxY P i))
def fxC (P : Pl) (i : Int) (c : Nat) : Nat := if fxB P i then c else 0
theorem fxB_no {P : Pl} {i : Int} (h : (P.ok && P.cell i) = false) : fxB P i = false := by unfold fxB; rw [h]; rfl
theorem fxB_yes {P : Pl} {i : Int} (h : (P.ok && P.cell i) = true) : fxB P i = (fin .f32 (fxX P i) && fin .f32 (fxY P i)) := by unfold fxB; rw [h]; rfl
set_option maxHeartbeats 4000000 in
theorem implFluxAt_any (P : Pl) (l : Lay) (i : Int) (w : World) (hs : P.fs w l) : Calls Try.prog 25 #[.agg #[.int .i64 P.W, .int .i64 P.H, .slice l.p1 P.a.length l.c1, .slice l.p2 P.b.length l.c2, .slice l.p3 P.c.length l.c3, .slice l.p4 P.d.length l.c4], .int .i64 i] w (BCB w (fxC P i (fxX P i)) (fxC P i (fxY P i)) (fxB P i)) := by
  have HS := Lib.hid hs
  have HV := Lib.hid (fun w h => implValidPlate_any P l w h)
  unfold fxC
  rcases h0 : P.ok
  · have HE : Hid (fxB P i = false) := fxB_no (by rw [h0]; rfl)
    rw [HE.out]
    rw [h0] at HV
    clear hs
    go_enter Try.func25, Try.ntmps25
    go_wp2_with (first | (with_reducible refine at_list ?_; refine wpList_fop rfl rfl rfl rfl rfl ?_; intro r n hr0; have hr := hr0 _ _ (by first | with_reducible assumption | exact rfl) (by first | with_reducible assumption | exact rfl); clear hr0) | (with_reducible refine at_list ?_; refine wpList_neg rfl rfl rfl ?_; intro r hr0; have hr := hr0 _ (by first | with_reducible assumption | exact rfl); clear hr0) | (with_reducible refine at_list ?_; refine wpList_fop_g rfl rfl rfl rfl rfl ?_; intro r n hr0; have hr := hr0 _ _ (by first | with_reducible assumption | exact rfl) (by first | with_reducible assumption | exact rfl); clear hr0) | (with_reducible refine at_list ?_; refine wpList_wide_g rfl rfl Try.underlying26 Try.underlying54 rfl ?_; intro r n hr0; have hr := hr0 _ (by first | with_reducible assumption | exact rfl); clear hr0) | (with_reducible refine at_list ?_; refine wpList_wide rfl rfl rfl Try.underlying26 Try.underlying54 ?_; intro r n hr0; have hr := hr0 _ (by first | with_reducible assumption | exact rfl); clear hr0) | (go_at_call 36; refine ((HV.out _ (HS.out.later (by (repeat (first | (with_reducible exact Below.refl _ _) | (with_reducible assumption) | (with_reducible refine below_then ?_ (by assumption)) | (with_reducible refine Below.trans ?_ (by assumption)) | (with_reducible refine below_drewN ?_ _) | (with_reducible apply Below.drew) | (with_reducible refine below_alloc ?_ _) | refine Below.setCell ?_ (by first | (simp; done) | (simp; omega)) _))))) ).mono ?_; rintro e w' ⟨rfl, hb⟩; obtain ⟨hT, hk⟩ := bv_next hb (by (repeat (with_reducible first | assumption | apply Trk.alloc | apply Trk.setCell | apply Trk.drewN | apply Trk.drew | exact Trk.nil _))); simp only [SameOn, World.size_alloc, World.size_setCell, World.size_drew, size_drewN', and_true] at hk; have hsz := Below.size hb; (try simp only [World.size_alloc, World.size_setCell, World.size_drew, size_drewN'] at hsz)) | (go_at_call 47; refine (isCell_any _ _ _ _ (by assumption)).mono ?_; rintro e w' ⟨rfl, hb⟩; obtain ⟨hT, hk⟩ := bv_next hb (by (repeat (with_reducible first | assumption | apply Trk.alloc | apply Trk.setCell | apply Trk.drewN | apply Trk.drew | exact Trk.nil _))); simp only [SameOn, World.size_alloc, World.size_setCell, World.size_drew, size_drewN', and_true] at hk; have hsz := Below.size hb; (try simp only [World.size_alloc, World.size_setCell, World.size_drew, size_drewN'] at hsz)) | (go_at_call 54; refine (fluxAlong_any _ _ _ _ _ _ (by assumption) (by assumption) (by omega) (by omega) (by omega)).mono ?_; rintro e w' ⟨r, rfl, hr, hb⟩; obtain ⟨hT, hk⟩ := bv_next hb (by (repeat (with_reducible first | assumption | apply Trk.alloc | apply Trk.setCell | apply Trk.drewN | apply Trk.drew | exact Trk.nil _))); simp only [SameOn, World.size_alloc, World.size_setCell, World.size_drew, size_drewN', and_true] at hk; have hsz := Below.size hb; (try simp only [World.size_alloc, World.size_setCell, World.size_drew, size_drewN'] at hsz)) | (go_at_call 53; refine (checkedC_any _ _ _).mono ?_; rintro e w' ⟨x, y, rfl, hcx, hcy, hb⟩; obtain ⟨hT, hk⟩ := bv_next hb (by (repeat (with_reducible first | assumption | apply Trk.alloc | apply Trk.setCell | apply Trk.drewN | apply Trk.drew | exact Trk.nil _))); simp only [SameOn, World.size_alloc, World.size_setCell, World.size_drew, size_drewN', and_true] at hk; have hsz := Below.size hb; (try simp only [World.size_alloc, World.size_setCell, World.size_drew, size_drewN'] at hsz)))
    all_goals
      go_ret2
      exact ⟨_, _, rfl, rfl, rfl, by (repeat (first | (with_reducible exact Below.refl _ _) | (with_reducible assumption) | (with_reducible refine below_then ?_ (by assumption)) | (with_reducible refine Below.trans ?_ (by assumption)) | (with_reducible refine below_drewN ?_ _) | (with_reducible apply Below.drew) | (with_reducible refine below_alloc ?_ _) | refine Below.setCell ?_ (by first | (simp; done) | (simp; omega)) _))⟩
  rw [h0] at HV
  rcases h1 : P.cell i
  · have HE : Hid (fxB P i = false) := fxB_no (by rw [h1]; simp)
    rw [HE.out]
    clear hs
    go_enter Try.func25, Try.ntmps25
    go_wp2_with (first | (with_reducible refine at_list ?_; refine wpList_fop rfl rfl rfl rfl rfl ?_; intro r n hr0; have hr := hr0 _ _ (by first | with_reducible assumption | exact rfl) (by first | with_reducible assumption | exact rfl); clear hr0) | (with_reducible refine at_list ?_; refine wpList_neg rfl rfl rfl ?_; intro r hr0; have hr := hr0 _ (by first | with_reducible assumption | exact rfl); clear hr0) | (with_reducible refine at_list ?_; refine wpList_fop_g rfl rfl rfl rfl rfl ?_; intro r n hr0; have hr := hr0 _ _ (by first | with_reducible assumption | exact rfl) (by first | with_reducible assumption | exact rfl); clear hr0) | (with_reducible refine at_list ?_; refine wpList_wide_g rfl rfl Try.underlying26 Try.underlying54 rfl ?_; intro r n hr0; have hr := hr0 _ (by first | with_reducible assumption | exact rfl); clear hr0) | (with_reducible refine at_list ?_; refine wpList_wide rfl rfl rfl Try.underlying26 Try.underlying54 ?_; intro r n hr0; have hr := hr0 _ (by first | with_reducible assumption | exact rfl); clear hr0) | (go_at_call 36; refine ((HV.out _ (HS.out.later (by (repeat (first | (with_reducible exact Below.refl _ _) | (with_reducible assumption) | (with_reducible refine below_then ?_ (by assumption)) | (with_reducible refine Below.trans ?_ (by assumption)) | (with_reducible refine below_drewN ?_ _) | (with_reducible apply Below.drew) | (with_reducible refine below_alloc ?_ _) | refine Below.setCell ?_ (by first | (simp; done) | (simp; omega)) _))))) ).mono ?_; rintro e w' ⟨rfl, hb⟩; obtain ⟨hT, hk⟩ := bv_next hb (by (repeat (with_reducible first | assumption | apply Trk.alloc | apply Trk.setCell | apply Trk.drewN | apply Trk.drew | exact Trk.nil _))); simp only [SameOn, World.size_alloc, World.size_setCell, World.size_drew, size_drewN', and_true] at hk; have hsz := Below.size hb; (try simp only [World.size_alloc, World.size_setCell, World.size_drew, size_drewN'] at hsz)) | (go_at_call 47; refine (isCell_any _ _ _ _ (by assumption)).mono ?_; rintro e w' ⟨rfl, hb⟩; obtain ⟨hT, hk⟩ := bv_next hb (by (repeat (with_reducible first | assumption | apply Trk.alloc | apply Trk.setCell | apply Trk.drewN | apply Trk.drew | exact Trk.nil _))); simp only [SameOn, World.size_alloc, World.size_setCell, World.size_drew, size_drewN', and_true] at hk; have hsz := Below.size hb; (try simp only [World.size_alloc, World.size_setCell, World.size_drew, size_drewN'] at hsz)) | (go_at_call 54; refine (fluxAlong_any _ _ _ _ _ _ (by assumption) (by assumption) (by omega) (by omega) (by omega)).mono ?_; rintro e w' ⟨r, rfl, hr, hb⟩; obtain ⟨hT, hk⟩ := bv_next hb (by (repeat (with_reducible first | assumption | apply Trk.alloc | apply Trk.setCell | apply Trk.drewN | apply Trk.drew | exact Trk.nil _))); simp only [SameOn, World.size_alloc, World.size_setCell, World.size_drew, size_drewN', and_true] at hk; have hsz := Below.size hb; (try simp only [World.size_alloc, World.size_setCell, World.size_drew, size_drewN'] at hsz)) | (go_at_call 53; refine (checkedC_any _ _ _).mono ?_; rintro e w' ⟨x, y, rfl, hcx, hcy, hb⟩; obtain ⟨hT, hk⟩ := bv_next hb (by (repeat (with_reducible first | assumption | apply Trk.alloc | apply Trk.setCell | apply Trk.drewN | apply Trk.drew | exact Trk.nil _))); simp only [SameOn, World.size_alloc, World.size_setCell, World.size_drew, size_drewN', and_true] at hk; have hsz := Below.size hb; (try simp only [World.size_alloc, World.size_setCell, World.size_drew, size_drewN'] at hsz)))
    all_goals
      go_ret2
      exact ⟨_, _, rfl, rfl, rfl, by (repeat (first | (with_reducible exact Below.refl _ _) | (with_reducible assumption) | (with_reducible refine below_then ?_ (by assumption)) | (with_reducible refine Below.trans ?_ (by assumption)) | (with_reducible refine below_drewN ?_ _) | (with_reducible apply Below.drew) | (with_reducible refine below_alloc ?_ _) | refine Below.setCell ?_ (by first | (simp; done) | (simp; omega)) _))⟩
  have hi := Pl.cell_iff h1
  have HA : Hid (∀ dx dy w', Below w.heap.size w w' → (-1 ≤ dx ∧ dx ≤ 1) → (-1 ≤ dy ∧ dy ≤ 1) → Calls Try.prog 54 #[.agg #[.int .i64 P.W, .int .i64 P.H, .slice l.p1 P.a.length l.c1, .slice l.p2 P.b.length l.c2, .slice l.p3 P.c.length l.c3, .slice l.p4 P.d.length l.c4], .int .i64 i, .int .i64 dx, .int .i64 dy] w' (BF w' .f32 (slopeV P i (nb P.W P.H i (-dx) (-dy)) (nb P.W P.H i dx dy)))) := fun dx dy w' h hx hy => fluxAlong_any P l i dx dy w' (HS.out.later h) h0 hi hx hy
  have HE : Hid (fxB P i = (fin .f32 (slopeV P i (nb P.W P.H i (-1) (-0)) (nb P.W P.H i 1 0)) && fin .f32 (slopeV P i (nb P.W P.H i (-0) (-1)) (nb P.W P.H i 0 1)))) := fxB_yes (by rw [h0, h1]; rfl)
  have HX : Hid (fxX P i = (slopeV P i (nb P.W P.H i (-1) (-0)) (nb P.W P.H i 1 0))) := rfl
  have HY : Hid (fxY P i = (slopeV P i (nb P.W P.H i (-0) (-1)) (nb P.W P.H i 0 1))) := rfl
  rw [HE.out, HX.out, HY.out]
  clear hs
  rcases h2 : fin .f32 (slopeV P i (nb P.W P.H i (-1) (-0)) (nb P.W P.H i 1 0)) <;> rcases h3 : fin .f32 (slopeV P i (nb P.W P.H i (-0) (-1)) (nb P.W P.H i 0 1))
  all_goals
    go_enter Try.func25, Try.ntmps25
    go_wp2_with (first | (with_reducible refine at_list ?_; refine wpList_fop rfl rfl rfl rfl rfl ?_; intro r n hr0; have hr := hr0 _ _ (by first | with_reducible assumption | exact rfl) (by first | with_reducible assumption | exact rfl); clear hr0) | (with_reducible refine at_list ?_; refine wpList_neg rfl rfl rfl ?_; intro r hr0; have hr := hr0 _ (by first | with_reducible assumption | exact rfl); clear hr0) | (with_reducible refine at_list ?_; refine wpList_fop_g rfl rfl rfl rfl rfl ?_; intro r n hr0; have hr := hr0 _ _ (by first | with_reducible assumption | exact rfl) (by first | with_reducible assumption | exact rfl); clear hr0) | (with_reducible refine at_list ?_; refine wpList_wide_g rfl rfl Try.underlying26 Try.underlying54 rfl ?_; intro r n hr0; have hr := hr0 _ (by first | with_reducible assumption | exact rfl); clear hr0) | (with_reducible refine at_list ?_; refine wpList_wide rfl rfl rfl Try.underlying26 Try.underlying54 ?_; intro r n hr0; have hr := hr0 _ (by first | with_reducible assumption | exact rfl); clear hr0) | (go_at_call 36; refine ((HV.out _ (HS.out.later (by (repeat (first | (with_reducible exact Below.refl _ _) | (with_reducible assumption) | (with_reducible refine below_then ?_ (by assumption)) | (with_reducible refine Below.trans ?_ (by assumption)) | (with_reducible refine below_drewN ?_ _) | (with_reducible apply Below.drew) | (with_reducible refine below_alloc ?_ _) | refine Below.setCell ?_ (by first | (simp; done) | (simp; omega)) _))))) ).mono ?_; rintro e w' ⟨rfl, hb⟩; obtain ⟨hT, hk⟩ := bv_next hb (by (repeat (with_reducible first | assumption | apply Trk.alloc | apply Trk.setCell | apply Trk.drewN | apply Trk.drew | exact Trk.nil _))); simp only [SameOn, World.size_alloc, World.size_setCell, World.size_drew, size_drewN', and_true] at hk; have hsz := Below.size hb; (try simp only [World.size_alloc, World.size_setCell, World.size_drew, size_drewN'] at hsz)) | (go_at_call 47; refine (isCell_any _ _ _ _ (by assumption)).mono ?_; rintro e w' ⟨rfl, hb⟩; obtain ⟨hT, hk⟩ := bv_next hb (by (repeat (with_reducible first | assumption | apply Trk.alloc | apply Trk.setCell | apply Trk.drewN | apply Trk.drew | exact Trk.nil _))); simp only [SameOn, World.size_alloc, World.size_setCell, World.size_drew, size_drewN', and_true] at hk; have hsz := Below.size hb; (try simp only [World.size_alloc, World.size_setCell, World.size_drew, size_drewN'] at hsz)) | (go_at_call 54; refine (fluxAlong_any _ _ _ _ _ _ (by assumption) (by assumption) (by omega) (by omega) (by omega)).mono ?_; rintro e w' ⟨r, rfl, hr, hb⟩; obtain ⟨hT, hk⟩ := bv_next hb (by (repeat (with_reducible first | assumption | apply Trk.alloc | apply Trk.setCell | apply Trk.drewN | apply Trk.drew | exact Trk.nil _))); simp only [SameOn, World.size_alloc, World.size_setCell, World.size_drew, size_drewN', and_true] at hk; have hsz := Below.size hb; (try simp only [World.size_alloc, World.size_setCell, World.size_drew, size_drewN'] at hsz)) | (go_at_call 53; refine (checkedC_any _ _ _).mono ?_; rintro e w' ⟨x, y, rfl, hcx, hcy, hb⟩; obtain ⟨hT, hk⟩ := bv_next hb (by (repeat (with_reducible first | assumption | apply Trk.alloc | apply Trk.setCell | apply Trk.drewN | apply Trk.drew | exact Trk.nil _))); simp only [SameOn, World.size_alloc, World.size_setCell, World.size_drew, size_drewN', and_true] at hk; have hsz := Below.size hb; (try simp only [World.size_alloc, World.size_setCell, World.size_drew, size_drewN'] at hsz)))
    (apply wp_region_plan; ((apply wpC_val; (case hw => exact rfl); (case h1 => (intro w' hb hk0; obtain ⟨hT, hk⟩ := bv_next hb (by (repeat (with_reducible first | assumption | apply Trk.alloc | apply Trk.setCell | apply Trk.drewN | apply Trk.drew | exact Trk.nil _))); simp only [SameOn, World.size_alloc, World.size_setCell, World.size_drew, size_drewN', and_true] at hk; have hsz := Below.size hb; (try simp only [World.size_alloc, World.size_setCell, World.size_drew, size_drewN'] at hsz); go_simp <;> exact rfl))); apply wpC_norm; (case ha => (simp only [Act.put, List.setIfInBounds_toArray, List.set_cons_zero, List.set_cons_succ]; exact rfl))); ((apply wpC_det; (case hw => exact rfl); (case hs => (intro cs b h; cases h)); (case h1 => (intro w'; go_simp <;> exact rfl))); apply wpC_norm; (case ha => (simp only [Act.put, List.setIfInBounds_toArray, List.set_cons_zero, List.set_cons_succ]; exact rfl))); ((apply wpC_callF _ _; ((case hw => exact rfl)); (case h1 => (intro w'; go_simp; exact ⟨rfl, rfl⟩)); (case hc => (intro w' hb hk0; obtain ⟨hT, hk⟩ := bv_next hb (by (repeat (with_reducible first | assumption | apply Trk.alloc | apply Trk.setCell | apply Trk.drewN | apply Trk.drew | exact Trk.nil _))); simp only [SameOn, World.size_alloc, World.size_setCell, World.size_drew, size_drewN', and_true] at hk; have hsz := Below.size hb; (try simp only [World.size_alloc, World.size_setCell, World.size_drew, size_drewN'] at hsz); refine ((HA.out _ _ _ (by (repeat (first | (with_reducible exact Below.refl _ _) | (with_reducible assumption) | (with_reducible refine below_then ?_ (by assumption)) | (with_reducible refine Below.trans ?_ (by assumption)) | (with_reducible refine below_drewN ?_ _) | (with_reducible apply Below.drew) | (with_reducible refine below_alloc ?_ _) | refine Below.setCell ?_ (by first | (simp; done) | (simp; omega)) _))) (by omega) (by omega)) ).mono ?_; intro e2 w3 h; (try simp only [*] at h); exact h)); (case hcc => (first | (with_reducible first | assumption | exact cn_fop _ _ _ _ | exact cn_cn _ _ | exact cn_wide _ | exact cn_narrow _ | exact cn_accC .. | exact cn_heatC .. | exact cn_half .. | exact cn_bet .. | exact cn_end .. | exact cn_erV .. | exact cn_exV .. | exact cn_slopeV .. | exact cn_rootC .. | exact cn_stF .. | exact cn_warmC .. | exact cn_partC .. | exact cn_easeC .. | exact cn_growC .. | exact cn_mostV .. | exact cn_passV .. | exact cn_flowL .. | exact cn_flowV .. | exact cn_fV .. | exact cn_heldA .. | exact cn_gainA .. | exact cn_meanV .. | exact cn_sqC ..) | (refine cn_chk ?_; (with_reducible first | assumption | exact cn_fop _ _ _ _ | exact cn_cn _ _ | exact cn_wide _ | exact cn_narrow _ | exact cn_accC .. | exact cn_heatC .. | exact cn_half .. | exact cn_bet .. | exact cn_end .. | exact cn_erV .. | exact cn_exV .. | exact cn_slopeV .. | exact cn_rootC .. | exact cn_stF .. | exact cn_warmC .. | exact cn_partC .. | exact cn_easeC .. | exact cn_growC .. | exact cn_mostV .. | exact cn_passV .. | exact cn_flowL .. | exact cn_flowV .. | exact cn_fV .. | exact cn_heldA .. | exact cn_gainA .. | exact cn_meanV .. | exact cn_sqC ..)) | (refine cn_gF ?_; (with_reducible first | assumption | exact cn_fop _ _ _ _ | exact cn_cn _ _ | exact cn_wide _ | exact cn_narrow _ | exact cn_accC .. | exact cn_heatC .. | exact cn_half .. | exact cn_bet .. | exact cn_end .. | exact cn_erV .. | exact cn_exV .. | exact cn_slopeV .. | exact cn_rootC .. | exact cn_stF .. | exact cn_warmC .. | exact cn_partC .. | exact cn_easeC .. | exact cn_growC .. | exact cn_mostV .. | exact cn_passV .. | exact cn_flowL .. | exact cn_flowV .. | exact cn_fV .. | exact cn_heldA .. | exact cn_gainA .. | exact cn_meanV .. | exact cn_sqC ..)))); intro r hr); apply wpC_norm; (case ha => (simp only [Act.put, List.setIfInBounds_toArray, List.set_cons_zero, List.set_cons_succ]; exact rfl))); ((apply wpC_val; (case hw => exact rfl); (case h1 => (intro w' hb hk0; obtain ⟨hT, hk⟩ := bv_next hb (by (repeat (with_reducible first | assumption | apply Trk.alloc | apply Trk.setCell | apply Trk.drewN | apply Trk.drew | exact Trk.nil _))); simp only [SameOn, World.size_alloc, World.size_setCell, World.size_drew, size_drewN', and_true] at hk; have hsz := Below.size hb; (try simp only [World.size_alloc, World.size_setCell, World.size_drew, size_drewN'] at hsz); go_simp <;> exact rfl))); apply wpC_norm; (case ha => (simp only [Act.put, List.setIfInBounds_toArray, List.set_cons_zero, List.set_cons_succ]; exact rfl))); ((apply wpC_det; (case hw => exact rfl); (case hs => (intro cs b h; cases h)); (case h1 => (intro w'; go_simp <;> exact rfl))); apply wpC_norm; (case ha => (simp only [Act.put, List.setIfInBounds_toArray, List.set_cons_zero, List.set_cons_succ]; exact rfl))); ((apply wpC_callF _ _; ((case hw => exact rfl)); (case h1 => (intro w'; go_simp; exact ⟨rfl, rfl⟩)); (case hc => (intro w' hb hk0; obtain ⟨hT, hk⟩ := bv_next hb (by (repeat (with_reducible first | assumption | apply Trk.alloc | apply Trk.setCell | apply Trk.drewN | apply Trk.drew | exact Trk.nil _))); simp only [SameOn, World.size_alloc, World.size_setCell, World.size_drew, size_drewN', and_true] at hk; have hsz := Below.size hb; (try simp only [World.size_alloc, World.size_setCell, World.size_drew, size_drewN'] at hsz); refine ((HA.out _ _ _ (by (repeat (first | (with_reducible exact Below.refl _ _) | (with_reducible assumption) | (with_reducible refine below_then ?_ (by assumption)) | (with_reducible refine Below.trans ?_ (by assumption)) | (with_reducible refine below_drewN ?_ _) | (with_reducible apply Below.drew) | (with_reducible refine below_alloc ?_ _) | refine Below.setCell ?_ (by first | (simp; done) | (simp; omega)) _))) (by omega) (by omega)) ).mono ?_; intro e2 w3 h; (try simp only [*] at h); exact h)); (case hcc => (first | (with_reducible first | assumption | exact cn_fop _ _ _ _ | exact cn_cn _ _ | exact cn_wide _ | exact cn_narrow _ | exact cn_accC .. | exact cn_heatC .. | exact cn_half .. | exact cn_bet .. | exact cn_end .. | exact cn_erV .. | exact cn_exV .. | exact cn_slopeV .. | exact cn_rootC .. | exact cn_stF .. | exact cn_warmC .. | exact cn_partC .. | exact cn_easeC .. | exact cn_growC .. | exact cn_mostV .. | exact cn_passV .. | exact cn_flowL .. | exact cn_flowV .. | exact cn_fV .. | exact cn_heldA .. | exact cn_gainA .. | exact cn_meanV .. | exact cn_sqC ..) | (refine cn_chk ?_; (with_reducible first | assumption | exact cn_fop _ _ _ _ | exact cn_cn _ _ | exact cn_wide _ | exact cn_narrow _ | exact cn_accC .. | exact cn_heatC .. | exact cn_half .. | exact cn_bet .. | exact cn_end .. | exact cn_erV .. | exact cn_exV .. | exact cn_slopeV .. | exact cn_rootC .. | exact cn_stF .. | exact cn_warmC .. | exact cn_partC .. | exact cn_easeC .. | exact cn_growC .. | exact cn_mostV .. | exact cn_passV .. | exact cn_flowL .. | exact cn_flowV .. | exact cn_fV .. | exact cn_heldA .. | exact cn_gainA .. | exact cn_meanV .. | exact cn_sqC ..)) | (refine cn_gF ?_; (with_reducible first | assumption | exact cn_fop _ _ _ _ | exact cn_cn _ _ | exact cn_wide _ | exact cn_narrow _ | exact cn_accC .. | exact cn_heatC .. | exact cn_half .. | exact cn_bet .. | exact cn_end .. | exact cn_erV .. | exact cn_exV .. | exact cn_slopeV .. | exact cn_rootC .. | exact cn_stF .. | exact cn_warmC .. | exact cn_partC .. | exact cn_easeC .. | exact cn_growC .. | exact cn_mostV .. | exact cn_passV .. | exact cn_flowL .. | exact cn_flowV .. | exact cn_fV .. | exact cn_heldA .. | exact cn_gainA .. | exact cn_meanV .. | exact cn_sqC ..)))); intro r hr); apply wpC_norm; (case ha => (simp only [Act.put, List.setIfInBounds_toArray, List.set_cons_zero, List.set_cons_succ]; exact rfl))); ((apply wpC_det; (case hw => exact rfl); (case hs => (intro cs b h; cases h)); (case h1 => (intro w'; go_simp <;> exact rfl))); apply wpC_norm; (case ha => (simp only [Act.put, List.setIfInBounds_toArray, List.set_cons_zero, List.set_cons_succ]; exact rfl))); ((apply wpC_callCB; (case hw => exact rfl); (case h1 => (intro w'; go_simp; exact ⟨rfl, rfl⟩)); (case hc => (intro w' hb hk0; obtain ⟨hT, hk⟩ := bv_next hb (by (repeat (with_reducible first | assumption | apply Trk.alloc | apply Trk.setCell | apply Trk.drewN | apply Trk.drew | exact Trk.nil _))); simp only [SameOn, World.size_alloc, World.size_setCell, World.size_drew, size_drewN', and_true] at hk; have hsz := Below.size hb; (try simp only [World.size_alloc, World.size_setCell, World.size_drew, size_drewN'] at hsz); refine (checkedC_any _ _ _).mono ?_; intro e2 w3 h; (try simp only [*] at h); exact h)); intro x y hcx hcy); apply wpC_norm; (case ha => (simp only [Act.put, List.setIfInBounds_toArray, List.set_cons_zero, List.set_cons_succ]; exact rfl))); ((apply wpC_det; (case hw => exact rfl); (case hs => (intro cs b h; cases h)); (case h1 => (intro w'; go_simp <;> exact rfl))); apply wpC_norm; (case ha => (simp only [Act.put, List.setIfInBounds_toArray, List.set_cons_zero, List.set_cons_succ]; exact rfl))); ((apply wpC_det; (case hw => exact rfl); (case hs => (intro cs b h; cases h)); (case h1 => (intro w'; go_simp <;> exact rfl))); apply wpC_norm; (case ha => (simp only [Act.put, List.setIfInBounds_toArray, List.set_cons_zero, List.set_cons_succ]; exact rfl))); ((apply wpC_det; (case hw => exact rfl); (case hs => (intro cs b h; cases h)); (case h1 => (intro w'; go_simp <;> exact rfl))); apply wpC_norm; (case ha => (simp only [Act.put, List.setIfInBounds_toArray, List.set_cons_zero, List.set_cons_succ]; exact rfl))); ((apply wpC_det; (case hw => exact rfl); (case hs => (intro cs b h; cases h)); (case h1 => (intro w'; go_simp <;> exact rfl))); apply wpC_norm; (case ha => (simp only [Act.put, List.setIfInBounds_toArray, List.set_cons_zero, List.set_cons_succ]; exact rfl))); refine wpC_nil ?_; intro w' hb hkk; obtain ⟨hT, hk⟩ := bv_next hb (by (repeat (with_reducible first | assumption | apply Trk.alloc | apply Trk.setCell | apply Trk.drewN | apply Trk.drew | exact Trk.nil _))); simp only [SameOn, World.size_alloc, World.size_setCell, World.size_drew, size_drewN', and_true] at hk; have hsz := Below.size hb; (try simp only [World.size_alloc, World.size_setCell, World.size_drew, size_drewN'] at hsz))
    rotate_left
    all_goals (try (first | kernel_rfl | rfl))
    go_wp2_with (first | (with_reducible refine at_list ?_; refine wpList_fop rfl rfl rfl rfl rfl ?_; intro r n hr0; have hr := hr0 _ _ (by first | with_reducible assumption | exact rfl) (by first | with_reducible assumption | exact rfl); clear hr0) | (with_reducible refine at_list ?_; refine wpList_neg rfl rfl rfl ?_; intro r hr0; have hr := hr0 _ (by first | with_reducible assumption | exact rfl); clear hr0) | (with_reducible refine at_list ?_; refine wpList_fop_g rfl rfl rfl rfl rfl ?_; intro r n hr0; have hr := hr0 _ _ (by first | with_reducible assumption | exact rfl) (by first | with_reducible assumption | exact rfl); clear hr0) | (with_reducible refine at_list ?_; refine wpList_wide_g rfl rfl Try.underlying26 Try.underlying54 rfl ?_; intro r n hr0; have hr := hr0 _ (by first | with_reducible assumption | exact rfl); clear hr0) | (with_reducible refine at_list ?_; refine wpList_wide rfl rfl rfl Try.underlying26 Try.underlying54 ?_; intro r n hr0; have hr := hr0 _ (by first | with_reducible assumption | exact rfl); clear hr0) | (go_at_call 36; refine (implValidPlate_any _ _ _ (by assumption)).mono ?_; rintro e w' ⟨rfl, hb⟩; obtain ⟨hT, hk⟩ := bv_next hb (by (repeat (with_reducible first | assumption | apply Trk.alloc | apply Trk.setCell | apply Trk.drewN | apply Trk.drew | exact Trk.nil _))); simp only [SameOn, World.size_alloc, World.size_setCell, World.size_drew, size_drewN', and_true] at hk; have hsz := Below.size hb; (try simp only [World.size_alloc, World.size_setCell, World.size_drew, size_drewN'] at hsz)) | (go_at_call 47; refine (isCell_any _ _ _ _ (by assumption)).mono ?_; rintro e w' ⟨rfl, hb⟩; obtain ⟨hT, hk⟩ := bv_next hb (by (repeat (with_reducible first | assumption | apply Trk.alloc | apply Trk.setCell | apply Trk.drewN | apply Trk.drew | exact Trk.nil _))); simp only [SameOn, World.size_alloc, World.size_setCell, World.size_drew, size_drewN', and_true] at hk; have hsz := Below.size hb; (try simp only [World.size_alloc, World.size_setCell, World.size_drew, size_drewN'] at hsz)) | (go_at_call 54; refine (fluxAlong_any _ _ _ _ _ _ (by assumption) (by assumption) (by omega) (by omega) (by omega)).mono ?_; rintro e w' ⟨r, rfl, hr, hb⟩; obtain ⟨hT, hk⟩ := bv_next hb (by (repeat (with_reducible first | assumption | apply Trk.alloc | apply Trk.setCell | apply Trk.drewN | apply Trk.drew | exact Trk.nil _))); simp only [SameOn, World.size_alloc, World.size_setCell, World.size_drew, size_drewN', and_true] at hk; have hsz := Below.size hb; (try simp only [World.size_alloc, World.size_setCell, World.size_drew, size_drewN'] at hsz)) | (go_at_call 53; refine (checkedC_any _ _ _).mono ?_; rintro e w' ⟨x, y, rfl, hcx, hcy, hb⟩; obtain ⟨hT, hk⟩ := bv_next hb (by (repeat (with_reducible first | assumption | apply Trk.alloc | apply Trk.setCell | apply Trk.drewN | apply Trk.drew | exact Trk.nil _))); simp only [SameOn, World.size_alloc, World.size_setCell, World.size_drew, size_drewN', and_true] at hk; have hsz := Below.size hb; (try simp only [World.size_alloc, World.size_setCell, World.size_drew, size_drewN'] at hsz)))
    go_ret2
    exact ⟨_, _, rfl, by first | exact hcx | (rw [hcx]; simp only [*, cn_cn]; done) | (rw [hcx]; simp only [*, cn_cn]; rfl), by first | exact hcy | (rw [hcy]; simp only [*, cn_cn]; done) | (rw [hcy]; simp only [*, cn_cn]; rfl), by (repeat (first | (with_reducible exact Below.refl _ _) | (with_reducible assumption) | (with_reducible refine below_then ?_ (by assumption)) | (with_reducible refine Below.trans ?_ (by assumption)) | (with_reducible refine below_drewN ?_ _) | (with_reducible apply Below.drew) | (with_reducible refine below_alloc ?_ _) | refine Below.setCell ?_ (by first | (simp; done) | (simp; omega)) _))⟩
end Go.Proofs.Ytphamdlnnfionaa
set_option linter.unusedSimpArgs false
set_option linter.unusedVariables false
set_option linter.unusedSectionVars false
namespace Go.Proofs.Ytphamdlnnfionaa
open Go Go.RowKit
open Go.ChangeShapes Go.WideShapes Go.ChangeAt Go.RowKit Go.Joins
theorem OI.nil0 (B : Nat) (w : World) : OI B w (.slice .none 0 0) [] := World.ownsRow_nil _ _ _ _
theorem OI.empty {B n : Nat} (w : World) (t : TypeId) (hn : n = w.heap.size) (hB : B ≤ w.heap.size) (ht : t = 2) : OI B (w.alloc (.cells #[] t)) (.slice (some ⟨n, 0, .none⟩) 0 0) [] := by
  subst ht
  subst hn
  exact World.ownsRow_lit w #[] 0 hB (by simp) (by simp)
/-- A slice of whole numbers of the call's own, and a bool. -/
def BIB (w : World) (L : List Int) (b : Bool) (e : Ending) (w' : World) : Prop := ∃ u, e = .returned (.tuple #[u, .bool b]) ∧ Below w.heap.size w w' ∧ OI w.heap.size w' u L
theorem wpList_appI {B : Nat} {xs : List Int} {v : Value} {b : Nat} {r : Int} {w : World} {ops : Array Oper} {rest : List Oper} {o : Oper} {a : Act} {Q : Exit → Act → World → Prop} (hg : o.guard = .none) {s x : Operand}
    (ho : o.op = .call { callee := .builtin .append, args := #[s, x], argTypes := #[34, 34] }) (hs : a.eval s = v) (hx : a.eval x = .slice (some ⟨b, 0, .none⟩) 1 1) (hO : OI B w v xs) (hc : w.cell? ⟨b, 0, .none⟩ = some (.int .i64 r)) (hn : xs.length < 1048576) (hB : B ≤ w.heap.size)
    (h : ∀ q c w', OI B w' (.slice q (xs.length + 1) c) (xs ++ [r]) → Below B w w' → wpList Try.prog ops Q rest (a.put o.dst (.slice q (xs.length + 1) c)) w') : wpList Try.prog ops Q (o :: rest) a w := by
  obtain ⟨i0, hi, hz0, hz1, hz2⟩ := info_parts Try.infoI64
  refine wpList_append_own w hg s x 34 ho B 2 i0 (.int .i64 0) 1 8 Try.underlying34 hi hz0 hz1 hz2 rfl (by decide) v xs.length (xs.map (Value.int .i64)) hs hO ⟨b, 0, .none⟩ 1 1 [.int .i64 r] hx rfl ?_ ?_ (by unfold maxLen; omega) (by omega) hB ?_
  · intro j u hj
    match j, hj with
    | 0, hj => simp at hj; subst hj; simpa [Addr.add] using hc
    | j + 1, hj => simp at hj
  · intro u hu; simp at hu; subst hu; rfl
  · intro v' w' hown hgrow _
    have hO' : OI B w' v' (xs ++ [r]) := by
      unfold OI
      simpa using hown
    obtain ⟨q, c, rfl⟩ := hO'.shape
    simp only [List.length_append, List.length_cons, List.length_nil, Nat.zero_add] at hO' ⊢
    exact h q c w' hO' ((Below.refl _ _).grown hgrow hB fun k hk => (OI.block hO k hk).1)
/-- In a plan: a call that hands back an own slice of whole numbers. -/
def Clm.ownI (B : Nat) (xs : List Int) : Clm := ⟨1, fun _ v => ∃ q c, v = .slice q xs.length c, fun _ v w => OI B w v xs, fun _ => ⟨_, none, 0, rfl⟩,
  fun _ v w w' h hb => h.later hb, fun h => nomatch h⟩
theorem wpC_callI {P : Program} {ops : Array Oper} {Q : Exit → Act → World → Prop} {W : World} {l : List Oper} {cs : List Clm} {i : Nat} {ks : List (Nat × (World → Prop))} {a : Act} {o : Oper}
    (xs : List Int) (hw : Region.wanted o (yielded ops a.tmps) = true) {f : FuncId} {args : Array Value} (h1 : ∀ w, (execOp a.eval o).run P w = .ok (.enter f args) w)
    (hc : ∀ w, Below W.heap.size W w → depK o ks w → Calls P f args w (fun e w' => ∃ u, e = .returned u ∧ Below w.heap.size w w' ∧ OI w.heap.size w' u xs))
    (h : ∀ q c, wpC P ops Q W l cs (i + 1) ((i, fun w => OI W.heap.size w (.slice q xs.length c) xs) :: ks) (a.put o.dst (.slice q xs.length c))) : wpC P ops Q W (o :: l) (Clm.ownI W.heap.size xs :: cs) i ks a := by
  refine wpC_call (Clm.ownI W.heap.size xs) rfl hw h1 (fun w hb hk => (hc w hb hk).mono ?_) ?_
  · rintro e w' ⟨u, rfl, hbl, hO⟩
    obtain ⟨q, c, rfl⟩ := hO.shape
    exact ⟨_, rfl, hbl, ⟨q, c, rfl⟩, hO.base hb.size⟩
  · rintro v ⟨q, c, rfl⟩; exact h q c
end Go.Proofs.Ytphamdlnnfionaa
set_option linter.unusedSimpArgs false
set_option linter.unusedVariables false
set_option linter.unusedSectionVars false
namespace Go.Proofs.Ytphamdlnnfionaa
open Go Go.RowKit
/-- The magnitude of a rung, in units of the least place. -/
def mag32 (r : Nat) : Nat := if r < 8388608 then r else (8388608 + r % 8388608) * 2 ^ (r / 8388608 - 1)
def neg32 (c : Nat) : Bool := c / 2147483648 % 2 == 1
/-- What a finite word stands for. -/
def val (c : Nat) : Int := if neg32 c then -(mag32 (c % 2147483648) : Int) else (mag32 (c % 2147483648) : Int)
/-- Is a word finite. -/
def isF (c : Nat) : Bool := c % 2147483648 < 2139095040
/-- A finite word's datum. -/
theorem decode_fin {c : Nat} (h : isF c = true) : ∃ m p, FloatKind.f32.decode c = .number (neg32 c) m p ∧ -149 ≤ p ∧ m * 2 ^ (p + 149).toNat = mag32 (c % 2147483648) := by
  simp only [isF, decide_eq_true_eq] at h
  rw [decode_single]
  by_cases h1 : c % 2147483648 < 8388608
  · rw [if_pos h1]
    exact ⟨_, _, rfl, by omega, by unfold mag32; rw [if_pos h1]; simp⟩
  · rw [if_neg h1, if_pos h]
    refine ⟨_, _, rfl, by omega, ?_⟩
    unfold mag32
    rw [if_neg h1]
    congr 2
    omega
theorem isF_not_nan {c : Nat} (h : isF c = true) : isN .f32 c = false := by
  obtain ⟨m, p, e, _⟩ := decode_fin h
  unfold isN; rw [e]; rfl
theorem signed_scale (s : Bool) (m : Nat) (p b : Int) (hb : -149 ≤ b) (hp : b ≤ p) : Ieee.signed s m (p - b).toNat * (2 ^ (b + 149).toNat : Nat) = if s then -((m * 2 ^ (p + 149).toNat : Nat) : Int) else ((m * 2 ^ (p + 149).toNat : Nat) : Int) := by
  have e : m <<< (p - b).toNat * 2 ^ (b + 149).toNat = m * 2 ^ (p + 149).toNat := by
    rw [Nat.shiftLeft_eq, Nat.mul_assoc, ← Nat.pow_add]
    congr 2
    omega
  unfold Ieee.signed
  cases s
  · simp only [Bool.false_eq_true, if_false]; rw [← Int.natCast_mul, e]
  · simp only [if_true]; rw [Int.neg_mul, ← Int.natCast_mul, e]
theorem compare_scale (a b : Int) (k : Nat) (hk : 0 < k) : compare a b = compare (a * k) (b * k) := by
  have hk' : (0 : Int) < k := by omega
  simp only [compare, compareOfLessAndEq]
  have e1 : (a < b) ↔ (a * k < b * k) := (Int.mul_lt_mul_right hk').symm
  have e2 : (a = b) ↔ (a * k = b * k) := ⟨fun h => by rw [h], fun h => Int.eq_of_mul_eq_mul_right (by omega) h⟩
  by_cases h1 : a < b
  · rw [if_pos h1, if_pos (e1.1 h1)]
  · rw [if_neg h1, if_neg (fun h => h1 (e1.2 h))]
    by_cases h2 : a = b
    · rw [if_pos h2, if_pos (e2.1 h2)]
    · rw [if_neg h2, if_neg (fun h => h2 (e2.2 h))]
theorem order_val {x y : Nat} (hx : isF x = true) (hy : isF y = true) : FloatKind.f32.format.order x y = some (compare (val x) (val y)) := by
  obtain ⟨m, p, e1, hp, hm⟩ := decode_fin hx
  obtain ⟨n, q, e2, hq, hn⟩ := decode_fin hy
  have d1 : FloatKind.f32.format.read x = .number (neg32 x) m p := e1
  have d2 : FloatKind.f32.format.read y = .number (neg32 y) n q := e2
  unfold Ieee.Format.order
  rw [d1, d2]
  simp only [Ieee.Datum.order]
  rw [compare_scale _ _ (2 ^ (min p q + 149).toNat) (Nat.two_pow_pos _), signed_scale _ _ _ _ (by omega) (by omega), signed_scale _ _ _ _ (by omega) (by omega), hm, hn]
  rfl
theorem flt_val {x y : Nat} (hx : isF x = true) (hy : isF y = true) : flt .f32 x y = decide (val x < val y) := by
  unfold flt
  rw [order_val hx hy]
  simp only [compare, compareOfLessAndEq]
  by_cases h : val x < val y
  · simp [h]
  · by_cases h2 : val x = val y <;> simp [h, h2]
theorem fgt_val {x y : Nat} (hx : isF x = true) (hy : isF y = true) : fgt .f32 x y = decide (val y < val x) := by
  unfold fgt
  rw [order_val hx hy]
  simp only [compare, compareOfLessAndEq]
  by_cases h : val x < val y
  · first | (simp [h]; done) | (simp [h]; omega)
  · by_cases h2 : val x = val y
    · simp [h2]
    · simp [h, h2]; omega
theorem fge_val {x y : Nat} (hx : isF x = true) (hy : isF y = true) : fge .f32 x y = decide (val y ≤ val x) := by
  have := flt_not_fge (isF_not_nan hx) (isF_not_nan hy)
  rw [flt_val hx hy] at this
  have h2 : fge .f32 x y = !decide (val x < val y) := by rw [this]; simp
  rw [h2]
  by_cases h : val x < val y
  · first | (simp [h]; done) | (simp [h]; omega)
  · first | (simp [h]; done) | (simp [h]; omega)
end Go.Proofs.Ytphamdlnnfionaa
set_option linter.unusedSimpArgs false
set_option linter.unusedVariables false
set_option linter.unusedSectionVars false
namespace Go.Proofs.Ytphamdlnnfionaa
open Go Go.RowKit
open Go.ChangeShapes Go.WideShapes Go.ChangeAt Go.RowKit Go.Joins
theorem fin_isF {c : Nat} (h : fin .f32 c = true) : isF c = true := by
  obtain ⟨s, m, i, e⟩ := fin_decode h
  rw [decode_single] at e
  unfold isF
  by_cases c1 : c % 2147483648 < 8388608
  · exact decide_eq_true (by omega)
  · rw [if_neg c1] at e
    by_cases c2 : c % 2147483648 < 2139095040
    · exact decide_eq_true c2
    · rw [if_neg c2] at e
      by_cases c3 : c % 2147483648 = 2139095040
      · rw [if_pos c3] at e; cases e
      · rw [if_neg c3] at e; cases e
theorem aE_fin {P : Pl} {i : Int} (h : P.ok = true) (hi : P.cell i = true) : isF (aE P i) = true := by
  apply fin_isF
  have h1 := Pl.cell_iff hi
  have h2 := (Pl.ok_len h).2.2.1
  have h3 : finL P.a = true := by unfold Pl.ok at h; simp only [Bool.and_eq_true] at h; exact h.2.2.2.1
  unfold finL at h3
  rw [Bool.not_eq_true', List.any_eq_false] at h3
  have hlt : i.toNat < P.a.length := by omega
  have := h3 (P.a[i.toNat]) (List.getElem_mem hlt)
  unfold aE
  rw [List.getD_eq_getElem?_getD, List.getElem?_eq_getElem hlt]
  simpa using this
def bestL (P : Pl) (i : Int) (ks : List Int) : Int := ks.foldl (fun b k => if flt .f32 (aE P k) (aE P b) = true then k else b) i
def best (P : Pl) (i : Int) : Int := bestL P i (nbl P.W P.H i)
theorem bestL_snoc (P : Pl) (i : Int) (l : List Int) (k : Int) : bestL P i (l ++ [k]) = if flt .f32 (aE P k) (aE P (bestL P i l)) = true then k else bestL P i l := by unfold bestL; rw [List.foldl_append]; rfl
theorem bestL_step (P : Pl) (i : Int) (ks : List Int) {j : Nat} (h : j < ks.length) : bestL P i (ks.take (j + 1)) = if flt .f32 (aE P (ks.getD j 0)) (aE P (bestL P i (ks.take j))) = true then ks.getD j 0 else bestL P i (ks.take j) := by
  rw [List.take_add_one, List.getElem?_eq_getElem h, Option.toList_some, bestL_snoc, List.getD_eq_getElem?_getD, List.getElem?_eq_getElem h]
  rfl
theorem fold_best {P : Pl} {i : Int} (h0 : P.ok = true) : ∀ (ks : List Int) (b : Int), (∀ k ∈ ks, P.cell k = true) → P.cell b = true → (b = i ∨ val (aE P b) < val (aE P i)) →
    P.cell (ks.foldl (fun b k => if flt .f32 (aE P k) (aE P b) = true then k else b) b) = true ∧ ((ks.foldl (fun b k => if flt .f32 (aE P k) (aE P b) = true then k else b) b) = i ∨ val (aE P (ks.foldl (fun b k => if flt .f32 (aE P k) (aE P b) = true then k else b) b)) < val (aE P i))
  | [], b, _, hb, h => ⟨hb, h⟩
  | k :: ks, b, hk, hb, h => by
    rw [List.foldl_cons]
    have hkc := hk k (by simp)
    have hf := flt_val (aE_fin h0 hkc) (aE_fin h0 hb)
    by_cases hlt : flt .f32 (aE P k) (aE P b) = true
    · rw [if_pos hlt]
      rw [hlt] at hf
      have hv := of_decide_eq_true hf.symm
      refine fold_best h0 ks k (fun x hx => hk x (by simp [hx])) hkc (.inr ?_)
      rcases h with rfl | h <;> omega
    · rw [if_neg hlt]
      exact fold_best h0 ks b (fun x hx => hk x (by simp [hx])) hb h
theorem bestL_cell {P : Pl} {i : Int} (h0 : P.ok = true) (hi : P.cell i = true) {ks : List Int} (hk : ∀ k ∈ ks, P.cell k = true) : P.cell (bestL P i ks) = true := (fold_best h0 ks i hk hi (.inl rfl)).1
theorem nbl_cells {P : Pl} {i : Int} : ∀ k ∈ nbl P.W P.H i, P.cell k = true := fun k hk => by
  have := nbl_cell hk
  unfold Pl.cell; rw [inB_true]; exact this
theorem best_less {P : Pl} {i : Int} (h0 : P.ok = true) (hi : P.cell i = true) : P.cell (best P i) = true ∧ (best P i = i ∨ val (aE P (best P i)) < val (aE P i)) := fold_best h0 _ i nbl_cells hi (.inl rfl)
/-- The path from a cell to ever cooler ones. -/
inductive Path (P : Pl) : Int → List Int → Prop
  | stop {i : Int} : best P i = i → Path P i [i]
  | step {i : Int} {L : List Int} : best P i ≠ i → Path P (best P i) L → Path P i (i :: L)
theorem Path.head {P : Pl} {i : Int} {L : List Int} (h : Path P i L) : ∃ R, L = i :: R := by cases h <;> exact ⟨_, rfl⟩
theorem Path.next {P : Pl} {i : Int} {R : List Int} (h : Path P i (i :: R)) : (best P i = i ∧ R = []) ∨ (best P i ≠ i ∧ ∃ R', R = best P i :: R' ∧ Path P (best P i) (best P i :: R')) := by
  cases h with
  | stop h => exact .inl ⟨h, rfl⟩
  | step h h2 =>
    obtain ⟨R', rfl⟩ := h2.head
    exact .inr ⟨h, R', rfl, h2⟩
theorem filter_le {p q : Nat → Bool} (h : ∀ x, p x = true → q x = true) : ∀ l : List Nat, (l.filter p).length ≤ (l.filter q).length
  | [] => Nat.le_refl _
  | y :: l => by
    have ih := filter_le h l
    simp only [List.filter_cons]
    rcases hp : p y
    · rcases hq : q y
      · simpa using ih
      · simp only [Bool.false_eq_true, if_false, if_true, List.length_cons]; omega
    · rw [h y hp]; simpa using ih
theorem filter_lt {p q : Nat → Bool} (h : ∀ x, p x = true → q x = true) {x : Nat} (hq : q x = true) (hp : p x = false) : ∀ l : List Nat, x ∈ l → (l.filter p).length < (l.filter q).length
  | [], hx => by simp at hx
  | y :: l, hx => by
    simp only [List.filter_cons]
    by_cases e : x = y
    · subst e
      rw [hp, hq]
      have := filter_le h l
      simp only [Bool.false_eq_true, if_false, if_true, List.length_cons]; omega
    · have ih := filter_lt h hq hp l (by simpa [e] using hx)
      rcases hp' : p y
      · rcases hq' : q y
        · simpa using ih
        · simp only [Bool.false_eq_true, if_false, if_true, List.length_cons]; omega
      · rw [h y hp']; simpa using ih
def rank (P : Pl) (i : Int) : Nat := ((List.range P.a.length).filter fun j : Nat => decide (val (aE P (j : Int)) < val (aE P i))).length
theorem rank_lt {P : Pl} {b i : Int} (h0 : P.ok = true) (hb : P.cell b = true) (h : val (aE P b) < val (aE P i)) : rank P b < rank P i := by
  have h1 := Pl.cell_iff hb
  have h2 := (Pl.ok_len h0).2.2.1
  have e : ((b.toNat : Nat) : Int) = b := by omega
  refine filter_lt (x := b.toNat) (fun x hx => ?_) ?_ ?_ _ (List.mem_range.2 (by omega))
  · have := of_decide_eq_true hx
    exact decide_eq_true (by omega)
  · rw [e]; exact decide_eq_true h
  · rw [e]; exact decide_eq_false (by omega)
theorem path_ex {P : Pl} (h0 : P.ok = true) : ∀ (n : Nat) (i : Int), P.cell i = true → rank P i ≤ n → ∃ L, Path P i L ∧ L.length ≤ n + 1
  | n, i, hi, hr => by
    obtain ⟨hc, hl⟩ := best_less h0 hi
    by_cases e : best P i = i
    · exact ⟨[i], .stop e, by simp⟩
    · have hv := hl.resolve_left e
      have hk := rank_lt h0 hc hv
      match n, hr with
      | 0, hr => omega
      | n + 1, hr =>
        obtain ⟨L, hL, hlen⟩ := path_ex h0 n (best P i) hc (by omega)
        exact ⟨i :: L, .step e hL, by simp; omega⟩
def coolR (P : Pl) (i : Int) (L : List Int) (b : Bool) : Prop := (b = false ∧ L = [] ∧ (P.ok && P.cell i) = false) ∨ (b = true ∧ (P.ok = true ∧ P.cell i = true) ∧ Path P i L ∧ L.length ≤ 1000)
theorem cool_ex (P : Pl) (i : Int) : ∃ L b, coolR P i L b := by
  rcases h : (P.ok && P.cell i)
  · exact ⟨[], false, .inl ⟨rfl, rfl, h⟩⟩
  · rw [Bool.and_eq_true] at h
    obtain ⟨L, hL, hn⟩ := path_ex h.1 (rank P i) i h.2 (Nat.le_refl _)
    have h1 : rank P i ≤ P.a.length := by
      unfold rank
      exact Nat.le_trans (List.length_filter_le _ _) (by simp)
    have h2 := Pl.ok_n h.1
    have h3 := (Pl.ok_len h.1).2.2.1
    exact ⟨L, true, .inr ⟨rfl, h, hL, by omega⟩⟩
def lenOf : Value → Nat | .slice _ n _ => n | _ => 0
end Go.Proofs.Ytphamdlnnfionaa
set_option linter.unusedSimpArgs false
set_option linter.unusedVariables false
set_option linter.unusedSectionVars false
namespace Go.Proofs.Ytphamdlnnfionaa
open Go Go.RowKit
open Go.ChangeShapes Go.WideShapes Go.ChangeAt Go.RowKit Go.Joins
def cntT : List Bool → Nat
  | [] => 0
  | b :: l => (if b = true then 1 else 0) + cntT l
theorem cntT_le : ∀ l : List Bool, cntT l ≤ l.length
  | [] => Nat.le_refl _
  | b :: l => by
    have := cntT_le l
    simp only [cntT, List.length_cons]
    split <;> omega
theorem cntT_set : ∀ (l : List Bool) (i : Nat), i < l.length → l.getD i false = false → cntT (l.set i true) = cntT l + 1
  | [], i, h, _ => by simp at h
  | b :: l, 0, _, h => by
    have hb : b = false := h
    subst hb
    simp [cntT, Nat.add_comm]
  | b :: l, i + 1, h, h2 => by
    have ih := cntT_set l i (by simpa using h) (by simpa using h2)
    simp only [List.set_cons_succ, cntT, ih]
    omega
section
variable (P : Pl) (v : Nat)
def hiB (k : Int) : Bool := fge .f32 (aE P k) (cn .f32 v)
def islNb (s : List Bool × List Int) (k : Int) : List Bool × List Int := if k < 0 then s else if (!s.1.getD k.toNat false && hiB P v k) = true then (s.1.set k.toNat true, s.2 ++ [k]) else s
def islFold (s : List Bool × List Int) (ks : List Int) : List Bool × List Int := ks.foldl (islNb P v) s
def islIt (s : List Bool × List Int) : Nat → List Bool × List Int
  | 0 => s
  | n + 1 => if n < (islIt s n).2.length then islFold P v (islIt s n) (nbs P.W P.H ((islIt s n).2.getD n 0)) else islIt s n
def islEnd (s : List Bool × List Int) : List Bool × List Int := islIt P v s P.a.length
def islOut : Nat → List Bool × Nat × Nat
  | 0 => (List.replicate P.a.length false, 0, 0)
  | i + 1 => if ((islOut i).1.getD i false || !hiB P v (i : Int)) = true then islOut i else ((islEnd P v ((islOut i).1.set i true, [(i : Int)])).1, (islOut i).2.1 + 1, max (islOut i).2.2 (islEnd P v ((islOut i).1.set i true, [(i : Int)])).2.length)
def islInv (N : Nat) (s : List Bool × List Int) : Prop := s.1.length = N ∧ s.2.length ≤ cntT s.1 ∧ ∀ k ∈ s.2, 0 ≤ k ∧ k ≤ (N : Int) - 1
end
section
variable {P : Pl} {v N : Nat} {s : List Bool × List Int}
theorem islNb_neg {k : Int} (h : k < 0) : islNb P v s k = s := by unfold islNb; rw [if_pos h]
theorem islNb_yes {k : Int} (h : 0 ≤ k) (h2 : s.1.getD k.toNat false = false) (h3 : hiB P v k = true) : islNb P v s k = (s.1.set k.toNat true, s.2 ++ [k]) := by unfold islNb; rw [if_neg (by omega), if_pos (by rw [h2, h3]; rfl)]
theorem islNb_seen {k : Int} (h2 : s.1.getD k.toNat false = true) : islNb P v s k = s := by
  unfold islNb
  split
  · rfl
  · rw [if_neg (by rw [h2]; simp)]
theorem islNb_low {k : Int} (h3 : hiB P v k = false) : islNb P v s k = s := by
  unfold islNb
  split
  · rfl
  · rw [if_neg (by rw [h3]; simp)]
theorem islFold_step (ks : List Int) {j : Nat} (h : j < ks.length) : islFold P v s (ks.take (j + 1)) = islNb P v (islFold P v s (ks.take j)) (ks.getD j 0) := by
  unfold islFold
  rw [List.take_add_one, List.getElem?_eq_getElem h, Option.toList_some, List.foldl_append, List.getD_eq_getElem?_getD, List.getElem?_eq_getElem h]
  rfl
theorem islFold_filter : ∀ (ks : List Int) (s : List Bool × List Int), islFold P v s (ks.filter fun k => !decide (k < 0)) = islFold P v s ks
  | [], s => rfl
  | k :: ks, s => by
    by_cases h : k < 0
    · rw [List.filter_cons_of_neg (by simp [h])]
      show _ = islFold P v (islNb P v s k) ks
      rw [islNb_neg h]
      exact islFold_filter ks s
    · rw [List.filter_cons_of_pos (by simp [h])]
      exact islFold_filter ks (islNb P v s k)
theorem islFold_nbl (i : Int) : islFold P v s (nbl P.W P.H i) = islFold P v s (nbs P.W P.H i) := islFold_filter _ _
theorem islInv_nb (h : islInv N s) {k : Int} (hk : k ≤ (N : Int) - 1) : islInv N (islNb P v s k) := by
  unfold islNb
  split
  · exact h
  · split
    · rename_i h1 h2
      rw [Bool.and_eq_true, Bool.not_eq_true'] at h2
      have hlt : k.toNat < s.1.length := by rw [h.1]; omega
      refine ⟨by rw [List.length_set]; exact h.1, ?_, fun x hx => ?_⟩
      · rw [cntT_set _ _ hlt h2.1, List.length_append]
        have := h.2.1
        simpa using this
      · rcases List.mem_append.1 hx with hx | hx
        · exact h.2.2 x hx
        · simp at hx; omega
    · exact h
theorem islInv_fold : ∀ (ks : List Int) (s : List Bool × List Int), islInv N s → (∀ k ∈ ks, k ≤ (N : Int) - 1) → islInv N (islFold P v s ks)
  | [], s, h, _ => h
  | k :: ks, s, h, hk => islInv_fold ks (islNb P v s k) (islInv_nb h (hk k (by simp))) (fun x hx => hk x (by simp [hx]))
theorem nbs_le {W H i : Int} (h : 1 ≤ W * H) : ∀ k ∈ nbs W H i, k ≤ W * H - 1 := by
  intro k hk
  by_cases h0 : k < 0
  · omega
  · have : k ∈ nbl W H i := List.mem_filter.2 ⟨hk, by simp [h0]⟩
    exact (nbl_cell this).2
theorem islInv_it (hN : P.W * P.H = (N : Int)) (h1 : 1 ≤ N) (h : islInv N s) : ∀ n, islInv N (islIt P v s n)
  | 0 => h
  | n + 1 => by
    have ih := islInv_it hN h1 h n
    simp only [islIt]
    split
    · exact islInv_fold _ _ ih (fun k hk => by have := nbs_le (by omega) k hk; omega)
    · exact ih
theorem islInv_len (h : islInv N s) : s.2.length ≤ N := by
  have h1 := cntT_le s.1
  have h2 := h.2.1
  rw [h.1] at h1
  omega
theorem islIt_done {n : Nat} (h : (islIt P v s n).2.length ≤ n) : ∀ d, islIt P v s (n + d) = islIt P v s n
  | 0 => rfl
  | d + 1 => by
    have ih := islIt_done h d
    show islIt P v s (n + d + 1) = _
    simp only [islIt]
    rw [ih, if_neg (by omega)]
theorem islIt_end {n : Nat} (hn : n ≤ P.a.length) (h : (islIt P v s n).2.length ≤ n) : islIt P v s n = islEnd P v s := by
  unfold islEnd
  obtain ⟨d, hd⟩ : ∃ d, P.a.length = n + d := ⟨P.a.length - n, by omega⟩
  rw [hd, islIt_done h d]
theorem islIt_step {n : Nat} (h : n < (islIt P v s n).2.length) : islIt P v s (n + 1) = islFold P v (islIt P v s n) (nbs P.W P.H ((islIt P v s n).2.getD n 0)) := by
  simp only [islIt]
  rw [if_pos h]
theorem islInv_start {l : List Bool} {i : Nat} (hl : l.length = N) (hi : i < N) (h : l.getD i false = false) : islInv N (l.set i true, [(i : Int)]) := by
  refine ⟨by rw [List.length_set]; exact hl, ?_, fun k hk => ?_⟩
  · rw [cntT_set _ _ (by omega) h]
    show 1 ≤ _
    omega
  · simp at hk; omega
theorem islOut_inv (hN : P.W * P.H = (N : Int)) (hL : P.a.length = N) (h1 : 1 ≤ N) : ∀ i, i ≤ N → (islOut P v i).1.length = N ∧ (islOut P v i).2.1 ≤ i ∧ (islOut P v i).2.2 ≤ N
  | 0, _ => ⟨by simp [islOut, hL], Nat.le_refl _, Nat.zero_le _⟩
  | i + 1, hi => by
    obtain ⟨a, b, c⟩ := islOut_inv hN hL h1 i (by omega)
    simp only [islOut]
    split
    · exact ⟨a, by omega, c⟩
    · rename_i h2
      have h3 : (islOut P v i).1.getD i false = false := by
        cases h : (islOut P v i).1.getD i false
        · rfl
        · rw [h] at h2; simp at h2
      have h4 := islInv_it (v := v) hN h1 (islInv_start a (by omega) h3) P.a.length
      exact ⟨h4.1, by show _ + 1 ≤ _; omega, Nat.max_le.2 ⟨c, islInv_len h4⟩⟩
theorem islOut_skip {i : Nat} (h : (islOut P v i).1.getD i false = true ∨ hiB P v (i : Int) = false) : islOut P v (i + 1) = islOut P v i := by
  simp only [islOut]
  rw [if_pos]
  rcases h with h | h <;> rw [h] <;> simp
theorem islOut_new {i : Nat} (h1 : (islOut P v i).1.getD i false = false) (h2 : hiB P v (i : Int) = true) : islOut P v (i + 1) = ((islEnd P v ((islOut P v i).1.set i true, [(i : Int)])).1, (islOut P v i).2.1 + 1, max (islOut P v i).2.2 (islEnd P v ((islOut P v i).1.set i true, [(i : Int)])).2.length) := by
  simp only [islOut]
  rw [if_neg (by rw [h1, h2]; simp)]
theorem set_getD_same {l : List Bool} {i : Nat} (h : i < l.length) : (l.set i true).getD i false = true := by
  rw [List.getD_eq_getElem?_getD, List.getElem?_set_self h]; rfl
theorem set_getD_ne {l : List Bool} {i j : Nat} (h : i ≠ j) : (l.set i true).getD j false = l.getD j false := by
  rw [List.getD_eq_getElem?_getD, List.getElem?_set_ne h, List.getD_eq_getElem?_getD]
end
def islOk (P : Pl) (v : Nat) : Bool := P.ok && fin .f32 (cn .f32 v)
def islC (P : Pl) (v : Nat) : Int := if islOk P v = true then ((islOut P v P.a.length).2.1 : Int) else 0
def islM (P : Pl) (v : Nat) : Int := if islOk P v = true then ((islOut P v P.a.length).2.2 : Int) else 0
end Go.Proofs.Ytphamdlnnfionaa

/-
  Waves below a ground: the law. True for every input. No condition.
  Waves at drawn depths: their words, worked out. No condition but what each law says; nothing of the program is named here.
  Fins and depths of waves at drawn reaches: their words, worked out. No condition but what each law says; nothing of the program is named here.
  Waves, depths of waves and fins in the program, at drawn reaches. No condition but what each contract says.
  Fins and depths of waves at all drawn reaches, worked out. No condition but what each law says; nothing of the program is named here.
-/
import Derived.Test.YtpnkapdemgieaaaSM5
import Derived.Test.YtpnkapdemgieaaaSM6
set_option linter.unusedSimpArgs false
set_option linter.unusedVariables false
set_option linter.unusedSectionVars false
namespace Go.Proofs.Ytpnkapdemgieaaa
open Go Go.RowKit
open Go.ChangeShapes Go.WideShapes Go.ChangeAt Go.RowKit Go.Joins
theorem fits_exG {x : Nat} (h : fnt .f64 x = true) (h0 : fv .f64 x ≤ 0) : fits (exG x) = true := by
  obtain ⟨⟨a0, a1⟩, b0, b1⟩ := hundred_val
  unfold exG
  have f1 : fgt .f64 x (cn .f64 4641240890982006784) = false := by rw [fgtv h a0, a1]; exact decide_eq_false (by grind)
  rw [f1, if_neg Bool.false_ne_true]
  by_cases hl : flt .f64 x (cn .f64 13864612927836782592) = true
  · rw [if_pos hl]; decide +kernel
  · rw [if_neg hl]
    rw [fltv h b0, b1] at hl
    have hl : ¬ fv .f64 x < -200 := fun hh => hl (decide_eq_true hh)
    obtain ⟨e0, e1, e2⟩ := exV_btw (x := x) ⟨h, by grind, h0⟩
    exact (narrow_bnd (b := 1) ⟨e0, by grind, e2⟩ (Rep.int (k := .f32) 1 (by decide))).1
def wvQ (d r : Nat) : Nat := fop .quo .f32 d r
def wvN (d r : Nat) : Nat := fneg .f32 (wvQ d r)
def wvT (d r : Nat) : Nat := wide (fop .quo .f32 (wvN d r) (cn .f32 1086918619))
theorem implScale_any (a b e : Nat) (w : World) : Calls Try.prog 59 #[.complex .f32 a b, .float .f32 e] w (RC w (fop .mul .f32 (cn .f32 a) (cn .f32 e)) (fop .mul .f32 (cn .f32 b) (cn .f32 e))) := by
  go_enter Try.func59, Try.ntmps59
  go_wp2_with (first | (with_reducible refine at_list ?_; refine wpList_fop rfl rfl rfl rfl rfl ?_; intro r n hr0; have hr := hr0 _ _ (by first | with_reducible assumption | exact rfl) (by first | with_reducible assumption | exact rfl); clear hr0) | (with_reducible refine at_list ?_; refine wpList_neg rfl rfl rfl ?_; intro r hr0; have hr := hr0 _ (by first | with_reducible assumption | exact rfl); clear hr0) | (with_reducible refine at_list ?_; refine wpList_fop_g rfl rfl rfl rfl rfl ?_; intro r n hr0; have hr := hr0 _ _ (by first | with_reducible assumption | exact rfl) (by first | with_reducible assumption | exact rfl); clear hr0) | (with_reducible refine at_list ?_; refine wpList_wide_g rfl rfl Try.underlying28 Try.underlying39 rfl ?_; intro r n hr0; have hr := hr0 _ (by first | with_reducible assumption | exact rfl); clear hr0) | (with_reducible refine at_list ?_; refine wpList_wide rfl rfl rfl Try.underlying28 Try.underlying39 ?_; intro r n hr0; have hr := hr0 _ (by first | with_reducible assumption | exact rfl); clear hr0))
  go_ret
  exact ⟨_, _, rfl, by assumption, by assumption, by first | (repeat (first | (with_reducible exact Below.refl _ _) | (with_reducible assumption) | (with_reducible refine below_then ?_ (by assumption)) | (with_reducible refine Below.trans ?_ (by assumption)) | (with_reducible refine below_drewN ?_ _) | (with_reducible apply Below.drew) | (with_reducible refine below_alloc ?_ _) | refine Below.setCell ?_ (by first | (simp; done) | (simp; omega)) _)) | exact below_drewN (Below.refl _ _) _⟩
/-- What a wave's words give. -/
def wvB (A B E : Nat) : Bool := fin .f32 (fop .mul .f32 A E) && fin .f32 (fop .mul .f32 B E)
theorem implWave_yes (d r A B E : Nat) (w : World) (h : (lst (cn .f32 d) && abv (cn .f32 r)) = true)
    (hP : ∀ x w, cn .f64 x = wvT (cn .f32 d) (cn .f32 r) → Calls Try.prog 60 #[.float .f64 x] w (RC w A B)) (hE : ∀ x w, cn .f32 x = wvN (cn .f32 d) (cn .f32 r) → Calls Try.prog 61 #[.float .f32 x] w (BF w .f32 E)) :
    Calls Try.prog 27 #[.float .f32 d, .float .f32 r] w (BCB w (if wvB A B E then fop .mul .f32 A E else 0) (if wvB A B E then fop .mul .f32 B E else 0) (wvB A B E)) := by
  rw [Bool.and_eq_true] at h
  have hA := h.2
  unfold lst at h
  rw [Bool.and_eq_true] at h
  have h0 := h.1.1
  have h1 := h.1.2
  have hlt : flt .f32 (cn .f32 d) (cn .f32 0) = !fge .f32 (cn .f32 d) (cn .f32 0) := flt_not_fge (fin_not_nan h0) (by rw [isN_cn]; exact isN_lit .f32)
  rw [h1] at hlt
  simp only [Bool.not_true] at hlt
  have HA := Lib.hid (fun v w hs => (hA ▸ arePos1_any r v w hs : Calls Try.prog 45 #[v] w (RB w _)))
  have HT : Hid (wvT (cn .f32 d) (cn .f32 r) = wide (fop .quo .f32 (fneg .f32 (fop .quo .f32 (cn .f32 d) (cn .f32 r))) (cn .f32 1086918619))) := rfl
  have HN : Hid (wvN (cn .f32 d) (cn .f32 r) = fneg .f32 (fop .quo .f32 (cn .f32 d) (cn .f32 r))) := rfl
  have HP := Lib.hid hP
  have HE := Lib.hid hE
  have HW : Hid (∀ w x y, cn .f32 x = fop .mul .f32 A E → cn .f32 y = fop .mul .f32 B E → Calls Try.prog 58 #[.complex .f32 x y] w (BCB w (if wvB A B E then fop .mul .f32 A E else 0) (if wvB A B E then fop .mul .f32 B E else 0) (wvB A B E))) := fun w x y hx hy => by
    have := checkedC_any x y w
    rw [hx, hy] at this
    exact this
  clear h h1 hA hP hE
  generalize wvB A B E = b at *
  generalize (if b then fop .mul .f32 A E else 0) = X at *
  generalize (if b then fop .mul .f32 B E else 0) = Y at *
  have HS : Hid (∀ w x y e, cn .f32 x = A → cn .f32 y = B → cn .f32 e = E → Calls Try.prog 59 #[.complex .f32 x y, .float .f32 e] w (RC w (fop .mul .f32 A E) (fop .mul .f32 B E))) := fun w x y e hx hy he => by
    have := implScale_any x y e w
    rw [hx, hy, he] at this
    exact this
  rw [HT.out] at HP
  rw [HN.out] at HE
  clear HT HN
  generalize fop .mul .f32 A E = F at *
  generalize fop .mul .f32 B E = G at *
  go_enter Try.func27, Try.ntmps27
  go_wp2_with (first | (with_reducible refine at_list ?_; refine wpList_fop rfl rfl rfl rfl rfl ?_; intro r n hr0; have hr := hr0 _ _ (by first | with_reducible assumption | exact rfl) (by first | with_reducible assumption | exact rfl); clear hr0) | (with_reducible refine at_list ?_; refine wpList_neg rfl rfl rfl ?_; intro r hr0; have hr := hr0 _ (by first | with_reducible assumption | exact rfl); clear hr0) | (with_reducible refine at_list ?_; refine wpList_fop_g rfl rfl rfl rfl rfl ?_; intro r n hr0; have hr := hr0 _ _ (by first | with_reducible assumption | exact rfl) (by first | with_reducible assumption | exact rfl); clear hr0) | (with_reducible refine at_list ?_; refine wpList_wide_g rfl rfl Try.underlying28 Try.underlying39 rfl ?_; intro r n hr0; have hr := hr0 _ (by first | with_reducible assumption | exact rfl); clear hr0) | (with_reducible refine at_list ?_; refine wpList_wide rfl rfl rfl Try.underlying28 Try.underlying39 ?_; intro r n hr0; have hr := hr0 _ (by first | with_reducible assumption | exact rfl); clear hr0) | (go_at_call 60; refine (HP.out _ _ (by with_reducible assumption)).mono ?_; rintro e w' ⟨x1, y1, rfl, hx1, hy1, hb⟩; obtain ⟨hT, hk⟩ := bv_next hb (by (repeat (with_reducible first | assumption | apply Trk.alloc | apply Trk.setCell | apply Trk.drewN | apply Trk.drew | exact Trk.nil _))); simp only [SameOn, World.size_alloc, World.size_setCell, World.size_drew, size_drewN', and_true] at hk; have hsz := Below.size hb; (try simp only [World.size_alloc, World.size_setCell, World.size_drew, size_drewN'] at hsz)) | (go_at_call 59; refine (HS.out _ _ _ _ (by with_reducible assumption) (by with_reducible assumption) (by with_reducible assumption)).mono ?_; rintro e w' ⟨x2, y2, rfl, hx2, hy2, hb⟩; obtain ⟨hT, hk⟩ := bv_next hb (by (repeat (with_reducible first | assumption | apply Trk.alloc | apply Trk.setCell | apply Trk.drewN | apply Trk.drew | exact Trk.nil _))); simp only [SameOn, World.size_alloc, World.size_setCell, World.size_drew, size_drewN', and_true] at hk; have hsz := Below.size hb; (try simp only [World.size_alloc, World.size_setCell, World.size_drew, size_drewN'] at hsz)) | (go_at_call 58; refine (HW.out _ _ _ (by with_reducible assumption) (by with_reducible assumption)).mono ?_; rintro e w' ⟨x3, y3, rfl, hx3, hy3, hb⟩; obtain ⟨hT, hk⟩ := bv_next hb (by (repeat (with_reducible first | assumption | apply Trk.alloc | apply Trk.setCell | apply Trk.drewN | apply Trk.drew | exact Trk.nil _))); simp only [SameOn, World.size_alloc, World.size_setCell, World.size_drew, size_drewN', and_true] at hk; have hsz := Below.size hb; (try simp only [World.size_alloc, World.size_setCell, World.size_drew, size_drewN'] at hsz)) | (go_at_call 41; refine (IsFinite_any _ _).mono ?_; rintro e w' ⟨rfl, n, rfl⟩) | (go_at_call 45; refine ((HA.out _ _ (FS1 (by go_simp <;> exact rfl))) ).mono ?_; rintro e w' ⟨rfl, n, rfl⟩) | (go_at_call 61; refine ((HE.out _ _ (by with_reducible assumption)) ).mono ?_; rintro e w' ⟨r, rfl, hr, hb⟩; obtain ⟨hT, hk⟩ := bv_next hb (by (repeat (with_reducible first | assumption | apply Trk.alloc | apply Trk.setCell | apply Trk.drewN | apply Trk.drew | exact Trk.nil _))); simp only [SameOn, World.size_alloc, World.size_setCell, World.size_drew, size_drewN', and_true] at hk; have hsz := Below.size hb; (try simp only [World.size_alloc, World.size_setCell, World.size_drew, size_drewN'] at hsz)) | (go_at_call 58; refine (checkedC_any _ _ _).mono ?_; rintro e w' ⟨x, y, rfl, hcx, hcy, hb⟩; obtain ⟨hT, hk⟩ := bv_next hb (by (repeat (with_reducible first | assumption | apply Trk.alloc | apply Trk.setCell | apply Trk.drewN | apply Trk.drew | exact Trk.nil _))); simp only [SameOn, World.size_alloc, World.size_setCell, World.size_drew, size_drewN', and_true] at hk; have hsz := Below.size hb; (try simp only [World.size_alloc, World.size_setCell, World.size_drew, size_drewN'] at hsz)))
  go_ret2
  exact ⟨_, _, rfl, by assumption, by assumption, by (repeat (first | (with_reducible exact Below.refl _ _) | (with_reducible assumption) | (with_reducible refine below_then ?_ (by assumption)) | (with_reducible refine Below.trans ?_ (by assumption)) | (with_reducible refine below_drewN ?_ _) | (with_reducible apply Below.drew) | (with_reducible refine below_alloc ?_ _) | refine Below.setCell ?_ (by first | (simp; done) | (simp; omega)) _))⟩
end Go.Proofs.Ytpnkapdemgieaaa
set_option linter.unusedSimpArgs false
set_option linter.unusedVariables false
set_option linter.unusedSectionVars false
namespace Go.Proofs.Ytpnkapdemgieaaa
open Go Go.RowKit
/-- A number worked out before it goes on. -/
def fc {α : Type} (v : Nat) (f : Nat → α) : α := match v with | 0 => f 0 | n + 1 => f (n + 1)
theorem fc_eq {α : Type} (v : Nat) (f : Nat → α) : fc v f = f v := by cases v <;> rfl
def exPE {α : Type} (t : Nat) : Nat → (Nat → α) → α
  | 0, f => fc (cn .f64 4607182418800017408) f
  | j + 1, f => exPE t j fun p => fc (fop .add .f64 (cn .f64 4607182418800017408) (fop .quo .f64 (fop .mul .f64 t p) (fI (12 - (j : Int))))) f
theorem exPE_eq {α : Type} (t : Nat) : ∀ (j : Nat) (f : Nat → α), exPE t j f = f (exP t j)
  | 0, f => by simp only [exPE, fc_eq, exP]
  | j + 1, f => by simp only [exPE, exPE_eq t j, fc_eq, exP]
def exQE {α : Type} (p : Nat) : Nat → (Nat → α) → α
  | 0, f => f p
  | j + 1, f => exQE p j fun q => fc (fop .mul .f64 q q) f
theorem exQE_eq {α : Type} (p : Nat) : ∀ (j : Nat) (f : Nat → α), exQE p j f = f (exQ p j)
  | 0, f => rfl
  | j + 1, f => by simp only [exQE, exQE_eq p j, fc_eq, exQ]
def exVE {α : Type} (y : Nat) (f : Nat → α) : α := fc (fop .quo .f64 y (cn .f64 4643211215818981376)) fun t => exPE t 12 fun p => exQE p 8 f
theorem exVE_eq {α : Type} (y : Nat) (f : Nat → α) : exVE y f = f (exV y) := by simp only [exVE, fc_eq, exPE_eq, exQE_eq, exV]
def snPE {α : Type} (u : Nat) : Nat → (Nat → α) → α
  | 0, f => fc (cn .f64 4607182418800017408) f
  | j + 1, f => snPE u j fun p => fc (fop .sub .f64 (cn .f64 4607182418800017408) (fop .quo .f64 (fop .mul .f64 u p) (snC j))) f
theorem snPE_eq {α : Type} (u : Nat) : ∀ (j : Nat) (f : Nat → α), snPE u j f = f (snP u j)
  | 0, f => by simp only [snPE, fc_eq, snP]
  | j + 1, f => by simp only [snPE, snPE_eq u j, fc_eq, snP]
def snE {α : Type} (y : Nat) (f : Nat → α) : α := fc (snH y) fun h => fc (fop .mul .f64 h (cn .f64 4618760256179416344)) fun z => fc (fop .mul .f64 z z) fun u => snPE u 8 fun p => fc (fop .mul .f64 z p) fun m => fc (if snS y then fneg .f64 m else m) f
theorem snE_eq {α : Type} (y : Nat) (f : Nat → α) : snE y f = f (sn y) := by simp only [snE, fc_eq, snPE_eq, sn, snM, snU, snZ]
/-- The quarter in which a point lies, worked out. -/
def kQ (y : Nat) : Nat := if fge .f64 (phF y 0) (cn .f64 4598175219545276416) then if fge .f64 (phF y 1) (cn .f64 4598175219545276416) then if fge .f64 (phF y 2) (cn .f64 4598175219545276416) then if fge .f64 (phF y 3) (cn .f64 4598175219545276416) then 4 else 3 else 2 else 1 else 0
theorem kQ_of {y k : Nat} (h : Qtr y k) : k = kQ y := by
  obtain ⟨h1, h2, h3, _⟩ := h
  unfold kQ
  match k, h1, h2, h3 with
  | 0, _, _, h3 => rw [h3]; rfl
  | 1, _, h2, h3 => rw [h2 0 (by decide), h3]; rfl
  | 2, _, h2, h3 => rw [h2 0 (by decide), h2 1 (by decide), h3]; rfl
  | 3, _, h2, h3 => rw [h2 0 (by decide), h2 1 (by decide), h2 2 (by decide), h3]; rfl
  | 4, _, h2, h3 => rw [h2 0 (by decide), h2 1 (by decide), h2 2 (by decide), h2 3 (by decide)]; rfl
/-- A wave's factor and point. -/
def wvE (d r : Nat) : Nat := narrow (exV (wide (wvN d r)))
def wvX (d r : Nat) : Nat := fop .mul .f32 (narrow (phA (wvT d r) (kQ (wvT d r)))) (wvE d r)
def wvY (d r : Nat) : Nat := fop .mul .f32 (narrow (phB (wvT d r) (kQ (wvT d r)))) (wvE d r)
def phP (k S C : Nat) : Nat := if k = 1 then fop .sub .f64 (cn .f64 0) S else if k = 2 then fop .sub .f64 (cn .f64 0) C else if k = 3 then S else C
def phR (k S C : Nat) : Nat := if k = 1 then C else if k = 2 then fop .sub .f64 (cn .f64 0) S else if k = 3 then fop .sub .f64 (cn .f64 0) C else S
/-- All of it, worked out step by step. -/
def wvAll {α : Type} (d r : Nat) (f : Nat → Nat → Nat → Nat → Nat → α) : α :=
  fc (wvQ d r) fun q => fc (fneg .f32 q) fun N => fc (wide N) fun n => fc (wide (fop .quo .f32 N (cn .f32 1086918619))) fun t => fc (kQ t) fun k => fc (phF t k) fun F => fc (fop .sub .f64 (cn .f64 4598175219545276416) F) fun G =>
    snE F fun S => snE G fun C => exVE n fun e => fc (narrow e) fun E => fc (narrow (phP k S C)) fun A => fc (narrow (phR k S C)) fun B => fc (fop .mul .f32 A E) fun X => fc (fop .mul .f32 B E) fun Y => fc (sqC (pwW X Y)) fun L => f n t X Y L
theorem wvAll_eq {α : Type} (d r : Nat) (f : Nat → Nat → Nat → Nat → Nat → α) : wvAll d r f = f (wide (wvN d r)) (wvT d r) (wvX d r) (wvY d r) (sqC (pwW (wvX d r) (wvY d r))) := by
  unfold wvAll
  simp only [fc_eq, snE_eq, exVE_eq]
  rfl
/-- The drawn reach and depth. -/
def rch (j : Nat) : Nat := fop .quo .f32 (cn .f32 (floatOfInt .f32 ((1 : Int) + (j : Int)))) (cn .f32 1090519040)
def dpt (i : Nat) : Nat := fop .quo .f32 (cn .f32 (floatOfInt .f32 (i : Int))) (cn .f32 1090519040)
/-- What is asked of one wave. -/
def wvOk (n t X Y L : Nat) : Bool := fin .f64 n && fge .f64 n (cn .f64 13864612927836782592) && fle .f64 n (cn .f64 0) && fin .f64 t && fge .f64 t (cn .f64 13844065254536904704) && fle .f64 t (cn .f64 0) && fin .f32 X && fin .f32 Y && fits L && fin .f32 (narrow L) && !fgt .f64 (wide (narrow L)) (cn .f64 4607186922399644778)
/-- Depths one behind the other: waves grow weaker. -/
def wvRow (g : Nat → Bool × Bool × Nat) : Nat → (Nat → Bool) → Bool
  | 0, f => match g 0 with | (a, b, l) => a && b && fc l f
  | i + 1, f => wvRow g i fun l => match g (i + 1) with | (a, _, m) => fc m fun m => a && !fgt .f32 m l && f m
theorem wvRow_at (g : Nat → Bool × Bool × Nat) : ∀ (n : Nat) (f : Nat → Bool), wvRow g n f = true → f (g n).2.2 = true ∧ (∀ i, i ≤ n → (g i).1 = true) ∧ (∀ i, i < n → fgt .f32 (g (i + 1)).2.2 (g i).2.2 = false) ∧ (g 0).2.1 = true
  | 0, f, h => by
    simp only [wvRow, fc_eq, Bool.and_eq_true] at h
    obtain ⟨⟨h1, h2⟩, h4⟩ := h
    exact ⟨h4, fun i hi => by rw [show i = 0 by omega]; exact h1, fun i hi => by omega, h2⟩
  | n + 1, f, h => by
    simp only [wvRow] at h
    obtain ⟨h1, h2, h3, h4⟩ := wvRow_at g n _ h
    simp only [fc_eq, Bool.and_eq_true, Bool.not_eq_true'] at h1
    obtain ⟨⟨g1, g2⟩, g3⟩ := h1
    refine ⟨g3, fun i hi => ?_, fun i hi => ?_, h4⟩
    · by_cases e : i = n + 1
      · rw [e]; exact g1
      · exact h2 i (by omega)
    · by_cases e : i = n
      · rw [e]; exact g2
      · exact h3 i (by omega)
/-- The wave's length; what is asked of it; is it one. -/
def wvL (d r : Nat) : Nat := sqC (pwW (wvX d r) (wvY d r))
def wvI (d r : Nat) : Bool := wvOk (wide (wvN d r)) (wvT d r) (wvX d r) (wvY d r) (wvL d r)
def isOne (X Y : Nat) : Bool := feq .f32 X (cn .f32 1065353216) && feq .f32 Y (cn .f32 0)
def wvU (d r : Nat) : Bool := isOne (wvX d r) (wvY d r)
def wvOne (d r : Nat) : Bool × Bool × Nat := wvAll d r fun n t X Y L => (wvOk n t X Y L, isOne X Y, narrow L)
theorem wvOne_eq (d r : Nat) : wvOne d r = (wvI d r, wvU d r, narrow (wvL d r)) := by
  unfold wvOne wvI wvU wvL
  rw [wvAll_eq]
/-- All that is asked of the waves at one reach. -/
def wvGood (j : Nat) : Bool := fc (rch j) fun r => wvRow (fun i => wvOne (dpt i) r) 17 fun _ => true
structure WvG (r : Nat) : Prop where
  ok : ∀ i, i ≤ 17 → wvI (dpt i) r = true
  lt : ∀ i, i < 17 → fgt .f32 (narrow (wvL (dpt (i + 1)) r)) (narrow (wvL (dpt i) r)) = false
  one : wvU (dpt 0) r = true
theorem fc_at {v : Nat} {f : Nat → Bool} (h : fc v f = true) : f v = true := by rw [fc_eq] at h; exact h
theorem wvRow_fn {g : Nat → Bool × Bool × Nat} {a b : Nat → Bool} {l : Nat → Nat} (hg : ∀ i, g i = (a i, b i, l i)) {n : Nat} {f : Nat → Bool} (h : wvRow g n f = true) : (∀ i, i ≤ n → a i = true) ∧ (∀ i, i < n → fgt .f32 (l (i + 1)) (l i) = false) ∧ b 0 = true := by
  obtain ⟨_, h2, h3, h4⟩ := wvRow_at g n f h
  refine ⟨fun i hi => ?_, fun i hi => ?_, ?_⟩
  · have := h2 i hi; rw [hg] at this; exact this
  · have := h3 i hi; rw [hg, hg] at this; exact this
  · rw [hg] at h4; exact h4
theorem wvRow_g {r n : Nat} {f : Nat → Bool} (h : wvRow (fun i => wvOne (dpt i) r) n f = true) (hn : n = 17) : WvG r := by
  obtain ⟨h1, h2, h3⟩ := wvRow_fn (fun i => wvOne_eq (dpt i) r) h
  subst hn
  exact ⟨h1, h2, h3⟩
theorem wvGood_at {j : Nat} (h : wvGood j = true) : WvG (rch j) := wvRow_g (fc_at h) rfl
end Go.Proofs.Ytpnkapdemgieaaa
set_option linter.unusedSimpArgs false
set_option linter.unusedVariables false
set_option linter.unusedSectionVars false
namespace Go.Proofs.Ytpnkapdemgieaaa
open Go Go.RowKit
/-- A root in 32 bits. -/
def rtW (c : Nat) : Nat := narrow (sqC (wide c))
def dpW (e h t : Nat) : Nat := rtW (fop .quo .f32 e (fop .mul .f32 (fop .mul .f32 h (cn .f32 1078530011)) t))
/-- A fin: its measure, what is left at its end, its share. -/
def fiM (l e t a : Nat) : Nat := fop .mul .f32 l (rtW (fop .quo .f32 (fop .mul .f32 (cn .f32 1073741824) a) (fop .mul .f32 e t)))
def fiN (l e t a : Nat) : Nat := fneg .f32 (fop .mul .f32 (cn .f32 1073741824) (fiM l e t a))
/-- Worked out step by step, where what is left is told by the series. -/
def fiAll {α : Type} (l e t a : Nat) (f : Bool → Nat → α) : α :=
  fc (fop .quo .f32 (fop .mul .f32 (cn .f32 1073741824) a) (fop .mul .f32 e t)) fun q => fc (sqC (wide q)) fun R => fc (narrow R) fun r => fc (fop .mul .f32 l r) fun m => fc (fneg .f32 (fop .mul .f32 (cn .f32 1073741824) m)) fun N => fc (wide N) fun n => exVE n fun x => fc (narrow x) fun E =>
    fc (fop .quo .f32 (fop .quo .f32 (fop .sub .f32 (cn .f32 1065353216) E) (fop .add .f32 (cn .f32 1065353216) E)) m) fun v => f (fits R && feq .f64 n n && !fgt .f64 n (cn .f64 4641240890982006784) && !flt .f64 n (cn .f64 13864612927836782592) && fits x) v
/-- The same, in the words above, if what is left is so told. -/
def fiV (l e t a : Nat) : Nat := fop .quo .f32 (fop .quo .f32 (fop .sub .f32 (cn .f32 1065353216) (narrow (exV (wide (fiN l e t a))))) (fop .add .f32 (cn .f32 1065353216) (narrow (exV (wide (fiN l e t a)))))) (fiM l e t a)
def fiC (l e t a : Nat) : Bool := fits (sqC (wide (fop .quo .f32 (fop .mul .f32 (cn .f32 1073741824) a) (fop .mul .f32 e t)))) && feq .f64 (wide (fiN l e t a)) (wide (fiN l e t a)) && !fgt .f64 (wide (fiN l e t a)) (cn .f64 4641240890982006784) && !flt .f64 (wide (fiN l e t a)) (cn .f64 13864612927836782592) && fits (exV (wide (fiN l e t a)))
theorem fiAll_eq {α : Type} (l e t a : Nat) (f : Bool → Nat → α) : fiAll l e t a f = f (fiC l e t a) (fiV l e t a) := by
  unfold fiAll
  simp only [fc_eq, exVE_eq]
  rfl
theorem fiC_ex {l e t a : Nat} (h : fiC l e t a = true) : exG (wide (fiN l e t a)) = exV (wide (fiN l e t a)) := by
  unfold fiC at h
  simp only [Bool.and_eq_true, Bool.not_eq_true'] at h
  obtain ⟨⟨⟨_, h1⟩, h2⟩, _⟩ := h
  unfold exG
  rw [h1, h2]; rfl
/-- Depths of waves. -/
def dpAll {α : Type} (e h t : Nat) (f : Bool → Nat → α) : α := fc (fop .quo .f32 e (fop .mul .f32 (fop .mul .f32 h (cn .f32 1078530011)) t)) fun q => fc (sqC (wide q)) fun R => fc (narrow R) fun r => f (fits R) r
def dpC (e h t : Nat) : Bool := fits (sqC (wide (fop .quo .f32 e (fop .mul .f32 (fop .mul .f32 h (cn .f32 1078530011)) t))))
theorem dpAll_eq {α : Type} (e h t : Nat) (f : Bool → Nat → α) : dpAll e h t f = f (dpC e h t) (dpW e h t) := by
  unfold dpAll
  simp only [fc_eq]
  rfl
/-- What is asked of depths and fins. -/
def dfOk (first second short long : Nat) : Bool :=
  fin .f32 first && fin .f32 second && fin .f32 short && fin .f32 long &&
  (fin .f64 (fop .sub .f64 (wide first) (fop .mul .f64 (cn .f64 4611686018427387904) (wide second))) && fin .f64 (fop .sub .f64 (fop .mul .f64 (cn .f64 4611686018427387904) (wide second)) (wide first))) &&
  !fgt .f64 (gap8 (wide first) (fop .mul .f64 (cn .f64 4611686018427387904) (wide second))) (fop .mul .f64 (cn .f64 4562254508917369340) (fop .add .f64 (cn .f64 4607182418800017408) (wide first))) &&
  !fle .f32 short (cn .f32 0) && !fgt .f64 (wide short) (cn .f64 4607186922399644778) && !fgt .f32 long short
def dfAll (r : Nat) : Bool :=
  dpAll r (cn .f32 1065353216) (cn .f32 1048576000) fun a first => dpAll r (cn .f32 1065353216) (cn .f32 1065353216) fun b second =>
    fiAll (cn .f32 1048576000) r (cn .f32 1040187392) (cn .f32 1031798784) fun c short => fiAll (cn .f32 1073741824) r (cn .f32 1040187392) (cn .f32 1031798784) fun d long => abv r && a && b && c && d && dfOk first second short long
structure DfG (r : Nat) : Prop where
  abv : abv r = true
  a : dpC r (cn .f32 1065353216) (cn .f32 1048576000) = true
  b : dpC r (cn .f32 1065353216) (cn .f32 1065353216) = true
  c : fiC (cn .f32 1048576000) r (cn .f32 1040187392) (cn .f32 1031798784) = true
  d : fiC (cn .f32 1073741824) r (cn .f32 1040187392) (cn .f32 1031798784) = true
  ok : dfOk (dpW r (cn .f32 1065353216) (cn .f32 1048576000)) (dpW r (cn .f32 1065353216) (cn .f32 1065353216)) (fiV (cn .f32 1048576000) r (cn .f32 1040187392) (cn .f32 1031798784)) (fiV (cn .f32 1073741824) r (cn .f32 1040187392) (cn .f32 1031798784)) = true
theorem dfAll_g {r : Nat} (h : dfAll r = true) : DfG r := by
  unfold dfAll at h
  rw [dpAll_eq, dpAll_eq, fiAll_eq, fiAll_eq] at h
  simp only [Bool.and_eq_true] at h
  obtain ⟨⟨⟨⟨⟨h1, h2⟩, h3⟩, h4⟩, h5⟩, h6⟩ := h
  exact ⟨h1, h2, h3, h4, h5, h6⟩
def dfGood (j : Nat) : Bool := fc (rch j) dfAll
theorem dfGood_at {j : Nat} (h : dfGood j = true) : DfG (rch j) := dfAll_g (fc_at h)
end Go.Proofs.Ytpnkapdemgieaaa
set_option linter.unusedSimpArgs false
set_option linter.unusedVariables false
set_option linter.unusedSectionVars false
namespace Go.Proofs.Ytpnkapdemgieaaa
open Go Go.RowKit
open Go.ChangeShapes Go.WideShapes Go.ChangeAt Go.RowKit Go.Joins
theorem FS3 {w : World} {b x y z : Nat} (h : w.cell? ⟨b, 0, none⟩ = some (.float .f32 x)) (h2 : w.cell? ⟨b, 1, none⟩ = some (.float .f32 y)) (h3 : w.cell? ⟨b, 2, none⟩ = some (.float .f32 z)) : FS w (.slice (some ⟨b, 0, none⟩) 3 3) [x, y, z] := by
  refine FS_of (o := 0) (n := 3) (c := 3) rfl (by omega) (by omega) fun i hi => ?_
  rcases (show i = 0 ∨ i = 1 ∨ i = 2 by omega) with rfl | rfl | rfl
  · exact h
  · exact h2
  · exact h3
theorem FS4 {w : World} {b x y z u : Nat} (h : w.cell? ⟨b, 0, none⟩ = some (.float .f32 x)) (h2 : w.cell? ⟨b, 1, none⟩ = some (.float .f32 y)) (h3 : w.cell? ⟨b, 2, none⟩ = some (.float .f32 z)) (h4 : w.cell? ⟨b, 3, none⟩ = some (.float .f32 u)) : FS w (.slice (some ⟨b, 0, none⟩) 4 4) [x, y, z, u] := by
  refine FS_of (o := 0) (n := 4) (c := 4) rfl (by omega) (by omega) fun i hi => ?_
  rcases (show i = 0 ∨ i = 1 ∨ i = 2 ∨ i = 3 by omega) with rfl | rfl | rfl | rfl
  · exact h
  · exact h2
  · exact h3
  · exact h4
theorem arePos3_yes (x y z : Nat) (v : Value) (w : World) (hs : FS w v [x, y, z]) (h1 : abv (cn .f32 x) = true) (h2 : abv (cn .f32 y) = true) (h3 : abv (cn .f32 z) = true) : Calls Try.prog 45 #[v] w (RB w true) := by
  have h := arePositive_any [x, y, z] v w hs
  simp only [abv_neg, List.any_cons, List.any_nil, Bool.or_false, h1, h2, h3, Bool.not_true, Bool.not_false] at h
  exact h
theorem arePos4_yes (x y z u : Nat) (v : Value) (w : World) (hs : FS w v [x, y, z, u]) (h1 : abv (cn .f32 x) = true) (h2 : abv (cn .f32 y) = true) (h3 : abv (cn .f32 z) = true) (h4 : abv (cn .f32 u) = true) : Calls Try.prog 45 #[v] w (RB w true) := by
  have h := arePositive_any [x, y, z, u] v w hs
  simp only [abv_neg, List.any_cons, List.any_nil, Bool.or_false, h1, h2, h3, h4, Bool.not_true, Bool.not_false] at h
  exact h
theorem swRoot_any (x : Nat) (w : World) (h : fits (sqC (wide (cn .f32 x))) = true) : Calls Try.prog 62 #[.float .f32 x] w (RF w .f32 (rtW (cn .f32 x))) := by
  have HF := Lib.hid h
  have HR : Hid (∀ r w, cn .f64 r = wide (cn .f32 x) → Calls Try.prog 63 #[.float .f64 r] w (RF w .f64 (sqC (wide (cn .f32 x))))) := fun r w h => by
    have h2 := swSqrt_any r w
    rw [h] at h2
    exact h2
  have HC : Hid (rtW (cn .f32 x) = narrow (sqC (wide (cn .f32 x)))) := rfl
  rw [HC.out]
  clear h
  generalize sqC (wide (cn .f32 x)) = V at *
  go_enter Try.func62, Try.ntmps62
  go_wp2_with (first | (with_reducible refine at_list ?_; refine wpList_fop rfl rfl rfl rfl rfl ?_; intro r n hr0; have hr := hr0 _ _ (by first | with_reducible assumption | exact rfl) (by first | with_reducible assumption | exact rfl); clear hr0) | (with_reducible refine at_list ?_; refine wpList_neg rfl rfl rfl ?_; intro r hr0; have hr := hr0 _ (by first | with_reducible assumption | exact rfl); clear hr0) | (with_reducible refine at_list ?_; refine wpList_fop_g rfl rfl rfl rfl rfl ?_; intro r n hr0; have hr := hr0 _ _ (by first | with_reducible assumption | exact rfl) (by first | with_reducible assumption | exact rfl); clear hr0) | (with_reducible refine at_list ?_; refine wpList_wide_g rfl rfl Try.underlying28 Try.underlying39 rfl ?_; intro r n hr0; have hr := hr0 _ (by first | with_reducible assumption | exact rfl); clear hr0) | (with_reducible refine at_list ?_; refine wpList_wide rfl rfl rfl Try.underlying28 Try.underlying39 ?_; intro r n hr0; have hr := hr0 _ (by first | with_reducible assumption | exact rfl); clear hr0) | (with_reducible refine at_list ?_; refine wpList_narrow rfl rfl rfl Try.underlying39 Try.underlying28 (by with_reducible assumption) HF.out ?_; intro r n hr) | (go_at_call 63; refine ((HR.out _ _ (by assumption)) ).mono ?_; rintro e w' ⟨r, rfl, hr, n, rfl⟩))
  go_ret
  exact ⟨_, rfl, by assumption, _, rfl⟩
/-- A number, and that it is finite. -/
theorem rfb_bv {P : Program} {f : FuncId} {args : Array Value} {w : World} {v : Nat} (h : Calls P f args w (RFB w .f32 (chk v) (fin .f32 v))) (h1 : fin .f32 v = true) : Calls P f args w (RFB w .f32 v true) := by
  rw [h1, show chk v = v by unfold chk; rw [if_pos h1]] at h
  exact h
theorem waveDepth_yes (e h t : Nat) (w : World) (h1 : abv (cn .f32 e) = true) (h2 : abv (cn .f32 h) = true) (h3 : abv (cn .f32 t) = true) (hc : dpC (cn .f32 e) (cn .f32 h) (cn .f32 t) = true) (hf : fin .f32 (dpW (cn .f32 e) (cn .f32 h) (cn .f32 t)) = true) : Calls Try.prog 28 #[.float .f32 e, .float .f32 h, .float .f32 t] w (BFB w .f32 (dpW (cn .f32 e) (cn .f32 h) (cn .f32 t)) true) := by
  have HA := Lib.hid (fun v w hs => arePos3_yes e h t v w hs h1 h2 h3)
  have HR : Hid (∀ x w, cn .f32 x = fop .quo .f32 (cn .f32 e) (fop .mul .f32 (fop .mul .f32 (cn .f32 h) (cn .f32 1078530011)) (cn .f32 t)) → Calls Try.prog 62 #[.float .f32 x] w (RF w .f32 (dpW (cn .f32 e) (cn .f32 h) (cn .f32 t)))) := fun x w hx => by
    have := swRoot_any x w (by rw [hx]; exact hc)
    rw [hx] at this
    exact this
  have HK : Hid (∀ x w, cn .f32 x = dpW (cn .f32 e) (cn .f32 h) (cn .f32 t) → Calls Try.prog 47 #[.float .f32 x] w (RFB w .f32 (dpW (cn .f32 e) (cn .f32 h) (cn .f32 t)) true)) := fun x w hx => by
    have := checked_any x w
    rw [hx] at this
    exact rfb_bv this hf
  clear h1 h2 h3 hc hf
  generalize dpW (cn .f32 e) (cn .f32 h) (cn .f32 t) = V at *
  go_enter Try.func28, Try.ntmps28
  go_wp2_with (first | (with_reducible refine at_list ?_; refine wpList_fop rfl rfl rfl rfl rfl ?_; intro r n hr0; have hr := hr0 _ _ (by first | with_reducible assumption | exact rfl) (by first | with_reducible assumption | exact rfl); clear hr0) | (with_reducible refine at_list ?_; refine wpList_neg rfl rfl rfl ?_; intro r hr0; have hr := hr0 _ (by first | with_reducible assumption | exact rfl); clear hr0) | (with_reducible refine at_list ?_; refine wpList_fop_g rfl rfl rfl rfl rfl ?_; intro r n hr0; have hr := hr0 _ _ (by first | with_reducible assumption | exact rfl) (by first | with_reducible assumption | exact rfl); clear hr0) | (with_reducible refine at_list ?_; refine wpList_wide_g rfl rfl Try.underlying28 Try.underlying39 rfl ?_; intro r n hr0; have hr := hr0 _ (by first | with_reducible assumption | exact rfl); clear hr0) | (with_reducible refine at_list ?_; refine wpList_wide rfl rfl rfl Try.underlying28 Try.underlying39 ?_; intro r n hr0; have hr := hr0 _ (by first | with_reducible assumption | exact rfl); clear hr0) | (go_at_call 45; refine ((HA.out _ _ (FS3 (by go_simp <;> exact rfl) (by go_simp <;> exact rfl) (by go_simp <;> exact rfl))) ).mono ?_; rintro e w' ⟨rfl, n, rfl⟩) | (go_at_call 62; refine ((HR.out _ _ (by with_reducible assumption)) ).mono ?_; rintro e w' ⟨r, rfl, hr, n, rfl⟩) | (go_at_call 47; refine ((HK.out _ _ (by with_reducible assumption)) ).mono ?_; rintro e w' ⟨r, rfl, hr, n, rfl⟩))
  go_ret2
  exact ⟨_, rfl, by assumption, by (repeat (first | (with_reducible exact Below.refl _ _) | (with_reducible assumption) | (with_reducible refine below_then ?_ (by assumption)) | (with_reducible refine Below.trans ?_ (by assumption)) | (with_reducible refine below_drewN ?_ _) | (with_reducible apply Below.drew) | (with_reducible refine below_alloc ?_ _) | refine Below.setCell ?_ (by first | (simp; done) | (simp; omega)) _))⟩
theorem finShare_yes (l e t a : Nat) (w : World) (h1 : abv (cn .f32 l) = true) (h2 : abv (cn .f32 e) = true) (h3 : abv (cn .f32 t) = true) (h4 : abv (cn .f32 a) = true) (hc : fiC (cn .f32 l) (cn .f32 e) (cn .f32 t) (cn .f32 a) = true) (hf : fin .f32 (fiV (cn .f32 l) (cn .f32 e) (cn .f32 t) (cn .f32 a)) = true) : Calls Try.prog 29 #[.float .f32 l, .float .f32 e, .float .f32 t, .float .f32 a] w (BFB w .f32 (fiV (cn .f32 l) (cn .f32 e) (cn .f32 t) (cn .f32 a)) true) := by
  have HA := Lib.hid (fun v w hs => arePos4_yes l e t a v w hs h1 h2 h3 h4)
  have eE := fiC_ex hc
  have HV : Hid (fiV (cn .f32 l) (cn .f32 e) (cn .f32 t) (cn .f32 a) = fop .quo .f32 (fop .quo .f32 (fop .sub .f32 (cn .f32 1065353216) (narrow (exV (wide (fiN (cn .f32 l) (cn .f32 e) (cn .f32 t) (cn .f32 a)))))) (fop .add .f32 (cn .f32 1065353216) (narrow (exV (wide (fiN (cn .f32 l) (cn .f32 e) (cn .f32 t) (cn .f32 a))))))) (fiM (cn .f32 l) (cn .f32 e) (cn .f32 t) (cn .f32 a))) := rfl
  have HM : Hid (fiM (cn .f32 l) (cn .f32 e) (cn .f32 t) (cn .f32 a) = fop .mul .f32 (cn .f32 l) (rtW (fop .quo .f32 (fop .mul .f32 (cn .f32 1073741824) (cn .f32 a)) (fop .mul .f32 (cn .f32 e) (cn .f32 t))))) := rfl
  have HN : Hid (fiN (cn .f32 l) (cn .f32 e) (cn .f32 t) (cn .f32 a) = fneg .f32 (fop .mul .f32 (cn .f32 1073741824) (fiM (cn .f32 l) (cn .f32 e) (cn .f32 t) (cn .f32 a)))) := rfl
  have hc' := hc
  unfold fiC at hc'
  simp only [Bool.and_eq_true] at hc'
  obtain ⟨⟨⟨⟨c1, c2⟩, c3⟩, c4⟩, c5⟩ := hc'
  have HR : Hid (∀ x w, cn .f32 x = fop .quo .f32 (fop .mul .f32 (cn .f32 1073741824) (cn .f32 a)) (fop .mul .f32 (cn .f32 e) (cn .f32 t)) → Calls Try.prog 62 #[.float .f32 x] w (RF w .f32 (rtW (fop .quo .f32 (fop .mul .f32 (cn .f32 1073741824) (cn .f32 a)) (fop .mul .f32 (cn .f32 e) (cn .f32 t)))))) := fun x w hx => by
    have := swRoot_any x w (by rw [hx]; exact c1)
    rw [hx] at this
    exact this
  have HE : Hid (∀ x w, cn .f32 x = fiN (cn .f32 l) (cn .f32 e) (cn .f32 t) (cn .f32 a) → Calls Try.prog 61 #[.float .f32 x] w (BF w .f32 (narrow (exV (wide (fiN (cn .f32 l) (cn .f32 e) (cn .f32 t) (cn .f32 a))))))) := fun x w hx => by
    have := implExp_g x w (by rw [hx]; exact c2) (by rw [hx, eE]; exact c5)
    rw [hx, eE] at this
    exact this
  rw [HN.out] at HE
  have HK : Hid (∀ x w, cn .f32 x = fiV (cn .f32 l) (cn .f32 e) (cn .f32 t) (cn .f32 a) → Calls Try.prog 47 #[.float .f32 x] w (RFB w .f32 (fiV (cn .f32 l) (cn .f32 e) (cn .f32 t) (cn .f32 a)) true)) := fun x w hx => by
    have := checked_any x w
    rw [hx] at this
    exact rfb_bv this hf
  rw [HV.out] at HK ⊢
  rw [HN.out] at HK ⊢
  clear HV HN h1 h2 h3 h4 hc hf eE c1 c2 c3 c4 c5
  rw [HM.out] at HE HK ⊢
  clear HM
  generalize narrow (exV _) = E at *
  generalize rtW _ = R at *
  go_enter Try.func29, Try.ntmps29
  go_wp2_with (first | (with_reducible refine at_list ?_; refine wpList_fop rfl rfl rfl rfl rfl ?_; intro r n hr0; have hr := hr0 _ _ (by first | with_reducible assumption | exact rfl) (by first | with_reducible assumption | exact rfl); clear hr0) | (with_reducible refine at_list ?_; refine wpList_neg rfl rfl rfl ?_; intro r hr0; have hr := hr0 _ (by first | with_reducible assumption | exact rfl); clear hr0) | (with_reducible refine at_list ?_; refine wpList_fop_g rfl rfl rfl rfl rfl ?_; intro r n hr0; have hr := hr0 _ _ (by first | with_reducible assumption | exact rfl) (by first | with_reducible assumption | exact rfl); clear hr0) | (with_reducible refine at_list ?_; refine wpList_wide_g rfl rfl Try.underlying28 Try.underlying39 rfl ?_; intro r n hr0; have hr := hr0 _ (by first | with_reducible assumption | exact rfl); clear hr0) | (with_reducible refine at_list ?_; refine wpList_wide rfl rfl rfl Try.underlying28 Try.underlying39 ?_; intro r n hr0; have hr := hr0 _ (by first | with_reducible assumption | exact rfl); clear hr0) | (go_at_call 45; refine ((HA.out _ _ (FS4 (by go_simp <;> exact rfl) (by go_simp <;> exact rfl) (by go_simp <;> exact rfl) (by go_simp <;> exact rfl))) ).mono ?_; rintro e w' ⟨rfl, n, rfl⟩) | (go_at_call 62; refine ((HR.out _ _ (by with_reducible assumption)) ).mono ?_; rintro e w' ⟨r, rfl, hr, n, rfl⟩) | (go_at_call 61; refine ((HE.out _ _ (by with_reducible assumption)) ).mono ?_; rintro e w' ⟨r, rfl, hr, hb⟩; obtain ⟨hT, hk⟩ := bv_next hb (by (repeat (with_reducible first | assumption | apply Trk.alloc | apply Trk.setCell | apply Trk.drewN | apply Trk.drew | exact Trk.nil _))); simp only [SameOn, World.size_alloc, World.size_setCell, World.size_drew, size_drewN', and_true] at hk; have hsz := Below.size hb; (try simp only [World.size_alloc, World.size_setCell, World.size_drew, size_drewN'] at hsz)) | (go_at_call 47; refine ((HK.out _ _ (by with_reducible assumption)) ).mono ?_; rintro e w' ⟨r, rfl, hr, n, rfl⟩))
  go_ret2
  exact ⟨_, rfl, by assumption, by (repeat (first | (with_reducible exact Below.refl _ _) | (with_reducible assumption) | (with_reducible refine below_then ?_ (by assumption)) | (with_reducible refine Below.trans ?_ (by assumption)) | (with_reducible refine below_drewN ?_ _) | (with_reducible apply Below.drew) | (with_reducible refine below_alloc ?_ _) | refine Below.setCell ?_ (by first | (simp; done) | (simp; omega)) _))⟩
end Go.Proofs.Ytpnkapdemgieaaa
set_option linter.unusedSimpArgs false
set_option linter.unusedVariables false
set_option linter.unusedSectionVars false
namespace Go.Proofs.Ytpnkapdemgieaaa
set_option maxRecDepth 100000 in
theorem dfGood_all : ∀ j : Nat, j < 16 → dfGood j = true := by decide +kernel
set_option maxRecDepth 100000 in
theorem dpt_next : ∀ i : Nat, i < 17 → fop .add .f32 (dpt i) (cn .f32 1040187392) = dpt (i + 1) ∧ lst (dpt i) = true := by decide +kernel
set_option maxRecDepth 100000 in
theorem dpt_17 : lst (dpt 17) = true := by decide +kernel
set_option maxRecDepth 100000 in
theorem dpt_0 : dpt 0 = cn .f32 0 := by decide +kernel
end Go.Proofs.Ytpnkapdemgieaaa

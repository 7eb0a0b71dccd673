/-
  A rod a tick later by rows of equations: the program's way. No condition but what each contract says.
  slices.IndexFunc and ContainsFunc at a closure with one captured variable, whose calls may make memory. No condition but what each contract says.
  How warm a rod is at a place (the program's and the reference's). No condition but what each contract says.
  Sums of lists of numbers (the program's and the reference's). No condition but what each contract says.
  The longest tick that is safe for a rod (the program's and the reference's), and the law: true for every input. No condition but what each contract says.
-/
import Derived.Test.YtpnkapdemgieaaaRM6
import Derived.Test.YtpnkapdemgieaaaRM5
import Derived.Deep.CutRange
import Derived.Test.YtpnkapdemgieaaaRM2
import Derived.Test.YtpnkapdemgieaaaRM4
set_option linter.unusedSimpArgs false
set_option linter.unusedVariables false
set_option linter.unusedSectionVars false
namespace Go.Proofs.Ytpnkapdemgieaaa
open Go Go.RowKit
open Go.ChangeShapes Go.WideShapes Go.ChangeAt Go.RowKit Go.Joins
theorem map_atR {ys L : List Nat} (h : ys.map (cn .f32) = L) {i : Nat} (hi : i < ys.length) : cn .f32 (ys.getD i 0) = L.getD i 0 := by
  rw [← h, List.getD_eq_getElem?_getD, List.getD_eq_getElem?_getD, List.getElem?_map, List.getElem?_eq_getElem hi]; rfl
def pG (P : Rd) (E G : EndT) (i : Nat) : Nat := (passL P E G).getD i 0
def rwW (P : Rd) (t i : Nat) : Nat := fop .quo .f32 (fop .mul .f32 (cn .f32 (P.a.getD i 0)) (cn .f32 (P.c.getD i 0))) (cn .f32 t)
def rwB (P : Rd) (E G : EndT) (i : Nat) : Nat := fneg .f32 (pG P E G i)
def rwA (P : Rd) (E G : EndT) (t i : Nat) : Nat := fop .add .f32 (fop .add .f32 (rwW P t i) (pG P E G i)) (pG P E G (i + 1))
def rwX (P : Rd) (E G : EndT) (i : Nat) : Nat := fneg .f32 (pG P E G (i + 1))
def rwS0 (P : Rd) (t i : Nat) : Nat := fop .mul .f32 (rwW P t i) (cn .f32 (P.d.getD i 0))
def rwS1 (P : Rd) (E G : EndT) (t i : Nat) : Nat := if i = 0 then fop .add .f32 (rwS0 P t i) (fop .mul .f32 (pG P E G 0) (cn .f32 E.t)) else rwS0 P t i
def rwS (P : Rd) (E G : EndT) (t i : Nat) : Nat := if i + 1 = P.a.length then fop .add .f32 (rwS1 P E G t i) (fop .mul .f32 (pG P E G (i + 1)) (cn .f32 G.t)) else rwS1 P E G t i
def rwsL (P : Rd) (E G : EndT) (t : Nat) : List Nat := solL (rwB P E G) (rwA P E G t) (rwX P E G) (rwS P E G t) P.a.length
def rwsR (P : Rd) (E G : EndT) (t : Nat) : Rd := ⟨P.a, P.b, P.c, rwsL P E G t⟩
def rwsPre (P : Rd) (E G : EndT) (t : Nat) : Bool := passOk P E G && abv (cn .f32 t)
def rwsOk (P : Rd) (E G : EndT) (t : Nat) : Bool := rwsPre P E G t && (rwsR P E G t).ok
theorem passL_lenR {P : Rd} {E G : EndT} (h : 1 ≤ P.a.length) : (passL P E G).length = P.a.length + 1 := by
  unfold passL passK
  simp
  omega
/-- k rows, as they are made. -/
def rwQ (b a x s : Nat → Nat) (k : Nat) (zs : List Nat) : Prop := ∀ j, j < k → cn .f32 (zs.getD (j * 4) 0) = b j ∧ cn .f32 (zs.getD (j * 4 + 1) 0) = a j ∧ cn .f32 (zs.getD (j * 4 + 2) 0) = x j ∧ cn .f32 (zs.getD (j * 4 + 3) 0) = s j
theorem getD_app_lt {xs ys : List Nat} {i : Nat} (h : i < xs.length) : (xs ++ ys).getD i 0 = xs.getD i 0 := by
  rw [List.getD_eq_getElem?_getD, List.getD_eq_getElem?_getD, List.getElem?_append_left h]
theorem getD_app_ge {xs ys : List Nat} {i n : Nat} (h : xs.length = n) : (xs ++ ys).getD (n + i) 0 = ys.getD i 0 := by
  rw [List.getD_eq_getElem?_getD, List.getD_eq_getElem?_getD, List.getElem?_append_right (by omega), h, Nat.add_sub_cancel_left]
theorem rwQ_step {b a x s : Nat → Nat} {k : Nat} {zs : List Nat} (h : rwQ b a x s k zs) (hl : zs.length = k * 4) {r0 r1 r2 r3 : Nat} (h0 : cn .f32 r0 = b k) (h1 : cn .f32 r1 = a k) (h2 : cn .f32 r2 = x k) (h3 : cn .f32 r3 = s k) : rwQ b a x s (k + 1) (zs ++ [r0, r1, r2, r3]) := fun j hj => by
  by_cases hjk : j < k
  · rw [getD_app_lt (by omega), getD_app_lt (by omega), getD_app_lt (by omega), getD_app_lt (by omega)]
    exact h j hjk
  · obtain rfl : j = k := by omega
    have e := fun i => getD_app_ge (ys := [r0, r1, r2, r3]) (i := i) hl
    have e0 := e 0
    rw [Nat.add_zero] at e0
    rw [e0, e 1, e 2, e 3]
    exact ⟨h0, h1, h2, h3⟩
/-- What is known of a rod with other warmths, whatever words stand for them. -/
theorem withWarms_known (P : Rd) (l : RL) (L ys : List Nat) (v : Value) (w : World) (hs : P.fs w l) (hv : FS w v ys) (hP : P.ok = true) (hm : ys.map (cn .f32) = L) (hl : ys.length = P.a.length) (hc : L.map (cn .f32) = L) (R0 : Rd) (hR0 : R0 = Rd.mk P.a P.b P.c L) : Calls Try.prog 40 #[.agg #[.slice l.p1 P.a.length l.c1, .slice l.p2 P.b.length l.c2, .slice l.p3 P.c.length l.c3, .slice l.p4 P.d.length l.c4], v] w (BRB w (okR R0.ok R0) R0.ok) := by
  have hn := Rd.ok_len hP
  have hN : (1 ≤ P.a.length ∧ P.a.length ≤ 1048576) ∧ (1 ≤ P.b.length ∧ P.b.length ≤ 1048576) ∧ (1 ≤ P.c.length ∧ P.c.length ≤ 1048576) ∧ 1 ≤ ys.length ∧ ys.length ≤ 1048576 := by omega
  obtain ⟨e1, e2⟩ := ok_with hP hm hl hc
  rw [← hR0] at e1
  cases ho : R0.ok
  · rw [ho] at e1
    refine (withWarms_no P l ys v w hs hv hN e1).mono ?_
    rintro e w' ⟨rfl, hb⟩
    exact ⟨nilRL, rfl, hb, nilRd_rx _ _ _⟩
  · rw [ho] at e1
    have hy := e2 e1
    subst hy
    rw [okR_yes rfl, hR0]
    exact withWarms_yes P l ys v w hs hv hN e1
set_option maxHeartbeats 16000000 in
set_option maxRecDepth 100000 in
theorem implRows_any (P : Rd) (l : RL) (E G : EndT) (t : Nat) (w : World) (hs : P.fs w l) : Calls Try.prog 12 #[.agg #[.slice l.p1 P.a.length l.c1, .slice l.p2 P.b.length l.c2, .slice l.p3 P.c.length l.c3, .slice l.p4 P.d.length l.c4], .agg #[.int .i64 E.k, .float .f32 E.t, .float .f32 E.e], .agg #[.int .i64 G.k, .float .f32 G.t, .float .f32 G.e], .float .f32 t] w (fun e w' => ∃ R m b, (R = okR b (rwsR P E G t) ∧ b = rwsOk P E G t) ∧ e = .returned (.tuple #[.agg #[.slice m.p1 R.a.length m.c1, .slice m.p2 R.b.length m.c2, .slice m.p3 R.c.length m.c3, .slice m.p4 R.d.length m.c4], .bool b]) ∧ Below w.heap.size w w' ∧ RdX w.heap.size w'.heap.size w' R m) := by
  have HS := Lib.hid hs
  have HF := Lib.hid (fun w h => implPasses_any P l E G w h)
  rcases h0 : passOk P E G
  · rw [h0] at HF
    have HE : Hid (rwsOk P E G t = false) := by show _ = _; simp [rwsOk, rwsPre, h0]
    clear hs
    go_enter Try.func12, Try.ntmps12
    go_wp2_with (first | (with_reducible refine at_list ?_; refine wpList_fop rfl rfl rfl rfl rfl ?_; intro r n hr0; have hr := hr0 _ _ (by first | with_reducible assumption | exact rfl) (by first | with_reducible assumption | exact rfl); clear hr0) | (with_reducible refine at_list ?_; refine wpList_neg rfl rfl rfl ?_; intro r hr0; have hr := hr0 _ (by first | with_reducible assumption | exact rfl); clear hr0) | (with_reducible refine at_list ?_; refine wpList_fop_g rfl rfl rfl rfl rfl ?_; intro r n hr0; have hr := hr0 _ _ (by first | with_reducible assumption | exact rfl) (by first | with_reducible assumption | exact rfl); clear hr0) | (with_reducible refine at_list ?_; refine wpList_wide_g rfl rfl Try.underlying28 Try.underlying39 rfl ?_; intro r n hr0; have hr := hr0 _ (by first | with_reducible assumption | exact rfl); clear hr0) | (with_reducible refine at_list ?_; refine wpList_wide rfl rfl rfl Try.underlying28 Try.underlying39 ?_; intro r n hr0; have hr := hr0 _ (by first | with_reducible assumption | exact rfl); clear hr0) | (go_at_call 42; refine ((HF.out _ (HS.out.later (by (repeat (first | (with_reducible exact Below.refl _ _) | (with_reducible assumption) | (with_reducible refine below_then ?_ (by assumption)) | (with_reducible refine Below.trans ?_ (by assumption)) | (with_reducible refine below_drewN ?_ _) | (with_reducible apply Below.drew) | (with_reducible refine below_alloc ?_ _) | refine Below.setCell ?_ (by first | (simp; done) | (simp; omega)) _))))) ).mono ?_; rintro e w' ⟨u, ys, rfl, hb, hO, hL⟩; obtain ⟨pu, cu, rfl⟩ := OF.shape hO; (try simp only [World.size_alloc, World.size_setCell, World.size_drew, World.drewN] at hO); obtain ⟨hT, hk⟩ := bv_next hb (by (repeat (with_reducible first | assumption | apply Trk.alloc | apply Trk.setCell | apply Trk.drewN | apply Trk.drew | exact Trk.nil _))); simp only [SameOn, World.size_alloc, World.size_setCell, World.size_drew, size_drewN', and_true] at hk; have hsz := Below.size hb; (try simp only [World.size_alloc, World.size_setCell, World.size_drew, size_drewN'] at hsz)) | (go_at_call 45; refine (arePositive_any _ _ _ (by assumption)).mono ?_; rintro e w' ⟨rfl, n, rfl⟩))
    all_goals
      refine bodyPost_ret (v := .tuple #[.agg #[.slice none 0 0, .slice none 0 0, .slice none 0 0, .slice none 0 0], .bool false]) (by simp [results, Try.results12, go_sem, *]) rfl ?_
      exact ⟨nilRd, nilRL, false, ⟨(okR_no rfl).symm, HE.out.symm⟩, rfl, by (repeat (first | (with_reducible exact Below.refl _ _) | (with_reducible assumption) | (with_reducible refine below_then ?_ (by assumption)) | (with_reducible refine Below.trans ?_ (by assumption)) | (with_reducible refine below_drewN ?_ _) | (with_reducible apply Below.drew) | (with_reducible refine below_alloc ?_ _) | refine Below.setCell ?_ (by first | (simp; done) | (simp; omega)) _)), nilRd_rx _ _ _⟩
  have hen : endsOk P E G = true := by unfold passOk at h0; rw [Bool.and_eq_true] at h0; exact h0.1
  rw [h0, passI_ok hen] at HF
  have HP := Lib.hid (endsOk_rod hen)
  rcases h1 : abv (cn .f32 t)
  · have HE : Hid (rwsOk P E G t = false) := by show _ = _; simp [rwsOk, rwsPre, h1]
    clear hs h0 hen
    go_enter Try.func12, Try.ntmps12
    go_wp2_with (first | (with_reducible refine at_list ?_; refine wpList_fop rfl rfl rfl rfl rfl ?_; intro r n hr0; have hr := hr0 _ _ (by first | with_reducible assumption | exact rfl) (by first | with_reducible assumption | exact rfl); clear hr0) | (with_reducible refine at_list ?_; refine wpList_neg rfl rfl rfl ?_; intro r hr0; have hr := hr0 _ (by first | with_reducible assumption | exact rfl); clear hr0) | (with_reducible refine at_list ?_; refine wpList_fop_g rfl rfl rfl rfl rfl ?_; intro r n hr0; have hr := hr0 _ _ (by first | with_reducible assumption | exact rfl) (by first | with_reducible assumption | exact rfl); clear hr0) | (with_reducible refine at_list ?_; refine wpList_wide_g rfl rfl Try.underlying28 Try.underlying39 rfl ?_; intro r n hr0; have hr := hr0 _ (by first | with_reducible assumption | exact rfl); clear hr0) | (with_reducible refine at_list ?_; refine wpList_wide rfl rfl rfl Try.underlying28 Try.underlying39 ?_; intro r n hr0; have hr := hr0 _ (by first | with_reducible assumption | exact rfl); clear hr0) | (go_at_call 42; refine ((HF.out _ (HS.out.later (by (repeat (first | (with_reducible exact Below.refl _ _) | (with_reducible assumption) | (with_reducible refine below_then ?_ (by assumption)) | (with_reducible refine Below.trans ?_ (by assumption)) | (with_reducible refine below_drewN ?_ _) | (with_reducible apply Below.drew) | (with_reducible refine below_alloc ?_ _) | refine Below.setCell ?_ (by first | (simp; done) | (simp; omega)) _))))) ).mono ?_; rintro e w' ⟨u, ys, rfl, hb, hO, hL⟩; obtain ⟨pu, cu, rfl⟩ := OF.shape hO; (try simp only [World.size_alloc, World.size_setCell, World.size_drew, World.drewN] at hO); obtain ⟨hT, hk⟩ := bv_next hb (by (repeat (with_reducible first | assumption | apply Trk.alloc | apply Trk.setCell | apply Trk.drewN | apply Trk.drew | exact Trk.nil _))); simp only [SameOn, World.size_alloc, World.size_setCell, World.size_drew, size_drewN', and_true] at hk; have hsz := Below.size hb; (try simp only [World.size_alloc, World.size_setCell, World.size_drew, size_drewN'] at hsz)) | (go_at_call 45; refine ((arePos1_any _ _ _ (FS1 (by go_simp <;> exact rfl))) ).mono ?_; rintro e w' ⟨rfl, n, rfl⟩))
    all_goals
      refine bodyPost_ret (v := .tuple #[.agg #[.slice none 0 0, .slice none 0 0, .slice none 0 0, .slice none 0 0], .bool false]) (by simp [results, Try.results12, go_sem, *]) rfl ?_
      exact ⟨nilRd, nilRL, false, ⟨(okR_no rfl).symm, HE.out.symm⟩, rfl, by (repeat (first | (with_reducible exact Below.refl _ _) | (with_reducible assumption) | (with_reducible refine below_then ?_ (by assumption)) | (with_reducible refine Below.trans ?_ (by assumption)) | (with_reducible refine below_drewN ?_ _) | (with_reducible apply Below.drew) | (with_reducible refine below_alloc ?_ _) | refine Below.setCell ?_ (by first | (simp; done) | (simp; omega)) _)), nilRd_rx _ _ _⟩
  have HPRE : Hid (rwsOk P E G t = (rwsR P E G t).ok) := by show _ = _; simp [rwsOk, rwsPre, h0, h1]
  obtain ⟨hn1, hn2⟩ := (Rd.ok_len HP.out).1
  have HLN := Lib.hid (Rd.ok_len HP.out).2
  obtain ⟨b1, o1, c1, b2, o2, c2, b3, o3, c3, b4, o4, c4, rfl, HA, HB, HCC, HD⟩ := Rd.open hs HP.out
  have hq0 : IntKind.i64.wrap ((P.a.length : Int) - 1) = (P.a.length : Int) - 1 := IntWalk.i64_in _ (by omega)
  clear hs h0 HB hen
  go_enter Try.func12, Try.ntmps12
  go_wp2_with (first | (with_reducible refine at_list ?_; refine wpList_fop rfl rfl rfl rfl rfl ?_; intro r n hr0; have hr := hr0 _ _ (by first | with_reducible assumption | exact rfl) (by first | with_reducible assumption | exact rfl); clear hr0) | (with_reducible refine at_list ?_; refine wpList_neg rfl rfl rfl ?_; intro r hr0; have hr := hr0 _ (by first | with_reducible assumption | exact rfl); clear hr0) | (with_reducible refine at_list ?_; refine wpList_fop_g rfl rfl rfl rfl rfl ?_; intro r n hr0; have hr := hr0 _ _ (by first | with_reducible assumption | exact rfl) (by first | with_reducible assumption | exact rfl); clear hr0) | (with_reducible refine at_list ?_; refine wpList_wide_g rfl rfl Try.underlying28 Try.underlying39 rfl ?_; intro r n hr0; have hr := hr0 _ (by first | with_reducible assumption | exact rfl); clear hr0) | (with_reducible refine at_list ?_; refine wpList_wide rfl rfl rfl Try.underlying28 Try.underlying39 ?_; intro r n hr0; have hr := hr0 _ (by first | with_reducible assumption | exact rfl); clear hr0) | (go_at_call 42; refine stop_here ?_) | (go_at_call 42; refine (implPasses_any _ _ _ _ _ (by assumption)).mono ?_; rintro e w' ⟨u, ys, rfl, hb, hO, hL⟩; obtain ⟨pu, cu, rfl⟩ := OF.shape hO; (try simp only [World.size_alloc, World.size_setCell, World.size_drew, World.drewN] at hO); obtain ⟨hT, hk⟩ := bv_next hb (by (repeat (with_reducible first | assumption | apply Trk.alloc | apply Trk.setCell | apply Trk.drewN | apply Trk.drew | exact Trk.nil _))); simp only [SameOn, World.size_alloc, World.size_setCell, World.size_drew, size_drewN', and_true] at hk; have hsz := Below.size hb; (try simp only [World.size_alloc, World.size_setCell, World.size_drew, size_drewN'] at hsz)) | (go_at_call 45; refine (arePositive_any _ _ _ (by assumption)).mono ?_; rintro e w' ⟨rfl, n, rfl⟩))
  unfold Stop
  refine (HF.out _ (HS.out.later (by (repeat (first | (with_reducible exact Below.refl _ _) | (with_reducible assumption) | (with_reducible refine below_then ?_ (by assumption)) | (with_reducible refine Below.trans ?_ (by assumption)) | (with_reducible refine below_drewN ?_ _) | (with_reducible apply Below.drew) | (with_reducible refine below_alloc ?_ _) | refine Below.setCell ?_ (by first | (simp; done) | (simp; omega)) _))))).mono ?_
  rintro e w' ⟨u, ys0, rfl, hb, hO, hL⟩
  have hyl : ys0.length = P.a.length + 1 := by have := congrArg List.length hL; rw [passL_lenR hn1] at this; simpa using this
  obtain ⟨bm, om, cm, rfl, _, HY⟩ := FS.ptr hO.fs (by omega)
  rw [hyl]
  rw [hyl] at HY
  obtain ⟨hT, hk⟩ := bv_next hb (by (repeat (with_reducible first | assumption | apply Trk.alloc | apply Trk.setCell | apply Trk.drewN | apply Trk.drew | exact Trk.nil _))); simp only [SameOn, World.size_alloc, World.size_setCell, World.size_drew, size_drewN', and_true] at hk; have hsz := Below.size hb; (try simp only [World.size_alloc, World.size_setCell, World.size_drew, size_drewN'] at hsz)
  have HG : Hid (∀ i, i ≤ P.a.length → cn .f32 (ys0.getD i 0) = pG P E G i) := fun i hi => map_atR hL (by omega)
  have hbm : bm < w'.heap.size := World.block_lt_of_cell? _ _ (HY.out 0 (by omega))
  clear hL hyl hO HF
  rename World => wp
  go_wp2_with (first | (with_reducible refine at_list ?_; refine wpList_fop rfl rfl rfl rfl rfl ?_; intro r n hr0; have hr := hr0 _ _ (by first | with_reducible assumption | exact rfl) (by first | with_reducible assumption | exact rfl); clear hr0) | (with_reducible refine at_list ?_; refine wpList_neg rfl rfl rfl ?_; intro r hr0; have hr := hr0 _ (by first | with_reducible assumption | exact rfl); clear hr0) | (with_reducible refine at_list ?_; refine wpList_fop_g rfl rfl rfl rfl rfl ?_; intro r n hr0; have hr := hr0 _ _ (by first | with_reducible assumption | exact rfl) (by first | with_reducible assumption | exact rfl); clear hr0) | (with_reducible refine at_list ?_; refine wpList_wide_g rfl rfl Try.underlying28 Try.underlying39 rfl ?_; intro r n hr0; have hr := hr0 _ (by first | with_reducible assumption | exact rfl); clear hr0) | (with_reducible refine at_list ?_; refine wpList_wide rfl rfl rfl Try.underlying28 Try.underlying39 ?_; intro r n hr0; have hr := hr0 _ (by first | with_reducible assumption | exact rfl); clear hr0) | (go_at_call 42; refine (implPasses_any _ _ _ _ _ (by assumption)).mono ?_; rintro e w' ⟨u, ys, rfl, hb, hO, hL⟩; obtain ⟨pu, cu, rfl⟩ := OF.shape hO; (try simp only [World.size_alloc, World.size_setCell, World.size_drew, World.drewN] at hO); obtain ⟨hT, hk⟩ := bv_next hb (by (repeat (with_reducible first | assumption | apply Trk.alloc | apply Trk.setCell | apply Trk.drewN | apply Trk.drew | exact Trk.nil _))); simp only [SameOn, World.size_alloc, World.size_setCell, World.size_drew, size_drewN', and_true] at hk; have hsz := Below.size hb; (try simp only [World.size_alloc, World.size_setCell, World.size_drew, size_drewN'] at hsz)) | (go_at_call 45; refine ((arePos1_any _ _ _ (FS1 (by go_simp <;> exact rfl))) ).mono ?_; rintro e w' ⟨rfl, n, rfl⟩))
  (apply wp_region_plan; ((apply wpC_rowE; (case hw => exact rfl); (case h1 => (intro w'; go_simp <;> exact rfl)); intro bv); apply wpC_norm; (case ha => (simp only [Act.put, List.setIfInBounds_toArray, List.set_cons_zero, List.set_cons_succ]; exact rfl))); ((apply wpC_det; (case hw => exact rfl); (case hs => (intro cs b h; cases h)); (case h1 => (intro w'; go_simp <;> exact rfl))); apply wpC_norm; (case ha => (simp only [Act.put, List.setIfInBounds_toArray, List.set_cons_zero, List.set_cons_succ]; exact rfl))); ((apply wpC_val; (case hw => exact rfl); (case h1 => (intro w' hb hk0; obtain ⟨hT, hk⟩ := bv_next hb (by (repeat (with_reducible first | assumption | apply Trk.alloc | apply Trk.setCell | apply Trk.drewN | apply Trk.drew | exact Trk.nil _))); simp only [SameOn, World.size_alloc, World.size_setCell, World.size_drew, size_drewN', and_true] at hk; have hsz := Below.size hb; (try simp only [World.size_alloc, World.size_setCell, World.size_drew, size_drewN'] at hsz); go_simp <;> exact rfl))); apply wpC_norm; (case ha => (simp only [Act.put, List.setIfInBounds_toArray, List.set_cons_zero, List.set_cons_succ]; exact rfl))); ((apply wpC_det; (case hw => exact rfl); (case hs => (intro cs b h; cases h)); (case h1 => (intro w'; go_simp <;> exact rfl))); apply wpC_norm; (case ha => (simp only [Act.put, List.setIfInBounds_toArray, List.set_cons_zero, List.set_cons_succ]; exact rfl))); ((apply wpC_det; (case hw => exact rfl); (case hs => (intro cs b h; cases h)); (case h1 => (intro w'; go_simp <;> exact rfl))); apply wpC_norm; (case ha => (simp only [Act.put, List.setIfInBounds_toArray, List.set_cons_zero, List.set_cons_succ]; exact rfl))); ((apply wpC_det; (case hw => exact rfl); (case hs => (intro cs b h; cases h)); (case h1 => (intro w'; go_simp <;> exact rfl))); apply wpC_norm; (case ha => (simp only [Act.put, List.setIfInBounds_toArray, List.set_cons_zero, List.set_cons_succ]; exact rfl))); ((apply wpC_det; (case hw => exact rfl); (case hs => (intro cs b h; cases h)); (case h1 => (intro w'; go_simp <;> exact rfl))); apply wpC_norm; (case ha => (simp only [Act.put, List.setIfInBounds_toArray, List.set_cons_zero, List.set_cons_succ]; exact rfl))); refine wpC_nil ?_; intro w' hb hkk; obtain ⟨hT, hk⟩ := bv_next hb (by (repeat (with_reducible first | assumption | apply Trk.alloc | apply Trk.setCell | apply Trk.drewN | apply Trk.drew | exact Trk.nil _))); simp only [SameOn, World.size_alloc, World.size_setCell, World.size_drew, size_drewN', and_true] at hk; have hsz := Below.size hb; (try simp only [World.size_alloc, World.size_setCell, World.size_drew, size_drewN'] at hsz))
  rotate_left
  all_goals (try (first | kernel_rfl | rfl))
  obtain ⟨B0, hB0, hRW, hbmB, hbB⟩ : ∃ B0, w.heap.size + 4 ≤ B0 ∧ RW B0 w' (.slice (some ⟨bv, 0, none⟩) 0 0) 0 [] ∧ bm < B0 ∧ B0 ≤ w'.heap.size := ⟨_, by first | omega | (simp; omega) | (simp at *; omega), hkk.2.1, by first | omega | (simp; omega) | (simp at *; omega), hb.size⟩
  rename World => w1
  have hbp : Below wp.heap.size wp w1 := by (repeat (first | (with_reducible exact Below.refl _ _) | (with_reducible assumption) | (with_reducible refine below_then ?_ (by assumption)) | (with_reducible refine Below.trans ?_ (by assumption)) | (with_reducible refine below_drewN ?_ _) | (with_reducible apply Below.drew) | (with_reducible refine below_alloc ?_ _) | refine Below.setCell ?_ (by first | (simp; done) | (simp; omega)) _))
  have HY1 : Hid (∀ i, i < P.a.length + 1 → w1.cell? ⟨bm, om + i, none⟩ = some (.float .f32 (ys0.getD i 0))) := fun i hi => cell_later hbp (HY.out i hi)
  clear hbp
  have HBW := Lib.hid (show Below w.heap.size w w1 by (repeat (first | (with_reducible exact Below.refl _ _) | (with_reducible assumption) | (with_reducible refine below_then ?_ (by assumption)) | (with_reducible refine Below.trans ?_ (by assumption)) | (with_reducible refine below_drewN ?_ _) | (with_reducible apply Below.drew) | (with_reducible refine below_alloc ?_ _) | refine Below.setCell ?_ (by first | (simp; done) | (simp; omega)) _)))
  have HRW := Lib.hid hRW
  have HR0 : Hid (RdAt P ⟨some ⟨b1, o1, none⟩, c1, some ⟨b2, o2, none⟩, c2, some ⟨b3, o3, none⟩, c3, some ⟨b4, o4, none⟩, c4⟩ w1 w.heap.size 0) := (by unfold RdAt; refine ⟨?_, ?_, ?_, ?_⟩ <;> go_simp)
  have HEN : Hid (w1.cell? ⟨w.heap.size + 1, 1, none⟩ = some (.float .f32 E.t) ∧ w1.cell? ⟨w.heap.size + 2, 1, none⟩ = some (.float .f32 G.t)) := by show _ ∧ _; exact ⟨by go_simp, by go_simp⟩
  have HR8 : Hid (w1.cell? ⟨w.heap.size + 3, 0, none⟩ = some (.slice none 0 0) ∧ w1.cell? ⟨w.heap.size + 3, 1, none⟩ = some (.slice none 0 0) ∧ w1.cell? ⟨w.heap.size + 3, 2, none⟩ = some (.slice none 0 0) ∧ w1.cell? ⟨w.heap.size + 3, 3, none⟩ = some (.slice none 0 0) ∧ ∀ o, w1.frozen? ⟨w.heap.size + 3, o, none⟩ = false) := ⟨by go_simp, by go_simp, by go_simp, by go_simp, fun o => by go_simp⟩
  clear hRW hkk
  go_wp2_with (first | (with_reducible refine at_list ?_; refine wpList_fop rfl rfl rfl rfl rfl ?_; intro r n hr0; have hr := hr0 _ _ (by first | with_reducible assumption | exact rfl) (by first | with_reducible assumption | exact rfl); clear hr0) | (with_reducible refine at_list ?_; refine wpList_neg rfl rfl rfl ?_; intro r hr0; have hr := hr0 _ (by first | with_reducible assumption | exact rfl); clear hr0) | (with_reducible refine at_list ?_; refine wpList_fop_g rfl rfl rfl rfl rfl ?_; intro r n hr0; have hr := hr0 _ _ (by first | with_reducible assumption | exact rfl) (by first | with_reducible assumption | exact rfl); clear hr0) | (with_reducible refine at_list ?_; refine wpList_wide_g rfl rfl Try.underlying28 Try.underlying39 rfl ?_; intro r n hr0; have hr := hr0 _ (by first | with_reducible assumption | exact rfl); clear hr0) | (with_reducible refine at_list ?_; refine wpList_wide rfl rfl rfl Try.underlying28 Try.underlying39 ?_; intro r n hr0; have hr := hr0 _ (by first | with_reducible assumption | exact rfl); clear hr0) | (go_at_call 42; refine (implPasses_any _ _ _ _ _ (by assumption)).mono ?_; rintro e w' ⟨u, ys, rfl, hb, hO, hL⟩; obtain ⟨pu, cu, rfl⟩ := OF.shape hO; (try simp only [World.size_alloc, World.size_setCell, World.size_drew, World.drewN] at hO); obtain ⟨hT, hk⟩ := bv_next hb (by (repeat (with_reducible first | assumption | apply Trk.alloc | apply Trk.setCell | apply Trk.drewN | apply Trk.drew | exact Trk.nil _))); simp only [SameOn, World.size_alloc, World.size_setCell, World.size_drew, size_drewN', and_true] at hk; have hsz := Below.size hb; (try simp only [World.size_alloc, World.size_setCell, World.size_drew, size_drewN'] at hsz)) | (go_at_call 45; refine (arePositive_any _ _ _ (by assumption)).mono ?_; rintro e w' ⟨rfl, n, rfl⟩))
  obtain ⟨QB, hQB⟩ : ∃ QB, QB = rwQ (rwB P E G) (rwA P E G t) (rwX P E G) (rwS P E G t) := ⟨_, rfl⟩
  have HQ0 : Hid (QB 0 []) := by show QB 0 []; rw [hQB]; exact fun j hj => by omega
  have HQD := Lib.hid hQB
  clear hQB
  go_loopw [12, 44] (fun u z wr => ∃ (k c g : Nat) (zs : List Nat), k ≤ P.d.length ∧ z = .int .i64 (k : Int) ∧ u = .slice (some ⟨g, 0, none⟩) k c ∧ Hid (RW B0 wr (.slice (some ⟨g, 0, none⟩) k c) k zs) ∧ Hid (QB k zs) ∧ Below B0 w1 wr) (fun _ z _ => P.d.length - (intOf z).toNat)
  case atStart => exact ⟨0, 0, bv, [], by omega, rfl, rfl, HRW.out, HQ0.out, Below.refl _ _⟩
  case round =>
    clear hb hk hT hsz
    obtain ⟨k, c, g, zs, hk, rfl, rfl, HRO, HQ, hB⟩ := hrel
    have hzr := hB.size
    have HBr : Hid (Below w.heap.size w wr) := HBW.out.trans (hB.mono (by omega))
    have hlow : ∀ b o v, b < B0 → w1.cell? ⟨b, o, none⟩ = some v → wr.cell? ⟨b, o, none⟩ = some v := fun b o v hb h => (hB.cell (p := ⟨b, o, none⟩) hb).trans h
    have d0 := hlow _ _ _ (by omega) HR0.out.1
    have d1 := hlow _ _ _ (by omega) HR0.out.2.1
    have d2 := hlow _ _ _ (by omega) HR0.out.2.2.1
    have d3 := hlow _ _ _ (by omega) HR0.out.2.2.2
    have en0 := hlow _ _ _ (by omega) HEN.out.1
    have en1 := hlow _ _ _ (by omega) HEN.out.2
    simp only [Nat.zero_add] at d0 d1 d2 d3
    have HLOW := Lib.hid hlow
    clear hlow
    by_cases hlt : k < P.d.length
    · have hlti : (k : Int) < (P.d.length : Int) := by omega
      have hla : k < P.a.length := by have := HLN.out; omega
      have hlai : (k : Int) < (P.a.length : Int) := by omega
      have hlc : k < P.c.length := by have := HLN.out; omega
      have hlci : (k : Int) < (P.c.length : Int) := by omega
      have hki : 0 ≤ (k : Int) + 1 := by omega
      have hkt : ((k : Int) + 1).toNat = k + 1 := by omega
      have hkw : IntKind.i64.wrap ((k : Int) + 1) = (k : Int) + 1 := IntWalk.i64_in _ (by omega)
      have hk1 : k < P.a.length + 1 := by omega
      have hk2 : k + 1 < P.a.length + 1 := by omega
      have hk3 : (k : Int) < (P.a.length : Int) + 1 := by omega
      have hk4 : (k : Int) + 1 < (P.a.length : Int) + 1 := by omega
      have ya := HLOW.out _ _ _ hbmB (HY1.out k (by omega))
      have yb := HLOW.out _ _ _ hbmB (HY1.out (k + 1) (by omega))
      have za := cell_later HBr.out (HA.out k hla)
      have zc := cell_later HBr.out (HCC.out k hla)
      have zd := cell_later HBr.out (HD.out k hla)
      have hp0 : cn .f32 (ys0.getD k 0) = pG P E G k := HG.out k (by omega)
      have hp1 : cn .f32 (ys0.getD (k + 1) 0) = pG P E G (k + 1) := HG.out (k + 1) (by omega)
      have HWD : Hid (rwW P t k = fop .quo .f32 (fop .mul .f32 (cn .f32 (P.a.getD k 0)) (cn .f32 (P.c.getD k 0))) (cn .f32 t)) := rfl
      have HS0 : Hid (rwS0 P t k = fop .mul .f32 (rwW P t k) (cn .f32 (P.d.getD k 0))) := rfl
      generalize P.a.getD k 0 = xa at za HWD
      generalize P.c.getD k 0 = xc at zc HWD
      generalize P.d.getD k 0 = xd at zd HS0
      generalize ys0.getD k 0 = va at ya hp0
      generalize ys0.getD (k + 1) 0 = vb at yb hp1
      clear HY HA HCC HD HG HY1 HLOW
      go_wp2_with (first | (with_reducible refine at_list ?_; refine wpList_fop rfl rfl rfl rfl rfl ?_; intro r n hr0; have hr := hr0 _ _ (by first | with_reducible assumption | exact rfl) (by first | with_reducible assumption | exact rfl); clear hr0) | (with_reducible refine at_list ?_; refine wpList_neg rfl rfl rfl ?_; intro r hr0; have hr := hr0 _ (by first | with_reducible assumption | exact rfl); clear hr0) | (with_reducible refine at_list ?_; refine wpList_fop_g rfl rfl rfl rfl rfl ?_; intro r n hr0; have hr := hr0 _ _ (by first | with_reducible assumption | exact rfl) (by first | with_reducible assumption | exact rfl); clear hr0) | (with_reducible refine at_list ?_; refine wpList_wide_g rfl rfl Try.underlying28 Try.underlying39 rfl ?_; intro r n hr0; have hr := hr0 _ (by first | with_reducible assumption | exact rfl); clear hr0) | (with_reducible refine at_list ?_; refine wpList_wide rfl rfl rfl Try.underlying28 Try.underlying39 ?_; intro r n hr0; have hr := hr0 _ (by first | with_reducible assumption | exact rfl); clear hr0) | (go_at_call 42; refine (implPasses_any _ _ _ _ _ (by assumption)).mono ?_; rintro e w' ⟨u, ys, rfl, hb, hO, hL⟩; obtain ⟨pu, cu, rfl⟩ := OF.shape hO; (try simp only [World.size_alloc, World.size_setCell, World.size_drew, World.drewN] at hO); obtain ⟨hT, hk⟩ := bv_next hb (by (repeat (with_reducible first | assumption | apply Trk.alloc | apply Trk.setCell | apply Trk.drewN | apply Trk.drew | exact Trk.nil _))); simp only [SameOn, World.size_alloc, World.size_setCell, World.size_drew, size_drewN', and_true] at hk; have hsz := Below.size hb; (try simp only [World.size_alloc, World.size_setCell, World.size_drew, size_drewN'] at hsz)) | (go_at_call 45; refine (arePositive_any _ _ _ (by assumption)).mono ?_; rintro e w' ⟨rfl, n, rfl⟩))
      (refine wp_some_lit (by kernel_rfl) (by kernel_rfl) ?_; (refine wpSome_one ?_; go_big_quiet_step (fail); refine wpQuiet_nil ?_); (refine wpSome_one ?_; go_big_quiet_step (fail); refine wpQuiet_nil ?_); (refine wpSome_one ?_; go_big_quiet_step (fail); refine wpQuiet_nil ?_); (refine wpSome_one ?_; go_big_quiet_step (fail); refine wpQuiet_nil ?_); (refine wpSome_one ?_; go_big_quiet_step (fail); refine wpQuiet_nil ?_); (refine wpSome_one ?_; go_big_quiet_step (fail); refine wpQuiet_nil ?_); (refine wpSome_one ?_; go_big_quiet_step (fail); refine wpQuiet_nil ?_); (refine wpSome_one ?_; go_big_quiet_step (fail); refine wpQuiet_nil ?_); (refine wpSome_one ?_; go_big_quiet_step (fail); refine wpQuiet_nil ?_); (refine wpSome_one ?_; go_big_quiet_step (fail); refine wpQuiet_nil ?_); ((with_reducible refine at_some ?_; refine wpSome_fop rfl rfl rfl rfl rfl ?_; intro r hr0; have hr := hr0 _ _ (by first | with_reducible assumption | exact rfl) (by first | with_reducible assumption | exact rfl); clear hr0); simp only [Act.put, List.setIfInBounds_toArray, List.set_cons_zero, List.set_cons_succ]); (refine wpSome_one ?_; go_big_quiet_step (fail); refine wpQuiet_nil ?_); ((with_reducible refine at_some ?_; refine wpSome_fop rfl rfl rfl rfl rfl ?_; intro r hr0; have hr := hr0 _ _ (by first | with_reducible assumption | exact rfl) (by first | with_reducible assumption | exact rfl); clear hr0); simp only [Act.put, List.setIfInBounds_toArray, List.set_cons_zero, List.set_cons_succ]); (refine wpSome_one ?_; go_big_quiet_step (fail); refine wpQuiet_nil ?_); refine wpSome_nil ?_; intro w' hw'; obtain ⟨nq, rfl⟩ := hw')
      go_wp2_with (first | (with_reducible refine at_list ?_; refine wpList_fop rfl rfl rfl rfl rfl ?_; intro r n hr0; have hr := hr0 _ _ (by first | with_reducible assumption | exact rfl) (by first | with_reducible assumption | exact rfl); clear hr0) | (with_reducible refine at_list ?_; refine wpList_neg rfl rfl rfl ?_; intro r hr0; have hr := hr0 _ (by first | with_reducible assumption | exact rfl); clear hr0) | (with_reducible refine at_list ?_; refine wpList_fop_g rfl rfl rfl rfl rfl ?_; intro r n hr0; have hr := hr0 _ _ (by first | with_reducible assumption | exact rfl) (by first | with_reducible assumption | exact rfl); clear hr0) | (with_reducible refine at_list ?_; refine wpList_wide_g rfl rfl Try.underlying28 Try.underlying39 rfl ?_; intro r n hr0; have hr := hr0 _ (by first | with_reducible assumption | exact rfl); clear hr0) | (with_reducible refine at_list ?_; refine wpList_wide rfl rfl rfl Try.underlying28 Try.underlying39 ?_; intro r n hr0; have hr := hr0 _ (by first | with_reducible assumption | exact rfl); clear hr0) | (go_at_call 42; refine (implPasses_any _ _ _ _ _ (by assumption)).mono ?_; rintro e w' ⟨u, ys, rfl, hb, hO, hL⟩; obtain ⟨pu, cu, rfl⟩ := OF.shape hO; (try simp only [World.size_alloc, World.size_setCell, World.size_drew, World.drewN] at hO); obtain ⟨hT, hk⟩ := bv_next hb (by (repeat (with_reducible first | assumption | apply Trk.alloc | apply Trk.setCell | apply Trk.drewN | apply Trk.drew | exact Trk.nil _))); simp only [SameOn, World.size_alloc, World.size_setCell, World.size_drew, size_drewN', and_true] at hk; have hsz := Below.size hb; (try simp only [World.size_alloc, World.size_setCell, World.size_drew, size_drewN'] at hsz)) | (go_at_call 45; refine (arePositive_any _ _ _ (by assumption)).mono ?_; rintro e w' ⟨rfl, n, rfl⟩))
      (refine wp_some_lit (by kernel_rfl) (by kernel_rfl) ?_; (refine wpSome_one ?_; go_big_quiet_step (fail); refine wpQuiet_nil ?_); (refine wpSome_one ?_; go_big_quiet_step (fail); refine wpQuiet_nil ?_); (refine wpSome_one ?_; go_big_quiet_step (fail); refine wpQuiet_nil ?_); (refine wpSome_one ?_; go_big_quiet_step (fail); refine wpQuiet_nil ?_); (refine wpSome_one ?_; go_big_quiet_step (fail); refine wpQuiet_nil ?_); (refine wpSome_one ?_; go_big_quiet_step (fail); refine wpQuiet_nil ?_); (refine wpSome_one ?_; go_big_quiet_step (fail); refine wpQuiet_nil ?_); (refine wpSome_one ?_; go_big_quiet_step (fail); refine wpQuiet_nil ?_); (refine wpSome_one ?_; go_big_quiet_step (fail); refine wpQuiet_nil ?_); (refine wpSome_one ?_; go_big_quiet_step (fail); refine wpQuiet_nil ?_); (refine wpSome_one ?_; go_big_quiet_step (fail); refine wpQuiet_nil ?_); refine wpSome_nil ?_; intro w' hw'; obtain ⟨nq, rfl⟩ := hw')
      go_upto_if 85 with (first | (with_reducible refine at_list ?_; refine wpList_fop rfl rfl rfl rfl rfl ?_; intro r n hr0; have hr := hr0 _ _ (by first | with_reducible assumption | exact rfl) (by first | with_reducible assumption | exact rfl); clear hr0) | (with_reducible refine at_list ?_; refine wpList_neg rfl rfl rfl ?_; intro r hr0; have hr := hr0 _ (by first | with_reducible assumption | exact rfl); clear hr0) | (with_reducible refine at_list ?_; refine wpList_fop_g rfl rfl rfl rfl rfl ?_; intro r n hr0; have hr := hr0 _ _ (by first | with_reducible assumption | exact rfl) (by first | with_reducible assumption | exact rfl); clear hr0) | (with_reducible refine at_list ?_; refine wpList_wide_g rfl rfl Try.underlying28 Try.underlying39 rfl ?_; intro r n hr0; have hr := hr0 _ (by first | with_reducible assumption | exact rfl); clear hr0) | (with_reducible refine at_list ?_; refine wpList_wide rfl rfl rfl Try.underlying28 Try.underlying39 ?_; intro r n hr0; have hr := hr0 _ (by first | with_reducible assumption | exact rfl); clear hr0) | (go_at_call 42; refine (implPasses_any _ _ _ _ _ (by assumption)).mono ?_; rintro e w' ⟨u, ys, rfl, hb, hO, hL⟩; obtain ⟨pu, cu, rfl⟩ := OF.shape hO; (try simp only [World.size_alloc, World.size_setCell, World.size_drew, World.drewN] at hO); obtain ⟨hT, hk⟩ := bv_next hb (by (repeat (with_reducible first | assumption | apply Trk.alloc | apply Trk.setCell | apply Trk.drewN | apply Trk.drew | exact Trk.nil _))); simp only [SameOn, World.size_alloc, World.size_setCell, World.size_drew, size_drewN', and_true] at hk; have hsz := Below.size hb; (try simp only [World.size_alloc, World.size_setCell, World.size_drew, size_drewN'] at hsz)) | (go_at_call 45; refine (arePositive_any _ _ _ (by assumption)).mono ?_; rintro e w' ⟨rfl, n, rfl⟩))
      rename cn .f32 _ = fneg .f32 (pG P E G k) => e0
      rename cn .f32 _ = fneg .f32 (pG P E G (k + 1)) => e2
      rename cn .f32 _ = fop .add .f32 (fop .add .f32 _ (pG P E G k)) (pG P E G (k + 1)) => e1
      have E1 := e1.trans (show _ = rwA P E G t k by rw [rwA, HWD.out])
      have E3 := hr.trans (show _ = rwS0 P t k by rw [HS0.out, HWD.out])
      refine wp_named ?_
      intro wv hwv
      obtain ⟨y0, y1, y2, y3, HE, HC⟩ : ∃ y0 y1 y2 y3, Hid ((cn .f32 y0 = rwB P E G k ∧ cn .f32 y1 = rwA P E G t k) ∧ cn .f32 y2 = rwX P E G k ∧ cn .f32 y3 = rwS0 P t k) ∧ Hid ((wv.cell? ⟨wr.heap.size, 0, none⟩ = some (.float .f32 y0) ∧ wv.cell? ⟨wr.heap.size, 1, none⟩ = some (.float .f32 y1) ∧ wv.cell? ⟨wr.heap.size, 2, none⟩ = some (.float .f32 y2) ∧ wv.cell? ⟨wr.heap.size, 3, none⟩ = some (.float .f32 y3)) ∧ ∀ o, wv.frozen? ⟨wr.heap.size, o, none⟩ = false) := by
        rw [hwv]
        exact ⟨_, _, _, _, ⟨⟨e0, E1⟩, e2, E3⟩, ⟨⟨by go_simp <;> exact rfl, by go_simp <;> exact rfl, by go_simp <;> exact rfl, by go_simp <;> exact rfl⟩, fun o => by go_simp⟩⟩
      have HBV : Hid (Below wr.heap.size wr wv) := by show Below _ _ _; rw [hwv]; (repeat (first | (with_reducible exact Below.refl _ _) | (with_reducible assumption) | (with_reducible refine below_then ?_ (by assumption)) | (with_reducible refine Below.trans ?_ (by assumption)) | (with_reducible refine below_drewN ?_ _) | (with_reducible apply Below.drew) | (with_reducible refine below_alloc ?_ _) | refine Below.setCell ?_ (by first | (simp; done) | (simp; omega)) _))
      have HZV : Hid (wr.heap.size < wv.heap.size) := by show _ < _; rw [hwv]; first | omega | (simp; done) | (simp; omega)
      clear hwv e0 e1 e2 E1 E3 hr
      have HEV : Hid (wv.cell? ⟨w.heap.size + 1, 1, none⟩ = some (.float .f32 E.t) ∧ wv.cell? ⟨w.heap.size + 2, 1, none⟩ = some (.float .f32 G.t)) := ⟨cell_later HBV.out en0, cell_later HBV.out en1⟩
      have HENR : Hid (wr.cell? ⟨w.heap.size + 1, 1, none⟩ = some (.float .f32 E.t) ∧ wr.cell? ⟨w.heap.size + 2, 1, none⟩ = some (.float .f32 G.t)) := ⟨en0, en1⟩
      clear ya yb za zc zd d0 d1 d2 d3 en0 en1
      go_cut [19] from 45 to 109 (fun s19 wx => ∃ x3, s19 = .pointer (some ⟨wr.heap.size, 0, none⟩) ∧ Hid (cn .f32 x3 = rwS1 P E G t k) ∧ Hid ((wx.cell? ⟨wr.heap.size, 0, none⟩ = some (.float .f32 y0) ∧ wx.cell? ⟨wr.heap.size, 1, none⟩ = some (.float .f32 y1) ∧ wx.cell? ⟨wr.heap.size, 2, none⟩ = some (.float .f32 y2) ∧ wx.cell? ⟨wr.heap.size, 3, none⟩ = some (.float .f32 x3)) ∧ ∀ o, wx.frozen? ⟨wr.heap.size, o, none⟩ = false) ∧ Hid (Below wr.heap.size wr wx) ∧ Hid (wr.heap.size < wx.heap.size))
      case first =>
        by_cases hk0 : k = 0
        · subst hk0
          obtain ⟨⟨f0, f1, f2, f3⟩, ff⟩ := HC.out
          have q3 := HE.out.2.2
          have en2 := HEV.out.1
          have HBV2 := HBV.out
          have hzv := HZV.out
          go_wp2_with (first | (with_reducible refine at_list ?_; refine wpList_fop rfl rfl rfl rfl rfl ?_; intro r n hr0; have hr := hr0 _ _ (by first | with_reducible assumption | exact rfl) (by first | with_reducible assumption | exact rfl); clear hr0) | (with_reducible refine at_list ?_; refine wpList_neg rfl rfl rfl ?_; intro r hr0; have hr := hr0 _ (by first | with_reducible assumption | exact rfl); clear hr0) | (with_reducible refine at_list ?_; refine wpList_fop_g rfl rfl rfl rfl rfl ?_; intro r n hr0; have hr := hr0 _ _ (by first | with_reducible assumption | exact rfl) (by first | with_reducible assumption | exact rfl); clear hr0) | (with_reducible refine at_list ?_; refine wpList_wide_g rfl rfl Try.underlying28 Try.underlying39 rfl ?_; intro r n hr0; have hr := hr0 _ (by first | with_reducible assumption | exact rfl); clear hr0) | (with_reducible refine at_list ?_; refine wpList_wide rfl rfl rfl Try.underlying28 Try.underlying39 ?_; intro r n hr0; have hr := hr0 _ (by first | with_reducible assumption | exact rfl); clear hr0) | (go_at_call 42; refine (implPasses_any _ _ _ _ _ (by assumption)).mono ?_; rintro e w' ⟨u, ys, rfl, hb, hO, hL⟩; obtain ⟨pu, cu, rfl⟩ := OF.shape hO; (try simp only [World.size_alloc, World.size_setCell, World.size_drew, World.drewN] at hO); obtain ⟨hT, hk⟩ := bv_next hb (by (repeat (with_reducible first | assumption | apply Trk.alloc | apply Trk.setCell | apply Trk.drewN | apply Trk.drew | exact Trk.nil _))); simp only [SameOn, World.size_alloc, World.size_setCell, World.size_drew, size_drewN', and_true] at hk; have hsz := Below.size hb; (try simp only [World.size_alloc, World.size_setCell, World.size_drew, size_drewN'] at hsz)) | (go_at_call 45; refine (arePositive_any _ _ _ (by assumption)).mono ?_; rintro e w' ⟨rfl, n, rfl⟩))
          go_meet
          case rel => exact ⟨r, rfl, by show _ = _; rw [rwS1, if_pos rfl]; exact hr, ⟨⟨by go_simp, by go_simp, by go_simp, by go_simp⟩, fun o => by go_simp⟩, by show Below _ _ _; (repeat (first | (with_reducible exact Below.refl _ _) | (with_reducible assumption) | (with_reducible refine below_then ?_ (by assumption)) | (with_reducible refine Below.trans ?_ (by assumption)) | (with_reducible refine below_drewN ?_ _) | (with_reducible apply Below.drew) | (with_reducible refine below_alloc ?_ _) | refine Below.setCell ?_ (by first | (simp; done) | (simp; omega)) _)), by show _ < _; first | omega | (simp; omega)⟩
        · have hk0i : ¬ (k : Int) = 0 := by omega
          go_wp2_with (first | (with_reducible refine at_list ?_; refine wpList_fop rfl rfl rfl rfl rfl ?_; intro r n hr0; have hr := hr0 _ _ (by first | with_reducible assumption | exact rfl) (by first | with_reducible assumption | exact rfl); clear hr0) | (with_reducible refine at_list ?_; refine wpList_neg rfl rfl rfl ?_; intro r hr0; have hr := hr0 _ (by first | with_reducible assumption | exact rfl); clear hr0) | (with_reducible refine at_list ?_; refine wpList_fop_g rfl rfl rfl rfl rfl ?_; intro r n hr0; have hr := hr0 _ _ (by first | with_reducible assumption | exact rfl) (by first | with_reducible assumption | exact rfl); clear hr0) | (with_reducible refine at_list ?_; refine wpList_wide_g rfl rfl Try.underlying28 Try.underlying39 rfl ?_; intro r n hr0; have hr := hr0 _ (by first | with_reducible assumption | exact rfl); clear hr0) | (with_reducible refine at_list ?_; refine wpList_wide rfl rfl rfl Try.underlying28 Try.underlying39 ?_; intro r n hr0; have hr := hr0 _ (by first | with_reducible assumption | exact rfl); clear hr0) | (go_at_call 42; refine (implPasses_any _ _ _ _ _ (by assumption)).mono ?_; rintro e w' ⟨u, ys, rfl, hb, hO, hL⟩; obtain ⟨pu, cu, rfl⟩ := OF.shape hO; (try simp only [World.size_alloc, World.size_setCell, World.size_drew, World.drewN] at hO); obtain ⟨hT, hk⟩ := bv_next hb (by (repeat (with_reducible first | assumption | apply Trk.alloc | apply Trk.setCell | apply Trk.drewN | apply Trk.drew | exact Trk.nil _))); simp only [SameOn, World.size_alloc, World.size_setCell, World.size_drew, size_drewN', and_true] at hk; have hsz := Below.size hb; (try simp only [World.size_alloc, World.size_setCell, World.size_drew, size_drewN'] at hsz)) | (go_at_call 45; refine (arePositive_any _ _ _ (by assumption)).mono ?_; rintro e w' ⟨rfl, n, rfl⟩))
          go_meet
          case rel => exact ⟨y3, rfl, by show _ = _; rw [rwS1, if_neg hk0]; exact HE.out.2.2, HC.out, HBV.out, HZV.out⟩
      case rest =>
        obtain ⟨x3, rfl, HX3, HC3, HB3, HZ3⟩ := hcut
        go_upto_if 96 with (first | (with_reducible refine at_list ?_; refine wpList_fop rfl rfl rfl rfl rfl ?_; intro r n hr0; have hr := hr0 _ _ (by first | with_reducible assumption | exact rfl) (by first | with_reducible assumption | exact rfl); clear hr0) | (with_reducible refine at_list ?_; refine wpList_neg rfl rfl rfl ?_; intro r hr0; have hr := hr0 _ (by first | with_reducible assumption | exact rfl); clear hr0) | (with_reducible refine at_list ?_; refine wpList_fop_g rfl rfl rfl rfl rfl ?_; intro r n hr0; have hr := hr0 _ _ (by first | with_reducible assumption | exact rfl) (by first | with_reducible assumption | exact rfl); clear hr0) | (with_reducible refine at_list ?_; refine wpList_wide_g rfl rfl Try.underlying28 Try.underlying39 rfl ?_; intro r n hr0; have hr := hr0 _ (by first | with_reducible assumption | exact rfl); clear hr0) | (with_reducible refine at_list ?_; refine wpList_wide rfl rfl rfl Try.underlying28 Try.underlying39 ?_; intro r n hr0; have hr := hr0 _ (by first | with_reducible assumption | exact rfl); clear hr0) | (go_at_call 42; refine (implPasses_any _ _ _ _ _ (by assumption)).mono ?_; rintro e w' ⟨u, ys, rfl, hb, hO, hL⟩; obtain ⟨pu, cu, rfl⟩ := OF.shape hO; (try simp only [World.size_alloc, World.size_setCell, World.size_drew, World.drewN] at hO); obtain ⟨hT, hk⟩ := bv_next hb (by (repeat (with_reducible first | assumption | apply Trk.alloc | apply Trk.setCell | apply Trk.drewN | apply Trk.drew | exact Trk.nil _))); simp only [SameOn, World.size_alloc, World.size_setCell, World.size_drew, size_drewN', and_true] at hk; have hsz := Below.size hb; (try simp only [World.size_alloc, World.size_setCell, World.size_drew, size_drewN'] at hsz)) | (go_at_call 45; refine (arePositive_any _ _ _ (by assumption)).mono ?_; rintro e w' ⟨rfl, n, rfl⟩))
        go_cut [19] from 45 to 109 (fun s19 wx => ∃ x4, s19 = .pointer (some ⟨wr.heap.size, 0, none⟩) ∧ Hid (cn .f32 x4 = rwS P E G t k) ∧ Hid ((wx.cell? ⟨wr.heap.size, 0, none⟩ = some (.float .f32 y0) ∧ wx.cell? ⟨wr.heap.size, 1, none⟩ = some (.float .f32 y1) ∧ wx.cell? ⟨wr.heap.size, 2, none⟩ = some (.float .f32 y2) ∧ wx.cell? ⟨wr.heap.size, 3, none⟩ = some (.float .f32 x4)) ∧ ∀ o, wx.frozen? ⟨wr.heap.size, o, none⟩ = false) ∧ Hid (Below wr.heap.size wr wx) ∧ Hid (wr.heap.size < wx.heap.size))
        case first =>
          by_cases hkn : k + 1 = P.a.length
          · have hkni : ((k : Int) == (P.a.length : Int) - 1) = true := by rw [beq_iff_eq]; omega
            obtain ⟨⟨f0, f1, f2, f3⟩, ff⟩ := HC3.out
            have q3 := HX3.out
            have en2 := cell_later HB3.out HENR.out.2
            have HBV2 := HB3.out
            have hzv := HZ3.out
            have HKN := Lib.hid hkn
            clear hkn hkt hki hk1 hk2 hk3 hk4
            go_wp2_with (first | (with_reducible refine at_list ?_; refine wpList_fop rfl rfl rfl rfl rfl ?_; intro r n hr0; have hr := hr0 _ _ (by first | with_reducible assumption | exact rfl) (by first | with_reducible assumption | exact rfl); clear hr0) | (with_reducible refine at_list ?_; refine wpList_neg rfl rfl rfl ?_; intro r hr0; have hr := hr0 _ (by first | with_reducible assumption | exact rfl); clear hr0) | (with_reducible refine at_list ?_; refine wpList_fop_g rfl rfl rfl rfl rfl ?_; intro r n hr0; have hr := hr0 _ _ (by first | with_reducible assumption | exact rfl) (by first | with_reducible assumption | exact rfl); clear hr0) | (with_reducible refine at_list ?_; refine wpList_wide_g rfl rfl Try.underlying28 Try.underlying39 rfl ?_; intro r n hr0; have hr := hr0 _ (by first | with_reducible assumption | exact rfl); clear hr0) | (with_reducible refine at_list ?_; refine wpList_wide rfl rfl rfl Try.underlying28 Try.underlying39 ?_; intro r n hr0; have hr := hr0 _ (by first | with_reducible assumption | exact rfl); clear hr0) | (go_at_call 42; refine (implPasses_any _ _ _ _ _ (by assumption)).mono ?_; rintro e w' ⟨u, ys, rfl, hb, hO, hL⟩; obtain ⟨pu, cu, rfl⟩ := OF.shape hO; (try simp only [World.size_alloc, World.size_setCell, World.size_drew, World.drewN] at hO); obtain ⟨hT, hk⟩ := bv_next hb (by (repeat (with_reducible first | assumption | apply Trk.alloc | apply Trk.setCell | apply Trk.drewN | apply Trk.drew | exact Trk.nil _))); simp only [SameOn, World.size_alloc, World.size_setCell, World.size_drew, size_drewN', and_true] at hk; have hsz := Below.size hb; (try simp only [World.size_alloc, World.size_setCell, World.size_drew, size_drewN'] at hsz)) | (go_at_call 45; refine (arePositive_any _ _ _ (by assumption)).mono ?_; rintro e w' ⟨rfl, n, rfl⟩))
            go_meet
            case rel => exact ⟨r, rfl, by show _ = _; rw [rwS, if_pos HKN.out]; exact hr, ⟨⟨by go_simp, by go_simp, by go_simp, by go_simp⟩, fun o => by go_simp⟩, by show Below _ _ _; (repeat (first | (with_reducible exact Below.refl _ _) | (with_reducible assumption) | (with_reducible refine below_then ?_ (by assumption)) | (with_reducible refine Below.trans ?_ (by assumption)) | (with_reducible refine below_drewN ?_ _) | (with_reducible apply Below.drew) | (with_reducible refine below_alloc ?_ _) | refine Below.setCell ?_ (by first | (simp; done) | (simp; omega)) _)), by show _ < _; first | omega | (simp; omega)⟩
          · have hkni : ¬ (k : Int) = (P.a.length : Int) - 1 := by omega
            go_wp2_with (first | (with_reducible refine at_list ?_; refine wpList_fop rfl rfl rfl rfl rfl ?_; intro r n hr0; have hr := hr0 _ _ (by first | with_reducible assumption | exact rfl) (by first | with_reducible assumption | exact rfl); clear hr0) | (with_reducible refine at_list ?_; refine wpList_neg rfl rfl rfl ?_; intro r hr0; have hr := hr0 _ (by first | with_reducible assumption | exact rfl); clear hr0) | (with_reducible refine at_list ?_; refine wpList_fop_g rfl rfl rfl rfl rfl ?_; intro r n hr0; have hr := hr0 _ _ (by first | with_reducible assumption | exact rfl) (by first | with_reducible assumption | exact rfl); clear hr0) | (with_reducible refine at_list ?_; refine wpList_wide_g rfl rfl Try.underlying28 Try.underlying39 rfl ?_; intro r n hr0; have hr := hr0 _ (by first | with_reducible assumption | exact rfl); clear hr0) | (with_reducible refine at_list ?_; refine wpList_wide rfl rfl rfl Try.underlying28 Try.underlying39 ?_; intro r n hr0; have hr := hr0 _ (by first | with_reducible assumption | exact rfl); clear hr0) | (go_at_call 42; refine (implPasses_any _ _ _ _ _ (by assumption)).mono ?_; rintro e w' ⟨u, ys, rfl, hb, hO, hL⟩; obtain ⟨pu, cu, rfl⟩ := OF.shape hO; (try simp only [World.size_alloc, World.size_setCell, World.size_drew, World.drewN] at hO); obtain ⟨hT, hk⟩ := bv_next hb (by (repeat (with_reducible first | assumption | apply Trk.alloc | apply Trk.setCell | apply Trk.drewN | apply Trk.drew | exact Trk.nil _))); simp only [SameOn, World.size_alloc, World.size_setCell, World.size_drew, size_drewN', and_true] at hk; have hsz := Below.size hb; (try simp only [World.size_alloc, World.size_setCell, World.size_drew, size_drewN'] at hsz)) | (go_at_call 45; refine (arePositive_any _ _ _ (by assumption)).mono ?_; rintro e w' ⟨rfl, n, rfl⟩))
            go_meet
            case rel => exact ⟨x3, rfl, by show _ = _; rw [rwS, if_neg hkn]; exact HX3.out, HC3.out, HB3.out, HZ3.out⟩
        case rest =>
          obtain ⟨x4, rfl, HX4, HC4, HB4, HZ4⟩ := hcut
          obtain ⟨⟨f0, f1, f2, f3⟩, ff⟩ := HC4.out
          have hzv := HZ4.out
          have hbv := HB4.out
          go_wp2_with (first | (with_reducible refine at_list ?_; refine wpList_fop rfl rfl rfl rfl rfl ?_; intro r n hr0; have hr := hr0 _ _ (by first | with_reducible assumption | exact rfl) (by first | with_reducible assumption | exact rfl); clear hr0) | (with_reducible refine at_list ?_; refine wpList_neg rfl rfl rfl ?_; intro r hr0; have hr := hr0 _ (by first | with_reducible assumption | exact rfl); clear hr0) | (with_reducible refine at_list ?_; refine wpList_fop_g rfl rfl rfl rfl rfl ?_; intro r n hr0; have hr := hr0 _ _ (by first | with_reducible assumption | exact rfl) (by first | with_reducible assumption | exact rfl); clear hr0) | (with_reducible refine at_list ?_; refine wpList_wide_g rfl rfl Try.underlying28 Try.underlying39 rfl ?_; intro r n hr0; have hr := hr0 _ (by first | with_reducible assumption | exact rfl); clear hr0) | (with_reducible refine at_list ?_; refine wpList_wide rfl rfl rfl Try.underlying28 Try.underlying39 ?_; intro r n hr0; have hr := hr0 _ (by first | with_reducible assumption | exact rfl); clear hr0) | (at_builtin; refine stop_here ?_) | (go_at_call 42; refine (implPasses_any _ _ _ _ _ (by assumption)).mono ?_; rintro e w' ⟨u, ys, rfl, hb, hO, hL⟩; obtain ⟨pu, cu, rfl⟩ := OF.shape hO; (try simp only [World.size_alloc, World.size_setCell, World.size_drew, World.drewN] at hO); obtain ⟨hT, hk⟩ := bv_next hb (by (repeat (with_reducible first | assumption | apply Trk.alloc | apply Trk.setCell | apply Trk.drewN | apply Trk.drew | exact Trk.nil _))); simp only [SameOn, World.size_alloc, World.size_setCell, World.size_drew, size_drewN', and_true] at hk; have hsz := Below.size hb; (try simp only [World.size_alloc, World.size_setCell, World.size_drew, size_drewN'] at hsz)) | (go_at_call 45; refine (arePositive_any _ _ _ (by assumption)).mono ?_; rintro e w' ⟨rfl, n, rfl⟩))
          unfold Stop
          apply wpList_appRow (B := B0) (n := k) (zs := zs) (v := .slice (some ⟨g, 0, none⟩) k c) (r0 := y0) (r1 := y1) (r2 := y2) (r3 := x4)
          case hg => rfl
          case ho => rfl
          case hs => rfl
          case hx => rfl
          case hO => exact RW.later HRO.out (by (repeat (first | (with_reducible exact Below.refl _ _) | (with_reducible assumption) | (with_reducible refine below_then ?_ (by assumption)) | (with_reducible refine Below.trans ?_ (by assumption)) | (with_reducible refine below_drewN ?_ _) | (with_reducible apply Below.drew) | (with_reducible refine below_alloc ?_ _) | refine Below.setCell ?_ (by first | (simp; done) | (simp; omega)) _)))
          case hc0 => go_simp
          case hc1 => go_simp
          case hc2 => go_simp
          case hc3 => go_simp
          case hn => omega
          case hB => simp; omega
          intro g5 c5 w5 hO5 hB5
          have HQ5 : Hid (QB (k + 1) (zs ++ [y0, y1, y2, x4])) := by
            show QB _ _
            have h := HQ.out
            rw [HQD.out] at h ⊢
            exact rwQ_step h HRO.out.len HE.out.1.1 HE.out.1.2 HE.out.2.1 HX4.out
          have HB6 : Hid (Below B0 w1 w5) := Below.trans (B := B0) (a := w1) (hB.trans (Below.mono (show Below wr.heap.size wr _ by (repeat (first | (with_reducible exact Below.refl _ _) | (with_reducible assumption) | (with_reducible refine below_then ?_ (by assumption)) | (with_reducible refine Below.trans ?_ (by assumption)) | (with_reducible refine below_drewN ?_ _) | (with_reducible apply Below.drew) | (with_reducible refine below_alloc ?_ _) | refine Below.setCell ?_ (by first | (simp; done) | (simp; omega)) _))) (by omega))) hB5
          have HO5 := Lib.hid hO5
          clear hO5 hB5
          go_wp2_with (first | (with_reducible refine at_list ?_; refine wpList_fop rfl rfl rfl rfl rfl ?_; intro r n hr0; have hr := hr0 _ _ (by first | with_reducible assumption | exact rfl) (by first | with_reducible assumption | exact rfl); clear hr0) | (with_reducible refine at_list ?_; refine wpList_neg rfl rfl rfl ?_; intro r hr0; have hr := hr0 _ (by first | with_reducible assumption | exact rfl); clear hr0) | (with_reducible refine at_list ?_; refine wpList_fop_g rfl rfl rfl rfl rfl ?_; intro r n hr0; have hr := hr0 _ _ (by first | with_reducible assumption | exact rfl) (by first | with_reducible assumption | exact rfl); clear hr0) | (with_reducible refine at_list ?_; refine wpList_wide_g rfl rfl Try.underlying28 Try.underlying39 rfl ?_; intro r n hr0; have hr := hr0 _ (by first | with_reducible assumption | exact rfl); clear hr0) | (with_reducible refine at_list ?_; refine wpList_wide rfl rfl rfl Try.underlying28 Try.underlying39 ?_; intro r n hr0; have hr := hr0 _ (by first | with_reducible assumption | exact rfl); clear hr0) | (go_at_call 42; refine (implPasses_any _ _ _ _ _ (by assumption)).mono ?_; rintro e w' ⟨u, ys, rfl, hb, hO, hL⟩; obtain ⟨pu, cu, rfl⟩ := OF.shape hO; (try simp only [World.size_alloc, World.size_setCell, World.size_drew, World.drewN] at hO); obtain ⟨hT, hk⟩ := bv_next hb (by (repeat (with_reducible first | assumption | apply Trk.alloc | apply Trk.setCell | apply Trk.drewN | apply Trk.drew | exact Trk.nil _))); simp only [SameOn, World.size_alloc, World.size_setCell, World.size_drew, size_drewN', and_true] at hk; have hsz := Below.size hb; (try simp only [World.size_alloc, World.size_setCell, World.size_drew, size_drewN'] at hsz)) | (go_at_call 45; refine (arePositive_any _ _ _ (by assumption)).mono ?_; rintro e w' ⟨rfl, n, rfl⟩))
          go_roundw
          case rel => exact ⟨k + 1, c5, g5, zs ++ [y0, y1, y2, x4], by omega, by go_num, rfl, HO5.out, HQ5.out, HB6.out⟩
          case measure => simp [intOf]; omega
          all_goals first | kernel_rfl | rfl
    · have hlti : ¬ (k : Int) < (P.d.length : Int) := by omega
      have hke : k = P.a.length := by have := HLN.out; omega
      have HE1 : Hid (elQ (rwB P E G) (rwA P E G t) (rwX P E G) (rwS P E G t) P.a.length 1 zs) := elQ_one (by have h := HQ.out; rw [HQD.out, hke] at h; exact h)
      have HRK : Hid (RW B0 wr (.slice (some ⟨g, 0, none⟩) P.a.length c) P.a.length zs) := hke ▸ HRO.out
      have HSV : Hid (∀ w', Below wr.heap.size wr w' → Calls Try.prog 46 #[.slice (some ⟨g, 0, none⟩) P.a.length c] w' (fun e w2 => ∃ v, e = .returned v ∧ (Below B0 wr w2 ∧ wr.heap.size ≤ w2.heap.size) ∧ (∃ q c', v = .slice q P.a.length c') ∧ ∃ ys, OF wr.heap.size w2 v ys ∧ ys.map (cn .f32) = rwsL P E G t ∧ ys.length = P.a.length)) := fun w' hb => by
        refine (solveRows_any B0 _ _ _ _ zs P.a.length g c w' (HRK.out.later hb) ⟨hn1, hn2⟩ HE1.out).mono ?_
        rintro e w2 ⟨v, ys, rfl, hT, hO, hm⟩
        have hl : ys.length = P.a.length := by have := congrArg List.length hm; rw [solL_len] at this; simpa using this
        obtain ⟨q, c', rfl⟩ := hO.shape
        have hO2 := OF.base hO hb.size
        exact ⟨_, rfl, ⟨(hb.mono (by omega)).trans (turn_below hT (Nat.le_refl _) (by have := hb.size; omega)), Nat.le_trans hb.size hT.size⟩, ⟨q, c', by rw [hl]⟩, ys, hO2, hm, hl⟩
      have HOW : Hid (∀ w', Below B0 wr w' → owned w' (w.heap.size + 3) [.slice none 0 0, .slice none 0 0, .slice none 0 0, .slice none 0 0]) := by
        show ∀ _, _
        intro w' hb
        have hl : w.heap.size + 3 < B0 := by omega
        obtain ⟨z0, z1, z2, z3, zf⟩ := HR8.out
        have c0 := ((hB.trans hb).cell (p := ⟨w.heap.size + 3, 0, none⟩) hl).trans z0
        have c1 := ((hB.trans hb).cell (p := ⟨w.heap.size + 3, 1, none⟩) hl).trans z1
        have c2 := ((hB.trans hb).cell (p := ⟨w.heap.size + 3, 2, none⟩) hl).trans z2
        have c3 := ((hB.trans hb).cell (p := ⟨w.heap.size + 3, 3, none⟩) hl).trans z3
        have cf : ∀ o, w'.frozen? ⟨w.heap.size + 3, o, none⟩ = false := fun o => ((hB.trans hb).frozen (p := ⟨w.heap.size + 3, o, none⟩) hl).trans (zf o)
        intro j x hj
        match j, hj with
        | 0, hj => simp at hj; subst hj; exact ⟨c0, cf 0⟩
        | 1, hj => simp at hj; subst hj; exact ⟨c1, cf 1⟩
        | 2, hj => simp at hj; subst hj; exact ⟨c2, cf 2⟩
        | 3, hj => simp at hj; subst hj; exact ⟨c3, cf 3⟩
        | j + 4, hj => simp at hj
      clear HQ HRO HE1 HRK
      obtain ⟨R9, b9, hR9⟩ : ∃ R9 b9, R9 = okR b9 (rwsR P E G t) ∧ b9 = (rwsR P E G t).ok := ⟨_, _, rfl, rfl⟩
      have HR9 := Lib.hid hR9
      have HWK : Hid (∀ w' q c' ys, Below B0 wr w' → OF wr.heap.size w' (.slice q P.a.length c') ys → ys.map (cn .f32) = rwsL P E G t → ys.length = P.a.length → Calls Try.prog 40 #[.agg #[.slice (some ⟨b1, o1, none⟩) P.a.length c1, .slice (some ⟨b2, o2, none⟩) P.b.length c2, .slice (some ⟨b3, o3, none⟩) P.c.length c3, .slice (some ⟨b4, o4, none⟩) P.d.length c4], .slice q P.a.length c'] w' (BRB w' R9 b9)) := fun w' q c' ys hb hO hm hl => by
        rw [HR9.out.1, HR9.out.2]
        have hF := OF.fs hO
        exact withWarms_known P _ (rwsL P E G t) ys _ w' (HS.out.later (HBr.out.trans (hb.mono (by omega)))) hF HP.out hm hl (solL_cn _ _ _ _ _) (rwsR P E G t) rfl
      have HLT : Hid (w.heap.size < B0 ∧ B0 ≤ wr.heap.size) := ⟨by omega, by omega⟩
      have HL3 : Hid (w.heap.size < w.heap.size + 3) := by show _ < _; omega
      have HL4 : Hid (w.heap.size + 3 ≤ B0 ∧ w.heap.size + 3 < wr.heap.size) := ⟨by omega, by omega⟩
      have HDD : Hid (∀ w', Below (w.heap.size + 3) wr w' → (w'.cell? ⟨w.heap.size, 0, none⟩ = some (.slice (some ⟨b1, o1, none⟩) P.a.length c1) ∧ w'.cell? ⟨w.heap.size, 1, none⟩ = some (.slice (some ⟨b2, o2, none⟩) P.b.length c2)) ∧ w'.cell? ⟨w.heap.size, 2, none⟩ = some (.slice (some ⟨b3, o3, none⟩) P.c.length c3) ∧ w'.cell? ⟨w.heap.size, 3, none⟩ = some (.slice (some ⟨b4, o4, none⟩) P.d.length c4)) := fun w' hb => ⟨⟨(hb.cell (p := ⟨w.heap.size, 0, none⟩) HL3.out).trans d0, (hb.cell (p := ⟨w.heap.size, 1, none⟩) HL3.out).trans d1⟩, (hb.cell (p := ⟨w.heap.size, 2, none⟩) HL3.out).trans d2, (hb.cell (p := ⟨w.heap.size, 3, none⟩) HL3.out).trans d3⟩
      clear hR9
      go_wp2_with (first | (with_reducible refine at_list ?_; refine wpList_fop rfl rfl rfl rfl rfl ?_; intro r n hr0; have hr := hr0 _ _ (by first | with_reducible assumption | exact rfl) (by first | with_reducible assumption | exact rfl); clear hr0) | (with_reducible refine at_list ?_; refine wpList_neg rfl rfl rfl ?_; intro r hr0; have hr := hr0 _ (by first | with_reducible assumption | exact rfl); clear hr0) | (with_reducible refine at_list ?_; refine wpList_fop_g rfl rfl rfl rfl rfl ?_; intro r n hr0; have hr := hr0 _ _ (by first | with_reducible assumption | exact rfl) (by first | with_reducible assumption | exact rfl); clear hr0) | (with_reducible refine at_list ?_; refine wpList_wide_g rfl rfl Try.underlying28 Try.underlying39 rfl ?_; intro r n hr0; have hr := hr0 _ (by first | with_reducible assumption | exact rfl); clear hr0) | (with_reducible refine at_list ?_; refine wpList_wide rfl rfl rfl Try.underlying28 Try.underlying39 ?_; intro r n hr0; have hr := hr0 _ (by first | with_reducible assumption | exact rfl); clear hr0) | (go_at_call 42; refine (implPasses_any _ _ _ _ _ (by assumption)).mono ?_; rintro e w' ⟨u, ys, rfl, hb, hO, hL⟩; obtain ⟨pu, cu, rfl⟩ := OF.shape hO; (try simp only [World.size_alloc, World.size_setCell, World.size_drew, World.drewN] at hO); obtain ⟨hT, hk⟩ := bv_next hb (by (repeat (with_reducible first | assumption | apply Trk.alloc | apply Trk.setCell | apply Trk.drewN | apply Trk.drew | exact Trk.nil _))); simp only [SameOn, World.size_alloc, World.size_setCell, World.size_drew, size_drewN', and_true] at hk; have hsz := Below.size hb; (try simp only [World.size_alloc, World.size_setCell, World.size_drew, size_drewN'] at hsz)) | (go_at_call 45; refine (arePositive_any _ _ _ (by assumption)).mono ?_; rintro e w' ⟨rfl, n, rfl⟩))
      clear hb hT hk HA HCC HD hq0 HY HG HY1 HBW HRW HR0 HEN HR8 HQ0 HQD en0 en1 HLOW
      (apply wp_region_planG (F := (fun u => Below (w.heap.size + 3) wr u)) (fun u => Below wr.heap.size wr u) (fun a c h hb => h.trans (hb.mono h.size)); (case hW => exact (by first | assumption | exact Below.refl _ _)); (case hF0 => exact (by (intro u h; exact h.mono (Nat.le_of_lt HL4.out.2)))); ((apply wpG_any; (case hw => exact rfl); (case h1 => (intro w' hb; obtain ⟨⟨x0, x1⟩, x2, x3⟩ := HDD.out w' hb; go_simp <;> exact rfl))); apply wpG_norm; (case ha => (simp only [Act.put, List.setIfInBounds_toArray, List.set_cons_zero, List.set_cons_succ]; exact rfl))); ((apply wpG_det; (case hw => exact rfl); (case hs => (intro cs b h; cases h)); (case h1 => (intro w'; go_simp <;> exact rfl))); apply wpG_norm; (case ha => (simp only [Act.put, List.setIfInBounds_toArray, List.set_cons_zero, List.set_cons_succ]; exact rfl))); ((apply wpG_solv (fun u => Below B0 wr u ∧ wr.heap.size ≤ u.heap.size) (fun a c h hb => ⟨h.1.trans (hb.mono (Nat.le_trans HLT.out.2 h.2)), Nat.le_trans h.2 hb.size⟩); (case hw => exact rfl); (case he => (intro w'; go_simp; exact ⟨rfl, rfl⟩)); (case h1 => (intro w' hi hk0; exact HSV.out w' hi)); intro q9 c9); apply wpG_norm; (case ha => (simp only [Act.put, List.setIfInBounds_toArray, List.set_cons_zero, List.set_cons_succ]; exact rfl))); ((apply wpG_callRB wr.heap.size; (case hw => exact rfl); (case he => (intro w'; go_simp; exact ⟨rfl, rfl⟩)); (case hB => (intro u h; exact h.2)); (case hc => (intro w' hi hk0; obtain ⟨ys, hO, hm, hl⟩ := hk0.1; exact HWK.out _ _ _ ys hi.1 hO hm hl)); intro mq); apply wpG_norm; (case ha => (simp only [Act.put, List.setIfInBounds_toArray, List.set_cons_zero, List.set_cons_succ]; exact rfl))); ((apply wpG_det; (case hw => exact rfl); (case hs => (intro cs b h; cases h)); (case h1 => (intro w'; go_simp <;> exact rfl))); apply wpG_norm; (case ha => (simp only [Act.put, List.setIfInBounds_toArray, List.set_cons_zero, List.set_cons_succ]; exact rfl))); ((apply wpG_det; (case hw => exact rfl); (case hs => (intro cs b h; cases h)); (case h1 => (intro w'; go_simp <;> exact rfl))); apply wpG_norm; (case ha => (simp only [Act.put, List.setIfInBounds_toArray, List.set_cons_zero, List.set_cons_succ]; exact rfl))); ((apply wpG_putR (R := R9) (m := mq) wr.heap.size [.slice none 0 0, .slice none 0 0, .slice none 0 0, .slice none 0 0] (fun u => Below (w.heap.size + 3) wr u) (fun a c h hb => h.trans (hb.mono (Nat.le_trans (Nat.le_of_lt HL4.out.2) h.size))) rfl; (case hx => exact rfl); (case hy => exact rfl); (case hn => rfl); (case hi => kernel_rfl); (case hw => exact rfl); (case hk => (intro u hu; exact HOW.out u hu.1)); (case hm => (intro u hu hk0; have hA := (show ∀ m, Value.tuple #[rdV R9 mq, .bool b9] = .tuple #[rdV R9 m, .bool b9] → RdA wr.heap.size u R9 m from hk0.1) mq rfl; refine ⟨⟨?_, hA.low HL4.out.2 _ _⟩, owned_stored (HOW.out u hu.1)⟩; have h9 := hu.1.mono HL4.out.1; simp only [World.setCells]; exact (((h9.setCell (Nat.le_refl _) _).setCell (Nat.le_refl _) _).setCell (Nat.le_refl _) _).setCell (Nat.le_refl _) _))); apply wpG_norm; (case ha => (simp only [Act.put, List.setIfInBounds_toArray, List.set_cons_zero, List.set_cons_succ]; exact rfl))); ((apply wpG_det; (case hw => exact rfl); (case hs => (intro cs b h; cases h)); (case h1 => (intro w'; go_simp <;> exact rfl))); apply wpG_norm; (case ha => (simp only [Act.put, List.setIfInBounds_toArray, List.set_cons_zero, List.set_cons_succ]; exact rfl))); refine wpG_nil ?_; intro w' hi hkk)
      rotate_left
      case hFs => repeat' (first | exact trivial | (intro u hu; exact hu) | (intro u hu; exact hu.1.mono HL4.out.1) | constructor)
      all_goals (try (first | kernel_rfl | rfl))
      have hq := hkk.1 mq rfl
      have hX := hq.1.rx (B' := w.heap.size) (by have := HL4.out.2; omega)
      obtain ⟨y0, f0⟩ := hq.2 0 _ rfl
      obtain ⟨y1, f1⟩ := hq.2 1 _ rfl
      obtain ⟨y2, f2⟩ := hq.2 2 _ rfl
      obtain ⟨y3, f3⟩ := hq.2 3 _ rfl
      have HBL : Hid (Below w.heap.size w w') := HBr.out.trans (hi.mono (by omega))
      have HX := Lib.hid hX
      clear hq hkk hX hi
      go_wp2_with (first | (with_reducible refine at_list ?_; refine wpList_fop rfl rfl rfl rfl rfl ?_; intro r n hr0; have hr := hr0 _ _ (by first | with_reducible assumption | exact rfl) (by first | with_reducible assumption | exact rfl); clear hr0) | (with_reducible refine at_list ?_; refine wpList_neg rfl rfl rfl ?_; intro r hr0; have hr := hr0 _ (by first | with_reducible assumption | exact rfl); clear hr0) | (with_reducible refine at_list ?_; refine wpList_fop_g rfl rfl rfl rfl rfl ?_; intro r n hr0; have hr := hr0 _ _ (by first | with_reducible assumption | exact rfl) (by first | with_reducible assumption | exact rfl); clear hr0) | (with_reducible refine at_list ?_; refine wpList_wide_g rfl rfl Try.underlying28 Try.underlying39 rfl ?_; intro r n hr0; have hr := hr0 _ (by first | with_reducible assumption | exact rfl); clear hr0) | (with_reducible refine at_list ?_; refine wpList_wide rfl rfl rfl Try.underlying28 Try.underlying39 ?_; intro r n hr0; have hr := hr0 _ (by first | with_reducible assumption | exact rfl); clear hr0) | (go_at_call 42; refine (implPasses_any _ _ _ _ _ (by assumption)).mono ?_; rintro e w' ⟨u, ys, rfl, hb, hO, hL⟩; obtain ⟨pu, cu, rfl⟩ := OF.shape hO; (try simp only [World.size_alloc, World.size_setCell, World.size_drew, World.drewN] at hO); obtain ⟨hT, hk⟩ := bv_next hb (by (repeat (with_reducible first | assumption | apply Trk.alloc | apply Trk.setCell | apply Trk.drewN | apply Trk.drew | exact Trk.nil _))); simp only [SameOn, World.size_alloc, World.size_setCell, World.size_drew, size_drewN', and_true] at hk; have hsz := Below.size hb; (try simp only [World.size_alloc, World.size_setCell, World.size_drew, size_drewN'] at hsz)) | (go_at_call 45; refine (arePositive_any _ _ _ (by assumption)).mono ?_; rintro e w' ⟨rfl, n, rfl⟩))
      refine bodyPost_ret (v := .tuple #[.agg #[.slice mq.p1 R9.a.length mq.c1, .slice mq.p2 R9.b.length mq.c2, .slice mq.p3 R9.c.length mq.c3, .slice mq.p4 R9.d.length mq.c4], .bool b9]) (by simp [results, Try.results12, go_sem, *]) rfl ?_
      exact ⟨R9, mq, b9, ⟨HR9.out.1, by rw [HPRE.out]; exact HR9.out.2⟩, rfl, HBL.out, HX.out⟩
end Go.Proofs.Ytpnkapdemgieaaa
set_option linter.unusedSimpArgs false
set_option linter.unusedVariables false
set_option linter.unusedSectionVars false
namespace Go.Proofs.Ytpnkapdemgieaaa
open Go Go.RowKit
end Go.Proofs.Ytpnkapdemgieaaa
set_option linter.unusedSimpArgs false
set_option linter.unusedVariables false
set_option linter.unusedSectionVars false
namespace Go.Proofs.Ytpnkapdemgieaaa
open Go Go.RowKit
open Go.ChangeShapes Go.WideShapes Go.ChangeAt Go.RowKit Go.Joins
end Go.Proofs.Ytpnkapdemgieaaa
set_option linter.unusedSimpArgs false
set_option linter.unusedVariables false
set_option linter.unusedSectionVars false
namespace Go.Proofs.Ytpnkapdemgieaaa
open Go Go.RowKit
/-- A sum from left to right. -/
def accC (f : Nat → Nat) (xs : List Nat) : Nat := xs.foldl (fun a x => fop .add .f32 a (f (cn .f32 x))) (cn .f32 0)
theorem accC_step (f : Nat → Nat) (xs : List Nat) {k : Nat} (h : k < xs.length) : accC f (xs.take (k + 1)) = fop .add .f32 (accC f (xs.take k)) (f (cn .f32 (xs.getD k 0))) := by
  unfold accC
  rw [List.take_add_one, List.foldl_append, List.getElem?_eq_getElem h, List.getD_eq_getElem?_getD, List.getElem?_eq_getElem h]
  rfl
theorem cn_accC (f : Nat → Nat) (xs : List Nat) : cn .f32 (accC f xs) = accC f xs := by
  rcases List.eq_nil_or_concat xs with rfl | ⟨l, x, rfl⟩
  · exact cn_cn .f32 0
  · unfold accC; simp only [List.concat_eq_append, List.foldl_append, List.foldl_cons, List.foldl_nil]; exact cn_fop _ _ _ _
set_option maxHeartbeats 1000000 in
theorem sum_any (xs : List Nat) (v : Value) (w : World) (hs : FS w v xs) : Calls Try.prog 57 #[v] w (RF w .f32 (accC id xs)) := by
  obtain ⟨p, c, rfl, hc1, hc2, HV⟩ := FS_view hs
  have HV := Lib.hid HV
  clear hs
  go_enter Try.func57, Try.ntmps57
  go_wp2_with (first | (with_reducible refine at_list ?_; refine wpList_fop rfl rfl rfl rfl rfl ?_; intro r n hr0; have hr := hr0 _ _ (by first | with_reducible assumption | exact rfl) (by first | with_reducible assumption | exact rfl); clear hr0) | (with_reducible refine at_list ?_; refine wpList_neg rfl rfl rfl ?_; intro r hr0; have hr := hr0 _ (by first | with_reducible assumption | exact rfl); clear hr0) | (with_reducible refine at_list ?_; refine wpList_fop_g rfl rfl rfl rfl rfl ?_; intro r n hr0; have hr := hr0 _ _ (by first | with_reducible assumption | exact rfl) (by first | with_reducible assumption | exact rfl); clear hr0) | (with_reducible refine at_list ?_; refine wpList_wide_g rfl rfl Try.underlying28 Try.underlying39 rfl ?_; intro r n hr0; have hr := hr0 _ (by first | with_reducible assumption | exact rfl); clear hr0) | (with_reducible refine at_list ?_; refine wpList_wide rfl rfl rfl Try.underlying28 Try.underlying39 ?_; intro r n hr0; have hr := hr0 _ (by first | with_reducible assumption | exact rfl); clear hr0))
  go_loopw [3, 8] (fun s t wr => ∃ k m r : Nat, k ≤ xs.length ∧ t = .int .i64 k ∧ s = .float .f32 r ∧ Hid (cn .f32 r = accC id (xs.take k)) ∧ wr = w.drewN m) (fun _ t _ => xs.length - (intOf t).toNat)
  case atStart => exact ⟨0, 0, 0, Nat.zero_le _, rfl, rfl, rfl, rfl⟩
  case round =>
    obtain ⟨k, m, r, hk, rfl, rfl, HR, rfl⟩ := hrel
    by_cases hlt : k < xs.length
    · obtain ⟨b, o, rfl, hcell⟩ := HV.out k hlt
      have HST := Lib.hid (accC_step id xs hlt)
      generalize hx : xs.getD k 0 = x at hcell HST
      clear hx HV
      go_wp2_with (first | (with_reducible refine at_list ?_; refine wpList_fop rfl rfl rfl rfl rfl ?_; intro r n hr0; have hr := hr0 _ _ (by first | with_reducible assumption | exact rfl) (by first | with_reducible assumption | exact rfl); clear hr0) | (with_reducible refine at_list ?_; refine wpList_neg rfl rfl rfl ?_; intro r hr0; have hr := hr0 _ (by first | with_reducible assumption | exact rfl); clear hr0) | (with_reducible refine at_list ?_; refine wpList_fop_g rfl rfl rfl rfl rfl ?_; intro r n hr0; have hr := hr0 _ _ (by first | with_reducible assumption | exact rfl) (by first | with_reducible assumption | exact rfl); clear hr0) | (with_reducible refine at_list ?_; refine wpList_wide_g rfl rfl Try.underlying28 Try.underlying39 rfl ?_; intro r n hr0; have hr := hr0 _ (by first | with_reducible assumption | exact rfl); clear hr0) | (with_reducible refine at_list ?_; refine wpList_wide rfl rfl rfl Try.underlying28 Try.underlying39 ?_; intro r n hr0; have hr := hr0 _ (by first | with_reducible assumption | exact rfl); clear hr0))
      go_roundw
      case rel => exact ⟨k + 1, _, _, by omega, by go_num, rfl, by show _ = _; rw [HST.out, ← HR.out]; assumption, rfl⟩
      case measure => simp [intOf]; omega
    · have he : k = xs.length := by omega
      have HR2 : Hid (cn .f32 r = accC id xs) := by have := HR.out; rw [he, List.take_length] at this; exact this
      clear HR
      go_wp2_with (first | (with_reducible refine at_list ?_; refine wpList_fop rfl rfl rfl rfl rfl ?_; intro r n hr0; have hr := hr0 _ _ (by first | with_reducible assumption | exact rfl) (by first | with_reducible assumption | exact rfl); clear hr0) | (with_reducible refine at_list ?_; refine wpList_neg rfl rfl rfl ?_; intro r hr0; have hr := hr0 _ (by first | with_reducible assumption | exact rfl); clear hr0) | (with_reducible refine at_list ?_; refine wpList_fop_g rfl rfl rfl rfl rfl ?_; intro r n hr0; have hr := hr0 _ _ (by first | with_reducible assumption | exact rfl) (by first | with_reducible assumption | exact rfl); clear hr0) | (with_reducible refine at_list ?_; refine wpList_wide_g rfl rfl Try.underlying28 Try.underlying39 rfl ?_; intro r n hr0; have hr := hr0 _ (by first | with_reducible assumption | exact rfl); clear hr0) | (with_reducible refine at_list ?_; refine wpList_wide rfl rfl rfl Try.underlying28 Try.underlying39 ?_; intro r n hr0; have hr := hr0 _ (by first | with_reducible assumption | exact rfl); clear hr0))
      go_ret
      exact ⟨_, rfl, HR2.out, m, rfl⟩
end Go.Proofs.Ytpnkapdemgieaaa
set_option linter.unusedSimpArgs false
set_option linter.unusedVariables false
set_option linter.unusedSectionVars false
namespace Go.Proofs.Ytpnkapdemgieaaa
open Go Go.RowKit
open Go.ChangeShapes Go.WideShapes Go.ChangeAt Go.RowKit Go.Joins
def pAt (P : Rd) (E G : EndT) (i : Nat) : Nat := (passL P E G).getD i 0
theorem passL_len {P : Rd} (E G : EndT) (h : 1 ≤ P.a.length) : (passL P E G).length = P.a.length + 1 := by simp [passL, passK]; omega
theorem passOk_split {P : Rd} {E G : EndT} (h : passOk P E G = true) : endsOk P E G = true ∧ passFin P E G = true := by
  unfold passOk at h
  simpa using h
theorem map_at {ys L : List Nat} (h : ys.map (cn .f32) = L) {i : Nat} (hi : i < ys.length) : cn .f32 (ys.getD i 0) = L.getD i 0 := by
  rw [← h, List.getD_eq_getElem?_getD, List.getD_eq_getElem?_getD, List.getElem?_map, List.getElem?_eq_getElem hi]; rfl
end Go.Proofs.Ytpnkapdemgieaaa

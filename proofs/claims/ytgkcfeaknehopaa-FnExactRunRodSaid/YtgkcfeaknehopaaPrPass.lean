/-
  All passes of a rod, from left to right (the program's and the reference's). No condition but what each contract says.
-/
import Derived.Test.YtgkcfeaknehopaaPrEnd
import Derived.Test.YtgkcfeaknehopaaPrApl
set_option linter.unusedSimpArgs false
set_option linter.unusedVariables false
set_option linter.unusedSectionVars false
namespace Go.Proofs.Ytgkcfeaknehopaa
open Go Go.RowKit
open Go.ChangeShapes Go.WideShapes Go.ChangeAt Go.RowKit Go.Joins
def passK (P : Rd) (E : EndT) (k : Nat) : List Nat := endV P 0 E :: (List.range k).map (betV P)
def passL (P : Rd) (E G : EndT) : List Nat := passK P E (P.a.length - 1) ++ [endV P (P.a.length - 1) G]
theorem passK_step (P : Rd) (E : EndT) (k : Nat) : passK P E (k + 1) = passK P E k ++ [betV P k] := by
  unfold passK; rw [List.range_succ, List.map_append]; rfl
def endsOk (P : Rd) (E G : EndT) : Bool := P.ok && (E.ok && G.ok)
def passFin (P : Rd) (E G : EndT) : Bool := !(passL P E G).any fun x => !fin .f32 x
def passOk (P : Rd) (E G : EndT) : Bool := endsOk P E G && passFin P E G
/-- What the program hands back; what the reference hands back. -/
def passI (P : Rd) (E G : EndT) : List Nat := if endsOk P E G then passL P E G else []
def passV (P : Rd) (E G : EndT) : List Nat := if passFin P E G then passL P E G else []
theorem passI_no {P : Rd} {E G : EndT} (h : endsOk P E G = false) : passI P E G = [] := by rw [passI, h]; rfl
theorem passI_ok {P : Rd} {E G : EndT} (h : endsOk P E G = true) : passI P E G = passL P E G := by rw [passI, h]; rfl
theorem passV_no {P : Rd} {E G : EndT} (h : passFin P E G = false) : passV P E G = [] := by rw [passV, h]; rfl
theorem passV_ok {P : Rd} {E G : EndT} (h : passFin P E G = true) : passV P E G = passL P E G := by rw [passV, h]; rfl
theorem passOk_no {P : Rd} {E G : EndT} (h : endsOk P E G = false) : passOk P E G = false := by rw [passOk, h]; rfl
theorem passOk_ok {P : Rd} {E G : EndT} (h : endsOk P E G = true) : passOk P E G = passFin P E G := by rw [passOk, h]; rfl
theorem endsOk_rod {P : Rd} {E G : EndT} (h : endsOk P E G = true) : P.ok = true := by
  unfold endsOk at h
  simp only [Bool.and_eq_true] at h
  exact h.1
set_option maxHeartbeats 2000000 in
theorem passAt_any (P : Rd) (l : RL) (i : Nat) (E : EndT) (w : World) (hs : P.fs w l) (h0 : P.ok = true) (hi : i < P.a.length) : Calls Try.prog 114 #[.agg #[.slice l.p1 P.a.length l.c1, .slice l.p2 P.b.length l.c2, .slice l.p3 P.c.length l.c3, .slice l.p4 P.d.length l.c4], .int .i64 (i : Int), .agg #[.int .i64 E.k, .float .f32 E.t, .float .f32 E.e]] w (BF w .f32 (endV P i E)) := by
  have HS := Lib.hid hs
  have H1 : Hid (∀ w', Below w.heap.size w w' → Calls Try.prog 101 #[.agg #[.slice l.p1 P.a.length l.c1, .slice l.p2 P.b.length l.c2, .slice l.p3 P.c.length l.c3, .slice l.p4 P.d.length l.c4], .int .i64 (i : Int)] w' (BF w' .f32 (halfV P i))) := fun w' h => halfOf_any P l i w' (HS.out.later h) h0 hi
  clear hs h0
  have hk0 := cn_half P i
  have HK := Lib.hid hk0
  clear hk0
  obtain ⟨k, t, e⟩ := E
  have HE0 : Hid (k = 0 → endV P i ⟨k, t, e⟩ = fop .quo .f32 (cn .f32 1065353216) (halfV P i)) := fun h => endV_0 h
  have HE1 : Hid (k = 1 → endV P i ⟨k, t, e⟩ = cn .f32 0) := fun h => endV_1 h
  have HE2 : Hid (¬ k = 0 → ¬ k = 1 → endV P i ⟨k, t, e⟩ = fop .quo .f32 (cn .f32 1065353216) (fop .add .f32 (halfV P i) (fop .quo .f32 (cn .f32 1065353216) (cn .f32 e)))) := fun h h1 => endV_2 h h1
  generalize endV P i ⟨k, t, e⟩ = V at HE0 HE1 HE2 ⊢
  dsimp only
  by_cases hk0 : k = 0
  · subst hk0
    have HH := Lib.hid (HE0.out rfl)
    clear HE0 HE1 HE2
    go_enter Try.func114, Try.ntmps114
    go_wp2_with (first | (with_reducible refine at_list ?_; refine wpList_fop rfl rfl rfl rfl rfl ?_; intro r n hr0; have hr := hr0 _ _ (by first | with_reducible assumption | exact rfl) (by first | with_reducible assumption | exact rfl); clear hr0) | (with_reducible refine at_list ?_; refine wpList_neg rfl rfl rfl ?_; intro r hr0; have hr := hr0 _ (by first | with_reducible assumption | exact rfl); clear hr0) | (with_reducible refine at_list ?_; refine wpList_fop_g rfl rfl rfl rfl rfl ?_; intro r n hr0; have hr := hr0 _ _ (by first | with_reducible assumption | exact rfl) (by first | with_reducible assumption | exact rfl); clear hr0) | (with_reducible refine at_list ?_; refine wpList_wide_g rfl rfl Try.underlying25 Try.underlying32 rfl ?_; intro r n hr0; have hr := hr0 _ (by first | with_reducible assumption | exact rfl); clear hr0) | (with_reducible refine at_list ?_; refine wpList_wide rfl rfl rfl Try.underlying25 Try.underlying32 ?_; intro r n hr0; have hr := hr0 _ (by first | with_reducible assumption | exact rfl); clear hr0) | (go_at_call 101; refine ((H1.out _ (by (repeat (first | (with_reducible exact Below.refl _ _) | (with_reducible assumption) | (with_reducible refine below_then ?_ (by assumption)) | (with_reducible refine Below.trans ?_ (by assumption)) | (with_reducible refine below_drewN ?_ _) | (with_reducible apply Below.drew) | (with_reducible refine below_alloc ?_ _) | refine Below.setCell ?_ (by first | (simp; done) | (simp; omega)) _)))) ).mono ?_; rintro e w' ⟨r, rfl, hr, hb⟩; obtain ⟨hT, hk⟩ := bv_next hb (by (repeat (with_reducible first | assumption | apply Trk.alloc | apply Trk.setCell | apply Trk.drewN | apply Trk.drew | exact Trk.nil _))); simp only [SameOn, World.size_alloc, World.size_setCell, World.size_drew, size_drewN', and_true] at hk; have hsz := Below.size hb; (try simp only [World.size_alloc, World.size_setCell, World.size_drew, size_drewN'] at hsz)))
    all_goals
      go_ret
      exact ⟨_, rfl, by rw [HH.out]; first | assumption | exact cn_cn _ _, by (repeat (first | (with_reducible exact Below.refl _ _) | (with_reducible assumption) | (with_reducible refine below_then ?_ (by assumption)) | (with_reducible refine Below.trans ?_ (by assumption)) | (with_reducible refine below_drewN ?_ _) | (with_reducible apply Below.drew) | (with_reducible refine below_alloc ?_ _) | refine Below.setCell ?_ (by first | (simp; done) | (simp; omega)) _))⟩
  by_cases hk1 : k = 1
  · subst hk1
    have HH := Lib.hid (HE1.out rfl)
    clear HE0 HE1 HE2 hk0
    go_enter Try.func114, Try.ntmps114
    go_wp2_with (first | (with_reducible refine at_list ?_; refine wpList_fop rfl rfl rfl rfl rfl ?_; intro r n hr0; have hr := hr0 _ _ (by first | with_reducible assumption | exact rfl) (by first | with_reducible assumption | exact rfl); clear hr0) | (with_reducible refine at_list ?_; refine wpList_neg rfl rfl rfl ?_; intro r hr0; have hr := hr0 _ (by first | with_reducible assumption | exact rfl); clear hr0) | (with_reducible refine at_list ?_; refine wpList_fop_g rfl rfl rfl rfl rfl ?_; intro r n hr0; have hr := hr0 _ _ (by first | with_reducible assumption | exact rfl) (by first | with_reducible assumption | exact rfl); clear hr0) | (with_reducible refine at_list ?_; refine wpList_wide_g rfl rfl Try.underlying25 Try.underlying32 rfl ?_; intro r n hr0; have hr := hr0 _ (by first | with_reducible assumption | exact rfl); clear hr0) | (with_reducible refine at_list ?_; refine wpList_wide rfl rfl rfl Try.underlying25 Try.underlying32 ?_; intro r n hr0; have hr := hr0 _ (by first | with_reducible assumption | exact rfl); clear hr0) | (go_at_call 101; refine ((H1.out _ (by (repeat (first | (with_reducible exact Below.refl _ _) | (with_reducible assumption) | (with_reducible refine below_then ?_ (by assumption)) | (with_reducible refine Below.trans ?_ (by assumption)) | (with_reducible refine below_drewN ?_ _) | (with_reducible apply Below.drew) | (with_reducible refine below_alloc ?_ _) | refine Below.setCell ?_ (by first | (simp; done) | (simp; omega)) _)))) ).mono ?_; rintro e w' ⟨r, rfl, hr, hb⟩; obtain ⟨hT, hk⟩ := bv_next hb (by (repeat (with_reducible first | assumption | apply Trk.alloc | apply Trk.setCell | apply Trk.drewN | apply Trk.drew | exact Trk.nil _))); simp only [SameOn, World.size_alloc, World.size_setCell, World.size_drew, size_drewN', and_true] at hk; have hsz := Below.size hb; (try simp only [World.size_alloc, World.size_setCell, World.size_drew, size_drewN'] at hsz)))
    all_goals
      go_ret
      exact ⟨_, rfl, by rw [HH.out], by (repeat (first | (with_reducible exact Below.refl _ _) | (with_reducible assumption) | (with_reducible refine below_then ?_ (by assumption)) | (with_reducible refine Below.trans ?_ (by assumption)) | (with_reducible refine below_drewN ?_ _) | (with_reducible apply Below.drew) | (with_reducible refine below_alloc ?_ _) | refine Below.setCell ?_ (by first | (simp; done) | (simp; omega)) _))⟩
  have HH := Lib.hid (HE2.out hk0 hk1)
  clear HE0 HE1 HE2
  go_enter Try.func114, Try.ntmps114
  go_wp2_with (first | (with_reducible refine at_list ?_; refine wpList_fop rfl rfl rfl rfl rfl ?_; intro r n hr0; have hr := hr0 _ _ (by first | with_reducible assumption | exact rfl) (by first | with_reducible assumption | exact rfl); clear hr0) | (with_reducible refine at_list ?_; refine wpList_neg rfl rfl rfl ?_; intro r hr0; have hr := hr0 _ (by first | with_reducible assumption | exact rfl); clear hr0) | (with_reducible refine at_list ?_; refine wpList_fop_g rfl rfl rfl rfl rfl ?_; intro r n hr0; have hr := hr0 _ _ (by first | with_reducible assumption | exact rfl) (by first | with_reducible assumption | exact rfl); clear hr0) | (with_reducible refine at_list ?_; refine wpList_wide_g rfl rfl Try.underlying25 Try.underlying32 rfl ?_; intro r n hr0; have hr := hr0 _ (by first | with_reducible assumption | exact rfl); clear hr0) | (with_reducible refine at_list ?_; refine wpList_wide rfl rfl rfl Try.underlying25 Try.underlying32 ?_; intro r n hr0; have hr := hr0 _ (by first | with_reducible assumption | exact rfl); clear hr0) | (go_at_call 101; refine ((H1.out _ (by (repeat (first | (with_reducible exact Below.refl _ _) | (with_reducible assumption) | (with_reducible refine below_then ?_ (by assumption)) | (with_reducible refine Below.trans ?_ (by assumption)) | (with_reducible refine below_drewN ?_ _) | (with_reducible apply Below.drew) | (with_reducible refine below_alloc ?_ _) | refine Below.setCell ?_ (by first | (simp; done) | (simp; omega)) _)))) ).mono ?_; rintro e w' ⟨r, rfl, hr, hb⟩; obtain ⟨hT, hk⟩ := bv_next hb (by (repeat (with_reducible first | assumption | apply Trk.alloc | apply Trk.setCell | apply Trk.drewN | apply Trk.drew | exact Trk.nil _))); simp only [SameOn, World.size_alloc, World.size_setCell, World.size_drew, size_drewN', and_true] at hk; have hsz := Below.size hb; (try simp only [World.size_alloc, World.size_setCell, World.size_drew, size_drewN'] at hsz)))
  all_goals
    go_ret
    exact ⟨_, rfl, by rw [HH.out]; assumption, by (repeat (first | (with_reducible exact Below.refl _ _) | (with_reducible assumption) | (with_reducible refine below_then ?_ (by assumption)) | (with_reducible refine Below.trans ?_ (by assumption)) | (with_reducible refine below_drewN ?_ _) | (with_reducible apply Below.drew) | (with_reducible refine below_alloc ?_ _) | refine Below.setCell ?_ (by first | (simp; done) | (simp; omega)) _))⟩
set_option maxHeartbeats 2000000 in
theorem l02AtEnd_any (P : Rd) (l : RL) (last : Bool) (E : EndT) (b o c p : Nat) (w : World) (ha : RdAt P l w b o) (he : EnAt E w c p) (hs : P.fs w l) (h0 : P.ok = true) : Calls Try.prog 112 #[.pointer (some ⟨b, o, none⟩), .bool last, .pointer (some ⟨c, p, none⟩)] w (RF w .f32 (endV P (if last then P.a.length - 1 else 0) E)) := by
  obtain ⟨hn1, hn2⟩ := (Rd.ok_len h0).1
  have H1 : Hid (Calls Try.prog 95 #[.pointer (some ⟨b, o, none⟩), .int .i64 (0 : Int)] w (RF w .f32 (halfV P 0))) := l02Half_any P l 0 b o w ha hs h0 (by omega)
  have H2 : Hid (Calls Try.prog 95 #[.pointer (some ⟨b, o, none⟩), .int .i64 ((P.a.length : Int) - 1)] w (RF w .f32 (halfV P (P.a.length - 1)))) := by
    have := l02Half_any P l (P.a.length - 1) b o w ha hs h0 (by omega)
    rwa [show ((P.a.length - 1 : Nat) : Int) = (P.a.length : Int) - 1 by omega] at this
  have hq0 : IntKind.i64.wrap ((P.a.length : Int) - 1) = (P.a.length : Int) - 1 := IntWalk.i64_in _ (by omega)
  obtain ⟨d0, d1, d2, d3⟩ := ha
  obtain ⟨e0, e1, e2⟩ := he
  clear hs h0 d1 d2 d3 e1
  obtain ⟨k, t, e⟩ := E
  dsimp only at e0 e2
  cases last
  · have HE0 : Hid (k = 0 → endV P 0 ⟨k, t, e⟩ = fop .quo .f32 (cn .f32 1065353216) (halfV P 0)) := fun h => endV_0 h
    have HE1 : Hid (k = 1 → endV P 0 ⟨k, t, e⟩ = cn .f32 0) := fun h => endV_1 h
    have HE2 : Hid (¬ k = 0 → ¬ k = 1 → endV P 0 ⟨k, t, e⟩ = fop .quo .f32 (cn .f32 1065353216) (fop .add .f32 (halfV P 0) (fop .quo .f32 (cn .f32 1065353216) (cn .f32 e)))) := fun h h1 => endV_2 h h1
    rw [if_neg (by simp)]
    generalize endV P 0 ⟨k, t, e⟩ = V at HE0 HE1 HE2 ⊢
    clear H2 hq0
    by_cases hk0 : k = 0
    · subst hk0
      have HH := Lib.hid (HE0.out rfl)
      clear HE0 HE1 HE2
      go_enter Try.func112, Try.ntmps112
      go_wp2_with (first | (with_reducible refine at_list ?_; refine wpList_fop rfl rfl rfl rfl rfl ?_; intro r n hr0; have hr := hr0 _ _ (by first | with_reducible assumption | exact rfl) (by first | with_reducible assumption | exact rfl); clear hr0) | (with_reducible refine at_list ?_; refine wpList_neg rfl rfl rfl ?_; intro r hr0; have hr := hr0 _ (by first | with_reducible assumption | exact rfl); clear hr0) | (with_reducible refine at_list ?_; refine wpList_fop_g rfl rfl rfl rfl rfl ?_; intro r n hr0; have hr := hr0 _ _ (by first | with_reducible assumption | exact rfl) (by first | with_reducible assumption | exact rfl); clear hr0) | (with_reducible refine at_list ?_; refine wpList_wide_g rfl rfl Try.underlying25 Try.underlying32 rfl ?_; intro r n hr0; have hr := hr0 _ (by first | with_reducible assumption | exact rfl); clear hr0) | (with_reducible refine at_list ?_; refine wpList_wide rfl rfl rfl Try.underlying25 Try.underlying32 ?_; intro r n hr0; have hr := hr0 _ (by first | with_reducible assumption | exact rfl); clear hr0) | (go_at_call 95; refine ((H1.out) ).mono ?_; rintro e w' ⟨r, rfl, hr, n, rfl⟩))
      all_goals
        go_ret
        exact ⟨_, rfl, by rw [HH.out]; assumption, (by first | exact ⟨_, rfl⟩ | exact ⟨0, rfl⟩ | exact ⟨_, World.drewN_drewN ..⟩ | exact ⟨_, by simp only [World.drewN_drewN]; rfl⟩)⟩
    by_cases hk1 : k = 1
    · subst hk1
      have HH := Lib.hid (HE1.out rfl)
      clear HE0 HE1 HE2 hk0
      go_enter Try.func112, Try.ntmps112
      go_wp2_with (first | (with_reducible refine at_list ?_; refine wpList_fop rfl rfl rfl rfl rfl ?_; intro r n hr0; have hr := hr0 _ _ (by first | with_reducible assumption | exact rfl) (by first | with_reducible assumption | exact rfl); clear hr0) | (with_reducible refine at_list ?_; refine wpList_neg rfl rfl rfl ?_; intro r hr0; have hr := hr0 _ (by first | with_reducible assumption | exact rfl); clear hr0) | (with_reducible refine at_list ?_; refine wpList_fop_g rfl rfl rfl rfl rfl ?_; intro r n hr0; have hr := hr0 _ _ (by first | with_reducible assumption | exact rfl) (by first | with_reducible assumption | exact rfl); clear hr0) | (with_reducible refine at_list ?_; refine wpList_wide_g rfl rfl Try.underlying25 Try.underlying32 rfl ?_; intro r n hr0; have hr := hr0 _ (by first | with_reducible assumption | exact rfl); clear hr0) | (with_reducible refine at_list ?_; refine wpList_wide rfl rfl rfl Try.underlying25 Try.underlying32 ?_; intro r n hr0; have hr := hr0 _ (by first | with_reducible assumption | exact rfl); clear hr0) | (go_at_call 95; refine ((H1.out) ).mono ?_; rintro e w' ⟨r, rfl, hr, n, rfl⟩))
      all_goals
        go_ret
        exact ⟨_, rfl, by rw [HH.out], (by first | exact ⟨_, rfl⟩ | exact ⟨0, rfl⟩ | exact ⟨_, World.drewN_drewN ..⟩ | exact ⟨_, by simp only [World.drewN_drewN]; rfl⟩)⟩
    have HH := Lib.hid (HE2.out hk0 hk1)
    clear HE0 HE1 HE2
    go_enter Try.func112, Try.ntmps112
    go_wp2_with (first | (with_reducible refine at_list ?_; refine wpList_fop rfl rfl rfl rfl rfl ?_; intro r n hr0; have hr := hr0 _ _ (by first | with_reducible assumption | exact rfl) (by first | with_reducible assumption | exact rfl); clear hr0) | (with_reducible refine at_list ?_; refine wpList_neg rfl rfl rfl ?_; intro r hr0; have hr := hr0 _ (by first | with_reducible assumption | exact rfl); clear hr0) | (with_reducible refine at_list ?_; refine wpList_fop_g rfl rfl rfl rfl rfl ?_; intro r n hr0; have hr := hr0 _ _ (by first | with_reducible assumption | exact rfl) (by first | with_reducible assumption | exact rfl); clear hr0) | (with_reducible refine at_list ?_; refine wpList_wide_g rfl rfl Try.underlying25 Try.underlying32 rfl ?_; intro r n hr0; have hr := hr0 _ (by first | with_reducible assumption | exact rfl); clear hr0) | (with_reducible refine at_list ?_; refine wpList_wide rfl rfl rfl Try.underlying25 Try.underlying32 ?_; intro r n hr0; have hr := hr0 _ (by first | with_reducible assumption | exact rfl); clear hr0) | (go_at_call 95; refine ((H1.out) ).mono ?_; rintro e w' ⟨r, rfl, hr, n, rfl⟩))
    all_goals
      go_ret
      exact ⟨_, rfl, by rw [HH.out]; assumption, (by first | exact ⟨_, rfl⟩ | exact ⟨0, rfl⟩ | exact ⟨_, World.drewN_drewN ..⟩ | exact ⟨_, by simp only [World.drewN_drewN]; rfl⟩)⟩
  · have HE0 : Hid (k = 0 → endV P (P.a.length - 1) ⟨k, t, e⟩ = fop .quo .f32 (cn .f32 1065353216) (halfV P (P.a.length - 1))) := fun h => endV_0 h
    have HE1 : Hid (k = 1 → endV P (P.a.length - 1) ⟨k, t, e⟩ = cn .f32 0) := fun h => endV_1 h
    have HE2 : Hid (¬ k = 0 → ¬ k = 1 → endV P (P.a.length - 1) ⟨k, t, e⟩ = fop .quo .f32 (cn .f32 1065353216) (fop .add .f32 (halfV P (P.a.length - 1)) (fop .quo .f32 (cn .f32 1065353216) (cn .f32 e)))) := fun h h1 => endV_2 h h1
    rw [if_pos rfl]
    generalize endV P (P.a.length - 1) ⟨k, t, e⟩ = V at HE0 HE1 HE2 ⊢
    clear H1
    by_cases hk0 : k = 0
    · subst hk0
      have HH := Lib.hid (HE0.out rfl)
      clear HE0 HE1 HE2
      go_enter Try.func112, Try.ntmps112
      go_wp2_with (first | (with_reducible refine at_list ?_; refine wpList_fop rfl rfl rfl rfl rfl ?_; intro r n hr0; have hr := hr0 _ _ (by first | with_reducible assumption | exact rfl) (by first | with_reducible assumption | exact rfl); clear hr0) | (with_reducible refine at_list ?_; refine wpList_neg rfl rfl rfl ?_; intro r hr0; have hr := hr0 _ (by first | with_reducible assumption | exact rfl); clear hr0) | (with_reducible refine at_list ?_; refine wpList_fop_g rfl rfl rfl rfl rfl ?_; intro r n hr0; have hr := hr0 _ _ (by first | with_reducible assumption | exact rfl) (by first | with_reducible assumption | exact rfl); clear hr0) | (with_reducible refine at_list ?_; refine wpList_wide_g rfl rfl Try.underlying25 Try.underlying32 rfl ?_; intro r n hr0; have hr := hr0 _ (by first | with_reducible assumption | exact rfl); clear hr0) | (with_reducible refine at_list ?_; refine wpList_wide rfl rfl rfl Try.underlying25 Try.underlying32 ?_; intro r n hr0; have hr := hr0 _ (by first | with_reducible assumption | exact rfl); clear hr0) | (go_at_call 95; refine ((H2.out) ).mono ?_; rintro e w' ⟨r, rfl, hr, n, rfl⟩))
      all_goals
        go_ret
        exact ⟨_, rfl, by rw [HH.out]; assumption, (by first | exact ⟨_, rfl⟩ | exact ⟨0, rfl⟩ | exact ⟨_, World.drewN_drewN ..⟩ | exact ⟨_, by simp only [World.drewN_drewN]; rfl⟩)⟩
    by_cases hk1 : k = 1
    · subst hk1
      have HH := Lib.hid (HE1.out rfl)
      clear HE0 HE1 HE2 hk0
      go_enter Try.func112, Try.ntmps112
      go_wp2_with (first | (with_reducible refine at_list ?_; refine wpList_fop rfl rfl rfl rfl rfl ?_; intro r n hr0; have hr := hr0 _ _ (by first | with_reducible assumption | exact rfl) (by first | with_reducible assumption | exact rfl); clear hr0) | (with_reducible refine at_list ?_; refine wpList_neg rfl rfl rfl ?_; intro r hr0; have hr := hr0 _ (by first | with_reducible assumption | exact rfl); clear hr0) | (with_reducible refine at_list ?_; refine wpList_fop_g rfl rfl rfl rfl rfl ?_; intro r n hr0; have hr := hr0 _ _ (by first | with_reducible assumption | exact rfl) (by first | with_reducible assumption | exact rfl); clear hr0) | (with_reducible refine at_list ?_; refine wpList_wide_g rfl rfl Try.underlying25 Try.underlying32 rfl ?_; intro r n hr0; have hr := hr0 _ (by first | with_reducible assumption | exact rfl); clear hr0) | (with_reducible refine at_list ?_; refine wpList_wide rfl rfl rfl Try.underlying25 Try.underlying32 ?_; intro r n hr0; have hr := hr0 _ (by first | with_reducible assumption | exact rfl); clear hr0) | (go_at_call 95; refine ((H2.out) ).mono ?_; rintro e w' ⟨r, rfl, hr, n, rfl⟩))
      all_goals
        go_ret
        exact ⟨_, rfl, by rw [HH.out], (by first | exact ⟨_, rfl⟩ | exact ⟨0, rfl⟩ | exact ⟨_, World.drewN_drewN ..⟩ | exact ⟨_, by simp only [World.drewN_drewN]; rfl⟩)⟩
    have HH := Lib.hid (HE2.out hk0 hk1)
    clear HE0 HE1 HE2
    go_enter Try.func112, Try.ntmps112
    go_wp2_with (first | (with_reducible refine at_list ?_; refine wpList_fop rfl rfl rfl rfl rfl ?_; intro r n hr0; have hr := hr0 _ _ (by first | with_reducible assumption | exact rfl) (by first | with_reducible assumption | exact rfl); clear hr0) | (with_reducible refine at_list ?_; refine wpList_neg rfl rfl rfl ?_; intro r hr0; have hr := hr0 _ (by first | with_reducible assumption | exact rfl); clear hr0) | (with_reducible refine at_list ?_; refine wpList_fop_g rfl rfl rfl rfl rfl ?_; intro r n hr0; have hr := hr0 _ _ (by first | with_reducible assumption | exact rfl) (by first | with_reducible assumption | exact rfl); clear hr0) | (with_reducible refine at_list ?_; refine wpList_wide_g rfl rfl Try.underlying25 Try.underlying32 rfl ?_; intro r n hr0; have hr := hr0 _ (by first | with_reducible assumption | exact rfl); clear hr0) | (with_reducible refine at_list ?_; refine wpList_wide rfl rfl rfl Try.underlying25 Try.underlying32 ?_; intro r n hr0; have hr := hr0 _ (by first | with_reducible assumption | exact rfl); clear hr0) | (go_at_call 95; refine ((H2.out) ).mono ?_; rintro e w' ⟨r, rfl, hr, n, rfl⟩))
    all_goals
      go_ret
      exact ⟨_, rfl, by rw [HH.out]; assumption, (by first | exact ⟨_, rfl⟩ | exact ⟨0, rfl⟩ | exact ⟨_, World.drewN_drewN ..⟩ | exact ⟨_, by simp only [World.drewN_drewN]; rfl⟩)⟩
end Go.Proofs.Ytgkcfeaknehopaa

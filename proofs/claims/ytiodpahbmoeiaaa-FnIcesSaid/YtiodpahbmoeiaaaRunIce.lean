/-
  How ice grows day by day (the program's and the reference's). No condition but what each contract says.
-/
import Derived.Test.YtiodpahbmoeiaaaIce
import Derived.Test.YtiodpahbmoeiaaaApp
set_option linter.unusedSimpArgs false
set_option linter.unusedVariables false
set_option linter.unusedSectionVars false
namespace Go.Proofs.Ytiodpahbmoeiaaa
open Go Go.RowKit
/-- The ice after each day. -/
def runI (s : St) (k t : Nat) : Nat → List Nat → Option (List Nat)
  | _, [] => some []
  | i, a :: l => if abv (fop .add .f32 i k) && fin .f32 (growC s i k a t) then (runI s k t (growC s i k a t) l).map (growC s i k a t :: ·) else none
def runOk (s : St) (i k t : Nat) (xs : List Nat) : Bool := s.ok && (iceB (cn .f32 i) (cn .f32 k) && ((!xs.any fun x => !fin .f32 (cn .f32 x)) && (decide (xs.length ≤ 128) && abv (cn .f32 t))))
def runV (s : St) (i k t : Nat) (xs : List Nat) : List Nat × Bool := if runOk s i k t xs then (match runI s.k (cn .f32 k) (cn .f32 t) (cn .f32 i) (xs.map (cn .f32)) with | some L => (L, true) | none => ([], false)) else ([], false)
theorem runV_no {s : St} {i k t : Nat} {xs : List Nat} (h : runOk s i k t xs = false) : runV s i k t xs = ([], false) := by simp [runV, h]
theorem lst_zero : lst (cn .f32 0) = true := by
  unfold lst; rw [fin_zero]
  rw [cn_zero]; decide +kernel
theorem fge_of_fgt {k : FloatKind} {x y : Nat} (h : fgt k x y = true) : fge k x y = true := by
  unfold fgt at h; unfold fge; rw [h]; rfl
theorem lst_grow {s : St} {i k a t : Nat} (h : fin .f32 (growC s i k a t) = true) : lst (growC s i k a t) = true := by
  unfold growC at h ⊢
  split
  · rename_i hg
    rw [if_pos hg] at h
    unfold lst
    rw [h, fge_of_fgt hg]; rfl
  · exact lst_zero
/-- One round: what is left to do. -/
theorem runI_step {s : St} {k t i : Nat} {xs : List Nat} {j : Nat} (hj : j < xs.length) (hok : (abv (fop .add .f32 i k) && fin .f32 (growC s i k (cn .f32 (xs.getD j 0)) t)) = true) (L : List Nat) :
    (runI s k t i ((xs.map (cn .f32)).drop j)).map (L ++ ·) = (runI s k t (growC s i k (cn .f32 (xs.getD j 0)) t) ((xs.map (cn .f32)).drop (j + 1))).map ((L ++ [growC s i k (cn .f32 (xs.getD j 0)) t]) ++ ·) := by
  have e : (xs.map (cn .f32)).drop j = cn .f32 (xs.getD j 0) :: (xs.map (cn .f32)).drop (j + 1) := by
    rw [List.drop_eq_getElem_cons (by simpa using hj)]
    simp [hj]
  rw [e]
  simp only [runI]
  rw [if_pos hok, Option.map_map]
  congr 1
  funext l
  simp
theorem runI_stop {s : St} {k t i : Nat} {xs : List Nat} {j : Nat} (hj : j < xs.length) (hok : (abv (fop .add .f32 i k) && fin .f32 (growC s i k (cn .f32 (xs.getD j 0)) t)) = false) (L : List Nat) :
    (runI s k t i ((xs.map (cn .f32)).drop j)).map (L ++ ·) = none := by
  have e : (xs.map (cn .f32)).drop j = cn .f32 (xs.getD j 0) :: (xs.map (cn .f32)).drop (j + 1) := by
    rw [List.drop_eq_getElem_cons (by simpa using hj)]
    simp [hj]
  rw [e]
  simp only [runI]
  rw [if_neg (by rw [hok]; simp)]
  rfl
set_option maxHeartbeats 4000000 in
theorem implRunIce_any (s : St) (i k t : Nat) (v : Value) (xs : List Nat) (w : World) (hs : FS w v xs) : Calls Try.prog 32 #[.agg #[.float .f32 s.a, .float .f32 s.b, .float .f32 s.c, .float .f32 s.d, .float .f32 s.p, .float .f32 s.l], .float .f32 i, .float .f32 k, v, .float .f32 t] w (BC w (runV s i k t xs).1 (runV s i k t xs).2) := by
  have HS := Lib.hid hs
  obtain ⟨q, c, rfl, hc1, hc2, HV⟩ := FS_view hs
  have HV := Lib.hid HV
  clear hs
  rcases h0 : s.ok
  · rw [runV_no (by simp [runOk, h0])]
    go_enter Try.func32, Try.ntmps32
    go_wp2_with (first | (with_reducible refine at_list ?_; refine wpList_fop rfl rfl rfl rfl rfl ?_; intro r n hr0; have hr := hr0 _ _ (by first | with_reducible assumption | exact rfl) (by first | with_reducible assumption | exact rfl); clear hr0) | (with_reducible refine at_list ?_; refine wpList_neg rfl rfl rfl ?_; intro r hr0; have hr := hr0 _ (by first | with_reducible assumption | exact rfl); clear hr0) | (with_reducible refine at_list ?_; refine wpList_fop_g rfl rfl rfl rfl rfl ?_; intro r n hr0; have hr := hr0 _ _ (by first | with_reducible assumption | exact rfl) (by first | with_reducible assumption | exact rfl); clear hr0) | (with_reducible refine at_list ?_; refine wpList_wide_g rfl rfl Try.underlying22 Try.underlying26 rfl ?_; intro r n hr0; have hr := hr0 _ (by first | with_reducible assumption | exact rfl); clear hr0) | (with_reducible refine at_list ?_; refine wpList_wide rfl rfl rfl Try.underlying22 Try.underlying26 ?_; intro r n hr0; have hr := hr0 _ (by first | with_reducible assumption | exact rfl); clear hr0) | (go_at_call 41; refine (implValidStuff_any _ _).mono ?_; rintro e w' ⟨rfl, hb⟩; obtain ⟨hT, hk⟩ := bv_next hb (by (repeat (with_reducible first | assumption | apply Trk.alloc | apply Trk.setCell | apply Trk.drewN | apply Trk.drew | exact Trk.nil _))); simp only [SameOn, World.size_alloc, World.size_setCell, World.size_drew, size_drewN', and_true] at hk; have hsz := Below.size hb; (try simp only [World.size_alloc, World.size_setCell, World.size_drew, size_drewN'] at hsz)) | (go_at_call 64; refine (isIce_any _ _ _).mono ?_; rintro e w' ⟨rfl, hb⟩; obtain ⟨hT, hk⟩ := bv_next hb (by (repeat (with_reducible first | assumption | apply Trk.alloc | apply Trk.setCell | apply Trk.drewN | apply Trk.drew | exact Trk.nil _))); simp only [SameOn, World.size_alloc, World.size_setCell, World.size_drew, size_drewN', and_true] at hk; have hsz := Below.size hb; (try simp only [World.size_alloc, World.size_setCell, World.size_drew, size_drewN'] at hsz)) | (go_at_call 72; refine (areFinite_any _ _ _ (by assumption)).mono ?_; rintro e w' ⟨rfl, n, rfl⟩) | (go_at_call 65; refine (arePositive_any _ _ _ (by assumption)).mono ?_; rintro e w' ⟨rfl, n, rfl⟩) | (go_at_call 25; refine (implGrowIce_any _ _ _ _ _ _).mono ?_; rintro e w' ⟨r, rfl, hr, hb⟩; obtain ⟨hT, hk⟩ := bv_next hb (by (repeat (with_reducible first | assumption | apply Trk.alloc | apply Trk.setCell | apply Trk.drewN | apply Trk.drew | exact Trk.nil _))); simp only [SameOn, World.size_alloc, World.size_setCell, World.size_drew, size_drewN', and_true] at hk; have hsz := Below.size hb; (try simp only [World.size_alloc, World.size_setCell, World.size_drew, size_drewN'] at hsz)))
    all_goals
      go_ret2
      exact ⟨_, [], rfl, by (repeat (first | (with_reducible exact Below.refl _ _) | (with_reducible assumption) | (with_reducible refine below_then ?_ (by assumption)) | (with_reducible refine Below.trans ?_ (by assumption)) | (with_reducible refine below_drewN ?_ _) | (with_reducible apply Below.drew) | (with_reducible refine below_alloc ?_ _) | refine Below.setCell ?_ (by first | (simp; done) | (simp; omega)) _)), OF.nil0 _ _, rfl⟩
  rcases h1 : iceB (cn .f32 i) (cn .f32 k)
  · rw [runV_no (by simp [runOk, h1])]
    go_enter Try.func32, Try.ntmps32
    go_wp2_with (first | (with_reducible refine at_list ?_; refine wpList_fop rfl rfl rfl rfl rfl ?_; intro r n hr0; have hr := hr0 _ _ (by first | with_reducible assumption | exact rfl) (by first | with_reducible assumption | exact rfl); clear hr0) | (with_reducible refine at_list ?_; refine wpList_neg rfl rfl rfl ?_; intro r hr0; have hr := hr0 _ (by first | with_reducible assumption | exact rfl); clear hr0) | (with_reducible refine at_list ?_; refine wpList_fop_g rfl rfl rfl rfl rfl ?_; intro r n hr0; have hr := hr0 _ _ (by first | with_reducible assumption | exact rfl) (by first | with_reducible assumption | exact rfl); clear hr0) | (with_reducible refine at_list ?_; refine wpList_wide_g rfl rfl Try.underlying22 Try.underlying26 rfl ?_; intro r n hr0; have hr := hr0 _ (by first | with_reducible assumption | exact rfl); clear hr0) | (with_reducible refine at_list ?_; refine wpList_wide rfl rfl rfl Try.underlying22 Try.underlying26 ?_; intro r n hr0; have hr := hr0 _ (by first | with_reducible assumption | exact rfl); clear hr0) | (go_at_call 41; refine (implValidStuff_any _ _).mono ?_; rintro e w' ⟨rfl, hb⟩; obtain ⟨hT, hk⟩ := bv_next hb (by (repeat (with_reducible first | assumption | apply Trk.alloc | apply Trk.setCell | apply Trk.drewN | apply Trk.drew | exact Trk.nil _))); simp only [SameOn, World.size_alloc, World.size_setCell, World.size_drew, size_drewN', and_true] at hk; have hsz := Below.size hb; (try simp only [World.size_alloc, World.size_setCell, World.size_drew, size_drewN'] at hsz)) | (go_at_call 64; refine (isIce_any _ _ _).mono ?_; rintro e w' ⟨rfl, hb⟩; obtain ⟨hT, hk⟩ := bv_next hb (by (repeat (with_reducible first | assumption | apply Trk.alloc | apply Trk.setCell | apply Trk.drewN | apply Trk.drew | exact Trk.nil _))); simp only [SameOn, World.size_alloc, World.size_setCell, World.size_drew, size_drewN', and_true] at hk; have hsz := Below.size hb; (try simp only [World.size_alloc, World.size_setCell, World.size_drew, size_drewN'] at hsz)) | (go_at_call 72; refine (areFinite_any _ _ _ (by assumption)).mono ?_; rintro e w' ⟨rfl, n, rfl⟩) | (go_at_call 65; refine (arePositive_any _ _ _ (by assumption)).mono ?_; rintro e w' ⟨rfl, n, rfl⟩) | (go_at_call 25; refine (implGrowIce_any _ _ _ _ _ _).mono ?_; rintro e w' ⟨r, rfl, hr, hb⟩; obtain ⟨hT, hk⟩ := bv_next hb (by (repeat (with_reducible first | assumption | apply Trk.alloc | apply Trk.setCell | apply Trk.drewN | apply Trk.drew | exact Trk.nil _))); simp only [SameOn, World.size_alloc, World.size_setCell, World.size_drew, size_drewN', and_true] at hk; have hsz := Below.size hb; (try simp only [World.size_alloc, World.size_setCell, World.size_drew, size_drewN'] at hsz)))
    all_goals
      go_ret2
      exact ⟨_, [], rfl, by (repeat (first | (with_reducible exact Below.refl _ _) | (with_reducible assumption) | (with_reducible refine below_then ?_ (by assumption)) | (with_reducible refine Below.trans ?_ (by assumption)) | (with_reducible refine below_drewN ?_ _) | (with_reducible apply Below.drew) | (with_reducible refine below_alloc ?_ _) | refine Below.setCell ?_ (by first | (simp; done) | (simp; omega)) _)), OF.nil0 _ _, rfl⟩
  rcases h2 : xs.any (fun x => !fin .f32 (cn .f32 x))
  rotate_left
  · rw [runV_no (by simp only [runOk, h2]; simp)]
    have A := Lib.hid (fun w hs => (h2 ▸ areFinite_any xs (.slice q xs.length c) w hs : Calls Try.prog 72 #[.slice q xs.length c] w (RB w (!true))))
    clear h2
    go_enter Try.func32, Try.ntmps32
    go_wp2_with (first | (with_reducible refine at_list ?_; refine wpList_fop rfl rfl rfl rfl rfl ?_; intro r n hr0; have hr := hr0 _ _ (by first | with_reducible assumption | exact rfl) (by first | with_reducible assumption | exact rfl); clear hr0) | (with_reducible refine at_list ?_; refine wpList_neg rfl rfl rfl ?_; intro r hr0; have hr := hr0 _ (by first | with_reducible assumption | exact rfl); clear hr0) | (with_reducible refine at_list ?_; refine wpList_fop_g rfl rfl rfl rfl rfl ?_; intro r n hr0; have hr := hr0 _ _ (by first | with_reducible assumption | exact rfl) (by first | with_reducible assumption | exact rfl); clear hr0) | (with_reducible refine at_list ?_; refine wpList_wide_g rfl rfl Try.underlying22 Try.underlying26 rfl ?_; intro r n hr0; have hr := hr0 _ (by first | with_reducible assumption | exact rfl); clear hr0) | (with_reducible refine at_list ?_; refine wpList_wide rfl rfl rfl Try.underlying22 Try.underlying26 ?_; intro r n hr0; have hr := hr0 _ (by first | with_reducible assumption | exact rfl); clear hr0) | (go_at_call 41; refine (implValidStuff_any _ _).mono ?_; rintro e w' ⟨rfl, hb⟩; obtain ⟨hT, hk⟩ := bv_next hb (by (repeat (with_reducible first | assumption | apply Trk.alloc | apply Trk.setCell | apply Trk.drewN | apply Trk.drew | exact Trk.nil _))); simp only [SameOn, World.size_alloc, World.size_setCell, World.size_drew, size_drewN', and_true] at hk; have hsz := Below.size hb; (try simp only [World.size_alloc, World.size_setCell, World.size_drew, size_drewN'] at hsz)) | (go_at_call 64; refine (isIce_any _ _ _).mono ?_; rintro e w' ⟨rfl, hb⟩; obtain ⟨hT, hk⟩ := bv_next hb (by (repeat (with_reducible first | assumption | apply Trk.alloc | apply Trk.setCell | apply Trk.drewN | apply Trk.drew | exact Trk.nil _))); simp only [SameOn, World.size_alloc, World.size_setCell, World.size_drew, size_drewN', and_true] at hk; have hsz := Below.size hb; (try simp only [World.size_alloc, World.size_setCell, World.size_drew, size_drewN'] at hsz)) | (go_at_call 72; refine ((A.out _ (HS.out.later (by (repeat (first | (with_reducible exact Below.refl _ _) | (with_reducible assumption) | (with_reducible refine below_then ?_ (by assumption)) | (with_reducible refine Below.trans ?_ (by assumption)) | (with_reducible refine below_drewN ?_ _) | (with_reducible apply Below.drew) | (with_reducible refine below_alloc ?_ _) | refine Below.setCell ?_ (by first | (simp; done) | (simp; omega)) _))))) ).mono ?_; rintro e w' ⟨rfl, n, rfl⟩) | (go_at_call 65; refine (arePositive_any _ _ _ (by assumption)).mono ?_; rintro e w' ⟨rfl, n, rfl⟩) | (go_at_call 25; refine (implGrowIce_any _ _ _ _ _ _).mono ?_; rintro e w' ⟨r, rfl, hr, hb⟩; obtain ⟨hT, hk⟩ := bv_next hb (by (repeat (with_reducible first | assumption | apply Trk.alloc | apply Trk.setCell | apply Trk.drewN | apply Trk.drew | exact Trk.nil _))); simp only [SameOn, World.size_alloc, World.size_setCell, World.size_drew, size_drewN', and_true] at hk; have hsz := Below.size hb; (try simp only [World.size_alloc, World.size_setCell, World.size_drew, size_drewN'] at hsz)))
    all_goals
      go_ret2
      exact ⟨_, [], rfl, by (repeat (first | (with_reducible exact Below.refl _ _) | (with_reducible assumption) | (with_reducible refine below_then ?_ (by assumption)) | (with_reducible refine Below.trans ?_ (by assumption)) | (with_reducible refine below_drewN ?_ _) | (with_reducible apply Below.drew) | (with_reducible refine below_alloc ?_ _) | refine Below.setCell ?_ (by first | (simp; done) | (simp; omega)) _)), OF.nil0 _ _, rfl⟩
  have A := Lib.hid (fun w hs => (h2 ▸ areFinite_any xs (.slice q xs.length c) w hs : Calls Try.prog 72 #[.slice q xs.length c] w (RB w (!false))))
  have H2 := Lib.hid h2
  by_cases h3 : 128 < xs.length
  · rw [runV_no (by simp [runOk]; omega)]
    clear h2
    go_enter Try.func32, Try.ntmps32
    go_wp2_with (first | (with_reducible refine at_list ?_; refine wpList_fop rfl rfl rfl rfl rfl ?_; intro r n hr0; have hr := hr0 _ _ (by first | with_reducible assumption | exact rfl) (by first | with_reducible assumption | exact rfl); clear hr0) | (with_reducible refine at_list ?_; refine wpList_neg rfl rfl rfl ?_; intro r hr0; have hr := hr0 _ (by first | with_reducible assumption | exact rfl); clear hr0) | (with_reducible refine at_list ?_; refine wpList_fop_g rfl rfl rfl rfl rfl ?_; intro r n hr0; have hr := hr0 _ _ (by first | with_reducible assumption | exact rfl) (by first | with_reducible assumption | exact rfl); clear hr0) | (with_reducible refine at_list ?_; refine wpList_wide_g rfl rfl Try.underlying22 Try.underlying26 rfl ?_; intro r n hr0; have hr := hr0 _ (by first | with_reducible assumption | exact rfl); clear hr0) | (with_reducible refine at_list ?_; refine wpList_wide rfl rfl rfl Try.underlying22 Try.underlying26 ?_; intro r n hr0; have hr := hr0 _ (by first | with_reducible assumption | exact rfl); clear hr0) | (go_at_call 41; refine (implValidStuff_any _ _).mono ?_; rintro e w' ⟨rfl, hb⟩; obtain ⟨hT, hk⟩ := bv_next hb (by (repeat (with_reducible first | assumption | apply Trk.alloc | apply Trk.setCell | apply Trk.drewN | apply Trk.drew | exact Trk.nil _))); simp only [SameOn, World.size_alloc, World.size_setCell, World.size_drew, size_drewN', and_true] at hk; have hsz := Below.size hb; (try simp only [World.size_alloc, World.size_setCell, World.size_drew, size_drewN'] at hsz)) | (go_at_call 64; refine (isIce_any _ _ _).mono ?_; rintro e w' ⟨rfl, hb⟩; obtain ⟨hT, hk⟩ := bv_next hb (by (repeat (with_reducible first | assumption | apply Trk.alloc | apply Trk.setCell | apply Trk.drewN | apply Trk.drew | exact Trk.nil _))); simp only [SameOn, World.size_alloc, World.size_setCell, World.size_drew, size_drewN', and_true] at hk; have hsz := Below.size hb; (try simp only [World.size_alloc, World.size_setCell, World.size_drew, size_drewN'] at hsz)) | (go_at_call 72; refine ((A.out _ (HS.out.later (by (repeat (first | (with_reducible exact Below.refl _ _) | (with_reducible assumption) | (with_reducible refine below_then ?_ (by assumption)) | (with_reducible refine Below.trans ?_ (by assumption)) | (with_reducible refine below_drewN ?_ _) | (with_reducible apply Below.drew) | (with_reducible refine below_alloc ?_ _) | refine Below.setCell ?_ (by first | (simp; done) | (simp; omega)) _))))) ).mono ?_; rintro e w' ⟨rfl, n, rfl⟩) | (go_at_call 65; refine (arePositive_any _ _ _ (by assumption)).mono ?_; rintro e w' ⟨rfl, n, rfl⟩) | (go_at_call 25; refine (implGrowIce_any _ _ _ _ _ _).mono ?_; rintro e w' ⟨r, rfl, hr, hb⟩; obtain ⟨hT, hk⟩ := bv_next hb (by (repeat (with_reducible first | assumption | apply Trk.alloc | apply Trk.setCell | apply Trk.drewN | apply Trk.drew | exact Trk.nil _))); simp only [SameOn, World.size_alloc, World.size_setCell, World.size_drew, size_drewN', and_true] at hk; have hsz := Below.size hb; (try simp only [World.size_alloc, World.size_setCell, World.size_drew, size_drewN'] at hsz)))
    all_goals
      go_ret2
      exact ⟨_, [], rfl, by (repeat (first | (with_reducible exact Below.refl _ _) | (with_reducible assumption) | (with_reducible refine below_then ?_ (by assumption)) | (with_reducible refine Below.trans ?_ (by assumption)) | (with_reducible refine below_drewN ?_ _) | (with_reducible apply Below.drew) | (with_reducible refine below_alloc ?_ _) | refine Below.setCell ?_ (by first | (simp; done) | (simp; omega)) _)), OF.nil0 _ _, rfl⟩
  rcases h4 : abv (cn .f32 t)
  · rw [runV_no (by simp [runOk, h4])]
    clear h2
    go_enter Try.func32, Try.ntmps32
    go_wp2_with (first | (with_reducible refine at_list ?_; refine wpList_fop rfl rfl rfl rfl rfl ?_; intro r n hr0; have hr := hr0 _ _ (by first | with_reducible assumption | exact rfl) (by first | with_reducible assumption | exact rfl); clear hr0) | (with_reducible refine at_list ?_; refine wpList_neg rfl rfl rfl ?_; intro r hr0; have hr := hr0 _ (by first | with_reducible assumption | exact rfl); clear hr0) | (with_reducible refine at_list ?_; refine wpList_fop_g rfl rfl rfl rfl rfl ?_; intro r n hr0; have hr := hr0 _ _ (by first | with_reducible assumption | exact rfl) (by first | with_reducible assumption | exact rfl); clear hr0) | (with_reducible refine at_list ?_; refine wpList_wide_g rfl rfl Try.underlying22 Try.underlying26 rfl ?_; intro r n hr0; have hr := hr0 _ (by first | with_reducible assumption | exact rfl); clear hr0) | (with_reducible refine at_list ?_; refine wpList_wide rfl rfl rfl Try.underlying22 Try.underlying26 ?_; intro r n hr0; have hr := hr0 _ (by first | with_reducible assumption | exact rfl); clear hr0) | (go_at_call 41; refine (implValidStuff_any _ _).mono ?_; rintro e w' ⟨rfl, hb⟩; obtain ⟨hT, hk⟩ := bv_next hb (by (repeat (with_reducible first | assumption | apply Trk.alloc | apply Trk.setCell | apply Trk.drewN | apply Trk.drew | exact Trk.nil _))); simp only [SameOn, World.size_alloc, World.size_setCell, World.size_drew, size_drewN', and_true] at hk; have hsz := Below.size hb; (try simp only [World.size_alloc, World.size_setCell, World.size_drew, size_drewN'] at hsz)) | (go_at_call 64; refine (isIce_any _ _ _).mono ?_; rintro e w' ⟨rfl, hb⟩; obtain ⟨hT, hk⟩ := bv_next hb (by (repeat (with_reducible first | assumption | apply Trk.alloc | apply Trk.setCell | apply Trk.drewN | apply Trk.drew | exact Trk.nil _))); simp only [SameOn, World.size_alloc, World.size_setCell, World.size_drew, size_drewN', and_true] at hk; have hsz := Below.size hb; (try simp only [World.size_alloc, World.size_setCell, World.size_drew, size_drewN'] at hsz)) | (go_at_call 72; refine ((A.out _ (HS.out.later (by (repeat (first | (with_reducible exact Below.refl _ _) | (with_reducible assumption) | (with_reducible refine below_then ?_ (by assumption)) | (with_reducible refine Below.trans ?_ (by assumption)) | (with_reducible refine below_drewN ?_ _) | (with_reducible apply Below.drew) | (with_reducible refine below_alloc ?_ _) | refine Below.setCell ?_ (by first | (simp; done) | (simp; omega)) _))))) ).mono ?_; rintro e w' ⟨rfl, n, rfl⟩) | (go_at_call 65; refine ((arePos1_any _ _ _ (FS1 (by go_simp <;> exact rfl))) ).mono ?_; rintro e w' ⟨rfl, n, rfl⟩) | (go_at_call 25; refine (implGrowIce_any _ _ _ _ _ _).mono ?_; rintro e w' ⟨r, rfl, hr, hb⟩; obtain ⟨hT, hk⟩ := bv_next hb (by (repeat (with_reducible first | assumption | apply Trk.alloc | apply Trk.setCell | apply Trk.drewN | apply Trk.drew | exact Trk.nil _))); simp only [SameOn, World.size_alloc, World.size_setCell, World.size_drew, size_drewN', and_true] at hk; have hsz := Below.size hb; (try simp only [World.size_alloc, World.size_setCell, World.size_drew, size_drewN'] at hsz)))
    all_goals
      go_ret2
      exact ⟨_, [], rfl, by (repeat (first | (with_reducible exact Below.refl _ _) | (with_reducible assumption) | (with_reducible refine below_then ?_ (by assumption)) | (with_reducible refine Below.trans ?_ (by assumption)) | (with_reducible refine below_drewN ?_ _) | (with_reducible apply Below.drew) | (with_reducible refine below_alloc ?_ _) | refine Below.setCell ?_ (by first | (simp; done) | (simp; omega)) _)), OF.nil0 _ _, rfl⟩
  have HE : Hid (runV s i k t xs = (match runI s.k (cn .f32 k) (cn .f32 t) (cn .f32 i) (xs.map (cn .f32)) with | some L => (L, true) | none => ([], false))) := by
    have : runOk s i k t xs = true := by
      have e : decide (xs.length ≤ 128) = true := by simp; omega
      simp only [runOk, h0, h1, H2.out, h4, e]; rfl
    show _ = _
    simp only [runV, this, if_true]
  have HI : Hid (lst (cn .f32 i) = true ∧ lst (cn .f32 k) = true) := by
    show _ ∧ _
    unfold iceB at h1
    simp only [Bool.and_eq_true] at h1
    exact ⟨h1.1, h1.2.1⟩
  have H4 := Lib.hid h4
  have H0 := Lib.hid h0
  clear h2
  go_enter Try.func32, Try.ntmps32
  go_wp2_with (first | (with_reducible refine at_list ?_; refine wpList_fop rfl rfl rfl rfl rfl ?_; intro r n hr0; have hr := hr0 _ _ (by first | with_reducible assumption | exact rfl) (by first | with_reducible assumption | exact rfl); clear hr0) | (with_reducible refine at_list ?_; refine wpList_neg rfl rfl rfl ?_; intro r hr0; have hr := hr0 _ (by first | with_reducible assumption | exact rfl); clear hr0) | (with_reducible refine at_list ?_; refine wpList_fop_g rfl rfl rfl rfl rfl ?_; intro r n hr0; have hr := hr0 _ _ (by first | with_reducible assumption | exact rfl) (by first | with_reducible assumption | exact rfl); clear hr0) | (with_reducible refine at_list ?_; refine wpList_wide_g rfl rfl Try.underlying22 Try.underlying26 rfl ?_; intro r n hr0; have hr := hr0 _ (by first | with_reducible assumption | exact rfl); clear hr0) | (with_reducible refine at_list ?_; refine wpList_wide rfl rfl rfl Try.underlying22 Try.underlying26 ?_; intro r n hr0; have hr := hr0 _ (by first | with_reducible assumption | exact rfl); clear hr0) | (go_at_call 41; refine (implValidStuff_any _ _).mono ?_; rintro e w' ⟨rfl, hb⟩; obtain ⟨hT, hk⟩ := bv_next hb (by (repeat (with_reducible first | assumption | apply Trk.alloc | apply Trk.setCell | apply Trk.drewN | apply Trk.drew | exact Trk.nil _))); simp only [SameOn, World.size_alloc, World.size_setCell, World.size_drew, size_drewN', and_true] at hk; have hsz := Below.size hb; (try simp only [World.size_alloc, World.size_setCell, World.size_drew, size_drewN'] at hsz)) | (go_at_call 64; refine (isIce_any _ _ _).mono ?_; rintro e w' ⟨rfl, hb⟩; obtain ⟨hT, hk⟩ := bv_next hb (by (repeat (with_reducible first | assumption | apply Trk.alloc | apply Trk.setCell | apply Trk.drewN | apply Trk.drew | exact Trk.nil _))); simp only [SameOn, World.size_alloc, World.size_setCell, World.size_drew, size_drewN', and_true] at hk; have hsz := Below.size hb; (try simp only [World.size_alloc, World.size_setCell, World.size_drew, size_drewN'] at hsz)) | (go_at_call 72; refine ((A.out _ (HS.out.later (by (repeat (first | (with_reducible exact Below.refl _ _) | (with_reducible assumption) | (with_reducible refine below_then ?_ (by assumption)) | (with_reducible refine Below.trans ?_ (by assumption)) | (with_reducible refine below_drewN ?_ _) | (with_reducible apply Below.drew) | (with_reducible refine below_alloc ?_ _) | refine Below.setCell ?_ (by first | (simp; done) | (simp; omega)) _))))) ).mono ?_; rintro e w' ⟨rfl, n, rfl⟩) | (go_at_call 65; refine ((arePos1_any _ _ _ (FS1 (by go_simp <;> exact rfl))) ).mono ?_; rintro e w' ⟨rfl, n, rfl⟩) | (go_at_call 25; refine (implGrowIce_any _ _ _ _ _ _).mono ?_; rintro e w' ⟨r, rfl, hr, hb⟩; obtain ⟨hT, hk⟩ := bv_next hb (by (repeat (with_reducible first | assumption | apply Trk.alloc | apply Trk.setCell | apply Trk.drewN | apply Trk.drew | exact Trk.nil _))); simp only [SameOn, World.size_alloc, World.size_setCell, World.size_drew, size_drewN', and_true] at hk; have hsz := Below.size hb; (try simp only [World.size_alloc, World.size_setCell, World.size_drew, size_drewN'] at hsz)))
  refine wp_named ?_
  intro ws hws
  have hBs : Below w.heap.size w ws := by rw [hws]; (repeat (first | (with_reducible exact Below.refl _ _) | (with_reducible assumption) | (with_reducible refine below_then ?_ (by assumption)) | (with_reducible refine Below.trans ?_ (by assumption)) | (with_reducible refine below_drewN ?_ _) | (with_reducible apply Below.drew) | (with_reducible refine below_alloc ?_ _) | refine Below.setCell ?_ (by first | (simp; done) | (simp; omega)) _))
  have hat : s.at ws w.heap.size 0 := by rw [hws]; exact (by unfold St.at; refine ⟨?_, ?_, ?_, ?_, ?_, ?_⟩ <;> go_simp)
  go_loopw [1, 12, 45] (fun ice out idx wr => ∃ (j : Nat) (outs : List Nat) (r B : Nat), j ≤ xs.length ∧ idx = .int .i64 j ∧ ice = .float .f32 r ∧ Hid (OF B wr out outs) ∧ w.heap.size < B ∧ B ≤ wr.heap.size ∧ Hid (outs.length = j) ∧ Below w.heap.size w wr ∧ Hid (s.at wr w.heap.size 0) ∧ Hid (lst (cn .f32 r) = true ∧ runI s.k (cn .f32 k) (cn .f32 t) (cn .f32 i) (xs.map (cn .f32)) = (runI s.k (cn .f32 k) (cn .f32 t) (cn .f32 r) ((xs.map (cn .f32)).drop j)).map (outs.map (cn .f32) ++ ·))) (fun _ _ idx _ => xs.length - (intOf idx).toNat)
  case atStart => exact ⟨0, [], i, _, Nat.zero_le _, rfl, rfl, (by rw [hws]; exact OF.drewN (OF.empty _ _ (by simp) (Nat.le_refl _) rfl) _), (by simp only [World.size_alloc]; omega), (by rw [hws]; simp), rfl, hBs, hat, HI.out.1, by simp⟩
  case round =>
    clear hws hBs hat
    obtain ⟨j, outs, r, B, hj, rfl, rfl, HO, hwB, hBw, HL, hB, HAT, HR⟩ := hrel
    have hO := HO.out
    obtain ⟨qo, co, rfl⟩ := OF.shape hO
    have hl : outs.length = j := HL.out
    rw [hl] at hO ⊢
    by_cases hlt : j < xs.length
    · obtain ⟨b, o, rfl, hcell0⟩ := HV.out j hlt
      have hcell := cell_later hB hcell0
      have hwr : w.heap.size < wr.heap.size := by omega
      have hT : Trk wr [w.heap.size] := (Trk.nil wr).more hwr
      obtain ⟨a0, a1, a2, a3, a4, a5⟩ := HAT.out
      have HF : Hid (∀ x, xs.getD j 0 = x → fin .f32 (cn .f32 x) = true) := fun x e => by
        have := H2.out
        rw [List.any_eq_false] at this
        have h := this (xs.getD j 0) (by rw [List.getD_eq_getElem?_getD, List.getElem?_eq_getElem hlt]; exact List.getElem_mem hlt)
        rw [e] at h; simpa using h
      have HS1 := Lib.hid (fun h => runI_step (s := s.k) (k := cn .f32 k) (t := cn .f32 t) (i := cn .f32 r) hlt h (outs.map (cn .f32)))
      have HS2 := Lib.hid (fun h => runI_stop (s := s.k) (k := cn .f32 k) (t := cn .f32 t) (i := cn .f32 r) hlt h (outs.map (cn .f32)))
      generalize hx : xs.getD j 0 = x at hcell HS1 HS2
      have HX := Lib.hid hx
      clear hx hcell0 HV HAT HO
      have HG : Hid (gB (okIce s r k x t) (growC s.k (cn .f32 r) (cn .f32 k) (cn .f32 x) (cn .f32 t)) = (abv (fop .add .f32 (cn .f32 r) (cn .f32 k)) && fin .f32 (growC s.k (cn .f32 r) (cn .f32 k) (cn .f32 x) (cn .f32 t)))) := by
        show _ = _
        simp only [gB, okIce, iceB, H0.out, HI.out.2, HR.out.1, HF.out x HX.out, H4.out, Bool.true_and, Bool.and_true]
      rcases hst : (abv (fop .add .f32 (cn .f32 r) (cn .f32 k)) && fin .f32 (growC s.k (cn .f32 r) (cn .f32 k) (cn .f32 x) (cn .f32 t)))
      · have G : Hid (∀ w', Calls Try.prog 25 #[.agg #[.float .f32 s.a, .float .f32 s.b, .float .f32 s.c, .float .f32 s.d, .float .f32 s.p, .float .f32 s.l], .float .f32 r, .float .f32 k, .float .f32 x, .float .f32 t] w' (BFB w' .f32 (gF (okIce s r k x t) (growC s.k (cn .f32 r) (cn .f32 k) (cn .f32 x) (cn .f32 t))) false)) := fun w' => by
          have := implGrowIce_any s r k x t w'
          rw [HG.out, hst] at this; exact this
        have HE2 : Hid (runV s i k t xs = ([], false)) := by
          show _ = _
          rw [HE.out, HR.out.2, HS2.out hst]
        clear hst
        go_wp2_with (first | (with_reducible refine at_list ?_; refine wpList_fop rfl rfl rfl rfl rfl ?_; intro r n hr0; have hr := hr0 _ _ (by first | with_reducible assumption | exact rfl) (by first | with_reducible assumption | exact rfl); clear hr0) | (with_reducible refine at_list ?_; refine wpList_neg rfl rfl rfl ?_; intro r hr0; have hr := hr0 _ (by first | with_reducible assumption | exact rfl); clear hr0) | (with_reducible refine at_list ?_; refine wpList_fop_g rfl rfl rfl rfl rfl ?_; intro r n hr0; have hr := hr0 _ _ (by first | with_reducible assumption | exact rfl) (by first | with_reducible assumption | exact rfl); clear hr0) | (with_reducible refine at_list ?_; refine wpList_wide_g rfl rfl Try.underlying22 Try.underlying26 rfl ?_; intro r n hr0; have hr := hr0 _ (by first | with_reducible assumption | exact rfl); clear hr0) | (with_reducible refine at_list ?_; refine wpList_wide rfl rfl rfl Try.underlying22 Try.underlying26 ?_; intro r n hr0; have hr := hr0 _ (by first | with_reducible assumption | exact rfl); clear hr0) | (go_at_call 41; refine (implValidStuff_any _ _).mono ?_; rintro e w' ⟨rfl, hb⟩; obtain ⟨hT, hk⟩ := bv_next hb (by (repeat (with_reducible first | assumption | apply Trk.alloc | apply Trk.setCell | apply Trk.drewN | apply Trk.drew | exact Trk.nil _))); simp only [SameOn, World.size_alloc, World.size_setCell, World.size_drew, size_drewN', and_true] at hk; have hsz := Below.size hb; (try simp only [World.size_alloc, World.size_setCell, World.size_drew, size_drewN'] at hsz)) | (go_at_call 64; refine (isIce_any _ _ _).mono ?_; rintro e w' ⟨rfl, hb⟩; obtain ⟨hT, hk⟩ := bv_next hb (by (repeat (with_reducible first | assumption | apply Trk.alloc | apply Trk.setCell | apply Trk.drewN | apply Trk.drew | exact Trk.nil _))); simp only [SameOn, World.size_alloc, World.size_setCell, World.size_drew, size_drewN', and_true] at hk; have hsz := Below.size hb; (try simp only [World.size_alloc, World.size_setCell, World.size_drew, size_drewN'] at hsz)) | (go_at_call 72; refine (areFinite_any _ _ _ (by assumption)).mono ?_; rintro e w' ⟨rfl, n, rfl⟩) | (go_at_call 65; refine (arePositive_any _ _ _ (by assumption)).mono ?_; rintro e w' ⟨rfl, n, rfl⟩) | (go_at_call 25; refine ((G.out _) ).mono ?_; rintro e w' ⟨r, rfl, hr, hb⟩; obtain ⟨hT, hk⟩ := bv_next hb (by (repeat (with_reducible first | assumption | apply Trk.alloc | apply Trk.setCell | apply Trk.drewN | apply Trk.drew | exact Trk.nil _))); simp only [SameOn, World.size_alloc, World.size_setCell, World.size_drew, size_drewN', and_true] at hk; have hsz := Below.size hb; (try simp only [World.size_alloc, World.size_setCell, World.size_drew, size_drewN'] at hsz)))
        go_ret2
        rw [HE2.out]
        exact ⟨_, [], rfl, by (repeat (first | (with_reducible exact Below.refl _ _) | (with_reducible assumption) | (with_reducible refine below_then ?_ (by assumption)) | (with_reducible refine Below.trans ?_ (by assumption)) | (with_reducible refine below_drewN ?_ _) | (with_reducible apply Below.drew) | (with_reducible refine below_alloc ?_ _) | refine Below.setCell ?_ (by first | (simp; done) | (simp; omega)) _)), OF.nil0 _ _, rfl⟩
      · have hfin : fin .f32 (growC s.k (cn .f32 r) (cn .f32 k) (cn .f32 x) (cn .f32 t)) = true := by
          simp only [Bool.and_eq_true] at hst; exact hst.2
        have G : Hid (∀ w', Calls Try.prog 25 #[.agg #[.float .f32 s.a, .float .f32 s.b, .float .f32 s.c, .float .f32 s.d, .float .f32 s.p, .float .f32 s.l], .float .f32 r, .float .f32 k, .float .f32 x, .float .f32 t] w' (BFB w' .f32 (growC s.k (cn .f32 r) (cn .f32 k) (cn .f32 x) (cn .f32 t)) true)) := fun w' => by
          have := implGrowIce_any s r k x t w'
          have hok : okIce s r k x t = true := by
            have h := HG.out; rw [hst] at h
            unfold gB at h
            simp only [Bool.and_eq_true] at h; exact h.1
          rw [HG.out, hst] at this
          simp only [gF, hok, if_true, chk_yes hfin] at this; exact this
        have HN := Lib.hid (HS1.out hst)
        have HLS := Lib.hid (lst_grow hfin)
        clear hst hfin HG HS1 HS2
        go_wp2_with (first | (with_reducible refine at_list ?_; refine wpList_fop rfl rfl rfl rfl rfl ?_; intro r n hr0; have hr := hr0 _ _ (by first | with_reducible assumption | exact rfl) (by first | with_reducible assumption | exact rfl); clear hr0) | (with_reducible refine at_list ?_; refine wpList_neg rfl rfl rfl ?_; intro r hr0; have hr := hr0 _ (by first | with_reducible assumption | exact rfl); clear hr0) | (with_reducible refine at_list ?_; refine wpList_fop_g rfl rfl rfl rfl rfl ?_; intro r n hr0; have hr := hr0 _ _ (by first | with_reducible assumption | exact rfl) (by first | with_reducible assumption | exact rfl); clear hr0) | (with_reducible refine at_list ?_; refine wpList_wide_g rfl rfl Try.underlying22 Try.underlying26 rfl ?_; intro r n hr0; have hr := hr0 _ (by first | with_reducible assumption | exact rfl); clear hr0) | (with_reducible refine at_list ?_; refine wpList_wide rfl rfl rfl Try.underlying22 Try.underlying26 ?_; intro r n hr0; have hr := hr0 _ (by first | with_reducible assumption | exact rfl); clear hr0) | (at_builtin; refine stop_here ?_) | (go_at_call 41; refine (implValidStuff_any _ _).mono ?_; rintro e w' ⟨rfl, hb⟩; obtain ⟨hT, hk⟩ := bv_next hb (by (repeat (with_reducible first | assumption | apply Trk.alloc | apply Trk.setCell | apply Trk.drewN | apply Trk.drew | exact Trk.nil _))); simp only [SameOn, World.size_alloc, World.size_setCell, World.size_drew, size_drewN', and_true] at hk; have hsz := Below.size hb; (try simp only [World.size_alloc, World.size_setCell, World.size_drew, size_drewN'] at hsz)) | (go_at_call 64; refine (isIce_any _ _ _).mono ?_; rintro e w' ⟨rfl, hb⟩; obtain ⟨hT, hk⟩ := bv_next hb (by (repeat (with_reducible first | assumption | apply Trk.alloc | apply Trk.setCell | apply Trk.drewN | apply Trk.drew | exact Trk.nil _))); simp only [SameOn, World.size_alloc, World.size_setCell, World.size_drew, size_drewN', and_true] at hk; have hsz := Below.size hb; (try simp only [World.size_alloc, World.size_setCell, World.size_drew, size_drewN'] at hsz)) | (go_at_call 72; refine (areFinite_any _ _ _ (by assumption)).mono ?_; rintro e w' ⟨rfl, n, rfl⟩) | (go_at_call 65; refine (arePositive_any _ _ _ (by assumption)).mono ?_; rintro e w' ⟨rfl, n, rfl⟩) | (go_at_call 25; refine ((G.out _) ).mono ?_; rintro e w' ⟨r, rfl, hr, hb⟩; obtain ⟨hT, hk⟩ := bv_next hb (by (repeat (with_reducible first | assumption | apply Trk.alloc | apply Trk.setCell | apply Trk.drewN | apply Trk.drew | exact Trk.nil _))); simp only [SameOn, World.size_alloc, World.size_setCell, World.size_drew, size_drewN', and_true] at hk; have hsz := Below.size hb; (try simp only [World.size_alloc, World.size_setCell, World.size_drew, size_drewN'] at hsz)))
        unfold Stop
        apply wpList_app (B := B) (xs := outs) (v := .slice qo j co)
        case hg => rfl
        case ho => rfl
        case hs => rfl
        case hx => rfl
        case hO => exact (by (repeat' (first | (with_reducible assumption) | (with_reducible apply OF.setCell) | (with_reducible apply OF.alloc) | (with_reducible apply OF.later; rotate_left; with_reducible assumption) | (with_reducible apply OF.kept; rotate_left; with_reducible assumption; first | (exact OF.sep (by with_reducible assumption) (by with_reducible assumption) (by omega)) | (exact OF.sep' (by with_reducible assumption) (by with_reducible assumption) (by omega))) | (with_reducible apply OF.drewN))) <;> (first | omega | (simp; done) | (simp; omega)))
        case hc => go_simp <;> exact rfl
        case hn => omega
        case hB => simp; omega
        intro q2 c2 w2 hO2 hB2
        have hB3 := Below.trans (B := w.heap.size) (a := w) (by (repeat (first | (with_reducible exact Below.refl _ _) | (with_reducible assumption) | (with_reducible refine below_then ?_ (by assumption)) | (with_reducible refine Below.trans ?_ (by assumption)) | (with_reducible refine below_drewN ?_ _) | (with_reducible apply Below.drew) | (with_reducible refine below_alloc ?_ _) | refine Below.setCell ?_ (by first | (simp; done) | (simp; omega)) _))) (below_lower hB2 (by omega))
        have hat2 := at_later (s := s) (b := w.heap.size) (o := 0) (by unfold St.at; refine ⟨?_, ?_, ?_, ?_, ?_, ?_⟩ <;> go_simp) hB2 hwB
        rw [hl] at hO2 ⊢
        have HB3 := Lib.hid hB3
        have HAT2 := Lib.hid hat2
        have HZ2 : Hid (B ≤ w2.heap.size) := by
          have := hB2.size
          simp at this
          show B ≤ _
          omega
        have HE3 : Hid (runI s.k (cn .f32 k) (cn .f32 t) (cn .f32 i) (xs.map (cn .f32)) = (runI s.k (cn .f32 k) (cn .f32 t) (cn .f32 r) ((xs.map (cn .f32)).drop (j + 1))).map ((outs ++ [r]).map (cn .f32) ++ ·)) := by
          show _ = _
          rw [HR.out.2, HN.out, ← hr]
          simp
        have HL3 : Hid (lst (cn .f32 r) = true) := by show _ = _; rw [hr]; exact HLS.out
        clear hO hat2 hB3 hB2 hr
        go_wp2
        go_roundw
        case rel => exact ⟨j + 1, outs ++ [r], r, B, by omega, by go_num, rfl, hO2, hwB, HZ2.out, by show _ = _; simp [HL.out], HB3.out, HAT2.out, HL3.out, HE3.out⟩
        case measure => simp [intOf]; omega
    · have he : j = xs.length := by omega
      have HE4 : Hid (runV s i k t xs = (outs.map (cn .f32), true)) := by
        show _ = _
        rw [HE.out, HR.out.2, he, List.drop_of_length_le (by simp)]
        simp [runI]
      have HO3 := Lib.hid (OF.base hO (by omega : w.heap.size ≤ B))
      clear hO HAT
      go_wp2
      go_ret2
      rw [HE4.out]
      exact ⟨_, outs, rfl, hB, HO3.out, rfl⟩
set_option maxHeartbeats 4000000 in
theorem specRunIce_any (s : St) (i k t : Nat) (v : Value) (xs : List Nat) (w : World) (hs : FS w v xs) : Calls Try.prog 30 #[.agg #[.float .f32 s.a, .float .f32 s.b, .float .f32 s.c, .float .f32 s.d, .float .f32 s.p, .float .f32 s.l], .float .f32 i, .float .f32 k, v, .float .f32 t] w (BC w (runV s i k t xs).1 (runV s i k t xs).2) := by
  have HS := Lib.hid hs
  obtain ⟨q, c, rfl, hc1, hc2, HV⟩ := FS_view hs
  have HV := Lib.hid HV
  clear hs
  rcases h0 : (s.ok && (iceB (cn .f32 i) (cn .f32 k) && abv (cn .f32 t)))
  · have hno : runOk s i k t xs = false := by
      unfold runOk
      revert h0
      cases s.ok <;> cases iceB (cn .f32 i) (cn .f32 k) <;> cases abv (cn .f32 t) <;> simp
    rw [runV_no hno]
    have A := Lib.hid (fun b o w hs => (h0 ▸ l03Ice_any s i k t b o w hs : Calls Try.prog 62 #[.pointer (some ⟨b, o, none⟩), .float .f32 i, .float .f32 k, .float .f32 t] w (RB w _)))
    clear h0 hno
    go_enter Try.func30, Try.ntmps30
    go_wp2_with (first | (with_reducible refine at_list ?_; refine wpList_fop rfl rfl rfl rfl rfl ?_; intro r n hr0; have hr := hr0 _ _ (by first | with_reducible assumption | exact rfl) (by first | with_reducible assumption | exact rfl); clear hr0) | (with_reducible refine at_list ?_; refine wpList_neg rfl rfl rfl ?_; intro r hr0; have hr := hr0 _ (by first | with_reducible assumption | exact rfl); clear hr0) | (with_reducible refine at_list ?_; refine wpList_fop_g rfl rfl rfl rfl rfl ?_; intro r n hr0; have hr := hr0 _ _ (by first | with_reducible assumption | exact rfl) (by first | with_reducible assumption | exact rfl); clear hr0) | (with_reducible refine at_list ?_; refine wpList_wide_g rfl rfl Try.underlying22 Try.underlying26 rfl ?_; intro r n hr0; have hr := hr0 _ (by first | with_reducible assumption | exact rfl); clear hr0) | (with_reducible refine at_list ?_; refine wpList_wide rfl rfl rfl Try.underlying22 Try.underlying26 ?_; intro r n hr0; have hr := hr0 _ (by first | with_reducible assumption | exact rfl); clear hr0) | (go_at_call 62; refine ((A.out _ _ _ (by unfold St.at; refine ⟨?_, ?_, ?_, ?_, ?_, ?_⟩ <;> go_simp)) ).mono ?_; rintro e w' ⟨rfl, n, rfl⟩) | (go_at_call 71; refine (l02Finite_any _ _ _ (by assumption)).mono ?_; rintro e w' ⟨rfl, n, rfl⟩) | (go_at_call 68; refine (l02Above_any _ _).mono ?_; rintro e w' ⟨rfl, n, rfl⟩) | (go_at_call 63; refine (l03Grow_any _ _ _ _ _ _ _ _ (by assumption)).mono ?_; rintro e w' ⟨r, rfl, hr, n, rfl⟩) | (go_at_call 48; refine (l01Finite_any _ _).mono ?_; rintro e w' ⟨rfl, n, rfl⟩))
    all_goals
      go_ret2
      exact ⟨_, [], rfl, by (repeat (first | (with_reducible exact Below.refl _ _) | (with_reducible assumption) | (with_reducible refine below_then ?_ (by assumption)) | (with_reducible refine Below.trans ?_ (by assumption)) | (with_reducible refine below_drewN ?_ _) | (with_reducible apply Below.drew) | (with_reducible refine below_alloc ?_ _) | refine Below.setCell ?_ (by first | (simp; done) | (simp; omega)) _)), OF.nil0 _ _, rfl⟩
  have A := Lib.hid (fun b o w hs => (h0 ▸ l03Ice_any s i k t b o w hs : Calls Try.prog 62 #[.pointer (some ⟨b, o, none⟩), .float .f32 i, .float .f32 k, .float .f32 t] w (RB w _)))
  by_cases h3 : 128 < xs.length
  · rw [runV_no (by simp [runOk]; omega)]
    clear h0
    go_enter Try.func30, Try.ntmps30
    go_wp2_with (first | (with_reducible refine at_list ?_; refine wpList_fop rfl rfl rfl rfl rfl ?_; intro r n hr0; have hr := hr0 _ _ (by first | with_reducible assumption | exact rfl) (by first | with_reducible assumption | exact rfl); clear hr0) | (with_reducible refine at_list ?_; refine wpList_neg rfl rfl rfl ?_; intro r hr0; have hr := hr0 _ (by first | with_reducible assumption | exact rfl); clear hr0) | (with_reducible refine at_list ?_; refine wpList_fop_g rfl rfl rfl rfl rfl ?_; intro r n hr0; have hr := hr0 _ _ (by first | with_reducible assumption | exact rfl) (by first | with_reducible assumption | exact rfl); clear hr0) | (with_reducible refine at_list ?_; refine wpList_wide_g rfl rfl Try.underlying22 Try.underlying26 rfl ?_; intro r n hr0; have hr := hr0 _ (by first | with_reducible assumption | exact rfl); clear hr0) | (with_reducible refine at_list ?_; refine wpList_wide rfl rfl rfl Try.underlying22 Try.underlying26 ?_; intro r n hr0; have hr := hr0 _ (by first | with_reducible assumption | exact rfl); clear hr0) | (go_at_call 62; refine ((A.out _ _ _ (by unfold St.at; refine ⟨?_, ?_, ?_, ?_, ?_, ?_⟩ <;> go_simp)) ).mono ?_; rintro e w' ⟨rfl, n, rfl⟩) | (go_at_call 71; refine (l02Finite_any _ _ _ (by assumption)).mono ?_; rintro e w' ⟨rfl, n, rfl⟩) | (go_at_call 68; refine (l02Above_any _ _).mono ?_; rintro e w' ⟨rfl, n, rfl⟩) | (go_at_call 63; refine (l03Grow_any _ _ _ _ _ _ _ _ (by assumption)).mono ?_; rintro e w' ⟨r, rfl, hr, n, rfl⟩) | (go_at_call 48; refine (l01Finite_any _ _).mono ?_; rintro e w' ⟨rfl, n, rfl⟩))
    all_goals
      go_ret2
      exact ⟨_, [], rfl, by (repeat (first | (with_reducible exact Below.refl _ _) | (with_reducible assumption) | (with_reducible refine below_then ?_ (by assumption)) | (with_reducible refine Below.trans ?_ (by assumption)) | (with_reducible refine below_drewN ?_ _) | (with_reducible apply Below.drew) | (with_reducible refine below_alloc ?_ _) | refine Below.setCell ?_ (by first | (simp; done) | (simp; omega)) _)), OF.nil0 _ _, rfl⟩
  rcases h2 : xs.any (fun x => !fin .f32 (cn .f32 x))
  rotate_left
  · rw [runV_no (by simp only [runOk, h2]; simp)]
    have A2 := Lib.hid (fun w hs => (h2 ▸ l02Finite_any xs (.slice q xs.length c) w hs : Calls Try.prog 71 #[.slice q xs.length c] w (RB w (!true))))
    clear h2 h0
    go_enter Try.func30, Try.ntmps30
    go_wp2_with (first | (with_reducible refine at_list ?_; refine wpList_fop rfl rfl rfl rfl rfl ?_; intro r n hr0; have hr := hr0 _ _ (by first | with_reducible assumption | exact rfl) (by first | with_reducible assumption | exact rfl); clear hr0) | (with_reducible refine at_list ?_; refine wpList_neg rfl rfl rfl ?_; intro r hr0; have hr := hr0 _ (by first | with_reducible assumption | exact rfl); clear hr0) | (with_reducible refine at_list ?_; refine wpList_fop_g rfl rfl rfl rfl rfl ?_; intro r n hr0; have hr := hr0 _ _ (by first | with_reducible assumption | exact rfl) (by first | with_reducible assumption | exact rfl); clear hr0) | (with_reducible refine at_list ?_; refine wpList_wide_g rfl rfl Try.underlying22 Try.underlying26 rfl ?_; intro r n hr0; have hr := hr0 _ (by first | with_reducible assumption | exact rfl); clear hr0) | (with_reducible refine at_list ?_; refine wpList_wide rfl rfl rfl Try.underlying22 Try.underlying26 ?_; intro r n hr0; have hr := hr0 _ (by first | with_reducible assumption | exact rfl); clear hr0) | (go_at_call 62; refine ((A.out _ _ _ (by unfold St.at; refine ⟨?_, ?_, ?_, ?_, ?_, ?_⟩ <;> go_simp)) ).mono ?_; rintro e w' ⟨rfl, n, rfl⟩) | (go_at_call 71; refine ((A2.out _ (HS.out.later (by (repeat (first | (with_reducible exact Below.refl _ _) | (with_reducible assumption) | (with_reducible refine below_then ?_ (by assumption)) | (with_reducible refine Below.trans ?_ (by assumption)) | (with_reducible refine below_drewN ?_ _) | (with_reducible apply Below.drew) | (with_reducible refine below_alloc ?_ _) | refine Below.setCell ?_ (by first | (simp; done) | (simp; omega)) _))))) ).mono ?_; rintro e w' ⟨rfl, n, rfl⟩) | (go_at_call 68; refine (l02Above_any _ _).mono ?_; rintro e w' ⟨rfl, n, rfl⟩) | (go_at_call 63; refine (l03Grow_any _ _ _ _ _ _ _ _ (by assumption)).mono ?_; rintro e w' ⟨r, rfl, hr, n, rfl⟩) | (go_at_call 48; refine (l01Finite_any _ _).mono ?_; rintro e w' ⟨rfl, n, rfl⟩))
    all_goals
      go_ret2
      exact ⟨_, [], rfl, by (repeat (first | (with_reducible exact Below.refl _ _) | (with_reducible assumption) | (with_reducible refine below_then ?_ (by assumption)) | (with_reducible refine Below.trans ?_ (by assumption)) | (with_reducible refine below_drewN ?_ _) | (with_reducible apply Below.drew) | (with_reducible refine below_alloc ?_ _) | refine Below.setCell ?_ (by first | (simp; done) | (simp; omega)) _)), OF.nil0 _ _, rfl⟩
  have A2 := Lib.hid (fun w hs => (h2 ▸ l02Finite_any xs (.slice q xs.length c) w hs : Calls Try.prog 71 #[.slice q xs.length c] w (RB w (!false))))
  have H2 := Lib.hid h2
  have h0' := h0
  simp only [Bool.and_eq_true] at h0'
  obtain ⟨h00, h1, h4⟩ := h0'
  have HE : Hid (runV s i k t xs = (match runI s.k (cn .f32 k) (cn .f32 t) (cn .f32 i) (xs.map (cn .f32)) with | some L => (L, true) | none => ([], false))) := by
    have : runOk s i k t xs = true := by
      have e : decide (xs.length ≤ 128) = true := by simp; omega
      simp only [runOk, h00, h1, H2.out, h4, e]; rfl
    show _ = _
    simp only [runV, this, if_true]
  have HI : Hid (lst (cn .f32 i) = true ∧ lst (cn .f32 k) = true) := by
    show _ ∧ _
    unfold iceB at h1
    simp only [Bool.and_eq_true] at h1
    exact ⟨h1.1, h1.2.1⟩
  clear h2 h0 h00 h1 h4
  go_enter Try.func30, Try.ntmps30
  go_wp2_with (first | (with_reducible refine at_list ?_; refine wpList_fop rfl rfl rfl rfl rfl ?_; intro r n hr0; have hr := hr0 _ _ (by first | with_reducible assumption | exact rfl) (by first | with_reducible assumption | exact rfl); clear hr0) | (with_reducible refine at_list ?_; refine wpList_neg rfl rfl rfl ?_; intro r hr0; have hr := hr0 _ (by first | with_reducible assumption | exact rfl); clear hr0) | (with_reducible refine at_list ?_; refine wpList_fop_g rfl rfl rfl rfl rfl ?_; intro r n hr0; have hr := hr0 _ _ (by first | with_reducible assumption | exact rfl) (by first | with_reducible assumption | exact rfl); clear hr0) | (with_reducible refine at_list ?_; refine wpList_wide_g rfl rfl Try.underlying22 Try.underlying26 rfl ?_; intro r n hr0; have hr := hr0 _ (by first | with_reducible assumption | exact rfl); clear hr0) | (with_reducible refine at_list ?_; refine wpList_wide rfl rfl rfl Try.underlying22 Try.underlying26 ?_; intro r n hr0; have hr := hr0 _ (by first | with_reducible assumption | exact rfl); clear hr0) | (go_at_call 62; refine ((A.out _ _ _ (by unfold St.at; refine ⟨?_, ?_, ?_, ?_, ?_, ?_⟩ <;> go_simp)) ).mono ?_; rintro e w' ⟨rfl, n, rfl⟩) | (go_at_call 71; refine ((A2.out _ (HS.out.later (by (repeat (first | (with_reducible exact Below.refl _ _) | (with_reducible assumption) | (with_reducible refine below_then ?_ (by assumption)) | (with_reducible refine Below.trans ?_ (by assumption)) | (with_reducible refine below_drewN ?_ _) | (with_reducible apply Below.drew) | (with_reducible refine below_alloc ?_ _) | refine Below.setCell ?_ (by first | (simp; done) | (simp; omega)) _))))) ).mono ?_; rintro e w' ⟨rfl, n, rfl⟩) | (go_at_call 68; refine (l02Above_any _ _).mono ?_; rintro e w' ⟨rfl, n, rfl⟩) | (go_at_call 63; refine (l03Grow_any _ _ _ _ _ _ _ _ (by assumption)).mono ?_; rintro e w' ⟨r, rfl, hr, n, rfl⟩) | (go_at_call 48; refine (l01Finite_any _ _).mono ?_; rintro e w' ⟨rfl, n, rfl⟩))
  refine wp_named ?_
  intro ws hws
  have hBs : Below w.heap.size w ws := by rw [hws]; (repeat (first | (with_reducible exact Below.refl _ _) | (with_reducible assumption) | (with_reducible refine below_then ?_ (by assumption)) | (with_reducible refine Below.trans ?_ (by assumption)) | (with_reducible refine below_drewN ?_ _) | (with_reducible apply Below.drew) | (with_reducible refine below_alloc ?_ _) | refine Below.setCell ?_ (by first | (simp; done) | (simp; omega)) _))
  have hat : s.at ws w.heap.size 0 := by rw [hws]; exact (by unfold St.at; refine ⟨?_, ?_, ?_, ?_, ?_, ?_⟩ <;> go_simp)
  go_loopw [1, 12, 32] (fun ice out idx wr => ∃ (j : Nat) (outs : List Nat) (r B : Nat), j ≤ xs.length ∧ idx = .int .i64 j ∧ ice = .float .f32 r ∧ Hid (OF B wr out outs) ∧ w.heap.size < B ∧ B ≤ wr.heap.size ∧ Hid (outs.length = j) ∧ Below w.heap.size w wr ∧ Hid (s.at wr w.heap.size 0) ∧ Hid (lst (cn .f32 r) = true ∧ runI s.k (cn .f32 k) (cn .f32 t) (cn .f32 i) (xs.map (cn .f32)) = (runI s.k (cn .f32 k) (cn .f32 t) (cn .f32 r) ((xs.map (cn .f32)).drop j)).map (outs.map (cn .f32) ++ ·))) (fun _ _ idx _ => xs.length - (intOf idx).toNat)
  case atStart => exact ⟨0, [], i, _, Nat.zero_le _, rfl, rfl, (by rw [hws]; exact OF.drewN (OF.empty _ _ (by simp) (Nat.le_refl _) rfl) _), (by simp only [World.size_alloc]; omega), (by rw [hws]; simp), rfl, hBs, hat, HI.out.1, by simp⟩
  case round =>
    clear hws hBs hat
    obtain ⟨j, outs, r, B, hj, rfl, rfl, HO, hwB, hBw, HL, hB, HAT, HR⟩ := hrel
    have hO := HO.out
    obtain ⟨qo, co, rfl⟩ := OF.shape hO
    have hl : outs.length = j := HL.out
    rw [hl] at hO ⊢
    by_cases hlt : j < xs.length
    · obtain ⟨b, o, rfl, hcell0⟩ := HV.out j hlt
      have hcell := cell_later hB hcell0
      have hwr : w.heap.size < wr.heap.size := by omega
      have hT : Trk wr [w.heap.size] := (Trk.nil wr).more hwr
      obtain ⟨a0, a1, a2, a3, a4, a5⟩ := HAT.out
      have HF : Hid (∀ x, xs.getD j 0 = x → fin .f32 (cn .f32 x) = true) := fun x e => by
        have := H2.out
        rw [List.any_eq_false] at this
        have h := this (xs.getD j 0) (by rw [List.getD_eq_getElem?_getD, List.getElem?_eq_getElem hlt]; exact List.getElem_mem hlt)
        rw [e] at h; simpa using h
      have HS1 := Lib.hid (fun h => runI_step (s := s.k) (k := cn .f32 k) (t := cn .f32 t) (i := cn .f32 r) hlt h (outs.map (cn .f32)))
      have HS2 := Lib.hid (fun h => runI_stop (s := s.k) (k := cn .f32 k) (t := cn .f32 t) (i := cn .f32 r) hlt h (outs.map (cn .f32)))
      generalize hx : xs.getD j 0 = x at hcell HS1 HS2
      have HX := Lib.hid hx
      clear hx hcell0 HV HAT HO
      rcases hA : abv (fop .add .f32 (cn .f32 r) (cn .f32 k))
      · have HE2 : Hid (runV s i k t xs = ([], false)) := by
          show _ = _
          rw [HE.out, HR.out.2, HS2.out (by rw [hA]; rfl)]
        go_wp2_with (first | (with_reducible refine at_list ?_; refine wpList_fop rfl rfl rfl rfl rfl ?_; intro r n hr0; have hr := hr0 _ _ (by first | with_reducible assumption | exact rfl) (by first | with_reducible assumption | exact rfl); clear hr0) | (with_reducible refine at_list ?_; refine wpList_neg rfl rfl rfl ?_; intro r hr0; have hr := hr0 _ (by first | with_reducible assumption | exact rfl); clear hr0) | (with_reducible refine at_list ?_; refine wpList_fop_g rfl rfl rfl rfl rfl ?_; intro r n hr0; have hr := hr0 _ _ (by first | with_reducible assumption | exact rfl) (by first | with_reducible assumption | exact rfl); clear hr0) | (with_reducible refine at_list ?_; refine wpList_wide_g rfl rfl Try.underlying22 Try.underlying26 rfl ?_; intro r n hr0; have hr := hr0 _ (by first | with_reducible assumption | exact rfl); clear hr0) | (with_reducible refine at_list ?_; refine wpList_wide rfl rfl rfl Try.underlying22 Try.underlying26 ?_; intro r n hr0; have hr := hr0 _ (by first | with_reducible assumption | exact rfl); clear hr0) | (go_at_call 62; refine (l03Ice_any _ _ _ _ _ _ _ (by assumption)).mono ?_; rintro e w' ⟨rfl, n, rfl⟩) | (go_at_call 71; refine (l02Finite_any _ _ _ (by assumption)).mono ?_; rintro e w' ⟨rfl, n, rfl⟩) | (go_at_call 68; refine (l02Above_any _ _).mono ?_; rintro e w' ⟨rfl, n, rfl⟩) | (go_at_call 63; refine (l03Grow_any s _ _ _ _ _ _ _ (by unfold St.at; refine ⟨?_, ?_, ?_, ?_, ?_, ?_⟩ <;> go_simp)).mono ?_; rintro e w' ⟨r, rfl, hr, n, rfl⟩) | (go_at_call 48; refine (l01Finite_any _ _).mono ?_; rintro e w' ⟨rfl, n, rfl⟩))
        go_ret2
        rw [HE2.out]
        exact ⟨_, [], rfl, by (repeat (first | (with_reducible exact Below.refl _ _) | (with_reducible assumption) | (with_reducible refine below_then ?_ (by assumption)) | (with_reducible refine Below.trans ?_ (by assumption)) | (with_reducible refine below_drewN ?_ _) | (with_reducible apply Below.drew) | (with_reducible refine below_alloc ?_ _) | refine Below.setCell ?_ (by first | (simp; done) | (simp; omega)) _)), OF.nil0 _ _, rfl⟩
      rcases hF : fin .f32 (growC s.k (cn .f32 r) (cn .f32 k) (cn .f32 x) (cn .f32 t))
      · have HE2 : Hid (runV s i k t xs = ([], false)) := by
          show _ = _
          rw [HE.out, HR.out.2, HS2.out (by rw [hA, hF]; rfl)]
        go_wp2_with (first | (with_reducible refine at_list ?_; refine wpList_fop rfl rfl rfl rfl rfl ?_; intro r n hr0; have hr := hr0 _ _ (by first | with_reducible assumption | exact rfl) (by first | with_reducible assumption | exact rfl); clear hr0) | (with_reducible refine at_list ?_; refine wpList_neg rfl rfl rfl ?_; intro r hr0; have hr := hr0 _ (by first | with_reducible assumption | exact rfl); clear hr0) | (with_reducible refine at_list ?_; refine wpList_fop_g rfl rfl rfl rfl rfl ?_; intro r n hr0; have hr := hr0 _ _ (by first | with_reducible assumption | exact rfl) (by first | with_reducible assumption | exact rfl); clear hr0) | (with_reducible refine at_list ?_; refine wpList_wide_g rfl rfl Try.underlying22 Try.underlying26 rfl ?_; intro r n hr0; have hr := hr0 _ (by first | with_reducible assumption | exact rfl); clear hr0) | (with_reducible refine at_list ?_; refine wpList_wide rfl rfl rfl Try.underlying22 Try.underlying26 ?_; intro r n hr0; have hr := hr0 _ (by first | with_reducible assumption | exact rfl); clear hr0) | (go_at_call 62; refine (l03Ice_any _ _ _ _ _ _ _ (by assumption)).mono ?_; rintro e w' ⟨rfl, n, rfl⟩) | (go_at_call 71; refine (l02Finite_any _ _ _ (by assumption)).mono ?_; rintro e w' ⟨rfl, n, rfl⟩) | (go_at_call 68; refine (l02Above_any _ _).mono ?_; rintro e w' ⟨rfl, n, rfl⟩) | (go_at_call 63; refine (l03Grow_any s _ _ _ _ _ _ _ (by unfold St.at; refine ⟨?_, ?_, ?_, ?_, ?_, ?_⟩ <;> go_simp)).mono ?_; rintro e w' ⟨r, rfl, hr, n, rfl⟩) | (go_at_call 48; refine (l01Finite_any _ _).mono ?_; rintro e w' ⟨rfl, n, rfl⟩))
        go_ret2
        rw [HE2.out]
        exact ⟨_, [], rfl, by (repeat (first | (with_reducible exact Below.refl _ _) | (with_reducible assumption) | (with_reducible refine below_then ?_ (by assumption)) | (with_reducible refine Below.trans ?_ (by assumption)) | (with_reducible refine below_drewN ?_ _) | (with_reducible apply Below.drew) | (with_reducible refine below_alloc ?_ _) | refine Below.setCell ?_ (by first | (simp; done) | (simp; omega)) _)), OF.nil0 _ _, rfl⟩
      · have HN := Lib.hid (HS1.out (by rw [hA, hF]; rfl))
        have HLS := Lib.hid (lst_grow hF)
        clear HS1 HS2
        go_wp2_with (first | (with_reducible refine at_list ?_; refine wpList_fop rfl rfl rfl rfl rfl ?_; intro r n hr0; have hr := hr0 _ _ (by first | with_reducible assumption | exact rfl) (by first | with_reducible assumption | exact rfl); clear hr0) | (with_reducible refine at_list ?_; refine wpList_neg rfl rfl rfl ?_; intro r hr0; have hr := hr0 _ (by first | with_reducible assumption | exact rfl); clear hr0) | (with_reducible refine at_list ?_; refine wpList_fop_g rfl rfl rfl rfl rfl ?_; intro r n hr0; have hr := hr0 _ _ (by first | with_reducible assumption | exact rfl) (by first | with_reducible assumption | exact rfl); clear hr0) | (with_reducible refine at_list ?_; refine wpList_wide_g rfl rfl Try.underlying22 Try.underlying26 rfl ?_; intro r n hr0; have hr := hr0 _ (by first | with_reducible assumption | exact rfl); clear hr0) | (with_reducible refine at_list ?_; refine wpList_wide rfl rfl rfl Try.underlying22 Try.underlying26 ?_; intro r n hr0; have hr := hr0 _ (by first | with_reducible assumption | exact rfl); clear hr0) | (at_builtin; refine stop_here ?_) | (go_at_call 62; refine (l03Ice_any _ _ _ _ _ _ _ (by assumption)).mono ?_; rintro e w' ⟨rfl, n, rfl⟩) | (go_at_call 71; refine (l02Finite_any _ _ _ (by assumption)).mono ?_; rintro e w' ⟨rfl, n, rfl⟩) | (go_at_call 68; refine (l02Above_any _ _).mono ?_; rintro e w' ⟨rfl, n, rfl⟩) | (go_at_call 63; refine (l03Grow_any s _ _ _ _ _ _ _ (by unfold St.at; refine ⟨?_, ?_, ?_, ?_, ?_, ?_⟩ <;> go_simp)).mono ?_; rintro e w' ⟨r, rfl, hr, n, rfl⟩) | (go_at_call 48; refine (l01Finite_any _ _).mono ?_; rintro e w' ⟨rfl, n, rfl⟩))
        unfold Stop
        apply wpList_app (B := B) (xs := outs) (v := .slice qo j co)
        case hg => rfl
        case ho => rfl
        case hs => rfl
        case hx => rfl
        case hO => exact (by (repeat' (first | (with_reducible assumption) | (with_reducible apply OF.setCell) | (with_reducible apply OF.alloc) | (with_reducible apply OF.later; rotate_left; with_reducible assumption) | (with_reducible apply OF.kept; rotate_left; with_reducible assumption; first | (exact OF.sep (by with_reducible assumption) (by with_reducible assumption) (by omega)) | (exact OF.sep' (by with_reducible assumption) (by with_reducible assumption) (by omega))) | (with_reducible apply OF.drewN))) <;> (first | omega | (simp; done) | (simp; omega)))
        case hc => go_simp <;> exact rfl
        case hn => omega
        case hB => simp; omega
        intro q2 c2 w2 hO2 hB2
        have hB3 := Below.trans (B := w.heap.size) (a := w) (by (repeat (first | (with_reducible exact Below.refl _ _) | (with_reducible assumption) | (with_reducible refine below_then ?_ (by assumption)) | (with_reducible refine Below.trans ?_ (by assumption)) | (with_reducible refine below_drewN ?_ _) | (with_reducible apply Below.drew) | (with_reducible refine below_alloc ?_ _) | refine Below.setCell ?_ (by first | (simp; done) | (simp; omega)) _))) (below_lower hB2 (by omega))
        have hat2 := at_later (s := s) (b := w.heap.size) (o := 0) (by unfold St.at; refine ⟨?_, ?_, ?_, ?_, ?_, ?_⟩ <;> go_simp) hB2 hwB
        rw [hl] at hO2 ⊢
        have HB3 := Lib.hid hB3
        have HAT2 := Lib.hid hat2
        have HZ2 : Hid (B ≤ w2.heap.size) := by
          have := hB2.size
          simp at this
          show B ≤ _
          omega
        have HE3 : Hid (runI s.k (cn .f32 k) (cn .f32 t) (cn .f32 i) (xs.map (cn .f32)) = (runI s.k (cn .f32 k) (cn .f32 t) (cn .f32 r) ((xs.map (cn .f32)).drop (j + 1))).map ((outs ++ [r]).map (cn .f32) ++ ·)) := by
          show _ = _
          rw [HR.out.2, HN.out, ← hr]
          simp
        have HL3 : Hid (lst (cn .f32 r) = true) := by show _ = _; rw [hr]; exact HLS.out
        clear hO hat2 hB3 hB2 hr
        go_wp2
        go_roundw
        case rel => exact ⟨j + 1, outs ++ [r], r, B, by omega, by go_num, rfl, hO2, hwB, HZ2.out, by show _ = _; simp [HL.out], HB3.out, HAT2.out, HL3.out, HE3.out⟩
        case measure => simp [intOf]; omega
    · have he : j = xs.length := by omega
      have HE4 : Hid (runV s i k t xs = (outs.map (cn .f32), true)) := by
        show _ = _
        rw [HE.out, HR.out.2, he, List.drop_of_length_le (by simp)]
        simp [runI]
      have HO3 := Lib.hid (OF.base hO (by omega : w.heap.size ≤ B))
      clear hO HAT
      go_wp2
      go_ret2
      rw [HE4.out]
      exact ⟨_, outs, rfl, hB, HO3.out, rfl⟩
end Go.Proofs.Ytiodpahbmoeiaaa

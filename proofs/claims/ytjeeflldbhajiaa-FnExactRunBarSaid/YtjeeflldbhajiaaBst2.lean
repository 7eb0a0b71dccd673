/-
  A bar a tick later: the reference's way. No condition but what each contract says.
-/
import Derived.Test.YtjeeflldbhajiaaBst
import Derived.Deep.CutRange
set_option linter.unusedSimpArgs false
set_option linter.unusedVariables false
set_option linter.unusedSectionVars false
namespace Go.Proofs.Ytjeeflldbhajiaa
open Go Go.RowKit
open Go.ChangeShapes Go.WideShapes Go.ChangeAt Go.RowKit Go.Joins
theorem take_setF {zs : List Nat} {k r : Nat} (hk : k < zs.length) : (zs.set k r).take (k + 1) = zs.take k ++ [r] := by
  rw [List.take_add_one, List.take_set_of_le (Nat.le_refl _)]
  simp [hk]
theorem OF.stored {B : Nat} {w : World} {g n c : Nat} {zs : List Nat} (h : OF B w (.slice (some ⟨g, 0, none⟩) n c) zs) (hn : zs.length = n) (k r : Nat) : OF B (w.setCell ⟨g, k, none⟩ (.float .f32 r)) (.slice (some ⟨g, 0, none⟩) n c) (zs.set k r) ∧ w.grownBy (w.setCell ⟨g, k, none⟩ (.float .f32 r)) (some g) := by
  subst hn
  unfold OF at h ⊢
  obtain ⟨h1, h2⟩ := World.ownsRow.stored h k (.float .f32 r)
  rw [List.length_set, List.map_set]
  exact ⟨h1, h2⟩
set_option maxHeartbeats 2000000 in
theorem l03Can_any (s : St) (p : Nat) (v : Value) (xs : List Nat) (l g t b o : Nat) (w : World) (hat : BarAt s p v w b o) (hs : FS w v xs) : Calls Try.prog 89 #[.pointer (some ⟨b, o, none⟩), .float .f32 l, .float .f32 g, .float .f32 t] w (RB w (canB s p xs l g t)) := by
  have HS := Lib.hid hs
  have HAT := Lib.hid hat
  have HB := Lib.hid (l03Bar_any s p v xs b o w hat hs)
  have hD : ∀ n, (w.drewN n).heap.size = w.heap.size := fun n => rfl
  clear hat hs
  rcases h0 : barOk s p xs
  · rw [h0] at HB
    have HE : Hid (canB s p xs l g t = false) := by show _ = _; unfold canB; rw [h0]; rfl
    go_enter Try.func89, Try.ntmps89
    go_wp2_with (first | (with_reducible refine at_list ?_; refine wpList_fop rfl rfl rfl rfl rfl ?_; intro r n hr0; have hr := hr0 _ _ (by first | with_reducible assumption | exact rfl) (by first | with_reducible assumption | exact rfl); clear hr0) | (with_reducible refine at_list ?_; refine wpList_neg rfl rfl rfl ?_; intro r hr0; have hr := hr0 _ (by first | with_reducible assumption | exact rfl); clear hr0) | (with_reducible refine at_list ?_; refine wpList_fop_g rfl rfl rfl rfl rfl ?_; intro r n hr0; have hr := hr0 _ _ (by first | with_reducible assumption | exact rfl) (by first | with_reducible assumption | exact rfl); clear hr0) | (with_reducible refine at_list ?_; refine wpList_wide_g rfl rfl Try.underlying22 Try.underlying40 rfl ?_; intro r n hr0; have hr := hr0 _ (by first | with_reducible assumption | exact rfl); clear hr0) | (with_reducible refine at_list ?_; refine wpList_wide rfl rfl rfl Try.underlying22 Try.underlying40 ?_; intro r n hr0; have hr := hr0 _ (by first | with_reducible assumption | exact rfl); clear hr0) | (go_at_call 62; refine ((HB.out) ).mono ?_; rintro e w' ⟨rfl, n, rfl⟩) | (go_at_call 82; refine (l01Finite_any _ _).mono ?_; rintro e w' ⟨rfl, n, rfl⟩) | (go_at_call 107; refine (l02Above_any _ _).mono ?_; rintro e w' ⟨rfl, n, rfl⟩) | (go_at_call 70; refine (l03Most_any _ _ _ _ _ _ (by assumption) (by assumption)).mono ?_; rintro e w' ⟨r, rfl, hr, n, rfl⟩))
    all_goals
      go_ret
      exact ⟨by rw [HE.out]; rfl, (by first | exact ⟨_, rfl⟩ | exact ⟨0, rfl⟩ | exact ⟨_, World.drewN_drewN ..⟩ | exact ⟨_, by simp only [World.drewN_drewN]; rfl⟩)⟩
  rw [h0] at HB
  have hok : s.ok = true := by unfold barOk at h0; simp only [Bool.and_eq_true] at h0; exact h0.1
  have HM := Lib.hid (fun w' h => l03Most_any s p v b o w' h hok)
  have HA2 : Hid (∀ n, BarAt s p v (w.drewN n) b o) := fun n => HAT.out
  clear hok
  rcases h1 : fin .f32 (cn .f32 l)
  · have HE : Hid (canB s p xs l g t = false) := by show _ = _; unfold canB; rw [h1]; simp
    go_enter Try.func89, Try.ntmps89
    go_wp2_with (first | (with_reducible refine at_list ?_; refine wpList_fop rfl rfl rfl rfl rfl ?_; intro r n hr0; have hr := hr0 _ _ (by first | with_reducible assumption | exact rfl) (by first | with_reducible assumption | exact rfl); clear hr0) | (with_reducible refine at_list ?_; refine wpList_neg rfl rfl rfl ?_; intro r hr0; have hr := hr0 _ (by first | with_reducible assumption | exact rfl); clear hr0) | (with_reducible refine at_list ?_; refine wpList_fop_g rfl rfl rfl rfl rfl ?_; intro r n hr0; have hr := hr0 _ _ (by first | with_reducible assumption | exact rfl) (by first | with_reducible assumption | exact rfl); clear hr0) | (with_reducible refine at_list ?_; refine wpList_wide_g rfl rfl Try.underlying22 Try.underlying40 rfl ?_; intro r n hr0; have hr := hr0 _ (by first | with_reducible assumption | exact rfl); clear hr0) | (with_reducible refine at_list ?_; refine wpList_wide rfl rfl rfl Try.underlying22 Try.underlying40 ?_; intro r n hr0; have hr := hr0 _ (by first | with_reducible assumption | exact rfl); clear hr0) | (go_at_call 62; refine ((HB.out) ).mono ?_; rintro e w' ⟨rfl, n, rfl⟩) | (go_at_call 82; refine (l01Finite_any _ _).mono ?_; rintro e w' ⟨rfl, n, rfl⟩) | (go_at_call 107; refine (l02Above_any _ _).mono ?_; rintro e w' ⟨rfl, n, rfl⟩) | (go_at_call 70; refine ((HM.out _ (HA2.out _)) ).mono ?_; rintro e w' ⟨r, rfl, hr, n, rfl⟩))
    all_goals
      go_ret
      exact ⟨by rw [HE.out]; rfl, (by first | exact ⟨_, rfl⟩ | exact ⟨0, rfl⟩ | exact ⟨_, World.drewN_drewN ..⟩ | exact ⟨_, by simp only [World.drewN_drewN]; rfl⟩)⟩
  rcases h2 : fin .f32 (cn .f32 g)
  · have HE : Hid (canB s p xs l g t = false) := by show _ = _; unfold canB; rw [h2]; simp
    go_enter Try.func89, Try.ntmps89
    go_wp2_with (first | (with_reducible refine at_list ?_; refine wpList_fop rfl rfl rfl rfl rfl ?_; intro r n hr0; have hr := hr0 _ _ (by first | with_reducible assumption | exact rfl) (by first | with_reducible assumption | exact rfl); clear hr0) | (with_reducible refine at_list ?_; refine wpList_neg rfl rfl rfl ?_; intro r hr0; have hr := hr0 _ (by first | with_reducible assumption | exact rfl); clear hr0) | (with_reducible refine at_list ?_; refine wpList_fop_g rfl rfl rfl rfl rfl ?_; intro r n hr0; have hr := hr0 _ _ (by first | with_reducible assumption | exact rfl) (by first | with_reducible assumption | exact rfl); clear hr0) | (with_reducible refine at_list ?_; refine wpList_wide_g rfl rfl Try.underlying22 Try.underlying40 rfl ?_; intro r n hr0; have hr := hr0 _ (by first | with_reducible assumption | exact rfl); clear hr0) | (with_reducible refine at_list ?_; refine wpList_wide rfl rfl rfl Try.underlying22 Try.underlying40 ?_; intro r n hr0; have hr := hr0 _ (by first | with_reducible assumption | exact rfl); clear hr0) | (go_at_call 62; refine ((HB.out) ).mono ?_; rintro e w' ⟨rfl, n, rfl⟩) | (go_at_call 82; refine (l01Finite_any _ _).mono ?_; rintro e w' ⟨rfl, n, rfl⟩) | (go_at_call 107; refine (l02Above_any _ _).mono ?_; rintro e w' ⟨rfl, n, rfl⟩) | (go_at_call 70; refine ((HM.out _ (HA2.out _)) ).mono ?_; rintro e w' ⟨r, rfl, hr, n, rfl⟩))
    all_goals
      go_ret
      exact ⟨by rw [HE.out]; rfl, (by first | exact ⟨_, rfl⟩ | exact ⟨0, rfl⟩ | exact ⟨_, World.drewN_drewN ..⟩ | exact ⟨_, by simp only [World.drewN_drewN]; rfl⟩)⟩
  rcases h3 : abv (cn .f32 t)
  · have HE : Hid (canB s p xs l g t = false) := by show _ = _; unfold canB; rw [h3]; simp
    go_enter Try.func89, Try.ntmps89
    go_wp2_with (first | (with_reducible refine at_list ?_; refine wpList_fop rfl rfl rfl rfl rfl ?_; intro r n hr0; have hr := hr0 _ _ (by first | with_reducible assumption | exact rfl) (by first | with_reducible assumption | exact rfl); clear hr0) | (with_reducible refine at_list ?_; refine wpList_neg rfl rfl rfl ?_; intro r hr0; have hr := hr0 _ (by first | with_reducible assumption | exact rfl); clear hr0) | (with_reducible refine at_list ?_; refine wpList_fop_g rfl rfl rfl rfl rfl ?_; intro r n hr0; have hr := hr0 _ _ (by first | with_reducible assumption | exact rfl) (by first | with_reducible assumption | exact rfl); clear hr0) | (with_reducible refine at_list ?_; refine wpList_wide_g rfl rfl Try.underlying22 Try.underlying40 rfl ?_; intro r n hr0; have hr := hr0 _ (by first | with_reducible assumption | exact rfl); clear hr0) | (with_reducible refine at_list ?_; refine wpList_wide rfl rfl rfl Try.underlying22 Try.underlying40 ?_; intro r n hr0; have hr := hr0 _ (by first | with_reducible assumption | exact rfl); clear hr0) | (go_at_call 62; refine ((HB.out) ).mono ?_; rintro e w' ⟨rfl, n, rfl⟩) | (go_at_call 82; refine (l01Finite_any _ _).mono ?_; rintro e w' ⟨rfl, n, rfl⟩) | (go_at_call 107; refine (l02Above_any _ _).mono ?_; rintro e w' ⟨rfl, n, rfl⟩) | (go_at_call 70; refine ((HM.out _ (HA2.out _)) ).mono ?_; rintro e w' ⟨r, rfl, hr, n, rfl⟩))
    all_goals
      go_ret
      exact ⟨by rw [HE.out]; rfl, (by first | exact ⟨_, rfl⟩ | exact ⟨0, rfl⟩ | exact ⟨_, World.drewN_drewN ..⟩ | exact ⟨_, by simp only [World.drewN_drewN]; rfl⟩)⟩
  rcases h4 : fin .f32 (mostV s p)
  · have HE : Hid (canB s p xs l g t = false) := by show _ = _; unfold canB; rw [h4]; simp
    go_enter Try.func89, Try.ntmps89
    go_wp2_with (first | (with_reducible refine at_list ?_; refine wpList_fop rfl rfl rfl rfl rfl ?_; intro r n hr0; have hr := hr0 _ _ (by first | with_reducible assumption | exact rfl) (by first | with_reducible assumption | exact rfl); clear hr0) | (with_reducible refine at_list ?_; refine wpList_neg rfl rfl rfl ?_; intro r hr0; have hr := hr0 _ (by first | with_reducible assumption | exact rfl); clear hr0) | (with_reducible refine at_list ?_; refine wpList_fop_g rfl rfl rfl rfl rfl ?_; intro r n hr0; have hr := hr0 _ _ (by first | with_reducible assumption | exact rfl) (by first | with_reducible assumption | exact rfl); clear hr0) | (with_reducible refine at_list ?_; refine wpList_wide_g rfl rfl Try.underlying22 Try.underlying40 rfl ?_; intro r n hr0; have hr := hr0 _ (by first | with_reducible assumption | exact rfl); clear hr0) | (with_reducible refine at_list ?_; refine wpList_wide rfl rfl rfl Try.underlying22 Try.underlying40 ?_; intro r n hr0; have hr := hr0 _ (by first | with_reducible assumption | exact rfl); clear hr0) | (go_at_call 62; refine ((HB.out) ).mono ?_; rintro e w' ⟨rfl, n, rfl⟩) | (go_at_call 82; refine (l01Finite_any _ _).mono ?_; rintro e w' ⟨rfl, n, rfl⟩) | (go_at_call 107; refine (l02Above_any _ _).mono ?_; rintro e w' ⟨rfl, n, rfl⟩) | (go_at_call 70; refine ((HM.out _ (HA2.out _)) ).mono ?_; rintro e w' ⟨r, rfl, hr, n, rfl⟩))
    all_goals
      go_ret
      exact ⟨by rw [HE.out]; rfl, (by first | exact ⟨_, rfl⟩ | exact ⟨0, rfl⟩ | exact ⟨_, World.drewN_drewN ..⟩ | exact ⟨_, by simp only [World.drewN_drewN]; rfl⟩)⟩
  · have HE : Hid (canB s p xs l g t = fle .f32 (cn .f32 t) (mostV s p)) := by show _ = _; unfold canB; rw [h0, h1, h2, h3, h4]; rfl
    go_enter Try.func89, Try.ntmps89
    go_wp2_with (first | (with_reducible refine at_list ?_; refine wpList_fop rfl rfl rfl rfl rfl ?_; intro r n hr0; have hr := hr0 _ _ (by first | with_reducible assumption | exact rfl) (by first | with_reducible assumption | exact rfl); clear hr0) | (with_reducible refine at_list ?_; refine wpList_neg rfl rfl rfl ?_; intro r hr0; have hr := hr0 _ (by first | with_reducible assumption | exact rfl); clear hr0) | (with_reducible refine at_list ?_; refine wpList_fop_g rfl rfl rfl rfl rfl ?_; intro r n hr0; have hr := hr0 _ _ (by first | with_reducible assumption | exact rfl) (by first | with_reducible assumption | exact rfl); clear hr0) | (with_reducible refine at_list ?_; refine wpList_wide_g rfl rfl Try.underlying22 Try.underlying40 rfl ?_; intro r n hr0; have hr := hr0 _ (by first | with_reducible assumption | exact rfl); clear hr0) | (with_reducible refine at_list ?_; refine wpList_wide rfl rfl rfl Try.underlying22 Try.underlying40 ?_; intro r n hr0; have hr := hr0 _ (by first | with_reducible assumption | exact rfl); clear hr0) | (go_at_call 62; refine ((HB.out) ).mono ?_; rintro e w' ⟨rfl, n, rfl⟩) | (go_at_call 82; refine (l01Finite_any _ _).mono ?_; rintro e w' ⟨rfl, n, rfl⟩) | (go_at_call 107; refine (l02Above_any _ _).mono ?_; rintro e w' ⟨rfl, n, rfl⟩) | (go_at_call 70; refine ((HM.out _ (HA2.out _)) ).mono ?_; rintro e w' ⟨r, rfl, hr, n, rfl⟩))
    all_goals
      go_ret
      exact ⟨by rw [HE.out]; simp [*], (by first | exact ⟨_, rfl⟩ | exact ⟨0, rfl⟩ | exact ⟨_, World.drewN_drewN ..⟩ | exact ⟨_, by simp only [World.drewN_drewN]; rfl⟩)⟩
set_option maxHeartbeats 2000000 in
theorem l03Own_any (s : St) (p : Nat) (v : Value) (xs : List Nat) (b o : Nat) (w : World) (hat : BarAt s p v w b o) (hs : FS w v xs) (hn : xs.length ≤ 48) : Calls Try.prog 92 #[.pointer (some ⟨b, o, none⟩)] w (fun e w' => ∃ u, e = .returned (.agg #[.float .f32 s.a, .float .f32 s.b, .float .f32 s.c, .float .f32 s.d, .float .f32 s.p, .float .f32 s.l, .float .f32 p, u]) ∧ Below w.heap.size w w' ∧ OF w.heap.size w' u xs) := by
  have HS := Lib.hid hs
  have hbz : b < w.heap.size := World.block_lt_of_cell? _ _ hat.2.1
  have hbn : b ≠ w.heap.size := by omega
  have hbm : w.heap.size ≠ b := by omega
  have hbn1 : b ≠ w.heap.size + 1 := by omega
  have hbm1 : w.heap.size + 1 ≠ b := by omega
  have hbn2 : b ≠ w.heap.size + 1 + 1 := by omega
  have hbm2 : w.heap.size + 1 + 1 ≠ b := by omega
  have hbz1 : b < w.heap.size + 1 := by omega
  have hbz2 : b < w.heap.size + 1 + 1 := by omega
  obtain ⟨⟨g0, g1, g2, g3, g4, g5⟩, g6, g7⟩ := hat
  obtain ⟨q, c, rfl, _⟩ := hs
  go_enter Try.func92, Try.ntmps92
  go_wp2_with (first | (with_reducible refine at_list ?_; refine wpList_fop rfl rfl rfl rfl rfl ?_; intro r n hr0; have hr := hr0 _ _ (by first | with_reducible assumption | exact rfl) (by first | with_reducible assumption | exact rfl); clear hr0) | (with_reducible refine at_list ?_; refine wpList_neg rfl rfl rfl ?_; intro r hr0; have hr := hr0 _ (by first | with_reducible assumption | exact rfl); clear hr0) | (with_reducible refine at_list ?_; refine wpList_fop_g rfl rfl rfl rfl rfl ?_; intro r n hr0; have hr := hr0 _ _ (by first | with_reducible assumption | exact rfl) (by first | with_reducible assumption | exact rfl); clear hr0) | (with_reducible refine at_list ?_; refine wpList_wide_g rfl rfl Try.underlying22 Try.underlying40 rfl ?_; intro r n hr0; have hr := hr0 _ (by first | with_reducible assumption | exact rfl); clear hr0) | (with_reducible refine at_list ?_; refine wpList_wide rfl rfl rfl Try.underlying22 Try.underlying40 ?_; intro r n hr0; have hr := hr0 _ (by first | with_reducible assumption | exact rfl); clear hr0) | (at_builtin; refine stop_here ?_))
  unfold Stop
  apply wpList_appV (B := w.heap.size + 2) (xs := []) (zs := xs)
  case hg => rfl
  case ho => rfl
  case hs => rfl
  case hx => rfl
  case hO => exact OF.empty _ _ (by first | rfl | (simp; done)) (by first | omega | (simp; done)) rfl
  case hc => exact HS.out.later (by (repeat (first | (with_reducible exact Below.refl _ _) | (with_reducible assumption) | (with_reducible refine below_then ?_ (by assumption)) | (with_reducible refine Below.trans ?_ (by assumption)) | (with_reducible refine below_drewN ?_ _) | (with_reducible apply Below.drew) | (with_reducible refine below_alloc ?_ _) | refine Below.setCell ?_ (by first | (simp; done) | (simp; omega)) _)))
  case hn => simp only [List.length_nil]; omega
  case hB => first | omega | (simp; done) | (simp; omega)
  intro q2 c2 w2 hO2 hB2
  have hz2 := hB2.size
  have hz3 : w.heap.size + 2 < w2.heap.size := by simp at hz2; omega
  have k0 : w2.cell? ⟨w.heap.size, 0, none⟩ = some (.float .f32 0) := (hB2.cell (p := ⟨w.heap.size, 0, none⟩) (by show w.heap.size < _; omega)).trans (by go_simp)
  have k1 : w2.cell? ⟨w.heap.size, 1, none⟩ = some (.float .f32 0) := (hB2.cell (p := ⟨w.heap.size, 1, none⟩) (by show w.heap.size < _; omega)).trans (by go_simp)
  have k2 : w2.cell? ⟨w.heap.size, 2, none⟩ = some (.float .f32 0) := (hB2.cell (p := ⟨w.heap.size, 2, none⟩) (by show w.heap.size < _; omega)).trans (by go_simp)
  have k3 : w2.cell? ⟨w.heap.size, 3, none⟩ = some (.float .f32 0) := (hB2.cell (p := ⟨w.heap.size, 3, none⟩) (by show w.heap.size < _; omega)).trans (by go_simp)
  have k4 : w2.cell? ⟨w.heap.size, 4, none⟩ = some (.float .f32 0) := (hB2.cell (p := ⟨w.heap.size, 4, none⟩) (by show w.heap.size < _; omega)).trans (by go_simp)
  have k5 : w2.cell? ⟨w.heap.size, 5, none⟩ = some (.float .f32 0) := (hB2.cell (p := ⟨w.heap.size, 5, none⟩) (by show w.heap.size < _; omega)).trans (by go_simp)
  have k6 : w2.cell? ⟨w.heap.size, 6, none⟩ = some (.float .f32 0) := (hB2.cell (p := ⟨w.heap.size, 6, none⟩) (by show w.heap.size < _; omega)).trans (by go_simp)
  have k7 : w2.cell? ⟨w.heap.size, 7, none⟩ = some (.slice none 0 0) := (hB2.cell (p := ⟨w.heap.size, 7, none⟩) (by show w.heap.size < _; omega)).trans (by go_simp)
  have m0 : w2.cell? ⟨w.heap.size + 1, 0, none⟩ = some (.float .f32 s.a) := (hB2.cell (p := ⟨w.heap.size + 1, 0, none⟩) (by show w.heap.size + 1 < _; omega)).trans (by go_simp)
  have m1 : w2.cell? ⟨w.heap.size + 1, 1, none⟩ = some (.float .f32 s.b) := (hB2.cell (p := ⟨w.heap.size + 1, 1, none⟩) (by show w.heap.size + 1 < _; omega)).trans (by go_simp)
  have m2 : w2.cell? ⟨w.heap.size + 1, 2, none⟩ = some (.float .f32 s.c) := (hB2.cell (p := ⟨w.heap.size + 1, 2, none⟩) (by show w.heap.size + 1 < _; omega)).trans (by go_simp)
  have m3 : w2.cell? ⟨w.heap.size + 1, 3, none⟩ = some (.float .f32 s.d) := (hB2.cell (p := ⟨w.heap.size + 1, 3, none⟩) (by show w.heap.size + 1 < _; omega)).trans (by go_simp)
  have m4 : w2.cell? ⟨w.heap.size + 1, 4, none⟩ = some (.float .f32 s.p) := (hB2.cell (p := ⟨w.heap.size + 1, 4, none⟩) (by show w.heap.size + 1 < _; omega)).trans (by go_simp)
  have m5 : w2.cell? ⟨w.heap.size + 1, 5, none⟩ = some (.float .f32 s.l) := (hB2.cell (p := ⟨w.heap.size + 1, 5, none⟩) (by show w.heap.size + 1 < _; omega)).trans (by go_simp)
  have m6 : w2.cell? ⟨w.heap.size + 1, 6, none⟩ = some (.float .f32 p) := (hB2.cell (p := ⟨w.heap.size + 1, 6, none⟩) (by show w.heap.size + 1 < _; omega)).trans (by go_simp)
  have m7 : w2.cell? ⟨w.heap.size + 1, 7, none⟩ = some (.slice q xs.length c) := (hB2.cell (p := ⟨w.heap.size + 1, 7, none⟩) (by show w.heap.size + 1 < _; omega)).trans (by go_simp)
  have kf : ∀ o, w2.frozen? ⟨w.heap.size, o, none⟩ = false := fun o => (hB2.frozen (p := ⟨w.heap.size, o, none⟩) (by show w.heap.size < _; omega)).trans (by go_simp)
  have mf : ∀ o, w2.frozen? ⟨w.heap.size + 1, o, none⟩ = false := fun o => (hB2.frozen (p := ⟨w.heap.size + 1, o, none⟩) (by show w.heap.size + 1 < _; omega)).trans (by go_simp)
  have HB2 := Lib.hid hB2
  have HO2 := Lib.hid hO2
  clear hO2 hB2
  simp only [List.length_nil, Nat.zero_add]
  go_wp2_with (first | (with_reducible refine at_list ?_; refine wpList_fop rfl rfl rfl rfl rfl ?_; intro r n hr0; have hr := hr0 _ _ (by first | with_reducible assumption | exact rfl) (by first | with_reducible assumption | exact rfl); clear hr0) | (with_reducible refine at_list ?_; refine wpList_neg rfl rfl rfl ?_; intro r hr0; have hr := hr0 _ (by first | with_reducible assumption | exact rfl); clear hr0) | (with_reducible refine at_list ?_; refine wpList_fop_g rfl rfl rfl rfl rfl ?_; intro r n hr0; have hr := hr0 _ _ (by first | with_reducible assumption | exact rfl) (by first | with_reducible assumption | exact rfl); clear hr0) | (with_reducible refine at_list ?_; refine wpList_wide_g rfl rfl Try.underlying22 Try.underlying40 rfl ?_; intro r n hr0; have hr := hr0 _ (by first | with_reducible assumption | exact rfl); clear hr0) | (with_reducible refine at_list ?_; refine wpList_wide rfl rfl rfl Try.underlying22 Try.underlying40 ?_; intro r n hr0; have hr := hr0 _ (by first | with_reducible assumption | exact rfl); clear hr0))
  refine bodyPost_ret (v := .agg #[.float .f32 s.a, .float .f32 s.b, .float .f32 s.c, .float .f32 s.d, .float .f32 s.p, .float .f32 s.l, .float .f32 p, .slice q2 xs.length c2]) (by simp [results, Try.results92, go_sem, *]) rfl ?_
  have hbw : Below w.heap.size w w2 := Below.trans (B := w.heap.size) (a := w) (by (repeat (first | (with_reducible exact Below.refl _ _) | (with_reducible assumption) | (with_reducible refine below_then ?_ (by assumption)) | (with_reducible refine Below.trans ?_ (by assumption)) | (with_reducible refine below_drewN ?_ _) | (with_reducible apply Below.drew) | (with_reducible refine below_alloc ?_ _) | refine Below.setCell ?_ (by first | (simp; done) | (simp; omega)) _))) (HB2.out.mono (by omega))
  have hO9 : OF (w.heap.size + 2) w2 (.slice q2 xs.length c2) xs := by have := HO2.out; simpa using this
  exact ⟨_, rfl, by (repeat (first | (with_reducible exact Below.refl _ _) | (with_reducible assumption) | (with_reducible refine below_then ?_ (by assumption)) | (with_reducible refine Below.trans ?_ (by assumption)) | (with_reducible refine below_drewN ?_ _) | (with_reducible apply Below.drew) | (with_reducible refine below_alloc ?_ _) | refine Below.setCell ?_ (by first | (simp; done) | (simp; omega)) _)), (OF.base (by (repeat' (first | (with_reducible assumption) | (with_reducible apply OF.setCell) | (with_reducible apply OF.alloc) | (with_reducible apply OF.later; rotate_left; with_reducible assumption) | (with_reducible apply OF.kept; rotate_left; with_reducible assumption; first | (exact OF.sep (by with_reducible assumption) (by with_reducible assumption) (by omega)) | (exact OF.sep' (by with_reducible assumption) (by with_reducible assumption) (by omega))) | (with_reducible apply OF.drewN))) <;> (first | omega | (simp; done) | (simp; omega))) (by first | omega | (simp; done) | (simp; omega)))⟩
set_option maxHeartbeats 8000000 in
set_option maxRecDepth 100000 in
theorem l03Step_any (s : St) (p : Nat) (v : Value) (xs : List Nat) (l g : Nat) (b1 b2 : Bool) (t b o : Nat) (w : World) (hat : BarAt s p v w b o) (hs : FS w v xs) (hn1 : 1 ≤ xs.length) (hn2 : xs.length ≤ 48) : Calls Try.prog 90 #[.pointer (some ⟨b, o, none⟩), .float .f32 l, .float .f32 g, .bool b1, .bool b2, .float .f32 t] w (BBE w s p (stbX s p xs l g b1 b2 t) (barOk s p (stbX s p xs l g b1 b2 t))) := by
  have HS := Lib.hid hs
  have HF := Lib.hid (fun b o w h h' => l03Flows_any s p v xs b o w h h' hn1 hn2)
  have HOW := Lib.hid (fun b o w h h' => l03Own_any s p v xs b o w h h' hn2)
  have HAT := Lib.hid hat
  have hbz : b < w.heap.size := World.block_lt_of_cell? _ _ hat.2.1
  obtain ⟨b0, o0, c0, rfl, ⟨hc1, hc2⟩, HV⟩ := hs.ptr hn1
  have hfl : (flowsL s p xs (xs.length - 1)).length = xs.length - 1 := by simp [flowsL]
  clear hat hs
  go_enter Try.func90, Try.ntmps90
  go_wp2_with (first | (with_reducible refine at_list ?_; refine wpList_fop rfl rfl rfl rfl rfl ?_; intro r n hr0; have hr := hr0 _ _ (by first | with_reducible assumption | exact rfl) (by first | with_reducible assumption | exact rfl); clear hr0) | (with_reducible refine at_list ?_; refine wpList_neg rfl rfl rfl ?_; intro r hr0; have hr := hr0 _ (by first | with_reducible assumption | exact rfl); clear hr0) | (with_reducible refine at_list ?_; refine wpList_fop_g rfl rfl rfl rfl rfl ?_; intro r n hr0; have hr := hr0 _ _ (by first | with_reducible assumption | exact rfl) (by first | with_reducible assumption | exact rfl); clear hr0) | (with_reducible refine at_list ?_; refine wpList_wide_g rfl rfl Try.underlying22 Try.underlying40 rfl ?_; intro r n hr0; have hr := hr0 _ (by first | with_reducible assumption | exact rfl); clear hr0) | (with_reducible refine at_list ?_; refine wpList_wide rfl rfl rfl Try.underlying22 Try.underlying40 ?_; intro r n hr0; have hr := hr0 _ (by first | with_reducible assumption | exact rfl); clear hr0) | (go_at_call 78; refine stop_here ?_) | (go_at_call 112; refine (l03Ease_any _ _ _ _ _ (by assumption)).mono ?_; rintro e w' ⟨r, rfl, hr, n, rfl⟩) | (go_at_call 108; refine (l03Warm_any _ _ _ _ _ (by assumption)).mono ?_; rintro e w' ⟨r, rfl, hr, n, rfl⟩) | (go_at_call 62; refine (l03Bar_any _ _ _ _ _ _ _ (by assumption) (by assumption)).mono ?_; rintro e w' ⟨rfl, n, rfl⟩))
  unfold Stop
  refine (HF.out _ _ _ (bar_later HAT.out (B := w.heap.size) (by (repeat (first | (with_reducible exact Below.refl _ _) | (with_reducible assumption) | (with_reducible refine below_then ?_ (by assumption)) | (with_reducible refine Below.trans ?_ (by assumption)) | (with_reducible refine below_drewN ?_ _) | (with_reducible apply Below.drew) | (with_reducible refine below_alloc ?_ _) | refine Below.setCell ?_ (by first | (simp; done) | (simp; omega)) _))) hbz) (HS.out.later (by (repeat (first | (with_reducible exact Below.refl _ _) | (with_reducible assumption) | (with_reducible refine below_then ?_ (by assumption)) | (with_reducible refine Below.trans ?_ (by assumption)) | (with_reducible refine below_drewN ?_ _) | (with_reducible apply Below.drew) | (with_reducible refine below_alloc ?_ _) | refine Below.setCell ?_ (by first | (simp; done) | (simp; omega)) _))))).mono ?_
  rintro e w' ⟨u, ys0, rfl, hb, hO, hL⟩
  rename World => w0
  obtain ⟨q0, c0', rfl⟩ := OF.shape hO
  have hyl : ys0.length = xs.length - 1 := by have := congrArg List.length hL; rw [hfl] at this; simpa using this
  have HGF : Hid (∀ i, i + 1 < xs.length → cn .f32 (ys0.getD i 0) = flowB s p (cn .f32 (xs.getD i 0)) (cn .f32 (xs.getD (i + 1) 0))) := fun i hi => by
    have e : cn .f32 (ys0.getD i 0) = (ys0.map (cn .f32)).getD i 0 := by
      rw [List.getD_eq_getElem?_getD, List.getD_eq_getElem?_getD, List.getElem?_map, List.getElem?_eq_getElem (by omega)]; rfl
    rw [e, hL]
    unfold flowsL
    rw [List.getD_eq_getElem?_getD, List.getElem?_map, List.getElem?_range (by omega)]
    rfl
  have HO0 := Lib.hid hO
  obtain ⟨hT, hk⟩ := bv_next hb (by (repeat (with_reducible first | assumption | apply Trk.alloc | apply Trk.setCell | apply Trk.drewN | apply Trk.drew | exact Trk.nil _))); simp only [SameOn, World.size_alloc, World.size_setCell, World.size_drew, size_drewN', and_true] at hk; have hsz := Below.size hb; (try simp only [World.size_alloc, World.size_setCell, World.size_drew, size_drewN'] at hsz)
  have HR7 : Hid ((w0.cell? ⟨w.heap.size, 0, none⟩ = some (.float .f32 0) ∧ w0.cell? ⟨w.heap.size, 1, none⟩ = some (.float .f32 0) ∧ w0.cell? ⟨w.heap.size, 2, none⟩ = some (.float .f32 0) ∧ w0.cell? ⟨w.heap.size, 3, none⟩ = some (.float .f32 0) ∧ w0.cell? ⟨w.heap.size, 4, none⟩ = some (.float .f32 0) ∧ w0.cell? ⟨w.heap.size, 5, none⟩ = some (.float .f32 0) ∧ w0.cell? ⟨w.heap.size, 6, none⟩ = some (.float .f32 0) ∧ w0.cell? ⟨w.heap.size, 7, none⟩ = some (.slice none 0 0)) ∧ ∀ o, w0.frozen? ⟨w.heap.size, o, none⟩ = false) := ⟨⟨by go_simp, by go_simp, by go_simp, by go_simp, by go_simp, by go_simp, by go_simp, by go_simp⟩, fun o => by go_simp⟩
  have HBW : Hid (Below w.heap.size w w0) := by show Below _ _ _; (repeat (first | (with_reducible exact Below.refl _ _) | (with_reducible assumption) | (with_reducible refine below_then ?_ (by assumption)) | (with_reducible refine Below.trans ?_ (by assumption)) | (with_reducible refine below_drewN ?_ _) | (with_reducible apply Below.drew) | (with_reducible refine below_alloc ?_ _) | refine Below.setCell ?_ (by first | (simp; done) | (simp; omega)) _))
  have hz0 : w.heap.size + 1 ≤ w0.heap.size := by first | omega | (simp at hsz; omega)
  have HY0 : Hid (FS w0 (.slice q0 ys0.length c0') ys0) := OF.fs HO0.out
  have HYL := Lib.hid hyl
  clear hb hk hT hsz hO hL HO0 hyl hfl
  have hpos : 0 < xs.length := hn1
  have HAT0 := Lib.hid (bar_later HAT.out HBW.out hbz)
  have HX0 : Hid (∀ z, xs.getD 0 0 = z → inV s p xs l true = fop .quo .f32 (fop .mul .f32 (easeC s.k (cn .f32 z)) (fop .sub .f32 (cn .f32 l) (warmC s.k (cn .f32 z)))) (cn .f32 p)) := fun z h => by subst h; rfl
  have HXL : Hid (∀ z, xs.getD (xs.length - 1) 0 = z → outV s p xs g true = fop .quo .f32 (fop .mul .f32 (easeC s.k (cn .f32 z)) (fop .sub .f32 (warmC s.k (cn .f32 z)) (cn .f32 g))) (cn .f32 p)) := fun z h => by subst h; rfl
  have hd2 := HAT0.out.2.2
  go_upto_if 29 with fail
  go_cut [16] from 22 (fun s16 wx => ∃ r1, s16 = .float .f32 r1 ∧ Hid (cn .f32 r1 = inV s p xs l b1) ∧ Hid (∃ n, wx = w0.drewN n))
  case first =>
    rcases b1
    · go_wp2_with fail
      go_meet
      case rel => exact ⟨0, rfl, rfl, 0, rfl⟩
    · obtain ⟨⟨d0, d1, d2, d3, d4, d5⟩, d6, d7⟩ := HAT0.out
      have x0 := cell_later HBW.out (HV.out 0 (by omega))
      generalize hz : xs.getD 0 0 = z at x0
      have HZ := Lib.hid (HX0.out z hz)
      clear hz
      simp only [Nat.add_zero] at x0
      go_wp2_with fail
      (refine wp_some_lit (by kernel_rfl) (by kernel_rfl) ?_; (refine wpSome_one ?_; go_big_quiet_step (fail); refine wpQuiet_nil ?_); (refine wpSome_one ?_; go_big_quiet_step (fail); refine wpQuiet_nil ?_); (refine wpSome_one ?_; go_big_quiet_step (fail); refine wpQuiet_nil ?_); (refine wpSome_one ?_; go_big_quiet_step (fail); refine wpQuiet_nil ?_); (refine wpSome_one ?_; go_big_quiet_step (fail); refine wpQuiet_nil ?_); (refine wpSome_one ?_; go_big_quiet_step (fail); refine wpQuiet_nil ?_); (refine wpSome_one ?_; go_big_quiet_step (fail); refine wpQuiet_nil ?_); (refine wpSome_one ?_; go_big_quiet_step (fail); refine wpQuiet_nil ?_); (refine wpSome_one ?_; go_big_quiet_step (fail); refine wpQuiet_nil ?_); ((refine wpSome_callF rfl (fun w' => by go_simp <;> first | exact ⟨rfl, rfl⟩ | exact rfl) (by (first | (with_reducible first | assumption | exact cn_fop _ _ _ _ | exact cn_cn _ _ | exact cn_wide _ | exact cn_narrow _ | exact cn_accC .. | exact cn_heatC .. | exact cn_half .. | exact cn_bet .. | exact cn_end .. | exact cn_erV .. | exact cn_exV .. | exact cn_slopeV .. | exact cn_rootC .. | exact cn_stF .. | exact cn_warmC .. | exact cn_partC .. | exact cn_easeC .. | exact cn_growC .. | exact cn_mostV .. | exact cn_passV .. | exact cn_flowL .. | exact cn_flowV .. | exact cn_fV .. | exact cn_heldA .. | exact cn_gainA .. | exact cn_meanV .. | exact cn_sqC ..) | (refine cn_chk ?_; (with_reducible first | assumption | exact cn_fop _ _ _ _ | exact cn_cn _ _ | exact cn_wide _ | exact cn_narrow _ | exact cn_accC .. | exact cn_heatC .. | exact cn_half .. | exact cn_bet .. | exact cn_end .. | exact cn_erV .. | exact cn_exV .. | exact cn_slopeV .. | exact cn_rootC .. | exact cn_stF .. | exact cn_warmC .. | exact cn_partC .. | exact cn_easeC .. | exact cn_growC .. | exact cn_mostV .. | exact cn_passV .. | exact cn_flowL .. | exact cn_flowV .. | exact cn_fV .. | exact cn_heldA .. | exact cn_gainA .. | exact cn_meanV .. | exact cn_sqC ..)) | (refine cn_gF ?_; (with_reducible first | assumption | exact cn_fop _ _ _ _ | exact cn_cn _ _ | exact cn_wide _ | exact cn_narrow _ | exact cn_accC .. | exact cn_heatC .. | exact cn_half .. | exact cn_bet .. | exact cn_end .. | exact cn_erV .. | exact cn_exV .. | exact cn_slopeV .. | exact cn_rootC .. | exact cn_stF .. | exact cn_warmC .. | exact cn_partC .. | exact cn_easeC .. | exact cn_growC .. | exact cn_mostV .. | exact cn_passV .. | exact cn_flowL .. | exact cn_flowV .. | exact cn_fV .. | exact cn_heldA .. | exact cn_gainA .. | exact cn_meanV .. | exact cn_sqC ..)))) (fun m => l03Ease_any s _ _ _ _ HAT0.out.1) ?_; intro r hr); simp only [Act.put, List.setIfInBounds_toArray, List.set_cons_zero, List.set_cons_succ]); (refine wpSome_one ?_; go_big_quiet_step (fail); refine wpQuiet_nil ?_); (refine wpSome_one ?_; go_big_quiet_step (fail); refine wpQuiet_nil ?_); (refine wpSome_one ?_; go_big_quiet_step (fail); refine wpQuiet_nil ?_); (refine wpSome_one ?_; go_big_quiet_step (fail); refine wpQuiet_nil ?_); (refine wpSome_one ?_; go_big_quiet_step (fail); refine wpQuiet_nil ?_); (refine wpSome_one ?_; go_big_quiet_step (fail); refine wpQuiet_nil ?_); (refine wpSome_one ?_; go_big_quiet_step (fail); refine wpQuiet_nil ?_); (refine wpSome_one ?_; go_big_quiet_step (fail); refine wpQuiet_nil ?_); (refine wpSome_one ?_; go_big_quiet_step (fail); refine wpQuiet_nil ?_); (refine wpSome_one ?_; go_big_quiet_step (fail); refine wpQuiet_nil ?_); ((refine wpSome_callF rfl (fun w' => by go_simp <;> first | exact ⟨rfl, rfl⟩ | exact rfl) (by (first | (with_reducible first | assumption | exact cn_fop _ _ _ _ | exact cn_cn _ _ | exact cn_wide _ | exact cn_narrow _ | exact cn_accC .. | exact cn_heatC .. | exact cn_half .. | exact cn_bet .. | exact cn_end .. | exact cn_erV .. | exact cn_exV .. | exact cn_slopeV .. | exact cn_rootC .. | exact cn_stF .. | exact cn_warmC .. | exact cn_partC .. | exact cn_easeC .. | exact cn_growC .. | exact cn_mostV .. | exact cn_passV .. | exact cn_flowL .. | exact cn_flowV .. | exact cn_fV .. | exact cn_heldA .. | exact cn_gainA .. | exact cn_meanV .. | exact cn_sqC ..) | (refine cn_chk ?_; (with_reducible first | assumption | exact cn_fop _ _ _ _ | exact cn_cn _ _ | exact cn_wide _ | exact cn_narrow _ | exact cn_accC .. | exact cn_heatC .. | exact cn_half .. | exact cn_bet .. | exact cn_end .. | exact cn_erV .. | exact cn_exV .. | exact cn_slopeV .. | exact cn_rootC .. | exact cn_stF .. | exact cn_warmC .. | exact cn_partC .. | exact cn_easeC .. | exact cn_growC .. | exact cn_mostV .. | exact cn_passV .. | exact cn_flowL .. | exact cn_flowV .. | exact cn_fV .. | exact cn_heldA .. | exact cn_gainA .. | exact cn_meanV .. | exact cn_sqC ..)) | (refine cn_gF ?_; (with_reducible first | assumption | exact cn_fop _ _ _ _ | exact cn_cn _ _ | exact cn_wide _ | exact cn_narrow _ | exact cn_accC .. | exact cn_heatC .. | exact cn_half .. | exact cn_bet .. | exact cn_end .. | exact cn_erV .. | exact cn_exV .. | exact cn_slopeV .. | exact cn_rootC .. | exact cn_stF .. | exact cn_warmC .. | exact cn_partC .. | exact cn_easeC .. | exact cn_growC .. | exact cn_mostV .. | exact cn_passV .. | exact cn_flowL .. | exact cn_flowV .. | exact cn_fV .. | exact cn_heldA .. | exact cn_gainA .. | exact cn_meanV .. | exact cn_sqC ..)))) (fun m => l03Warm_any s _ _ _ _ HAT0.out.1) ?_; intro r hr); simp only [Act.put, List.setIfInBounds_toArray, List.set_cons_zero, List.set_cons_succ]); ((with_reducible refine at_some ?_; refine wpSome_fop rfl rfl rfl rfl rfl ?_; intro r hr0; have hr := hr0 _ _ (by first | with_reducible assumption | exact rfl) (by first | with_reducible assumption | exact rfl); clear hr0); simp only [Act.put, List.setIfInBounds_toArray, List.set_cons_zero, List.set_cons_succ]); ((with_reducible refine at_some ?_; refine wpSome_fop rfl rfl rfl rfl rfl ?_; intro r hr0; have hr := hr0 _ _ (by first | with_reducible assumption | exact rfl) (by first | with_reducible assumption | exact rfl); clear hr0); simp only [Act.put, List.setIfInBounds_toArray, List.set_cons_zero, List.set_cons_succ]); (refine wpSome_one ?_; go_big_quiet_step (fail); refine wpQuiet_nil ?_); (refine wpSome_one ?_; go_big_quiet_step (fail); refine wpQuiet_nil ?_); (refine wpSome_one ?_; go_big_quiet_step (fail); refine wpQuiet_nil ?_); (refine wpSome_one ?_; go_big_quiet_step (fail); refine wpQuiet_nil ?_); ((with_reducible refine at_some ?_; refine wpSome_fop rfl rfl rfl rfl rfl ?_; intro r hr0; have hr := hr0 _ _ (by first | with_reducible assumption | exact rfl) (by first | with_reducible assumption | exact rfl); clear hr0); simp only [Act.put, List.setIfInBounds_toArray, List.set_cons_zero, List.set_cons_succ]); (refine wpSome_one ?_; go_big_quiet_step (fail); refine wpQuiet_nil ?_); refine wpSome_nil ?_; intro w' hw'; obtain ⟨nq, rfl⟩ := hw')
      have HIN : Hid (cn .f32 r = inV s p xs l true) := by show _ = _; rw [HZ.out]; assumption
      go_wp2_with fail
      go_meet
      case rel => exact ⟨r, rfl, HIN.out, _, rfl⟩
  case rest =>
  obtain ⟨r1, rfl, HIN, HN⟩ := hcut
  have HW3 : Hid (Below w0.heap.size w0 wc) := by show Below _ _ _; obtain ⟨n, hn⟩ := HN.out; rw [hn]; exact below_draws _
  clear hd2
  have hd2 := (bar_later HAT0.out HW3.out (by omega)).2.2
  have hw3z := HW3.out.size
  go_upto_if 58 with fail
  go_cut [17] from 22 (fun s17 wx => ∃ r2, s17 = .float .f32 r2 ∧ Hid (cn .f32 r2 = outV s p xs g b2) ∧ Hid (Below w0.heap.size w0 wx))
  case first =>
    rcases b2
    · go_wp2_with fail
      go_meet
      case rel => exact ⟨0, rfl, rfl, HW3.out⟩
    · have HAT1 := Lib.hid (bar_later HAT0.out HW3.out (by omega))
      obtain ⟨⟨d0, d1, d2, d3, d4, d5⟩, d6, d7⟩ := HAT1.out
      have x0 := cell_later HW3.out (cell_later HBW.out (HV.out (xs.length - 1) (by omega)))
      generalize hz : xs.getD (xs.length - 1) 0 = z at x0
      have HZ := Lib.hid (HXL.out z hz)
      clear hz
      have hl4 : (1 : Int) ≤ (xs.length : Int) := by omega
      have hl0 : IntKind.i64.wrap ((xs.length : Int) - 1) = (xs.length : Int) - 1 := IntWalk.i64_in _ (by omega)
      have hl1 : (0 : Int) ≤ (xs.length : Int) - 1 := by omega
      have hl2 : (xs.length : Int) - 1 < (xs.length : Int) := by omega
      have hl3 : ((xs.length : Int) - 1).toNat = xs.length - 1 := by omega
      go_wp2_with fail
      (refine wp_some_lit (by kernel_rfl) (by kernel_rfl) ?_; (refine wpSome_one ?_; go_big_quiet_step (fail); refine wpQuiet_nil ?_); (refine wpSome_one ?_; go_big_quiet_step (fail); refine wpQuiet_nil ?_); (refine wpSome_one ?_; go_big_quiet_step (fail); refine wpQuiet_nil ?_); (refine wpSome_one ?_; go_big_quiet_step (fail); refine wpQuiet_nil ?_); (refine wpSome_one ?_; go_big_quiet_step (fail); refine wpQuiet_nil ?_); (refine wpSome_one ?_; go_big_quiet_step (fail); refine wpQuiet_nil ?_); (refine wpSome_one ?_; go_big_quiet_step (fail); refine wpQuiet_nil ?_); (refine wpSome_one ?_; go_big_quiet_step (fail); refine wpQuiet_nil ?_); (refine wpSome_one ?_; go_big_quiet_step (fail); refine wpQuiet_nil ?_); (refine wpSome_one ?_; go_big_quiet_step (fail); refine wpQuiet_nil ?_); (refine wpSome_one ?_; go_big_quiet_step (fail); refine wpQuiet_nil ?_); ((refine wpSome_callF rfl (fun w' => by go_simp <;> first | exact ⟨rfl, rfl⟩ | exact rfl) (by (first | (with_reducible first | assumption | exact cn_fop _ _ _ _ | exact cn_cn _ _ | exact cn_wide _ | exact cn_narrow _ | exact cn_accC .. | exact cn_heatC .. | exact cn_half .. | exact cn_bet .. | exact cn_end .. | exact cn_erV .. | exact cn_exV .. | exact cn_slopeV .. | exact cn_rootC .. | exact cn_stF .. | exact cn_warmC .. | exact cn_partC .. | exact cn_easeC .. | exact cn_growC .. | exact cn_mostV .. | exact cn_passV .. | exact cn_flowL .. | exact cn_flowV .. | exact cn_fV .. | exact cn_heldA .. | exact cn_gainA .. | exact cn_meanV .. | exact cn_sqC ..) | (refine cn_chk ?_; (with_reducible first | assumption | exact cn_fop _ _ _ _ | exact cn_cn _ _ | exact cn_wide _ | exact cn_narrow _ | exact cn_accC .. | exact cn_heatC .. | exact cn_half .. | exact cn_bet .. | exact cn_end .. | exact cn_erV .. | exact cn_exV .. | exact cn_slopeV .. | exact cn_rootC .. | exact cn_stF .. | exact cn_warmC .. | exact cn_partC .. | exact cn_easeC .. | exact cn_growC .. | exact cn_mostV .. | exact cn_passV .. | exact cn_flowL .. | exact cn_flowV .. | exact cn_fV .. | exact cn_heldA .. | exact cn_gainA .. | exact cn_meanV .. | exact cn_sqC ..)) | (refine cn_gF ?_; (with_reducible first | assumption | exact cn_fop _ _ _ _ | exact cn_cn _ _ | exact cn_wide _ | exact cn_narrow _ | exact cn_accC .. | exact cn_heatC .. | exact cn_half .. | exact cn_bet .. | exact cn_end .. | exact cn_erV .. | exact cn_exV .. | exact cn_slopeV .. | exact cn_rootC .. | exact cn_stF .. | exact cn_warmC .. | exact cn_partC .. | exact cn_easeC .. | exact cn_growC .. | exact cn_mostV .. | exact cn_passV .. | exact cn_flowL .. | exact cn_flowV .. | exact cn_fV .. | exact cn_heldA .. | exact cn_gainA .. | exact cn_meanV .. | exact cn_sqC ..)))) (fun m => l03Ease_any s _ _ _ _ HAT1.out.1) ?_; intro r hr); simp only [Act.put, List.setIfInBounds_toArray, List.set_cons_zero, List.set_cons_succ]); (refine wpSome_one ?_; go_big_quiet_step (fail); refine wpQuiet_nil ?_); (refine wpSome_one ?_; go_big_quiet_step (fail); refine wpQuiet_nil ?_); (refine wpSome_one ?_; go_big_quiet_step (fail); refine wpQuiet_nil ?_); (refine wpSome_one ?_; go_big_quiet_step (fail); refine wpQuiet_nil ?_); (refine wpSome_one ?_; go_big_quiet_step (fail); refine wpQuiet_nil ?_); (refine wpSome_one ?_; go_big_quiet_step (fail); refine wpQuiet_nil ?_); (refine wpSome_one ?_; go_big_quiet_step (fail); refine wpQuiet_nil ?_); (refine wpSome_one ?_; go_big_quiet_step (fail); refine wpQuiet_nil ?_); (refine wpSome_one ?_; go_big_quiet_step (fail); refine wpQuiet_nil ?_); (refine wpSome_one ?_; go_big_quiet_step (fail); refine wpQuiet_nil ?_); (refine wpSome_one ?_; go_big_quiet_step (fail); refine wpQuiet_nil ?_); ((refine wpSome_callF rfl (fun w' => by go_simp <;> first | exact ⟨rfl, rfl⟩ | exact rfl) (by (first | (with_reducible first | assumption | exact cn_fop _ _ _ _ | exact cn_cn _ _ | exact cn_wide _ | exact cn_narrow _ | exact cn_accC .. | exact cn_heatC .. | exact cn_half .. | exact cn_bet .. | exact cn_end .. | exact cn_erV .. | exact cn_exV .. | exact cn_slopeV .. | exact cn_rootC .. | exact cn_stF .. | exact cn_warmC .. | exact cn_partC .. | exact cn_easeC .. | exact cn_growC .. | exact cn_mostV .. | exact cn_passV .. | exact cn_flowL .. | exact cn_flowV .. | exact cn_fV .. | exact cn_heldA .. | exact cn_gainA .. | exact cn_meanV .. | exact cn_sqC ..) | (refine cn_chk ?_; (with_reducible first | assumption | exact cn_fop _ _ _ _ | exact cn_cn _ _ | exact cn_wide _ | exact cn_narrow _ | exact cn_accC .. | exact cn_heatC .. | exact cn_half .. | exact cn_bet .. | exact cn_end .. | exact cn_erV .. | exact cn_exV .. | exact cn_slopeV .. | exact cn_rootC .. | exact cn_stF .. | exact cn_warmC .. | exact cn_partC .. | exact cn_easeC .. | exact cn_growC .. | exact cn_mostV .. | exact cn_passV .. | exact cn_flowL .. | exact cn_flowV .. | exact cn_fV .. | exact cn_heldA .. | exact cn_gainA .. | exact cn_meanV .. | exact cn_sqC ..)) | (refine cn_gF ?_; (with_reducible first | assumption | exact cn_fop _ _ _ _ | exact cn_cn _ _ | exact cn_wide _ | exact cn_narrow _ | exact cn_accC .. | exact cn_heatC .. | exact cn_half .. | exact cn_bet .. | exact cn_end .. | exact cn_erV .. | exact cn_exV .. | exact cn_slopeV .. | exact cn_rootC .. | exact cn_stF .. | exact cn_warmC .. | exact cn_partC .. | exact cn_easeC .. | exact cn_growC .. | exact cn_mostV .. | exact cn_passV .. | exact cn_flowL .. | exact cn_flowV .. | exact cn_fV .. | exact cn_heldA .. | exact cn_gainA .. | exact cn_meanV .. | exact cn_sqC ..)))) (fun m => l03Warm_any s _ _ _ _ HAT1.out.1) ?_; intro r hr); simp only [Act.put, List.setIfInBounds_toArray, List.set_cons_zero, List.set_cons_succ]); (refine wpSome_one ?_; go_big_quiet_step (fail); refine wpQuiet_nil ?_); ((with_reducible refine at_some ?_; refine wpSome_fop rfl rfl rfl rfl rfl ?_; intro r hr0; have hr := hr0 _ _ (by first | with_reducible assumption | exact rfl) (by first | with_reducible assumption | exact rfl); clear hr0); simp only [Act.put, List.setIfInBounds_toArray, List.set_cons_zero, List.set_cons_succ]); ((with_reducible refine at_some ?_; refine wpSome_fop rfl rfl rfl rfl rfl ?_; intro r hr0; have hr := hr0 _ _ (by first | with_reducible assumption | exact rfl) (by first | with_reducible assumption | exact rfl); clear hr0); simp only [Act.put, List.setIfInBounds_toArray, List.set_cons_zero, List.set_cons_succ]); (refine wpSome_one ?_; go_big_quiet_step (fail); refine wpQuiet_nil ?_); (refine wpSome_one ?_; go_big_quiet_step (fail); refine wpQuiet_nil ?_); (refine wpSome_one ?_; go_big_quiet_step (fail); refine wpQuiet_nil ?_); (refine wpSome_one ?_; go_big_quiet_step (fail); refine wpQuiet_nil ?_); ((with_reducible refine at_some ?_; refine wpSome_fop rfl rfl rfl rfl rfl ?_; intro r hr0; have hr := hr0 _ _ (by first | with_reducible assumption | exact rfl) (by first | with_reducible assumption | exact rfl); clear hr0); simp only [Act.put, List.setIfInBounds_toArray, List.set_cons_zero, List.set_cons_succ]); (refine wpSome_one ?_; go_big_quiet_step (fail); refine wpQuiet_nil ?_); refine wpSome_nil ?_; intro w' hw'; obtain ⟨nq, rfl⟩ := hw')
      have HOUT : Hid (cn .f32 r = outV s p xs g true) := by show _ = _; rw [HZ.out]; assumption
      have HW9 : Hid (Below w0.heap.size w0 (wc.drewN nq)) := below_drewN HW3.out _
      go_wp2_with fail
      go_meet
      case rel => exact ⟨r, rfl, HOUT.out, HW9.out⟩
  case rest =>
  clear hd2 HW3 hw3z HN
  obtain ⟨r2, rfl, HOUT, HW3⟩ := hcut
  have hzc := HW3.out.size
  have HAT2 := Lib.hid (bar_later HAT0.out HW3.out (by omega))
  go_wp2_with (go_at_call 92; refine stop_here ?_)
  unfold Stop
  refine (HOW.out _ _ _ HAT2.out ((HS.out.later HBW.out).later HW3.out)).mono ?_
  rintro e w' ⟨u, rfl, hb, hX⟩
  rename World => w1
  obtain ⟨g4, p4, n4, rfl, _, _⟩ := FS.ptr (OF.fs hX) hn1
  have hp4 : p4 = 0 := by
    rcases OF.view hX with ⟨h, _⟩ | ⟨g', c', h1, _⟩
    · cases h
    · simp only [Value.slice.injEq, Option.some.injEq, Addr.mk.injEq] at h1; exact h1.1.2.1
  subst hp4
  have hg4 := OF.block hX g4 rfl
  have hg4' : g4 < w1.heap.size := hg4.2
  have hg4'' : wc.heap.size ≤ g4 := hg4.1
  have HX1 := Lib.hid hX
  have HB1 : Hid (Below w0.heap.size w0 w1) := HW3.out.trans (hb.mono hzc)
  have hz01 := HB1.out.size
  clear hX hg4 hb
  go_wp2_with fail
  refine wp_named ?_
  intro ws hws
  have HX5 : Hid (OF wc.heap.size ws (.slice (some ⟨g4, 0, none⟩) xs.length n4) xs) := by show OF _ _ _ _; rw [hws]; exact OF.alloc HX1.out _
  have HRO : Hid (BarAt s p (.slice (some ⟨g4, 0, none⟩) xs.length n4) ws w1.heap.size 0) := by show BarAt _ _ _ _ _ _; rw [hws]; exact (by unfold BarAt St.at; refine ⟨⟨?_, ?_, ?_, ?_, ?_, ?_⟩, ?_, ?_⟩ <;> go_simp)
  have HB5 : Hid (Below w0.heap.size w0 ws) := by show Below _ _ _; rw [hws]; exact HB1.out.alloc hz01 _
  have HZ5 : Hid (ws.heap.size = w1.heap.size + 1) := by show _ = _; rw [hws]; first | rfl | (simp; done)
  have HVY : Hid (∀ i, i < ys0.length → ∃ b o, q0 = some ⟨b, o, none⟩ ∧ w0.cell? ⟨b, o + i, none⟩ = some (.float .f32 (ys0.getD i 0))) := by
    obtain ⟨q, c, e, _, _, h⟩ := FS_view HY0.out
    simp only [Value.slice.injEq] at e
    obtain ⟨rfl, _⟩ := e
    exact h
  have HFA : Hid (∀ i, 0 < i → i < xs.length → flA s p xs l g b1 b2 i = flowB s p (cn .f32 (xs.getD (i - 1) 0)) (cn .f32 (xs.getD i 0))) := fun i h1 h2 => by unfold flA; rw [if_neg (by omega), if_neg (by omega)]
  have HF0 : Hid (flA s p xs l g b1 b2 0 = inV s p xs l b1) := rfl
  have HFN : Hid (flA s p xs l g b1 b2 xs.length = outV s p xs g b2) := by show _ = _; unfold flA; rw [if_neg (by omega), if_pos rfl]
  clear hws hpos
  go_loopw [96] (fun z wr => ∃ (k : Nat) (zs : List Nat), k ≤ xs.length ∧ z = .int .i64 (k : Int) ∧ zs.length = xs.length ∧ Hid ((zs.take k).map (cn .f32) = stbL p xs (flA s p xs l g b1 b2) t k) ∧ Hid (OF wc.heap.size wr (.slice (some ⟨g4, 0, none⟩) xs.length n4) zs) ∧ Hid (Turn wc.heap.size w1.heap.size ws wr)) (fun z _ => xs.length - (intOf z).toNat)
  case atStart => exact ⟨0, xs, by omega, rfl, rfl, rfl, HX5.out, Turn.refl _ _ _⟩
  case round =>
    obtain ⟨k, zs, hk, rfl, hzl, HL, HX, HTN⟩ := hrel
    have hzr := HTN.out.size
    have hz5 := HZ5.out
    have hB0 : Below w0.heap.size w0 wr := HB5.out.trans (turn_below HTN.out (by omega) (by omega))
    have HBr : Hid (Below w.heap.size w wr) := HBW.out.trans (hB0.mono (by omega))
    have HAT3 := Lib.hid (bar_later HAT0.out hB0 (by omega))
    have hcb : ∀ o, wr.cell? ⟨w1.heap.size, o, none⟩ = ws.cell? ⟨w1.heap.size, o, none⟩ := fun o => World.cell?_of_block (HTN.out.block w1.heap.size (by omega) (.inr (Nat.le_refl _)))
    have HAT4 : Hid (BarAt s p (.slice (some ⟨g4, 0, none⟩) xs.length n4) wr w1.heap.size 0) := by
      obtain ⟨⟨a0, a1, a2, a3, a4, a5⟩, a6, a7⟩ := HRO.out
      exact ⟨⟨(hcb _).trans a0, (hcb _).trans a1, (hcb _).trans a2, (hcb _).trans a3, (hcb _).trans a4, (hcb _).trans a5⟩, (hcb _).trans a6, (hcb _).trans a7⟩
    have HZL := Lib.hid hzl
    clear hcb
    by_cases hlt : k < xs.length
    · have hlti : (k : Int) < (xs.length : Int) := by omega
      have hki : 0 ≤ (k : Int) + 1 := by omega
      have hkt : ((k : Int) + 1).toNat = k + 1 := by omega
      have hkw : IntKind.i64.wrap ((k : Int) + 1) = (k : Int) + 1 := IntWalk.i64_in _ (by omega)
      obtain ⟨old, hcell0, hfr⟩ : ∃ old, wr.cell? ⟨g4, k, none⟩ = some old ∧ wr.frozen? ⟨g4, k, none⟩ = false := by
        rcases OF.view HX.out with ⟨h, _⟩ | ⟨g', c', h1, _, _, _, _, h2⟩
        · cases h
        · simp only [Value.slice.injEq, Option.some.injEq, Addr.mk.injEq, and_true] at h1
          obtain ⟨rfl, _⟩ := h1
          have := h2 k (by omega)
          exact ⟨_, this.1, this.2⟩
      clear hzl
      go_upto_if 101 with fail
      go_cut [20] from 97 to 138 (fun s20 wx => ∃ v0, s20 = .float .f32 v0 ∧ Hid (cn .f32 v0 = flA s p xs l g b1 b2 k) ∧ wr = wx)
      case first =>
        by_cases hk0 : k = 0
        · subst hk0
          go_wp2_with fail
          go_meet
          case rel => exact ⟨r1, rfl, by show _ = _; rw [HF0.out]; exact HIN.out, rfl⟩
        · have hk0i : (0 : Int) < (k : Int) := by omega
          have hkm0 : (0 : Int) ≤ (k : Int) - 1 := by omega
          have hkm1 : ((k : Int) - 1).toNat = k - 1 := by omega
          have hkm2 : IntKind.i64.wrap ((k : Int) - 1) = (k : Int) - 1 := IntWalk.i64_in _ (by omega)
          have hy := HYL.out
          have hkm3 : (k : Int) - 1 < (ys0.length : Int) := by omega
          have hkm4 : (1 : Int) ≤ (k : Int) := by omega
          obtain ⟨bm, om, rfl, hc0⟩ := HVY.out (k - 1) (by omega)
          have hc1 := cell_later hB0 hc0
          have HGK := Lib.hid (HGF.out (k - 1) (by omega))
          generalize ys0.getD (k - 1) 0 = vy at hc1 HGK
          clear hy hc0
          go_wp2_with fail
          go_meet
          case rel => exact ⟨vy, rfl, by show _ = _; rw [HFA.out k (by omega) hlt, HGK.out, show k - 1 + 1 = k by omega], rfl⟩
      case rest =>
      obtain ⟨v0, rfl, HV0, hwc⟩ := hcut
      subst hwc
      go_upto_if 111 with fail
      go_cut [21] from 97 to 138 (fun s21 wx => ∃ v1, s21 = .float .f32 v1 ∧ Hid (cn .f32 v1 = flA s p xs l g b1 b2 (k + 1)) ∧ wr = wx)
      case first =>
        by_cases hkn : k + 1 < xs.length
        · have hkni : (k : Int) + 1 < (xs.length : Int) := by omega
          have hy := HYL.out
          have hkm3 : (k : Int) < (ys0.length : Int) := by omega
          have hkm4 : k < ys0.length := by omega
          obtain ⟨bm, om, rfl, hc0⟩ := HVY.out k (by omega)
          have hc1 := cell_later hB0 hc0
          have HGK := Lib.hid (HGF.out k (by omega))
          generalize ys0.getD k 0 = vy at hc1 HGK
          clear hy hc0
          go_wp2_with fail
          go_meet
          case rel => exact ⟨vy, rfl, by show _ = _; rw [HFA.out (k + 1) (by omega) hkn, HGK.out, show k + 1 - 1 = k by omega], rfl⟩
        · have hkni : ¬ (k : Int) + 1 < (xs.length : Int) := by omega
          have hke : k + 1 = xs.length := by omega
          have HKE : Hid (flA s p xs l g b1 b2 (k + 1) = outV s p xs g b2) := by show _ = _; rw [hke]; exact HFN.out
          clear hke
          go_wp2_with fail
          go_meet
          case rel => exact ⟨r2, rfl, by show _ = _; rw [HKE.out]; exact HOUT.out, rfl⟩
      case rest =>
      obtain ⟨v1, rfl, HV1, hwc⟩ := hcut
      subst hwc
      have za := cell_later HBr.out (HV.out k hlt)
      have qa : b0 < wr.heap.size := World.block_lt_of_cell? _ _ za
      have hg5 : g4 ≠ w1.heap.size := by omega
      have hg6 : g4 < wr.heap.size := World.block_lt_of_cell? _ _ hcell0
      have hT : Trk wr [b, b0, g4, w1.heap.size] := ((((Trk.nil wr).more (by omega)).more hg6).more qa).more (by omega)
      have HST := Lib.hid (stbL_step p xs (flA s p xs l g b1 b2) t k)
      have HSB : Hid (stbB p xs (flA s p xs l g b1 b2) t k = fop .add .f32 (cn .f32 (xs.getD k 0)) (fop .quo .f32 (fop .mul .f32 (cn .f32 t) (fop .sub .f32 (flA s p xs l g b1 b2 k) (flA s p xs l g b1 b2 (k + 1)))) (cn .f32 p))) := rfl
      generalize xs.getD k 0 = xa at za HSB
      obtain ⟨⟨d0, d1, d2, d3, d4, d5⟩, d6, d7⟩ := HAT3.out
      obtain ⟨⟨e0, e1, e2, e3, e4, e5⟩, e6, e7⟩ := HAT4.out
      simp only [Nat.zero_add] at e0 e1 e2 e3 e4 e5 e6 e7
      go_wp2_with fail
      (apply wp_region_plan; ((apply wpC_det; (case hw => exact rfl); (case hs => (intro cs b h; cases h)); (case h1 => (intro w'; go_simp <;> exact rfl))); apply wpC_norm; (case ha => (simp only [Act.put, List.setIfInBounds_toArray, List.set_cons_zero, List.set_cons_succ]; exact rfl))); ((apply wpC_val; (case hw => exact rfl); (case h1 => (intro w' hb hk0; obtain ⟨hT, hk⟩ := bv_next hb (by (repeat (with_reducible first | assumption | apply Trk.alloc | apply Trk.setCell | apply Trk.drewN | apply Trk.drew | exact Trk.nil _))); simp only [SameOn, World.size_alloc, World.size_setCell, World.size_drew, size_drewN', and_true] at hk; have hsz := Below.size hb; (try simp only [World.size_alloc, World.size_setCell, World.size_drew, size_drewN'] at hsz); go_simp <;> exact rfl))); apply wpC_norm; (case ha => (simp only [Act.put, List.setIfInBounds_toArray, List.set_cons_zero, List.set_cons_succ]; exact rfl))); ((apply wpC_det; (case hw => exact rfl); (case hs => (intro cs b h; cases h)); (case h1 => (intro w'; go_simp <;> exact rfl))); apply wpC_norm; (case ha => (simp only [Act.put, List.setIfInBounds_toArray, List.set_cons_zero, List.set_cons_succ]; exact rfl))); ((apply wpC_det; (case hw => exact rfl); (case hs => (intro cs b h; cases h)); (case h1 => (intro w'; go_simp <;> exact rfl))); apply wpC_norm; (case ha => (simp only [Act.put, List.setIfInBounds_toArray, List.set_cons_zero, List.set_cons_succ]; exact rfl))); ((apply wpC_det; (case hw => exact rfl); (case hs => (intro cs b h; cases h)); (case h1 => (intro w'; go_simp <;> exact rfl))); apply wpC_norm; (case ha => (simp only [Act.put, List.setIfInBounds_toArray, List.set_cons_zero, List.set_cons_succ]; exact rfl))); ((apply wpC_det; (case hw => exact rfl); (case hs => (intro cs b h; cases h)); (case h1 => (intro w'; go_simp <;> exact rfl))); apply wpC_norm; (case ha => (simp only [Act.put, List.setIfInBounds_toArray, List.set_cons_zero, List.set_cons_succ]; exact rfl))); ((apply wpC_val; (case hw => exact rfl); (case h1 => (intro w' hb hk0; obtain ⟨hT, hk⟩ := bv_next hb (by (repeat (with_reducible first | assumption | apply Trk.alloc | apply Trk.setCell | apply Trk.drewN | apply Trk.drew | exact Trk.nil _))); simp only [SameOn, World.size_alloc, World.size_setCell, World.size_drew, size_drewN', and_true] at hk; have hsz := Below.size hb; (try simp only [World.size_alloc, World.size_setCell, World.size_drew, size_drewN'] at hsz); go_simp <;> exact rfl))); apply wpC_norm; (case ha => (simp only [Act.put, List.setIfInBounds_toArray, List.set_cons_zero, List.set_cons_succ]; exact rfl))); ((apply wpC_det; (case hw => exact rfl); (case hs => (intro cs b h; cases h)); (case h1 => (intro w'; go_simp <;> exact rfl))); apply wpC_norm; (case ha => (simp only [Act.put, List.setIfInBounds_toArray, List.set_cons_zero, List.set_cons_succ]; exact rfl))); ((apply wpC_det; (case hw => exact rfl); (case hs => (intro cs b h; cases h)); (case h1 => (intro w'; go_simp <;> exact rfl))); apply wpC_norm; (case ha => (simp only [Act.put, List.setIfInBounds_toArray, List.set_cons_zero, List.set_cons_succ]; exact rfl))); ((apply wpC_val; (case hw => exact rfl); (case h1 => (intro w' hb hk0; obtain ⟨hT, hk⟩ := bv_next hb (by (repeat (with_reducible first | assumption | apply Trk.alloc | apply Trk.setCell | apply Trk.drewN | apply Trk.drew | exact Trk.nil _))); simp only [SameOn, World.size_alloc, World.size_setCell, World.size_drew, size_drewN', and_true] at hk; have hsz := Below.size hb; (try simp only [World.size_alloc, World.size_setCell, World.size_drew, size_drewN'] at hsz); go_simp <;> exact rfl))); apply wpC_norm; (case ha => (simp only [Act.put, List.setIfInBounds_toArray, List.set_cons_zero, List.set_cons_succ]; exact rfl))); ((apply wpC_det; (case hw => exact rfl); (case hs => (intro cs b h; cases h)); (case h1 => (intro w'; go_simp <;> exact rfl))); apply wpC_norm; (case ha => (simp only [Act.put, List.setIfInBounds_toArray, List.set_cons_zero, List.set_cons_succ]; exact rfl))); ((apply wpC_det; (case hw => exact rfl); (case hs => (intro cs b h; cases h)); (case h1 => (intro w'; go_simp <;> exact rfl))); apply wpC_norm; (case ha => (simp only [Act.put, List.setIfInBounds_toArray, List.set_cons_zero, List.set_cons_succ]; exact rfl))); ((apply wpC_det; (case hw => exact rfl); (case hs => (intro cs b h; cases h)); (case h1 => (intro w'; go_simp <;> exact rfl))); apply wpC_norm; (case ha => (simp only [Act.put, List.setIfInBounds_toArray, List.set_cons_zero, List.set_cons_succ]; exact rfl))); ((apply wpC_fop rfl rfl rfl rfl rfl; intro r hr0; have hr := hr0 _ _ (by first | with_reducible assumption | exact rfl) (by first | with_reducible assumption | exact rfl); clear hr0); apply wpC_norm; (case ha => (simp only [Act.put, List.setIfInBounds_toArray, List.set_cons_zero, List.set_cons_succ]; exact rfl))); ((apply wpC_fop rfl rfl rfl rfl rfl; intro r hr0; have hr := hr0 _ _ (by first | with_reducible assumption | exact rfl) (by first | with_reducible assumption | exact rfl); clear hr0); apply wpC_norm; (case ha => (simp only [Act.put, List.setIfInBounds_toArray, List.set_cons_zero, List.set_cons_succ]; exact rfl))); ((apply wpC_det; (case hw => exact rfl); (case hs => (intro cs b h; cases h)); (case h1 => (intro w'; go_simp <;> exact rfl))); apply wpC_norm; (case ha => (simp only [Act.put, List.setIfInBounds_toArray, List.set_cons_zero, List.set_cons_succ]; exact rfl))); ((apply wpC_det; (case hw => exact rfl); (case hs => (intro cs b h; cases h)); (case h1 => (intro w'; go_simp <;> exact rfl))); apply wpC_norm; (case ha => (simp only [Act.put, List.setIfInBounds_toArray, List.set_cons_zero, List.set_cons_succ]; exact rfl))); ((apply wpC_det; (case hw => exact rfl); (case hs => (intro cs b h; cases h)); (case h1 => (intro w'; go_simp <;> exact rfl))); apply wpC_norm; (case ha => (simp only [Act.put, List.setIfInBounds_toArray, List.set_cons_zero, List.set_cons_succ]; exact rfl))); ((apply wpC_val; (case hw => exact rfl); (case h1 => (intro w' hb hk0; obtain ⟨hT, hk⟩ := bv_next hb (by (repeat (with_reducible first | assumption | apply Trk.alloc | apply Trk.setCell | apply Trk.drewN | apply Trk.drew | exact Trk.nil _))); simp only [SameOn, World.size_alloc, World.size_setCell, World.size_drew, size_drewN', and_true] at hk; have hsz := Below.size hb; (try simp only [World.size_alloc, World.size_setCell, World.size_drew, size_drewN'] at hsz); go_simp <;> exact rfl))); apply wpC_norm; (case ha => (simp only [Act.put, List.setIfInBounds_toArray, List.set_cons_zero, List.set_cons_succ]; exact rfl))); ((apply wpC_fop rfl rfl rfl rfl rfl; intro r hr0; have hr := hr0 _ _ (by first | with_reducible assumption | exact rfl) (by first | with_reducible assumption | exact rfl); clear hr0); apply wpC_norm; (case ha => (simp only [Act.put, List.setIfInBounds_toArray, List.set_cons_zero, List.set_cons_succ]; exact rfl))); ((apply wpC_fop rfl rfl rfl rfl rfl; intro r hr0; have hr := hr0 _ _ (by first | with_reducible assumption | exact rfl) (by first | with_reducible assumption | exact rfl); clear hr0); apply wpC_norm; (case ha => (simp only [Act.put, List.setIfInBounds_toArray, List.set_cons_zero, List.set_cons_succ]; exact rfl))); ((apply wpC_det; (case hw => exact rfl); (case hs => (intro cs b h; cases h)); (case h1 => (intro w'; go_simp <;> exact rfl))); apply wpC_norm; (case ha => (simp only [Act.put, List.setIfInBounds_toArray, List.set_cons_zero, List.set_cons_succ]; exact rfl))); refine wpC_tail (by kernel_rfl) (by first | rfl | kernel_rfl) ?_; intro w' hb hkk; obtain ⟨hT, hk⟩ := bv_next hb (by (repeat (with_reducible first | assumption | apply Trk.alloc | apply Trk.setCell | apply Trk.drewN | apply Trk.drew | exact Trk.nil _))); simp only [SameOn, World.size_alloc, World.size_setCell, World.size_drew, size_drewN', and_true] at hk; have hsz := Below.size hb; (try simp only [World.size_alloc, World.size_setCell, World.size_drew, size_drewN'] at hsz))
      rotate_left
      all_goals (try (first | kernel_rfl | rfl))
      have hrr : cn .f32 r = stbB p xs (flA s p xs l g b1 b2) t k := by
        rw [HSB.out, ← HV0.out, ← HV1.out]
        assumption
      have hb8 : Below wr.heap.size wr w' := by (repeat (first | (with_reducible exact Below.refl _ _) | (with_reducible assumption) | (with_reducible refine below_then ?_ (by assumption)) | (with_reducible refine Below.trans ?_ (by assumption)) | (with_reducible refine below_drewN ?_ _) | (with_reducible apply Below.drew) | (with_reducible refine below_alloc ?_ _) | refine Below.setCell ?_ (by first | (simp; done) | (simp; omega)) _))
      have HS8 : Hid (OF wc.heap.size (w'.setCell ⟨g4, k, none⟩ (.float .f32 r)) (.slice (some ⟨g4, 0, none⟩) xs.length n4) (zs.set k r) ∧ w'.grownBy (w'.setCell ⟨g4, k, none⟩ (.float .f32 r)) (some g4)) := OF.stored (HX.out.later hb8) HZL.out k r
      have HT8 : Hid (Turn wc.heap.size w1.heap.size ws (w'.setCell ⟨g4, k, none⟩ (.float .f32 r))) := (HTN.out.trans (Turn.below hb8)).trans (Turn.of (u := .slice (some ⟨g4, 0, none⟩) 0 0) HS8.out.2 (fun j hj => by cases hj; exact ⟨hg4'', hg4'⟩))
      have HL8 : Hid (((zs.set k r).take (k + 1)).map (cn .f32) = stbL p xs (flA s p xs l g b1 b2) t (k + 1)) := by
        show _ = _
        rw [take_setF (by rw [HZL.out]; exact hlt), HST.out, List.map_append, HL.out, List.map_cons, hrr]
        rfl
      clear hkk
      go_wp2_with fail
      go_roundw
      case rel => exact ⟨k + 1, zs.set k r, by omega, by go_num, by rw [List.length_set]; exact HZL.out, HL8.out, HS8.out.1, HT8.out⟩
      case measure => simp [intOf]; omega
      all_goals first | kernel_rfl | rfl
    · have hlti : ¬ (k : Int) < (xs.length : Int) := by omega
      have hke : k = xs.length := by omega
      have HLE : Hid (zs.map (cn .f32) = stbX s p xs l g b1 b2 t) := by
        show _ = _
        have h := HL.out
        rw [hke, ← hzl, List.take_length] at h
        rw [h]
        show stbL p xs _ t zs.length = stbL p xs _ t xs.length
        rw [hzl]
      have HEQ : Hid (barOk s p zs = barOk s p (stbX s p xs l g b1 b2 t)) := barOk_cn HLE.out (stbL_cn _ _ _ _ _)
      have HBK := Lib.hid (fun b o w ha hs => l03Bar_any s p (.slice (some ⟨g4, 0, none⟩) xs.length n4) zs b o w ha hs)
      obtain ⟨⟨a0, a1, a2, a3, a4, a5, a6, a7⟩, af⟩ := HR7.out
      have hlt8 : w.heap.size < w0.heap.size := by omega
      have f0 := (hB0.cell hlt8).trans a0
      have f1 := (hB0.cell hlt8).trans a1
      have f2 := (hB0.cell hlt8).trans a2
      have f3 := (hB0.cell hlt8).trans a3
      have f4 := (hB0.cell hlt8).trans a4
      have f5 := (hB0.cell hlt8).trans a5
      have f6 := (hB0.cell hlt8).trans a6
      have f7 := (hB0.cell hlt8).trans a7
      have ff : ∀ o, wr.frozen? ⟨w.heap.size, o, none⟩ = false := fun o => (hB0.frozen (p := ⟨w.heap.size, o, none⟩) hlt8).trans (af o)
      obtain ⟨⟨e0, e1, e2, e3, e4, e5⟩, e6, e7⟩ := HAT4.out
      simp only [Nat.zero_add] at e0 e1 e2 e3 e4 e5 e6 e7
      have hb1 := HBr.out
      have hsp : w.heap.size ≠ w1.heap.size := by omega
      have HFX : Hid (FS wr (.slice (some ⟨g4, 0, none⟩) xs.length n4) zs) := OF.fs HX.out
      have hT : Trk wr [w.heap.size, w1.heap.size] := ((Trk.nil wr).more (by omega)).more (by omega)
      clear a0 a1 a2 a3 a4 a5 a6 a7 af HL hke hlt8 hzl
      rcases ho : barOk s p zs
      · rw [ho] at HBK
        have HE : Hid (barOk s p (stbX s p xs l g b1 b2 t) = false) := by show _ = _; rw [← HEQ.out, ho]
        go_wp2_with (first | (with_reducible refine at_list ?_; refine wpList_fop rfl rfl rfl rfl rfl ?_; intro r n hr0; have hr := hr0 _ _ (by first | with_reducible assumption | exact rfl) (by first | with_reducible assumption | exact rfl); clear hr0) | (with_reducible refine at_list ?_; refine wpList_neg rfl rfl rfl ?_; intro r hr0; have hr := hr0 _ (by first | with_reducible assumption | exact rfl); clear hr0) | (with_reducible refine at_list ?_; refine wpList_fop_g rfl rfl rfl rfl rfl ?_; intro r n hr0; have hr := hr0 _ _ (by first | with_reducible assumption | exact rfl) (by first | with_reducible assumption | exact rfl); clear hr0) | (with_reducible refine at_list ?_; refine wpList_wide_g rfl rfl Try.underlying22 Try.underlying40 rfl ?_; intro r n hr0; have hr := hr0 _ (by first | with_reducible assumption | exact rfl); clear hr0) | (with_reducible refine at_list ?_; refine wpList_wide rfl rfl rfl Try.underlying22 Try.underlying40 ?_; intro r n hr0; have hr := hr0 _ (by first | with_reducible assumption | exact rfl); clear hr0) | (go_at_call 112; refine (l03Ease_any _ _ _ _ _ (by assumption)).mono ?_; rintro e w' ⟨r, rfl, hr, n, rfl⟩) | (go_at_call 108; refine (l03Warm_any _ _ _ _ _ (by assumption)).mono ?_; rintro e w' ⟨r, rfl, hr, n, rfl⟩) | (go_at_call 62; refine ((HBK.out _ _ _ HAT4.out HFX.out) ).mono ?_; rintro e w' ⟨rfl, n, rfl⟩))
        refine bodyPost_ret (v := .tuple #[.agg #[.float .f32 0, .float .f32 0, .float .f32 0, .float .f32 0, .float .f32 0, .float .f32 0, .float .f32 0, .slice none 0 0], .bool false]) (by simp [results, Try.results90, go_sem, *]) rfl ?_
        exact ⟨false, _, [], ⟨HE.out.symm, rfl⟩, rfl, by (repeat (first | (with_reducible exact Below.refl _ _) | (with_reducible assumption) | (with_reducible refine below_then ?_ (by assumption)) | (with_reducible refine Below.trans ?_ (by assumption)) | (with_reducible refine below_drewN ?_ _) | (with_reducible apply Below.drew) | (with_reducible refine below_alloc ?_ _) | refine Below.setCell ?_ (by first | (simp; done) | (simp; omega)) _)), OF.nil0 _ _⟩
      · have HZ : Hid (zs = bX true (stbX s p xs l g b1 b2 t)) := barOk_raw HLE.out ho
        rw [ho] at HBK
        have HE : Hid (barOk s p (stbX s p xs l g b1 b2 t) = true) := by show _ = _; rw [← HEQ.out, ho]
        have hO := HX.out
        clear HLE
        go_wp2_with (first | (with_reducible refine at_list ?_; refine wpList_fop rfl rfl rfl rfl rfl ?_; intro r n hr0; have hr := hr0 _ _ (by first | with_reducible assumption | exact rfl) (by first | with_reducible assumption | exact rfl); clear hr0) | (with_reducible refine at_list ?_; refine wpList_neg rfl rfl rfl ?_; intro r hr0; have hr := hr0 _ (by first | with_reducible assumption | exact rfl); clear hr0) | (with_reducible refine at_list ?_; refine wpList_fop_g rfl rfl rfl rfl rfl ?_; intro r n hr0; have hr := hr0 _ _ (by first | with_reducible assumption | exact rfl) (by first | with_reducible assumption | exact rfl); clear hr0) | (with_reducible refine at_list ?_; refine wpList_wide_g rfl rfl Try.underlying22 Try.underlying40 rfl ?_; intro r n hr0; have hr := hr0 _ (by first | with_reducible assumption | exact rfl); clear hr0) | (with_reducible refine at_list ?_; refine wpList_wide rfl rfl rfl Try.underlying22 Try.underlying40 ?_; intro r n hr0; have hr := hr0 _ (by first | with_reducible assumption | exact rfl); clear hr0) | (go_at_call 112; refine (l03Ease_any _ _ _ _ _ (by assumption)).mono ?_; rintro e w' ⟨r, rfl, hr, n, rfl⟩) | (go_at_call 108; refine (l03Warm_any _ _ _ _ _ (by assumption)).mono ?_; rintro e w' ⟨r, rfl, hr, n, rfl⟩) | (go_at_call 62; refine ((HBK.out _ _ _ HAT4.out HFX.out) ).mono ?_; rintro e w' ⟨rfl, n, rfl⟩))
        refine bodyPost_ret (v := .tuple #[.agg #[.float .f32 s.a, .float .f32 s.b, .float .f32 s.c, .float .f32 s.d, .float .f32 s.p, .float .f32 s.l, .float .f32 p, .slice (some ⟨g4, 0, none⟩) xs.length n4], .bool true]) (by simp [results, Try.results90, go_sem, *]) rfl ?_
        exact ⟨true, _, zs, ⟨HE.out.symm, HZ.out⟩, rfl, by (repeat (first | (with_reducible exact Below.refl _ _) | (with_reducible assumption) | (with_reducible refine below_then ?_ (by assumption)) | (with_reducible refine Below.trans ?_ (by assumption)) | (with_reducible refine below_drewN ?_ _) | (with_reducible apply Below.drew) | (with_reducible refine below_alloc ?_ _) | refine Below.setCell ?_ (by first | (simp; done) | (simp; omega)) _)), (OF.base (by (repeat' (first | (with_reducible assumption) | (with_reducible apply OF.setCell) | (with_reducible apply OF.alloc) | (with_reducible apply OF.later; rotate_left; with_reducible assumption) | (with_reducible apply OF.kept; rotate_left; with_reducible assumption; first | (exact OF.sep (by with_reducible assumption) (by with_reducible assumption) (by omega)) | (exact OF.sep' (by with_reducible assumption) (by with_reducible assumption) (by omega))) | (with_reducible apply OF.drewN))) <;> (first | omega | (simp; done) | (simp; omega))) (by first | omega | (simp; done) | (simp; omega)))⟩
end Go.Proofs.Ytjeeflldbhajiaa

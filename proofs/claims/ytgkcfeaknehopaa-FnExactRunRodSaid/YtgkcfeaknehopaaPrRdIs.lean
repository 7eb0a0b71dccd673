/-
  Which rods are valid: the reference's way. No condition but what each contract says.
-/
import Derived.Test.YtgkcfeaknehopaaPrRdOk
set_option linter.unusedSimpArgs false
set_option linter.unusedVariables false
set_option linter.unusedSectionVars false
namespace Go.Proofs.Ytgkcfeaknehopaa
open Go Go.RowKit
open Go.ChangeShapes Go.WideShapes Go.ChangeAt Go.RowKit Go.Joins
theorem FS_at {w : World} {p : Option Addr} {c : Nat} {xs : List Nat} (h : FS w (.slice p xs.length c) xs) : ∀ i, i < xs.length → ∃ b o, p = some ⟨b, o, none⟩ ∧ w.cell? ⟨b, o + i, none⟩ = some (.float .f32 (xs.getD i 0)) := by
  obtain ⟨q, c', he, _, _, h'⟩ := h
  cases he
  exact h'
theorem posL_bad {xs : List Nat} {k : Nat} (hk : k < xs.length) (h : abv (cn .f32 (xs.getD k 0)) = false) : posL xs = false := by
  unfold posL
  rw [Bool.not_eq_false', List.any_eq_true]
  refine ⟨xs.getD k 0, ?_, by rw [abv_neg, h]; rfl⟩
  rw [List.getD_eq_getElem?_getD, List.getElem?_eq_getElem hk]; exact List.getElem_mem hk
theorem finL_bad {xs : List Nat} {k : Nat} (hk : k < xs.length) (h : fin .f32 (cn .f32 (xs.getD k 0)) = false) : finL xs = false := by
  unfold finL
  rw [Bool.not_eq_false', List.any_eq_true]
  refine ⟨xs.getD k 0, ?_, by rw [h]; rfl⟩
  rw [List.getD_eq_getElem?_getD, List.getElem?_eq_getElem hk]; exact List.getElem_mem hk
theorem posL_all {xs : List Nat} (h : ∀ j, j < xs.length → abv (cn .f32 (xs.getD j 0)) = true) : posL xs = true := by
  unfold posL
  rw [Bool.not_eq_true', List.any_eq_false]
  intro x hx
  obtain ⟨j, hj, rfl⟩ := List.getElem_of_mem hx
  have := h j hj
  rw [List.getD_eq_getElem?_getD, List.getElem?_eq_getElem hj] at this
  rw [abv_neg]
  simpa using this
theorem finL_all {xs : List Nat} (h : ∀ j, j < xs.length → fin .f32 (cn .f32 (xs.getD j 0)) = true) : finL xs = true := by
  unfold finL
  rw [Bool.not_eq_true', List.any_eq_false]
  intro x hx
  obtain ⟨j, hj, rfl⟩ := List.getElem_of_mem hx
  have := h j hj
  rw [List.getD_eq_getElem?_getD, List.getElem?_eq_getElem hj] at this
  simpa using this
set_option maxHeartbeats 4000000 in
set_option maxRecDepth 100000 in
theorem l02Is_any (P : Rd) (l : RL) (b o : Nat) (w : World) (ha : RdAt P l w b o) (hs : P.fs w l) : Calls Try.prog 48 #[.pointer (some ⟨b, o, none⟩)] w (RB w P.ok) := by
  have HS := Lib.hid hs
  clear hs
  obtain ⟨c0, c1, c2, c3⟩ := ha
  by_cases g1 : (P.a.length : Int) < 1
  · have HE : Hid (P.ok = false) := by show _ = _; simp [Rd.ok, Rd.sized]; omega
    go_enter Try.func48, Try.ntmps48
    go_wp2_with (first | (with_reducible refine at_list ?_; refine wpList_wide_g rfl rfl Try.underlying25 Try.underlying32 rfl ?_; intro r n hr0; have hr := hr0 _ (by first | with_reducible assumption | exact rfl); clear hr0) | (with_reducible refine at_list ?_; refine wpList_wide rfl rfl rfl Try.underlying25 Try.underlying32 ?_; intro r n hr0; have hr := hr0 _ (by first | with_reducible assumption | exact rfl); clear hr0) | (go_at_call 67; refine (l02Above_any _ _).mono ?_; rintro e w' ⟨rfl, n, rfl⟩) | (go_at_call 49; refine (l01Finite_any _ _).mono ?_; rintro e w' ⟨rfl, n, rfl⟩))
    all_goals
      go_ret
      exact ⟨by (first | (rw [HE.out]; rfl) | rw [HE.out]), (by first | exact ⟨_, rfl⟩ | exact ⟨0, rfl⟩ | exact ⟨_, World.drewN_drewN ..⟩ | exact ⟨_, by simp only [World.drewN_drewN]; rfl⟩)⟩
  by_cases g2 : 48 < (P.a.length : Int)
  · have HE : Hid (P.ok = false) := by show _ = _; simp [Rd.ok, Rd.sized]; omega
    go_enter Try.func48, Try.ntmps48
    go_wp2_with (first | (with_reducible refine at_list ?_; refine wpList_wide_g rfl rfl Try.underlying25 Try.underlying32 rfl ?_; intro r n hr0; have hr := hr0 _ (by first | with_reducible assumption | exact rfl); clear hr0) | (with_reducible refine at_list ?_; refine wpList_wide rfl rfl rfl Try.underlying25 Try.underlying32 ?_; intro r n hr0; have hr := hr0 _ (by first | with_reducible assumption | exact rfl); clear hr0) | (go_at_call 67; refine (l02Above_any _ _).mono ?_; rintro e w' ⟨rfl, n, rfl⟩) | (go_at_call 49; refine (l01Finite_any _ _).mono ?_; rintro e w' ⟨rfl, n, rfl⟩))
    all_goals
      go_ret
      exact ⟨by (first | (rw [HE.out]; rfl) | rw [HE.out]), (by first | exact ⟨_, rfl⟩ | exact ⟨0, rfl⟩ | exact ⟨_, World.drewN_drewN ..⟩ | exact ⟨_, by simp only [World.drewN_drewN]; rfl⟩)⟩
  by_cases e2 : (P.b.length : Int) = P.a.length
  rotate_left
  · have HE : Hid (P.ok = false) := by show _ = _; simp [Rd.ok, Rd.sized]; omega
    go_enter Try.func48, Try.ntmps48
    go_wp2_with (first | (with_reducible refine at_list ?_; refine wpList_wide_g rfl rfl Try.underlying25 Try.underlying32 rfl ?_; intro r n hr0; have hr := hr0 _ (by first | with_reducible assumption | exact rfl); clear hr0) | (with_reducible refine at_list ?_; refine wpList_wide rfl rfl rfl Try.underlying25 Try.underlying32 ?_; intro r n hr0; have hr := hr0 _ (by first | with_reducible assumption | exact rfl); clear hr0) | (go_at_call 67; refine (l02Above_any _ _).mono ?_; rintro e w' ⟨rfl, n, rfl⟩) | (go_at_call 49; refine (l01Finite_any _ _).mono ?_; rintro e w' ⟨rfl, n, rfl⟩))
    all_goals
      go_ret
      exact ⟨by (first | (rw [HE.out]; rfl) | rw [HE.out]), (by first | exact ⟨_, rfl⟩ | exact ⟨0, rfl⟩ | exact ⟨_, World.drewN_drewN ..⟩ | exact ⟨_, by simp only [World.drewN_drewN]; rfl⟩)⟩
  by_cases e3 : (P.c.length : Int) = P.a.length
  rotate_left
  · have HE : Hid (P.ok = false) := by show _ = _; simp [Rd.ok, Rd.sized]; omega
    go_enter Try.func48, Try.ntmps48
    go_wp2_with (first | (with_reducible refine at_list ?_; refine wpList_wide_g rfl rfl Try.underlying25 Try.underlying32 rfl ?_; intro r n hr0; have hr := hr0 _ (by first | with_reducible assumption | exact rfl); clear hr0) | (with_reducible refine at_list ?_; refine wpList_wide rfl rfl rfl Try.underlying25 Try.underlying32 ?_; intro r n hr0; have hr := hr0 _ (by first | with_reducible assumption | exact rfl); clear hr0) | (go_at_call 67; refine (l02Above_any _ _).mono ?_; rintro e w' ⟨rfl, n, rfl⟩) | (go_at_call 49; refine (l01Finite_any _ _).mono ?_; rintro e w' ⟨rfl, n, rfl⟩))
    all_goals
      go_ret
      exact ⟨by (first | (rw [HE.out]; rfl) | rw [HE.out]), (by first | exact ⟨_, rfl⟩ | exact ⟨0, rfl⟩ | exact ⟨_, World.drewN_drewN ..⟩ | exact ⟨_, by simp only [World.drewN_drewN]; rfl⟩)⟩
  by_cases e4 : (P.d.length : Int) = P.a.length
  rotate_left
  · have HE : Hid (P.ok = false) := by show _ = _; simp [Rd.ok, Rd.sized]; omega
    go_enter Try.func48, Try.ntmps48
    go_wp2_with (first | (with_reducible refine at_list ?_; refine wpList_wide_g rfl rfl Try.underlying25 Try.underlying32 rfl ?_; intro r n hr0; have hr := hr0 _ (by first | with_reducible assumption | exact rfl); clear hr0) | (with_reducible refine at_list ?_; refine wpList_wide rfl rfl rfl Try.underlying25 Try.underlying32 ?_; intro r n hr0; have hr := hr0 _ (by first | with_reducible assumption | exact rfl); clear hr0) | (go_at_call 67; refine (l02Above_any _ _).mono ?_; rintro e w' ⟨rfl, n, rfl⟩) | (go_at_call 49; refine (l01Finite_any _ _).mono ?_; rintro e w' ⟨rfl, n, rfl⟩))
    all_goals
      go_ret
      exact ⟨by (first | (rw [HE.out]; rfl) | rw [HE.out]), (by first | exact ⟨_, rfl⟩ | exact ⟨0, rfl⟩ | exact ⟨_, World.drewN_drewN ..⟩ | exact ⟨_, by simp only [World.drewN_drewN]; rfl⟩)⟩
  have HE : Hid (P.ok = (posL P.a && (posL P.b && (posL P.c && finL P.d)))) := by
    show _ = _
    have q1 : decide (1 ≤ P.a.length) = true := by simp; omega
    have q2 : decide (P.a.length ≤ 48) = true := by simp; omega
    have q3 : decide (P.b.length = P.a.length) = true := by simp; omega
    have q4 : decide (P.c.length = P.a.length) = true := by simp; omega
    have q5 : decide (P.d.length = P.a.length) = true := by simp; omega
    simp only [Rd.ok, Rd.sized, q1, q2, q3, q4, q5, Bool.true_and]
  have HVa := Lib.hid (FS_at HS.out.1)
  have HVb := Lib.hid (FS_at HS.out.2.1)
  have HVc := Lib.hid (FS_at HS.out.2.2.1)
  have HVd := Lib.hid (FS_at HS.out.2.2.2)
  go_enter Try.func48, Try.ntmps48
  go_wp2_with (first | (with_reducible refine at_list ?_; refine wpList_wide_g rfl rfl Try.underlying25 Try.underlying32 rfl ?_; intro r n hr0; have hr := hr0 _ (by first | with_reducible assumption | exact rfl); clear hr0) | (with_reducible refine at_list ?_; refine wpList_wide rfl rfl rfl Try.underlying25 Try.underlying32 ?_; intro r n hr0; have hr := hr0 _ (by first | with_reducible assumption | exact rfl); clear hr0) | (go_at_call 67; refine (l02Above_any _ _).mono ?_; rintro e w' ⟨rfl, n, rfl⟩) | (go_at_call 49; refine (l01Finite_any _ _).mono ?_; rintro e w' ⟨rfl, n, rfl⟩))
  go_loopw [4] (fun t wr => ∃ k m : Nat, k ≤ P.a.length ∧ t = .int .i64 k ∧ Hid (wr = w.drewN m) ∧ Hid (∀ j, j < k → abv (cn .f32 (P.a.getD j 0)) = true ∧ abv (cn .f32 (P.b.getD j 0)) = true ∧ abv (cn .f32 (P.c.getD j 0)) = true ∧ fin .f32 (cn .f32 (P.d.getD j 0)) = true)) (fun t _ => P.a.length - (intOf t).toNat)
  case atStart => exact ⟨0, 0, Nat.zero_le _, rfl, (rfl : _ = w.drewN 0), fun j hj => by omega⟩
  case round =>
    obtain ⟨k, m, hk, rfl, HW, hp⟩ := hrel
    have hcw : ∀ a, wr.cell? a = w.cell? a := fun a => by rw [HW.out]; rfl
    have HD : Hid (∀ n, wr.drewN n = w.drewN (m + n)) := fun n => by rw [HW.out, World.drewN_drewN]
    have HQ : Hid (∀ m, ∃ n, wr.drewN m = w.drewN n) := fun n => ⟨_, HD.out n⟩
    by_cases hlt : k < P.a.length
    · have hl2 : k < P.b.length := by omega
      have hl3 : k < P.c.length := by omega
      have hl4 : k < P.d.length := by omega
      have hkl : (k : Int) < P.a.length := by omega
      obtain ⟨b1, o1, hp1, hx1⟩ := HVa.out k hlt
      obtain ⟨b2, o2, hp2, hx2⟩ := HVb.out k hl2
      obtain ⟨b3, o3, hp3, hx3⟩ := HVc.out k hl3
      obtain ⟨b4, o4, hp4, hx4⟩ := HVd.out k hl4
      have d0 : wr.cell? ⟨b, o, none⟩ = some (.slice (some ⟨b1, o1, none⟩) P.a.length l.c1) := by rw [hcw, ← hp1]; exact c0
      have d1 : wr.cell? ⟨b, o + 1, none⟩ = some (.slice (some ⟨b2, o2, none⟩) P.b.length l.c2) := by rw [hcw, ← hp2]; exact c1
      have d2 : wr.cell? ⟨b, o + 2, none⟩ = some (.slice (some ⟨b3, o3, none⟩) P.c.length l.c3) := by rw [hcw, ← hp3]; exact c2
      have d3 : wr.cell? ⟨b, o + 3, none⟩ = some (.slice (some ⟨b4, o4, none⟩) P.d.length l.c4) := by rw [hcw, ← hp4]; exact c3
      have y1 := (hcw _).trans hx1
      have y2 := (hcw _).trans hx2
      have y3 := (hcw _).trans hx3
      have y4 := (hcw _).trans hx4
      clear hcw hp1 hp2 hp3 hp4 hx1 hx2 hx3 hx4
      have B1 : Hid (abv (cn .f32 (P.a.getD k 0)) = false → posL P.a = false) := posL_bad hlt
      have B2 : Hid (abv (cn .f32 (P.b.getD k 0)) = false → posL P.b = false) := posL_bad hl2
      have B3 : Hid (abv (cn .f32 (P.c.getD k 0)) = false → posL P.c = false) := posL_bad hl3
      have B4 : Hid (fin .f32 (cn .f32 (P.d.getD k 0)) = false → finL P.d = false) := finL_bad hl4
      have BX : Hid (∀ j, j < k + 1 → j < k ∨ j = k) := fun j hj => Nat.lt_succ_iff_lt_or_eq.1 hj
      have HX1 : Hid (∀ x, x = P.a.getD k 0 → P.a.getD k 0 = x) := fun x e => e.symm
      generalize hz1 : P.a.getD k 0 = x1 at y1 B1
      generalize hz2 : P.b.getD k 0 = x2 at y2 B2
      generalize hz3 : P.c.getD k 0 = x3 at y3 B3
      generalize hz4 : P.d.getD k 0 = x4 at y4 B4
      have Z1 := Lib.hid hz1
      have Z2 := Lib.hid hz2
      have Z3 := Lib.hid hz3
      have Z4 := Lib.hid hz4
      clear hz1 hz2 hz3 hz4 HX1
      rcases f1 : abv (cn .f32 x1)
      · have HF : Hid (P.ok = false) := by show _ = _; rw [HE.out, B1.out f1]; simp
        go_wp2_with (first | (with_reducible refine at_list ?_; refine wpList_wide_g rfl rfl Try.underlying25 Try.underlying32 rfl ?_; intro r n hr0; have hr := hr0 _ (by first | with_reducible assumption | exact rfl); clear hr0) | (with_reducible refine at_list ?_; refine wpList_wide rfl rfl rfl Try.underlying25 Try.underlying32 ?_; intro r n hr0; have hr := hr0 _ (by first | with_reducible assumption | exact rfl); clear hr0) | (go_at_call 67; refine (l02Above_any _ _).mono ?_; rintro e w' ⟨rfl, n, rfl⟩) | (go_at_call 49; refine (l01Finite_any _ _).mono ?_; rintro e w' ⟨rfl, n, rfl⟩))
        all_goals
          go_ret
          exact ⟨by (first | (rw [HF.out]; rfl) | rw [HF.out]), HQ.out _⟩
      rcases f2 : abv (cn .f32 x2)
      · have HF : Hid (P.ok = false) := by show _ = _; rw [HE.out, B2.out f2]; simp
        go_wp2_with (first | (with_reducible refine at_list ?_; refine wpList_wide_g rfl rfl Try.underlying25 Try.underlying32 rfl ?_; intro r n hr0; have hr := hr0 _ (by first | with_reducible assumption | exact rfl); clear hr0) | (with_reducible refine at_list ?_; refine wpList_wide rfl rfl rfl Try.underlying25 Try.underlying32 ?_; intro r n hr0; have hr := hr0 _ (by first | with_reducible assumption | exact rfl); clear hr0) | (go_at_call 67; refine (l02Above_any _ _).mono ?_; rintro e w' ⟨rfl, n, rfl⟩) | (go_at_call 49; refine (l01Finite_any _ _).mono ?_; rintro e w' ⟨rfl, n, rfl⟩))
        all_goals
          go_ret
          exact ⟨by (first | (rw [HF.out]; rfl) | rw [HF.out]), HQ.out _⟩
      rcases f3 : abv (cn .f32 x3)
      · have HF : Hid (P.ok = false) := by show _ = _; rw [HE.out, B3.out f3]; simp
        go_wp2_with (first | (with_reducible refine at_list ?_; refine wpList_wide_g rfl rfl Try.underlying25 Try.underlying32 rfl ?_; intro r n hr0; have hr := hr0 _ (by first | with_reducible assumption | exact rfl); clear hr0) | (with_reducible refine at_list ?_; refine wpList_wide rfl rfl rfl Try.underlying25 Try.underlying32 ?_; intro r n hr0; have hr := hr0 _ (by first | with_reducible assumption | exact rfl); clear hr0) | (go_at_call 67; refine (l02Above_any _ _).mono ?_; rintro e w' ⟨rfl, n, rfl⟩) | (go_at_call 49; refine (l01Finite_any _ _).mono ?_; rintro e w' ⟨rfl, n, rfl⟩))
        all_goals
          go_ret
          exact ⟨by (first | (rw [HF.out]; rfl) | rw [HF.out]), HQ.out _⟩
      rcases f4 : fin .f32 (cn .f32 x4)
      · have HF : Hid (P.ok = false) := by show _ = _; rw [HE.out, B4.out f4]; simp
        go_wp2_with (first | (with_reducible refine at_list ?_; refine wpList_wide_g rfl rfl Try.underlying25 Try.underlying32 rfl ?_; intro r n hr0; have hr := hr0 _ (by first | with_reducible assumption | exact rfl); clear hr0) | (with_reducible refine at_list ?_; refine wpList_wide rfl rfl rfl Try.underlying25 Try.underlying32 ?_; intro r n hr0; have hr := hr0 _ (by first | with_reducible assumption | exact rfl); clear hr0) | (go_at_call 67; refine (l02Above_any _ _).mono ?_; rintro e w' ⟨rfl, n, rfl⟩) | (go_at_call 49; refine (l01Finite_any _ _).mono ?_; rintro e w' ⟨rfl, n, rfl⟩))
        all_goals
          go_ret
          exact ⟨by (first | (rw [HF.out]; rfl) | rw [HF.out]), HQ.out _⟩
      go_wp2_with (first | (with_reducible refine at_list ?_; refine wpList_wide_g rfl rfl Try.underlying25 Try.underlying32 rfl ?_; intro r n hr0; have hr := hr0 _ (by first | with_reducible assumption | exact rfl); clear hr0) | (with_reducible refine at_list ?_; refine wpList_wide rfl rfl rfl Try.underlying25 Try.underlying32 ?_; intro r n hr0; have hr := hr0 _ (by first | with_reducible assumption | exact rfl); clear hr0) | (go_at_call 67; refine (l02Above_any _ _).mono ?_; rintro e w' ⟨rfl, n, rfl⟩) | (go_at_call 49; refine (l01Finite_any _ _).mono ?_; rintro e w' ⟨rfl, n, rfl⟩))
      go_roundw
      case rel => exact ⟨k + 1, _, by omega, by go_num, HD.out _, fun j hj => by rcases BX.out j hj with h | rfl; exact hp.out j h; rw [Z1.out, Z2.out, Z3.out, Z4.out]; exact ⟨f1, f2, f3, f4⟩⟩
      case measure => simp [intOf]; omega
    · have HT : Hid (P.ok = true) := by
        show _ = _
        rw [HE.out, posL_all fun j hj => (hp.out j (by omega)).1, posL_all fun j hj => (hp.out j (by omega)).2.1, posL_all fun j hj => (hp.out j (by omega)).2.2.1, finL_all fun j hj => (hp.out j (by omega)).2.2.2]
        rfl
      have hkl : ¬ (k : Int) < P.a.length := by omega
      clear hcw
      go_wp2_with (first | (with_reducible refine at_list ?_; refine wpList_wide_g rfl rfl Try.underlying25 Try.underlying32 rfl ?_; intro r n hr0; have hr := hr0 _ (by first | with_reducible assumption | exact rfl); clear hr0) | (with_reducible refine at_list ?_; refine wpList_wide rfl rfl rfl Try.underlying25 Try.underlying32 ?_; intro r n hr0; have hr := hr0 _ (by first | with_reducible assumption | exact rfl); clear hr0) | (go_at_call 67; refine (l02Above_any _ _).mono ?_; rintro e w' ⟨rfl, n, rfl⟩) | (go_at_call 49; refine (l01Finite_any _ _).mono ?_; rintro e w' ⟨rfl, n, rfl⟩))
      all_goals
        go_ret
        exact ⟨by (first | (rw [HT.out]; rfl) | rw [HT.out]), by first | exact ⟨_, HW.out⟩ | exact HQ.out _ | (simp; exact HQ.out _)⟩
end Go.Proofs.Ytgkcfeaknehopaa

/-
  The error function, the exponential function, how fast a front goes (the program's and the reference's). No condition but what each contract says.
-/
import Derived.Test.YtiodpahbmoeiaaaErr
set_option linter.unusedSimpArgs false
set_option linter.unusedVariables false
set_option linter.unusedSectionVars false
namespace Go.Proofs.Ytiodpahbmoeiaaa
open Go Go.RowKit
theorem erV_far {x : Nat} (h : fge .f64 x (cn .f64 4616189618054758400) = true) : erV x = cn .f64 4607182418800017408 := by unfold erV; rw [if_pos h]
theorem erV_low {x : Nat} (h : fge .f64 x (cn .f64 4616189618054758400) = false) (h1 : fle .f64 x (cn .f64 13839561654909534208) = true) : erV x = cn .f64 13830554455654793216 := by unfold erV; rw [if_neg (by rw [h]; decide), if_pos h1]
theorem erV_mid {x : Nat} (h : fge .f64 x (cn .f64 4616189618054758400) = false) (h1 : fle .f64 x (cn .f64 13839561654909534208) = false) : erV x = fop .mul .f64 (cn .f64 4607760587169110893) (erS x 60) := by unfold erV; rw [if_neg (by rw [h]; decide), if_neg (by rw [h1]; decide)]
set_option maxHeartbeats 2000000 in
theorem errorOf_any (x : Nat) (w : World) : Calls Try.prog 53 #[.float .f64 x] w (RF w .f64 (erV (cn .f64 x))) := by
  rcases h0 : fge .f64 (cn .f64 x) (cn .f64 4616189618054758400)
  · rcases h1 : fle .f64 (cn .f64 x) (cn .f64 13839561654909534208)
    · rw [erV_mid h0 h1]
      go_enter Try.func53, Try.ntmps53
      go_wp2_with (first | (with_reducible refine at_list ?_; refine wpList_fop rfl rfl rfl rfl rfl ?_; intro r n hr0; have hr := hr0 _ _ (by first | with_reducible assumption | exact rfl) (by first | with_reducible assumption | exact rfl); clear hr0) | (with_reducible refine at_list ?_; refine wpList_neg rfl rfl rfl ?_; intro r hr0; have hr := hr0 _ (by first | with_reducible assumption | exact rfl); clear hr0) | (with_reducible refine at_list ?_; refine wpList_fop_g rfl rfl rfl rfl rfl ?_; intro r n hr0; have hr := hr0 _ _ (by first | with_reducible assumption | exact rfl) (by first | with_reducible assumption | exact rfl); clear hr0) | (with_reducible refine at_list ?_; refine wpList_wide_g rfl rfl Try.underlying22 Try.underlying26 rfl ?_; intro r n hr0; have hr := hr0 _ (by first | with_reducible assumption | exact rfl); clear hr0) | (with_reducible refine at_list ?_; refine wpList_wide rfl rfl rfl Try.underlying22 Try.underlying26 ?_; intro r n hr0; have hr := hr0 _ (by first | with_reducible assumption | exact rfl); clear hr0))
      obtain ⟨X, hX⟩ : ∃ X, X = cn .f64 x := ⟨_, rfl⟩
      have hX' := hX.symm
      rw [hX']
      have HXX := Lib.hid hX
      clear h0 h1 hX
      go_loopw [3, 4, 5] (fun t s z wr => ∃ k m r1 r2 r3 : Nat, k ≤ 60 ∧ t = .float .f64 r1 ∧ s = .float .f64 r2 ∧ z = .float .f64 r3 ∧ Hid (cn .f64 r1 = erT X k) ∧ Hid (cn .f64 r2 = erS X k) ∧ Hid (cn .f64 r3 = fI ((k : Int) + 1)) ∧ wr = w.drewN m) (fun _ _ z _ => 61 - idxF (cn .f64 (fltOf z)))
      case atStart => exact ⟨0, 0, _, _, _, by omega, rfl, rfl, rfl, hX', rfl, fI_one.symm, rfl⟩
      case round =>
        obtain ⟨k, m, r1, r2, r3, hk, rfl, rfl, rfl, H1, H2, H3, rfl⟩ := hrel
        by_cases hlt : k < 60
        · obtain ⟨⟨e1, e2⟩, e3, e4⟩ := fI_step k hlt
          have HT : Hid (erT X (k + 1) = fop .quo .f64 (fop .mul .f64 (fop .mul .f64 (erT X k) (fneg .f64 (fop .mul .f64 X X))) (fI (2 * k + 1))) (fI ((k + 1) * (2 * k + 3)))) := rfl
          have HSS : Hid (erS X (k + 1) = fop .add .f64 (erS X k) (erT X k)) := rfl
          have HI1 := Lib.hid (idx_fI (k + 1) (by omega))
          have HI2 := Lib.hid (idx_fI (k + 2) (by omega))
          have E1 := Lib.hid e1
          have E2 := Lib.hid e2
          have E3 := Lib.hid e3
          have k1 := H1.out
          have k2 := H2.out
          have k3 := H3.out
          generalize erT X k = T at *
          generalize erS X k = S at *
          obtain ⟨F, hF⟩ : ∃ F, F = fI ((k : Int) + 1) := ⟨_, rfl⟩
          rw [← hF] at k3 e4
          have HF := Lib.hid hF
          clear e1 e2 e3 hF H1 H2
          go_wp2_with (first | (with_reducible refine at_list ?_; refine wpList_fop rfl rfl rfl rfl rfl ?_; intro r n hr0; have hr := hr0 _ _ (by first | with_reducible assumption | exact rfl) (by first | with_reducible assumption | exact rfl); clear hr0) | (with_reducible refine at_list ?_; refine wpList_neg rfl rfl rfl ?_; intro r hr0; have hr := hr0 _ (by first | with_reducible assumption | exact rfl); clear hr0) | (with_reducible refine at_list ?_; refine wpList_fop_g rfl rfl rfl rfl rfl ?_; intro r n hr0; have hr := hr0 _ _ (by first | with_reducible assumption | exact rfl) (by first | with_reducible assumption | exact rfl); clear hr0) | (with_reducible refine at_list ?_; refine wpList_wide_g rfl rfl Try.underlying22 Try.underlying26 rfl ?_; intro r n hr0; have hr := hr0 _ (by first | with_reducible assumption | exact rfl); clear hr0) | (with_reducible refine at_list ?_; refine wpList_wide rfl rfl rfl Try.underlying22 Try.underlying26 ?_; intro r n hr0; have hr := hr0 _ (by first | with_reducible assumption | exact rfl); clear hr0))
          have HF' := HF.out
          subst HF'
          go_roundw
          case rel => exact ⟨k + 1, _, _, _, _, by omega, rfl, rfl, rfl, by show _ = _; rw [HT.out, ← E2.out, ← E3.out]; assumption, by show _ = _; rw [HSS.out]; assumption, by show _ = _; rw [← E1.out]; assumption, rfl⟩
          case measure =>
            have a1 : idxF (cn .f64 r3) = k + 1 := by
              rw [k3, show (k : Int) + 1 = ((k + 1 : Nat) : Int) by omega]; exact HI1.out
            have a2 : ∀ r, cn .f64 r = fop .add .f64 (fI ((k : Int) + 1)) (cn .f64 4607182418800017408) → idxF (cn .f64 r) = k + 2 := by
              intro r h
              rw [h, E1.out, show ((k + 1 : Nat) : Int) + 1 = ((k + 2 : Nat) : Int) by omega]; exact HI2.out
            show 61 - idxF (cn .f64 _) < 61 - idxF (cn .f64 _)
            simp only [fltOf]
            rw [a1, a2 _ (by assumption)]
            omega
        · have he : k = 60 := by omega
          subst he
          have k2 := H2.out
          have k3 := H3.out
          obtain ⟨F, hF⟩ : ∃ F, F = fI (((60 : Nat) : Int) + 1) := ⟨_, rfl⟩
          rw [← hF] at k3
          have e4 : fle .f64 F (cn .f64 4633641066610819072) = false := by rw [hF]; exact fI_end
          obtain ⟨S, hS⟩ : ∃ S, S = erS X 60 := ⟨_, rfl⟩
          rw [← hS] at k2
          have HK : Hid (fop .mul .f64 (cn .f64 4607760587169110893) S = fop .mul .f64 (cn .f64 4607760587169110893) (erS (cn .f64 x) 60)) := by show _ = _; rw [hS, HXX.out]
          clear hF H1 H2 H3 hX' hS
          go_wp2_with (first | (with_reducible refine at_list ?_; refine wpList_fop rfl rfl rfl rfl rfl ?_; intro r n hr0; have hr := hr0 _ _ (by first | with_reducible assumption | exact rfl) (by first | with_reducible assumption | exact rfl); clear hr0) | (with_reducible refine at_list ?_; refine wpList_neg rfl rfl rfl ?_; intro r hr0; have hr := hr0 _ (by first | with_reducible assumption | exact rfl); clear hr0) | (with_reducible refine at_list ?_; refine wpList_fop_g rfl rfl rfl rfl rfl ?_; intro r n hr0; have hr := hr0 _ _ (by first | with_reducible assumption | exact rfl) (by first | with_reducible assumption | exact rfl); clear hr0) | (with_reducible refine at_list ?_; refine wpList_wide_g rfl rfl Try.underlying22 Try.underlying26 rfl ?_; intro r n hr0; have hr := hr0 _ (by first | with_reducible assumption | exact rfl); clear hr0) | (with_reducible refine at_list ?_; refine wpList_wide rfl rfl rfl Try.underlying22 Try.underlying26 ?_; intro r n hr0; have hr := hr0 _ (by first | with_reducible assumption | exact rfl); clear hr0))
          go_ret
          exact ⟨_, rfl, by rw [← HK.out]; assumption, _, rfl⟩
    · rw [erV_low h0 h1]
      go_enter Try.func53, Try.ntmps53
      go_wp2_with (first | (with_reducible refine at_list ?_; refine wpList_fop rfl rfl rfl rfl rfl ?_; intro r n hr0; have hr := hr0 _ _ (by first | with_reducible assumption | exact rfl) (by first | with_reducible assumption | exact rfl); clear hr0) | (with_reducible refine at_list ?_; refine wpList_neg rfl rfl rfl ?_; intro r hr0; have hr := hr0 _ (by first | with_reducible assumption | exact rfl); clear hr0) | (with_reducible refine at_list ?_; refine wpList_fop_g rfl rfl rfl rfl rfl ?_; intro r n hr0; have hr := hr0 _ _ (by first | with_reducible assumption | exact rfl) (by first | with_reducible assumption | exact rfl); clear hr0) | (with_reducible refine at_list ?_; refine wpList_wide_g rfl rfl Try.underlying22 Try.underlying26 rfl ?_; intro r n hr0; have hr := hr0 _ (by first | with_reducible assumption | exact rfl); clear hr0) | (with_reducible refine at_list ?_; refine wpList_wide rfl rfl rfl Try.underlying22 Try.underlying26 ?_; intro r n hr0; have hr := hr0 _ (by first | with_reducible assumption | exact rfl); clear hr0))
      go_ret
      exact ⟨_, rfl, rfl, 0, rfl⟩
  · rw [erV_far h0]
    go_enter Try.func53, Try.ntmps53
    go_wp2_with (first | (with_reducible refine at_list ?_; refine wpList_fop rfl rfl rfl rfl rfl ?_; intro r n hr0; have hr := hr0 _ _ (by first | with_reducible assumption | exact rfl) (by first | with_reducible assumption | exact rfl); clear hr0) | (with_reducible refine at_list ?_; refine wpList_neg rfl rfl rfl ?_; intro r hr0; have hr := hr0 _ (by first | with_reducible assumption | exact rfl); clear hr0) | (with_reducible refine at_list ?_; refine wpList_fop_g rfl rfl rfl rfl rfl ?_; intro r n hr0; have hr := hr0 _ _ (by first | with_reducible assumption | exact rfl) (by first | with_reducible assumption | exact rfl); clear hr0) | (with_reducible refine at_list ?_; refine wpList_wide_g rfl rfl Try.underlying22 Try.underlying26 rfl ?_; intro r n hr0; have hr := hr0 _ (by first | with_reducible assumption | exact rfl); clear hr0) | (with_reducible refine at_list ?_; refine wpList_wide rfl rfl rfl Try.underlying22 Try.underlying26 ?_; intro r n hr0; have hr := hr0 _ (by first | with_reducible assumption | exact rfl); clear hr0))
    go_ret
    exact ⟨_, rfl, rfl, 0, rfl⟩
set_option maxHeartbeats 2000000 in
theorem l03Error_any (x : Nat) (w : World) : Calls Try.prog 51 #[.float .f64 x] w (RF w .f64 (erV (cn .f64 x))) := by
  rcases h0 : fge .f64 (cn .f64 x) (cn .f64 4616189618054758400)
  · rcases h1 : fle .f64 (cn .f64 x) (cn .f64 13839561654909534208)
    · rw [erV_mid h0 h1]
      go_enter Try.func51, Try.ntmps51
      go_wp2_with (first | (with_reducible refine at_list ?_; refine wpList_fop rfl rfl rfl rfl rfl ?_; intro r n hr0; have hr := hr0 _ _ (by first | with_reducible assumption | exact rfl) (by first | with_reducible assumption | exact rfl); clear hr0) | (with_reducible refine at_list ?_; refine wpList_neg rfl rfl rfl ?_; intro r hr0; have hr := hr0 _ (by first | with_reducible assumption | exact rfl); clear hr0) | (with_reducible refine at_list ?_; refine wpList_fop_g rfl rfl rfl rfl rfl ?_; intro r n hr0; have hr := hr0 _ _ (by first | with_reducible assumption | exact rfl) (by first | with_reducible assumption | exact rfl); clear hr0) | (with_reducible refine at_list ?_; refine wpList_wide_g rfl rfl Try.underlying22 Try.underlying26 rfl ?_; intro r n hr0; have hr := hr0 _ (by first | with_reducible assumption | exact rfl); clear hr0) | (with_reducible refine at_list ?_; refine wpList_wide rfl rfl rfl Try.underlying22 Try.underlying26 ?_; intro r n hr0; have hr := hr0 _ (by first | with_reducible assumption | exact rfl); clear hr0))
      obtain ⟨X, hX⟩ : ∃ X, X = cn .f64 x := ⟨_, rfl⟩
      have hX' := hX.symm
      rw [hX']
      have HXX := Lib.hid hX
      clear h0 h1 hX
      go_loopw [3, 4, 5] (fun s t z wr => ∃ k m r1 r2 : Nat, k ≤ 60 ∧ t = .float .f64 r1 ∧ s = .float .f64 r2 ∧ z = .int .i64 ((k : Int) + 1) ∧ Hid (cn .f64 r1 = erT X k) ∧ Hid (cn .f64 r2 = erS X k) ∧ wr = w.drewN m) (fun _ _ z _ => 61 - (intOf z).toNat)
      case atStart => exact ⟨0, 0, _, _, by omega, rfl, rfl, rfl, hX', rfl, rfl⟩
      case round =>
        obtain ⟨k, m, r1, r2, hk, rfl, rfl, rfl, H1, H2, rfl⟩ := hrel
        have k1 := H1.out
        have k2 := H2.out
        by_cases hlt : k < 60
        · have HT : Hid (erT X (k + 1) = fop .quo .f64 (fop .mul .f64 (fop .mul .f64 (erT X k) (fneg .f64 (fop .mul .f64 X X))) (fI (2 * k + 1))) (fI ((k + 1) * (2 * k + 3)))) := rfl
          have HSS : Hid (erS X (k + 1) = fop .add .f64 (erS X k) (erT X k)) := rfl
          have m1 : (k : Int) * k ≤ 60 * 60 := Int.mul_le_mul (by omega) (by omega) (by omega) (by omega)
          have m0 : 0 ≤ (k : Int) * k := Int.mul_nonneg (by omega) (by omega)
          have hk1 : (k : Int) + 1 ≤ 60 := by omega
          have HW : Hid (wrap64 (((k : Int) + 1) * (2 * ((k : Int) + 1) + 1)) = ((k : Int) + 1) * (2 * k + 3)) := by
            have e : ((k : Int) + 1) * (2 * ((k : Int) + 1) + 1) = ((k : Int) + 1) * (2 * k + 3) := by grind
            have e2 : ((k : Int) + 1) * (2 * k + 3) = 2 * ((k : Int) * k) + 5 * k + 3 := by grind
            show _ = _
            rw [e, e2]
            exact IntWalk.wrap64_in _ ⟨by omega, by omega⟩
          have HQ1 : Hid (∀ z : Int, z = 2 * (k : Int) + 1 → cn .f64 (floatOfInt .f64 z) = fI (2 * k + 1)) := fun z h => by rw [h]; rfl
          have HQ2 : Hid (∀ z : Int, z = ((k : Int) + 1) * (2 * k + 3) → cn .f64 (floatOfInt .f64 z) = fI ((k + 1) * (2 * k + 3))) := fun z h => by rw [h]; rfl
          generalize erT X k = T at *
          generalize erS X k = S at *
          clear H1 H2
          go_wp2_with (first | (with_reducible refine at_list ?_; refine wpList_fop rfl rfl rfl rfl rfl ?_; intro r n hr0; have hr := hr0 _ _ (by first | with_reducible assumption | exact rfl) (by first | with_reducible assumption | exact rfl); clear hr0) | (with_reducible refine at_list ?_; refine wpList_neg rfl rfl rfl ?_; intro r hr0; have hr := hr0 _ (by first | with_reducible assumption | exact rfl); clear hr0) | (with_reducible refine at_list ?_; refine wpList_fop_g rfl rfl rfl rfl rfl ?_; intro r n hr0; have hr := hr0 _ _ (by first | with_reducible assumption | exact rfl) (by first | with_reducible assumption | exact rfl); clear hr0) | (with_reducible refine at_list ?_; refine wpList_wide_g rfl rfl Try.underlying22 Try.underlying26 rfl ?_; intro r n hr0; have hr := hr0 _ (by first | with_reducible assumption | exact rfl); clear hr0) | (with_reducible refine at_list ?_; refine wpList_wide rfl rfl rfl Try.underlying22 Try.underlying26 ?_; intro r n hr0; have hr := hr0 _ (by first | with_reducible assumption | exact rfl); clear hr0))
          go_roundw
          case rel => exact ⟨k + 1, _, _, _, by omega, rfl, rfl, by go_num, by show _ = _; rw [HT.out, ← HQ1.out (2 * ((k : Int) + 1) - 1) (by omega), ← HQ2.out _ HW.out]; assumption, by show _ = _; rw [HSS.out]; assumption, rfl⟩
          case measure => simp only [intOf]; omega
        · have he : k = 60 := by omega
          subst he
          obtain ⟨S, hS⟩ : ∃ S, S = erS X 60 := ⟨_, rfl⟩
          rw [← hS] at k2
          have HK : Hid (fop .mul .f64 (cn .f64 4607760587169110893) S = fop .mul .f64 (cn .f64 4607760587169110893) (erS (cn .f64 x) 60)) := by show _ = _; rw [hS, HXX.out]
          clear H1 H2 hX' hS
          go_wp2_with (first | (with_reducible refine at_list ?_; refine wpList_fop rfl rfl rfl rfl rfl ?_; intro r n hr0; have hr := hr0 _ _ (by first | with_reducible assumption | exact rfl) (by first | with_reducible assumption | exact rfl); clear hr0) | (with_reducible refine at_list ?_; refine wpList_neg rfl rfl rfl ?_; intro r hr0; have hr := hr0 _ (by first | with_reducible assumption | exact rfl); clear hr0) | (with_reducible refine at_list ?_; refine wpList_fop_g rfl rfl rfl rfl rfl ?_; intro r n hr0; have hr := hr0 _ _ (by first | with_reducible assumption | exact rfl) (by first | with_reducible assumption | exact rfl); clear hr0) | (with_reducible refine at_list ?_; refine wpList_wide_g rfl rfl Try.underlying22 Try.underlying26 rfl ?_; intro r n hr0; have hr := hr0 _ (by first | with_reducible assumption | exact rfl); clear hr0) | (with_reducible refine at_list ?_; refine wpList_wide rfl rfl rfl Try.underlying22 Try.underlying26 ?_; intro r n hr0; have hr := hr0 _ (by first | with_reducible assumption | exact rfl); clear hr0))
          go_ret
          exact ⟨_, rfl, by rw [← HK.out]; assumption, _, rfl⟩
    · rw [erV_low h0 h1]
      go_enter Try.func51, Try.ntmps51
      go_wp2_with (first | (with_reducible refine at_list ?_; refine wpList_fop rfl rfl rfl rfl rfl ?_; intro r n hr0; have hr := hr0 _ _ (by first | with_reducible assumption | exact rfl) (by first | with_reducible assumption | exact rfl); clear hr0) | (with_reducible refine at_list ?_; refine wpList_neg rfl rfl rfl ?_; intro r hr0; have hr := hr0 _ (by first | with_reducible assumption | exact rfl); clear hr0) | (with_reducible refine at_list ?_; refine wpList_fop_g rfl rfl rfl rfl rfl ?_; intro r n hr0; have hr := hr0 _ _ (by first | with_reducible assumption | exact rfl) (by first | with_reducible assumption | exact rfl); clear hr0) | (with_reducible refine at_list ?_; refine wpList_wide_g rfl rfl Try.underlying22 Try.underlying26 rfl ?_; intro r n hr0; have hr := hr0 _ (by first | with_reducible assumption | exact rfl); clear hr0) | (with_reducible refine at_list ?_; refine wpList_wide rfl rfl rfl Try.underlying22 Try.underlying26 ?_; intro r n hr0; have hr := hr0 _ (by first | with_reducible assumption | exact rfl); clear hr0))
      go_ret
      exact ⟨_, rfl, rfl, 0, rfl⟩
  · rw [erV_far h0]
    go_enter Try.func51, Try.ntmps51
    go_wp2_with (first | (with_reducible refine at_list ?_; refine wpList_fop rfl rfl rfl rfl rfl ?_; intro r n hr0; have hr := hr0 _ _ (by first | with_reducible assumption | exact rfl) (by first | with_reducible assumption | exact rfl); clear hr0) | (with_reducible refine at_list ?_; refine wpList_neg rfl rfl rfl ?_; intro r hr0; have hr := hr0 _ (by first | with_reducible assumption | exact rfl); clear hr0) | (with_reducible refine at_list ?_; refine wpList_fop_g rfl rfl rfl rfl rfl ?_; intro r n hr0; have hr := hr0 _ _ (by first | with_reducible assumption | exact rfl) (by first | with_reducible assumption | exact rfl); clear hr0) | (with_reducible refine at_list ?_; refine wpList_wide_g rfl rfl Try.underlying22 Try.underlying26 rfl ?_; intro r n hr0; have hr := hr0 _ (by first | with_reducible assumption | exact rfl); clear hr0) | (with_reducible refine at_list ?_; refine wpList_wide rfl rfl rfl Try.underlying22 Try.underlying26 ?_; intro r n hr0; have hr := hr0 _ (by first | with_reducible assumption | exact rfl); clear hr0))
    go_ret
    exact ⟨_, rfl, rfl, 0, rfl⟩
end Go.Proofs.Ytiodpahbmoeiaaa

/-
  The exponential function in 64 bits and how fast a front goes (the program's and the reference's). No condition but what each contract says.
-/
import Derived.Test.YtldancjofgobnaaErrW
import Derived.Test.YtldancjofgobnaaApp
set_option linter.unusedSimpArgs false
set_option linter.unusedVariables false
set_option linter.unusedSectionVars false
namespace Go.Proofs.Ytldancjofgobnaa
open Go Go.RowKit
theorem idx_down : ∀ j : Nat, j < 13 → idxF (fI (12 - (j : Int))) = 12 - j := by decide +kernel
set_option maxHeartbeats 2000000 in
theorem exponential_any (x : Nat) (w : World) (h : exOk (cn .f64 x)) : Calls Try.prog 32 #[.float .f64 x] w (RF w .f64 (exV (cn .f64 x))) := by
  obtain ⟨hq, h1, h2⟩ := h
  obtain ⟨T, hT⟩ : ∃ T, T = fop .quo .f64 (cn .f64 x) (cn .f64 4643211215818981376) := ⟨_, rfl⟩
  have HV : Hid (exV (cn .f64 x) = exQ (exP T 12) 8) := by show _ = _; rw [hT]; rfl
  rw [HV.out]
  have HT := Lib.hid hT
  clear hT
  go_enter Try.func32, Try.ntmps32
  go_wp2_with (first | (with_reducible refine at_list ?_; refine wpList_fop rfl rfl rfl rfl rfl ?_; intro r n hr0; have hr := hr0 _ _ (by first | with_reducible assumption | exact rfl) (by first | with_reducible assumption | exact rfl); clear hr0) | (with_reducible refine at_list ?_; refine wpList_neg rfl rfl rfl ?_; intro r hr0; have hr := hr0 _ (by first | with_reducible assumption | exact rfl); clear hr0) | (with_reducible refine at_list ?_; refine wpList_fop_g rfl rfl rfl rfl rfl ?_; intro r n hr0; have hr := hr0 _ _ (by first | with_reducible assumption | exact rfl) (by first | with_reducible assumption | exact rfl); clear hr0) | (with_reducible refine at_list ?_; refine wpList_wide_g rfl rfl Try.underlying22 Try.underlying32 rfl ?_; intro r n hr0; have hr := hr0 _ (by first | with_reducible assumption | exact rfl); clear hr0) | (with_reducible refine at_list ?_; refine wpList_wide rfl rfl rfl Try.underlying22 Try.underlying32 ?_; intro r n hr0; have hr := hr0 _ (by first | with_reducible assumption | exact rfl); clear hr0))
  go_loopw [4, 5] (fun p z wr => ∃ k m r1 r2 : Nat, k ≤ 12 ∧ p = .float .f64 r1 ∧ z = .float .f64 r2 ∧ Hid (cn .f64 r1 = exP T k) ∧ Hid (cn .f64 r2 = fI (12 - (k : Int))) ∧ wr = w.drewN m) (fun _ z _ => idxF (cn .f64 (fltOf z)))
  case atStart => exact ⟨0, _, _, _, by omega, rfl, rfl, rfl, fI_12.symm, rfl⟩
  case round =>
    obtain ⟨k, m, r1, r2, hk, rfl, rfl, H1, H2, rfl⟩ := hrel
    by_cases hlt : k < 12
    · obtain ⟨e1, e2⟩ := fI_down k hlt
      have HP : Hid (exP T (k + 1) = fop .add .f64 (cn .f64 4607182418800017408) (fop .quo .f64 (fop .mul .f64 T (exP T k)) (fI (12 - (k : Int))))) := rfl
      have HI1 := Lib.hid (idx_down k (by omega))
      have HI2 := Lib.hid (idx_down (k + 1) (by omega))
      have E2 := Lib.hid e2
      have k1 := H1.out
      have k2 := H2.out
      generalize exP T k = S at *
      obtain ⟨F, hF⟩ : ∃ F, F = fI (12 - (k : Int)) := ⟨_, rfl⟩
      rw [← hF] at k2 e1
      have HF := Lib.hid hF
      clear e2 hF H1 H2
      go_wp2_with (first | (with_reducible refine at_list ?_; refine wpList_fop rfl rfl rfl rfl rfl ?_; intro r n hr0; have hr := hr0 _ _ (by first | with_reducible assumption | exact rfl) (by first | with_reducible assumption | exact rfl); clear hr0) | (with_reducible refine at_list ?_; refine wpList_neg rfl rfl rfl ?_; intro r hr0; have hr := hr0 _ (by first | with_reducible assumption | exact rfl); clear hr0) | (with_reducible refine at_list ?_; refine wpList_fop_g rfl rfl rfl rfl rfl ?_; intro r n hr0; have hr := hr0 _ _ (by first | with_reducible assumption | exact rfl) (by first | with_reducible assumption | exact rfl); clear hr0) | (with_reducible refine at_list ?_; refine wpList_wide_g rfl rfl Try.underlying22 Try.underlying32 rfl ?_; intro r n hr0; have hr := hr0 _ (by first | with_reducible assumption | exact rfl); clear hr0) | (with_reducible refine at_list ?_; refine wpList_wide rfl rfl rfl Try.underlying22 Try.underlying32 ?_; intro r n hr0; have hr := hr0 _ (by first | with_reducible assumption | exact rfl); clear hr0))
      go_roundw
      case rel => exact ⟨k + 1, _, _, _, by omega, rfl, rfl, by show _ = _; rw [HP.out, HT.out, ← HF.out]; assumption, by show _ = _; rw [← E2.out, ← HF.out]; assumption, rfl⟩
      case measure =>
        have a1 : idxF (cn .f64 r2) = 12 - k := by rw [k2, HF.out]; exact HI1.out
        have a2 : ∀ r, cn .f64 r = fop .sub .f64 F (cn .f64 4607182418800017408) → idxF (cn .f64 r) = 12 - (k + 1) := by
          intro r h
          rw [h, HF.out, E2.out]; exact HI2.out
        simp only [fltOf]
        rw [a1, a2 _ (by assumption)]
        omega
    · have he : k = 12 := by omega
      subst he
      have k1 := H1.out
      have k2 := H2.out
      obtain ⟨F, hF⟩ : ∃ F, F = fI (12 - ((12 : Nat) : Int)) := ⟨_, rfl⟩
      rw [← hF] at k2
      have e1 : fge .f64 F (cn .f64 4607182418800017408) = false := by rw [hF]; exact fI_0
      obtain ⟨S, hS⟩ : ∃ S, S = exP T 12 := ⟨_, rfl⟩
      rw [← hS] at k1
      have HS := Lib.hid hS
      clear hF H1 H2 hS
      go_wp2_with (first | (with_reducible refine at_list ?_; refine wpList_fop rfl rfl rfl rfl rfl ?_; intro r n hr0; have hr := hr0 _ _ (by first | with_reducible assumption | exact rfl) (by first | with_reducible assumption | exact rfl); clear hr0) | (with_reducible refine at_list ?_; refine wpList_neg rfl rfl rfl ?_; intro r hr0; have hr := hr0 _ (by first | with_reducible assumption | exact rfl); clear hr0) | (with_reducible refine at_list ?_; refine wpList_fop_g rfl rfl rfl rfl rfl ?_; intro r n hr0; have hr := hr0 _ _ (by first | with_reducible assumption | exact rfl) (by first | with_reducible assumption | exact rfl); clear hr0) | (with_reducible refine at_list ?_; refine wpList_wide_g rfl rfl Try.underlying22 Try.underlying32 rfl ?_; intro r n hr0; have hr := hr0 _ (by first | with_reducible assumption | exact rfl); clear hr0) | (with_reducible refine at_list ?_; refine wpList_wide rfl rfl rfl Try.underlying22 Try.underlying32 ?_; intro r n hr0; have hr := hr0 _ (by first | with_reducible assumption | exact rfl); clear hr0))
      go_loopw [4, 25] (fun p z wr => ∃ k m r1 : Nat, k ≤ 8 ∧ p = .float .f64 r1 ∧ z = .int .i64 (k : Int) ∧ Hid (cn .f64 r1 = exQ S k) ∧ wr = w.drewN m) (fun _ z _ => 8 - (intOf z).toNat)
      case atStart => exact ⟨0, _, _, by omega, rfl, rfl, k1, rfl⟩
      case round =>
        clear k1 k2
        obtain ⟨k, m, r1, hk, rfl, rfl, H1, rfl⟩ := hrel
        have k1 := H1.out
        by_cases hlt : k < 8
        · have HP : Hid (exQ S (k + 1) = fop .mul .f64 (exQ S k) (exQ S k)) := rfl
          generalize exQ S k = A at *
          clear H1
          go_wp2_with (first | (with_reducible refine at_list ?_; refine wpList_fop rfl rfl rfl rfl rfl ?_; intro r n hr0; have hr := hr0 _ _ (by first | with_reducible assumption | exact rfl) (by first | with_reducible assumption | exact rfl); clear hr0) | (with_reducible refine at_list ?_; refine wpList_neg rfl rfl rfl ?_; intro r hr0; have hr := hr0 _ (by first | with_reducible assumption | exact rfl); clear hr0) | (with_reducible refine at_list ?_; refine wpList_fop_g rfl rfl rfl rfl rfl ?_; intro r n hr0; have hr := hr0 _ _ (by first | with_reducible assumption | exact rfl) (by first | with_reducible assumption | exact rfl); clear hr0) | (with_reducible refine at_list ?_; refine wpList_wide_g rfl rfl Try.underlying22 Try.underlying32 rfl ?_; intro r n hr0; have hr := hr0 _ (by first | with_reducible assumption | exact rfl); clear hr0) | (with_reducible refine at_list ?_; refine wpList_wide rfl rfl rfl Try.underlying22 Try.underlying32 ?_; intro r n hr0; have hr := hr0 _ (by first | with_reducible assumption | exact rfl); clear hr0))
          go_roundw
          case rel => exact ⟨k + 1, _, _, by omega, rfl, by go_num, by show _ = _; rw [HP.out]; assumption, rfl⟩
          case measure => simp only [intOf]; omega
        · have he : k = 8 := by omega
          subst he
          have HE : Hid (exQ S 8 = exQ (exP T 12) 8) := by show _ = _; rw [HS.out]
          have k1 := k1.trans HE.out
          clear H1
          go_wp2_with (first | (with_reducible refine at_list ?_; refine wpList_fop rfl rfl rfl rfl rfl ?_; intro r n hr0; have hr := hr0 _ _ (by first | with_reducible assumption | exact rfl) (by first | with_reducible assumption | exact rfl); clear hr0) | (with_reducible refine at_list ?_; refine wpList_neg rfl rfl rfl ?_; intro r hr0; have hr := hr0 _ (by first | with_reducible assumption | exact rfl); clear hr0) | (with_reducible refine at_list ?_; refine wpList_fop_g rfl rfl rfl rfl rfl ?_; intro r n hr0; have hr := hr0 _ _ (by first | with_reducible assumption | exact rfl) (by first | with_reducible assumption | exact rfl); clear hr0) | (with_reducible refine at_list ?_; refine wpList_wide_g rfl rfl Try.underlying22 Try.underlying32 rfl ?_; intro r n hr0; have hr := hr0 _ (by first | with_reducible assumption | exact rfl); clear hr0) | (with_reducible refine at_list ?_; refine wpList_wide rfl rfl rfl Try.underlying22 Try.underlying32 ?_; intro r n hr0; have hr := hr0 _ (by first | with_reducible assumption | exact rfl); clear hr0))
          go_ret
          exact ⟨_, rfl, k1, _, rfl⟩
set_option maxHeartbeats 2000000 in
theorem l01ExpWide_any (x : Nat) (w : World) (h : exOk (cn .f64 x)) : Calls Try.prog 24 #[.float .f64 x] w (RF w .f64 (exV (cn .f64 x))) := by
  obtain ⟨hq, h1, h2⟩ := h
  obtain ⟨T, hT⟩ : ∃ T, T = fop .quo .f64 (cn .f64 x) (cn .f64 4643211215818981376) := ⟨_, rfl⟩
  have HV : Hid (exV (cn .f64 x) = exQ (exP T 12) 8) := by show _ = _; rw [hT]; rfl
  rw [HV.out]
  have HT := Lib.hid hT
  clear hT
  go_enter Try.func24, Try.ntmps24
  go_wp2_with (first | (with_reducible refine at_list ?_; refine wpList_fop rfl rfl rfl rfl rfl ?_; intro r n hr0; have hr := hr0 _ _ (by first | with_reducible assumption | exact rfl) (by first | with_reducible assumption | exact rfl); clear hr0) | (with_reducible refine at_list ?_; refine wpList_neg rfl rfl rfl ?_; intro r hr0; have hr := hr0 _ (by first | with_reducible assumption | exact rfl); clear hr0) | (with_reducible refine at_list ?_; refine wpList_fop_g rfl rfl rfl rfl rfl ?_; intro r n hr0; have hr := hr0 _ _ (by first | with_reducible assumption | exact rfl) (by first | with_reducible assumption | exact rfl); clear hr0) | (with_reducible refine at_list ?_; refine wpList_wide_g rfl rfl Try.underlying22 Try.underlying32 rfl ?_; intro r n hr0; have hr := hr0 _ (by first | with_reducible assumption | exact rfl); clear hr0) | (with_reducible refine at_list ?_; refine wpList_wide rfl rfl rfl Try.underlying22 Try.underlying32 ?_; intro r n hr0; have hr := hr0 _ (by first | with_reducible assumption | exact rfl); clear hr0))
  go_loopw [4, 5] (fun p z wr => ∃ (k m r1 : Nat) (j : Int), k ≤ 12 ∧ p = .float .f64 r1 ∧ z = .int .i64 j ∧ Hid (j = 12 - (k : Int)) ∧ Hid (cn .f64 r1 = exP T k) ∧ wr = w.drewN m) (fun _ z _ => (intOf z).toNat)
  case atStart => exact ⟨0, _, _, _, by omega, rfl, rfl, rfl, rfl, rfl⟩
  case round =>
    obtain ⟨k, m, r1, j, hk, rfl, rfl, HJ, H1, rfl⟩ := hrel
    have hj := HJ.out
    by_cases hlt : k < 12
    · have HP : Hid (exP T (k + 1) = fop .add .f64 (cn .f64 4607182418800017408) (fop .quo .f64 (fop .mul .f64 T (exP T k)) (fI (12 - (k : Int))))) := rfl
      have k1 := H1.out
      have HI : Hid (cn .f64 (floatOfInt .f64 j) = fI (12 - (k : Int))) := by show _ = _; rw [hj]; rfl
      have hge : j ≥ 1 := by omega
      have hle : j ≤ 12 := by omega
      clear hj
      generalize exP T k = S at *
      clear H1
      go_wp2_with (first | (with_reducible refine at_list ?_; refine wpList_fop rfl rfl rfl rfl rfl ?_; intro r n hr0; have hr := hr0 _ _ (by first | with_reducible assumption | exact rfl) (by first | with_reducible assumption | exact rfl); clear hr0) | (with_reducible refine at_list ?_; refine wpList_neg rfl rfl rfl ?_; intro r hr0; have hr := hr0 _ (by first | with_reducible assumption | exact rfl); clear hr0) | (with_reducible refine at_list ?_; refine wpList_fop_g rfl rfl rfl rfl rfl ?_; intro r n hr0; have hr := hr0 _ _ (by first | with_reducible assumption | exact rfl) (by first | with_reducible assumption | exact rfl); clear hr0) | (with_reducible refine at_list ?_; refine wpList_wide_g rfl rfl Try.underlying22 Try.underlying32 rfl ?_; intro r n hr0; have hr := hr0 _ (by first | with_reducible assumption | exact rfl); clear hr0) | (with_reducible refine at_list ?_; refine wpList_wide rfl rfl rfl Try.underlying22 Try.underlying32 ?_; intro r n hr0; have hr := hr0 _ (by first | with_reducible assumption | exact rfl); clear hr0))
      go_roundw
      case rel => exact ⟨k + 1, _, _, _, by omega, rfl, rfl, by show _ = _; have := HJ.out; omega, by show _ = _; rw [HP.out, HT.out, ← HI.out]; assumption, rfl⟩
      case measure => simp only [intOf]; omega
    · have he : k = 12 := by omega
      subst he
      have hj0 : j = 0 := by omega
      subst hj0
      have k1 := H1.out
      clear hj HJ
      obtain ⟨S, hS⟩ : ∃ S, S = exP T 12 := ⟨_, rfl⟩
      rw [← hS] at k1
      have HS := Lib.hid hS
      clear H1 hS
      go_wp2_with (first | (with_reducible refine at_list ?_; refine wpList_fop rfl rfl rfl rfl rfl ?_; intro r n hr0; have hr := hr0 _ _ (by first | with_reducible assumption | exact rfl) (by first | with_reducible assumption | exact rfl); clear hr0) | (with_reducible refine at_list ?_; refine wpList_neg rfl rfl rfl ?_; intro r hr0; have hr := hr0 _ (by first | with_reducible assumption | exact rfl); clear hr0) | (with_reducible refine at_list ?_; refine wpList_fop_g rfl rfl rfl rfl rfl ?_; intro r n hr0; have hr := hr0 _ _ (by first | with_reducible assumption | exact rfl) (by first | with_reducible assumption | exact rfl); clear hr0) | (with_reducible refine at_list ?_; refine wpList_wide_g rfl rfl Try.underlying22 Try.underlying32 rfl ?_; intro r n hr0; have hr := hr0 _ (by first | with_reducible assumption | exact rfl); clear hr0) | (with_reducible refine at_list ?_; refine wpList_wide rfl rfl rfl Try.underlying22 Try.underlying32 ?_; intro r n hr0; have hr := hr0 _ (by first | with_reducible assumption | exact rfl); clear hr0))
      go_loopw [4, 6] (fun p z wr => ∃ k m r1 : Nat, k ≤ 8 ∧ p = .float .f64 r1 ∧ z = .int .i64 (k : Int) ∧ Hid (cn .f64 r1 = exQ S k) ∧ wr = w.drewN m) (fun _ z _ => 8 - (intOf z).toNat)
      case atStart => exact ⟨0, _, _, by omega, rfl, rfl, k1, rfl⟩
      case round =>
        clear k1
        obtain ⟨k, m, r1, hk, rfl, rfl, H1, rfl⟩ := hrel
        have k1 := H1.out
        by_cases hlt : k < 8
        · have HP : Hid (exQ S (k + 1) = fop .mul .f64 (exQ S k) (exQ S k)) := rfl
          generalize exQ S k = A at *
          clear H1
          go_wp2_with (first | (with_reducible refine at_list ?_; refine wpList_fop rfl rfl rfl rfl rfl ?_; intro r n hr0; have hr := hr0 _ _ (by first | with_reducible assumption | exact rfl) (by first | with_reducible assumption | exact rfl); clear hr0) | (with_reducible refine at_list ?_; refine wpList_neg rfl rfl rfl ?_; intro r hr0; have hr := hr0 _ (by first | with_reducible assumption | exact rfl); clear hr0) | (with_reducible refine at_list ?_; refine wpList_fop_g rfl rfl rfl rfl rfl ?_; intro r n hr0; have hr := hr0 _ _ (by first | with_reducible assumption | exact rfl) (by first | with_reducible assumption | exact rfl); clear hr0) | (with_reducible refine at_list ?_; refine wpList_wide_g rfl rfl Try.underlying22 Try.underlying32 rfl ?_; intro r n hr0; have hr := hr0 _ (by first | with_reducible assumption | exact rfl); clear hr0) | (with_reducible refine at_list ?_; refine wpList_wide rfl rfl rfl Try.underlying22 Try.underlying32 ?_; intro r n hr0; have hr := hr0 _ (by first | with_reducible assumption | exact rfl); clear hr0))
          go_roundw
          case rel => exact ⟨k + 1, _, _, by omega, rfl, by go_num, by show _ = _; rw [HP.out]; assumption, rfl⟩
          case measure => simp only [intOf]; omega
        · have he : k = 8 := by omega
          subst he
          have HE : Hid (exQ S 8 = exQ (exP T 12) 8) := by show _ = _; rw [HS.out]
          have k1 := k1.trans HE.out
          clear H1
          go_wp2_with (first | (with_reducible refine at_list ?_; refine wpList_fop rfl rfl rfl rfl rfl ?_; intro r n hr0; have hr := hr0 _ _ (by first | with_reducible assumption | exact rfl) (by first | with_reducible assumption | exact rfl); clear hr0) | (with_reducible refine at_list ?_; refine wpList_neg rfl rfl rfl ?_; intro r hr0; have hr := hr0 _ (by first | with_reducible assumption | exact rfl); clear hr0) | (with_reducible refine at_list ?_; refine wpList_fop_g rfl rfl rfl rfl rfl ?_; intro r n hr0; have hr := hr0 _ _ (by first | with_reducible assumption | exact rfl) (by first | with_reducible assumption | exact rfl); clear hr0) | (with_reducible refine at_list ?_; refine wpList_wide_g rfl rfl Try.underlying22 Try.underlying32 rfl ?_; intro r n hr0; have hr := hr0 _ (by first | with_reducible assumption | exact rfl); clear hr0) | (with_reducible refine at_list ?_; refine wpList_wide rfl rfl rfl Try.underlying22 Try.underlying32 ?_; intro r n hr0; have hr := hr0 _ (by first | with_reducible assumption | exact rfl); clear hr0))
          go_ret
          exact ⟨_, rfl, k1, _, rfl⟩
end Go.Proofs.Ytldancjofgobnaa

/-
  The heat that flows into a cell (the program's and the reference's). No condition but what each contract says.
-/
import Derived.Test.YtphamdlnnfionaaNb2
set_option linter.unusedSimpArgs false
set_option linter.unusedVariables false
set_option linter.unusedSectionVars false
namespace Go.Proofs.Ytphamdlnnfionaa
open Go Go.RowKit
open Go.ChangeShapes Go.WideShapes Go.ChangeAt Go.RowKit Go.Joins
set_option maxHeartbeats 8000000 in
theorem l04Near_any (P : Pl) (l : Lay) (i : Int) (b o : Nat) (w : World) (ha : PlAt P l w b o) (hW : 1 ≤ P.W ∧ P.W ≤ 12) (hH : 1 ≤ P.H ∧ P.H ≤ 12) (hi : 0 ≤ i ∧ i ≤ P.W * P.H - 1) : Calls Try.prog 41 #[.pointer (some ⟨b, o, none⟩), .int .i64 i] w (fun e w' => ∃ u, e = .returned u ∧ Below w.heap.size w w' ∧ OI w.heap.size w' u (nbs P.W P.H i)) := by
  have HN := Lib.hid (nbs_eq (H := P.H) hW.1 hi.1 hi.2)
  obtain ⟨g0, g1, g2, g3, g4, g5⟩ := ha
  clear g2 g3 g4 g5
  have hb0 : b < w.heap.size := World.block_lt_of_cell? _ _ g0
  have hT0 : Trk w [b] := (Trk.nil w).more hb0
  have e1 : i.tmod P.W = i % P.W := tmod_pos hi.1
  generalize i % P.W = x at e1 HN
  have hW0 : P.W ≠ 0 := by omega
  have hm : P.W * P.H ≤ 144 ∧ 0 ≤ P.W * (P.H - 1) ∧ P.W * (P.H - 1) ≤ 144 := by
    have h1 := Int.mul_le_mul hW.2 hH.2 (by omega) (by omega)
    have h2 : 0 ≤ P.W * (P.H - 1) := Int.mul_nonneg (by omega) (by omega)
    have h3 : P.W * (P.H - 1) = P.W * P.H - P.W := by rw [Int.mul_sub, Int.mul_one]
    exact ⟨by omega, h2, by omega⟩
  obtain ⟨hm1, hm2, hm3⟩ := hm
  generalize nbs P.W P.H i = L at HN ⊢
  have y1 : IntKind.i64.wrap (i - P.W) = i - P.W := IntWalk.i64_in _ (by omega)
  have y2 : IntKind.i64.wrap (i - 1) = i - 1 := IntWalk.i64_in _ (by omega)
  have y3 : IntKind.i64.wrap (i + 1) = i + 1 := IntWalk.i64_in _ (by omega)
  have y4 : IntKind.i64.wrap (i + P.W) = i + P.W := IntWalk.i64_in _ (by omega)
  go_enter Try.func41, Try.ntmps41
  go_wp2_with (first | (with_reducible refine at_list ?_; refine wpList_fop rfl rfl rfl rfl rfl ?_; intro r n hr0; have hr := hr0 _ _ (by first | with_reducible assumption | exact rfl) (by first | with_reducible assumption | exact rfl); clear hr0) | (with_reducible refine at_list ?_; refine wpList_neg rfl rfl rfl ?_; intro r hr0; have hr := hr0 _ (by first | with_reducible assumption | exact rfl); clear hr0) | (with_reducible refine at_list ?_; refine wpList_fop_g rfl rfl rfl rfl rfl ?_; intro r n hr0; have hr := hr0 _ _ (by first | with_reducible assumption | exact rfl) (by first | with_reducible assumption | exact rfl); clear hr0) | (with_reducible refine at_list ?_; refine wpList_wide_g rfl rfl Try.underlying26 Try.underlying54 rfl ?_; intro r n hr0; have hr := hr0 _ (by first | with_reducible assumption | exact rfl); clear hr0) | (with_reducible refine at_list ?_; refine wpList_wide rfl rfl rfl Try.underlying26 Try.underlying54 ?_; intro r n hr0; have hr := hr0 _ (by first | with_reducible assumption | exact rfl); clear hr0))
  (apply wp_region_plan; ((apply wpC_det; (case hw => exact rfl); (case hs => (intro cs b h; cases h)); (case h1 => (intro w'; go_simp <;> exact rfl))); apply wpC_norm; (case ha => (simp only [Act.put, List.setIfInBounds_toArray, List.set_cons_zero, List.set_cons_succ]; exact rfl))); ((apply wpC_det; (case hw => exact rfl); (case hs => (intro cs b h; cases h)); (case h1 => (intro w'; go_simp <;> exact rfl))); apply wpC_norm; (case ha => (simp only [Act.put, List.setIfInBounds_toArray, List.set_cons_zero, List.set_cons_succ]; exact rfl))); ((apply wpC_det; (case hw => exact rfl); (case hs => (intro cs b h; cases h)); (case h1 => (intro w'; go_simp <;> exact rfl))); apply wpC_norm; (case ha => (simp only [Act.put, List.setIfInBounds_toArray, List.set_cons_zero, List.set_cons_succ]; exact rfl))); ((apply wpC_det; (case hw => exact rfl); (case hs => (intro cs b h; cases h)); (case h1 => (intro w'; go_simp <;> exact rfl))); apply wpC_norm; (case ha => (simp only [Act.put, List.setIfInBounds_toArray, List.set_cons_zero, List.set_cons_succ]; exact rfl))); ((apply wpC_val; (case hw => exact rfl); (case h1 => (intro w' hb hk0; obtain ⟨hT, hk⟩ := bv_next hb (by (repeat (with_reducible first | assumption | apply Trk.alloc | apply Trk.setCell | apply Trk.drewN | apply Trk.drew | exact Trk.nil _))); simp only [SameOn, World.size_alloc, World.size_setCell, World.size_drew, size_drewN', and_true] at hk; have hsz := Below.size hb; (try simp only [World.size_alloc, World.size_setCell, World.size_drew, size_drewN'] at hsz); go_simp <;> exact rfl))); apply wpC_norm; (case ha => (simp only [Act.put, List.setIfInBounds_toArray, List.set_cons_zero, List.set_cons_succ]; exact rfl))); ((apply wpC_det; (case hw => exact rfl); (case hs => (intro cs b h; cases h)); (case h1 => (intro w'; go_simp <;> exact rfl))); apply wpC_norm; (case ha => (simp only [Act.put, List.setIfInBounds_toArray, List.set_cons_zero, List.set_cons_succ]; exact rfl))); ((apply wpC_det; (case hw => exact rfl); (case hs => (intro cs b h; cases h)); (case h1 => (intro w'; go_simp <;> exact rfl))); apply wpC_norm; (case ha => (simp only [Act.put, List.setIfInBounds_toArray, List.set_cons_zero, List.set_cons_succ]; exact rfl))); ((apply wpC_det; (case hw => exact rfl); (case hs => (intro cs b h; cases h)); (case h1 => (intro w'; go_simp <;> exact rfl))); apply wpC_norm; (case ha => (simp only [Act.put, List.setIfInBounds_toArray, List.set_cons_zero, List.set_cons_succ]; exact rfl))); ((apply wpC_det; (case hw => exact rfl); (case hs => (intro cs b h; cases h)); (case h1 => (intro w'; go_simp <;> exact rfl))); apply wpC_norm; (case ha => (simp only [Act.put, List.setIfInBounds_toArray, List.set_cons_zero, List.set_cons_succ]; exact rfl))); ((apply wpC_det; (case hw => exact rfl); (case hs => (intro cs b h; cases h)); (case h1 => (intro w'; go_simp <;> exact rfl))); apply wpC_norm; (case ha => (simp only [Act.put, List.setIfInBounds_toArray, List.set_cons_zero, List.set_cons_succ]; exact rfl))); ((apply wpC_det; (case hw => exact rfl); (case hs => (intro cs b h; cases h)); (case h1 => (intro w'; go_simp <;> exact rfl))); apply wpC_norm; (case ha => (simp only [Act.put, List.setIfInBounds_toArray, List.set_cons_zero, List.set_cons_succ]; exact rfl))); ((apply wpC_det; (case hw => exact rfl); (case hs => (intro cs b h; cases h)); (case h1 => (intro w'; go_simp <;> exact rfl))); apply wpC_norm; (case ha => (simp only [Act.put, List.setIfInBounds_toArray, List.set_cons_zero, List.set_cons_succ]; exact rfl))); ((apply wpC_det; (case hw => exact rfl); (case hs => (intro cs b h; cases h)); (case h1 => (intro w'; go_simp <;> exact rfl))); apply wpC_norm; (case ha => (simp only [Act.put, List.setIfInBounds_toArray, List.set_cons_zero, List.set_cons_succ]; exact rfl))); ((apply wpC_det; (case hw => exact rfl); (case hs => (intro cs b h; cases h)); (case h1 => (intro w'; go_simp <;> exact rfl))); apply wpC_norm; (case ha => (simp only [Act.put, List.setIfInBounds_toArray, List.set_cons_zero, List.set_cons_succ]; exact rfl))); ((apply wpC_val; (case hw => exact rfl); (case h1 => (intro w' hb hk0; obtain ⟨hT, hk⟩ := bv_next hb (by (repeat (with_reducible first | assumption | apply Trk.alloc | apply Trk.setCell | apply Trk.drewN | apply Trk.drew | exact Trk.nil _))); simp only [SameOn, World.size_alloc, World.size_setCell, World.size_drew, size_drewN', and_true] at hk; have hsz := Below.size hb; (try simp only [World.size_alloc, World.size_setCell, World.size_drew, size_drewN'] at hsz); go_simp <;> exact rfl))); apply wpC_norm; (case ha => (simp only [Act.put, List.setIfInBounds_toArray, List.set_cons_zero, List.set_cons_succ]; exact rfl))); ((apply wpC_det; (case hw => exact rfl); (case hs => (intro cs b h; cases h)); (case h1 => (intro w'; go_simp <;> exact rfl))); apply wpC_norm; (case ha => (simp only [Act.put, List.setIfInBounds_toArray, List.set_cons_zero, List.set_cons_succ]; exact rfl))); ((apply wpC_rowI ([i - P.W, i - 1, i + 1, i + P.W]) 4 rfl (by decide); (case hw => exact rfl); (case h1 => (intro w'; go_simp <;> exact rfl)); intro bv); apply wpC_norm; (case ha => (simp only [Act.put, List.setIfInBounds_toArray, List.set_cons_zero, List.set_cons_succ]; exact rfl))); ((apply wpC_det; (case hw => exact rfl); (case hs => (intro cs b h; cases h)); (case h1 => (intro w'; go_simp <;> exact rfl))); apply wpC_norm; (case ha => (simp only [Act.put, List.setIfInBounds_toArray, List.set_cons_zero, List.set_cons_succ]; exact rfl))); refine wpC_nil ?_; intro w' hb hkk; obtain ⟨hT, hk⟩ := bv_next hb (by (repeat (with_reducible first | assumption | apply Trk.alloc | apply Trk.setCell | apply Trk.drewN | apply Trk.drew | exact Trk.nil _))); simp only [SameOn, World.size_alloc, World.size_setCell, World.size_drew, size_drewN', and_true] at hk; have hsz := Below.size hb; (try simp only [World.size_alloc, World.size_setCell, World.size_drew, size_drewN'] at hsz))
  rotate_left
  iterate 8 (any_goals (try (first | kernel_rfl | rfl)))
  clear y1 y2 y3 y4
  have HO : Hid (OI w.heap.size w' (.slice (some ⟨bv, 0, none⟩) 4 4) [i - P.W, i - 1, i + 1, i + P.W]) := hkk.1
  have hvv : ∀ j, j < 4 → w'.cell? ⟨bv, j, none⟩ = some (.int .i64 ([i - P.W, i - 1, i + 1, i + P.W].getD j 0)) ∧ w'.frozen? ⟨bv, j, none⟩ = false := by
    rcases OI.view HO.out with ⟨h, _⟩ | ⟨g', c', h1, _, _, _, _, h2⟩
    · cases h
    · cases h1
      exact h2
  obtain ⟨v0, z0⟩ := hvv 0 (by omega)
  obtain ⟨v1, z1⟩ := hvv 1 (by omega)
  obtain ⟨v2, z2⟩ := hvv 2 (by omega)
  obtain ⟨v3, z3⟩ := hvv 3 (by omega)
  have hbb : w.heap.size ≤ bv := (OI.block HO.out bv rfl).1
  have hbz : bv < w'.heap.size := (OI.block HO.out bv rfl).2
  have hne : bv ≠ b ∧ b ≠ bv := ⟨by omega, by omega⟩
  obtain ⟨hne1, hne2⟩ := hne
  have S : Hid (∀ (B : Nat) (wx : World) (xs : List Int) (j : Nat) (u : Int), OI B wx (.slice (some ⟨bv, 0, none⟩) 4 4) xs → xs.length = 4 → OI B (wx.setCell ⟨bv, j, none⟩ (.int .i64 u)) (.slice (some ⟨bv, 0, none⟩) 4 4) (xs.set j u)) := fun B wx xs j u h hl => by
    rw [← hl] at h ⊢
    have := (OI.stored h j u).1
    rw [List.length_set] at this
    exact this
  clear hvv hkk
  by_cases q0 : i < P.W
  all_goals rcases q1 : (x == 0)
  all_goals rcases q2 : (x == P.W - 1)
  all_goals by_cases q3 : P.W * (P.H - 1) ≤ i
  all_goals
    have HL : Hid (L = [if i < P.W then -1 else i - P.W, if (x == 0) = true then -1 else i - 1, if (x == P.W - 1) = true then -1 else i + 1, if P.W * (P.H - 1) ≤ i then -1 else i + P.W]) := by
      show _ = _
      rw [HN.out]
      simp only [beq_iff_eq]
    clear HN
    simp only [q0, q1, q2, q3, if_true, if_false, Bool.false_eq_true] at HL
    go_wp2_with (first | (with_reducible refine at_list ?_; refine wpList_fop rfl rfl rfl rfl rfl ?_; intro r n hr0; have hr := hr0 _ _ (by first | with_reducible assumption | exact rfl) (by first | with_reducible assumption | exact rfl); clear hr0) | (with_reducible refine at_list ?_; refine wpList_neg rfl rfl rfl ?_; intro r hr0; have hr := hr0 _ (by first | with_reducible assumption | exact rfl); clear hr0) | (with_reducible refine at_list ?_; refine wpList_fop_g rfl rfl rfl rfl rfl ?_; intro r n hr0; have hr := hr0 _ _ (by first | with_reducible assumption | exact rfl) (by first | with_reducible assumption | exact rfl); clear hr0) | (with_reducible refine at_list ?_; refine wpList_wide_g rfl rfl Try.underlying26 Try.underlying54 rfl ?_; intro r n hr0; have hr := hr0 _ (by first | with_reducible assumption | exact rfl); clear hr0) | (with_reducible refine at_list ?_; refine wpList_wide rfl rfl rfl Try.underlying26 Try.underlying54 ?_; intro r n hr0; have hr := hr0 _ (by first | with_reducible assumption | exact rfl); clear hr0))
    (try (refine wp_some_lit (by kernel_rfl) (by kernel_rfl) ?_; (refine wpSome_one ?_; go_big_quiet_step (fail); refine wpQuiet_nil ?_); (refine wpSome_one ?_; go_big_quiet_step (fail); refine wpQuiet_nil ?_); (refine wpSome_one ?_; go_big_quiet_step (fail); refine wpQuiet_nil ?_); (refine wpSome_one ?_; go_big_quiet_step (fail); refine wpQuiet_nil ?_); (refine wpSome_one ?_; go_big_quiet_step (fail); refine wpQuiet_nil ?_); (refine wpSome_one ?_; go_big_quiet_step (fail); refine wpQuiet_nil ?_); (refine wpSome_one ?_; go_big_quiet_step (fail); refine wpQuiet_nil ?_); (refine wpSome_one ?_; go_big_quiet_step (fail); refine wpQuiet_nil ?_); (refine wpSome_one ?_; go_big_quiet_step (fail); refine wpQuiet_nil ?_); (refine wpSome_one ?_; go_big_quiet_step (fail); refine wpQuiet_nil ?_); (refine wpSome_one ?_; go_big_quiet_step (fail); refine wpQuiet_nil ?_); (refine wpSome_one ?_; go_big_quiet_step (fail); refine wpQuiet_nil ?_); refine wpSome_nil ?_; intro w' hw'; obtain ⟨nq, rfl⟩ := hw'))
    (try go_wp2_with (first | (with_reducible refine at_list ?_; refine wpList_fop rfl rfl rfl rfl rfl ?_; intro r n hr0; have hr := hr0 _ _ (by first | with_reducible assumption | exact rfl) (by first | with_reducible assumption | exact rfl); clear hr0) | (with_reducible refine at_list ?_; refine wpList_neg rfl rfl rfl ?_; intro r hr0; have hr := hr0 _ (by first | with_reducible assumption | exact rfl); clear hr0) | (with_reducible refine at_list ?_; refine wpList_fop_g rfl rfl rfl rfl rfl ?_; intro r n hr0; have hr := hr0 _ _ (by first | with_reducible assumption | exact rfl) (by first | with_reducible assumption | exact rfl); clear hr0) | (with_reducible refine at_list ?_; refine wpList_wide_g rfl rfl Try.underlying26 Try.underlying54 rfl ?_; intro r n hr0; have hr := hr0 _ (by first | with_reducible assumption | exact rfl); clear hr0) | (with_reducible refine at_list ?_; refine wpList_wide rfl rfl rfl Try.underlying26 Try.underlying54 ?_; intro r n hr0; have hr := hr0 _ (by first | with_reducible assumption | exact rfl); clear hr0)))
    (try (refine wp_some_lit (by kernel_rfl) (by kernel_rfl) ?_; (refine wpSome_one ?_; go_big_quiet_step (fail); refine wpQuiet_nil ?_); (refine wpSome_one ?_; go_big_quiet_step (fail); refine wpQuiet_nil ?_); (refine wpSome_one ?_; go_big_quiet_step (fail); refine wpQuiet_nil ?_); (refine wpSome_one ?_; go_big_quiet_step (fail); refine wpQuiet_nil ?_); (refine wpSome_one ?_; go_big_quiet_step (fail); refine wpQuiet_nil ?_); (refine wpSome_one ?_; go_big_quiet_step (fail); refine wpQuiet_nil ?_); (refine wpSome_one ?_; go_big_quiet_step (fail); refine wpQuiet_nil ?_); (refine wpSome_one ?_; go_big_quiet_step (fail); refine wpQuiet_nil ?_); (refine wpSome_one ?_; go_big_quiet_step (fail); refine wpQuiet_nil ?_); (refine wpSome_one ?_; go_big_quiet_step (fail); refine wpQuiet_nil ?_); (refine wpSome_one ?_; go_big_quiet_step (fail); refine wpQuiet_nil ?_); (refine wpSome_one ?_; go_big_quiet_step (fail); refine wpQuiet_nil ?_); refine wpSome_nil ?_; intro w' hw'; obtain ⟨nq, rfl⟩ := hw'))
    (try go_wp2_with (first | (with_reducible refine at_list ?_; refine wpList_fop rfl rfl rfl rfl rfl ?_; intro r n hr0; have hr := hr0 _ _ (by first | with_reducible assumption | exact rfl) (by first | with_reducible assumption | exact rfl); clear hr0) | (with_reducible refine at_list ?_; refine wpList_neg rfl rfl rfl ?_; intro r hr0; have hr := hr0 _ (by first | with_reducible assumption | exact rfl); clear hr0) | (with_reducible refine at_list ?_; refine wpList_fop_g rfl rfl rfl rfl rfl ?_; intro r n hr0; have hr := hr0 _ _ (by first | with_reducible assumption | exact rfl) (by first | with_reducible assumption | exact rfl); clear hr0) | (with_reducible refine at_list ?_; refine wpList_wide_g rfl rfl Try.underlying26 Try.underlying54 rfl ?_; intro r n hr0; have hr := hr0 _ (by first | with_reducible assumption | exact rfl); clear hr0) | (with_reducible refine at_list ?_; refine wpList_wide rfl rfl rfl Try.underlying26 Try.underlying54 ?_; intro r n hr0; have hr := hr0 _ (by first | with_reducible assumption | exact rfl); clear hr0)))
    go_ret
    refine ⟨_, rfl, ?_, ?_⟩
    · repeat (first | exact hb | apply below_drewN | (refine Below.setCell ?_ hbb _))
    · apply OI.cast
      case h => (repeat (first | exact HO.out | apply OI.drewN | apply S.out)) <;> rfl
      case e => (rw [HL.out]) <;> rfl
end Go.Proofs.Ytphamdlnnfionaa

/-
  Sums of lists of numbers (the program's and the reference's). No condition but what each contract says.
-/
import Derived.Test.YthdmamcbceblpaaApp
set_option linter.unusedSimpArgs false
set_option linter.unusedVariables false
set_option linter.unusedSectionVars false
namespace Go.Proofs.Ythdmamcbceblpaa
open Go Go.RowKit
/-- A sum from left to right. -/
def accC (f : Nat → Nat) (xs : List Nat) : Nat := xs.foldl (fun a x => fop .add .f32 a (f (cn .f32 x))) (cn .f32 0)
theorem accC_step (f : Nat → Nat) (xs : List Nat) {k : Nat} (h : k < xs.length) : accC f (xs.take (k + 1)) = fop .add .f32 (accC f (xs.take k)) (f (cn .f32 (xs.getD k 0))) := by
  unfold accC
  rw [List.take_add_one, List.foldl_append, List.getElem?_eq_getElem h, List.getD_eq_getElem?_getD, List.getElem?_eq_getElem h]
  rfl
theorem cn_accC (f : Nat → Nat) (xs : List Nat) : cn .f32 (accC f xs) = accC f xs := by
  rcases List.eq_nil_or_concat xs with rfl | ⟨l, x, rfl⟩
  · exact cn_cn .f32 0
  · unfold accC; simp only [List.concat_eq_append, List.foldl_append, List.foldl_cons, List.foldl_nil]; exact cn_fop _ _ _ _
set_option maxHeartbeats 1000000 in
theorem sum_any (xs : List Nat) (v : Value) (w : World) (hs : FS w v xs) : Calls Try.prog 65 #[v] w (RF w .f32 (accC id xs)) := by
  obtain ⟨p, c, rfl, hc1, hc2, HV⟩ := FS_view hs
  have HV := Lib.hid HV
  clear hs
  go_enter Try.func65, Try.ntmps65
  go_wp2_with (first | (with_reducible refine at_list ?_; refine wpList_fop rfl rfl rfl rfl rfl ?_; intro r n hr0; have hr := hr0 _ _ (by first | with_reducible assumption | exact rfl) (by first | with_reducible assumption | exact rfl); clear hr0) | (with_reducible refine at_list ?_; refine wpList_neg rfl rfl rfl ?_; intro r hr0; have hr := hr0 _ (by first | with_reducible assumption | exact rfl); clear hr0) | (with_reducible refine at_list ?_; refine wpList_fop_g rfl rfl rfl rfl rfl ?_; intro r n hr0; have hr := hr0 _ _ (by first | with_reducible assumption | exact rfl) (by first | with_reducible assumption | exact rfl); clear hr0) | (with_reducible refine at_list ?_; refine wpList_wide_g rfl rfl Try.underlying33 Try.underlying37 rfl ?_; intro r n hr0; have hr := hr0 _ (by first | with_reducible assumption | exact rfl); clear hr0) | (with_reducible refine at_list ?_; refine wpList_wide rfl rfl rfl Try.underlying33 Try.underlying37 ?_; intro r n hr0; have hr := hr0 _ (by first | with_reducible assumption | exact rfl); clear hr0))
  go_loopw [3, 8] (fun s t wr => ∃ k m r : Nat, k ≤ xs.length ∧ t = .int .i64 k ∧ s = .float .f32 r ∧ Hid (cn .f32 r = accC id (xs.take k)) ∧ wr = w.drewN m) (fun _ t _ => xs.length - (intOf t).toNat)
  case atStart => exact ⟨0, 0, 0, Nat.zero_le _, rfl, rfl, rfl, rfl⟩
  case round =>
    obtain ⟨k, m, r, hk, rfl, rfl, HR, rfl⟩ := hrel
    by_cases hlt : k < xs.length
    · obtain ⟨b, o, rfl, hcell⟩ := HV.out k hlt
      have HST := Lib.hid (accC_step id xs hlt)
      generalize hx : xs.getD k 0 = x at hcell HST
      clear hx HV
      go_wp2_with (first | (with_reducible refine at_list ?_; refine wpList_fop rfl rfl rfl rfl rfl ?_; intro r n hr0; have hr := hr0 _ _ (by first | with_reducible assumption | exact rfl) (by first | with_reducible assumption | exact rfl); clear hr0) | (with_reducible refine at_list ?_; refine wpList_neg rfl rfl rfl ?_; intro r hr0; have hr := hr0 _ (by first | with_reducible assumption | exact rfl); clear hr0) | (with_reducible refine at_list ?_; refine wpList_fop_g rfl rfl rfl rfl rfl ?_; intro r n hr0; have hr := hr0 _ _ (by first | with_reducible assumption | exact rfl) (by first | with_reducible assumption | exact rfl); clear hr0) | (with_reducible refine at_list ?_; refine wpList_wide_g rfl rfl Try.underlying33 Try.underlying37 rfl ?_; intro r n hr0; have hr := hr0 _ (by first | with_reducible assumption | exact rfl); clear hr0) | (with_reducible refine at_list ?_; refine wpList_wide rfl rfl rfl Try.underlying33 Try.underlying37 ?_; intro r n hr0; have hr := hr0 _ (by first | with_reducible assumption | exact rfl); clear hr0))
      go_roundw
      case rel => exact ⟨k + 1, _, _, by omega, by go_num, rfl, by show _ = _; rw [HST.out, ← HR.out]; assumption, rfl⟩
      case measure => simp [intOf]; omega
    · have he : k = xs.length := by omega
      have HR2 : Hid (cn .f32 r = accC id xs) := by have := HR.out; rw [he, List.take_length] at this; exact this
      clear HR
      go_wp2_with (first | (with_reducible refine at_list ?_; refine wpList_fop rfl rfl rfl rfl rfl ?_; intro r n hr0; have hr := hr0 _ _ (by first | with_reducible assumption | exact rfl) (by first | with_reducible assumption | exact rfl); clear hr0) | (with_reducible refine at_list ?_; refine wpList_neg rfl rfl rfl ?_; intro r hr0; have hr := hr0 _ (by first | with_reducible assumption | exact rfl); clear hr0) | (with_reducible refine at_list ?_; refine wpList_fop_g rfl rfl rfl rfl rfl ?_; intro r n hr0; have hr := hr0 _ _ (by first | with_reducible assumption | exact rfl) (by first | with_reducible assumption | exact rfl); clear hr0) | (with_reducible refine at_list ?_; refine wpList_wide_g rfl rfl Try.underlying33 Try.underlying37 rfl ?_; intro r n hr0; have hr := hr0 _ (by first | with_reducible assumption | exact rfl); clear hr0) | (with_reducible refine at_list ?_; refine wpList_wide rfl rfl rfl Try.underlying33 Try.underlying37 ?_; intro r n hr0; have hr := hr0 _ (by first | with_reducible assumption | exact rfl); clear hr0))
      go_ret
      exact ⟨_, rfl, HR2.out, m, rfl⟩
set_option maxHeartbeats 1000000 in
theorem l02Sum_any (xs : List Nat) (v : Value) (w : World) (hs : FS w v xs) : Calls Try.prog 100 #[v] w (RF w .f32 (accC id xs)) := by
  obtain ⟨p, c, rfl, hc1, hc2, HV⟩ := FS_view hs
  have HV := Lib.hid HV
  clear hs
  go_enter Try.func100, Try.ntmps100
  go_wp2_with (first | (with_reducible refine at_list ?_; refine wpList_fop rfl rfl rfl rfl rfl ?_; intro r n hr0; have hr := hr0 _ _ (by first | with_reducible assumption | exact rfl) (by first | with_reducible assumption | exact rfl); clear hr0) | (with_reducible refine at_list ?_; refine wpList_neg rfl rfl rfl ?_; intro r hr0; have hr := hr0 _ (by first | with_reducible assumption | exact rfl); clear hr0) | (with_reducible refine at_list ?_; refine wpList_fop_g rfl rfl rfl rfl rfl ?_; intro r n hr0; have hr := hr0 _ _ (by first | with_reducible assumption | exact rfl) (by first | with_reducible assumption | exact rfl); clear hr0) | (with_reducible refine at_list ?_; refine wpList_wide_g rfl rfl Try.underlying33 Try.underlying37 rfl ?_; intro r n hr0; have hr := hr0 _ (by first | with_reducible assumption | exact rfl); clear hr0) | (with_reducible refine at_list ?_; refine wpList_wide rfl rfl rfl Try.underlying33 Try.underlying37 ?_; intro r n hr0; have hr := hr0 _ (by first | with_reducible assumption | exact rfl); clear hr0))
  go_loopw [3, 4] (fun s t wr => ∃ k m r : Nat, k ≤ xs.length ∧ t = .int .i64 k ∧ s = .float .f32 r ∧ Hid (cn .f32 r = accC id (xs.take k)) ∧ wr = w.drewN m) (fun _ t _ => xs.length - (intOf t).toNat)
  case atStart => exact ⟨0, 0, 0, Nat.zero_le _, rfl, rfl, rfl, rfl⟩
  case round =>
    obtain ⟨k, m, r, hk, rfl, rfl, HR, rfl⟩ := hrel
    by_cases hlt : k < xs.length
    · obtain ⟨b, o, rfl, hcell⟩ := HV.out k hlt
      have HST := Lib.hid (accC_step id xs hlt)
      generalize hx : xs.getD k 0 = x at hcell HST
      clear hx HV
      go_wp2_with (first | (with_reducible refine at_list ?_; refine wpList_fop rfl rfl rfl rfl rfl ?_; intro r n hr0; have hr := hr0 _ _ (by first | with_reducible assumption | exact rfl) (by first | with_reducible assumption | exact rfl); clear hr0) | (with_reducible refine at_list ?_; refine wpList_neg rfl rfl rfl ?_; intro r hr0; have hr := hr0 _ (by first | with_reducible assumption | exact rfl); clear hr0) | (with_reducible refine at_list ?_; refine wpList_fop_g rfl rfl rfl rfl rfl ?_; intro r n hr0; have hr := hr0 _ _ (by first | with_reducible assumption | exact rfl) (by first | with_reducible assumption | exact rfl); clear hr0) | (with_reducible refine at_list ?_; refine wpList_wide_g rfl rfl Try.underlying33 Try.underlying37 rfl ?_; intro r n hr0; have hr := hr0 _ (by first | with_reducible assumption | exact rfl); clear hr0) | (with_reducible refine at_list ?_; refine wpList_wide rfl rfl rfl Try.underlying33 Try.underlying37 ?_; intro r n hr0; have hr := hr0 _ (by first | with_reducible assumption | exact rfl); clear hr0))
      go_roundw
      case rel => exact ⟨k + 1, _, _, by omega, by go_num, rfl, by show _ = _; rw [HST.out, ← HR.out]; assumption, rfl⟩
      case measure => simp [intOf]; omega
    · have he : k = xs.length := by omega
      have HR2 : Hid (cn .f32 r = accC id xs) := by have := HR.out; rw [he, List.take_length] at this; exact this
      clear HR
      go_wp2_with (first | (with_reducible refine at_list ?_; refine wpList_fop rfl rfl rfl rfl rfl ?_; intro r n hr0; have hr := hr0 _ _ (by first | with_reducible assumption | exact rfl) (by first | with_reducible assumption | exact rfl); clear hr0) | (with_reducible refine at_list ?_; refine wpList_neg rfl rfl rfl ?_; intro r hr0; have hr := hr0 _ (by first | with_reducible assumption | exact rfl); clear hr0) | (with_reducible refine at_list ?_; refine wpList_fop_g rfl rfl rfl rfl rfl ?_; intro r n hr0; have hr := hr0 _ _ (by first | with_reducible assumption | exact rfl) (by first | with_reducible assumption | exact rfl); clear hr0) | (with_reducible refine at_list ?_; refine wpList_wide_g rfl rfl Try.underlying33 Try.underlying37 rfl ?_; intro r n hr0; have hr := hr0 _ (by first | with_reducible assumption | exact rfl); clear hr0) | (with_reducible refine at_list ?_; refine wpList_wide rfl rfl rfl Try.underlying33 Try.underlying37 ?_; intro r n hr0; have hr := hr0 _ (by first | with_reducible assumption | exact rfl); clear hr0))
      go_ret
      exact ⟨_, rfl, HR2.out, m, rfl⟩
end Go.Proofs.Ythdmamcbceblpaa

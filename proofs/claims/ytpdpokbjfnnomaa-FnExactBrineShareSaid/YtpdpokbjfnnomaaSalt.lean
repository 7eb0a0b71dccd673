/-
  Where salty water freezes and which part is fluid (the program's and the reference's), each proved once. No condition but what each contract says.
-/
import Derived.Test.YtpdpokbjfnnomaaNum
set_option linter.unusedSimpArgs false
set_option linter.unusedVariables false
set_option linter.unusedSectionVars false
namespace Go.Proofs.Ytpdpokbjfnnomaa
open Go Go.RowKit
abbrev frz (c : Nat) : Nat := fneg .f32 (fop .mul .f32 (cn .f32 1029517083) c)
def frzF (c : Nat) : Nat := if slt c then frz c else cn .f32 0
theorem frzF_yes {c : Nat} (h : slt c = true) : frzF c = frz c := by simp [frzF, h]
theorem frzF_no {c : Nat} (h : slt c = false) : frzF c = cn .f32 0 := by simp [frzF, h]
set_option maxHeartbeats 400000 in
theorem freezePoint_any (x : Nat) (w : World) : Calls Try.prog 42 #[.float .f32 x] w (RF w .f32 (frz (cn .f32 x))) := by
  go_enter Try.func42, Try.ntmps42
  go_wp2_with (first | (with_reducible refine at_list ?_; refine wpList_fop rfl rfl rfl rfl rfl ?_; intro r n hr0; have hr := hr0 _ _ (by first | with_reducible assumption | exact rfl) (by first | with_reducible assumption | exact rfl); clear hr0) | (with_reducible refine at_list ?_; refine wpList_neg rfl rfl rfl ?_; intro r hr0; have hr := hr0 _ (by first | with_reducible assumption | exact rfl); clear hr0) | (with_reducible refine at_list ?_; refine wpList_wide rfl rfl rfl Try.underlying28 Try.underlying32 ?_; intro r n hr0; have hr := hr0 _ (by first | with_reducible assumption | exact rfl); clear hr0))
  go_ret
  exact ⟨_, rfl, by assumption, _, rfl⟩
set_option maxHeartbeats 400000 in
theorem FreezePoint_any (x : Nat) (w : World) : Calls Try.prog 17 #[.float .f32 x] w (RFB w .f32 (frzF (cn .f32 x)) (slt (cn .f32 x))) := by
  rcases h : slt (cn .f32 x)
  · go_enter Try.func17, Try.ntmps17
    go_wp2_with (first | (with_reducible refine at_list ?_; refine wpList_fop rfl rfl rfl rfl rfl ?_; intro r n hr0; have hr := hr0 _ _ (by first | with_reducible assumption | exact rfl) (by first | with_reducible assumption | exact rfl); clear hr0) | (with_reducible refine at_list ?_; refine wpList_neg rfl rfl rfl ?_; intro r hr0; have hr := hr0 _ (by first | with_reducible assumption | exact rfl); clear hr0) | (with_reducible refine at_list ?_; refine wpList_wide rfl rfl rfl Try.underlying28 Try.underlying32 ?_; intro r n hr0; have hr := hr0 _ (by first | with_reducible assumption | exact rfl); clear hr0) | (go_at_call 41; refine (isSalt_any _ _).mono ?_; rintro e w' ⟨rfl, n, rfl⟩) | (go_at_call 42; refine (freezePoint_any _ _).mono ?_; rintro e w' ⟨r, rfl, hr, n, rfl⟩))
    go_ret2
    exact ⟨_, rfl, (frzF_no h).symm, _, rfl⟩
  · go_enter Try.func17, Try.ntmps17
    go_wp2_with (first | (with_reducible refine at_list ?_; refine wpList_fop rfl rfl rfl rfl rfl ?_; intro r n hr0; have hr := hr0 _ _ (by first | with_reducible assumption | exact rfl) (by first | with_reducible assumption | exact rfl); clear hr0) | (with_reducible refine at_list ?_; refine wpList_neg rfl rfl rfl ?_; intro r hr0; have hr := hr0 _ (by first | with_reducible assumption | exact rfl); clear hr0) | (with_reducible refine at_list ?_; refine wpList_wide rfl rfl rfl Try.underlying28 Try.underlying32 ?_; intro r n hr0; have hr := hr0 _ (by first | with_reducible assumption | exact rfl); clear hr0) | (go_at_call 41; refine (isSalt_any _ _).mono ?_; rintro e w' ⟨rfl, n, rfl⟩) | (go_at_call 42; refine (freezePoint_any _ _).mono ?_; rintro e w' ⟨r, rfl, hr, n, rfl⟩))
    go_ret2
    exact ⟨_, rfl, by rw [frzF_yes h]; assumption, _, rfl⟩
set_option maxHeartbeats 400000 in
theorem specFreezePoint_any (x : Nat) (w : World) : Calls Try.prog 16 #[.float .f32 x] w (RFB w .f32 (frzF (cn .f32 x)) (slt (cn .f32 x))) := by
  rcases h : slt (cn .f32 x)
  · go_enter Try.func16, Try.ntmps16
    go_wp2_with (first | (with_reducible refine at_list ?_; refine wpList_fop rfl rfl rfl rfl rfl ?_; intro r n hr0; have hr := hr0 _ _ (by first | with_reducible assumption | exact rfl) (by first | with_reducible assumption | exact rfl); clear hr0) | (with_reducible refine at_list ?_; refine wpList_neg rfl rfl rfl ?_; intro r hr0; have hr := hr0 _ (by first | with_reducible assumption | exact rfl); clear hr0) | (with_reducible refine at_list ?_; refine wpList_wide rfl rfl rfl Try.underlying28 Try.underlying32 ?_; intro r n hr0; have hr := hr0 _ (by first | with_reducible assumption | exact rfl); clear hr0) | (go_at_call 40; refine (l03Salt_any _ _).mono ?_; rintro e w' ⟨rfl, n, rfl⟩))
    go_ret2
    exact ⟨_, rfl, (frzF_no h).symm, _, rfl⟩
  · go_enter Try.func16, Try.ntmps16
    go_wp2_with (first | (with_reducible refine at_list ?_; refine wpList_fop rfl rfl rfl rfl rfl ?_; intro r n hr0; have hr := hr0 _ _ (by first | with_reducible assumption | exact rfl) (by first | with_reducible assumption | exact rfl); clear hr0) | (with_reducible refine at_list ?_; refine wpList_neg rfl rfl rfl ?_; intro r hr0; have hr := hr0 _ (by first | with_reducible assumption | exact rfl); clear hr0) | (with_reducible refine at_list ?_; refine wpList_wide rfl rfl rfl Try.underlying28 Try.underlying32 ?_; intro r n hr0; have hr := hr0 _ (by first | with_reducible assumption | exact rfl); clear hr0) | (go_at_call 40; refine (l03Salt_any _ _).mono ?_; rintro e w' ⟨rfl, n, rfl⟩))
    go_ret2
    exact ⟨_, rfl, by rw [frzF_yes h]; assumption, _, rfl⟩
/-- Which part is fluid, and whether there is an answer. -/
def brnF (a c : Nat) : Nat := if slt c && fin .f32 a then (if fge .f32 a (frz c) then cn .f32 1065353216 else chk (fop .quo .f32 (frz c) a)) else cn .f32 0
def brnB (a c : Nat) : Bool := if slt c && fin .f32 a then (if fge .f32 a (frz c) then true else fin .f32 (fop .quo .f32 (frz c) a)) else false
set_option maxHeartbeats 1000000 in
theorem BrineShare_any (x y : Nat) (w : World) : Calls Try.prog 25 #[.float .f32 x, .float .f32 y] w (RFB w .f32 (brnF (cn .f32 x) (cn .f32 y)) (brnB (cn .f32 x) (cn .f32 y))) := by
  rcases h : slt (cn .f32 y)
  · have Hv : Hid (brnF (cn .f32 x) (cn .f32 y) = cn .f32 0 ∧ brnB (cn .f32 x) (cn .f32 y) = false) := by show _ ∧ _; simp [brnF, brnB, h]
    go_enter Try.func25, Try.ntmps25
    go_wp2_with (first | (with_reducible refine at_list ?_; refine wpList_fop rfl rfl rfl rfl rfl ?_; intro r n hr0; have hr := hr0 _ _ (by first | with_reducible assumption | exact rfl) (by first | with_reducible assumption | exact rfl); clear hr0) | (with_reducible refine at_list ?_; refine wpList_neg rfl rfl rfl ?_; intro r hr0; have hr := hr0 _ (by first | with_reducible assumption | exact rfl); clear hr0) | (with_reducible refine at_list ?_; refine wpList_wide rfl rfl rfl Try.underlying28 Try.underlying32 ?_; intro r n hr0; have hr := hr0 _ (by first | with_reducible assumption | exact rfl); clear hr0) | (go_at_call 41; refine (isSalt_any _ _).mono ?_; rintro e w' ⟨rfl, n, rfl⟩) | (go_at_call 45; refine (IsFinite_any _ _).mono ?_; rintro e w' ⟨rfl, n, rfl⟩) | (go_at_call 42; refine (freezePoint_any _ _).mono ?_; rintro e w' ⟨r, rfl, hr, n, rfl⟩) | (go_at_call 49; refine (checked_any _ _).mono ?_; rintro e w' ⟨r, rfl, hr, n, rfl⟩))
    go_ret2
    exact ⟨_, by rw [Hv.out.2]; rfl, by first | (rw [Hv.out.1]; done) | (rw [Hv.out.1]; simp only [*]), by first | exact ⟨_, rfl⟩ | exact ⟨0, rfl⟩⟩
  rcases h1 : fin .f32 (cn .f32 x)
  · have Hv : Hid (brnF (cn .f32 x) (cn .f32 y) = cn .f32 0 ∧ brnB (cn .f32 x) (cn .f32 y) = false) := by show _ ∧ _; simp [brnF, brnB, h1]
    go_enter Try.func25, Try.ntmps25
    go_wp2_with (first | (with_reducible refine at_list ?_; refine wpList_fop rfl rfl rfl rfl rfl ?_; intro r n hr0; have hr := hr0 _ _ (by first | with_reducible assumption | exact rfl) (by first | with_reducible assumption | exact rfl); clear hr0) | (with_reducible refine at_list ?_; refine wpList_neg rfl rfl rfl ?_; intro r hr0; have hr := hr0 _ (by first | with_reducible assumption | exact rfl); clear hr0) | (with_reducible refine at_list ?_; refine wpList_wide rfl rfl rfl Try.underlying28 Try.underlying32 ?_; intro r n hr0; have hr := hr0 _ (by first | with_reducible assumption | exact rfl); clear hr0) | (go_at_call 41; refine (isSalt_any _ _).mono ?_; rintro e w' ⟨rfl, n, rfl⟩) | (go_at_call 45; refine (IsFinite_any _ _).mono ?_; rintro e w' ⟨rfl, n, rfl⟩) | (go_at_call 42; refine (freezePoint_any _ _).mono ?_; rintro e w' ⟨r, rfl, hr, n, rfl⟩) | (go_at_call 49; refine (checked_any _ _).mono ?_; rintro e w' ⟨r, rfl, hr, n, rfl⟩))
    go_ret2
    exact ⟨_, by rw [Hv.out.2]; rfl, by first | (rw [Hv.out.1]; done) | (rw [Hv.out.1]; simp only [*]), by first | exact ⟨_, rfl⟩ | exact ⟨0, rfl⟩⟩
  rcases h2 : fge .f32 (cn .f32 x) (frz (cn .f32 y))
  · have Hv : Hid (brnF (cn .f32 x) (cn .f32 y) = chk (fop .quo .f32 (frz (cn .f32 y)) (cn .f32 x)) ∧ brnB (cn .f32 x) (cn .f32 y) = fin .f32 (fop .quo .f32 (frz (cn .f32 y)) (cn .f32 x))) := by show _ ∧ _; simp [brnF, brnB, h, h1, h2]
    go_enter Try.func25, Try.ntmps25
    go_wp2_with (first | (with_reducible refine at_list ?_; refine wpList_fop rfl rfl rfl rfl rfl ?_; intro r n hr0; have hr := hr0 _ _ (by first | with_reducible assumption | exact rfl) (by first | with_reducible assumption | exact rfl); clear hr0) | (with_reducible refine at_list ?_; refine wpList_neg rfl rfl rfl ?_; intro r hr0; have hr := hr0 _ (by first | with_reducible assumption | exact rfl); clear hr0) | (with_reducible refine at_list ?_; refine wpList_wide rfl rfl rfl Try.underlying28 Try.underlying32 ?_; intro r n hr0; have hr := hr0 _ (by first | with_reducible assumption | exact rfl); clear hr0) | (go_at_call 41; refine (isSalt_any _ _).mono ?_; rintro e w' ⟨rfl, n, rfl⟩) | (go_at_call 45; refine (IsFinite_any _ _).mono ?_; rintro e w' ⟨rfl, n, rfl⟩) | (go_at_call 42; refine (freezePoint_any _ _).mono ?_; rintro e w' ⟨r, rfl, hr, n, rfl⟩) | (go_at_call 49; refine (checked_any _ _).mono ?_; rintro e w' ⟨r, rfl, hr, n, rfl⟩))
    go_ret2
    exact ⟨_, by rw [Hv.out.2]; rfl, by first | (rw [Hv.out.1]; done) | (rw [Hv.out.1]; simp only [*]), by first | exact ⟨_, rfl⟩ | exact ⟨0, rfl⟩⟩
  · have Hv : Hid (brnF (cn .f32 x) (cn .f32 y) = cn .f32 1065353216 ∧ brnB (cn .f32 x) (cn .f32 y) = true) := by show _ ∧ _; simp [brnF, brnB, h, h1, h2]
    go_enter Try.func25, Try.ntmps25
    go_wp2_with (first | (with_reducible refine at_list ?_; refine wpList_fop rfl rfl rfl rfl rfl ?_; intro r n hr0; have hr := hr0 _ _ (by first | with_reducible assumption | exact rfl) (by first | with_reducible assumption | exact rfl); clear hr0) | (with_reducible refine at_list ?_; refine wpList_neg rfl rfl rfl ?_; intro r hr0; have hr := hr0 _ (by first | with_reducible assumption | exact rfl); clear hr0) | (with_reducible refine at_list ?_; refine wpList_wide rfl rfl rfl Try.underlying28 Try.underlying32 ?_; intro r n hr0; have hr := hr0 _ (by first | with_reducible assumption | exact rfl); clear hr0) | (go_at_call 41; refine (isSalt_any _ _).mono ?_; rintro e w' ⟨rfl, n, rfl⟩) | (go_at_call 45; refine (IsFinite_any _ _).mono ?_; rintro e w' ⟨rfl, n, rfl⟩) | (go_at_call 42; refine (freezePoint_any _ _).mono ?_; rintro e w' ⟨r, rfl, hr, n, rfl⟩) | (go_at_call 49; refine (checked_any _ _).mono ?_; rintro e w' ⟨r, rfl, hr, n, rfl⟩))
    go_ret2
    exact ⟨_, by rw [Hv.out.2]; rfl, by first | (rw [Hv.out.1]; done) | (rw [Hv.out.1]; simp only [*]), by first | exact ⟨_, rfl⟩ | exact ⟨0, rfl⟩⟩
set_option maxHeartbeats 1000000 in
theorem specBrineShare_any (x y : Nat) (w : World) : Calls Try.prog 24 #[.float .f32 x, .float .f32 y] w (RFB w .f32 (brnF (cn .f32 x) (cn .f32 y)) (brnB (cn .f32 x) (cn .f32 y))) := by
  rcases h : slt (cn .f32 y)
  · have Hv : Hid (brnF (cn .f32 x) (cn .f32 y) = cn .f32 0 ∧ brnB (cn .f32 x) (cn .f32 y) = false) := by show _ ∧ _; simp [brnF, brnB, h]
    go_enter Try.func24, Try.ntmps24
    go_wp2_with (first | (with_reducible refine at_list ?_; refine wpList_fop rfl rfl rfl rfl rfl ?_; intro r n hr0; have hr := hr0 _ _ (by first | with_reducible assumption | exact rfl) (by first | with_reducible assumption | exact rfl); clear hr0) | (with_reducible refine at_list ?_; refine wpList_neg rfl rfl rfl ?_; intro r hr0; have hr := hr0 _ (by first | with_reducible assumption | exact rfl); clear hr0) | (with_reducible refine at_list ?_; refine wpList_wide rfl rfl rfl Try.underlying28 Try.underlying32 ?_; intro r n hr0; have hr := hr0 _ (by first | with_reducible assumption | exact rfl); clear hr0) | (go_at_call 40; refine (l03Salt_any _ _).mono ?_; rintro e w' ⟨rfl, n, rfl⟩) | (go_at_call 47; refine (l01Finite_any _ _).mono ?_; rintro e w' ⟨rfl, n, rfl⟩) | (go_at_call 48; refine (l02Number_any _ _).mono ?_; rintro e w' ⟨r, rfl, hr, n, rfl⟩))
    go_ret2
    exact ⟨_, by rw [Hv.out.2]; rfl, by first | (rw [Hv.out.1]; done) | (rw [Hv.out.1]; simp only [*]), by first | exact ⟨_, rfl⟩ | exact ⟨0, rfl⟩⟩
  rcases h1 : fin .f32 (cn .f32 x)
  · have Hv : Hid (brnF (cn .f32 x) (cn .f32 y) = cn .f32 0 ∧ brnB (cn .f32 x) (cn .f32 y) = false) := by show _ ∧ _; simp [brnF, brnB, h1]
    go_enter Try.func24, Try.ntmps24
    go_wp2_with (first | (with_reducible refine at_list ?_; refine wpList_fop rfl rfl rfl rfl rfl ?_; intro r n hr0; have hr := hr0 _ _ (by first | with_reducible assumption | exact rfl) (by first | with_reducible assumption | exact rfl); clear hr0) | (with_reducible refine at_list ?_; refine wpList_neg rfl rfl rfl ?_; intro r hr0; have hr := hr0 _ (by first | with_reducible assumption | exact rfl); clear hr0) | (with_reducible refine at_list ?_; refine wpList_wide rfl rfl rfl Try.underlying28 Try.underlying32 ?_; intro r n hr0; have hr := hr0 _ (by first | with_reducible assumption | exact rfl); clear hr0) | (go_at_call 40; refine (l03Salt_any _ _).mono ?_; rintro e w' ⟨rfl, n, rfl⟩) | (go_at_call 47; refine (l01Finite_any _ _).mono ?_; rintro e w' ⟨rfl, n, rfl⟩) | (go_at_call 48; refine (l02Number_any _ _).mono ?_; rintro e w' ⟨r, rfl, hr, n, rfl⟩))
    go_ret2
    exact ⟨_, by rw [Hv.out.2]; rfl, by first | (rw [Hv.out.1]; done) | (rw [Hv.out.1]; simp only [*]), by first | exact ⟨_, rfl⟩ | exact ⟨0, rfl⟩⟩
  rcases h2 : fge .f32 (cn .f32 x) (frz (cn .f32 y))
  · have Hv : Hid (brnF (cn .f32 x) (cn .f32 y) = chk (fop .quo .f32 (frz (cn .f32 y)) (cn .f32 x)) ∧ brnB (cn .f32 x) (cn .f32 y) = fin .f32 (fop .quo .f32 (frz (cn .f32 y)) (cn .f32 x))) := by show _ ∧ _; simp [brnF, brnB, h, h1, h2]
    go_enter Try.func24, Try.ntmps24
    go_wp2_with (first | (with_reducible refine at_list ?_; refine wpList_fop rfl rfl rfl rfl rfl ?_; intro r n hr0; have hr := hr0 _ _ (by first | with_reducible assumption | exact rfl) (by first | with_reducible assumption | exact rfl); clear hr0) | (with_reducible refine at_list ?_; refine wpList_neg rfl rfl rfl ?_; intro r hr0; have hr := hr0 _ (by first | with_reducible assumption | exact rfl); clear hr0) | (with_reducible refine at_list ?_; refine wpList_wide rfl rfl rfl Try.underlying28 Try.underlying32 ?_; intro r n hr0; have hr := hr0 _ (by first | with_reducible assumption | exact rfl); clear hr0) | (go_at_call 40; refine (l03Salt_any _ _).mono ?_; rintro e w' ⟨rfl, n, rfl⟩) | (go_at_call 47; refine (l01Finite_any _ _).mono ?_; rintro e w' ⟨rfl, n, rfl⟩) | (go_at_call 48; refine (l02Number_any _ _).mono ?_; rintro e w' ⟨r, rfl, hr, n, rfl⟩))
    go_ret2
    exact ⟨_, by rw [Hv.out.2]; rfl, by first | (rw [Hv.out.1]; done) | (rw [Hv.out.1]; simp only [*]), by first | exact ⟨_, rfl⟩ | exact ⟨0, rfl⟩⟩
  · have Hv : Hid (brnF (cn .f32 x) (cn .f32 y) = cn .f32 1065353216 ∧ brnB (cn .f32 x) (cn .f32 y) = true) := by show _ ∧ _; simp [brnF, brnB, h, h1, h2]
    go_enter Try.func24, Try.ntmps24
    go_wp2_with (first | (with_reducible refine at_list ?_; refine wpList_fop rfl rfl rfl rfl rfl ?_; intro r n hr0; have hr := hr0 _ _ (by first | with_reducible assumption | exact rfl) (by first | with_reducible assumption | exact rfl); clear hr0) | (with_reducible refine at_list ?_; refine wpList_neg rfl rfl rfl ?_; intro r hr0; have hr := hr0 _ (by first | with_reducible assumption | exact rfl); clear hr0) | (with_reducible refine at_list ?_; refine wpList_wide rfl rfl rfl Try.underlying28 Try.underlying32 ?_; intro r n hr0; have hr := hr0 _ (by first | with_reducible assumption | exact rfl); clear hr0) | (go_at_call 40; refine (l03Salt_any _ _).mono ?_; rintro e w' ⟨rfl, n, rfl⟩) | (go_at_call 47; refine (l01Finite_any _ _).mono ?_; rintro e w' ⟨rfl, n, rfl⟩) | (go_at_call 48; refine (l02Number_any _ _).mono ?_; rintro e w' ⟨r, rfl, hr, n, rfl⟩))
    go_ret2
    exact ⟨_, by rw [Hv.out.2]; rfl, by first | (rw [Hv.out.1]; done) | (rw [Hv.out.1]; simp only [*]), by first | exact ⟨_, rfl⟩ | exact ⟨0, rfl⟩⟩
end Go.Proofs.Ytpdpokbjfnnomaa

/-
  slices.Grow at no slice, and slices.Concat of two slices of numbers. No condition but what each contract says.
-/
import Derived.Test.YtgkcfeaknehopaaApl
import Derived.Lib.AppendZeros
set_option linter.unusedSimpArgs false
set_option linter.unusedVariables false
set_option linter.unusedSectionVars false
namespace Go.Proofs.Ytgkcfeaknehopaa
open Go Go.RowKit
open Go.ChangeShapes Go.WideShapes Go.ChangeAt Go.RowKit Go.Joins
set_option maxHeartbeats 2000000 in
set_option maxRecDepth 100000 in
theorem growF_any (n : Nat) (w : World) (hn : 1 ≤ n ∧ n ≤ 1048576) : Calls Try.prog 110 #[.slice none 0 0, .int .i64 (n : Int)] w (fun e w' => ∃ c, e = .returned (.slice (some ⟨w.heap.size, 0, none⟩) 0 c) ∧ Below w.heap.size w w' ∧ OF w.heap.size w' (.slice (some ⟨w.heap.size, 0, none⟩) 0 c) [] ∧ w.heap.size + 1 ≤ w'.heap.size) := by
  obtain ⟨h1, h2⟩ := hn
  have hi1 : ¬ (n : Int) < 0 := by omega
  have hi2 : (0 : Int) < (n : Int) := by omega
  have hw1 : IntKind.i64.wrap (n : Int) = (n : Int) := IntWalk.i64_in _ (by omega)
  obtain ⟨i0, hi, hz0, hz1, hz2⟩ := info_parts Try.infoF32
  have hr := Lib.run_append_nil_zeros (P := Try.prog) w 22 3 22 25 i0 (.float .f32 0) .i64 .i64 Try.underlying22 (by kernel_rfl) hi hz0 n (by omega) (by omega) (by omega) (by rw [hz2]; omega)
  have hge := grownCap_ge w n 0 25
  have hcm : grownCap w n 0 25 ≤ maxLen := grownCap_le_maxLen w n 0 25 (by unfold maxLen; omega)
  have HO : Hid (OF w.heap.size (w.drew.alloc (.cells (Builtin.zeroCells (Value.float .f32 0).cells n ++ Builtin.zeroCells (Value.float .f32 0).cells (grownCap w n 0 25 - n)) 25)) (.slice (some ⟨w.heap.size, 0, none⟩) 0 (grownCap w n 0 25)) []) := by
    show World.ownsRow _ _ _ _ _ _ _
    refine ⟨by simp, .inr ⟨w.heap.size, _, _, rfl, Nat.le_refl _, heap_alloc_new w.drew _, Nat.zero_le _, hcm, ?_, by simp⟩⟩
    simp only [Array.size_append, size_zeroCells]
    show n * 1 + (grownCap w n 0 25 - n) * 1 = _
    omega
  have HR := Lib.hid hr
  have HB : Hid (Below w.heap.size w (w.drew.alloc (.cells (Builtin.zeroCells (Value.float .f32 0).cells n ++ Builtin.zeroCells (Value.float .f32 0).cells (grownCap w n 0 25 - n)) 25))) := ((Below.refl _ w).drew).alloc (Nat.le_refl _) _
  have HZ : Hid (w.heap.size + 1 ≤ (w.drew.alloc (.cells (Builtin.zeroCells (Value.float .f32 0).cells n ++ Builtin.zeroCells (Value.float .f32 0).cells (grownCap w n 0 25 - n)) 25)).heap.size) := by show _ ≤ _; simp
  clear hr hge hcm
  go_enter Try.func110, Try.ntmps110
  go_wp2_with (first | (with_reducible refine at_list ?_; refine wpList_fop rfl rfl rfl rfl rfl ?_; intro r n hr0; have hr := hr0 _ _ (by first | with_reducible assumption | exact rfl) (by first | with_reducible assumption | exact rfl); clear hr0) | (with_reducible refine at_list ?_; refine wpList_neg rfl rfl rfl ?_; intro r hr0; have hr := hr0 _ (by first | with_reducible assumption | exact rfl); clear hr0) | (with_reducible refine at_list ?_; refine wpList_fop_g rfl rfl rfl rfl rfl ?_; intro r n hr0; have hr := hr0 _ _ (by first | with_reducible assumption | exact rfl) (by first | with_reducible assumption | exact rfl); clear hr0) | (with_reducible refine at_list ?_; refine wpList_wide_g rfl rfl Try.underlying25 Try.underlying32 rfl ?_; intro r n hr0; have hr := hr0 _ (by first | with_reducible assumption | exact rfl); clear hr0) | (with_reducible refine at_list ?_; refine wpList_wide rfl rfl rfl Try.underlying25 Try.underlying32 ?_; intro r n hr0; have hr := hr0 _ (by first | with_reducible assumption | exact rfl); clear hr0) | (at_builtin; refine stop_here ?_))
  unfold Stop
  refine Lib.wpList_append_run w rfl _ _ 22 3 rfl (.slice none 0 0) (.int .i64 (n : Int)) (by first | rfl | (go_simp <;> rfl)) (by first | rfl | (go_simp <;> rfl)) _ _ HR.out ?_
  generalize grownCap w n 0 25 = cap at HO HR HB HZ ⊢
  generalize (w.drew.alloc (.cells (Builtin.zeroCells (Value.float .f32 0).cells n ++ Builtin.zeroCells (Value.float .f32 0).cells (cap - n)) 25)) = w2 at HO HB HZ ⊢
  clear HR
  go_wp2
  go_ret
  exact ⟨cap, rfl, HB.out, HO.out, HZ.out⟩
def preC (xs ys : List Nat) : Nat → List Nat | 0 => [] | 1 => xs | _ => xs ++ ys
set_option maxHeartbeats 2000000 in
set_option maxRecDepth 100000 in
theorem concatF_any (xs1 xs2 : List Nat) (v1 v2 : Value) (g : Nat) (w : World) (h1 : FS w v1 xs1) (h2 : FS w v2 xs2) (hn : (1 ≤ xs1.length ∧ xs1.length ≤ 48) ∧ 1 ≤ xs2.length ∧ xs2.length ≤ 48) (e0 : w.cell? ⟨g, 0, none⟩ = some v1) (e1 : w.cell? ⟨g, 1, none⟩ = some v2) : Calls Try.prog 62 #[.slice (some ⟨g, 0, none⟩) 2 2] w (fun e w' => ∃ u, e = .returned u ∧ Below w.heap.size w w' ∧ OF w.heap.size w' u (xs1 ++ xs2)) := by
  obtain ⟨⟨n1, n2⟩, n3, n4⟩ := hn
  obtain ⟨b1, o1, c1, rfl, ⟨hc1, hc1'⟩, HV1⟩ := h1.ptr n1
  obtain ⟨b2, o2, c2, rfl, ⟨hc2, hc2'⟩, HV2⟩ := h2.ptr n3
  have HE0 := Lib.hid e0
  have HE1 := Lib.hid e1
  clear h1 h2
  have hw1 : IntKind.i64.wrap (xs1.length : Int) = (xs1.length : Int) := IntWalk.i64_in _ (by omega)
  have hw2 : IntKind.i64.wrap ((xs1.length : Int) + (xs2.length : Int)) = (xs1.length : Int) + (xs2.length : Int) := IntWalk.i64_in _ (by omega)
  have hp1 : ¬ (xs1.length : Int) < 0 := by omega
  have hp2 : ¬ (xs1.length : Int) + (xs2.length : Int) < 0 := by omega
  have HGR := Lib.hid (fun w' => growF_any (xs1.length + xs2.length) w' (by omega))
  simp only [Int.natCast_add] at HGR
  go_enter Try.func62, Try.ntmps62
  go_wp2_with (first | (with_reducible refine at_list ?_; refine wpList_fop rfl rfl rfl rfl rfl ?_; intro r n hr0; have hr := hr0 _ _ (by first | with_reducible assumption | exact rfl) (by first | with_reducible assumption | exact rfl); clear hr0) | (with_reducible refine at_list ?_; refine wpList_neg rfl rfl rfl ?_; intro r hr0; have hr := hr0 _ (by first | with_reducible assumption | exact rfl); clear hr0) | (with_reducible refine at_list ?_; refine wpList_fop_g rfl rfl rfl rfl rfl ?_; intro r n hr0; have hr := hr0 _ _ (by first | with_reducible assumption | exact rfl) (by first | with_reducible assumption | exact rfl); clear hr0) | (with_reducible refine at_list ?_; refine wpList_wide_g rfl rfl Try.underlying25 Try.underlying32 rfl ?_; intro r n hr0; have hr := hr0 _ (by first | with_reducible assumption | exact rfl); clear hr0) | (with_reducible refine at_list ?_; refine wpList_wide rfl rfl rfl Try.underlying25 Try.underlying32 ?_; intro r n hr0; have hr := hr0 _ (by first | with_reducible assumption | exact rfl); clear hr0))
  go_loopw [3, 11] (fun s t wr => ∃ k : Nat, k ≤ 2 ∧ t = .int .i64 (k : Int) ∧ s = .int .i64 ((preC xs1 xs2 k).length : Int) ∧ wr = w) (fun _ t _ => 2 - (intOf t).toNat)
  case atStart => exact ⟨0, by omega, rfl, rfl, rfl⟩
  case round =>
    obtain ⟨k, hk, rfl, rfl, hww⟩ := hrel
    subst hww
    match k, hk with
    | 0, _ =>
      simp only [preC, List.length_nil]
      clear e1
      go_wp2_with (first | (with_reducible refine at_list ?_; refine wpList_fop rfl rfl rfl rfl rfl ?_; intro r n hr0; have hr := hr0 _ _ (by first | with_reducible assumption | exact rfl) (by first | with_reducible assumption | exact rfl); clear hr0) | (with_reducible refine at_list ?_; refine wpList_neg rfl rfl rfl ?_; intro r hr0; have hr := hr0 _ (by first | with_reducible assumption | exact rfl); clear hr0) | (with_reducible refine at_list ?_; refine wpList_fop_g rfl rfl rfl rfl rfl ?_; intro r n hr0; have hr := hr0 _ _ (by first | with_reducible assumption | exact rfl) (by first | with_reducible assumption | exact rfl); clear hr0) | (with_reducible refine at_list ?_; refine wpList_wide_g rfl rfl Try.underlying25 Try.underlying32 rfl ?_; intro r n hr0; have hr := hr0 _ (by first | with_reducible assumption | exact rfl); clear hr0) | (with_reducible refine at_list ?_; refine wpList_wide rfl rfl rfl Try.underlying25 Try.underlying32 ?_; intro r n hr0; have hr := hr0 _ (by first | with_reducible assumption | exact rfl); clear hr0))
      go_roundw
      case rel => exact ⟨1, by omega, by go_num, by simp [preC], by first | rfl | trivial⟩
      case measure => simp [intOf]
    | 1, _ =>
      simp only [preC]
      clear e0
      go_wp2_with (first | (with_reducible refine at_list ?_; refine wpList_fop rfl rfl rfl rfl rfl ?_; intro r n hr0; have hr := hr0 _ _ (by first | with_reducible assumption | exact rfl) (by first | with_reducible assumption | exact rfl); clear hr0) | (with_reducible refine at_list ?_; refine wpList_neg rfl rfl rfl ?_; intro r hr0; have hr := hr0 _ (by first | with_reducible assumption | exact rfl); clear hr0) | (with_reducible refine at_list ?_; refine wpList_fop_g rfl rfl rfl rfl rfl ?_; intro r n hr0; have hr := hr0 _ _ (by first | with_reducible assumption | exact rfl) (by first | with_reducible assumption | exact rfl); clear hr0) | (with_reducible refine at_list ?_; refine wpList_wide_g rfl rfl Try.underlying25 Try.underlying32 rfl ?_; intro r n hr0; have hr := hr0 _ (by first | with_reducible assumption | exact rfl); clear hr0) | (with_reducible refine at_list ?_; refine wpList_wide rfl rfl rfl Try.underlying25 Try.underlying32 ?_; intro r n hr0; have hr := hr0 _ (by first | with_reducible assumption | exact rfl); clear hr0))
      go_roundw
      case rel => exact ⟨2, by omega, by go_num, by simp [preC], by first | rfl | trivial⟩
      case measure => simp [intOf]
    | 2, _ =>
      simp only [preC, List.length_append, Int.natCast_add]
      clear e0 e1
      go_wp2_with (first | (with_reducible refine at_list ?_; refine wpList_fop rfl rfl rfl rfl rfl ?_; intro r n hr0; have hr := hr0 _ _ (by first | with_reducible assumption | exact rfl) (by first | with_reducible assumption | exact rfl); clear hr0) | (with_reducible refine at_list ?_; refine wpList_neg rfl rfl rfl ?_; intro r hr0; have hr := hr0 _ (by first | with_reducible assumption | exact rfl); clear hr0) | (with_reducible refine at_list ?_; refine wpList_fop_g rfl rfl rfl rfl rfl ?_; intro r n hr0; have hr := hr0 _ _ (by first | with_reducible assumption | exact rfl) (by first | with_reducible assumption | exact rfl); clear hr0) | (with_reducible refine at_list ?_; refine wpList_wide_g rfl rfl Try.underlying25 Try.underlying32 rfl ?_; intro r n hr0; have hr := hr0 _ (by first | with_reducible assumption | exact rfl); clear hr0) | (with_reducible refine at_list ?_; refine wpList_wide rfl rfl rfl Try.underlying25 Try.underlying32 ?_; intro r n hr0; have hr := hr0 _ (by first | with_reducible assumption | exact rfl); clear hr0) | (go_at_call 110; refine (HGR.out _).mono ?_; rintro e w' ⟨cc, rfl, hb, hO, hsz⟩))
      have HB0 := Lib.hid hb
      have HO0 := Lib.hid hO
      have HZ0 := Lib.hid hsz
      clear hb hO hsz
      go_loopw [6, 27] (fun u t wi => ∃ (k c : Nat) (q : Option Addr) (ys : List Nat), k ≤ 2 ∧ t = .int .i64 (k : Int) ∧ u = .slice q ys.length c ∧ Hid (ys = preC xs1 xs2 k) ∧ Hid (OF wr.heap.size wi (.slice q ys.length c) ys) ∧ Below wr.heap.size wr wi) (fun _ t _ => 2 - (intOf t).toNat)
      case atStart => exact ⟨0, cc, some ⟨wr.heap.size, 0, none⟩, [], by omega, rfl, rfl, rfl, HO0.out, HB0.out⟩
      case round =>
        rename World => wi
        obtain ⟨k, c, q, ys, hk, rfl, rfl, HYS, HOF, hB⟩ := hrel
        have e0 := cell_later hB HE0.out
        have e1 := cell_later hB HE1.out
        have hzi := hB.size
        match k, hk with
        | 0, _ =>
          have hyl : ys.length ≤ 96 := by rw [HYS.out]; show (0 : Nat) ≤ 96; omega
          clear e1
          go_wp2_with (first | (with_reducible refine at_list ?_; refine wpList_fop rfl rfl rfl rfl rfl ?_; intro r n hr0; have hr := hr0 _ _ (by first | with_reducible assumption | exact rfl) (by first | with_reducible assumption | exact rfl); clear hr0) | (with_reducible refine at_list ?_; refine wpList_neg rfl rfl rfl ?_; intro r hr0; have hr := hr0 _ (by first | with_reducible assumption | exact rfl); clear hr0) | (with_reducible refine at_list ?_; refine wpList_fop_g rfl rfl rfl rfl rfl ?_; intro r n hr0; have hr := hr0 _ _ (by first | with_reducible assumption | exact rfl) (by first | with_reducible assumption | exact rfl); clear hr0) | (with_reducible refine at_list ?_; refine wpList_wide_g rfl rfl Try.underlying25 Try.underlying32 rfl ?_; intro r n hr0; have hr := hr0 _ (by first | with_reducible assumption | exact rfl); clear hr0) | (with_reducible refine at_list ?_; refine wpList_wide rfl rfl rfl Try.underlying25 Try.underlying32 ?_; intro r n hr0; have hr := hr0 _ (by first | with_reducible assumption | exact rfl); clear hr0) | (at_builtin; refine stop_here ?_))
          unfold Stop
          apply wpList_appL (B := wr.heap.size) (xs := ys) (zs := xs1) (v := .slice q ys.length c)
          case hg => rfl
          case ho => rfl
          case hs => rfl
          case hx => rfl
          case hO => exact HOF.out
          case hc => intro i hi; exact cell_later hB (HV1.out i hi)
          case hn => omega
          case hB => exact hzi
          intro q5 c5 w5 hO5 hB5
          have HB5 : Hid (Below wr.heap.size wr w5) := hB.trans hB5
          have HO5 := Lib.hid hO5
          clear hB5 hO5
          go_wp2
          go_roundw
          case rel => exact ⟨1, c5, q5, ys ++ xs1, by omega, by go_num, by simp, by show _ = _; rw [HYS.out]; rfl, by show OF _ _ _ _; have := HO5.out; simpa using this, HB5.out⟩
          case measure => simp [intOf]
        | 1, _ =>
          have hyl : ys.length ≤ 96 := by rw [HYS.out]; show xs1.length ≤ 96; omega
          clear e0
          go_wp2_with (first | (with_reducible refine at_list ?_; refine wpList_fop rfl rfl rfl rfl rfl ?_; intro r n hr0; have hr := hr0 _ _ (by first | with_reducible assumption | exact rfl) (by first | with_reducible assumption | exact rfl); clear hr0) | (with_reducible refine at_list ?_; refine wpList_neg rfl rfl rfl ?_; intro r hr0; have hr := hr0 _ (by first | with_reducible assumption | exact rfl); clear hr0) | (with_reducible refine at_list ?_; refine wpList_fop_g rfl rfl rfl rfl rfl ?_; intro r n hr0; have hr := hr0 _ _ (by first | with_reducible assumption | exact rfl) (by first | with_reducible assumption | exact rfl); clear hr0) | (with_reducible refine at_list ?_; refine wpList_wide_g rfl rfl Try.underlying25 Try.underlying32 rfl ?_; intro r n hr0; have hr := hr0 _ (by first | with_reducible assumption | exact rfl); clear hr0) | (with_reducible refine at_list ?_; refine wpList_wide rfl rfl rfl Try.underlying25 Try.underlying32 ?_; intro r n hr0; have hr := hr0 _ (by first | with_reducible assumption | exact rfl); clear hr0) | (at_builtin; refine stop_here ?_))
          unfold Stop
          apply wpList_appL (B := wr.heap.size) (xs := ys) (zs := xs2) (v := .slice q ys.length c)
          case hg => rfl
          case ho => rfl
          case hs => rfl
          case hx => rfl
          case hO => exact HOF.out
          case hc => intro i hi; exact cell_later hB (HV2.out i hi)
          case hn => omega
          case hB => exact hzi
          intro q5 c5 w5 hO5 hB5
          have HB5 : Hid (Below wr.heap.size wr w5) := hB.trans hB5
          have HO5 := Lib.hid hO5
          clear hB5 hO5
          go_wp2
          go_roundw
          case rel => exact ⟨2, c5, q5, ys ++ xs2, by omega, by go_num, by simp, by show _ = _; rw [HYS.out]; rfl, by show OF _ _ _ _; have := HO5.out; simpa using this, HB5.out⟩
          case measure => simp [intOf]
        | 2, _ =>
          have HYE : Hid (ys = xs1 ++ xs2) := HYS.out
          clear HYS e0 e1
          go_wp2_with (first | (with_reducible refine at_list ?_; refine wpList_fop rfl rfl rfl rfl rfl ?_; intro r n hr0; have hr := hr0 _ _ (by first | with_reducible assumption | exact rfl) (by first | with_reducible assumption | exact rfl); clear hr0) | (with_reducible refine at_list ?_; refine wpList_neg rfl rfl rfl ?_; intro r hr0; have hr := hr0 _ (by first | with_reducible assumption | exact rfl); clear hr0) | (with_reducible refine at_list ?_; refine wpList_fop_g rfl rfl rfl rfl rfl ?_; intro r n hr0; have hr := hr0 _ _ (by first | with_reducible assumption | exact rfl) (by first | with_reducible assumption | exact rfl); clear hr0) | (with_reducible refine at_list ?_; refine wpList_wide_g rfl rfl Try.underlying25 Try.underlying32 rfl ?_; intro r n hr0; have hr := hr0 _ (by first | with_reducible assumption | exact rfl); clear hr0) | (with_reducible refine at_list ?_; refine wpList_wide rfl rfl rfl Try.underlying25 Try.underlying32 ?_; intro r n hr0; have hr := hr0 _ (by first | with_reducible assumption | exact rfl); clear hr0))
          go_ret
          exact ⟨_, rfl, hB, by rw [← HYE.out]; exact HOF.out⟩
end Go.Proofs.Ytgkcfeaknehopaa

/-
  Rows of equations: what the program's solver makes of them. No condition but what each contract says.
-/
import Derived.Test.YtgkcfeaknehopaaPrOkR
import Derived.Test.YtgkcfeaknehopaaPrOwn
set_option linter.unusedSimpArgs false
set_option linter.unusedVariables false
set_option linter.unusedSectionVars false
namespace Go.Proofs.Ytgkcfeaknehopaa
open Go Go.RowKit
open Go.ChangeShapes Go.WideShapes Go.ChangeAt Go.RowKit Go.Joins
/-- Rows of equations, solved: each row without the number at the cell before; its right side; the answers from the last one on. -/
def elA (b a x : Nat → Nat) : Nat → Nat
  | 0 => a 0
  | i + 1 => fop .sub .f32 (a (i + 1)) (fop .mul .f32 (fop .quo .f32 (b (i + 1)) (elA b a x i)) (x i))
def elS (b a x s : Nat → Nat) : Nat → Nat
  | 0 => s 0
  | i + 1 => fop .sub .f32 (s (i + 1)) (fop .mul .f32 (fop .quo .f32 (b (i + 1)) (elA b a x i)) (elS b a x s i))
def bkO (b a x s : Nat → Nat) (n : Nat) : Nat → Nat
  | 0 => fop .quo .f32 (elS b a x s (n - 1)) (elA b a x (n - 1))
  | k + 1 => fop .quo .f32 (fop .sub .f32 (elS b a x s (n - 1 - (k + 1))) (fop .mul .f32 (x (n - 1 - (k + 1))) (bkO b a x s n k))) (elA b a x (n - 1 - (k + 1)))
def solO (b a x s : Nat → Nat) (n i : Nat) : Nat := bkO b a x s n (n - 1 - i)
def solL (b a x s : Nat → Nat) (n : Nat) : List Nat := (List.range n).map (solO b a x s n)
theorem solL_len (b a x s : Nat → Nat) (n : Nat) : (solL b a x s n).length = n := by simp [solL]
theorem cn_bkO (b a x s : Nat → Nat) (n : Nat) : ∀ k, cn .f32 (bkO b a x s n k) = bkO b a x s n k | 0 => cn_fop _ _ _ _ | _ + 1 => cn_fop _ _ _ _
theorem solL_cn (b a x s : Nat → Nat) (n : Nat) : (solL b a x s n).map (cn .f32) = solL b a x s n := by
  unfold solL
  rw [List.map_map]
  exact List.map_congr_left fun i _ => cn_bkO _ _ _ _ _ _
theorem solO_last (b a x s : Nat → Nat) (n : Nat) {i : Nat} (h : i + 1 = n) : solO b a x s n i = fop .quo .f32 (elS b a x s i) (elA b a x i) := by
  subst h
  show bkO b a x s (i + 1) (i + 1 - 1 - i) = _
  rw [show i + 1 - 1 - i = 0 by omega]
  rfl
theorem solO_next (b a x s : Nat → Nat) (n : Nat) {i : Nat} (h : i + 1 < n) : solO b a x s n i = fop .quo .f32 (fop .sub .f32 (elS b a x s i) (fop .mul .f32 (x i) (solO b a x s n (i + 1)))) (elA b a x i) := by
  show bkO b a x s n (n - 1 - i) = fop .quo .f32 (fop .sub .f32 _ (fop .mul .f32 _ (bkO b a x s n (n - 1 - (i + 1))))) _
  rw [show n - 1 - i = (n - 1 - (i + 1)) + 1 by omega]
  show fop .quo .f32 (fop .sub .f32 (elS b a x s (n - 1 - (n - 1 - (i + 1) + 1))) (fop .mul .f32 (x (n - 1 - (n - 1 - (i + 1) + 1))) _)) _ = _
  rw [show n - 1 - (n - 1 - (i + 1) + 1) = i by omega]
theorem solL_of {b a x s : Nat → Nat} {n : Nat} {ys : List Nat} (hl : ys.length = n) (h : ∀ j, j < n → cn .f32 (ys.getD j 0) = solO b a x s n j) : ys.map (cn .f32) = solL b a x s n := by
  apply List.ext_getElem (by simp [solL, hl])
  intro j h1 h2
  have hj : j < n := by simpa [hl] using h1
  have := h j hj
  rw [List.getD_eq_getElem?_getD, List.getElem?_eq_getElem (by omega)] at this
  simpa [solL] using this
theorem getL_set_ne {xs : List Nat} {k j r : Nat} (h : j ≠ k) : (xs.set k r).getD j 0 = xs.getD j 0 := by
  rw [List.getD_eq_getElem?_getD, List.getD_eq_getElem?_getD, List.getElem?_set_ne (Ne.symm h)]
theorem getL_set_eq {xs : List Nat} {k r : Nat} (h : k < xs.length) : (xs.set k r).getD k 0 = r := by
  rw [List.getD_eq_getElem?_getD, List.getElem?_set_self h]; rfl
set_option maxRecDepth 100000 in
theorem Try.infoRow : (Try.prog.info? 92).map (fun i => (i.zero, i.size, i.bytes)) = some (some (.agg #[.float .f32 0, .float .f32 0, .float .f32 0, .float .f32 0]), 4, 16) := by kernel_rfl
/-- Rows of equations that the call has made: four numbers each. -/
def RW (B : Nat) (w : World) (u : Value) (n : Nat) (zs : List Nat) : Prop := w.ownsRow B 92 4 u n (zs.map (Value.float .f32))
theorem RW.len {B n : Nat} {w : World} {u : Value} {zs : List Nat} (h : RW B w u n zs) : zs.length = n * 4 := by have := h.1; simpa using this
theorem RW.cell {B n g c : Nat} {w : World} {zs : List Nat} (h : RW B w (.slice (some ⟨g, 0, none⟩) n c) n zs) {j : Nat} (hj : j < n * 4) : w.cell? ⟨g, j, none⟩ = some (.float .f32 (zs.getD j 0)) ∧ w.frozen? ⟨g, j, none⟩ = false := by
  refine ⟨?_, World.ownsRow.frozenAt h j⟩
  rw [World.ownsRow.cellAt h j hj]
  have := h.len
  rw [List.getElem?_map, List.getD_eq_getElem?_getD, List.getElem?_eq_getElem (by omega)]
  rfl
theorem RW.stored {B n g c : Nat} {w : World} {zs : List Nat} (h : RW B w (.slice (some ⟨g, 0, none⟩) n c) n zs) (j r : Nat) : RW B (w.setCell ⟨g, j, none⟩ (.float .f32 r)) (.slice (some ⟨g, 0, none⟩) n c) n (zs.set j r) ∧ w.grownBy (w.setCell ⟨g, j, none⟩ (.float .f32 r)) (some g) := by
  obtain ⟨h1, h2⟩ := World.ownsRow.stored h j (.float .f32 r)
  refine ⟨?_, h2⟩
  unfold RW
  rw [List.map_set]
  exact h1
theorem RW.later {B n : Nat} {w w' : World} {u : Value} {zs : List Nat} (h : RW B w u n zs) (hb : Below w.heap.size w w') : RW B w' u n zs := by
  cases hu : u.ownBlock with
  | none => exact World.ownsRow.kept h (below_grown hb none) (.inl hu)
  | some k => exact World.ownsRow.kept h (below_grown hb none) (.inr (by rw [hu]; simp))
/-- How far the rows are solved. -/
def elQ (b a x s : Nat → Nat) (n i : Nat) (zs : List Nat) : Prop := ∀ j, j < n → cn .f32 (zs.getD (j * 4) 0) = b j ∧ cn .f32 (zs.getD (j * 4 + 1) 0) = (if j < i then elA b a x j else a j) ∧ cn .f32 (zs.getD (j * 4 + 2) 0) = x j ∧ cn .f32 (zs.getD (j * 4 + 3) 0) = (if j < i then elS b a x s j else s j)
theorem elQ_one {b a x s : Nat → Nat} {n : Nat} {zs : List Nat} (h : ∀ j, j < n → cn .f32 (zs.getD (j * 4) 0) = b j ∧ cn .f32 (zs.getD (j * 4 + 1) 0) = a j ∧ cn .f32 (zs.getD (j * 4 + 2) 0) = x j ∧ cn .f32 (zs.getD (j * 4 + 3) 0) = s j) : elQ b a x s n 1 zs := fun j hj => by
  obtain ⟨h0, h1, h2, h3⟩ := h j hj
  refine ⟨h0, ?_, h2, ?_⟩
  · split
    · obtain rfl : j = 0 := by omega
      exact h1
    · exact h1
  · split
    · obtain rfl : j = 0 := by omega
      exact h3
    · exact h3
theorem elQ_step {b a x s : Nat → Nat} {n i : Nat} {zs : List Nat} (h : elQ b a x s n (i + 1) zs) (hi : i + 1 < n) (hl : zs.length = n * 4) {r q : Nat} (hr : cn .f32 r = elA b a x (i + 1)) (hq : cn .f32 q = elS b a x s (i + 1)) : elQ b a x s n (i + 2) ((zs.set ((i + 1) * 4 + 1) r).set ((i + 1) * 4 + 3) q) := fun j hj => by
  obtain ⟨h0, h1, h2, h3⟩ := h j hj
  refine ⟨?_, ?_, ?_, ?_⟩
  · rw [getL_set_ne (by omega), getL_set_ne (by omega)]; exact h0
  · rw [getL_set_ne (by omega)]
    by_cases hji : j = i + 1
    · subst hji
      rw [getL_set_eq (by omega), if_pos (by omega)]; exact hr
    · rw [getL_set_ne (by omega), h1]
      by_cases hlt : j < i + 1
      · rw [if_pos hlt, if_pos (by omega)]
      · rw [if_neg hlt, if_neg (by omega)]
  · rw [getL_set_ne (by omega), getL_set_ne (by omega)]; exact h2
  · by_cases hji : j = i + 1
    · subst hji
      rw [getL_set_eq (by rw [List.length_set]; omega), if_pos (by omega)]; exact hq
    · rw [getL_set_ne (by omega), getL_set_ne (by omega), h3]
      by_cases hlt : j < i + 1
      · rw [if_pos hlt, if_pos (by omega)]
      · rw [if_neg hlt, if_neg (by omega)]
theorem elQ_step' {b a x s : Nat → Nat} {n k : Nat} {zs : List Nat} (h : elQ b a x s n k zs) (hk : 1 ≤ k) (hi : k < n) (hl : zs.length = n * 4) {r q : Nat} (hr : cn .f32 r = elA b a x k) (hq : cn .f32 q = elS b a x s k) : elQ b a x s n (k + 1) ((zs.set (k * 4 + 1) r).set (k * 4 + 3) q) := by
  obtain ⟨i, rfl⟩ : ∃ i, k = i + 1 := ⟨k - 1, by omega⟩
  exact elQ_step h hi hl hr hq
theorem turn_new {B : Nat} {w wp wr : World} (h : Turn B w.heap.size w wp) (hg : wp.grownBy wr (some w.heap.size)) : Turn B w.heap.size w wr :=
  ⟨hg.os.trans h.os, hg.tape.trans h.tape, hg.output.trans h.output, Nat.le_trans h.size hg.size, fun k hk hr => (hg.block k (Nat.lt_of_lt_of_le hk h.size) (by simp; omega)).trans (h.block k hk hr)⟩
set_option maxHeartbeats 4000000 in
set_option maxRecDepth 100000 in
theorem solveRows_any (B : Nat) (b a x s : Nat → Nat) (zs : List Nat) (n g c : Nat) (w : World) (hs : RW B w (.slice (some ⟨g, 0, none⟩) n c) n zs) (hn : 1 ≤ n ∧ n ≤ 48) (hz : elQ b a x s n 1 zs) : Calls Try.prog 83 #[.slice (some ⟨g, 0, none⟩) n c] w (fun e w' => ∃ v ys, e = .returned v ∧ Turn B w.heap.size w w' ∧ OF w.heap.size w' v ys ∧ ys.map (cn .f32) = solL b a x s n) := by
  obtain ⟨i0, hi, hz0, hz1, hz2⟩ := info_parts Try.infoF32
  obtain ⟨hn1, hn2⟩ := hn
  have hib : i0.bytes * n ≤ 281474976710656 := by rw [hz2]; omega
  have hml : n ≤ maxLen := by unfold maxLen; omega
  have hBg : B ≤ g ∧ g < w.heap.size := World.ownsRow.lt hs g rfl
  obtain ⟨hBg1, hBg2⟩ := hBg
  have HS := Lib.hid hs
  have HZ := Lib.hid hz
  clear hs hz
  go_enter Try.func83, Try.ntmps83
  go_wp2_with (first | (at_make; refine wpList_make_full _ rfl _ _ 22 rfl w.heap.size 25 i0 (.float .f32 0) 1 Try.underlying22 hi hz0 hz1 _ _ _ _ n rfl rfl rfl rfl hib hml (Nat.le_refl _) ?_; intro w1 hown hgrow))
  have hown0 : OF w.heap.size w1 (.slice (some ⟨w.heap.size, 0, none⟩) n n) (List.replicate n 0) := by
    unfold OF
    simp only [Value.cells, Nat.mul_one, toList_madeCells_one, List.length_replicate, List.map_replicate] at hown ⊢
    exact hown
  have hB0 : Below w.heap.size w w1 := (Below.refl _ _).grown hgrow (Nat.le_refl _) (fun k h => by cases h)
  have HO0 := Lib.hid hown0
  have HS1 : Hid (RW B w1 (.slice (some ⟨g, 0, none⟩) n c) n zs) := HS.out.later hB0
  have HB0 := Lib.hid hB0
  have hgw1 : g < w1.heap.size := Nat.lt_of_lt_of_le hBg2 hB0.size
  have hww1 : w.heap.size ≠ g := by omega
  clear hown hgrow hown0 hi hz0 hz1 hz2 hib hml hB0
  go_loopw [4] (fun z wr => ∃ (k : Nat) (zs : List Nat), 1 ≤ k ∧ k ≤ n ∧ z = .int .i64 (k : Int) ∧ Hid (RW B wr (.slice (some ⟨g, 0, none⟩) n c) n zs) ∧ Hid (elQ b a x s n k zs) ∧ Hid (w1.grownBy wr (some g))) (fun z _ => n - (intOf z).toNat)
  case atStart => exact ⟨1, zs, by omega, by omega, rfl, HS1.out, HZ.out, World.grownBy.refl _ _⟩
  case round =>
    clear HZ HS1 HS zs
    obtain ⟨k, zs, hk1, hkn, rfl, HS, HQ, HG⟩ := hrel
    by_cases hlt : k < n
    · have hlti : (k : Int) < (n : Int) := by omega
      have hgz : g < wr.heap.size := Nat.lt_of_lt_of_le hgw1 HG.out.size
      have hT : Trk wr [g] := (Trk.nil wr).more hgz
      have hki : k - 1 < n := by omega
      have hkii : ((k - 1 : Nat) : Int) < (n : Int) := by omega
      have hkw : IntKind.i64.wrap ((k : Int) - 1) = ((k - 1 : Nat) : Int) := by rw [IntWalk.i64_in _ (by omega)]; omega
      have hkw2 : IntKind.i64.wrap ((k : Int) + 1) = (k : Int) + 1 := IntWalk.i64_in _ (by omega)
      have c0 := (HS.out.cell (j := k * 4) (by omega)).1
      have c1 := (HS.out.cell (j := k * 4 + 1) (by omega)).1
      have c3 := (HS.out.cell (j := k * 4 + 3) (by omega)).1
      have f1 := (HS.out.cell (j := k * 4 + 1) (by omega)).2
      have f3 := (HS.out.cell (j := k * 4 + 3) (by omega)).2
      have d1 := (HS.out.cell (j := (k - 1) * 4 + 1) (by omega)).1
      have d2 := (HS.out.cell (j := (k - 1) * 4 + 2) (by omega)).1
      have d3 := (HS.out.cell (j := (k - 1) * 4 + 3) (by omega)).1
      have q0 := (HQ.out k hlt).1
      have q1 := (HQ.out k hlt).2.1
      have q3 := (HQ.out k hlt).2.2.2
      have p1 := (HQ.out (k - 1) hki).2.1
      have p2 := (HQ.out (k - 1) hki).2.2.1
      have p3 := (HQ.out (k - 1) hki).2.2.2
      rw [if_neg (by omega)] at q1 q3
      rw [if_pos (by omega)] at p1 p3
      generalize zs.getD (k * 4) 0 = v0 at c0 q0
      generalize zs.getD (k * 4 + 1) 0 = v1 at c1 q1
      generalize zs.getD (k * 4 + 3) 0 = v3 at c3 q3
      generalize zs.getD ((k - 1) * 4 + 1) 0 = u1 at d1 p1
      generalize zs.getD ((k - 1) * 4 + 2) 0 = u2 at d2 p2
      generalize zs.getD ((k - 1) * 4 + 3) 0 = u3 at d3 p3
      go_wp2_with (first | (with_reducible refine at_list ?_; refine wpList_fop rfl rfl rfl rfl rfl ?_; intro r n hr0; have hr := hr0 _ _ (by first | with_reducible assumption | exact rfl) (by first | with_reducible assumption | exact rfl); clear hr0) | (with_reducible refine at_list ?_; refine wpList_neg rfl rfl rfl ?_; intro r hr0; have hr := hr0 _ (by first | with_reducible assumption | exact rfl); clear hr0) | (with_reducible refine at_list ?_; refine wpList_fop_g rfl rfl rfl rfl rfl ?_; intro r n hr0; have hr := hr0 _ _ (by first | with_reducible assumption | exact rfl) (by first | with_reducible assumption | exact rfl); clear hr0) | (with_reducible refine at_list ?_; refine wpList_wide_g rfl rfl Try.underlying25 Try.underlying32 rfl ?_; intro r n hr0; have hr := hr0 _ (by first | with_reducible assumption | exact rfl); clear hr0) | (with_reducible refine at_list ?_; refine wpList_wide rfl rfl rfl Try.underlying25 Try.underlying32 ?_; intro r n hr0; have hr := hr0 _ (by first | with_reducible assumption | exact rfl); clear hr0))
      (refine wp_some_lit (by kernel_rfl) (by kernel_rfl) ?_; (refine wpSome_one ?_; go_big_quiet_step (fail); refine wpQuiet_nil ?_); (refine wpSome_one ?_; go_big_quiet_step (fail); refine wpQuiet_nil ?_); (refine wpSome_one ?_; go_big_quiet_step (fail); refine wpQuiet_nil ?_); (refine wpSome_one ?_; go_big_quiet_step (fail); refine wpQuiet_nil ?_); (refine wpSome_one ?_; go_big_quiet_step (fail); refine wpQuiet_nil ?_); (refine wpSome_one ?_; go_big_quiet_step (fail); refine wpQuiet_nil ?_); (refine wpSome_one ?_; go_big_quiet_step (fail); refine wpQuiet_nil ?_); (refine wpSome_one ?_; go_big_quiet_step (fail); refine wpQuiet_nil ?_); (refine wpSome_one ?_; go_big_quiet_step (fail); refine wpQuiet_nil ?_); (refine wpSome_one ?_; go_big_quiet_step (fail); refine wpQuiet_nil ?_); (refine wpSome_one ?_; go_big_quiet_step (fail); refine wpQuiet_nil ?_); ((with_reducible refine at_some ?_; refine wpSome_fop rfl rfl rfl rfl rfl ?_; intro r hr0; have hr := hr0 _ _ (by first | with_reducible assumption | exact rfl) (by first | with_reducible assumption | exact rfl); clear hr0); simp only [Act.put, List.setIfInBounds_toArray, List.set_cons_zero, List.set_cons_succ]); (refine wpSome_one ?_; go_big_quiet_step (fail); refine wpQuiet_nil ?_); refine wpSome_nil ?_; intro w' hw'; obtain ⟨nq, rfl⟩ := hw')
      go_wp2_with (first | (with_reducible refine at_list ?_; refine wpList_fop rfl rfl rfl rfl rfl ?_; intro r n hr0; have hr := hr0 _ _ (by first | with_reducible assumption | exact rfl) (by first | with_reducible assumption | exact rfl); clear hr0) | (with_reducible refine at_list ?_; refine wpList_neg rfl rfl rfl ?_; intro r hr0; have hr := hr0 _ (by first | with_reducible assumption | exact rfl); clear hr0) | (with_reducible refine at_list ?_; refine wpList_fop_g rfl rfl rfl rfl rfl ?_; intro r n hr0; have hr := hr0 _ _ (by first | with_reducible assumption | exact rfl) (by first | with_reducible assumption | exact rfl); clear hr0) | (with_reducible refine at_list ?_; refine wpList_wide_g rfl rfl Try.underlying25 Try.underlying32 rfl ?_; intro r n hr0; have hr := hr0 _ (by first | with_reducible assumption | exact rfl); clear hr0) | (with_reducible refine at_list ?_; refine wpList_wide rfl rfl rfl Try.underlying25 Try.underlying32 ?_; intro r n hr0; have hr := hr0 _ (by first | with_reducible assumption | exact rfl); clear hr0))
      (apply wp_region_plan; ((apply wpC_det; (case hw => exact rfl); (case hs => (intro cs b h; cases h)); (case h1 => (intro w'; go_simp <;> exact rfl))); apply wpC_norm; (case ha => (simp only [Act.put, List.setIfInBounds_toArray, List.set_cons_zero, List.set_cons_succ]; exact rfl))); ((apply wpC_det; (case hw => exact rfl); (case hs => (intro cs b h; cases h)); (case h1 => (intro w'; go_simp <;> exact rfl))); apply wpC_norm; (case ha => (simp only [Act.put, List.setIfInBounds_toArray, List.set_cons_zero, List.set_cons_succ]; exact rfl))); ((apply wpC_det; (case hw => exact rfl); (case hs => (intro cs b h; cases h)); (case h1 => (intro w'; go_simp <;> exact rfl))); apply wpC_norm; (case ha => (simp only [Act.put, List.setIfInBounds_toArray, List.set_cons_zero, List.set_cons_succ]; exact rfl))); ((apply wpC_det; (case hw => exact rfl); (case hs => (intro cs b h; cases h)); (case h1 => (intro w'; go_simp <;> exact rfl))); apply wpC_norm; (case ha => (simp only [Act.put, List.setIfInBounds_toArray, List.set_cons_zero, List.set_cons_succ]; exact rfl))); ((apply wpC_val; (case hw => exact rfl); (case h1 => (intro w' hb hk0; obtain ⟨hT, hk⟩ := bv_next hb (by (repeat (with_reducible first | assumption | apply Trk.alloc | apply Trk.setCell | apply Trk.drewN | apply Trk.drew | exact Trk.nil _))); simp only [SameOn, World.size_alloc, World.size_setCell, World.size_drew, size_drewN', and_true] at hk; have hsz := Below.size hb; (try simp only [World.size_alloc, World.size_setCell, World.size_drew, size_drewN'] at hsz); go_simp <;> exact rfl))); apply wpC_norm; (case ha => (simp only [Act.put, List.setIfInBounds_toArray, List.set_cons_zero, List.set_cons_succ]; exact rfl))); ((apply wpC_det; (case hw => exact rfl); (case hs => (intro cs b h; cases h)); (case h1 => (intro w'; go_simp <;> exact rfl))); apply wpC_norm; (case ha => (simp only [Act.put, List.setIfInBounds_toArray, List.set_cons_zero, List.set_cons_succ]; exact rfl))); ((apply wpC_det; (case hw => exact rfl); (case hs => (intro cs b h; cases h)); (case h1 => (intro w'; go_simp <;> exact rfl))); apply wpC_norm; (case ha => (simp only [Act.put, List.setIfInBounds_toArray, List.set_cons_zero, List.set_cons_succ]; exact rfl))); ((apply wpC_det; (case hw => exact rfl); (case hs => (intro cs b h; cases h)); (case h1 => (intro w'; go_simp <;> exact rfl))); apply wpC_norm; (case ha => (simp only [Act.put, List.setIfInBounds_toArray, List.set_cons_zero, List.set_cons_succ]; exact rfl))); ((apply wpC_det; (case hw => exact rfl); (case hs => (intro cs b h; cases h)); (case h1 => (intro w'; go_simp <;> exact rfl))); apply wpC_norm; (case ha => (simp only [Act.put, List.setIfInBounds_toArray, List.set_cons_zero, List.set_cons_succ]; exact rfl))); ((apply wpC_det; (case hw => exact rfl); (case hs => (intro cs b h; cases h)); (case h1 => (intro w'; go_simp <;> exact rfl))); apply wpC_norm; (case ha => (simp only [Act.put, List.setIfInBounds_toArray, List.set_cons_zero, List.set_cons_succ]; exact rfl))); ((apply wpC_det; (case hw => exact rfl); (case hs => (intro cs b h; cases h)); (case h1 => (intro w'; go_simp <;> exact rfl))); apply wpC_norm; (case ha => (simp only [Act.put, List.setIfInBounds_toArray, List.set_cons_zero, List.set_cons_succ]; exact rfl))); ((apply wpC_val; (case hw => exact rfl); (case h1 => (intro w' hb hk0; obtain ⟨hT, hk⟩ := bv_next hb (by (repeat (with_reducible first | assumption | apply Trk.alloc | apply Trk.setCell | apply Trk.drewN | apply Trk.drew | exact Trk.nil _))); simp only [SameOn, World.size_alloc, World.size_setCell, World.size_drew, size_drewN', and_true] at hk; have hsz := Below.size hb; (try simp only [World.size_alloc, World.size_setCell, World.size_drew, size_drewN'] at hsz); go_simp <;> exact rfl))); apply wpC_norm; (case ha => (simp only [Act.put, List.setIfInBounds_toArray, List.set_cons_zero, List.set_cons_succ]; exact rfl))); ((apply wpC_fop rfl rfl rfl rfl rfl; intro r hr0; have hr := hr0 _ _ (by first | with_reducible assumption | exact rfl) (by first | with_reducible assumption | exact rfl); clear hr0); apply wpC_norm; (case ha => (simp only [Act.put, List.setIfInBounds_toArray, List.set_cons_zero, List.set_cons_succ]; exact rfl))); ((apply wpC_fop rfl rfl rfl rfl rfl; intro r hr0; have hr := hr0 _ _ (by first | with_reducible assumption | exact rfl) (by first | with_reducible assumption | exact rfl); clear hr0); apply wpC_norm; (case ha => (simp only [Act.put, List.setIfInBounds_toArray, List.set_cons_zero, List.set_cons_succ]; exact rfl))); ((apply wpC_det; (case hw => exact rfl); (case hs => (intro cs b h; cases h)); (case h1 => (intro w'; go_simp <;> exact rfl))); apply wpC_norm; (case ha => (simp only [Act.put, List.setIfInBounds_toArray, List.set_cons_zero, List.set_cons_succ]; exact rfl))); ((apply wpC_det; (case hw => exact rfl); (case hs => (intro cs b h; cases h)); (case h1 => (intro w'; go_simp <;> exact rfl))); apply wpC_norm; (case ha => (simp only [Act.put, List.setIfInBounds_toArray, List.set_cons_zero, List.set_cons_succ]; exact rfl))); refine wpC_tail (by kernel_rfl) (by first | rfl | kernel_rfl) ?_; intro w' hb hkk; obtain ⟨hT, hk⟩ := bv_next hb (by (repeat (with_reducible first | assumption | apply Trk.alloc | apply Trk.setCell | apply Trk.drewN | apply Trk.drew | exact Trk.nil _))); simp only [SameOn, World.size_alloc, World.size_setCell, World.size_drew, size_drewN', and_true] at hk; have hsz := Below.size hb; (try simp only [World.size_alloc, World.size_setCell, World.size_drew, size_drewN'] at hsz))
      rotate_left
      all_goals (try (first | kernel_rfl | rfl))
      rename World => w2
      have hb2 : Below wr.heap.size wr w2 := by (repeat (first | (with_reducible exact Below.refl _ _) | (with_reducible assumption) | (with_reducible refine below_then ?_ (by assumption)) | (with_reducible refine Below.trans ?_ (by assumption)) | (with_reducible refine below_drewN ?_ _) | (with_reducible apply Below.drew) | (with_reducible refine below_alloc ?_ _) | refine Below.setCell ?_ (by first | (simp; done) | (simp; omega)) _))
      have S2 := Lib.hid (RW.stored (HS.out.later hb2) (k * 4 + 1) r)
      have G2 := Lib.hid (World.grownBy.trans (HG.out.trans (below_grown hb2 (some g))) S2.out.2)
      have HR1 : Hid (cn .f32 r = elA b a x k) := by
        show _ = _
        obtain ⟨i, rfl⟩ : ∃ i, k = i + 1 := ⟨k - 1, by omega⟩
        exact hr
      go_wp2_with (first | (with_reducible refine at_list ?_; refine wpList_fop rfl rfl rfl rfl rfl ?_; intro r n hr0; have hr := hr0 _ _ (by first | with_reducible assumption | exact rfl) (by first | with_reducible assumption | exact rfl); clear hr0) | (with_reducible refine at_list ?_; refine wpList_neg rfl rfl rfl ?_; intro r hr0; have hr := hr0 _ (by first | with_reducible assumption | exact rfl); clear hr0) | (with_reducible refine at_list ?_; refine wpList_fop_g rfl rfl rfl rfl rfl ?_; intro r n hr0; have hr := hr0 _ _ (by first | with_reducible assumption | exact rfl) (by first | with_reducible assumption | exact rfl); clear hr0) | (with_reducible refine at_list ?_; refine wpList_wide_g rfl rfl Try.underlying25 Try.underlying32 rfl ?_; intro r n hr0; have hr := hr0 _ (by first | with_reducible assumption | exact rfl); clear hr0) | (with_reducible refine at_list ?_; refine wpList_wide rfl rfl rfl Try.underlying25 Try.underlying32 ?_; intro r n hr0; have hr := hr0 _ (by first | with_reducible assumption | exact rfl); clear hr0))
      (apply wp_region_plan; ((apply wpC_det; (case hw => exact rfl); (case hs => (intro cs b h; cases h)); (case h1 => (intro w'; go_simp <;> exact rfl))); apply wpC_norm; (case ha => (simp only [Act.put, List.setIfInBounds_toArray, List.set_cons_zero, List.set_cons_succ]; exact rfl))); ((apply wpC_det; (case hw => exact rfl); (case hs => (intro cs b h; cases h)); (case h1 => (intro w'; go_simp <;> exact rfl))); apply wpC_norm; (case ha => (simp only [Act.put, List.setIfInBounds_toArray, List.set_cons_zero, List.set_cons_succ]; exact rfl))); ((apply wpC_det; (case hw => exact rfl); (case hs => (intro cs b h; cases h)); (case h1 => (intro w'; go_simp <;> exact rfl))); apply wpC_norm; (case ha => (simp only [Act.put, List.setIfInBounds_toArray, List.set_cons_zero, List.set_cons_succ]; exact rfl))); ((apply wpC_det; (case hw => exact rfl); (case hs => (intro cs b h; cases h)); (case h1 => (intro w'; go_simp <;> exact rfl))); apply wpC_norm; (case ha => (simp only [Act.put, List.setIfInBounds_toArray, List.set_cons_zero, List.set_cons_succ]; exact rfl))); ((apply wpC_val; (case hw => exact rfl); (case h1 => (intro w' hb hk0; obtain ⟨hT, hk⟩ := bv_next hb (by (repeat (with_reducible first | assumption | apply Trk.alloc | apply Trk.setCell | apply Trk.drewN | apply Trk.drew | exact Trk.nil _))); simp only [SameOn, World.size_alloc, World.size_setCell, World.size_drew, size_drewN', and_true] at hk; have hsz := Below.size hb; (try simp only [World.size_alloc, World.size_setCell, World.size_drew, size_drewN'] at hsz); go_simp <;> exact rfl))); apply wpC_norm; (case ha => (simp only [Act.put, List.setIfInBounds_toArray, List.set_cons_zero, List.set_cons_succ]; exact rfl))); ((apply wpC_det; (case hw => exact rfl); (case hs => (intro cs b h; cases h)); (case h1 => (intro w'; go_simp <;> exact rfl))); apply wpC_norm; (case ha => (simp only [Act.put, List.setIfInBounds_toArray, List.set_cons_zero, List.set_cons_succ]; exact rfl))); ((apply wpC_det; (case hw => exact rfl); (case hs => (intro cs b h; cases h)); (case h1 => (intro w'; go_simp <;> exact rfl))); apply wpC_norm; (case ha => (simp only [Act.put, List.setIfInBounds_toArray, List.set_cons_zero, List.set_cons_succ]; exact rfl))); ((apply wpC_det; (case hw => exact rfl); (case hs => (intro cs b h; cases h)); (case h1 => (intro w'; go_simp <;> exact rfl))); apply wpC_norm; (case ha => (simp only [Act.put, List.setIfInBounds_toArray, List.set_cons_zero, List.set_cons_succ]; exact rfl))); ((apply wpC_det; (case hw => exact rfl); (case hs => (intro cs b h; cases h)); (case h1 => (intro w'; go_simp <;> exact rfl))); apply wpC_norm; (case ha => (simp only [Act.put, List.setIfInBounds_toArray, List.set_cons_zero, List.set_cons_succ]; exact rfl))); ((apply wpC_det; (case hw => exact rfl); (case hs => (intro cs b h; cases h)); (case h1 => (intro w'; go_simp <;> exact rfl))); apply wpC_norm; (case ha => (simp only [Act.put, List.setIfInBounds_toArray, List.set_cons_zero, List.set_cons_succ]; exact rfl))); ((apply wpC_det; (case hw => exact rfl); (case hs => (intro cs b h; cases h)); (case h1 => (intro w'; go_simp <;> exact rfl))); apply wpC_norm; (case ha => (simp only [Act.put, List.setIfInBounds_toArray, List.set_cons_zero, List.set_cons_succ]; exact rfl))); ((apply wpC_val; (case hw => exact rfl); (case h1 => (intro w' hb hk0; obtain ⟨hT, hk⟩ := bv_next hb (by (repeat (with_reducible first | assumption | apply Trk.alloc | apply Trk.setCell | apply Trk.drewN | apply Trk.drew | exact Trk.nil _))); simp only [SameOn, World.size_alloc, World.size_setCell, World.size_drew, size_drewN', and_true] at hk; have hsz := Below.size hb; (try simp only [World.size_alloc, World.size_setCell, World.size_drew, size_drewN'] at hsz); go_simp <;> exact rfl))); apply wpC_norm; (case ha => (simp only [Act.put, List.setIfInBounds_toArray, List.set_cons_zero, List.set_cons_succ]; exact rfl))); ((apply wpC_fop rfl rfl rfl rfl rfl; intro r hr0; have hr := hr0 _ _ (by first | with_reducible assumption | exact rfl) (by first | with_reducible assumption | exact rfl); clear hr0); apply wpC_norm; (case ha => (simp only [Act.put, List.setIfInBounds_toArray, List.set_cons_zero, List.set_cons_succ]; exact rfl))); ((apply wpC_fop rfl rfl rfl rfl rfl; intro r hr0; have hr := hr0 _ _ (by first | with_reducible assumption | exact rfl) (by first | with_reducible assumption | exact rfl); clear hr0); apply wpC_norm; (case ha => (simp only [Act.put, List.setIfInBounds_toArray, List.set_cons_zero, List.set_cons_succ]; exact rfl))); ((apply wpC_det; (case hw => exact rfl); (case hs => (intro cs b h; cases h)); (case h1 => (intro w'; go_simp <;> exact rfl))); apply wpC_norm; (case ha => (simp only [Act.put, List.setIfInBounds_toArray, List.set_cons_zero, List.set_cons_succ]; exact rfl))); ((apply wpC_det; (case hw => exact rfl); (case hs => (intro cs b h; cases h)); (case h1 => (intro w'; go_simp <;> exact rfl))); apply wpC_norm; (case ha => (simp only [Act.put, List.setIfInBounds_toArray, List.set_cons_zero, List.set_cons_succ]; exact rfl))); refine wpC_tail (by kernel_rfl) (by first | rfl | kernel_rfl) ?_; intro w' hb hkk; obtain ⟨hT, hk⟩ := bv_next hb (by (repeat (with_reducible first | assumption | apply Trk.alloc | apply Trk.setCell | apply Trk.drewN | apply Trk.drew | exact Trk.nil _))); simp only [SameOn, World.size_alloc, World.size_setCell, World.size_drew, size_drewN', and_true] at hk; have hsz := Below.size hb; (try simp only [World.size_alloc, World.size_setCell, World.size_drew, size_drewN'] at hsz))
      rotate_left
      all_goals (try (first | kernel_rfl | rfl))
      rename World => w3
      have S3 := Lib.hid (RW.stored (S2.out.1.later hb) (k * 4 + 3) r)
      have G3 := Lib.hid (World.grownBy.trans (G2.out.trans (below_grown hb (some g))) S3.out.2)
      have HR3 : Hid (cn .f32 r = elS b a x s k) := by
        show _ = _
        obtain ⟨i, rfl⟩ : ∃ i, k = i + 1 := ⟨k - 1, by omega⟩
        exact hr
      have HQ2 := Lib.hid (elQ_step' HQ.out hk1 hlt HS.out.len HR1.out HR3.out)
      go_wp2_with (first | (with_reducible refine at_list ?_; refine wpList_fop rfl rfl rfl rfl rfl ?_; intro r n hr0; have hr := hr0 _ _ (by first | with_reducible assumption | exact rfl) (by first | with_reducible assumption | exact rfl); clear hr0) | (with_reducible refine at_list ?_; refine wpList_neg rfl rfl rfl ?_; intro r hr0; have hr := hr0 _ (by first | with_reducible assumption | exact rfl); clear hr0) | (with_reducible refine at_list ?_; refine wpList_fop_g rfl rfl rfl rfl rfl ?_; intro r n hr0; have hr := hr0 _ _ (by first | with_reducible assumption | exact rfl) (by first | with_reducible assumption | exact rfl); clear hr0) | (with_reducible refine at_list ?_; refine wpList_wide_g rfl rfl Try.underlying25 Try.underlying32 rfl ?_; intro r n hr0; have hr := hr0 _ (by first | with_reducible assumption | exact rfl); clear hr0) | (with_reducible refine at_list ?_; refine wpList_wide rfl rfl rfl Try.underlying25 Try.underlying32 ?_; intro r n hr0; have hr := hr0 _ (by first | with_reducible assumption | exact rfl); clear hr0))
      exact ⟨⟨k + 1, _, by omega, by omega, by go_num, S3.out.1, HQ2.out, G3.out⟩, by first | (simp [intOf]; done) | (simp [intOf]; omega)⟩
    · have hlti : ¬ (k : Int) < (n : Int) := by omega
      obtain rfl : k = n := by omega
      have hn1w : IntKind.i64.wrap ((k : Int) - 1) = ((k - 1 : Nat) : Int) := by rw [IntWalk.i64_in _ (by omega)]; omega
      have HT1 : Hid (Turn B w.heap.size w wr) := (Turn.below HB0.out).trans (Turn.of (u := .slice (some ⟨g, 0, none⟩) 0 0) HG.out (fun j hj => by cases hj; exact ⟨hBg1, hBg2⟩))
      have HO1 : Hid (OF w.heap.size wr (.slice (some ⟨w.heap.size, 0, none⟩) k k) (List.replicate k 0)) := HO0.out.kept HG.out (.inr (by simp [Value.ownBlock]; omega))
      have hgz : g < wr.heap.size := Nat.lt_of_lt_of_le hgw1 HG.out.size
      rename World => wo
      go_wp2_with (first | (with_reducible refine at_list ?_; refine wpList_fop rfl rfl rfl rfl rfl ?_; intro r n hr0; have hr := hr0 _ _ (by first | with_reducible assumption | exact rfl) (by first | with_reducible assumption | exact rfl); clear hr0) | (with_reducible refine at_list ?_; refine wpList_neg rfl rfl rfl ?_; intro r hr0; have hr := hr0 _ (by first | with_reducible assumption | exact rfl); clear hr0) | (with_reducible refine at_list ?_; refine wpList_fop_g rfl rfl rfl rfl rfl ?_; intro r n hr0; have hr := hr0 _ _ (by first | with_reducible assumption | exact rfl) (by first | with_reducible assumption | exact rfl); clear hr0) | (with_reducible refine at_list ?_; refine wpList_wide_g rfl rfl Try.underlying25 Try.underlying32 rfl ?_; intro r n hr0; have hr := hr0 _ (by first | with_reducible assumption | exact rfl); clear hr0) | (with_reducible refine at_list ?_; refine wpList_wide rfl rfl rfl Try.underlying25 Try.underlying32 ?_; intro r n hr0; have hr := hr0 _ (by first | with_reducible assumption | exact rfl); clear hr0))
      have hww : w.heap.size < wo.heap.size := Nat.lt_of_lt_of_le (OF.block HO0.out _ rfl).2 HG.out.size
      clear HG HO0 HB0 hlt hlti hkn hk1
      go_loopw [6] (fun z wr => ∃ (m : Nat) (ys : List Nat), m ≤ k ∧ ((m = 0 ∧ z = .int .i64 (-1)) ∨ ∃ j : Nat, m = j + 1 ∧ z = .int .i64 (j : Int)) ∧ ys.length = k ∧ Hid (OF w.heap.size wr (.slice (some ⟨w.heap.size, 0, none⟩) k k) ys) ∧ Hid (∀ j, m ≤ j → j < k → cn .f32 (ys.getD j 0) = solO b a x s k j) ∧ Hid (wo.grownBy wr (some w.heap.size))) (fun z _ => (intOf z + 1).toNat)
      case atStart => exact ⟨k, List.replicate k 0, by omega, .inr ⟨k - 1, by omega, rfl⟩, by simp, HO1.out, fun j h1 h2 => by omega, World.grownBy.refl _ _⟩
      case round =>
        obtain ⟨m, ys, hmk, hz, hyl, HO, HD, HG⟩ := hrel
        have HYL := Lib.hid hyl
        have hgr : g < wr.heap.size := Nat.lt_of_lt_of_le hgz HG.out.size
        have hwr : w.heap.size < wr.heap.size := Nat.lt_of_lt_of_le hww HG.out.size
        have HSr : Hid (RW B wr (.slice (some ⟨g, 0, none⟩) k c) k zs) := World.ownsRow.kept HS.out HG.out (.inr (by simp [Value.ownBlock]; omega))
        clear hyl
        rcases hz with ⟨rfl, rfl⟩ | ⟨j, rfl, rfl⟩
        · have HT : Hid (Turn B w.heap.size w wr) := turn_new HT1.out HG.out
          have HL : Hid (ys.map (cn .f32) = solL b a x s k) := solL_of HYL.out (fun j hj => HD.out j (by omega) hj)
          have HO2 : Hid (OF w.heap.size wr (.slice (some ⟨w.heap.size, 0, none⟩) k k) ys) := HO.out
          go_wp2_with (first | (with_reducible refine at_list ?_; refine wpList_fop rfl rfl rfl rfl rfl ?_; intro r n hr0; have hr := hr0 _ _ (by first | with_reducible assumption | exact rfl) (by first | with_reducible assumption | exact rfl); clear hr0) | (with_reducible refine at_list ?_; refine wpList_neg rfl rfl rfl ?_; intro r hr0; have hr := hr0 _ (by first | with_reducible assumption | exact rfl); clear hr0) | (with_reducible refine at_list ?_; refine wpList_fop_g rfl rfl rfl rfl rfl ?_; intro r n hr0; have hr := hr0 _ _ (by first | with_reducible assumption | exact rfl) (by first | with_reducible assumption | exact rfl); clear hr0) | (with_reducible refine at_list ?_; refine wpList_wide_g rfl rfl Try.underlying25 Try.underlying32 rfl ?_; intro r n hr0; have hr := hr0 _ (by first | with_reducible assumption | exact rfl); clear hr0) | (with_reducible refine at_list ?_; refine wpList_wide rfl rfl rfl Try.underlying25 Try.underlying32 ?_; intro r n hr0; have hr := hr0 _ (by first | with_reducible assumption | exact rfl); clear hr0))
          go_ret
          exact ⟨_, ys, rfl, HT.out, HO2.out, HL.out⟩
        · have hj : j < k := by omega
          have hji : (j : Int) < (k : Int) := by omega
          have hj0 : (0 : Int) ≤ (j : Int) := by omega
          have hjw : IntKind.i64.wrap ((j : Int) - 1) = (j : Int) - 1 := IntWalk.i64_in _ (by omega)
          have c1 := (HSr.out.cell (j := j * 4 + 1) (by omega)).1
          have c2 := (HSr.out.cell (j := j * 4 + 2) (by omega)).1
          have c3 := (HSr.out.cell (j := j * 4 + 3) (by omega)).1
          have q1 := (HQ.out j hj).2.1
          have q2 := (HQ.out j hj).2.2.1
          have q3 := (HQ.out j hj).2.2.2
          rw [if_pos hj] at q1 q3
          generalize zs.getD (j * 4 + 1) 0 = v1 at c1 q1
          generalize zs.getD (j * 4 + 2) 0 = v2 at c2 q2
          generalize zs.getD (j * 4 + 3) 0 = v3 at c3 q3
          obtain ⟨old, hcell0, hfr⟩ : ∃ old, wr.cell? ⟨w.heap.size, j, none⟩ = some old ∧ wr.frozen? ⟨w.heap.size, j, none⟩ = false := by
            rcases OF.view HO.out with ⟨h, _⟩ | ⟨g', c', h1, _, _, _, _, h2⟩
            · cases h
            · simp only [Value.slice.injEq, Option.some.injEq, Addr.mk.injEq, and_true] at h1
              obtain ⟨rfl, _⟩ := h1
              have := h2 j (by rw [HYL.out]; exact hj)
              exact ⟨_, this.1, this.2⟩
          have hT : Trk wr [g, w.heap.size] := ((Trk.nil wr).more hwr).more hgr
          have key : ∀ rr nn, cn .f32 rr = solO b a x s k j → (∃ (m : Nat) (ys : List Nat), m ≤ k ∧ ((m = 0 ∧ Value.int .i64 ((j : Int) - 1) = .int .i64 (-1)) ∨ ∃ j' : Nat, m = j' + 1 ∧ Value.int .i64 ((j : Int) - 1) = .int .i64 (j' : Int)) ∧ ys.length = k ∧ Hid (OF w.heap.size ((wr.setCell ⟨w.heap.size, j, none⟩ (.float .f32 rr)).drewN nn) (.slice (some ⟨w.heap.size, 0, none⟩) k k) ys) ∧ Hid (∀ j, m ≤ j → j < k → cn .f32 (ys.getD j 0) = solO b a x s k j) ∧ Hid (wo.grownBy ((wr.setCell ⟨w.heap.size, j, none⟩ (.float .f32 rr)).drewN nn) (some w.heap.size))) := by
            intro rr nn hrr
            have h4 := HO.out
            unfold OF at h4
            rw [HYL.out] at h4
            obtain ⟨h2, h3⟩ := World.ownsRow.stored h4 j (.float .f32 rr)
            refine ⟨j, ys.set j rr, by omega, ?_, by rw [List.length_set]; exact HYL.out, ?_, ?_, ?_⟩
            · rcases Nat.eq_zero_or_pos j with h | h
              · exact .inl ⟨h, by rw [h]; rfl⟩
              · exact .inr ⟨j - 1, by omega, by congr 1; omega⟩
            · show OF _ _ _ _
              refine OF.drewN ?_ _
              unfold OF
              rw [List.length_set, HYL.out, List.map_set]
              exact h2
            · show ∀ _, _
              intro i h1 h2'
              by_cases hi : i = j
              · subst hi; rw [getL_set_eq (by rw [HYL.out]; exact hj)]; exact hrr
              · rw [getL_set_ne hi]; exact HD.out i (by omega) h2'
            · exact World.grownBy.trans (HG.out.trans h3) (below_grown (below_drewN (Below.refl _ _) nn) _)
          have KEY := Lib.hid key
          clear key
          by_cases hl : j + 1 < k
          · have hli : (j : Int) < ((k - 1 : Nat) : Int) := by omega
            have hjp : IntKind.i64.wrap ((j : Int) + 1) = ((j + 1 : Nat) : Int) := by rw [IntWalk.i64_in _ (by omega)]; omega
            have hjpi : ((j + 1 : Nat) : Int) < (k : Int) := by omega
            have hn0 : wr.cell? ⟨w.heap.size, j + 1, none⟩ = some (.float .f32 (ys.getD (j + 1) 0)) := by
              rcases OF.view HO.out with ⟨h, _⟩ | ⟨g', c', h1, _, _, _, _, h2⟩
              · cases h
              · simp only [Value.slice.injEq, Option.some.injEq, Addr.mk.injEq, and_true] at h1
                obtain ⟨rfl, _⟩ := h1
                exact (h2 (j + 1) (by rw [HYL.out]; exact hl)).1
            have hn1' := HD.out (j + 1) (by omega) hl
            generalize ys.getD (j + 1) 0 = vn at hn0 hn1'
            go_wp2_with (first | (with_reducible refine at_list ?_; refine wpList_fop rfl rfl rfl rfl rfl ?_; intro r n hr0; have hr := hr0 _ _ (by first | with_reducible assumption | exact rfl) (by first | with_reducible assumption | exact rfl); clear hr0) | (with_reducible refine at_list ?_; refine wpList_neg rfl rfl rfl ?_; intro r hr0; have hr := hr0 _ (by first | with_reducible assumption | exact rfl); clear hr0) | (with_reducible refine at_list ?_; refine wpList_fop_g rfl rfl rfl rfl rfl ?_; intro r n hr0; have hr := hr0 _ _ (by first | with_reducible assumption | exact rfl) (by first | with_reducible assumption | exact rfl); clear hr0) | (with_reducible refine at_list ?_; refine wpList_wide_g rfl rfl Try.underlying25 Try.underlying32 rfl ?_; intro r n hr0; have hr := hr0 _ (by first | with_reducible assumption | exact rfl); clear hr0) | (with_reducible refine at_list ?_; refine wpList_wide rfl rfl rfl Try.underlying25 Try.underlying32 ?_; intro r n hr0; have hr := hr0 _ (by first | with_reducible assumption | exact rfl); clear hr0))
            (refine wp_some_lit (by kernel_rfl) (by kernel_rfl) ?_; (refine wpSome_one ?_; go_big_quiet_step (fail); refine wpQuiet_nil ?_); (refine wpSome_one ?_; go_big_quiet_step (fail); refine wpQuiet_nil ?_); (refine wpSome_one ?_; go_big_quiet_step (fail); refine wpQuiet_nil ?_); (refine wpSome_one ?_; go_big_quiet_step (fail); refine wpQuiet_nil ?_); (refine wpSome_one ?_; go_big_quiet_step (fail); refine wpQuiet_nil ?_); (refine wpSome_one ?_; go_big_quiet_step (fail); refine wpQuiet_nil ?_); (refine wpSome_one ?_; go_big_quiet_step (fail); refine wpQuiet_nil ?_); (refine wpSome_one ?_; go_big_quiet_step (fail); refine wpQuiet_nil ?_); (refine wpSome_one ?_; go_big_quiet_step (fail); refine wpQuiet_nil ?_); (refine wpSome_one ?_; go_big_quiet_step (fail); refine wpQuiet_nil ?_); (refine wpSome_one ?_; go_big_quiet_step (fail); refine wpQuiet_nil ?_); ((with_reducible refine at_some ?_; refine wpSome_fop rfl rfl rfl rfl rfl ?_; intro r hr0; have hr := hr0 _ _ (by first | with_reducible assumption | exact rfl) (by first | with_reducible assumption | exact rfl); clear hr0); simp only [Act.put, List.setIfInBounds_toArray, List.set_cons_zero, List.set_cons_succ]); ((with_reducible refine at_some ?_; refine wpSome_fop rfl rfl rfl rfl rfl ?_; intro r hr0; have hr := hr0 _ _ (by first | with_reducible assumption | exact rfl) (by first | with_reducible assumption | exact rfl); clear hr0); simp only [Act.put, List.setIfInBounds_toArray, List.set_cons_zero, List.set_cons_succ]); (refine wpSome_one ?_; go_big_quiet_step (fail); refine wpQuiet_nil ?_); refine wpSome_nil ?_; intro w' hw'; obtain ⟨nq, rfl⟩ := hw')
            go_wp2_with (first | (with_reducible refine at_list ?_; refine wpList_fop rfl rfl rfl rfl rfl ?_; intro r n hr0; have hr := hr0 _ _ (by first | with_reducible assumption | exact rfl) (by first | with_reducible assumption | exact rfl); clear hr0) | (with_reducible refine at_list ?_; refine wpList_neg rfl rfl rfl ?_; intro r hr0; have hr := hr0 _ (by first | with_reducible assumption | exact rfl); clear hr0) | (with_reducible refine at_list ?_; refine wpList_fop_g rfl rfl rfl rfl rfl ?_; intro r n hr0; have hr := hr0 _ _ (by first | with_reducible assumption | exact rfl) (by first | with_reducible assumption | exact rfl); clear hr0) | (with_reducible refine at_list ?_; refine wpList_wide_g rfl rfl Try.underlying25 Try.underlying32 rfl ?_; intro r n hr0; have hr := hr0 _ (by first | with_reducible assumption | exact rfl); clear hr0) | (with_reducible refine at_list ?_; refine wpList_wide rfl rfl rfl Try.underlying25 Try.underlying32 ?_; intro r n hr0; have hr := hr0 _ (by first | with_reducible assumption | exact rfl); clear hr0))
            exact ⟨KEY.out _ _ (hr.trans (solO_next b a x s k hl).symm), by first | (simp [intOf]; done) | (simp [intOf]; omega)⟩
          · have hli : ¬ (j : Int) < ((k - 1 : Nat) : Int) := by omega
            go_wp2_with (first | (with_reducible refine at_list ?_; refine wpList_fop rfl rfl rfl rfl rfl ?_; intro r n hr0; have hr := hr0 _ _ (by first | with_reducible assumption | exact rfl) (by first | with_reducible assumption | exact rfl); clear hr0) | (with_reducible refine at_list ?_; refine wpList_neg rfl rfl rfl ?_; intro r hr0; have hr := hr0 _ (by first | with_reducible assumption | exact rfl); clear hr0) | (with_reducible refine at_list ?_; refine wpList_fop_g rfl rfl rfl rfl rfl ?_; intro r n hr0; have hr := hr0 _ _ (by first | with_reducible assumption | exact rfl) (by first | with_reducible assumption | exact rfl); clear hr0) | (with_reducible refine at_list ?_; refine wpList_wide_g rfl rfl Try.underlying25 Try.underlying32 rfl ?_; intro r n hr0; have hr := hr0 _ (by first | with_reducible assumption | exact rfl); clear hr0) | (with_reducible refine at_list ?_; refine wpList_wide rfl rfl rfl Try.underlying25 Try.underlying32 ?_; intro r n hr0; have hr := hr0 _ (by first | with_reducible assumption | exact rfl); clear hr0))
            exact ⟨KEY.out _ _ (hr.trans (solO_last b a x s k (by omega)).symm), by first | (simp [intOf]; done) | (simp [intOf]; omega)⟩
end Go.Proofs.Ytgkcfeaknehopaa

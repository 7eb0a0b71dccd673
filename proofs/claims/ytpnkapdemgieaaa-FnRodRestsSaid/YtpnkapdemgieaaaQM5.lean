/-
  Rows of equations: what the program's solver makes of them. No condition but what each contract says.
  One operation in single precision: how far it may be off, by how great it is; rows of equations, one step, in exact numbers. No condition but what each law says; nothing of the program is named here.
  Rows of equations, solved in single precision: how near the answers are, each row by its own size. No condition but what each law says; nothing of the program is named here.
  Rows of equations, solved in single precision: how near the answers are, and what is left of each row (shut ends). No condition but what each law says; nothing of the program is named here.
-/
import Derived.Test.YtpnkapdemgieaaaQM4
import Derived.Test.YtpnkapdemgieaaaQM2
import Derived.Test.YtpnkapdemgieaaaQM3
set_option linter.unusedSimpArgs false
set_option linter.unusedVariables false
set_option linter.unusedSectionVars false
namespace Go.Proofs.Ytpnkapdemgieaaa
open Go Go.RowKit
open Go.ChangeShapes Go.WideShapes Go.ChangeAt Go.RowKit Go.Joins
/-- Rows of equations, solved: each row without the number at the cell before; its right side; the answers from the last one on. -/
def elA (b a x : Nat → Nat) : Nat → Nat
  | 0 => a 0
  | i + 1 => fop .sub .f32 (a (i + 1)) (fop .mul .f32 (fop .quo .f32 (b (i + 1)) (elA b a x i)) (x i))
def elS (b a x s : Nat → Nat) : Nat → Nat
  | 0 => s 0
  | i + 1 => fop .sub .f32 (s (i + 1)) (fop .mul .f32 (fop .quo .f32 (b (i + 1)) (elA b a x i)) (elS b a x s i))
def bkO (b a x s : Nat → Nat) (n : Nat) : Nat → Nat
  | 0 => fop .quo .f32 (elS b a x s (n - 1)) (elA b a x (n - 1))
  | k + 1 => fop .quo .f32 (fop .sub .f32 (elS b a x s (n - 1 - (k + 1))) (fop .mul .f32 (x (n - 1 - (k + 1))) (bkO b a x s n k))) (elA b a x (n - 1 - (k + 1)))
def solO (b a x s : Nat → Nat) (n i : Nat) : Nat := bkO b a x s n (n - 1 - i)
def solL (b a x s : Nat → Nat) (n : Nat) : List Nat := (List.range n).map (solO b a x s n)
theorem solL_len (b a x s : Nat → Nat) (n : Nat) : (solL b a x s n).length = n := by simp [solL]
theorem cn_bkO (b a x s : Nat → Nat) (n : Nat) : ∀ k, cn .f32 (bkO b a x s n k) = bkO b a x s n k | 0 => cn_fop _ _ _ _ | _ + 1 => cn_fop _ _ _ _
theorem solL_cn (b a x s : Nat → Nat) (n : Nat) : (solL b a x s n).map (cn .f32) = solL b a x s n := by
  unfold solL
  rw [List.map_map]
  exact List.map_congr_left fun i _ => cn_bkO _ _ _ _ _ _
theorem solO_last (b a x s : Nat → Nat) (n : Nat) {i : Nat} (h : i + 1 = n) : solO b a x s n i = fop .quo .f32 (elS b a x s i) (elA b a x i) := by
  subst h
  show bkO b a x s (i + 1) (i + 1 - 1 - i) = _
  rw [show i + 1 - 1 - i = 0 by omega]
  rfl
theorem solO_next (b a x s : Nat → Nat) (n : Nat) {i : Nat} (h : i + 1 < n) : solO b a x s n i = fop .quo .f32 (fop .sub .f32 (elS b a x s i) (fop .mul .f32 (x i) (solO b a x s n (i + 1)))) (elA b a x i) := by
  show bkO b a x s n (n - 1 - i) = fop .quo .f32 (fop .sub .f32 _ (fop .mul .f32 _ (bkO b a x s n (n - 1 - (i + 1))))) _
  rw [show n - 1 - i = (n - 1 - (i + 1)) + 1 by omega]
  show fop .quo .f32 (fop .sub .f32 (elS b a x s (n - 1 - (n - 1 - (i + 1) + 1))) (fop .mul .f32 (x (n - 1 - (n - 1 - (i + 1) + 1))) _)) _ = _
  rw [show n - 1 - (n - 1 - (i + 1) + 1) = i by omega]
theorem solL_of {b a x s : Nat → Nat} {n : Nat} {ys : List Nat} (hl : ys.length = n) (h : ∀ j, j < n → cn .f32 (ys.getD j 0) = solO b a x s n j) : ys.map (cn .f32) = solL b a x s n := by
  apply List.ext_getElem (by simp [solL, hl])
  intro j h1 h2
  have hj : j < n := by simpa [hl] using h1
  have := h j hj
  rw [List.getD_eq_getElem?_getD, List.getElem?_eq_getElem (by omega)] at this
  simpa [solL] using this
theorem getL_set_ne {xs : List Nat} {k j r : Nat} (h : j ≠ k) : (xs.set k r).getD j 0 = xs.getD j 0 := by
  rw [List.getD_eq_getElem?_getD, List.getD_eq_getElem?_getD, List.getElem?_set_ne (Ne.symm h)]
theorem getL_set_eq {xs : List Nat} {k r : Nat} (h : k < xs.length) : (xs.set k r).getD k 0 = r := by
  rw [List.getD_eq_getElem?_getD, List.getElem?_set_self h]; rfl
set_option maxRecDepth 100000 in
theorem Try.infoRow : (Try.prog.info? 74).map (fun i => (i.zero, i.size, i.bytes)) = some (some (.agg #[.float .f32 0, .float .f32 0, .float .f32 0, .float .f32 0]), 4, 16) := by kernel_rfl
/-- Rows of equations that the call has made: four numbers each. -/
def RW (B : Nat) (w : World) (u : Value) (n : Nat) (zs : List Nat) : Prop := w.ownsRow B 74 4 u n (zs.map (Value.float .f32))
theorem RW.len {B n : Nat} {w : World} {u : Value} {zs : List Nat} (h : RW B w u n zs) : zs.length = n * 4 := by have := h.1; simpa using this
theorem RW.cell {B n g c : Nat} {w : World} {zs : List Nat} (h : RW B w (.slice (some ⟨g, 0, none⟩) n c) n zs) {j : Nat} (hj : j < n * 4) : w.cell? ⟨g, j, none⟩ = some (.float .f32 (zs.getD j 0)) ∧ w.frozen? ⟨g, j, none⟩ = false := by
  refine ⟨?_, World.ownsRow.frozenAt h j⟩
  rw [World.ownsRow.cellAt h j hj]
  have := h.len
  rw [List.getElem?_map, List.getD_eq_getElem?_getD, List.getElem?_eq_getElem (by omega)]
  rfl
theorem RW.stored {B n g c : Nat} {w : World} {zs : List Nat} (h : RW B w (.slice (some ⟨g, 0, none⟩) n c) n zs) (j r : Nat) : RW B (w.setCell ⟨g, j, none⟩ (.float .f32 r)) (.slice (some ⟨g, 0, none⟩) n c) n (zs.set j r) ∧ w.grownBy (w.setCell ⟨g, j, none⟩ (.float .f32 r)) (some g) := by
  obtain ⟨h1, h2⟩ := World.ownsRow.stored h j (.float .f32 r)
  refine ⟨?_, h2⟩
  unfold RW
  rw [List.map_set]
  exact h1
theorem RW.later {B n : Nat} {w w' : World} {u : Value} {zs : List Nat} (h : RW B w u n zs) (hb : Below w.heap.size w w') : RW B w' u n zs := by
  cases hu : u.ownBlock with
  | none => exact World.ownsRow.kept h (below_grown hb none) (.inl hu)
  | some k => exact World.ownsRow.kept h (below_grown hb none) (.inr (by rw [hu]; simp))
/-- How far the rows are solved. -/
def elQ (b a x s : Nat → Nat) (n i : Nat) (zs : List Nat) : Prop := ∀ j, j < n → cn .f32 (zs.getD (j * 4) 0) = b j ∧ cn .f32 (zs.getD (j * 4 + 1) 0) = (if j < i then elA b a x j else a j) ∧ cn .f32 (zs.getD (j * 4 + 2) 0) = x j ∧ cn .f32 (zs.getD (j * 4 + 3) 0) = (if j < i then elS b a x s j else s j)
theorem elQ_one {b a x s : Nat → Nat} {n : Nat} {zs : List Nat} (h : ∀ j, j < n → cn .f32 (zs.getD (j * 4) 0) = b j ∧ cn .f32 (zs.getD (j * 4 + 1) 0) = a j ∧ cn .f32 (zs.getD (j * 4 + 2) 0) = x j ∧ cn .f32 (zs.getD (j * 4 + 3) 0) = s j) : elQ b a x s n 1 zs := fun j hj => by
  obtain ⟨h0, h1, h2, h3⟩ := h j hj
  refine ⟨h0, ?_, h2, ?_⟩
  · split
    · obtain rfl : j = 0 := by omega
      exact h1
    · exact h1
  · split
    · obtain rfl : j = 0 := by omega
      exact h3
    · exact h3
theorem elQ_step {b a x s : Nat → Nat} {n i : Nat} {zs : List Nat} (h : elQ b a x s n (i + 1) zs) (hi : i + 1 < n) (hl : zs.length = n * 4) {r q : Nat} (hr : cn .f32 r = elA b a x (i + 1)) (hq : cn .f32 q = elS b a x s (i + 1)) : elQ b a x s n (i + 2) ((zs.set ((i + 1) * 4 + 1) r).set ((i + 1) * 4 + 3) q) := fun j hj => by
  obtain ⟨h0, h1, h2, h3⟩ := h j hj
  refine ⟨?_, ?_, ?_, ?_⟩
  · rw [getL_set_ne (by omega), getL_set_ne (by omega)]; exact h0
  · rw [getL_set_ne (by omega)]
    by_cases hji : j = i + 1
    · subst hji
      rw [getL_set_eq (by omega), if_pos (by omega)]; exact hr
    · rw [getL_set_ne (by omega), h1]
      by_cases hlt : j < i + 1
      · rw [if_pos hlt, if_pos (by omega)]
      · rw [if_neg hlt, if_neg (by omega)]
  · rw [getL_set_ne (by omega), getL_set_ne (by omega)]; exact h2
  · by_cases hji : j = i + 1
    · subst hji
      rw [getL_set_eq (by rw [List.length_set]; omega), if_pos (by omega)]; exact hq
    · rw [getL_set_ne (by omega), getL_set_ne (by omega), h3]
      by_cases hlt : j < i + 1
      · rw [if_pos hlt, if_pos (by omega)]
      · rw [if_neg hlt, if_neg (by omega)]
theorem elQ_step' {b a x s : Nat → Nat} {n k : Nat} {zs : List Nat} (h : elQ b a x s n k zs) (hk : 1 ≤ k) (hi : k < n) (hl : zs.length = n * 4) {r q : Nat} (hr : cn .f32 r = elA b a x k) (hq : cn .f32 q = elS b a x s k) : elQ b a x s n (k + 1) ((zs.set (k * 4 + 1) r).set (k * 4 + 3) q) := by
  obtain ⟨i, rfl⟩ : ∃ i, k = i + 1 := ⟨k - 1, by omega⟩
  exact elQ_step h hi hl hr hq
theorem turn_new {B : Nat} {w wp wr : World} (h : Turn B w.heap.size w wp) (hg : wp.grownBy wr (some w.heap.size)) : Turn B w.heap.size w wr :=
  ⟨hg.os.trans h.os, hg.tape.trans h.tape, hg.output.trans h.output, Nat.le_trans h.size hg.size, fun k hk hr => (hg.block k (Nat.lt_of_lt_of_le hk h.size) (by simp; omega)).trans (h.block k hk hr)⟩
set_option maxHeartbeats 4000000 in
set_option maxRecDepth 100000 in
theorem solveRows_any (B : Nat) (b a x s : Nat → Nat) (zs : List Nat) (n g c : Nat) (w : World) (hs : RW B w (.slice (some ⟨g, 0, none⟩) n c) n zs) (hn : 1 ≤ n ∧ n ≤ 48) (hz : elQ b a x s n 1 zs) : Calls Try.prog 46 #[.slice (some ⟨g, 0, none⟩) n c] w (fun e w' => ∃ v ys, e = .returned v ∧ Turn B w.heap.size w w' ∧ OF w.heap.size w' v ys ∧ ys.map (cn .f32) = solL b a x s n) := by
  obtain ⟨i0, hi, hz0, hz1, hz2⟩ := info_parts Try.infoF32
  obtain ⟨hn1, hn2⟩ := hn
  have hib : i0.bytes * n ≤ 281474976710656 := by rw [hz2]; omega
  have hml : n ≤ maxLen := by unfold maxLen; omega
  have hBg : B ≤ g ∧ g < w.heap.size := World.ownsRow.lt hs g rfl
  obtain ⟨hBg1, hBg2⟩ := hBg
  have HS := Lib.hid hs
  have HZ := Lib.hid hz
  clear hs hz
  go_enter Try.func46, Try.ntmps46
  go_wp2_with (first | (at_make; refine wpList_make_full _ rfl _ _ 24 rfl w.heap.size 28 i0 (.float .f32 0) 1 Try.underlying24 hi hz0 hz1 _ _ _ _ n rfl rfl rfl rfl hib hml (Nat.le_refl _) ?_; intro w1 hown hgrow))
  have hown0 : OF w.heap.size w1 (.slice (some ⟨w.heap.size, 0, none⟩) n n) (List.replicate n 0) := by
    unfold OF
    simp only [Value.cells, Nat.mul_one, toList_madeCells_one, List.length_replicate, List.map_replicate] at hown ⊢
    exact hown
  have hB0 : Below w.heap.size w w1 := (Below.refl _ _).grown hgrow (Nat.le_refl _) (fun k h => by cases h)
  have HO0 := Lib.hid hown0
  have HS1 : Hid (RW B w1 (.slice (some ⟨g, 0, none⟩) n c) n zs) := HS.out.later hB0
  have HB0 := Lib.hid hB0
  have hgw1 : g < w1.heap.size := Nat.lt_of_lt_of_le hBg2 hB0.size
  have hww1 : w.heap.size ≠ g := by omega
  clear hown hgrow hown0 hi hz0 hz1 hz2 hib hml hB0
  go_loopw [4] (fun z wr => ∃ (k : Nat) (zs : List Nat), 1 ≤ k ∧ k ≤ n ∧ z = .int .i64 (k : Int) ∧ Hid (RW B wr (.slice (some ⟨g, 0, none⟩) n c) n zs) ∧ Hid (elQ b a x s n k zs) ∧ Hid (w1.grownBy wr (some g))) (fun z _ => n - (intOf z).toNat)
  case atStart => exact ⟨1, zs, by omega, by omega, rfl, HS1.out, HZ.out, World.grownBy.refl _ _⟩
  case round =>
    clear HZ HS1 HS zs
    obtain ⟨k, zs, hk1, hkn, rfl, HS, HQ, HG⟩ := hrel
    by_cases hlt : k < n
    · have hlti : (k : Int) < (n : Int) := by omega
      have hgz : g < wr.heap.size := Nat.lt_of_lt_of_le hgw1 HG.out.size
      have hT : Trk wr [g] := (Trk.nil wr).more hgz
      have hki : k - 1 < n := by omega
      have hkii : ((k - 1 : Nat) : Int) < (n : Int) := by omega
      have hkw : IntKind.i64.wrap ((k : Int) - 1) = ((k - 1 : Nat) : Int) := by rw [IntWalk.i64_in _ (by omega)]; omega
      have hkw2 : IntKind.i64.wrap ((k : Int) + 1) = (k : Int) + 1 := IntWalk.i64_in _ (by omega)
      have c0 := (HS.out.cell (j := k * 4) (by omega)).1
      have c1 := (HS.out.cell (j := k * 4 + 1) (by omega)).1
      have c3 := (HS.out.cell (j := k * 4 + 3) (by omega)).1
      have f1 := (HS.out.cell (j := k * 4 + 1) (by omega)).2
      have f3 := (HS.out.cell (j := k * 4 + 3) (by omega)).2
      have d1 := (HS.out.cell (j := (k - 1) * 4 + 1) (by omega)).1
      have d2 := (HS.out.cell (j := (k - 1) * 4 + 2) (by omega)).1
      have d3 := (HS.out.cell (j := (k - 1) * 4 + 3) (by omega)).1
      have q0 := (HQ.out k hlt).1
      have q1 := (HQ.out k hlt).2.1
      have q3 := (HQ.out k hlt).2.2.2
      have p1 := (HQ.out (k - 1) hki).2.1
      have p2 := (HQ.out (k - 1) hki).2.2.1
      have p3 := (HQ.out (k - 1) hki).2.2.2
      rw [if_neg (by omega)] at q1 q3
      rw [if_pos (by omega)] at p1 p3
      generalize zs.getD (k * 4) 0 = v0 at c0 q0
      generalize zs.getD (k * 4 + 1) 0 = v1 at c1 q1
      generalize zs.getD (k * 4 + 3) 0 = v3 at c3 q3
      generalize zs.getD ((k - 1) * 4 + 1) 0 = u1 at d1 p1
      generalize zs.getD ((k - 1) * 4 + 2) 0 = u2 at d2 p2
      generalize zs.getD ((k - 1) * 4 + 3) 0 = u3 at d3 p3
      go_wp2_with (first | (with_reducible refine at_list ?_; refine wpList_fop rfl rfl rfl rfl rfl ?_; intro r n hr0; have hr := hr0 _ _ (by first | with_reducible assumption | exact rfl) (by first | with_reducible assumption | exact rfl); clear hr0) | (with_reducible refine at_list ?_; refine wpList_neg rfl rfl rfl ?_; intro r hr0; have hr := hr0 _ (by first | with_reducible assumption | exact rfl); clear hr0) | (with_reducible refine at_list ?_; refine wpList_fop_g rfl rfl rfl rfl rfl ?_; intro r n hr0; have hr := hr0 _ _ (by first | with_reducible assumption | exact rfl) (by first | with_reducible assumption | exact rfl); clear hr0) | (with_reducible refine at_list ?_; refine wpList_wide rfl rfl rfl Try.underlying28 Try.underlying39 ?_; intro r n hr0; have hr := hr0 _ (by first | with_reducible assumption | exact rfl); clear hr0))
      (refine wp_some_lit (by kernel_rfl) (by kernel_rfl) ?_; (iterate 11 (refine wpSome_one ?_; go_big_quiet_step (fail); refine wpQuiet_nil ?_)); ((with_reducible refine at_some ?_; refine wpSome_fop rfl rfl rfl rfl rfl ?_; intro r hr0; have hr := hr0 _ _ (by first | with_reducible assumption | exact rfl) (by first | with_reducible assumption | exact rfl); clear hr0); simp only [Act.put, List.setIfInBounds_toArray, List.set_cons_zero, List.set_cons_succ]); (refine wpSome_one ?_; go_big_quiet_step (fail); refine wpQuiet_nil ?_); refine wpSome_nil ?_; intro w' hw'; obtain ⟨nq, rfl⟩ := hw')
      go_wp2_with (first | (with_reducible refine at_list ?_; refine wpList_fop rfl rfl rfl rfl rfl ?_; intro r n hr0; have hr := hr0 _ _ (by first | with_reducible assumption | exact rfl) (by first | with_reducible assumption | exact rfl); clear hr0) | (with_reducible refine at_list ?_; refine wpList_neg rfl rfl rfl ?_; intro r hr0; have hr := hr0 _ (by first | with_reducible assumption | exact rfl); clear hr0) | (with_reducible refine at_list ?_; refine wpList_fop_g rfl rfl rfl rfl rfl ?_; intro r n hr0; have hr := hr0 _ _ (by first | with_reducible assumption | exact rfl) (by first | with_reducible assumption | exact rfl); clear hr0) | (with_reducible refine at_list ?_; refine wpList_wide rfl rfl rfl Try.underlying28 Try.underlying39 ?_; intro r n hr0; have hr := hr0 _ (by first | with_reducible assumption | exact rfl); clear hr0))
      (apply wp_region_plan; (iterate 4 ((apply wpC_det; (case hw => exact rfl); (case hs => (intro cs b h; cases h)); (case h1 => (intro w'; go_simp <;> exact rfl))); apply wpC_norm; (case ha => (simp only [Act.put, List.setIfInBounds_toArray, List.set_cons_zero, List.set_cons_succ]; exact rfl)))); ((apply wpC_val; (case hw => exact rfl); (case h1 => (intro w' hb hk0; obtain ⟨hT, hk⟩ := bv_next hb (by (repeat (with_reducible first | assumption | apply Trk.alloc | apply Trk.setCell | apply Trk.drewN | apply Trk.drew | exact Trk.nil _))); simp only [SameOn, World.size_alloc, World.size_setCell, World.size_drew, size_drewN', and_true] at hk; have hsz := Below.size hb; (try simp only [World.size_alloc, World.size_setCell, World.size_drew, size_drewN'] at hsz); go_simp <;> exact rfl))); apply wpC_norm; (case ha => (simp only [Act.put, List.setIfInBounds_toArray, List.set_cons_zero, List.set_cons_succ]; exact rfl))); (iterate 6 ((apply wpC_det; (case hw => exact rfl); (case hs => (intro cs b h; cases h)); (case h1 => (intro w'; go_simp <;> exact rfl))); apply wpC_norm; (case ha => (simp only [Act.put, List.setIfInBounds_toArray, List.set_cons_zero, List.set_cons_succ]; exact rfl)))); ((apply wpC_val; (case hw => exact rfl); (case h1 => (intro w' hb hk0; obtain ⟨hT, hk⟩ := bv_next hb (by (repeat (with_reducible first | assumption | apply Trk.alloc | apply Trk.setCell | apply Trk.drewN | apply Trk.drew | exact Trk.nil _))); simp only [SameOn, World.size_alloc, World.size_setCell, World.size_drew, size_drewN', and_true] at hk; have hsz := Below.size hb; (try simp only [World.size_alloc, World.size_setCell, World.size_drew, size_drewN'] at hsz); go_simp <;> exact rfl))); apply wpC_norm; (case ha => (simp only [Act.put, List.setIfInBounds_toArray, List.set_cons_zero, List.set_cons_succ]; exact rfl))); (iterate 2 ((apply wpC_fop rfl rfl rfl rfl rfl; intro r hr0; have hr := hr0 _ _ (by first | with_reducible assumption | exact rfl) (by first | with_reducible assumption | exact rfl); clear hr0); apply wpC_norm; (case ha => (simp only [Act.put, List.setIfInBounds_toArray, List.set_cons_zero, List.set_cons_succ]; exact rfl)))); (iterate 2 ((apply wpC_det; (case hw => exact rfl); (case hs => (intro cs b h; cases h)); (case h1 => (intro w'; go_simp <;> exact rfl))); apply wpC_norm; (case ha => (simp only [Act.put, List.setIfInBounds_toArray, List.set_cons_zero, List.set_cons_succ]; exact rfl)))); refine wpC_tail (by kernel_rfl) (by first | rfl | kernel_rfl) ?_; intro w' hb hkk; obtain ⟨hT, hk⟩ := bv_next hb (by (repeat (with_reducible first | assumption | apply Trk.alloc | apply Trk.setCell | apply Trk.drewN | apply Trk.drew | exact Trk.nil _))); simp only [SameOn, World.size_alloc, World.size_setCell, World.size_drew, size_drewN', and_true] at hk; have hsz := Below.size hb; (try simp only [World.size_alloc, World.size_setCell, World.size_drew, size_drewN'] at hsz))
      rotate_left
      all_goals (try (first | kernel_rfl | rfl))
      rename World => w2
      have hb2 : Below wr.heap.size wr w2 := by (repeat (first | (with_reducible exact Below.refl _ _) | (with_reducible assumption) | (with_reducible refine below_then ?_ (by assumption)) | (with_reducible refine Below.trans ?_ (by assumption)) | (with_reducible refine below_drewN ?_ _) | (with_reducible apply Below.drew) | (with_reducible refine below_alloc ?_ _) | refine Below.setCell ?_ (by first | (simp; done) | (simp; omega)) _))
      have S2 := Lib.hid (RW.stored (HS.out.later hb2) (k * 4 + 1) r)
      have G2 := Lib.hid (World.grownBy.trans (HG.out.trans (below_grown hb2 (some g))) S2.out.2)
      have HR1 : Hid (cn .f32 r = elA b a x k) := by
        show _ = _
        obtain ⟨i, rfl⟩ : ∃ i, k = i + 1 := ⟨k - 1, by omega⟩
        exact hr
      go_wp2_with (first | (with_reducible refine at_list ?_; refine wpList_fop rfl rfl rfl rfl rfl ?_; intro r n hr0; have hr := hr0 _ _ (by first | with_reducible assumption | exact rfl) (by first | with_reducible assumption | exact rfl); clear hr0) | (with_reducible refine at_list ?_; refine wpList_neg rfl rfl rfl ?_; intro r hr0; have hr := hr0 _ (by first | with_reducible assumption | exact rfl); clear hr0) | (with_reducible refine at_list ?_; refine wpList_fop_g rfl rfl rfl rfl rfl ?_; intro r n hr0; have hr := hr0 _ _ (by first | with_reducible assumption | exact rfl) (by first | with_reducible assumption | exact rfl); clear hr0) | (with_reducible refine at_list ?_; refine wpList_wide rfl rfl rfl Try.underlying28 Try.underlying39 ?_; intro r n hr0; have hr := hr0 _ (by first | with_reducible assumption | exact rfl); clear hr0))
      (apply wp_region_plan; (iterate 4 ((apply wpC_det; (case hw => exact rfl); (case hs => (intro cs b h; cases h)); (case h1 => (intro w'; go_simp <;> exact rfl))); apply wpC_norm; (case ha => (simp only [Act.put, List.setIfInBounds_toArray, List.set_cons_zero, List.set_cons_succ]; exact rfl)))); ((apply wpC_val; (case hw => exact rfl); (case h1 => (intro w' hb hk0; obtain ⟨hT, hk⟩ := bv_next hb (by (repeat (with_reducible first | assumption | apply Trk.alloc | apply Trk.setCell | apply Trk.drewN | apply Trk.drew | exact Trk.nil _))); simp only [SameOn, World.size_alloc, World.size_setCell, World.size_drew, size_drewN', and_true] at hk; have hsz := Below.size hb; (try simp only [World.size_alloc, World.size_setCell, World.size_drew, size_drewN'] at hsz); go_simp <;> exact rfl))); apply wpC_norm; (case ha => (simp only [Act.put, List.setIfInBounds_toArray, List.set_cons_zero, List.set_cons_succ]; exact rfl))); (iterate 6 ((apply wpC_det; (case hw => exact rfl); (case hs => (intro cs b h; cases h)); (case h1 => (intro w'; go_simp <;> exact rfl))); apply wpC_norm; (case ha => (simp only [Act.put, List.setIfInBounds_toArray, List.set_cons_zero, List.set_cons_succ]; exact rfl)))); ((apply wpC_val; (case hw => exact rfl); (case h1 => (intro w' hb hk0; obtain ⟨hT, hk⟩ := bv_next hb (by (repeat (with_reducible first | assumption | apply Trk.alloc | apply Trk.setCell | apply Trk.drewN | apply Trk.drew | exact Trk.nil _))); simp only [SameOn, World.size_alloc, World.size_setCell, World.size_drew, size_drewN', and_true] at hk; have hsz := Below.size hb; (try simp only [World.size_alloc, World.size_setCell, World.size_drew, size_drewN'] at hsz); go_simp <;> exact rfl))); apply wpC_norm; (case ha => (simp only [Act.put, List.setIfInBounds_toArray, List.set_cons_zero, List.set_cons_succ]; exact rfl))); (iterate 2 ((apply wpC_fop rfl rfl rfl rfl rfl; intro r hr0; have hr := hr0 _ _ (by first | with_reducible assumption | exact rfl) (by first | with_reducible assumption | exact rfl); clear hr0); apply wpC_norm; (case ha => (simp only [Act.put, List.setIfInBounds_toArray, List.set_cons_zero, List.set_cons_succ]; exact rfl)))); (iterate 2 ((apply wpC_det; (case hw => exact rfl); (case hs => (intro cs b h; cases h)); (case h1 => (intro w'; go_simp <;> exact rfl))); apply wpC_norm; (case ha => (simp only [Act.put, List.setIfInBounds_toArray, List.set_cons_zero, List.set_cons_succ]; exact rfl)))); refine wpC_tail (by kernel_rfl) (by first | rfl | kernel_rfl) ?_; intro w' hb hkk; obtain ⟨hT, hk⟩ := bv_next hb (by (repeat (with_reducible first | assumption | apply Trk.alloc | apply Trk.setCell | apply Trk.drewN | apply Trk.drew | exact Trk.nil _))); simp only [SameOn, World.size_alloc, World.size_setCell, World.size_drew, size_drewN', and_true] at hk; have hsz := Below.size hb; (try simp only [World.size_alloc, World.size_setCell, World.size_drew, size_drewN'] at hsz))
      rotate_left
      all_goals (try (first | kernel_rfl | rfl))
      rename World => w3
      have S3 := Lib.hid (RW.stored (S2.out.1.later hb) (k * 4 + 3) r)
      have G3 := Lib.hid (World.grownBy.trans (G2.out.trans (below_grown hb (some g))) S3.out.2)
      have HR3 : Hid (cn .f32 r = elS b a x s k) := by
        show _ = _
        obtain ⟨i, rfl⟩ : ∃ i, k = i + 1 := ⟨k - 1, by omega⟩
        exact hr
      have HQ2 := Lib.hid (elQ_step' HQ.out hk1 hlt HS.out.len HR1.out HR3.out)
      go_wp2_with (first | (with_reducible refine at_list ?_; refine wpList_fop rfl rfl rfl rfl rfl ?_; intro r n hr0; have hr := hr0 _ _ (by first | with_reducible assumption | exact rfl) (by first | with_reducible assumption | exact rfl); clear hr0) | (with_reducible refine at_list ?_; refine wpList_neg rfl rfl rfl ?_; intro r hr0; have hr := hr0 _ (by first | with_reducible assumption | exact rfl); clear hr0) | (with_reducible refine at_list ?_; refine wpList_fop_g rfl rfl rfl rfl rfl ?_; intro r n hr0; have hr := hr0 _ _ (by first | with_reducible assumption | exact rfl) (by first | with_reducible assumption | exact rfl); clear hr0) | (with_reducible refine at_list ?_; refine wpList_wide rfl rfl rfl Try.underlying28 Try.underlying39 ?_; intro r n hr0; have hr := hr0 _ (by first | with_reducible assumption | exact rfl); clear hr0))
      exact ⟨⟨k + 1, _, by omega, by omega, by go_num, S3.out.1, HQ2.out, G3.out⟩, by first | (simp [intOf]; done) | (simp [intOf]; omega)⟩
    · have hlti : ¬ (k : Int) < (n : Int) := by omega
      obtain rfl : k = n := by omega
      have hn1w : IntKind.i64.wrap ((k : Int) - 1) = ((k - 1 : Nat) : Int) := by rw [IntWalk.i64_in _ (by omega)]; omega
      have HT1 : Hid (Turn B w.heap.size w wr) := (Turn.below HB0.out).trans (Turn.of (u := .slice (some ⟨g, 0, none⟩) 0 0) HG.out (fun j hj => by cases hj; exact ⟨hBg1, hBg2⟩))
      have HO1 : Hid (OF w.heap.size wr (.slice (some ⟨w.heap.size, 0, none⟩) k k) (List.replicate k 0)) := HO0.out.kept HG.out (.inr (by simp [Value.ownBlock]; omega))
      have hgz : g < wr.heap.size := Nat.lt_of_lt_of_le hgw1 HG.out.size
      rename World => wo
      go_wp2_with (first | (with_reducible refine at_list ?_; refine wpList_fop rfl rfl rfl rfl rfl ?_; intro r n hr0; have hr := hr0 _ _ (by first | with_reducible assumption | exact rfl) (by first | with_reducible assumption | exact rfl); clear hr0) | (with_reducible refine at_list ?_; refine wpList_neg rfl rfl rfl ?_; intro r hr0; have hr := hr0 _ (by first | with_reducible assumption | exact rfl); clear hr0) | (with_reducible refine at_list ?_; refine wpList_fop_g rfl rfl rfl rfl rfl ?_; intro r n hr0; have hr := hr0 _ _ (by first | with_reducible assumption | exact rfl) (by first | with_reducible assumption | exact rfl); clear hr0) | (with_reducible refine at_list ?_; refine wpList_wide rfl rfl rfl Try.underlying28 Try.underlying39 ?_; intro r n hr0; have hr := hr0 _ (by first | with_reducible assumption | exact rfl); clear hr0))
      have hww : w.heap.size < wo.heap.size := Nat.lt_of_lt_of_le (OF.block HO0.out _ rfl).2 HG.out.size
      clear HG HO0 HB0 hlt hlti hkn hk1
      go_loopw [6] (fun z wr => ∃ (m : Nat) (ys : List Nat), m ≤ k ∧ ((m = 0 ∧ z = .int .i64 (-1)) ∨ ∃ j : Nat, m = j + 1 ∧ z = .int .i64 (j : Int)) ∧ ys.length = k ∧ Hid (OF w.heap.size wr (.slice (some ⟨w.heap.size, 0, none⟩) k k) ys) ∧ Hid (∀ j, m ≤ j → j < k → cn .f32 (ys.getD j 0) = solO b a x s k j) ∧ Hid (wo.grownBy wr (some w.heap.size))) (fun z _ => (intOf z + 1).toNat)
      case atStart => exact ⟨k, List.replicate k 0, by omega, .inr ⟨k - 1, by omega, rfl⟩, by simp, HO1.out, fun j h1 h2 => by omega, World.grownBy.refl _ _⟩
      case round =>
        obtain ⟨m, ys, hmk, hz, hyl, HO, HD, HG⟩ := hrel
        have HYL := Lib.hid hyl
        have hgr : g < wr.heap.size := Nat.lt_of_lt_of_le hgz HG.out.size
        have hwr : w.heap.size < wr.heap.size := Nat.lt_of_lt_of_le hww HG.out.size
        have HSr : Hid (RW B wr (.slice (some ⟨g, 0, none⟩) k c) k zs) := World.ownsRow.kept HS.out HG.out (.inr (by simp [Value.ownBlock]; omega))
        clear hyl
        rcases hz with ⟨rfl, rfl⟩ | ⟨j, rfl, rfl⟩
        · have HT : Hid (Turn B w.heap.size w wr) := turn_new HT1.out HG.out
          have HL : Hid (ys.map (cn .f32) = solL b a x s k) := solL_of HYL.out (fun j hj => HD.out j (by omega) hj)
          have HO2 : Hid (OF w.heap.size wr (.slice (some ⟨w.heap.size, 0, none⟩) k k) ys) := HO.out
          go_wp2_with (first | (with_reducible refine at_list ?_; refine wpList_fop rfl rfl rfl rfl rfl ?_; intro r n hr0; have hr := hr0 _ _ (by first | with_reducible assumption | exact rfl) (by first | with_reducible assumption | exact rfl); clear hr0) | (with_reducible refine at_list ?_; refine wpList_neg rfl rfl rfl ?_; intro r hr0; have hr := hr0 _ (by first | with_reducible assumption | exact rfl); clear hr0) | (with_reducible refine at_list ?_; refine wpList_fop_g rfl rfl rfl rfl rfl ?_; intro r n hr0; have hr := hr0 _ _ (by first | with_reducible assumption | exact rfl) (by first | with_reducible assumption | exact rfl); clear hr0) | (with_reducible refine at_list ?_; refine wpList_wide rfl rfl rfl Try.underlying28 Try.underlying39 ?_; intro r n hr0; have hr := hr0 _ (by first | with_reducible assumption | exact rfl); clear hr0))
          go_ret
          exact ⟨_, ys, rfl, HT.out, HO2.out, HL.out⟩
        · have hj : j < k := by omega
          have hji : (j : Int) < (k : Int) := by omega
          have hj0 : (0 : Int) ≤ (j : Int) := by omega
          have hjw : IntKind.i64.wrap ((j : Int) - 1) = (j : Int) - 1 := IntWalk.i64_in _ (by omega)
          have c1 := (HSr.out.cell (j := j * 4 + 1) (by omega)).1
          have c2 := (HSr.out.cell (j := j * 4 + 2) (by omega)).1
          have c3 := (HSr.out.cell (j := j * 4 + 3) (by omega)).1
          have q1 := (HQ.out j hj).2.1
          have q2 := (HQ.out j hj).2.2.1
          have q3 := (HQ.out j hj).2.2.2
          rw [if_pos hj] at q1 q3
          generalize zs.getD (j * 4 + 1) 0 = v1 at c1 q1
          generalize zs.getD (j * 4 + 2) 0 = v2 at c2 q2
          generalize zs.getD (j * 4 + 3) 0 = v3 at c3 q3
          obtain ⟨old, hcell0, hfr⟩ : ∃ old, wr.cell? ⟨w.heap.size, j, none⟩ = some old ∧ wr.frozen? ⟨w.heap.size, j, none⟩ = false := by
            rcases OF.view HO.out with ⟨h, _⟩ | ⟨g', c', h1, _, _, _, _, h2⟩
            · cases h
            · simp only [Value.slice.injEq, Option.some.injEq, Addr.mk.injEq, and_true] at h1
              obtain ⟨rfl, _⟩ := h1
              have := h2 j (by rw [HYL.out]; exact hj)
              exact ⟨_, this.1, this.2⟩
          have hT : Trk wr [g, w.heap.size] := ((Trk.nil wr).more hwr).more hgr
          have key : ∀ rr nn, cn .f32 rr = solO b a x s k j → (∃ (m : Nat) (ys : List Nat), m ≤ k ∧ ((m = 0 ∧ Value.int .i64 ((j : Int) - 1) = .int .i64 (-1)) ∨ ∃ j' : Nat, m = j' + 1 ∧ Value.int .i64 ((j : Int) - 1) = .int .i64 (j' : Int)) ∧ ys.length = k ∧ Hid (OF w.heap.size ((wr.setCell ⟨w.heap.size, j, none⟩ (.float .f32 rr)).drewN nn) (.slice (some ⟨w.heap.size, 0, none⟩) k k) ys) ∧ Hid (∀ j, m ≤ j → j < k → cn .f32 (ys.getD j 0) = solO b a x s k j) ∧ Hid (wo.grownBy ((wr.setCell ⟨w.heap.size, j, none⟩ (.float .f32 rr)).drewN nn) (some w.heap.size))) := by
            intro rr nn hrr
            have h4 := HO.out
            unfold OF at h4
            rw [HYL.out] at h4
            obtain ⟨h2, h3⟩ := World.ownsRow.stored h4 j (.float .f32 rr)
            refine ⟨j, ys.set j rr, by omega, ?_, by rw [List.length_set]; exact HYL.out, ?_, ?_, ?_⟩
            · rcases Nat.eq_zero_or_pos j with h | h
              · exact .inl ⟨h, by rw [h]; rfl⟩
              · exact .inr ⟨j - 1, by omega, by congr 1; omega⟩
            · show OF _ _ _ _
              refine OF.drewN ?_ _
              unfold OF
              rw [List.length_set, HYL.out, List.map_set]
              exact h2
            · show ∀ _, _
              intro i h1 h2'
              by_cases hi : i = j
              · subst hi; rw [getL_set_eq (by rw [HYL.out]; exact hj)]; exact hrr
              · rw [getL_set_ne hi]; exact HD.out i (by omega) h2'
            · exact World.grownBy.trans (HG.out.trans h3) (below_grown (below_drewN (Below.refl _ _) nn) _)
          have KEY := Lib.hid key
          clear key
          by_cases hl : j + 1 < k
          · have hli : (j : Int) < ((k - 1 : Nat) : Int) := by omega
            have hjp : IntKind.i64.wrap ((j : Int) + 1) = ((j + 1 : Nat) : Int) := by rw [IntWalk.i64_in _ (by omega)]; omega
            have hjpi : ((j + 1 : Nat) : Int) < (k : Int) := by omega
            have hn0 : wr.cell? ⟨w.heap.size, j + 1, none⟩ = some (.float .f32 (ys.getD (j + 1) 0)) := by
              rcases OF.view HO.out with ⟨h, _⟩ | ⟨g', c', h1, _, _, _, _, h2⟩
              · cases h
              · simp only [Value.slice.injEq, Option.some.injEq, Addr.mk.injEq, and_true] at h1
                obtain ⟨rfl, _⟩ := h1
                exact (h2 (j + 1) (by rw [HYL.out]; exact hl)).1
            have hn1' := HD.out (j + 1) (by omega) hl
            generalize ys.getD (j + 1) 0 = vn at hn0 hn1'
            go_wp2_with (first | (with_reducible refine at_list ?_; refine wpList_fop rfl rfl rfl rfl rfl ?_; intro r n hr0; have hr := hr0 _ _ (by first | with_reducible assumption | exact rfl) (by first | with_reducible assumption | exact rfl); clear hr0) | (with_reducible refine at_list ?_; refine wpList_neg rfl rfl rfl ?_; intro r hr0; have hr := hr0 _ (by first | with_reducible assumption | exact rfl); clear hr0) | (with_reducible refine at_list ?_; refine wpList_fop_g rfl rfl rfl rfl rfl ?_; intro r n hr0; have hr := hr0 _ _ (by first | with_reducible assumption | exact rfl) (by first | with_reducible assumption | exact rfl); clear hr0) | (with_reducible refine at_list ?_; refine wpList_wide rfl rfl rfl Try.underlying28 Try.underlying39 ?_; intro r n hr0; have hr := hr0 _ (by first | with_reducible assumption | exact rfl); clear hr0))
            (refine wp_some_lit (by kernel_rfl) (by kernel_rfl) ?_; (iterate 11 (refine wpSome_one ?_; go_big_quiet_step (fail); refine wpQuiet_nil ?_)); (iterate 2 ((with_reducible refine at_some ?_; refine wpSome_fop rfl rfl rfl rfl rfl ?_; intro r hr0; have hr := hr0 _ _ (by first | with_reducible assumption | exact rfl) (by first | with_reducible assumption | exact rfl); clear hr0); simp only [Act.put, List.setIfInBounds_toArray, List.set_cons_zero, List.set_cons_succ])); (refine wpSome_one ?_; go_big_quiet_step (fail); refine wpQuiet_nil ?_); refine wpSome_nil ?_; intro w' hw'; obtain ⟨nq, rfl⟩ := hw')
            go_wp2_with (first | (with_reducible refine at_list ?_; refine wpList_fop rfl rfl rfl rfl rfl ?_; intro r n hr0; have hr := hr0 _ _ (by first | with_reducible assumption | exact rfl) (by first | with_reducible assumption | exact rfl); clear hr0) | (with_reducible refine at_list ?_; refine wpList_neg rfl rfl rfl ?_; intro r hr0; have hr := hr0 _ (by first | with_reducible assumption | exact rfl); clear hr0) | (with_reducible refine at_list ?_; refine wpList_fop_g rfl rfl rfl rfl rfl ?_; intro r n hr0; have hr := hr0 _ _ (by first | with_reducible assumption | exact rfl) (by first | with_reducible assumption | exact rfl); clear hr0) | (with_reducible refine at_list ?_; refine wpList_wide rfl rfl rfl Try.underlying28 Try.underlying39 ?_; intro r n hr0; have hr := hr0 _ (by first | with_reducible assumption | exact rfl); clear hr0))
            exact ⟨KEY.out _ _ (hr.trans (solO_next b a x s k hl).symm), by first | (simp [intOf]; done) | (simp [intOf]; omega)⟩
          · have hli : ¬ (j : Int) < ((k - 1 : Nat) : Int) := by omega
            go_wp2_with (first | (with_reducible refine at_list ?_; refine wpList_fop rfl rfl rfl rfl rfl ?_; intro r n hr0; have hr := hr0 _ _ (by first | with_reducible assumption | exact rfl) (by first | with_reducible assumption | exact rfl); clear hr0) | (with_reducible refine at_list ?_; refine wpList_neg rfl rfl rfl ?_; intro r hr0; have hr := hr0 _ (by first | with_reducible assumption | exact rfl); clear hr0) | (with_reducible refine at_list ?_; refine wpList_fop_g rfl rfl rfl rfl rfl ?_; intro r n hr0; have hr := hr0 _ _ (by first | with_reducible assumption | exact rfl) (by first | with_reducible assumption | exact rfl); clear hr0) | (with_reducible refine at_list ?_; refine wpList_wide rfl rfl rfl Try.underlying28 Try.underlying39 ?_; intro r n hr0; have hr := hr0 _ (by first | with_reducible assumption | exact rfl); clear hr0))
            exact ⟨KEY.out _ _ (hr.trans (solO_last b a x s k (by omega)).symm), by first | (simp [intOf]; done) | (simp [intOf]; omega)⟩
end Go.Proofs.Ytpnkapdemgieaaa
set_option linter.unusedSimpArgs false
set_option linter.unusedVariables false
set_option linter.unusedSectionVars false
namespace Go.Proofs.Ytpnkapdemgieaaa
open Go Go.RowKit
/-- Half a unit in the last place, and a little more. -/
def uu : Rat := 1 / 16700000
theorem rnd_rl {f : Ieee.Format} {v r M : Rat} (h : Rnd f v r) (h1 : v ≤ M) (h2 : -v ≤ M) : 2 * (r - v) ≤ M * tp (-(f.fractionBits : Int)) + tp f.leastPlace ∧ 2 * (v - r) ≤ M * tp (-(f.fractionBits : Int)) + tp f.leastPlace := by
  obtain ⟨last, k, hl, hr, e1, e2, h3⟩ := h
  have hM : 0 ≤ M := by grind
  have t1 := tp_pos (-(f.fractionBits : Int))
  have t2 := tp_pos f.leastPlace
  have hm := Rat.mul_nonneg hM (Rat.le_of_lt t1)
  have hle : tp last ≤ M * tp (-(f.fractionBits : Int)) + tp f.leastPlace := by
    have key : tp (last + f.fractionBits) ≤ M → tp last ≤ M * tp (-(f.fractionBits : Int)) := fun h => by
      have e : tp last = tp (last + f.fractionBits) * tp (-(f.fractionBits : Int)) := by rw [← tp_add]; congr 1; omega
      rw [e]
      exact Rat.mul_le_mul_of_nonneg_right h (Rat.le_of_lt t1)
    rcases h3 with h3 | h3 | h3
    · rw [h3]; grind
    · have := key (Rat.le_trans h3 h1); grind
    · have := key (Rat.le_trans h3 h2); grind
  exact ⟨by grind, by grind⟩
theorem tp_m23 : tp (-23) * 8388608 = 1 := by
  have h : tp (-23) * tp 23 = 1 := by rw [← tp_add]; exact tp_zero
  rwa [show tp 23 = 8388608 from (tp_nat 23).trans rfl] at h
theorem tp_m60 : tp (-149) * 1152921504606846976 ≤ 1 := by
  have h : tp (-60) * tp 60 = 1 := by rw [← tp_add]; exact tp_zero
  rw [show tp 60 = 1152921504606846976 from (tp_nat 60).trans rfl] at h
  have := tp_le (show (-149 : Int) ≤ -60 by decide)
  grind
/-- What is rounded lies near. -/
theorem rnd_u {v r M : Rat} (h : Rnd FloatKind.f32.format v r) (hM : 1 / 1000000 ≤ M) (h1 : v ≤ M) (h2 : -v ≤ M) : r - v ≤ M * uu ∧ v - r ≤ M * uu := by
  obtain ⟨e1, e2⟩ := rnd_rl h h1 h2
  have t23 := tp_m23
  have t60 := tp_m60
  have e3 : tp (-(FloatKind.f32.format.fractionBits : Int)) = tp (-23) := rfl
  have e4 : tp FloatKind.f32.format.leastPlace = tp (-149) := rfl
  rw [e3, e4] at e1 e2
  have t23' : tp (-23) = 1 / 8388608 := by grind
  rw [t23'] at e1 e2
  unfold uu
  constructor <;> grind
theorem fop_u (op : BinOp) (hop : arithOp op = true) {x y : Nat} (hx : fnt .f32 x = true) (hy : fnt .f32 y = true) (h0 : op = .quo → fv .f32 y ≠ 0) {M : Rat} (hM : 1 / 1000000 ≤ M) (hM2 : M ≤ 1000000000000) (h1 : ex op (fv .f32 x) (fv .f32 y) ≤ M) (h2 : -ex op (fv .f32 x) (fv .f32 y) ≤ M) :
    fnt .f32 (fop op .f32 x y) = true ∧ fv .f32 (fop op .f32 x y) - ex op (fv .f32 x) (fv .f32 y) ≤ M * uu ∧ ex op (fv .f32 x) (fv .f32 y) - fv .f32 (fop op .f32 x y) ≤ M * uu := by
  have t40 : tp 40 = 1099511627776 := (tp_nat 40).trans rfl
  obtain ⟨g1, g2⟩ := fop_rnd op hop .f32 hx hy h0 40 (by decide) (by rw [t40]; grind) (by rw [t40]; grind)
  exact ⟨g1, rnd_u g2 hM h1 h2⟩
theorem rnd_le_wd {k : FloatKind} {x : Nat} {v r : Rat} (hx : fnt k x = true) (h : Rnd k.format v r) (hv : v ≤ fv k x) : r ≤ fv k x := by
  obtain ⟨z, q, hz, hq, e⟩ := rp_word hx
  rw [e] at hv ⊢
  exact h.le hz hq hv
theorem rnd_eq_wd {k : FloatKind} {x : Nat} {v r : Rat} (hx : fnt k x = true) (h : Rnd k.format v r) (hv : v = fv k x) : r = fv k x := by
  obtain ⟨z, q, hz, hq, e⟩ := rp_word hx
  rw [e] at hv ⊢
  exact (h.eq hz hq hv).trans hv
/-! ### One step, in exact numbers -/
/-- The right side behind a step of the elimination. -/
theorem el_step {W p qi ql f m m' S S' s so Z1 Z2 Z3 D ε g c d k Zm : Rat} (hf1 : -1 ≤ f) (hf2 : f ≤ 0) (hp : 0 ≤ p) (hqi : 0 ≤ qi) (hε : 0 ≤ ε) (hD : 0 ≤ D)
    (hg1 : f * m + p ≤ g) (hg2 : -(f * m + p) ≤ g) (hm1 : m' - (W + p + (qi + ql) + f * p) ≤ c) (hm2 : (W + p + (qi + ql) + f * p) - m' ≤ c)
    (hv1 : S - (m * Z1 - p * Z2) ≤ (m - p) * D + ε) (hv2 : (m * Z1 - p * Z2) - S ≤ (m - p) * D + ε)
    (hs1 : s - so ≤ k) (hs2 : so - s ≤ k) (hS1 : S' - (s - f * S) ≤ d) (hS2 : (s - f * S) - S' ≤ d)
    (ho1 : so - ((W + p + (qi + ql)) * Z2 - p * Z1 - qi * Z3) ≤ (W + ql) * D) (ho2 : ((W + p + (qi + ql)) * Z2 - p * Z1 - qi * Z3) - so ≤ (W + ql) * D)
    (hz1 : Z1 ≤ Zm) (hz1' : -Z1 ≤ Zm) (hz2 : Z2 ≤ Zm) (hz2' : -Z2 ≤ Zm) (hg0 : 0 ≤ g) (hc0 : 0 ≤ c) :
    S' - (m' * Z2 - qi * Z3) ≤ (m' - qi) * D + ε + (k + d + (g + c) * (Zm + D)) ∧ (m' * Z2 - qi * Z3) - S' ≤ (m' - qi) * D + ε + (k + d + (g + c) * (Zm + D)) := by
  have a1 := mul_bd (a := g) (b := Zm) (x := f * m + p) (y := Z1) (by grind) hg1 (by grind) hz1
  have a2 := mul_bd (a := c) (b := Zm) (x := m' - (W + p + (qi + ql) + f * p)) (y := Z2) (by grind) hm1 (by grind) hz2
  have a3 := Rat.mul_le_mul_of_nonneg_right hm2 hD
  have a4 := Rat.mul_le_mul_of_nonneg_right hg2 hD
  have b1 := Rat.mul_le_mul_of_nonneg_left hv1 (show 0 ≤ -f by grind)
  have b2 := Rat.mul_le_mul_of_nonneg_left hv2 (show 0 ≤ -f by grind)
  have b3 := Rat.mul_nonneg (show 0 ≤ 1 + f by grind) hε
  constructor <;> grind
/-- The first right side. -/
theorem el_first {W p qi ql m S so Z2 Z3 D c k Zm : Rat} (hD : 0 ≤ D) (hm1 : m - (W + p + (qi + ql)) ≤ c) (hm2 : (W + p + (qi + ql)) - m ≤ c)
    (hs1 : S - so ≤ k) (hs2 : so - S ≤ k) (ho1 : so - ((W + p + (qi + ql)) * Z2 - qi * Z3) ≤ (W + p + ql) * D) (ho2 : ((W + p + (qi + ql)) * Z2 - qi * Z3) - so ≤ (W + p + ql) * D)
    (hz2 : Z2 ≤ Zm) (hz2' : -Z2 ≤ Zm) (hc0 : 0 ≤ c) :
    S - (m * Z2 - qi * Z3) ≤ (m - qi) * D + (k + c * (Zm + D)) ∧ (m * Z2 - qi * Z3) - S ≤ (m - qi) * D + (k + c * (Zm + D)) := by
  have a2 := mul_bd (a := c) (b := Zm) (x := m - (W + p + (qi + ql))) (y := Z2) (by grind) hm1 (by grind) hz2
  have a3 := Rat.mul_le_mul_of_nonneg_right hm2 hD
  constructor <;> grind
/-- What is taken from the right side is not great. -/
theorem fs_bd {f m p S Z1 Z2 D ε g Zm : Rat} (hf1 : -1 ≤ f) (hf2 : f ≤ 0) (hp : 0 ≤ p) (hm : 0 ≤ m) (hg2 : -(f * m + p) ≤ g)
    (hv1 : S - (m * Z1 - p * Z2) ≤ (m - p) * D + ε) (hv2 : (m * Z1 - p * Z2) - S ≤ (m - p) * D + ε) (hz1 : Z1 ≤ Zm) (hz1' : -Z1 ≤ Zm) (hz2 : Z2 ≤ Zm) (hz2' : -Z2 ≤ Zm) (hε : 0 ≤ ε) (hD : 0 ≤ D) (hZm : 0 ≤ Zm) :
    f * S ≤ (p + g) * (Zm + D) + p * Zm + ε ∧ -(f * S) ≤ (p + g) * (Zm + D) + p * Zm + ε := by
  have hf : 0 ≤ -f := by grind
  have t0 := Rat.mul_nonneg hf hm
  have s0 := Rat.mul_nonneg hf hp
  have s1 := Rat.mul_le_mul_of_nonneg_right (show -f ≤ 1 by grind) hp
  have b1 := Rat.mul_le_mul_of_nonneg_left hv1 hf
  have b2 := Rat.mul_le_mul_of_nonneg_left hv2 hf
  have c1 := Rat.mul_le_mul_of_nonneg_left hz1 t0
  have c2 := Rat.mul_le_mul_of_nonneg_left hz1' t0
  have c3 := Rat.mul_le_mul_of_nonneg_right (show -f * m ≤ p + g by grind) hZm
  have c4 := Rat.mul_le_mul_of_nonneg_right (show -f * m ≤ p + g by grind) hD
  have d1 := Rat.mul_le_mul_of_nonneg_left hz2 s0
  have d2 := Rat.mul_le_mul_of_nonneg_left hz2' s0
  have d3 := Rat.mul_le_mul_of_nonneg_right s1 hZm
  have d4 := Rat.mul_nonneg s0 hD
  have e1 := Rat.mul_le_mul_of_nonneg_right (show -f ≤ 1 by grind) hε
  constructor <;> grind
/-- An answer. -/
theorem bk_step {qi m S y y2 Z1 Z2 D ε δ e w : Rat} (hqi : 0 ≤ qi) (hw : 0 < w) (hm : qi + w ≤ m) (hδ : 0 ≤ δ)
    (hv1 : S - (m * Z1 - qi * Z2) ≤ (m - qi) * D + ε) (hv2 : (m * Z1 - qi * Z2) - S ≤ (m - qi) * D + ε)
    (hy1 : y2 - Z2 ≤ D + δ) (hy2 : Z2 - y2 ≤ D + δ) (he1 : m * y - (S + qi * y2) ≤ e) (he2 : (S + qi * y2) - m * y ≤ e) (hδ2 : ε + e ≤ w * δ) :
    y - Z1 ≤ D + δ ∧ Z1 - y ≤ D + δ := by
  have hm0 : 0 < m := by grind
  have a1 := Rat.mul_le_mul_of_nonneg_left hy1 hqi
  have a2 := Rat.mul_le_mul_of_nonneg_left hy2 hqi
  have a3 := Rat.mul_le_mul_of_nonneg_right hm hδ
  exact ⟨mul_cancel_le hm0 (by grind), mul_cancel_le hm0 (by grind)⟩
/-- What is left of a row. -/
theorem res_step {W p q qi f m m' S S' s so y0 y y2 g c d k e0 e Y : Rat} (hf1 : -1 ≤ f) (hf2 : f ≤ 0)
    (hg1 : f * m + p ≤ g) (hg2 : -(f * m + p) ≤ g) (hm1 : m' - (W + p + q + f * p) ≤ c) (hm2 : (W + p + q + f * p) - m' ≤ c)
    (hs1 : s - so ≤ k) (hs2 : so - s ≤ k) (hS1 : S' - (s - f * S) ≤ d) (hS2 : (s - f * S) - S' ≤ d)
    (h01 : m * y0 - (S + p * y) ≤ e0) (h02 : (S + p * y) - m * y0 ≤ e0) (h11 : m' * y - (S' + qi * y2) ≤ e) (h12 : (S' + qi * y2) - m' * y ≤ e)
    (hY0 : y0 ≤ Y) (hY0' : -y0 ≤ Y) (hY : y ≤ Y) (hY' : -y ≤ Y) (he0 : 0 ≤ e0) :
    (W + p + q) * y - p * y0 - qi * y2 - so ≤ k + d + g * Y + e0 + e + c * Y ∧ so - ((W + p + q) * y - p * y0 - qi * y2) ≤ k + d + g * Y + e0 + e + c * Y := by
  have a1 := mul_bd (a := g) (b := Y) (x := f * m + p) (y := y0) (by grind) hg1 (by grind) hY0
  have a2 := mul_bd (a := c) (b := Y) (x := m' - (W + p + q + f * p)) (y := y) (by grind) hm1 (by grind) hY
  have b1 := Rat.mul_le_mul_of_nonneg_left h01 (show 0 ≤ -f by grind)
  have b2 := Rat.mul_le_mul_of_nonneg_left h02 (show 0 ≤ -f by grind)
  have b3 := Rat.mul_nonneg (show 0 ≤ 1 + f by grind) he0
  constructor <;> grind
theorem res_first {W p q qi m S so y y2 c k e Y : Rat} (hm1 : m - (W + p + q) ≤ c) (hm2 : (W + p + q) - m ≤ c)
    (hs1 : S - so ≤ k) (hs2 : so - S ≤ k) (h11 : m * y - (S + qi * y2) ≤ e) (h12 : (S + qi * y2) - m * y ≤ e) (hY : y ≤ Y) (hY' : -y ≤ Y) :
    (W + p + q) * y - qi * y2 - so ≤ k + e + c * Y ∧ so - ((W + p + q) * y - qi * y2) ≤ k + e + c * Y := by
  have a2 := mul_bd (a := c) (b := Y) (x := m - (W + p + q)) (y := y) (by grind) hm1 (by grind) hY
  constructor <;> grind
/-- By how much a row is taken from the next one. -/
def elF (b a x : Nat → Nat) (i : Nat) : Nat := fop .quo .f32 (b (i + 1)) (elA b a x i)
/-- How much passes on to the right within the row; how much at the right end. -/
def qiR (p : Nat → Rat) (n i : Nat) : Rat := if i + 1 < n then p (i + 1) else 0
def qlR (p : Nat → Rat) (n i : Nat) : Rat := if i + 1 < n then 0 else p (i + 1)
theorem qR_sum (p : Nat → Rat) (n i : Nat) : qiR p n i + qlR p n i = p (i + 1) := by unfold qiR qlR; split <;> grind
theorem qiR_in {p : Nat → Rat} {n i : Nat} (h : i + 1 < n) : qiR p n i = p (i + 1) := if_pos h
theorem qiR_last {p : Nat → Rat} {n i : Nat} (h : ¬ i + 1 < n) : qiR p n i = 0 := if_neg h
theorem qiR_le {p : Nat → Rat} {n i : Nat} (h : 0 ≤ p (i + 1)) : 0 ≤ qiR p n i ∧ qiR p n i ≤ p (i + 1) := by unfold qiR; split <;> grind
end Go.Proofs.Ytpnkapdemgieaaa
set_option linter.unusedSimpArgs false
set_option linter.unusedVariables false
set_option linter.unusedSectionVars false
namespace Go.Proofs.Ytpnkapdemgieaaa
open Go Go.RowKit
theorem el_step2 {W p qi ql f m m' S S' s so Z1 Z2 Z3 D g c d k t Zm : Rat} (hf1 : -1 ≤ f) (hf2 : f ≤ 0) (hp : 0 ≤ p) (hqi : 0 ≤ qi) (hD : 0 ≤ D)
    (hg1 : f * m + p ≤ g) (hg2 : -(f * m + p) ≤ g) (hm1 : m' - (W + p + (qi + ql) + f * p) ≤ c) (hm2 : (W + p + (qi + ql) + f * p) - m' ≤ c)
    (hv1 : S - (m * Z1 - p * Z2) ≤ (m - p) * D) (hv2 : (m * Z1 - p * Z2) - S ≤ (m - p) * D)
    (hs1 : s - so ≤ k) (hs2 : so - s ≤ k) (hS1 : S' - (s - f * S) ≤ d) (hS2 : (s - f * S) - S' ≤ d)
    (ho1 : so - ((W + p + (qi + ql)) * Z2 - p * Z1 - qi * Z3) ≤ (W + ql) * D - t) (ho2 : ((W + p + (qi + ql)) * Z2 - p * Z1 - qi * Z3) - so ≤ (W + ql) * D - t)
    (hz1 : Z1 ≤ Zm) (hz1' : -Z1 ≤ Zm) (hz2 : Z2 ≤ Zm) (hz2' : -Z2 ≤ Zm) (hg0 : 0 ≤ g) (hc0 : 0 ≤ c) :
    S' - (m' * Z2 - qi * Z3) ≤ (m' - qi) * D + (k + d + (g + c) * (Zm + D)) - t ∧ (m' * Z2 - qi * Z3) - S' ≤ (m' - qi) * D + (k + d + (g + c) * (Zm + D)) - t := by
  have a1 := mul_bd (a := g) (b := Zm) (x := f * m + p) (y := Z1) (by grind) hg1 (by grind) hz1
  have a2 := mul_bd (a := c) (b := Zm) (x := m' - (W + p + (qi + ql) + f * p)) (y := Z2) (by grind) hm1 (by grind) hz2
  have a3 := Rat.mul_le_mul_of_nonneg_right hm2 hD
  have a4 := Rat.mul_le_mul_of_nonneg_right hg2 hD
  have b1 := Rat.mul_le_mul_of_nonneg_left hv1 (show 0 ≤ -f by grind)
  have b2 := Rat.mul_le_mul_of_nonneg_left hv2 (show 0 ≤ -f by grind)
  constructor <;> grind
theorem el_first2 {W p qi ql m S so Z2 Z3 D c k t Zm : Rat} (hD : 0 ≤ D) (hm1 : m - (W + p + (qi + ql)) ≤ c) (hm2 : (W + p + (qi + ql)) - m ≤ c)
    (hs1 : S - so ≤ k) (hs2 : so - S ≤ k) (ho1 : so - ((W + p + (qi + ql)) * Z2 - qi * Z3) ≤ (W + p + ql) * D - t) (ho2 : ((W + p + (qi + ql)) * Z2 - qi * Z3) - so ≤ (W + p + ql) * D - t)
    (hz2 : Z2 ≤ Zm) (hz2' : -Z2 ≤ Zm) (hc0 : 0 ≤ c) :
    S - (m * Z2 - qi * Z3) ≤ (m - qi) * D + (k + c * (Zm + D)) - t ∧ (m * Z2 - qi * Z3) - S ≤ (m - qi) * D + (k + c * (Zm + D)) - t := by
  have a2 := mul_bd (a := c) (b := Zm) (x := m - (W + p + (qi + ql))) (y := Z2) (by grind) hm1 (by grind) hz2
  have a3 := Rat.mul_le_mul_of_nonneg_right hm2 hD
  constructor <;> grind
/-- A row's size. -/
def sgm (W p : Nat → Rat) (i : Nat) : Rat := W i + p i + p (i + 1)
/-- Rows, near exact ones: each by its own size. -/
structure RowsQ (n : Nat) (b a x s : Nat → Nat) (p W so Z : Nat → Rat) (M D Zm ρ : Rat) : Prop where
  hn : 1 ≤ n ∧ n ≤ 6
  hM : 1 / 1024 ≤ M ∧ M ≤ 1000
  hD : 0 ≤ D ∧ 0 ≤ Zm ∧ Zm + D ≤ M
  hr : 1 ≤ ρ ∧ ρ ≤ 520
  hp : ∀ i, i ≤ n → 0 ≤ p i ∧ p i ≤ 16
  hW : ∀ i, i < n → 1 / 100 ≤ W i ∧ W i ≤ 300
  hρ : ∀ i, i < n → sgm W p i ≤ ρ * W i
  hb : ∀ i, i < n → V .f32 (b i) (-(p i))
  hx : ∀ i, i < n → V .f32 (x i) (-(p (i + 1)))
  ha : ∀ i, i < n → fnt .f32 (a i) = true ∧ fv .f32 (a i) - sgm W p i ≤ 21 / 10 * (sgm W p i * uu) ∧ sgm W p i - fv .f32 (a i) ≤ 21 / 10 * (sgm W p i * uu)
  hs : ∀ i, i < n → fnt .f32 (s i) = true ∧ fv .f32 (s i) - so i ≤ 5 * (sgm W p i * (M * uu)) ∧ so i - fv .f32 (s i) ≤ 5 * (sgm W p i * (M * uu))
  hsb : ∀ i, i < n → so i ≤ 11 / 10 * (sgm W p i * M) ∧ -so i ≤ 11 / 10 * (sgm W p i * M)
  hZ : ∀ i, Z i ≤ Zm ∧ -Z i ≤ Zm
  hof : so 0 - ((W 0 + p 0 + (qiR p n 0 + qlR p n 0)) * Z 0 - qiR p n 0 * Z 1) ≤ (W 0 + p 0 + qlR p n 0) * D - 16 * (ρ * W 0 * (M * uu)) ∧ ((W 0 + p 0 + (qiR p n 0 + qlR p n 0)) * Z 0 - qiR p n 0 * Z 1) - so 0 ≤ (W 0 + p 0 + qlR p n 0) * D - 16 * (ρ * W 0 * (M * uu))
  hoi : ∀ i, i + 1 < n → so (i + 1) - ((W (i + 1) + p (i + 1) + (qiR p n (i + 1) + qlR p n (i + 1))) * Z (i + 1) - p (i + 1) * Z i - qiR p n (i + 1) * Z (i + 2)) ≤ (W (i + 1) + qlR p n (i + 1)) * D - 16 * (ρ * W (i + 1) * (M * uu)) ∧ ((W (i + 1) + p (i + 1) + (qiR p n (i + 1) + qlR p n (i + 1))) * Z (i + 1) - p (i + 1) * Z i - qiR p n (i + 1) * Z (i + 2)) - so (i + 1) ≤ (W (i + 1) + qlR p n (i + 1)) * D - 16 * (ρ * W (i + 1) * (M * uu))
section
variable {n : Nat} {b a x s : Nat → Nat} {p W so Z : Nat → Rat} {M D Zm ρ : Rat}
theorem RowsQ.mu (h : RowsQ n b a x s p W so Z M D Zm ρ) : 0 < uu ∧ 16700000 * uu = 1 ∧ 16700000 * (M * uu) = M ∧ 0 < M * uu := by
  have u1 : 16700000 * uu = 1 := by unfold uu; decide +kernel
  have u0 : 0 < uu := by unfold uu; decide +kernel
  have hM := h.hM
  exact ⟨u0, u1, by grind, Rat.mul_pos (by grind) u0⟩
/-- A row's size, and what it is times small numbers. -/
theorem RowsQ.sz (h : RowsQ n b a x s p W so Z M D Zm ρ) {i : Nat} (hi : i < n) :
    (1 / 100 ≤ sgm W p i ∧ sgm W p i ≤ 332 ∧ W i ≤ sgm W p i ∧ p i ≤ sgm W p i ∧ p (i + 1) ≤ sgm W p i) ∧ (0 ≤ sgm W p i * uu ∧ 16700000 * (sgm W p i * uu) = sgm W p i) ∧ (sgm W p i * uu ≤ W i / 32000) ∧ (0 ≤ sgm W p i * (M * uu) ∧ sgm W p i * (M * uu) ≤ ρ * W i * (M * uu)) := by
  obtain ⟨u0, u1, u2, u3⟩ := h.mu
  obtain ⟨w1, w2⟩ := h.hW i hi
  obtain ⟨p0, p1⟩ := h.hp i (by omega)
  obtain ⟨q0, q1⟩ := h.hp (i + 1) (by omega)
  have r := h.hρ i hi
  obtain ⟨r1, r2⟩ := h.hr
  have e : sgm W p i = W i + p i + p (i + 1) := rfl
  have k1 := Rat.mul_le_mul_of_nonneg_right r2 (show 0 ≤ W i by grind)
  have k2 := Rat.mul_le_mul_of_nonneg_right r (Rat.le_of_lt u3)
  have e2 : 16700000 * (sgm W p i * uu) = sgm W p i := by grind
  have k3 : 0 ≤ sgm W p i * uu := Rat.mul_nonneg (by grind) (Rat.le_of_lt u0)
  have k4 : 0 ≤ sgm W p i * (M * uu) := Rat.mul_nonneg (by grind) (Rat.le_of_lt u3)
  exact ⟨⟨by grind, by grind, by grind, by grind, by grind⟩, ⟨k3, e2⟩, by grind, k4, k2⟩
/-- The pivot. -/
structure PivQ (p W : Nat → Rat) (b a x : Nat → Nat) (i : Nat) : Prop where
  f : fnt .f32 (elA b a x i) = true
  lo : p (i + 1) + 99 / 100 * W i ≤ fv .f32 (elA b a x i)
  hi : fv .f32 (elA b a x i) ≤ 101 / 100 * sgm W p i
/-- From pivot to pivot. -/
structure LnkQ (p W : Nat → Rat) (b a x : Nat → Nat) (i : Nat) : Prop where
  f : fnt .f32 (elF b a x i) = true
  lo : -1 ≤ fv .f32 (elF b a x i)
  hi : fv .f32 (elF b a x i) ≤ 0
  g1 : fv .f32 (elF b a x i) * fv .f32 (elA b a x i) + p (i + 1) ≤ 11 / 10 * (sgm W p (i + 1) * uu)
  g2 : -(fv .f32 (elF b a x i) * fv .f32 (elA b a x i) + p (i + 1)) ≤ 11 / 10 * (sgm W p (i + 1) * uu)
  m1 : fv .f32 (elA b a x (i + 1)) - (W (i + 1) + p (i + 1) + p (i + 2) + fv .f32 (elF b a x i) * p (i + 1)) ≤ 43 / 10 * (sgm W p (i + 1) * uu)
  m2 : (W (i + 1) + p (i + 1) + p (i + 2) + fv .f32 (elF b a x i) * p (i + 1)) - fv .f32 (elA b a x (i + 1)) ≤ 43 / 10 * (sgm W p (i + 1) * uu)
theorem RowsQ.first (h : RowsQ n b a x s p W so Z M D Zm ρ) : PivQ p W b a x 0 := by
  have hn := h.hn
  obtain ⟨a0, a1, a2⟩ := h.ha 0 (by omega)
  obtain ⟨⟨s1, s2, s3, s4, s5⟩, ⟨k1, k2⟩, k3, _⟩ := h.sz (i := 0) (by omega)
  obtain ⟨w0, w1⟩ := h.hW 0 (by omega)
  obtain ⟨p0, p1⟩ := h.hp 0 (by omega)
  have e : sgm W p 0 = W 0 + p 0 + p 1 := rfl
  exact ⟨a0, by show p 1 + 99 / 100 * W 0 ≤ fv .f32 (a 0); grind, by show fv .f32 (a 0) ≤ _; grind⟩
theorem RowsQ.next (h : RowsQ n b a x s p W so Z M D Zm ρ) {i : Nat} (hi : i + 1 < n) (hp : PivQ p W b a x i) : LnkQ p W b a x i ∧ PivQ p W b a x (i + 1) := by
  obtain ⟨u0, u1, _, _⟩ := h.mu
  obtain ⟨a0, a1, a2⟩ := h.ha (i + 1) hi
  obtain ⟨p0, p1⟩ := h.hp (i + 1) (by omega)
  obtain ⟨q0, q1⟩ := h.hp (i + 2) (by omega)
  obtain ⟨w0, w1⟩ := h.hW (i + 1) hi
  obtain ⟨w0', w1'⟩ := h.hW i (by omega)
  obtain ⟨⟨s1, s2, s3, s4, s5⟩, ⟨k1, k2⟩, k3, _⟩ := h.sz hi
  obtain ⟨⟨t1, t2, t3, t4, t5⟩, _, _, _⟩ := h.sz (i := i) (by omega)
  have e : sgm W p (i + 1) = W (i + 1) + p (i + 1) + p (i + 2) := rfl
  have hb := h.hb (i + 1) hi
  have hx := h.hx i (by omega)
  obtain ⟨m0, ml, mh⟩ := hp
  have mp : 0 < fv .f32 (elA b a x i) := by grind
  have mq : fv .f32 (elA b a x i) ≤ 336 := by grind
  have ml' : p (i + 1) ≤ fv .f32 (elA b a x i) := by grind
  obtain ⟨σ, hσ⟩ : ∃ y, sgm W p (i + 1) = y := ⟨_, rfl⟩
  rw [hσ] at a1 a2 s1 s2 s3 s4 s5 k1 k2 k3 e
  generalize sgm W p i = σ0 at *
  have dv : -(p (i + 1)) / fv .f32 (elA b a x i) * fv .f32 (elA b a x i) = -(p (i + 1)) := Rat.div_mul_cancel (by grind)
  have r0 : Rep .f32 (0 : Rat) := Rep.int (k := .f32) 0 (by decide)
  have r1 : Rep .f32 (1 : Rat) := Rep.int (k := .f32) 1 (by decide)
  have v1 : -1 ≤ -(p (i + 1)) / fv .f32 (elA b a x i) := mul_cancel_le mp (by rw [dv]; grind)
  have v2 : -(p (i + 1)) / fv .f32 (elA b a x i) ≤ 0 := mul_cancel_le mp (by rw [dv]; grind)
  obtain ⟨f0, f1, f2⟩ := fop_btw .quo rfl .f32 (a := -1) (b := 0) hb.1 m0 (fun _ => by grind) r1.neg r0 (by simp only [ex]; rw [hb.2]; exact v1) (by simp only [ex]; rw [hb.2]; exact v2)
  obtain ⟨_, e1, e2⟩ := fop_u .quo rfl hb.1 m0 (fun _ => by grind) (M := -(-(p (i + 1)) / fv .f32 (elA b a x i)) + 1 / 1000000) (by grind) (by grind) (by simp only [ex]; rw [hb.2]; grind) (by simp only [ex]; rw [hb.2]; grind)
  simp only [ex] at e1 e2
  rw [hb.2] at e1 e2
  have f0 : fnt .f32 (elF b a x i) = true := f0
  have f1 : -1 ≤ fv .f32 (elF b a x i) := f1
  have f2 : fv .f32 (elF b a x i) ≤ 0 := f2
  have e1 : fv .f32 (elF b a x i) - -(p (i + 1)) / fv .f32 (elA b a x i) ≤ (-(-(p (i + 1)) / fv .f32 (elA b a x i)) + 1 / 1000000) * uu := e1
  have e2 : -(p (i + 1)) / fv .f32 (elA b a x i) - fv .f32 (elF b a x i) ≤ (-(-(p (i + 1)) / fv .f32 (elA b a x i)) + 1 / 1000000) * uu := e2
  have g1' := Rat.mul_le_mul_of_nonneg_right e1 (Rat.le_of_lt mp)
  have g2' := Rat.mul_le_mul_of_nonneg_right e2 (Rat.le_of_lt mp)
  have eA : elA b a x (i + 1) = fop .sub .f32 (a (i + 1)) (fop .mul .f32 (elF b a x i) (x i)) := rfl
  obtain ⟨mw, hmw⟩ : ∃ y, elA b a x i = y := ⟨_, rfl⟩
  obtain ⟨fw, hfw⟩ : ∃ y, elF b a x i = y := ⟨_, rfl⟩
  rw [hmw] at m0 ml mh mp mq ml' dv v1 v2 e1 e2 g1' g2'
  rw [hfw] at f0 f1 f2 e1 e2 g1' g2' eA
  generalize -(p (i + 1)) / fv .f32 mw = q at *
  have mu1 := Rat.mul_le_mul_of_nonneg_right mq (Rat.le_of_lt u0)
  have pu1 := Rat.mul_le_mul_of_nonneg_right s4 (Rat.le_of_lt u0)
  have su1 := Rat.mul_le_mul_of_nonneg_right s1 (Rat.le_of_lt u0)
  have dvu : q * fv .f32 mw * uu = -(p (i + 1)) * uu := by rw [dv]
  clear e1 e2
  have g1 : fv .f32 fw * fv .f32 mw + p (i + 1) ≤ 11 / 10 * (σ * uu) := by grind
  have g2 : -(fv .f32 fw * fv .f32 mw + p (i + 1)) ≤ 11 / 10 * (σ * uu) := by grind
  -- the product
  obtain ⟨n0, n1⟩ := fneg_val hx.1
  have fp1 := Rat.mul_nonneg (show 0 ≤ -fv .f32 fw by grind) p0
  have fp2 := Rat.mul_le_mul_of_nonneg_right (show -fv .f32 fw ≤ 1 by grind) p0
  have hv : ex .mul (fv .f32 fw) (fv .f32 (x i)) = -fv .f32 fw * p (i + 1) := by simp only [ex]; rw [hx.2]; grind
  have t40 : tp 40 = 1099511627776 := (tp_nat 40).trans rfl
  obtain ⟨c0, c1⟩ := fop_rnd .mul rfl .f32 f0 hx.1 (by simp) 40 (by decide) (by rw [hv, t40]; grind) (by rw [hv, t40]; grind)
  rw [hv] at c1
  have c2 := rnd_u (M := σ) c1 (by grind) (by grind) (by grind)
  have c3 := c1.rep_ge r0 fp1
  have c4 := rnd_le_wd n0 c1 (by rw [n1, hx.2]; grind)
  rw [n1, hx.2] at c4
  generalize fop .mul .f32 fw (x i) = qw at *
  obtain ⟨d0, d1, d2⟩ := fop_u .sub rfl a0 c0 (by simp) (M := 11 / 10 * σ) (by grind) (by grind) (by simp only [ex]; grind) (by simp only [ex]; grind)
  simp only [ex] at d1 d2
  obtain ⟨m', hm'⟩ : ∃ y, fop .sub .f32 (a (i + 1)) qw = y := ⟨_, rfl⟩
  rw [hm'] at eA d0 d1 d2
  clear v1 v2 g1' g2' dvu mu1 su1 dv mh
  refine ⟨⟨?_, ?_, ?_, ?_, ?_, ?_, ?_⟩, ?_, ?_, ?_⟩
  · rw [hfw]; exact f0
  · rw [hfw]; exact f1
  · rw [hfw]; exact f2
  · rw [hfw, hmw, hσ]; exact g1
  · rw [hfw, hmw, hσ]; exact g2
  · rw [hfw, eA, hσ]; grind
  · rw [hfw, eA, hσ]; grind
  · rw [eA]; exact d0
  · rw [eA, show i + 1 + 1 = i + 2 by omega]; grind
  · rw [eA, hσ]; grind
theorem RowsQ.piv (h : RowsQ n b a x s p W so Z M D Zm ρ) : ∀ i, i < n → PivQ p W b a x i
  | 0, _ => h.first
  | i + 1, hi => (h.next hi (h.piv i (by omega))).2
theorem RowsQ.lnk (h : RowsQ n b a x s p W so Z M D Zm ρ) {i : Nat} (hi : i + 1 < n) : LnkQ p W b a x i := (h.next hi (h.piv i (by omega))).1
/-- The right side. -/
structure SdQ (n : Nat) (b a x s : Nat → Nat) (p Z : Nat → Rat) (D : Rat) (i : Nat) : Prop where
  f : fnt .f32 (elS b a x s i) = true
  v1 : fv .f32 (elS b a x s i) - (fv .f32 (elA b a x i) * Z i - qiR p n i * Z (i + 1)) ≤ (fv .f32 (elA b a x i) - qiR p n i) * D
  v2 : (fv .f32 (elA b a x i) * Z i - qiR p n i * Z (i + 1)) - fv .f32 (elS b a x s i) ≤ (fv .f32 (elA b a x i) - qiR p n i) * D
theorem RowsQ.sfirst (h : RowsQ n b a x s p W so Z M D Zm ρ) : SdQ n b a x s p Z D 0 := by
  obtain ⟨u0, u1, u2, u3⟩ := h.mu
  obtain ⟨D0, Z0, ZD⟩ := h.hD
  have hn := h.hn
  obtain ⟨a0, a1, a2⟩ := h.ha 0 (by omega)
  obtain ⟨s0, s1, s2⟩ := h.hs 0 (by omega)
  obtain ⟨o1, o2⟩ := h.hof
  obtain ⟨z1, z2⟩ := h.hZ 0
  obtain ⟨_, ⟨k1, _⟩, _, k3, k4⟩ := h.sz (i := 0) (by omega)
  have e : sgm W p 0 = W 0 + p 0 + p 1 := rfl
  have q := qR_sum p n 0
  have k := Rat.mul_le_mul_of_nonneg_left ZD k1
  have r := el_first2 (W := W 0) (p := p 0) (qi := qiR p n 0) (ql := qlR p n 0) (m := fv .f32 (a 0)) (S := fv .f32 (s 0)) (so := so 0) (Z2 := Z 0) (Z3 := Z 1) (D := D) (c := 21 / 10 * (sgm W p 0 * uu)) (k := 5 * (sgm W p 0 * (M * uu))) (t := 16 * (ρ * W 0 * (M * uu))) (Zm := Zm) D0 (by rw [q]; exact a1) (by rw [q]; exact a2) s1 s2 o1 o2 z1 z2 (by grind)
  generalize sgm W p 0 = σ at *
  exact ⟨s0, by show fv .f32 (s 0) - (fv .f32 (a 0) * Z 0 - _) ≤ (fv .f32 (a 0) - _) * D; have := r.1; grind, by show (fv .f32 (a 0) * Z 0 - _) - fv .f32 (s 0) ≤ (fv .f32 (a 0) - _) * D; have := r.2; grind⟩
theorem RowsQ.snext (h : RowsQ n b a x s p W so Z M D Zm ρ) {i : Nat} (hi : i + 1 < n) (hS : SdQ n b a x s p Z D i) : SdQ n b a x s p Z D (i + 1) := by
  obtain ⟨u0, u1, u2, u3⟩ := h.mu
  obtain ⟨D0, Z0, ZD⟩ := h.hD
  obtain ⟨M1, M2⟩ := h.hM
  have hn := h.hn
  obtain ⟨s0, s1, s2⟩ := h.hs (i + 1) hi
  obtain ⟨b1, b2⟩ := h.hsb (i + 1) hi
  obtain ⟨o1, o2⟩ := h.hoi i hi
  obtain ⟨z1, z1'⟩ := h.hZ i
  obtain ⟨z2, z2'⟩ := h.hZ (i + 1)
  obtain ⟨p0, p1⟩ := h.hp (i + 1) (by omega)
  obtain ⟨r0, _⟩ := h.hp (i + 2) (by omega)
  obtain ⟨⟨y1, y2, y3, y4, y5⟩, ⟨k1, k2⟩, _, k3, k4⟩ := h.sz hi
  have P := h.piv i (by omega)
  have L := h.lnk hi
  obtain ⟨w0', w1'⟩ := h.hW i (by omega)
  obtain ⟨S0, v1, v2⟩ := hS
  rw [qiR_in hi] at v1 v2
  have q := qR_sum p n (i + 1)
  have qn := (qiR_le (n := n) (i := i + 1) r0).1
  have mp : 0 ≤ fv .f32 (elA b a x i) := by have := P.lo; grind
  obtain ⟨f1, f2⟩ := fs_bd (ε := 0) L.lo L.hi p0 mp L.g2 (by rw [Rat.add_zero]; exact v1) (by rw [Rat.add_zero]; exact v2) z1 z1' z2 z2' Rat.le_refl D0 Z0
  have eS : elS b a x s (i + 1) = fop .sub .f32 (s (i + 1)) (fop .mul .f32 (elF b a x i) (elS b a x s i)) := rfl
  obtain ⟨Lf, Llo, Lhi, Lg1, Lg2, Lm1, Lm2⟩ := L
  have e : sgm W p (i + 1) = W (i + 1) + p (i + 1) + p (i + 2) := rfl
  have hG : p (i + 1) + 11 / 10 * (sgm W p (i + 1) * uu) ≤ 1001 / 1000 * sgm W p (i + 1) := by grind
  have j1 := Rat.mul_le_mul_of_nonneg_right hG (show 0 ≤ Zm + D by grind)
  have j2 := Rat.mul_le_mul_of_nonneg_left ZD (show 0 ≤ 1001 / 1000 * sgm W p (i + 1) by grind)
  have j3 := Rat.mul_le_mul_of_nonneg_right y4 Z0
  have j4 := Rat.mul_le_mul_of_nonneg_left (show Zm ≤ M by grind) (show 0 ≤ sgm W p (i + 1) by grind)
  have j5 := Rat.mul_le_mul_of_nonneg_left ZD k1
  have j6 := Rat.mul_le_mul_of_nonneg_right y1 (show 0 ≤ M by grind)
  have j7 := Rat.mul_le_mul_of_nonneg_right y2 (show 0 ≤ M by grind)
  have F1 : fv .f32 (elF b a x i) * fv .f32 (elS b a x s i) ≤ 21 / 10 * (sgm W p (i + 1) * M) := by grind
  have F2 : -(fv .f32 (elF b a x i) * fv .f32 (elS b a x s i)) ≤ 21 / 10 * (sgm W p (i + 1) * M) := by grind
  have esm : sgm W p (i + 1) * (M * uu) = sgm W p (i + 1) * M * uu := by grind
  have esn : 16700000 * (sgm W p (i + 1) * (M * uu)) = sgm W p (i + 1) * M := by grind
  obtain ⟨c0, c1, c2⟩ := fop_u .mul rfl Lf S0 (by simp) (M := 21 / 10 * (sgm W p (i + 1) * M)) (by grind) (by grind) (by simp only [ex]; exact F1) (by simp only [ex]; exact F2)
  simp only [ex] at c1 c2
  obtain ⟨pw, hpw⟩ : ∃ y, fop .mul .f32 (elF b a x i) (elS b a x s i) = y := ⟨_, rfl⟩
  rw [hpw] at c0 c1 c2 eS
  clear f1 f2 j1 j2 j3 j4 hG
  obtain ⟨d0, d1, d2⟩ := fop_u .sub rfl s0 c0 (by simp) (M := 33 / 10 * (sgm W p (i + 1) * M)) (by grind) (by grind) (by simp only [ex]; grind) (by simp only [ex]; grind)
  simp only [ex] at d1 d2
  rw [← eS] at d0 d1 d2
  have D1 : fv .f32 (elS b a x s (i + 1)) - (fv .f32 (s (i + 1)) - fv .f32 (elF b a x i) * fv .f32 (elS b a x s i)) ≤ 55 / 10 * (sgm W p (i + 1) * (M * uu)) := by grind
  have D2 : (fv .f32 (s (i + 1)) - fv .f32 (elF b a x i) * fv .f32 (elS b a x s i)) - fv .f32 (elS b a x s (i + 1)) ≤ 55 / 10 * (sgm W p (i + 1) * (M * uu)) := by grind
  have r := el_step2 (W := W (i + 1)) (p := p (i + 1)) (qi := qiR p n (i + 1)) (ql := qlR p n (i + 1)) (m' := fv .f32 (elA b a x (i + 1))) (Z3 := Z (i + 2)) (g := 11 / 10 * (sgm W p (i + 1) * uu)) (c := 43 / 10 * (sgm W p (i + 1) * uu)) Llo Lhi p0 qn D0 Lg1 Lg2 (by rw [q]; exact Lm1) (by rw [q]; exact Lm2) v1 v2 s1 s2 D1 D2 o1 o2 z1 z1' z2 z2' (by grind) (by grind)
  generalize sgm W p (i + 1) = σ at *
  clear c1 c2 d1 d2 D1 D2 v1 v2 F1 F2 Lg1 Lg2 Lm1 Lm2 s1 s2 o1 o2 b1 b2
  refine ⟨d0, ?_, ?_⟩
  · have := r.1; grind
  · have := r.2; grind
theorem RowsQ.sd (h : RowsQ n b a x s p W so Z M D Zm ρ) : ∀ i, i < n → SdQ n b a x s p Z D i
  | 0, _ => h.sfirst
  | i + 1, hi => h.snext hi (h.sd i (by omega))
/-- The answer. -/
structure YdQ (n : Nat) (b a x s : Nat → Nat) (Z : Nat → Rat) (M D ρ : Rat) (i : Nat) : Prop where
  f : fnt .f32 (solO b a x s n i) = true
  y1 : fv .f32 (solO b a x s n i) - Z i ≤ D + 34 / 10 * (ρ * (M * uu))
  y2 : Z i - fv .f32 (solO b a x s n i) ≤ D + 34 / 10 * (ρ * (M * uu))
theorem RowsQ.rm (h : RowsQ n b a x s p W so Z M D Zm ρ) : 0 ≤ ρ * (M * uu) ∧ 34 / 10 * (ρ * (M * uu)) ≤ M / 9000 := by
  obtain ⟨u0, u1, u2, u3⟩ := h.mu
  obtain ⟨r1, r2⟩ := h.hr
  have k := Rat.mul_le_mul_of_nonneg_right r2 (Rat.le_of_lt u3)
  exact ⟨Rat.mul_nonneg (by grind) (Rat.le_of_lt u3), by grind⟩
theorem RowsQ.ylast (h : RowsQ n b a x s p W so Z M D Zm ρ) {i : Nat} (hi : i + 1 = n) : YdQ n b a x s Z M D ρ i := by
  obtain ⟨u0, u1, u2, u3⟩ := h.mu
  obtain ⟨D0, Z0, ZD⟩ := h.hD
  obtain ⟨M1, M2⟩ := h.hM
  have hn := h.hn
  obtain ⟨z1, z1'⟩ := h.hZ i
  obtain ⟨r0, _⟩ := h.hp (i + 1) (by omega)
  obtain ⟨w0, w1⟩ := h.hW i (by omega)
  obtain ⟨m0, ml, mh⟩ := h.piv i (by omega)
  obtain ⟨S0, v1, v2⟩ := h.sd i (by omega)
  obtain ⟨⟨y1, y2, y3, y4, y5⟩, ⟨k1', k2'⟩, _, k3', k4'⟩ := h.sz (i := i) (by omega)
  obtain ⟨rm1, rm2⟩ := h.rm
  have qz : qiR p n i = 0 := qiR_last (by omega)
  rw [qz] at v1 v2
  have eY := solO_last b a x s n hi
  have mp : 0 < fv .f32 (elA b a x i) := by grind
  have dv : fv .f32 (elS b a x s i) / fv .f32 (elA b a x i) * fv .f32 (elA b a x i) = fv .f32 (elS b a x s i) := Rat.div_mul_cancel (by grind)
  have k1 := Rat.mul_le_mul_of_nonneg_left z1 (Rat.le_of_lt mp)
  have k2 := Rat.mul_le_mul_of_nonneg_left z1' (Rat.le_of_lt mp)
  have k3 := Rat.mul_le_mul_of_nonneg_left ZD (Rat.le_of_lt mp)
  have q1 : fv .f32 (elS b a x s i) / fv .f32 (elA b a x i) ≤ M := mul_cancel_le mp (by rw [dv]; grind)
  have dn : -(fv .f32 (elS b a x s i) / fv .f32 (elA b a x i)) * fv .f32 (elA b a x i) = -fv .f32 (elS b a x s i) := by grind
  have q2 : -(fv .f32 (elS b a x s i) / fv .f32 (elA b a x i)) ≤ M := mul_cancel_le mp (by rw [dn]; grind)
  obtain ⟨g0, g1, g2⟩ := fop_u .quo rfl S0 m0 (fun _ => by grind) (M := M) (by grind) (by grind) (by simp only [ex]; exact q1) (by simp only [ex]; exact q2)
  simp only [ex] at g1 g2
  rw [← eY] at g0 g1 g2
  generalize fv .f32 (elS b a x s i) / fv .f32 (elA b a x i) = q at *
  have x1 := Rat.mul_le_mul_of_nonneg_right g1 (Rat.le_of_lt mp)
  have x2 := Rat.mul_le_mul_of_nonneg_right g2 (Rat.le_of_lt mp)
  have x3 := Rat.mul_le_mul_of_nonneg_right mh (Rat.le_of_lt u3)
  have E1 : fv .f32 (elA b a x i) * fv .f32 (solO b a x s n i) - (fv .f32 (elS b a x s i) + 0 * 0) ≤ 33 / 10 * (sgm W p i * (M * uu)) := by grind
  have E2 : (fv .f32 (elS b a x s i) + 0 * 0) - fv .f32 (elA b a x i) * fv .f32 (solO b a x s n i) ≤ 33 / 10 * (sgm W p i * (M * uu)) := by grind
  have B := bk_step (qi := 0) (y2 := 0) (Z2 := 0) (ε := 0) (δ := 34 / 10 * (ρ * (M * uu))) (e := 33 / 10 * (sgm W p i * (M * uu))) (w := 99 / 100 * W i) Rat.le_refl (by grind) (by grind) (by grind) (show fv .f32 (elS b a x s i) - (fv .f32 (elA b a x i) * Z i - 0 * 0) ≤ (fv .f32 (elA b a x i) - 0) * D + 0 by grind) (by grind) (by grind) (by grind) E1 E2 (by grind)
  exact ⟨g0, B.1, B.2⟩
theorem RowsQ.ynext (h : RowsQ n b a x s p W so Z M D Zm ρ) {i : Nat} (hi : i + 1 < n) (hY : YdQ n b a x s Z M D ρ (i + 1)) : YdQ n b a x s Z M D ρ i := by
  obtain ⟨u0, u1, u2, u3⟩ := h.mu
  obtain ⟨D0, Z0, ZD⟩ := h.hD
  obtain ⟨M1, M2⟩ := h.hM
  have hn := h.hn
  obtain ⟨z1, z1'⟩ := h.hZ i
  obtain ⟨z2, z2'⟩ := h.hZ (i + 1)
  obtain ⟨r0, r1⟩ := h.hp (i + 1) (by omega)
  obtain ⟨w0, w1⟩ := h.hW i (by omega)
  have hx := h.hx i (by omega)
  obtain ⟨m0, ml, mh⟩ := h.piv i (by omega)
  obtain ⟨S0, v1, v2⟩ := h.sd i (by omega)
  obtain ⟨⟨s1, s2, s3, s4, s5⟩, ⟨k1', k2'⟩, k5', k3', k4'⟩ := h.sz (i := i) (by omega)
  obtain ⟨rm1, rm2⟩ := h.rm
  have qz : qiR p n i = p (i + 1) := qiR_in hi
  rw [qz] at v1 v2
  obtain ⟨y0, y1, y2⟩ := hY
  have eY := solO_next b a x s n hi
  have mp : 0 < fv .f32 (elA b a x i) := by grind
  obtain ⟨yw, hyw⟩ : ∃ y, solO b a x s n (i + 1) = y := ⟨_, rfl⟩
  rw [hyw] at y0 y1 y2 eY
  have esn : 16700000 * (sgm W p i * (M * uu)) = sgm W p i * M := by grind
  have j6 := Rat.mul_le_mul_of_nonneg_right s1 (show 0 ≤ M by grind)
  have j7 := Rat.mul_le_mul_of_nonneg_right s2 (show 0 ≤ M by grind)
  -- the product
  have yb1 : fv .f32 yw ≤ 1001 / 1000 * M := by grind
  have yb2 : -fv .f32 yw ≤ 1001 / 1000 * M := by grind
  have pb := mul_bd (a := sgm W p i) (b := 1001 / 1000 * M) (x := p (i + 1)) (y := fv .f32 yw) (by grind) s5 (by grind) yb1
  obtain ⟨c0, c1, c2⟩ := fop_u .mul rfl hx.1 y0 (by simp) (M := 1001 / 1000 * (sgm W p i * M)) (by grind) (by grind) (by simp only [ex]; rw [hx.2]; grind) (by simp only [ex]; rw [hx.2]; grind)
  simp only [ex] at c1 c2
  rw [hx.2] at c1 c2
  generalize fop .mul .f32 (x i) yw = pw at *
  -- the sum
  have k1 := Rat.mul_le_mul_of_nonneg_left z1 (Rat.le_of_lt mp)
  have k2 := Rat.mul_le_mul_of_nonneg_left z1' (Rat.le_of_lt mp)
  have k3 := Rat.mul_le_mul_of_nonneg_left ZD (Rat.le_of_lt mp)
  have k6 := Rat.mul_le_mul_of_nonneg_right mh (show 0 ≤ M by grind)
  have k7 := Rat.mul_le_mul_of_nonneg_left y1 r0
  have k8 := Rat.mul_le_mul_of_nonneg_left y2 r0
  have k9 := Rat.mul_le_mul_of_nonneg_right s5 (show 0 ≤ 34 / 10 * (ρ * (M * uu)) by grind)
  have kA := Rat.mul_le_mul_of_nonneg_left rm2 (show 0 ≤ sgm W p i by grind)
  have t1 : fv .f32 (elS b a x s i) + p (i + 1) * fv .f32 yw ≤ fv .f32 (elA b a x i) * M + 1 / 1000 * (sgm W p i * M) := by grind
  have t2 : -(fv .f32 (elS b a x s i) + p (i + 1) * fv .f32 yw) ≤ fv .f32 (elA b a x i) * M + 1 / 1000 * (sgm W p i * M) := by grind
  obtain ⟨d0, d1, d2⟩ := fop_u .sub rfl S0 c0 (by simp) (M := 102 / 100 * (sgm W p i * M)) (by grind) (by grind) (by simp only [ex]; grind) (by simp only [ex]; grind)
  simp only [ex] at d1 d2
  generalize fop .sub .f32 (elS b a x s i) pw = tw at *
  -- the quotient
  have dv : fv .f32 tw / fv .f32 (elA b a x i) * fv .f32 (elA b a x i) = fv .f32 tw := Rat.div_mul_cancel (by grind)
  have kr := Rat.mul_le_mul_of_nonneg_right (h.hρ i (by omega)) (show 0 ≤ M by grind)
  have km := Rat.mul_le_mul_of_nonneg_right ml (show 0 ≤ M by grind)
  have pm := Rat.mul_nonneg r0 (show 0 ≤ M by grind)
  have dn : -(fv .f32 tw / fv .f32 (elA b a x i)) * fv .f32 (elA b a x i) = -fv .f32 tw := by grind
  have T1 : fv .f32 tw - (fv .f32 (elS b a x s i) + p (i + 1) * fv .f32 yw) ≤ 21 / 10 * (sgm W p i * (M * uu)) := by grind
  have T2 : (fv .f32 (elS b a x s i) + p (i + 1) * fv .f32 yw) - fv .f32 tw ≤ 21 / 10 * (sgm W p i * (M * uu)) := by grind
  have R1 : p (i + 1) * fv .f32 yw ≤ p (i + 1) * Z (i + 1) + p (i + 1) * D + p (i + 1) * (34 / 10 * (ρ * (M * uu))) := by grind
  have R2 : -(p (i + 1) * fv .f32 yw) ≤ -(p (i + 1) * Z (i + 1)) + p (i + 1) * D + p (i + 1) * (34 / 10 * (ρ * (M * uu))) := by grind
  have pm2 := Rat.mul_le_mul_of_nonneg_right (show p (i + 1) ≤ fv .f32 (elA b a x i) by grind) (show 0 ≤ 34 / 10 * (ρ * (M * uu)) by grind)
  have pm3 := Rat.mul_le_mul_of_nonneg_left rm2 (Rat.le_of_lt mp)
  have km2 := Rat.mul_le_mul_of_nonneg_right k5' (show 0 ≤ M by grind)
  have U1 : fv .f32 tw ≤ fv .f32 (elA b a x i) * (11 / 10 * M) := by grind
  have U2 : -fv .f32 tw ≤ fv .f32 (elA b a x i) * (11 / 10 * M) := by grind
  have q1 : fv .f32 tw / fv .f32 (elA b a x i) ≤ 11 / 10 * M := mul_cancel_le mp (by rw [dv]; grind)
  have q2 : -(fv .f32 tw / fv .f32 (elA b a x i)) ≤ 11 / 10 * M := mul_cancel_le mp (by rw [dn]; grind)
  obtain ⟨x0, x1, x2⟩ := fop_u .quo rfl d0 m0 (fun _ => by grind) (M := 11 / 10 * M) (by grind) (by grind) (by simp only [ex]; exact q1) (by simp only [ex]; exact q2)
  simp only [ex] at x1 x2
  rw [← eY] at x0 x1 x2
  generalize fv .f32 tw / fv .f32 (elA b a x i) = q at *
  have v1' := Rat.mul_le_mul_of_nonneg_right x1 (Rat.le_of_lt mp)
  have v2' := Rat.mul_le_mul_of_nonneg_right x2 (Rat.le_of_lt mp)
  have w3 := Rat.mul_le_mul_of_nonneg_right mh (Rat.le_of_lt u3)
  have E1 : fv .f32 (elA b a x i) * fv .f32 (solO b a x s n i) - (fv .f32 (elS b a x s i) + p (i + 1) * fv .f32 yw) ≤ 33 / 10 * (sgm W p i * (M * uu)) := by grind
  have E2 : (fv .f32 (elS b a x s i) + p (i + 1) * fv .f32 yw) - fv .f32 (elA b a x i) * fv .f32 (solO b a x s n i) ≤ 33 / 10 * (sgm W p i * (M * uu)) := by grind
  have B := bk_step (qi := p (i + 1)) (y2 := fv .f32 yw) (Z2 := Z (i + 1)) (ε := 0) (δ := 34 / 10 * (ρ * (M * uu))) (e := 33 / 10 * (sgm W p i * (M * uu))) (w := 99 / 100 * W i) r0 (by grind) ml (by grind) (by rw [Rat.add_zero]; exact v1) (by rw [Rat.add_zero]; exact v2) y1 y2 E1 E2 (by grind)
  exact ⟨x0, B.1, B.2⟩
theorem RowsQ.yd (h : RowsQ n b a x s p W so Z M D Zm ρ) : ∀ j i, i + 1 + j = n → YdQ n b a x s Z M D ρ i
  | 0, i, hi => h.ylast (by omega)
  | j + 1, i, hi => h.ynext (by omega) (h.yd j (i + 1) (by omega))
theorem RowsQ.y (h : RowsQ n b a x s p W so Z M D Zm ρ) {i : Nat} (hi : i < n) : YdQ n b a x s Z M D ρ i := h.yd (n - (i + 1)) i (by omega)
end
end Go.Proofs.Ytpnkapdemgieaaa
set_option linter.unusedSimpArgs false
set_option linter.unusedVariables false
set_option linter.unusedSectionVars false
namespace Go.Proofs.Ytpnkapdemgieaaa
open Go Go.RowKit
/-- Rows, near exact ones. -/
structure RowsH (n : Nat) (b a x s : Nat → Nat) (p W so Z : Nat → Rat) (M D Zm : Rat) : Prop where
  hn : 1 ≤ n ∧ n ≤ 6
  hM : 1 / 1024 ≤ M ∧ M ≤ 1000
  hD : 0 ≤ D ∧ 0 ≤ Zm ∧ Zm + D ≤ M ∧ Zm ≤ 0 * M
  hp : ∀ i, i ≤ n → 0 ≤ p i ∧ p i ≤ 8
  hW : ∀ i, i < n → 1 / 4 ≤ W i ∧ W i ≤ 16
  hb : ∀ i, i < n → V .f32 (b i) (-(p i))
  hx : ∀ i, i < n → V .f32 (x i) (-(p (i + 1)))
  ha : ∀ i, i < n → fnt .f32 (a i) = true ∧ fv .f32 (a i) - (W i + p i + p (i + 1)) ≤ 57 * uu ∧ (W i + p i + p (i + 1)) - fv .f32 (a i) ≤ 57 * uu
  hs : ∀ i, i < n → fnt .f32 (s i) = true ∧ fv .f32 (s i) - so i ≤ 17 * (M * uu) ∧ so i - fv .f32 (s i) ≤ 17 * (M * uu)
  hsb : ∀ i, i < n → so i ≤ (161 / 10) * M ∧ -so i ≤ (161 / 10) * M
  hZ : ∀ i, Z i ≤ Zm ∧ -Z i ≤ Zm
  hof : so 0 - ((W 0 + p 0 + (qiR p n 0 + qlR p n 0)) * Z 0 - qiR p n 0 * Z 1) ≤ (W 0 + p 0 + qlR p n 0) * D ∧ ((W 0 + p 0 + (qiR p n 0 + qlR p n 0)) * Z 0 - qiR p n 0 * Z 1) - so 0 ≤ (W 0 + p 0 + qlR p n 0) * D
  hoi : ∀ i, i + 1 < n → so (i + 1) - ((W (i + 1) + p (i + 1) + (qiR p n (i + 1) + qlR p n (i + 1))) * Z (i + 1) - p (i + 1) * Z i - qiR p n (i + 1) * Z (i + 2)) ≤ (W (i + 1) + qlR p n (i + 1)) * D ∧ ((W (i + 1) + p (i + 1) + (qiR p n (i + 1) + qlR p n (i + 1))) * Z (i + 1) - p (i + 1) * Z i - qiR p n (i + 1) * Z (i + 2)) - so (i + 1) ≤ (W (i + 1) + qlR p n (i + 1)) * D
section
variable {n : Nat} {b a x s : Nat → Nat} {p W so Z : Nat → Rat} {M D Zm : Rat}
theorem RowsH.mu (h : RowsH n b a x s p W so Z M D Zm) : 0 < uu ∧ 16700000 * uu = 1 ∧ 16700000 * (M * uu) = M ∧ 0 < M * uu := by
  have u1 : 16700000 * uu = 1 := by unfold uu; decide +kernel
  have u0 : 0 < uu := by unfold uu; decide +kernel
  have hM := h.hM
  exact ⟨u0, u1, by grind, Rat.mul_pos (by grind) u0⟩
/-- The pivot. -/
structure PivH (p : Nat → Rat) (b a x : Nat → Nat) (i : Nat) : Prop where
  f : fnt .f32 (elA b a x i) = true
  lo : p (i + 1) + 1 / 5 ≤ fv .f32 (elA b a x i)
  hi : fv .f32 (elA b a x i) ≤ 32 + 1 / 10
/-- From pivot to pivot. -/
structure LnkH (p W : Nat → Rat) (b a x : Nat → Nat) (i : Nat) : Prop where
  f : fnt .f32 (elF b a x i) = true
  lo : -1 ≤ fv .f32 (elF b a x i)
  hi : fv .f32 (elF b a x i) ≤ 0
  g1 : fv .f32 (elF b a x i) * fv .f32 (elA b a x i) + p (i + 1) ≤ 9 * uu
  g2 : -(fv .f32 (elF b a x i) * fv .f32 (elA b a x i) + p (i + 1)) ≤ 9 * uu
  m1 : fv .f32 (elA b a x (i + 1)) - (W (i + 1) + p (i + 1) + p (i + 2) + fv .f32 (elF b a x i) * p (i + 1)) ≤ 98 * uu
  m2 : (W (i + 1) + p (i + 1) + p (i + 2) + fv .f32 (elF b a x i) * p (i + 1)) - fv .f32 (elA b a x (i + 1)) ≤ 98 * uu
theorem RowsH.first (h : RowsH n b a x s p W so Z M D Zm) : PivH p b a x 0 := by
  obtain ⟨u0, u1, _, _⟩ := h.mu
  have hn := h.hn
  obtain ⟨a0, a1, a2⟩ := h.ha 0 (by omega)
  obtain ⟨p0, p1⟩ := h.hp 0 (by omega)
  obtain ⟨q0, q1⟩ := h.hp 1 (by omega)
  obtain ⟨w0, w1⟩ := h.hW 0 (by omega)
  exact ⟨a0, by show p 1 + 1 / 5 ≤ fv .f32 (a 0); grind, by show fv .f32 (a 0) ≤ _; grind⟩
theorem RowsH.next (h : RowsH n b a x s p W so Z M D Zm) {i : Nat} (hi : i + 1 < n) (hp : PivH p b a x i) : LnkH p W b a x i ∧ PivH p b a x (i + 1) := by
  obtain ⟨u0, u1, _, _⟩ := h.mu
  obtain ⟨a0, a1, a2⟩ := h.ha (i + 1) hi
  obtain ⟨p0, p1⟩ := h.hp (i + 1) (by omega)
  obtain ⟨q0, q1⟩ := h.hp (i + 2) (by omega)
  obtain ⟨w0, w1⟩ := h.hW (i + 1) hi
  have hb := h.hb (i + 1) hi
  have hx := h.hx i (by omega)
  obtain ⟨m0, ml, mh⟩ := hp
  have mp : 0 < fv .f32 (elA b a x i) := by grind
  have dv : -(p (i + 1)) / fv .f32 (elA b a x i) * fv .f32 (elA b a x i) = -(p (i + 1)) := Rat.div_mul_cancel (by grind)
  have r0 : Rep .f32 (0 : Rat) := Rep.int (k := .f32) 0 (by decide)
  have r1 : Rep .f32 (1 : Rat) := Rep.int (k := .f32) 1 (by decide)
  have v1 : -1 ≤ -(p (i + 1)) / fv .f32 (elA b a x i) := mul_cancel_le mp (by rw [dv]; grind)
  have v2 : -(p (i + 1)) / fv .f32 (elA b a x i) ≤ 0 := mul_cancel_le mp (by rw [dv]; grind)
  obtain ⟨f0, f1, f2⟩ := fop_btw .quo rfl .f32 (a := -1) (b := 0) hb.1 m0 (fun _ => by grind) r1.neg r0 (by simp only [ex]; rw [hb.2]; exact v1) (by simp only [ex]; rw [hb.2]; exact v2)
  obtain ⟨_, e1, e2⟩ := fop_u .quo rfl hb.1 m0 (fun _ => by grind) (M := -(-(p (i + 1)) / fv .f32 (elA b a x i)) + 1 / 1000000) (by grind) (by grind) (by simp only [ex]; rw [hb.2]; grind) (by simp only [ex]; rw [hb.2]; grind)
  simp only [ex] at e1 e2
  rw [hb.2] at e1 e2
  have f0 : fnt .f32 (elF b a x i) = true := f0
  have f1 : -1 ≤ fv .f32 (elF b a x i) := f1
  have f2 : fv .f32 (elF b a x i) ≤ 0 := f2
  have e1 : fv .f32 (elF b a x i) - -(p (i + 1)) / fv .f32 (elA b a x i) ≤ (-(-(p (i + 1)) / fv .f32 (elA b a x i)) + 1 / 1000000) * uu := e1
  have e2 : -(p (i + 1)) / fv .f32 (elA b a x i) - fv .f32 (elF b a x i) ≤ (-(-(p (i + 1)) / fv .f32 (elA b a x i)) + 1 / 1000000) * uu := e2
  have g1' := Rat.mul_le_mul_of_nonneg_right e1 (Rat.le_of_lt mp)
  have g2' := Rat.mul_le_mul_of_nonneg_right e2 (Rat.le_of_lt mp)
  have eA : elA b a x (i + 1) = fop .sub .f32 (a (i + 1)) (fop .mul .f32 (elF b a x i) (x i)) := rfl
  rw [show i + 1 + 1 = i + 2 by omega] at a1 a2
  obtain ⟨mw, hmw⟩ : ∃ y, elA b a x i = y := ⟨_, rfl⟩
  obtain ⟨fw, hfw⟩ : ∃ y, elF b a x i = y := ⟨_, rfl⟩
  rw [hmw] at m0 ml mh mp dv v1 v2 e1 e2 g1' g2'
  rw [hfw] at f0 f1 f2 e1 e2 g1' g2' eA
  generalize -(p (i + 1)) / fv .f32 mw = q at *
  have mu1 := Rat.mul_le_mul_of_nonneg_right mh (Rat.le_of_lt u0)
  have pu1 := Rat.mul_le_mul_of_nonneg_right p1 (Rat.le_of_lt u0)
  have dvu : q * fv .f32 mw * uu = -(p (i + 1)) * uu := by rw [dv]
  clear e1 e2
  have g1 : fv .f32 fw * fv .f32 mw + p (i + 1) ≤ 9 * uu := by grind
  have g2 : -(fv .f32 fw * fv .f32 mw + p (i + 1)) ≤ 9 * uu := by grind
  -- the product
  obtain ⟨n0, n1⟩ := fneg_val hx.1
  have fp1 := Rat.mul_nonneg (show 0 ≤ -fv .f32 fw by grind) p0
  have fp2 := Rat.mul_le_mul_of_nonneg_right (show -fv .f32 fw ≤ 1 by grind) p0
  have hv : ex .mul (fv .f32 fw) (fv .f32 (x i)) = -fv .f32 fw * p (i + 1) := by simp only [ex]; rw [hx.2]; grind
  have t40 : tp 40 = 1099511627776 := (tp_nat 40).trans rfl
  obtain ⟨c0, c1⟩ := fop_rnd .mul rfl .f32 f0 hx.1 (by simp) 40 (by decide) (by rw [hv, t40]; grind) (by rw [hv, t40]; grind)
  rw [hv] at c1
  have c2 := rnd_u (M := 8) c1 (by grind) (by grind) (by grind)
  have c3 := c1.rep_ge r0 fp1
  have c4 := rnd_le_wd n0 c1 (by rw [n1, hx.2]; grind)
  rw [n1, hx.2] at c4
  generalize fop .mul .f32 fw (x i) = qw at *
  obtain ⟨d0, d1, d2⟩ := fop_u .sub rfl a0 c0 (by simp) (M := 32 + 1) (by grind) (by grind) (by simp only [ex]; grind) (by simp only [ex]; grind)
  simp only [ex] at d1 d2
  obtain ⟨m', hm'⟩ : ∃ y, fop .sub .f32 (a (i + 1)) qw = y := ⟨_, rfl⟩
  rw [hm'] at eA d0 d1 d2
  refine ⟨⟨?_, ?_, ?_, ?_, ?_, ?_, ?_⟩, ?_, ?_, ?_⟩
  · rw [hfw]; exact f0
  · rw [hfw]; exact f1
  · rw [hfw]; exact f2
  · rw [hfw, hmw]; exact g1
  · rw [hfw, hmw]; exact g2
  · rw [hfw, eA]; grind
  · rw [hfw, eA]; grind
  · rw [eA]; exact d0
  · rw [eA, show i + 1 + 1 = i + 2 by omega]; grind
  · rw [eA]; grind
theorem RowsH.piv (h : RowsH n b a x s p W so Z M D Zm) : ∀ i, i < n → PivH p b a x i
  | 0, _ => h.first
  | i + 1, hi => (h.next hi (h.piv i (by omega))).2
theorem RowsH.lnk (h : RowsH n b a x s p W so Z M D Zm) {i : Nat} (hi : i + 1 < n) : LnkH p W b a x i := (h.next hi (h.piv i (by omega))).1
/-- How far the right sides may be off by then. -/
def epH (M : Rat) (i : Nat) : Rat := ((i + 1 : Nat) : Rat) * ((782 / 5) * (M * uu))
theorem epH_succ (M : Rat) (i : Nat) : epH M (i + 1) = epH M i + (782 / 5) * (M * uu) := by
  unfold epH
  rw [Rat.natCast_add (i + 1) 1]
  have e : ((1 : Nat) : Rat) = 1 := rfl
  rw [e]; grind
theorem epH_le {M : Rat} {i : Nat} (h : 0 < M * uu) (hi : i < 6) : 0 ≤ epH M i ∧ epH M i ≤ 6 * ((782 / 5) * (M * uu)) := by
  unfold epH
  have k0 : (0 : Rat) ≤ ((i + 1 : Nat) : Rat) := by exact_mod_cast Nat.zero_le _
  have k1 : ((i + 1 : Nat) : Rat) ≤ ((6 : Nat) : Rat) := by exact_mod_cast (by omega : i + 1 ≤ 6)
  have e : ((6 : Nat) : Rat) = 6 := rfl
  rw [e] at k1
  have w : 0 ≤ (782 / 5) * (M * uu) := by grind
  exact ⟨Rat.mul_nonneg k0 w, Rat.mul_le_mul_of_nonneg_right k1 w⟩
/-- The right side. -/
structure SdH (n : Nat) (b a x s : Nat → Nat) (p Z : Nat → Rat) (M D : Rat) (i : Nat) : Prop where
  f : fnt .f32 (elS b a x s i) = true
  v1 : fv .f32 (elS b a x s i) - (fv .f32 (elA b a x i) * Z i - qiR p n i * Z (i + 1)) ≤ (fv .f32 (elA b a x i) - qiR p n i) * D + epH M i
  v2 : (fv .f32 (elA b a x i) * Z i - qiR p n i * Z (i + 1)) - fv .f32 (elS b a x s i) ≤ (fv .f32 (elA b a x i) - qiR p n i) * D + epH M i
/-- From right side to right side. -/
def SLH (b a x s : Nat → Nat) (M : Rat) (i : Nat) : Prop := fv .f32 (elS b a x s (i + 1)) - (fv .f32 (s (i + 1)) - fv .f32 (elF b a x i) * fv .f32 (elS b a x s i)) ≤ (162 / 5) * (M * uu) ∧ (fv .f32 (s (i + 1)) - fv .f32 (elF b a x i) * fv .f32 (elS b a x s i)) - fv .f32 (elS b a x s (i + 1)) ≤ (162 / 5) * (M * uu)
theorem RowsH.sfirst (h : RowsH n b a x s p W so Z M D Zm) : SdH n b a x s p Z M D 0 := by
  obtain ⟨u0, u1, u2, u3⟩ := h.mu
  obtain ⟨D0, Z0, ZD, _⟩ := h.hD
  have hn := h.hn
  obtain ⟨a0, a1, a2⟩ := h.ha 0 (by omega)
  obtain ⟨s0, s1, s2⟩ := h.hs 0 (by omega)
  obtain ⟨o1, o2⟩ := h.hof
  obtain ⟨z1, z2⟩ := h.hZ 0
  have q := qR_sum p n 0
  have k := Rat.mul_le_mul_of_nonneg_right ZD (Rat.le_of_lt u0)
  have E : epH M 0 = (782 / 5) * (M * uu) := by
    unfold epH
    have e : ((0 + 1 : Nat) : Rat) = 1 := rfl
    rw [e]; grind
  have r := el_first (W := W 0) (p := p 0) (qi := qiR p n 0) (ql := qlR p n 0) (m := fv .f32 (a 0)) (S := fv .f32 (s 0)) (so := so 0) (Z2 := Z 0) (Z3 := Z 1) (D := D) (c := 57 * uu) (k := 17 * (M * uu)) (Zm := Zm) D0 (by rw [q]; exact a1) (by rw [q]; exact a2) s1 s2 o1 o2 z1 z2 (by grind)
  exact ⟨s0, by show fv .f32 (s 0) - (fv .f32 (a 0) * Z 0 - _) ≤ (fv .f32 (a 0) - _) * D + _; rw [E]; have := r.1; grind, by show (fv .f32 (a 0) * Z 0 - _) - fv .f32 (s 0) ≤ (fv .f32 (a 0) - _) * D + _; rw [E]; have := r.2; grind⟩
theorem RowsH.snext (h : RowsH n b a x s p W so Z M D Zm) {i : Nat} (hi : i + 1 < n) (hS : SdH n b a x s p Z M D i) : SLH b a x s M i ∧ SdH n b a x s p Z M D (i + 1) := by
  obtain ⟨u0, u1, u2, u3⟩ := h.mu
  obtain ⟨D0, Z0, ZD, Zz⟩ := h.hD
  obtain ⟨M1, M2⟩ := h.hM
  have hn := h.hn
  obtain ⟨s0, s1, s2⟩ := h.hs (i + 1) hi
  obtain ⟨b1, b2⟩ := h.hsb (i + 1) hi
  obtain ⟨o1, o2⟩ := h.hoi i hi
  obtain ⟨z1, z1'⟩ := h.hZ i
  obtain ⟨z2, z2'⟩ := h.hZ (i + 1)
  obtain ⟨p0, p1⟩ := h.hp (i + 1) (by omega)
  obtain ⟨r0, _⟩ := h.hp (i + 2) (by omega)
  have P := h.piv i (by omega)
  have L := h.lnk hi
  obtain ⟨S0, v1, v2⟩ := hS
  rw [qiR_in hi] at v1 v2
  obtain ⟨e0, e6⟩ := epH_le (i := i) u3 (by omega)
  have q := qR_sum p n (i + 1)
  have qn := (qiR_le (n := n) (i := i + 1) r0).1
  have es := epH_succ M i
  have mp : 0 ≤ fv .f32 (elA b a x i) := by have := P.lo; grind
  obtain ⟨f1, f2⟩ := fs_bd L.lo L.hi p0 mp L.g2 v1 v2 z1 z1' z2 z2' e0 D0 Z0
  have hG : p (i + 1) + 9 * uu ≤ 8 + 9 * uu := by grind
  have k1 := Rat.mul_le_mul_of_nonneg_right hG (show 0 ≤ Zm + D by grind)
  have k2 := Rat.mul_le_mul_of_nonneg_left ZD (show 0 ≤ 8 + 9 * uu by grind)
  have k3 := Rat.mul_le_mul_of_nonneg_right p1 Z0
  have k4 := Rat.mul_le_mul_of_nonneg_right ZD (Rat.le_of_lt u0)
  have eS : elS b a x s (i + 1) = fop .sub .f32 (s (i + 1)) (fop .mul .f32 (elF b a x i) (elS b a x s i)) := rfl
  have F1 : fv .f32 (elF b a x i) * fv .f32 (elS b a x s i) ≤ (81 / 10) * M := by grind
  have F2 : -(fv .f32 (elF b a x i) * fv .f32 (elS b a x s i)) ≤ (81 / 10) * M := by grind
  obtain ⟨c0, c1, c2⟩ := fop_u .mul rfl L.f S0 (by simp) (M := (81 / 10) * M) (by grind) (by grind) (by simp only [ex]; exact F1) (by simp only [ex]; exact F2)
  simp only [ex] at c1 c2
  obtain ⟨pw, hpw⟩ : ∃ y, fop .mul .f32 (elF b a x i) (elS b a x s i) = y := ⟨_, rfl⟩
  rw [hpw] at c0 c1 c2 eS
  obtain ⟨d0, d1, d2⟩ := fop_u .sub rfl s0 c0 (by simp) (M := ((161 / 10) + (81 / 10) + 1 / 10) * M) (by grind) (by grind) (by simp only [ex]; grind) (by simp only [ex]; grind)
  simp only [ex] at d1 d2
  rw [← eS] at d0 d1 d2
  have D1 : fv .f32 (elS b a x s (i + 1)) - (fv .f32 (s (i + 1)) - fv .f32 (elF b a x i) * fv .f32 (elS b a x s i)) ≤ (162 / 5) * (M * uu) := by grind
  have D2 : (fv .f32 (s (i + 1)) - fv .f32 (elF b a x i) * fv .f32 (elS b a x s i)) - fv .f32 (elS b a x s (i + 1)) ≤ (162 / 5) * (M * uu) := by grind
  have r := el_step (W := W (i + 1)) (p := p (i + 1)) (qi := qiR p n (i + 1)) (ql := qlR p n (i + 1)) (m' := fv .f32 (elA b a x (i + 1))) (Z3 := Z (i + 2)) (c := 98 * uu) L.lo L.hi p0 qn e0 D0 L.g1 L.g2 (by rw [q]; exact L.m1) (by rw [q]; exact L.m2) v1 v2 s1 s2 D1 D2 o1 o2 z1 z1' z2 z2' (by grind) (by grind)
  refine ⟨⟨D1, D2⟩, d0, ?_, ?_⟩
  · rw [es]; have := r.1; grind
  · rw [es]; have := r.2; grind
theorem RowsH.sd (h : RowsH n b a x s p W so Z M D Zm) : ∀ i, i < n → SdH n b a x s p Z M D i
  | 0, _ => h.sfirst
  | i + 1, hi => (h.snext hi (h.sd i (by omega))).2
/-- The answer. -/
structure YdH (n : Nat) (b a x s : Nat → Nat) (p Z : Nat → Rat) (M D : Rat) (i : Nat) : Prop where
  f : fnt .f32 (solO b a x s n i) = true
  y1 : fv .f32 (solO b a x s n i) - Z i ≤ D + (508013 / 100) * (M * uu)
  y2 : Z i - fv .f32 (solO b a x s n i) ≤ D + (508013 / 100) * (M * uu)
  e1 : fv .f32 (elA b a x i) * fv .f32 (solO b a x s n i) - (fv .f32 (elS b a x s i) + qiR p n i * fv .f32 (solO b a x s n (i + 1))) ≤ (37813 / 500) * (M * uu)
  e2 : (fv .f32 (elS b a x s i) + qiR p n i * fv .f32 (solO b a x s n (i + 1))) - fv .f32 (elA b a x i) * fv .f32 (solO b a x s n i) ≤ (37813 / 500) * (M * uu)
theorem RowsH.ylast (h : RowsH n b a x s p W so Z M D Zm) {i : Nat} (hi : i + 1 = n) : YdH n b a x s p Z M D i := by
  obtain ⟨u0, u1, u2, u3⟩ := h.mu
  obtain ⟨D0, Z0, ZD, Zz⟩ := h.hD
  obtain ⟨M1, M2⟩ := h.hM
  have hn := h.hn
  obtain ⟨z1, z1'⟩ := h.hZ i
  obtain ⟨r0, _⟩ := h.hp (i + 1) (by omega)
  obtain ⟨m0, ml, mh⟩ := h.piv i (by omega)
  obtain ⟨S0, v1, v2⟩ := h.sd i (by omega)
  obtain ⟨e0, e6⟩ := epH_le (i := i) u3 (by omega)
  have qz : qiR p n i = 0 := qiR_last (by omega)
  rw [qz] at v1 v2
  have eY := solO_last b a x s n hi
  have mp : 0 < fv .f32 (elA b a x i) := by grind
  have dv : fv .f32 (elS b a x s i) / fv .f32 (elA b a x i) * fv .f32 (elA b a x i) = fv .f32 (elS b a x s i) := Rat.div_mul_cancel (by grind)
  have k1 := Rat.mul_le_mul_of_nonneg_left z1 (Rat.le_of_lt mp)
  have k2 := Rat.mul_le_mul_of_nonneg_left z1' (Rat.le_of_lt mp)
  have k3 := Rat.mul_le_mul_of_nonneg_left ZD (Rat.le_of_lt mp)
  have k4 := Rat.mul_le_mul_of_nonneg_left ml (show 0 ≤ M by grind)
  have k5 := Rat.mul_nonneg (show 0 ≤ M by grind) r0
  have q1 : fv .f32 (elS b a x s i) / fv .f32 (elA b a x i) ≤ 102 / 100 * M := mul_cancel_le mp (by rw [dv]; grind)
  have dn : -(fv .f32 (elS b a x s i) / fv .f32 (elA b a x i)) * fv .f32 (elA b a x i) = -fv .f32 (elS b a x s i) := by grind
  have q2 : -(fv .f32 (elS b a x s i) / fv .f32 (elA b a x i)) ≤ 102 / 100 * M := mul_cancel_le mp (by rw [dn]; grind)
  obtain ⟨y0, y1, y2⟩ := fop_u .quo rfl S0 m0 (fun _ => by grind) (M := 102 / 100 * M) (by grind) (by grind) (by simp only [ex]; exact q1) (by simp only [ex]; exact q2)
  simp only [ex] at y1 y2
  rw [← eY] at y0 y1 y2
  generalize fv .f32 (elS b a x s i) / fv .f32 (elA b a x i) = q at *
  have w1 := Rat.mul_le_mul_of_nonneg_right y1 (Rat.le_of_lt mp)
  have w2 := Rat.mul_le_mul_of_nonneg_right y2 (Rat.le_of_lt mp)
  have w3 := Rat.mul_le_mul_of_nonneg_left mh (Rat.le_of_lt u3)
  have E1 : fv .f32 (elA b a x i) * fv .f32 (solO b a x s n i) - (fv .f32 (elS b a x s i) + 0 * fv .f32 (solO b a x s n (i + 1))) ≤ (37813 / 500) * (M * uu) := by grind
  have E2 : (fv .f32 (elS b a x s i) + 0 * fv .f32 (solO b a x s n (i + 1))) - fv .f32 (elA b a x i) * fv .f32 (solO b a x s n i) ≤ (37813 / 500) * (M * uu) := by grind
  have B := bk_step (qi := 0) (y2 := 0) (Z2 := 0) (δ := (508013 / 100) * (M * uu)) (e := (37813 / 500) * (M * uu)) (w := 1 / 5) Rat.le_refl (by grind) (by grind) (by grind) (show fv .f32 (elS b a x s i) - (fv .f32 (elA b a x i) * Z i - 0 * 0) ≤ (fv .f32 (elA b a x i) - 0) * D + epH M i by grind) (by grind) (by grind) (by grind) (show fv .f32 (elA b a x i) * fv .f32 (solO b a x s n i) - (fv .f32 (elS b a x s i) + 0 * 0) ≤ (37813 / 500) * (M * uu) by grind) (by grind) (by grind)
  exact ⟨y0, B.1, B.2, by rw [qz]; exact E1, by rw [qz]; exact E2⟩
theorem RowsH.ynext (h : RowsH n b a x s p W so Z M D Zm) {i : Nat} (hi : i + 1 < n) (hY : YdH n b a x s p Z M D (i + 1)) : YdH n b a x s p Z M D i := by
  obtain ⟨u0, u1, u2, u3⟩ := h.mu
  obtain ⟨D0, Z0, ZD, Zz⟩ := h.hD
  obtain ⟨M1, M2⟩ := h.hM
  have hn := h.hn
  obtain ⟨z1, z1'⟩ := h.hZ i
  obtain ⟨z2, z2'⟩ := h.hZ (i + 1)
  obtain ⟨r0, r1⟩ := h.hp (i + 1) (by omega)
  have hx := h.hx i (by omega)
  obtain ⟨m0, ml, mh⟩ := h.piv i (by omega)
  obtain ⟨S0, v1, v2⟩ := h.sd i (by omega)
  obtain ⟨e0, e6⟩ := epH_le (i := i) u3 (by omega)
  have qz : qiR p n i = p (i + 1) := qiR_in hi
  rw [qz] at v1 v2
  obtain ⟨y0, y1, y2, _, _⟩ := hY
  have eY := solO_next b a x s n hi
  have mp : 0 < fv .f32 (elA b a x i) := by grind
  obtain ⟨yw, hyw⟩ : ∃ y, solO b a x s n (i + 1) = y := ⟨_, rfl⟩
  rw [hyw] at y0 y1 y2 eY
  -- the product
  have yb1 : fv .f32 yw ≤ 1002 / 1000 * M := by grind
  have yb2 : -fv .f32 yw ≤ 1002 / 1000 * M := by grind
  have pb := mul_bd (a := 8) (b := 1002 / 1000 * M) (x := p (i + 1)) (y := fv .f32 yw) (by grind) r1 (by grind) yb1
  obtain ⟨c0, c1, c2⟩ := fop_u .mul rfl hx.1 y0 (by simp) (M := 8 * (1002 / 1000 * M)) (by grind) (by grind) (by simp only [ex]; rw [hx.2]; grind) (by simp only [ex]; rw [hx.2]; grind)
  simp only [ex] at c1 c2
  rw [hx.2] at c1 c2
  generalize fop .mul .f32 (x i) yw = pw at *
  -- the sum
  have k1 := Rat.mul_le_mul_of_nonneg_left z1 (Rat.le_of_lt mp)
  have k2 := Rat.mul_le_mul_of_nonneg_left z1' (Rat.le_of_lt mp)
  have k3 := Rat.mul_le_mul_of_nonneg_left ZD (Rat.le_of_lt mp)
  have k6 := Rat.mul_le_mul_of_nonneg_right mh (show 0 ≤ M by grind)
  have k7 := Rat.mul_le_mul_of_nonneg_left y1 r0
  have k8 := Rat.mul_le_mul_of_nonneg_left y2 r0
  have k9 := Rat.mul_le_mul_of_nonneg_right r1 (show 0 ≤ (508013 / 100) * (M * uu) by grind)
  have t1 : fv .f32 (elS b a x s i) + p (i + 1) * fv .f32 yw ≤ fv .f32 (elA b a x i) * M + 15 / 1000 * M := by grind
  have t2 : -(fv .f32 (elS b a x s i) + p (i + 1) * fv .f32 yw) ≤ fv .f32 (elA b a x i) * M + 15 / 1000 * M := by grind
  obtain ⟨d0, d1, d2⟩ := fop_u .sub rfl S0 c0 (by simp) (M := (32 + 2 / 10) * M) (by grind) (by grind) (by simp only [ex]; grind) (by simp only [ex]; grind)
  simp only [ex] at d1 d2
  generalize fop .sub .f32 (elS b a x s i) pw = tw at *
  -- the quotient
  have dv : fv .f32 tw / fv .f32 (elA b a x i) * fv .f32 (elA b a x i) = fv .f32 tw := Rat.div_mul_cancel (by grind)
  have k4 := Rat.mul_le_mul_of_nonneg_left ml (show 0 ≤ M by grind)
  have k5 := Rat.mul_nonneg (show 0 ≤ M by grind) r0
  have dn : -(fv .f32 tw / fv .f32 (elA b a x i)) * fv .f32 (elA b a x i) = -fv .f32 tw := by grind
  have q1 : fv .f32 tw / fv .f32 (elA b a x i) ≤ 11 / 10 * M := mul_cancel_le mp (by rw [dv]; grind)
  have q2 : -(fv .f32 tw / fv .f32 (elA b a x i)) ≤ 11 / 10 * M := mul_cancel_le mp (by rw [dn]; grind)
  obtain ⟨x0, x1, x2⟩ := fop_u .quo rfl d0 m0 (fun _ => by grind) (M := 11 / 10 * M) (by grind) (by grind) (by simp only [ex]; exact q1) (by simp only [ex]; exact q2)
  simp only [ex] at x1 x2
  rw [← eY] at x0 x1 x2
  generalize fv .f32 tw / fv .f32 (elA b a x i) = q at *
  have w1 := Rat.mul_le_mul_of_nonneg_right x1 (Rat.le_of_lt mp)
  have w2 := Rat.mul_le_mul_of_nonneg_right x2 (Rat.le_of_lt mp)
  have w3 := Rat.mul_le_mul_of_nonneg_left mh (Rat.le_of_lt u3)
  have E1 : fv .f32 (elA b a x i) * fv .f32 (solO b a x s n i) - (fv .f32 (elS b a x s i) + p (i + 1) * fv .f32 yw) ≤ (37813 / 500) * (M * uu) := by grind
  have E2 : (fv .f32 (elS b a x s i) + p (i + 1) * fv .f32 yw) - fv .f32 (elA b a x i) * fv .f32 (solO b a x s n i) ≤ (37813 / 500) * (M * uu) := by grind
  have B := bk_step (qi := p (i + 1)) (y2 := fv .f32 yw) (Z2 := Z (i + 1)) (δ := (508013 / 100) * (M * uu)) (e := (37813 / 500) * (M * uu)) (w := 1 / 5) r0 (by grind) ml (by grind) v1 v2 y1 y2 E1 E2 (by grind)
  exact ⟨x0, B.1, B.2, by rw [qz, hyw]; exact E1, by rw [qz, hyw]; exact E2⟩
theorem RowsH.yd (h : RowsH n b a x s p W so Z M D Zm) : ∀ j i, i + 1 + j = n → YdH n b a x s p Z M D i
  | 0, i, hi => h.ylast (by omega)
  | j + 1, i, hi => h.ynext (by omega) (h.yd j (i + 1) (by omega))
theorem RowsH.y (h : RowsH n b a x s p W so Z M D Zm) {i : Nat} (hi : i < n) : YdH n b a x s p Z M D i := h.yd (n - (i + 1)) i (by omega)
/-- What is left of a row. -/
theorem RowsH.res (h : RowsH n b a x s p W so Z M D Zm) {i : Nat} (hi : i < n) :
    (W i + p i + p (i + 1)) * fv .f32 (solO b a x s n i) - (if i = 0 then 0 else p i * fv .f32 (solO b a x s n (i - 1))) - qiR p n i * fv .f32 (solO b a x s n (i + 1)) - so i ≤ (154361 / 500) * (M * uu) ∧
    so i - ((W i + p i + p (i + 1)) * fv .f32 (solO b a x s n i) - (if i = 0 then 0 else p i * fv .f32 (solO b a x s n (i - 1))) - qiR p n i * fv .f32 (solO b a x s n (i + 1))) ≤ (154361 / 500) * (M * uu) := by
  obtain ⟨u0, u1, u2, u3⟩ := h.mu
  obtain ⟨D0, Z0, ZD, Zz⟩ := h.hD
  obtain ⟨M1, M2⟩ := h.hM
  have Y := h.y hi
  obtain ⟨z1, z1'⟩ := h.hZ i
  obtain ⟨s0, s1, s2⟩ := h.hs i hi
  have yb1 : fv .f32 (solO b a x s n i) ≤ 101 / 100 * M := by have := Y.y1; grind
  have yb2 : -fv .f32 (solO b a x s n i) ≤ 101 / 100 * M := by have := Y.y2; grind
  cases i with
  | zero =>
    obtain ⟨a0, a1, a2⟩ := h.ha 0 hi
    rw [if_pos rfl]
    have r := res_first (W := W 0) (p := p 0) (q := p 1) (qi := qiR p n 0) (m := fv .f32 (elA b a x 0)) (S := fv .f32 (elS b a x s 0)) (so := so 0) (c := 57 * uu) (k := 17 * (M * uu)) (e := (37813 / 500) * (M * uu)) (Y := 101 / 100 * M) a1 a2 s1 s2 Y.e1 Y.e2 yb1 yb2
    rw [show 0 + 1 = 1 from rfl] at *
    constructor
    · have := r.1; grind
    · have := r.2; grind
  | succ i =>
    rw [if_neg (by omega), show i + 1 - 1 = i by omega]
    have Y0 := h.y (i := i) (by omega)
    obtain ⟨z0, z0'⟩ := h.hZ i
    have L := h.lnk hi
    have S := (h.snext hi (h.sd i (by omega))).1
    have yc1 : fv .f32 (solO b a x s n i) ≤ 101 / 100 * M := by have := Y0.y1; grind
    have yc2 : -fv .f32 (solO b a x s n i) ≤ 101 / 100 * M := by have := Y0.y2; grind
    have q0 := Y0.e1
    have q1 := Y0.e2
    rw [qiR_in hi] at q0 q1
    have r := res_step (W := W (i + 1)) (p := p (i + 1)) (q := p (i + 2)) (qi := qiR p n (i + 1)) (g := 9 * uu) (c := 98 * uu) (d := (162 / 5) * (M * uu)) (k := 17 * (M * uu)) (e0 := (37813 / 500) * (M * uu)) (e := (37813 / 500) * (M * uu)) (Y := 101 / 100 * M) L.lo L.hi L.g1 L.g2 L.m1 L.m2 s1 s2 S.1 S.2 q0 q1 Y.e1 Y.e2 yc1 yc2 yb1 yb2 (by grind)
    rw [show i + 1 + 1 = i + 2 by omega] at *
    constructor
    · have := r.1; grind
    · have := r.2; grind
end
end Go.Proofs.Ytpnkapdemgieaaa

/-
  Slices of 32-bit numbers: what a call makes, writes and compares; the laws' own helpers (toFloat32S, eqFloat32S, markFloat32S, heldFloat32S, szFloat32S), each proved once. No condition but what each contract says.
-/
import Derived.Test.YtiodpahbmoeiaaaFin
import Derived.Test.YtiodpahbmoeiaaaList
set_option linter.unusedSimpArgs false
set_option linter.unusedVariables false
set_option linter.unusedSectionVars false
namespace Go.Proofs.Ytiodpahbmoeiaaa
open Go Go.RowKit
set_option maxRecDepth 100000 in
theorem Try.infoF32 : (Try.prog.info? 22).map (fun i => (i.zero, i.size, i.bytes)) = some (some (.float .f32 0), 1, 4) := by kernel_rfl
/-- A slice of numbers that the call itself has made, from block number B on. -/
def OF (B : Nat) (w : World) (u : Value) (xs : List Nat) : Prop := w.ownsRow B 22 1 u xs.length (xs.map (Value.float .f32))
theorem OF.block {B : Nat} {w : World} {u : Value} {xs : List Nat} (h : OF B w u xs) : ∀ k, u.ownBlock = some k → B ≤ k ∧ k < w.heap.size := World.ownsRow.lt h
theorem OF.kept {B : Nat} {w w' : World} {u : Value} {xs : List Nat} {row : Option Nat} (h : OF B w u xs) (hg : w.grownBy w' row) (hne : u.ownBlock = none ∨ u.ownBlock ≠ row) : OF B w' u xs := World.ownsRow.kept h hg hne
theorem below_grown {w w' : World} (h : Below w.heap.size w w') (row : Option Nat) : w.grownBy w' row := ⟨h.os, h.tape, h.output, h.size, fun k hk _ => h.block k hk⟩
theorem OF.later {B : Nat} {w w' : World} {u : Value} {xs : List Nat} (h : OF B w u xs) (hb : Below w.heap.size w w') : OF B w' u xs := by
  cases hu : u.ownBlock with
  | none => exact h.kept (below_grown hb none) (.inl hu)
  | some k => exact h.kept (below_grown hb none) (.inr (by rw [hu]; simp))
theorem OF.base {B B' : Nat} {w : World} {u : Value} {xs : List Nat} (h : OF B w u xs) (hB : B' ≤ B) : OF B' w u xs := by
  refine ⟨h.1, ?_⟩
  rcases h.2 with h2 | ⟨g, c, cur, r1, r2, r⟩
  · exact .inl h2
  · exact .inr ⟨g, c, cur, r1, by omega, r⟩
/-- An own slice, seen. -/
theorem OF.view {B : Nat} {w : World} {u : Value} {xs : List Nat} (h : OF B w u xs) : (u = .slice none 0 0 ∧ xs = []) ∨ ∃ g c, u = .slice (some ⟨g, 0, none⟩) xs.length c ∧ B ≤ g ∧ g < w.heap.size ∧ xs.length ≤ c ∧ c ≤ maxLen ∧ ∀ j, j < xs.length → w.cell? ⟨g, j, none⟩ = some (.float .f32 (xs.getD j 0)) ∧ w.frozen? ⟨g, j, none⟩ = false := by
  rcases h.2 with ⟨h1, h2⟩ | ⟨g, c, cur, h1, h2, h3, h4, h5, _⟩
  · exact .inl ⟨h1, by simpa using h2⟩
  · subst h1
    refine .inr ⟨g, c, rfl, h2, (OF.block h g rfl).2, h4, h5, fun j hj => ⟨?_, World.ownsRow.frozenAt h j⟩⟩
    have := World.ownsRow.cellAt h j (by simpa using hj)
    rw [this]
    simp [hj]
theorem OF.setCell {B : Nat} {w : World} {u : Value} {xs : List Nat} (h : OF B w u xs) {a : Addr} (ha : a.block < B) (v : Value) : OF B (w.setCell a v) u xs := by
  refine h.kept (row := some a.block) ⟨rfl, rfl, rfl, by simp, fun k _ hk => Below.heap_setCell _ _ _ _ (fun e => hk (by rw [e]))⟩ ?_
  cases hu : u.ownBlock with
  | none => exact .inl rfl
  | some k =>
    refine .inr fun e => ?_
    have := (h.block k hu).1
    simp at e
    omega
theorem OF.alloc {B : Nat} {w : World} {u : Value} {xs : List Nat} (h : OF B w u xs) (o : Obj) : OF B (w.alloc o) u xs := h.later ((Below.refl _ _).alloc (Nat.le_refl _) o)
theorem OF.drewN {B : Nat} {w : World} {u : Value} {xs : List Nat} (h : OF B w u xs) (n : Nat) : OF B (w.drewN n) u xs := h.later (below_drewN (Below.refl _ _) n)
theorem OF.shape {B : Nat} {w : World} {u : Value} {xs : List Nat} (h : OF B w u xs) : ∃ q c, u = .slice q xs.length c := by
  rcases h.view with ⟨rfl, rfl⟩ | ⟨g, c, rfl, _⟩
  · exact ⟨none, 0, rfl⟩
  · exact ⟨_, c, rfl⟩
theorem OF.fs {B : Nat} {w : World} {u : Value} {xs : List Nat} (h : OF B w u xs) : FS w u xs := by
  rcases h.view with ⟨rfl, rfl⟩ | ⟨g, c, rfl, _, _, h1, h2, h3⟩
  · exact ⟨none, 0, rfl, by omega, by simp, fun i hi => by simp at hi⟩
  · exact ⟨_, c, rfl, by simpa [maxLen] using h2, h1, fun i hi => ⟨g, 0, rfl, by rw [Nat.zero_add]; exact (h3 i hi).1⟩⟩
theorem FS.kept {w w' : World} {v : Value} {xs : List Nat} {row : Option Nat} (h : FS w v xs) (hg : w.grownBy w' row) (hne : v.ownBlock = none ∨ v.ownBlock ≠ row) : FS w' v xs := by
  obtain ⟨p, c, rfl, h1, h2, h3⟩ := h
  refine ⟨p, c, rfl, h1, h2, fun i hi => ?_⟩
  obtain ⟨b, o, rfl, hc⟩ := h3 i hi
  refine ⟨b, o, rfl, hg.cell hc ?_⟩
  rcases hne with hne | hne
  · cases hne
  · exact hne
/-- In a plan: a call that hands back an own slice, somewhere in its value. -/
def Clm.own (mk : Value → Value) (B : Nat) (xs : List Nat) : Clm := ⟨1, fun _ v => ∃ q c, v = mk (.slice q xs.length c), fun _ v w => ∀ u, v = mk u → OF B w u xs, fun _ => ⟨_, none, 0, rfl⟩,
  fun _ v w w' h hb u e => (h u e).later hb, fun h => nomatch h⟩
theorem wpC_callO {P : Program} {ops : Array Oper} {Q : Exit → Act → World → Prop} {W : World} {l : List Oper} {cs : List Clm} {i : Nat} {ks : List (Nat × (World → Prop))} {a : Act} {o : Oper}
    (mk : Value → Value) (xs : List Nat) (hw : Region.wanted o (yielded ops a.tmps) = true) {f : FuncId} {args : Array Value} (h1 : ∀ w, (execOp a.eval o).run P w = .ok (.enter f args) w)
    (hc : ∀ w, Below W.heap.size W w → depK o ks w → Calls P f args w (fun e w' => ∃ u, e = .returned (mk u) ∧ Below w.heap.size w w' ∧ OF w.heap.size w' u xs)) (hmk : ∀ u u', mk u = mk u' → u = u')
    (h : ∀ q c, wpC P ops Q W l cs (i + 1) ((i, fun w => ∀ u, mk (.slice q xs.length c) = mk u → OF W.heap.size w u xs) :: ks) (a.put o.dst (mk (.slice q xs.length c)))) : wpC P ops Q W (o :: l) (Clm.own mk W.heap.size xs :: cs) i ks a := by
  refine wpC_call (Clm.own mk W.heap.size xs) rfl hw h1 (fun w hb hk => (hc w hb hk).mono ?_) ?_
  · rintro e w' ⟨u, rfl, hbl, hO⟩
    obtain ⟨q, c, rfl⟩ := hO.shape
    exact ⟨_, rfl, hbl, ⟨q, c, rfl⟩, fun u' e => by rw [← hmk _ _ e]; exact hO.base hb.size⟩
  · rintro v ⟨q, c, rfl⟩; exact h q c
/-- The numbers that a row is marked with. -/
def marks (k : Int) (n : Nat) : List Nat := (List.range n).map fun j : Nat => floatOfInt .f32 (k + j)
theorem marks_length (k : Int) (n : Nat) : (marks k n).length = n := by simp [marks]
theorem marks_getD (k : Int) {n j : Nat} (h : j < n) : (marks k n).getD j 0 = floatOfInt .f32 (k + j) := by simp [marks, h]
theorem floatOfInt_not_nan (k : FloatKind) (n : Int) : isN k (floatOfInt k n) = false := by
  unfold floatOfInt
  exact enc_not_nan k (d := .number (n < 0) n.natAbs 0) rfl
theorem half_at (xs : List Nat) {k : Nat} (h : k < xs.length) : (xs.take k ++ List.replicate (xs.length - k) 0).getD k 0 = 0 := by
  rw [List.getD_eq_getElem?_getD, List.getElem?_append_right (by simp; omega), List.length_take, Nat.min_eq_left (by omega), Nat.sub_self, List.getElem?_replicate]
  split <;> rfl
theorem half_set (xs : List Nat) {k : Nat} (h : k < xs.length) : (xs.take k ++ List.replicate (xs.length - k) 0).set k (xs.getD k 0) = xs.take (k + 1) ++ List.replicate (xs.length - (k + 1)) 0 := by
  rw [show xs.length - k = (xs.length - (k + 1)) + 1 by omega, List.replicate_succ, List.set_append_right _ _ (by simp; omega), List.take_add_one, List.length_take, Nat.min_eq_left (by omega), Nat.sub_self, List.set_cons_zero, List.getElem?_eq_getElem h, List.getD_eq_getElem?_getD, List.getElem?_eq_getElem h, List.append_assoc]
  rfl
set_option maxHeartbeats 1000000 in
theorem toF_any (xs : List Nat) (v : Value) (w : World) (hs : FS w v xs) (hn : xs.length ≤ 1048576) : Calls Try.prog 31 #[v] w (fun e w' => ∃ u, e = .returned u ∧ Below w.heap.size w w' ∧ OF w.heap.size w' u xs) := by
  obtain ⟨p, c, rfl, hc1, hc2, HV⟩ := FS_view hs
  have HV := Lib.hid HV
  clear hs
  obtain ⟨i0, hi, hz0, hz1, hz2⟩ := info_parts Try.infoF32
  have hib : i0.bytes * xs.length ≤ 281474976710656 := by rw [hz2]; omega
  have hml : xs.length ≤ maxLen := by unfold maxLen; omega
  go_enter Try.func31, Try.ntmps31
  go_wp2_with (first | (at_make; refine wpList_make_full _ rfl _ _ 38 rfl w.heap.size 22 i0 (.float .f32 0) 1 Try.underlying38 hi hz0 hz1 _ _ _ _ xs.length rfl rfl rfl rfl hib hml (Nat.le_refl _) ?_; intro w1 hown hgrow))
  have hown0 : OF w.heap.size w1 (.slice (some ⟨w.heap.size, 0, none⟩) xs.length xs.length) (List.replicate xs.length 0) := by
    unfold OF
    simp only [Value.cells, Nat.mul_one, toList_madeCells_one, List.length_replicate, List.map_replicate] at hown ⊢
    exact hown
  have hB0 : Below w.heap.size w w1 := (Below.refl _ _).grown hgrow (Nat.le_refl _) (fun k h => by cases h)
  have H0 := Lib.hid hown0
  clear hown hgrow hown0 hi hz0 hz1 hz2 hib hml
  go_loopw [4] (fun t wr => ∃ k : Nat, k ≤ xs.length ∧ t = .int .i64 k ∧ Below w.heap.size w wr ∧ Hid (OF w.heap.size wr (.slice (some ⟨w.heap.size, 0, none⟩) xs.length xs.length) (xs.take k ++ List.replicate (xs.length - k) 0))) (fun t _ => xs.length - (intOf t).toNat)
  case atStart => exact ⟨0, Nat.zero_le _, rfl, hB0, by simpa using H0⟩
  case round =>
    obtain ⟨k, hk, rfl, hB, HO⟩ := hrel
    by_cases hlt : k < xs.length
    · obtain ⟨b, o, rfl, hcell⟩ := HV.out k hlt
      have hlen : (xs.take k ++ List.replicate (xs.length - k) 0).length = xs.length := by simp; omega
      have HF : Hid (OF w.heap.size wr (.slice (some ⟨w.heap.size, 0, none⟩) xs.length xs.length) (xs.take k ++ List.replicate (xs.length - k) 0)) := HO
      obtain ⟨hcell0, hfr⟩ : wr.cell? ⟨w.heap.size, k, none⟩ = some (.float .f32 0) ∧ wr.frozen? ⟨w.heap.size, k, none⟩ = false := by
        rcases HF.out.view with ⟨h, _⟩ | ⟨g, c', h1, _, _, _, _, h2⟩
        · cases h
        · simp only [Value.slice.injEq, Option.some.injEq, Addr.mk.injEq, and_true] at h1
          obtain ⟨rfl, _⟩ := h1
          have := h2 k (by omega)
          refine ⟨?_, this.2⟩
          rw [this.1]
          rw [half_at xs hlt]
      have hc := cell_later hB hcell
      have hstore : Hid (OF w.heap.size (wr.setCell ⟨w.heap.size, k, none⟩ (.float .f32 (xs.getD k 0))) (.slice (some ⟨w.heap.size, 0, none⟩) xs.length xs.length) (xs.take (k + 1) ++ List.replicate (xs.length - (k + 1)) 0)) := by
        have h1 := HO.out
        unfold OF at h1
        rw [hlen] at h1
        have h2 := (World.ownsRow.stored h1 k (.float .f32 (xs.getD k 0))).1
        have e : (xs.take (k + 1) ++ List.replicate (xs.length - (k + 1)) 0) = (xs.take k ++ List.replicate (xs.length - k) 0).set k (xs.getD k 0) := by
          exact (half_set xs hlt).symm
        have e2 : (xs.take (k + 1) ++ List.replicate (xs.length - (k + 1)) 0).length = xs.length := by simp; omega
        show OF _ _ _ _
        unfold OF
        rw [e2, e, List.map_set]
        exact h2
      have hB' : Below w.heap.size w (wr.setCell ⟨w.heap.size, k, none⟩ (.float .f32 (xs.getD k 0))) := Below.setCell hB (Nat.le_refl _) _
      generalize hx : xs.getD k 0 = x at hc hstore hB'
      have HX := Lib.hid hx
      clear hx hcell hlen
      clear HF HO H0 hB0
      go_wp2
      go_roundw
      case rel => exact ⟨k + 1, by omega, by go_num, hB', hstore⟩
      case measure => simp [intOf]; omega
    · have he : xs.take k ++ List.replicate (xs.length - k) 0 = xs := by
        obtain rfl : k = xs.length := by omega
        simp
      rw [he] at HO
      go_wp2
      go_ret
      exact ⟨_, rfl, hB, HO.out⟩
set_option maxHeartbeats 1000000 in
theorem eqF_any (xs ys : List Nat) (v u : Value) (w : World) (hs : FS w v xs) (ht : FS w u ys) (he : ys.map (cn .f32) = xs.map (cn .f32)) : Calls Try.prog 33 #[v, u] w (BV w (.bool true)) := by
  obtain ⟨p, c, rfl, hc1, hc2, HV⟩ := FS_view hs
  obtain ⟨q, d, rfl, hd1, hd2, HU⟩ := FS_view ht
  have hl : ys.length = xs.length := by simpa using congrArg List.length he
  have HV := Lib.hid HV
  have HU := Lib.hid HU
  have HE := Lib.hid (fun k (h : k < xs.length) => (by
    have := congrArg (fun l => l[k]?) he
    simp only [List.getElem?_map] at this
    rw [List.getElem?_eq_getElem h, List.getElem?_eq_getElem (by omega)] at this
    simp only [Option.map_some, Option.some.injEq] at this
    rw [List.getD_eq_getElem?_getD, List.getD_eq_getElem?_getD, List.getElem?_eq_getElem h, List.getElem?_eq_getElem (by omega)]
    exact this : cn .f32 (ys.getD k 0) = cn .f32 (xs.getD k 0)))
  clear hs ht he
  rw [hl]
  have HL := Lib.hid hl
  rw [hl] at hd2
  clear hl
  go_enter Try.func33, Try.ntmps33
  go_wp2
  go_loopw [5] (fun t wr => ∃ k : Nat, k ≤ xs.length ∧ t = .int .i64 k ∧ Below w.heap.size w wr) (fun t _ => xs.length - (intOf t).toNat)
  case atStart => exact ⟨0, Nat.zero_le _, rfl, Below.refl _ _⟩
  case round =>
    obtain ⟨k, hk, rfl, hB⟩ := hrel
    by_cases hlt : k < xs.length
    · obtain ⟨b, o, rfl, hcell0⟩ := HV.out k hlt
      obtain ⟨b2, o2, rfl, hcell20⟩ := HU.out k (by rw [HL.out]; exact hlt)
      have hq := HE.out k hlt
      have hl1 := HL.out
      have hcell := cell_later hB hcell0
      have hcell2 := cell_later hB hcell20
      clear hcell0 hcell20
      have hT0 : Trk wr [b, b2] := (((Trk.nil wr).more (World.block_lt_of_cell? _ _ hcell2)).more (World.block_lt_of_cell? _ _ hcell))
      generalize xs.getD k 0 = x at hcell hq
      generalize ys.getD k 0 = y at hcell2 hq
      clear HV HU HE
      go_wp2_with fail
      (apply wp_region_plan; ((apply wpC_det; (case hw => exact rfl); (case hs => (intro cs b h; cases h)); (case h1 => (intro w'; go_simp <;> exact rfl))); apply wpC_norm; (case ha => (simp only [Act.put, List.setIfInBounds_toArray, List.set_cons_zero, List.set_cons_succ]; exact rfl))); ((apply wpC_det; (case hw => exact rfl); (case hs => (intro cs b h; cases h)); (case h1 => (intro w'; go_simp <;> exact rfl))); apply wpC_norm; (case ha => (simp only [Act.put, List.setIfInBounds_toArray, List.set_cons_zero, List.set_cons_succ]; exact rfl))); ((apply wpC_det; (case hw => exact rfl); (case hs => (intro cs b h; cases h)); (case h1 => (intro w'; go_simp <;> exact rfl))); apply wpC_norm; (case ha => (simp only [Act.put, List.setIfInBounds_toArray, List.set_cons_zero, List.set_cons_succ]; exact rfl))); ((apply wpC_val; (case hw => exact rfl); (case h1 => (intro w' hb hk0; obtain ⟨hT, hk⟩ := bv_next hb (by (repeat (with_reducible first | assumption | apply Trk.alloc | apply Trk.setCell | apply Trk.drewN | apply Trk.drew | exact Trk.nil _))); simp only [SameOn, World.size_alloc, World.size_setCell, World.size_drew, size_drewN', and_true] at hk; have hsz := Below.size hb; (try simp only [World.size_alloc, World.size_setCell, World.size_drew, size_drewN'] at hsz); go_simp <;> exact rfl))); apply wpC_norm; (case ha => (simp only [Act.put, List.setIfInBounds_toArray, List.set_cons_zero, List.set_cons_succ]; exact rfl))); ((apply wpC_wide rfl rfl Try.underlying22 Try.underlying26 rfl; intro r hr0; have hr := hr0 _ (by first | with_reducible assumption | exact rfl); clear hr0); apply wpC_norm; (case ha => (simp only [Act.put, List.setIfInBounds_toArray, List.set_cons_zero, List.set_cons_succ]; exact rfl))); ((apply wpC_det; (case hw => exact rfl); (case hs => (intro cs b h; cases h)); (case h1 => (intro w'; go_simp <;> exact rfl))); apply wpC_norm; (case ha => (simp only [Act.put, List.setIfInBounds_toArray, List.set_cons_zero, List.set_cons_succ]; exact rfl))); ((apply wpC_det; (case hw => exact rfl); (case hs => (intro cs b h; cases h)); (case h1 => (intro w'; go_simp <;> exact rfl))); apply wpC_norm; (case ha => (simp only [Act.put, List.setIfInBounds_toArray, List.set_cons_zero, List.set_cons_succ]; exact rfl))); ((apply wpC_det; (case hw => exact rfl); (case hs => (intro cs b h; cases h)); (case h1 => (intro w'; go_simp <;> exact rfl))); apply wpC_norm; (case ha => (simp only [Act.put, List.setIfInBounds_toArray, List.set_cons_zero, List.set_cons_succ]; exact rfl))); ((apply wpC_val; (case hw => exact rfl); (case h1 => (intro w' hb hk0; obtain ⟨hT, hk⟩ := bv_next hb (by (repeat (with_reducible first | assumption | apply Trk.alloc | apply Trk.setCell | apply Trk.drewN | apply Trk.drew | exact Trk.nil _))); simp only [SameOn, World.size_alloc, World.size_setCell, World.size_drew, size_drewN', and_true] at hk; have hsz := Below.size hb; (try simp only [World.size_alloc, World.size_setCell, World.size_drew, size_drewN'] at hsz); go_simp <;> exact rfl))); apply wpC_norm; (case ha => (simp only [Act.put, List.setIfInBounds_toArray, List.set_cons_zero, List.set_cons_succ]; exact rfl))); ((apply wpC_wide rfl rfl Try.underlying22 Try.underlying26 rfl; intro r hr0; have hr := hr0 _ (by first | with_reducible assumption | exact rfl); clear hr0); apply wpC_norm; (case ha => (simp only [Act.put, List.setIfInBounds_toArray, List.set_cons_zero, List.set_cons_succ]; exact rfl))); ((apply wpC_callB _; ((case hw => exact rfl)); (case h1 => (intro w'; go_simp; exact ⟨rfl, rfl⟩)); (case hc => (intro w' hb hk0; obtain ⟨hT, hk⟩ := bv_next hb (by (repeat (with_reducible first | assumption | apply Trk.alloc | apply Trk.setCell | apply Trk.drewN | apply Trk.drew | exact Trk.nil _))); simp only [SameOn, World.size_alloc, World.size_setCell, World.size_drew, size_drewN', and_true] at hk; have hsz := Below.size hb; (try simp only [World.size_alloc, World.size_setCell, World.size_drew, size_drewN'] at hsz); refine ((sameFloat_cn _ _ (by simp only [*]) _) ).mono ?_; intro e2 w3 h; (try simp only [*] at h); exact RB.bv h))); apply wpC_norm; (case ha => (simp only [Act.put, List.setIfInBounds_toArray, List.set_cons_zero, List.set_cons_succ]; exact rfl))); ((apply wpC_det; (case hw => exact rfl); (case hs => (intro cs b h; cases h)); (case h1 => (intro w'; go_simp <;> exact rfl))); apply wpC_norm; (case ha => (simp only [Act.put, List.setIfInBounds_toArray, List.set_cons_zero, List.set_cons_succ]; exact rfl))); refine wpC_nil ?_; intro w' hb hkk; obtain ⟨hT, hk⟩ := bv_next hb (by (repeat (with_reducible first | assumption | apply Trk.alloc | apply Trk.setCell | apply Trk.drewN | apply Trk.drew | exact Trk.nil _))); simp only [SameOn, World.size_alloc, World.size_setCell, World.size_drew, size_drewN', and_true] at hk; have hsz := Below.size hb; (try simp only [World.size_alloc, World.size_setCell, World.size_drew, size_drewN'] at hsz))
      go_wp2
      go_roundw
      case rel => exact ⟨k + 1, by omega, by go_num, by (repeat (first | (with_reducible exact Below.refl _ _) | (with_reducible assumption) | (with_reducible refine below_then ?_ (by assumption)) | (with_reducible refine Below.trans ?_ (by assumption)) | (with_reducible refine below_drewN ?_ _) | (with_reducible apply Below.drew) | (with_reducible refine below_alloc ?_ _) | refine Below.setCell ?_ (by first | (simp; done) | (simp; omega)) _))⟩
      case measure => simp [intOf]; omega
      all_goals first | kernel_rfl | rfl
    · go_wp2
      go_ret
      exact ⟨rfl, hB⟩
set_option maxHeartbeats 1000000 in
theorem markF_any (B : Nat) (xs : List Nat) (u : Value) (k0 : Int) (w : World) (hs : OF B w u xs) (hk : 0 ≤ k0 ∧ k0 ≤ 1048576) (hn : xs.length ≤ 1048576) : Calls Try.prog 34 #[u, .int .i64 k0] w (fun e w' => e = .returned (.int .i64 (k0 + xs.length)) ∧ w.grownBy w' u.ownBlock ∧ w'.heap.size = w.heap.size ∧ OF B w' u (marks k0 xs.length)) := by
  obtain ⟨k1, k2⟩ := hk
  rcases hs.view with ⟨rfl, rfl⟩ | ⟨g, c, rfl, v1, v2, v3, v4, v5⟩
  · go_enter Try.func34, Try.ntmps34
    go_wp2
    go_loopw [1, 5] (fun s t wr => s = .int .i64 k0 ∧ t = .int .i64 0 ∧ wr = w) (fun _ _ _ => 0)
    case atStart => exact ⟨rfl, rfl, rfl⟩
    case round =>
      obtain ⟨rfl, rfl, rfl⟩ := hrel
      go_wp2
      go_ret
      exact ⟨by simp, World.grownBy.refl _ _, rfl, World.ownsRow_nil _ _ _ _⟩
  · have HS := Lib.hid hs
    clear hs
    unfold maxLen at v4
    have HV := Lib.hid v5
    clear v5
    go_enter Try.func34, Try.ntmps34
    go_wp2
    go_loopw [1, 5] (fun s t wr => ∃ k : Nat, k ≤ xs.length ∧ t = .int .i64 k ∧ s = .int .i64 (k0 + k) ∧ w.grownBy wr (some g) ∧ wr.heap.size = w.heap.size ∧ Hid (OF B wr (.slice (some ⟨g, 0, none⟩) xs.length c) (marks k0 k ++ xs.drop k))) (fun _ t _ => xs.length - (intOf t).toNat)
    case atStart => exact ⟨0, Nat.zero_le _, rfl, by simp, World.grownBy.refl _ _, rfl, by simpa [marks] using HS⟩
    case round =>
      obtain ⟨k, hk, rfl, rfl, hG, hZ, HO⟩ := hrel
      by_cases hlt : k < xs.length
      · have hlen : (marks k0 k ++ xs.drop k).length = xs.length := by simp [marks_length]; omega
        obtain ⟨old, hcell0, hfr⟩ : ∃ old, wr.cell? ⟨g, k, none⟩ = some old ∧ wr.frozen? ⟨g, k, none⟩ = false := by
          rcases HO.out.view with ⟨h, _⟩ | ⟨g', c', h1, _, _, _, _, h2⟩
          · cases h
          · simp only [Value.slice.injEq, Option.some.injEq, Addr.mk.injEq, and_true] at h1
            obtain ⟨rfl, _⟩ := h1
            have := h2 k (by omega)
            exact ⟨_, this.1, this.2⟩
        have hstore : Hid (OF B (wr.setCell ⟨g, k, none⟩ (.float .f32 (floatOfInt .f32 (k0 + k)))) (.slice (some ⟨g, 0, none⟩) xs.length c) (marks k0 (k + 1) ++ xs.drop (k + 1)) ∧ w.grownBy (wr.setCell ⟨g, k, none⟩ (.float .f32 (floatOfInt .f32 (k0 + k)))) (some g)) := by
          have h1 := HO.out
          unfold OF at h1
          rw [hlen] at h1
          obtain ⟨h2, h3⟩ := World.ownsRow.stored h1 k (.float .f32 (floatOfInt .f32 (k0 + k)))
          have e : marks k0 (k + 1) ++ xs.drop (k + 1) = (marks k0 k ++ xs.drop k).set k (floatOfInt .f32 (k0 + k)) := by
            rw [List.set_append_right _ _ (by simp [marks_length]), marks_length, Nat.sub_self, List.drop_eq_getElem_cons hlt, List.set_cons_zero]
            simp [marks, List.range_succ]
          have e2 : (marks k0 (k + 1) ++ xs.drop (k + 1)).length = xs.length := by simp [marks_length]; omega
          refine ⟨?_, ⟨h3.os.trans hG.os, h3.tape.trans hG.tape, h3.output.trans hG.output, by rw [World.size_setCell]; omega, fun j hj hne => (h3.block j (by omega) hne).trans (hG.block j hj hne)⟩⟩
          unfold OF
          rw [e2, e, List.map_set]
          exact h2
        have HG := Lib.hid hG
        clear hG HS HV HO hlen
        go_wp2
        go_roundw
        case rel => exact ⟨k + 1, by omega, by go_num, by go_num, hstore.out.2, by simp [hZ], hstore.out.1⟩
        case measure => simp [intOf]; omega
      · have he : k = xs.length := by omega
        subst he
        have HO2 : Hid (OF B wr (.slice (some ⟨g, 0, none⟩) xs.length c) (marks k0 xs.length)) := by
          have := HO.out
          rw [List.drop_length, List.append_nil] at this
          exact this
        clear HO HS HV
        go_wp2
        go_ret
        exact ⟨rfl, hG, hZ, HO2.out⟩
set_option maxHeartbeats 1000000 in
theorem heldF_any (n : Nat) (u : Value) (k0 : Int) (w : World) (hs : FS w u (marks k0 n)) (hk : 0 ≤ k0 ∧ k0 ≤ 1048576) (hn : n ≤ 1048576) : Calls Try.prog 35 #[u, .int .i64 k0] w (RI w (k0 + n)) := by
  obtain ⟨p, c, rfl, hc1, hc2, HV⟩ := FS_view hs
  rw [marks_length] at hc2 HV ⊢
  have HV := Lib.hid HV
  clear hs
  obtain ⟨k1, k2⟩ := hk
  go_enter Try.func35, Try.ntmps35
  go_wp2
  go_loopw [1, 5] (fun s t wr => ∃ k m : Nat, k ≤ n ∧ t = .int .i64 k ∧ s = .int .i64 (k0 + k) ∧ wr = w.drewN m) (fun _ t _ => n - (intOf t).toNat)
  case atStart => exact ⟨0, 0, Nat.zero_le _, rfl, by simp, rfl⟩
  case round =>
    obtain ⟨k, m, hk, rfl, rfl, rfl⟩ := hrel
    by_cases hlt : k < n
    · obtain ⟨b, o, rfl, hcell⟩ := HV.out k hlt
      rw [marks_getD k0 hlt] at hcell
      have hfe : feq .f32 (cn .f32 (floatOfInt .f32 (k0 + k))) (cn .f32 (floatOfInt .f32 (k0 + k))) = true := by rw [feq_cn_self, floatOfInt_not_nan]; rfl
      clear HV
      go_wp2
      go_roundw
      case rel => exact ⟨k + 1, m, by omega, by go_num, by go_num, rfl⟩
      case measure => simp [intOf]; omega
    · have he : k = n := by omega
      subst he
      go_wp2
      go_ret
      exact ⟨rfl, m, rfl⟩
end Go.Proofs.Ytiodpahbmoeiaaa

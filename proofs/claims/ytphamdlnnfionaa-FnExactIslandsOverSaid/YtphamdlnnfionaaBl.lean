/-
  Slices of bools: what a call makes, writes and compares; the laws' own helpers (toBoolS, eqBoolS, szBoolS), each proved once. No condition but what each contract says.
-/
import Derived.Test.YtphamdlnnfionaaMark
set_option linter.unusedSimpArgs false
set_option linter.unusedVariables false
set_option linter.unusedSectionVars false
namespace Go.Proofs.Ytphamdlnnfionaa
open Go Go.RowKit
/-- A slice of bools with these values. -/
def BS (w : World) (v : Value) (xs : List Bool) : Prop :=
  ∃ p c, v = .slice p xs.length c ∧ c ≤ 9223372036854775807 ∧ xs.length ≤ c ∧ ∀ i, i < xs.length → ∃ b o, p = some ⟨b, o, none⟩ ∧ w.cell? ⟨b, o + i, none⟩ = some (.bool (xs.getD i false))
theorem BS_view {w : World} {v : Value} {xs : List Bool} (h : BS w v xs) : ∃ p c, v = .slice p xs.length c ∧ c ≤ 9223372036854775807 ∧ xs.length ≤ c ∧ ∀ i, i < xs.length → ∃ b o, p = some ⟨b, o, none⟩ ∧ w.cell? ⟨b, o + i, none⟩ = some (.bool (xs.getD i false)) := h
theorem BS.later {w w' : World} {v : Value} {xs : List Bool} (h : BS w v xs) (hb : Below w.heap.size w w') : BS w' v xs := by
  obtain ⟨p, c, rfl, h1, h2, h3⟩ := h
  refine ⟨p, c, rfl, h1, h2, fun i hi => ?_⟩
  obtain ⟨b, o, rfl, hc⟩ := h3 i hi
  exact ⟨b, o, rfl, cell_later hb hc⟩
set_option maxRecDepth 100000 in
theorem Try.infoBool : (Try.prog.info? 4).map (fun i => (i.zero, i.size, i.bytes)) = some (some (.bool false), 1, 1) := by kernel_rfl
/-- A slice of numbers that the call itself has made, from block number B on. -/
def OL (B : Nat) (w : World) (u : Value) (xs : List Bool) : Prop := w.ownsRow B 4 1 u xs.length (xs.map (Value.bool))
theorem OL.block {B : Nat} {w : World} {u : Value} {xs : List Bool} (h : OL B w u xs) : ∀ k, u.ownBlock = some k → B ≤ k ∧ k < w.heap.size := World.ownsRow.lt h
theorem OL.kept {B : Nat} {w w' : World} {u : Value} {xs : List Bool} {row : Option Nat} (h : OL B w u xs) (hg : w.grownBy w' row) (hne : u.ownBlock = none ∨ u.ownBlock ≠ row) : OL B w' u xs := World.ownsRow.kept h hg hne
theorem OL.later {B : Nat} {w w' : World} {u : Value} {xs : List Bool} (h : OL B w u xs) (hb : Below w.heap.size w w') : OL B w' u xs := by
  cases hu : u.ownBlock with
  | none => exact h.kept (below_grown hb none) (.inl hu)
  | some k => exact h.kept (below_grown hb none) (.inr (by rw [hu]; simp))
theorem OL.base {B B' : Nat} {w : World} {u : Value} {xs : List Bool} (h : OL B w u xs) (hB : B' ≤ B) : OL B' w u xs := by
  refine ⟨h.1, ?_⟩
  rcases h.2 with h2 | ⟨g, c, cur, r1, r2, r⟩
  · exact .inl h2
  · exact .inr ⟨g, c, cur, r1, by omega, r⟩
/-- An own slice, seen. -/
theorem OL.view {B : Nat} {w : World} {u : Value} {xs : List Bool} (h : OL B w u xs) : (u = .slice none 0 0 ∧ xs = []) ∨ ∃ g c, u = .slice (some ⟨g, 0, none⟩) xs.length c ∧ B ≤ g ∧ g < w.heap.size ∧ xs.length ≤ c ∧ c ≤ maxLen ∧ ∀ j, j < xs.length → w.cell? ⟨g, j, none⟩ = some (.bool (xs.getD j false)) ∧ w.frozen? ⟨g, j, none⟩ = false := by
  rcases h.2 with ⟨h1, h2⟩ | ⟨g, c, cur, h1, h2, h3, h4, h5, _⟩
  · exact .inl ⟨h1, by simpa using h2⟩
  · subst h1
    refine .inr ⟨g, c, rfl, h2, (OL.block h g rfl).2, h4, h5, fun j hj => ⟨?_, World.ownsRow.frozenAt h j⟩⟩
    have := World.ownsRow.cellAt h j (by simpa using hj)
    rw [this]
    simp [hj]
theorem OL.setCell {B : Nat} {w : World} {u : Value} {xs : List Bool} (h : OL B w u xs) {a : Addr} (ha : a.block < B) (v : Value) : OL B (w.setCell a v) u xs := by
  refine h.kept (row := some a.block) ⟨rfl, rfl, rfl, by simp, fun k _ hk => Below.heap_setCell _ _ _ _ (fun e => hk (by rw [e]))⟩ ?_
  cases hu : u.ownBlock with
  | none => exact .inl rfl
  | some k =>
    refine .inr fun e => ?_
    have := (h.block k hu).1
    simp at e
    omega
theorem OL.alloc {B : Nat} {w : World} {u : Value} {xs : List Bool} (h : OL B w u xs) (o : Obj) : OL B (w.alloc o) u xs := h.later ((Below.refl _ _).alloc (Nat.le_refl _) o)
theorem OL.drewN {B : Nat} {w : World} {u : Value} {xs : List Bool} (h : OL B w u xs) (n : Nat) : OL B (w.drewN n) u xs := h.later (below_drewN (Below.refl _ _) n)
theorem OL.shape {B : Nat} {w : World} {u : Value} {xs : List Bool} (h : OL B w u xs) : ∃ q c, u = .slice q xs.length c := by
  rcases h.view with ⟨rfl, rfl⟩ | ⟨g, c, rfl, _⟩
  · exact ⟨none, 0, rfl⟩
  · exact ⟨_, c, rfl⟩
theorem OL.fs {B : Nat} {w : World} {u : Value} {xs : List Bool} (h : OL B w u xs) : BS w u xs := by
  rcases h.view with ⟨rfl, rfl⟩ | ⟨g, c, rfl, _, _, h1, h2, h3⟩
  · exact ⟨none, 0, rfl, by omega, by simp, fun i hi => by simp at hi⟩
  · exact ⟨_, c, rfl, by simpa [maxLen] using h2, h1, fun i hi => ⟨g, 0, rfl, by rw [Nat.zero_add]; exact (h3 i hi).1⟩⟩
theorem BS.kept {w w' : World} {v : Value} {xs : List Bool} {row : Option Nat} (h : BS w v xs) (hg : w.grownBy w' row) (hne : v.ownBlock = none ∨ v.ownBlock ≠ row) : BS w' v xs := by
  obtain ⟨p, c, rfl, h1, h2, h3⟩ := h
  refine ⟨p, c, rfl, h1, h2, fun i hi => ?_⟩
  obtain ⟨b, o, rfl, hc⟩ := h3 i hi
  refine ⟨b, o, rfl, hg.cell hc ?_⟩
  rcases hne with hne | hne
  · cases hne
  · exact hne
theorem halfB_at (xs : List Bool) {k : Nat} (h : k < xs.length) : (xs.take k ++ List.replicate (xs.length - k) false).getD k false = false := by
  rw [List.getD_eq_getElem?_getD, List.getElem?_append_right (by simp; omega), List.length_take, Nat.min_eq_left (by omega), Nat.sub_self, List.getElem?_replicate]
  split <;> rfl
theorem halfB_set (xs : List Bool) {k : Nat} (h : k < xs.length) : (xs.take k ++ List.replicate (xs.length - k) false).set k (xs.getD k false) = xs.take (k + 1) ++ List.replicate (xs.length - (k + 1)) false := by
  rw [show xs.length - k = (xs.length - (k + 1)) + 1 by omega, List.replicate_succ, List.set_append_right _ _ (by simp; omega), List.take_add_one, List.length_take, Nat.min_eq_left (by omega), Nat.sub_self, List.set_cons_zero, List.getElem?_eq_getElem h, List.getD_eq_getElem?_getD, List.getElem?_eq_getElem h, List.append_assoc]
  rfl
theorem BS.alloc {w : World} {v : Value} {xs : List Bool} (h : BS w v xs) (o : Obj) : BS (w.alloc o) v xs := h.later ((Below.refl _ _).alloc (Nat.le_refl _) o)
theorem BS.drewN {w : World} {v : Value} {xs : List Bool} (h : BS w v xs) (n : Nat) : BS (w.drewN n) v xs := h
theorem OL.sep {B B' : Nat} {w w' : World} {v u : Value} {xs ys : List Bool} (h1 : OL B w v xs) (h2 : OL B' w' u ys) (h : w.heap.size ≤ B') : v.ownBlock = none ∨ v.ownBlock ≠ u.ownBlock := by
  cases hv : v.ownBlock with
  | none => exact .inl rfl
  | some k =>
    refine .inr fun e => ?_
    have a := (h1.block k hv).2
    have b := (h2.block k e.symm).1
    omega
theorem OL.sep' {B B' : Nat} {w w' : World} {v u : Value} {xs ys : List Bool} (h1 : OL B w v xs) (h2 : OL B' w' u ys) (h : w'.heap.size ≤ B) : v.ownBlock = none ∨ v.ownBlock ≠ u.ownBlock := by
  cases hv : v.ownBlock with
  | none => exact .inl rfl
  | some k =>
    refine .inr fun e => ?_
    have a := (h1.block k hv).1
    have b := (h2.block k e.symm).2
    omega
set_option maxHeartbeats 400000 in
theorem szB_any (xs : List Bool) (v : Value) (left : Int) (w : World) (hs : BS w v xs) (hl : 0 ≤ left ∧ left ≤ 1048576) : Calls Try.prog 29 #[v, .int .i64 left] w (RI w (if left - xs.length < 0 then -1 else left - xs.length)) := by
  obtain ⟨p, c, rfl, hc1, hc2, HV⟩ := BS_view hs
  clear hs
  obtain ⟨l1, l2⟩ := hl
  by_cases hlt : left - xs.length < 0
  all_goals
    go_enter Try.func29, Try.ntmps29
    go_wp2_with (first | (with_reducible refine at_list ?_; refine wpList_fop rfl rfl rfl rfl rfl ?_; intro r n hr0; have hr := hr0 _ _ (by first | with_reducible assumption | exact rfl) (by first | with_reducible assumption | exact rfl); clear hr0) | (with_reducible refine at_list ?_; refine wpList_neg rfl rfl rfl ?_; intro r hr0; have hr := hr0 _ (by first | with_reducible assumption | exact rfl); clear hr0) | (with_reducible refine at_list ?_; refine wpList_fop_g rfl rfl rfl rfl rfl ?_; intro r n hr0; have hr := hr0 _ _ (by first | with_reducible assumption | exact rfl) (by first | with_reducible assumption | exact rfl); clear hr0) | (with_reducible refine at_list ?_; refine wpList_wide_g rfl rfl Try.underlying26 Try.underlying54 rfl ?_; intro r n hr0; have hr := hr0 _ (by first | with_reducible assumption | exact rfl); clear hr0) | (with_reducible refine at_list ?_; refine wpList_wide rfl rfl rfl Try.underlying26 Try.underlying54 ?_; intro r n hr0; have hr := hr0 _ (by first | with_reducible assumption | exact rfl); clear hr0))
    all_goals
      go_ret
      exact ⟨by simp [hlt], by first | exact ⟨_, rfl⟩ | exact ⟨0, rfl⟩⟩
set_option maxHeartbeats 1000000 in
theorem toB_any (xs : List Bool) (v : Value) (w : World) (hs : BS w v xs) (hn : xs.length ≤ 1048576) : Calls Try.prog 35 #[v] w (fun e w' => ∃ u, e = .returned u ∧ Below w.heap.size w w' ∧ OL w.heap.size w' u xs) := by
  obtain ⟨p, c, rfl, hc1, hc2, HV⟩ := BS_view hs
  have HV := Lib.hid HV
  clear hs
  obtain ⟨i0, hi, hz0, hz1, hz2⟩ := info_parts Try.infoBool
  have hib : i0.bytes * xs.length ≤ 281474976710656 := by rw [hz2]; omega
  have hml : xs.length ≤ maxLen := by unfold maxLen; omega
  go_enter Try.func35, Try.ntmps35
  go_wp2_with (first | (at_make; refine wpList_make_full _ rfl _ _ 23 rfl w.heap.size 4 i0 (.bool false) 1 Try.underlying23 hi hz0 hz1 _ _ _ _ xs.length rfl rfl rfl rfl hib hml (Nat.le_refl _) ?_; intro w1 hown hgrow))
  have hown0 : OL w.heap.size w1 (.slice (some ⟨w.heap.size, 0, none⟩) xs.length xs.length) (List.replicate xs.length false) := by
    unfold OL
    simp only [Value.cells, Nat.mul_one, toList_madeCells_one, List.length_replicate, List.map_replicate] at hown ⊢
    exact hown
  have hB0 : Below w.heap.size w w1 := (Below.refl _ _).grown hgrow (Nat.le_refl _) (fun k h => by cases h)
  have H0 := Lib.hid hown0
  clear hown hgrow hown0 hi hz0 hz1 hz2 hib hml
  go_loopw [4] (fun t wr => ∃ k : Nat, k ≤ xs.length ∧ t = .int .i64 k ∧ Below w.heap.size w wr ∧ Hid (OL w.heap.size wr (.slice (some ⟨w.heap.size, 0, none⟩) xs.length xs.length) (xs.take k ++ List.replicate (xs.length - k) false))) (fun t _ => xs.length - (intOf t).toNat)
  case atStart => exact ⟨0, Nat.zero_le _, rfl, hB0, by simpa using H0⟩
  case round =>
    obtain ⟨k, hk, rfl, hB, HO⟩ := hrel
    by_cases hlt : k < xs.length
    · obtain ⟨b, o, rfl, hcell⟩ := HV.out k hlt
      have hlen : (xs.take k ++ List.replicate (xs.length - k) false).length = xs.length := by simp; omega
      have HF : Hid (OL w.heap.size wr (.slice (some ⟨w.heap.size, 0, none⟩) xs.length xs.length) (xs.take k ++ List.replicate (xs.length - k) false)) := HO
      obtain ⟨hcell0, hfr⟩ : wr.cell? ⟨w.heap.size, k, none⟩ = some (.bool false) ∧ wr.frozen? ⟨w.heap.size, k, none⟩ = false := by
        rcases HF.out.view with ⟨h, _⟩ | ⟨g, c', h1, _, _, _, _, h2⟩
        · cases h
        · simp only [Value.slice.injEq, Option.some.injEq, Addr.mk.injEq, and_true] at h1
          obtain ⟨rfl, _⟩ := h1
          have := h2 k (by omega)
          refine ⟨?_, this.2⟩
          rw [this.1]
          rw [halfB_at xs hlt]
      have hc := cell_later hB hcell
      have hstore : Hid (OL w.heap.size (wr.setCell ⟨w.heap.size, k, none⟩ (.bool (xs.getD k false))) (.slice (some ⟨w.heap.size, 0, none⟩) xs.length xs.length) (xs.take (k + 1) ++ List.replicate (xs.length - (k + 1)) false)) := by
        have h1 := HO.out
        unfold OL at h1
        rw [hlen] at h1
        have h2 := (World.ownsRow.stored h1 k (.bool (xs.getD k false))).1
        have e : (xs.take (k + 1) ++ List.replicate (xs.length - (k + 1)) false) = (xs.take k ++ List.replicate (xs.length - k) false).set k (xs.getD k false) := by
          exact (halfB_set xs hlt).symm
        have e2 : (xs.take (k + 1) ++ List.replicate (xs.length - (k + 1)) false).length = xs.length := by simp; omega
        show OL _ _ _ _
        unfold OL
        rw [e2, e, List.map_set]
        exact h2
      have hB' : Below w.heap.size w (wr.setCell ⟨w.heap.size, k, none⟩ (.bool (xs.getD k false))) := Below.setCell hB (Nat.le_refl _) _
      generalize hx : xs.getD k false = x at hc hstore hB'
      have HX := Lib.hid hx
      clear hx hcell hlen
      clear HF HO H0 hB0
      go_wp2
      go_roundw
      case rel => exact ⟨k + 1, by omega, by go_num, hB', hstore⟩
      case measure => simp [intOf]; omega
    · have he : xs.take k ++ List.replicate (xs.length - k) false = xs := by
        obtain rfl : k = xs.length := by omega
        simp
      rw [he] at HO
      go_wp2
      go_ret
      exact ⟨_, rfl, hB, HO.out⟩
set_option maxHeartbeats 1000000 in
theorem eqB_any (xs : List Bool) (v u : Value) (w : World) (hs : BS w v xs) (ht : BS w u xs) : Calls Try.prog 40 #[v, u] w (RB w true) := by
  obtain ⟨p, c, rfl, hc1, hc2, HV⟩ := BS_view hs
  obtain ⟨q, d, rfl, hd1, hd2, HU⟩ := BS_view ht
  have HV := Lib.hid HV
  have HU := Lib.hid HU
  clear hs ht
  go_enter Try.func40, Try.ntmps40
  go_wp2
  go_loopw [5] (fun t wr => ∃ k m : Nat, k ≤ xs.length ∧ t = .int .i64 k ∧ Hid (wr = w.drewN m)) (fun t _ => xs.length - (intOf t).toNat)
  case atStart => exact ⟨0, 0, Nat.zero_le _, rfl, rfl⟩
  case round =>
    obtain ⟨k, m, hk, rfl, HW⟩ := hrel
    by_cases hlt : k < xs.length
    · obtain ⟨b, o, rfl, hcell0⟩ := HV.out k hlt
      obtain ⟨b2, o2, rfl, hcell20⟩ := HU.out k hlt
      have hcell : wr.cell? ⟨b, o + k, none⟩ = some (.bool (xs.getD k false)) := by rw [HW.out]; simpa using hcell0
      have hcell2 : wr.cell? ⟨b2, o2 + k, none⟩ = some (.bool (xs.getD k false)) := by rw [HW.out]; simpa using hcell20
      clear hcell0 hcell20
      generalize xs.getD k false = x at hcell hcell2
      clear HV HU
      go_wp2_with fail
      (refine wp_some_lit (by kernel_rfl) (by kernel_rfl) ?_; (refine wpSome_one ?_; go_big_quiet_step (fail); refine wpQuiet_nil ?_); (refine wpSome_one ?_; go_big_quiet_step (fail); refine wpQuiet_nil ?_); (refine wpSome_one ?_; go_big_quiet_step (fail); refine wpQuiet_nil ?_); (refine wpSome_one ?_; go_big_quiet_step (fail); refine wpQuiet_nil ?_); (refine wpSome_one ?_; go_big_quiet_step (fail); refine wpQuiet_nil ?_); (refine wpSome_one ?_; go_big_quiet_step (fail); refine wpQuiet_nil ?_); (refine wpSome_one ?_; go_big_quiet_step (fail); refine wpQuiet_nil ?_); (refine wpSome_one ?_; go_big_quiet_step (fail); refine wpQuiet_nil ?_); (refine wpSome_one ?_; go_big_quiet_step (fail); refine wpQuiet_nil ?_); refine wpSome_nil ?_; intro w' hw'; obtain ⟨nq, rfl⟩ := hw')
      go_wp2
      go_roundw
      case rel => exact ⟨k + 1, _, by omega, by go_num, by show _ = _; rw [HW.out]; simp; rfl⟩
      case measure => simp [intOf]; omega
    · go_wp2
      go_ret
      exact ⟨rfl, _, HW.out⟩
end Go.Proofs.Ytphamdlnnfionaa

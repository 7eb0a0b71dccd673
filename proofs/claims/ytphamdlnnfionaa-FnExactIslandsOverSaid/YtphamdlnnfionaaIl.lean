/-
  Slices of whole numbers: what a call makes, writes and compares; the laws' own helpers (toInt64S, eqInt64S, szInt64S), each proved once. No condition but what each contract says.
-/
import Derived.Test.YtphamdlnnfionaaMark
set_option linter.unusedSimpArgs false
set_option linter.unusedVariables false
set_option linter.unusedSectionVars false
namespace Go.Proofs.Ytphamdlnnfionaa
open Go Go.RowKit
/-- A slice of whole numbers with these values. -/
def IS (w : World) (v : Value) (xs : List Int) : Prop :=
  ∃ p c, v = .slice p xs.length c ∧ c ≤ 9223372036854775807 ∧ xs.length ≤ c ∧ ∀ i, i < xs.length → ∃ b o, p = some ⟨b, o, none⟩ ∧ w.cell? ⟨b, o + i, none⟩ = some (.int .i64 (xs.getD i 0))
theorem IS_view {w : World} {v : Value} {xs : List Int} (h : IS w v xs) : ∃ p c, v = .slice p xs.length c ∧ c ≤ 9223372036854775807 ∧ xs.length ≤ c ∧ ∀ i, i < xs.length → ∃ b o, p = some ⟨b, o, none⟩ ∧ w.cell? ⟨b, o + i, none⟩ = some (.int .i64 (xs.getD i 0)) := h
theorem IS.later {w w' : World} {v : Value} {xs : List Int} (h : IS w v xs) (hb : Below w.heap.size w w') : IS w' v xs := by
  obtain ⟨p, c, rfl, h1, h2, h3⟩ := h
  refine ⟨p, c, rfl, h1, h2, fun i hi => ?_⟩
  obtain ⟨b, o, rfl, hc⟩ := h3 i hi
  exact ⟨b, o, rfl, cell_later hb hc⟩
set_option maxRecDepth 100000 in
theorem Try.infoI64 : (Try.prog.info? 2).map (fun i => (i.zero, i.size, i.bytes)) = some (some (.int .i64 0), 1, 8) := by kernel_rfl
/-- A slice of numbers that the call itself has made, from block number B on. -/
def OI (B : Nat) (w : World) (u : Value) (xs : List Int) : Prop := w.ownsRow B 2 1 u xs.length (xs.map (Value.int .i64))
theorem OI.block {B : Nat} {w : World} {u : Value} {xs : List Int} (h : OI B w u xs) : ∀ k, u.ownBlock = some k → B ≤ k ∧ k < w.heap.size := World.ownsRow.lt h
theorem OI.kept {B : Nat} {w w' : World} {u : Value} {xs : List Int} {row : Option Nat} (h : OI B w u xs) (hg : w.grownBy w' row) (hne : u.ownBlock = none ∨ u.ownBlock ≠ row) : OI B w' u xs := World.ownsRow.kept h hg hne
theorem OI.later {B : Nat} {w w' : World} {u : Value} {xs : List Int} (h : OI B w u xs) (hb : Below w.heap.size w w') : OI B w' u xs := by
  cases hu : u.ownBlock with
  | none => exact h.kept (below_grown hb none) (.inl hu)
  | some k => exact h.kept (below_grown hb none) (.inr (by rw [hu]; simp))
theorem OI.base {B B' : Nat} {w : World} {u : Value} {xs : List Int} (h : OI B w u xs) (hB : B' ≤ B) : OI B' w u xs := by
  refine ⟨h.1, ?_⟩
  rcases h.2 with h2 | ⟨g, c, cur, r1, r2, r⟩
  · exact .inl h2
  · exact .inr ⟨g, c, cur, r1, by omega, r⟩
/-- An own slice, seen. -/
theorem OI.view {B : Nat} {w : World} {u : Value} {xs : List Int} (h : OI B w u xs) : (u = .slice none 0 0 ∧ xs = []) ∨ ∃ g c, u = .slice (some ⟨g, 0, none⟩) xs.length c ∧ B ≤ g ∧ g < w.heap.size ∧ xs.length ≤ c ∧ c ≤ maxLen ∧ ∀ j, j < xs.length → w.cell? ⟨g, j, none⟩ = some (.int .i64 (xs.getD j 0)) ∧ w.frozen? ⟨g, j, none⟩ = false := by
  rcases h.2 with ⟨h1, h2⟩ | ⟨g, c, cur, h1, h2, h3, h4, h5, _⟩
  · exact .inl ⟨h1, by simpa using h2⟩
  · subst h1
    refine .inr ⟨g, c, rfl, h2, (OI.block h g rfl).2, h4, h5, fun j hj => ⟨?_, World.ownsRow.frozenAt h j⟩⟩
    have := World.ownsRow.cellAt h j (by simpa using hj)
    rw [this]
    simp [hj]
theorem OI.setCell {B : Nat} {w : World} {u : Value} {xs : List Int} (h : OI B w u xs) {a : Addr} (ha : a.block < B) (v : Value) : OI B (w.setCell a v) u xs := by
  refine h.kept (row := some a.block) ⟨rfl, rfl, rfl, by simp, fun k _ hk => Below.heap_setCell _ _ _ _ (fun e => hk (by rw [e]))⟩ ?_
  cases hu : u.ownBlock with
  | none => exact .inl rfl
  | some k =>
    refine .inr fun e => ?_
    have := (h.block k hu).1
    simp at e
    omega
theorem OI.alloc {B : Nat} {w : World} {u : Value} {xs : List Int} (h : OI B w u xs) (o : Obj) : OI B (w.alloc o) u xs := h.later ((Below.refl _ _).alloc (Nat.le_refl _) o)
theorem OI.drewN {B : Nat} {w : World} {u : Value} {xs : List Int} (h : OI B w u xs) (n : Nat) : OI B (w.drewN n) u xs := h.later (below_drewN (Below.refl _ _) n)
theorem OI.shape {B : Nat} {w : World} {u : Value} {xs : List Int} (h : OI B w u xs) : ∃ q c, u = .slice q xs.length c := by
  rcases h.view with ⟨rfl, rfl⟩ | ⟨g, c, rfl, _⟩
  · exact ⟨none, 0, rfl⟩
  · exact ⟨_, c, rfl⟩
theorem OI.fs {B : Nat} {w : World} {u : Value} {xs : List Int} (h : OI B w u xs) : IS w u xs := by
  rcases h.view with ⟨rfl, rfl⟩ | ⟨g, c, rfl, _, _, h1, h2, h3⟩
  · exact ⟨none, 0, rfl, by omega, by simp, fun i hi => by simp at hi⟩
  · exact ⟨_, c, rfl, by simpa [maxLen] using h2, h1, fun i hi => ⟨g, 0, rfl, by rw [Nat.zero_add]; exact (h3 i hi).1⟩⟩
theorem IS.kept {w w' : World} {v : Value} {xs : List Int} {row : Option Nat} (h : IS w v xs) (hg : w.grownBy w' row) (hne : v.ownBlock = none ∨ v.ownBlock ≠ row) : IS w' v xs := by
  obtain ⟨p, c, rfl, h1, h2, h3⟩ := h
  refine ⟨p, c, rfl, h1, h2, fun i hi => ?_⟩
  obtain ⟨b, o, rfl, hc⟩ := h3 i hi
  refine ⟨b, o, rfl, hg.cell hc ?_⟩
  rcases hne with hne | hne
  · cases hne
  · exact hne
theorem halfI_at (xs : List Int) {k : Nat} (h : k < xs.length) : (xs.take k ++ List.replicate (xs.length - k) 0).getD k 0 = 0 := by
  rw [List.getD_eq_getElem?_getD, List.getElem?_append_right (by simp; omega), List.length_take, Nat.min_eq_left (by omega), Nat.sub_self, List.getElem?_replicate]
  split <;> rfl
theorem halfI_set (xs : List Int) {k : Nat} (h : k < xs.length) : (xs.take k ++ List.replicate (xs.length - k) 0).set k (xs.getD k 0) = xs.take (k + 1) ++ List.replicate (xs.length - (k + 1)) 0 := by
  rw [show xs.length - k = (xs.length - (k + 1)) + 1 by omega, List.replicate_succ, List.set_append_right _ _ (by simp; omega), List.take_add_one, List.length_take, Nat.min_eq_left (by omega), Nat.sub_self, List.set_cons_zero, List.getElem?_eq_getElem h, List.getD_eq_getElem?_getD, List.getElem?_eq_getElem h, List.append_assoc]
  rfl
theorem IS.alloc {w : World} {v : Value} {xs : List Int} (h : IS w v xs) (o : Obj) : IS (w.alloc o) v xs := h.later ((Below.refl _ _).alloc (Nat.le_refl _) o)
theorem IS.drewN {w : World} {v : Value} {xs : List Int} (h : IS w v xs) (n : Nat) : IS (w.drewN n) v xs := h
theorem OI.sep {B B' : Nat} {w w' : World} {v u : Value} {xs ys : List Int} (h1 : OI B w v xs) (h2 : OI B' w' u ys) (h : w.heap.size ≤ B') : v.ownBlock = none ∨ v.ownBlock ≠ u.ownBlock := by
  cases hv : v.ownBlock with
  | none => exact .inl rfl
  | some k =>
    refine .inr fun e => ?_
    have a := (h1.block k hv).2
    have b := (h2.block k e.symm).1
    omega
theorem OI.sep' {B B' : Nat} {w w' : World} {v u : Value} {xs ys : List Int} (h1 : OI B w v xs) (h2 : OI B' w' u ys) (h : w'.heap.size ≤ B) : v.ownBlock = none ∨ v.ownBlock ≠ u.ownBlock := by
  cases hv : v.ownBlock with
  | none => exact .inl rfl
  | some k =>
    refine .inr fun e => ?_
    have a := (h1.block k hv).1
    have b := (h2.block k e.symm).2
    omega
set_option maxHeartbeats 1000000 in
theorem eqI_any (xs : List Int) (v u : Value) (w : World) (hs : IS w v xs) (ht : IS w u xs) : Calls Try.prog 14 #[v, u] w (RB w true) := by
  obtain ⟨p, c, rfl, hc1, hc2, HV⟩ := IS_view hs
  obtain ⟨q, d, rfl, hd1, hd2, HU⟩ := IS_view ht
  have HV := Lib.hid HV
  have HU := Lib.hid HU
  clear hs ht
  go_enter Try.func14, Try.ntmps14
  go_wp2
  go_loopw [5] (fun t wr => ∃ k m : Nat, k ≤ xs.length ∧ t = .int .i64 k ∧ Hid (wr = w.drewN m)) (fun t _ => xs.length - (intOf t).toNat)
  case atStart => exact ⟨0, 0, Nat.zero_le _, rfl, rfl⟩
  case round =>
    obtain ⟨k, m, hk, rfl, HW⟩ := hrel
    by_cases hlt : k < xs.length
    · obtain ⟨b, o, rfl, hcell0⟩ := HV.out k hlt
      obtain ⟨b2, o2, rfl, hcell20⟩ := HU.out k hlt
      have hcell : wr.cell? ⟨b, o + k, none⟩ = some (.int .i64 (xs.getD k 0)) := by rw [HW.out]; simpa using hcell0
      have hcell2 : wr.cell? ⟨b2, o2 + k, none⟩ = some (.int .i64 (xs.getD k 0)) := by rw [HW.out]; simpa using hcell20
      clear hcell0 hcell20
      generalize xs.getD k 0 = x at hcell hcell2
      clear HV HU
      go_wp2_with fail
      (refine wp_some_lit (by kernel_rfl) (by kernel_rfl) ?_; (refine wpSome_one ?_; go_big_quiet_step (fail); refine wpQuiet_nil ?_); (refine wpSome_one ?_; go_big_quiet_step (fail); refine wpQuiet_nil ?_); (refine wpSome_one ?_; go_big_quiet_step (fail); refine wpQuiet_nil ?_); (refine wpSome_one ?_; go_big_quiet_step (fail); refine wpQuiet_nil ?_); (refine wpSome_one ?_; go_big_quiet_step (fail); refine wpQuiet_nil ?_); (refine wpSome_one ?_; go_big_quiet_step (fail); refine wpQuiet_nil ?_); (refine wpSome_one ?_; go_big_quiet_step (fail); refine wpQuiet_nil ?_); (refine wpSome_one ?_; go_big_quiet_step (fail); refine wpQuiet_nil ?_); (refine wpSome_one ?_; go_big_quiet_step (fail); refine wpQuiet_nil ?_); refine wpSome_nil ?_; intro w' hw'; obtain ⟨nq, rfl⟩ := hw')
      go_wp2
      go_roundw
      case rel => exact ⟨k + 1, _, by omega, by go_num, by show _ = _; rw [HW.out]; simp; rfl⟩
      case measure => simp [intOf]; omega
    · go_wp2
      go_ret
      exact ⟨rfl, _, HW.out⟩
end Go.Proofs.Ytphamdlnnfionaa

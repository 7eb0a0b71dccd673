/-
  Rods with other warmths: what is told of them. No condition.
  Rods handed back: checked ones, and ones with other warmths. No condition but what each contract says.
  A rod's own copy, and rods handed back if they are valid: the reference's way. No condition but what each contract says.
  Rows of equations: what the program's solver makes of them. No condition but what each contract says.
  One operation in single precision: how far it may be off, by how great it is; rows of equations, one step, in exact numbers. No condition but what each law says; nothing of the program is named here.
-/
import Derived.Test.YtpnkapdemgieaaaRM2
import Derived.Test.YtpnkapdemgieaaaRM4
import Derived.Test.YtpnkapdemgieaaaRM3
set_option linter.unusedSimpArgs false
set_option linter.unusedVariables false
set_option linter.unusedSectionVars false
namespace Go.Proofs.Ytpnkapdemgieaaa
open Go Go.RowKit
open Go.ChangeShapes Go.WideShapes Go.ChangeAt Go.RowKit Go.Joins
theorem raw_of_cn {ys L : List Nat} (h : ys.map (cn .f32) = L) (hf : (L.any fun x => !fin .f32 x) = false) : ys = L := by
  rw [← h]
  symm
  have : ∀ y ∈ ys, cn .f32 y = y := fun y hy => by
    have hm : cn .f32 y ∈ L := by rw [← h]; exact List.mem_map_of_mem hy
    rw [List.any_eq_false] at hf
    have hf2 := hf _ hm
    have hn : isN .f32 (cn .f32 y) = false := fin_not_nan (by simpa using hf2)
    rw [isN_cn] at hn
    exact cn_of_not hn
  rw [List.map_congr_left this, List.map_id']
def okR (b : Bool) (R : Rd) : Rd := if b then R else nilRd
theorem okR_no {b : Bool} {R : Rd} (h : b = false) : okR b R = nilRd := by rw [h]; rfl
theorem okR_yes {b : Bool} {R : Rd} (h : b = true) : okR b R = R := by rw [h]; rfl
theorem any_map_cn {ys L : List Nat} (h : ys.map (cn .f32) = L) : finL ys = !L.any fun x => !fin .f32 x := by unfold finL; rw [any_cn ys h]
/-- The rod with the words as they are, and the one with the words told. -/
theorem ok_with {P : Rd} {ys L : List Nat} (hP : P.ok = true) (h : ys.map (cn .f32) = L) (hn : ys.length = P.a.length) (hc : L.map (cn .f32) = L) : (Rd.mk P.a P.b P.c ys).ok = (Rd.mk P.a P.b P.c L).ok ∧ ((Rd.mk P.a P.b P.c ys).ok = true → ys = L) := by
  have hl : L.length = ys.length := by rw [← h]; simp
  have h1 := any_map_cn h
  have h2 := any_map_cn hc
  have e : (Rd.mk P.a P.b P.c ys).ok = (Rd.mk P.a P.b P.c L).ok := by simp only [Rd.ok, Rd.sized, h1, h2, hl]
  refine ⟨e, fun ho => raw_of_cn h ?_⟩
  unfold Rd.ok at ho
  simp only [Bool.and_eq_true] at ho
  have := ho.2.2.2.2
  rw [h1, Bool.not_eq_true'] at this
  exact this
end Go.Proofs.Ytpnkapdemgieaaa
set_option linter.unusedSimpArgs false
set_option linter.unusedVariables false
set_option linter.unusedSectionVars false
namespace Go.Proofs.Ytpnkapdemgieaaa
open Go Go.RowKit
open Go.ChangeShapes Go.WideShapes Go.ChangeAt Go.RowKit Go.Joins
set_option maxHeartbeats 1000000 in
theorem checkedRod_yes (P : Rd) (l : RL) (w : World) (hs : P.fs w l) (h0 : P.ok = true) : Calls Try.prog 55 #[.agg #[.slice l.p1 P.a.length l.c1, .slice l.p2 P.b.length l.c2, .slice l.p3 P.c.length l.c3, .slice l.p4 P.d.length l.c4]] w (BV w (.tuple #[.agg #[.slice l.p1 P.a.length l.c1, .slice l.p2 P.b.length l.c2, .slice l.p3 P.c.length l.c3, .slice l.p4 P.d.length l.c4], .bool true])) := by
  have HV := Lib.hid (fun w h => implValidRod_any P l w h)
  rw [h0] at HV
  have HS := Lib.hid hs
  clear hs h0
  go_enter Try.func55, Try.ntmps55
  go_wp2_with (first | (with_reducible refine at_list ?_; refine wpList_wide_g rfl rfl Try.underlying28 Try.underlying39 rfl ?_; intro r n hr0; have hr := hr0 _ (by first | with_reducible assumption | exact rfl); clear hr0) | (with_reducible refine at_list ?_; refine wpList_wide rfl rfl rfl Try.underlying28 Try.underlying39 ?_; intro r n hr0; have hr := hr0 _ (by first | with_reducible assumption | exact rfl); clear hr0) | (go_at_call 35; refine ((HV.out _ (HS.out.later (by (repeat (first | (with_reducible exact Below.refl _ _) | (with_reducible assumption) | (with_reducible refine below_then ?_ (by assumption)) | (with_reducible refine Below.trans ?_ (by assumption)) | (with_reducible refine below_drewN ?_ _) | (with_reducible apply Below.drew) | (with_reducible refine below_alloc ?_ _) | refine Below.setCell ?_ (by first | (simp; done) | (simp; omega)) _))))) ).mono ?_; rintro e w' ⟨rfl, hb⟩; obtain ⟨hT, hk⟩ := bv_next hb (by (repeat (with_reducible first | assumption | apply Trk.alloc | apply Trk.setCell | apply Trk.drewN | apply Trk.drew | exact Trk.nil _))); simp only [SameOn, World.size_alloc, World.size_setCell, World.size_drew, size_drewN', and_true] at hk; have hsz := Below.size hb; (try simp only [World.size_alloc, World.size_setCell, World.size_drew, size_drewN'] at hsz)))
  all_goals
    refine bodyPost_ret (v := .tuple #[.agg #[.slice l.p1 P.a.length l.c1, .slice l.p2 P.b.length l.c2, .slice l.p3 P.c.length l.c3, .slice l.p4 P.d.length l.c4], .bool true]) (by simp [results, Try.results55, go_sem, *]) rfl ?_
    exact ⟨rfl, by (repeat (first | (with_reducible exact Below.refl _ _) | (with_reducible assumption) | (with_reducible refine below_then ?_ (by assumption)) | (with_reducible refine Below.trans ?_ (by assumption)) | (with_reducible refine below_drewN ?_ _) | (with_reducible apply Below.drew) | (with_reducible refine below_alloc ?_ _) | refine Below.setCell ?_ (by first | (simp; done) | (simp; omega)) _))⟩
set_option maxHeartbeats 1000000 in
theorem checkedRod_no (P : Rd) (l : RL) (w : World) (hs : P.fs w l) (h0 : P.ok = false) : Calls Try.prog 55 #[.agg #[.slice l.p1 P.a.length l.c1, .slice l.p2 P.b.length l.c2, .slice l.p3 P.c.length l.c3, .slice l.p4 P.d.length l.c4]] w (BV w (.tuple #[.agg #[.slice none 0 0, .slice none 0 0, .slice none 0 0, .slice none 0 0], .bool false])) := by
  have HV := Lib.hid (fun w h => implValidRod_any P l w h)
  rw [h0] at HV
  have HS := Lib.hid hs
  clear hs h0
  go_enter Try.func55, Try.ntmps55
  go_wp2_with (first | (with_reducible refine at_list ?_; refine wpList_wide_g rfl rfl Try.underlying28 Try.underlying39 rfl ?_; intro r n hr0; have hr := hr0 _ (by first | with_reducible assumption | exact rfl); clear hr0) | (with_reducible refine at_list ?_; refine wpList_wide rfl rfl rfl Try.underlying28 Try.underlying39 ?_; intro r n hr0; have hr := hr0 _ (by first | with_reducible assumption | exact rfl); clear hr0) | (go_at_call 35; refine ((HV.out _ (HS.out.later (by (repeat (first | (with_reducible exact Below.refl _ _) | (with_reducible assumption) | (with_reducible refine below_then ?_ (by assumption)) | (with_reducible refine Below.trans ?_ (by assumption)) | (with_reducible refine below_drewN ?_ _) | (with_reducible apply Below.drew) | (with_reducible refine below_alloc ?_ _) | refine Below.setCell ?_ (by first | (simp; done) | (simp; omega)) _))))) ).mono ?_; rintro e w' ⟨rfl, hb⟩; obtain ⟨hT, hk⟩ := bv_next hb (by (repeat (with_reducible first | assumption | apply Trk.alloc | apply Trk.setCell | apply Trk.drewN | apply Trk.drew | exact Trk.nil _))); simp only [SameOn, World.size_alloc, World.size_setCell, World.size_drew, size_drewN', and_true] at hk; have hsz := Below.size hb; (try simp only [World.size_alloc, World.size_setCell, World.size_drew, size_drewN'] at hsz)))
  all_goals
    refine bodyPost_ret (v := .tuple #[.agg #[.slice none 0 0, .slice none 0 0, .slice none 0 0, .slice none 0 0], .bool false]) (by simp [results, Try.results55, go_sem, *]) rfl ?_
    exact ⟨rfl, by (repeat (first | (with_reducible exact Below.refl _ _) | (with_reducible assumption) | (with_reducible refine below_then ?_ (by assumption)) | (with_reducible refine Below.trans ?_ (by assumption)) | (with_reducible refine below_drewN ?_ _) | (with_reducible apply Below.drew) | (with_reducible refine below_alloc ?_ _) | refine Below.setCell ?_ (by first | (simp; done) | (simp; omega)) _))⟩
theorem own_lt {w : World} {v : Value} {xs : List Nat} (h : FS w v xs) (hn : 1 ≤ xs.length) : ∀ k, v.ownBlock = some k → k < w.heap.size := by
  obtain ⟨b, o, c, rfl, _, h2⟩ := h.ptr hn
  intro k hk
  have := World.block_lt_of_cell? _ _ (h2.out 0 (by omega))
  cases hk
  exact this
set_option maxHeartbeats 2000000 in
set_option maxRecDepth 100000 in
theorem withWarms_yes (P : Rd) (l : RL) (xs : List Nat) (v : Value) (w : World) (hs : P.fs w l) (hv : FS w v xs) (hn : (1 ≤ P.a.length ∧ P.a.length ≤ 1048576) ∧ (1 ≤ P.b.length ∧ P.b.length ≤ 1048576) ∧ (1 ≤ P.c.length ∧ P.c.length ≤ 1048576) ∧ 1 ≤ xs.length ∧ xs.length ≤ 1048576) (h0 : (Rd.mk P.a P.b P.c xs).ok = true) : Calls Try.prog 40 #[.agg #[.slice l.p1 P.a.length l.c1, .slice l.p2 P.b.length l.c2, .slice l.p3 P.c.length l.c3, .slice l.p4 P.d.length l.c4], v] w (fun e w' => ∃ m, e = .returned (.tuple #[.agg #[.slice m.p1 P.a.length m.c1, .slice m.p2 P.b.length m.c2, .slice m.p3 P.c.length m.c3, .slice m.p4 xs.length m.c4], .bool true]) ∧ Below w.heap.size w w' ∧ RdX w.heap.size w'.heap.size w' (Rd.mk P.a P.b P.c xs) m) := by
  have HS := Lib.hid hs
  have HV := Lib.hid hv
  have HN := Lib.hid hn
  have HL : Hid (1 ≤ P.b.length ∧ 1 ≤ P.c.length) := ⟨hn.2.1.1, hn.2.2.1.1⟩
  have HK := Lib.hid (fun l w h => checkedRod_yes (Rd.mk P.a P.b P.c xs) l w h h0)
  have HB : Hid ((∀ k, (Value.slice l.p1 P.a.length l.c1).ownBlock = some k → k < w.heap.size) ∧ (∀ k, (Value.slice l.p2 P.b.length l.c2).ownBlock = some k → k < w.heap.size) ∧ (∀ k, (Value.slice l.p3 P.c.length l.c3).ownBlock = some k → k < w.heap.size) ∧ ∀ k, v.ownBlock = some k → k < w.heap.size) := ⟨own_lt hs.1 hn.1.1, own_lt hs.2.1 hn.2.1.1, own_lt hs.2.2.1 hn.2.2.1.1, own_lt hv hn.2.2.2.1⟩
  obtain ⟨pv, cv, rfl, _⟩ := hv
  clear hs hn h0
  go_enter Try.func40, Try.ntmps40
  go_wp2_with (first | (with_reducible refine at_list ?_; refine wpList_wide_g rfl rfl Try.underlying28 Try.underlying39 rfl ?_; intro r n hr0; have hr := hr0 _ (by first | with_reducible assumption | exact rfl); clear hr0) | (with_reducible refine at_list ?_; refine wpList_wide rfl rfl rfl Try.underlying28 Try.underlying39 ?_; intro r n hr0; have hr := hr0 _ (by first | with_reducible assumption | exact rfl); clear hr0) | (go_at_call 43; refine (cloneF_any _ _ _ (by assumption) (by omega)).mono ?_; rintro e w' ⟨u, rfl, hb, hO⟩; obtain ⟨pu, cu, rfl⟩ := OF.shape hO; (try simp only [World.size_alloc, World.size_setCell, World.size_drew, World.drewN] at hO); obtain ⟨hT, hk⟩ := bv_next hb (by (repeat (with_reducible first | assumption | apply Trk.alloc | apply Trk.setCell | apply Trk.drewN | apply Trk.drew | exact Trk.nil _))); simp only [SameOn, World.size_alloc, World.size_setCell, World.size_drew, size_drewN', and_true] at hk; have hsz := Below.size hb; (try simp only [World.size_alloc, World.size_setCell, World.size_drew, size_drewN'] at hsz)))
  have HBW : Hid ((∀ k, (Value.slice l.p1 P.a.length l.c1).ownBlock = some k → k < w.heap.size + 1 + 1) ∧ (∀ k, (Value.slice l.p2 P.b.length l.c2).ownBlock = some k → k < w.heap.size + 1 + 1) ∧ (∀ k, (Value.slice l.p3 P.c.length l.c3).ownBlock = some k → k < w.heap.size + 1 + 1) ∧ ∀ k, (Value.slice pv xs.length cv).ownBlock = some k → k < w.heap.size + 1 + 1) := ⟨fun k h => by have := HB.out.1 k h; omega, fun k h => by have := HB.out.2.1 k h; omega, fun k h => by have := HB.out.2.2.1 k h; omega, fun k h => by have := HB.out.2.2.2 k h; omega⟩
  (apply wp_region_plan; ((apply wpC_det; (case hw => exact rfl); (case hs => (intro cs b h; cases h)); (case h1 => (intro w'; go_simp <;> exact rfl))); apply wpC_norm; (case ha => (simp only [Act.put, List.setIfInBounds_toArray, List.set_cons_zero, List.set_cons_succ]; exact rfl))); ((apply wpC_val; (case hw => exact rfl); (case h1 => (intro w' hb hk0; obtain ⟨hT, hk⟩ := bv_next hb (by (repeat (with_reducible first | assumption | apply Trk.alloc | apply Trk.setCell | apply Trk.drewN | apply Trk.drew | exact Trk.nil _))); simp only [SameOn, World.size_alloc, World.size_setCell, World.size_drew, size_drewN', and_true] at hk; have hsz := Below.size hb; (try simp only [World.size_alloc, World.size_setCell, World.size_drew, size_drewN'] at hsz); go_simp <;> exact rfl))); apply wpC_norm; (case ha => (simp only [Act.put, List.setIfInBounds_toArray, List.set_cons_zero, List.set_cons_succ]; exact rfl))); ((apply wpC_callOrd (P.a) 43 [7] [7]; (case hts => kernel_rfl); (case hus => kernel_rfl); (case hf => rfl); (case hw => exact rfl); (case h1 => (intro w'; go_simp; exact ⟨rfl, rfl⟩)); (case hz => (intro w' hb hk0 t ht k hk; simp only [List.cons_append, List.nil_append, List.mem_cons, List.not_mem_nil, or_false, or_self] at ht; (first | subst ht | (rcases ht with rfl | rfl) | (rcases ht with rfl | rfl | rfl) | (rcases ht with rfl | rfl | rfl | rfl) | (rcases ht with rfl | rfl | rfl | rfl | rfl)) <;> (first | exact Option.noConfusion (show (none : Option Nat) = some k from hk) | exact Nat.lt_of_lt_of_le ((HBW).out.1 k hk) (by first | exact hb.size | (have h9 := hb.size; simp only [World.size_alloc, World.size_setCell, World.size_drew, World.drewN] at h9; omega)) | exact Nat.lt_of_lt_of_le ((HBW).out.2.1 k hk) (by first | exact hb.size | (have h9 := hb.size; simp only [World.size_alloc, World.size_setCell, World.size_drew, World.drewN] at h9; omega)) | exact Nat.lt_of_lt_of_le ((HBW).out.2.2.1 k hk) (by first | exact hb.size | (have h9 := hb.size; simp only [World.size_alloc, World.size_setCell, World.size_drew, World.drewN] at h9; omega)) | exact Nat.lt_of_lt_of_le ((HBW).out.2.2.2 k hk) (by first | exact hb.size | (have h9 := hb.size; simp only [World.size_alloc, World.size_setCell, World.size_drew, World.drewN] at h9; omega)) | exact (OF.block (show OF _ _ _ _ ∧ _ from hk0.1).1 k hk).2 | exact (OF.block (show OF _ _ _ _ ∧ _ from hk0.2.1).1 k hk).2 | exact (OF.block (show OF _ _ _ _ ∧ _ from hk0.2.2.1).1 k hk).2 | exact (OF.block (show OF _ _ _ _ ∧ _ from hk0.2.2.2.1).1 k hk).2 | exact (OF.block (show OF _ _ _ _ ∧ _ from hk0.2.2.2.2.1).1 k hk).2 | exact (OF.block (show OF _ _ _ _ ∧ _ from hk0.2.2.2.2.2.1).1 k hk).2 | exact (OF.block (show OF _ _ _ _ ∧ _ from hk0.2.2.2.2.2.2.1).1 k hk).2 | exact (OF.block (show OF _ _ _ _ ∧ _ from hk0.2.2.2.2.2.2.2.1).1 k hk).2 | (cases hk; exact World.block_lt_of_cell? _ _ ((show _ ∧ owned _ _ _ from hk0.1).2 0 _ rfl).1)))); (case hc => (intro w' hb hk0; exact cloneF_any P.a _ _ (HS.out.1.later (by (repeat (first | (with_reducible exact Below.refl _ _) | (with_reducible assumption) | (with_reducible refine below_then ?_ (by assumption)) | (with_reducible refine Below.trans ?_ (by assumption)) | (with_reducible refine below_drewN ?_ _) | (with_reducible apply Below.drew) | (with_reducible refine below_alloc ?_ _) | refine Below.setCell ?_ (by first | (simp; done) | (simp; omega)) _)))) HN.out.1)); intro q1 d1); apply wpC_norm; (case ha => (simp only [Act.put, List.setIfInBounds_toArray, List.set_cons_zero, List.set_cons_succ]; exact rfl))); ((apply wpC_det; (case hw => exact rfl); (case hs => (intro cs b h; cases h)); (case h1 => (intro w'; go_simp <;> exact rfl))); apply wpC_norm; (case ha => (simp only [Act.put, List.setIfInBounds_toArray, List.set_cons_zero, List.set_cons_succ]; exact rfl))); ((apply wpC_val; (case hw => exact rfl); (case h1 => (intro w' hb hk0; obtain ⟨hT, hk⟩ := bv_next hb (by (repeat (with_reducible first | assumption | apply Trk.alloc | apply Trk.setCell | apply Trk.drewN | apply Trk.drew | exact Trk.nil _))); simp only [SameOn, World.size_alloc, World.size_setCell, World.size_drew, size_drewN', and_true] at hk; have hsz := Below.size hb; (try simp only [World.size_alloc, World.size_setCell, World.size_drew, size_drewN'] at hsz); go_simp <;> exact rfl))); apply wpC_norm; (case ha => (simp only [Act.put, List.setIfInBounds_toArray, List.set_cons_zero, List.set_cons_succ]; exact rfl))); ((apply wpC_callOrd (P.b) 43 [10] [8, 10]; (case hts => kernel_rfl); (case hus => kernel_rfl); (case hf => rfl); (case hw => exact rfl); (case h1 => (intro w'; go_simp; exact ⟨rfl, rfl⟩)); (case hz => (intro w' hb hk0 t ht k hk; simp only [List.cons_append, List.nil_append, List.mem_cons, List.not_mem_nil, or_false, or_self] at ht; (first | subst ht | (rcases ht with rfl | rfl) | (rcases ht with rfl | rfl | rfl) | (rcases ht with rfl | rfl | rfl | rfl) | (rcases ht with rfl | rfl | rfl | rfl | rfl)) <;> (first | exact Option.noConfusion (show (none : Option Nat) = some k from hk) | exact Nat.lt_of_lt_of_le ((HBW).out.1 k hk) (by first | exact hb.size | (have h9 := hb.size; simp only [World.size_alloc, World.size_setCell, World.size_drew, World.drewN] at h9; omega)) | exact Nat.lt_of_lt_of_le ((HBW).out.2.1 k hk) (by first | exact hb.size | (have h9 := hb.size; simp only [World.size_alloc, World.size_setCell, World.size_drew, World.drewN] at h9; omega)) | exact Nat.lt_of_lt_of_le ((HBW).out.2.2.1 k hk) (by first | exact hb.size | (have h9 := hb.size; simp only [World.size_alloc, World.size_setCell, World.size_drew, World.drewN] at h9; omega)) | exact Nat.lt_of_lt_of_le ((HBW).out.2.2.2 k hk) (by first | exact hb.size | (have h9 := hb.size; simp only [World.size_alloc, World.size_setCell, World.size_drew, World.drewN] at h9; omega)) | exact (OF.block (show OF _ _ _ _ ∧ _ from hk0.1).1 k hk).2 | exact (OF.block (show OF _ _ _ _ ∧ _ from hk0.2.1).1 k hk).2 | exact (OF.block (show OF _ _ _ _ ∧ _ from hk0.2.2.1).1 k hk).2 | exact (OF.block (show OF _ _ _ _ ∧ _ from hk0.2.2.2.1).1 k hk).2 | exact (OF.block (show OF _ _ _ _ ∧ _ from hk0.2.2.2.2.1).1 k hk).2 | exact (OF.block (show OF _ _ _ _ ∧ _ from hk0.2.2.2.2.2.1).1 k hk).2 | exact (OF.block (show OF _ _ _ _ ∧ _ from hk0.2.2.2.2.2.2.1).1 k hk).2 | exact (OF.block (show OF _ _ _ _ ∧ _ from hk0.2.2.2.2.2.2.2.1).1 k hk).2 | (cases hk; exact World.block_lt_of_cell? _ _ ((show _ ∧ owned _ _ _ from hk0.1).2 0 _ rfl).1)))); (case hc => (intro w' hb hk0; exact cloneF_any P.b _ _ (HS.out.2.1.later (by (repeat (first | (with_reducible exact Below.refl _ _) | (with_reducible assumption) | (with_reducible refine below_then ?_ (by assumption)) | (with_reducible refine Below.trans ?_ (by assumption)) | (with_reducible refine below_drewN ?_ _) | (with_reducible apply Below.drew) | (with_reducible refine below_alloc ?_ _) | refine Below.setCell ?_ (by first | (simp; done) | (simp; omega)) _)))) HN.out.2.1)); intro q2 d2); apply wpC_norm; (case ha => (simp only [Act.put, List.setIfInBounds_toArray, List.set_cons_zero, List.set_cons_succ]; exact rfl))); ((apply wpC_det; (case hw => exact rfl); (case hs => (intro cs b h; cases h)); (case h1 => (intro w'; go_simp <;> exact rfl))); apply wpC_norm; (case ha => (simp only [Act.put, List.setIfInBounds_toArray, List.set_cons_zero, List.set_cons_succ]; exact rfl))); ((apply wpC_val; (case hw => exact rfl); (case h1 => (intro w' hb hk0; obtain ⟨hT, hk⟩ := bv_next hb (by (repeat (with_reducible first | assumption | apply Trk.alloc | apply Trk.setCell | apply Trk.drewN | apply Trk.drew | exact Trk.nil _))); simp only [SameOn, World.size_alloc, World.size_setCell, World.size_drew, size_drewN', and_true] at hk; have hsz := Below.size hb; (try simp only [World.size_alloc, World.size_setCell, World.size_drew, size_drewN'] at hsz); go_simp <;> exact rfl))); apply wpC_norm; (case ha => (simp only [Act.put, List.setIfInBounds_toArray, List.set_cons_zero, List.set_cons_succ]; exact rfl))); ((apply wpC_callOrd (P.c) 43 [13] [11, 13]; (case hts => kernel_rfl); (case hus => kernel_rfl); (case hf => rfl); (case hw => exact rfl); (case h1 => (intro w'; go_simp; exact ⟨rfl, rfl⟩)); (case hz => (intro w' hb hk0 t ht k hk; simp only [List.cons_append, List.nil_append, List.mem_cons, List.not_mem_nil, or_false, or_self] at ht; (first | subst ht | (rcases ht with rfl | rfl) | (rcases ht with rfl | rfl | rfl) | (rcases ht with rfl | rfl | rfl | rfl) | (rcases ht with rfl | rfl | rfl | rfl | rfl)) <;> (first | exact Option.noConfusion (show (none : Option Nat) = some k from hk) | exact Nat.lt_of_lt_of_le ((HBW).out.1 k hk) (by first | exact hb.size | (have h9 := hb.size; simp only [World.size_alloc, World.size_setCell, World.size_drew, World.drewN] at h9; omega)) | exact Nat.lt_of_lt_of_le ((HBW).out.2.1 k hk) (by first | exact hb.size | (have h9 := hb.size; simp only [World.size_alloc, World.size_setCell, World.size_drew, World.drewN] at h9; omega)) | exact Nat.lt_of_lt_of_le ((HBW).out.2.2.1 k hk) (by first | exact hb.size | (have h9 := hb.size; simp only [World.size_alloc, World.size_setCell, World.size_drew, World.drewN] at h9; omega)) | exact Nat.lt_of_lt_of_le ((HBW).out.2.2.2 k hk) (by first | exact hb.size | (have h9 := hb.size; simp only [World.size_alloc, World.size_setCell, World.size_drew, World.drewN] at h9; omega)) | exact (OF.block (show OF _ _ _ _ ∧ _ from hk0.1).1 k hk).2 | exact (OF.block (show OF _ _ _ _ ∧ _ from hk0.2.1).1 k hk).2 | exact (OF.block (show OF _ _ _ _ ∧ _ from hk0.2.2.1).1 k hk).2 | exact (OF.block (show OF _ _ _ _ ∧ _ from hk0.2.2.2.1).1 k hk).2 | exact (OF.block (show OF _ _ _ _ ∧ _ from hk0.2.2.2.2.1).1 k hk).2 | exact (OF.block (show OF _ _ _ _ ∧ _ from hk0.2.2.2.2.2.1).1 k hk).2 | exact (OF.block (show OF _ _ _ _ ∧ _ from hk0.2.2.2.2.2.2.1).1 k hk).2 | exact (OF.block (show OF _ _ _ _ ∧ _ from hk0.2.2.2.2.2.2.2.1).1 k hk).2 | (cases hk; exact World.block_lt_of_cell? _ _ ((show _ ∧ owned _ _ _ from hk0.1).2 0 _ rfl).1)))); (case hc => (intro w' hb hk0; exact cloneF_any P.c _ _ (HS.out.2.2.1.later (by (repeat (first | (with_reducible exact Below.refl _ _) | (with_reducible assumption) | (with_reducible refine below_then ?_ (by assumption)) | (with_reducible refine Below.trans ?_ (by assumption)) | (with_reducible refine below_drewN ?_ _) | (with_reducible apply Below.drew) | (with_reducible refine below_alloc ?_ _) | refine Below.setCell ?_ (by first | (simp; done) | (simp; omega)) _)))) HN.out.2.2.1)); intro q3 d3); apply wpC_norm; (case ha => (simp only [Act.put, List.setIfInBounds_toArray, List.set_cons_zero, List.set_cons_succ]; exact rfl))); ((apply wpC_det; (case hw => exact rfl); (case hs => (intro cs b h; cases h)); (case h1 => (intro w'; go_simp <;> exact rfl))); apply wpC_norm; (case ha => (simp only [Act.put, List.setIfInBounds_toArray, List.set_cons_zero, List.set_cons_succ]; exact rfl))); ((apply wpC_callOrd (xs) 43 [15] [14, 15]; (case hts => kernel_rfl); (case hus => kernel_rfl); (case hf => rfl); (case hw => exact rfl); (case h1 => (intro w'; go_simp; exact ⟨rfl, rfl⟩)); (case hz => (intro w' hb hk0 t ht k hk; simp only [List.cons_append, List.nil_append, List.mem_cons, List.not_mem_nil, or_false, or_self] at ht; (first | subst ht | (rcases ht with rfl | rfl) | (rcases ht with rfl | rfl | rfl) | (rcases ht with rfl | rfl | rfl | rfl) | (rcases ht with rfl | rfl | rfl | rfl | rfl)) <;> (first | exact Option.noConfusion (show (none : Option Nat) = some k from hk) | exact Nat.lt_of_lt_of_le ((HBW).out.1 k hk) (by first | exact hb.size | (have h9 := hb.size; simp only [World.size_alloc, World.size_setCell, World.size_drew, World.drewN] at h9; omega)) | exact Nat.lt_of_lt_of_le ((HBW).out.2.1 k hk) (by first | exact hb.size | (have h9 := hb.size; simp only [World.size_alloc, World.size_setCell, World.size_drew, World.drewN] at h9; omega)) | exact Nat.lt_of_lt_of_le ((HBW).out.2.2.1 k hk) (by first | exact hb.size | (have h9 := hb.size; simp only [World.size_alloc, World.size_setCell, World.size_drew, World.drewN] at h9; omega)) | exact Nat.lt_of_lt_of_le ((HBW).out.2.2.2 k hk) (by first | exact hb.size | (have h9 := hb.size; simp only [World.size_alloc, World.size_setCell, World.size_drew, World.drewN] at h9; omega)) | exact (OF.block (show OF _ _ _ _ ∧ _ from hk0.1).1 k hk).2 | exact (OF.block (show OF _ _ _ _ ∧ _ from hk0.2.1).1 k hk).2 | exact (OF.block (show OF _ _ _ _ ∧ _ from hk0.2.2.1).1 k hk).2 | exact (OF.block (show OF _ _ _ _ ∧ _ from hk0.2.2.2.1).1 k hk).2 | exact (OF.block (show OF _ _ _ _ ∧ _ from hk0.2.2.2.2.1).1 k hk).2 | exact (OF.block (show OF _ _ _ _ ∧ _ from hk0.2.2.2.2.2.1).1 k hk).2 | exact (OF.block (show OF _ _ _ _ ∧ _ from hk0.2.2.2.2.2.2.1).1 k hk).2 | exact (OF.block (show OF _ _ _ _ ∧ _ from hk0.2.2.2.2.2.2.2.1).1 k hk).2 | (cases hk; exact World.block_lt_of_cell? _ _ ((show _ ∧ owned _ _ _ from hk0.1).2 0 _ rfl).1)))); (case hc => (intro w' hb hk0; exact cloneF_any xs _ _ (HV.out.later (by (repeat (first | (with_reducible exact Below.refl _ _) | (with_reducible assumption) | (with_reducible refine below_then ?_ (by assumption)) | (with_reducible refine Below.trans ?_ (by assumption)) | (with_reducible refine below_drewN ?_ _) | (with_reducible apply Below.drew) | (with_reducible refine below_alloc ?_ _) | refine Below.setCell ?_ (by first | (simp; done) | (simp; omega)) _)))) HN.out.2.2.2)); intro q4 d4); apply wpC_norm; (case ha => (simp only [Act.put, List.setIfInBounds_toArray, List.set_cons_zero, List.set_cons_succ]; exact rfl))); ((apply wpC_bldR (R := Rd.mk P.a P.b P.c xs) (m := ⟨q1, d1, q2, d2, q3, d3, q4, d4⟩); (case hw => exact rfl); (case h1 => (intro w'; go_simp <;> first | exact rfl | (simp [joinR]; done) | (simp [bkR]; done))); (case hk => (intro w' hb hk0; exact rdA_of (show OF _ _ _ _ ∧ ordK _ _ from hk0.2.2.2.2.2.1).1 (show OF _ _ _ _ ∧ ordK _ _ from hk0.2.2.2.1).1 (show OF _ _ _ _ ∧ ordK _ _ from hk0.2.1).1 (show OF _ _ _ _ ∧ ordK _ _ from hk0.1).1 HL.out (fun k k' h h' => (show OF _ _ _ _ ∧ ordK _ _ from hk0.2.2.2.1).2 _ (List.mem_cons_of_mem _ (List.mem_map.2 ⟨8, by simp, rfl⟩)) k k' h h') (fun k k' h h' => (show OF _ _ _ _ ∧ ordK _ _ from hk0.2.1).2 _ (List.mem_cons_of_mem _ (List.mem_map.2 ⟨11, by simp, rfl⟩)) k k' h h') (fun k k' h h' => (show OF _ _ _ _ ∧ ordK _ _ from hk0.1).2 _ (List.mem_cons_of_mem _ (List.mem_map.2 ⟨14, by simp, rfl⟩)) k k' h h'))); intro lb); apply wpC_norm; (case ha => (simp only [Act.put, List.setIfInBounds_toArray, List.set_cons_zero, List.set_cons_succ]; exact rfl))); ((apply wpC_chk (v0 := .agg #[.slice lb.p1 (Rd.mk P.a P.b P.c xs).a.length lb.c1, .slice lb.p2 (Rd.mk P.a P.b P.c xs).b.length lb.c2, .slice lb.p3 (Rd.mk P.a P.b P.c xs).c.length lb.c3, .slice lb.p4 (Rd.mk P.a P.b P.c xs).d.length lb.c4]); (case hx => exact rfl); (case hw => exact rfl); (case h1 => (intro w'; go_simp; exact ⟨rfl, rfl⟩)); (case hc => (intro w' hb hk0; exact HK.out lb _ ((show ∀ u, rdV _ _ = rdV _ u → RdA _ _ _ u from hk0.1) _ rfl).1.fs))); apply wpC_norm; (case ha => (simp only [Act.put, List.setIfInBounds_toArray, List.set_cons_zero, List.set_cons_succ]; exact rfl))); ((apply wpC_det; (case hw => exact rfl); (case hs => (intro cs b h; cases h)); (case h1 => (intro w'; go_simp <;> exact rfl))); apply wpC_norm; (case ha => (simp only [Act.put, List.setIfInBounds_toArray, List.set_cons_zero, List.set_cons_succ]; exact rfl))); ((apply wpC_det; (case hw => exact rfl); (case hs => (intro cs b h; cases h)); (case h1 => (intro w'; go_simp <;> exact rfl))); apply wpC_norm; (case ha => (simp only [Act.put, List.setIfInBounds_toArray, List.set_cons_zero, List.set_cons_succ]; exact rfl))); refine wpC_tail (by kernel_rfl) (by first | rfl | kernel_rfl) ?_; intro w' hb hkk; obtain ⟨hT, hk⟩ := bv_next hb (by (repeat (with_reducible first | assumption | apply Trk.alloc | apply Trk.setCell | apply Trk.drewN | apply Trk.drew | exact Trk.nil _))); simp only [SameOn, World.size_alloc, World.size_setCell, World.size_drew, size_drewN', and_true] at hk; have hsz := Below.size hb; (try simp only [World.size_alloc, World.size_setCell, World.size_drew, size_drewN'] at hsz))
  have hR := (hkk.2.1 _ rfl).rx (Nat.le_refl _)
  simp only [World.size_alloc] at hR
  rotate_left
  all_goals (try (first | kernel_rfl | rfl))
  go_wp2_with (first | (with_reducible refine at_list ?_; refine wpList_wide_g rfl rfl Try.underlying28 Try.underlying39 rfl ?_; intro r n hr0; have hr := hr0 _ (by first | with_reducible assumption | exact rfl); clear hr0) | (with_reducible refine at_list ?_; refine wpList_wide rfl rfl rfl Try.underlying28 Try.underlying39 ?_; intro r n hr0; have hr := hr0 _ (by first | with_reducible assumption | exact rfl); clear hr0) | (go_at_call 43; refine (cloneF_any _ _ _ (by assumption) (by omega)).mono ?_; rintro e w' ⟨u, rfl, hb, hO⟩; obtain ⟨pu, cu, rfl⟩ := OF.shape hO; (try simp only [World.size_alloc, World.size_setCell, World.size_drew, World.drewN] at hO); obtain ⟨hT, hk⟩ := bv_next hb (by (repeat (with_reducible first | assumption | apply Trk.alloc | apply Trk.setCell | apply Trk.drewN | apply Trk.drew | exact Trk.nil _))); simp only [SameOn, World.size_alloc, World.size_setCell, World.size_drew, size_drewN', and_true] at hk; have hsz := Below.size hb; (try simp only [World.size_alloc, World.size_setCell, World.size_drew, size_drewN'] at hsz)))
  refine bodyPost_ret (v := .tuple #[.agg #[.slice lb.p1 P.a.length lb.c1, .slice lb.p2 P.b.length lb.c2, .slice lb.p3 P.c.length lb.c3, .slice lb.p4 xs.length lb.c4], .bool true]) (by simp [results, Try.results40, go_sem, *]) rfl ?_
  exact ⟨lb, rfl, by (repeat (first | (with_reducible exact Below.refl _ _) | (with_reducible assumption) | (with_reducible refine below_then ?_ (by assumption)) | (with_reducible refine Below.trans ?_ (by assumption)) | (with_reducible refine below_drewN ?_ _) | (with_reducible apply Below.drew) | (with_reducible refine below_alloc ?_ _) | refine Below.setCell ?_ (by first | (simp; done) | (simp; omega)) _)), RdX.base (by (repeat' (first | (with_reducible assumption) | (with_reducible apply RdX.setCell) | (with_reducible apply RdX.alloc) | (with_reducible apply RdX.later; rotate_left; with_reducible assumption) | (with_reducible apply RdX.turn; rotate_left; with_reducible assumption) | (with_reducible apply RdX.drewN))) <;> (first | omega | (simp; done) | (simp; omega))) (by first | omega | (simp; done) | (simp; omega)) (by first | omega | (simp; done) | (simp; omega))⟩
set_option maxHeartbeats 2000000 in
set_option maxRecDepth 100000 in
theorem withWarms_no (P : Rd) (l : RL) (xs : List Nat) (v : Value) (w : World) (hs : P.fs w l) (hv : FS w v xs) (hn : (1 ≤ P.a.length ∧ P.a.length ≤ 1048576) ∧ (1 ≤ P.b.length ∧ P.b.length ≤ 1048576) ∧ (1 ≤ P.c.length ∧ P.c.length ≤ 1048576) ∧ 1 ≤ xs.length ∧ xs.length ≤ 1048576) (h0 : (Rd.mk P.a P.b P.c xs).ok = false) : Calls Try.prog 40 #[.agg #[.slice l.p1 P.a.length l.c1, .slice l.p2 P.b.length l.c2, .slice l.p3 P.c.length l.c3, .slice l.p4 P.d.length l.c4], v] w (BV w (.tuple #[.agg #[.slice none 0 0, .slice none 0 0, .slice none 0 0, .slice none 0 0], .bool false])) := by
  have HS := Lib.hid hs
  have HV := Lib.hid hv
  have HN := Lib.hid hn
  have HL : Hid (1 ≤ P.b.length ∧ 1 ≤ P.c.length) := ⟨hn.2.1.1, hn.2.2.1.1⟩
  have HK := Lib.hid (fun l w h => checkedRod_no (Rd.mk P.a P.b P.c xs) l w h h0)
  have HB : Hid ((∀ k, (Value.slice l.p1 P.a.length l.c1).ownBlock = some k → k < w.heap.size) ∧ (∀ k, (Value.slice l.p2 P.b.length l.c2).ownBlock = some k → k < w.heap.size) ∧ (∀ k, (Value.slice l.p3 P.c.length l.c3).ownBlock = some k → k < w.heap.size) ∧ ∀ k, v.ownBlock = some k → k < w.heap.size) := ⟨own_lt hs.1 hn.1.1, own_lt hs.2.1 hn.2.1.1, own_lt hs.2.2.1 hn.2.2.1.1, own_lt hv hn.2.2.2.1⟩
  obtain ⟨pv, cv, rfl, _⟩ := hv
  clear hs hn h0
  go_enter Try.func40, Try.ntmps40
  go_wp2_with (first | (with_reducible refine at_list ?_; refine wpList_wide_g rfl rfl Try.underlying28 Try.underlying39 rfl ?_; intro r n hr0; have hr := hr0 _ (by first | with_reducible assumption | exact rfl); clear hr0) | (with_reducible refine at_list ?_; refine wpList_wide rfl rfl rfl Try.underlying28 Try.underlying39 ?_; intro r n hr0; have hr := hr0 _ (by first | with_reducible assumption | exact rfl); clear hr0) | (go_at_call 43; refine (cloneF_any _ _ _ (by assumption) (by omega)).mono ?_; rintro e w' ⟨u, rfl, hb, hO⟩; obtain ⟨pu, cu, rfl⟩ := OF.shape hO; (try simp only [World.size_alloc, World.size_setCell, World.size_drew, World.drewN] at hO); obtain ⟨hT, hk⟩ := bv_next hb (by (repeat (with_reducible first | assumption | apply Trk.alloc | apply Trk.setCell | apply Trk.drewN | apply Trk.drew | exact Trk.nil _))); simp only [SameOn, World.size_alloc, World.size_setCell, World.size_drew, size_drewN', and_true] at hk; have hsz := Below.size hb; (try simp only [World.size_alloc, World.size_setCell, World.size_drew, size_drewN'] at hsz)))
  have HBW : Hid ((∀ k, (Value.slice l.p1 P.a.length l.c1).ownBlock = some k → k < w.heap.size + 1 + 1) ∧ (∀ k, (Value.slice l.p2 P.b.length l.c2).ownBlock = some k → k < w.heap.size + 1 + 1) ∧ (∀ k, (Value.slice l.p3 P.c.length l.c3).ownBlock = some k → k < w.heap.size + 1 + 1) ∧ ∀ k, (Value.slice pv xs.length cv).ownBlock = some k → k < w.heap.size + 1 + 1) := ⟨fun k h => by have := HB.out.1 k h; omega, fun k h => by have := HB.out.2.1 k h; omega, fun k h => by have := HB.out.2.2.1 k h; omega, fun k h => by have := HB.out.2.2.2 k h; omega⟩
  (apply wp_region_plan; ((apply wpC_det; (case hw => exact rfl); (case hs => (intro cs b h; cases h)); (case h1 => (intro w'; go_simp <;> exact rfl))); apply wpC_norm; (case ha => (simp only [Act.put, List.setIfInBounds_toArray, List.set_cons_zero, List.set_cons_succ]; exact rfl))); ((apply wpC_val; (case hw => exact rfl); (case h1 => (intro w' hb hk0; obtain ⟨hT, hk⟩ := bv_next hb (by (repeat (with_reducible first | assumption | apply Trk.alloc | apply Trk.setCell | apply Trk.drewN | apply Trk.drew | exact Trk.nil _))); simp only [SameOn, World.size_alloc, World.size_setCell, World.size_drew, size_drewN', and_true] at hk; have hsz := Below.size hb; (try simp only [World.size_alloc, World.size_setCell, World.size_drew, size_drewN'] at hsz); go_simp <;> exact rfl))); apply wpC_norm; (case ha => (simp only [Act.put, List.setIfInBounds_toArray, List.set_cons_zero, List.set_cons_succ]; exact rfl))); ((apply wpC_callOrd (P.a) 43 [7] [7]; (case hts => kernel_rfl); (case hus => kernel_rfl); (case hf => rfl); (case hw => exact rfl); (case h1 => (intro w'; go_simp; exact ⟨rfl, rfl⟩)); (case hz => (intro w' hb hk0 t ht k hk; simp only [List.cons_append, List.nil_append, List.mem_cons, List.not_mem_nil, or_false, or_self] at ht; (first | subst ht | (rcases ht with rfl | rfl) | (rcases ht with rfl | rfl | rfl) | (rcases ht with rfl | rfl | rfl | rfl) | (rcases ht with rfl | rfl | rfl | rfl | rfl)) <;> (first | exact Option.noConfusion (show (none : Option Nat) = some k from hk) | exact Nat.lt_of_lt_of_le ((HBW).out.1 k hk) (by first | exact hb.size | (have h9 := hb.size; simp only [World.size_alloc, World.size_setCell, World.size_drew, World.drewN] at h9; omega)) | exact Nat.lt_of_lt_of_le ((HBW).out.2.1 k hk) (by first | exact hb.size | (have h9 := hb.size; simp only [World.size_alloc, World.size_setCell, World.size_drew, World.drewN] at h9; omega)) | exact Nat.lt_of_lt_of_le ((HBW).out.2.2.1 k hk) (by first | exact hb.size | (have h9 := hb.size; simp only [World.size_alloc, World.size_setCell, World.size_drew, World.drewN] at h9; omega)) | exact Nat.lt_of_lt_of_le ((HBW).out.2.2.2 k hk) (by first | exact hb.size | (have h9 := hb.size; simp only [World.size_alloc, World.size_setCell, World.size_drew, World.drewN] at h9; omega)) | exact (OF.block (show OF _ _ _ _ ∧ _ from hk0.1).1 k hk).2 | exact (OF.block (show OF _ _ _ _ ∧ _ from hk0.2.1).1 k hk).2 | exact (OF.block (show OF _ _ _ _ ∧ _ from hk0.2.2.1).1 k hk).2 | exact (OF.block (show OF _ _ _ _ ∧ _ from hk0.2.2.2.1).1 k hk).2 | exact (OF.block (show OF _ _ _ _ ∧ _ from hk0.2.2.2.2.1).1 k hk).2 | exact (OF.block (show OF _ _ _ _ ∧ _ from hk0.2.2.2.2.2.1).1 k hk).2 | exact (OF.block (show OF _ _ _ _ ∧ _ from hk0.2.2.2.2.2.2.1).1 k hk).2 | exact (OF.block (show OF _ _ _ _ ∧ _ from hk0.2.2.2.2.2.2.2.1).1 k hk).2 | (cases hk; exact World.block_lt_of_cell? _ _ ((show _ ∧ owned _ _ _ from hk0.1).2 0 _ rfl).1)))); (case hc => (intro w' hb hk0; exact cloneF_any P.a _ _ (HS.out.1.later (by (repeat (first | (with_reducible exact Below.refl _ _) | (with_reducible assumption) | (with_reducible refine below_then ?_ (by assumption)) | (with_reducible refine Below.trans ?_ (by assumption)) | (with_reducible refine below_drewN ?_ _) | (with_reducible apply Below.drew) | (with_reducible refine below_alloc ?_ _) | refine Below.setCell ?_ (by first | (simp; done) | (simp; omega)) _)))) HN.out.1)); intro q1 d1); apply wpC_norm; (case ha => (simp only [Act.put, List.setIfInBounds_toArray, List.set_cons_zero, List.set_cons_succ]; exact rfl))); ((apply wpC_det; (case hw => exact rfl); (case hs => (intro cs b h; cases h)); (case h1 => (intro w'; go_simp <;> exact rfl))); apply wpC_norm; (case ha => (simp only [Act.put, List.setIfInBounds_toArray, List.set_cons_zero, List.set_cons_succ]; exact rfl))); ((apply wpC_val; (case hw => exact rfl); (case h1 => (intro w' hb hk0; obtain ⟨hT, hk⟩ := bv_next hb (by (repeat (with_reducible first | assumption | apply Trk.alloc | apply Trk.setCell | apply Trk.drewN | apply Trk.drew | exact Trk.nil _))); simp only [SameOn, World.size_alloc, World.size_setCell, World.size_drew, size_drewN', and_true] at hk; have hsz := Below.size hb; (try simp only [World.size_alloc, World.size_setCell, World.size_drew, size_drewN'] at hsz); go_simp <;> exact rfl))); apply wpC_norm; (case ha => (simp only [Act.put, List.setIfInBounds_toArray, List.set_cons_zero, List.set_cons_succ]; exact rfl))); ((apply wpC_callOrd (P.b) 43 [10] [8, 10]; (case hts => kernel_rfl); (case hus => kernel_rfl); (case hf => rfl); (case hw => exact rfl); (case h1 => (intro w'; go_simp; exact ⟨rfl, rfl⟩)); (case hz => (intro w' hb hk0 t ht k hk; simp only [List.cons_append, List.nil_append, List.mem_cons, List.not_mem_nil, or_false, or_self] at ht; (first | subst ht | (rcases ht with rfl | rfl) | (rcases ht with rfl | rfl | rfl) | (rcases ht with rfl | rfl | rfl | rfl) | (rcases ht with rfl | rfl | rfl | rfl | rfl)) <;> (first | exact Option.noConfusion (show (none : Option Nat) = some k from hk) | exact Nat.lt_of_lt_of_le ((HBW).out.1 k hk) (by first | exact hb.size | (have h9 := hb.size; simp only [World.size_alloc, World.size_setCell, World.size_drew, World.drewN] at h9; omega)) | exact Nat.lt_of_lt_of_le ((HBW).out.2.1 k hk) (by first | exact hb.size | (have h9 := hb.size; simp only [World.size_alloc, World.size_setCell, World.size_drew, World.drewN] at h9; omega)) | exact Nat.lt_of_lt_of_le ((HBW).out.2.2.1 k hk) (by first | exact hb.size | (have h9 := hb.size; simp only [World.size_alloc, World.size_setCell, World.size_drew, World.drewN] at h9; omega)) | exact Nat.lt_of_lt_of_le ((HBW).out.2.2.2 k hk) (by first | exact hb.size | (have h9 := hb.size; simp only [World.size_alloc, World.size_setCell, World.size_drew, World.drewN] at h9; omega)) | exact (OF.block (show OF _ _ _ _ ∧ _ from hk0.1).1 k hk).2 | exact (OF.block (show OF _ _ _ _ ∧ _ from hk0.2.1).1 k hk).2 | exact (OF.block (show OF _ _ _ _ ∧ _ from hk0.2.2.1).1 k hk).2 | exact (OF.block (show OF _ _ _ _ ∧ _ from hk0.2.2.2.1).1 k hk).2 | exact (OF.block (show OF _ _ _ _ ∧ _ from hk0.2.2.2.2.1).1 k hk).2 | exact (OF.block (show OF _ _ _ _ ∧ _ from hk0.2.2.2.2.2.1).1 k hk).2 | exact (OF.block (show OF _ _ _ _ ∧ _ from hk0.2.2.2.2.2.2.1).1 k hk).2 | exact (OF.block (show OF _ _ _ _ ∧ _ from hk0.2.2.2.2.2.2.2.1).1 k hk).2 | (cases hk; exact World.block_lt_of_cell? _ _ ((show _ ∧ owned _ _ _ from hk0.1).2 0 _ rfl).1)))); (case hc => (intro w' hb hk0; exact cloneF_any P.b _ _ (HS.out.2.1.later (by (repeat (first | (with_reducible exact Below.refl _ _) | (with_reducible assumption) | (with_reducible refine below_then ?_ (by assumption)) | (with_reducible refine Below.trans ?_ (by assumption)) | (with_reducible refine below_drewN ?_ _) | (with_reducible apply Below.drew) | (with_reducible refine below_alloc ?_ _) | refine Below.setCell ?_ (by first | (simp; done) | (simp; omega)) _)))) HN.out.2.1)); intro q2 d2); apply wpC_norm; (case ha => (simp only [Act.put, List.setIfInBounds_toArray, List.set_cons_zero, List.set_cons_succ]; exact rfl))); ((apply wpC_det; (case hw => exact rfl); (case hs => (intro cs b h; cases h)); (case h1 => (intro w'; go_simp <;> exact rfl))); apply wpC_norm; (case ha => (simp only [Act.put, List.setIfInBounds_toArray, List.set_cons_zero, List.set_cons_succ]; exact rfl))); ((apply wpC_val; (case hw => exact rfl); (case h1 => (intro w' hb hk0; obtain ⟨hT, hk⟩ := bv_next hb (by (repeat (with_reducible first | assumption | apply Trk.alloc | apply Trk.setCell | apply Trk.drewN | apply Trk.drew | exact Trk.nil _))); simp only [SameOn, World.size_alloc, World.size_setCell, World.size_drew, size_drewN', and_true] at hk; have hsz := Below.size hb; (try simp only [World.size_alloc, World.size_setCell, World.size_drew, size_drewN'] at hsz); go_simp <;> exact rfl))); apply wpC_norm; (case ha => (simp only [Act.put, List.setIfInBounds_toArray, List.set_cons_zero, List.set_cons_succ]; exact rfl))); ((apply wpC_callOrd (P.c) 43 [13] [11, 13]; (case hts => kernel_rfl); (case hus => kernel_rfl); (case hf => rfl); (case hw => exact rfl); (case h1 => (intro w'; go_simp; exact ⟨rfl, rfl⟩)); (case hz => (intro w' hb hk0 t ht k hk; simp only [List.cons_append, List.nil_append, List.mem_cons, List.not_mem_nil, or_false, or_self] at ht; (first | subst ht | (rcases ht with rfl | rfl) | (rcases ht with rfl | rfl | rfl) | (rcases ht with rfl | rfl | rfl | rfl) | (rcases ht with rfl | rfl | rfl | rfl | rfl)) <;> (first | exact Option.noConfusion (show (none : Option Nat) = some k from hk) | exact Nat.lt_of_lt_of_le ((HBW).out.1 k hk) (by first | exact hb.size | (have h9 := hb.size; simp only [World.size_alloc, World.size_setCell, World.size_drew, World.drewN] at h9; omega)) | exact Nat.lt_of_lt_of_le ((HBW).out.2.1 k hk) (by first | exact hb.size | (have h9 := hb.size; simp only [World.size_alloc, World.size_setCell, World.size_drew, World.drewN] at h9; omega)) | exact Nat.lt_of_lt_of_le ((HBW).out.2.2.1 k hk) (by first | exact hb.size | (have h9 := hb.size; simp only [World.size_alloc, World.size_setCell, World.size_drew, World.drewN] at h9; omega)) | exact Nat.lt_of_lt_of_le ((HBW).out.2.2.2 k hk) (by first | exact hb.size | (have h9 := hb.size; simp only [World.size_alloc, World.size_setCell, World.size_drew, World.drewN] at h9; omega)) | exact (OF.block (show OF _ _ _ _ ∧ _ from hk0.1).1 k hk).2 | exact (OF.block (show OF _ _ _ _ ∧ _ from hk0.2.1).1 k hk).2 | exact (OF.block (show OF _ _ _ _ ∧ _ from hk0.2.2.1).1 k hk).2 | exact (OF.block (show OF _ _ _ _ ∧ _ from hk0.2.2.2.1).1 k hk).2 | exact (OF.block (show OF _ _ _ _ ∧ _ from hk0.2.2.2.2.1).1 k hk).2 | exact (OF.block (show OF _ _ _ _ ∧ _ from hk0.2.2.2.2.2.1).1 k hk).2 | exact (OF.block (show OF _ _ _ _ ∧ _ from hk0.2.2.2.2.2.2.1).1 k hk).2 | exact (OF.block (show OF _ _ _ _ ∧ _ from hk0.2.2.2.2.2.2.2.1).1 k hk).2 | (cases hk; exact World.block_lt_of_cell? _ _ ((show _ ∧ owned _ _ _ from hk0.1).2 0 _ rfl).1)))); (case hc => (intro w' hb hk0; exact cloneF_any P.c _ _ (HS.out.2.2.1.later (by (repeat (first | (with_reducible exact Below.refl _ _) | (with_reducible assumption) | (with_reducible refine below_then ?_ (by assumption)) | (with_reducible refine Below.trans ?_ (by assumption)) | (with_reducible refine below_drewN ?_ _) | (with_reducible apply Below.drew) | (with_reducible refine below_alloc ?_ _) | refine Below.setCell ?_ (by first | (simp; done) | (simp; omega)) _)))) HN.out.2.2.1)); intro q3 d3); apply wpC_norm; (case ha => (simp only [Act.put, List.setIfInBounds_toArray, List.set_cons_zero, List.set_cons_succ]; exact rfl))); ((apply wpC_det; (case hw => exact rfl); (case hs => (intro cs b h; cases h)); (case h1 => (intro w'; go_simp <;> exact rfl))); apply wpC_norm; (case ha => (simp only [Act.put, List.setIfInBounds_toArray, List.set_cons_zero, List.set_cons_succ]; exact rfl))); ((apply wpC_callOrd (xs) 43 [15] [14, 15]; (case hts => kernel_rfl); (case hus => kernel_rfl); (case hf => rfl); (case hw => exact rfl); (case h1 => (intro w'; go_simp; exact ⟨rfl, rfl⟩)); (case hz => (intro w' hb hk0 t ht k hk; simp only [List.cons_append, List.nil_append, List.mem_cons, List.not_mem_nil, or_false, or_self] at ht; (first | subst ht | (rcases ht with rfl | rfl) | (rcases ht with rfl | rfl | rfl) | (rcases ht with rfl | rfl | rfl | rfl) | (rcases ht with rfl | rfl | rfl | rfl | rfl)) <;> (first | exact Option.noConfusion (show (none : Option Nat) = some k from hk) | exact Nat.lt_of_lt_of_le ((HBW).out.1 k hk) (by first | exact hb.size | (have h9 := hb.size; simp only [World.size_alloc, World.size_setCell, World.size_drew, World.drewN] at h9; omega)) | exact Nat.lt_of_lt_of_le ((HBW).out.2.1 k hk) (by first | exact hb.size | (have h9 := hb.size; simp only [World.size_alloc, World.size_setCell, World.size_drew, World.drewN] at h9; omega)) | exact Nat.lt_of_lt_of_le ((HBW).out.2.2.1 k hk) (by first | exact hb.size | (have h9 := hb.size; simp only [World.size_alloc, World.size_setCell, World.size_drew, World.drewN] at h9; omega)) | exact Nat.lt_of_lt_of_le ((HBW).out.2.2.2 k hk) (by first | exact hb.size | (have h9 := hb.size; simp only [World.size_alloc, World.size_setCell, World.size_drew, World.drewN] at h9; omega)) | exact (OF.block (show OF _ _ _ _ ∧ _ from hk0.1).1 k hk).2 | exact (OF.block (show OF _ _ _ _ ∧ _ from hk0.2.1).1 k hk).2 | exact (OF.block (show OF _ _ _ _ ∧ _ from hk0.2.2.1).1 k hk).2 | exact (OF.block (show OF _ _ _ _ ∧ _ from hk0.2.2.2.1).1 k hk).2 | exact (OF.block (show OF _ _ _ _ ∧ _ from hk0.2.2.2.2.1).1 k hk).2 | exact (OF.block (show OF _ _ _ _ ∧ _ from hk0.2.2.2.2.2.1).1 k hk).2 | exact (OF.block (show OF _ _ _ _ ∧ _ from hk0.2.2.2.2.2.2.1).1 k hk).2 | exact (OF.block (show OF _ _ _ _ ∧ _ from hk0.2.2.2.2.2.2.2.1).1 k hk).2 | (cases hk; exact World.block_lt_of_cell? _ _ ((show _ ∧ owned _ _ _ from hk0.1).2 0 _ rfl).1)))); (case hc => (intro w' hb hk0; exact cloneF_any xs _ _ (HV.out.later (by (repeat (first | (with_reducible exact Below.refl _ _) | (with_reducible assumption) | (with_reducible refine below_then ?_ (by assumption)) | (with_reducible refine Below.trans ?_ (by assumption)) | (with_reducible refine below_drewN ?_ _) | (with_reducible apply Below.drew) | (with_reducible refine below_alloc ?_ _) | refine Below.setCell ?_ (by first | (simp; done) | (simp; omega)) _)))) HN.out.2.2.2)); intro q4 d4); apply wpC_norm; (case ha => (simp only [Act.put, List.setIfInBounds_toArray, List.set_cons_zero, List.set_cons_succ]; exact rfl))); ((apply wpC_bldR (R := Rd.mk P.a P.b P.c xs) (m := ⟨q1, d1, q2, d2, q3, d3, q4, d4⟩); (case hw => exact rfl); (case h1 => (intro w'; go_simp <;> first | exact rfl | (simp [joinR]; done) | (simp [bkR]; done))); (case hk => (intro w' hb hk0; exact rdA_of (show OF _ _ _ _ ∧ ordK _ _ from hk0.2.2.2.2.2.1).1 (show OF _ _ _ _ ∧ ordK _ _ from hk0.2.2.2.1).1 (show OF _ _ _ _ ∧ ordK _ _ from hk0.2.1).1 (show OF _ _ _ _ ∧ ordK _ _ from hk0.1).1 HL.out (fun k k' h h' => (show OF _ _ _ _ ∧ ordK _ _ from hk0.2.2.2.1).2 _ (List.mem_cons_of_mem _ (List.mem_map.2 ⟨8, by simp, rfl⟩)) k k' h h') (fun k k' h h' => (show OF _ _ _ _ ∧ ordK _ _ from hk0.2.1).2 _ (List.mem_cons_of_mem _ (List.mem_map.2 ⟨11, by simp, rfl⟩)) k k' h h') (fun k k' h h' => (show OF _ _ _ _ ∧ ordK _ _ from hk0.1).2 _ (List.mem_cons_of_mem _ (List.mem_map.2 ⟨14, by simp, rfl⟩)) k k' h h'))); intro lb); apply wpC_norm; (case ha => (simp only [Act.put, List.setIfInBounds_toArray, List.set_cons_zero, List.set_cons_succ]; exact rfl))); ((apply wpC_callB (.tuple #[.agg #[.slice none 0 0, .slice none 0 0, .slice none 0 0, .slice none 0 0], .bool false]); (case hw => exact rfl); (case h1 => (intro w'; go_simp; exact ⟨rfl, rfl⟩)); (case hc => (intro w' hb hk0; exact HK.out lb _ ((show ∀ u, rdV _ _ = rdV _ u → RdA _ _ _ u from hk0.1) _ rfl).1.fs))); apply wpC_norm; (case ha => (simp only [Act.put, List.setIfInBounds_toArray, List.set_cons_zero, List.set_cons_succ]; exact rfl))); ((apply wpC_det; (case hw => exact rfl); (case hs => (intro cs b h; cases h)); (case h1 => (intro w'; go_simp <;> exact rfl))); apply wpC_norm; (case ha => (simp only [Act.put, List.setIfInBounds_toArray, List.set_cons_zero, List.set_cons_succ]; exact rfl))); ((apply wpC_det; (case hw => exact rfl); (case hs => (intro cs b h; cases h)); (case h1 => (intro w'; go_simp <;> exact rfl))); apply wpC_norm; (case ha => (simp only [Act.put, List.setIfInBounds_toArray, List.set_cons_zero, List.set_cons_succ]; exact rfl))); refine wpC_tail (by kernel_rfl) (by first | rfl | kernel_rfl) ?_; intro w' hb hkk; obtain ⟨hT, hk⟩ := bv_next hb (by (repeat (with_reducible first | assumption | apply Trk.alloc | apply Trk.setCell | apply Trk.drewN | apply Trk.drew | exact Trk.nil _))); simp only [SameOn, World.size_alloc, World.size_setCell, World.size_drew, size_drewN', and_true] at hk; have hsz := Below.size hb; (try simp only [World.size_alloc, World.size_setCell, World.size_drew, size_drewN'] at hsz))
  rotate_left
  all_goals (try (first | kernel_rfl | rfl))
  go_wp2_with (first | (with_reducible refine at_list ?_; refine wpList_wide_g rfl rfl Try.underlying28 Try.underlying39 rfl ?_; intro r n hr0; have hr := hr0 _ (by first | with_reducible assumption | exact rfl); clear hr0) | (with_reducible refine at_list ?_; refine wpList_wide rfl rfl rfl Try.underlying28 Try.underlying39 ?_; intro r n hr0; have hr := hr0 _ (by first | with_reducible assumption | exact rfl); clear hr0) | (go_at_call 43; refine (cloneF_any _ _ _ (by assumption) (by omega)).mono ?_; rintro e w' ⟨u, rfl, hb, hO⟩; obtain ⟨pu, cu, rfl⟩ := OF.shape hO; (try simp only [World.size_alloc, World.size_setCell, World.size_drew, World.drewN] at hO); obtain ⟨hT, hk⟩ := bv_next hb (by (repeat (with_reducible first | assumption | apply Trk.alloc | apply Trk.setCell | apply Trk.drewN | apply Trk.drew | exact Trk.nil _))); simp only [SameOn, World.size_alloc, World.size_setCell, World.size_drew, size_drewN', and_true] at hk; have hsz := Below.size hb; (try simp only [World.size_alloc, World.size_setCell, World.size_drew, size_drewN'] at hsz)))
  refine bodyPost_ret (v := .tuple #[.agg #[.slice none 0 0, .slice none 0 0, .slice none 0 0, .slice none 0 0], .bool false]) (by simp [results, Try.results40, go_sem, *]) rfl ?_
  exact ⟨rfl, by (repeat (first | (with_reducible exact Below.refl _ _) | (with_reducible assumption) | (with_reducible refine below_then ?_ (by assumption)) | (with_reducible refine Below.trans ?_ (by assumption)) | (with_reducible refine below_drewN ?_ _) | (with_reducible apply Below.drew) | (with_reducible refine below_alloc ?_ _) | refine Below.setCell ?_ (by first | (simp; done) | (simp; omega)) _))⟩
end Go.Proofs.Ytpnkapdemgieaaa
set_option linter.unusedSimpArgs false
set_option linter.unusedVariables false
set_option linter.unusedSectionVars false
namespace Go.Proofs.Ytpnkapdemgieaaa
open Go Go.RowKit
open Go.ChangeShapes Go.WideShapes Go.ChangeAt Go.RowKit Go.Joins
/-- A number stored into the last list of an own rod. -/
theorem RdX.stored {B S : Nat} {w : World} {P : Rd} {l : RL} (h : RdX B S w P l) {g : Nat} (hp : l.p4 = some ⟨g, 0, none⟩) (k r : Nat) : RdX B S (w.setCell ⟨g, k, none⟩ (.float .f32 r)) ⟨P.a, P.b, P.c, P.d.set k r⟩ l ∧ w.grownBy (w.setCell ⟨g, k, none⟩ (.float .f32 r)) (some g) := by
  obtain ⟨⟨⟨o1, o2, o3, o4⟩, s1, s2, s3, s4⟩, a12, a13, a14, a23, a24, a34⟩ := h
  have h4 := o4
  rw [hp] at h4
  unfold OF at h4
  obtain ⟨h2, h3⟩ := World.ownsRow.stored h4 k (.float .f32 r)
  have ne : ∀ {p : Option Addr} {n c : Nat}, Ap p l.p4 → (Value.slice p n c).ownBlock = none ∨ (Value.slice p n c).ownBlock ≠ some g := fun {p n c} ha => by
    cases p with
    | none => exact .inl rfl
    | some x => exact .inr fun e => ha x _ rfl hp (by simpa [Value.ownBlock] using e)
  refine ⟨⟨⟨⟨o1.kept h3 (ne a14), o2.kept h3 (ne a24), o3.kept h3 (ne a34), ?_⟩, s1, s2, s3, ?_⟩, a12, a13, a14, a23, a24, a34⟩, h3⟩
  · show OF _ _ (.slice l.p4 (P.d.set k r).length l.c4) (P.d.set k r)
    rw [hp]
    unfold OF
    rw [List.length_set, List.map_set]
    exact h2
  · show ∀ k', (Value.slice l.p4 (P.d.set k r).length l.c4).ownBlock = some k' → k' < S
    rw [List.length_set]; exact s4
end Go.Proofs.Ytpnkapdemgieaaa
set_option linter.unusedSimpArgs false
set_option linter.unusedVariables false
set_option linter.unusedSectionVars false
namespace Go.Proofs.Ytpnkapdemgieaaa
open Go Go.RowKit
open Go.ChangeShapes Go.WideShapes Go.ChangeAt Go.RowKit Go.Joins
/-- Rows of equations, solved: each row without the number at the cell before; its right side; the answers from the last one on. -/
def elA (b a x : Nat → Nat) : Nat → Nat
  | 0 => a 0
  | i + 1 => fop .sub .f32 (a (i + 1)) (fop .mul .f32 (fop .quo .f32 (b (i + 1)) (elA b a x i)) (x i))
def elS (b a x s : Nat → Nat) : Nat → Nat
  | 0 => s 0
  | i + 1 => fop .sub .f32 (s (i + 1)) (fop .mul .f32 (fop .quo .f32 (b (i + 1)) (elA b a x i)) (elS b a x s i))
def bkO (b a x s : Nat → Nat) (n : Nat) : Nat → Nat
  | 0 => fop .quo .f32 (elS b a x s (n - 1)) (elA b a x (n - 1))
  | k + 1 => fop .quo .f32 (fop .sub .f32 (elS b a x s (n - 1 - (k + 1))) (fop .mul .f32 (x (n - 1 - (k + 1))) (bkO b a x s n k))) (elA b a x (n - 1 - (k + 1)))
def solO (b a x s : Nat → Nat) (n i : Nat) : Nat := bkO b a x s n (n - 1 - i)
def solL (b a x s : Nat → Nat) (n : Nat) : List Nat := (List.range n).map (solO b a x s n)
theorem solL_len (b a x s : Nat → Nat) (n : Nat) : (solL b a x s n).length = n := by simp [solL]
theorem cn_bkO (b a x s : Nat → Nat) (n : Nat) : ∀ k, cn .f32 (bkO b a x s n k) = bkO b a x s n k | 0 => cn_fop _ _ _ _ | _ + 1 => cn_fop _ _ _ _
theorem solL_cn (b a x s : Nat → Nat) (n : Nat) : (solL b a x s n).map (cn .f32) = solL b a x s n := by
  unfold solL
  rw [List.map_map]
  exact List.map_congr_left fun i _ => cn_bkO _ _ _ _ _ _
theorem solO_last (b a x s : Nat → Nat) (n : Nat) {i : Nat} (h : i + 1 = n) : solO b a x s n i = fop .quo .f32 (elS b a x s i) (elA b a x i) := by
  subst h
  show bkO b a x s (i + 1) (i + 1 - 1 - i) = _
  rw [show i + 1 - 1 - i = 0 by omega]
  rfl
theorem solO_next (b a x s : Nat → Nat) (n : Nat) {i : Nat} (h : i + 1 < n) : solO b a x s n i = fop .quo .f32 (fop .sub .f32 (elS b a x s i) (fop .mul .f32 (x i) (solO b a x s n (i + 1)))) (elA b a x i) := by
  show bkO b a x s n (n - 1 - i) = fop .quo .f32 (fop .sub .f32 _ (fop .mul .f32 _ (bkO b a x s n (n - 1 - (i + 1))))) _
  rw [show n - 1 - i = (n - 1 - (i + 1)) + 1 by omega]
  show fop .quo .f32 (fop .sub .f32 (elS b a x s (n - 1 - (n - 1 - (i + 1) + 1))) (fop .mul .f32 (x (n - 1 - (n - 1 - (i + 1) + 1))) _)) _ = _
  rw [show n - 1 - (n - 1 - (i + 1) + 1) = i by omega]
theorem solL_of {b a x s : Nat → Nat} {n : Nat} {ys : List Nat} (hl : ys.length = n) (h : ∀ j, j < n → cn .f32 (ys.getD j 0) = solO b a x s n j) : ys.map (cn .f32) = solL b a x s n := by
  apply List.ext_getElem (by simp [solL, hl])
  intro j h1 h2
  have hj : j < n := by simpa [hl] using h1
  have := h j hj
  rw [List.getD_eq_getElem?_getD, List.getElem?_eq_getElem (by omega)] at this
  simpa [solL] using this
theorem getL_set_ne {xs : List Nat} {k j r : Nat} (h : j ≠ k) : (xs.set k r).getD j 0 = xs.getD j 0 := by
  rw [List.getD_eq_getElem?_getD, List.getD_eq_getElem?_getD, List.getElem?_set_ne (Ne.symm h)]
theorem getL_set_eq {xs : List Nat} {k r : Nat} (h : k < xs.length) : (xs.set k r).getD k 0 = r := by
  rw [List.getD_eq_getElem?_getD, List.getElem?_set_self h]; rfl
set_option maxRecDepth 100000 in
theorem Try.infoRow : (Try.prog.info? 74).map (fun i => (i.zero, i.size, i.bytes)) = some (some (.agg #[.float .f32 0, .float .f32 0, .float .f32 0, .float .f32 0]), 4, 16) := by kernel_rfl
/-- Rows of equations that the call has made: four numbers each. -/
def RW (B : Nat) (w : World) (u : Value) (n : Nat) (zs : List Nat) : Prop := w.ownsRow B 74 4 u n (zs.map (Value.float .f32))
theorem RW.len {B n : Nat} {w : World} {u : Value} {zs : List Nat} (h : RW B w u n zs) : zs.length = n * 4 := by have := h.1; simpa using this
theorem RW.cell {B n g c : Nat} {w : World} {zs : List Nat} (h : RW B w (.slice (some ⟨g, 0, none⟩) n c) n zs) {j : Nat} (hj : j < n * 4) : w.cell? ⟨g, j, none⟩ = some (.float .f32 (zs.getD j 0)) ∧ w.frozen? ⟨g, j, none⟩ = false := by
  refine ⟨?_, World.ownsRow.frozenAt h j⟩
  rw [World.ownsRow.cellAt h j hj]
  have := h.len
  rw [List.getElem?_map, List.getD_eq_getElem?_getD, List.getElem?_eq_getElem (by omega)]
  rfl
theorem RW.stored {B n g c : Nat} {w : World} {zs : List Nat} (h : RW B w (.slice (some ⟨g, 0, none⟩) n c) n zs) (j r : Nat) : RW B (w.setCell ⟨g, j, none⟩ (.float .f32 r)) (.slice (some ⟨g, 0, none⟩) n c) n (zs.set j r) ∧ w.grownBy (w.setCell ⟨g, j, none⟩ (.float .f32 r)) (some g) := by
  obtain ⟨h1, h2⟩ := World.ownsRow.stored h j (.float .f32 r)
  refine ⟨?_, h2⟩
  unfold RW
  rw [List.map_set]
  exact h1
theorem RW.later {B n : Nat} {w w' : World} {u : Value} {zs : List Nat} (h : RW B w u n zs) (hb : Below w.heap.size w w') : RW B w' u n zs := by
  cases hu : u.ownBlock with
  | none => exact World.ownsRow.kept h (below_grown hb none) (.inl hu)
  | some k => exact World.ownsRow.kept h (below_grown hb none) (.inr (by rw [hu]; simp))
/-- How far the rows are solved. -/
def elQ (b a x s : Nat → Nat) (n i : Nat) (zs : List Nat) : Prop := ∀ j, j < n → cn .f32 (zs.getD (j * 4) 0) = b j ∧ cn .f32 (zs.getD (j * 4 + 1) 0) = (if j < i then elA b a x j else a j) ∧ cn .f32 (zs.getD (j * 4 + 2) 0) = x j ∧ cn .f32 (zs.getD (j * 4 + 3) 0) = (if j < i then elS b a x s j else s j)
theorem elQ_one {b a x s : Nat → Nat} {n : Nat} {zs : List Nat} (h : ∀ j, j < n → cn .f32 (zs.getD (j * 4) 0) = b j ∧ cn .f32 (zs.getD (j * 4 + 1) 0) = a j ∧ cn .f32 (zs.getD (j * 4 + 2) 0) = x j ∧ cn .f32 (zs.getD (j * 4 + 3) 0) = s j) : elQ b a x s n 1 zs := fun j hj => by
  obtain ⟨h0, h1, h2, h3⟩ := h j hj
  refine ⟨h0, ?_, h2, ?_⟩
  · split
    · obtain rfl : j = 0 := by omega
      exact h1
    · exact h1
  · split
    · obtain rfl : j = 0 := by omega
      exact h3
    · exact h3
theorem elQ_step {b a x s : Nat → Nat} {n i : Nat} {zs : List Nat} (h : elQ b a x s n (i + 1) zs) (hi : i + 1 < n) (hl : zs.length = n * 4) {r q : Nat} (hr : cn .f32 r = elA b a x (i + 1)) (hq : cn .f32 q = elS b a x s (i + 1)) : elQ b a x s n (i + 2) ((zs.set ((i + 1) * 4 + 1) r).set ((i + 1) * 4 + 3) q) := fun j hj => by
  obtain ⟨h0, h1, h2, h3⟩ := h j hj
  refine ⟨?_, ?_, ?_, ?_⟩
  · rw [getL_set_ne (by omega), getL_set_ne (by omega)]; exact h0
  · rw [getL_set_ne (by omega)]
    by_cases hji : j = i + 1
    · subst hji
      rw [getL_set_eq (by omega), if_pos (by omega)]; exact hr
    · rw [getL_set_ne (by omega), h1]
      by_cases hlt : j < i + 1
      · rw [if_pos hlt, if_pos (by omega)]
      · rw [if_neg hlt, if_neg (by omega)]
  · rw [getL_set_ne (by omega), getL_set_ne (by omega)]; exact h2
  · by_cases hji : j = i + 1
    · subst hji
      rw [getL_set_eq (by rw [List.length_set]; omega), if_pos (by omega)]; exact hq
    · rw [getL_set_ne (by omega), getL_set_ne (by omega), h3]
      by_cases hlt : j < i + 1
      · rw [if_pos hlt, if_pos (by omega)]
      · rw [if_neg hlt, if_neg (by omega)]
theorem elQ_step' {b a x s : Nat → Nat} {n k : Nat} {zs : List Nat} (h : elQ b a x s n k zs) (hk : 1 ≤ k) (hi : k < n) (hl : zs.length = n * 4) {r q : Nat} (hr : cn .f32 r = elA b a x k) (hq : cn .f32 q = elS b a x s k) : elQ b a x s n (k + 1) ((zs.set (k * 4 + 1) r).set (k * 4 + 3) q) := by
  obtain ⟨i, rfl⟩ : ∃ i, k = i + 1 := ⟨k - 1, by omega⟩
  exact elQ_step h hi hl hr hq
theorem turn_new {B : Nat} {w wp wr : World} (h : Turn B w.heap.size w wp) (hg : wp.grownBy wr (some w.heap.size)) : Turn B w.heap.size w wr :=
  ⟨hg.os.trans h.os, hg.tape.trans h.tape, hg.output.trans h.output, Nat.le_trans h.size hg.size, fun k hk hr => (hg.block k (Nat.lt_of_lt_of_le hk h.size) (by simp; omega)).trans (h.block k hk hr)⟩
set_option maxHeartbeats 4000000 in
set_option maxRecDepth 100000 in
theorem solveRows_any (B : Nat) (b a x s : Nat → Nat) (zs : List Nat) (n g c : Nat) (w : World) (hs : RW B w (.slice (some ⟨g, 0, none⟩) n c) n zs) (hn : 1 ≤ n ∧ n ≤ 48) (hz : elQ b a x s n 1 zs) : Calls Try.prog 46 #[.slice (some ⟨g, 0, none⟩) n c] w (fun e w' => ∃ v ys, e = .returned v ∧ Turn B w.heap.size w w' ∧ OF w.heap.size w' v ys ∧ ys.map (cn .f32) = solL b a x s n) := by
  obtain ⟨i0, hi, hz0, hz1, hz2⟩ := info_parts Try.infoF32
  obtain ⟨hn1, hn2⟩ := hn
  have hib : i0.bytes * n ≤ 281474976710656 := by rw [hz2]; omega
  have hml : n ≤ maxLen := by unfold maxLen; omega
  have hBg : B ≤ g ∧ g < w.heap.size := World.ownsRow.lt hs g rfl
  obtain ⟨hBg1, hBg2⟩ := hBg
  have HS := Lib.hid hs
  have HZ := Lib.hid hz
  clear hs hz
  go_enter Try.func46, Try.ntmps46
  go_wp2_with (first | (at_make; refine wpList_make_full _ rfl _ _ 24 rfl w.heap.size 28 i0 (.float .f32 0) 1 Try.underlying24 hi hz0 hz1 _ _ _ _ n rfl rfl rfl rfl hib hml (Nat.le_refl _) ?_; intro w1 hown hgrow))
  have hown0 : OF w.heap.size w1 (.slice (some ⟨w.heap.size, 0, none⟩) n n) (List.replicate n 0) := by
    unfold OF
    simp only [Value.cells, Nat.mul_one, toList_madeCells_one, List.length_replicate, List.map_replicate] at hown ⊢
    exact hown
  have hB0 : Below w.heap.size w w1 := (Below.refl _ _).grown hgrow (Nat.le_refl _) (fun k h => by cases h)
  have HO0 := Lib.hid hown0
  have HS1 : Hid (RW B w1 (.slice (some ⟨g, 0, none⟩) n c) n zs) := HS.out.later hB0
  have HB0 := Lib.hid hB0
  have hgw1 : g < w1.heap.size := Nat.lt_of_lt_of_le hBg2 hB0.size
  have hww1 : w.heap.size ≠ g := by omega
  clear hown hgrow hown0 hi hz0 hz1 hz2 hib hml hB0
  go_loopw [4] (fun z wr => ∃ (k : Nat) (zs : List Nat), 1 ≤ k ∧ k ≤ n ∧ z = .int .i64 (k : Int) ∧ Hid (RW B wr (.slice (some ⟨g, 0, none⟩) n c) n zs) ∧ Hid (elQ b a x s n k zs) ∧ Hid (w1.grownBy wr (some g))) (fun z _ => n - (intOf z).toNat)
  case atStart => exact ⟨1, zs, by omega, by omega, rfl, HS1.out, HZ.out, World.grownBy.refl _ _⟩
  case round =>
    clear HZ HS1 HS zs
    obtain ⟨k, zs, hk1, hkn, rfl, HS, HQ, HG⟩ := hrel
    by_cases hlt : k < n
    · have hlti : (k : Int) < (n : Int) := by omega
      have hgz : g < wr.heap.size := Nat.lt_of_lt_of_le hgw1 HG.out.size
      have hT : Trk wr [g] := (Trk.nil wr).more hgz
      have hki : k - 1 < n := by omega
      have hkii : ((k - 1 : Nat) : Int) < (n : Int) := by omega
      have hkw : IntKind.i64.wrap ((k : Int) - 1) = ((k - 1 : Nat) : Int) := by rw [IntWalk.i64_in _ (by omega)]; omega
      have hkw2 : IntKind.i64.wrap ((k : Int) + 1) = (k : Int) + 1 := IntWalk.i64_in _ (by omega)
      have c0 := (HS.out.cell (j := k * 4) (by omega)).1
      have c1 := (HS.out.cell (j := k * 4 + 1) (by omega)).1
      have c3 := (HS.out.cell (j := k * 4 + 3) (by omega)).1
      have f1 := (HS.out.cell (j := k * 4 + 1) (by omega)).2
      have f3 := (HS.out.cell (j := k * 4 + 3) (by omega)).2
      have d1 := (HS.out.cell (j := (k - 1) * 4 + 1) (by omega)).1
      have d2 := (HS.out.cell (j := (k - 1) * 4 + 2) (by omega)).1
      have d3 := (HS.out.cell (j := (k - 1) * 4 + 3) (by omega)).1
      have q0 := (HQ.out k hlt).1
      have q1 := (HQ.out k hlt).2.1
      have q3 := (HQ.out k hlt).2.2.2
      have p1 := (HQ.out (k - 1) hki).2.1
      have p2 := (HQ.out (k - 1) hki).2.2.1
      have p3 := (HQ.out (k - 1) hki).2.2.2
      rw [if_neg (by omega)] at q1 q3
      rw [if_pos (by omega)] at p1 p3
      generalize zs.getD (k * 4) 0 = v0 at c0 q0
      generalize zs.getD (k * 4 + 1) 0 = v1 at c1 q1
      generalize zs.getD (k * 4 + 3) 0 = v3 at c3 q3
      generalize zs.getD ((k - 1) * 4 + 1) 0 = u1 at d1 p1
      generalize zs.getD ((k - 1) * 4 + 2) 0 = u2 at d2 p2
      generalize zs.getD ((k - 1) * 4 + 3) 0 = u3 at d3 p3
      go_wp2_with (first | (with_reducible refine at_list ?_; refine wpList_fop rfl rfl rfl rfl rfl ?_; intro r n hr0; have hr := hr0 _ _ (by first | with_reducible assumption | exact rfl) (by first | with_reducible assumption | exact rfl); clear hr0) | (with_reducible refine at_list ?_; refine wpList_neg rfl rfl rfl ?_; intro r hr0; have hr := hr0 _ (by first | with_reducible assumption | exact rfl); clear hr0) | (with_reducible refine at_list ?_; refine wpList_fop_g rfl rfl rfl rfl rfl ?_; intro r n hr0; have hr := hr0 _ _ (by first | with_reducible assumption | exact rfl) (by first | with_reducible assumption | exact rfl); clear hr0) | (with_reducible refine at_list ?_; refine wpList_wide_g rfl rfl Try.underlying28 Try.underlying39 rfl ?_; intro r n hr0; have hr := hr0 _ (by first | with_reducible assumption | exact rfl); clear hr0) | (with_reducible refine at_list ?_; refine wpList_wide rfl rfl rfl Try.underlying28 Try.underlying39 ?_; intro r n hr0; have hr := hr0 _ (by first | with_reducible assumption | exact rfl); clear hr0))
      (refine wp_some_lit (by kernel_rfl) (by kernel_rfl) ?_; (refine wpSome_one ?_; go_big_quiet_step (fail); refine wpQuiet_nil ?_); (refine wpSome_one ?_; go_big_quiet_step (fail); refine wpQuiet_nil ?_); (refine wpSome_one ?_; go_big_quiet_step (fail); refine wpQuiet_nil ?_); (refine wpSome_one ?_; go_big_quiet_step (fail); refine wpQuiet_nil ?_); (refine wpSome_one ?_; go_big_quiet_step (fail); refine wpQuiet_nil ?_); (refine wpSome_one ?_; go_big_quiet_step (fail); refine wpQuiet_nil ?_); (refine wpSome_one ?_; go_big_quiet_step (fail); refine wpQuiet_nil ?_); (refine wpSome_one ?_; go_big_quiet_step (fail); refine wpQuiet_nil ?_); (refine wpSome_one ?_; go_big_quiet_step (fail); refine wpQuiet_nil ?_); (refine wpSome_one ?_; go_big_quiet_step (fail); refine wpQuiet_nil ?_); (refine wpSome_one ?_; go_big_quiet_step (fail); refine wpQuiet_nil ?_); ((with_reducible refine at_some ?_; refine wpSome_fop rfl rfl rfl rfl rfl ?_; intro r hr0; have hr := hr0 _ _ (by first | with_reducible assumption | exact rfl) (by first | with_reducible assumption | exact rfl); clear hr0); simp only [Act.put, List.setIfInBounds_toArray, List.set_cons_zero, List.set_cons_succ]); (refine wpSome_one ?_; go_big_quiet_step (fail); refine wpQuiet_nil ?_); refine wpSome_nil ?_; intro w' hw'; obtain ⟨nq, rfl⟩ := hw')
      go_wp2_with (first | (with_reducible refine at_list ?_; refine wpList_fop rfl rfl rfl rfl rfl ?_; intro r n hr0; have hr := hr0 _ _ (by first | with_reducible assumption | exact rfl) (by first | with_reducible assumption | exact rfl); clear hr0) | (with_reducible refine at_list ?_; refine wpList_neg rfl rfl rfl ?_; intro r hr0; have hr := hr0 _ (by first | with_reducible assumption | exact rfl); clear hr0) | (with_reducible refine at_list ?_; refine wpList_fop_g rfl rfl rfl rfl rfl ?_; intro r n hr0; have hr := hr0 _ _ (by first | with_reducible assumption | exact rfl) (by first | with_reducible assumption | exact rfl); clear hr0) | (with_reducible refine at_list ?_; refine wpList_wide_g rfl rfl Try.underlying28 Try.underlying39 rfl ?_; intro r n hr0; have hr := hr0 _ (by first | with_reducible assumption | exact rfl); clear hr0) | (with_reducible refine at_list ?_; refine wpList_wide rfl rfl rfl Try.underlying28 Try.underlying39 ?_; intro r n hr0; have hr := hr0 _ (by first | with_reducible assumption | exact rfl); clear hr0))
      (apply wp_region_plan; ((apply wpC_det; (case hw => exact rfl); (case hs => (intro cs b h; cases h)); (case h1 => (intro w'; go_simp <;> exact rfl))); apply wpC_norm; (case ha => (simp only [Act.put, List.setIfInBounds_toArray, List.set_cons_zero, List.set_cons_succ]; exact rfl))); ((apply wpC_det; (case hw => exact rfl); (case hs => (intro cs b h; cases h)); (case h1 => (intro w'; go_simp <;> exact rfl))); apply wpC_norm; (case ha => (simp only [Act.put, List.setIfInBounds_toArray, List.set_cons_zero, List.set_cons_succ]; exact rfl))); ((apply wpC_det; (case hw => exact rfl); (case hs => (intro cs b h; cases h)); (case h1 => (intro w'; go_simp <;> exact rfl))); apply wpC_norm; (case ha => (simp only [Act.put, List.setIfInBounds_toArray, List.set_cons_zero, List.set_cons_succ]; exact rfl))); ((apply wpC_det; (case hw => exact rfl); (case hs => (intro cs b h; cases h)); (case h1 => (intro w'; go_simp <;> exact rfl))); apply wpC_norm; (case ha => (simp only [Act.put, List.setIfInBounds_toArray, List.set_cons_zero, List.set_cons_succ]; exact rfl))); ((apply wpC_val; (case hw => exact rfl); (case h1 => (intro w' hb hk0; obtain ⟨hT, hk⟩ := bv_next hb (by (repeat (with_reducible first | assumption | apply Trk.alloc | apply Trk.setCell | apply Trk.drewN | apply Trk.drew | exact Trk.nil _))); simp only [SameOn, World.size_alloc, World.size_setCell, World.size_drew, size_drewN', and_true] at hk; have hsz := Below.size hb; (try simp only [World.size_alloc, World.size_setCell, World.size_drew, size_drewN'] at hsz); go_simp <;> exact rfl))); apply wpC_norm; (case ha => (simp only [Act.put, List.setIfInBounds_toArray, List.set_cons_zero, List.set_cons_succ]; exact rfl))); ((apply wpC_det; (case hw => exact rfl); (case hs => (intro cs b h; cases h)); (case h1 => (intro w'; go_simp <;> exact rfl))); apply wpC_norm; (case ha => (simp only [Act.put, List.setIfInBounds_toArray, List.set_cons_zero, List.set_cons_succ]; exact rfl))); ((apply wpC_det; (case hw => exact rfl); (case hs => (intro cs b h; cases h)); (case h1 => (intro w'; go_simp <;> exact rfl))); apply wpC_norm; (case ha => (simp only [Act.put, List.setIfInBounds_toArray, List.set_cons_zero, List.set_cons_succ]; exact rfl))); ((apply wpC_det; (case hw => exact rfl); (case hs => (intro cs b h; cases h)); (case h1 => (intro w'; go_simp <;> exact rfl))); apply wpC_norm; (case ha => (simp only [Act.put, List.setIfInBounds_toArray, List.set_cons_zero, List.set_cons_succ]; exact rfl))); ((apply wpC_det; (case hw => exact rfl); (case hs => (intro cs b h; cases h)); (case h1 => (intro w'; go_simp <;> exact rfl))); apply wpC_norm; (case ha => (simp only [Act.put, List.setIfInBounds_toArray, List.set_cons_zero, List.set_cons_succ]; exact rfl))); ((apply wpC_det; (case hw => exact rfl); (case hs => (intro cs b h; cases h)); (case h1 => (intro w'; go_simp <;> exact rfl))); apply wpC_norm; (case ha => (simp only [Act.put, List.setIfInBounds_toArray, List.set_cons_zero, List.set_cons_succ]; exact rfl))); ((apply wpC_det; (case hw => exact rfl); (case hs => (intro cs b h; cases h)); (case h1 => (intro w'; go_simp <;> exact rfl))); apply wpC_norm; (case ha => (simp only [Act.put, List.setIfInBounds_toArray, List.set_cons_zero, List.set_cons_succ]; exact rfl))); ((apply wpC_val; (case hw => exact rfl); (case h1 => (intro w' hb hk0; obtain ⟨hT, hk⟩ := bv_next hb (by (repeat (with_reducible first | assumption | apply Trk.alloc | apply Trk.setCell | apply Trk.drewN | apply Trk.drew | exact Trk.nil _))); simp only [SameOn, World.size_alloc, World.size_setCell, World.size_drew, size_drewN', and_true] at hk; have hsz := Below.size hb; (try simp only [World.size_alloc, World.size_setCell, World.size_drew, size_drewN'] at hsz); go_simp <;> exact rfl))); apply wpC_norm; (case ha => (simp only [Act.put, List.setIfInBounds_toArray, List.set_cons_zero, List.set_cons_succ]; exact rfl))); ((apply wpC_fop rfl rfl rfl rfl rfl; intro r hr0; have hr := hr0 _ _ (by first | with_reducible assumption | exact rfl) (by first | with_reducible assumption | exact rfl); clear hr0); apply wpC_norm; (case ha => (simp only [Act.put, List.setIfInBounds_toArray, List.set_cons_zero, List.set_cons_succ]; exact rfl))); ((apply wpC_fop rfl rfl rfl rfl rfl; intro r hr0; have hr := hr0 _ _ (by first | with_reducible assumption | exact rfl) (by first | with_reducible assumption | exact rfl); clear hr0); apply wpC_norm; (case ha => (simp only [Act.put, List.setIfInBounds_toArray, List.set_cons_zero, List.set_cons_succ]; exact rfl))); ((apply wpC_det; (case hw => exact rfl); (case hs => (intro cs b h; cases h)); (case h1 => (intro w'; go_simp <;> exact rfl))); apply wpC_norm; (case ha => (simp only [Act.put, List.setIfInBounds_toArray, List.set_cons_zero, List.set_cons_succ]; exact rfl))); ((apply wpC_det; (case hw => exact rfl); (case hs => (intro cs b h; cases h)); (case h1 => (intro w'; go_simp <;> exact rfl))); apply wpC_norm; (case ha => (simp only [Act.put, List.setIfInBounds_toArray, List.set_cons_zero, List.set_cons_succ]; exact rfl))); refine wpC_tail (by kernel_rfl) (by first | rfl | kernel_rfl) ?_; intro w' hb hkk; obtain ⟨hT, hk⟩ := bv_next hb (by (repeat (with_reducible first | assumption | apply Trk.alloc | apply Trk.setCell | apply Trk.drewN | apply Trk.drew | exact Trk.nil _))); simp only [SameOn, World.size_alloc, World.size_setCell, World.size_drew, size_drewN', and_true] at hk; have hsz := Below.size hb; (try simp only [World.size_alloc, World.size_setCell, World.size_drew, size_drewN'] at hsz))
      rotate_left
      all_goals (try (first | kernel_rfl | rfl))
      rename World => w2
      have hb2 : Below wr.heap.size wr w2 := by (repeat (first | (with_reducible exact Below.refl _ _) | (with_reducible assumption) | (with_reducible refine below_then ?_ (by assumption)) | (with_reducible refine Below.trans ?_ (by assumption)) | (with_reducible refine below_drewN ?_ _) | (with_reducible apply Below.drew) | (with_reducible refine below_alloc ?_ _) | refine Below.setCell ?_ (by first | (simp; done) | (simp; omega)) _))
      have S2 := Lib.hid (RW.stored (HS.out.later hb2) (k * 4 + 1) r)
      have G2 := Lib.hid (World.grownBy.trans (HG.out.trans (below_grown hb2 (some g))) S2.out.2)
      have HR1 : Hid (cn .f32 r = elA b a x k) := by
        show _ = _
        obtain ⟨i, rfl⟩ : ∃ i, k = i + 1 := ⟨k - 1, by omega⟩
        exact hr
      go_wp2_with (first | (with_reducible refine at_list ?_; refine wpList_fop rfl rfl rfl rfl rfl ?_; intro r n hr0; have hr := hr0 _ _ (by first | with_reducible assumption | exact rfl) (by first | with_reducible assumption | exact rfl); clear hr0) | (with_reducible refine at_list ?_; refine wpList_neg rfl rfl rfl ?_; intro r hr0; have hr := hr0 _ (by first | with_reducible assumption | exact rfl); clear hr0) | (with_reducible refine at_list ?_; refine wpList_fop_g rfl rfl rfl rfl rfl ?_; intro r n hr0; have hr := hr0 _ _ (by first | with_reducible assumption | exact rfl) (by first | with_reducible assumption | exact rfl); clear hr0) | (with_reducible refine at_list ?_; refine wpList_wide_g rfl rfl Try.underlying28 Try.underlying39 rfl ?_; intro r n hr0; have hr := hr0 _ (by first | with_reducible assumption | exact rfl); clear hr0) | (with_reducible refine at_list ?_; refine wpList_wide rfl rfl rfl Try.underlying28 Try.underlying39 ?_; intro r n hr0; have hr := hr0 _ (by first | with_reducible assumption | exact rfl); clear hr0))
      (apply wp_region_plan; ((apply wpC_det; (case hw => exact rfl); (case hs => (intro cs b h; cases h)); (case h1 => (intro w'; go_simp <;> exact rfl))); apply wpC_norm; (case ha => (simp only [Act.put, List.setIfInBounds_toArray, List.set_cons_zero, List.set_cons_succ]; exact rfl))); ((apply wpC_det; (case hw => exact rfl); (case hs => (intro cs b h; cases h)); (case h1 => (intro w'; go_simp <;> exact rfl))); apply wpC_norm; (case ha => (simp only [Act.put, List.setIfInBounds_toArray, List.set_cons_zero, List.set_cons_succ]; exact rfl))); ((apply wpC_det; (case hw => exact rfl); (case hs => (intro cs b h; cases h)); (case h1 => (intro w'; go_simp <;> exact rfl))); apply wpC_norm; (case ha => (simp only [Act.put, List.setIfInBounds_toArray, List.set_cons_zero, List.set_cons_succ]; exact rfl))); ((apply wpC_det; (case hw => exact rfl); (case hs => (intro cs b h; cases h)); (case h1 => (intro w'; go_simp <;> exact rfl))); apply wpC_norm; (case ha => (simp only [Act.put, List.setIfInBounds_toArray, List.set_cons_zero, List.set_cons_succ]; exact rfl))); ((apply wpC_val; (case hw => exact rfl); (case h1 => (intro w' hb hk0; obtain ⟨hT, hk⟩ := bv_next hb (by (repeat (with_reducible first | assumption | apply Trk.alloc | apply Trk.setCell | apply Trk.drewN | apply Trk.drew | exact Trk.nil _))); simp only [SameOn, World.size_alloc, World.size_setCell, World.size_drew, size_drewN', and_true] at hk; have hsz := Below.size hb; (try simp only [World.size_alloc, World.size_setCell, World.size_drew, size_drewN'] at hsz); go_simp <;> exact rfl))); apply wpC_norm; (case ha => (simp only [Act.put, List.setIfInBounds_toArray, List.set_cons_zero, List.set_cons_succ]; exact rfl))); ((apply wpC_det; (case hw => exact rfl); (case hs => (intro cs b h; cases h)); (case h1 => (intro w'; go_simp <;> exact rfl))); apply wpC_norm; (case ha => (simp only [Act.put, List.setIfInBounds_toArray, List.set_cons_zero, List.set_cons_succ]; exact rfl))); ((apply wpC_det; (case hw => exact rfl); (case hs => (intro cs b h; cases h)); (case h1 => (intro w'; go_simp <;> exact rfl))); apply wpC_norm; (case ha => (simp only [Act.put, List.setIfInBounds_toArray, List.set_cons_zero, List.set_cons_succ]; exact rfl))); ((apply wpC_det; (case hw => exact rfl); (case hs => (intro cs b h; cases h)); (case h1 => (intro w'; go_simp <;> exact rfl))); apply wpC_norm; (case ha => (simp only [Act.put, List.setIfInBounds_toArray, List.set_cons_zero, List.set_cons_succ]; exact rfl))); ((apply wpC_det; (case hw => exact rfl); (case hs => (intro cs b h; cases h)); (case h1 => (intro w'; go_simp <;> exact rfl))); apply wpC_norm; (case ha => (simp only [Act.put, List.setIfInBounds_toArray, List.set_cons_zero, List.set_cons_succ]; exact rfl))); ((apply wpC_det; (case hw => exact rfl); (case hs => (intro cs b h; cases h)); (case h1 => (intro w'; go_simp <;> exact rfl))); apply wpC_norm; (case ha => (simp only [Act.put, List.setIfInBounds_toArray, List.set_cons_zero, List.set_cons_succ]; exact rfl))); ((apply wpC_det; (case hw => exact rfl); (case hs => (intro cs b h; cases h)); (case h1 => (intro w'; go_simp <;> exact rfl))); apply wpC_norm; (case ha => (simp only [Act.put, List.setIfInBounds_toArray, List.set_cons_zero, List.set_cons_succ]; exact rfl))); ((apply wpC_val; (case hw => exact rfl); (case h1 => (intro w' hb hk0; obtain ⟨hT, hk⟩ := bv_next hb (by (repeat (with_reducible first | assumption | apply Trk.alloc | apply Trk.setCell | apply Trk.drewN | apply Trk.drew | exact Trk.nil _))); simp only [SameOn, World.size_alloc, World.size_setCell, World.size_drew, size_drewN', and_true] at hk; have hsz := Below.size hb; (try simp only [World.size_alloc, World.size_setCell, World.size_drew, size_drewN'] at hsz); go_simp <;> exact rfl))); apply wpC_norm; (case ha => (simp only [Act.put, List.setIfInBounds_toArray, List.set_cons_zero, List.set_cons_succ]; exact rfl))); ((apply wpC_fop rfl rfl rfl rfl rfl; intro r hr0; have hr := hr0 _ _ (by first | with_reducible assumption | exact rfl) (by first | with_reducible assumption | exact rfl); clear hr0); apply wpC_norm; (case ha => (simp only [Act.put, List.setIfInBounds_toArray, List.set_cons_zero, List.set_cons_succ]; exact rfl))); ((apply wpC_fop rfl rfl rfl rfl rfl; intro r hr0; have hr := hr0 _ _ (by first | with_reducible assumption | exact rfl) (by first | with_reducible assumption | exact rfl); clear hr0); apply wpC_norm; (case ha => (simp only [Act.put, List.setIfInBounds_toArray, List.set_cons_zero, List.set_cons_succ]; exact rfl))); ((apply wpC_det; (case hw => exact rfl); (case hs => (intro cs b h; cases h)); (case h1 => (intro w'; go_simp <;> exact rfl))); apply wpC_norm; (case ha => (simp only [Act.put, List.setIfInBounds_toArray, List.set_cons_zero, List.set_cons_succ]; exact rfl))); ((apply wpC_det; (case hw => exact rfl); (case hs => (intro cs b h; cases h)); (case h1 => (intro w'; go_simp <;> exact rfl))); apply wpC_norm; (case ha => (simp only [Act.put, List.setIfInBounds_toArray, List.set_cons_zero, List.set_cons_succ]; exact rfl))); refine wpC_tail (by kernel_rfl) (by first | rfl | kernel_rfl) ?_; intro w' hb hkk; obtain ⟨hT, hk⟩ := bv_next hb (by (repeat (with_reducible first | assumption | apply Trk.alloc | apply Trk.setCell | apply Trk.drewN | apply Trk.drew | exact Trk.nil _))); simp only [SameOn, World.size_alloc, World.size_setCell, World.size_drew, size_drewN', and_true] at hk; have hsz := Below.size hb; (try simp only [World.size_alloc, World.size_setCell, World.size_drew, size_drewN'] at hsz))
      rotate_left
      all_goals (try (first | kernel_rfl | rfl))
      rename World => w3
      have S3 := Lib.hid (RW.stored (S2.out.1.later hb) (k * 4 + 3) r)
      have G3 := Lib.hid (World.grownBy.trans (G2.out.trans (below_grown hb (some g))) S3.out.2)
      have HR3 : Hid (cn .f32 r = elS b a x s k) := by
        show _ = _
        obtain ⟨i, rfl⟩ : ∃ i, k = i + 1 := ⟨k - 1, by omega⟩
        exact hr
      have HQ2 := Lib.hid (elQ_step' HQ.out hk1 hlt HS.out.len HR1.out HR3.out)
      go_wp2_with (first | (with_reducible refine at_list ?_; refine wpList_fop rfl rfl rfl rfl rfl ?_; intro r n hr0; have hr := hr0 _ _ (by first | with_reducible assumption | exact rfl) (by first | with_reducible assumption | exact rfl); clear hr0) | (with_reducible refine at_list ?_; refine wpList_neg rfl rfl rfl ?_; intro r hr0; have hr := hr0 _ (by first | with_reducible assumption | exact rfl); clear hr0) | (with_reducible refine at_list ?_; refine wpList_fop_g rfl rfl rfl rfl rfl ?_; intro r n hr0; have hr := hr0 _ _ (by first | with_reducible assumption | exact rfl) (by first | with_reducible assumption | exact rfl); clear hr0) | (with_reducible refine at_list ?_; refine wpList_wide_g rfl rfl Try.underlying28 Try.underlying39 rfl ?_; intro r n hr0; have hr := hr0 _ (by first | with_reducible assumption | exact rfl); clear hr0) | (with_reducible refine at_list ?_; refine wpList_wide rfl rfl rfl Try.underlying28 Try.underlying39 ?_; intro r n hr0; have hr := hr0 _ (by first | with_reducible assumption | exact rfl); clear hr0))
      exact ⟨⟨k + 1, _, by omega, by omega, by go_num, S3.out.1, HQ2.out, G3.out⟩, by first | (simp [intOf]; done) | (simp [intOf]; omega)⟩
    · have hlti : ¬ (k : Int) < (n : Int) := by omega
      obtain rfl : k = n := by omega
      have hn1w : IntKind.i64.wrap ((k : Int) - 1) = ((k - 1 : Nat) : Int) := by rw [IntWalk.i64_in _ (by omega)]; omega
      have HT1 : Hid (Turn B w.heap.size w wr) := (Turn.below HB0.out).trans (Turn.of (u := .slice (some ⟨g, 0, none⟩) 0 0) HG.out (fun j hj => by cases hj; exact ⟨hBg1, hBg2⟩))
      have HO1 : Hid (OF w.heap.size wr (.slice (some ⟨w.heap.size, 0, none⟩) k k) (List.replicate k 0)) := HO0.out.kept HG.out (.inr (by simp [Value.ownBlock]; omega))
      have hgz : g < wr.heap.size := Nat.lt_of_lt_of_le hgw1 HG.out.size
      rename World => wo
      go_wp2_with (first | (with_reducible refine at_list ?_; refine wpList_fop rfl rfl rfl rfl rfl ?_; intro r n hr0; have hr := hr0 _ _ (by first | with_reducible assumption | exact rfl) (by first | with_reducible assumption | exact rfl); clear hr0) | (with_reducible refine at_list ?_; refine wpList_neg rfl rfl rfl ?_; intro r hr0; have hr := hr0 _ (by first | with_reducible assumption | exact rfl); clear hr0) | (with_reducible refine at_list ?_; refine wpList_fop_g rfl rfl rfl rfl rfl ?_; intro r n hr0; have hr := hr0 _ _ (by first | with_reducible assumption | exact rfl) (by first | with_reducible assumption | exact rfl); clear hr0) | (with_reducible refine at_list ?_; refine wpList_wide_g rfl rfl Try.underlying28 Try.underlying39 rfl ?_; intro r n hr0; have hr := hr0 _ (by first | with_reducible assumption | exact rfl); clear hr0) | (with_reducible refine at_list ?_; refine wpList_wide rfl rfl rfl Try.underlying28 Try.underlying39 ?_; intro r n hr0; have hr := hr0 _ (by first | with_reducible assumption | exact rfl); clear hr0))
      have hww : w.heap.size < wo.heap.size := Nat.lt_of_lt_of_le (OF.block HO0.out _ rfl).2 HG.out.size
      clear HG HO0 HB0 hlt hlti hkn hk1
      go_loopw [6] (fun z wr => ∃ (m : Nat) (ys : List Nat), m ≤ k ∧ ((m = 0 ∧ z = .int .i64 (-1)) ∨ ∃ j : Nat, m = j + 1 ∧ z = .int .i64 (j : Int)) ∧ ys.length = k ∧ Hid (OF w.heap.size wr (.slice (some ⟨w.heap.size, 0, none⟩) k k) ys) ∧ Hid (∀ j, m ≤ j → j < k → cn .f32 (ys.getD j 0) = solO b a x s k j) ∧ Hid (wo.grownBy wr (some w.heap.size))) (fun z _ => (intOf z + 1).toNat)
      case atStart => exact ⟨k, List.replicate k 0, by omega, .inr ⟨k - 1, by omega, rfl⟩, by simp, HO1.out, fun j h1 h2 => by omega, World.grownBy.refl _ _⟩
      case round =>
        obtain ⟨m, ys, hmk, hz, hyl, HO, HD, HG⟩ := hrel
        have HYL := Lib.hid hyl
        have hgr : g < wr.heap.size := Nat.lt_of_lt_of_le hgz HG.out.size
        have hwr : w.heap.size < wr.heap.size := Nat.lt_of_lt_of_le hww HG.out.size
        have HSr : Hid (RW B wr (.slice (some ⟨g, 0, none⟩) k c) k zs) := World.ownsRow.kept HS.out HG.out (.inr (by simp [Value.ownBlock]; omega))
        clear hyl
        rcases hz with ⟨rfl, rfl⟩ | ⟨j, rfl, rfl⟩
        · have HT : Hid (Turn B w.heap.size w wr) := turn_new HT1.out HG.out
          have HL : Hid (ys.map (cn .f32) = solL b a x s k) := solL_of HYL.out (fun j hj => HD.out j (by omega) hj)
          have HO2 : Hid (OF w.heap.size wr (.slice (some ⟨w.heap.size, 0, none⟩) k k) ys) := HO.out
          go_wp2_with (first | (with_reducible refine at_list ?_; refine wpList_fop rfl rfl rfl rfl rfl ?_; intro r n hr0; have hr := hr0 _ _ (by first | with_reducible assumption | exact rfl) (by first | with_reducible assumption | exact rfl); clear hr0) | (with_reducible refine at_list ?_; refine wpList_neg rfl rfl rfl ?_; intro r hr0; have hr := hr0 _ (by first | with_reducible assumption | exact rfl); clear hr0) | (with_reducible refine at_list ?_; refine wpList_fop_g rfl rfl rfl rfl rfl ?_; intro r n hr0; have hr := hr0 _ _ (by first | with_reducible assumption | exact rfl) (by first | with_reducible assumption | exact rfl); clear hr0) | (with_reducible refine at_list ?_; refine wpList_wide_g rfl rfl Try.underlying28 Try.underlying39 rfl ?_; intro r n hr0; have hr := hr0 _ (by first | with_reducible assumption | exact rfl); clear hr0) | (with_reducible refine at_list ?_; refine wpList_wide rfl rfl rfl Try.underlying28 Try.underlying39 ?_; intro r n hr0; have hr := hr0 _ (by first | with_reducible assumption | exact rfl); clear hr0))
          go_ret
          exact ⟨_, ys, rfl, HT.out, HO2.out, HL.out⟩
        · have hj : j < k := by omega
          have hji : (j : Int) < (k : Int) := by omega
          have hj0 : (0 : Int) ≤ (j : Int) := by omega
          have hjw : IntKind.i64.wrap ((j : Int) - 1) = (j : Int) - 1 := IntWalk.i64_in _ (by omega)
          have c1 := (HSr.out.cell (j := j * 4 + 1) (by omega)).1
          have c2 := (HSr.out.cell (j := j * 4 + 2) (by omega)).1
          have c3 := (HSr.out.cell (j := j * 4 + 3) (by omega)).1
          have q1 := (HQ.out j hj).2.1
          have q2 := (HQ.out j hj).2.2.1
          have q3 := (HQ.out j hj).2.2.2
          rw [if_pos hj] at q1 q3
          generalize zs.getD (j * 4 + 1) 0 = v1 at c1 q1
          generalize zs.getD (j * 4 + 2) 0 = v2 at c2 q2
          generalize zs.getD (j * 4 + 3) 0 = v3 at c3 q3
          obtain ⟨old, hcell0, hfr⟩ : ∃ old, wr.cell? ⟨w.heap.size, j, none⟩ = some old ∧ wr.frozen? ⟨w.heap.size, j, none⟩ = false := by
            rcases OF.view HO.out with ⟨h, _⟩ | ⟨g', c', h1, _, _, _, _, h2⟩
            · cases h
            · simp only [Value.slice.injEq, Option.some.injEq, Addr.mk.injEq, and_true] at h1
              obtain ⟨rfl, _⟩ := h1
              have := h2 j (by rw [HYL.out]; exact hj)
              exact ⟨_, this.1, this.2⟩
          have hT : Trk wr [g, w.heap.size] := ((Trk.nil wr).more hwr).more hgr
          have key : ∀ rr nn, cn .f32 rr = solO b a x s k j → (∃ (m : Nat) (ys : List Nat), m ≤ k ∧ ((m = 0 ∧ Value.int .i64 ((j : Int) - 1) = .int .i64 (-1)) ∨ ∃ j' : Nat, m = j' + 1 ∧ Value.int .i64 ((j : Int) - 1) = .int .i64 (j' : Int)) ∧ ys.length = k ∧ Hid (OF w.heap.size ((wr.setCell ⟨w.heap.size, j, none⟩ (.float .f32 rr)).drewN nn) (.slice (some ⟨w.heap.size, 0, none⟩) k k) ys) ∧ Hid (∀ j, m ≤ j → j < k → cn .f32 (ys.getD j 0) = solO b a x s k j) ∧ Hid (wo.grownBy ((wr.setCell ⟨w.heap.size, j, none⟩ (.float .f32 rr)).drewN nn) (some w.heap.size))) := by
            intro rr nn hrr
            have h4 := HO.out
            unfold OF at h4
            rw [HYL.out] at h4
            obtain ⟨h2, h3⟩ := World.ownsRow.stored h4 j (.float .f32 rr)
            refine ⟨j, ys.set j rr, by omega, ?_, by rw [List.length_set]; exact HYL.out, ?_, ?_, ?_⟩
            · rcases Nat.eq_zero_or_pos j with h | h
              · exact .inl ⟨h, by rw [h]; rfl⟩
              · exact .inr ⟨j - 1, by omega, by congr 1; omega⟩
            · show OF _ _ _ _
              refine OF.drewN ?_ _
              unfold OF
              rw [List.length_set, HYL.out, List.map_set]
              exact h2
            · show ∀ _, _
              intro i h1 h2'
              by_cases hi : i = j
              · subst hi; rw [getL_set_eq (by rw [HYL.out]; exact hj)]; exact hrr
              · rw [getL_set_ne hi]; exact HD.out i (by omega) h2'
            · exact World.grownBy.trans (HG.out.trans h3) (below_grown (below_drewN (Below.refl _ _) nn) _)
          have KEY := Lib.hid key
          clear key
          by_cases hl : j + 1 < k
          · have hli : (j : Int) < ((k - 1 : Nat) : Int) := by omega
            have hjp : IntKind.i64.wrap ((j : Int) + 1) = ((j + 1 : Nat) : Int) := by rw [IntWalk.i64_in _ (by omega)]; omega
            have hjpi : ((j + 1 : Nat) : Int) < (k : Int) := by omega
            have hn0 : wr.cell? ⟨w.heap.size, j + 1, none⟩ = some (.float .f32 (ys.getD (j + 1) 0)) := by
              rcases OF.view HO.out with ⟨h, _⟩ | ⟨g', c', h1, _, _, _, _, h2⟩
              · cases h
              · simp only [Value.slice.injEq, Option.some.injEq, Addr.mk.injEq, and_true] at h1
                obtain ⟨rfl, _⟩ := h1
                exact (h2 (j + 1) (by rw [HYL.out]; exact hl)).1
            have hn1' := HD.out (j + 1) (by omega) hl
            generalize ys.getD (j + 1) 0 = vn at hn0 hn1'
            go_wp2_with (first | (with_reducible refine at_list ?_; refine wpList_fop rfl rfl rfl rfl rfl ?_; intro r n hr0; have hr := hr0 _ _ (by first | with_reducible assumption | exact rfl) (by first | with_reducible assumption | exact rfl); clear hr0) | (with_reducible refine at_list ?_; refine wpList_neg rfl rfl rfl ?_; intro r hr0; have hr := hr0 _ (by first | with_reducible assumption | exact rfl); clear hr0) | (with_reducible refine at_list ?_; refine wpList_fop_g rfl rfl rfl rfl rfl ?_; intro r n hr0; have hr := hr0 _ _ (by first | with_reducible assumption | exact rfl) (by first | with_reducible assumption | exact rfl); clear hr0) | (with_reducible refine at_list ?_; refine wpList_wide_g rfl rfl Try.underlying28 Try.underlying39 rfl ?_; intro r n hr0; have hr := hr0 _ (by first | with_reducible assumption | exact rfl); clear hr0) | (with_reducible refine at_list ?_; refine wpList_wide rfl rfl rfl Try.underlying28 Try.underlying39 ?_; intro r n hr0; have hr := hr0 _ (by first | with_reducible assumption | exact rfl); clear hr0))
            (refine wp_some_lit (by kernel_rfl) (by kernel_rfl) ?_; (refine wpSome_one ?_; go_big_quiet_step (fail); refine wpQuiet_nil ?_); (refine wpSome_one ?_; go_big_quiet_step (fail); refine wpQuiet_nil ?_); (refine wpSome_one ?_; go_big_quiet_step (fail); refine wpQuiet_nil ?_); (refine wpSome_one ?_; go_big_quiet_step (fail); refine wpQuiet_nil ?_); (refine wpSome_one ?_; go_big_quiet_step (fail); refine wpQuiet_nil ?_); (refine wpSome_one ?_; go_big_quiet_step (fail); refine wpQuiet_nil ?_); (refine wpSome_one ?_; go_big_quiet_step (fail); refine wpQuiet_nil ?_); (refine wpSome_one ?_; go_big_quiet_step (fail); refine wpQuiet_nil ?_); (refine wpSome_one ?_; go_big_quiet_step (fail); refine wpQuiet_nil ?_); (refine wpSome_one ?_; go_big_quiet_step (fail); refine wpQuiet_nil ?_); (refine wpSome_one ?_; go_big_quiet_step (fail); refine wpQuiet_nil ?_); ((with_reducible refine at_some ?_; refine wpSome_fop rfl rfl rfl rfl rfl ?_; intro r hr0; have hr := hr0 _ _ (by first | with_reducible assumption | exact rfl) (by first | with_reducible assumption | exact rfl); clear hr0); simp only [Act.put, List.setIfInBounds_toArray, List.set_cons_zero, List.set_cons_succ]); ((with_reducible refine at_some ?_; refine wpSome_fop rfl rfl rfl rfl rfl ?_; intro r hr0; have hr := hr0 _ _ (by first | with_reducible assumption | exact rfl) (by first | with_reducible assumption | exact rfl); clear hr0); simp only [Act.put, List.setIfInBounds_toArray, List.set_cons_zero, List.set_cons_succ]); (refine wpSome_one ?_; go_big_quiet_step (fail); refine wpQuiet_nil ?_); refine wpSome_nil ?_; intro w' hw'; obtain ⟨nq, rfl⟩ := hw')
            go_wp2_with (first | (with_reducible refine at_list ?_; refine wpList_fop rfl rfl rfl rfl rfl ?_; intro r n hr0; have hr := hr0 _ _ (by first | with_reducible assumption | exact rfl) (by first | with_reducible assumption | exact rfl); clear hr0) | (with_reducible refine at_list ?_; refine wpList_neg rfl rfl rfl ?_; intro r hr0; have hr := hr0 _ (by first | with_reducible assumption | exact rfl); clear hr0) | (with_reducible refine at_list ?_; refine wpList_fop_g rfl rfl rfl rfl rfl ?_; intro r n hr0; have hr := hr0 _ _ (by first | with_reducible assumption | exact rfl) (by first | with_reducible assumption | exact rfl); clear hr0) | (with_reducible refine at_list ?_; refine wpList_wide_g rfl rfl Try.underlying28 Try.underlying39 rfl ?_; intro r n hr0; have hr := hr0 _ (by first | with_reducible assumption | exact rfl); clear hr0) | (with_reducible refine at_list ?_; refine wpList_wide rfl rfl rfl Try.underlying28 Try.underlying39 ?_; intro r n hr0; have hr := hr0 _ (by first | with_reducible assumption | exact rfl); clear hr0))
            exact ⟨KEY.out _ _ (hr.trans (solO_next b a x s k hl).symm), by first | (simp [intOf]; done) | (simp [intOf]; omega)⟩
          · have hli : ¬ (j : Int) < ((k - 1 : Nat) : Int) := by omega
            go_wp2_with (first | (with_reducible refine at_list ?_; refine wpList_fop rfl rfl rfl rfl rfl ?_; intro r n hr0; have hr := hr0 _ _ (by first | with_reducible assumption | exact rfl) (by first | with_reducible assumption | exact rfl); clear hr0) | (with_reducible refine at_list ?_; refine wpList_neg rfl rfl rfl ?_; intro r hr0; have hr := hr0 _ (by first | with_reducible assumption | exact rfl); clear hr0) | (with_reducible refine at_list ?_; refine wpList_fop_g rfl rfl rfl rfl rfl ?_; intro r n hr0; have hr := hr0 _ _ (by first | with_reducible assumption | exact rfl) (by first | with_reducible assumption | exact rfl); clear hr0) | (with_reducible refine at_list ?_; refine wpList_wide_g rfl rfl Try.underlying28 Try.underlying39 rfl ?_; intro r n hr0; have hr := hr0 _ (by first | with_reducible assumption | exact rfl); clear hr0) | (with_reducible refine at_list ?_; refine wpList_wide rfl rfl rfl Try.underlying28 Try.underlying39 ?_; intro r n hr0; have hr := hr0 _ (by first | with_reducible assumption | exact rfl); clear hr0))
            exact ⟨KEY.out _ _ (hr.trans (solO_last b a x s k (by omega)).symm), by first | (simp [intOf]; done) | (simp [intOf]; omega)⟩
end Go.Proofs.Ytpnkapdemgieaaa
set_option linter.unusedSimpArgs false
set_option linter.unusedVariables false
set_option linter.unusedSectionVars false
namespace Go.Proofs.Ytpnkapdemgieaaa
open Go Go.RowKit
/-- Half a unit in the last place, and a little more. -/
def uu : Rat := 1 / 16700000
theorem rnd_rl {f : Ieee.Format} {v r M : Rat} (h : Rnd f v r) (h1 : v ≤ M) (h2 : -v ≤ M) : 2 * (r - v) ≤ M * tp (-(f.fractionBits : Int)) + tp f.leastPlace ∧ 2 * (v - r) ≤ M * tp (-(f.fractionBits : Int)) + tp f.leastPlace := by
  obtain ⟨last, k, hl, hr, e1, e2, h3⟩ := h
  have hM : 0 ≤ M := by grind
  have t1 := tp_pos (-(f.fractionBits : Int))
  have t2 := tp_pos f.leastPlace
  have hm := Rat.mul_nonneg hM (Rat.le_of_lt t1)
  have hle : tp last ≤ M * tp (-(f.fractionBits : Int)) + tp f.leastPlace := by
    have key : tp (last + f.fractionBits) ≤ M → tp last ≤ M * tp (-(f.fractionBits : Int)) := fun h => by
      have e : tp last = tp (last + f.fractionBits) * tp (-(f.fractionBits : Int)) := by rw [← tp_add]; congr 1; omega
      rw [e]
      exact Rat.mul_le_mul_of_nonneg_right h (Rat.le_of_lt t1)
    rcases h3 with h3 | h3 | h3
    · rw [h3]; grind
    · have := key (Rat.le_trans h3 h1); grind
    · have := key (Rat.le_trans h3 h2); grind
  exact ⟨by grind, by grind⟩
theorem tp_m23 : tp (-23) * 8388608 = 1 := by
  have h : tp (-23) * tp 23 = 1 := by rw [← tp_add]; exact tp_zero
  rwa [show tp 23 = 8388608 from (tp_nat 23).trans rfl] at h
theorem tp_m60 : tp (-149) * 1152921504606846976 ≤ 1 := by
  have h : tp (-60) * tp 60 = 1 := by rw [← tp_add]; exact tp_zero
  rw [show tp 60 = 1152921504606846976 from (tp_nat 60).trans rfl] at h
  have := tp_le (show (-149 : Int) ≤ -60 by decide)
  grind
/-- What is rounded lies near. -/
theorem rnd_u {v r M : Rat} (h : Rnd FloatKind.f32.format v r) (hM : 1 / 1000000 ≤ M) (h1 : v ≤ M) (h2 : -v ≤ M) : r - v ≤ M * uu ∧ v - r ≤ M * uu := by
  obtain ⟨e1, e2⟩ := rnd_rl h h1 h2
  have t23 := tp_m23
  have t60 := tp_m60
  have e3 : tp (-(FloatKind.f32.format.fractionBits : Int)) = tp (-23) := rfl
  have e4 : tp FloatKind.f32.format.leastPlace = tp (-149) := rfl
  rw [e3, e4] at e1 e2
  have t23' : tp (-23) = 1 / 8388608 := by grind
  rw [t23'] at e1 e2
  unfold uu
  constructor <;> grind
theorem fop_u (op : BinOp) (hop : arithOp op = true) {x y : Nat} (hx : fnt .f32 x = true) (hy : fnt .f32 y = true) (h0 : op = .quo → fv .f32 y ≠ 0) {M : Rat} (hM : 1 / 1000000 ≤ M) (hM2 : M ≤ 1000000000000) (h1 : ex op (fv .f32 x) (fv .f32 y) ≤ M) (h2 : -ex op (fv .f32 x) (fv .f32 y) ≤ M) :
    fnt .f32 (fop op .f32 x y) = true ∧ fv .f32 (fop op .f32 x y) - ex op (fv .f32 x) (fv .f32 y) ≤ M * uu ∧ ex op (fv .f32 x) (fv .f32 y) - fv .f32 (fop op .f32 x y) ≤ M * uu := by
  have t40 : tp 40 = 1099511627776 := (tp_nat 40).trans rfl
  obtain ⟨g1, g2⟩ := fop_rnd op hop .f32 hx hy h0 40 (by decide) (by rw [t40]; grind) (by rw [t40]; grind)
  exact ⟨g1, rnd_u g2 hM h1 h2⟩
theorem rnd_le_wd {k : FloatKind} {x : Nat} {v r : Rat} (hx : fnt k x = true) (h : Rnd k.format v r) (hv : v ≤ fv k x) : r ≤ fv k x := by
  obtain ⟨z, q, hz, hq, e⟩ := rp_word hx
  rw [e] at hv ⊢
  exact h.le hz hq hv
theorem rnd_eq_wd {k : FloatKind} {x : Nat} {v r : Rat} (hx : fnt k x = true) (h : Rnd k.format v r) (hv : v = fv k x) : r = fv k x := by
  obtain ⟨z, q, hz, hq, e⟩ := rp_word hx
  rw [e] at hv ⊢
  exact (h.eq hz hq hv).trans hv
/-! ### One step, in exact numbers -/
/-- The right side behind a step of the elimination. -/
theorem el_step {W p qi ql f m m' S S' s so Z1 Z2 Z3 D ε g c d k Zm : Rat} (hf1 : -1 ≤ f) (hf2 : f ≤ 0) (hp : 0 ≤ p) (hqi : 0 ≤ qi) (hε : 0 ≤ ε) (hD : 0 ≤ D)
    (hg1 : f * m + p ≤ g) (hg2 : -(f * m + p) ≤ g) (hm1 : m' - (W + p + (qi + ql) + f * p) ≤ c) (hm2 : (W + p + (qi + ql) + f * p) - m' ≤ c)
    (hv1 : S - (m * Z1 - p * Z2) ≤ (m - p) * D + ε) (hv2 : (m * Z1 - p * Z2) - S ≤ (m - p) * D + ε)
    (hs1 : s - so ≤ k) (hs2 : so - s ≤ k) (hS1 : S' - (s - f * S) ≤ d) (hS2 : (s - f * S) - S' ≤ d)
    (ho1 : so - ((W + p + (qi + ql)) * Z2 - p * Z1 - qi * Z3) ≤ (W + ql) * D) (ho2 : ((W + p + (qi + ql)) * Z2 - p * Z1 - qi * Z3) - so ≤ (W + ql) * D)
    (hz1 : Z1 ≤ Zm) (hz1' : -Z1 ≤ Zm) (hz2 : Z2 ≤ Zm) (hz2' : -Z2 ≤ Zm) (hg0 : 0 ≤ g) (hc0 : 0 ≤ c) :
    S' - (m' * Z2 - qi * Z3) ≤ (m' - qi) * D + ε + (k + d + (g + c) * (Zm + D)) ∧ (m' * Z2 - qi * Z3) - S' ≤ (m' - qi) * D + ε + (k + d + (g + c) * (Zm + D)) := by
  have a1 := mul_bd (a := g) (b := Zm) (x := f * m + p) (y := Z1) (by grind) hg1 (by grind) hz1
  have a2 := mul_bd (a := c) (b := Zm) (x := m' - (W + p + (qi + ql) + f * p)) (y := Z2) (by grind) hm1 (by grind) hz2
  have a3 := Rat.mul_le_mul_of_nonneg_right hm2 hD
  have a4 := Rat.mul_le_mul_of_nonneg_right hg2 hD
  have b1 := Rat.mul_le_mul_of_nonneg_left hv1 (show 0 ≤ -f by grind)
  have b2 := Rat.mul_le_mul_of_nonneg_left hv2 (show 0 ≤ -f by grind)
  have b3 := Rat.mul_nonneg (show 0 ≤ 1 + f by grind) hε
  constructor <;> grind
/-- The first right side. -/
theorem el_first {W p qi ql m S so Z2 Z3 D c k Zm : Rat} (hD : 0 ≤ D) (hm1 : m - (W + p + (qi + ql)) ≤ c) (hm2 : (W + p + (qi + ql)) - m ≤ c)
    (hs1 : S - so ≤ k) (hs2 : so - S ≤ k) (ho1 : so - ((W + p + (qi + ql)) * Z2 - qi * Z3) ≤ (W + p + ql) * D) (ho2 : ((W + p + (qi + ql)) * Z2 - qi * Z3) - so ≤ (W + p + ql) * D)
    (hz2 : Z2 ≤ Zm) (hz2' : -Z2 ≤ Zm) (hc0 : 0 ≤ c) :
    S - (m * Z2 - qi * Z3) ≤ (m - qi) * D + (k + c * (Zm + D)) ∧ (m * Z2 - qi * Z3) - S ≤ (m - qi) * D + (k + c * (Zm + D)) := by
  have a2 := mul_bd (a := c) (b := Zm) (x := m - (W + p + (qi + ql))) (y := Z2) (by grind) hm1 (by grind) hz2
  have a3 := Rat.mul_le_mul_of_nonneg_right hm2 hD
  constructor <;> grind
/-- What is taken from the right side is not great. -/
theorem fs_bd {f m p S Z1 Z2 D ε g Zm : Rat} (hf1 : -1 ≤ f) (hf2 : f ≤ 0) (hp : 0 ≤ p) (hm : 0 ≤ m) (hg2 : -(f * m + p) ≤ g)
    (hv1 : S - (m * Z1 - p * Z2) ≤ (m - p) * D + ε) (hv2 : (m * Z1 - p * Z2) - S ≤ (m - p) * D + ε) (hz1 : Z1 ≤ Zm) (hz1' : -Z1 ≤ Zm) (hz2 : Z2 ≤ Zm) (hz2' : -Z2 ≤ Zm) (hε : 0 ≤ ε) (hD : 0 ≤ D) (hZm : 0 ≤ Zm) :
    f * S ≤ (p + g) * (Zm + D) + p * Zm + ε ∧ -(f * S) ≤ (p + g) * (Zm + D) + p * Zm + ε := by
  have hf : 0 ≤ -f := by grind
  have t0 := Rat.mul_nonneg hf hm
  have s0 := Rat.mul_nonneg hf hp
  have s1 := Rat.mul_le_mul_of_nonneg_right (show -f ≤ 1 by grind) hp
  have b1 := Rat.mul_le_mul_of_nonneg_left hv1 hf
  have b2 := Rat.mul_le_mul_of_nonneg_left hv2 hf
  have c1 := Rat.mul_le_mul_of_nonneg_left hz1 t0
  have c2 := Rat.mul_le_mul_of_nonneg_left hz1' t0
  have c3 := Rat.mul_le_mul_of_nonneg_right (show -f * m ≤ p + g by grind) hZm
  have c4 := Rat.mul_le_mul_of_nonneg_right (show -f * m ≤ p + g by grind) hD
  have d1 := Rat.mul_le_mul_of_nonneg_left hz2 s0
  have d2 := Rat.mul_le_mul_of_nonneg_left hz2' s0
  have d3 := Rat.mul_le_mul_of_nonneg_right s1 hZm
  have d4 := Rat.mul_nonneg s0 hD
  have e1 := Rat.mul_le_mul_of_nonneg_right (show -f ≤ 1 by grind) hε
  constructor <;> grind
/-- An answer. -/
theorem bk_step {qi m S y y2 Z1 Z2 D ε δ e w : Rat} (hqi : 0 ≤ qi) (hw : 0 < w) (hm : qi + w ≤ m) (hδ : 0 ≤ δ)
    (hv1 : S - (m * Z1 - qi * Z2) ≤ (m - qi) * D + ε) (hv2 : (m * Z1 - qi * Z2) - S ≤ (m - qi) * D + ε)
    (hy1 : y2 - Z2 ≤ D + δ) (hy2 : Z2 - y2 ≤ D + δ) (he1 : m * y - (S + qi * y2) ≤ e) (he2 : (S + qi * y2) - m * y ≤ e) (hδ2 : ε + e ≤ w * δ) :
    y - Z1 ≤ D + δ ∧ Z1 - y ≤ D + δ := by
  have hm0 : 0 < m := by grind
  have a1 := Rat.mul_le_mul_of_nonneg_left hy1 hqi
  have a2 := Rat.mul_le_mul_of_nonneg_left hy2 hqi
  have a3 := Rat.mul_le_mul_of_nonneg_right hm hδ
  exact ⟨mul_cancel_le hm0 (by grind), mul_cancel_le hm0 (by grind)⟩
/-- What is left of a row. -/
theorem res_step {W p q qi f m m' S S' s so y0 y y2 g c d k e0 e Y : Rat} (hf1 : -1 ≤ f) (hf2 : f ≤ 0)
    (hg1 : f * m + p ≤ g) (hg2 : -(f * m + p) ≤ g) (hm1 : m' - (W + p + q + f * p) ≤ c) (hm2 : (W + p + q + f * p) - m' ≤ c)
    (hs1 : s - so ≤ k) (hs2 : so - s ≤ k) (hS1 : S' - (s - f * S) ≤ d) (hS2 : (s - f * S) - S' ≤ d)
    (h01 : m * y0 - (S + p * y) ≤ e0) (h02 : (S + p * y) - m * y0 ≤ e0) (h11 : m' * y - (S' + qi * y2) ≤ e) (h12 : (S' + qi * y2) - m' * y ≤ e)
    (hY0 : y0 ≤ Y) (hY0' : -y0 ≤ Y) (hY : y ≤ Y) (hY' : -y ≤ Y) (he0 : 0 ≤ e0) :
    (W + p + q) * y - p * y0 - qi * y2 - so ≤ k + d + g * Y + e0 + e + c * Y ∧ so - ((W + p + q) * y - p * y0 - qi * y2) ≤ k + d + g * Y + e0 + e + c * Y := by
  have a1 := mul_bd (a := g) (b := Y) (x := f * m + p) (y := y0) (by grind) hg1 (by grind) hY0
  have a2 := mul_bd (a := c) (b := Y) (x := m' - (W + p + q + f * p)) (y := y) (by grind) hm1 (by grind) hY
  have b1 := Rat.mul_le_mul_of_nonneg_left h01 (show 0 ≤ -f by grind)
  have b2 := Rat.mul_le_mul_of_nonneg_left h02 (show 0 ≤ -f by grind)
  have b3 := Rat.mul_nonneg (show 0 ≤ 1 + f by grind) he0
  constructor <;> grind
theorem res_first {W p q qi m S so y y2 c k e Y : Rat} (hm1 : m - (W + p + q) ≤ c) (hm2 : (W + p + q) - m ≤ c)
    (hs1 : S - so ≤ k) (hs2 : so - S ≤ k) (h11 : m * y - (S + qi * y2) ≤ e) (h12 : (S + qi * y2) - m * y ≤ e) (hY : y ≤ Y) (hY' : -y ≤ Y) :
    (W + p + q) * y - qi * y2 - so ≤ k + e + c * Y ∧ so - ((W + p + q) * y - qi * y2) ≤ k + e + c * Y := by
  have a2 := mul_bd (a := c) (b := Y) (x := m - (W + p + q)) (y := y) (by grind) hm1 (by grind) hY
  constructor <;> grind
/-- By how much a row is taken from the next one. -/
def elF (b a x : Nat → Nat) (i : Nat) : Nat := fop .quo .f32 (b (i + 1)) (elA b a x i)
/-- How much passes on to the right within the row; how much at the right end. -/
def qiR (p : Nat → Rat) (n i : Nat) : Rat := if i + 1 < n then p (i + 1) else 0
def qlR (p : Nat → Rat) (n i : Nat) : Rat := if i + 1 < n then 0 else p (i + 1)
theorem qR_sum (p : Nat → Rat) (n i : Nat) : qiR p n i + qlR p n i = p (i + 1) := by unfold qiR qlR; split <;> grind
theorem qiR_in {p : Nat → Rat} {n i : Nat} (h : i + 1 < n) : qiR p n i = p (i + 1) := if_pos h
theorem qiR_last {p : Nat → Rat} {n i : Nat} (h : ¬ i + 1 < n) : qiR p n i = 0 := if_neg h
theorem qiR_le {p : Nat → Rat} {n i : Nat} (h : 0 ≤ p (i + 1)) : 0 ≤ qiR p n i ∧ qiR p n i ≤ p (i + 1) := by unfold qiR; split <;> grind
end Go.Proofs.Ytpnkapdemgieaaa

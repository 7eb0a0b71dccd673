/-
  The ends of rods, and how much passes between cells and at ends (the program's and the reference's). No condition but what each contract says.
  All passes of a rod, from left to right (the program's and the reference's). No condition but what each contract says.
  All passes of a rod in a list (the program's and the reference's). No condition but what each contract says.
  Rods with other warmths: what is told of them. No condition.
  Rods handed back: checked ones, and ones with other warmths. No condition but what each contract says.
  A rod's own copy, and rods handed back if they are valid: the reference's way. No condition but what each contract says.
  Rows of equations: what the program's solver makes of them. No condition but what each contract says.
  One operation in single precision: how far it may be off, by how great it is; rows of equations, one step, in exact numbers. No condition but what each law says; nothing of the program is named here.
  Complex numbers as two rational ones: how great their sums and products are. No condition but what each law says; nothing of the program is named here.
  Products, quotients and differences of complex numbers on words: how far they may be off. No condition but what each law says; nothing of the program is named here.
  The square root of a 32-bit number, drawn in 64 bits: it has a nearest 32-bit number. No condition but what each law says.
-/
import Derived.Test.YtpnkapdemgieaaaSM3
import Derived.Test.YtpnkapdemgieaaaSM2
set_option linter.unusedSimpArgs false
set_option linter.unusedVariables false
set_option linter.unusedSectionVars false
namespace Go.Proofs.Ytpnkapdemgieaaa
open Go Go.RowKit
open Go.ChangeShapes Go.WideShapes Go.ChangeAt Go.RowKit Go.Joins
structure EndT where
  k : Int
  t : Nat
  e : Nat
def EnAt (E : EndT) (w : World) (b o : Nat) : Prop := w.cell? ⟨b, o, none⟩ = some (.int .i64 E.k) ∧ w.cell? ⟨b, o + 1, none⟩ = some (.float .f32 E.t) ∧ w.cell? ⟨b, o + 2, none⟩ = some (.float .f32 E.e)
theorem en_later {E : EndT} {w w' : World} {b o B : Nat} (h : EnAt E w b o) (hb : Below B w w') (hB : b < B) : EnAt E w' b o := ⟨(hb.cell hB).trans h.1, (hb.cell hB).trans h.2.1, (hb.cell hB).trans h.2.2⟩
def EndT.ok (E : EndT) : Bool := inB E.k 0 2 && (fin .f32 (cn .f32 E.t) && abv (cn .f32 E.e))
def EndT.wf (E : EndT) : Prop := (Lit.int .i64 E.k).wf = true ∧ (Lit.float .f32 E.t).wf = true ∧ (Lit.float .f32 E.e).wf = true
def halfV (P : Rd) (i : Nat) : Nat := fop .quo .f32 (fop .quo .f32 (cn .f32 (P.a.getD i 0)) (cn .f32 (P.b.getD i 0))) (cn .f32 1073741824)
def betV (P : Rd) (i : Nat) : Nat := fop .quo .f32 (cn .f32 1065353216) (fop .add .f32 (halfV P i) (halfV P (i + 1)))
def endV (P : Rd) (i : Nat) (E : EndT) : Nat := if E.k = 0 then fop .quo .f32 (cn .f32 1065353216) (halfV P i) else if E.k = 1 then cn .f32 0 else fop .quo .f32 (cn .f32 1065353216) (fop .add .f32 (halfV P i) (fop .quo .f32 (cn .f32 1065353216) (cn .f32 E.e)))
theorem endV_0 {P : Rd} {i : Nat} {E : EndT} (h : E.k = 0) : endV P i E = fop .quo .f32 (cn .f32 1065353216) (halfV P i) := by unfold endV; rw [if_pos h]
theorem endV_1 {P : Rd} {i : Nat} {E : EndT} (h : E.k = 1) : endV P i E = cn .f32 0 := by unfold endV; rw [if_neg (by omega), if_pos h]
theorem endV_2 {P : Rd} {i : Nat} {E : EndT} (h : ¬ E.k = 0) (h1 : ¬ E.k = 1) : endV P i E = fop .quo .f32 (cn .f32 1065353216) (fop .add .f32 (halfV P i) (fop .quo .f32 (cn .f32 1065353216) (cn .f32 E.e))) := by unfold endV; rw [if_neg h, if_neg h1]
theorem cn_half (P : Rd) (i : Nat) : cn .f32 (halfV P i) = halfV P i := cn_fop _ _ _ _
theorem cn_bet (P : Rd) (i : Nat) : cn .f32 (betV P i) = betV P i := cn_fop _ _ _ _
theorem cn_end (P : Rd) (i : Nat) (E : EndT) : cn .f32 (endV P i E) = endV P i E := by
  unfold endV; split
  · exact cn_fop _ _ _ _
  · split
    · exact cn_cn _ _
    · exact cn_fop _ _ _ _
set_option maxHeartbeats 2000000 in
theorem implValidEnd_any (E : EndT) (w : World) : Calls Try.prog 36 #[.agg #[.int .i64 E.k, .float .f32 E.t, .float .f32 E.e]] w (BV w (.bool E.ok)) := by
  have HE : Hid (E.ok = (inB E.k 0 2 && (fin .f32 (cn .f32 E.t) && abv (cn .f32 E.e)))) := rfl
  rcases h0 : inB E.k 0 2
  · go_enter Try.func36, Try.ntmps36
    go_wp2_with (first | (with_reducible refine at_list ?_; refine wpList_fop rfl rfl rfl rfl rfl ?_; intro r n hr0; have hr := hr0 _ _ (by first | with_reducible assumption | exact rfl) (by first | with_reducible assumption | exact rfl); clear hr0) | (with_reducible refine at_list ?_; refine wpList_neg rfl rfl rfl ?_; intro r hr0; have hr := hr0 _ (by first | with_reducible assumption | exact rfl); clear hr0) | (with_reducible refine at_list ?_; refine wpList_fop_g rfl rfl rfl rfl rfl ?_; intro r n hr0; have hr := hr0 _ _ (by first | with_reducible assumption | exact rfl) (by first | with_reducible assumption | exact rfl); clear hr0) | (with_reducible refine at_list ?_; refine wpList_wide_g rfl rfl Try.underlying28 Try.underlying39 rfl ?_; intro r n hr0; have hr := hr0 _ (by first | with_reducible assumption | exact rfl); clear hr0) | (with_reducible refine at_list ?_; refine wpList_wide rfl rfl rfl Try.underlying28 Try.underlying39 ?_; intro r n hr0; have hr := hr0 _ (by first | with_reducible assumption | exact rfl); clear hr0) | (go_at_call 52; refine (within_any _ _ _ _).mono ?_; rintro e w' ⟨rfl, n, rfl⟩) | (go_at_call 41; refine (IsFinite_any _ _).mono ?_; rintro e w' ⟨rfl, n, rfl⟩) | (go_at_call 45; refine ((arePos1_any _ _ _ (FS1 (by go_simp <;> exact rfl))) ).mono ?_; rintro e w' ⟨rfl, n, rfl⟩))
    all_goals
      go_ret
      exact ⟨by rw [HE.out]; simp [*], by (repeat (first | (with_reducible exact Below.refl _ _) | (with_reducible assumption) | (with_reducible refine below_then ?_ (by assumption)) | (with_reducible refine Below.trans ?_ (by assumption)) | (with_reducible refine below_drewN ?_ _) | (with_reducible apply Below.drew) | (with_reducible refine below_alloc ?_ _) | refine Below.setCell ?_ (by first | (simp; done) | (simp; omega)) _))⟩
  rcases h1 : fin .f32 (cn .f32 E.t)
  all_goals
    go_enter Try.func36, Try.ntmps36
    go_wp2_with (first | (with_reducible refine at_list ?_; refine wpList_fop rfl rfl rfl rfl rfl ?_; intro r n hr0; have hr := hr0 _ _ (by first | with_reducible assumption | exact rfl) (by first | with_reducible assumption | exact rfl); clear hr0) | (with_reducible refine at_list ?_; refine wpList_neg rfl rfl rfl ?_; intro r hr0; have hr := hr0 _ (by first | with_reducible assumption | exact rfl); clear hr0) | (with_reducible refine at_list ?_; refine wpList_fop_g rfl rfl rfl rfl rfl ?_; intro r n hr0; have hr := hr0 _ _ (by first | with_reducible assumption | exact rfl) (by first | with_reducible assumption | exact rfl); clear hr0) | (with_reducible refine at_list ?_; refine wpList_wide_g rfl rfl Try.underlying28 Try.underlying39 rfl ?_; intro r n hr0; have hr := hr0 _ (by first | with_reducible assumption | exact rfl); clear hr0) | (with_reducible refine at_list ?_; refine wpList_wide rfl rfl rfl Try.underlying28 Try.underlying39 ?_; intro r n hr0; have hr := hr0 _ (by first | with_reducible assumption | exact rfl); clear hr0) | (go_at_call 52; refine (within_any _ _ _ _).mono ?_; rintro e w' ⟨rfl, n, rfl⟩) | (go_at_call 41; refine (IsFinite_any _ _).mono ?_; rintro e w' ⟨rfl, n, rfl⟩) | (go_at_call 45; refine ((arePos1_any _ _ _ (FS1 (by go_simp <;> exact rfl))) ).mono ?_; rintro e w' ⟨rfl, n, rfl⟩))
    all_goals
      go_ret
      exact ⟨by rw [HE.out]; simp [*], by (repeat (first | (with_reducible exact Below.refl _ _) | (with_reducible assumption) | (with_reducible refine below_then ?_ (by assumption)) | (with_reducible refine Below.trans ?_ (by assumption)) | (with_reducible refine below_drewN ?_ _) | (with_reducible apply Below.drew) | (with_reducible refine below_alloc ?_ _) | refine Below.setCell ?_ (by first | (simp; done) | (simp; omega)) _))⟩
set_option maxHeartbeats 2000000 in
theorem halfOf_any (P : Rd) (l : RL) (i : Nat) (w : World) (hs : P.fs w l) (h0 : P.ok = true) (hi : i < P.a.length) : Calls Try.prog 39 #[.agg #[.slice l.p1 P.a.length l.c1, .slice l.p2 P.b.length l.c2, .slice l.p3 P.c.length l.c3, .slice l.p4 P.d.length l.c4], .int .i64 (i : Int)] w (BF w .f32 (halfV P i)) := by
  obtain ⟨hn1, hn2⟩ := (Rd.ok_len h0).1
  have hib : i < P.b.length := by have := (Rd.ok_len h0).2.1; omega
  obtain ⟨b1, o1, c1, b2, o2, c2, b3, o3, c3, b4, o4, c4, rfl, HA, HB, HC, HD⟩ := Rd.open hs h0
  have y1 := HA.out i hi
  have y2 := HB.out i hi
  have HH : Hid (halfV P i = fop .quo .f32 (fop .quo .f32 (cn .f32 (P.a.getD i 0)) (cn .f32 (P.b.getD i 0))) (cn .f32 1073741824)) := rfl
  generalize P.a.getD i 0 = x1 at y1 HH
  generalize P.b.getD i 0 = x2 at y2 HH
  have hT : Trk w [b1, b2] := ((Trk.nil w).more (World.block_lt_of_cell? _ _ y2)).more (World.block_lt_of_cell? _ _ y1)
  have hz1 := World.block_lt_of_cell? _ _ y1
  have hz2 := World.block_lt_of_cell? _ _ y2
  clear hs h0 HA HB HC HD
  go_enter Try.func39, Try.ntmps39
  go_wp2_with (first | (with_reducible refine at_list ?_; refine wpList_fop rfl rfl rfl rfl rfl ?_; intro r n hr0; have hr := hr0 _ _ (by first | with_reducible assumption | exact rfl) (by first | with_reducible assumption | exact rfl); clear hr0) | (with_reducible refine at_list ?_; refine wpList_neg rfl rfl rfl ?_; intro r hr0; have hr := hr0 _ (by first | with_reducible assumption | exact rfl); clear hr0) | (with_reducible refine at_list ?_; refine wpList_fop_g rfl rfl rfl rfl rfl ?_; intro r n hr0; have hr := hr0 _ _ (by first | with_reducible assumption | exact rfl) (by first | with_reducible assumption | exact rfl); clear hr0) | (with_reducible refine at_list ?_; refine wpList_wide_g rfl rfl Try.underlying28 Try.underlying39 rfl ?_; intro r n hr0; have hr := hr0 _ (by first | with_reducible assumption | exact rfl); clear hr0) | (with_reducible refine at_list ?_; refine wpList_wide rfl rfl rfl Try.underlying28 Try.underlying39 ?_; intro r n hr0; have hr := hr0 _ (by first | with_reducible assumption | exact rfl); clear hr0))
  all_goals (try ((first | (refine wp_some_lit (by kernel_rfl) (by kernel_rfl) ?_; (refine wpSome_one ?_; go_big_quiet_step (fail); refine wpQuiet_nil ?_); (refine wpSome_one ?_; go_big_quiet_step (fail); refine wpQuiet_nil ?_); (refine wpSome_one ?_; go_big_quiet_step (fail); refine wpQuiet_nil ?_); (refine wpSome_one ?_; go_big_quiet_step (fail); refine wpQuiet_nil ?_); (refine wpSome_one ?_; go_big_quiet_step (fail); refine wpQuiet_nil ?_); (refine wpSome_one ?_; go_big_quiet_step (fail); refine wpQuiet_nil ?_); (refine wpSome_one ?_; go_big_quiet_step (fail); refine wpQuiet_nil ?_); (refine wpSome_one ?_; go_big_quiet_step (fail); refine wpQuiet_nil ?_); (refine wpSome_one ?_; go_big_quiet_step (fail); refine wpQuiet_nil ?_); (refine wpSome_one ?_; go_big_quiet_step (fail); refine wpQuiet_nil ?_); ((with_reducible refine at_some ?_; refine wpSome_fop rfl rfl rfl rfl rfl ?_; intro r hr0; have hr := hr0 _ _ (by first | with_reducible assumption | exact rfl) (by first | with_reducible assumption | exact rfl); clear hr0); simp only [Act.put, List.setIfInBounds_toArray, List.set_cons_zero, List.set_cons_succ]); ((with_reducible refine at_some ?_; refine wpSome_fop rfl rfl rfl rfl rfl ?_; intro r hr0; have hr := hr0 _ _ (by first | with_reducible assumption | exact rfl) (by first | with_reducible assumption | exact rfl); clear hr0); simp only [Act.put, List.setIfInBounds_toArray, List.set_cons_zero, List.set_cons_succ]); (refine wpSome_one ?_; go_big_quiet_step (fail); refine wpQuiet_nil ?_); refine wpSome_nil ?_; intro w' hw'; obtain ⟨nq, rfl⟩ := hw')); go_wp2_with (first | (with_reducible refine at_list ?_; refine wpList_fop rfl rfl rfl rfl rfl ?_; intro r n hr0; have hr := hr0 _ _ (by first | with_reducible assumption | exact rfl) (by first | with_reducible assumption | exact rfl); clear hr0) | (with_reducible refine at_list ?_; refine wpList_neg rfl rfl rfl ?_; intro r hr0; have hr := hr0 _ (by first | with_reducible assumption | exact rfl); clear hr0) | (with_reducible refine at_list ?_; refine wpList_fop_g rfl rfl rfl rfl rfl ?_; intro r n hr0; have hr := hr0 _ _ (by first | with_reducible assumption | exact rfl) (by first | with_reducible assumption | exact rfl); clear hr0) | (with_reducible refine at_list ?_; refine wpList_wide_g rfl rfl Try.underlying28 Try.underlying39 rfl ?_; intro r n hr0; have hr := hr0 _ (by first | with_reducible assumption | exact rfl); clear hr0) | (with_reducible refine at_list ?_; refine wpList_wide rfl rfl rfl Try.underlying28 Try.underlying39 ?_; intro r n hr0; have hr := hr0 _ (by first | with_reducible assumption | exact rfl); clear hr0))))
  all_goals (try (first | kernel_rfl | rfl))
  all_goals
    go_ret
    exact ⟨_, rfl, by rw [HH.out]; assumption, by (repeat (first | (with_reducible exact Below.refl _ _) | (with_reducible assumption) | (with_reducible refine below_then ?_ (by assumption)) | (with_reducible refine Below.trans ?_ (by assumption)) | (with_reducible refine below_drewN ?_ _) | (with_reducible apply Below.drew) | (with_reducible refine below_alloc ?_ _) | refine Below.setCell ?_ (by first | (simp; done) | (simp; omega)) _))⟩
set_option maxHeartbeats 2000000 in
theorem passBetween_any (P : Rd) (l : RL) (i : Nat) (w : World) (hs : P.fs w l) (h0 : P.ok = true) (hi : i + 1 < P.a.length) : Calls Try.prog 73 #[.agg #[.slice l.p1 P.a.length l.c1, .slice l.p2 P.b.length l.c2, .slice l.p3 P.c.length l.c3, .slice l.p4 P.d.length l.c4], .int .i64 (i : Int)] w (BF w .f32 (betV P i)) := by
  obtain ⟨hn1, hn2⟩ := (Rd.ok_len h0).1
  have HS := Lib.hid hs
  have H1 : Hid (∀ (z : Int) w', Below w.heap.size w w' → 0 ≤ z ∧ z < P.a.length → Calls Try.prog 39 #[.agg #[.slice l.p1 P.a.length l.c1, .slice l.p2 P.b.length l.c2, .slice l.p3 P.c.length l.c3, .slice l.p4 P.d.length l.c4], .int .i64 z] w' (BF w' .f32 (halfV P z.toNat))) := fun z w' h hz => by
    have := halfOf_any P l z.toNat w' (HS.out.later h) h0 (by omega)
    rwa [show ((z.toNat : Nat) : Int) = z by omega] at this
  have HH : Hid (betV P i = fop .quo .f32 (cn .f32 1065353216) (fop .add .f32 (halfV P (i : Int).toNat) (halfV P ((i : Int) + 1).toNat))) := by
    show _ = _
    rw [Int.toNat_natCast, show ((i : Int) + 1).toNat = i + 1 by omega]; rfl
  have hz0 : 0 ≤ (i : Int) ∧ (i : Int) < P.a.length := by omega
  have hz1 : 0 ≤ (i : Int) + 1 ∧ (i : Int) + 1 < P.a.length := by omega
  have hw1 : IntKind.i64.wrap ((i : Int) + 1) = (i : Int) + 1 := IntWalk.i64_in _ (by omega)
  have HK0 := Lib.hid (cn_half P i)
  have HK1 := Lib.hid (cn_half P (i + 1))
  clear hs h0
  go_enter Try.func73, Try.ntmps73
  go_wp2_with (first | (with_reducible refine at_list ?_; refine wpList_fop rfl rfl rfl rfl rfl ?_; intro r n hr0; have hr := hr0 _ _ (by first | with_reducible assumption | exact rfl) (by first | with_reducible assumption | exact rfl); clear hr0) | (with_reducible refine at_list ?_; refine wpList_neg rfl rfl rfl ?_; intro r hr0; have hr := hr0 _ (by first | with_reducible assumption | exact rfl); clear hr0) | (with_reducible refine at_list ?_; refine wpList_fop_g rfl rfl rfl rfl rfl ?_; intro r n hr0; have hr := hr0 _ _ (by first | with_reducible assumption | exact rfl) (by first | with_reducible assumption | exact rfl); clear hr0) | (with_reducible refine at_list ?_; refine wpList_wide_g rfl rfl Try.underlying28 Try.underlying39 rfl ?_; intro r n hr0; have hr := hr0 _ (by first | with_reducible assumption | exact rfl); clear hr0) | (with_reducible refine at_list ?_; refine wpList_wide rfl rfl rfl Try.underlying28 Try.underlying39 ?_; intro r n hr0; have hr := hr0 _ (by first | with_reducible assumption | exact rfl); clear hr0) | (go_at_call 39; refine ((H1.out _ _ (by (repeat (first | (with_reducible exact Below.refl _ _) | (with_reducible assumption) | (with_reducible refine below_then ?_ (by assumption)) | (with_reducible refine Below.trans ?_ (by assumption)) | (with_reducible refine below_drewN ?_ _) | (with_reducible apply Below.drew) | (with_reducible refine below_alloc ?_ _) | refine Below.setCell ?_ (by first | (simp; done) | (simp; omega)) _))) (by assumption)) ).mono ?_; rintro e w' ⟨r, rfl, hr, hb⟩; obtain ⟨hT, hk⟩ := bv_next hb (by (repeat (with_reducible first | assumption | apply Trk.alloc | apply Trk.setCell | apply Trk.drewN | apply Trk.drew | exact Trk.nil _))); simp only [SameOn, World.size_alloc, World.size_setCell, World.size_drew, size_drewN', and_true] at hk; have hsz := Below.size hb; (try simp only [World.size_alloc, World.size_setCell, World.size_drew, size_drewN'] at hsz)))
  all_goals (try ((first | (apply wp_region_plan; ((apply wpC_val; (case hw => exact rfl); (case h1 => (intro w' hb hk0; obtain ⟨hT, hk⟩ := bv_next hb (by (repeat (with_reducible first | assumption | apply Trk.alloc | apply Trk.setCell | apply Trk.drewN | apply Trk.drew | exact Trk.nil _))); simp only [SameOn, World.size_alloc, World.size_setCell, World.size_drew, size_drewN', and_true] at hk; have hsz := Below.size hb; (try simp only [World.size_alloc, World.size_setCell, World.size_drew, size_drewN'] at hsz); go_simp <;> exact rfl))); apply wpC_norm; (case ha => (simp only [Act.put, List.setIfInBounds_toArray, List.set_cons_zero, List.set_cons_succ]; exact rfl))); ((apply wpC_det; (case hw => exact rfl); (case hs => (intro cs b h; cases h)); (case h1 => (intro w'; go_simp <;> exact rfl))); apply wpC_norm; (case ha => (simp only [Act.put, List.setIfInBounds_toArray, List.set_cons_zero, List.set_cons_succ]; exact rfl))); ((apply wpC_callF _ _; ((case hw => exact rfl)); (case h1 => (intro w'; go_simp; exact ⟨rfl, rfl⟩)); (case hc => (intro w' hb hk0; obtain ⟨hT, hk⟩ := bv_next hb (by (repeat (with_reducible first | assumption | apply Trk.alloc | apply Trk.setCell | apply Trk.drewN | apply Trk.drew | exact Trk.nil _))); simp only [SameOn, World.size_alloc, World.size_setCell, World.size_drew, size_drewN', and_true] at hk; have hsz := Below.size hb; (try simp only [World.size_alloc, World.size_setCell, World.size_drew, size_drewN'] at hsz); refine ((H1.out _ _ (by (repeat (first | (with_reducible exact Below.refl _ _) | (with_reducible assumption) | (with_reducible refine below_then ?_ (by assumption)) | (with_reducible refine Below.trans ?_ (by assumption)) | (with_reducible refine below_drewN ?_ _) | (with_reducible apply Below.drew) | (with_reducible refine below_alloc ?_ _) | refine Below.setCell ?_ (by first | (simp; done) | (simp; omega)) _))) (by assumption)) ).mono ?_; intro e2 w3 h; (try simp only [*] at h); exact h)); (case hcc => (first | (with_reducible first | assumption | exact cn_fop _ _ _ _ | exact cn_cn _ _ | exact cn_wide _ | exact cn_narrow _ | exact cn_accC .. | exact cn_half .. | exact cn_bet .. | exact cn_end .. | exact cn_erV .. | exact cn_exV .. | exact cn_warmC .. | exact cn_partC .. | exact cn_easeC .. | exact cn_sqC .. | exact cn_gapC .. | exact cn_exG .. | exact cn_poT .. | exact cn_sn ..) | (refine cn_chk ?_; (with_reducible first | assumption | exact cn_fop _ _ _ _ | exact cn_cn _ _ | exact cn_wide _ | exact cn_narrow _ | exact cn_accC .. | exact cn_half .. | exact cn_bet .. | exact cn_end .. | exact cn_erV .. | exact cn_exV .. | exact cn_warmC .. | exact cn_partC .. | exact cn_easeC .. | exact cn_sqC .. | exact cn_gapC .. | exact cn_exG .. | exact cn_poT .. | exact cn_sn ..)) | (refine cn_gF ?_; (with_reducible first | assumption | exact cn_fop _ _ _ _ | exact cn_cn _ _ | exact cn_wide _ | exact cn_narrow _ | exact cn_accC .. | exact cn_half .. | exact cn_bet .. | exact cn_end .. | exact cn_erV .. | exact cn_exV .. | exact cn_warmC .. | exact cn_partC .. | exact cn_easeC .. | exact cn_sqC .. | exact cn_gapC .. | exact cn_exG .. | exact cn_poT .. | exact cn_sn ..)))); intro r hr); apply wpC_norm; (case ha => (simp only [Act.put, List.setIfInBounds_toArray, List.set_cons_zero, List.set_cons_succ]; exact rfl))); ((apply wpC_val; (case hw => exact rfl); (case h1 => (intro w' hb hk0; obtain ⟨hT, hk⟩ := bv_next hb (by (repeat (with_reducible first | assumption | apply Trk.alloc | apply Trk.setCell | apply Trk.drewN | apply Trk.drew | exact Trk.nil _))); simp only [SameOn, World.size_alloc, World.size_setCell, World.size_drew, size_drewN', and_true] at hk; have hsz := Below.size hb; (try simp only [World.size_alloc, World.size_setCell, World.size_drew, size_drewN'] at hsz); go_simp <;> exact rfl))); apply wpC_norm; (case ha => (simp only [Act.put, List.setIfInBounds_toArray, List.set_cons_zero, List.set_cons_succ]; exact rfl))); ((apply wpC_det; (case hw => exact rfl); (case hs => (intro cs b h; cases h)); (case h1 => (intro w'; go_simp <;> exact rfl))); apply wpC_norm; (case ha => (simp only [Act.put, List.setIfInBounds_toArray, List.set_cons_zero, List.set_cons_succ]; exact rfl))); ((apply wpC_det; (case hw => exact rfl); (case hs => (intro cs b h; cases h)); (case h1 => (intro w'; go_simp <;> exact rfl))); apply wpC_norm; (case ha => (simp only [Act.put, List.setIfInBounds_toArray, List.set_cons_zero, List.set_cons_succ]; exact rfl))); ((apply wpC_callF _ _; ((case hw => exact rfl)); (case h1 => (intro w'; go_simp; exact ⟨rfl, rfl⟩)); (case hc => (intro w' hb hk0; obtain ⟨hT, hk⟩ := bv_next hb (by (repeat (with_reducible first | assumption | apply Trk.alloc | apply Trk.setCell | apply Trk.drewN | apply Trk.drew | exact Trk.nil _))); simp only [SameOn, World.size_alloc, World.size_setCell, World.size_drew, size_drewN', and_true] at hk; have hsz := Below.size hb; (try simp only [World.size_alloc, World.size_setCell, World.size_drew, size_drewN'] at hsz); refine ((H1.out _ _ (by (repeat (first | (with_reducible exact Below.refl _ _) | (with_reducible assumption) | (with_reducible refine below_then ?_ (by assumption)) | (with_reducible refine Below.trans ?_ (by assumption)) | (with_reducible refine below_drewN ?_ _) | (with_reducible apply Below.drew) | (with_reducible refine below_alloc ?_ _) | refine Below.setCell ?_ (by first | (simp; done) | (simp; omega)) _))) (by assumption)) ).mono ?_; intro e2 w3 h; (try simp only [*] at h); exact h)); (case hcc => (first | (with_reducible first | assumption | exact cn_fop _ _ _ _ | exact cn_cn _ _ | exact cn_wide _ | exact cn_narrow _ | exact cn_accC .. | exact cn_half .. | exact cn_bet .. | exact cn_end .. | exact cn_erV .. | exact cn_exV .. | exact cn_warmC .. | exact cn_partC .. | exact cn_easeC .. | exact cn_sqC .. | exact cn_gapC .. | exact cn_exG .. | exact cn_poT .. | exact cn_sn ..) | (refine cn_chk ?_; (with_reducible first | assumption | exact cn_fop _ _ _ _ | exact cn_cn _ _ | exact cn_wide _ | exact cn_narrow _ | exact cn_accC .. | exact cn_half .. | exact cn_bet .. | exact cn_end .. | exact cn_erV .. | exact cn_exV .. | exact cn_warmC .. | exact cn_partC .. | exact cn_easeC .. | exact cn_sqC .. | exact cn_gapC .. | exact cn_exG .. | exact cn_poT .. | exact cn_sn ..)) | (refine cn_gF ?_; (with_reducible first | assumption | exact cn_fop _ _ _ _ | exact cn_cn _ _ | exact cn_wide _ | exact cn_narrow _ | exact cn_accC .. | exact cn_half .. | exact cn_bet .. | exact cn_end .. | exact cn_erV .. | exact cn_exV .. | exact cn_warmC .. | exact cn_partC .. | exact cn_easeC .. | exact cn_sqC .. | exact cn_gapC .. | exact cn_exG .. | exact cn_poT .. | exact cn_sn ..)))); intro r hr); apply wpC_norm; (case ha => (simp only [Act.put, List.setIfInBounds_toArray, List.set_cons_zero, List.set_cons_succ]; exact rfl))); ((apply wpC_fop rfl rfl rfl rfl rfl; intro r hr0; have hr := hr0 _ _ (by first | with_reducible assumption | exact rfl) (by first | with_reducible assumption | exact rfl); clear hr0); apply wpC_norm; (case ha => (simp only [Act.put, List.setIfInBounds_toArray, List.set_cons_zero, List.set_cons_succ]; exact rfl))); ((apply wpC_fop rfl rfl rfl rfl rfl; intro r hr0; have hr := hr0 _ _ (by first | with_reducible assumption | exact rfl) (by first | with_reducible assumption | exact rfl); clear hr0); apply wpC_norm; (case ha => (simp only [Act.put, List.setIfInBounds_toArray, List.set_cons_zero, List.set_cons_succ]; exact rfl))); ((apply wpC_det; (case hw => exact rfl); (case hs => (intro cs b h; cases h)); (case h1 => (intro w'; go_simp <;> exact rfl))); apply wpC_norm; (case ha => (simp only [Act.put, List.setIfInBounds_toArray, List.set_cons_zero, List.set_cons_succ]; exact rfl))); refine wpC_nil ?_; intro w' hb hkk; obtain ⟨hT, hk⟩ := bv_next hb (by (repeat (with_reducible first | assumption | apply Trk.alloc | apply Trk.setCell | apply Trk.drewN | apply Trk.drew | exact Trk.nil _))); simp only [SameOn, World.size_alloc, World.size_setCell, World.size_drew, size_drewN', and_true] at hk; have hsz := Below.size hb; (try simp only [World.size_alloc, World.size_setCell, World.size_drew, size_drewN'] at hsz))); go_wp2_with (first | (with_reducible refine at_list ?_; refine wpList_fop rfl rfl rfl rfl rfl ?_; intro r n hr0; have hr := hr0 _ _ (by first | with_reducible assumption | exact rfl) (by first | with_reducible assumption | exact rfl); clear hr0) | (with_reducible refine at_list ?_; refine wpList_neg rfl rfl rfl ?_; intro r hr0; have hr := hr0 _ (by first | with_reducible assumption | exact rfl); clear hr0) | (with_reducible refine at_list ?_; refine wpList_fop_g rfl rfl rfl rfl rfl ?_; intro r n hr0; have hr := hr0 _ _ (by first | with_reducible assumption | exact rfl) (by first | with_reducible assumption | exact rfl); clear hr0) | (with_reducible refine at_list ?_; refine wpList_wide_g rfl rfl Try.underlying28 Try.underlying39 rfl ?_; intro r n hr0; have hr := hr0 _ (by first | with_reducible assumption | exact rfl); clear hr0) | (with_reducible refine at_list ?_; refine wpList_wide rfl rfl rfl Try.underlying28 Try.underlying39 ?_; intro r n hr0; have hr := hr0 _ (by first | with_reducible assumption | exact rfl); clear hr0) | (go_at_call 39; refine ((H1.out _ _ (by (repeat (first | (with_reducible exact Below.refl _ _) | (with_reducible assumption) | (with_reducible refine below_then ?_ (by assumption)) | (with_reducible refine Below.trans ?_ (by assumption)) | (with_reducible refine below_drewN ?_ _) | (with_reducible apply Below.drew) | (with_reducible refine below_alloc ?_ _) | refine Below.setCell ?_ (by first | (simp; done) | (simp; omega)) _))) (by assumption)) ).mono ?_; rintro e w' ⟨r, rfl, hr, hb⟩; obtain ⟨hT, hk⟩ := bv_next hb (by (repeat (with_reducible first | assumption | apply Trk.alloc | apply Trk.setCell | apply Trk.drewN | apply Trk.drew | exact Trk.nil _))); simp only [SameOn, World.size_alloc, World.size_setCell, World.size_drew, size_drewN', and_true] at hk; have hsz := Below.size hb; (try simp only [World.size_alloc, World.size_setCell, World.size_drew, size_drewN'] at hsz)))))
  all_goals (try (first | kernel_rfl | rfl))
  all_goals
    go_ret
    exact ⟨_, rfl, by rw [HH.out]; assumption, by (repeat (first | (with_reducible exact Below.refl _ _) | (with_reducible assumption) | (with_reducible refine below_then ?_ (by assumption)) | (with_reducible refine Below.trans ?_ (by assumption)) | (with_reducible refine below_drewN ?_ _) | (with_reducible apply Below.drew) | (with_reducible refine below_alloc ?_ _) | refine Below.setCell ?_ (by first | (simp; done) | (simp; omega)) _))⟩
end Go.Proofs.Ytpnkapdemgieaaa
set_option linter.unusedSimpArgs false
set_option linter.unusedVariables false
set_option linter.unusedSectionVars false
namespace Go.Proofs.Ytpnkapdemgieaaa
open Go Go.RowKit
open Go.ChangeShapes Go.WideShapes Go.ChangeAt Go.RowKit Go.Joins
def passK (P : Rd) (E : EndT) (k : Nat) : List Nat := endV P 0 E :: (List.range k).map (betV P)
def passL (P : Rd) (E G : EndT) : List Nat := passK P E (P.a.length - 1) ++ [endV P (P.a.length - 1) G]
theorem passK_step (P : Rd) (E : EndT) (k : Nat) : passK P E (k + 1) = passK P E k ++ [betV P k] := by
  unfold passK; rw [List.range_succ, List.map_append]; rfl
def endsOk (P : Rd) (E G : EndT) : Bool := P.ok && (E.ok && G.ok)
def passFin (P : Rd) (E G : EndT) : Bool := !(passL P E G).any fun x => !fin .f32 x
def passOk (P : Rd) (E G : EndT) : Bool := endsOk P E G && passFin P E G
/-- What the program hands back; what the reference hands back. -/
def passI (P : Rd) (E G : EndT) : List Nat := if endsOk P E G then passL P E G else []
theorem passI_no {P : Rd} {E G : EndT} (h : endsOk P E G = false) : passI P E G = [] := by rw [passI, h]; rfl
theorem passI_ok {P : Rd} {E G : EndT} (h : endsOk P E G = true) : passI P E G = passL P E G := by rw [passI, h]; rfl
theorem passOk_no {P : Rd} {E G : EndT} (h : endsOk P E G = false) : passOk P E G = false := by rw [passOk, h]; rfl
theorem passOk_ok {P : Rd} {E G : EndT} (h : endsOk P E G = true) : passOk P E G = passFin P E G := by rw [passOk, h]; rfl
theorem endsOk_rod {P : Rd} {E G : EndT} (h : endsOk P E G = true) : P.ok = true := by
  unfold endsOk at h
  simp only [Bool.and_eq_true] at h
  exact h.1
set_option maxHeartbeats 2000000 in
theorem passAt_any (P : Rd) (l : RL) (i : Nat) (E : EndT) (w : World) (hs : P.fs w l) (h0 : P.ok = true) (hi : i < P.a.length) : Calls Try.prog 72 #[.agg #[.slice l.p1 P.a.length l.c1, .slice l.p2 P.b.length l.c2, .slice l.p3 P.c.length l.c3, .slice l.p4 P.d.length l.c4], .int .i64 (i : Int), .agg #[.int .i64 E.k, .float .f32 E.t, .float .f32 E.e]] w (BF w .f32 (endV P i E)) := by
  have HS := Lib.hid hs
  have H1 : Hid (∀ w', Below w.heap.size w w' → Calls Try.prog 39 #[.agg #[.slice l.p1 P.a.length l.c1, .slice l.p2 P.b.length l.c2, .slice l.p3 P.c.length l.c3, .slice l.p4 P.d.length l.c4], .int .i64 (i : Int)] w' (BF w' .f32 (halfV P i))) := fun w' h => halfOf_any P l i w' (HS.out.later h) h0 hi
  clear hs h0
  have hk0 := cn_half P i
  have HK := Lib.hid hk0
  clear hk0
  obtain ⟨k, t, e⟩ := E
  have HE0 : Hid (k = 0 → endV P i ⟨k, t, e⟩ = fop .quo .f32 (cn .f32 1065353216) (halfV P i)) := fun h => endV_0 h
  have HE1 : Hid (k = 1 → endV P i ⟨k, t, e⟩ = cn .f32 0) := fun h => endV_1 h
  have HE2 : Hid (¬ k = 0 → ¬ k = 1 → endV P i ⟨k, t, e⟩ = fop .quo .f32 (cn .f32 1065353216) (fop .add .f32 (halfV P i) (fop .quo .f32 (cn .f32 1065353216) (cn .f32 e)))) := fun h h1 => endV_2 h h1
  generalize endV P i ⟨k, t, e⟩ = V at HE0 HE1 HE2 ⊢
  dsimp only
  by_cases hk0 : k = 0
  · subst hk0
    have HH := Lib.hid (HE0.out rfl)
    clear HE0 HE1 HE2
    go_enter Try.func72, Try.ntmps72
    go_wp2_with (first | (with_reducible refine at_list ?_; refine wpList_fop rfl rfl rfl rfl rfl ?_; intro r n hr0; have hr := hr0 _ _ (by first | with_reducible assumption | exact rfl) (by first | with_reducible assumption | exact rfl); clear hr0) | (with_reducible refine at_list ?_; refine wpList_neg rfl rfl rfl ?_; intro r hr0; have hr := hr0 _ (by first | with_reducible assumption | exact rfl); clear hr0) | (with_reducible refine at_list ?_; refine wpList_fop_g rfl rfl rfl rfl rfl ?_; intro r n hr0; have hr := hr0 _ _ (by first | with_reducible assumption | exact rfl) (by first | with_reducible assumption | exact rfl); clear hr0) | (with_reducible refine at_list ?_; refine wpList_wide_g rfl rfl Try.underlying28 Try.underlying39 rfl ?_; intro r n hr0; have hr := hr0 _ (by first | with_reducible assumption | exact rfl); clear hr0) | (with_reducible refine at_list ?_; refine wpList_wide rfl rfl rfl Try.underlying28 Try.underlying39 ?_; intro r n hr0; have hr := hr0 _ (by first | with_reducible assumption | exact rfl); clear hr0) | (go_at_call 39; refine ((H1.out _ (by (repeat (first | (with_reducible exact Below.refl _ _) | (with_reducible assumption) | (with_reducible refine below_then ?_ (by assumption)) | (with_reducible refine Below.trans ?_ (by assumption)) | (with_reducible refine below_drewN ?_ _) | (with_reducible apply Below.drew) | (with_reducible refine below_alloc ?_ _) | refine Below.setCell ?_ (by first | (simp; done) | (simp; omega)) _)))) ).mono ?_; rintro e w' ⟨r, rfl, hr, hb⟩; obtain ⟨hT, hk⟩ := bv_next hb (by (repeat (with_reducible first | assumption | apply Trk.alloc | apply Trk.setCell | apply Trk.drewN | apply Trk.drew | exact Trk.nil _))); simp only [SameOn, World.size_alloc, World.size_setCell, World.size_drew, size_drewN', and_true] at hk; have hsz := Below.size hb; (try simp only [World.size_alloc, World.size_setCell, World.size_drew, size_drewN'] at hsz)))
    all_goals
      go_ret
      exact ⟨_, rfl, by rw [HH.out]; first | assumption | exact cn_cn _ _, by (repeat (first | (with_reducible exact Below.refl _ _) | (with_reducible assumption) | (with_reducible refine below_then ?_ (by assumption)) | (with_reducible refine Below.trans ?_ (by assumption)) | (with_reducible refine below_drewN ?_ _) | (with_reducible apply Below.drew) | (with_reducible refine below_alloc ?_ _) | refine Below.setCell ?_ (by first | (simp; done) | (simp; omega)) _))⟩
  by_cases hk1 : k = 1
  · subst hk1
    have HH := Lib.hid (HE1.out rfl)
    clear HE0 HE1 HE2 hk0
    go_enter Try.func72, Try.ntmps72
    go_wp2_with (first | (with_reducible refine at_list ?_; refine wpList_fop rfl rfl rfl rfl rfl ?_; intro r n hr0; have hr := hr0 _ _ (by first | with_reducible assumption | exact rfl) (by first | with_reducible assumption | exact rfl); clear hr0) | (with_reducible refine at_list ?_; refine wpList_neg rfl rfl rfl ?_; intro r hr0; have hr := hr0 _ (by first | with_reducible assumption | exact rfl); clear hr0) | (with_reducible refine at_list ?_; refine wpList_fop_g rfl rfl rfl rfl rfl ?_; intro r n hr0; have hr := hr0 _ _ (by first | with_reducible assumption | exact rfl) (by first | with_reducible assumption | exact rfl); clear hr0) | (with_reducible refine at_list ?_; refine wpList_wide_g rfl rfl Try.underlying28 Try.underlying39 rfl ?_; intro r n hr0; have hr := hr0 _ (by first | with_reducible assumption | exact rfl); clear hr0) | (with_reducible refine at_list ?_; refine wpList_wide rfl rfl rfl Try.underlying28 Try.underlying39 ?_; intro r n hr0; have hr := hr0 _ (by first | with_reducible assumption | exact rfl); clear hr0) | (go_at_call 39; refine ((H1.out _ (by (repeat (first | (with_reducible exact Below.refl _ _) | (with_reducible assumption) | (with_reducible refine below_then ?_ (by assumption)) | (with_reducible refine Below.trans ?_ (by assumption)) | (with_reducible refine below_drewN ?_ _) | (with_reducible apply Below.drew) | (with_reducible refine below_alloc ?_ _) | refine Below.setCell ?_ (by first | (simp; done) | (simp; omega)) _)))) ).mono ?_; rintro e w' ⟨r, rfl, hr, hb⟩; obtain ⟨hT, hk⟩ := bv_next hb (by (repeat (with_reducible first | assumption | apply Trk.alloc | apply Trk.setCell | apply Trk.drewN | apply Trk.drew | exact Trk.nil _))); simp only [SameOn, World.size_alloc, World.size_setCell, World.size_drew, size_drewN', and_true] at hk; have hsz := Below.size hb; (try simp only [World.size_alloc, World.size_setCell, World.size_drew, size_drewN'] at hsz)))
    all_goals
      go_ret
      exact ⟨_, rfl, by rw [HH.out], by (repeat (first | (with_reducible exact Below.refl _ _) | (with_reducible assumption) | (with_reducible refine below_then ?_ (by assumption)) | (with_reducible refine Below.trans ?_ (by assumption)) | (with_reducible refine below_drewN ?_ _) | (with_reducible apply Below.drew) | (with_reducible refine below_alloc ?_ _) | refine Below.setCell ?_ (by first | (simp; done) | (simp; omega)) _))⟩
  have HH := Lib.hid (HE2.out hk0 hk1)
  clear HE0 HE1 HE2
  go_enter Try.func72, Try.ntmps72
  go_wp2_with (first | (with_reducible refine at_list ?_; refine wpList_fop rfl rfl rfl rfl rfl ?_; intro r n hr0; have hr := hr0 _ _ (by first | with_reducible assumption | exact rfl) (by first | with_reducible assumption | exact rfl); clear hr0) | (with_reducible refine at_list ?_; refine wpList_neg rfl rfl rfl ?_; intro r hr0; have hr := hr0 _ (by first | with_reducible assumption | exact rfl); clear hr0) | (with_reducible refine at_list ?_; refine wpList_fop_g rfl rfl rfl rfl rfl ?_; intro r n hr0; have hr := hr0 _ _ (by first | with_reducible assumption | exact rfl) (by first | with_reducible assumption | exact rfl); clear hr0) | (with_reducible refine at_list ?_; refine wpList_wide_g rfl rfl Try.underlying28 Try.underlying39 rfl ?_; intro r n hr0; have hr := hr0 _ (by first | with_reducible assumption | exact rfl); clear hr0) | (with_reducible refine at_list ?_; refine wpList_wide rfl rfl rfl Try.underlying28 Try.underlying39 ?_; intro r n hr0; have hr := hr0 _ (by first | with_reducible assumption | exact rfl); clear hr0) | (go_at_call 39; refine ((H1.out _ (by (repeat (first | (with_reducible exact Below.refl _ _) | (with_reducible assumption) | (with_reducible refine below_then ?_ (by assumption)) | (with_reducible refine Below.trans ?_ (by assumption)) | (with_reducible refine below_drewN ?_ _) | (with_reducible apply Below.drew) | (with_reducible refine below_alloc ?_ _) | refine Below.setCell ?_ (by first | (simp; done) | (simp; omega)) _)))) ).mono ?_; rintro e w' ⟨r, rfl, hr, hb⟩; obtain ⟨hT, hk⟩ := bv_next hb (by (repeat (with_reducible first | assumption | apply Trk.alloc | apply Trk.setCell | apply Trk.drewN | apply Trk.drew | exact Trk.nil _))); simp only [SameOn, World.size_alloc, World.size_setCell, World.size_drew, size_drewN', and_true] at hk; have hsz := Below.size hb; (try simp only [World.size_alloc, World.size_setCell, World.size_drew, size_drewN'] at hsz)))
  all_goals
    go_ret
    exact ⟨_, rfl, by rw [HH.out]; assumption, by (repeat (first | (with_reducible exact Below.refl _ _) | (with_reducible assumption) | (with_reducible refine below_then ?_ (by assumption)) | (with_reducible refine Below.trans ?_ (by assumption)) | (with_reducible refine below_drewN ?_ _) | (with_reducible apply Below.drew) | (with_reducible refine below_alloc ?_ _) | refine Below.setCell ?_ (by first | (simp; done) | (simp; omega)) _))⟩
end Go.Proofs.Ytpnkapdemgieaaa
set_option linter.unusedSimpArgs false
set_option linter.unusedVariables false
set_option linter.unusedSectionVars false
namespace Go.Proofs.Ytpnkapdemgieaaa
open Go Go.RowKit
open Go.ChangeShapes Go.WideShapes Go.ChangeAt Go.RowKit Go.Joins
theorem app_cn {ys : List Nat} {r : Nat} {L : List Nat} {v : Nat} (h : ys.map (cn .f32) = L) (hr : cn .f32 r = v) : (ys ++ [r]).map (cn .f32) = L ++ [v] := by
  rw [List.map_append, h]; simp [hr]
set_option maxHeartbeats 1600000 in
set_option maxRecDepth 100000 in
theorem implPasses_any (P : Rd) (l : RL) (E G : EndT) (w : World) (hs : P.fs w l) : Calls Try.prog 42 #[.agg #[.slice l.p1 P.a.length l.c1, .slice l.p2 P.b.length l.c2, .slice l.p3 P.c.length l.c3, .slice l.p4 P.d.length l.c4], .agg #[.int .i64 E.k, .float .f32 E.t, .float .f32 E.e], .agg #[.int .i64 G.k, .float .f32 G.t, .float .f32 G.e]] w (BC w (passI P E G) (passOk P E G)) := by
  have HS := Lib.hid hs
  have HV := Lib.hid (fun w h => implValidRod_any P l w h)
  have HE1 := Lib.hid (fun w => implValidEnd_any E w)
  have HE2 := Lib.hid (fun w => implValidEnd_any G w)
  rcases f0 : P.ok
  · have hno : endsOk P E G = false := by unfold endsOk; rw [f0]; rfl
    have HI := Lib.hid (passI_no hno)
    have HO := Lib.hid (passOk_no hno)
    rw [f0] at HV
    clear hs hno
    go_enter Try.func42, Try.ntmps42
    go_wp2_with (first | (with_reducible refine at_list ?_; refine wpList_fop rfl rfl rfl rfl rfl ?_; intro r n hr0; have hr := hr0 _ _ (by first | with_reducible assumption | exact rfl) (by first | with_reducible assumption | exact rfl); clear hr0) | (with_reducible refine at_list ?_; refine wpList_neg rfl rfl rfl ?_; intro r hr0; have hr := hr0 _ (by first | with_reducible assumption | exact rfl); clear hr0) | (with_reducible refine at_list ?_; refine wpList_fop_g rfl rfl rfl rfl rfl ?_; intro r n hr0; have hr := hr0 _ _ (by first | with_reducible assumption | exact rfl) (by first | with_reducible assumption | exact rfl); clear hr0) | (with_reducible refine at_list ?_; refine wpList_wide_g rfl rfl Try.underlying28 Try.underlying39 rfl ?_; intro r n hr0; have hr := hr0 _ (by first | with_reducible assumption | exact rfl); clear hr0) | (with_reducible refine at_list ?_; refine wpList_wide rfl rfl rfl Try.underlying28 Try.underlying39 ?_; intro r n hr0; have hr := hr0 _ (by first | with_reducible assumption | exact rfl); clear hr0) | (go_at_call 35; refine ((HV.out _ (HS.out.later (by (repeat (first | (with_reducible exact Below.refl _ _) | (with_reducible assumption) | (with_reducible refine below_then ?_ (by assumption)) | (with_reducible refine Below.trans ?_ (by assumption)) | (with_reducible refine below_drewN ?_ _) | (with_reducible apply Below.drew) | (with_reducible refine below_alloc ?_ _) | refine Below.setCell ?_ (by first | (simp; done) | (simp; omega)) _))))) ).mono ?_; rintro e w' ⟨rfl, hb⟩; obtain ⟨hT, hk⟩ := bv_next hb (by (repeat (with_reducible first | assumption | apply Trk.alloc | apply Trk.setCell | apply Trk.drewN | apply Trk.drew | exact Trk.nil _))); simp only [SameOn, World.size_alloc, World.size_setCell, World.size_drew, size_drewN', and_true] at hk; have hsz := Below.size hb; (try simp only [World.size_alloc, World.size_setCell, World.size_drew, size_drewN'] at hsz)) | (go_at_call_of 36 (Value.agg #[.int .i64 E.k, .float .f32 E.t, .float .f32 E.e]); refine ((HE1.out _) ).mono ?_; rintro e w' ⟨rfl, hb⟩; obtain ⟨hT, hk⟩ := bv_next hb (by (repeat (with_reducible first | assumption | apply Trk.alloc | apply Trk.setCell | apply Trk.drewN | apply Trk.drew | exact Trk.nil _))); simp only [SameOn, World.size_alloc, World.size_setCell, World.size_drew, size_drewN', and_true] at hk; have hsz := Below.size hb; (try simp only [World.size_alloc, World.size_setCell, World.size_drew, size_drewN'] at hsz)) | (go_at_call_of 36 (Value.agg #[.int .i64 G.k, .float .f32 G.t, .float .f32 G.e]); refine ((HE2.out _) ).mono ?_; rintro e w' ⟨rfl, hb⟩; obtain ⟨hT, hk⟩ := bv_next hb (by (repeat (with_reducible first | assumption | apply Trk.alloc | apply Trk.setCell | apply Trk.drewN | apply Trk.drew | exact Trk.nil _))); simp only [SameOn, World.size_alloc, World.size_setCell, World.size_drew, size_drewN', and_true] at hk; have hsz := Below.size hb; (try simp only [World.size_alloc, World.size_setCell, World.size_drew, size_drewN'] at hsz)) | (go_at_call 72; refine (passAt_any _ _ _ _ _ (by assumption) (by assumption) (by omega)).mono ?_; rintro e w' ⟨r, rfl, hr, hb⟩; obtain ⟨hT, hk⟩ := bv_next hb (by (repeat (with_reducible first | assumption | apply Trk.alloc | apply Trk.setCell | apply Trk.drewN | apply Trk.drew | exact Trk.nil _))); simp only [SameOn, World.size_alloc, World.size_setCell, World.size_drew, size_drewN', and_true] at hk; have hsz := Below.size hb; (try simp only [World.size_alloc, World.size_setCell, World.size_drew, size_drewN'] at hsz)) | (go_at_call 73; refine (passBetween_any _ _ _ _ (by assumption) (by assumption) (by omega)).mono ?_; rintro e w' ⟨r, rfl, hr, hb⟩; obtain ⟨hT, hk⟩ := bv_next hb (by (repeat (with_reducible first | assumption | apply Trk.alloc | apply Trk.setCell | apply Trk.drewN | apply Trk.drew | exact Trk.nil _))); simp only [SameOn, World.size_alloc, World.size_setCell, World.size_drew, size_drewN', and_true] at hk; have hsz := Below.size hb; (try simp only [World.size_alloc, World.size_setCell, World.size_drew, size_drewN'] at hsz)) | (go_at_call 44; refine (areFinite_any _ _ _ (by assumption)).mono ?_; rintro e w' ⟨rfl, n, rfl⟩))
    all_goals
      go_ret2
      exact ⟨_, [], by rw [HO.out]; rfl, by (repeat (first | (with_reducible exact Below.refl _ _) | (with_reducible assumption) | (with_reducible refine below_then ?_ (by assumption)) | (with_reducible refine Below.trans ?_ (by assumption)) | (with_reducible refine below_drewN ?_ _) | (with_reducible apply Below.drew) | (with_reducible refine below_alloc ?_ _) | refine Below.setCell ?_ (by first | (simp; done) | (simp; omega)) _)), OF.nil0 _ _, by rw [HI.out]; rfl⟩
  rw [f0] at HV
  rcases f1 : E.ok
  · have hno : endsOk P E G = false := by unfold endsOk; rw [f1]; simp
    have HI := Lib.hid (passI_no hno)
    have HO := Lib.hid (passOk_no hno)
    rw [f1] at HE1
    clear hs hno f0
    go_enter Try.func42, Try.ntmps42
    go_wp2_with (first | (with_reducible refine at_list ?_; refine wpList_fop rfl rfl rfl rfl rfl ?_; intro r n hr0; have hr := hr0 _ _ (by first | with_reducible assumption | exact rfl) (by first | with_reducible assumption | exact rfl); clear hr0) | (with_reducible refine at_list ?_; refine wpList_neg rfl rfl rfl ?_; intro r hr0; have hr := hr0 _ (by first | with_reducible assumption | exact rfl); clear hr0) | (with_reducible refine at_list ?_; refine wpList_fop_g rfl rfl rfl rfl rfl ?_; intro r n hr0; have hr := hr0 _ _ (by first | with_reducible assumption | exact rfl) (by first | with_reducible assumption | exact rfl); clear hr0) | (with_reducible refine at_list ?_; refine wpList_wide_g rfl rfl Try.underlying28 Try.underlying39 rfl ?_; intro r n hr0; have hr := hr0 _ (by first | with_reducible assumption | exact rfl); clear hr0) | (with_reducible refine at_list ?_; refine wpList_wide rfl rfl rfl Try.underlying28 Try.underlying39 ?_; intro r n hr0; have hr := hr0 _ (by first | with_reducible assumption | exact rfl); clear hr0) | (go_at_call 35; refine ((HV.out _ (HS.out.later (by (repeat (first | (with_reducible exact Below.refl _ _) | (with_reducible assumption) | (with_reducible refine below_then ?_ (by assumption)) | (with_reducible refine Below.trans ?_ (by assumption)) | (with_reducible refine below_drewN ?_ _) | (with_reducible apply Below.drew) | (with_reducible refine below_alloc ?_ _) | refine Below.setCell ?_ (by first | (simp; done) | (simp; omega)) _))))) ).mono ?_; rintro e w' ⟨rfl, hb⟩; obtain ⟨hT, hk⟩ := bv_next hb (by (repeat (with_reducible first | assumption | apply Trk.alloc | apply Trk.setCell | apply Trk.drewN | apply Trk.drew | exact Trk.nil _))); simp only [SameOn, World.size_alloc, World.size_setCell, World.size_drew, size_drewN', and_true] at hk; have hsz := Below.size hb; (try simp only [World.size_alloc, World.size_setCell, World.size_drew, size_drewN'] at hsz)) | (go_at_call_of 36 (Value.agg #[.int .i64 E.k, .float .f32 E.t, .float .f32 E.e]); refine ((HE1.out _) ).mono ?_; rintro e w' ⟨rfl, hb⟩; obtain ⟨hT, hk⟩ := bv_next hb (by (repeat (with_reducible first | assumption | apply Trk.alloc | apply Trk.setCell | apply Trk.drewN | apply Trk.drew | exact Trk.nil _))); simp only [SameOn, World.size_alloc, World.size_setCell, World.size_drew, size_drewN', and_true] at hk; have hsz := Below.size hb; (try simp only [World.size_alloc, World.size_setCell, World.size_drew, size_drewN'] at hsz)) | (go_at_call_of 36 (Value.agg #[.int .i64 G.k, .float .f32 G.t, .float .f32 G.e]); refine ((HE2.out _) ).mono ?_; rintro e w' ⟨rfl, hb⟩; obtain ⟨hT, hk⟩ := bv_next hb (by (repeat (with_reducible first | assumption | apply Trk.alloc | apply Trk.setCell | apply Trk.drewN | apply Trk.drew | exact Trk.nil _))); simp only [SameOn, World.size_alloc, World.size_setCell, World.size_drew, size_drewN', and_true] at hk; have hsz := Below.size hb; (try simp only [World.size_alloc, World.size_setCell, World.size_drew, size_drewN'] at hsz)) | (go_at_call 72; refine (passAt_any _ _ _ _ _ (by assumption) (by assumption) (by omega)).mono ?_; rintro e w' ⟨r, rfl, hr, hb⟩; obtain ⟨hT, hk⟩ := bv_next hb (by (repeat (with_reducible first | assumption | apply Trk.alloc | apply Trk.setCell | apply Trk.drewN | apply Trk.drew | exact Trk.nil _))); simp only [SameOn, World.size_alloc, World.size_setCell, World.size_drew, size_drewN', and_true] at hk; have hsz := Below.size hb; (try simp only [World.size_alloc, World.size_setCell, World.size_drew, size_drewN'] at hsz)) | (go_at_call 73; refine (passBetween_any _ _ _ _ (by assumption) (by assumption) (by omega)).mono ?_; rintro e w' ⟨r, rfl, hr, hb⟩; obtain ⟨hT, hk⟩ := bv_next hb (by (repeat (with_reducible first | assumption | apply Trk.alloc | apply Trk.setCell | apply Trk.drewN | apply Trk.drew | exact Trk.nil _))); simp only [SameOn, World.size_alloc, World.size_setCell, World.size_drew, size_drewN', and_true] at hk; have hsz := Below.size hb; (try simp only [World.size_alloc, World.size_setCell, World.size_drew, size_drewN'] at hsz)) | (go_at_call 44; refine (areFinite_any _ _ _ (by assumption)).mono ?_; rintro e w' ⟨rfl, n, rfl⟩))
    all_goals
      go_ret2
      exact ⟨_, [], by rw [HO.out]; rfl, by (repeat (first | (with_reducible exact Below.refl _ _) | (with_reducible assumption) | (with_reducible refine below_then ?_ (by assumption)) | (with_reducible refine Below.trans ?_ (by assumption)) | (with_reducible refine below_drewN ?_ _) | (with_reducible apply Below.drew) | (with_reducible refine below_alloc ?_ _) | refine Below.setCell ?_ (by first | (simp; done) | (simp; omega)) _)), OF.nil0 _ _, by rw [HI.out]; rfl⟩
  rw [f1] at HE1
  rcases f2 : G.ok
  · have hno : endsOk P E G = false := by unfold endsOk; rw [f2]; simp
    have HI := Lib.hid (passI_no hno)
    have HO := Lib.hid (passOk_no hno)
    rw [f2] at HE2
    clear hs hno f0 f1
    go_enter Try.func42, Try.ntmps42
    go_wp2_with (first | (with_reducible refine at_list ?_; refine wpList_fop rfl rfl rfl rfl rfl ?_; intro r n hr0; have hr := hr0 _ _ (by first | with_reducible assumption | exact rfl) (by first | with_reducible assumption | exact rfl); clear hr0) | (with_reducible refine at_list ?_; refine wpList_neg rfl rfl rfl ?_; intro r hr0; have hr := hr0 _ (by first | with_reducible assumption | exact rfl); clear hr0) | (with_reducible refine at_list ?_; refine wpList_fop_g rfl rfl rfl rfl rfl ?_; intro r n hr0; have hr := hr0 _ _ (by first | with_reducible assumption | exact rfl) (by first | with_reducible assumption | exact rfl); clear hr0) | (with_reducible refine at_list ?_; refine wpList_wide_g rfl rfl Try.underlying28 Try.underlying39 rfl ?_; intro r n hr0; have hr := hr0 _ (by first | with_reducible assumption | exact rfl); clear hr0) | (with_reducible refine at_list ?_; refine wpList_wide rfl rfl rfl Try.underlying28 Try.underlying39 ?_; intro r n hr0; have hr := hr0 _ (by first | with_reducible assumption | exact rfl); clear hr0) | (go_at_call 35; refine ((HV.out _ (HS.out.later (by (repeat (first | (with_reducible exact Below.refl _ _) | (with_reducible assumption) | (with_reducible refine below_then ?_ (by assumption)) | (with_reducible refine Below.trans ?_ (by assumption)) | (with_reducible refine below_drewN ?_ _) | (with_reducible apply Below.drew) | (with_reducible refine below_alloc ?_ _) | refine Below.setCell ?_ (by first | (simp; done) | (simp; omega)) _))))) ).mono ?_; rintro e w' ⟨rfl, hb⟩; obtain ⟨hT, hk⟩ := bv_next hb (by (repeat (with_reducible first | assumption | apply Trk.alloc | apply Trk.setCell | apply Trk.drewN | apply Trk.drew | exact Trk.nil _))); simp only [SameOn, World.size_alloc, World.size_setCell, World.size_drew, size_drewN', and_true] at hk; have hsz := Below.size hb; (try simp only [World.size_alloc, World.size_setCell, World.size_drew, size_drewN'] at hsz)) | (go_at_call_of 36 (Value.agg #[.int .i64 E.k, .float .f32 E.t, .float .f32 E.e]); refine ((HE1.out _) ).mono ?_; rintro e w' ⟨rfl, hb⟩; obtain ⟨hT, hk⟩ := bv_next hb (by (repeat (with_reducible first | assumption | apply Trk.alloc | apply Trk.setCell | apply Trk.drewN | apply Trk.drew | exact Trk.nil _))); simp only [SameOn, World.size_alloc, World.size_setCell, World.size_drew, size_drewN', and_true] at hk; have hsz := Below.size hb; (try simp only [World.size_alloc, World.size_setCell, World.size_drew, size_drewN'] at hsz)) | (go_at_call_of 36 (Value.agg #[.int .i64 G.k, .float .f32 G.t, .float .f32 G.e]); refine ((HE2.out _) ).mono ?_; rintro e w' ⟨rfl, hb⟩; obtain ⟨hT, hk⟩ := bv_next hb (by (repeat (with_reducible first | assumption | apply Trk.alloc | apply Trk.setCell | apply Trk.drewN | apply Trk.drew | exact Trk.nil _))); simp only [SameOn, World.size_alloc, World.size_setCell, World.size_drew, size_drewN', and_true] at hk; have hsz := Below.size hb; (try simp only [World.size_alloc, World.size_setCell, World.size_drew, size_drewN'] at hsz)) | (go_at_call 72; refine (passAt_any _ _ _ _ _ (by assumption) (by assumption) (by omega)).mono ?_; rintro e w' ⟨r, rfl, hr, hb⟩; obtain ⟨hT, hk⟩ := bv_next hb (by (repeat (with_reducible first | assumption | apply Trk.alloc | apply Trk.setCell | apply Trk.drewN | apply Trk.drew | exact Trk.nil _))); simp only [SameOn, World.size_alloc, World.size_setCell, World.size_drew, size_drewN', and_true] at hk; have hsz := Below.size hb; (try simp only [World.size_alloc, World.size_setCell, World.size_drew, size_drewN'] at hsz)) | (go_at_call 73; refine (passBetween_any _ _ _ _ (by assumption) (by assumption) (by omega)).mono ?_; rintro e w' ⟨r, rfl, hr, hb⟩; obtain ⟨hT, hk⟩ := bv_next hb (by (repeat (with_reducible first | assumption | apply Trk.alloc | apply Trk.setCell | apply Trk.drewN | apply Trk.drew | exact Trk.nil _))); simp only [SameOn, World.size_alloc, World.size_setCell, World.size_drew, size_drewN', and_true] at hk; have hsz := Below.size hb; (try simp only [World.size_alloc, World.size_setCell, World.size_drew, size_drewN'] at hsz)) | (go_at_call 44; refine (areFinite_any _ _ _ (by assumption)).mono ?_; rintro e w' ⟨rfl, n, rfl⟩))
    all_goals
      go_ret2
      exact ⟨_, [], by rw [HO.out]; rfl, by (repeat (first | (with_reducible exact Below.refl _ _) | (with_reducible assumption) | (with_reducible refine below_then ?_ (by assumption)) | (with_reducible refine Below.trans ?_ (by assumption)) | (with_reducible refine below_drewN ?_ _) | (with_reducible apply Below.drew) | (with_reducible refine below_alloc ?_ _) | refine Below.setCell ?_ (by first | (simp; done) | (simp; omega)) _)), OF.nil0 _ _, by rw [HI.out]; rfl⟩
  rw [f2] at HE2
  have hyes : endsOk P E G = true := by unfold endsOk; rw [f0, f1, f2]; rfl
  have HI := Lib.hid (passI_ok hyes)
  have HO := Lib.hid (passOk_ok hyes)
  have HPF : Hid (passFin P E G = !(passL P E G).any fun x => !fin .f32 x) := rfl
  obtain ⟨hn1, hn2⟩ := (Rd.ok_len f0).1
  have H1 : Hid (∀ w', Below w.heap.size w w' → Calls Try.prog 72 #[.agg #[.slice l.p1 P.a.length l.c1, .slice l.p2 P.b.length l.c2, .slice l.p3 P.c.length l.c3, .slice l.p4 P.d.length l.c4], .int .i64 (0 : Int), .agg #[.int .i64 E.k, .float .f32 E.t, .float .f32 E.e]] w' (BF w' .f32 (endV P 0 E))) := fun w' h => passAt_any P l 0 E w' (HS.out.later h) f0 (by omega)
  have H2 : Hid (∀ k w', Below w.heap.size w w' → k + 1 < P.a.length → Calls Try.prog 73 #[.agg #[.slice l.p1 P.a.length l.c1, .slice l.p2 P.b.length l.c2, .slice l.p3 P.c.length l.c3, .slice l.p4 P.d.length l.c4], .int .i64 (k : Int)] w' (BF w' .f32 (betV P k))) := fun k w' h hk => passBetween_any P l k w' (HS.out.later h) f0 hk
  have H3 : Hid (∀ w', Below w.heap.size w w' → Calls Try.prog 72 #[.agg #[.slice l.p1 P.a.length l.c1, .slice l.p2 P.b.length l.c2, .slice l.p3 P.c.length l.c3, .slice l.p4 P.d.length l.c4], .int .i64 ((P.a.length : Int) - 1), .agg #[.int .i64 G.k, .float .f32 G.t, .float .f32 G.e]] w' (BF w' .f32 (endV P (P.a.length - 1) G))) := fun w' h => by
    have := passAt_any P l (P.a.length - 1) G w' (HS.out.later h) f0 (by omega)
    rwa [show ((P.a.length - 1 : Nat) : Int) = (P.a.length : Int) - 1 by omega] at this
  have hq0 : IntKind.i64.wrap ((P.a.length : Int) - 1) = (P.a.length : Int) - 1 := IntWalk.i64_in _ (by omega)
  clear hs hyes f0 f1 f2
  go_enter Try.func42, Try.ntmps42
  go_wp2_with (first | (with_reducible refine at_list ?_; refine wpList_fop rfl rfl rfl rfl rfl ?_; intro r n hr0; have hr := hr0 _ _ (by first | with_reducible assumption | exact rfl) (by first | with_reducible assumption | exact rfl); clear hr0) | (with_reducible refine at_list ?_; refine wpList_neg rfl rfl rfl ?_; intro r hr0; have hr := hr0 _ (by first | with_reducible assumption | exact rfl); clear hr0) | (with_reducible refine at_list ?_; refine wpList_fop_g rfl rfl rfl rfl rfl ?_; intro r n hr0; have hr := hr0 _ _ (by first | with_reducible assumption | exact rfl) (by first | with_reducible assumption | exact rfl); clear hr0) | (with_reducible refine at_list ?_; refine wpList_wide_g rfl rfl Try.underlying28 Try.underlying39 rfl ?_; intro r n hr0; have hr := hr0 _ (by first | with_reducible assumption | exact rfl); clear hr0) | (with_reducible refine at_list ?_; refine wpList_wide rfl rfl rfl Try.underlying28 Try.underlying39 ?_; intro r n hr0; have hr := hr0 _ (by first | with_reducible assumption | exact rfl); clear hr0) | (go_at_call 35; refine ((HV.out _ (HS.out.later (by (repeat (first | (with_reducible exact Below.refl _ _) | (with_reducible assumption) | (with_reducible refine below_then ?_ (by assumption)) | (with_reducible refine Below.trans ?_ (by assumption)) | (with_reducible refine below_drewN ?_ _) | (with_reducible apply Below.drew) | (with_reducible refine below_alloc ?_ _) | refine Below.setCell ?_ (by first | (simp; done) | (simp; omega)) _))))) ).mono ?_; rintro e w' ⟨rfl, hb⟩; obtain ⟨hT, hk⟩ := bv_next hb (by (repeat (with_reducible first | assumption | apply Trk.alloc | apply Trk.setCell | apply Trk.drewN | apply Trk.drew | exact Trk.nil _))); simp only [SameOn, World.size_alloc, World.size_setCell, World.size_drew, size_drewN', and_true] at hk; have hsz := Below.size hb; (try simp only [World.size_alloc, World.size_setCell, World.size_drew, size_drewN'] at hsz)) | (go_at_call_of 36 (Value.agg #[.int .i64 E.k, .float .f32 E.t, .float .f32 E.e]); refine ((HE1.out _) ).mono ?_; rintro e w' ⟨rfl, hb⟩; obtain ⟨hT, hk⟩ := bv_next hb (by (repeat (with_reducible first | assumption | apply Trk.alloc | apply Trk.setCell | apply Trk.drewN | apply Trk.drew | exact Trk.nil _))); simp only [SameOn, World.size_alloc, World.size_setCell, World.size_drew, size_drewN', and_true] at hk; have hsz := Below.size hb; (try simp only [World.size_alloc, World.size_setCell, World.size_drew, size_drewN'] at hsz)) | (go_at_call_of 36 (Value.agg #[.int .i64 G.k, .float .f32 G.t, .float .f32 G.e]); refine ((HE2.out _) ).mono ?_; rintro e w' ⟨rfl, hb⟩; obtain ⟨hT, hk⟩ := bv_next hb (by (repeat (with_reducible first | assumption | apply Trk.alloc | apply Trk.setCell | apply Trk.drewN | apply Trk.drew | exact Trk.nil _))); simp only [SameOn, World.size_alloc, World.size_setCell, World.size_drew, size_drewN', and_true] at hk; have hsz := Below.size hb; (try simp only [World.size_alloc, World.size_setCell, World.size_drew, size_drewN'] at hsz)) | (go_at_call 72; refine ((H1.out _ (by (repeat (first | (with_reducible exact Below.refl _ _) | (with_reducible assumption) | (with_reducible refine below_then ?_ (by assumption)) | (with_reducible refine Below.trans ?_ (by assumption)) | (with_reducible refine below_drewN ?_ _) | (with_reducible apply Below.drew) | (with_reducible refine below_alloc ?_ _) | refine Below.setCell ?_ (by first | (simp; done) | (simp; omega)) _)))) ).mono ?_; rintro e w' ⟨r, rfl, hr, hb⟩; obtain ⟨hT, hk⟩ := bv_next hb (by (repeat (with_reducible first | assumption | apply Trk.alloc | apply Trk.setCell | apply Trk.drewN | apply Trk.drew | exact Trk.nil _))); simp only [SameOn, World.size_alloc, World.size_setCell, World.size_drew, size_drewN', and_true] at hk; have hsz := Below.size hb; (try simp only [World.size_alloc, World.size_setCell, World.size_drew, size_drewN'] at hsz)) | (go_at_call 73; refine (passBetween_any _ _ _ _ (by assumption) (by assumption) (by omega)).mono ?_; rintro e w' ⟨r, rfl, hr, hb⟩; obtain ⟨hT, hk⟩ := bv_next hb (by (repeat (with_reducible first | assumption | apply Trk.alloc | apply Trk.setCell | apply Trk.drewN | apply Trk.drew | exact Trk.nil _))); simp only [SameOn, World.size_alloc, World.size_setCell, World.size_drew, size_drewN', and_true] at hk; have hsz := Below.size hb; (try simp only [World.size_alloc, World.size_setCell, World.size_drew, size_drewN'] at hsz)) | (go_at_call 44; refine (areFinite_any _ _ _ (by assumption)).mono ?_; rintro e w' ⟨rfl, n, rfl⟩))
  refine wp_named ?_
  intro ws hws
  have hBs : Below w.heap.size w ws := by rw [hws]; (repeat (first | (with_reducible exact Below.refl _ _) | (with_reducible assumption) | (with_reducible refine below_then ?_ (by assumption)) | (with_reducible refine Below.trans ?_ (by assumption)) | (with_reducible refine below_drewN ?_ _) | (with_reducible apply Below.drew) | (with_reducible refine below_alloc ?_ _) | refine Below.setCell ?_ (by first | (simp; done) | (simp; omega)) _))
  have hzs : w.heap.size + 3 ≤ ws.heap.size := by rw [hws]; first | omega | (simp; done) | (simp; omega)
  have hat : RdAt P l ws w.heap.size 0 := by rw [hws]; exact (by unfold RdAt; refine ⟨?_, ?_, ?_, ?_⟩ <;> go_simp)
  have hag : EnAt G ws (w.heap.size + 2) 0 := by rw [hws]; exact (by unfold EnAt; refine ⟨?_, ?_, ?_⟩ <;> go_simp)
  have HR0 : Hid ([r].map (cn .f32) = passK P E 0) := by show _ = _; simp [passK, hr]
  have HO00 : Hid (OF (w.heap.size + 3) ws (.slice (some ⟨w'.heap.size, 0, none⟩) 1 1) [r]) := by rw [hws]; exact OF.one _ _ rfl (by omega) rfl
  clear hws
  go_loopw [9, 33] (fun u t wr => ∃ (k c : Nat) (q : Option Addr) (ys : List Nat), k + 1 ≤ P.a.length ∧ t = .int .i64 (k : Int) ∧ u = .slice q ys.length c ∧ ys.length = k + 1 ∧ Hid (OF (w.heap.size + 3) wr (.slice q ys.length c) ys) ∧ Hid (ys.map (cn .f32) = passK P E k) ∧ Below w.heap.size w wr ∧ w.heap.size + 3 ≤ wr.heap.size ∧ Hid (RdAt P l wr w.heap.size 0) ∧ Hid (EnAt G wr (w.heap.size + 2) 0)) (fun _ t _ => P.a.length - (intOf t).toNat)
  case atStart => exact ⟨0, 1, some ⟨_, 0, none⟩, [r], by omega, rfl, rfl, rfl, HO00.out, HR0.out, hBs, hzs, hat, hag⟩
  case round =>
    clear hBs hzs hat hag HO00 HR0
    obtain ⟨k, c, q, ys, hk, rfl, rfl, hyl, HOF, HL, hB, hzr, HAT, HAG⟩ := hrel
    have HYL := Lib.hid hyl
    obtain ⟨d0, d1, d2, d3⟩ := HAT.out
    obtain ⟨g0, g1, g2⟩ := HAG.out
    simp only [Nat.zero_add] at d0 d1 d2 d3 g0 g1 g2
    by_cases hlt : k + 1 < P.a.length
    · have hlti : (k : Int) < (P.a.length : Int) - 1 := by omega
      have hT : Trk wr [w.heap.size, w.heap.size + 2] := ((Trk.nil wr).more (by omega)).more (by omega)
      have hyn : ys.length ≤ 48 := by omega
      have H2k := Lib.hid (fun w' h => H2.out k w' h hlt)
      clear hyl
      go_wp2_with (first | (with_reducible refine at_list ?_; refine wpList_fop rfl rfl rfl rfl rfl ?_; intro r n hr0; have hr := hr0 _ _ (by first | with_reducible assumption | exact rfl) (by first | with_reducible assumption | exact rfl); clear hr0) | (with_reducible refine at_list ?_; refine wpList_neg rfl rfl rfl ?_; intro r hr0; have hr := hr0 _ (by first | with_reducible assumption | exact rfl); clear hr0) | (with_reducible refine at_list ?_; refine wpList_fop_g rfl rfl rfl rfl rfl ?_; intro r n hr0; have hr := hr0 _ _ (by first | with_reducible assumption | exact rfl) (by first | with_reducible assumption | exact rfl); clear hr0) | (with_reducible refine at_list ?_; refine wpList_wide_g rfl rfl Try.underlying28 Try.underlying39 rfl ?_; intro r n hr0; have hr := hr0 _ (by first | with_reducible assumption | exact rfl); clear hr0) | (with_reducible refine at_list ?_; refine wpList_wide rfl rfl rfl Try.underlying28 Try.underlying39 ?_; intro r n hr0; have hr := hr0 _ (by first | with_reducible assumption | exact rfl); clear hr0) | (at_builtin; refine stop_here ?_) | (go_at_call 35; refine (implValidRod_any _ _ _ (by assumption)).mono ?_; rintro e w' ⟨rfl, hb⟩; obtain ⟨hT, hk⟩ := bv_next hb (by (repeat (with_reducible first | assumption | apply Trk.alloc | apply Trk.setCell | apply Trk.drewN | apply Trk.drew | exact Trk.nil _))); simp only [SameOn, World.size_alloc, World.size_setCell, World.size_drew, size_drewN', and_true] at hk; have hsz := Below.size hb; (try simp only [World.size_alloc, World.size_setCell, World.size_drew, size_drewN'] at hsz)) | (go_at_call 36; refine (implValidEnd_any _ _).mono ?_; rintro e w' ⟨rfl, hb⟩; obtain ⟨hT, hk⟩ := bv_next hb (by (repeat (with_reducible first | assumption | apply Trk.alloc | apply Trk.setCell | apply Trk.drewN | apply Trk.drew | exact Trk.nil _))); simp only [SameOn, World.size_alloc, World.size_setCell, World.size_drew, size_drewN', and_true] at hk; have hsz := Below.size hb; (try simp only [World.size_alloc, World.size_setCell, World.size_drew, size_drewN'] at hsz)) | (go_at_call 72; refine (passAt_any _ _ _ _ _ (by assumption) (by assumption) (by omega)).mono ?_; rintro e w' ⟨r, rfl, hr, hb⟩; obtain ⟨hT, hk⟩ := bv_next hb (by (repeat (with_reducible first | assumption | apply Trk.alloc | apply Trk.setCell | apply Trk.drewN | apply Trk.drew | exact Trk.nil _))); simp only [SameOn, World.size_alloc, World.size_setCell, World.size_drew, size_drewN', and_true] at hk; have hsz := Below.size hb; (try simp only [World.size_alloc, World.size_setCell, World.size_drew, size_drewN'] at hsz)) | (go_at_call 73; refine ((H2k.out _ (by (repeat (first | (with_reducible exact Below.refl _ _) | (with_reducible assumption) | (with_reducible refine below_then ?_ (by assumption)) | (with_reducible refine Below.trans ?_ (by assumption)) | (with_reducible refine below_drewN ?_ _) | (with_reducible apply Below.drew) | (with_reducible refine below_alloc ?_ _) | refine Below.setCell ?_ (by first | (simp; done) | (simp; omega)) _)))) ).mono ?_; rintro e w' ⟨r, rfl, hr, hb⟩; obtain ⟨hT, hk⟩ := bv_next hb (by (repeat (with_reducible first | assumption | apply Trk.alloc | apply Trk.setCell | apply Trk.drewN | apply Trk.drew | exact Trk.nil _))); simp only [SameOn, World.size_alloc, World.size_setCell, World.size_drew, size_drewN', and_true] at hk; have hsz := Below.size hb; (try simp only [World.size_alloc, World.size_setCell, World.size_drew, size_drewN'] at hsz)) | (go_at_call 44; refine (areFinite_any _ _ _ (by assumption)).mono ?_; rintro e w' ⟨rfl, n, rfl⟩))
      unfold Stop
      apply wpList_app (B := w.heap.size + 3) (xs := ys) (v := .slice q ys.length c)
      case hg => rfl
      case ho => rfl
      case hs => rfl
      case hx => rfl
      case hO => exact OF.alloc (OF.later HOF.out (by (repeat (first | (with_reducible exact Below.refl _ _) | (with_reducible assumption) | (with_reducible refine below_then ?_ (by assumption)) | (with_reducible refine Below.trans ?_ (by assumption)) | (with_reducible refine below_drewN ?_ _) | (with_reducible apply Below.drew) | (with_reducible refine below_alloc ?_ _) | refine Below.setCell ?_ (by first | (simp; done) | (simp; omega)) _)))) _
      case hc => go_simp <;> exact rfl
      case hn => omega
      case hB => simp; omega
      intro q2 c2' w2 hO2 hB2
      have hw2 : w.heap.size + 3 ≤ w2.heap.size := by have := hB2.size; simp at this; omega
      have hB3 := Below.trans (B := w.heap.size) (a := w) (by (repeat (first | (with_reducible exact Below.refl _ _) | (with_reducible assumption) | (with_reducible refine below_then ?_ (by assumption)) | (with_reducible refine Below.trans ?_ (by assumption)) | (with_reducible refine below_drewN ?_ _) | (with_reducible apply Below.drew) | (with_reducible refine below_alloc ?_ _) | refine Below.setCell ?_ (by first | (simp; done) | (simp; omega)) _))) (hB2.mono (by omega))
      have hat2 : RdAt P l w2 w.heap.size 0 := rd_later (by unfold RdAt; refine ⟨?_, ?_, ?_, ?_⟩ <;> go_simp) hB2 (by omega)
      have hag2 : EnAt G w2 (w.heap.size + 2) 0 := en_later (by unfold EnAt; refine ⟨?_, ?_, ?_⟩ <;> go_simp) hB2 (by omega)
      have hL2 : Hid ((ys ++ [r]).map (cn .f32) = passK P E (k + 1)) := by
        show _ = _
        rw [passK_step]
        exact app_cn HL.out (by assumption)
      have HB3 := Lib.hid hB3
      have HO2 := Lib.hid hO2
      have HA2 := Lib.hid hat2
      have HG2 := Lib.hid hag2
      clear hB3 hB2 hO2 hat2 hag2
      go_wp2
      go_roundw
      case rel => exact ⟨k + 1, c2', q2, ys ++ [r], by omega, by go_num, by simp, by simp [HYL.out], by show OF _ _ _ _; have := HO2.out; simpa using this, hL2.out, HB3.out, hw2, HA2.out, HG2.out⟩
      case measure => simp [intOf]; omega
      all_goals first | kernel_rfl | rfl
    · have hlti : ¬ (k : Int) < (P.a.length : Int) - 1 := by omega
      have hke : P.a.length - 1 = k := by omega
      have HKE := Lib.hid hke
      have hT : Trk wr [w.heap.size, w.heap.size + 2] := ((Trk.nil wr).more (by omega)).more (by omega)
      have hyn : ys.length ≤ 48 := by omega
      clear hyl hke
      go_wp2_with (first | (with_reducible refine at_list ?_; refine wpList_fop rfl rfl rfl rfl rfl ?_; intro r n hr0; have hr := hr0 _ _ (by first | with_reducible assumption | exact rfl) (by first | with_reducible assumption | exact rfl); clear hr0) | (with_reducible refine at_list ?_; refine wpList_neg rfl rfl rfl ?_; intro r hr0; have hr := hr0 _ (by first | with_reducible assumption | exact rfl); clear hr0) | (with_reducible refine at_list ?_; refine wpList_fop_g rfl rfl rfl rfl rfl ?_; intro r n hr0; have hr := hr0 _ _ (by first | with_reducible assumption | exact rfl) (by first | with_reducible assumption | exact rfl); clear hr0) | (with_reducible refine at_list ?_; refine wpList_wide_g rfl rfl Try.underlying28 Try.underlying39 rfl ?_; intro r n hr0; have hr := hr0 _ (by first | with_reducible assumption | exact rfl); clear hr0) | (with_reducible refine at_list ?_; refine wpList_wide rfl rfl rfl Try.underlying28 Try.underlying39 ?_; intro r n hr0; have hr := hr0 _ (by first | with_reducible assumption | exact rfl); clear hr0) | (at_builtin; refine stop_here ?_) | (go_at_call 35; refine (implValidRod_any _ _ _ (by assumption)).mono ?_; rintro e w' ⟨rfl, hb⟩; obtain ⟨hT, hk⟩ := bv_next hb (by (repeat (with_reducible first | assumption | apply Trk.alloc | apply Trk.setCell | apply Trk.drewN | apply Trk.drew | exact Trk.nil _))); simp only [SameOn, World.size_alloc, World.size_setCell, World.size_drew, size_drewN', and_true] at hk; have hsz := Below.size hb; (try simp only [World.size_alloc, World.size_setCell, World.size_drew, size_drewN'] at hsz)) | (go_at_call 36; refine (implValidEnd_any _ _).mono ?_; rintro e w' ⟨rfl, hb⟩; obtain ⟨hT, hk⟩ := bv_next hb (by (repeat (with_reducible first | assumption | apply Trk.alloc | apply Trk.setCell | apply Trk.drewN | apply Trk.drew | exact Trk.nil _))); simp only [SameOn, World.size_alloc, World.size_setCell, World.size_drew, size_drewN', and_true] at hk; have hsz := Below.size hb; (try simp only [World.size_alloc, World.size_setCell, World.size_drew, size_drewN'] at hsz)) | (go_at_call 72; refine ((H3.out _ (by (repeat (first | (with_reducible exact Below.refl _ _) | (with_reducible assumption) | (with_reducible refine below_then ?_ (by assumption)) | (with_reducible refine Below.trans ?_ (by assumption)) | (with_reducible refine below_drewN ?_ _) | (with_reducible apply Below.drew) | (with_reducible refine below_alloc ?_ _) | refine Below.setCell ?_ (by first | (simp; done) | (simp; omega)) _)))) ).mono ?_; rintro e w' ⟨r, rfl, hr, hb⟩; obtain ⟨hT, hk⟩ := bv_next hb (by (repeat (with_reducible first | assumption | apply Trk.alloc | apply Trk.setCell | apply Trk.drewN | apply Trk.drew | exact Trk.nil _))); simp only [SameOn, World.size_alloc, World.size_setCell, World.size_drew, size_drewN', and_true] at hk; have hsz := Below.size hb; (try simp only [World.size_alloc, World.size_setCell, World.size_drew, size_drewN'] at hsz)) | (go_at_call 73; refine (passBetween_any _ _ _ _ (by assumption) (by assumption) (by omega)).mono ?_; rintro e w' ⟨r, rfl, hr, hb⟩; obtain ⟨hT, hk⟩ := bv_next hb (by (repeat (with_reducible first | assumption | apply Trk.alloc | apply Trk.setCell | apply Trk.drewN | apply Trk.drew | exact Trk.nil _))); simp only [SameOn, World.size_alloc, World.size_setCell, World.size_drew, size_drewN', and_true] at hk; have hsz := Below.size hb; (try simp only [World.size_alloc, World.size_setCell, World.size_drew, size_drewN'] at hsz)) | (go_at_call 44; refine (areFinite_any _ _ _ (by assumption)).mono ?_; rintro e w' ⟨rfl, n, rfl⟩))
      unfold Stop
      apply wpList_app (B := w.heap.size + 3) (xs := ys) (v := .slice q ys.length c)
      case hg => rfl
      case ho => rfl
      case hs => rfl
      case hx => rfl
      case hO => exact OF.alloc (OF.later HOF.out (by (repeat (first | (with_reducible exact Below.refl _ _) | (with_reducible assumption) | (with_reducible refine below_then ?_ (by assumption)) | (with_reducible refine Below.trans ?_ (by assumption)) | (with_reducible refine below_drewN ?_ _) | (with_reducible apply Below.drew) | (with_reducible refine below_alloc ?_ _) | refine Below.setCell ?_ (by first | (simp; done) | (simp; omega)) _)))) _
      case hc => go_simp <;> exact rfl
      case hn => omega
      case hB => simp; omega
      intro q2 c2' w2 hO2 hB2
      have hB3 := Below.trans (B := w.heap.size) (a := w) (by (repeat (first | (with_reducible exact Below.refl _ _) | (with_reducible assumption) | (with_reducible refine below_then ?_ (by assumption)) | (with_reducible refine Below.trans ?_ (by assumption)) | (with_reducible refine below_drewN ?_ _) | (with_reducible apply Below.drew) | (with_reducible refine below_alloc ?_ _) | refine Below.setCell ?_ (by first | (simp; done) | (simp; omega)) _))) (hB2.mono (by omega))
      have hw2 : w.heap.size + 3 ≤ w2.heap.size := by have := hB2.size; simp at this; omega
      have hYS : (ys ++ [r]).map (cn .f32) = passL P E G := app_cn (by rw [HL.out, HKE.out]) (by assumption)
      have HYS := Lib.hid hYS
      have hAF := areFinite_any (ys ++ [r]) (.slice q2 (ys.length + 1) c2') w2 (by have := hO2.fs; simpa using this)
      rw [any_cn _ hYS, ← HPF.out, ← HO.out] at hAF
      have HAF := Lib.hid hAF
      have HB3 := Lib.hid hB3
      have HO2 := Lib.hid hO2
      clear hB3 hB2 hO2 hYS hAF HL
      go_wp2_with (first | (with_reducible refine at_list ?_; refine wpList_fop rfl rfl rfl rfl rfl ?_; intro r n hr0; have hr := hr0 _ _ (by first | with_reducible assumption | exact rfl) (by first | with_reducible assumption | exact rfl); clear hr0) | (with_reducible refine at_list ?_; refine wpList_neg rfl rfl rfl ?_; intro r hr0; have hr := hr0 _ (by first | with_reducible assumption | exact rfl); clear hr0) | (with_reducible refine at_list ?_; refine wpList_fop_g rfl rfl rfl rfl rfl ?_; intro r n hr0; have hr := hr0 _ _ (by first | with_reducible assumption | exact rfl) (by first | with_reducible assumption | exact rfl); clear hr0) | (with_reducible refine at_list ?_; refine wpList_wide_g rfl rfl Try.underlying28 Try.underlying39 rfl ?_; intro r n hr0; have hr := hr0 _ (by first | with_reducible assumption | exact rfl); clear hr0) | (with_reducible refine at_list ?_; refine wpList_wide rfl rfl rfl Try.underlying28 Try.underlying39 ?_; intro r n hr0; have hr := hr0 _ (by first | with_reducible assumption | exact rfl); clear hr0) | (go_at_call 35; refine (implValidRod_any _ _ _ (by assumption)).mono ?_; rintro e w' ⟨rfl, hb⟩; obtain ⟨hT, hk⟩ := bv_next hb (by (repeat (with_reducible first | assumption | apply Trk.alloc | apply Trk.setCell | apply Trk.drewN | apply Trk.drew | exact Trk.nil _))); simp only [SameOn, World.size_alloc, World.size_setCell, World.size_drew, size_drewN', and_true] at hk; have hsz := Below.size hb; (try simp only [World.size_alloc, World.size_setCell, World.size_drew, size_drewN'] at hsz)) | (go_at_call 36; refine (implValidEnd_any _ _).mono ?_; rintro e w' ⟨rfl, hb⟩; obtain ⟨hT, hk⟩ := bv_next hb (by (repeat (with_reducible first | assumption | apply Trk.alloc | apply Trk.setCell | apply Trk.drewN | apply Trk.drew | exact Trk.nil _))); simp only [SameOn, World.size_alloc, World.size_setCell, World.size_drew, size_drewN', and_true] at hk; have hsz := Below.size hb; (try simp only [World.size_alloc, World.size_setCell, World.size_drew, size_drewN'] at hsz)) | (go_at_call 72; refine (passAt_any _ _ _ _ _ (by assumption) (by assumption) (by omega)).mono ?_; rintro e w' ⟨r, rfl, hr, hb⟩; obtain ⟨hT, hk⟩ := bv_next hb (by (repeat (with_reducible first | assumption | apply Trk.alloc | apply Trk.setCell | apply Trk.drewN | apply Trk.drew | exact Trk.nil _))); simp only [SameOn, World.size_alloc, World.size_setCell, World.size_drew, size_drewN', and_true] at hk; have hsz := Below.size hb; (try simp only [World.size_alloc, World.size_setCell, World.size_drew, size_drewN'] at hsz)) | (go_at_call 73; refine (passBetween_any _ _ _ _ (by assumption) (by assumption) (by omega)).mono ?_; rintro e w' ⟨r, rfl, hr, hb⟩; obtain ⟨hT, hk⟩ := bv_next hb (by (repeat (with_reducible first | assumption | apply Trk.alloc | apply Trk.setCell | apply Trk.drewN | apply Trk.drew | exact Trk.nil _))); simp only [SameOn, World.size_alloc, World.size_setCell, World.size_drew, size_drewN', and_true] at hk; have hsz := Below.size hb; (try simp only [World.size_alloc, World.size_setCell, World.size_drew, size_drewN'] at hsz)) | (go_at_call 44; refine ((HAF.out) ).mono ?_; rintro e w' ⟨rfl, n, rfl⟩))
      go_ret2
      exact ⟨_, ys ++ [r], rfl, below_drewN HB3.out _, OF.base (OF.drewN (by have := HO2.out; simpa using this) _) (by omega), HYS.out.trans HI.out.symm⟩
end Go.Proofs.Ytpnkapdemgieaaa
set_option linter.unusedSimpArgs false
set_option linter.unusedVariables false
set_option linter.unusedSectionVars false
namespace Go.Proofs.Ytpnkapdemgieaaa
open Go Go.RowKit
open Go.ChangeShapes Go.WideShapes Go.ChangeAt Go.RowKit Go.Joins
end Go.Proofs.Ytpnkapdemgieaaa
set_option linter.unusedSimpArgs false
set_option linter.unusedVariables false
set_option linter.unusedSectionVars false
namespace Go.Proofs.Ytpnkapdemgieaaa
open Go Go.RowKit
open Go.ChangeShapes Go.WideShapes Go.ChangeAt Go.RowKit Go.Joins
end Go.Proofs.Ytpnkapdemgieaaa
set_option linter.unusedSimpArgs false
set_option linter.unusedVariables false
set_option linter.unusedSectionVars false
namespace Go.Proofs.Ytpnkapdemgieaaa
open Go Go.RowKit
open Go.ChangeShapes Go.WideShapes Go.ChangeAt Go.RowKit Go.Joins
/-- A number stored into the last list of an own rod. -/
theorem RdX.stored {B S : Nat} {w : World} {P : Rd} {l : RL} (h : RdX B S w P l) {g : Nat} (hp : l.p4 = some ⟨g, 0, none⟩) (k r : Nat) : RdX B S (w.setCell ⟨g, k, none⟩ (.float .f32 r)) ⟨P.a, P.b, P.c, P.d.set k r⟩ l ∧ w.grownBy (w.setCell ⟨g, k, none⟩ (.float .f32 r)) (some g) := by
  obtain ⟨⟨⟨o1, o2, o3, o4⟩, s1, s2, s3, s4⟩, a12, a13, a14, a23, a24, a34⟩ := h
  have h4 := o4
  rw [hp] at h4
  unfold OF at h4
  obtain ⟨h2, h3⟩ := World.ownsRow.stored h4 k (.float .f32 r)
  have ne : ∀ {p : Option Addr} {n c : Nat}, Ap p l.p4 → (Value.slice p n c).ownBlock = none ∨ (Value.slice p n c).ownBlock ≠ some g := fun {p n c} ha => by
    cases p with
    | none => exact .inl rfl
    | some x => exact .inr fun e => ha x _ rfl hp (by simpa [Value.ownBlock] using e)
  refine ⟨⟨⟨⟨o1.kept h3 (ne a14), o2.kept h3 (ne a24), o3.kept h3 (ne a34), ?_⟩, s1, s2, s3, ?_⟩, a12, a13, a14, a23, a24, a34⟩, h3⟩
  · show OF _ _ (.slice l.p4 (P.d.set k r).length l.c4) (P.d.set k r)
    rw [hp]
    unfold OF
    rw [List.length_set, List.map_set]
    exact h2
  · show ∀ k', (Value.slice l.p4 (P.d.set k r).length l.c4).ownBlock = some k' → k' < S
    rw [List.length_set]; exact s4
end Go.Proofs.Ytpnkapdemgieaaa
set_option linter.unusedSimpArgs false
set_option linter.unusedVariables false
set_option linter.unusedSectionVars false
namespace Go.Proofs.Ytpnkapdemgieaaa
open Go Go.RowKit
open Go.ChangeShapes Go.WideShapes Go.ChangeAt Go.RowKit Go.Joins
/-- Rows of equations, solved: each row without the number at the cell before; its right side; the answers from the last one on. -/
def elA (b a x : Nat → Nat) : Nat → Nat
  | 0 => a 0
  | i + 1 => fop .sub .f32 (a (i + 1)) (fop .mul .f32 (fop .quo .f32 (b (i + 1)) (elA b a x i)) (x i))
def elS (b a x s : Nat → Nat) : Nat → Nat
  | 0 => s 0
  | i + 1 => fop .sub .f32 (s (i + 1)) (fop .mul .f32 (fop .quo .f32 (b (i + 1)) (elA b a x i)) (elS b a x s i))
def bkO (b a x s : Nat → Nat) (n : Nat) : Nat → Nat
  | 0 => fop .quo .f32 (elS b a x s (n - 1)) (elA b a x (n - 1))
  | k + 1 => fop .quo .f32 (fop .sub .f32 (elS b a x s (n - 1 - (k + 1))) (fop .mul .f32 (x (n - 1 - (k + 1))) (bkO b a x s n k))) (elA b a x (n - 1 - (k + 1)))
def solO (b a x s : Nat → Nat) (n i : Nat) : Nat := bkO b a x s n (n - 1 - i)
def solL (b a x s : Nat → Nat) (n : Nat) : List Nat := (List.range n).map (solO b a x s n)
theorem solL_len (b a x s : Nat → Nat) (n : Nat) : (solL b a x s n).length = n := by simp [solL]
theorem cn_bkO (b a x s : Nat → Nat) (n : Nat) : ∀ k, cn .f32 (bkO b a x s n k) = bkO b a x s n k | 0 => cn_fop _ _ _ _ | _ + 1 => cn_fop _ _ _ _
theorem solO_last (b a x s : Nat → Nat) (n : Nat) {i : Nat} (h : i + 1 = n) : solO b a x s n i = fop .quo .f32 (elS b a x s i) (elA b a x i) := by
  subst h
  show bkO b a x s (i + 1) (i + 1 - 1 - i) = _
  rw [show i + 1 - 1 - i = 0 by omega]
  rfl
theorem solO_next (b a x s : Nat → Nat) (n : Nat) {i : Nat} (h : i + 1 < n) : solO b a x s n i = fop .quo .f32 (fop .sub .f32 (elS b a x s i) (fop .mul .f32 (x i) (solO b a x s n (i + 1)))) (elA b a x i) := by
  show bkO b a x s n (n - 1 - i) = fop .quo .f32 (fop .sub .f32 _ (fop .mul .f32 _ (bkO b a x s n (n - 1 - (i + 1))))) _
  rw [show n - 1 - i = (n - 1 - (i + 1)) + 1 by omega]
  show fop .quo .f32 (fop .sub .f32 (elS b a x s (n - 1 - (n - 1 - (i + 1) + 1))) (fop .mul .f32 (x (n - 1 - (n - 1 - (i + 1) + 1))) _)) _ = _
  rw [show n - 1 - (n - 1 - (i + 1) + 1) = i by omega]
/-- Rows of equations that the call has made: four numbers each. -/
def RW (B : Nat) (w : World) (u : Value) (n : Nat) (zs : List Nat) : Prop := w.ownsRow B 74 4 u n (zs.map (Value.float .f32))
theorem RW.len {B n : Nat} {w : World} {u : Value} {zs : List Nat} (h : RW B w u n zs) : zs.length = n * 4 := by have := h.1; simpa using this
theorem RW.cell {B n g c : Nat} {w : World} {zs : List Nat} (h : RW B w (.slice (some ⟨g, 0, none⟩) n c) n zs) {j : Nat} (hj : j < n * 4) : w.cell? ⟨g, j, none⟩ = some (.float .f32 (zs.getD j 0)) ∧ w.frozen? ⟨g, j, none⟩ = false := by
  refine ⟨?_, World.ownsRow.frozenAt h j⟩
  rw [World.ownsRow.cellAt h j hj]
  have := h.len
  rw [List.getElem?_map, List.getD_eq_getElem?_getD, List.getElem?_eq_getElem (by omega)]
  rfl
theorem RW.stored {B n g c : Nat} {w : World} {zs : List Nat} (h : RW B w (.slice (some ⟨g, 0, none⟩) n c) n zs) (j r : Nat) : RW B (w.setCell ⟨g, j, none⟩ (.float .f32 r)) (.slice (some ⟨g, 0, none⟩) n c) n (zs.set j r) ∧ w.grownBy (w.setCell ⟨g, j, none⟩ (.float .f32 r)) (some g) := by
  obtain ⟨h1, h2⟩ := World.ownsRow.stored h j (.float .f32 r)
  refine ⟨?_, h2⟩
  unfold RW
  rw [List.map_set]
  exact h1
theorem RW.later {B n : Nat} {w w' : World} {u : Value} {zs : List Nat} (h : RW B w u n zs) (hb : Below w.heap.size w w') : RW B w' u n zs := by
  cases hu : u.ownBlock with
  | none => exact World.ownsRow.kept h (below_grown hb none) (.inl hu)
  | some k => exact World.ownsRow.kept h (below_grown hb none) (.inr (by rw [hu]; simp))
end Go.Proofs.Ytpnkapdemgieaaa
set_option linter.unusedSimpArgs false
set_option linter.unusedVariables false
set_option linter.unusedSectionVars false
namespace Go.Proofs.Ytpnkapdemgieaaa
open Go Go.RowKit
/-- Half a unit in the last place, and a little more. -/
def uu : Rat := 1 / 16700000
theorem rnd_rl {f : Ieee.Format} {v r M : Rat} (h : Rnd f v r) (h1 : v ≤ M) (h2 : -v ≤ M) : 2 * (r - v) ≤ M * tp (-(f.fractionBits : Int)) + tp f.leastPlace ∧ 2 * (v - r) ≤ M * tp (-(f.fractionBits : Int)) + tp f.leastPlace := by
  obtain ⟨last, k, hl, hr, e1, e2, h3⟩ := h
  have hM : 0 ≤ M := by grind
  have t1 := tp_pos (-(f.fractionBits : Int))
  have t2 := tp_pos f.leastPlace
  have hm := Rat.mul_nonneg hM (Rat.le_of_lt t1)
  have hle : tp last ≤ M * tp (-(f.fractionBits : Int)) + tp f.leastPlace := by
    have key : tp (last + f.fractionBits) ≤ M → tp last ≤ M * tp (-(f.fractionBits : Int)) := fun h => by
      have e : tp last = tp (last + f.fractionBits) * tp (-(f.fractionBits : Int)) := by rw [← tp_add]; congr 1; omega
      rw [e]
      exact Rat.mul_le_mul_of_nonneg_right h (Rat.le_of_lt t1)
    rcases h3 with h3 | h3 | h3
    · rw [h3]; grind
    · have := key (Rat.le_trans h3 h1); grind
    · have := key (Rat.le_trans h3 h2); grind
  exact ⟨by grind, by grind⟩
theorem tp_m23 : tp (-23) * 8388608 = 1 := by
  have h : tp (-23) * tp 23 = 1 := by rw [← tp_add]; exact tp_zero
  rwa [show tp 23 = 8388608 from (tp_nat 23).trans rfl] at h
theorem tp_m60 : tp (-149) * 1152921504606846976 ≤ 1 := by
  have h : tp (-60) * tp 60 = 1 := by rw [← tp_add]; exact tp_zero
  rw [show tp 60 = 1152921504606846976 from (tp_nat 60).trans rfl] at h
  have := tp_le (show (-149 : Int) ≤ -60 by decide)
  grind
/-- What is rounded lies near. -/
theorem rnd_u {v r M : Rat} (h : Rnd FloatKind.f32.format v r) (hM : 1 / 1000000 ≤ M) (h1 : v ≤ M) (h2 : -v ≤ M) : r - v ≤ M * uu ∧ v - r ≤ M * uu := by
  obtain ⟨e1, e2⟩ := rnd_rl h h1 h2
  have t23 := tp_m23
  have t60 := tp_m60
  have e3 : tp (-(FloatKind.f32.format.fractionBits : Int)) = tp (-23) := rfl
  have e4 : tp FloatKind.f32.format.leastPlace = tp (-149) := rfl
  rw [e3, e4] at e1 e2
  have t23' : tp (-23) = 1 / 8388608 := by grind
  rw [t23'] at e1 e2
  unfold uu
  constructor <;> grind
theorem fop_u (op : BinOp) (hop : arithOp op = true) {x y : Nat} (hx : fnt .f32 x = true) (hy : fnt .f32 y = true) (h0 : op = .quo → fv .f32 y ≠ 0) {M : Rat} (hM : 1 / 1000000 ≤ M) (hM2 : M ≤ 1000000000000) (h1 : ex op (fv .f32 x) (fv .f32 y) ≤ M) (h2 : -ex op (fv .f32 x) (fv .f32 y) ≤ M) :
    fnt .f32 (fop op .f32 x y) = true ∧ fv .f32 (fop op .f32 x y) - ex op (fv .f32 x) (fv .f32 y) ≤ M * uu ∧ ex op (fv .f32 x) (fv .f32 y) - fv .f32 (fop op .f32 x y) ≤ M * uu := by
  have t40 : tp 40 = 1099511627776 := (tp_nat 40).trans rfl
  obtain ⟨g1, g2⟩ := fop_rnd op hop .f32 hx hy h0 40 (by decide) (by rw [t40]; grind) (by rw [t40]; grind)
  exact ⟨g1, rnd_u g2 hM h1 h2⟩
theorem rnd_le_wd {k : FloatKind} {x : Nat} {v r : Rat} (hx : fnt k x = true) (h : Rnd k.format v r) (hv : v ≤ fv k x) : r ≤ fv k x := by
  obtain ⟨z, q, hz, hq, e⟩ := rp_word hx
  rw [e] at hv ⊢
  exact h.le hz hq hv
theorem rnd_eq_wd {k : FloatKind} {x : Nat} {v r : Rat} (hx : fnt k x = true) (h : Rnd k.format v r) (hv : v = fv k x) : r = fv k x := by
  obtain ⟨z, q, hz, hq, e⟩ := rp_word hx
  rw [e] at hv ⊢
  exact (h.eq hz hq hv).trans hv
/-! ### One step, in exact numbers -/
/-- The right side behind a step of the elimination. -/
theorem el_step {W p qi ql f m m' S S' s so Z1 Z2 Z3 D ε g c d k Zm : Rat} (hf1 : -1 ≤ f) (hf2 : f ≤ 0) (hp : 0 ≤ p) (hqi : 0 ≤ qi) (hε : 0 ≤ ε) (hD : 0 ≤ D)
    (hg1 : f * m + p ≤ g) (hg2 : -(f * m + p) ≤ g) (hm1 : m' - (W + p + (qi + ql) + f * p) ≤ c) (hm2 : (W + p + (qi + ql) + f * p) - m' ≤ c)
    (hv1 : S - (m * Z1 - p * Z2) ≤ (m - p) * D + ε) (hv2 : (m * Z1 - p * Z2) - S ≤ (m - p) * D + ε)
    (hs1 : s - so ≤ k) (hs2 : so - s ≤ k) (hS1 : S' - (s - f * S) ≤ d) (hS2 : (s - f * S) - S' ≤ d)
    (ho1 : so - ((W + p + (qi + ql)) * Z2 - p * Z1 - qi * Z3) ≤ (W + ql) * D) (ho2 : ((W + p + (qi + ql)) * Z2 - p * Z1 - qi * Z3) - so ≤ (W + ql) * D)
    (hz1 : Z1 ≤ Zm) (hz1' : -Z1 ≤ Zm) (hz2 : Z2 ≤ Zm) (hz2' : -Z2 ≤ Zm) (hg0 : 0 ≤ g) (hc0 : 0 ≤ c) :
    S' - (m' * Z2 - qi * Z3) ≤ (m' - qi) * D + ε + (k + d + (g + c) * (Zm + D)) ∧ (m' * Z2 - qi * Z3) - S' ≤ (m' - qi) * D + ε + (k + d + (g + c) * (Zm + D)) := by
  have a1 := mul_bd (a := g) (b := Zm) (x := f * m + p) (y := Z1) (by grind) hg1 (by grind) hz1
  have a2 := mul_bd (a := c) (b := Zm) (x := m' - (W + p + (qi + ql) + f * p)) (y := Z2) (by grind) hm1 (by grind) hz2
  have a3 := Rat.mul_le_mul_of_nonneg_right hm2 hD
  have a4 := Rat.mul_le_mul_of_nonneg_right hg2 hD
  have b1 := Rat.mul_le_mul_of_nonneg_left hv1 (show 0 ≤ -f by grind)
  have b2 := Rat.mul_le_mul_of_nonneg_left hv2 (show 0 ≤ -f by grind)
  have b3 := Rat.mul_nonneg (show 0 ≤ 1 + f by grind) hε
  constructor <;> grind
/-- The first right side. -/
theorem el_first {W p qi ql m S so Z2 Z3 D c k Zm : Rat} (hD : 0 ≤ D) (hm1 : m - (W + p + (qi + ql)) ≤ c) (hm2 : (W + p + (qi + ql)) - m ≤ c)
    (hs1 : S - so ≤ k) (hs2 : so - S ≤ k) (ho1 : so - ((W + p + (qi + ql)) * Z2 - qi * Z3) ≤ (W + p + ql) * D) (ho2 : ((W + p + (qi + ql)) * Z2 - qi * Z3) - so ≤ (W + p + ql) * D)
    (hz2 : Z2 ≤ Zm) (hz2' : -Z2 ≤ Zm) (hc0 : 0 ≤ c) :
    S - (m * Z2 - qi * Z3) ≤ (m - qi) * D + (k + c * (Zm + D)) ∧ (m * Z2 - qi * Z3) - S ≤ (m - qi) * D + (k + c * (Zm + D)) := by
  have a2 := mul_bd (a := c) (b := Zm) (x := m - (W + p + (qi + ql))) (y := Z2) (by grind) hm1 (by grind) hz2
  have a3 := Rat.mul_le_mul_of_nonneg_right hm2 hD
  constructor <;> grind
/-- What is taken from the right side is not great. -/
theorem fs_bd {f m p S Z1 Z2 D ε g Zm : Rat} (hf1 : -1 ≤ f) (hf2 : f ≤ 0) (hp : 0 ≤ p) (hm : 0 ≤ m) (hg2 : -(f * m + p) ≤ g)
    (hv1 : S - (m * Z1 - p * Z2) ≤ (m - p) * D + ε) (hv2 : (m * Z1 - p * Z2) - S ≤ (m - p) * D + ε) (hz1 : Z1 ≤ Zm) (hz1' : -Z1 ≤ Zm) (hz2 : Z2 ≤ Zm) (hz2' : -Z2 ≤ Zm) (hε : 0 ≤ ε) (hD : 0 ≤ D) (hZm : 0 ≤ Zm) :
    f * S ≤ (p + g) * (Zm + D) + p * Zm + ε ∧ -(f * S) ≤ (p + g) * (Zm + D) + p * Zm + ε := by
  have hf : 0 ≤ -f := by grind
  have t0 := Rat.mul_nonneg hf hm
  have s0 := Rat.mul_nonneg hf hp
  have s1 := Rat.mul_le_mul_of_nonneg_right (show -f ≤ 1 by grind) hp
  have b1 := Rat.mul_le_mul_of_nonneg_left hv1 hf
  have b2 := Rat.mul_le_mul_of_nonneg_left hv2 hf
  have c1 := Rat.mul_le_mul_of_nonneg_left hz1 t0
  have c2 := Rat.mul_le_mul_of_nonneg_left hz1' t0
  have c3 := Rat.mul_le_mul_of_nonneg_right (show -f * m ≤ p + g by grind) hZm
  have c4 := Rat.mul_le_mul_of_nonneg_right (show -f * m ≤ p + g by grind) hD
  have d1 := Rat.mul_le_mul_of_nonneg_left hz2 s0
  have d2 := Rat.mul_le_mul_of_nonneg_left hz2' s0
  have d3 := Rat.mul_le_mul_of_nonneg_right s1 hZm
  have d4 := Rat.mul_nonneg s0 hD
  have e1 := Rat.mul_le_mul_of_nonneg_right (show -f ≤ 1 by grind) hε
  constructor <;> grind
/-- An answer. -/
theorem bk_step {qi m S y y2 Z1 Z2 D ε δ e w : Rat} (hqi : 0 ≤ qi) (hw : 0 < w) (hm : qi + w ≤ m) (hδ : 0 ≤ δ)
    (hv1 : S - (m * Z1 - qi * Z2) ≤ (m - qi) * D + ε) (hv2 : (m * Z1 - qi * Z2) - S ≤ (m - qi) * D + ε)
    (hy1 : y2 - Z2 ≤ D + δ) (hy2 : Z2 - y2 ≤ D + δ) (he1 : m * y - (S + qi * y2) ≤ e) (he2 : (S + qi * y2) - m * y ≤ e) (hδ2 : ε + e ≤ w * δ) :
    y - Z1 ≤ D + δ ∧ Z1 - y ≤ D + δ := by
  have hm0 : 0 < m := by grind
  have a1 := Rat.mul_le_mul_of_nonneg_left hy1 hqi
  have a2 := Rat.mul_le_mul_of_nonneg_left hy2 hqi
  have a3 := Rat.mul_le_mul_of_nonneg_right hm hδ
  exact ⟨mul_cancel_le hm0 (by grind), mul_cancel_le hm0 (by grind)⟩
/-- What is left of a row. -/
theorem res_step {W p q qi f m m' S S' s so y0 y y2 g c d k e0 e Y : Rat} (hf1 : -1 ≤ f) (hf2 : f ≤ 0)
    (hg1 : f * m + p ≤ g) (hg2 : -(f * m + p) ≤ g) (hm1 : m' - (W + p + q + f * p) ≤ c) (hm2 : (W + p + q + f * p) - m' ≤ c)
    (hs1 : s - so ≤ k) (hs2 : so - s ≤ k) (hS1 : S' - (s - f * S) ≤ d) (hS2 : (s - f * S) - S' ≤ d)
    (h01 : m * y0 - (S + p * y) ≤ e0) (h02 : (S + p * y) - m * y0 ≤ e0) (h11 : m' * y - (S' + qi * y2) ≤ e) (h12 : (S' + qi * y2) - m' * y ≤ e)
    (hY0 : y0 ≤ Y) (hY0' : -y0 ≤ Y) (hY : y ≤ Y) (hY' : -y ≤ Y) (he0 : 0 ≤ e0) :
    (W + p + q) * y - p * y0 - qi * y2 - so ≤ k + d + g * Y + e0 + e + c * Y ∧ so - ((W + p + q) * y - p * y0 - qi * y2) ≤ k + d + g * Y + e0 + e + c * Y := by
  have a1 := mul_bd (a := g) (b := Y) (x := f * m + p) (y := y0) (by grind) hg1 (by grind) hY0
  have a2 := mul_bd (a := c) (b := Y) (x := m' - (W + p + q + f * p)) (y := y) (by grind) hm1 (by grind) hY
  have b1 := Rat.mul_le_mul_of_nonneg_left h01 (show 0 ≤ -f by grind)
  have b2 := Rat.mul_le_mul_of_nonneg_left h02 (show 0 ≤ -f by grind)
  have b3 := Rat.mul_nonneg (show 0 ≤ 1 + f by grind) he0
  constructor <;> grind
theorem res_first {W p q qi m S so y y2 c k e Y : Rat} (hm1 : m - (W + p + q) ≤ c) (hm2 : (W + p + q) - m ≤ c)
    (hs1 : S - so ≤ k) (hs2 : so - S ≤ k) (h11 : m * y - (S + qi * y2) ≤ e) (h12 : (S + qi * y2) - m * y ≤ e) (hY : y ≤ Y) (hY' : -y ≤ Y) :
    (W + p + q) * y - qi * y2 - so ≤ k + e + c * Y ∧ so - ((W + p + q) * y - qi * y2) ≤ k + e + c * Y := by
  have a2 := mul_bd (a := c) (b := Y) (x := m - (W + p + q)) (y := y) (by grind) hm1 (by grind) hY
  constructor <;> grind
/-- By how much a row is taken from the next one. -/
def elF (b a x : Nat → Nat) (i : Nat) : Nat := fop .quo .f32 (b (i + 1)) (elA b a x i)
/-- How much passes on to the right within the row; how much at the right end. -/
def qiR (p : Nat → Rat) (n i : Nat) : Rat := if i + 1 < n then p (i + 1) else 0
def qlR (p : Nat → Rat) (n i : Nat) : Rat := if i + 1 < n then 0 else p (i + 1)
theorem qR_sum (p : Nat → Rat) (n i : Nat) : qiR p n i + qlR p n i = p (i + 1) := by unfold qiR qlR; split <;> grind
theorem qiR_in {p : Nat → Rat} {n i : Nat} (h : i + 1 < n) : qiR p n i = p (i + 1) := if_pos h
theorem qiR_last {p : Nat → Rat} {n i : Nat} (h : ¬ i + 1 < n) : qiR p n i = 0 := if_neg h
theorem qiR_le {p : Nat → Rat} {n i : Nat} (h : 0 ≤ p (i + 1)) : 0 ≤ qiR p n i ∧ qiR p n i ≤ p (i + 1) := by unfold qiR; split <;> grind
end Go.Proofs.Ytpnkapdemgieaaa
set_option linter.unusedSimpArgs false
set_option linter.unusedVariables false
set_option linter.unusedSectionVars false
namespace Go.Proofs.Ytpnkapdemgieaaa
open Go Go.RowKit
theorem sq_nonneg (x : Rat) : 0 ≤ x * x := by
  rcases Rat.le_total (a := 0) (b := x) with h | h
  · exact Rat.mul_nonneg h h
  · have := Rat.mul_nonneg (show 0 ≤ -x by grind) (show 0 ≤ -x by grind); grind
theorem abs_of_sq {x M : Rat} (h : x * x ≤ M * M) (hM : 0 ≤ M) : x ≤ M ∧ -x ≤ M := by
  have key : ∀ z : Rat, z * z ≤ M * M → z ≤ M := fun z hz => by
    rcases Rat.le_total (a := z) (b := M) with h | h
    · exact h
    · have h1 := Rat.mul_nonneg (show 0 ≤ z - M by grind) (show 0 ≤ z by grind)
      have h2 := Rat.mul_nonneg (show 0 ≤ z - M by grind) hM
      by_cases e : z = M
      · rw [e]; exact Rat.le_refl
      · have hp : 0 < z - M := by grind
        have hp2 := Rat.mul_pos hp hp
        grind
  exact ⟨key x h, key (-x) (by grind)⟩
theorem sq_le_of {x M : Rat} (h1 : x ≤ M) (h2 : -x ≤ M) : x * x ≤ M * M := by
  have := Rat.mul_nonneg (show 0 ≤ M - x by grind) (show 0 ≤ M + x by grind)
  grind
/-- A complex number is at most so great. -/
def Nb (x y M : Rat) : Prop := 0 ≤ M ∧ x * x + y * y ≤ M * M
theorem Nb.re {x y M : Rat} (h : Nb x y M) : x ≤ M ∧ -x ≤ M := abs_of_sq (by have := sq_nonneg y; have := h.2; grind) h.1
theorem Nb.im {x y M : Rat} (h : Nb x y M) : y ≤ M ∧ -y ≤ M := abs_of_sq (by have := sq_nonneg x; have := h.2; grind) h.1
theorem Nb.mono {x y M K : Rat} (h : Nb x y M) (hK : M ≤ K) : Nb x y K := by
  have h0 := h.1
  have := Rat.mul_nonneg (show 0 ≤ K - M by grind) (show 0 ≤ K + M by grind)
  exact ⟨by grind, by have := h.2; grind⟩
theorem Nb.zero : Nb 0 0 0 := ⟨Rat.le_refl, by grind⟩
theorem Nb.of {x y a b : Rat} (h1 : x ≤ a) (h2 : -x ≤ a) (h3 : y ≤ b) (h4 : -y ≤ b) : Nb x y (a + b) := by
  have e1 := sq_le_of h1 h2
  have e2 := sq_le_of h3 h4
  have := Rat.mul_nonneg (show 0 ≤ a by grind) (show 0 ≤ b by grind)
  exact ⟨by grind, by grind⟩
theorem Nb.neg {x y M : Rat} (h : Nb x y M) : Nb (-x) (-y) M := ⟨h.1, by have := h.2; grind⟩
/-- Cauchy's inequality. -/
theorem Nb.dot {x y a b M K : Rat} (h : Nb x y M) (g : Nb a b K) : x * a + y * b ≤ M * K ∧ -(x * a + y * b) ≤ M * K := by
  refine abs_of_sq ?_ (Rat.mul_nonneg h.1 g.1)
  have e1 := sq_nonneg (x * b - y * a)
  have e2 := Rat.mul_le_mul_of_nonneg_left g.2 (show 0 ≤ x * x + y * y by have := sq_nonneg x; have := sq_nonneg y; grind)
  have e3 := Rat.mul_le_mul_of_nonneg_right h.2 (show 0 ≤ K * K from sq_nonneg K)
  grind
theorem Nb.add {x y a b M K : Rat} (h : Nb x y M) (g : Nb a b K) : Nb (x + a) (y + b) (M + K) := by
  have d := (h.dot g).1
  have := h.1
  have := g.1
  have := h.2
  have := g.2
  exact ⟨by grind, by grind⟩
theorem Nb.sub {x y a b M K : Rat} (h : Nb x y M) (g : Nb a b K) : Nb (x - a) (y - b) (M + K) := by
  have := h.add g.neg
  have e1 : x + -a = x - a := by grind
  have e2 : y + -b = y - b := by grind
  rwa [e1, e2] at this
theorem Nb.mul {x y a b M K : Rat} (h : Nb x y M) (g : Nb a b K) : Nb (x * a - y * b) (x * b + y * a) (M * K) := by
  refine ⟨Rat.mul_nonneg h.1 g.1, ?_⟩
  have e2 := Rat.mul_le_mul_of_nonneg_left g.2 (show 0 ≤ x * x + y * y by have := sq_nonneg x; have := sq_nonneg y; grind)
  have e3 := Rat.mul_le_mul_of_nonneg_right h.2 (show 0 ≤ K * K from sq_nonneg K)
  grind
theorem Nb.scale {x y M c K : Rat} (h : Nb x y M) (h1 : c ≤ K) (h2 : -c ≤ K) : Nb (c * x) (c * y) (K * M) := by
  have e := sq_le_of h1 h2
  have k0 : 0 ≤ K := by grind
  refine ⟨Rat.mul_nonneg k0 h.1, ?_⟩
  have e2 := Rat.mul_le_mul_of_nonneg_left h.2 (sq_nonneg c)
  have e3 := Rat.mul_le_mul_of_nonneg_right e (sq_nonneg M)
  grind
/-! ### Roundings -/
/-- What a rounding makes of a number: off by a small part of it, and by nearly nothing more. -/
def tt : Rat := 1 / 1000000000000000000000000000000
theorem uu_pos : 0 < uu := by decide +kernel
theorem tt_pos : 0 < tt := by decide +kernel
def Ru (u t r v : Rat) : Prop := ∃ a b : Rat, r = v + a + b ∧ a * a ≤ u * u * (v * v) ∧ b ≤ t ∧ -b ≤ t
theorem Ru.of {u t r v : Rat} (u0 : 0 < u) (t0 : 0 < t) (h1 : ∀ V, v ≤ V → -v ≤ V → 0 ≤ V → r - v ≤ V * u + t ∧ v - r ≤ V * u + t) : Ru u t r v := by
  rcases Rat.le_total (a := 0) (b := v) with h | h
  · obtain ⟨a1, a2⟩ := h1 v Rat.le_refl (by grind) h
    have m0 := Rat.mul_nonneg h (Rat.le_of_lt u0)
    by_cases c1 : r - v ≤ -(v * u)
    · exact ⟨-(v * u), r - v + v * u, by grind, by grind, by grind, by grind⟩
    · by_cases c2 : r - v ≤ v * u
      · refine ⟨r - v, 0, by grind, ?_, by grind, by grind⟩
        have := sq_le_of (x := r - v) (M := v * u) c2 (by grind)
        grind
      · exact ⟨v * u, r - v - v * u, by grind, by grind, by grind, by grind⟩
  · obtain ⟨a1, a2⟩ := h1 (-v) (by grind) Rat.le_refl (by grind)
    have m0 := Rat.mul_nonneg (show 0 ≤ -v by grind) (Rat.le_of_lt u0)
    by_cases c1 : r - v ≤ -(-v * u)
    · exact ⟨-(-v * u), r - v + -v * u, by grind, by grind, by grind, by grind⟩
    · by_cases c2 : r - v ≤ -v * u
      · refine ⟨r - v, 0, by grind, ?_, by grind, by grind⟩
        have := sq_le_of (x := r - v) (M := -v * u) c2 (by grind)
        grind
      · exact ⟨-v * u, r - v - -v * u, by grind, by grind, by grind, by grind⟩
/-- The bounds of what is off. -/
theorem Ru.off {u t r v V : Rat} (u0 : 0 < u) (h : Ru u t r v) (h1 : v ≤ V) (h2 : -v ≤ V) : r - v ≤ V * u + t ∧ v - r ≤ V * u + t := by
  obtain ⟨a, b, e, ha, b1, b2⟩ := h
  have v0 : 0 ≤ V := by grind
  have hv := sq_le_of h1 h2
  have k1 := Rat.mul_le_mul_of_nonneg_left hv (sq_nonneg u)
  obtain ⟨a1, a2⟩ := abs_of_sq (x := a) (M := V * u) (by grind) (Rat.mul_nonneg v0 (Rat.le_of_lt u0))
  exact ⟨by grind, by grind⟩
theorem Ru.nonneg {u t r v : Rat} (u0 : 0 < u) (h : Ru u t r v) (hv : 0 ≤ v) : v - v * u - t ≤ r ∧ r ≤ v + v * u + t := by
  obtain ⟨h1, h2⟩ := h.off u0 Rat.le_refl (by grind)
  exact ⟨by grind, by grind⟩
def Ro (r v : Rat) : Prop := Ru uu tt r v
theorem Ro.of {r v : Rat} (h1 : ∀ V, v ≤ V → -v ≤ V → 0 ≤ V → r - v ≤ V * uu + tt ∧ v - r ≤ V * uu + tt) : Ro r v := Ru.of uu_pos tt_pos h1
/-- A little more than the unit. -/
def ww : Rat := 1 / 16600000
theorem ww_pos : 0 < ww := by decide +kernel
theorem Ro.swap {r v : Rat} (h : Ro r v) : Ru ww (2 * tt) v r := by
  have t0 := tt_pos
  refine Ru.of ww_pos (by grind) fun R r1 r2 r0 => ?_
  obtain ⟨V, v1, v2, v3⟩ : ∃ V, v ≤ V ∧ -v ≤ V ∧ (V = v ∨ V = -v) := by
    rcases Rat.le_total (a := 0) (b := v) with h | h
    · exact ⟨v, Rat.le_refl, by grind, .inl rfl⟩
    · exact ⟨-v, by grind, Rat.le_refl, .inr rfl⟩
  obtain ⟨k1, k2⟩ := Ru.off uu_pos h v1 v2
  unfold uu at k1 k2
  unfold ww
  rcases v3 with e | e <;> subst e <;> constructor <;> grind
/-- A complex number and what is computed for it. -/
structure Eu (u t r s v w : Rat) : Prop where
  re : Ru u t r v
  im : Ru u t s w
abbrev Er (r s v w : Rat) : Prop := Eu uu tt r s v w
theorem Er.swap {r s v w : Rat} (h : Er r s v w) : Eu ww (2 * tt) v w r s := ⟨Ro.swap h.re, Ro.swap h.im⟩
/-- What is off: as great as a small part of the number, and nearly nothing more. -/
theorem Eu.off {u t r s v w M : Rat} (u0 : 0 < u) (h : Eu u t r s v w) (hM : Nb v w M) : Nb (r - v) (s - w) (u * M + 2 * t) := by
  obtain ⟨⟨a, b, e1, h1, b1, b2⟩, ⟨c, d, e2, h2, d1, d2⟩⟩ := h
  have n1 : Nb a c (u * M) := by
    refine ⟨Rat.mul_nonneg (Rat.le_of_lt u0) hM.1, ?_⟩
    have := Rat.mul_le_mul_of_nonneg_left hM.2 (sq_nonneg u)
    grind
  have n2 := Nb.of b1 b2 d1 d2
  have n3 := n1.add n2
  have e3 : a + b = r - v := by grind
  have e4 : c + d = s - w := by grind
  have e5 : t + t = 2 * t := by grind
  rwa [e3, e4, e5] at n3
theorem Eu.bd {u t r s v w M : Rat} (u0 : 0 < u) (h : Eu u t r s v w) (hM : Nb v w M) : Nb r s (M + (u * M + 2 * t)) := by
  have := hM.add (h.off u0 hM)
  have e3 : v + (r - v) = r := by grind
  have e4 : w + (s - w) = s := by grind
  rwa [e3, e4] at this
/-- What is off, times a number whose product with the exact one is so great. -/
theorem Eu.offm {u t r s v w c d P K : Rat} (u0 : 0 < u) (h : Eu u t r s v w) (hD : Nb c d K) (hP : (c * c + d * d) * (v * v + w * w) ≤ P * P) (hP0 : 0 ≤ P) : Nb (c * (r - v) - d * (s - w)) (c * (s - w) + d * (r - v)) (u * P + 2 * (K * t)) := by
  obtain ⟨⟨a, b, e1, h1, b1, b2⟩, ⟨f, g, e2, h2, d1, d2⟩⟩ := h
  have n1 : Nb (c * a - d * f) (c * f + d * a) (u * P) := by
    refine ⟨Rat.mul_nonneg (Rat.le_of_lt u0) hP0, ?_⟩
    have k1 := Rat.mul_le_mul_of_nonneg_left hP (sq_nonneg u)
    have k2 := Rat.mul_le_mul_of_nonneg_left (show a * a + f * f ≤ u * u * (v * v + w * w) by grind) (show 0 ≤ c * c + d * d by have := sq_nonneg c; have := sq_nonneg d; grind)
    grind
  have n2 := hD.mul (Nb.of b1 b2 d1 d2)
  have n3 := n1.add n2
  have e3 : c * a - d * f + (c * b - d * g) = c * (r - v) - d * (s - w) := by grind
  have e4 : c * f + d * a + (c * g + d * b) = c * (s - w) + d * (r - v) := by grind
  have e5 : u * P + K * (t + t) = u * P + 2 * (K * t) := by grind
  rwa [e3, e4, e5] at n3
end Go.Proofs.Ytpnkapdemgieaaa
set_option linter.unusedSimpArgs false
set_option linter.unusedVariables false
set_option linter.unusedSectionVars false
namespace Go.Proofs.Ytpnkapdemgieaaa
open Go Go.RowKit
/-- Nearly nothing. -/
def zz : Rat := 1 / 10000000000000000000000000000000000000000
theorem zz_pos : 0 < zz := by decide +kernel
theorem tp_zz : tp (-149) ≤ zz := by
  have h : tp (-149) * tp 149 = 1 := by rw [← tp_add]; exact tp_zero
  rw [show tp 149 = 713623846352979940529142984724747568191373312 from (tp_nat 149).trans rfl] at h
  unfold zz
  grind
theorem tp_zz2 : tp (-1074) ≤ zz := Rat.le_trans (tp_le (by decide)) tp_zz
theorem rnd32 {v r M : Rat} (h : Rnd FloatKind.f32.format v r) (h1 : v ≤ M) (h2 : -v ≤ M) : r - v ≤ M * (1 / 16777216) + zz ∧ v - r ≤ M * (1 / 16777216) + zz := by
  obtain ⟨e1, e2⟩ := rnd_rl h h1 h2
  have t23 := tp_m23
  have t60 := tp_zz
  have z0 := zz_pos
  have e3 : tp (-(FloatKind.f32.format.fractionBits : Int)) = tp (-23) := rfl
  have e4 : tp FloatKind.f32.format.leastPlace = tp (-149) := rfl
  rw [e3, e4] at e1 e2
  have t23' : tp (-23) = 1 / 8388608 := by grind
  rw [t23'] at e1 e2
  constructor <;> grind
theorem rnd64 {v r M : Rat} (h : Rnd FloatKind.f64.format v r) (h1 : v ≤ M) (h2 : -v ≤ M) : r - v ≤ M * (1 / 9007199254740992) + zz ∧ v - r ≤ M * (1 / 9007199254740992) + zz := by
  obtain ⟨e1, e2⟩ := rnd_rl h h1 h2
  have t60 := tp_zz2
  have z0 := zz_pos
  have e3 : tp (-(FloatKind.f64.format.fractionBits : Int)) = tp (-52) := rfl
  have e4 : tp FloatKind.f64.format.leastPlace = tp (-1074) := rfl
  rw [e3, e4] at e1 e2
  have t52 : tp (-52) * tp 52 = 1 := by rw [← tp_add]; exact tp_zero
  rw [show tp 52 = 4503599627370496 from (tp_nat 52).trans rfl] at t52
  have t23' : tp (-52) = 1 / 4503599627370496 := by grind
  rw [t23'] at e1 e2
  constructor <;> grind
/-! ### Words -/
def t1W (a b c d : Nat) : Nat := fop .sub .f64 (fop .mul .f64 (wide a) (wide c)) (fop .mul .f64 (wide b) (wide d))
def t2W (a b c d : Nat) : Nat := fop .add .f64 (fop .mul .f64 (wide a) (wide d)) (fop .mul .f64 (wide b) (wide c))
def pwW (c d : Nat) : Nat := fop .add .f64 (fop .mul .f64 (wide c) (wide c)) (fop .mul .f64 (wide d) (wide d))
def qaW (a b c d : Nat) : Nat := fop .quo .f64 (t1W a b c (fneg .f32 d)) (pwW c d)
def qbW (a b c d : Nat) : Nat := fop .quo .f64 (t2W a b c (fneg .f32 d)) (pwW c d)
/-- A finite word of a number that is not too great. -/
def Fw (x : Nat) (M : Rat) : Prop := Bnd .f32 x M ∧ M ≤ 1048576
theorem t40 : tp 40 = 1099511627776 := (tp_nat 40).trans rfl
theorem t41 : tp 41 = 2199023255552 := (tp_nat 41).trans rfl
theorem t80 : tp 80 = 1208925819614629174706176 := (tp_nat 80).trans rfl
theorem t100 : tp 100 = 1267650600228229401496703205376 := (tp_nat 100).trans rfl
/-- A product of two narrow numbers is exact in 64 bits. -/
theorem wmul {x y : Nat} {M K : Rat} (hx : Fw x M) (hy : Fw y K) : V .f64 (fop .mul .f64 (wide x) (wide y)) (fv .f32 x * fv .f32 y) ∧ fv .f32 x * fv .f32 y ≤ M * K ∧ -(fv .f32 x * fv .f32 y) ≤ M * K ∧ M * K ≤ 1099511627776 := by
  obtain ⟨⟨x0, x1, x2⟩, xm⟩ := hx
  obtain ⟨⟨y0, y1, y2⟩, ym⟩ := hy
  obtain ⟨m1, m2⟩ := mul_bd x1 x2 y1 y2
  have hM : 0 ≤ M := by grind
  have hK : 0 ≤ K := by grind
  have mk : M * K ≤ 1099511627776 := by
    have k1 := Rat.mul_le_mul_of_nonneg_right xm hK
    have k2 := Rat.mul_le_mul_of_nonneg_left ym (show (0 : Rat) ≤ 1048576 by decide)
    have e9 : (1048576 : Rat) * 1048576 = 1099511627776 := by decide +kernel
    rw [e9] at k2
    exact Rat.le_trans k1 k2
  refine ⟨?_, m2, by grind, mk⟩
  have vx : V .f64 (wide x) (fv .f32 x) := ⟨(wide_val x0).1, (wide_val x0).2⟩
  have vy : V .f64 (wide y) (fv .f32 y) := ⟨(wide_val y0).1, (wide_val y0).2⟩
  refine V.op .mul rfl vx vy (by simp) ?_
  simp only [ex]
  have t1023 : tp 40 ≤ tp (topK .f64 - 1) := tp_le (by decide)
  rw [t40] at t1023
  refine ⟨?_, by grind, by grind⟩
  obtain ⟨z, q, hz, hq, e1⟩ := rp_word x0
  obtain ⟨z', q', hz', hq', e2⟩ := rp_word y0
  have b1 : z.natAbs < 16777216 := hz
  have b2 : z'.natAbs < 16777216 := hz'
  have c1 : (-149 : Int) ≤ q := hq
  have c2 : (-149 : Int) ≤ q' := hq'
  refine ⟨z * z', q + q', ?_, by show (-1074 : Int) ≤ q + q'; omega, ?_⟩
  · rw [Int.natAbs_mul]
    show _ < 9007199254740992
    have h1 : z.natAbs * z'.natAbs ≤ 16777216 * 16777216 := Nat.mul_le_mul (by omega) (by omega)
    omega
  · rw [e1, e2, tp_add, Rat.intCast_mul]; grind
theorem Fw.neg {x : Nat} {M : Rat} (h : Fw x M) : Fw (fneg .f32 x) M := ⟨h.1.neg, h.2⟩
theorem fv_neg {x : Nat} {M : Rat} (h : Fw x M) : fv .f32 (fneg .f32 x) = -fv .f32 x := (fneg_val h.1.1).2
/-- A sum or a difference of two such products. -/
theorem wsum (op : BinOp) (h : op = .add ∨ op = .sub) {a b c d : Nat} {A B C D : Rat} (ha : Fw a A) (hb : Fw b B) (hc : Fw c C) (hd : Fw d D) :
    fnt .f64 (fop op .f64 (fop .mul .f64 (wide a) (wide c)) (fop .mul .f64 (wide b) (wide d))) = true ∧ Rnd FloatKind.f64.format (ex op (fv .f32 a * fv .f32 c) (fv .f32 b * fv .f32 d)) (fv .f64 (fop op .f64 (fop .mul .f64 (wide a) (wide c)) (fop .mul .f64 (wide b) (wide d)))) ∧ ex op (fv .f32 a * fv .f32 c) (fv .f32 b * fv .f32 d) ≤ 2199023255552 ∧ -ex op (fv .f32 a * fv .f32 c) (fv .f32 b * fv .f32 d) ≤ 2199023255552 := by
  obtain ⟨v1, p1, p2, p3⟩ := wmul ha hc
  obtain ⟨v2, r1, r2, r3⟩ := wmul hb hd
  have b1 : ex op (fv .f32 a * fv .f32 c) (fv .f32 b * fv .f32 d) ≤ 2199023255552 ∧ -ex op (fv .f32 a * fv .f32 c) (fv .f32 b * fv .f32 d) ≤ 2199023255552 := by
    rcases h with rfl | rfl <;> simp only [ex] <;> constructor <;> grind
  have hr := fop_rnd op (by rcases h with rfl | rfl <;> rfl) .f64 v1.1 v2.1 (by rcases h with rfl | rfl <;> simp) 41 (by decide) (by rw [v1.2, v2.2, t41]; exact b1.1) (by rw [v1.2, v2.2, t41]; exact b1.2)
  rw [v1.2, v2.2] at hr
  exact ⟨hr.1, hr.2, b1⟩
/-- Narrowed: off by a small part and nearly nothing more, if it was nearer before. -/
theorem nar_ro {x : Nat} {v : Rat} (hx : fnt .f64 x = true) (h1 : fv .f64 x ≤ tp 100) (h2 : -fv .f64 x ≤ tp 100) (h : ∀ W, v ≤ W → -v ≤ W → 0 ≤ W → fv .f64 x - v ≤ W * (1 / 1125899906842624) + 1 / 1000000000000000000000000000000000 ∧ v - fv .f64 x ≤ W * (1 / 1125899906842624) + 1 / 1000000000000000000000000000000000) :
    fits x = true ∧ fnt .f32 (narrow x) = true ∧ Ro (fv .f32 (narrow x)) v := by
  obtain ⟨n1, n2, n3⟩ := narrow_val hx 100 (by decide) h1 h2
  refine ⟨n1, n2, Ro.of fun W w1 w2 w0 => ?_⟩
  obtain ⟨g1, g2⟩ := h W w1 w2 w0
  obtain ⟨k1, k2⟩ := rnd32 n3 (M := W + (W * (1 / 1125899906842624) + 1 / 1000000000000000000000000000000000)) (by grind) (by grind)
  unfold zz at k1 k2
  unfold uu tt
  constructor <;> grind
/-- A product of complex numbers. -/
theorem cm_ok {a b c d : Nat} {A B C D : Rat} (ha : Fw a A) (hb : Fw b B) (hc : Fw c C) (hd : Fw d D) :
    (fits (t1W a b c d) = true ∧ fits (t2W a b c d) = true) ∧ (fnt .f32 (narrow (t1W a b c d)) = true ∧ fnt .f32 (narrow (t2W a b c d)) = true) ∧ Er (fv .f32 (narrow (t1W a b c d))) (fv .f32 (narrow (t2W a b c d))) (fv .f32 a * fv .f32 c - fv .f32 b * fv .f32 d) (fv .f32 a * fv .f32 d + fv .f32 b * fv .f32 c) := by
  have z0 := zz_pos
  have zl : zz ≤ 1 / 1000000000000000000000000000000000 := by decide +kernel
  have key : ∀ {x : Nat} {v : Rat}, fnt .f64 x = true → Rnd FloatKind.f64.format v (fv .f64 x) → v ≤ 2199023255552 → -v ≤ 2199023255552 → fits x = true ∧ fnt .f32 (narrow x) = true ∧ Ro (fv .f32 (narrow x)) v := fun {x v} h1 h2 h3 h4 => by
    obtain ⟨k1, k2⟩ := rnd64 h2 h3 h4
    unfold zz at k1 k2
    refine nar_ro h1 (by rw [t100]; grind) (by rw [t100]; grind) fun W w1 w2 w0 => ?_
    obtain ⟨m1, m2⟩ := rnd64 h2 w1 w2
    constructor <;> grind
  obtain ⟨a1, a2, a3, a4⟩ := wsum .sub (.inr rfl) ha hb hc hd
  obtain ⟨b1, b2, b3, b4⟩ := wsum .add (.inl rfl) ha hb hd hc
  obtain ⟨x1, x2, x3⟩ := key a1 a2 a3 a4
  obtain ⟨y1, y2, y3⟩ := key b1 b2 b3 b4
  exact ⟨⟨x1, y1⟩, ⟨x2, y2⟩, x3, y3⟩
/-- A number through a positive one, both nearly told. -/
theorem quo_near {T P t p W e : Rat} (hp : 1 / 1048576 ≤ p) (hP : p ≤ 2 * P) (hW : 0 ≤ W) (h1 : t ≤ W * p) (h2 : -t ≤ W * p) (he : 0 ≤ e)
    (hT1 : T - t ≤ W * p * (1 / 9007199254740992) + e) (hT2 : t - T ≤ W * p * (1 / 9007199254740992) + e) (hP1 : P - p ≤ p * (1 / 9007199254740992) + e) (hP2 : p - P ≤ p * (1 / 9007199254740992) + e) :
    T / P - t / p ≤ W * (1 / 2251799813685248) + 2097152 * (e + e * W) ∧ t / p - T / P ≤ W * (1 / 2251799813685248) + 2097152 * (e + e * W) := by
  have p0 : 0 < p := by grind
  have P0 : 0 < P := by grind
  have e1 : t / p * p = t := Rat.div_mul_cancel (by grind)
  have e2 : T / P * P = T := Rat.div_mul_cancel (by grind)
  obtain ⟨Z, hZ⟩ : ∃ Z, Z = t / p := ⟨_, rfl⟩
  obtain ⟨Y, hY⟩ : ∃ Y, Y = T / P := ⟨_, rfl⟩
  rw [← hZ] at e1 ⊢
  rw [← hY] at e2 ⊢
  have z1 : Z ≤ W := mul_cancel_le p0 (by grind)
  have z2 : -Z ≤ W := mul_cancel_le p0 (by grind)
  have zd1 := Rat.mul_le_mul_of_nonneg_right z1 (show 0 ≤ p * (1 / 9007199254740992) + e by grind)
  have zd2 := Rat.mul_le_mul_of_nonneg_right z2 (show 0 ≤ p * (1 / 9007199254740992) + e by grind)
  obtain ⟨m1, m2⟩ := mul_bd (show -W ≤ Z by grind) z1 (show -(p * (1 / 9007199254740992) + e) ≤ P - p by grind) (by grind)
  have wp := Rat.mul_nonneg hW (Rat.le_of_lt p0)
  have we := Rat.mul_nonneg he hW
  -- (Y - Z) P = (T - t) - Z (P - p)
  have k1 : (Y - Z) * P = (T - t) - Z * (P - p) := by grind
  have k2 : 2 * (W * p * (1 / 9007199254740992)) + (e + e * W) ≤ (W * (1 / 2251799813685248) + 2097152 * (e + e * W)) * P := by
    have q1 := Rat.mul_le_mul_of_nonneg_left hP hW
    have q2 := Rat.mul_le_mul_of_nonneg_left (show (1 : Rat) ≤ 2097152 * P by grind) (show 0 ≤ e + e * W by grind)
    grind
  constructor
  · exact mul_cancel_le P0 (by grind)
  · exact mul_cancel_le P0 (by grind)
/-- A quotient of complex numbers. -/
theorem cq_ok {a b c d : Nat} {A B C D : Rat} (ha : Fw a A) (hb : Fw b B) (hc : Fw c C) (hd : Fw d D) (hl : 1 / 1024 ≤ fv .f32 c) :
    (fits (qaW a b c d) = true ∧ fits (qbW a b c d) = true) ∧ (fnt .f32 (narrow (qaW a b c d)) = true ∧ fnt .f32 (narrow (qbW a b c d)) = true) ∧ Er (fv .f32 (narrow (qaW a b c d))) (fv .f32 (narrow (qbW a b c d))) ((fv .f32 a * fv .f32 c + fv .f32 b * fv .f32 d) / (fv .f32 c * fv .f32 c + fv .f32 d * fv .f32 d)) ((fv .f32 b * fv .f32 c - fv .f32 a * fv .f32 d) / (fv .f32 c * fv .f32 c + fv .f32 d * fv .f32 d)) := by
  have z0 := zz_pos
  obtain ⟨a1, a2, a3, a4⟩ := wsum .sub (.inr rfl) ha hb hc hd.neg
  obtain ⟨b1, b2, b3, b4⟩ := wsum .add (.inl rfl) ha hb hd.neg hc
  obtain ⟨c1, c2, c3, c4⟩ := wsum .add (.inl rfl) hc hd hc hd
  simp only [ex, fv_neg hd] at a2 a3 a4 b2 b3 b4 c2 c3 c4
  have ea : fv .f32 a * fv .f32 c - fv .f32 b * -fv .f32 d = fv .f32 a * fv .f32 c + fv .f32 b * fv .f32 d := by grind
  have eb : fv .f32 a * -fv .f32 d + fv .f32 b * fv .f32 c = fv .f32 b * fv .f32 c - fv .f32 a * fv .f32 d := by grind
  rw [ea] at a2 a3 a4
  rw [eb] at b2 b3 b4
  have sq : 1 / 1048576 ≤ fv .f32 c * fv .f32 c + fv .f32 d * fv .f32 d := by
    have s1 := sq_nonneg (fv .f32 d)
    have s2 := Rat.mul_nonneg (show 0 ≤ fv .f32 c - 1 / 1024 by grind) (show 0 ≤ fv .f32 c + 1 / 1024 by grind)
    grind
  generalize fv .f32 c * fv .f32 c + fv .f32 d * fv .f32 d = p at *
  have hc' : fnt .f64 (pwW c d) = true := c1
  have hP : Rnd FloatKind.f64.format p (fv .f64 (pwW c d)) := c2
  obtain ⟨p1, p2⟩ := rnd64 hP (M := p) Rat.le_refl (by grind)
  have pz : zz ≤ 1 / 1000000000000000 := by decide +kernel
  have p0 : p ≤ 2 * fv .f64 (pwW c d) := by grind
  have key : ∀ {x : Nat} {v : Rat}, fnt .f64 x = true → Rnd FloatKind.f64.format v (fv .f64 x) → v ≤ 2199023255552 → -v ≤ 2199023255552 → fits (fop .quo .f64 x (pwW c d)) = true ∧ fnt .f32 (narrow (fop .quo .f64 x (pwW c d))) = true ∧ Ro (fv .f32 (narrow (fop .quo .f64 x (pwW c d)))) (v / p) := fun {x v} h1 h2 h3 h4 => by
    have P0 : 0 < fv .f64 (pwW c d) := by grind
    have pp : 0 < p := by grind
    have Ep : v / p * p = v := Rat.div_mul_cancel (by grind)
    have gen : ∀ W, v / p ≤ W → -(v / p) ≤ W → 0 ≤ W → fv .f64 x / fv .f64 (pwW c d) - v / p ≤ W * (1 / 2251799813685248) + 2097152 * (zz + zz * W) ∧ v / p - fv .f64 x / fv .f64 (pwW c d) ≤ W * (1 / 2251799813685248) + 2097152 * (zz + zz * W) := fun W w1 w2 w0 => by
      have v1 := Rat.mul_le_mul_of_nonneg_right w1 (Rat.le_of_lt pp)
      have v2 := Rat.mul_le_mul_of_nonneg_right w2 (Rat.le_of_lt pp)
      have v1 : v ≤ W * p := by grind
      have v2 : -v ≤ W * p := by grind
      obtain ⟨m1, m2⟩ := rnd64 h2 v1 v2
      exact quo_near sq p0 w0 v1 v2 (Rat.le_of_lt z0) m1 m2 p1 p2
    have zd : zz * 1000000000000000000000000000000000000 ≤ 1 := by decide +kernel
    -- how great it is
    have en : -(v / p) * p = -v := by grind
    have big : v / p ≤ 2305843009213693952 ∧ -(v / p) ≤ 2305843009213693952 := ⟨mul_cancel_le pp (by rw [Ep]; grind), mul_cancel_le pp (by rw [en]; grind)⟩
    obtain ⟨g1, g2⟩ := gen 2305843009213693952 big.1 big.2 (by decide)
    obtain ⟨q1, q2⟩ := fop_rnd .quo rfl .f64 h1 hc' (fun _ => by grind) 80 (by decide) (by simp only [ex]; rw [t80]; grind) (by simp only [ex]; rw [t80]; grind)
    simp only [ex] at q2
    obtain ⟨r1, r2⟩ := rnd64 q2 (M := 1208925819614629174706176) (by grind) (by grind)
    refine nar_ro q1 (by rw [t100]; grind) (by rw [t100]; grind) fun W w1 w2 w0 => ?_
    obtain ⟨m1, m2⟩ := gen W w1 w2 w0
    have zw := Rat.mul_le_mul_of_nonneg_right (show zz ≤ 1 / 1000000000000000000000000000000000000 by grind) w0
    obtain ⟨n1, n2⟩ := rnd64 q2 (M := W + (W * (1 / 2251799813685248) + 2097152 * (zz + zz * W))) (by grind) (by grind)
    have zs : 2097155 * zz ≤ 1 / 1000000000000000000000000000000000 := by decide +kernel
    have zw0 := Rat.mul_nonneg (Rat.le_of_lt z0) w0
    constructor <;> grind
  obtain ⟨x1, x2, x3⟩ := key a1 a2 a3 a4
  obtain ⟨y1, y2, y3⟩ := key b1 b2 b3 b4
  exact ⟨⟨x1, y1⟩, ⟨x2, y2⟩, x3, y3⟩
/-- A sum or a difference of two narrow numbers. -/
theorem cs_ok (op : BinOp) (h : op = .add ∨ op = .sub) {a c : Nat} {A C : Rat} (ha : Fw a A) (hc : Fw c C) : fnt .f32 (fop op .f32 a c) = true ∧ Ro (fv .f32 (fop op .f32 a c)) (ex op (fv .f32 a) (fv .f32 c)) := by
  obtain ⟨⟨a0, a1, a2⟩, am⟩ := ha
  obtain ⟨⟨c0, c1, c2⟩, cm⟩ := hc
  have b1 : ex op (fv .f32 a) (fv .f32 c) ≤ tp 40 ∧ -ex op (fv .f32 a) (fv .f32 c) ≤ tp 40 := by
    rw [t40]
    rcases h with rfl | rfl <;> simp only [ex] <;> constructor <;> grind
  obtain ⟨h1, h2⟩ := fop_rnd op (by rcases h with rfl | rfl <;> rfl) .f32 a0 c0 (by rcases h with rfl | rfl <;> simp) 40 (by decide) b1.1 b1.2
  refine ⟨h1, Ro.of fun W w1 w2 w0 => ?_⟩
  obtain ⟨k1, k2⟩ := rnd32 h2 w1 w2
  unfold zz at k1 k2
  unfold uu tt
  constructor <;> grind
end Go.Proofs.Ytpnkapdemgieaaa
set_option linter.unusedSimpArgs false
set_option linter.unusedVariables false
set_option linter.unusedSectionVars false
namespace Go.Proofs.Ytpnkapdemgieaaa
open Go Go.RowKit
/-- The root's word, all NaNs taken as one. -/
def sqC (x : Nat) : Nat := (FloatKind.f64.format.sqrt x).getD (qn .f64)
theorem cn_sqC (x : Nat) : cn .f64 (sqC x) = sqC x := by
  unfold sqC
  cases h : FloatKind.f64.format.sqrt x with
  | none => exact cn_of_isN (isN_qn _)
  | some r => exact cn_of_not (map_write_not_nan (fun _ => root_not_nan) h)
theorem sqrt_cn (x : Nat) : FloatKind.f64.format.sqrt (cn .f64 x) = FloatKind.f64.format.sqrt x := by
  by_cases h : isN .f64 x = true
  · have key : ∀ y, isN .f64 y = true → FloatKind.f64.format.sqrt y = none := by
      intro y hy
      obtain ⟨s, t, e⟩ := decode_nan hy
      simp [Ieee.Format.sqrt, e, Ieee.Datum.root]
    rw [key x h, key _ (by rw [isN_cn]; exact h)]
  · rw [cn_of_not (by simpa using h)]
theorem sqC_cn (x : Nat) : sqC (cn .f64 x) = sqC x := by unfold sqC; rw [sqrt_cn]
end Go.Proofs.Ytpnkapdemgieaaa

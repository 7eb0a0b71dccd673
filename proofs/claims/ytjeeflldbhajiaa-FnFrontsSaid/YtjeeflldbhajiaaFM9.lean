/-
  Where a bar is half molten (the program's and the reference's). No condition but what each contract says.
  Fronts lie within their bar. No condition but what each law says; nothing of the program is named here.
  Bars that are warmed: no warmth below the point, signs of flows: a cell that is not yet molten never loses heat. No condition but what each law says; nothing of the program is named here.
  Bars that are warmed, on: how much flows at most; one cell in a tick: bounds. No condition but what each law says; nothing of the program is named here.
  Bars that are warmed, on: how warm a cell is, in terms of its heat; a cell in a tick. No condition but what each law says; nothing of the program is named here.
-/
import Derived.Test.YtjeeflldbhajiaaFM5
import Derived.Test.YtjeeflldbhajiaaFM7
set_option linter.unusedSimpArgs false
set_option linter.unusedVariables false
set_option linter.unusedSectionVars false
namespace Go.Proofs.Ytjeeflldbhajiaa
open Go Go.RowKit
open Go.ChangeShapes Go.WideShapes Go.ChangeAt Go.RowKit Go.Joins
def halfB (s : St) (x : Nat) : Bool := fle .f32 (partC s.k x) (cn .f32 1056964608)
def frontB (s : St) (p k x y : Nat) : Nat := fop .mul .f32 (fop .add .f32 (fop .add .f32 (cn .f32 (floatOfInt .f32 k)) (cn .f32 1056964608)) (fop .quo .f32 (fop .sub .f32 (cn .f32 1056964608) (partC s.k x)) (fop .sub .f32 (partC s.k y) (partC s.k x)))) (cn .f32 p)
def frontsL (s : St) (p : Nat) (xs : List Nat) : Nat → List Nat
  | 0 => []
  | k + 1 => if (halfB s (cn .f32 (xs.getD k 0)) == halfB s (cn .f32 (xs.getD (k + 1) 0))) = true then frontsL s p xs k else frontsL s p xs k ++ [frontB s p k (cn .f32 (xs.getD k 0)) (cn .f32 (xs.getD (k + 1) 0))]
theorem frontsL_step (s : St) (p : Nat) (xs : List Nat) (k : Nat) : frontsL s p xs (k + 1) = if (halfB s (cn .f32 (xs.getD k 0)) == halfB s (cn .f32 (xs.getD (k + 1) 0))) = true then frontsL s p xs k else frontsL s p xs k ++ [frontB s p k (cn .f32 (xs.getD k 0)) (cn .f32 (xs.getD (k + 1) 0))] := rfl
def frontsOk (s : St) (p : Nat) (xs : List Nat) : Bool := barOk s p xs && !(frontsL s p xs (xs.length - 1)).any fun x => !fin .f32 x
def frontsV (s : St) (p : Nat) (xs : List Nat) : List Nat := if frontsOk s p xs then frontsL s p xs (xs.length - 1) else []
theorem frontsV_no {s : St} {p : Nat} {xs : List Nat} (h : frontsOk s p xs = false) : frontsV s p xs = [] := by rw [frontsV, h]; rfl
theorem frontsV_ok {s : St} {p : Nat} {xs : List Nat} (h : frontsOk s p xs = true) : frontsV s p xs = frontsL s p xs (xs.length - 1) := by rw [frontsV, h]; rfl
set_option maxHeartbeats 4000000 in
theorem implFronts_any (s : St) (p : Nat) (v : Value) (xs : List Nat) (w : World) (hs : FS w v xs) : Calls Try.prog 30 #[.agg #[.float .f32 s.a, .float .f32 s.b, .float .f32 s.c, .float .f32 s.d, .float .f32 s.p, .float .f32 s.l, .float .f32 p, v]] w (BC w (frontsV s p xs) (frontsOk s p xs)) := by
  have HS := Lib.hid hs
  rcases h0 : barOk s p xs
  · obtain ⟨q, c, rfl, hc1, hc2, HV⟩ := FS_view hs
    have HB := Lib.hid (fun w h => implValidBar_any s p (.slice q xs.length c) xs w h)
    rw [h0] at HB
    have HO : Hid (frontsOk s p xs = false) := by show _ = _; unfold frontsOk; rw [h0]; rfl
    have HE := Lib.hid (frontsV_no HO.out)
    clear hs HV
    go_enter Try.func30, Try.ntmps30
    go_wp2_with (first | (with_reducible refine at_list ?_; refine wpList_fop rfl rfl rfl rfl rfl ?_; intro r n hr0; have hr := hr0 _ _ (by first | with_reducible assumption | exact rfl) (by first | with_reducible assumption | exact rfl); clear hr0) | (with_reducible refine at_list ?_; refine wpList_neg rfl rfl rfl ?_; intro r hr0; have hr := hr0 _ (by first | with_reducible assumption | exact rfl); clear hr0) | (with_reducible refine at_list ?_; refine wpList_fop_g rfl rfl rfl rfl rfl ?_; intro r n hr0; have hr := hr0 _ _ (by first | with_reducible assumption | exact rfl) (by first | with_reducible assumption | exact rfl); clear hr0) | (with_reducible refine at_list ?_; refine wpList_wide_g rfl rfl Try.underlying22 Try.underlying40 rfl ?_; intro r n hr0; have hr := hr0 _ (by first | with_reducible assumption | exact rfl); clear hr0) | (with_reducible refine at_list ?_; refine wpList_wide rfl rfl rfl Try.underlying22 Try.underlying40 ?_; intro r n hr0; have hr := hr0 _ (by first | with_reducible assumption | exact rfl); clear hr0) | (go_at_call 21; refine ((HB.out _ (HS.out.later (by (repeat (first | (with_reducible exact Below.refl _ _) | (with_reducible assumption) | (with_reducible refine below_then ?_ (by assumption)) | (with_reducible refine Below.trans ?_ (by assumption)) | (with_reducible refine below_drewN ?_ _) | (with_reducible apply Below.drew) | (with_reducible refine below_alloc ?_ _) | refine Below.setCell ?_ (by first | (simp; done) | (simp; omega)) _))))) ).mono ?_; rintro e w' ⟨rfl, hb⟩; obtain ⟨hT, hk⟩ := bv_next hb (by (repeat (with_reducible first | assumption | apply Trk.alloc | apply Trk.setCell | apply Trk.drewN | apply Trk.drew | exact Trk.nil _))); simp only [SameOn, World.size_alloc, World.size_setCell, World.size_drew, size_drewN', and_true] at hk; have hsz := Below.size hb; (try simp only [World.size_alloc, World.size_setCell, World.size_drew, size_drewN'] at hsz)) | (go_at_call 74; refine (partOf_any _ _ _).mono ?_; rintro e w' ⟨r, rfl, hr, hb⟩; obtain ⟨hT, hk⟩ := bv_next hb (by (repeat (with_reducible first | assumption | apply Trk.alloc | apply Trk.setCell | apply Trk.drewN | apply Trk.drew | exact Trk.nil _))); simp only [SameOn, World.size_alloc, World.size_setCell, World.size_drew, size_drewN', and_true] at hk; have hsz := Below.size hb; (try simp only [World.size_alloc, World.size_setCell, World.size_drew, size_drewN'] at hsz)) | (go_at_call 77; refine (areFinite_any _ _ _ (by assumption)).mono ?_; rintro e w' ⟨rfl, n, rfl⟩))
    all_goals
      go_ret2
      exact ⟨_, [], by rw [HO.out]; rfl, by (repeat (first | (with_reducible exact Below.refl _ _) | (with_reducible assumption) | (with_reducible refine below_then ?_ (by assumption)) | (with_reducible refine Below.trans ?_ (by assumption)) | (with_reducible refine below_drewN ?_ _) | (with_reducible apply Below.drew) | (with_reducible refine below_alloc ?_ _) | refine Below.setCell ?_ (by first | (simp; done) | (simp; omega)) _)), OF.nil0 _ _, by rw [HE.out]; rfl⟩
  obtain ⟨hn1, hn2⟩ := barOk_len h0
  obtain ⟨b0, o0, c0, rfl, ⟨hc1, hc2⟩, HV⟩ := hs.ptr hn1
  have HB := Lib.hid (fun w h => implValidBar_any s p (.slice (some ⟨b0, o0, none⟩) xs.length c0) xs w h)
  rw [h0] at HB
  have HOK : Hid (frontsOk s p xs = !(frontsL s p xs (xs.length - 1)).any fun x => !fin .f32 x) := by show _ = _; unfold frontsOk; rw [h0]; rfl
  have HE0 := Lib.hid (fun h => frontsV_no (s := s) (p := p) (xs := xs) h)
  have HE1 := Lib.hid (fun h => frontsV_ok (s := s) (p := p) (xs := xs) h)
  clear hs
  go_enter Try.func30, Try.ntmps30
  go_wp2_with (first | (with_reducible refine at_list ?_; refine wpList_fop rfl rfl rfl rfl rfl ?_; intro r n hr0; have hr := hr0 _ _ (by first | with_reducible assumption | exact rfl) (by first | with_reducible assumption | exact rfl); clear hr0) | (with_reducible refine at_list ?_; refine wpList_neg rfl rfl rfl ?_; intro r hr0; have hr := hr0 _ (by first | with_reducible assumption | exact rfl); clear hr0) | (with_reducible refine at_list ?_; refine wpList_fop_g rfl rfl rfl rfl rfl ?_; intro r n hr0; have hr := hr0 _ _ (by first | with_reducible assumption | exact rfl) (by first | with_reducible assumption | exact rfl); clear hr0) | (with_reducible refine at_list ?_; refine wpList_wide_g rfl rfl Try.underlying22 Try.underlying40 rfl ?_; intro r n hr0; have hr := hr0 _ (by first | with_reducible assumption | exact rfl); clear hr0) | (with_reducible refine at_list ?_; refine wpList_wide rfl rfl rfl Try.underlying22 Try.underlying40 ?_; intro r n hr0; have hr := hr0 _ (by first | with_reducible assumption | exact rfl); clear hr0) | (go_at_call 21; refine ((HB.out _ (HS.out.later (by (repeat (first | (with_reducible exact Below.refl _ _) | (with_reducible assumption) | (with_reducible refine below_then ?_ (by assumption)) | (with_reducible refine Below.trans ?_ (by assumption)) | (with_reducible refine below_drewN ?_ _) | (with_reducible apply Below.drew) | (with_reducible refine below_alloc ?_ _) | refine Below.setCell ?_ (by first | (simp; done) | (simp; omega)) _))))) ).mono ?_; rintro e w' ⟨rfl, hb⟩; obtain ⟨hT, hk⟩ := bv_next hb (by (repeat (with_reducible first | assumption | apply Trk.alloc | apply Trk.setCell | apply Trk.drewN | apply Trk.drew | exact Trk.nil _))); simp only [SameOn, World.size_alloc, World.size_setCell, World.size_drew, size_drewN', and_true] at hk; have hsz := Below.size hb; (try simp only [World.size_alloc, World.size_setCell, World.size_drew, size_drewN'] at hsz)) | (go_at_call 74; refine (partOf_any _ _ _).mono ?_; rintro e w' ⟨r, rfl, hr, hb⟩; obtain ⟨hT, hk⟩ := bv_next hb (by (repeat (with_reducible first | assumption | apply Trk.alloc | apply Trk.setCell | apply Trk.drewN | apply Trk.drew | exact Trk.nil _))); simp only [SameOn, World.size_alloc, World.size_setCell, World.size_drew, size_drewN', and_true] at hk; have hsz := Below.size hb; (try simp only [World.size_alloc, World.size_setCell, World.size_drew, size_drewN'] at hsz)) | (go_at_call 77; refine (areFinite_any _ _ _ (by assumption)).mono ?_; rintro e w' ⟨rfl, n, rfl⟩))
  refine wp_named ?_
  intro ws hws
  have hBs : Below w.heap.size w ws := by rw [hws]; (repeat (first | (with_reducible exact Below.refl _ _) | (with_reducible assumption) | (with_reducible refine below_then ?_ (by assumption)) | (with_reducible refine Below.trans ?_ (by assumption)) | (with_reducible refine below_drewN ?_ _) | (with_reducible apply Below.drew) | (with_reducible refine below_alloc ?_ _) | refine Below.setCell ?_ (by first | (simp; done) | (simp; omega)) _))
  have hzs : w.heap.size + 1 ≤ ws.heap.size := by rw [hws]; first | omega | (simp; done) | (simp; omega)
  have hat : BarAt s p (.slice (some ⟨b0, o0, none⟩) xs.length c0) ws w.heap.size 0 := by rw [hws]; exact (by unfold BarAt St.at; refine ⟨⟨?_, ?_, ?_, ?_, ?_, ?_⟩, ?_, ?_⟩ <;> go_simp)
  have HO00 : Hid (OF (w.heap.size + 1) ws (.slice (some ⟨w'.heap.size, 0, none⟩) 0 0) []) := by rw [hws]; first | exact OF.empty _ _ rfl (by first | omega | (simp; omega)) rfl | exact (OF.empty _ _ rfl (by first | omega | (simp; omega)) rfl).drewN _
  clear hws hb hk hT hsz
  go_loopw [4, 5, 6, 7, 8] (fun u t _ _ _ wr => ∃ (k c : Nat) (q : Option Addr) (ys : List Nat), k + 1 ≤ xs.length ∧ t = .int .i64 ((k : Int) + 1) ∧ u = .slice q ys.length c ∧ ys.length ≤ k ∧ Hid (OF (w.heap.size + 1) wr (.slice q ys.length c) ys) ∧ Hid (ys.map (cn .f32) = frontsL s p xs k) ∧ Below w.heap.size w wr ∧ w.heap.size + 1 ≤ wr.heap.size ∧ Hid (BarAt s p (.slice (some ⟨b0, o0, none⟩) xs.length c0) wr w.heap.size 0)) (fun _ t _ _ _ _ => xs.length - (intOf t).toNat)
  case atStart => exact ⟨0, 0, some ⟨_, 0, none⟩, [], by omega, by simp, rfl, Nat.le_refl _, HO00.out, rfl, hBs, hzs, hat⟩
  case round =>
    clear hBs hzs hat HO00
    obtain ⟨k, c, q, ys, hk, rfl, rfl, hyl, HO, HL, hB, hzr, HAT⟩ := hrel
    obtain ⟨⟨g0, g1, g2, g3, g4, g5⟩, g6, g7⟩ := HAT.out
    simp only [Nat.zero_add] at g0 g1 g2 g3 g4 g5 g6 g7
    have HYL := Lib.hid hyl
    by_cases hlt : k + 1 < xs.length
    · have hlti : (k : Int) + 1 < (xs.length : Int) := by omega
      have ca := cell_later hB (HV.out k (by omega))
      have cb := cell_later hB (HV.out (k + 1) hlt)
      have hT : Trk wr [w.heap.size, b0] := ((Trk.nil wr).more (World.block_lt_of_cell? _ _ ca)).more (by omega)
      have HST := Lib.hid (frontsL_step s p xs k)
      have HHB : Hid (∀ x, halfB s x = fle .f32 (partC s.k x) (cn .f32 1056964608)) := fun x => rfl
      have hi1 : IntKind.i64.wrap (k : Int) = (k : Int) := IntWalk.i64_in _ (by omega)
      have hlk : k < xs.length := by omega
      have hi2 : ((k : Int) + 1).toNat = k + 1 := by omega
      have hi3 : 0 ≤ (k : Int) + 1 := by omega
      generalize xs.getD k 0 = x at ca HST
      generalize xs.getD (k + 1) 0 = y at cb HST
      have hyn : ys.length ≤ 48 := by omega
      clear HV
      rw [HHB.out, HHB.out] at HST
      rcases f1 : fle .f32 (partC s.k (cn .f32 x)) (cn .f32 1056964608) <;> rcases f2 : fle .f32 (partC s.k (cn .f32 y)) (cn .f32 1056964608)
      all_goals rw [f1, f2] at HST
      case false.false =>
        have HST2 : Hid (frontsL s p xs (k + 1) = frontsL s p xs k) := HST.out
        clear HST hyl
        go_wp2_with (first | (with_reducible refine at_list ?_; refine wpList_fop rfl rfl rfl rfl rfl ?_; intro r n hr0; have hr := hr0 _ _ (by first | with_reducible assumption | exact rfl) (by first | with_reducible assumption | exact rfl); clear hr0) | (with_reducible refine at_list ?_; refine wpList_neg rfl rfl rfl ?_; intro r hr0; have hr := hr0 _ (by first | with_reducible assumption | exact rfl); clear hr0) | (with_reducible refine at_list ?_; refine wpList_fop_g rfl rfl rfl rfl rfl ?_; intro r n hr0; have hr := hr0 _ _ (by first | with_reducible assumption | exact rfl) (by first | with_reducible assumption | exact rfl); clear hr0) | (with_reducible refine at_list ?_; refine wpList_wide_g rfl rfl Try.underlying22 Try.underlying40 rfl ?_; intro r n hr0; have hr := hr0 _ (by first | with_reducible assumption | exact rfl); clear hr0) | (with_reducible refine at_list ?_; refine wpList_wide rfl rfl rfl Try.underlying22 Try.underlying40 ?_; intro r n hr0; have hr := hr0 _ (by first | with_reducible assumption | exact rfl); clear hr0) | (go_at_call 21; refine (implValidBar_any _ _ _ _ _ (by assumption)).mono ?_; rintro e w' ⟨rfl, hb⟩; obtain ⟨hT, hk⟩ := bv_next hb (by (repeat (with_reducible first | assumption | apply Trk.alloc | apply Trk.setCell | apply Trk.drewN | apply Trk.drew | exact Trk.nil _))); simp only [SameOn, World.size_alloc, World.size_setCell, World.size_drew, size_drewN', and_true] at hk; have hsz := Below.size hb; (try simp only [World.size_alloc, World.size_setCell, World.size_drew, size_drewN'] at hsz)) | (go_at_call 74; refine (partOf_any _ _ _).mono ?_; rintro e w' ⟨r, rfl, hr, hb⟩; obtain ⟨hT, hk⟩ := bv_next hb (by (repeat (with_reducible first | assumption | apply Trk.alloc | apply Trk.setCell | apply Trk.drewN | apply Trk.drew | exact Trk.nil _))); simp only [SameOn, World.size_alloc, World.size_setCell, World.size_drew, size_drewN', and_true] at hk; have hsz := Below.size hb; (try simp only [World.size_alloc, World.size_setCell, World.size_drew, size_drewN'] at hsz)) | (go_at_call 77; refine (areFinite_any _ _ _ (by assumption)).mono ?_; rintro e w' ⟨rfl, n, rfl⟩))
        (apply wp_region_plan; ((apply wpC_det; (case hw => exact rfl); (case hs => (intro cs b h; cases h)); (case h1 => (intro w'; go_simp <;> exact rfl))); apply wpC_norm; (case ha => (simp only [Act.put, List.setIfInBounds_toArray, List.set_cons_zero, List.set_cons_succ]; exact rfl))); ((apply wpC_val; (case hw => exact rfl); (case h1 => (intro w' hb hk0; obtain ⟨hT, hk⟩ := bv_next hb (by (repeat (with_reducible first | assumption | apply Trk.alloc | apply Trk.setCell | apply Trk.drewN | apply Trk.drew | exact Trk.nil _))); simp only [SameOn, World.size_alloc, World.size_setCell, World.size_drew, size_drewN', and_true] at hk; have hsz := Below.size hb; (try simp only [World.size_alloc, World.size_setCell, World.size_drew, size_drewN'] at hsz); go_simp <;> exact rfl))); apply wpC_norm; (case ha => (simp only [Act.put, List.setIfInBounds_toArray, List.set_cons_zero, List.set_cons_succ]; exact rfl))); ((apply wpC_det; (case hw => exact rfl); (case hs => (intro cs b h; cases h)); (case h1 => (intro w'; go_simp <;> exact rfl))); apply wpC_norm; (case ha => (simp only [Act.put, List.setIfInBounds_toArray, List.set_cons_zero, List.set_cons_succ]; exact rfl))); ((apply wpC_val; (case hw => exact rfl); (case h1 => (intro w' hb hk0; obtain ⟨hT, hk⟩ := bv_next hb (by (repeat (with_reducible first | assumption | apply Trk.alloc | apply Trk.setCell | apply Trk.drewN | apply Trk.drew | exact Trk.nil _))); simp only [SameOn, World.size_alloc, World.size_setCell, World.size_drew, size_drewN', and_true] at hk; have hsz := Below.size hb; (try simp only [World.size_alloc, World.size_setCell, World.size_drew, size_drewN'] at hsz); go_simp <;> exact rfl))); apply wpC_norm; (case ha => (simp only [Act.put, List.setIfInBounds_toArray, List.set_cons_zero, List.set_cons_succ]; exact rfl))); ((apply wpC_det; (case hw => exact rfl); (case hs => (intro cs b h; cases h)); (case h1 => (intro w'; go_simp <;> exact rfl))); apply wpC_norm; (case ha => (simp only [Act.put, List.setIfInBounds_toArray, List.set_cons_zero, List.set_cons_succ]; exact rfl))); ((apply wpC_det; (case hw => exact rfl); (case hs => (intro cs b h; cases h)); (case h1 => (intro w'; go_simp <;> exact rfl))); apply wpC_norm; (case ha => (simp only [Act.put, List.setIfInBounds_toArray, List.set_cons_zero, List.set_cons_succ]; exact rfl))); ((apply wpC_det; (case hw => exact rfl); (case hs => (intro cs b h; cases h)); (case h1 => (intro w'; go_simp <;> exact rfl))); apply wpC_norm; (case ha => (simp only [Act.put, List.setIfInBounds_toArray, List.set_cons_zero, List.set_cons_succ]; exact rfl))); ((apply wpC_val; (case hw => exact rfl); (case h1 => (intro w' hb hk0; obtain ⟨hT, hk⟩ := bv_next hb (by (repeat (with_reducible first | assumption | apply Trk.alloc | apply Trk.setCell | apply Trk.drewN | apply Trk.drew | exact Trk.nil _))); simp only [SameOn, World.size_alloc, World.size_setCell, World.size_drew, size_drewN', and_true] at hk; have hsz := Below.size hb; (try simp only [World.size_alloc, World.size_setCell, World.size_drew, size_drewN'] at hsz); go_simp <;> exact rfl))); apply wpC_norm; (case ha => (simp only [Act.put, List.setIfInBounds_toArray, List.set_cons_zero, List.set_cons_succ]; exact rfl))); ((apply wpC_callF _ _; ((case hw => exact rfl)); (case h1 => (intro w'; go_simp; exact ⟨rfl, rfl⟩)); (case hc => (intro w' hb hk0; obtain ⟨hT, hk⟩ := bv_next hb (by (repeat (with_reducible first | assumption | apply Trk.alloc | apply Trk.setCell | apply Trk.drewN | apply Trk.drew | exact Trk.nil _))); simp only [SameOn, World.size_alloc, World.size_setCell, World.size_drew, size_drewN', and_true] at hk; have hsz := Below.size hb; (try simp only [World.size_alloc, World.size_setCell, World.size_drew, size_drewN'] at hsz); refine ((partOf_any s _ _) ).mono ?_; intro e2 w3 h; (try simp only [*] at h); exact h)); (case hcc => (first | (with_reducible first | assumption | exact cn_fop _ _ _ _ | exact cn_cn _ _ | exact cn_wide _ | exact cn_narrow _ | exact cn_accC .. | exact cn_heatC .. | exact cn_half .. | exact cn_bet .. | exact cn_end .. | exact cn_erV .. | exact cn_exV .. | exact cn_slopeV .. | exact cn_rootC .. | exact cn_stF .. | exact cn_warmC .. | exact cn_partC .. | exact cn_easeC .. | exact cn_growC .. | exact cn_mostV .. | exact cn_passV .. | exact cn_flowL .. | exact cn_flowV .. | exact cn_fV .. | exact cn_heldA .. | exact cn_gainA .. | exact cn_meanV .. | exact cn_sqC .. | exact cn_gapC ..) | (refine cn_chk ?_; (with_reducible first | assumption | exact cn_fop _ _ _ _ | exact cn_cn _ _ | exact cn_wide _ | exact cn_narrow _ | exact cn_accC .. | exact cn_heatC .. | exact cn_half .. | exact cn_bet .. | exact cn_end .. | exact cn_erV .. | exact cn_exV .. | exact cn_slopeV .. | exact cn_rootC .. | exact cn_stF .. | exact cn_warmC .. | exact cn_partC .. | exact cn_easeC .. | exact cn_growC .. | exact cn_mostV .. | exact cn_passV .. | exact cn_flowL .. | exact cn_flowV .. | exact cn_fV .. | exact cn_heldA .. | exact cn_gainA .. | exact cn_meanV .. | exact cn_sqC .. | exact cn_gapC ..)) | (refine cn_gF ?_; (with_reducible first | assumption | exact cn_fop _ _ _ _ | exact cn_cn _ _ | exact cn_wide _ | exact cn_narrow _ | exact cn_accC .. | exact cn_heatC .. | exact cn_half .. | exact cn_bet .. | exact cn_end .. | exact cn_erV .. | exact cn_exV .. | exact cn_slopeV .. | exact cn_rootC .. | exact cn_stF .. | exact cn_warmC .. | exact cn_partC .. | exact cn_easeC .. | exact cn_growC .. | exact cn_mostV .. | exact cn_passV .. | exact cn_flowL .. | exact cn_flowV .. | exact cn_fV .. | exact cn_heldA .. | exact cn_gainA .. | exact cn_meanV .. | exact cn_sqC .. | exact cn_gapC ..)))); intro r hr); apply wpC_norm; (case ha => (simp only [Act.put, List.setIfInBounds_toArray, List.set_cons_zero, List.set_cons_succ]; exact rfl))); ((apply wpC_det; (case hw => exact rfl); (case hs => (intro cs b h; cases h)); (case h1 => (intro w'; go_simp <;> exact rfl))); apply wpC_norm; (case ha => (simp only [Act.put, List.setIfInBounds_toArray, List.set_cons_zero, List.set_cons_succ]; exact rfl))); ((apply wpC_val; (case hw => exact rfl); (case h1 => (intro w' hb hk0; obtain ⟨hT, hk⟩ := bv_next hb (by (repeat (with_reducible first | assumption | apply Trk.alloc | apply Trk.setCell | apply Trk.drewN | apply Trk.drew | exact Trk.nil _))); simp only [SameOn, World.size_alloc, World.size_setCell, World.size_drew, size_drewN', and_true] at hk; have hsz := Below.size hb; (try simp only [World.size_alloc, World.size_setCell, World.size_drew, size_drewN'] at hsz); go_simp <;> exact rfl))); apply wpC_norm; (case ha => (simp only [Act.put, List.setIfInBounds_toArray, List.set_cons_zero, List.set_cons_succ]; exact rfl))); ((apply wpC_det; (case hw => exact rfl); (case hs => (intro cs b h; cases h)); (case h1 => (intro w'; go_simp <;> exact rfl))); apply wpC_norm; (case ha => (simp only [Act.put, List.setIfInBounds_toArray, List.set_cons_zero, List.set_cons_succ]; exact rfl))); ((apply wpC_val; (case hw => exact rfl); (case h1 => (intro w' hb hk0; obtain ⟨hT, hk⟩ := bv_next hb (by (repeat (with_reducible first | assumption | apply Trk.alloc | apply Trk.setCell | apply Trk.drewN | apply Trk.drew | exact Trk.nil _))); simp only [SameOn, World.size_alloc, World.size_setCell, World.size_drew, size_drewN', and_true] at hk; have hsz := Below.size hb; (try simp only [World.size_alloc, World.size_setCell, World.size_drew, size_drewN'] at hsz); go_simp <;> exact rfl))); apply wpC_norm; (case ha => (simp only [Act.put, List.setIfInBounds_toArray, List.set_cons_zero, List.set_cons_succ]; exact rfl))); ((apply wpC_det; (case hw => exact rfl); (case hs => (intro cs b h; cases h)); (case h1 => (intro w'; go_simp <;> exact rfl))); apply wpC_norm; (case ha => (simp only [Act.put, List.setIfInBounds_toArray, List.set_cons_zero, List.set_cons_succ]; exact rfl))); ((apply wpC_det; (case hw => exact rfl); (case hs => (intro cs b h; cases h)); (case h1 => (intro w'; go_simp <;> exact rfl))); apply wpC_norm; (case ha => (simp only [Act.put, List.setIfInBounds_toArray, List.set_cons_zero, List.set_cons_succ]; exact rfl))); ((apply wpC_val; (case hw => exact rfl); (case h1 => (intro w' hb hk0; obtain ⟨hT, hk⟩ := bv_next hb (by (repeat (with_reducible first | assumption | apply Trk.alloc | apply Trk.setCell | apply Trk.drewN | apply Trk.drew | exact Trk.nil _))); simp only [SameOn, World.size_alloc, World.size_setCell, World.size_drew, size_drewN', and_true] at hk; have hsz := Below.size hb; (try simp only [World.size_alloc, World.size_setCell, World.size_drew, size_drewN'] at hsz); go_simp <;> exact rfl))); apply wpC_norm; (case ha => (simp only [Act.put, List.setIfInBounds_toArray, List.set_cons_zero, List.set_cons_succ]; exact rfl))); ((apply wpC_callF _ _; ((case hw => exact rfl)); (case h1 => (intro w'; go_simp; exact ⟨rfl, rfl⟩)); (case hc => (intro w' hb hk0; obtain ⟨hT, hk⟩ := bv_next hb (by (repeat (with_reducible first | assumption | apply Trk.alloc | apply Trk.setCell | apply Trk.drewN | apply Trk.drew | exact Trk.nil _))); simp only [SameOn, World.size_alloc, World.size_setCell, World.size_drew, size_drewN', and_true] at hk; have hsz := Below.size hb; (try simp only [World.size_alloc, World.size_setCell, World.size_drew, size_drewN'] at hsz); refine ((partOf_any s _ _) ).mono ?_; intro e2 w3 h; (try simp only [*] at h); exact h)); (case hcc => (first | (with_reducible first | assumption | exact cn_fop _ _ _ _ | exact cn_cn _ _ | exact cn_wide _ | exact cn_narrow _ | exact cn_accC .. | exact cn_heatC .. | exact cn_half .. | exact cn_bet .. | exact cn_end .. | exact cn_erV .. | exact cn_exV .. | exact cn_slopeV .. | exact cn_rootC .. | exact cn_stF .. | exact cn_warmC .. | exact cn_partC .. | exact cn_easeC .. | exact cn_growC .. | exact cn_mostV .. | exact cn_passV .. | exact cn_flowL .. | exact cn_flowV .. | exact cn_fV .. | exact cn_heldA .. | exact cn_gainA .. | exact cn_meanV .. | exact cn_sqC .. | exact cn_gapC ..) | (refine cn_chk ?_; (with_reducible first | assumption | exact cn_fop _ _ _ _ | exact cn_cn _ _ | exact cn_wide _ | exact cn_narrow _ | exact cn_accC .. | exact cn_heatC .. | exact cn_half .. | exact cn_bet .. | exact cn_end .. | exact cn_erV .. | exact cn_exV .. | exact cn_slopeV .. | exact cn_rootC .. | exact cn_stF .. | exact cn_warmC .. | exact cn_partC .. | exact cn_easeC .. | exact cn_growC .. | exact cn_mostV .. | exact cn_passV .. | exact cn_flowL .. | exact cn_flowV .. | exact cn_fV .. | exact cn_heldA .. | exact cn_gainA .. | exact cn_meanV .. | exact cn_sqC .. | exact cn_gapC ..)) | (refine cn_gF ?_; (with_reducible first | assumption | exact cn_fop _ _ _ _ | exact cn_cn _ _ | exact cn_wide _ | exact cn_narrow _ | exact cn_accC .. | exact cn_heatC .. | exact cn_half .. | exact cn_bet .. | exact cn_end .. | exact cn_erV .. | exact cn_exV .. | exact cn_slopeV .. | exact cn_rootC .. | exact cn_stF .. | exact cn_warmC .. | exact cn_partC .. | exact cn_easeC .. | exact cn_growC .. | exact cn_mostV .. | exact cn_passV .. | exact cn_flowL .. | exact cn_flowV .. | exact cn_fV .. | exact cn_heldA .. | exact cn_gainA .. | exact cn_meanV .. | exact cn_sqC .. | exact cn_gapC ..)))); intro r hr); apply wpC_norm; (case ha => (simp only [Act.put, List.setIfInBounds_toArray, List.set_cons_zero, List.set_cons_succ]; exact rfl))); ((apply wpC_det; (case hw => exact rfl); (case hs => (intro cs b h; cases h)); (case h1 => (intro w'; go_simp <;> exact rfl))); apply wpC_norm; (case ha => (simp only [Act.put, List.setIfInBounds_toArray, List.set_cons_zero, List.set_cons_succ]; exact rfl))); ((apply wpC_det; (case hw => exact rfl); (case hs => (intro cs b h; cases h)); (case h1 => (intro w'; go_simp <;> exact rfl))); apply wpC_norm; (case ha => (simp only [Act.put, List.setIfInBounds_toArray, List.set_cons_zero, List.set_cons_succ]; exact rfl))); refine wpC_nil ?_; intro w' hb hkk; obtain ⟨hT, hk⟩ := bv_next hb (by (repeat (with_reducible first | assumption | apply Trk.alloc | apply Trk.setCell | apply Trk.drewN | apply Trk.drew | exact Trk.nil _))); simp only [SameOn, World.size_alloc, World.size_setCell, World.size_drew, size_drewN', and_true] at hk; have hsz := Below.size hb; (try simp only [World.size_alloc, World.size_setCell, World.size_drew, size_drewN'] at hsz))
        go_wp2_with (first | (with_reducible refine at_list ?_; refine wpList_fop rfl rfl rfl rfl rfl ?_; intro r n hr0; have hr := hr0 _ _ (by first | with_reducible assumption | exact rfl) (by first | with_reducible assumption | exact rfl); clear hr0) | (with_reducible refine at_list ?_; refine wpList_neg rfl rfl rfl ?_; intro r hr0; have hr := hr0 _ (by first | with_reducible assumption | exact rfl); clear hr0) | (with_reducible refine at_list ?_; refine wpList_fop_g rfl rfl rfl rfl rfl ?_; intro r n hr0; have hr := hr0 _ _ (by first | with_reducible assumption | exact rfl) (by first | with_reducible assumption | exact rfl); clear hr0) | (with_reducible refine at_list ?_; refine wpList_wide_g rfl rfl Try.underlying22 Try.underlying40 rfl ?_; intro r n hr0; have hr := hr0 _ (by first | with_reducible assumption | exact rfl); clear hr0) | (with_reducible refine at_list ?_; refine wpList_wide rfl rfl rfl Try.underlying22 Try.underlying40 ?_; intro r n hr0; have hr := hr0 _ (by first | with_reducible assumption | exact rfl); clear hr0) | (go_at_call 21; refine (implValidBar_any _ _ _ _ _ (by assumption)).mono ?_; rintro e w' ⟨rfl, hb⟩; obtain ⟨hT, hk⟩ := bv_next hb (by (repeat (with_reducible first | assumption | apply Trk.alloc | apply Trk.setCell | apply Trk.drewN | apply Trk.drew | exact Trk.nil _))); simp only [SameOn, World.size_alloc, World.size_setCell, World.size_drew, size_drewN', and_true] at hk; have hsz := Below.size hb; (try simp only [World.size_alloc, World.size_setCell, World.size_drew, size_drewN'] at hsz)) | (go_at_call 74; refine (partOf_any _ _ _).mono ?_; rintro e w' ⟨r, rfl, hr, hb⟩; obtain ⟨hT, hk⟩ := bv_next hb (by (repeat (with_reducible first | assumption | apply Trk.alloc | apply Trk.setCell | apply Trk.drewN | apply Trk.drew | exact Trk.nil _))); simp only [SameOn, World.size_alloc, World.size_setCell, World.size_drew, size_drewN', and_true] at hk; have hsz := Below.size hb; (try simp only [World.size_alloc, World.size_setCell, World.size_drew, size_drewN'] at hsz)) | (go_at_call 77; refine (areFinite_any _ _ _ (by assumption)).mono ?_; rintro e w' ⟨rfl, n, rfl⟩))
        go_roundw
        case rel => exact ⟨k + 1, c, q, ys, by omega, by go_num, rfl, by have := HYL.out; omega, by show OF _ _ _ _; exact OF.later HO.out (by (repeat (first | (with_reducible exact Below.refl _ _) | (with_reducible assumption) | (with_reducible refine below_then ?_ (by assumption)) | (with_reducible refine Below.trans ?_ (by assumption)) | (with_reducible refine below_drewN ?_ _) | (with_reducible apply Below.drew) | (with_reducible refine below_alloc ?_ _) | refine Below.setCell ?_ (by first | (simp; done) | (simp; omega)) _))), by show _ = _; rw [HST2.out, HL.out], by (repeat (first | (with_reducible exact Below.refl _ _) | (with_reducible assumption) | (with_reducible refine below_then ?_ (by assumption)) | (with_reducible refine Below.trans ?_ (by assumption)) | (with_reducible refine below_drewN ?_ _) | (with_reducible apply Below.drew) | (with_reducible refine below_alloc ?_ _) | refine Below.setCell ?_ (by first | (simp; done) | (simp; omega)) _)), by first | omega | (simp only [size_drewN']; omega), (by unfold BarAt St.at; refine ⟨⟨?_, ?_, ?_, ?_, ?_, ?_⟩, ?_, ?_⟩ <;> go_simp)⟩
        case measure => simp [intOf]; omega
        all_goals first | kernel_rfl | rfl
      case true.true =>
        have HST2 : Hid (frontsL s p xs (k + 1) = frontsL s p xs k) := HST.out
        clear HST hyl
        go_wp2_with (first | (with_reducible refine at_list ?_; refine wpList_fop rfl rfl rfl rfl rfl ?_; intro r n hr0; have hr := hr0 _ _ (by first | with_reducible assumption | exact rfl) (by first | with_reducible assumption | exact rfl); clear hr0) | (with_reducible refine at_list ?_; refine wpList_neg rfl rfl rfl ?_; intro r hr0; have hr := hr0 _ (by first | with_reducible assumption | exact rfl); clear hr0) | (with_reducible refine at_list ?_; refine wpList_fop_g rfl rfl rfl rfl rfl ?_; intro r n hr0; have hr := hr0 _ _ (by first | with_reducible assumption | exact rfl) (by first | with_reducible assumption | exact rfl); clear hr0) | (with_reducible refine at_list ?_; refine wpList_wide_g rfl rfl Try.underlying22 Try.underlying40 rfl ?_; intro r n hr0; have hr := hr0 _ (by first | with_reducible assumption | exact rfl); clear hr0) | (with_reducible refine at_list ?_; refine wpList_wide rfl rfl rfl Try.underlying22 Try.underlying40 ?_; intro r n hr0; have hr := hr0 _ (by first | with_reducible assumption | exact rfl); clear hr0) | (go_at_call 21; refine (implValidBar_any _ _ _ _ _ (by assumption)).mono ?_; rintro e w' ⟨rfl, hb⟩; obtain ⟨hT, hk⟩ := bv_next hb (by (repeat (with_reducible first | assumption | apply Trk.alloc | apply Trk.setCell | apply Trk.drewN | apply Trk.drew | exact Trk.nil _))); simp only [SameOn, World.size_alloc, World.size_setCell, World.size_drew, size_drewN', and_true] at hk; have hsz := Below.size hb; (try simp only [World.size_alloc, World.size_setCell, World.size_drew, size_drewN'] at hsz)) | (go_at_call 74; refine (partOf_any _ _ _).mono ?_; rintro e w' ⟨r, rfl, hr, hb⟩; obtain ⟨hT, hk⟩ := bv_next hb (by (repeat (with_reducible first | assumption | apply Trk.alloc | apply Trk.setCell | apply Trk.drewN | apply Trk.drew | exact Trk.nil _))); simp only [SameOn, World.size_alloc, World.size_setCell, World.size_drew, size_drewN', and_true] at hk; have hsz := Below.size hb; (try simp only [World.size_alloc, World.size_setCell, World.size_drew, size_drewN'] at hsz)) | (go_at_call 77; refine (areFinite_any _ _ _ (by assumption)).mono ?_; rintro e w' ⟨rfl, n, rfl⟩))
        (apply wp_region_plan; ((apply wpC_det; (case hw => exact rfl); (case hs => (intro cs b h; cases h)); (case h1 => (intro w'; go_simp <;> exact rfl))); apply wpC_norm; (case ha => (simp only [Act.put, List.setIfInBounds_toArray, List.set_cons_zero, List.set_cons_succ]; exact rfl))); ((apply wpC_val; (case hw => exact rfl); (case h1 => (intro w' hb hk0; obtain ⟨hT, hk⟩ := bv_next hb (by (repeat (with_reducible first | assumption | apply Trk.alloc | apply Trk.setCell | apply Trk.drewN | apply Trk.drew | exact Trk.nil _))); simp only [SameOn, World.size_alloc, World.size_setCell, World.size_drew, size_drewN', and_true] at hk; have hsz := Below.size hb; (try simp only [World.size_alloc, World.size_setCell, World.size_drew, size_drewN'] at hsz); go_simp <;> exact rfl))); apply wpC_norm; (case ha => (simp only [Act.put, List.setIfInBounds_toArray, List.set_cons_zero, List.set_cons_succ]; exact rfl))); ((apply wpC_det; (case hw => exact rfl); (case hs => (intro cs b h; cases h)); (case h1 => (intro w'; go_simp <;> exact rfl))); apply wpC_norm; (case ha => (simp only [Act.put, List.setIfInBounds_toArray, List.set_cons_zero, List.set_cons_succ]; exact rfl))); ((apply wpC_val; (case hw => exact rfl); (case h1 => (intro w' hb hk0; obtain ⟨hT, hk⟩ := bv_next hb (by (repeat (with_reducible first | assumption | apply Trk.alloc | apply Trk.setCell | apply Trk.drewN | apply Trk.drew | exact Trk.nil _))); simp only [SameOn, World.size_alloc, World.size_setCell, World.size_drew, size_drewN', and_true] at hk; have hsz := Below.size hb; (try simp only [World.size_alloc, World.size_setCell, World.size_drew, size_drewN'] at hsz); go_simp <;> exact rfl))); apply wpC_norm; (case ha => (simp only [Act.put, List.setIfInBounds_toArray, List.set_cons_zero, List.set_cons_succ]; exact rfl))); ((apply wpC_det; (case hw => exact rfl); (case hs => (intro cs b h; cases h)); (case h1 => (intro w'; go_simp <;> exact rfl))); apply wpC_norm; (case ha => (simp only [Act.put, List.setIfInBounds_toArray, List.set_cons_zero, List.set_cons_succ]; exact rfl))); ((apply wpC_det; (case hw => exact rfl); (case hs => (intro cs b h; cases h)); (case h1 => (intro w'; go_simp <;> exact rfl))); apply wpC_norm; (case ha => (simp only [Act.put, List.setIfInBounds_toArray, List.set_cons_zero, List.set_cons_succ]; exact rfl))); ((apply wpC_det; (case hw => exact rfl); (case hs => (intro cs b h; cases h)); (case h1 => (intro w'; go_simp <;> exact rfl))); apply wpC_norm; (case ha => (simp only [Act.put, List.setIfInBounds_toArray, List.set_cons_zero, List.set_cons_succ]; exact rfl))); ((apply wpC_val; (case hw => exact rfl); (case h1 => (intro w' hb hk0; obtain ⟨hT, hk⟩ := bv_next hb (by (repeat (with_reducible first | assumption | apply Trk.alloc | apply Trk.setCell | apply Trk.drewN | apply Trk.drew | exact Trk.nil _))); simp only [SameOn, World.size_alloc, World.size_setCell, World.size_drew, size_drewN', and_true] at hk; have hsz := Below.size hb; (try simp only [World.size_alloc, World.size_setCell, World.size_drew, size_drewN'] at hsz); go_simp <;> exact rfl))); apply wpC_norm; (case ha => (simp only [Act.put, List.setIfInBounds_toArray, List.set_cons_zero, List.set_cons_succ]; exact rfl))); ((apply wpC_callF _ _; ((case hw => exact rfl)); (case h1 => (intro w'; go_simp; exact ⟨rfl, rfl⟩)); (case hc => (intro w' hb hk0; obtain ⟨hT, hk⟩ := bv_next hb (by (repeat (with_reducible first | assumption | apply Trk.alloc | apply Trk.setCell | apply Trk.drewN | apply Trk.drew | exact Trk.nil _))); simp only [SameOn, World.size_alloc, World.size_setCell, World.size_drew, size_drewN', and_true] at hk; have hsz := Below.size hb; (try simp only [World.size_alloc, World.size_setCell, World.size_drew, size_drewN'] at hsz); refine ((partOf_any s _ _) ).mono ?_; intro e2 w3 h; (try simp only [*] at h); exact h)); (case hcc => (first | (with_reducible first | assumption | exact cn_fop _ _ _ _ | exact cn_cn _ _ | exact cn_wide _ | exact cn_narrow _ | exact cn_accC .. | exact cn_heatC .. | exact cn_half .. | exact cn_bet .. | exact cn_end .. | exact cn_erV .. | exact cn_exV .. | exact cn_slopeV .. | exact cn_rootC .. | exact cn_stF .. | exact cn_warmC .. | exact cn_partC .. | exact cn_easeC .. | exact cn_growC .. | exact cn_mostV .. | exact cn_passV .. | exact cn_flowL .. | exact cn_flowV .. | exact cn_fV .. | exact cn_heldA .. | exact cn_gainA .. | exact cn_meanV .. | exact cn_sqC .. | exact cn_gapC ..) | (refine cn_chk ?_; (with_reducible first | assumption | exact cn_fop _ _ _ _ | exact cn_cn _ _ | exact cn_wide _ | exact cn_narrow _ | exact cn_accC .. | exact cn_heatC .. | exact cn_half .. | exact cn_bet .. | exact cn_end .. | exact cn_erV .. | exact cn_exV .. | exact cn_slopeV .. | exact cn_rootC .. | exact cn_stF .. | exact cn_warmC .. | exact cn_partC .. | exact cn_easeC .. | exact cn_growC .. | exact cn_mostV .. | exact cn_passV .. | exact cn_flowL .. | exact cn_flowV .. | exact cn_fV .. | exact cn_heldA .. | exact cn_gainA .. | exact cn_meanV .. | exact cn_sqC .. | exact cn_gapC ..)) | (refine cn_gF ?_; (with_reducible first | assumption | exact cn_fop _ _ _ _ | exact cn_cn _ _ | exact cn_wide _ | exact cn_narrow _ | exact cn_accC .. | exact cn_heatC .. | exact cn_half .. | exact cn_bet .. | exact cn_end .. | exact cn_erV .. | exact cn_exV .. | exact cn_slopeV .. | exact cn_rootC .. | exact cn_stF .. | exact cn_warmC .. | exact cn_partC .. | exact cn_easeC .. | exact cn_growC .. | exact cn_mostV .. | exact cn_passV .. | exact cn_flowL .. | exact cn_flowV .. | exact cn_fV .. | exact cn_heldA .. | exact cn_gainA .. | exact cn_meanV .. | exact cn_sqC .. | exact cn_gapC ..)))); intro r hr); apply wpC_norm; (case ha => (simp only [Act.put, List.setIfInBounds_toArray, List.set_cons_zero, List.set_cons_succ]; exact rfl))); ((apply wpC_det; (case hw => exact rfl); (case hs => (intro cs b h; cases h)); (case h1 => (intro w'; go_simp <;> exact rfl))); apply wpC_norm; (case ha => (simp only [Act.put, List.setIfInBounds_toArray, List.set_cons_zero, List.set_cons_succ]; exact rfl))); ((apply wpC_val; (case hw => exact rfl); (case h1 => (intro w' hb hk0; obtain ⟨hT, hk⟩ := bv_next hb (by (repeat (with_reducible first | assumption | apply Trk.alloc | apply Trk.setCell | apply Trk.drewN | apply Trk.drew | exact Trk.nil _))); simp only [SameOn, World.size_alloc, World.size_setCell, World.size_drew, size_drewN', and_true] at hk; have hsz := Below.size hb; (try simp only [World.size_alloc, World.size_setCell, World.size_drew, size_drewN'] at hsz); go_simp <;> exact rfl))); apply wpC_norm; (case ha => (simp only [Act.put, List.setIfInBounds_toArray, List.set_cons_zero, List.set_cons_succ]; exact rfl))); ((apply wpC_det; (case hw => exact rfl); (case hs => (intro cs b h; cases h)); (case h1 => (intro w'; go_simp <;> exact rfl))); apply wpC_norm; (case ha => (simp only [Act.put, List.setIfInBounds_toArray, List.set_cons_zero, List.set_cons_succ]; exact rfl))); ((apply wpC_val; (case hw => exact rfl); (case h1 => (intro w' hb hk0; obtain ⟨hT, hk⟩ := bv_next hb (by (repeat (with_reducible first | assumption | apply Trk.alloc | apply Trk.setCell | apply Trk.drewN | apply Trk.drew | exact Trk.nil _))); simp only [SameOn, World.size_alloc, World.size_setCell, World.size_drew, size_drewN', and_true] at hk; have hsz := Below.size hb; (try simp only [World.size_alloc, World.size_setCell, World.size_drew, size_drewN'] at hsz); go_simp <;> exact rfl))); apply wpC_norm; (case ha => (simp only [Act.put, List.setIfInBounds_toArray, List.set_cons_zero, List.set_cons_succ]; exact rfl))); ((apply wpC_det; (case hw => exact rfl); (case hs => (intro cs b h; cases h)); (case h1 => (intro w'; go_simp <;> exact rfl))); apply wpC_norm; (case ha => (simp only [Act.put, List.setIfInBounds_toArray, List.set_cons_zero, List.set_cons_succ]; exact rfl))); ((apply wpC_det; (case hw => exact rfl); (case hs => (intro cs b h; cases h)); (case h1 => (intro w'; go_simp <;> exact rfl))); apply wpC_norm; (case ha => (simp only [Act.put, List.setIfInBounds_toArray, List.set_cons_zero, List.set_cons_succ]; exact rfl))); ((apply wpC_val; (case hw => exact rfl); (case h1 => (intro w' hb hk0; obtain ⟨hT, hk⟩ := bv_next hb (by (repeat (with_reducible first | assumption | apply Trk.alloc | apply Trk.setCell | apply Trk.drewN | apply Trk.drew | exact Trk.nil _))); simp only [SameOn, World.size_alloc, World.size_setCell, World.size_drew, size_drewN', and_true] at hk; have hsz := Below.size hb; (try simp only [World.size_alloc, World.size_setCell, World.size_drew, size_drewN'] at hsz); go_simp <;> exact rfl))); apply wpC_norm; (case ha => (simp only [Act.put, List.setIfInBounds_toArray, List.set_cons_zero, List.set_cons_succ]; exact rfl))); ((apply wpC_callF _ _; ((case hw => exact rfl)); (case h1 => (intro w'; go_simp; exact ⟨rfl, rfl⟩)); (case hc => (intro w' hb hk0; obtain ⟨hT, hk⟩ := bv_next hb (by (repeat (with_reducible first | assumption | apply Trk.alloc | apply Trk.setCell | apply Trk.drewN | apply Trk.drew | exact Trk.nil _))); simp only [SameOn, World.size_alloc, World.size_setCell, World.size_drew, size_drewN', and_true] at hk; have hsz := Below.size hb; (try simp only [World.size_alloc, World.size_setCell, World.size_drew, size_drewN'] at hsz); refine ((partOf_any s _ _) ).mono ?_; intro e2 w3 h; (try simp only [*] at h); exact h)); (case hcc => (first | (with_reducible first | assumption | exact cn_fop _ _ _ _ | exact cn_cn _ _ | exact cn_wide _ | exact cn_narrow _ | exact cn_accC .. | exact cn_heatC .. | exact cn_half .. | exact cn_bet .. | exact cn_end .. | exact cn_erV .. | exact cn_exV .. | exact cn_slopeV .. | exact cn_rootC .. | exact cn_stF .. | exact cn_warmC .. | exact cn_partC .. | exact cn_easeC .. | exact cn_growC .. | exact cn_mostV .. | exact cn_passV .. | exact cn_flowL .. | exact cn_flowV .. | exact cn_fV .. | exact cn_heldA .. | exact cn_gainA .. | exact cn_meanV .. | exact cn_sqC .. | exact cn_gapC ..) | (refine cn_chk ?_; (with_reducible first | assumption | exact cn_fop _ _ _ _ | exact cn_cn _ _ | exact cn_wide _ | exact cn_narrow _ | exact cn_accC .. | exact cn_heatC .. | exact cn_half .. | exact cn_bet .. | exact cn_end .. | exact cn_erV .. | exact cn_exV .. | exact cn_slopeV .. | exact cn_rootC .. | exact cn_stF .. | exact cn_warmC .. | exact cn_partC .. | exact cn_easeC .. | exact cn_growC .. | exact cn_mostV .. | exact cn_passV .. | exact cn_flowL .. | exact cn_flowV .. | exact cn_fV .. | exact cn_heldA .. | exact cn_gainA .. | exact cn_meanV .. | exact cn_sqC .. | exact cn_gapC ..)) | (refine cn_gF ?_; (with_reducible first | assumption | exact cn_fop _ _ _ _ | exact cn_cn _ _ | exact cn_wide _ | exact cn_narrow _ | exact cn_accC .. | exact cn_heatC .. | exact cn_half .. | exact cn_bet .. | exact cn_end .. | exact cn_erV .. | exact cn_exV .. | exact cn_slopeV .. | exact cn_rootC .. | exact cn_stF .. | exact cn_warmC .. | exact cn_partC .. | exact cn_easeC .. | exact cn_growC .. | exact cn_mostV .. | exact cn_passV .. | exact cn_flowL .. | exact cn_flowV .. | exact cn_fV .. | exact cn_heldA .. | exact cn_gainA .. | exact cn_meanV .. | exact cn_sqC .. | exact cn_gapC ..)))); intro r hr); apply wpC_norm; (case ha => (simp only [Act.put, List.setIfInBounds_toArray, List.set_cons_zero, List.set_cons_succ]; exact rfl))); ((apply wpC_det; (case hw => exact rfl); (case hs => (intro cs b h; cases h)); (case h1 => (intro w'; go_simp <;> exact rfl))); apply wpC_norm; (case ha => (simp only [Act.put, List.setIfInBounds_toArray, List.set_cons_zero, List.set_cons_succ]; exact rfl))); ((apply wpC_det; (case hw => exact rfl); (case hs => (intro cs b h; cases h)); (case h1 => (intro w'; go_simp <;> exact rfl))); apply wpC_norm; (case ha => (simp only [Act.put, List.setIfInBounds_toArray, List.set_cons_zero, List.set_cons_succ]; exact rfl))); refine wpC_nil ?_; intro w' hb hkk; obtain ⟨hT, hk⟩ := bv_next hb (by (repeat (with_reducible first | assumption | apply Trk.alloc | apply Trk.setCell | apply Trk.drewN | apply Trk.drew | exact Trk.nil _))); simp only [SameOn, World.size_alloc, World.size_setCell, World.size_drew, size_drewN', and_true] at hk; have hsz := Below.size hb; (try simp only [World.size_alloc, World.size_setCell, World.size_drew, size_drewN'] at hsz))
        go_wp2_with (first | (with_reducible refine at_list ?_; refine wpList_fop rfl rfl rfl rfl rfl ?_; intro r n hr0; have hr := hr0 _ _ (by first | with_reducible assumption | exact rfl) (by first | with_reducible assumption | exact rfl); clear hr0) | (with_reducible refine at_list ?_; refine wpList_neg rfl rfl rfl ?_; intro r hr0; have hr := hr0 _ (by first | with_reducible assumption | exact rfl); clear hr0) | (with_reducible refine at_list ?_; refine wpList_fop_g rfl rfl rfl rfl rfl ?_; intro r n hr0; have hr := hr0 _ _ (by first | with_reducible assumption | exact rfl) (by first | with_reducible assumption | exact rfl); clear hr0) | (with_reducible refine at_list ?_; refine wpList_wide_g rfl rfl Try.underlying22 Try.underlying40 rfl ?_; intro r n hr0; have hr := hr0 _ (by first | with_reducible assumption | exact rfl); clear hr0) | (with_reducible refine at_list ?_; refine wpList_wide rfl rfl rfl Try.underlying22 Try.underlying40 ?_; intro r n hr0; have hr := hr0 _ (by first | with_reducible assumption | exact rfl); clear hr0) | (go_at_call 21; refine (implValidBar_any _ _ _ _ _ (by assumption)).mono ?_; rintro e w' ⟨rfl, hb⟩; obtain ⟨hT, hk⟩ := bv_next hb (by (repeat (with_reducible first | assumption | apply Trk.alloc | apply Trk.setCell | apply Trk.drewN | apply Trk.drew | exact Trk.nil _))); simp only [SameOn, World.size_alloc, World.size_setCell, World.size_drew, size_drewN', and_true] at hk; have hsz := Below.size hb; (try simp only [World.size_alloc, World.size_setCell, World.size_drew, size_drewN'] at hsz)) | (go_at_call 74; refine (partOf_any _ _ _).mono ?_; rintro e w' ⟨r, rfl, hr, hb⟩; obtain ⟨hT, hk⟩ := bv_next hb (by (repeat (with_reducible first | assumption | apply Trk.alloc | apply Trk.setCell | apply Trk.drewN | apply Trk.drew | exact Trk.nil _))); simp only [SameOn, World.size_alloc, World.size_setCell, World.size_drew, size_drewN', and_true] at hk; have hsz := Below.size hb; (try simp only [World.size_alloc, World.size_setCell, World.size_drew, size_drewN'] at hsz)) | (go_at_call 77; refine (areFinite_any _ _ _ (by assumption)).mono ?_; rintro e w' ⟨rfl, n, rfl⟩))
        go_roundw
        case rel => exact ⟨k + 1, c, q, ys, by omega, by go_num, rfl, by have := HYL.out; omega, by show OF _ _ _ _; exact OF.later HO.out (by (repeat (first | (with_reducible exact Below.refl _ _) | (with_reducible assumption) | (with_reducible refine below_then ?_ (by assumption)) | (with_reducible refine Below.trans ?_ (by assumption)) | (with_reducible refine below_drewN ?_ _) | (with_reducible apply Below.drew) | (with_reducible refine below_alloc ?_ _) | refine Below.setCell ?_ (by first | (simp; done) | (simp; omega)) _))), by show _ = _; rw [HST2.out, HL.out], by (repeat (first | (with_reducible exact Below.refl _ _) | (with_reducible assumption) | (with_reducible refine below_then ?_ (by assumption)) | (with_reducible refine Below.trans ?_ (by assumption)) | (with_reducible refine below_drewN ?_ _) | (with_reducible apply Below.drew) | (with_reducible refine below_alloc ?_ _) | refine Below.setCell ?_ (by first | (simp; done) | (simp; omega)) _)), by first | omega | (simp only [size_drewN']; omega), (by unfold BarAt St.at; refine ⟨⟨?_, ?_, ?_, ?_, ?_, ?_⟩, ?_, ?_⟩ <;> go_simp)⟩
        case measure => simp [intOf]; omega
        all_goals first | kernel_rfl | rfl
      all_goals
        have HST2 : Hid (frontsL s p xs (k + 1) = frontsL s p xs k ++ [frontB s p k (cn .f32 x) (cn .f32 y)]) := HST.out
        clear HST hyl
        go_wp2_with (first | (with_reducible refine at_list ?_; refine wpList_fop rfl rfl rfl rfl rfl ?_; intro r n hr0; have hr := hr0 _ _ (by first | with_reducible assumption | exact rfl) (by first | with_reducible assumption | exact rfl); clear hr0) | (with_reducible refine at_list ?_; refine wpList_neg rfl rfl rfl ?_; intro r hr0; have hr := hr0 _ (by first | with_reducible assumption | exact rfl); clear hr0) | (with_reducible refine at_list ?_; refine wpList_fop_g rfl rfl rfl rfl rfl ?_; intro r n hr0; have hr := hr0 _ _ (by first | with_reducible assumption | exact rfl) (by first | with_reducible assumption | exact rfl); clear hr0) | (with_reducible refine at_list ?_; refine wpList_wide_g rfl rfl Try.underlying22 Try.underlying40 rfl ?_; intro r n hr0; have hr := hr0 _ (by first | with_reducible assumption | exact rfl); clear hr0) | (with_reducible refine at_list ?_; refine wpList_wide rfl rfl rfl Try.underlying22 Try.underlying40 ?_; intro r n hr0; have hr := hr0 _ (by first | with_reducible assumption | exact rfl); clear hr0) | (go_at_call 21; refine (implValidBar_any _ _ _ _ _ (by assumption)).mono ?_; rintro e w' ⟨rfl, hb⟩; obtain ⟨hT, hk⟩ := bv_next hb (by (repeat (with_reducible first | assumption | apply Trk.alloc | apply Trk.setCell | apply Trk.drewN | apply Trk.drew | exact Trk.nil _))); simp only [SameOn, World.size_alloc, World.size_setCell, World.size_drew, size_drewN', and_true] at hk; have hsz := Below.size hb; (try simp only [World.size_alloc, World.size_setCell, World.size_drew, size_drewN'] at hsz)) | (go_at_call 74; refine (partOf_any _ _ _).mono ?_; rintro e w' ⟨r, rfl, hr, hb⟩; obtain ⟨hT, hk⟩ := bv_next hb (by (repeat (with_reducible first | assumption | apply Trk.alloc | apply Trk.setCell | apply Trk.drewN | apply Trk.drew | exact Trk.nil _))); simp only [SameOn, World.size_alloc, World.size_setCell, World.size_drew, size_drewN', and_true] at hk; have hsz := Below.size hb; (try simp only [World.size_alloc, World.size_setCell, World.size_drew, size_drewN'] at hsz)) | (go_at_call 77; refine (areFinite_any _ _ _ (by assumption)).mono ?_; rintro e w' ⟨rfl, n, rfl⟩))
        (apply wp_region_plan; ((apply wpC_det; (case hw => exact rfl); (case hs => (intro cs b h; cases h)); (case h1 => (intro w'; go_simp <;> exact rfl))); apply wpC_norm; (case ha => (simp only [Act.put, List.setIfInBounds_toArray, List.set_cons_zero, List.set_cons_succ]; exact rfl))); ((apply wpC_val; (case hw => exact rfl); (case h1 => (intro w' hb hk0; obtain ⟨hT, hk⟩ := bv_next hb (by (repeat (with_reducible first | assumption | apply Trk.alloc | apply Trk.setCell | apply Trk.drewN | apply Trk.drew | exact Trk.nil _))); simp only [SameOn, World.size_alloc, World.size_setCell, World.size_drew, size_drewN', and_true] at hk; have hsz := Below.size hb; (try simp only [World.size_alloc, World.size_setCell, World.size_drew, size_drewN'] at hsz); go_simp <;> exact rfl))); apply wpC_norm; (case ha => (simp only [Act.put, List.setIfInBounds_toArray, List.set_cons_zero, List.set_cons_succ]; exact rfl))); ((apply wpC_det; (case hw => exact rfl); (case hs => (intro cs b h; cases h)); (case h1 => (intro w'; go_simp <;> exact rfl))); apply wpC_norm; (case ha => (simp only [Act.put, List.setIfInBounds_toArray, List.set_cons_zero, List.set_cons_succ]; exact rfl))); ((apply wpC_val; (case hw => exact rfl); (case h1 => (intro w' hb hk0; obtain ⟨hT, hk⟩ := bv_next hb (by (repeat (with_reducible first | assumption | apply Trk.alloc | apply Trk.setCell | apply Trk.drewN | apply Trk.drew | exact Trk.nil _))); simp only [SameOn, World.size_alloc, World.size_setCell, World.size_drew, size_drewN', and_true] at hk; have hsz := Below.size hb; (try simp only [World.size_alloc, World.size_setCell, World.size_drew, size_drewN'] at hsz); go_simp <;> exact rfl))); apply wpC_norm; (case ha => (simp only [Act.put, List.setIfInBounds_toArray, List.set_cons_zero, List.set_cons_succ]; exact rfl))); ((apply wpC_det; (case hw => exact rfl); (case hs => (intro cs b h; cases h)); (case h1 => (intro w'; go_simp <;> exact rfl))); apply wpC_norm; (case ha => (simp only [Act.put, List.setIfInBounds_toArray, List.set_cons_zero, List.set_cons_succ]; exact rfl))); ((apply wpC_det; (case hw => exact rfl); (case hs => (intro cs b h; cases h)); (case h1 => (intro w'; go_simp <;> exact rfl))); apply wpC_norm; (case ha => (simp only [Act.put, List.setIfInBounds_toArray, List.set_cons_zero, List.set_cons_succ]; exact rfl))); ((apply wpC_det; (case hw => exact rfl); (case hs => (intro cs b h; cases h)); (case h1 => (intro w'; go_simp <;> exact rfl))); apply wpC_norm; (case ha => (simp only [Act.put, List.setIfInBounds_toArray, List.set_cons_zero, List.set_cons_succ]; exact rfl))); ((apply wpC_val; (case hw => exact rfl); (case h1 => (intro w' hb hk0; obtain ⟨hT, hk⟩ := bv_next hb (by (repeat (with_reducible first | assumption | apply Trk.alloc | apply Trk.setCell | apply Trk.drewN | apply Trk.drew | exact Trk.nil _))); simp only [SameOn, World.size_alloc, World.size_setCell, World.size_drew, size_drewN', and_true] at hk; have hsz := Below.size hb; (try simp only [World.size_alloc, World.size_setCell, World.size_drew, size_drewN'] at hsz); go_simp <;> exact rfl))); apply wpC_norm; (case ha => (simp only [Act.put, List.setIfInBounds_toArray, List.set_cons_zero, List.set_cons_succ]; exact rfl))); ((apply wpC_callF _ _; ((case hw => exact rfl)); (case h1 => (intro w'; go_simp; exact ⟨rfl, rfl⟩)); (case hc => (intro w' hb hk0; obtain ⟨hT, hk⟩ := bv_next hb (by (repeat (with_reducible first | assumption | apply Trk.alloc | apply Trk.setCell | apply Trk.drewN | apply Trk.drew | exact Trk.nil _))); simp only [SameOn, World.size_alloc, World.size_setCell, World.size_drew, size_drewN', and_true] at hk; have hsz := Below.size hb; (try simp only [World.size_alloc, World.size_setCell, World.size_drew, size_drewN'] at hsz); refine ((partOf_any s _ _) ).mono ?_; intro e2 w3 h; (try simp only [*] at h); exact h)); (case hcc => (first | (with_reducible first | assumption | exact cn_fop _ _ _ _ | exact cn_cn _ _ | exact cn_wide _ | exact cn_narrow _ | exact cn_accC .. | exact cn_heatC .. | exact cn_half .. | exact cn_bet .. | exact cn_end .. | exact cn_erV .. | exact cn_exV .. | exact cn_slopeV .. | exact cn_rootC .. | exact cn_stF .. | exact cn_warmC .. | exact cn_partC .. | exact cn_easeC .. | exact cn_growC .. | exact cn_mostV .. | exact cn_passV .. | exact cn_flowL .. | exact cn_flowV .. | exact cn_fV .. | exact cn_heldA .. | exact cn_gainA .. | exact cn_meanV .. | exact cn_sqC .. | exact cn_gapC ..) | (refine cn_chk ?_; (with_reducible first | assumption | exact cn_fop _ _ _ _ | exact cn_cn _ _ | exact cn_wide _ | exact cn_narrow _ | exact cn_accC .. | exact cn_heatC .. | exact cn_half .. | exact cn_bet .. | exact cn_end .. | exact cn_erV .. | exact cn_exV .. | exact cn_slopeV .. | exact cn_rootC .. | exact cn_stF .. | exact cn_warmC .. | exact cn_partC .. | exact cn_easeC .. | exact cn_growC .. | exact cn_mostV .. | exact cn_passV .. | exact cn_flowL .. | exact cn_flowV .. | exact cn_fV .. | exact cn_heldA .. | exact cn_gainA .. | exact cn_meanV .. | exact cn_sqC .. | exact cn_gapC ..)) | (refine cn_gF ?_; (with_reducible first | assumption | exact cn_fop _ _ _ _ | exact cn_cn _ _ | exact cn_wide _ | exact cn_narrow _ | exact cn_accC .. | exact cn_heatC .. | exact cn_half .. | exact cn_bet .. | exact cn_end .. | exact cn_erV .. | exact cn_exV .. | exact cn_slopeV .. | exact cn_rootC .. | exact cn_stF .. | exact cn_warmC .. | exact cn_partC .. | exact cn_easeC .. | exact cn_growC .. | exact cn_mostV .. | exact cn_passV .. | exact cn_flowL .. | exact cn_flowV .. | exact cn_fV .. | exact cn_heldA .. | exact cn_gainA .. | exact cn_meanV .. | exact cn_sqC .. | exact cn_gapC ..)))); intro r hr); apply wpC_norm; (case ha => (simp only [Act.put, List.setIfInBounds_toArray, List.set_cons_zero, List.set_cons_succ]; exact rfl))); ((apply wpC_det; (case hw => exact rfl); (case hs => (intro cs b h; cases h)); (case h1 => (intro w'; go_simp <;> exact rfl))); apply wpC_norm; (case ha => (simp only [Act.put, List.setIfInBounds_toArray, List.set_cons_zero, List.set_cons_succ]; exact rfl))); ((apply wpC_val; (case hw => exact rfl); (case h1 => (intro w' hb hk0; obtain ⟨hT, hk⟩ := bv_next hb (by (repeat (with_reducible first | assumption | apply Trk.alloc | apply Trk.setCell | apply Trk.drewN | apply Trk.drew | exact Trk.nil _))); simp only [SameOn, World.size_alloc, World.size_setCell, World.size_drew, size_drewN', and_true] at hk; have hsz := Below.size hb; (try simp only [World.size_alloc, World.size_setCell, World.size_drew, size_drewN'] at hsz); go_simp <;> exact rfl))); apply wpC_norm; (case ha => (simp only [Act.put, List.setIfInBounds_toArray, List.set_cons_zero, List.set_cons_succ]; exact rfl))); ((apply wpC_det; (case hw => exact rfl); (case hs => (intro cs b h; cases h)); (case h1 => (intro w'; go_simp <;> exact rfl))); apply wpC_norm; (case ha => (simp only [Act.put, List.setIfInBounds_toArray, List.set_cons_zero, List.set_cons_succ]; exact rfl))); ((apply wpC_val; (case hw => exact rfl); (case h1 => (intro w' hb hk0; obtain ⟨hT, hk⟩ := bv_next hb (by (repeat (with_reducible first | assumption | apply Trk.alloc | apply Trk.setCell | apply Trk.drewN | apply Trk.drew | exact Trk.nil _))); simp only [SameOn, World.size_alloc, World.size_setCell, World.size_drew, size_drewN', and_true] at hk; have hsz := Below.size hb; (try simp only [World.size_alloc, World.size_setCell, World.size_drew, size_drewN'] at hsz); go_simp <;> exact rfl))); apply wpC_norm; (case ha => (simp only [Act.put, List.setIfInBounds_toArray, List.set_cons_zero, List.set_cons_succ]; exact rfl))); ((apply wpC_det; (case hw => exact rfl); (case hs => (intro cs b h; cases h)); (case h1 => (intro w'; go_simp <;> exact rfl))); apply wpC_norm; (case ha => (simp only [Act.put, List.setIfInBounds_toArray, List.set_cons_zero, List.set_cons_succ]; exact rfl))); ((apply wpC_det; (case hw => exact rfl); (case hs => (intro cs b h; cases h)); (case h1 => (intro w'; go_simp <;> exact rfl))); apply wpC_norm; (case ha => (simp only [Act.put, List.setIfInBounds_toArray, List.set_cons_zero, List.set_cons_succ]; exact rfl))); ((apply wpC_val; (case hw => exact rfl); (case h1 => (intro w' hb hk0; obtain ⟨hT, hk⟩ := bv_next hb (by (repeat (with_reducible first | assumption | apply Trk.alloc | apply Trk.setCell | apply Trk.drewN | apply Trk.drew | exact Trk.nil _))); simp only [SameOn, World.size_alloc, World.size_setCell, World.size_drew, size_drewN', and_true] at hk; have hsz := Below.size hb; (try simp only [World.size_alloc, World.size_setCell, World.size_drew, size_drewN'] at hsz); go_simp <;> exact rfl))); apply wpC_norm; (case ha => (simp only [Act.put, List.setIfInBounds_toArray, List.set_cons_zero, List.set_cons_succ]; exact rfl))); ((apply wpC_callF _ _; ((case hw => exact rfl)); (case h1 => (intro w'; go_simp; exact ⟨rfl, rfl⟩)); (case hc => (intro w' hb hk0; obtain ⟨hT, hk⟩ := bv_next hb (by (repeat (with_reducible first | assumption | apply Trk.alloc | apply Trk.setCell | apply Trk.drewN | apply Trk.drew | exact Trk.nil _))); simp only [SameOn, World.size_alloc, World.size_setCell, World.size_drew, size_drewN', and_true] at hk; have hsz := Below.size hb; (try simp only [World.size_alloc, World.size_setCell, World.size_drew, size_drewN'] at hsz); refine ((partOf_any s _ _) ).mono ?_; intro e2 w3 h; (try simp only [*] at h); exact h)); (case hcc => (first | (with_reducible first | assumption | exact cn_fop _ _ _ _ | exact cn_cn _ _ | exact cn_wide _ | exact cn_narrow _ | exact cn_accC .. | exact cn_heatC .. | exact cn_half .. | exact cn_bet .. | exact cn_end .. | exact cn_erV .. | exact cn_exV .. | exact cn_slopeV .. | exact cn_rootC .. | exact cn_stF .. | exact cn_warmC .. | exact cn_partC .. | exact cn_easeC .. | exact cn_growC .. | exact cn_mostV .. | exact cn_passV .. | exact cn_flowL .. | exact cn_flowV .. | exact cn_fV .. | exact cn_heldA .. | exact cn_gainA .. | exact cn_meanV .. | exact cn_sqC .. | exact cn_gapC ..) | (refine cn_chk ?_; (with_reducible first | assumption | exact cn_fop _ _ _ _ | exact cn_cn _ _ | exact cn_wide _ | exact cn_narrow _ | exact cn_accC .. | exact cn_heatC .. | exact cn_half .. | exact cn_bet .. | exact cn_end .. | exact cn_erV .. | exact cn_exV .. | exact cn_slopeV .. | exact cn_rootC .. | exact cn_stF .. | exact cn_warmC .. | exact cn_partC .. | exact cn_easeC .. | exact cn_growC .. | exact cn_mostV .. | exact cn_passV .. | exact cn_flowL .. | exact cn_flowV .. | exact cn_fV .. | exact cn_heldA .. | exact cn_gainA .. | exact cn_meanV .. | exact cn_sqC .. | exact cn_gapC ..)) | (refine cn_gF ?_; (with_reducible first | assumption | exact cn_fop _ _ _ _ | exact cn_cn _ _ | exact cn_wide _ | exact cn_narrow _ | exact cn_accC .. | exact cn_heatC .. | exact cn_half .. | exact cn_bet .. | exact cn_end .. | exact cn_erV .. | exact cn_exV .. | exact cn_slopeV .. | exact cn_rootC .. | exact cn_stF .. | exact cn_warmC .. | exact cn_partC .. | exact cn_easeC .. | exact cn_growC .. | exact cn_mostV .. | exact cn_passV .. | exact cn_flowL .. | exact cn_flowV .. | exact cn_fV .. | exact cn_heldA .. | exact cn_gainA .. | exact cn_meanV .. | exact cn_sqC .. | exact cn_gapC ..)))); intro r hr); apply wpC_norm; (case ha => (simp only [Act.put, List.setIfInBounds_toArray, List.set_cons_zero, List.set_cons_succ]; exact rfl))); ((apply wpC_det; (case hw => exact rfl); (case hs => (intro cs b h; cases h)); (case h1 => (intro w'; go_simp <;> exact rfl))); apply wpC_norm; (case ha => (simp only [Act.put, List.setIfInBounds_toArray, List.set_cons_zero, List.set_cons_succ]; exact rfl))); ((apply wpC_det; (case hw => exact rfl); (case hs => (intro cs b h; cases h)); (case h1 => (intro w'; go_simp <;> exact rfl))); apply wpC_norm; (case ha => (simp only [Act.put, List.setIfInBounds_toArray, List.set_cons_zero, List.set_cons_succ]; exact rfl))); refine wpC_nil ?_; intro w' hb hkk; obtain ⟨hT, hk⟩ := bv_next hb (by (repeat (with_reducible first | assumption | apply Trk.alloc | apply Trk.setCell | apply Trk.drewN | apply Trk.drew | exact Trk.nil _))); simp only [SameOn, World.size_alloc, World.size_setCell, World.size_drew, size_drewN', and_true] at hk; have hsz := Below.size hb; (try simp only [World.size_alloc, World.size_setCell, World.size_drew, size_drewN'] at hsz))
        go_wp2_with (first | (with_reducible refine at_list ?_; refine wpList_fop rfl rfl rfl rfl rfl ?_; intro r n hr0; have hr := hr0 _ _ (by first | with_reducible assumption | exact rfl) (by first | with_reducible assumption | exact rfl); clear hr0) | (with_reducible refine at_list ?_; refine wpList_neg rfl rfl rfl ?_; intro r hr0; have hr := hr0 _ (by first | with_reducible assumption | exact rfl); clear hr0) | (with_reducible refine at_list ?_; refine wpList_fop_g rfl rfl rfl rfl rfl ?_; intro r n hr0; have hr := hr0 _ _ (by first | with_reducible assumption | exact rfl) (by first | with_reducible assumption | exact rfl); clear hr0) | (with_reducible refine at_list ?_; refine wpList_wide_g rfl rfl Try.underlying22 Try.underlying40 rfl ?_; intro r n hr0; have hr := hr0 _ (by first | with_reducible assumption | exact rfl); clear hr0) | (with_reducible refine at_list ?_; refine wpList_wide rfl rfl rfl Try.underlying22 Try.underlying40 ?_; intro r n hr0; have hr := hr0 _ (by first | with_reducible assumption | exact rfl); clear hr0) | (at_builtin; refine stop_here ?_) | (go_at_call 21; refine (implValidBar_any _ _ _ _ _ (by assumption)).mono ?_; rintro e w' ⟨rfl, hb⟩; obtain ⟨hT, hk⟩ := bv_next hb (by (repeat (with_reducible first | assumption | apply Trk.alloc | apply Trk.setCell | apply Trk.drewN | apply Trk.drew | exact Trk.nil _))); simp only [SameOn, World.size_alloc, World.size_setCell, World.size_drew, size_drewN', and_true] at hk; have hsz := Below.size hb; (try simp only [World.size_alloc, World.size_setCell, World.size_drew, size_drewN'] at hsz)) | (go_at_call 74; refine (partOf_any _ _ _).mono ?_; rintro e w' ⟨r, rfl, hr, hb⟩; obtain ⟨hT, hk⟩ := bv_next hb (by (repeat (with_reducible first | assumption | apply Trk.alloc | apply Trk.setCell | apply Trk.drewN | apply Trk.drew | exact Trk.nil _))); simp only [SameOn, World.size_alloc, World.size_setCell, World.size_drew, size_drewN', and_true] at hk; have hsz := Below.size hb; (try simp only [World.size_alloc, World.size_setCell, World.size_drew, size_drewN'] at hsz)) | (go_at_call 77; refine (areFinite_any _ _ _ (by assumption)).mono ?_; rintro e w' ⟨rfl, n, rfl⟩))
        unfold Stop
        apply wpList_app (B := w.heap.size + 1) (xs := ys) (v := .slice q ys.length c)
        case hg => rfl
        case ho => rfl
        case hs => rfl
        case hx => rfl
        case hO => exact OF.alloc (OF.later HO.out (by (repeat (first | (with_reducible exact Below.refl _ _) | (with_reducible assumption) | (with_reducible refine below_then ?_ (by assumption)) | (with_reducible refine Below.trans ?_ (by assumption)) | (with_reducible refine below_drewN ?_ _) | (with_reducible apply Below.drew) | (with_reducible refine below_alloc ?_ _) | refine Below.setCell ?_ (by first | (simp; done) | (simp; omega)) _)))) _
        case hc => go_simp <;> exact rfl
        case hn => omega
        case hB => simp; omega
        intro q2 c2 w2 hO2 hB2
        have hw2 : w.heap.size + 1 ≤ w2.heap.size := by have := hB2.size; simp at this; omega
        have hB3 := Below.trans (B := w.heap.size) (a := w) (by (repeat (first | (with_reducible exact Below.refl _ _) | (with_reducible assumption) | (with_reducible refine below_then ?_ (by assumption)) | (with_reducible refine Below.trans ?_ (by assumption)) | (with_reducible refine below_drewN ?_ _) | (with_reducible apply Below.drew) | (with_reducible refine below_alloc ?_ _) | refine Below.setCell ?_ (by first | (simp; done) | (simp; omega)) _))) (hB2.mono (by omega))
        have hat2 : BarAt s p (.slice (some ⟨b0, o0, none⟩) xs.length c0) w2 w.heap.size 0 := bar_later (by unfold BarAt St.at; refine ⟨⟨?_, ?_, ?_, ?_, ?_, ?_⟩, ?_, ?_⟩ <;> go_simp) hB2 (by omega)
        have hL2 : Hid ((ys ++ [r]).map (cn .f32) = frontsL s p xs (k + 1)) := by
          show _ = _
          rw [HST2.out, List.map_append, HL.out]
          have hrr : cn .f32 r = frontB s p k (cn .f32 x) (cn .f32 y) := by unfold frontB; assumption
          simp [hrr]
        have HB3 := Lib.hid hB3
        have HAT2 := Lib.hid hat2
        have HO2 := Lib.hid hO2
        clear hat2 hB3 hB2 hO2 hi1 hi2 hi3
        go_wp2
        go_roundw
        case rel => exact ⟨k + 1, c2, q2, ys ++ [r], by omega, by go_num, by simp, by have := HYL.out; simp; omega, by show OF _ _ _ _; have := HO2.out; simpa using this, hL2.out, HB3.out, hw2, HAT2.out⟩
        case measure => simp [intOf]; omega
        all_goals first | kernel_rfl | rfl
    · have hlti : ¬ (k : Int) + 1 < (xs.length : Int) := by omega
      have hke : xs.length - 1 = k := by omega
      have HYS : Hid (ys.map (cn .f32) = frontsL s p xs (xs.length - 1)) := by show _ = _; rw [hke]; exact HL.out
      have HAF := Lib.hid (fun w h => areFinite_any ys (.slice q ys.length c) w h)
      rw [any_cn ys HYS.out] at HAF
      rcases f1 : (frontsL s p xs (xs.length - 1)).any fun x => !fin .f32 x
      · rw [f1] at HAF
        have HF : Hid (frontsOk s p xs = true) := by show _ = _; rw [HOK.out, f1]; rfl
        have HE := Lib.hid (HE1.out HF.out)
        clear HL f1 hke
        go_wp2_with (first | (with_reducible refine at_list ?_; refine wpList_fop rfl rfl rfl rfl rfl ?_; intro r n hr0; have hr := hr0 _ _ (by first | with_reducible assumption | exact rfl) (by first | with_reducible assumption | exact rfl); clear hr0) | (with_reducible refine at_list ?_; refine wpList_neg rfl rfl rfl ?_; intro r hr0; have hr := hr0 _ (by first | with_reducible assumption | exact rfl); clear hr0) | (with_reducible refine at_list ?_; refine wpList_fop_g rfl rfl rfl rfl rfl ?_; intro r n hr0; have hr := hr0 _ _ (by first | with_reducible assumption | exact rfl) (by first | with_reducible assumption | exact rfl); clear hr0) | (with_reducible refine at_list ?_; refine wpList_wide_g rfl rfl Try.underlying22 Try.underlying40 rfl ?_; intro r n hr0; have hr := hr0 _ (by first | with_reducible assumption | exact rfl); clear hr0) | (with_reducible refine at_list ?_; refine wpList_wide rfl rfl rfl Try.underlying22 Try.underlying40 ?_; intro r n hr0; have hr := hr0 _ (by first | with_reducible assumption | exact rfl); clear hr0) | (go_at_call 21; refine (implValidBar_any _ _ _ _ _ (by assumption)).mono ?_; rintro e w' ⟨rfl, hb⟩; obtain ⟨hT, hk⟩ := bv_next hb (by (repeat (with_reducible first | assumption | apply Trk.alloc | apply Trk.setCell | apply Trk.drewN | apply Trk.drew | exact Trk.nil _))); simp only [SameOn, World.size_alloc, World.size_setCell, World.size_drew, size_drewN', and_true] at hk; have hsz := Below.size hb; (try simp only [World.size_alloc, World.size_setCell, World.size_drew, size_drewN'] at hsz)) | (go_at_call 74; refine (partOf_any _ _ _).mono ?_; rintro e w' ⟨r, rfl, hr, hb⟩; obtain ⟨hT, hk⟩ := bv_next hb (by (repeat (with_reducible first | assumption | apply Trk.alloc | apply Trk.setCell | apply Trk.drewN | apply Trk.drew | exact Trk.nil _))); simp only [SameOn, World.size_alloc, World.size_setCell, World.size_drew, size_drewN', and_true] at hk; have hsz := Below.size hb; (try simp only [World.size_alloc, World.size_setCell, World.size_drew, size_drewN'] at hsz)) | (go_at_call 77; refine ((HAF.out _ (FS.later (OF.fs HO.out) (by (repeat (first | (with_reducible exact Below.refl _ _) | (with_reducible assumption) | (with_reducible refine below_then ?_ (by assumption)) | (with_reducible refine Below.trans ?_ (by assumption)) | (with_reducible refine below_drewN ?_ _) | (with_reducible apply Below.drew) | (with_reducible refine below_alloc ?_ _) | refine Below.setCell ?_ (by first | (simp; done) | (simp; omega)) _))))) ).mono ?_; rintro e w' ⟨rfl, n, rfl⟩))
        go_ret2
        exact ⟨_, ys, by rw [HF.out]; rfl, by (repeat (first | (with_reducible exact Below.refl _ _) | (with_reducible assumption) | (with_reducible refine below_then ?_ (by assumption)) | (with_reducible refine Below.trans ?_ (by assumption)) | (with_reducible refine below_drewN ?_ _) | (with_reducible apply Below.drew) | (with_reducible refine below_alloc ?_ _) | refine Below.setCell ?_ (by first | (simp; done) | (simp; omega)) _)), OF.base (OF.later HO.out (by (repeat (first | (with_reducible exact Below.refl _ _) | (with_reducible assumption) | (with_reducible refine below_then ?_ (by assumption)) | (with_reducible refine Below.trans ?_ (by assumption)) | (with_reducible refine below_drewN ?_ _) | (with_reducible apply Below.drew) | (with_reducible refine below_alloc ?_ _) | refine Below.setCell ?_ (by first | (simp; done) | (simp; omega)) _)))) (by omega), by rw [HE.out]; exact HYS.out⟩
      · rw [f1] at HAF
        have HF : Hid (frontsOk s p xs = false) := by show _ = _; rw [HOK.out, f1]; rfl
        have HE := Lib.hid (HE0.out HF.out)
        clear HL f1 hke
        go_wp2_with (first | (with_reducible refine at_list ?_; refine wpList_fop rfl rfl rfl rfl rfl ?_; intro r n hr0; have hr := hr0 _ _ (by first | with_reducible assumption | exact rfl) (by first | with_reducible assumption | exact rfl); clear hr0) | (with_reducible refine at_list ?_; refine wpList_neg rfl rfl rfl ?_; intro r hr0; have hr := hr0 _ (by first | with_reducible assumption | exact rfl); clear hr0) | (with_reducible refine at_list ?_; refine wpList_fop_g rfl rfl rfl rfl rfl ?_; intro r n hr0; have hr := hr0 _ _ (by first | with_reducible assumption | exact rfl) (by first | with_reducible assumption | exact rfl); clear hr0) | (with_reducible refine at_list ?_; refine wpList_wide_g rfl rfl Try.underlying22 Try.underlying40 rfl ?_; intro r n hr0; have hr := hr0 _ (by first | with_reducible assumption | exact rfl); clear hr0) | (with_reducible refine at_list ?_; refine wpList_wide rfl rfl rfl Try.underlying22 Try.underlying40 ?_; intro r n hr0; have hr := hr0 _ (by first | with_reducible assumption | exact rfl); clear hr0) | (go_at_call 21; refine (implValidBar_any _ _ _ _ _ (by assumption)).mono ?_; rintro e w' ⟨rfl, hb⟩; obtain ⟨hT, hk⟩ := bv_next hb (by (repeat (with_reducible first | assumption | apply Trk.alloc | apply Trk.setCell | apply Trk.drewN | apply Trk.drew | exact Trk.nil _))); simp only [SameOn, World.size_alloc, World.size_setCell, World.size_drew, size_drewN', and_true] at hk; have hsz := Below.size hb; (try simp only [World.size_alloc, World.size_setCell, World.size_drew, size_drewN'] at hsz)) | (go_at_call 74; refine (partOf_any _ _ _).mono ?_; rintro e w' ⟨r, rfl, hr, hb⟩; obtain ⟨hT, hk⟩ := bv_next hb (by (repeat (with_reducible first | assumption | apply Trk.alloc | apply Trk.setCell | apply Trk.drewN | apply Trk.drew | exact Trk.nil _))); simp only [SameOn, World.size_alloc, World.size_setCell, World.size_drew, size_drewN', and_true] at hk; have hsz := Below.size hb; (try simp only [World.size_alloc, World.size_setCell, World.size_drew, size_drewN'] at hsz)) | (go_at_call 77; refine ((HAF.out _ (FS.later (OF.fs HO.out) (by (repeat (first | (with_reducible exact Below.refl _ _) | (with_reducible assumption) | (with_reducible refine below_then ?_ (by assumption)) | (with_reducible refine Below.trans ?_ (by assumption)) | (with_reducible refine below_drewN ?_ _) | (with_reducible apply Below.drew) | (with_reducible refine below_alloc ?_ _) | refine Below.setCell ?_ (by first | (simp; done) | (simp; omega)) _))))) ).mono ?_; rintro e w' ⟨rfl, n, rfl⟩))
        go_ret2
        exact ⟨_, [], by rw [HF.out]; rfl, by (repeat (first | (with_reducible exact Below.refl _ _) | (with_reducible assumption) | (with_reducible refine below_then ?_ (by assumption)) | (with_reducible refine Below.trans ?_ (by assumption)) | (with_reducible refine below_drewN ?_ _) | (with_reducible apply Below.drew) | (with_reducible refine below_alloc ?_ _) | refine Below.setCell ?_ (by first | (simp; done) | (simp; omega)) _)), OF.nil0 _ _, by rw [HE.out]; rfl⟩
end Go.Proofs.Ytjeeflldbhajiaa
set_option linter.unusedSimpArgs false
set_option linter.unusedVariables false
set_option linter.unusedSectionVars false
namespace Go.Proofs.Ytjeeflldbhajiaa
open Go Go.RowKit
theorem vHalf : V .f32 (cn .f32 1056964608) ((1 : Rat) / 2) := by
  have e : cn .f32 1056964608 = fop .quo .f32 (cn .f32 (floatOfInt .f32 1)) (cn .f32 1073741824) := by decide +kernel
  rw [e]
  have := half_val (n := 1) (by decide)
  have e1 : ((1 : Int) : Rat) = 1 := rfl
  rwa [e1] at this
/-- A difference of different numbers is not nothing. -/
theorem diff_pos {x y : Nat} (hx : fnt .f32 x = true) (hy : fnt .f32 y = true) (h : fv .f32 y < fv .f32 x) : tp (-149) ≤ fv .f32 x - fv .f32 y := by
  obtain ⟨z, q, _, hq, e1⟩ := rp_word hx
  obtain ⟨z', q', _, hq', e2⟩ := rp_word hy
  have hq1 : (-149 : Int) ≤ q := hq
  have hq2 : (-149 : Int) ≤ q' := hq'
  obtain ⟨n, hn⟩ : ∃ n : Nat, q = -149 + n := ⟨(q + 149).toNat, by omega⟩
  obtain ⟨n', hn'⟩ : ∃ n : Nat, q' = -149 + n := ⟨(q' + 149).toNat, by omega⟩
  have f1 : fv .f32 x = ((z * (2 ^ n : Nat) : Int) : Rat) * tp (-149) := by rw [e1, hn, tp_add, tp_nat, Rat.intCast_mul, Rat.intCast_natCast]; grind
  have f2 : fv .f32 y = ((z' * (2 ^ n' : Nat) : Int) : Rat) * tp (-149) := by rw [e2, hn', tp_add, tp_nat, Rat.intCast_mul, Rat.intCast_natCast]; grind
  have t0 := tp_pos (-149)
  rw [f1, f2] at h ⊢
  generalize z * (2 ^ n : Nat) = A at *
  generalize z' * (2 ^ n' : Nat) = B at *
  have hAB : B < A := by
    by_cases hle : A ≤ B
    · exfalso
      have := Rat.mul_le_mul_of_nonneg_right (icast_le hle) (Rat.le_of_lt t0)
      grind
    · omega
  have h1 := icast_le (show B + 1 ≤ A by omega)
  rw [Rat.intCast_add] at h1
  have e3 : ((1 : Int) : Rat) = 1 := rfl
  rw [e3] at h1
  have := Rat.mul_le_mul_of_nonneg_right h1 (Rat.le_of_lt t0)
  grind
theorem rp_mult {k : FloatKind} {r : Rat} {e : Int} (hr : Rp k.format r) (h : ((2 ^ digK k : Nat) : Rat) * tp e ≤ r) : ∃ n : Int, r = n * tp e := by
  obtain ⟨z, q, h1, h2, rfl⟩ := hr
  rw [dig_eq] at h1
  have t0 := tp_pos q
  have a2 : (z : Rat) < ((2 ^ (digK k + 1) : Nat) : Rat) := by
    have : z < ((2 ^ (digK k + 1) : Nat) : Int) := by omega
    exact_mod_cast this
  have b := Rat.mul_lt_mul_of_pos_right a2 t0
  have c : tp (digK k + e) < tp ((digK k + 1 : Nat) + q) := by
    rw [tp_add, tp_add, tp_nat, tp_nat]; grind
  have hq := lt_of_tp c
  obtain ⟨n, hn⟩ : ∃ n : Nat, q = e + n := ⟨(q - e).toNat, by omega⟩
  refine ⟨z * (2 ^ n : Nat), ?_⟩
  have e9 : (((2 ^ n : Nat) : Int) : Rat) = ((2 ^ n : Nat) : Rat) := Rat.intCast_natCast _
  rw [hn, tp_add, tp_nat, Rat.intCast_mul, e9]
  grind
theorem icast_of {a b : Int} (h : (a : Rat) ≤ (b : Rat)) : a ≤ b := by exact_mod_cast h
/-- A half less a number from a half to one: exact. -/
theorem half_less {x : Nat} {r : Rat} (hx : fnt .f32 x = true) (h1 : 1 / 2 ≤ fv .f32 x) (h2 : fv .f32 x ≤ 1) (hR : Rnd FloatKind.f32.format (1 / 2 - fv .f32 x) r) : r = 1 / 2 - fv .f32 x := by
  have t24 : tp (-24) * 16777216 = 1 := by
    have h : tp (-24) * tp 24 = 1 := by rw [← tp_add]; exact tp_zero
    rwa [show tp 24 = 16777216 from (tp_nat 24).trans rfl] at h
  have t0 := tp_pos (-24)
  have e23 : ((2 ^ digK .f32 : Nat) : Rat) = 8388608 := by decide +kernel
  obtain ⟨n, hn⟩ := rp_mult (k := .f32) (e := -24) (rp_word hx) (by rw [e23]; grind)
  have hc : (n : Rat) ≤ ((16777216 : Int) : Rat) := mul_cancel_le t0 (by rw [← hn]; have : ((16777216 : Int) : Rat) = 16777216 := rfl; rw [this]; grind)
  have hc2 : ((8388608 : Int) : Rat) ≤ (n : Rat) := mul_cancel_le t0 (by rw [← hn]; have : ((8388608 : Int) : Rat) = 8388608 := rfl; rw [this]; grind)
  have i1 : n ≤ 16777216 := icast_of hc
  have i2 : 8388608 ≤ n := icast_of hc2
  have e : 1 / 2 - fv .f32 x = ((8388608 - n : Int) : Rat) * tp (-24) := by
    rw [hn, Rat.intCast_sub]
    have : ((8388608 : Int) : Rat) = 8388608 := rfl
    rw [this]; grind
  exact hR.eq (by show (8388608 - n).natAbs < 2 ^ 24; omega) (by decide) e
/-- The share at which a half is reached. -/
theorem share_in {x y : Nat} (hx : Btw .f32 x 0 1) (hy : Btw .f32 y 0 1) (hd : (fv .f32 x ≤ 1 / 2 ∧ 1 / 2 < fv .f32 y) ∨ (fv .f32 y ≤ 1 / 2 ∧ 1 / 2 < fv .f32 x)) : Btw .f32 (fop .quo .f32 (fop .sub .f32 (cn .f32 1056964608) x) (fop .sub .f32 y x)) 0 1 := by
  obtain ⟨x0, x1, x2⟩ := hx
  obtain ⟨y0, y1, y2⟩ := hy
  have t1 : tp ((1 : Nat) : Int) = 2 := tp_one
  have t1' : tp 1 = 2 := tp_one
  obtain ⟨a0, a1⟩ := fop_rnd .sub rfl .f32 vHalf.1 x0 (by simp) 1 (by decide) (by rw [t1']; simp only [ex]; rw [vHalf.2]; grind) (by rw [t1']; simp only [ex]; rw [vHalf.2]; grind)
  obtain ⟨b0, b1⟩ := fop_rnd .sub rfl .f32 y0 x0 (by simp) 1 (by decide) (by rw [t1']; simp only [ex]; grind) (by rw [t1']; simp only [ex]; grind)
  simp only [ex] at a1 b1
  rw [vHalf.2] at a1
  have pa := rp_word a0
  have pb := rp_word b0
  have r0 : Rep .f32 (0 : Rat) := Rep.int (k := .f32) 0 (by decide)
  have r1 : Rep .f32 (1 : Rat) := Rep.int (k := .f32) 1 (by decide)
  have rt : Rep .f32 (tp (-149)) := Rep.tp (-149) (by decide) (by decide)
  have t0 := tp_pos (-149)
  generalize fop .sub .f32 (cn .f32 1056964608) x = A at *
  generalize fop .sub .f32 y x = B at *
  rcases hd with ⟨h1, h2⟩ | ⟨h1, h2⟩
  · have hA := a1.rep_ge r0 (by grind)
    have hB := b1.rep_ge rt (diff_pos y0 x0 (by grind))
    have hAB := rnd_mono a1 b1 pa pb (by grind)
    have dv : fv .f32 A / fv .f32 B * fv .f32 B = fv .f32 A := Rat.div_mul_cancel (by grind)
    refine fop_btw .quo rfl .f32 a0 b0 (fun _ => by grind) r0 r1 ?_ ?_
    · simp only [ex]; exact mul_cancel_le (show 0 < fv .f32 B by grind) (by rw [dv]; grind)
    · simp only [ex]; exact mul_cancel_le (show 0 < fv .f32 B by grind) (by rw [dv]; grind)
  · have hA := a1.rep_le r0 (by grind)
    have hd := diff_pos x0 y0 (by grind)
    have hB := b1.rep_le rt.neg (by grind)
    have hAB : fv .f32 B ≤ fv .f32 A := by
      by_cases he : fv .f32 y - fv .f32 x < 1 / 2 - fv .f32 x
      · exact rnd_mono b1 a1 pb pa he
      · have e : fv .f32 y = 1 / 2 := by grind
        rw [e] at b1
        rw [half_less x0 (by grind) x2 a1, half_less x0 (by grind) x2 b1]
        exact Rat.le_refl
    have dv : fv .f32 A / fv .f32 B * fv .f32 B = fv .f32 A := Rat.div_mul_cancel (by grind)
    have dv2 : fv .f32 A / fv .f32 B * (-fv .f32 B) = -fv .f32 A := by grind
    refine fop_btw .quo rfl .f32 a0 b0 (fun _ => by grind) r0 r1 ?_ ?_
    · simp only [ex]; exact mul_cancel_le (show 0 < -fv .f32 B by grind) (by rw [dv2]; grind)
    · simp only [ex]; exact mul_cancel_le (show 0 < -fv .f32 B by grind) (by rw [dv2]; grind)
section
variable {s : St} {a b c d p l : Int} {q : Nat} {xs : List Nat}
theorem half_dec {x y : Nat} (hx : Btw .f32 x 0 1) (hy : Btw .f32 y 0 1) (h : (fle .f32 x (cn .f32 1056964608) == fle .f32 y (cn .f32 1056964608)) = false) : (fv .f32 x ≤ 1 / 2 ∧ 1 / 2 < fv .f32 y) ∨ (fv .f32 y ≤ 1 / 2 ∧ 1 / 2 < fv .f32 x) := by
  rw [flev hx.1 vHalf.1, flev hy.1 vHalf.1, vHalf.2] at h
  by_cases h1 : fv .f32 x ≤ 1 / 2 <;> by_cases h2 : fv .f32 y ≤ 1 / 2
  · rw [decide_eq_true h1, decide_eq_true h2] at h; cases h
  · exact .inl ⟨h1, by grind⟩
  · exact .inr ⟨h2, by grind⟩
  · rw [decide_eq_false h1, decide_eq_false h2] at h; cases h
/-- One front: within. -/
theorem front_in {x y k : Nat} (hx : Btw .f32 (partC s.k x) 0 1) (hy : Btw .f32 (partC s.k y) 0 1) (hq : V .f32 (cn .f32 q) ((1 : Rat) / 2)) (hk : k ≤ 100) (h : (halfB s x == halfB s y) = false) : Btw .f32 (frontB s q k x y) 0 (((2 * k + 3 : Nat) : Rat) / 4) := by
  obtain ⟨s0, s1, s2⟩ := share_in hx hy (half_dec hx hy h)
  unfold frontB
  generalize fop .quo .f32 (fop .sub .f32 (cn .f32 1056964608) (partC s.k x)) (fop .sub .f32 (partC s.k y) (partC s.k x)) = S at *
  have kn : V .f32 (cn .f32 (floatOfInt .f32 (k : Int))) ((k : Int) : Rat) := (V.int .f32 (k : Int) (show (k : Int).natAbs < 16777216 by omega)).cn
  have e1 : ex .add ((k : Int) : Rat) ((1 : Rat) / 2) = ((2 * k + 1 : Int) : Rat) / 2 := by
    simp only [ex]; rw [Rat.intCast_add, Rat.intCast_mul]
    have c1 : ((1 : Int) : Rat) = 1 := rfl
    have c2 : ((2 : Int) : Rat) = 2 := rfl
    rw [c1, c2]; grind
  have A := V.op .add rfl kn vHalf (by simp) (by rw [e1]; exact rep_half (by omega))
  rw [e1] at A
  have up : ((2 * k + 3 : Int) : Rat) / 2 = ((2 * k + 1 : Int) : Rat) / 2 + 1 := by
    rw [show (2 * (k : Int) + 3) = (2 * k + 1) + 2 by omega, Rat.intCast_add]
    have c2 : ((2 : Int) : Rat) = 2 := rfl
    rw [c2]; grind
  have k0 : ((0 : Int) : Rat) ≤ ((2 * k + 1 : Int) : Rat) := icast_le (by omega)
  have z0 : ((0 : Int) : Rat) = 0 := rfl
  rw [z0] at k0
  obtain ⟨b0, b1, b2⟩ := fop_btw .add rfl .f32 A.1 s0 (by simp) (rep_half (n := 2 * (k : Int) + 1) (by omega)) (rep_half (n := 2 * (k : Int) + 3) (by omega)) (by simp only [ex]; rw [A.2]; grind) (by simp only [ex]; rw [A.2, up]; grind)
  have r0 : Rep .f32 (0 : Rat) := Rep.int (k := .f32) 0 (by decide)
  have cN : ((2 * k + 3 : Int) : Rat) = ((2 * k + 3 : Nat) : Rat) := by rw [show (2 * (k : Int) + 3) = ((2 * k + 3 : Nat) : Int) by omega, Rat.intCast_natCast]
  have r4 : Rep .f32 (((2 * k + 3 : Nat) : Rat) / 4) := by rw [← cN]; exact rep_quarter (by omega)
  rw [cN] at b2
  exact fop_btw .mul rfl .f32 b0 hq.1 (by simp) r0 r4 (by simp only [ex]; rw [hq.2]; grind) (by simp only [ex]; rw [hq.2]; grind)
/-- All of them. -/
theorem fronts_in (hx : ∀ j, j < xs.length → Btw .f32 (partC s.k (cn .f32 (xs.getD j 0))) 0 1) (hq : V .f32 (cn .f32 q) ((1 : Rat) / 2)) : ∀ k, k + 1 ≤ xs.length → k ≤ 100 → ∀ y ∈ frontsL s q xs k, Btw .f32 y 0 (((2 * k + 1 : Nat) : Rat) / 4)
  | 0, _, _, y, hy => by cases hy
  | k + 1, h1, h2, y, hy => by
    have ih := fronts_in hx hq k (by omega) (by omega)
    have mono : ((2 * k + 1 : Nat) : Rat) ≤ ((2 * (k + 1) + 1 : Nat) : Rat) := by exact_mod_cast (by omega : 2 * k + 1 ≤ 2 * (k + 1) + 1)
    rw [frontsL_step] at hy
    split at hy
    · obtain ⟨a, b, c⟩ := ih y hy
      exact ⟨a, b, by grind⟩
    · rename_i hc
      rcases List.mem_append.1 hy with hy | hy
      · obtain ⟨a, b, c⟩ := ih y hy
        exact ⟨a, b, by grind⟩
      · have : y = frontB s q k (cn .f32 (xs.getD k 0)) (cn .f32 (xs.getD (k + 1) 0)) := by simpa using hy
        rw [this]
        have := front_in (s := s) (q := q) (k := k) (hx k (by omega)) (hx (k + 1) (by omega)) hq (by omega) (by simpa using hc)
        exact this
end
end Go.Proofs.Ytjeeflldbhajiaa
set_option linter.unusedSimpArgs false
set_option linter.unusedVariables false
set_option linter.unusedSectionVars false
namespace Go.Proofs.Ytjeeflldbhajiaa
open Go Go.RowKit
section
variable {s : St} {a b c d p l : Int} {q : Nat} {H x y : Nat}
/-- A heat from 0 to 48: no colder than the point; up to the latent heat just as warm. -/
theorem warm_up (h : SV s a b c d p l) (hH : Btw .f32 H 0 48) : Btw .f32 (warmC s.k H) (p : Rat) 128 ∧ (fv .f32 H ≤ (l : Rat) / 2 → V .f32 (warmC s.k H) (p : Rat)) := by
  have hb := h.bd
  obtain ⟨h0, h1, h2⟩ := hH
  obtain ⟨_, ⟨b1, b2⟩, _, _, ⟨p1, p2⟩, ⟨l1, l2⟩⟩ := h.rat
  have f1 : flt .f32 H (cn .f32 0) = false := by rw [fltv h0 V0.1, V0.2]; exact decide_eq_false (by grind)
  have rp : Rep .f32 (p : Rat) := rep_int (by omega)
  have r0 : Rep .f32 (0 : Rat) := Rep.int (k := .f32) 0 (by decide)
  have r48 : Rep .f32 (48 : Rat) := Rep.int (k := .f32) 48 (by decide)
  have r96 : Rep .f32 (96 : Rat) := Rep.int (k := .f32) 96 (by decide)
  have r128 : Rep .f32 (128 : Rat) := Rep.int (k := .f32) 128 (by decide)
  unfold warmC
  rw [f1]
  simp only [Bool.false_eq_true, if_false]
  by_cases hl : (l : Rat) / 2 < fv .f32 H
  · have f2 : fgt .f32 H s.k.l = true := by rw [fgtv h0 h.L.1, h.L.2]; exact decide_eq_true hl
    rw [if_pos f2]
    obtain ⟨A0, A1, A2⟩ := fop_btw .sub rfl .f32 h0 h.L.1 (by simp) r0 r48 (by simp only [ex]; rw [h.L.2]; grind) (by simp only [ex]; rw [h.L.2]; grind)
    generalize fop .sub .f32 H s.k.l = A at *
    have hd : fv .f32 A / ((b : Rat) / 2) * ((b : Rat) / 2) = fv .f32 A := Rat.div_mul_cancel (by grind)
    obtain ⟨B0, B1, B2⟩ := fop_btw .quo rfl .f32 A0 h.B.1 (fun _ => by rw [h.B.2]; grind) r0 r96 (by simp only [ex]; rw [h.B.2]; exact mul_cancel_le (show 0 < (b : Rat) / 2 by grind) (by rw [hd]; grind)) (by simp only [ex]; rw [h.B.2]; exact mul_cancel_le (show 0 < (b : Rat) / 2 by grind) (by rw [hd]; grind))
    exact ⟨fop_btw .add rfl .f32 h.P.1 B0 (by simp) rp r128 (by simp only [ex]; rw [h.P.2]; grind) (by simp only [ex]; rw [h.P.2]; grind), fun hh => by exfalso; grind⟩
  · have f2 : fgt .f32 H s.k.l = false := by rw [fgtv h0 h.L.1, h.L.2]; exact decide_eq_false hl
    rw [if_neg (by rw [f2]; simp)]
    exact ⟨⟨h.P.1, by rw [h.P.2]; exact Rat.le_refl, by rw [h.P.2]; grind⟩, fun _ => h.P⟩
end
end Go.Proofs.Ytjeeflldbhajiaa
set_option linter.unusedSimpArgs false
set_option linter.unusedVariables false
set_option linter.unusedSectionVars false
namespace Go.Proofs.Ytjeeflldbhajiaa
open Go Go.RowKit
theorem tp_n16 : tp (-16) * 65536 = 1 := by
  have h : tp (-16) * tp 16 = 1 := by rw [← tp_add]; exact tp_zero
  rwa [show tp 16 = 65536 from (tp_nat 16).trans rfl] at h
theorem tp_n30 : tp (-30) * 1073741824 = 1 := by
  have h : tp (-30) * tp 30 = 1 := by rw [← tp_add]; exact tp_zero
  rwa [show tp 30 = 1073741824 from (tp_nat 30).trans rfl] at h
theorem tp_n40 : tp (-40) * 1024 = tp (-30) := by
  have h : tp (-30) = tp (-40) * tp 10 := by rw [← tp_add]; rfl
  rw [h, show tp 10 = 1024 from (tp_nat 10).trans rfl]
/-- Rounding, against a bound of one side. -/
theorem up_rel {σ v r M : Rat} (hσ : σ = 1 ∨ σ = -1) (h : Rnd FloatKind.f32.format v r) (hv : σ * v ≤ M) (hM : tp (-40) ≤ M) : σ * r ≤ 100001 / 100000 * M := by
  have key : ∀ {v r : Rat}, Rnd FloatKind.f32.format v r → v ≤ M → r ≤ 100001 / 100000 * M := by
    intro v r h hv
    have t40 := tp_pos (-40)
    by_cases c : v ≤ 0
    · have r0 : Rep .f32 (0 : Rat) := Rep.int (k := .f32) 0 (by decide)
      have := h.rep_le r0 c
      grind
    · obtain ⟨a, _⟩ := rnd_rel h hv (by grind)
      have e1 : tp (-(FloatKind.f32.format.fractionBits : Int)) ≤ tp (-19) := tp_le (by decide)
      have e2 : tp FloatKind.f32.format.leastPlace ≤ tp (-59) := tp_le (by decide)
      have e3 : tp (-59) = tp (-40) * tp (-19) := by rw [← tp_add]; rfl
      have t19 := tp_n19
      have t190 := tp_pos (-19)
      have f1 := Rat.mul_le_mul_of_nonneg_left e1 (show 0 ≤ M by grind)
      have f2 := Rat.mul_le_mul_of_nonneg_right hM (Rat.le_of_lt t190)
      have f3 := Rat.mul_le_mul_of_nonneg_left (show tp (-19) ≤ 1 / 500000 by grind) (show 0 ≤ M by grind)
      grind
  rcases hσ with rfl | rfl
  · have := key h (by grind); grind
  · have := key h.neg (by grind); grind
section
variable {s : St} {a b c d p l : Int} {q T : Nat}
/-- What flows from one warmth to another: sign, and a bound. -/
theorem edge_sign (hq : V .f32 (cn .f32 q) ((1 : Rat) / 2)) {X u v : Nat} (hX : fnt .f32 X = true ∧ 0 ≤ fv .f32 X ∧ fv .f32 X ≤ 4) (hu : fnt .f32 u = true) (hv : fnt .f32 v = true) (hb : -256 ≤ fv .f32 u - fv .f32 v ∧ fv .f32 u - fv .f32 v ≤ 256) : Bnd .f32 (fop .quo .f32 (fop .mul .f32 X (fop .sub .f32 u v)) (cn .f32 q)) 2048 ∧ (fv .f32 v ≤ fv .f32 u → 0 ≤ fv .f32 (fop .quo .f32 (fop .mul .f32 X (fop .sub .f32 u v)) (cn .f32 q))) ∧ (fv .f32 u ≤ fv .f32 v → fv .f32 (fop .quo .f32 (fop .mul .f32 X (fop .sub .f32 u v)) (cn .f32 q)) ≤ 0) := by
  obtain ⟨m0, m1, m2⟩ := hX
  have r0 : Rep .f32 (0 : Rat) := Rep.int (k := .f32) 0 (by decide)
  have r256 : Rep .f32 (256 : Rat) := Rep.int (k := .f32) 256 (by decide)
  have r1k : Rep .f32 (1024 : Rat) := Rep.int (k := .f32) 1024 (by decide)
  have r2k : Rep .f32 (2048 : Rat) := Rep.int (k := .f32) 2048 (by decide)
  have key : ∀ {lo hi : Rat}, lo ≤ 0 → 0 ≤ hi → Rep .f32 lo → Rep .f32 hi → lo ≤ fv .f32 u - fv .f32 v → fv .f32 u - fv .f32 v ≤ hi → Rep .f32 (4 * lo) → Rep .f32 (4 * hi) → Rep .f32 (8 * lo) → Rep .f32 (8 * hi) → Btw .f32 (fop .quo .f32 (fop .mul .f32 X (fop .sub .f32 u v)) (cn .f32 q)) (8 * lo) (8 * hi) := by
    intro lo hi hl hh rl rh c1 c2 rl4 rh4 rl8 rh8
    obtain ⟨D0, D1, D2⟩ := fop_btw .sub rfl .f32 hu hv (by simp) rl rh (by simp only [ex]; exact c1) (by simp only [ex]; exact c2)
    generalize fop .sub .f32 u v = D at *
    have g1 := Rat.mul_le_mul_of_nonneg_left D1 m1
    have g2 := Rat.mul_le_mul_of_nonneg_left D2 m1
    have g4 := Rat.mul_le_mul_of_nonneg_right m2 (show 0 ≤ -lo by grind)
    have g5 := Rat.mul_le_mul_of_nonneg_right m2 hh
    obtain ⟨P0, P1, P2⟩ := fop_btw .mul rfl .f32 m0 D0 (by simp) rl4 rh4 (by simp only [ex]; grind) (by simp only [ex]; grind)
    generalize fop .mul .f32 X D = P at *
    have hd : fv .f32 P / (1 / 2) = 2 * fv .f32 P := by
      have : fv .f32 P / (1 / 2) * (1 / 2) = fv .f32 P := Rat.div_mul_cancel (by grind)
      grind
    exact fop_btw .quo rfl .f32 P0 hq.1 (fun _ => by rw [hq.2]; grind) rl8 rh8 (by simp only [ex]; rw [hq.2, hd]; grind) (by simp only [ex]; rw [hq.2, hd]; grind)
  have n256 := r256.neg
  have r4 : Rep .f32 (4 * (256 : Rat)) := by rw [show (4 * (256 : Rat)) = 1024 by grind]; exact r1k
  have r8 : Rep .f32 (8 * (256 : Rat)) := by rw [show (8 * (256 : Rat)) = 2048 by grind]; exact r2k
  have s4 : Rep .f32 (4 * (-256 : Rat)) := by rw [show (4 * (-256 : Rat)) = -1024 by grind]; exact r1k.neg
  have s8 : Rep .f32 (8 * (-256 : Rat)) := by rw [show (8 * (-256 : Rat)) = -2048 by grind]; exact r2k.neg
  have z4 : Rep .f32 (4 * (0 : Rat)) := by rw [show (4 * (0 : Rat)) = 0 by grind]; exact r0
  have z8 : Rep .f32 (8 * (0 : Rat)) := by rw [show (8 * (0 : Rat)) = 0 by grind]; exact r0
  refine ⟨?_, fun hh => ?_, fun hh => ?_⟩
  · obtain ⟨k0, k1, k2⟩ := key (lo := -256) (hi := 256) (by grind) (by grind) n256 r256 (by grind) (by grind) s4 r4 s8 r8
    exact ⟨k0, by grind, by grind⟩
  · have := (key (lo := 0) (hi := 256) (by grind) (by grind) r0 r256 (by grind) (by grind) z4 r4 z8 r8).2.1
    grind
  · have := (key (lo := -256) (hi := 0) (by grind) (by grind) n256 r0 (by grind) (by grind) s4 z4 s8 z8).2.2
    grind
/-- .. and how much in terms of capacities: N is the lesser capacity, m the greater ease. -/
theorem edge_le {σ g N m Z : Rat} (hσ : σ = 1 ∨ σ = -1) (hq : V .f32 (cn .f32 q) ((1 : Rat) / 2)) (hg : 0 < g) (hm : (1 : Rat) / 4 ≤ m ∧ m ≤ 2) (hk : g * m ≤ 1001 / 8000 * N) {X u v : Nat} (hX : fnt .f32 X = true ∧ 0 ≤ fv .f32 X ∧ fv .f32 X ≤ 1001 / 1000 * m) (hu : fnt .f32 u = true) (hv : fnt .f32 v = true) (hb : -256 ≤ fv .f32 u - fv .f32 v ∧ fv .f32 u - fv .f32 v ≤ 256) (hZ : tp (-30) ≤ Z) (h : σ * (fv .f32 u - fv .f32 v) ≤ Z) : σ * (g * fv .f32 (fop .quo .f32 (fop .mul .f32 X (fop .sub .f32 u v)) (cn .f32 q))) ≤ 251 / 1000 * (N * Z) := by
  have t30 := tp_pos (-30)
  have t40 := tp_n40
  have tp20 : tp 20 = 1048576 := (tp_nat 20).trans rfl
  have r256 : Rep .f32 (256 : Rat) := Rep.int (k := .f32) 256 (by decide)
  obtain ⟨D0, D1⟩ := fop_rnd .sub rfl .f32 hu hv (by simp) 20 (by decide) (by simp only [ex]; rw [tp20]; grind) (by simp only [ex]; rw [tp20]; grind)
  simp only [ex] at D1
  have Db1 := D1.rep_le r256 hb.2
  have Db2 := D1.rep_ge r256.neg hb.1
  have u1 := up_rel hσ D1 h (by grind)
  generalize fop .sub .f32 u v = D at *
  obtain ⟨m0, m1, m2⟩ := hX
  have pb := mul_bd (a := 4) (b := 256) (x := fv .f32 X) (y := fv .f32 D) (by grind) (by grind) (by grind) (by grind)
  obtain ⟨P0, P1⟩ := fop_rnd .mul rfl .f32 m0 D0 (by simp) 20 (by decide) (by simp only [ex]; rw [tp20]; grind) (by simp only [ex]; rw [tp20]; grind)
  simp only [ex] at P1
  have r1k : Rep .f32 (1024 : Rat) := Rep.int (k := .f32) 1024 (by decide)
  have Pb1 := P1.rep_le r1k (by grind)
  have Pb2 := P1.rep_ge r1k.neg (by grind)
  have mZ := Rat.mul_le_mul_of_nonneg_right hm.1 (show 0 ≤ Z by grind)
  have u2 : σ * (fv .f32 X * fv .f32 D) ≤ 1002 / 1000 * (m * Z) := by
    have g1 := Rat.mul_le_mul_of_nonneg_left u1 m1
    have g2 := Rat.mul_le_mul_of_nonneg_right m2 (show 0 ≤ Z by grind)
    have e : σ * (fv .f32 X * fv .f32 D) = fv .f32 X * (σ * fv .f32 D) := by grind
    rw [e]
    grind
  have u3 := up_rel hσ P1 u2 (by grind)
  generalize fop .mul .f32 X D = P at *
  have hd : fv .f32 P / (1 / 2) = 2 * fv .f32 P := by
    have : fv .f32 P / (1 / 2) * (1 / 2) = fv .f32 P := Rat.div_mul_cancel (by grind)
    grind
  obtain ⟨F0, F1⟩ := fop_rnd .quo rfl .f32 P0 hq.1 (fun _ => by rw [hq.2]; grind) 20 (by decide) (by simp only [ex]; rw [hq.2, hd, tp20]; grind) (by simp only [ex]; rw [hq.2, hd, tp20]; grind)
  simp only [ex] at F1
  rw [hq.2, hd] at F1
  have u4 := up_rel (M := 2005 / 1000 * (m * Z)) hσ F1 (by grind) (by grind)
  generalize fop .quo .f32 P (cn .f32 q) = F at *
  have u5 := Rat.mul_le_mul_of_nonneg_left u4 (Rat.le_of_lt hg)
  have u6 := Rat.mul_le_mul_of_nonneg_right hk (show 0 ≤ Z by grind)
  have e1 : g * (σ * fv .f32 F) = σ * (g * fv .f32 F) := by grind
  have e2 : g * (100001 / 100000 * (2005 / 1000 * (m * Z))) = 100001 / 100000 * (2005 / 1000 * (g * m * Z)) := by grind
  have e3 : 1001 / 8000 * N * Z = 1001 / 8000 * (N * Z) := by grind
  have nz : 0 ≤ N * Z := by
    have := Rat.mul_pos hg (show 0 < m by grind)
    exact Rat.mul_nonneg (by grind) (by grind)
  rw [e1, e2] at u5
  rw [e3] at u6
  grind
/-- One cell: how much warmer at most, how much colder at most. -/
theorem cell_two {σ g A : Rat} (hσ : σ = 1 ∨ σ = -1) (hq : V .f32 (cn .f32 q) ((1 : Rat) / 2)) (hT : fnt .f32 T = true ∧ 0 < fv .f32 T ∧ fv .f32 T ≤ 16) (hg : g = 2 * fv .f32 T) {H f1 f2 : Nat} (hH : fnt .f32 H = true ∧ 0 ≤ fv .f32 H ∧ fv .f32 H ≤ 41) (h1 : Bnd .f32 f1 2048) (h2 : Bnd .f32 f2 2048)
    (z : -9 ≤ g * fv .f32 f1 ∧ g * fv .f32 f1 ≤ 9 ∧ -9 ≤ g * fv .f32 f2 ∧ g * fv .f32 f2 ≤ 9) (hA : tp (-30) ≤ A) (b1 : σ * (g * fv .f32 f1) ≤ A) (b2 : σ * -(g * fv .f32 f2) ≤ A) :
    σ * (fv .f32 (fop .add .f32 H (fop .quo .f32 (fop .mul .f32 T (fop .sub .f32 f1 f2)) (cn .f32 q))) - fv .f32 H) ≤ 2001 / 1000 * A + tp (-18) := by
  obtain ⟨a0, a1, a2⟩ := h1
  obtain ⟨c0, c1, c2⟩ := h2
  have t30 := tp_n30
  have t300 := tp_pos (-30)
  have t40 := tp_n40
  have tp20 : tp 20 = 1048576 := (tp_nat 20).trans rfl
  obtain ⟨T0, T1, T2⟩ := hT
  -- against any bound of one side
  have key : ∀ {σ A : Rat}, (σ = 1 ∨ σ = -1) → tp (-30) ≤ A → σ * (g * fv .f32 f1) ≤ A → σ * -(g * fv .f32 f2) ≤ A → fnt .f32 (fop .quo .f32 (fop .mul .f32 T (fop .sub .f32 f1 f2)) (cn .f32 q)) = true ∧ σ * fv .f32 (fop .quo .f32 (fop .mul .f32 T (fop .sub .f32 f1 f2)) (cn .f32 q)) ≤ 2001 / 1000 * A := by
    intro σ A hσ hA b1 b2
    have g0 : 0 < g := by grind
    have gi0 : 0 < g⁻¹ := Rat.inv_pos.2 g0
    have gg : g * g⁻¹ = 1 := Rat.mul_inv_cancel _ (by grind)
    have gi : (1 : Rat) / 32 ≤ g⁻¹ := by
      have := Rat.mul_le_mul_of_nonneg_right (show g ≤ 32 by grind) (Rat.le_of_lt gi0)
      grind
    generalize g⁻¹ = i at *
    have r4k : Rep .f32 (4096 : Rat) := Rep.int (k := .f32) 4096 (by decide)
    obtain ⟨S0, S1⟩ := fop_rnd .sub rfl .f32 a0 c0 (by simp) 20 (by decide) (by simp only [ex]; rw [tp20]; grind) (by simp only [ex]; rw [tp20]; grind)
    simp only [ex] at S1
    have Sb1 := S1.rep_le r4k (by grind)
    have Sb2 := S1.rep_ge r4k.neg (by grind)
    have Ai := Rat.mul_le_mul_of_nonneg_left gi (show 0 ≤ A by grind)
    have v1 : σ * (fv .f32 f1 - fv .f32 f2) ≤ 2 * (A * i) := by
      have := Rat.mul_le_mul_of_nonneg_right (show σ * (g * fv .f32 f1) + σ * -(g * fv .f32 f2) ≤ 2 * A by grind) (Rat.le_of_lt gi0)
      have e : (σ * (g * fv .f32 f1) + σ * -(g * fv .f32 f2)) * i = (g * i) * (σ * (fv .f32 f1 - fv .f32 f2)) := by grind
      rw [e, gg] at this
      grind
    have v2 := up_rel hσ S1 v1 (by grind)
    generalize fop .sub .f32 f1 f2 = S at *
    have pb := mul_bd (a := 16) (b := 4096) (x := fv .f32 T) (y := fv .f32 S) (by grind) (by grind) (by grind) (by grind)
    obtain ⟨P0, P1⟩ := fop_rnd .mul rfl .f32 T0 S0 (by simp) 20 (by decide) (by simp only [ex]; rw [tp20]; grind) (by simp only [ex]; rw [tp20]; grind)
    simp only [ex] at P1
    have r64k : Rep .f32 (65536 : Rat) := Rep.int (k := .f32) 65536 (by decide)
    have Pb1 := P1.rep_le r64k (by grind)
    have Pb2 := P1.rep_ge r64k.neg (by grind)
    have v3 : σ * (fv .f32 T * fv .f32 S) ≤ 100001 / 100000 * A := by
      have := Rat.mul_le_mul_of_nonneg_left v2 (Rat.le_of_lt T1)
      have e1 : fv .f32 T * (100001 / 100000 * (2 * (A * i))) = 100001 / 100000 * A * (2 * fv .f32 T * i) := by grind
      rw [← hg, gg] at e1
      have e2 : fv .f32 T * (σ * fv .f32 S) = σ * (fv .f32 T * fv .f32 S) := by grind
      rw [e1, e2] at this
      grind
    have v4 := up_rel hσ P1 v3 (by grind)
    generalize fop .mul .f32 T S = P at *
    have hd : fv .f32 P / (1 / 2) = 2 * fv .f32 P := by
      have : fv .f32 P / (1 / 2) * (1 / 2) = fv .f32 P := Rat.div_mul_cancel (by grind)
      grind
    obtain ⟨F0, F1⟩ := fop_rnd .quo rfl .f32 P0 hq.1 (fun _ => by rw [hq.2]; grind) 20 (by decide) (by simp only [ex]; rw [hq.2, hd, tp20]; grind) (by simp only [ex]; rw [hq.2, hd, tp20]; grind)
    simp only [ex] at F1
    rw [hq.2, hd] at F1
    have v5 := up_rel (M := 20002 / 10000 * A) hσ F1 (by grind) (by grind)
    exact ⟨F0, by grind⟩
  obtain ⟨Q0, Q1⟩ := key hσ hA b1 b2
  have k1 := (key (σ := 1) (A := 9) (.inl rfl) (by grind) (by grind) (by grind)).2
  have k2 := (key (σ := -1) (A := 9) (.inr rfl) (by grind) (by grind) (by grind)).2
  generalize fop .quo .f32 (fop .mul .f32 T (fop .sub .f32 f1 f2)) (cn .f32 q) = Q at *
  have tp6 : tp 6 = 64 := (tp_nat 6).trans rfl
  obtain ⟨n0, n1, n2⟩ := fop_q .add rfl hH.1 Q0 (by simp) 6 (by decide) (by simp only [ex]; rw [tp6]; grind) (by simp only [ex]; rw [tp6]; grind)
  simp only [ex] at n1 n2
  rw [show (6 : Int) - 24 = -18 by omega] at n1 n2
  rcases hσ with rfl | rfl <;> grind
/-- Where heat comes from both sides, a cell loses none. -/
theorem cell_gain (hq : V .f32 (cn .f32 q) ((1 : Rat) / 2)) (hT : fnt .f32 T = true ∧ 0 < fv .f32 T ∧ fv .f32 T ≤ 16) {H f1 f2 : Nat} (hH : fnt .f32 H = true ∧ 0 ≤ fv .f32 H ∧ fv .f32 H ≤ 41) (h1 : Bnd .f32 f1 2048) (h2 : Bnd .f32 f2 2048) :
    fnt .f32 (fop .add .f32 H (fop .quo .f32 (fop .mul .f32 T (fop .sub .f32 f1 f2)) (cn .f32 q))) = true ∧ (0 ≤ fv .f32 f1 → fv .f32 f2 ≤ 0 → fv .f32 H ≤ fv .f32 (fop .add .f32 H (fop .quo .f32 (fop .mul .f32 T (fop .sub .f32 f1 f2)) (cn .f32 q)))) ∧ (4 ≤ fv .f32 f1 → fv .f32 f2 ≤ 0 → (1 : Rat) / 256 ≤ fv .f32 T → (1 : Rat) / 64 ≤ fv .f32 (fop .add .f32 H (fop .quo .f32 (fop .mul .f32 T (fop .sub .f32 f1 f2)) (cn .f32 q)))) := by
  obtain ⟨a0, a1, a2⟩ := h1
  obtain ⟨c0, c1, c2⟩ := h2
  obtain ⟨T0, T1, T2⟩ := hT
  have key : ∀ {lo lo2 lo3 : Rat}, lo ≤ fv .f32 f1 - fv .f32 f2 → Rep .f32 lo → Rep .f32 lo2 → Rep .f32 lo3 → (lo ≤ 0 ∧ lo2 ≤ 16 * lo ∨ 0 ≤ lo ∧ lo2 ≤ fv .f32 T * lo) → lo3 ≤ 2 * lo2 → -4096 ≤ lo → -65536 ≤ lo2 → Btw .f32 (fop .quo .f32 (fop .mul .f32 T (fop .sub .f32 f1 f2)) (cn .f32 q)) lo3 131072 := by
    intro lo lo2 lo3 hlo r1 r2 r3 hlo2 hlo3 hl hl2
    have r4k : Rep .f32 (4096 : Rat) := Rep.int (k := .f32) 4096 (by decide)
    have r64k : Rep .f32 (65536 : Rat) := Rep.int (k := .f32) 65536 (by decide)
    have r128k : Rep .f32 (131072 : Rat) := Rep.int (k := .f32) 131072 (by decide)
    obtain ⟨S0, S1, S2⟩ := fop_btw .sub rfl .f32 a0 c0 (by simp) r1 r4k (by simp only [ex]; exact hlo) (by simp only [ex]; grind)
    generalize fop .sub .f32 f1 f2 = S at *
    have g1 := Rat.mul_le_mul_of_nonneg_left S1 (Rat.le_of_lt T1)
    have g2 := Rat.mul_le_mul_of_nonneg_left S2 (Rat.le_of_lt T1)
    have g3 : lo2 ≤ fv .f32 T * lo := by
      rcases hlo2 with ⟨h1, h2⟩ | ⟨_, h2⟩
      · have := Rat.mul_le_mul_of_nonneg_right T2 (show 0 ≤ -lo by grind)
        grind
      · exact h2
    obtain ⟨P0, P1, P2⟩ := fop_btw .mul rfl .f32 T0 S0 (by simp) r2 r64k (by simp only [ex]; grind) (by simp only [ex]; grind)
    generalize fop .mul .f32 T S = P at *
    have hd : fv .f32 P / (1 / 2) = 2 * fv .f32 P := by
      have : fv .f32 P / (1 / 2) * (1 / 2) = fv .f32 P := Rat.div_mul_cancel (by grind)
      grind
    exact fop_btw .quo rfl .f32 P0 hq.1 (fun _ => by rw [hq.2]; grind) r3 r128k (by simp only [ex]; rw [hq.2, hd]; grind) (by simp only [ex]; rw [hq.2, hd]; grind)
  have r0 : Rep .f32 (0 : Rat) := Rep.int (k := .f32) 0 (by decide)
  have r4k : Rep .f32 (4096 : Rat) := Rep.int (k := .f32) 4096 (by decide)
  have r64k : Rep .f32 (65536 : Rat) := Rep.int (k := .f32) 65536 (by decide)
  have r128k : Rep .f32 (131072 : Rat) := Rep.int (k := .f32) 131072 (by decide)
  have tp20 : tp 20 = 1048576 := (tp_nat 20).trans rfl
  obtain ⟨q0, q1, q2⟩ := key (lo := -4096) (lo2 := -65536) (lo3 := -131072) (by grind) r4k.neg r64k.neg r128k.neg (.inl ⟨by grind, by grind⟩) (by grind) (by grind) (by grind)
  obtain ⟨n0, n1⟩ := fop_rnd .add rfl .f32 hH.1 q0 (by simp) 20 (by decide) (by simp only [ex]; rw [tp20]; grind) (by simp only [ex]; rw [tp20]; grind)
  simp only [ex] at n1
  refine ⟨n0, fun h1 h2 => ?_, fun h1 h2 h3 => ?_⟩
  · have k := (key (lo := 0) (lo2 := 0) (lo3 := 0) (by grind) r0 r0 r0 (.inr ⟨by grind, by grind⟩) (by grind) (by grind) (by grind)).2.1
    obtain ⟨z, e, p1, p2, p3⟩ := rp_word hH.1
    rw [p3]
    exact n1.ge p1 p2 (by rw [← p3]; grind)
  · have r4 : Rep .f32 (4 : Rat) := Rep.int (k := .f32) 4 (by decide)
    have t6 : tp (-6) * 64 = 1 := by
      have h : tp (-6) * tp 6 = 1 := by rw [← tp_add]; exact tp_zero
      rwa [show tp 6 = 64 from (tp_nat 6).trans rfl] at h
    have e6 : (1 : Rat) / 64 = tp (-6) := by grind
    have r6 : Rep .f32 ((1 : Rat) / 64) := by rw [e6]; exact Rep.tp (-6) (by decide) (by decide)
    have k := (key (lo := 4) (lo2 := 1 / 64) (lo3 := 1 / 64) (by grind) r4 r6 r6 (.inr ⟨by grind, by grind⟩) (by grind) (by grind) (by grind)).2.1
    exact n1.rep_ge r6 (by grind)
end
end Go.Proofs.Ytjeeflldbhajiaa
set_option linter.unusedSimpArgs false
set_option linter.unusedVariables false
set_option linter.unusedSectionVars false
namespace Go.Proofs.Ytjeeflldbhajiaa
open Go Go.RowKit
section
variable {s : St} {a b c d p l : Int} {q T : Nat}
/-- What a heat is above the latent one. -/
def exE (l : Int) (h : Rat) : Rat := if (l : Rat) / 2 < h then h - (l : Rat) / 2 else 0
theorem exE_pos {h : Rat} : 0 ≤ exE l h := by unfold exE; split <;> grind
theorem warm_ex (h : SV s a b c d p l) {H : Nat} (hH : fnt .f32 H = true ∧ 0 ≤ fv .f32 H ∧ fv .f32 H ≤ (l : Rat) / 2 + 8 * ((b : Rat) / 2) + 1 / 100) :
    fnt .f32 (warmC s.k H) = true ∧ (p : Rat) ≤ fv .f32 (warmC s.k H) ∧ fv .f32 (warmC s.k H) ≤ (p : Rat) + 10 ∧ (fv .f32 H ≤ (l : Rat) / 2 → fv .f32 (warmC s.k H) = (p : Rat)) ∧ (b : Rat) / 2 * (fv .f32 (warmC s.k H) - (p : Rat)) - exE l (fv .f32 H) ≤ tp (-16) ∧ exE l (fv .f32 H) - (b : Rat) / 2 * (fv .f32 (warmC s.k H) - (p : Rat)) ≤ tp (-16) := by
  have hb := h.bd
  obtain ⟨h0, h1, h2⟩ := hH
  obtain ⟨_, ⟨b1, b2⟩, _, _, ⟨p1, p2⟩, ⟨l1, l2⟩⟩ := h.rat
  obtain ⟨⟨w0, w1, w2⟩, wp⟩ := warm_up h (H := H) ⟨h0, h1, by grind⟩
  have t16 := tp_n16
  have t160 := tp_pos (-16)
  by_cases hl : (l : Rat) / 2 < fv .f32 H
  · have e : exE l (fv .f32 H) = fv .f32 H - (l : Rat) / 2 := by unfold exE; rw [if_pos hl]
    rw [e]
    have f1 : flt .f32 H (cn .f32 0) = false := by rw [fltv h0 V0.1, V0.2]; exact decide_eq_false (by grind)
    have f2 : fgt .f32 H s.k.l = true := by rw [fgtv h0 h.L.1, h.L.2]; exact decide_eq_true hl
    have tp6 : tp 6 = 64 := (tp_nat 6).trans rfl
    have W : warmC s.k H = fop .add .f32 s.k.p (fop .quo .f32 (fop .sub .f32 H s.k.l) s.k.b) := by
      unfold warmC
      rw [f1, f2]; rfl
    rw [W] at w0 w1 w2 ⊢
    obtain ⟨A0, A1, A2⟩ := fop_q .sub rfl h0 h.L.1 (by simp) 6 (by decide) (by simp only [ex]; rw [h.L.2, tp6]; grind) (by simp only [ex]; rw [h.L.2, tp6]; grind)
    simp only [ex] at A1 A2
    rw [h.L.2, show (6 : Int) - 24 = -18 by omega] at A1 A2
    have t18 : tp (-16) = 4 * tp (-18) := by
      have a1 := tp_succ (-18)
      have a2 := tp_succ (-17)
      rw [show (-18 : Int) + 1 = -17 by omega] at a1
      rw [show (-17 : Int) + 1 = -16 by omega] at a2
      grind
    have t20 : tp (-18) = 4 * tp (-20) := by
      have a1 := tp_succ (-20)
      have a2 := tp_succ (-19)
      rw [show (-20 : Int) + 1 = -19 by omega] at a1
      rw [show (-19 : Int) + 1 = -18 by omega] at a2
      grind
    generalize fop .sub .f32 H s.k.l = A at *
    have hd : fv .f32 A / ((b : Rat) / 2) * ((b : Rat) / 2) = fv .f32 A := Rat.div_mul_cancel (by grind)
    have r0 : fv .f32 A / ((b : Rat) / 2) ≤ 9 := mul_cancel_le (show 0 < (b : Rat) / 2 by grind) (by rw [hd]; grind)
    have r1 : -9 ≤ fv .f32 A / ((b : Rat) / 2) := mul_cancel_le (show 0 < (b : Rat) / 2 by grind) (by rw [hd]; grind)
    obtain ⟨B0, B1, B2⟩ := fop_q .quo rfl A0 h.B.1 (fun _ => by rw [h.B.2]; grind) 4 (by decide) (by simp only [ex]; rw [h.B.2, tpq4]; grind) (by simp only [ex]; rw [h.B.2, tpq4]; grind)
    simp only [ex] at B1 B2
    rw [h.B.2, show (4 : Int) - 24 = -20 by omega] at B1 B2
    generalize fv .f32 A / ((b : Rat) / 2) = y at *
    generalize fop .quo .f32 A s.k.b = R at *
    obtain ⟨C0, C1, C2⟩ := fop_q .add rfl h.P.1 B0 (by simp) 4 (by decide) (by simp only [ex]; rw [h.P.2, tpq4]; grind) (by simp only [ex]; rw [h.P.2, tpq4]; grind)
    simp only [ex] at C1 C2
    rw [h.P.2, show (4 : Int) - 24 = -20 by omega] at C1 C2
    generalize fop .add .f32 s.k.p R = w at *
    -- w = p + y, nearly
    have n := mul_bd (a := 2 * tp (-20)) (b := 4) (x := fv .f32 w - (p : Rat) - y) (y := (b : Rat) / 2) (by grind) (by grind) (by grind) (by grind)
    exact ⟨w0, w1, by grind, fun hh => by exfalso; grind, by grind, by grind⟩
  · have e : exE l (fv .f32 H) = 0 := by unfold exE; rw [if_neg hl]
    have w := (wp (by grind)).2
    rw [e, w]
    exact ⟨w0, by grind, by grind, fun _ => rfl, by grind, by grind⟩
/-- A flow into a cell whose warmth is w. -/
def IntoC (g N p K w φ : Rat) : Prop := (-2048 ≤ φ ∧ φ ≤ 2048) ∧ g * φ ≤ 251 / 1000 * (N * (p + K - w + tp (-30))) ∧ -(g * φ) ≤ 251 / 1000 * (N * (w - p + tp (-30))) ∧ (w = p → 0 ≤ φ)
/-- A cell in a tick: Y is the greatest warmth above the point. -/
theorem cell_tick {g N Y K : Rat} (h : SV s a b c d p l) (hq : V .f32 (cn .f32 q) ((1 : Rat) / 2)) (hT : fnt .f32 T = true ∧ 0 < fv .f32 T ∧ fv .f32 T ≤ 16) (hg : g = 2 * fv .f32 T) (hN : 0 < N ∧ N ≤ (b : Rat) / 2) (hK : 8 * ((b : Rat) / 2) ≤ K ∧ K ≤ 8 * ((b : Rat) / 2) + 1 / 100) (hY : (b : Rat) / 2 * Y = K + tp (-16)) {H f1 f2 : Nat} (hH : fnt .f32 H = true ∧ 0 ≤ fv .f32 H ∧ fv .f32 H ≤ (l : Rat) / 2 + K) (g1 : fnt .f32 f1 = true) (g2 : fnt .f32 f2 = true) (h1 : IntoC g N p Y (fv .f32 (warmC s.k H)) (fv .f32 f1)) (h2 : IntoC g N p Y (fv .f32 (warmC s.k H)) (-fv .f32 f2)) :
    let H' := fop .add .f32 H (fop .quo .f32 (fop .mul .f32 T (fop .sub .f32 f1 f2)) (cn .f32 q))
    fnt .f32 H' = true ∧ 0 ≤ fv .f32 H' ∧ fv .f32 H' ≤ (l : Rat) / 2 + (K + tp (-15)) ∧ (fv .f32 H ≤ (l : Rat) / 2 → fv .f32 H ≤ fv .f32 H') ∧ ((l : Rat) / 2 < fv .f32 H → (l : Rat) / 2 - tp (-16) ≤ fv .f32 H') := by
  intro H'
  have hb := h.bd
  obtain ⟨_, ⟨b1, b2⟩, _, _, ⟨p1, p2⟩, ⟨l1, l2⟩⟩ := h.rat
  obtain ⟨w0, w1, w2, w3, w4, w5⟩ := warm_ex h (H := H) ⟨hH.1, hH.2.1, by grind⟩
  obtain ⟨⟨u1, u2⟩, u3, u4, u5⟩ := h1
  obtain ⟨⟨v1, v2⟩, v3, v4, v5⟩ := h2
  have t16 := tp_n16
  have t160 := tp_pos (-16)
  have t15 : tp (-15) = 2 * tp (-16) := by
    have a1 := tp_succ (-16)
    rwa [show (-16 : Int) + 1 = -15 by omega] at a1
  have t18 : tp (-16) = 4 * tp (-18) := by
    have a1 := tp_succ (-18)
    have a2 := tp_succ (-17)
    rw [show (-18 : Int) + 1 = -17 by omega] at a1
    rw [show (-17 : Int) + 1 = -16 by omega] at a2
    grind
  have t30 := tp_n30
  have t300 := tp_pos (-30)
  have E0 : 0 ≤ exE l (fv .f32 H) := exE_pos
  have E1 : exE l (fv .f32 H) ≤ K := by unfold exE; split <;> grind
  obtain ⟨w, hw⟩ : ∃ w, fv .f32 (warmC s.k H) = w := ⟨_, rfl⟩
  rw [hw] at w1 w2 w3 w4 w5 u3 u4 u5 v3 v4 v5
  obtain ⟨E, hE⟩ : ∃ E, exE l (fv .f32 H) = E := ⟨_, rfl⟩
  rw [hE] at w4 w5 E0 E1
  -- the capacity is the lesser one
  have k1 : N * (w - p + tp (-30)) ≤ E + tp (-16) + 4 * tp (-30) := by
    have m := Rat.mul_le_mul_of_nonneg_right hN.2 (show 0 ≤ w - p + tp (-30) by grind)
    have m2 := Rat.mul_le_mul_of_nonneg_right (show (b : Rat) / 2 ≤ 4 by grind) (Rat.le_of_lt t300)
    grind
  have k2 : N * (p + Y - w + tp (-30)) ≤ K - E + 2 * tp (-16) + 4 * tp (-30) := by
    have z : 0 ≤ p + Y - w := by
      refine mul_cancel_le (c := (b : Rat) / 2) (by grind) ?_
      grind
    have m := Rat.mul_le_mul_of_nonneg_right hN.2 (show 0 ≤ p + Y - w + tp (-30) by grind)
    have m2 := Rat.mul_le_mul_of_nonneg_right (show (b : Rat) / 2 ≤ 4 by grind) (Rat.le_of_lt t300)
    grind
  have n1 := cell_two (σ := 1) (A := 251 / 1000 * (K - E + 2 * tp (-16) + 4 * tp (-30))) (.inl rfl) hq hT hg (H := H) (f1 := f1) (f2 := f2) ⟨hH.1, hH.2.1, by grind⟩ ⟨g1, u1, u2⟩ ⟨g2, by grind, by grind⟩ ⟨by grind, by grind, by grind, by grind⟩ (by grind) (by grind) (by grind)
  have n2 := cell_two (σ := -1) (A := 251 / 1000 * (E + tp (-16) + 4 * tp (-30))) (.inr rfl) hq hT hg (H := H) (f1 := f1) (f2 := f2) ⟨hH.1, hH.2.1, by grind⟩ ⟨g1, u1, u2⟩ ⟨g2, by grind, by grind⟩ ⟨by grind, by grind, by grind, by grind⟩ (by grind) (by grind) (by grind)
  obtain ⟨m0, m1, _⟩ := cell_gain hq hT (H := H) (f1 := f1) (f2 := f2) ⟨hH.1, hH.2.1, by grind⟩ ⟨g1, u1, u2⟩ ⟨g2, by grind, by grind⟩
  have hH' : H' = fop .add .f32 H (fop .quo .f32 (fop .mul .f32 T (fop .sub .f32 f1 f2)) (cn .f32 q)) := rfl
  rw [← hH'] at n1 n2 m0 m1
  have gain : fv .f32 H ≤ (l : Rat) / 2 → fv .f32 H ≤ fv .f32 H' := fun hh => m1 (u5 (w3 hh)) (by have := v5 (w3 hh); grind)
  by_cases hl : (l : Rat) / 2 < fv .f32 H
  · have e : E = fv .f32 H - (l : Rat) / 2 := by rw [← hE]; unfold exE; rw [if_pos hl]
    exact ⟨m0, by grind, by grind, gain, fun _ => by grind⟩
  · have e : E = 0 := by rw [← hE]; unfold exE; rw [if_neg hl]
    have := gain (by grind)
    exact ⟨m0, by grind, by grind, gain, fun hh => absurd hh hl⟩
end
end Go.Proofs.Ytjeeflldbhajiaa

/-
  A bar a tick later: what is told of it, and the program's way. No condition but what each contract says.
-/
import Derived.Test.YtjeeflldbhajiaaBx
import Derived.Test.YtjeeflldbhajiaaMost
import Derived.Test.YtjeeflldbhajiaaFlows2
set_option linter.unusedSimpArgs false
set_option linter.unusedVariables false
set_option linter.unusedSectionVars false
namespace Go.Proofs.Ytjeeflldbhajiaa
open Go Go.RowKit
open Go.ChangeShapes Go.WideShapes Go.ChangeAt Go.RowKit Go.Joins
/-! ### What is finite was made of what is finite -/
theorem num_fop {op : BinOp} {x y : Nat} (h : fin .f32 (fop op .f32 x y) = true) : ∃ b, floatBits op .f32 x y = some b ∧ isNum (Ieee.single.read b) = true := by
  rw [fin_num] at h
  unfold fop at h
  cases hb : floatBits op .f32 x y with
  | none => rw [hb] at h; exact absurd h (by decide +kernel)
  | some b => rw [hb] at h; exact ⟨b, rfl, h⟩
theorem inf_num (s : Bool) : isNum (Ieee.single.read (Ieee.single.write (.infinity s))) = false := by cases s <;> decide +kernel
theorem fin_read {c : Nat} : fin .f32 c = isNum (Ieee.single.read c) := fin_num .f32 c
theorem fin_sub {x y : Nat} (h : fin .f32 (fop .sub .f32 x y) = true) : fin .f32 x = true ∧ fin .f32 y = true := by
  obtain ⟨b, h1, h2⟩ := num_fop h
  rw [fin_read, fin_read]
  have h1 : (Ieee.single.sub x y) = some b := h1
  unfold Ieee.Format.sub at h1
  cases hx : Ieee.single.read x <;> cases hy : Ieee.single.read y <;> rw [hx, hy] at h1 <;> simp [Ieee.Datum.sum, Ieee.Datum.opposite] at h1
  case number.number => exact ⟨rfl, rfl⟩
  all_goals
    exfalso
    first
      | (obtain ⟨_, rfl⟩ := h1; rw [inf_num] at h2; cases h2)
      | (subst h1; rw [inf_num] at h2; cases h2)
      | (obtain ⟨d, ⟨_, rfl⟩, rfl⟩ := h1; rw [inf_num] at h2; cases h2)
theorem fin_add {x y : Nat} (h : fin .f32 (fop .add .f32 x y) = true) : fin .f32 x = true ∧ fin .f32 y = true := by
  obtain ⟨b, h1, h2⟩ := num_fop h
  rw [fin_read, fin_read]
  have h1 : (Ieee.single.add x y) = some b := h1
  unfold Ieee.Format.add at h1
  cases hx : Ieee.single.read x <;> cases hy : Ieee.single.read y <;> rw [hx, hy] at h1 <;> simp [Ieee.Datum.sum] at h1
  case number.number => exact ⟨rfl, rfl⟩
  all_goals
    exfalso
    first
      | (obtain ⟨_, rfl⟩ := h1; rw [inf_num] at h2; cases h2)
      | (subst h1; rw [inf_num] at h2; cases h2)
      | (obtain ⟨d, ⟨_, rfl⟩, rfl⟩ := h1; rw [inf_num] at h2; cases h2)
theorem fin_mul {x y : Nat} (h : fin .f32 (fop .mul .f32 x y) = true) : fin .f32 x = true ∧ fin .f32 y = true := by
  obtain ⟨b, h1, h2⟩ := num_fop h
  rw [fin_read, fin_read]
  have h1 : (Ieee.single.mul x y) = some b := h1
  unfold Ieee.Format.mul at h1
  cases hx : Ieee.single.read x <;> cases hy : Ieee.single.read y <;> rw [hx, hy] at h1 <;> simp [Ieee.Datum.product] at h1
  case number.number => exact ⟨rfl, rfl⟩
  all_goals
    exfalso
    first
      | (obtain ⟨_, rfl⟩ := h1; rw [inf_num] at h2; cases h2)
      | (subst h1; rw [inf_num] at h2; cases h2)
      | (obtain ⟨d, ⟨_, rfl⟩, rfl⟩ := h1; rw [inf_num] at h2; cases h2)
theorem fin_quo {x y : Nat} (h : fin .f32 (fop .quo .f32 x y) = true) : fin .f32 x = true := by
  obtain ⟨b, h1, h2⟩ := num_fop h
  rw [fin_read]
  have h1 : (Ieee.single.div x y) = some b := h1
  unfold Ieee.Format.div at h1
  cases hx : Ieee.single.read x <;> cases hy : Ieee.single.read y <;> rw [hx, hy] at h1 <;> simp [Ieee.Datum.quotient] at h1
  case number.number => rfl
  case number.infinity => rfl
  all_goals
    exfalso
    first
      | (obtain ⟨_, rfl⟩ := h1; rw [inf_num] at h2; cases h2)
      | (subst h1; rw [inf_num] at h2; cases h2)
      | (obtain ⟨d, ⟨_, rfl⟩, rfl⟩ := h1; rw [inf_num] at h2; cases h2)
/-! ### A tick -/
def inV (s : St) (p : Nat) (xs : List Nat) (l : Nat) (b : Bool) : Nat := if b then fop .quo .f32 (fop .mul .f32 (easeC s.k (cn .f32 (xs.getD 0 0))) (fop .sub .f32 (cn .f32 l) (warmC s.k (cn .f32 (xs.getD 0 0))))) (cn .f32 p) else cn .f32 0
def outV (s : St) (p : Nat) (xs : List Nat) (l : Nat) (b : Bool) : Nat := if b then fop .quo .f32 (fop .mul .f32 (easeC s.k (cn .f32 (xs.getD (xs.length - 1) 0))) (fop .sub .f32 (warmC s.k (cn .f32 (xs.getD (xs.length - 1) 0))) (cn .f32 l))) (cn .f32 p) else cn .f32 0
def flA (s : St) (p : Nat) (xs : List Nat) (l r : Nat) (b c : Bool) (i : Nat) : Nat := if i = 0 then inV s p xs l b else if i = xs.length then outV s p xs r c else flowB s p (cn .f32 (xs.getD (i - 1) 0)) (cn .f32 (xs.getD i 0))
def stbB (p : Nat) (xs : List Nat) (f : Nat → Nat) (t i : Nat) : Nat := fop .add .f32 (cn .f32 (xs.getD i 0)) (fop .quo .f32 (fop .mul .f32 (cn .f32 t) (fop .sub .f32 (f i) (f (i + 1)))) (cn .f32 p))
def stbL (p : Nat) (xs : List Nat) (f : Nat → Nat) (t k : Nat) : List Nat := (List.range k).map (stbB p xs f t)
theorem stbL_step (p : Nat) (xs : List Nat) (f : Nat → Nat) (t k : Nat) : stbL p xs f t (k + 1) = stbL p xs f t k ++ [stbB p xs f t k] := by unfold stbL; rw [List.range_succ, List.map_append]; rfl
theorem stbL_len (p : Nat) (xs : List Nat) (f : Nat → Nat) (t k : Nat) : (stbL p xs f t k).length = k := by simp [stbL]
theorem stbL_cn (p : Nat) (xs : List Nat) (f : Nat → Nat) (t k : Nat) : (stbL p xs f t k).map (cn .f32) = stbL p xs f t k := by
  unfold stbL
  rw [List.map_map]
  exact List.map_congr_left fun i _ => cn_fop _ _ _ _
def canB (s : St) (p : Nat) (xs : List Nat) (l r t : Nat) : Bool := barOk s p xs && (fin .f32 (mostV s p) && ((fin .f32 (cn .f32 l) && fin .f32 (cn .f32 r)) && (abv (cn .f32 t) && fle .f32 (cn .f32 t) (mostV s p))))
def stbX (s : St) (p : Nat) (xs : List Nat) (l r : Nat) (b c : Bool) (t : Nat) : List Nat := stbL p xs (flA s p xs l r b c) t xs.length
def stbOk (s : St) (p : Nat) (xs : List Nat) (l r : Nat) (b c : Bool) (t : Nat) : Bool := canB s p xs l r t && barOk s p (stbX s p xs l r b c t)
/-- Where a bar a tick later is valid, what flows is finite. -/
theorem stb_flows {s : St} {p : Nat} {xs : List Nat} {l r : Nat} {b c : Bool} {t : Nat} (h : stbOk s p xs l r b c t = true) : flowsOk s p xs = true := by
  unfold stbOk canB at h
  simp only [Bool.and_eq_true] at h
  obtain ⟨⟨h0, _⟩, h1⟩ := h
  unfold flowsOk
  rw [h0, Bool.true_and, Bool.not_eq_true', List.any_eq_false]
  intro x hx
  unfold flowsL at hx
  obtain ⟨j, hj, rfl⟩ := List.mem_map.1 hx
  rw [List.mem_range] at hj
  have h2 : ((stbX s p xs l r b c t).any fun x => badC s.k (cn .f32 x)) = false := by
    unfold barOk at h1
    simp only [Bool.and_eq_true] at h1
    simpa using h1.2.2.2.2
  rw [List.any_eq_false] at h2
  have h3 := h2 (stbB p xs (flA s p xs l r b c) t (j + 1)) (List.mem_map.2 ⟨j + 1, List.mem_range.2 (by omega), rfl⟩)
  have h4 : fin .f32 (stbB p xs (flA s p xs l r b c) t (j + 1)) = true := by
    cases hf : fin .f32 (stbB p xs (flA s p xs l r b c) t (j + 1)) with
    | true => rfl
    | false =>
      exfalso
      apply h3
      unfold badC
      rw [show cn .f32 (stbB p xs (flA s p xs l r b c) t (j + 1)) = stbB p xs (flA s p xs l r b c) t (j + 1) from cn_fop _ _ _ _, hf]
      rfl
  have h5 := (fin_sub (fin_mul (fin_quo (fin_add h4).2)).2).1
  unfold flA at h5
  rw [if_neg (by omega), if_neg (by omega), Nat.add_sub_cancel] at h5
  rw [h5]
  simp
theorem flows_at {s : St} {p : Nat} {xs : List Nat} {l r : Nat} {b c : Bool} {ys : List Nat} (h : ys.map (cn .f32) = [inV s p xs l b] ++ flowsL s p xs (xs.length - 1) ++ [outV s p xs r c]) (hn : 1 ≤ xs.length) {i : Nat} (hi : i ≤ xs.length) : cn .f32 (ys.getD i 0) = flA s p xs l r b c i := by
  have hfl : (flowsL s p xs (xs.length - 1)).length = xs.length - 1 := by simp [flowsL]
  have hl : ys.length = xs.length + 1 := by have := congrArg List.length h; simp [hfl] at this; omega
  have e : cn .f32 (ys.getD i 0) = (ys.map (cn .f32)).getD i 0 := by
    rw [List.getD_eq_getElem?_getD, List.getD_eq_getElem?_getD, List.getElem?_map, List.getElem?_eq_getElem (by omega)]; rfl
  rw [e, h]
  unfold flA
  by_cases h0 : i = 0
  · subst h0; simp
  · rw [if_neg h0]
    by_cases h1 : i = xs.length
    · rw [if_pos h1, List.getD_eq_getElem?_getD, List.getElem?_append_right (by simp [hfl]; omega)]
      have : i - ([inV s p xs l b] ++ flowsL s p xs (xs.length - 1)).length = 0 := by simp [hfl]; omega
      rw [this]; rfl
    · rw [if_neg h1, List.getD_eq_getElem?_getD, List.getElem?_append_left (by simp [hfl]; omega), List.getElem?_append_right (by simp; omega)]
      unfold flowsL
      rw [List.getElem?_map, List.getElem?_range (by simp; omega)]
      simp only [Option.map_some, Option.getD_some, List.length_singleton]
      rw [show i - 1 + 1 = i by omega]
set_option maxHeartbeats 2000000 in
theorem mayStep_any (s : St) (p : Nat) (v : Value) (xs : List Nat) (l r t : Nat) (w : World) (hs : FS w v xs) : Calls Try.prog 91 #[.agg #[.float .f32 s.a, .float .f32 s.b, .float .f32 s.c, .float .f32 s.d, .float .f32 s.p, .float .f32 s.l, .float .f32 p, v], .float .f32 l, .float .f32 r, .float .f32 t] w (BV w (.bool (canB s p xs l r t))) := by
  have HS := Lib.hid hs
  have HM := Lib.hid (fun w h => implMostTick_any s p v xs w h)
  obtain ⟨q, c, rfl, _⟩ := hs
  rcases h0 : gB (barOk s p xs) (mostV s p)
  · have HE : Hid (canB s p xs l r t = false) := by
      show _ = _
      unfold canB
      unfold gB at h0
      rw [← Bool.and_assoc, h0]
      rfl
    rw [h0] at HM
    clear h0
    go_enter Try.func91, Try.ntmps91
    go_wp2_with (first | (with_reducible refine at_list ?_; refine wpList_fop rfl rfl rfl rfl rfl ?_; intro r n hr0; have hr := hr0 _ _ (by first | with_reducible assumption | exact rfl) (by first | with_reducible assumption | exact rfl); clear hr0) | (with_reducible refine at_list ?_; refine wpList_neg rfl rfl rfl ?_; intro r hr0; have hr := hr0 _ (by first | with_reducible assumption | exact rfl); clear hr0) | (with_reducible refine at_list ?_; refine wpList_fop_g rfl rfl rfl rfl rfl ?_; intro r n hr0; have hr := hr0 _ _ (by first | with_reducible assumption | exact rfl) (by first | with_reducible assumption | exact rfl); clear hr0) | (with_reducible refine at_list ?_; refine wpList_wide_g rfl rfl Try.underlying22 Try.underlying40 rfl ?_; intro r n hr0; have hr := hr0 _ (by first | with_reducible assumption | exact rfl); clear hr0) | (with_reducible refine at_list ?_; refine wpList_wide rfl rfl rfl Try.underlying22 Try.underlying40 ?_; intro r n hr0; have hr := hr0 _ (by first | with_reducible assumption | exact rfl); clear hr0) | (go_at_call 23; refine ((HM.out _ (HS.out.later (by (repeat (first | (with_reducible exact Below.refl _ _) | (with_reducible assumption) | (with_reducible refine below_then ?_ (by assumption)) | (with_reducible refine Below.trans ?_ (by assumption)) | (with_reducible refine below_drewN ?_ _) | (with_reducible apply Below.drew) | (with_reducible refine below_alloc ?_ _) | refine Below.setCell ?_ (by first | (simp; done) | (simp; omega)) _))))) ).mono ?_; rintro e w' ⟨r, rfl, hr, hb⟩; obtain ⟨hT, hk⟩ := bv_next hb (by (repeat (with_reducible first | assumption | apply Trk.alloc | apply Trk.setCell | apply Trk.drewN | apply Trk.drew | exact Trk.nil _))); simp only [SameOn, World.size_alloc, World.size_setCell, World.size_drew, size_drewN', and_true] at hk; have hsz := Below.size hb; (try simp only [World.size_alloc, World.size_setCell, World.size_drew, size_drewN'] at hsz)) | (go_at_call 77; refine (areFinite_any _ _ _ (by assumption)).mono ?_; rintro e w' ⟨rfl, n, rfl⟩) | (go_at_call 64; refine (arePositive_any _ _ _ (by assumption)).mono ?_; rintro e w' ⟨rfl, n, rfl⟩))
    all_goals
      go_ret
      exact ⟨by rw [HE.out]; rfl, by (repeat (first | (with_reducible exact Below.refl _ _) | (with_reducible assumption) | (with_reducible refine below_then ?_ (by assumption)) | (with_reducible refine Below.trans ?_ (by assumption)) | (with_reducible refine below_drewN ?_ _) | (with_reducible apply Below.drew) | (with_reducible refine below_alloc ?_ _) | refine Below.setCell ?_ (by first | (simp; done) | (simp; omega)) _))⟩
  have hpre : barOk s p xs = true ∧ fin .f32 (mostV s p) = true := by unfold gB at h0; simpa using h0
  have hgf : gF (barOk s p xs) (mostV s p) = mostV s p := by unfold gF chk; rw [hpre.1, hpre.2]; rfl
  rw [h0, hgf] at HM
  have HE : Hid (canB s p xs l r t = ((fin .f32 (cn .f32 l) && fin .f32 (cn .f32 r)) && (abv (cn .f32 t) && fle .f32 (cn .f32 t) (mostV s p)))) := by show _ = _; unfold canB; rw [hpre.1, hpre.2]; rfl
  clear h0 hgf hpre
  rcases h1 : (fin .f32 (cn .f32 l) && fin .f32 (cn .f32 r))
  · have A2 := Lib.hid (fun v w hs => (h1 ▸ areFin2_any l r v w hs : Calls Try.prog 77 #[v] w (RB w _)))
    go_enter Try.func91, Try.ntmps91
    go_wp2_with (first | (with_reducible refine at_list ?_; refine wpList_fop rfl rfl rfl rfl rfl ?_; intro r n hr0; have hr := hr0 _ _ (by first | with_reducible assumption | exact rfl) (by first | with_reducible assumption | exact rfl); clear hr0) | (with_reducible refine at_list ?_; refine wpList_neg rfl rfl rfl ?_; intro r hr0; have hr := hr0 _ (by first | with_reducible assumption | exact rfl); clear hr0) | (with_reducible refine at_list ?_; refine wpList_fop_g rfl rfl rfl rfl rfl ?_; intro r n hr0; have hr := hr0 _ _ (by first | with_reducible assumption | exact rfl) (by first | with_reducible assumption | exact rfl); clear hr0) | (with_reducible refine at_list ?_; refine wpList_wide_g rfl rfl Try.underlying22 Try.underlying40 rfl ?_; intro r n hr0; have hr := hr0 _ (by first | with_reducible assumption | exact rfl); clear hr0) | (with_reducible refine at_list ?_; refine wpList_wide rfl rfl rfl Try.underlying22 Try.underlying40 ?_; intro r n hr0; have hr := hr0 _ (by first | with_reducible assumption | exact rfl); clear hr0) | (go_at_call 23; refine ((HM.out _ (HS.out.later (by (repeat (first | (with_reducible exact Below.refl _ _) | (with_reducible assumption) | (with_reducible refine below_then ?_ (by assumption)) | (with_reducible refine Below.trans ?_ (by assumption)) | (with_reducible refine below_drewN ?_ _) | (with_reducible apply Below.drew) | (with_reducible refine below_alloc ?_ _) | refine Below.setCell ?_ (by first | (simp; done) | (simp; omega)) _))))) ).mono ?_; rintro e w' ⟨r, rfl, hr, hb⟩; obtain ⟨hT, hk⟩ := bv_next hb (by (repeat (with_reducible first | assumption | apply Trk.alloc | apply Trk.setCell | apply Trk.drewN | apply Trk.drew | exact Trk.nil _))); simp only [SameOn, World.size_alloc, World.size_setCell, World.size_drew, size_drewN', and_true] at hk; have hsz := Below.size hb; (try simp only [World.size_alloc, World.size_setCell, World.size_drew, size_drewN'] at hsz)) | (go_at_call 77; refine ((A2.out _ _ (FS2 (by go_simp <;> exact rfl) (by go_simp <;> exact rfl))) ).mono ?_; rintro e w' ⟨rfl, n, rfl⟩) | (go_at_call 64; refine (arePositive_any _ _ _ (by assumption)).mono ?_; rintro e w' ⟨rfl, n, rfl⟩))
    all_goals
      go_ret
      exact ⟨by rw [HE.out, h1]; rfl, by (repeat (first | (with_reducible exact Below.refl _ _) | (with_reducible assumption) | (with_reducible refine below_then ?_ (by assumption)) | (with_reducible refine Below.trans ?_ (by assumption)) | (with_reducible refine below_drewN ?_ _) | (with_reducible apply Below.drew) | (with_reducible refine below_alloc ?_ _) | refine Below.setCell ?_ (by first | (simp; done) | (simp; omega)) _))⟩
  have A2 := Lib.hid (fun v w hs => (h1 ▸ areFin2_any l r v w hs : Calls Try.prog 77 #[v] w (RB w _)))
  rcases h2 : abv (cn .f32 t)
  · go_enter Try.func91, Try.ntmps91
    go_wp2_with (first | (with_reducible refine at_list ?_; refine wpList_fop rfl rfl rfl rfl rfl ?_; intro r n hr0; have hr := hr0 _ _ (by first | with_reducible assumption | exact rfl) (by first | with_reducible assumption | exact rfl); clear hr0) | (with_reducible refine at_list ?_; refine wpList_neg rfl rfl rfl ?_; intro r hr0; have hr := hr0 _ (by first | with_reducible assumption | exact rfl); clear hr0) | (with_reducible refine at_list ?_; refine wpList_fop_g rfl rfl rfl rfl rfl ?_; intro r n hr0; have hr := hr0 _ _ (by first | with_reducible assumption | exact rfl) (by first | with_reducible assumption | exact rfl); clear hr0) | (with_reducible refine at_list ?_; refine wpList_wide_g rfl rfl Try.underlying22 Try.underlying40 rfl ?_; intro r n hr0; have hr := hr0 _ (by first | with_reducible assumption | exact rfl); clear hr0) | (with_reducible refine at_list ?_; refine wpList_wide rfl rfl rfl Try.underlying22 Try.underlying40 ?_; intro r n hr0; have hr := hr0 _ (by first | with_reducible assumption | exact rfl); clear hr0) | (go_at_call 23; refine ((HM.out _ (HS.out.later (by (repeat (first | (with_reducible exact Below.refl _ _) | (with_reducible assumption) | (with_reducible refine below_then ?_ (by assumption)) | (with_reducible refine Below.trans ?_ (by assumption)) | (with_reducible refine below_drewN ?_ _) | (with_reducible apply Below.drew) | (with_reducible refine below_alloc ?_ _) | refine Below.setCell ?_ (by first | (simp; done) | (simp; omega)) _))))) ).mono ?_; rintro e w' ⟨r, rfl, hr, hb⟩; obtain ⟨hT, hk⟩ := bv_next hb (by (repeat (with_reducible first | assumption | apply Trk.alloc | apply Trk.setCell | apply Trk.drewN | apply Trk.drew | exact Trk.nil _))); simp only [SameOn, World.size_alloc, World.size_setCell, World.size_drew, size_drewN', and_true] at hk; have hsz := Below.size hb; (try simp only [World.size_alloc, World.size_setCell, World.size_drew, size_drewN'] at hsz)) | (go_at_call 77; refine ((A2.out _ _ (FS2 (by go_simp <;> exact rfl) (by go_simp <;> exact rfl))) ).mono ?_; rintro e w' ⟨rfl, n, rfl⟩) | (go_at_call 64; refine ((arePos1_any _ _ _ (FS1 (by go_simp <;> exact rfl))) ).mono ?_; rintro e w' ⟨rfl, n, rfl⟩))
    all_goals
      go_ret
      exact ⟨by rw [HE.out, h1, h2]; rfl, by (repeat (first | (with_reducible exact Below.refl _ _) | (with_reducible assumption) | (with_reducible refine below_then ?_ (by assumption)) | (with_reducible refine Below.trans ?_ (by assumption)) | (with_reducible refine below_drewN ?_ _) | (with_reducible apply Below.drew) | (with_reducible refine below_alloc ?_ _) | refine Below.setCell ?_ (by first | (simp; done) | (simp; omega)) _))⟩
  · go_enter Try.func91, Try.ntmps91
    go_wp2_with (first | (with_reducible refine at_list ?_; refine wpList_fop rfl rfl rfl rfl rfl ?_; intro r n hr0; have hr := hr0 _ _ (by first | with_reducible assumption | exact rfl) (by first | with_reducible assumption | exact rfl); clear hr0) | (with_reducible refine at_list ?_; refine wpList_neg rfl rfl rfl ?_; intro r hr0; have hr := hr0 _ (by first | with_reducible assumption | exact rfl); clear hr0) | (with_reducible refine at_list ?_; refine wpList_fop_g rfl rfl rfl rfl rfl ?_; intro r n hr0; have hr := hr0 _ _ (by first | with_reducible assumption | exact rfl) (by first | with_reducible assumption | exact rfl); clear hr0) | (with_reducible refine at_list ?_; refine wpList_wide_g rfl rfl Try.underlying22 Try.underlying40 rfl ?_; intro r n hr0; have hr := hr0 _ (by first | with_reducible assumption | exact rfl); clear hr0) | (with_reducible refine at_list ?_; refine wpList_wide rfl rfl rfl Try.underlying22 Try.underlying40 ?_; intro r n hr0; have hr := hr0 _ (by first | with_reducible assumption | exact rfl); clear hr0) | (go_at_call 23; refine ((HM.out _ (HS.out.later (by (repeat (first | (with_reducible exact Below.refl _ _) | (with_reducible assumption) | (with_reducible refine below_then ?_ (by assumption)) | (with_reducible refine Below.trans ?_ (by assumption)) | (with_reducible refine below_drewN ?_ _) | (with_reducible apply Below.drew) | (with_reducible refine below_alloc ?_ _) | refine Below.setCell ?_ (by first | (simp; done) | (simp; omega)) _))))) ).mono ?_; rintro e w' ⟨r, rfl, hr, hb⟩; obtain ⟨hT, hk⟩ := bv_next hb (by (repeat (with_reducible first | assumption | apply Trk.alloc | apply Trk.setCell | apply Trk.drewN | apply Trk.drew | exact Trk.nil _))); simp only [SameOn, World.size_alloc, World.size_setCell, World.size_drew, size_drewN', and_true] at hk; have hsz := Below.size hb; (try simp only [World.size_alloc, World.size_setCell, World.size_drew, size_drewN'] at hsz)) | (go_at_call 77; refine ((A2.out _ _ (FS2 (by go_simp <;> exact rfl) (by go_simp <;> exact rfl))) ).mono ?_; rintro e w' ⟨rfl, n, rfl⟩) | (go_at_call 64; refine ((arePos1_any _ _ _ (FS1 (by go_simp <;> exact rfl))) ).mono ?_; rintro e w' ⟨rfl, n, rfl⟩))
    all_goals
      go_ret
      exact ⟨by rw [HE.out, h1, h2]; simp [*], by (repeat (first | (with_reducible exact Below.refl _ _) | (with_reducible assumption) | (with_reducible refine below_then ?_ (by assumption)) | (with_reducible refine Below.trans ?_ (by assumption)) | (with_reducible refine below_drewN ?_ _) | (with_reducible apply Below.drew) | (with_reducible refine below_alloc ?_ _) | refine Below.setCell ?_ (by first | (simp; done) | (simp; omega)) _))⟩
end Go.Proofs.Ytjeeflldbhajiaa

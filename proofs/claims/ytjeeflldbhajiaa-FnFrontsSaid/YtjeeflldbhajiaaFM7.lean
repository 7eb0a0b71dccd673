/-
  A bar a tick later: what is told of it, and the program's way. No condition but what each contract says.
  A run of a bar as a plain function: tick by tick, with what is molten. No condition but what each law says.
  Drawn bars that are shut: a tick, and ticks one after another: heat is kept, nearly, and bars stay valid. No condition but what each law says; nothing of the program is named here.
  Drawn bars that are shut, on: runs; bars stay valid; how much is molten; the heat in a bar. No condition but what each law says; nothing of the program is named here.
  Drawn stuffs, on: how warm a heat makes them, and back. No condition but what each law says.
  Drawn stuffs, on: what the law on stuffs asks of heats, warmths and parts. No condition but what each law says.
  Drawn stuffs, on: the heat that a warmth and a part come to; how easily heat flows. No condition but what each law says.
  Drawn stuffs, in 64 bits: gaps, the lesser and the greater; all that the law on stuffs asks. No condition but what each law says.
  Drawn bars, on: gaps in 64 bits; which ticks are allowed; runs go through; even bars stay as they are. No condition but what each law says; nothing of the program is named here.
  Drawn bars, on: even bars: their heat, their warmth; nothing flows in them. No condition but what each law says; nothing of the program is named here.
  Rounding keeps order: no number of the format is nearer than the rounded one. No condition but what each law says; nothing of the program is named here.
  Drawn bars: all that the law on bars asks, on words. No condition but what each law says; nothing of the program is named here.
  Fronts: bounds that close in; hotter sides, farther fronts. No condition but what each law says; nothing of the program is named here.
  Fronts of sides two and three degrees above the point, for all drawn stuffs, worked out. No condition; nothing of the program is named here.
  The square root of a 32-bit number, drawn in 64 bits: it has a nearest 32-bit number. No condition but what each law says.
  How great a square root is. No condition but what each law says; nothing of the program is named here.
  Square roots in single precision (the program's and the reference's). No condition but what each contract says.
  The error function, the exponential function, how fast a front goes (the program's and the reference's). No condition but what each contract says.
  The exponential function in 64 bits and how fast a front goes (the program's and the reference's). No condition but what each contract says.
  How fast a front goes: the law. True for every input. No condition.
-/
import Derived.Test.YtjeeflldbhajiaaFM6
import Derived.Test.YtjeeflldbhajiaaFM5
import Derived.Test.YtjeeflldbhajiaaFM4
import Derived.Test.YtjeeflldbhajiaaFM3
import Derived.Test.YtjeeflldbhajiaaFM2
import Derived.Laws.Externs
set_option linter.unusedSimpArgs false
set_option linter.unusedVariables false
set_option linter.unusedSectionVars false
namespace Go.Proofs.Ytjeeflldbhajiaa
open Go Go.RowKit
open Go.ChangeShapes Go.WideShapes Go.ChangeAt Go.RowKit Go.Joins
/-! ### What is finite was made of what is finite -/
theorem num_fop {op : BinOp} {x y : Nat} (h : fin .f32 (fop op .f32 x y) = true) : ∃ b, floatBits op .f32 x y = some b ∧ isNum (Ieee.single.read b) = true := by
  rw [fin_num] at h
  unfold fop at h
  cases hb : floatBits op .f32 x y with
  | none => rw [hb] at h; exact absurd h (by decide +kernel)
  | some b => rw [hb] at h; exact ⟨b, rfl, h⟩
theorem inf_num (s : Bool) : isNum (Ieee.single.read (Ieee.single.write (.infinity s))) = false := by cases s <;> decide +kernel
theorem fin_read {c : Nat} : fin .f32 c = isNum (Ieee.single.read c) := fin_num .f32 c
theorem fin_sub {x y : Nat} (h : fin .f32 (fop .sub .f32 x y) = true) : fin .f32 x = true ∧ fin .f32 y = true := by
  obtain ⟨b, h1, h2⟩ := num_fop h
  rw [fin_read, fin_read]
  have h1 : (Ieee.single.sub x y) = some b := h1
  unfold Ieee.Format.sub at h1
  cases hx : Ieee.single.read x <;> cases hy : Ieee.single.read y <;> rw [hx, hy] at h1 <;> simp [Ieee.Datum.sum, Ieee.Datum.opposite] at h1
  case number.number => exact ⟨rfl, rfl⟩
  all_goals
    exfalso
    first
      | (obtain ⟨_, rfl⟩ := h1; rw [inf_num] at h2; cases h2)
      | (subst h1; rw [inf_num] at h2; cases h2)
      | (obtain ⟨d, ⟨_, rfl⟩, rfl⟩ := h1; rw [inf_num] at h2; cases h2)
theorem fin_add {x y : Nat} (h : fin .f32 (fop .add .f32 x y) = true) : fin .f32 x = true ∧ fin .f32 y = true := by
  obtain ⟨b, h1, h2⟩ := num_fop h
  rw [fin_read, fin_read]
  have h1 : (Ieee.single.add x y) = some b := h1
  unfold Ieee.Format.add at h1
  cases hx : Ieee.single.read x <;> cases hy : Ieee.single.read y <;> rw [hx, hy] at h1 <;> simp [Ieee.Datum.sum] at h1
  case number.number => exact ⟨rfl, rfl⟩
  all_goals
    exfalso
    first
      | (obtain ⟨_, rfl⟩ := h1; rw [inf_num] at h2; cases h2)
      | (subst h1; rw [inf_num] at h2; cases h2)
      | (obtain ⟨d, ⟨_, rfl⟩, rfl⟩ := h1; rw [inf_num] at h2; cases h2)
theorem fin_mul {x y : Nat} (h : fin .f32 (fop .mul .f32 x y) = true) : fin .f32 x = true ∧ fin .f32 y = true := by
  obtain ⟨b, h1, h2⟩ := num_fop h
  rw [fin_read, fin_read]
  have h1 : (Ieee.single.mul x y) = some b := h1
  unfold Ieee.Format.mul at h1
  cases hx : Ieee.single.read x <;> cases hy : Ieee.single.read y <;> rw [hx, hy] at h1 <;> simp [Ieee.Datum.product] at h1
  case number.number => exact ⟨rfl, rfl⟩
  all_goals
    exfalso
    first
      | (obtain ⟨_, rfl⟩ := h1; rw [inf_num] at h2; cases h2)
      | (subst h1; rw [inf_num] at h2; cases h2)
      | (obtain ⟨d, ⟨_, rfl⟩, rfl⟩ := h1; rw [inf_num] at h2; cases h2)
theorem fin_quo {x y : Nat} (h : fin .f32 (fop .quo .f32 x y) = true) : fin .f32 x = true := by
  obtain ⟨b, h1, h2⟩ := num_fop h
  rw [fin_read]
  have h1 : (Ieee.single.div x y) = some b := h1
  unfold Ieee.Format.div at h1
  cases hx : Ieee.single.read x <;> cases hy : Ieee.single.read y <;> rw [hx, hy] at h1 <;> simp [Ieee.Datum.quotient] at h1
  case number.number => rfl
  case number.infinity => rfl
  all_goals
    exfalso
    first
      | (obtain ⟨_, rfl⟩ := h1; rw [inf_num] at h2; cases h2)
      | (subst h1; rw [inf_num] at h2; cases h2)
      | (obtain ⟨d, ⟨_, rfl⟩, rfl⟩ := h1; rw [inf_num] at h2; cases h2)
/-! ### A tick -/
def inV (s : St) (p : Nat) (xs : List Nat) (l : Nat) (b : Bool) : Nat := if b then fop .quo .f32 (fop .mul .f32 (easeC s.k (cn .f32 (xs.getD 0 0))) (fop .sub .f32 (cn .f32 l) (warmC s.k (cn .f32 (xs.getD 0 0))))) (cn .f32 p) else cn .f32 0
def outV (s : St) (p : Nat) (xs : List Nat) (l : Nat) (b : Bool) : Nat := if b then fop .quo .f32 (fop .mul .f32 (easeC s.k (cn .f32 (xs.getD (xs.length - 1) 0))) (fop .sub .f32 (warmC s.k (cn .f32 (xs.getD (xs.length - 1) 0))) (cn .f32 l))) (cn .f32 p) else cn .f32 0
def flA (s : St) (p : Nat) (xs : List Nat) (l r : Nat) (b c : Bool) (i : Nat) : Nat := if i = 0 then inV s p xs l b else if i = xs.length then outV s p xs r c else flowB s p (cn .f32 (xs.getD (i - 1) 0)) (cn .f32 (xs.getD i 0))
def stbB (p : Nat) (xs : List Nat) (f : Nat → Nat) (t i : Nat) : Nat := fop .add .f32 (cn .f32 (xs.getD i 0)) (fop .quo .f32 (fop .mul .f32 (cn .f32 t) (fop .sub .f32 (f i) (f (i + 1)))) (cn .f32 p))
def stbL (p : Nat) (xs : List Nat) (f : Nat → Nat) (t k : Nat) : List Nat := (List.range k).map (stbB p xs f t)
theorem stbL_step (p : Nat) (xs : List Nat) (f : Nat → Nat) (t k : Nat) : stbL p xs f t (k + 1) = stbL p xs f t k ++ [stbB p xs f t k] := by unfold stbL; rw [List.range_succ, List.map_append]; rfl
theorem stbL_len (p : Nat) (xs : List Nat) (f : Nat → Nat) (t k : Nat) : (stbL p xs f t k).length = k := by simp [stbL]
theorem stbL_cn (p : Nat) (xs : List Nat) (f : Nat → Nat) (t k : Nat) : (stbL p xs f t k).map (cn .f32) = stbL p xs f t k := by
  unfold stbL
  rw [List.map_map]
  exact List.map_congr_left fun i _ => cn_fop _ _ _ _
def canB (s : St) (p : Nat) (xs : List Nat) (l r t : Nat) : Bool := barOk s p xs && (fin .f32 (mostV s p) && ((fin .f32 (cn .f32 l) && fin .f32 (cn .f32 r)) && (abv (cn .f32 t) && fle .f32 (cn .f32 t) (mostV s p))))
def stbX (s : St) (p : Nat) (xs : List Nat) (l r : Nat) (b c : Bool) (t : Nat) : List Nat := stbL p xs (flA s p xs l r b c) t xs.length
def stbOk (s : St) (p : Nat) (xs : List Nat) (l r : Nat) (b c : Bool) (t : Nat) : Bool := canB s p xs l r t && barOk s p (stbX s p xs l r b c t)
/-- Where a bar a tick later is valid, what flows is finite. -/
theorem stb_flows {s : St} {p : Nat} {xs : List Nat} {l r : Nat} {b c : Bool} {t : Nat} (h : stbOk s p xs l r b c t = true) : flowsOk s p xs = true := by
  unfold stbOk canB at h
  simp only [Bool.and_eq_true] at h
  obtain ⟨⟨h0, _⟩, h1⟩ := h
  unfold flowsOk
  rw [h0, Bool.true_and, Bool.not_eq_true', List.any_eq_false]
  intro x hx
  unfold flowsL at hx
  obtain ⟨j, hj, rfl⟩ := List.mem_map.1 hx
  rw [List.mem_range] at hj
  have h2 : ((stbX s p xs l r b c t).any fun x => badC s.k (cn .f32 x)) = false := by
    unfold barOk at h1
    simp only [Bool.and_eq_true] at h1
    simpa using h1.2.2.2.2
  rw [List.any_eq_false] at h2
  have h3 := h2 (stbB p xs (flA s p xs l r b c) t (j + 1)) (List.mem_map.2 ⟨j + 1, List.mem_range.2 (by omega), rfl⟩)
  have h4 : fin .f32 (stbB p xs (flA s p xs l r b c) t (j + 1)) = true := by
    cases hf : fin .f32 (stbB p xs (flA s p xs l r b c) t (j + 1)) with
    | true => rfl
    | false =>
      exfalso
      apply h3
      unfold badC
      rw [show cn .f32 (stbB p xs (flA s p xs l r b c) t (j + 1)) = stbB p xs (flA s p xs l r b c) t (j + 1) from cn_fop _ _ _ _, hf]
      rfl
  have h5 := (fin_sub (fin_mul (fin_quo (fin_add h4).2)).2).1
  unfold flA at h5
  rw [if_neg (by omega), if_neg (by omega), Nat.add_sub_cancel] at h5
  rw [h5]
  simp
theorem flows_at {s : St} {p : Nat} {xs : List Nat} {l r : Nat} {b c : Bool} {ys : List Nat} (h : ys.map (cn .f32) = [inV s p xs l b] ++ flowsL s p xs (xs.length - 1) ++ [outV s p xs r c]) (hn : 1 ≤ xs.length) {i : Nat} (hi : i ≤ xs.length) : cn .f32 (ys.getD i 0) = flA s p xs l r b c i := by
  have hfl : (flowsL s p xs (xs.length - 1)).length = xs.length - 1 := by simp [flowsL]
  have hl : ys.length = xs.length + 1 := by have := congrArg List.length h; simp [hfl] at this; omega
  have e : cn .f32 (ys.getD i 0) = (ys.map (cn .f32)).getD i 0 := by
    rw [List.getD_eq_getElem?_getD, List.getD_eq_getElem?_getD, List.getElem?_map, List.getElem?_eq_getElem (by omega)]; rfl
  rw [e, h]
  unfold flA
  by_cases h0 : i = 0
  · subst h0; simp
  · rw [if_neg h0]
    by_cases h1 : i = xs.length
    · rw [if_pos h1, List.getD_eq_getElem?_getD, List.getElem?_append_right (by simp [hfl]; omega)]
      have : i - ([inV s p xs l b] ++ flowsL s p xs (xs.length - 1)).length = 0 := by simp [hfl]; omega
      rw [this]; rfl
    · rw [if_neg h1, List.getD_eq_getElem?_getD, List.getElem?_append_left (by simp [hfl]; omega), List.getElem?_append_right (by simp; omega)]
      unfold flowsL
      rw [List.getElem?_map, List.getElem?_range (by simp; omega)]
      simp only [Option.map_some, Option.getD_some, List.length_singleton]
      rw [show i - 1 + 1 = i by omega]
set_option maxHeartbeats 2000000 in
theorem mayStep_any (s : St) (p : Nat) (v : Value) (xs : List Nat) (l r t : Nat) (w : World) (hs : FS w v xs) : Calls Try.prog 91 #[.agg #[.float .f32 s.a, .float .f32 s.b, .float .f32 s.c, .float .f32 s.d, .float .f32 s.p, .float .f32 s.l, .float .f32 p, v], .float .f32 l, .float .f32 r, .float .f32 t] w (BV w (.bool (canB s p xs l r t))) := by
  have HS := Lib.hid hs
  have HM := Lib.hid (fun w h => implMostTick_any s p v xs w h)
  obtain ⟨q, c, rfl, _⟩ := hs
  rcases h0 : gB (barOk s p xs) (mostV s p)
  · have HE : Hid (canB s p xs l r t = false) := by
      show _ = _
      unfold canB
      unfold gB at h0
      rw [← Bool.and_assoc, h0]
      rfl
    rw [h0] at HM
    clear h0
    go_enter Try.func91, Try.ntmps91
    go_wp2_with (first | (with_reducible refine at_list ?_; refine wpList_fop rfl rfl rfl rfl rfl ?_; intro r n hr0; have hr := hr0 _ _ (by first | with_reducible assumption | exact rfl) (by first | with_reducible assumption | exact rfl); clear hr0) | (with_reducible refine at_list ?_; refine wpList_neg rfl rfl rfl ?_; intro r hr0; have hr := hr0 _ (by first | with_reducible assumption | exact rfl); clear hr0) | (with_reducible refine at_list ?_; refine wpList_fop_g rfl rfl rfl rfl rfl ?_; intro r n hr0; have hr := hr0 _ _ (by first | with_reducible assumption | exact rfl) (by first | with_reducible assumption | exact rfl); clear hr0) | (with_reducible refine at_list ?_; refine wpList_wide_g rfl rfl Try.underlying22 Try.underlying40 rfl ?_; intro r n hr0; have hr := hr0 _ (by first | with_reducible assumption | exact rfl); clear hr0) | (with_reducible refine at_list ?_; refine wpList_wide rfl rfl rfl Try.underlying22 Try.underlying40 ?_; intro r n hr0; have hr := hr0 _ (by first | with_reducible assumption | exact rfl); clear hr0) | (go_at_call 23; refine ((HM.out _ (HS.out.later (by (repeat (first | (with_reducible exact Below.refl _ _) | (with_reducible assumption) | (with_reducible refine below_then ?_ (by assumption)) | (with_reducible refine Below.trans ?_ (by assumption)) | (with_reducible refine below_drewN ?_ _) | (with_reducible apply Below.drew) | (with_reducible refine below_alloc ?_ _) | refine Below.setCell ?_ (by first | (simp; done) | (simp; omega)) _))))) ).mono ?_; rintro e w' ⟨r, rfl, hr, hb⟩; obtain ⟨hT, hk⟩ := bv_next hb (by (repeat (with_reducible first | assumption | apply Trk.alloc | apply Trk.setCell | apply Trk.drewN | apply Trk.drew | exact Trk.nil _))); simp only [SameOn, World.size_alloc, World.size_setCell, World.size_drew, size_drewN', and_true] at hk; have hsz := Below.size hb; (try simp only [World.size_alloc, World.size_setCell, World.size_drew, size_drewN'] at hsz)) | (go_at_call 77; refine (areFinite_any _ _ _ (by assumption)).mono ?_; rintro e w' ⟨rfl, n, rfl⟩) | (go_at_call 64; refine (arePositive_any _ _ _ (by assumption)).mono ?_; rintro e w' ⟨rfl, n, rfl⟩))
    all_goals
      go_ret
      exact ⟨by rw [HE.out]; rfl, by (repeat (first | (with_reducible exact Below.refl _ _) | (with_reducible assumption) | (with_reducible refine below_then ?_ (by assumption)) | (with_reducible refine Below.trans ?_ (by assumption)) | (with_reducible refine below_drewN ?_ _) | (with_reducible apply Below.drew) | (with_reducible refine below_alloc ?_ _) | refine Below.setCell ?_ (by first | (simp; done) | (simp; omega)) _))⟩
  have hpre : barOk s p xs = true ∧ fin .f32 (mostV s p) = true := by unfold gB at h0; simpa using h0
  have hgf : gF (barOk s p xs) (mostV s p) = mostV s p := by unfold gF chk; rw [hpre.1, hpre.2]; rfl
  rw [h0, hgf] at HM
  have HE : Hid (canB s p xs l r t = ((fin .f32 (cn .f32 l) && fin .f32 (cn .f32 r)) && (abv (cn .f32 t) && fle .f32 (cn .f32 t) (mostV s p)))) := by show _ = _; unfold canB; rw [hpre.1, hpre.2]; rfl
  clear h0 hgf hpre
  rcases h1 : (fin .f32 (cn .f32 l) && fin .f32 (cn .f32 r))
  · have A2 := Lib.hid (fun v w hs => (h1 ▸ areFin2_any l r v w hs : Calls Try.prog 77 #[v] w (RB w _)))
    go_enter Try.func91, Try.ntmps91
    go_wp2_with (first | (with_reducible refine at_list ?_; refine wpList_fop rfl rfl rfl rfl rfl ?_; intro r n hr0; have hr := hr0 _ _ (by first | with_reducible assumption | exact rfl) (by first | with_reducible assumption | exact rfl); clear hr0) | (with_reducible refine at_list ?_; refine wpList_neg rfl rfl rfl ?_; intro r hr0; have hr := hr0 _ (by first | with_reducible assumption | exact rfl); clear hr0) | (with_reducible refine at_list ?_; refine wpList_fop_g rfl rfl rfl rfl rfl ?_; intro r n hr0; have hr := hr0 _ _ (by first | with_reducible assumption | exact rfl) (by first | with_reducible assumption | exact rfl); clear hr0) | (with_reducible refine at_list ?_; refine wpList_wide_g rfl rfl Try.underlying22 Try.underlying40 rfl ?_; intro r n hr0; have hr := hr0 _ (by first | with_reducible assumption | exact rfl); clear hr0) | (with_reducible refine at_list ?_; refine wpList_wide rfl rfl rfl Try.underlying22 Try.underlying40 ?_; intro r n hr0; have hr := hr0 _ (by first | with_reducible assumption | exact rfl); clear hr0) | (go_at_call 23; refine ((HM.out _ (HS.out.later (by (repeat (first | (with_reducible exact Below.refl _ _) | (with_reducible assumption) | (with_reducible refine below_then ?_ (by assumption)) | (with_reducible refine Below.trans ?_ (by assumption)) | (with_reducible refine below_drewN ?_ _) | (with_reducible apply Below.drew) | (with_reducible refine below_alloc ?_ _) | refine Below.setCell ?_ (by first | (simp; done) | (simp; omega)) _))))) ).mono ?_; rintro e w' ⟨r, rfl, hr, hb⟩; obtain ⟨hT, hk⟩ := bv_next hb (by (repeat (with_reducible first | assumption | apply Trk.alloc | apply Trk.setCell | apply Trk.drewN | apply Trk.drew | exact Trk.nil _))); simp only [SameOn, World.size_alloc, World.size_setCell, World.size_drew, size_drewN', and_true] at hk; have hsz := Below.size hb; (try simp only [World.size_alloc, World.size_setCell, World.size_drew, size_drewN'] at hsz)) | (go_at_call 77; refine ((A2.out _ _ (FS2 (by go_simp <;> exact rfl) (by go_simp <;> exact rfl))) ).mono ?_; rintro e w' ⟨rfl, n, rfl⟩) | (go_at_call 64; refine (arePositive_any _ _ _ (by assumption)).mono ?_; rintro e w' ⟨rfl, n, rfl⟩))
    all_goals
      go_ret
      exact ⟨by rw [HE.out, h1]; rfl, by (repeat (first | (with_reducible exact Below.refl _ _) | (with_reducible assumption) | (with_reducible refine below_then ?_ (by assumption)) | (with_reducible refine Below.trans ?_ (by assumption)) | (with_reducible refine below_drewN ?_ _) | (with_reducible apply Below.drew) | (with_reducible refine below_alloc ?_ _) | refine Below.setCell ?_ (by first | (simp; done) | (simp; omega)) _))⟩
  have A2 := Lib.hid (fun v w hs => (h1 ▸ areFin2_any l r v w hs : Calls Try.prog 77 #[v] w (RB w _)))
  rcases h2 : abv (cn .f32 t)
  · go_enter Try.func91, Try.ntmps91
    go_wp2_with (first | (with_reducible refine at_list ?_; refine wpList_fop rfl rfl rfl rfl rfl ?_; intro r n hr0; have hr := hr0 _ _ (by first | with_reducible assumption | exact rfl) (by first | with_reducible assumption | exact rfl); clear hr0) | (with_reducible refine at_list ?_; refine wpList_neg rfl rfl rfl ?_; intro r hr0; have hr := hr0 _ (by first | with_reducible assumption | exact rfl); clear hr0) | (with_reducible refine at_list ?_; refine wpList_fop_g rfl rfl rfl rfl rfl ?_; intro r n hr0; have hr := hr0 _ _ (by first | with_reducible assumption | exact rfl) (by first | with_reducible assumption | exact rfl); clear hr0) | (with_reducible refine at_list ?_; refine wpList_wide_g rfl rfl Try.underlying22 Try.underlying40 rfl ?_; intro r n hr0; have hr := hr0 _ (by first | with_reducible assumption | exact rfl); clear hr0) | (with_reducible refine at_list ?_; refine wpList_wide rfl rfl rfl Try.underlying22 Try.underlying40 ?_; intro r n hr0; have hr := hr0 _ (by first | with_reducible assumption | exact rfl); clear hr0) | (go_at_call 23; refine ((HM.out _ (HS.out.later (by (repeat (first | (with_reducible exact Below.refl _ _) | (with_reducible assumption) | (with_reducible refine below_then ?_ (by assumption)) | (with_reducible refine Below.trans ?_ (by assumption)) | (with_reducible refine below_drewN ?_ _) | (with_reducible apply Below.drew) | (with_reducible refine below_alloc ?_ _) | refine Below.setCell ?_ (by first | (simp; done) | (simp; omega)) _))))) ).mono ?_; rintro e w' ⟨r, rfl, hr, hb⟩; obtain ⟨hT, hk⟩ := bv_next hb (by (repeat (with_reducible first | assumption | apply Trk.alloc | apply Trk.setCell | apply Trk.drewN | apply Trk.drew | exact Trk.nil _))); simp only [SameOn, World.size_alloc, World.size_setCell, World.size_drew, size_drewN', and_true] at hk; have hsz := Below.size hb; (try simp only [World.size_alloc, World.size_setCell, World.size_drew, size_drewN'] at hsz)) | (go_at_call 77; refine ((A2.out _ _ (FS2 (by go_simp <;> exact rfl) (by go_simp <;> exact rfl))) ).mono ?_; rintro e w' ⟨rfl, n, rfl⟩) | (go_at_call 64; refine ((arePos1_any _ _ _ (FS1 (by go_simp <;> exact rfl))) ).mono ?_; rintro e w' ⟨rfl, n, rfl⟩))
    all_goals
      go_ret
      exact ⟨by rw [HE.out, h1, h2]; rfl, by (repeat (first | (with_reducible exact Below.refl _ _) | (with_reducible assumption) | (with_reducible refine below_then ?_ (by assumption)) | (with_reducible refine Below.trans ?_ (by assumption)) | (with_reducible refine below_drewN ?_ _) | (with_reducible apply Below.drew) | (with_reducible refine below_alloc ?_ _) | refine Below.setCell ?_ (by first | (simp; done) | (simp; omega)) _))⟩
  · go_enter Try.func91, Try.ntmps91
    go_wp2_with (first | (with_reducible refine at_list ?_; refine wpList_fop rfl rfl rfl rfl rfl ?_; intro r n hr0; have hr := hr0 _ _ (by first | with_reducible assumption | exact rfl) (by first | with_reducible assumption | exact rfl); clear hr0) | (with_reducible refine at_list ?_; refine wpList_neg rfl rfl rfl ?_; intro r hr0; have hr := hr0 _ (by first | with_reducible assumption | exact rfl); clear hr0) | (with_reducible refine at_list ?_; refine wpList_fop_g rfl rfl rfl rfl rfl ?_; intro r n hr0; have hr := hr0 _ _ (by first | with_reducible assumption | exact rfl) (by first | with_reducible assumption | exact rfl); clear hr0) | (with_reducible refine at_list ?_; refine wpList_wide_g rfl rfl Try.underlying22 Try.underlying40 rfl ?_; intro r n hr0; have hr := hr0 _ (by first | with_reducible assumption | exact rfl); clear hr0) | (with_reducible refine at_list ?_; refine wpList_wide rfl rfl rfl Try.underlying22 Try.underlying40 ?_; intro r n hr0; have hr := hr0 _ (by first | with_reducible assumption | exact rfl); clear hr0) | (go_at_call 23; refine ((HM.out _ (HS.out.later (by (repeat (first | (with_reducible exact Below.refl _ _) | (with_reducible assumption) | (with_reducible refine below_then ?_ (by assumption)) | (with_reducible refine Below.trans ?_ (by assumption)) | (with_reducible refine below_drewN ?_ _) | (with_reducible apply Below.drew) | (with_reducible refine below_alloc ?_ _) | refine Below.setCell ?_ (by first | (simp; done) | (simp; omega)) _))))) ).mono ?_; rintro e w' ⟨r, rfl, hr, hb⟩; obtain ⟨hT, hk⟩ := bv_next hb (by (repeat (with_reducible first | assumption | apply Trk.alloc | apply Trk.setCell | apply Trk.drewN | apply Trk.drew | exact Trk.nil _))); simp only [SameOn, World.size_alloc, World.size_setCell, World.size_drew, size_drewN', and_true] at hk; have hsz := Below.size hb; (try simp only [World.size_alloc, World.size_setCell, World.size_drew, size_drewN'] at hsz)) | (go_at_call 77; refine ((A2.out _ _ (FS2 (by go_simp <;> exact rfl) (by go_simp <;> exact rfl))) ).mono ?_; rintro e w' ⟨rfl, n, rfl⟩) | (go_at_call 64; refine ((arePos1_any _ _ _ (FS1 (by go_simp <;> exact rfl))) ).mono ?_; rintro e w' ⟨rfl, n, rfl⟩))
    all_goals
      go_ret
      exact ⟨by rw [HE.out, h1, h2]; simp [*], by (repeat (first | (with_reducible exact Below.refl _ _) | (with_reducible assumption) | (with_reducible refine below_then ?_ (by assumption)) | (with_reducible refine Below.trans ?_ (by assumption)) | (with_reducible refine below_drewN ?_ _) | (with_reducible apply Below.drew) | (with_reducible refine below_alloc ?_ _) | refine Below.setCell ?_ (by first | (simp; done) | (simp; omega)) _))⟩
end Go.Proofs.Ytjeeflldbhajiaa
set_option linter.unusedSimpArgs false
set_option linter.unusedVariables false
set_option linter.unusedSectionVars false
namespace Go.Proofs.Ytjeeflldbhajiaa
open Go Go.RowKit
open Go.ChangeShapes Go.WideShapes Go.ChangeAt Go.RowKit Go.Joins
section
variable (s : St) (p l r : Nat) (b1 b2 : Bool) (t : Nat) (xs : List Nat)
def brX : Nat → List Nat
  | 0 => xs
  | k + 1 => stbX s p (brX k) l r b1 b2 t
def brM (k : Nat) : Bool := barOk s p (brX s p l r b1 b2 t xs (k + 1))
def brH (k : Nat) : Nat := meltB s p (brX s p l r b1 b2 t xs k)
def brO : Nat → Bool
  | 0 => true
  | k + 1 => brO k && brM s p l r b1 b2 t xs k
def brU : Nat → Bool
  | 0 => true
  | k + 1 => brU k && (brM s p l r b1 b2 t xs k && fin .f32 (brH s p l r b1 b2 t xs (k + 1)))
def brL (k : Nat) : List Nat := (List.range k).map fun j => brH s p l r b1 b2 t xs (j + 1)
def brPre (z : Int) : Bool := canB s p xs l r t && inB z 0 128
def brB (z : Int) : Bool := brPre s p l r t xs z && brU s p l r b1 b2 t xs z.toNat
end
def finC (L : List Nat) : Bool := !L.any fun x => !fin .f32 x
theorem finC_app (L : List Nat) (c : Nat) : finC (L ++ [c]) = (finC L && fin .f32 c) := by
  unfold finC
  rw [List.any_append]
  cases L.any fun x => !fin .f32 x <;> simp
section
variable {s : St} {p l r : Nat} {b1 b2 : Bool} {t : Nat} {xs : List Nat}
theorem brL_step (k : Nat) : brL s p l r b1 b2 t xs (k + 1) = brL s p l r b1 b2 t xs k ++ [brH s p l r b1 b2 t xs (k + 1)] := by unfold brL; rw [List.range_succ, List.map_append]; rfl
theorem brL_len (k : Nat) : (brL s p l r b1 b2 t xs k).length = k := by simp [brL]
theorem brU_eq (k : Nat) : brU s p l r b1 b2 t xs k = (brO s p l r b1 b2 t xs k && finC (brL s p l r b1 b2 t xs k)) := by
  induction k with
  | zero => rfl
  | succ k ih =>
    rw [brL_step, finC_app]
    show (brU s p l r b1 b2 t xs k && _) = (brO s p l r b1 b2 t xs k && brM s p l r b1 b2 t xs k && _)
    rw [ih]
    cases brO s p l r b1 b2 t xs k <;> cases finC (brL s p l r b1 b2 t xs k) <;> simp
theorem brU_stop {k n : Nat} (h : brU s p l r b1 b2 t xs k = false) (hkn : k ≤ n) : brU s p l r b1 b2 t xs n = false := by
  obtain ⟨d, rfl⟩ : ∃ d, n = k + d := ⟨n - k, by omega⟩
  induction d with
  | zero => exact h
  | succ d ih =>
    show (brU s p l r b1 b2 t xs (k + d) && _) = false
    rw [ih (by omega)]; rfl
theorem brO_stop {k n : Nat} (h : brO s p l r b1 b2 t xs k = false) (hkn : k ≤ n) : brU s p l r b1 b2 t xs n = false := brU_stop (by rw [brU_eq, h]; rfl) hkn
theorem brX_ok (hP : barOk s p xs = true) : ∀ k, brO s p l r b1 b2 t xs k = true → barOk s p (brX s p l r b1 b2 t xs k) = true
  | 0, _ => hP
  | k + 1, h => by
    have h1 : (brO s p l r b1 b2 t xs k && brM s p l r b1 b2 t xs k) = true := h
    rw [Bool.and_eq_true] at h1
    exact h1.2
theorem br_abs (hP : barOk s p xs = true) : ∃ (RK : Nat → List Nat) (MK UK OK : Nat → Bool) (HT : Nat → Nat) (LK : Nat → List Nat), (RK = brX s p l r b1 b2 t xs ∧ (∀ k, MK k = barOk s p (RK (k + 1))) ∧ (∀ k, RK (k + 1) = stbX s p (RK k) l r b1 b2 t) ∧ UK = brU s p l r b1 b2 t xs ∧ LK = brL s p l r b1 b2 t xs ∧ ∀ k, HT k = meltB s p (RK k)) ∧ (RK 0 = xs ∧ UK 0 = true ∧ OK 0 = true ∧ LK 0 = []) ∧ (∀ k, UK (k + 1) = (UK k && (MK k && fin .f32 (HT (k + 1))))) ∧ (∀ k, OK (k + 1) = (OK k && MK k)) ∧ (∀ k, UK k = (OK k && finC (LK k))) ∧ (∀ k, LK (k + 1) = LK k ++ [HT (k + 1)]) ∧ (∀ k, (LK k).length = k) ∧ (∀ k, OK k = true → barOk s p (RK k) = true) ∧ (∀ k m, UK k = false → k ≤ m → UK m = false) ∧ (∀ k m, OK k = false → k ≤ m → UK m = false) ∧ (∀ k, UK k = true → OK k = true) :=
  ⟨brX s p l r b1 b2 t xs, brM s p l r b1 b2 t xs, brU s p l r b1 b2 t xs, brO s p l r b1 b2 t xs, brH s p l r b1 b2 t xs, brL s p l r b1 b2 t xs, ⟨rfl, fun _ => rfl, fun _ => rfl, rfl, rfl, fun _ => rfl⟩, ⟨rfl, rfl, rfl, rfl⟩, fun _ => rfl, fun _ => rfl, brU_eq, brL_step, brL_len, brX_ok hP, fun _ _ => brU_stop, fun _ _ => brO_stop, fun k h => by rw [brU_eq, Bool.and_eq_true] at h; exact h.1⟩
theorem brB_no {z : Int} (h : brPre s p l r t xs z = false) : brB s p l r b1 b2 t xs z = false := by unfold brB; rw [h]; rfl
theorem brB_yes {z : Int} (h : brPre s p l r t xs z = true) : brB s p l r b1 b2 t xs z = brU s p l r b1 b2 t xs z.toNat := by unfold brB; rw [h]; rfl
/-- What may step at the beginning may step as long as the bar is valid. -/
theorem canB_next {ys : List Nat} (h : canB s p xs l r t = true) : canB s p ys l r t = barOk s p ys := by
  unfold canB at h ⊢
  rw [Bool.and_eq_true] at h
  rw [h.2, Bool.and_true]
end
/-- A bar's cells. -/
def barC (s : St) (p : Nat) (u : Value) : List Value := [.float .f32 s.a, .float .f32 s.b, .float .f32 s.c, .float .f32 s.d, .float .f32 s.p, .float .f32 s.l, .float .f32 p, u]
theorem barC_stored {w : World} {b : Nat} {s0 : St} {p0 : Nat} {u0 : Value} {s : St} {p : Nat} {u : Value} (h : owned w b (barC s0 p0 u0)) : owned (w.setCells b 0 (barC s p u)) b (barC s p u) := by
  have k0 := h 0 _ rfl
  have k1 := h 1 _ rfl
  have k2 := h 2 _ rfl
  have k3 := h 3 _ rfl
  have k4 := h 4 _ rfl
  have k5 := h 5 _ rfl
  have k6 := h 6 _ rfl
  have k7 := h 7 _ rfl
  intro k x hk
  unfold barC at hk ⊢
  simp only [World.setCells]
  match k, hk with
  | 0, hk => simp at hk; subst hk; exact ⟨by go_simp, by go_simp⟩
  | 1, hk => simp at hk; subst hk; exact ⟨by go_simp, by go_simp⟩
  | 2, hk => simp at hk; subst hk; exact ⟨by go_simp, by go_simp⟩
  | 3, hk => simp at hk; subst hk; exact ⟨by go_simp, by go_simp⟩
  | 4, hk => simp at hk; subst hk; exact ⟨by go_simp, by go_simp⟩
  | 5, hk => simp at hk; subst hk; exact ⟨by go_simp, by go_simp⟩
  | 6, hk => simp at hk; subst hk; exact ⟨by go_simp, by go_simp⟩
  | 7, hk => simp at hk; subst hk; exact ⟨by go_simp, by go_simp⟩
  | k + 8, hk => simp at hk
/-- Numbers beside a bar: own and apart, or none at all. -/
def HtAt (B : Nat) (wr : World) (b : Nat) (u : Value) (q : Option Addr) (c : Nat) (ys : List Nat) : Prop := (OF B wr (.slice q ys.length c) ys ∧ (∀ k, (Value.slice q ys.length c).ownBlock = some k → k ≠ b) ∧ ApV (.slice q ys.length c) u) ∨ (ys = [] ∧ c = 0)
theorem HtAt.later {B : Nat} {wr w' : World} {b : Nat} {u : Value} {q : Option Addr} {c : Nat} {ys : List Nat} (h : HtAt B wr b u q c ys) (hb : Below wr.heap.size wr w') : HtAt B w' b u q c ys := h.imp (fun h => ⟨h.1.later hb, h.2⟩) id
theorem HtAt.fs {B : Nat} {wr : World} {b : Nat} {u : Value} {q : Option Addr} {c : Nat} {ys : List Nat} (h : HtAt B wr b u q c ys) : FS wr (.slice q ys.length c) ys := by
  rcases h with h | ⟨rfl, rfl⟩
  · exact h.1.fs
  · exact ⟨q, 0, rfl, by simp, by simp, fun i hi => by simp at hi⟩
/-- Where numbers may turn. -/
theorem HtAt.row {B : Nat} {wr : World} {b : Nat} {u : Value} {q : Option Addr} {c : Nat} {ys : List Nat} (h : HtAt B wr b u q c ys) : ∃ g0 : Option Nat, (∀ k, g0 = some k → k ≠ b) ∧ (∀ k, g0 = some k → B ≤ k ∧ k < wr.heap.size) ∧ ((OF B wr (.slice q ys.length c) ys ∧ (Value.slice q ys.length c).ownBlock = g0) ∨ (ys = [] ∧ g0 = none ∧ ∃ p, (Value.slice q ys.length c) = .slice p 0 0)) := by
  rcases h with h | ⟨rfl, rfl⟩
  · exact ⟨_, h.2.1, fun k hk => h.1.block k hk, .inl ⟨h.1, rfl⟩⟩
  · exact ⟨none, fun k hk => (by cases hk), fun k hk => (by cases hk), .inr ⟨rfl, rfl, q, rfl⟩⟩
/-- A bar in a variable of the call's own, and own numbers. -/
def BrAt (B : Nat) (wr : World) (b : Nat) (s : St) (p : Nat) (X : List Nat) (q0 : Option Addr) (c0 : Nat) (q : Option Addr) (c : Nat) (ys : List Nat) : Prop := (owned wr b (barC s p (.slice q0 X.length c0)) ∧ B ≤ b) ∧ OF B wr (.slice q0 X.length c0) X ∧ HtAt B wr b (.slice q0 X.length c0) q c ys
/-- A bar, numbers and a bool: all own, all apart. -/
def BBL (w : World) (s : St) (p : Nat) (X L : List Nat) (b : Bool) (e : Ending) (w' : World) : Prop := ∃ q0 c0 q c ys, e = .returned (.tuple #[.agg #[.float .f32 s.a, .float .f32 s.b, .float .f32 s.c, .float .f32 s.d, .float .f32 s.p, .float .f32 s.l, .float .f32 p, .slice q0 X.length c0], .slice q ys.length c, .bool b]) ∧ Below w.heap.size w w' ∧ OF w.heap.size w' (.slice q0 X.length c0) X ∧ ((OF w.heap.size w' (.slice q ys.length c) ys ∧ ApV (.slice q ys.length c) (.slice q0 X.length c0)) ∨ (ys = [] ∧ c = 0)) ∧ ys.map (cn .f32) = L
theorem bbl_no {w w' : World} {e : Ending} (he : e = .returned (.tuple #[.agg #[.float .f32 0, .float .f32 0, .float .f32 0, .float .f32 0, .float .f32 0, .float .f32 0, .float .f32 0, .slice none 0 0], .slice none 0 0, .bool false])) (hb : Below w.heap.size w w') {s : St} {p : Nat} {X L : List Nat} {b : Bool} (h : b = false) : BBL w (bS b s) (bP b p) (bX b X) (bX b L) b e w' := by
  subst h
  exact ⟨none, 0, none, 0, [], he, hb, OF.nil0 _ _, .inr ⟨rfl, rfl⟩, rfl⟩
/-- The store of a tick's bar behind an append. -/
theorem brAt_put {B W b : Nat} {w3 u : World} {g0 : Option Nat} {s : St} {p : Nat} {X : List Nat} {q0 : Option Addr} {c0 : Nat} {q2 : Option Addr} {c2 : Nat} {ys2 : List Nat} {s' : St} {p' : Nat} {u' : Value} (h1 : w3.grownBy u g0) (ho : owned w3 b (barC s' p' u')) (hb : B ≤ b) (hgb : ∀ k, g0 = some k → k ≠ b) (hX : OF W w3 (.slice q0 X.length c0) X) (hW : b < W) (hBW : B ≤ W) (hg : ∀ k, g0 = some k → k < W) (hA : appP B w3.heap.size g0 ys2 (.slice q2 ys2.length c2) u) :
    BrAt B (u.setCells b 0 (barC s p (.slice q0 X.length c0))) b s p X q0 c0 q2 c2 ys2 := by
  have hlt : b < w3.heap.size := World.block_lt_of_cell? _ _ (ho 0 _ rfl).1
  have k1 : owned u b (barC s' p' u') := owned_kept ho h1 hlt hgb
  have k2 : OF W u (.slice q0 X.length c0) X := hX.blk fun k hk => h1.block k (hX.block k hk).2 (fun e => by have := hg k e.symm; have := (hX.block k hk).1; omega)
  have hne : ∀ k, (Value.slice q2 ys2.length c2).ownBlock = some k → k ≠ b := by
    intro k hk
    rcases hA.2 with h | h
    · exact hgb k (h.symm.trans hk)
    · have := h k hk; omega
  have hgs := grown_setCells b (barC s p (.slice q0 X.length c0)) 0 u
  refine ⟨⟨barC_stored k1, hb⟩, (k2.kept hgs ?_).base hBW, .inl ⟨hA.1.kept hgs ?_, hne, ?_⟩⟩
  · cases hu : (Value.slice q0 X.length c0).ownBlock with
    | none => exact .inl rfl
    | some k => exact .inr fun e => by have := (hX.block k hu).1; cases e; omega
  · cases hu : (Value.slice q2 ys2.length c2).ownBlock with
    | none => exact .inl rfl
    | some k => exact .inr fun e => hne k hu (by simpa using e)
  · intro k hk e
    have e1 := hX.block k e
    rcases hA.2 with h | h
    · have := hg k (h.symm.trans hk); omega
    · have := h k hk; omega
theorem BrAt.later {B : Nat} {wr w' : World} {b : Nat} {s : St} {p : Nat} {X : List Nat} {q0 : Option Addr} {c0 : Nat} {q : Option Addr} {c : Nat} {ys : List Nat} (h : BrAt B wr b s p X q0 c0 q c ys) (hb : Below wr.heap.size wr w') : BrAt B w' b s p X q0 c0 q c ys := ⟨⟨h.1.1.later hb, h.1.2⟩, h.2.1.later hb, h.2.2.later hb⟩
def brMk (B b : Nat) (s : St) (p : Nat) (X : List Nat) (q0 : Option Addr) (c0 : Nat) (ys2 : List Nat) (x : List Value) (u : World) : Prop := ∀ q c, Value.slice q ys2.length c ∈ x → BrAt B u b s p X q0 c0 q c ys2
theorem brMk_keeps (B b : Nat) (s : St) (p : Nat) (X : List Nat) (q0 : Option Addr) (c0 : Nat) (ys2 : List Nat) : Keeps (brMk B b s p X q0 c0 ys2) := fun x w w' h hb q c hm => (h q c hm).later hb
theorem bbe_no {w w' : World} {e : Ending} {s : St} {p : Nat} {X : List Nat} {b : Bool} (h : BBE w s p X b e w') (hb : b = false) : ∃ u, e = .returned (.tuple #[.agg #[.float .f32 0, .float .f32 0, .float .f32 0, .float .f32 0, .float .f32 0, .float .f32 0, .float .f32 0, u], .bool false]) ∧ Below w.heap.size w w' ∧ OF w.heap.size w' u [] := by
  obtain ⟨b', u, xs, ⟨rfl, rfl⟩, rfl, h1, h2⟩ := h
  subst hb
  exact ⟨u, rfl, h1, h2⟩
theorem bbe_yes {w w' : World} {e : Ending} {s : St} {p : Nat} {X : List Nat} {b : Bool} (h : BBE w s p X b e w') (hb : b = true) : ∃ u, e = .returned (.tuple #[.agg #[.float .f32 s.a, .float .f32 s.b, .float .f32 s.c, .float .f32 s.d, .float .f32 s.p, .float .f32 s.l, .float .f32 p, u], .bool true]) ∧ Below w.heap.size w w' ∧ OF w.heap.size w' u X := by
  obtain ⟨b', u, xs, ⟨rfl, rfl⟩, rfl, h1, h2⟩ := h
  subst hb
  exact ⟨u, rfl, h1, h2⟩
/-- The bar that the run begins with. -/
def bcM (B : Nat) (s : St) (p : Nat) (X : List Nat) (x : List Value) (u : World) : Prop := ∀ b q0 c0, x.head? = some (Value.pointer (some ⟨b, 0, none⟩)) → Value.agg #[.float .f32 s.a, .float .f32 s.b, .float .f32 s.c, .float .f32 s.d, .float .f32 s.p, .float .f32 s.l, .float .f32 p, .slice q0 X.length c0] ∈ x → (owned u b (barC s p (.slice q0 X.length c0)) ∧ B ≤ b) ∧ OF B u (.slice q0 X.length c0) X
theorem bcM_keeps (B : Nat) (s : St) (p : Nat) (X : List Nat) : Keeps (bcM B s p X) := fun x w w' h hb b q0 c0 h1 h2 => ⟨⟨(h b q0 c0 h1 h2).1.1.later hb, (h b q0 c0 h1 h2).1.2⟩, (h b q0 c0 h1 h2).2.later hb⟩
theorem bar_put {B : Nat} {s : St} {p : Nat} {X : List Nat} {q0 : Option Addr} {c0 : Nat} {u : World} {b : Nat} (h1 : OF B u (.slice q0 X.length c0) X) (h2 : vtK B [.float .f32 0, .float .f32 0, .float .f32 0, .float .f32 0, .float .f32 0, .float .f32 0, .float .f32 0, .slice none 0 0] 32 (.pointer (some ⟨b, 0, none⟩)) u) : (owned (u.setCells b 0 (barC s p (.slice q0 X.length c0))) b (barC s p (.slice q0 X.length c0)) ∧ B ≤ b) ∧ OF B (u.setCells b 0 (barC s p (.slice q0 X.length c0))) (.slice q0 X.length c0) X := by
  obtain ⟨⟨g1, g2⟩, g3⟩ := h2 b rfl
  exact ⟨⟨barC_stored (s0 := St0) (p0 := 0) (u0 := .slice none 0 0) g2, g1⟩, h1.kept (grown_setCells b _ 0 u) (h1.type g3 (by decide))⟩
end Go.Proofs.Ytjeeflldbhajiaa
set_option linter.unusedSimpArgs false
set_option linter.unusedVariables false
set_option linter.unusedSectionVars false
namespace Go.Proofs.Ytjeeflldbhajiaa
open Go Go.RowKit
/-- The heat of a place; all heats are bounded. -/
def hX (xs : List Nat) (j : Nat) : Nat := cn .f32 (xs.getD j 0)
def HB (xs : List Nat) (H : Rat) : Prop := ∀ j, j < xs.length → Bnd .f32 (hX xs j) H
section
variable {s : St} {a b c d p l : Int} {q : Nat} {e : Int} {t : Nat} {xs : List Nat}
theorem stbX_len (b1 b2 : Bool) (lw rw' : Nat) : (stbX s q xs lw rw' b1 b2 t).length = xs.length := stbL_len _ _ _ _ _
theorem stbX_at {b1 b2 : Bool} {lw rw' j : Nat} (hj : j < xs.length) : hX (stbX s q xs lw rw' b1 b2 t) j = stbB q xs (flA s q xs lw rw' b1 b2) t j := by
  unfold hX stbX stbL
  rw [List.getD_eq_getElem?_getD, List.getElem?_map, List.getElem?_range hj]
  exact cn_fop _ _ _ _
end
end Go.Proofs.Ytjeeflldbhajiaa
set_option linter.unusedSimpArgs false
set_option linter.unusedVariables false
set_option linter.unusedSectionVars false
namespace Go.Proofs.Ytjeeflldbhajiaa
open Go Go.RowKit
theorem any_noneB {xs : List Nat} {f : Nat → Bool} (h : ∀ j, j < xs.length → f (xs.getD j 0) = false) : xs.any f = false := by
  rw [List.any_eq_false]
  intro x hx
  obtain ⟨j, hj, rfl⟩ := List.mem_iff_getElem.1 hx
  have := h j hj
  rw [List.getD_eq_getElem?_getD, List.getElem?_eq_getElem hj] at this
  simpa using this
theorem Bnd.fin {x : Nat} {B : Rat} (h : Bnd .f32 x B) : fin .f32 x = true := by rw [fin_num]; exact h.1
section
variable {s : St} {a b c d p l : Int} {q : Nat} {e : Int} {t : Nat} {xs : List Nat}
theorem step_abv (he : 1 ≤ e ∧ e ≤ 8) (hq : V .f32 (cn .f32 q) ((e : Rat) / 4)) : abv (cn .f32 q) = true := by
  have E1 : ((1 : Int) : Rat) ≤ (e : Rat) := icast_le he.1
  exact abv_of hq.1 (by rw [hq.2]; grind)
/-- A bar of bounded heats is valid. -/
theorem bar_ok (h : SV s a b c d p l) (he : 1 ≤ e ∧ e ≤ 8) (hq : V .f32 (cn .f32 q) ((e : Rat) / 4)) (hb : HB xs 9) (hn : 1 ≤ xs.length ∧ xs.length ≤ 48) : barOk s q xs = true := by
  unfold barOk
  rw [h.ok, step_abv he hq, decide_eq_true hn.1, decide_eq_true hn.2, any_noneB fun j hj => ?_]
  · rfl
  · have w := (warm_near h (hb j hj)).2
    unfold badC
    have e1 : fin .f32 (cn .f32 (xs.getD j 0)) = true := (hb j hj).fin
    have e2 : fin .f32 (warmC s.k (cn .f32 (xs.getD j 0))) = true := w.fin
    rw [e1, e2]; rfl
end
end Go.Proofs.Ytjeeflldbhajiaa
set_option linter.unusedSimpArgs false
set_option linter.unusedVariables false
set_option linter.unusedSectionVars false
namespace Go.Proofs.Ytjeeflldbhajiaa
open Go Go.RowKit
section
variable {P X Y : Nat} {p m n : Int}
end
end Go.Proofs.Ytjeeflldbhajiaa
set_option linter.unusedSimpArgs false
set_option linter.unusedVariables false
set_option linter.unusedSectionVars false
namespace Go.Proofs.Ytjeeflldbhajiaa
open Go Go.RowKit
section
variable {s : St} {a b c d p l k : Int} {H : Nat}
/-- What a heat of k quarters leads to. -/
structure HV (s : St) (p k : Int) (W T : Nat) : Prop where
  fW : fnt .f32 W = true
  fT : fnt .f32 T = true
  t0 : 0 ≤ fv .f32 T
  t1 : fv .f32 T ≤ 1
  sg : (fv .f32 W < fv .f32 s.k.p ↔ k < 0) ∧ (0 ≤ k → fv .f32 s.k.p ≤ fv .f32 W)
end
end Go.Proofs.Ytjeeflldbhajiaa
set_option linter.unusedSimpArgs false
set_option linter.unusedVariables false
set_option linter.unusedSectionVars false
namespace Go.Proofs.Ytjeeflldbhajiaa
open Go Go.RowKit
section
variable {s : St} {a b c d p l k : Int} {H : Nat}
end
end Go.Proofs.Ytjeeflldbhajiaa
set_option linter.unusedSimpArgs false
set_option linter.unusedVariables false
set_option linter.unusedSectionVars false
namespace Go.Proofs.Ytjeeflldbhajiaa
open Go Go.RowKit
def gapC (x y : Nat) : Nat := if flt .f64 x y then fop .sub .f64 y x else fop .sub .f64 x y
theorem cn_gapC (x y : Nat) : cn .f64 (gapC x y) = gapC x y := by unfold gapC; split <;> exact cn_fop _ _ _ _
def cTho : Nat := cn .f64 4562254508917369340
theorem rep64 (z q : Int) (h : z.natAbs < 9007199254740992) (h1 : -1000 ≤ q) (h2 : q ≤ 900) {r : Rat} (hr : r = z * tp q) : Rep .f64 r := rep_at (k := .f64) z q (by show z.natAbs < 2 ^ (52 + 1); exact h) (by show -1074 ≤ q; omega) (by show q + 52 + 1 < 1024; omega) hr
theorem cTho_pos : fnt .f64 cTho = true ∧ 0 ≤ fv .f64 cTho ∧ fv .f64 cTho ≤ 1 := by
  have h1 : fnt .f64 cTho = true := by decide +kernel
  have z := V.int .f64 0 (by decide)
  have o := V.int .f64 1 (by decide)
  refine ⟨h1, ?_, ?_⟩
  · have h2 : fle .f64 (floatOfInt .f64 0) cTho = true := by decide +kernel
    rw [flev z.1 h1, z.2] at h2
    exact of_decide_eq_true h2
  · have h2 : fle .f64 cTho (floatOfInt .f64 1) = true := by decide +kernel
    rw [flev h1 o.1, o.2] at h2
    exact of_decide_eq_true h2
end Go.Proofs.Ytjeeflldbhajiaa
set_option linter.unusedSimpArgs false
set_option linter.unusedVariables false
set_option linter.unusedSectionVars false
namespace Go.Proofs.Ytjeeflldbhajiaa
open Go Go.RowKit
def cOne64 : Nat := cn .f64 4607182418800017408
theorem vOne64 : V .f64 cOne64 1 := by
  have e : cOne64 = floatOfInt .f64 1 := by decide +kernel
  rw [e]; exact (V.int .f64 1 (by decide)).eq rfl
/-- How far two numbers lie apart: never negative, no more than a bound. -/
theorem gapC_btw {x y : Nat} {r : Rat} (hx : fnt .f64 x = true) (hy : fnt .f64 y = true) (hr : Rep .f64 r) (h1 : fv .f64 x - fv .f64 y ≤ r) (h2 : fv .f64 y - fv .f64 x ≤ r) : Btw .f64 (gapC x y) 0 r := by
  have z : Rep .f64 (0 : Rat) := Rep.int (k := .f64) 0 (by decide)
  unfold gapC
  rw [fltv hx hy]
  by_cases c : fv .f64 x < fv .f64 y
  · rw [if_pos (decide_eq_true c)]
    exact fop_btw .sub rfl .f64 hy hx (by simp) z hr (by simp only [ex]; grind) (by simp only [ex]; exact h2)
  · rw [if_neg (by rw [decide_eq_false c]; simp)]
    exact fop_btw .sub rfl .f64 hx hy (by simp) z hr (by simp only [ex]; grind) (by simp only [ex]; exact h1)
section
variable {s : St} {a b c d p l : Int} {q : Nat} {e : Int} {t : Nat} {xs : List Nat}
/-- A tick that is allowed. -/
theorem TK.can (h : TK s a b c d p l q e (cn .f32 t)) {ys : List Nat} (hb : HB ys 9) (hn : 1 ≤ ys.length ∧ ys.length ≤ 48) : canB s q ys 0 0 t = true := by
  obtain ⟨⟨m0, _, _⟩, _⟩ := most_val h.sv h.he h.hq
  have f0 : fin .f32 (cn .f32 0) = true := V0.fin
  have fm : fin .f32 (mostV s q) = true := by rw [fin_num]; exact m0
  have le : fle .f32 (cn .f32 t) (mostV s q) = true := by rw [flev h.hT m0]; exact decide_eq_true h.t1
  unfold canB
  rw [bar_ok h.sv h.he h.hq hb hn, fm, f0, abv_of h.hT h.t0, le]; rfl
end
end Go.Proofs.Ytjeeflldbhajiaa
set_option linter.unusedSimpArgs false
set_option linter.unusedVariables false
set_option linter.unusedSectionVars false
namespace Go.Proofs.Ytjeeflldbhajiaa
open Go Go.RowKit
section
variable {s : St} {a b c d p l : Int} {q : Nat} {e : Int} {t : Nat} {X F H : Nat}
end
end Go.Proofs.Ytjeeflldbhajiaa
set_option linter.unusedSimpArgs false
set_option linter.unusedVariables false
set_option linter.unusedSectionVars false
namespace Go.Proofs.Ytjeeflldbhajiaa
open Go Go.RowKit
theorem near_mult {v r t c : Rat} {k k' : Int} (ht : 0 < t) (hr : r = k * t) (hc : c = k' * t) (h1 : 2 * (r - v) ≤ t) (h2 : 2 * (v - r) ≤ t) (hlt : c ≤ v) : v - r ≤ v - c ∧ r - v ≤ v - c := by
  rcases (show k ≤ k' ∨ k' < k by omega) with h | h
  · have hle : r ≤ c := by
      rw [hr, hc]
      exact Rat.mul_le_mul_of_nonneg_right (by exact_mod_cast h) (Rat.le_of_lt ht)
    rcases (show k = k' ∨ k < k' by omega) with e | e
    · have : r = c := by rw [hr, hc, e]
      exact ⟨by grind, by grind⟩
    · have h3 : ((k + 1 : Int) : Rat) * t ≤ (k' : Rat) * t := Rat.mul_le_mul_of_nonneg_right (by exact_mod_cast (by omega : k + 1 ≤ k')) (Rat.le_of_lt ht)
      rw [Rat.intCast_add] at h3
      exact ⟨by grind, by grind⟩
  · have h3 : ((k' + 1 : Int) : Rat) * t ≤ (k : Rat) * t := Rat.mul_le_mul_of_nonneg_right (by exact_mod_cast (by omega : k' + 1 ≤ k)) (Rat.le_of_lt ht)
    rw [Rat.intCast_add] at h3
    have h4 : c + t ≤ r := by rw [hc, hr]; grind
    exact ⟨by grind, by grind⟩
theorem rnd_nearest {f : Ieee.Format} {v r : Rat} (h : Rnd f v r) {z q : Int} (hz : z.natAbs < 2 ^ (f.fractionBits + 1)) (hq : f.leastPlace ≤ q) (hlt : z * tp q < v) : v - r ≤ v - z * tp q ∧ r - v ≤ v - z * tp q := by
  obtain ⟨last, k, hl, hr, h1, h2, h3⟩ := h
  have ht := tp_pos last
  by_cases hlq : last ≤ q
  · obtain ⟨n, rfl⟩ : ∃ n : Nat, q = last + n := ⟨(q - last).toNat, by omega⟩
    have e : (z : Rat) * tp (last + n) = ((z * (2 ^ n : Nat) : Int) : Rat) * tp last := by
      rw [tp_add, tp_nat, Rat.intCast_mul]
      have : (((2 ^ n : Nat) : Int) : Rat) = ((2 ^ n : Nat) : Rat) := Rat.intCast_natCast _
      rw [this]
      grind
    exact near_mult ht hr e h1 h2 (Rat.le_of_lt hlt)
  · have hm : tp (last + f.fractionBits) = (((2 ^ f.fractionBits : Nat) : Int) : Rat) * tp last := by
      rw [tp_add, tp_nat, Rat.intCast_natCast]
      exact Rat.mul_comm _ _
    have hq0 := tp_pos q
    have hbig : ((2 ^ (f.fractionBits + 1) : Nat) : Rat) * tp q ≤ tp (last + f.fractionBits) := by
      rw [← tp_nat, ← tp_add]
      exact tp_le (by omega)
    have a1 : (z : Rat) < ((2 ^ (f.fractionBits + 1) : Nat) : Rat) := by
      have : z < ((2 ^ (f.fractionBits + 1) : Nat) : Int) := by omega
      exact_mod_cast this
    have a2 : -((2 ^ (f.fractionBits + 1) : Nat) : Rat) < (z : Rat) := by
      have h : -z < ((2 ^ (f.fractionBits + 1) : Nat) : Int) := by omega
      have h' : ((-z : Int) : Rat) < ((2 ^ (f.fractionBits + 1) : Nat) : Rat) := by exact_mod_cast h
      rw [Rat.intCast_neg] at h'
      grind
    have b1 := Rat.mul_lt_mul_of_pos_right a1 hq0
    have b2 := Rat.mul_lt_mul_of_pos_right a2 hq0
    rcases h3 with h3 | h3 | h3
    · omega
    · obtain ⟨n1, n2⟩ := near_mult ht hr hm h1 h2 h3
      exact ⟨by grind, by grind⟩
    · exfalso; grind
/-- A number of a format. -/
def Rp (f : Ieee.Format) (r : Rat) : Prop := ∃ z q : Int, z.natAbs < 2 ^ (f.fractionBits + 1) ∧ f.leastPlace ≤ q ∧ r = z * tp q
theorem Rp.neg {f : Ieee.Format} {r : Rat} (h : Rp f r) : Rp f (-r) := by
  obtain ⟨z, q, h1, h2, rfl⟩ := h
  exact ⟨-z, q, by omega, h2, by rw [Rat.intCast_neg]; grind⟩
theorem rnd_mono {f : Ieee.Format} {v1 v2 r1 r2 : Rat} (h1 : Rnd f v1 r1) (h2 : Rnd f v2 r2) (p1 : Rp f r1) (p2 : Rp f r2) (hv : v1 < v2) : r1 ≤ r2 := by
  by_cases hc : r1 ≤ r2
  · exact hc
  exfalso
  obtain ⟨z1, q1, a1, b1, e1⟩ := p1
  obtain ⟨z2, q2, a2, b2, e2⟩ := p2
  have c1 : r2 < v1 := by
    by_cases h : v1 ≤ r2
    · have := h1.le a2 b2 (by rw [← e2]; exact h)
      rw [← e2] at this
      exact absurd this hc
    · grind
  have c2 : v2 < r1 := by
    by_cases h : r1 ≤ v2
    · have := h2.ge a1 b1 (by rw [← e1]; exact h)
      rw [← e1] at this
      exact absurd this hc
    · grind
  have n1 := rnd_nearest h1 a2 b2 (by rw [← e2]; exact c1)
  rw [← e2] at n1
  have n2 := rnd_nearest h2.neg (z := -z1) (q := q1) (by omega) b1 (by rw [Rat.intCast_neg]; grind)
  rw [Rat.intCast_neg] at n2
  have e3 : -(z1 : Rat) * tp q1 = -r1 := by grind
  rw [e3] at n2
  grind
theorem rp_word {k : FloatKind} {x : Nat} (h : fnt k x = true) : Rp k.format (fv k x) := by
  unfold fnt at h
  cases e : k.format.read x with
  | number s m p =>
    obtain ⟨g1, g2, g3⟩ := read_bd _ e
    refine ⟨if s then -(m : Int) else m, p, by split <;> omega, g2, ?_⟩
    rw [(fv_of e).2]
    cases s
    · simp only [sg, Bool.false_eq_true, if_false, Rat.intCast_natCast]; grind
    · simp only [sg, if_true, Rat.intCast_neg, Rat.intCast_natCast]; grind
  | _ => rw [e] at h; simp [isNum] at h
end Go.Proofs.Ytjeeflldbhajiaa
set_option linter.unusedSimpArgs false
set_option linter.unusedVariables false
set_option linter.unusedSectionVars false
namespace Go.Proofs.Ytjeeflldbhajiaa
open Go Go.RowKit
/-- Scaled by a power of two. -/
theorem rnd_le_up {k : FloatKind} {x : Nat} {v r : Rat} (hx : fnt k x = true) (n : Nat) (h : Rnd k.format v r) (hv : v ≤ fv k x * tp n) : r ≤ fv k x * tp n := by
  obtain ⟨z, q, hz, hq, e⟩ := rp_word hx
  have e2 : fv k x * tp n = z * tp (q + n) := by rw [e, tp_add]; grind
  rw [e2] at hv ⊢
  exact h.le hz (by omega) hv
theorem rnd_ge_word {k : FloatKind} {x : Nat} {v r : Rat} (hx : fnt k x = true) (h : Rnd k.format v r) (hv : fv k x ≤ v) : fv k x ≤ r := by
  obtain ⟨z, q, hz, hq, e⟩ := rp_word hx
  rw [e] at hv ⊢
  exact h.ge hz hq hv
theorem rnd_le_word {k : FloatKind} {x : Nat} {v r : Rat} (hx : fnt k x = true) (h : Rnd k.format v r) (hv : v ≤ fv k x) : r ≤ fv k x := by
  obtain ⟨z, q, hz, hq, e⟩ := rp_word hx
  rw [e] at hv ⊢
  exact h.le hz hq hv
theorem tp3 : tp 3 = 8 := (tp_nat 3).trans rfl
section
variable {s : St} {a b c d p l : Int} {q : Nat} {e : Int} {t : Nat} {X F : Nat}
end
end Go.Proofs.Ytjeeflldbhajiaa
set_option linter.unusedSimpArgs false
set_option linter.unusedVariables false
set_option linter.unusedSectionVars false
namespace Go.Proofs.Ytjeeflldbhajiaa
open Go Go.RowKit
theorem rnd_ge_up {k : FloatKind} {x : Nat} {v r : Rat} (hx : fnt k x = true) (n : Nat) (h : Rnd k.format v r) (hv : fv k x * tp n ≤ v) : fv k x * tp n ≤ r := by
  obtain ⟨z, q, hz, hq, e⟩ := rp_word hx
  have e2 : fv k x * tp n = z * tp (q + n) := by rw [e, tp_add]; grind
  rw [e2] at hv ⊢
  exact h.ge hz (by omega) hv
theorem tp1' : tp ((1 : Nat) : Int) = 2 := tp_one
/-- The middle lies between. -/
theorem mid_between {a b : Nat} (ha : Btw .f64 a 0 3) (hb : Btw .f64 b 0 3) (h : fv .f64 a ≤ fv .f64 b) : fv .f64 a ≤ fv .f64 (midW a b) ∧ fv .f64 (midW a b) ≤ fv .f64 b := by
  obtain ⟨a0, a1, a2⟩ := ha
  obtain ⟨b0, b1, b2⟩ := hb
  have t3 : tp 3 = 8 := (tp_nat 3).trans rfl
  obtain ⟨s0, s1⟩ := fop_rnd .add rfl .f64 a0 b0 (by simp) 3 (by decide) (by simp only [ex]; rw [t3]; grind) (by simp only [ex]; rw [t3]; grind)
  simp only [ex] at s1
  have l1 := rnd_ge_up a0 1 s1 (by rw [tp1']; grind)
  have l2 := rnd_le_up b0 1 s1 (by rw [tp1']; grind)
  rw [tp1'] at l1 l2
  unfold midW
  generalize fop .add .f64 a b = c at *
  obtain ⟨t0, t1⟩ := fop_rnd .quo rfl .f64 s0 two_val.1 (fun _ => by rw [two_val.2]; grind) 3 (by decide) (by simp only [ex]; rw [t3, two_val.2]; grind) (by simp only [ex]; rw [t3, two_val.2]; grind)
  simp only [ex] at t1
  rw [two_val.2] at t1
  exact ⟨rnd_ge_word a0 t1 (by grind), rnd_le_word b0 t1 (by grind)⟩
theorem stLH_nest (s : Nat) (k : Nat) : ∀ j, fv .f64 (stLH s k).1 ≤ fv .f64 (stLH s k).2 → fv .f64 (stLH s k).1 ≤ fv .f64 (stLH s (k + j)).1 ∧ fv .f64 (stLH s (k + j)).1 ≤ fv .f64 (stLH s (k + j)).2 ∧ fv .f64 (stLH s (k + j)).2 ≤ fv .f64 (stLH s k).2
  | 0, h => ⟨Rat.le_refl, h, Rat.le_refl⟩
  | j + 1, h => by
    obtain ⟨a1, a2, a3⟩ := stLH_nest s k j h
    obtain ⟨b1, b2⟩ := stLH_btw s (k + j)
    obtain ⟨m1, m2⟩ := mid_between b1 b2 a2
    have e : stLH s (k + (j + 1)) = if stB s (stLH s (k + j)).1 (stLH s (k + j)).2 then ((stLH s (k + j)).1, midW (stLH s (k + j)).1 (stLH s (k + j)).2) else (midW (stLH s (k + j)).1 (stLH s (k + j)).2, (stLH s (k + j)).2) := rfl
    rw [e]
    split
    · exact ⟨a1, m1, Rat.le_trans m2 a3⟩
    · exact ⟨Rat.le_trans a1 m1, m2, a3⟩
theorem stLH_le (s : Nat) (k : Nat) : fv .f64 (stLH s k).1 ≤ fv .f64 (stLH s k).2 := by
  have h := stLH_nest s 0 k (by show fv .f64 (cn .f64 0) ≤ fv .f64 (cn .f64 4613937818241073152); rw [at_zero.2, at_three.2]; decide)
  rw [Nat.zero_add] at h
  exact h.2.1
/-- The root lies between the bounds of any round. -/
theorem stV_in (s : Nat) {k : Nat} (hk : k ≤ 50) : fv .f64 (stLH s k).1 ≤ fv .f64 (stV s) ∧ fv .f64 (stV s) ≤ fv .f64 (stLH s k).2 := by
  obtain ⟨a, b, c⟩ := stLH_nest s k (50 - k) (stLH_le s k)
  rw [show k + (50 - k) = 50 by omega] at a b c
  exact ⟨a, Rat.le_trans b c⟩
theorem stV_fnt (s : Nat) : fnt .f64 (stV s) = true := (stLH_btw s 50).1.1
/-- A size, nearly: z b / l, rounded to 32 bits. -/
def csz (n l : Nat) : Cr := frc (Nat.div (Nat.mul n 79228162514264337593543950336) l) fun m => frc (Nat.add (Nat.div m 8388608) 4) fun r => .c false m r
theorem csz_ok {w n l : Nat} (hl : 0 < l) (hn : n ≤ 1000) (hw : fnt .f32 w = true) (hR : Rnd Ieee.single ((n : Rat) / (l : Rat)) (fv .f32 w)) : Cw (wide w) (csz n l) := by
  obtain ⟨w0, w1⟩ := wide_val hw
  have e0 := ep_pos
  have lp : (0 : Rat) < (l : Rat) := by exact_mod_cast hl
  obtain ⟨m, hm⟩ : ∃ m, n * 79228162514264337593543950336 / l = m := ⟨_, rfl⟩
  have d := div_near (n * 79228162514264337593543950336) hl
  rw [hm] at d
  have k1 : ((n * 79228162514264337593543950336 : Nat) : Rat) = (n : Rat) * ((79228162514264337593543950336 : Nat) : Rat) := Rat.natCast_mul _ _
  rw [k1] at d
  have T := te96
  generalize ((79228162514264337593543950336 : Nat) : Rat) = C at *
  have hv : (n : Rat) / (l : Rat) * (l : Rat) = (n : Rat) := Rat.div_mul_cancel (by grind)
  generalize hV : (n : Rat) / (l : Rat) = v at *
  have z1 := Rat.mul_le_mul_of_nonneg_right d.1 (Rat.le_of_lt e0)
  have z2 := Rat.mul_le_mul_of_nonneg_right d.2 (Rat.le_of_lt e0)
  have y1 : (n : Rat) * C * ep = n := by have : (n : Rat) * C * ep = n * (C * ep) := by grind
                                         rw [this, T]; grind
  rw [y1] at z1 z2
  have c1 : (m : Rat) * ep ≤ v := mul_cancel_le lp (by rw [hv]; grind)
  have c2 : v ≤ (m : Rat) * ep + ep := mul_cancel_le lp (by rw [hv]; grind)
  have mp : 0 ≤ (m : Rat) * ep := Rat.mul_nonneg (by exact_mod_cast Nat.zero_le m) (Rat.le_of_lt e0)
  have v0 : 0 ≤ v := Rat.le_trans mp c1
  obtain ⟨g1, g2⟩ := rnd_err2 hR (Rat.le_refl) (by grind)
  have fb : -((Ieee.single.fractionBits : Nat) : Int) = -23 := rfl
  rw [fb] at g1 g2
  have low : tp Ieee.single.leastPlace ≤ ep := by unfold ep; exact tp_le (by decide)
  have t23 := tp_pos (-23)
  have t23' : tp (-23) ≤ 1 := by have : tp (-23) ≤ tp 0 := tp_le (by decide); rw [tp_zero] at this; exact this
  have dv : (m : Rat) * tp (-23) ≤ ((m / 8388608 + 1 : Nat) : Rat) := by
    have hlt : m ≤ (m / 8388608 + 1) * 8388608 := by omega
    have c3 : (m : Rat) ≤ ((m / 8388608 + 1 : Nat) : Rat) * ((8388608 : Nat) : Rat) := by exact_mod_cast hlt
    have e6 : ((8388608 : Nat) : Rat) * tp (-23) = 1 := by
      have : ((8388608 : Nat) : Rat) = tp (23 : Nat) := (tp_nat 23).symm
      rw [this, ← tp_add]; exact tp_zero
    have c4 := Rat.mul_le_mul_of_nonneg_right c3 (Rat.le_of_lt t23)
    have e7 : ((m / 8388608 + 1 : Nat) : Rat) * ((8388608 : Nat) : Rat) * tp (-23) = ((m / 8388608 + 1 : Nat) : Rat) * (((8388608 : Nat) : Rat) * tp (-23)) := by grind
    rw [e7, e6] at c4
    grind
  have d2 := Rat.mul_le_mul_of_nonneg_right dv (Rat.le_of_lt e0)
  have d3 : v * tp (-23) ≤ ((m / 8388608 + 1 : Nat) : Rat) * ep + ep := by
    have q := Rat.mul_le_mul_of_nonneg_right c2 (Rat.le_of_lt t23)
    have q2 := Rat.mul_le_mul_of_nonneg_left t23' (Rat.le_of_lt e0)
    have e8 : ((m : Rat) * ep + ep) * tp (-23) = (m : Rat) * tp (-23) * ep + ep * tp (-23) := by grind
    rw [e8] at q; grind
  have w3 : ((m / 8388608 + 4 : Nat) : Rat) = ((m / 8388608 + 1 : Nat) : Rat) + 3 := by rw [show m / 8388608 + 4 = m / 8388608 + 1 + 3 by omega]; exact Rat.natCast_add _ _
  show Cw (wide w) (csz n l)
  unfold csz
  rw [frc_eq, frc_eq]
  show fnt .f64 (wide w) = true ∧ fv .f64 (wide w) - sg false * (((n * 79228162514264337593543950336 / l : Nat) : Rat) * ep) ≤ ((n * 79228162514264337593543950336 / l / 8388608 + 4 : Nat) : Rat) * ep ∧ sg false * (((n * 79228162514264337593543950336 / l : Nat) : Rat) * ep) - fv .f64 (wide w) ≤ ((n * 79228162514264337593543950336 / l / 8388608 + 4 : Nat) : Rat) * ep
  rw [hm, w1, w3]
  have s1 : sg false * ((m : Rat) * ep) = (m : Rat) * ep := by simp only [sg]; grind
  rw [s1]
  refine ⟨w0, ?_, ?_⟩ <;> grind
/-- Three degrees: more than two, by a 512th part at least. -/
def frChk (A B : Option (Cr × Cr)) : Bool := match A, B with
  | some r, some q => Nat.ble (Nat.add (chig r.2) 154742504910672534362390528) (clow q.1)
  | _, _ => false
theorem frChk_ok {A B : Option (Cr × Cr)} (h : frChk A B = true) : ∃ r q, A = some r ∧ B = some q ∧ chig r.2 + 154742504910672534362390528 ≤ clow q.1 := by
  cases A with
  | none => cases h
  | some r =>
    cases B with
    | none => cases h
    | some q => exact ⟨r, q, rfl, rfl, Nat.le_of_ble_eq_true h⟩
def frPair (b l : Nat) : Bool := frChk (cst (csz (2 * b) l) 8 (cnat 0) (cnat 3)) (cst (csz (3 * b) l) 8 (cnat 0) (cnat 3))
theorem frPair_ok {b l : Nat} (h : frPair b l = true) : ∃ r q, cst (csz (2 * b) l) 8 (cnat 0) (cnat 3) = some r ∧ cst (csz (3 * b) l) 8 (cnat 0) (cnat 3) = some q ∧ chig r.2 + 154742504910672534362390528 ≤ clow q.1 := frChk_ok h
end Go.Proofs.Ytjeeflldbhajiaa
set_option linter.unusedSimpArgs false
set_option linter.unusedVariables false
set_option linter.unusedSectionVars false
namespace Go.Proofs.Ytjeeflldbhajiaa
open Go Go.RowKit
set_option maxRecDepth 100000
theorem fr_p1 : ((List.range 16).all fun l => frPair 1 (l + 1)) = true := by decide +kernel
theorem fr_p2 : ((List.range 16).all fun l => frPair 2 (l + 1)) = true := by decide +kernel
theorem fr_p3 : ((List.range 16).all fun l => frPair 3 (l + 1)) = true := by decide +kernel
theorem fr_p4 : ((List.range 16).all fun l => frPair 4 (l + 1)) = true := by decide +kernel
theorem fr_p5 : ((List.range 16).all fun l => frPair 5 (l + 1)) = true := by decide +kernel
theorem fr_p6 : ((List.range 16).all fun l => frPair 6 (l + 1)) = true := by decide +kernel
theorem fr_p7 : ((List.range 16).all fun l => frPair 7 (l + 1)) = true := by decide +kernel
theorem fr_p8 : ((List.range 16).all fun l => frPair 8 (l + 1)) = true := by decide +kernel
theorem fr_pairs {b l : Nat} (hb : 1 ≤ b ∧ b ≤ 8) (hl : 1 ≤ l ∧ l ≤ 16) : frPair b l = true := by
  have g : ∀ {c : Nat}, ((List.range 16).all fun l => frPair c (l + 1)) = true → frPair c l = true := fun {c} h => by
    have := List.all_eq_true.1 h (l - 1) (List.mem_range.2 (by omega))
    rwa [show l - 1 + 1 = l by omega] at this
  rcases (show b = 1 ∨ b = 2 ∨ b = 3 ∨ b = 4 ∨ b = 5 ∨ b = 6 ∨ b = 7 ∨ b = 8 by omega) with rfl | rfl | rfl | rfl | rfl | rfl | rfl | rfl
  · exact g fr_p1
  · exact g fr_p2
  · exact g fr_p3
  · exact g fr_p4
  · exact g fr_p5
  · exact g fr_p6
  · exact g fr_p7
  · exact g fr_p8
end Go.Proofs.Ytjeeflldbhajiaa
set_option linter.unusedSimpArgs false
set_option linter.unusedVariables false
set_option linter.unusedSectionVars false
namespace Go.Proofs.Ytjeeflldbhajiaa
open Go Go.RowKit
/-- The root's word, all NaNs taken as one. -/
def sqC (x : Nat) : Nat := (FloatKind.f64.format.sqrt x).getD (qn .f64)
theorem cn_sqC (x : Nat) : cn .f64 (sqC x) = sqC x := by
  unfold sqC
  cases h : FloatKind.f64.format.sqrt x with
  | none => exact cn_of_isN (isN_qn _)
  | some r => exact cn_of_not (map_write_not_nan (fun _ => root_not_nan) h)
theorem sqrt_cn (x : Nat) : FloatKind.f64.format.sqrt (cn .f64 x) = FloatKind.f64.format.sqrt x := by
  by_cases h : isN .f64 x = true
  · have key : ∀ y, isN .f64 y = true → FloatKind.f64.format.sqrt y = none := by
      intro y hy
      obtain ⟨s, t, e⟩ := decode_nan hy
      simp [Ieee.Format.sqrt, e, Ieee.Datum.root]
    rw [key x h, key _ (by rw [isN_cn]; exact h)]
  · rw [cn_of_not (by simpa using h)]
theorem sqC_cn (x : Nat) : sqC (cn .f64 x) = sqC x := by unfold sqC; rw [sqrt_cn]
theorem rootFrom_lt (n : Nat) : ∀ todo root : Nat, Ieee.Datum.rootFrom n todo root < root + 2 ^ todo
  | 0, root => by simp [Ieee.Datum.rootFrom]
  | todo + 1, root => by
    have h := rootFrom_lt n todo
    unfold Ieee.Datum.rootFrom
    simp only [Nat.shiftLeft_eq, Nat.one_mul]
    rw [Nat.pow_succ]
    split
    · have := h (root + 2 ^ todo); omega
    · have := h root; have := Nat.two_pow_pos todo; omega
/-- A root of a number that is not too great. -/
theorem root_bnd {s : Bool} {m : Nat} {i : Int} {d : Ieee.Datum} (hv : (m : Rat) * tp i ≤ tp 128) (h : Ieee.Datum.root 54 (.number s m i) = some d) : isNum d = true ∧ dv d ≤ tp 70 ∧ -dv d ≤ tp 70 := by
  have hp70 := tp_pos 70
  unfold Ieee.Datum.root at h
  dsimp only at h
  by_cases hm : m = 0
  · rw [if_pos hm] at h
    cases h
    subst hm
    have : dv (.number s 0 i) = 0 := by simp [dv]
    exact ⟨rfl, by rw [this]; exact Rat.le_of_lt hp70, by rw [this]; simpa using Rat.le_of_lt hp70⟩
  · rw [if_neg hm] at h
    cases s with
    | true => cases h
    | false =>
      simp only [Bool.false_eq_true, if_false, Option.some.injEq, Nat.shiftLeft_eq] at h
      obtain ⟨M, hM⟩ : ∃ M, M = 2 * 54 - m.log2 + ((i - (2 * 54 - m.log2 : Nat)) % 2).toNat := ⟨_, rfl⟩
      rw [← hM] at h
      obtain ⟨W, hW⟩ : ∃ W, W = Ieee.Datum.rootFrom (m * 2 ^ M) ((m * 2 ^ M).log2 / 2 + 1) 0 := ⟨_, rfl⟩
      rw [← hW] at h
      have hlt : W < 2 ^ ((m * 2 ^ M).log2 / 2 + 1) := by
        have := rootFrom_lt (m * 2 ^ M) ((m * 2 ^ M).log2 / 2 + 1) 0
        rw [hW]; omega
      have hlog : (m * 2 ^ M).log2 = m.log2 + M := by
        refine (Nat.log2_eq_iff (Nat.mul_ne_zero hm (Nat.ne_of_gt (Nat.two_pow_pos M)))).2 ⟨?_, ?_⟩
        · rw [Nat.pow_add]; exact Nat.mul_le_mul_right _ (Nat.log2_self_le hm)
        · rw [show m.log2 + M + 1 = (m.log2 + 1) + M by omega, Nat.pow_add]; exact Nat.mul_lt_mul_of_pos_right Nat.lt_log2_self (Nat.two_pow_pos M)
      rw [hlog] at hlt
      subst h
      -- where the first digit stands
      have hl : m.log2 + i ≤ 128 := by
        refine le_of_tp (Rat.le_trans ?_ hv)
        have h1 : ((2 ^ m.log2 : Nat) : Rat) ≤ (m : Rat) := by exact_mod_cast Nat.log2_self_le hm
        rw [tp_add, tp_nat]
        exact Rat.mul_le_mul_of_nonneg_right h1 (Rat.le_of_lt (tp_pos i))
      obtain ⟨c, hc⟩ : ∃ c : Nat, c = 2 * W + (W * W != m * 2 ^ M).toNat := ⟨_, rfl⟩
      rw [← hc]
      have hcb : c ≤ 2 ^ ((m.log2 + M) / 2 + 2) := by
        rw [show (m.log2 + M) / 2 + 2 = ((m.log2 + M) / 2 + 1) + 1 by omega, Nat.pow_succ]
        have : (W * W != m * 2 ^ M).toNat ≤ 1 := by cases (W * W != m * 2 ^ M) <;> decide
        omega
      have hpp := tp_pos ((i - (M : Int)) / 2 - 1)
      have hcr : (c : Rat) ≤ ((2 ^ ((m.log2 + M) / 2 + 2) : Nat) : Rat) := by exact_mod_cast hcb
      have hc0 : (0 : Rat) ≤ c := by exact_mod_cast Nat.zero_le c
      have e : dv (.number false c ((i - (M : Int)) / 2 - 1)) = (c : Rat) * tp ((i - (M : Int)) / 2 - 1) := by simp [dv, sg]
      have hup : (c : Rat) * tp ((i - (M : Int)) / 2 - 1) ≤ tp 70 := by
        refine Rat.le_trans (Rat.mul_le_mul_of_nonneg_right hcr (Rat.le_of_lt hpp)) ?_
        rw [← tp_nat, ← tp_add]
        exact tp_le (by omega)
      have hlo := Rat.mul_nonneg hc0 (Rat.le_of_lt hpp)
      refine ⟨rfl, ?_, ?_⟩
      · show dv (.number false c ((i - (M : Int)) / 2 - 1)) ≤ _
        rw [e]; exact hup
      · show -dv (.number false c ((i - (M : Int)) / 2 - 1)) ≤ _
        rw [e]; grind
theorem abs_le {s : Bool} {x b : Rat} (h1 : sg s * x ≤ b) (h2 : -(sg s * x) ≤ b) : x ≤ b := by
  cases s <;> simp [sg] at h1 h2 <;> grind
theorem wide_bd {c : Nat} {s : Bool} {m : Nat} {i : Int} (h : FloatKind.f64.format.read (wide c) = .number s m i) : (m : Rat) * tp i ≤ tp 128 := by
  cases h2 : FloatKind.f32.format.read c with
  | nan t u =>
    exfalso
    have hn : isN .f32 c = true := by unfold isN FloatKind.decode; rw [h2]; rfl
    have e : wide c = qn .f64 := by unfold wide; rw [if_pos hn]
    obtain ⟨t', u', e'⟩ := decode_nan (isN_qn .f64)
    rw [e, e'] at h
    cases h
  | infinity t =>
    exfalso
    have hn : isN .f32 c = false := by unfold isN FloatKind.decode; rw [h2]; rfl
    have e : wide c = FloatKind.f64.encode (.infinity t) := by
      unfold wide; rw [if_neg (by rw [hn]; decide)]
      show FloatKind.f64.encode (FloatKind.f32.format.read c) = _
      rw [h2]
    rw [e] at h
    have e2 : FloatKind.f64.format.read (FloatKind.f64.encode (.infinity t)) = .infinity t := by cases t <;> decide +kernel
    rw [e2] at h
    cases h
  | number t n j =>
    have hc : fnt .f32 c = true := by unfold fnt; rw [h2]; rfl
    obtain ⟨_, hv⟩ := wide_val hc
    obtain ⟨h3, _, h5⟩ := single_place (x := c) h2
    unfold fv at hv
    rw [h, h2] at hv
    have hp := tp_pos j
    have hn0 : (0 : Rat) ≤ n := by exact_mod_cast Nat.zero_le n
    have hn1 : (n : Rat) ≤ ((2 ^ 24 : Nat) : Rat) := by exact_mod_cast Nat.le_of_lt h3
    have a1 := Rat.mul_le_mul_of_nonneg_right hn1 (Rat.le_of_lt hp)
    have a2 : ((2 ^ 24 : Nat) : Rat) * tp j ≤ tp 128 := by rw [← tp_nat, ← tp_add]; exact tp_le (by omega)
    have a3 := Rat.mul_nonneg hn0 (Rat.le_of_lt hp)
    have a4 := tp_pos 128
    have a5 : dv (.number t n j) ≤ tp 128 ∧ -dv (.number t n j) ≤ tp 128 := by
      simp only [dv]
      rcases abs_sg t ((n : Rat) * tp j) with ⟨e, _⟩ | ⟨e, _⟩ <;> rw [e] <;> constructor <;> grind
    rw [← hv] at a5
    exact abs_le (s := s) a5.1 a5.2
theorem fits_qn : fits (qn .f64) = true := by unfold fits; rw [isN_qn]; rfl
theorem sqC_fits (c : Nat) : fits (sqC (wide c)) = true := by
  unfold sqC
  cases h : FloatKind.f64.format.sqrt (wide c) with
  | none => exact fits_qn
  | some r =>
    show fits r = true
    have hr : ∃ d, (FloatKind.f64.format.read (wide c)).root 54 = some d ∧ FloatKind.f64.format.write d = r := by
      have h' : ((FloatKind.f64.format.read (wide c)).root 54).map FloatKind.f64.format.write = some r := h
      cases hd : (FloatKind.f64.format.read (wide c)).root 54 with
      | none => rw [hd] at h'; cases h'
      | some d => rw [hd] at h'; exact ⟨d, rfl, by simpa using h'⟩
    obtain ⟨d, h1, rfl⟩ := hr
    cases h2 : FloatKind.f64.format.read (wide c) with
    | nan s t => rw [h2] at h1; cases h1
    | infinity s =>
      rw [h2] at h1
      have h1' : (if s then none else some (Ieee.Datum.infinity s)) = some d := h1
      cases s with
      | true => cases h1'
      | false =>
        cases h1'
        decide +kernel
    | number s m i =>
      rw [h2] at h1
      have hw : fnt .f64 (wide c) = true := by unfold fnt; rw [h2]; rfl
      have hv : (m : Rat) * tp i ≤ tp 128 := wide_bd h2
      obtain ⟨g1, g2, g3⟩ := root_bnd hv h1
      have key := write_rnd FloatKind.f64.format d g1 (fmt_exp .f64) 70 (by rw [top_eq]; decide) g2 g3
      have hb : Bnd .f64 (FloatKind.f64.format.write d) (tp 70) := by
        have k2 : Rnd FloatKind.f64.format (dv d) (fv .f64 (FloatKind.f64.format.write d)) := key.2
        exact ⟨key.1, k2.rep_ge (Rep.tp 70 (by decide) (by decide)).neg (by grind), k2.rep_le (Rep.tp 70 (by decide) (by decide)) g2⟩
      exact (narrow_bnd hb (Rep.tp 70 (by decide) (by decide))).1
end Go.Proofs.Ytjeeflldbhajiaa
set_option linter.unusedSimpArgs false
set_option linter.unusedVariables false
set_option linter.unusedSectionVars false
namespace Go.Proofs.Ytjeeflldbhajiaa
open Go Go.RowKit
theorem rootFrom_sq (n : Nat) : ∀ todo root : Nat, root * root ≤ n → n < (root + 2 ^ todo) * (root + 2 ^ todo) → Ieee.Datum.rootFrom n todo root * Ieee.Datum.rootFrom n todo root ≤ n ∧ n < (Ieee.Datum.rootFrom n todo root + 1) * (Ieee.Datum.rootFrom n todo root + 1)
  | 0, root, h1, h2 => by
    simp only [Ieee.Datum.rootFrom]
    exact ⟨h1, by simpa using h2⟩
  | todo + 1, root, h1, h2 => by
    unfold Ieee.Datum.rootFrom
    simp only [Nat.shiftLeft_eq, Nat.one_mul]
    split
    · rename_i h
      exact rootFrom_sq n todo _ h (by rw [show root + 2 ^ todo + 2 ^ todo = root + 2 ^ (todo + 1) by rw [Nat.pow_succ]; omega]; exact h2)
    · rename_i h
      exact rootFrom_sq n todo _ h1 (by omega)
/-- A root's datum: whole number and place; its square is near. -/
theorem root_val {m : Nat} {i : Int} {d : Ieee.Datum} (hm : m ≠ 0) (h : Ieee.Datum.root 54 (.number false m i) = some d) : isNum d = true ∧ ∃ (W c : Nat) (p : Int), dv d = (c : Rat) * tp (p - 1) ∧ (c = 2 * W ∨ c = 2 * W + 1) ∧ 2 ^ 53 ≤ W ∧ ((W : Rat) * (W : Rat)) * tp (p + p) ≤ (m : Rat) * tp i ∧ (m : Rat) * tp i ≤ (((W : Rat) + 1) * ((W : Rat) + 1)) * tp (p + p) := by
  unfold Ieee.Datum.root at h
  dsimp only at h
  rw [if_neg hm] at h
  simp only [Bool.false_eq_true, if_false, Option.some.injEq, Nat.shiftLeft_eq] at h
  obtain ⟨M, hM⟩ : ∃ M, M = 2 * 54 - m.log2 + ((i - (2 * 54 - m.log2 : Nat)) % 2).toNat := ⟨_, rfl⟩
  rw [← hM] at h
  have hev : (i - (M : Int)) % 2 = 0 := by
    have hM2 : (M : Int) = ((2 * 54 - m.log2 : Nat) : Int) + (i - ((2 * 54 - m.log2 : Nat) : Int)) % 2 := by omega
    omega
  obtain ⟨n, hn⟩ : ∃ n, n = m * 2 ^ M := ⟨_, rfl⟩
  rw [← hn] at h
  obtain ⟨W, hW⟩ : ∃ W, W = Ieee.Datum.rootFrom n (n.log2 / 2 + 1) 0 := ⟨_, rfl⟩
  rw [← hW] at h
  have hn0 : n ≠ 0 := by rw [hn]; exact Nat.mul_ne_zero hm (Nat.ne_of_gt (Nat.two_pow_pos M))
  have hbig : 2 ^ 107 ≤ n := by
    rw [hn]
    have h1 := Nat.log2_self_le hm
    have h2 : 2 ^ m.log2 * 2 ^ M ≤ m * 2 ^ M := Nat.mul_le_mul_right _ h1
    rw [← Nat.pow_add] at h2
    refine Nat.le_trans (Nat.pow_le_pow_right (by decide) (by omega)) h2
  obtain ⟨s1, s2⟩ := rootFrom_sq n (n.log2 / 2 + 1) 0 (Nat.zero_le _) (by
    rw [Nat.zero_add, ← Nat.pow_add]
    refine Nat.lt_of_lt_of_le Nat.lt_log2_self (Nat.pow_le_pow_right (by decide) (by omega)))
  rw [← hW] at s1 s2
  have hW53 : 2 ^ 53 ≤ W := by
    by_cases hlt : W < 2 ^ 53
    · exfalso
      have : (W + 1) * (W + 1) ≤ 2 ^ 53 * 2 ^ 53 := Nat.mul_le_mul hlt hlt
      rw [← Nat.pow_add] at this
      have : 2 ^ (53 + 53) ≤ 2 ^ 107 := Nat.pow_le_pow_right (by decide) (by decide)
      omega
    · omega
  subst h
  refine ⟨rfl, W, 2 * W + (W * W != n).toNat, (i - (M : Int)) / 2, by simp [dv, sg], by cases (W * W != n) <;> simp, hW53, ?_, ?_⟩
  · have c1 : (W : Rat) * (W : Rat) ≤ (n : Rat) := by exact_mod_cast s1
    have e1 : (m : Rat) * tp i = (n : Rat) * tp ((i - (M : Int)) / 2 + (i - (M : Int)) / 2) := by
      rw [hn, Rat.natCast_mul, ← tp_nat, show (i - (M : Int)) / 2 + (i - (M : Int)) / 2 = i - M by omega, Rat.mul_assoc, ← tp_add]
      congr 2; omega
    rw [e1]
    exact Rat.mul_le_mul_of_nonneg_right c1 (Rat.le_of_lt (tp_pos _))
  · have c1 : (n : Rat) ≤ ((W : Rat) + 1) * ((W : Rat) + 1) := by
      have : (n : Rat) ≤ (((W + 1) * (W + 1) : Nat) : Rat) := by exact_mod_cast Nat.le_of_lt s2
      rw [Rat.natCast_mul, Rat.natCast_add] at this
      exact this
    have e1 : (m : Rat) * tp i = (n : Rat) * tp ((i - (M : Int)) / 2 + (i - (M : Int)) / 2) := by
      rw [hn, Rat.natCast_mul, ← tp_nat, show (i - (M : Int)) / 2 + (i - (M : Int)) / 2 = i - M by omega, Rat.mul_assoc, ← tp_add]
      congr 2; omega
    rw [e1]
    exact Rat.mul_le_mul_of_nonneg_right c1 (Rat.le_of_lt (tp_pos _))
/-- The root is between these: its lower bound's square is no more than the number, its upper bound's no less; they lie a relative 2^-53 apart. -/
theorem root_near {x : Nat} (hx : fnt .f64 x = true) (h0 : 0 < fv .f64 x) : ∃ (lo u : Rat) (d : Ieee.Datum), FloatKind.f64.format.sqrt x = some (FloatKind.f64.format.write d) ∧ isNum d = true ∧ 0 < u ∧ u * 9007199254740992 ≤ lo ∧ lo ≤ dv d ∧ dv d ≤ lo + u ∧ lo * lo ≤ fv .f64 x ∧ fv .f64 x ≤ (lo + u) * (lo + u) := by
  have hx' := hx
  unfold fnt at hx'
  unfold fv at h0 ⊢
  cases e : FloatKind.f64.format.read x with
  | nan s t => rw [e] at hx'; cases hx'
  | infinity s => rw [e] at hx'; cases hx'
  | number s m i =>
    rw [e] at h0
    have t0 := tp_pos i
    have mn : (0 : Rat) ≤ (m : Rat) := by exact_mod_cast Nat.zero_le m
    have mm := Rat.mul_nonneg mn (Rat.le_of_lt t0)
    have hs : s = false := by
      cases s with
      | false => rfl
      | true => exfalso; simp only [dv, sg] at h0; grind
    subst hs
    have hm : m ≠ 0 := by
      rintro rfl
      simp [dv] at h0
    have hd : ∃ d, Ieee.Datum.root 54 (.number false m i) = some d := by
      unfold Ieee.Datum.root
      dsimp only
      rw [if_neg hm]
      exact ⟨_, rfl⟩
    obtain ⟨d, hd⟩ := hd
    obtain ⟨g0, W, c, p, g1, g2, g3, g4, g5⟩ := root_val hm hd
    have tq := tp_pos (p - 1)
    have tpp := tp_pos p
    have e1 : tp p = 2 * tp (p - 1) := by have := tp_succ (p - 1); rwa [show p - 1 + 1 = p by omega] at this
    have e2 : tp (p + p) = tp p * tp p := tp_add p p
    have vx : dv (Ieee.Datum.number false m i) = (m : Rat) * tp i := by simp [dv, sg]
    refine ⟨(W : Rat) * tp p, tp p, d, ?_, g0, tpp, ?_, ?_, ?_, ?_, ?_⟩
    · have : FloatKind.f64.format.sqrt x = ((FloatKind.f64.format.read x).root 54).map FloatKind.f64.format.write := rfl
      rw [this, e, hd]; rfl
    · have : ((2 ^ 53 : Nat) : Rat) ≤ (W : Rat) := by exact_mod_cast g3
      have := Rat.mul_le_mul_of_nonneg_right this (Rat.le_of_lt tpp)
      have e9 : ((2 ^ 53 : Nat) : Rat) = 9007199254740992 := by decide +kernel
      rw [e9] at this; grind
    · rw [g1, e1]
      rcases g2 with rfl | rfl
      · rw [Rat.natCast_mul]; have : ((2 : Nat) : Rat) = 2 := rfl; rw [this]; grind
      · rw [Rat.natCast_add, Rat.natCast_mul]; have : ((2 : Nat) : Rat) = 2 := rfl; have h1 : ((1 : Nat) : Rat) = 1 := rfl; rw [this, h1]; grind
    · rw [g1, e1]
      rcases g2 with rfl | rfl
      · rw [Rat.natCast_mul]; have : ((2 : Nat) : Rat) = 2 := rfl; rw [this]; grind
      · rw [Rat.natCast_add, Rat.natCast_mul]; have : ((2 : Nat) : Rat) = 2 := rfl; have h1 : ((1 : Nat) : Rat) = 1 := rfl; rw [this, h1]; grind
    · rw [vx]; rw [e2] at g4; grind
    · rw [vx]; rw [e2] at g5
      have : ((W : Rat) * tp p + tp p) * ((W : Rat) * tp p + tp p) = ((W : Rat) + 1) * ((W : Rat) + 1) * (tp p * tp p) := by grind
      rw [this]; exact g5
end Go.Proofs.Ytjeeflldbhajiaa
set_option linter.unusedSimpArgs false
set_option linter.unusedVariables false
set_option linter.unusedSectionVars false
namespace Go.Proofs.Ytjeeflldbhajiaa
open Go Go.RowKit
theorem run_sqrt (x : Nat) (w : World) : ∃ r n, (callFunc 125 #[.float .f64 x]).run Try.prog w = .ok (.value (.float .f64 r)) (w.drewN n) ∧ cn .f64 r = sqC (cn .f64 x) := by
  have h := run_callFunc_extern (P := Try.prog) (e := Extern.MathSqrt.sqrt) Try.func125 (by kernel_rfl) (by kernel_rfl) (by kernel_rfl) (by kernel_rfl) #[.float .f64 x] w
  have hq : Extern.MathSqrt.sqrt #[.float .f64 x] = (match FloatKind.f64.format.sqrt x with | some r => pure (.float .f64 r) | none => do pure (.float .f64 (← choose (.nanBits .f64 x x)))) := rfl
  rw [h, sqC_cn, hq]
  unfold sqC
  cases hs : FloatKind.f64.format.sqrt x with
  | some r =>
    refine ⟨r, 0, ?_, ?_⟩
    · simp [hs, Result.andThen]; rfl
    · exact cn_of_not (map_write_not_nan (fun _ => root_not_nan) hs)
  | none =>
    have hf : (Question.nanBits .f64 x x).forced = false := rfl
    refine ⟨(Question.nanBits .f64 x x).cut (w.tape w.drawn (.nanBits .f64 x x)), 1, ?_, ?_⟩
    · simp [hs, hf, World.drew_is_drewN, Result.andThen]
    · rw [cn_of_isN (isN_nanBits _ _ _ _)]; rfl
theorem wpList_sqrt {w : World} {ops : Array Oper} {rest : List Oper} {o : Oper} {a : Act} {Q : Exit → Act → World → Prop} (hg : o.guard = none) {X : Operand} {T : TypeId}
    (ho : o.op = .call { callee := .value (.func 125), args := #[X], argTypes := #[T] }) {x : Nat} (hx : a.eval X = .float .f64 x)
    (h : ∀ r n, (∀ cx, cn .f64 x = cx → cn .f64 r = sqC cx) → wpList Try.prog ops Q rest (a.put o.dst (.float .f64 r)) (w.drewN n)) : wpList Try.prog ops Q (o :: rest) a w := by
  obtain ⟨r, n, h1, h2⟩ := run_sqrt x w
  refine wpList_plain hg fun K hK => ?_
  have he : (execOp a.eval o).run Try.prog w = .ok (.value (.float .f64 r)) (w.drewN n) := by
    unfold execOp
    simp only [ho, resolve, invoke, Sem.run_bind, Sem.run_pure, Result.andThen_ok, List.map_toArray, List.map_cons, List.map_nil, hx, h1]
    have ef : a.eval (.func 125) = .func (.func 125) #[] #[] := rfl
    rw [ef]
    simp [Deferred.ofValue, h1, Result.andThen]
  unfold Oper.wp
  rw [he]
  exact hK _ _ (h r n (by rintro cx rfl; exact h2))
end Go.Proofs.Ytjeeflldbhajiaa
set_option linter.unusedSimpArgs false
set_option linter.unusedVariables false
set_option linter.unusedSectionVars false
namespace Go.Proofs.Ytjeeflldbhajiaa
open Go Go.RowKit
theorem erV_far {x : Nat} (h : fge .f64 x (cn .f64 4616189618054758400) = true) : erV x = cn .f64 4607182418800017408 := by unfold erV; rw [if_pos h]
theorem erV_low {x : Nat} (h : fge .f64 x (cn .f64 4616189618054758400) = false) (h1 : fle .f64 x (cn .f64 13839561654909534208) = true) : erV x = cn .f64 13830554455654793216 := by unfold erV; rw [if_neg (by rw [h]; decide), if_pos h1]
theorem erV_mid {x : Nat} (h : fge .f64 x (cn .f64 4616189618054758400) = false) (h1 : fle .f64 x (cn .f64 13839561654909534208) = false) : erV x = fop .mul .f64 (cn .f64 4607760587169110893) (erS x 60) := by unfold erV; rw [if_neg (by rw [h]; decide), if_neg (by rw [h1]; decide)]
set_option maxHeartbeats 2000000 in
theorem errorOf_any (x : Nat) (w : World) : Calls Try.prog 100 #[.float .f64 x] w (RF w .f64 (erV (cn .f64 x))) := by
  rcases h0 : fge .f64 (cn .f64 x) (cn .f64 4616189618054758400)
  · rcases h1 : fle .f64 (cn .f64 x) (cn .f64 13839561654909534208)
    · rw [erV_mid h0 h1]
      go_enter Try.func100, Try.ntmps100
      go_wp2_with (first | (with_reducible refine at_list ?_; refine wpList_fop rfl rfl rfl rfl rfl ?_; intro r n hr0; have hr := hr0 _ _ (by first | with_reducible assumption | exact rfl) (by first | with_reducible assumption | exact rfl); clear hr0) | (with_reducible refine at_list ?_; refine wpList_neg rfl rfl rfl ?_; intro r hr0; have hr := hr0 _ (by first | with_reducible assumption | exact rfl); clear hr0) | (with_reducible refine at_list ?_; refine wpList_fop_g rfl rfl rfl rfl rfl ?_; intro r n hr0; have hr := hr0 _ _ (by first | with_reducible assumption | exact rfl) (by first | with_reducible assumption | exact rfl); clear hr0) | (with_reducible refine at_list ?_; refine wpList_wide_g rfl rfl Try.underlying22 Try.underlying40 rfl ?_; intro r n hr0; have hr := hr0 _ (by first | with_reducible assumption | exact rfl); clear hr0) | (with_reducible refine at_list ?_; refine wpList_wide rfl rfl rfl Try.underlying22 Try.underlying40 ?_; intro r n hr0; have hr := hr0 _ (by first | with_reducible assumption | exact rfl); clear hr0))
      obtain ⟨X, hX⟩ : ∃ X, X = cn .f64 x := ⟨_, rfl⟩
      have hX' := hX.symm
      rw [hX']
      have HXX := Lib.hid hX
      clear h0 h1 hX
      go_loopw [3, 4, 5] (fun t s z wr => ∃ k m r1 r2 r3 : Nat, k ≤ 60 ∧ t = .float .f64 r1 ∧ s = .float .f64 r2 ∧ z = .float .f64 r3 ∧ Hid (cn .f64 r1 = erT X k) ∧ Hid (cn .f64 r2 = erS X k) ∧ Hid (cn .f64 r3 = fI ((k : Int) + 1)) ∧ wr = w.drewN m) (fun _ _ z _ => 61 - idxF (cn .f64 (fltOf z)))
      case atStart => exact ⟨0, 0, _, _, _, by omega, rfl, rfl, rfl, hX', rfl, fI_one.symm, rfl⟩
      case round =>
        obtain ⟨k, m, r1, r2, r3, hk, rfl, rfl, rfl, H1, H2, H3, rfl⟩ := hrel
        by_cases hlt : k < 60
        · obtain ⟨⟨e1, e2⟩, e3, e4⟩ := fI_step k hlt
          have HT : Hid (erT X (k + 1) = fop .quo .f64 (fop .mul .f64 (fop .mul .f64 (erT X k) (fneg .f64 (fop .mul .f64 X X))) (fI (2 * k + 1))) (fI ((k + 1) * (2 * k + 3)))) := rfl
          have HSS : Hid (erS X (k + 1) = fop .add .f64 (erS X k) (erT X k)) := rfl
          have HI1 := Lib.hid (idx_fI (k + 1) (by omega))
          have HI2 := Lib.hid (idx_fI (k + 2) (by omega))
          have E1 := Lib.hid e1
          have E2 := Lib.hid e2
          have E3 := Lib.hid e3
          have k1 := H1.out
          have k2 := H2.out
          have k3 := H3.out
          generalize erT X k = T at *
          generalize erS X k = S at *
          obtain ⟨F, hF⟩ : ∃ F, F = fI ((k : Int) + 1) := ⟨_, rfl⟩
          rw [← hF] at k3 e4
          have HF := Lib.hid hF
          clear e1 e2 e3 hF H1 H2
          go_wp2_with (first | (with_reducible refine at_list ?_; refine wpList_fop rfl rfl rfl rfl rfl ?_; intro r n hr0; have hr := hr0 _ _ (by first | with_reducible assumption | exact rfl) (by first | with_reducible assumption | exact rfl); clear hr0) | (with_reducible refine at_list ?_; refine wpList_neg rfl rfl rfl ?_; intro r hr0; have hr := hr0 _ (by first | with_reducible assumption | exact rfl); clear hr0) | (with_reducible refine at_list ?_; refine wpList_fop_g rfl rfl rfl rfl rfl ?_; intro r n hr0; have hr := hr0 _ _ (by first | with_reducible assumption | exact rfl) (by first | with_reducible assumption | exact rfl); clear hr0) | (with_reducible refine at_list ?_; refine wpList_wide_g rfl rfl Try.underlying22 Try.underlying40 rfl ?_; intro r n hr0; have hr := hr0 _ (by first | with_reducible assumption | exact rfl); clear hr0) | (with_reducible refine at_list ?_; refine wpList_wide rfl rfl rfl Try.underlying22 Try.underlying40 ?_; intro r n hr0; have hr := hr0 _ (by first | with_reducible assumption | exact rfl); clear hr0))
          have HF' := HF.out
          subst HF'
          go_roundw
          case rel => exact ⟨k + 1, _, _, _, _, by omega, rfl, rfl, rfl, by show _ = _; rw [HT.out, ← E2.out, ← E3.out]; assumption, by show _ = _; rw [HSS.out]; assumption, by show _ = _; rw [← E1.out]; assumption, rfl⟩
          case measure =>
            have a1 : idxF (cn .f64 r3) = k + 1 := by
              rw [k3, show (k : Int) + 1 = ((k + 1 : Nat) : Int) by omega]; exact HI1.out
            have a2 : ∀ r, cn .f64 r = fop .add .f64 (fI ((k : Int) + 1)) (cn .f64 4607182418800017408) → idxF (cn .f64 r) = k + 2 := by
              intro r h
              rw [h, E1.out, show ((k + 1 : Nat) : Int) + 1 = ((k + 2 : Nat) : Int) by omega]; exact HI2.out
            show 61 - idxF (cn .f64 _) < 61 - idxF (cn .f64 _)
            simp only [fltOf]
            rw [a1, a2 _ (by assumption)]
            omega
        · have he : k = 60 := by omega
          subst he
          have k2 := H2.out
          have k3 := H3.out
          obtain ⟨F, hF⟩ : ∃ F, F = fI (((60 : Nat) : Int) + 1) := ⟨_, rfl⟩
          rw [← hF] at k3
          have e4 : fle .f64 F (cn .f64 4633641066610819072) = false := by rw [hF]; exact fI_end
          obtain ⟨S, hS⟩ : ∃ S, S = erS X 60 := ⟨_, rfl⟩
          rw [← hS] at k2
          have HK : Hid (fop .mul .f64 (cn .f64 4607760587169110893) S = fop .mul .f64 (cn .f64 4607760587169110893) (erS (cn .f64 x) 60)) := by show _ = _; rw [hS, HXX.out]
          clear hF H1 H2 H3 hX' hS
          go_wp2_with (first | (with_reducible refine at_list ?_; refine wpList_fop rfl rfl rfl rfl rfl ?_; intro r n hr0; have hr := hr0 _ _ (by first | with_reducible assumption | exact rfl) (by first | with_reducible assumption | exact rfl); clear hr0) | (with_reducible refine at_list ?_; refine wpList_neg rfl rfl rfl ?_; intro r hr0; have hr := hr0 _ (by first | with_reducible assumption | exact rfl); clear hr0) | (with_reducible refine at_list ?_; refine wpList_fop_g rfl rfl rfl rfl rfl ?_; intro r n hr0; have hr := hr0 _ _ (by first | with_reducible assumption | exact rfl) (by first | with_reducible assumption | exact rfl); clear hr0) | (with_reducible refine at_list ?_; refine wpList_wide_g rfl rfl Try.underlying22 Try.underlying40 rfl ?_; intro r n hr0; have hr := hr0 _ (by first | with_reducible assumption | exact rfl); clear hr0) | (with_reducible refine at_list ?_; refine wpList_wide rfl rfl rfl Try.underlying22 Try.underlying40 ?_; intro r n hr0; have hr := hr0 _ (by first | with_reducible assumption | exact rfl); clear hr0))
          go_ret
          exact ⟨_, rfl, by rw [← HK.out]; assumption, _, rfl⟩
    · rw [erV_low h0 h1]
      go_enter Try.func100, Try.ntmps100
      go_wp2_with (first | (with_reducible refine at_list ?_; refine wpList_fop rfl rfl rfl rfl rfl ?_; intro r n hr0; have hr := hr0 _ _ (by first | with_reducible assumption | exact rfl) (by first | with_reducible assumption | exact rfl); clear hr0) | (with_reducible refine at_list ?_; refine wpList_neg rfl rfl rfl ?_; intro r hr0; have hr := hr0 _ (by first | with_reducible assumption | exact rfl); clear hr0) | (with_reducible refine at_list ?_; refine wpList_fop_g rfl rfl rfl rfl rfl ?_; intro r n hr0; have hr := hr0 _ _ (by first | with_reducible assumption | exact rfl) (by first | with_reducible assumption | exact rfl); clear hr0) | (with_reducible refine at_list ?_; refine wpList_wide_g rfl rfl Try.underlying22 Try.underlying40 rfl ?_; intro r n hr0; have hr := hr0 _ (by first | with_reducible assumption | exact rfl); clear hr0) | (with_reducible refine at_list ?_; refine wpList_wide rfl rfl rfl Try.underlying22 Try.underlying40 ?_; intro r n hr0; have hr := hr0 _ (by first | with_reducible assumption | exact rfl); clear hr0))
      go_ret
      exact ⟨_, rfl, rfl, 0, rfl⟩
  · rw [erV_far h0]
    go_enter Try.func100, Try.ntmps100
    go_wp2_with (first | (with_reducible refine at_list ?_; refine wpList_fop rfl rfl rfl rfl rfl ?_; intro r n hr0; have hr := hr0 _ _ (by first | with_reducible assumption | exact rfl) (by first | with_reducible assumption | exact rfl); clear hr0) | (with_reducible refine at_list ?_; refine wpList_neg rfl rfl rfl ?_; intro r hr0; have hr := hr0 _ (by first | with_reducible assumption | exact rfl); clear hr0) | (with_reducible refine at_list ?_; refine wpList_fop_g rfl rfl rfl rfl rfl ?_; intro r n hr0; have hr := hr0 _ _ (by first | with_reducible assumption | exact rfl) (by first | with_reducible assumption | exact rfl); clear hr0) | (with_reducible refine at_list ?_; refine wpList_wide_g rfl rfl Try.underlying22 Try.underlying40 rfl ?_; intro r n hr0; have hr := hr0 _ (by first | with_reducible assumption | exact rfl); clear hr0) | (with_reducible refine at_list ?_; refine wpList_wide rfl rfl rfl Try.underlying22 Try.underlying40 ?_; intro r n hr0; have hr := hr0 _ (by first | with_reducible assumption | exact rfl); clear hr0))
    go_ret
    exact ⟨_, rfl, rfl, 0, rfl⟩
end Go.Proofs.Ytjeeflldbhajiaa
set_option linter.unusedSimpArgs false
set_option linter.unusedVariables false
set_option linter.unusedSectionVars false
namespace Go.Proofs.Ytjeeflldbhajiaa
open Go Go.RowKit
theorem idx_down : ∀ j : Nat, j < 13 → idxF (fI (12 - (j : Int))) = 12 - j := by decide +kernel
set_option maxHeartbeats 2000000 in
theorem exponential_any (x : Nat) (w : World) (h : exOk (cn .f64 x)) : Calls Try.prog 99 #[.float .f64 x] w (RF w .f64 (exV (cn .f64 x))) := by
  obtain ⟨hq, h1, h2⟩ := h
  obtain ⟨T, hT⟩ : ∃ T, T = fop .quo .f64 (cn .f64 x) (cn .f64 4643211215818981376) := ⟨_, rfl⟩
  have HV : Hid (exV (cn .f64 x) = exQ (exP T 12) 8) := by show _ = _; rw [hT]; rfl
  rw [HV.out]
  have HT := Lib.hid hT
  clear hT
  go_enter Try.func99, Try.ntmps99
  go_wp2_with (first | (with_reducible refine at_list ?_; refine wpList_fop rfl rfl rfl rfl rfl ?_; intro r n hr0; have hr := hr0 _ _ (by first | with_reducible assumption | exact rfl) (by first | with_reducible assumption | exact rfl); clear hr0) | (with_reducible refine at_list ?_; refine wpList_neg rfl rfl rfl ?_; intro r hr0; have hr := hr0 _ (by first | with_reducible assumption | exact rfl); clear hr0) | (with_reducible refine at_list ?_; refine wpList_fop_g rfl rfl rfl rfl rfl ?_; intro r n hr0; have hr := hr0 _ _ (by first | with_reducible assumption | exact rfl) (by first | with_reducible assumption | exact rfl); clear hr0) | (with_reducible refine at_list ?_; refine wpList_wide_g rfl rfl Try.underlying22 Try.underlying40 rfl ?_; intro r n hr0; have hr := hr0 _ (by first | with_reducible assumption | exact rfl); clear hr0) | (with_reducible refine at_list ?_; refine wpList_wide rfl rfl rfl Try.underlying22 Try.underlying40 ?_; intro r n hr0; have hr := hr0 _ (by first | with_reducible assumption | exact rfl); clear hr0))
  go_loopw [4, 5] (fun p z wr => ∃ k m r1 r2 : Nat, k ≤ 12 ∧ p = .float .f64 r1 ∧ z = .float .f64 r2 ∧ Hid (cn .f64 r1 = exP T k) ∧ Hid (cn .f64 r2 = fI (12 - (k : Int))) ∧ wr = w.drewN m) (fun _ z _ => idxF (cn .f64 (fltOf z)))
  case atStart => exact ⟨0, _, _, _, by omega, rfl, rfl, rfl, fI_12.symm, rfl⟩
  case round =>
    obtain ⟨k, m, r1, r2, hk, rfl, rfl, H1, H2, rfl⟩ := hrel
    by_cases hlt : k < 12
    · obtain ⟨e1, e2⟩ := fI_down k hlt
      have HP : Hid (exP T (k + 1) = fop .add .f64 (cn .f64 4607182418800017408) (fop .quo .f64 (fop .mul .f64 T (exP T k)) (fI (12 - (k : Int))))) := rfl
      have HI1 := Lib.hid (idx_down k (by omega))
      have HI2 := Lib.hid (idx_down (k + 1) (by omega))
      have E2 := Lib.hid e2
      have k1 := H1.out
      have k2 := H2.out
      generalize exP T k = S at *
      obtain ⟨F, hF⟩ : ∃ F, F = fI (12 - (k : Int)) := ⟨_, rfl⟩
      rw [← hF] at k2 e1
      have HF := Lib.hid hF
      clear e2 hF H1 H2
      go_wp2_with (first | (with_reducible refine at_list ?_; refine wpList_fop rfl rfl rfl rfl rfl ?_; intro r n hr0; have hr := hr0 _ _ (by first | with_reducible assumption | exact rfl) (by first | with_reducible assumption | exact rfl); clear hr0) | (with_reducible refine at_list ?_; refine wpList_neg rfl rfl rfl ?_; intro r hr0; have hr := hr0 _ (by first | with_reducible assumption | exact rfl); clear hr0) | (with_reducible refine at_list ?_; refine wpList_fop_g rfl rfl rfl rfl rfl ?_; intro r n hr0; have hr := hr0 _ _ (by first | with_reducible assumption | exact rfl) (by first | with_reducible assumption | exact rfl); clear hr0) | (with_reducible refine at_list ?_; refine wpList_wide_g rfl rfl Try.underlying22 Try.underlying40 rfl ?_; intro r n hr0; have hr := hr0 _ (by first | with_reducible assumption | exact rfl); clear hr0) | (with_reducible refine at_list ?_; refine wpList_wide rfl rfl rfl Try.underlying22 Try.underlying40 ?_; intro r n hr0; have hr := hr0 _ (by first | with_reducible assumption | exact rfl); clear hr0))
      go_roundw
      case rel => exact ⟨k + 1, _, _, _, by omega, rfl, rfl, by show _ = _; rw [HP.out, HT.out, ← HF.out]; assumption, by show _ = _; rw [← E2.out, ← HF.out]; assumption, rfl⟩
      case measure =>
        have a1 : idxF (cn .f64 r2) = 12 - k := by rw [k2, HF.out]; exact HI1.out
        have a2 : ∀ r, cn .f64 r = fop .sub .f64 F (cn .f64 4607182418800017408) → idxF (cn .f64 r) = 12 - (k + 1) := by
          intro r h
          rw [h, HF.out, E2.out]; exact HI2.out
        simp only [fltOf]
        rw [a1, a2 _ (by assumption)]
        omega
    · have he : k = 12 := by omega
      subst he
      have k1 := H1.out
      have k2 := H2.out
      obtain ⟨F, hF⟩ : ∃ F, F = fI (12 - ((12 : Nat) : Int)) := ⟨_, rfl⟩
      rw [← hF] at k2
      have e1 : fge .f64 F (cn .f64 4607182418800017408) = false := by rw [hF]; exact fI_0
      obtain ⟨S, hS⟩ : ∃ S, S = exP T 12 := ⟨_, rfl⟩
      rw [← hS] at k1
      have HS := Lib.hid hS
      clear hF H1 H2 hS
      go_wp2_with (first | (with_reducible refine at_list ?_; refine wpList_fop rfl rfl rfl rfl rfl ?_; intro r n hr0; have hr := hr0 _ _ (by first | with_reducible assumption | exact rfl) (by first | with_reducible assumption | exact rfl); clear hr0) | (with_reducible refine at_list ?_; refine wpList_neg rfl rfl rfl ?_; intro r hr0; have hr := hr0 _ (by first | with_reducible assumption | exact rfl); clear hr0) | (with_reducible refine at_list ?_; refine wpList_fop_g rfl rfl rfl rfl rfl ?_; intro r n hr0; have hr := hr0 _ _ (by first | with_reducible assumption | exact rfl) (by first | with_reducible assumption | exact rfl); clear hr0) | (with_reducible refine at_list ?_; refine wpList_wide_g rfl rfl Try.underlying22 Try.underlying40 rfl ?_; intro r n hr0; have hr := hr0 _ (by first | with_reducible assumption | exact rfl); clear hr0) | (with_reducible refine at_list ?_; refine wpList_wide rfl rfl rfl Try.underlying22 Try.underlying40 ?_; intro r n hr0; have hr := hr0 _ (by first | with_reducible assumption | exact rfl); clear hr0))
      go_loopw [4, 25] (fun p z wr => ∃ k m r1 : Nat, k ≤ 8 ∧ p = .float .f64 r1 ∧ z = .int .i64 (k : Int) ∧ Hid (cn .f64 r1 = exQ S k) ∧ wr = w.drewN m) (fun _ z _ => 8 - (intOf z).toNat)
      case atStart => exact ⟨0, _, _, by omega, rfl, rfl, k1, rfl⟩
      case round =>
        clear k1 k2
        obtain ⟨k, m, r1, hk, rfl, rfl, H1, rfl⟩ := hrel
        have k1 := H1.out
        by_cases hlt : k < 8
        · have HP : Hid (exQ S (k + 1) = fop .mul .f64 (exQ S k) (exQ S k)) := rfl
          generalize exQ S k = A at *
          clear H1
          go_wp2_with (first | (with_reducible refine at_list ?_; refine wpList_fop rfl rfl rfl rfl rfl ?_; intro r n hr0; have hr := hr0 _ _ (by first | with_reducible assumption | exact rfl) (by first | with_reducible assumption | exact rfl); clear hr0) | (with_reducible refine at_list ?_; refine wpList_neg rfl rfl rfl ?_; intro r hr0; have hr := hr0 _ (by first | with_reducible assumption | exact rfl); clear hr0) | (with_reducible refine at_list ?_; refine wpList_fop_g rfl rfl rfl rfl rfl ?_; intro r n hr0; have hr := hr0 _ _ (by first | with_reducible assumption | exact rfl) (by first | with_reducible assumption | exact rfl); clear hr0) | (with_reducible refine at_list ?_; refine wpList_wide_g rfl rfl Try.underlying22 Try.underlying40 rfl ?_; intro r n hr0; have hr := hr0 _ (by first | with_reducible assumption | exact rfl); clear hr0) | (with_reducible refine at_list ?_; refine wpList_wide rfl rfl rfl Try.underlying22 Try.underlying40 ?_; intro r n hr0; have hr := hr0 _ (by first | with_reducible assumption | exact rfl); clear hr0))
          go_roundw
          case rel => exact ⟨k + 1, _, _, by omega, rfl, by go_num, by show _ = _; rw [HP.out]; assumption, rfl⟩
          case measure => simp only [intOf]; omega
        · have he : k = 8 := by omega
          subst he
          have HE : Hid (exQ S 8 = exQ (exP T 12) 8) := by show _ = _; rw [HS.out]
          have k1 := k1.trans HE.out
          clear H1
          go_wp2_with (first | (with_reducible refine at_list ?_; refine wpList_fop rfl rfl rfl rfl rfl ?_; intro r n hr0; have hr := hr0 _ _ (by first | with_reducible assumption | exact rfl) (by first | with_reducible assumption | exact rfl); clear hr0) | (with_reducible refine at_list ?_; refine wpList_neg rfl rfl rfl ?_; intro r hr0; have hr := hr0 _ (by first | with_reducible assumption | exact rfl); clear hr0) | (with_reducible refine at_list ?_; refine wpList_fop_g rfl rfl rfl rfl rfl ?_; intro r n hr0; have hr := hr0 _ _ (by first | with_reducible assumption | exact rfl) (by first | with_reducible assumption | exact rfl); clear hr0) | (with_reducible refine at_list ?_; refine wpList_wide_g rfl rfl Try.underlying22 Try.underlying40 rfl ?_; intro r n hr0; have hr := hr0 _ (by first | with_reducible assumption | exact rfl); clear hr0) | (with_reducible refine at_list ?_; refine wpList_wide rfl rfl rfl Try.underlying22 Try.underlying40 ?_; intro r n hr0; have hr := hr0 _ (by first | with_reducible assumption | exact rfl); clear hr0))
          go_ret
          exact ⟨_, rfl, k1, _, rfl⟩
set_option maxHeartbeats 2000000 in
theorem l01ExpWide_any (x : Nat) (w : World) (h : exOk (cn .f64 x)) : Calls Try.prog 119 #[.float .f64 x] w (RF w .f64 (exV (cn .f64 x))) := by
  obtain ⟨hq, h1, h2⟩ := h
  obtain ⟨T, hT⟩ : ∃ T, T = fop .quo .f64 (cn .f64 x) (cn .f64 4643211215818981376) := ⟨_, rfl⟩
  have HV : Hid (exV (cn .f64 x) = exQ (exP T 12) 8) := by show _ = _; rw [hT]; rfl
  rw [HV.out]
  have HT := Lib.hid hT
  clear hT
  go_enter Try.func119, Try.ntmps119
  go_wp2_with (first | (with_reducible refine at_list ?_; refine wpList_fop rfl rfl rfl rfl rfl ?_; intro r n hr0; have hr := hr0 _ _ (by first | with_reducible assumption | exact rfl) (by first | with_reducible assumption | exact rfl); clear hr0) | (with_reducible refine at_list ?_; refine wpList_neg rfl rfl rfl ?_; intro r hr0; have hr := hr0 _ (by first | with_reducible assumption | exact rfl); clear hr0) | (with_reducible refine at_list ?_; refine wpList_fop_g rfl rfl rfl rfl rfl ?_; intro r n hr0; have hr := hr0 _ _ (by first | with_reducible assumption | exact rfl) (by first | with_reducible assumption | exact rfl); clear hr0) | (with_reducible refine at_list ?_; refine wpList_wide_g rfl rfl Try.underlying22 Try.underlying40 rfl ?_; intro r n hr0; have hr := hr0 _ (by first | with_reducible assumption | exact rfl); clear hr0) | (with_reducible refine at_list ?_; refine wpList_wide rfl rfl rfl Try.underlying22 Try.underlying40 ?_; intro r n hr0; have hr := hr0 _ (by first | with_reducible assumption | exact rfl); clear hr0))
  go_loopw [4, 5] (fun p z wr => ∃ (k m r1 : Nat) (j : Int), k ≤ 12 ∧ p = .float .f64 r1 ∧ z = .int .i64 j ∧ Hid (j = 12 - (k : Int)) ∧ Hid (cn .f64 r1 = exP T k) ∧ wr = w.drewN m) (fun _ z _ => (intOf z).toNat)
  case atStart => exact ⟨0, _, _, _, by omega, rfl, rfl, rfl, rfl, rfl⟩
  case round =>
    obtain ⟨k, m, r1, j, hk, rfl, rfl, HJ, H1, rfl⟩ := hrel
    have hj := HJ.out
    by_cases hlt : k < 12
    · have HP : Hid (exP T (k + 1) = fop .add .f64 (cn .f64 4607182418800017408) (fop .quo .f64 (fop .mul .f64 T (exP T k)) (fI (12 - (k : Int))))) := rfl
      have k1 := H1.out
      have HI : Hid (cn .f64 (floatOfInt .f64 j) = fI (12 - (k : Int))) := by show _ = _; rw [hj]; rfl
      have hge : j ≥ 1 := by omega
      have hle : j ≤ 12 := by omega
      clear hj
      generalize exP T k = S at *
      clear H1
      go_wp2_with (first | (with_reducible refine at_list ?_; refine wpList_fop rfl rfl rfl rfl rfl ?_; intro r n hr0; have hr := hr0 _ _ (by first | with_reducible assumption | exact rfl) (by first | with_reducible assumption | exact rfl); clear hr0) | (with_reducible refine at_list ?_; refine wpList_neg rfl rfl rfl ?_; intro r hr0; have hr := hr0 _ (by first | with_reducible assumption | exact rfl); clear hr0) | (with_reducible refine at_list ?_; refine wpList_fop_g rfl rfl rfl rfl rfl ?_; intro r n hr0; have hr := hr0 _ _ (by first | with_reducible assumption | exact rfl) (by first | with_reducible assumption | exact rfl); clear hr0) | (with_reducible refine at_list ?_; refine wpList_wide_g rfl rfl Try.underlying22 Try.underlying40 rfl ?_; intro r n hr0; have hr := hr0 _ (by first | with_reducible assumption | exact rfl); clear hr0) | (with_reducible refine at_list ?_; refine wpList_wide rfl rfl rfl Try.underlying22 Try.underlying40 ?_; intro r n hr0; have hr := hr0 _ (by first | with_reducible assumption | exact rfl); clear hr0))
      go_roundw
      case rel => exact ⟨k + 1, _, _, _, by omega, rfl, rfl, by show _ = _; have := HJ.out; omega, by show _ = _; rw [HP.out, HT.out, ← HI.out]; assumption, rfl⟩
      case measure => simp only [intOf]; omega
    · have he : k = 12 := by omega
      subst he
      have hj0 : j = 0 := by omega
      subst hj0
      have k1 := H1.out
      clear hj HJ
      obtain ⟨S, hS⟩ : ∃ S, S = exP T 12 := ⟨_, rfl⟩
      rw [← hS] at k1
      have HS := Lib.hid hS
      clear H1 hS
      go_wp2_with (first | (with_reducible refine at_list ?_; refine wpList_fop rfl rfl rfl rfl rfl ?_; intro r n hr0; have hr := hr0 _ _ (by first | with_reducible assumption | exact rfl) (by first | with_reducible assumption | exact rfl); clear hr0) | (with_reducible refine at_list ?_; refine wpList_neg rfl rfl rfl ?_; intro r hr0; have hr := hr0 _ (by first | with_reducible assumption | exact rfl); clear hr0) | (with_reducible refine at_list ?_; refine wpList_fop_g rfl rfl rfl rfl rfl ?_; intro r n hr0; have hr := hr0 _ _ (by first | with_reducible assumption | exact rfl) (by first | with_reducible assumption | exact rfl); clear hr0) | (with_reducible refine at_list ?_; refine wpList_wide_g rfl rfl Try.underlying22 Try.underlying40 rfl ?_; intro r n hr0; have hr := hr0 _ (by first | with_reducible assumption | exact rfl); clear hr0) | (with_reducible refine at_list ?_; refine wpList_wide rfl rfl rfl Try.underlying22 Try.underlying40 ?_; intro r n hr0; have hr := hr0 _ (by first | with_reducible assumption | exact rfl); clear hr0))
      go_loopw [4, 6] (fun p z wr => ∃ k m r1 : Nat, k ≤ 8 ∧ p = .float .f64 r1 ∧ z = .int .i64 (k : Int) ∧ Hid (cn .f64 r1 = exQ S k) ∧ wr = w.drewN m) (fun _ z _ => 8 - (intOf z).toNat)
      case atStart => exact ⟨0, _, _, by omega, rfl, rfl, k1, rfl⟩
      case round =>
        clear k1
        obtain ⟨k, m, r1, hk, rfl, rfl, H1, rfl⟩ := hrel
        have k1 := H1.out
        by_cases hlt : k < 8
        · have HP : Hid (exQ S (k + 1) = fop .mul .f64 (exQ S k) (exQ S k)) := rfl
          generalize exQ S k = A at *
          clear H1
          go_wp2_with (first | (with_reducible refine at_list ?_; refine wpList_fop rfl rfl rfl rfl rfl ?_; intro r n hr0; have hr := hr0 _ _ (by first | with_reducible assumption | exact rfl) (by first | with_reducible assumption | exact rfl); clear hr0) | (with_reducible refine at_list ?_; refine wpList_neg rfl rfl rfl ?_; intro r hr0; have hr := hr0 _ (by first | with_reducible assumption | exact rfl); clear hr0) | (with_reducible refine at_list ?_; refine wpList_fop_g rfl rfl rfl rfl rfl ?_; intro r n hr0; have hr := hr0 _ _ (by first | with_reducible assumption | exact rfl) (by first | with_reducible assumption | exact rfl); clear hr0) | (with_reducible refine at_list ?_; refine wpList_wide_g rfl rfl Try.underlying22 Try.underlying40 rfl ?_; intro r n hr0; have hr := hr0 _ (by first | with_reducible assumption | exact rfl); clear hr0) | (with_reducible refine at_list ?_; refine wpList_wide rfl rfl rfl Try.underlying22 Try.underlying40 ?_; intro r n hr0; have hr := hr0 _ (by first | with_reducible assumption | exact rfl); clear hr0))
          go_roundw
          case rel => exact ⟨k + 1, _, _, by omega, rfl, by go_num, by show _ = _; rw [HP.out]; assumption, rfl⟩
          case measure => simp only [intOf]; omega
        · have he : k = 8 := by omega
          subst he
          have HE : Hid (exQ S 8 = exQ (exP T 12) 8) := by show _ = _; rw [HS.out]
          have k1 := k1.trans HE.out
          clear H1
          go_wp2_with (first | (with_reducible refine at_list ?_; refine wpList_fop rfl rfl rfl rfl rfl ?_; intro r n hr0; have hr := hr0 _ _ (by first | with_reducible assumption | exact rfl) (by first | with_reducible assumption | exact rfl); clear hr0) | (with_reducible refine at_list ?_; refine wpList_neg rfl rfl rfl ?_; intro r hr0; have hr := hr0 _ (by first | with_reducible assumption | exact rfl); clear hr0) | (with_reducible refine at_list ?_; refine wpList_fop_g rfl rfl rfl rfl rfl ?_; intro r n hr0; have hr := hr0 _ _ (by first | with_reducible assumption | exact rfl) (by first | with_reducible assumption | exact rfl); clear hr0) | (with_reducible refine at_list ?_; refine wpList_wide_g rfl rfl Try.underlying22 Try.underlying40 rfl ?_; intro r n hr0; have hr := hr0 _ (by first | with_reducible assumption | exact rfl); clear hr0) | (with_reducible refine at_list ?_; refine wpList_wide rfl rfl rfl Try.underlying22 Try.underlying40 ?_; intro r n hr0; have hr := hr0 _ (by first | with_reducible assumption | exact rfl); clear hr0))
          go_ret
          exact ⟨_, rfl, k1, _, rfl⟩
set_option maxHeartbeats 2000000 in
theorem implStefan_any (x : Nat) (w : World) : Calls Try.prog 52 #[.float .f32 x] w (BFB w .f32 (stF (cn .f32 x)) (abv (cn .f32 x))) := by
  unfold stF
  rcases h0 : abv (cn .f32 x)
  · go_enter Try.func52, Try.ntmps52
    go_wp2_with (first | (with_reducible refine at_list ?_; refine wpList_fop rfl rfl rfl rfl rfl ?_; intro r n hr0; have hr := hr0 _ _ (by first | with_reducible assumption | exact rfl) (by first | with_reducible assumption | exact rfl); clear hr0) | (with_reducible refine at_list ?_; refine wpList_neg rfl rfl rfl ?_; intro r hr0; have hr := hr0 _ (by first | with_reducible assumption | exact rfl); clear hr0) | (with_reducible refine at_list ?_; refine wpList_fop_g rfl rfl rfl rfl rfl ?_; intro r n hr0; have hr := hr0 _ _ (by first | with_reducible assumption | exact rfl) (by first | with_reducible assumption | exact rfl); clear hr0) | (with_reducible refine at_list ?_; refine wpList_wide_g rfl rfl Try.underlying22 Try.underlying40 rfl ?_; intro r n hr0; have hr := hr0 _ (by first | with_reducible assumption | exact rfl); clear hr0) | (with_reducible refine at_list ?_; refine wpList_wide rfl rfl rfl Try.underlying22 Try.underlying40 ?_; intro r n hr0; have hr := hr0 _ (by first | with_reducible assumption | exact rfl); clear hr0) | (go_at_call 64; refine ((arePos1_any _ _ _ (FS1 (by go_simp <;> exact rfl))) ).mono ?_; rintro e w' ⟨rfl, n, rfl⟩) | (go_at_call 100; refine (errorOf_any _ _).mono ?_; rintro e w' ⟨r, rfl, hr, n, rfl⟩))
    go_ret2
    exact ⟨_, rfl, rfl, by (repeat (first | (with_reducible exact Below.refl _ _) | (with_reducible assumption) | (with_reducible refine below_then ?_ (by assumption)) | (with_reducible refine Below.trans ?_ (by assumption)) | (with_reducible refine below_drewN ?_ _) | (with_reducible apply Below.drew) | (with_reducible refine below_alloc ?_ _) | refine Below.setCell ?_ (by first | (simp; done) | (simp; omega)) _))⟩
  · obtain ⟨X, hX⟩ : ∃ X, X = wide (cn .f32 x) := ⟨_, rfl⟩
    rw [← hX]
    have HXX := Lib.hid hX
    clear hX
    go_enter Try.func52, Try.ntmps52
    go_wp2_with (first | (with_reducible refine at_list ?_; refine wpList_fop rfl rfl rfl rfl rfl ?_; intro r n hr0; have hr := hr0 _ _ (by first | with_reducible assumption | exact rfl) (by first | with_reducible assumption | exact rfl); clear hr0) | (with_reducible refine at_list ?_; refine wpList_neg rfl rfl rfl ?_; intro r hr0; have hr := hr0 _ (by first | with_reducible assumption | exact rfl); clear hr0) | (with_reducible refine at_list ?_; refine wpList_fop_g rfl rfl rfl rfl rfl ?_; intro r n hr0; have hr := hr0 _ _ (by first | with_reducible assumption | exact rfl) (by first | with_reducible assumption | exact rfl); clear hr0) | (with_reducible refine at_list ?_; refine wpList_wide_g rfl rfl Try.underlying22 Try.underlying40 rfl ?_; intro r n hr0; have hr := hr0 _ (by first | with_reducible assumption | exact rfl); clear hr0) | (with_reducible refine at_list ?_; refine wpList_wide rfl rfl rfl Try.underlying22 Try.underlying40 ?_; intro r n hr0; have hr := hr0 _ (by first | with_reducible assumption | exact rfl); clear hr0) | (go_at_call 64; refine ((arePos1_any _ _ _ (FS1 (by go_simp <;> exact rfl))) ).mono ?_; rintro e w' ⟨rfl, n, rfl⟩) | (go_at_call 100; refine (errorOf_any _ _).mono ?_; rintro e w' ⟨r, rfl, hr, n, rfl⟩))
    refine wp_named ?_
    intro ws hws
    have hBs : Below w.heap.size w ws := by rw [hws]; (repeat (first | (with_reducible exact Below.refl _ _) | (with_reducible assumption) | (with_reducible refine below_then ?_ (by assumption)) | (with_reducible refine Below.trans ?_ (by assumption)) | (with_reducible refine below_drewN ?_ _) | (with_reducible apply Below.drew) | (with_reducible refine below_alloc ?_ _) | refine Below.setCell ?_ (by first | (simp; done) | (simp; omega)) _))
    clear hws
    go_loopw [4, 5, 12] (fun a b z wr => ∃ k r1 r2 : Nat, k ≤ 50 ∧ a = .float .f64 r1 ∧ b = .float .f64 r2 ∧ z = .int .i64 (k : Int) ∧ Hid (cn .f64 r1 = (stLH X k).1) ∧ Hid (cn .f64 r2 = (stLH X k).2) ∧ Hid (Below w.heap.size w wr)) (fun _ _ z _ => 50 - (intOf z).toNat)
    case atStart => exact ⟨0, _, _, by omega, rfl, rfl, rfl, rfl, rfl, hBs⟩
    case round =>
      clear hBs
      obtain ⟨k, r1, r2, hk, rfl, rfl, rfl, H1, H2, HB⟩ := hrel
      have k1 := H1.out
      have k2 := H2.out
      have hB := HB.out
      by_cases hlt : k < 50
      · have HEX := Lib.hid (exOk_mid X (k := k))
        have HS : Hid (stLH X (k + 1) = if stB X (stLH X k).1 (stLH X k).2 then ((stLH X k).1, midW (stLH X k).1 (stLH X k).2) else (midW (stLH X k).1 (stLH X k).2, (stLH X k).2)) := rfl
        generalize (stLH X k).1 = A at *
        generalize (stLH X k).2 = D at *
        clear H1 H2
        have HMD : Hid (midW A D = (fop .quo .f64 (fop .add .f64 A D) (cn .f64 4611686018427387904))) := rfl
        rcases hb : stB X A D
        all_goals
          have HBB := Lib.hid hb
          have hfb := (show fgt .f64 (fop .mul .f64 (fop .mul .f64 (fop .mul .f64 (cn .f64 4610661241675116395) (fop .quo .f64 (fop .add .f64 A D) (cn .f64 4611686018427387904))) (exV (fop .mul .f64 (fop .quo .f64 (fop .add .f64 A D) (cn .f64 4611686018427387904)) (fop .quo .f64 (fop .add .f64 A D) (cn .f64 4611686018427387904))))) (erV (fop .quo .f64 (fop .add .f64 A D) (cn .f64 4611686018427387904)))) (wide (cn .f32 x)) = stB X A D by rw [← HXX.out]; rfl).trans hb
          clear hb hk
          go_wp2_with (first | (with_reducible refine at_list ?_; refine wpList_fop rfl rfl rfl rfl rfl ?_; intro r n hr0; have hr := hr0 _ _ (by first | with_reducible assumption | exact rfl) (by first | with_reducible assumption | exact rfl); clear hr0) | (with_reducible refine at_list ?_; refine wpList_neg rfl rfl rfl ?_; intro r hr0; have hr := hr0 _ (by first | with_reducible assumption | exact rfl); clear hr0) | (with_reducible refine at_list ?_; refine wpList_fop_g rfl rfl rfl rfl rfl ?_; intro r n hr0; have hr := hr0 _ _ (by first | with_reducible assumption | exact rfl) (by first | with_reducible assumption | exact rfl); clear hr0) | (with_reducible refine at_list ?_; refine wpList_wide_g rfl rfl Try.underlying22 Try.underlying40 rfl ?_; intro r n hr0; have hr := hr0 _ (by first | with_reducible assumption | exact rfl); clear hr0) | (with_reducible refine at_list ?_; refine wpList_wide rfl rfl rfl Try.underlying22 Try.underlying40 ?_; intro r n hr0; have hr := hr0 _ (by first | with_reducible assumption | exact rfl); clear hr0) | (go_at_call 64; refine (arePositive_any _ _ _ (by assumption)).mono ?_; rintro e w' ⟨rfl, n, rfl⟩) | (go_at_call 99; refine ((exponential_any _ _ (by simp only [*]; exact HEX.out)) ).mono ?_; rintro e w' ⟨r, rfl, hr, n, rfl⟩) | (go_at_call 100; refine (errorOf_any _ _).mono ?_; rintro e w' ⟨r, rfl, hr, n, rfl⟩))
          go_roundw
          case measure => simp only [intOf]; omega
          case rel => exact ⟨k + 1, _, _, by omega, rfl, rfl, by go_num, by show _ = _; rw [HS.out, HBB.out]; assumption, by show _ = _; rw [HS.out, HBB.out]; assumption, by show Below _ _ _; (repeat (first | (with_reducible exact Below.refl _ _) | (with_reducible assumption) | (with_reducible refine below_then ?_ (by assumption)) | (with_reducible refine Below.trans ?_ (by assumption)) | (with_reducible refine below_drewN ?_ _) | (with_reducible apply Below.drew) | (with_reducible refine below_alloc ?_ _) | refine Below.setCell ?_ (by first | (simp; done) | (simp; omega)) _))⟩
      · have he : k = 50 := by omega
        subst he
        have HF := Lib.hid (stV_narrow X).1
        obtain ⟨A, hA⟩ : ∃ A, A = stV X := ⟨_, rfl⟩
        have k1 : cn .f64 r1 = A := k1.trans hA.symm
        rw [← hA] at HF
        have HK : Hid (narrow A = narrow (stV X)) := by show _ = _; rw [hA]
        clear H1 H2 hA k2 hk
        go_wp2_with (first | (with_reducible refine at_list ?_; refine wpList_fop rfl rfl rfl rfl rfl ?_; intro r n hr0; have hr := hr0 _ _ (by first | with_reducible assumption | exact rfl) (by first | with_reducible assumption | exact rfl); clear hr0) | (with_reducible refine at_list ?_; refine wpList_neg rfl rfl rfl ?_; intro r hr0; have hr := hr0 _ (by first | with_reducible assumption | exact rfl); clear hr0) | (with_reducible refine at_list ?_; refine wpList_fop_g rfl rfl rfl rfl rfl ?_; intro r n hr0; have hr := hr0 _ _ (by first | with_reducible assumption | exact rfl) (by first | with_reducible assumption | exact rfl); clear hr0) | (with_reducible refine at_list ?_; refine wpList_wide_g rfl rfl Try.underlying22 Try.underlying40 rfl ?_; intro r n hr0; have hr := hr0 _ (by first | with_reducible assumption | exact rfl); clear hr0) | (with_reducible refine at_list ?_; refine wpList_wide rfl rfl rfl Try.underlying22 Try.underlying40 ?_; intro r n hr0; have hr := hr0 _ (by first | with_reducible assumption | exact rfl); clear hr0) | (with_reducible refine at_list ?_; refine wpList_narrow rfl rfl rfl Try.underlying40 Try.underlying22 (by with_reducible assumption) HF.out ?_; intro r n hr) | (go_at_call 64; refine (arePositive_any _ _ _ (by assumption)).mono ?_; rintro e w' ⟨rfl, n, rfl⟩) | (go_at_call 100; refine (errorOf_any _ _).mono ?_; rintro e w' ⟨r, rfl, hr, n, rfl⟩))
        go_ret2
        exact ⟨_, rfl, by rw [← HK.out]; assumption, by (repeat (first | (with_reducible exact Below.refl _ _) | (with_reducible assumption) | (with_reducible refine below_then ?_ (by assumption)) | (with_reducible refine Below.trans ?_ (by assumption)) | (with_reducible refine below_drewN ?_ _) | (with_reducible apply Below.drew) | (with_reducible refine below_alloc ?_ _) | refine Below.setCell ?_ (by first | (simp; done) | (simp; omega)) _))⟩
end Go.Proofs.Ytjeeflldbhajiaa
set_option linter.unusedSimpArgs false
set_option linter.unusedVariables false
set_option linter.unusedSectionVars false
namespace Go.Proofs.Ytjeeflldbhajiaa
open Go Go.RowKit
open Go.ChangeShapes Go.WideShapes Go.ChangeAt Go.RowKit Go.Joins
theorem l01Narrow_any (x : Nat) (w : World) (hf : fits (cn .f64 x) = true) : Calls Try.prog 118 #[.float .f64 x] w (RF w .f32 (narrow (cn .f64 x))) := by
  have HF := Lib.hid hf
  obtain ⟨c, hc⟩ : ∃ c, cn .f64 x = c := ⟨_, rfl⟩
  rw [hc] at HF ⊢
  clear hf
  go_enter Try.func118, Try.ntmps118
  go_wp2_with (first | (with_reducible refine at_list ?_; refine wpList_fop rfl rfl rfl rfl rfl ?_; intro r n hr0; have hr := hr0 _ _ (by first | with_reducible assumption | exact rfl) (by first | with_reducible assumption | exact rfl); clear hr0) | (with_reducible refine at_list ?_; refine wpList_neg rfl rfl rfl ?_; intro r hr0; have hr := hr0 _ (by first | with_reducible assumption | exact rfl); clear hr0) | (with_reducible refine at_list ?_; refine wpList_fop_g rfl rfl rfl rfl rfl ?_; intro r n hr0; have hr := hr0 _ _ (by first | with_reducible assumption | exact rfl) (by first | with_reducible assumption | exact rfl); clear hr0) | (with_reducible refine at_list ?_; refine wpList_wide_g rfl rfl Try.underlying22 Try.underlying40 rfl ?_; intro r n hr0; have hr := hr0 _ (by first | with_reducible assumption | exact rfl); clear hr0) | (with_reducible refine at_list ?_; refine wpList_wide rfl rfl rfl Try.underlying22 Try.underlying40 ?_; intro r n hr0; have hr := hr0 _ (by first | with_reducible assumption | exact rfl); clear hr0) | (with_reducible refine at_list ?_; refine wpList_narrow rfl rfl rfl Try.underlying40 Try.underlying22 hc HF.out ?_; intro r n hr))
  go_ret
  exact ⟨_, rfl, by assumption, _, rfl⟩
end Go.Proofs.Ytjeeflldbhajiaa

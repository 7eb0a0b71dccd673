/-
  Stuffs: which are valid (the program's and the reference's), each function proved once. No condition but what each contract says.
-/
import Derived.Test.YtiodpahbmoeiaaaNum
set_option linter.unusedSimpArgs false
set_option linter.unusedVariables false
set_option linter.unusedSectionVars false
namespace Go.Proofs.Ytiodpahbmoeiaaa
open Go Go.RowKit
theorem chain6 (b0 b1 b2 b3 b4 : Bool) : (b0 = false) ∨ (b0 = true ∧ b1 = false) ∨ (b0 = true ∧ b1 = true ∧ b2 = false) ∨ (b0 = true ∧ b1 = true ∧ b2 = true ∧ b3 = false) ∨ (b0 = true ∧ b1 = true ∧ b2 = true ∧ b3 = true ∧ b4 = false) ∨ (b0 = true ∧ b1 = true ∧ b2 = true ∧ b3 = true ∧ b4 = true) := by
  cases b0 <;> cases b1 <;> cases b2 <;> cases b3 <;> cases b4 <;> simp
/-- Is a stuff valid. -/
def St.ok (s : St) : Bool := abv (cn .f32 s.a) && (abv (cn .f32 s.b) && (abv (cn .f32 s.c) && (abv (cn .f32 s.d) && (fin .f32 (cn .f32 s.p) && abv (cn .f32 s.l)))))
/-- A stuff's cells in memory. -/
def St.at (s : St) (w : World) (b o : Nat) : Prop := w.cell? ⟨b, o, none⟩ = some (.float .f32 s.a) ∧ w.cell? ⟨b, o + 1, none⟩ = some (.float .f32 s.b) ∧ w.cell? ⟨b, o + 2, none⟩ = some (.float .f32 s.c) ∧
  w.cell? ⟨b, o + 3, none⟩ = some (.float .f32 s.d) ∧ w.cell? ⟨b, o + 4, none⟩ = some (.float .f32 s.p) ∧ w.cell? ⟨b, o + 5, none⟩ = some (.float .f32 s.l)
set_option maxHeartbeats 1000000 in
theorem l03Stuff_any (s : St) (b o : Nat) (w : World) (hs : s.at w b o) : Calls Try.prog 54 #[.pointer (some ⟨b, o, none⟩)] w (RB w s.ok) := by
  obtain ⟨h0, h1, h2, h3, h4, h5⟩ := hs
  rcases chain6 (abv (cn .f32 s.a)) (abv (cn .f32 s.b)) (abv (cn .f32 s.c)) (abv (cn .f32 s.d)) (fin .f32 (cn .f32 s.p)) with g0 | ⟨g0, g1⟩ | ⟨g0, g1, g2⟩ | ⟨g0, g1, g2, g3⟩ | ⟨g0, g1, g2, g3, g4⟩ | ⟨g0, g1, g2, g3, g4⟩ <;>
  · go_enter Try.func54, Try.ntmps54
    go_wp2_with (first | (with_reducible refine at_list ?_; refine wpList_fop rfl rfl rfl rfl rfl ?_; intro r n hr0; have hr := hr0 _ _ (by first | with_reducible assumption | exact rfl) (by first | with_reducible assumption | exact rfl); clear hr0) | (with_reducible refine at_list ?_; refine wpList_neg rfl rfl rfl ?_; intro r hr0; have hr := hr0 _ (by first | with_reducible assumption | exact rfl); clear hr0) | (with_reducible refine at_list ?_; refine wpList_fop_g rfl rfl rfl rfl rfl ?_; intro r n hr0; have hr := hr0 _ _ (by first | with_reducible assumption | exact rfl) (by first | with_reducible assumption | exact rfl); clear hr0) | (with_reducible refine at_list ?_; refine wpList_wide_g rfl rfl Try.underlying22 Try.underlying26 rfl ?_; intro r n hr0; have hr := hr0 _ (by first | with_reducible assumption | exact rfl); clear hr0) | (with_reducible refine at_list ?_; refine wpList_wide rfl rfl rfl Try.underlying22 Try.underlying26 ?_; intro r n hr0; have hr := hr0 _ (by first | with_reducible assumption | exact rfl); clear hr0) | (go_at_call 48; refine (l01Finite_any _ _).mono ?_; rintro e w' ⟨rfl, n, rfl⟩) | (go_at_call 68; refine (l02Above_any _ _).mono ?_; rintro e w' ⟨rfl, n, rfl⟩))
    go_ret
    exact ⟨by simp [St.ok, *], _, rfl⟩
set_option maxHeartbeats 400000 in
theorem toStuff_any (s : St) (w : World) : Calls Try.prog 18 #[.agg #[.float .f32 s.a, .float .f32 s.b, .float .f32 s.c, .float .f32 s.d, .float .f32 s.p, .float .f32 s.l]] w (BV w (.agg #[.float .f32 s.a, .float .f32 s.b, .float .f32 s.c, .float .f32 s.d, .float .f32 s.p, .float .f32 s.l])) := by
  go_enter Try.func18, Try.ntmps18
  go_wp2
  refine bodyPost_ret (v := .agg #[.float .f32 s.a, .float .f32 s.b, .float .f32 s.c, .float .f32 s.d, .float .f32 s.p, .float .f32 s.l]) (by simp [results, Try.results18, go_sem, *]) rfl ?_
  exact ⟨rfl, by (repeat (first | (with_reducible exact Below.refl _ _) | (with_reducible assumption) | (with_reducible refine below_then ?_ (by assumption)) | (with_reducible refine Below.trans ?_ (by assumption)) | (with_reducible refine below_drewN ?_ _) | (with_reducible apply Below.drew) | (with_reducible refine below_alloc ?_ _) | refine Below.setCell ?_ (by first | (simp; done) | (simp; omega)) _))⟩
theorem fin_not_nan {k : FloatKind} {c : Nat} (h : fin k c = true) : isN k c = false := by
  cases hn : isN k c with
  | false => rfl
  | true =>
    unfold fin fop at h
    rw [floatBits_nan_l hn] at h
    simp only [Option.getD_none, feq] at h
    rw [order_nan_l (isN_qn k)] at h
    cases h
theorem isN_lit (k : FloatKind) : isN k 0 = false := by cases k <;> decide +kernel
theorem cn_zero (k : FloatKind) : cn k 0 = 0 := cn_of_not (isN_lit k)
theorem order_total {k : FloatKind} {x y : Nat} (hx : isN k x = false) (hy : isN k y = false) : k.format.order x y ≠ none := by
  unfold isN FloatKind.decode at hx hy
  unfold Ieee.Format.order
  cases h1 : k.format.read x <;> rw [h1] at hx <;> cases h2 : k.format.read y <;> rw [h2] at hy <;> simp_all [Ieee.Datum.isNaN, Ieee.Datum.order]
theorem fle_not_fgt {k : FloatKind} {x y : Nat} (hx : isN k x = false) (hy : isN k y = false) : fle k x y = !fgt k x y := by
  unfold fle fgt
  cases h : k.format.order x y with
  | none => exact absurd h (order_total hx hy)
  | some o => cases o <;> rfl
theorem flt_not_fge {k : FloatKind} {x y : Nat} (hx : isN k x = false) (hy : isN k y = false) : flt k x y = !fge k x y := by
  unfold flt fge
  cases h : k.format.order x y with
  | none => exact absurd h (order_total hx hy)
  | some o => cases o <;> rfl
theorem abv_neg (c : Nat) : (!fin .f32 c || fle .f32 c (cn .f32 0)) = !abv c := by
  unfold abv
  cases h : fin .f32 c with
  | false => rfl
  | true => simp [fle_not_fgt (fin_not_nan h) (by rw [isN_cn]; exact isN_lit _)]
theorem FS_of {w : World} {b o n c : Nat} {xs : List Nat} (hn : xs.length = n) (hc : n ≤ c) (hm : c ≤ 9223372036854775807) (h : ∀ i, i < n → w.cell? ⟨b, o + i, none⟩ = some (.float .f32 (xs.getD i 0))) : FS w (.slice (some ⟨b, o, none⟩) n c) xs := by
  subst hn
  exact ⟨_, c, rfl, hm, hc, fun i hi => ⟨b, o, rfl, h i hi⟩⟩
set_option maxHeartbeats 1000000 in
theorem implValidStuff_any (s : St) (w : World) : Calls Try.prog 41 #[.agg #[.float .f32 s.a, .float .f32 s.b, .float .f32 s.c, .float .f32 s.d, .float .f32 s.p, .float .f32 s.l]] w (BV w (.bool s.ok)) := by
  have hq : (!([s.a, s.b, s.c, s.d, s.l].any fun x => !fin .f32 (cn .f32 x) || fle .f32 (cn .f32 x) (cn .f32 0))) = (abv (cn .f32 s.a) && (abv (cn .f32 s.b) && (abv (cn .f32 s.c) && (abv (cn .f32 s.d) && abv (cn .f32 s.l))))) := by
    simp only [abv_neg, List.any_cons, List.any_nil]
    cases abv (cn .f32 s.a) <;> cases abv (cn .f32 s.b) <;> cases abv (cn .f32 s.c) <;> cases abv (cn .f32 s.d) <;> cases abv (cn .f32 s.l) <;> rfl
  have H := Lib.hid (fun v w hs => (hq ▸ arePositive_any [s.a, s.b, s.c, s.d, s.l] v w hs : Calls Try.prog 65 #[v] w (RB w _)))
  clear hq
  rcases g : (abv (cn .f32 s.a) && (abv (cn .f32 s.b) && (abv (cn .f32 s.c) && (abv (cn .f32 s.d) && abv (cn .f32 s.l)))))
  all_goals
    rw [g] at H
    have Hg := Lib.hid g
    clear g
    go_enter Try.func41, Try.ntmps41
    go_wp2_with fail
    refine (H.out _ _ (FS_of (n := 5) (c := 5) rfl (by omega) (by omega) ?_)).mono ?_
    · intro i hi
      rcases (show i = 0 ∨ i = 1 ∨ i = 2 ∨ i = 3 ∨ i = 4 by omega) with rfl | rfl | rfl | rfl | rfl <;> go_simp
    rintro e w' ⟨rfl, n, rfl⟩
    go_wp2_with (first | (with_reducible refine at_list ?_; refine wpList_fop rfl rfl rfl rfl rfl ?_; intro r n hr0; have hr := hr0 _ _ (by first | with_reducible assumption | exact rfl) (by first | with_reducible assumption | exact rfl); clear hr0) | (with_reducible refine at_list ?_; refine wpList_neg rfl rfl rfl ?_; intro r hr0; have hr := hr0 _ (by first | with_reducible assumption | exact rfl); clear hr0) | (with_reducible refine at_list ?_; refine wpList_fop_g rfl rfl rfl rfl rfl ?_; intro r n hr0; have hr := hr0 _ _ (by first | with_reducible assumption | exact rfl) (by first | with_reducible assumption | exact rfl); clear hr0) | (with_reducible refine at_list ?_; refine wpList_wide_g rfl rfl Try.underlying22 Try.underlying26 rfl ?_; intro r n hr0; have hr := hr0 _ (by first | with_reducible assumption | exact rfl); clear hr0) | (with_reducible refine at_list ?_; refine wpList_wide rfl rfl rfl Try.underlying22 Try.underlying26 ?_; intro r n hr0; have hr := hr0 _ (by first | with_reducible assumption | exact rfl); clear hr0) | (go_at_call 52; refine (IsFinite_any _ _).mono ?_; rintro e w' ⟨rfl, n, rfl⟩))
    go_ret
    refine ⟨?_, by (repeat (first | (with_reducible exact Below.refl _ _) | (with_reducible assumption) | (with_reducible refine below_then ?_ (by assumption)) | (with_reducible refine Below.trans ?_ (by assumption)) | (with_reducible refine below_drewN ?_ _) | (with_reducible apply Below.drew) | (with_reducible refine below_alloc ?_ _) | refine Below.setCell ?_ (by first | (simp; done) | (simp; omega)) _))⟩
    have g := Hg.out
    simp only [St.ok]
    revert g
    cases abv (cn .f32 s.a) <;> cases abv (cn .f32 s.b) <;> cases abv (cn .f32 s.c) <;> cases abv (cn .f32 s.d) <;> cases abv (cn .f32 s.l) <;> simp
end Go.Proofs.Ytiodpahbmoeiaaa

/-
  The middles of a rod's cells (the program's and the reference's). No condition but what each contract says.
-/
import Derived.Test.YtgkcfeaknehopaaPrRdIs
import Derived.Test.YtgkcfeaknehopaaPrHalf
import Derived.Test.YtgkcfeaknehopaaPrApp
set_option linter.unusedSimpArgs false
set_option linter.unusedVariables false
set_option linter.unusedSectionVars false
namespace Go.Proofs.Ytgkcfeaknehopaa
open Go Go.RowKit
open Go.ChangeShapes Go.WideShapes Go.ChangeAt Go.RowKit Go.Joins
theorem any_cn (ys : List Nat) {L : List Nat} (h : ys.map (cn .f32) = L) : (ys.any fun x => !fin .f32 (cn .f32 x)) = L.any fun x => !fin .f32 x := by
  rw [← h, List.any_map]; rfl
/-- A slice of numbers that is not empty, seen. -/
theorem FS.ptr {w : World} {v : Value} {xs : List Nat} (h : FS w v xs) (hn : 1 ≤ xs.length) : ∃ b o c, v = .slice (some ⟨b, o, none⟩) xs.length c ∧ (c ≤ 9223372036854775807 ∧ xs.length ≤ c) ∧ Hid (∀ i, i < xs.length → w.cell? ⟨b, o + i, none⟩ = some (.float .f32 (xs.getD i 0))) := by
  obtain ⟨q, c, rfl, h1, h2, h3⟩ := FS_view h
  obtain ⟨b, o, rfl, _⟩ := h3 0 (by omega)
  refine ⟨b, o, c, rfl, ⟨h1, h2⟩, fun i hi => ?_⟩
  obtain ⟨b', o', e, hc⟩ := h3 i hi
  cases e; exact hc
/-- A rod whose lists are not empty, seen. -/
theorem Rd.open {P : Rd} {w : World} {l : RL} (h : P.fs w l) (hk : P.ok = true) : ∃ b1 o1 c1 b2 o2 c2 b3 o3 c3 b4 o4 c4, l = ⟨some ⟨b1, o1, none⟩, c1, some ⟨b2, o2, none⟩, c2, some ⟨b3, o3, none⟩, c3, some ⟨b4, o4, none⟩, c4⟩ ∧ Hid (∀ i, i < P.a.length → w.cell? ⟨b1, o1 + i, none⟩ = some (.float .f32 (P.a.getD i 0))) ∧ Hid (∀ i, i < P.a.length → w.cell? ⟨b2, o2 + i, none⟩ = some (.float .f32 (P.b.getD i 0))) ∧ Hid (∀ i, i < P.a.length → w.cell? ⟨b3, o3 + i, none⟩ = some (.float .f32 (P.c.getD i 0))) ∧ Hid (∀ i, i < P.a.length → w.cell? ⟨b4, o4 + i, none⟩ = some (.float .f32 (P.d.getD i 0))) := by
  obtain ⟨⟨h1, h2⟩, e2, e3, e4⟩ := Rd.ok_len hk
  obtain ⟨p1, c1, p2, c2, p3, c3, p4, c4⟩ := l
  obtain ⟨f1, f2, f3, f4⟩ := h
  obtain ⟨b1, o1, d1, g1, _, k1⟩ := f1.ptr h1
  obtain ⟨b2, o2, d2, g2, _, k2⟩ := f2.ptr (by omega)
  obtain ⟨b3, o3, d3, g3, _, k3⟩ := f3.ptr (by omega)
  obtain ⟨b4, o4, d4, g4, _, k4⟩ := f4.ptr (by omega)
  cases g1; cases g2; cases g3; cases g4
  exact ⟨b1, o1, _, b2, o2, _, b3, o3, _, b4, o4, _, rfl, k1, fun i hi => k2.out i (by omega), fun i hi => k3.out i (by omega), fun i hi => k4.out i (by omega)⟩
theorem rd_later {P : Rd} {l : RL} {w w' : World} {b o B : Nat} (h : RdAt P l w b o) (hb : Below B w w') (hB : b < B) : RdAt P l w' b o :=
  ⟨(hb.cell hB).trans h.1, (hb.cell hB).trans h.2.1, (hb.cell hB).trans h.2.2.1, (hb.cell hB).trans h.2.2.2⟩
theorem half_cn (x : Nat) : fop .quo .f32 x (cn .f32 1073741824) = fop .mul .f32 (cn .f32 1056964608) x := by
  rw [cn_of_not (by decide +kernel), cn_of_not (by decide +kernel), half_same]
set_option maxHeartbeats 1000000 in
theorem l02List_any (ys : List Nat) (q : Option Addr) (c : Nat) (w : World) (b : Bool) (hs : FS w (.slice q ys.length c) ys) (hb : finL ys = b) : Calls Try.prog 108 #[.slice q ys.length c] w (fun e w' => e = .returned (.tuple #[if b then .slice q ys.length c else .slice none 0 0, .bool b]) ∧ ∃ n, w' = w.drewN n) := by
  have HF := l02Finite_any ys (.slice q ys.length c) w hs
  rw [show (!ys.any fun x => !fin .f32 (cn .f32 x)) = b from hb] at HF
  clear hb hs
  cases b
  all_goals
    go_enter Try.func108, Try.ntmps108
    go_wp2_with (first | (with_reducible refine at_list ?_; refine wpList_fop rfl rfl rfl rfl rfl ?_; intro r n hr0; have hr := hr0 _ _ (by first | with_reducible assumption | exact rfl) (by first | with_reducible assumption | exact rfl); clear hr0) | (with_reducible refine at_list ?_; refine wpList_neg rfl rfl rfl ?_; intro r hr0; have hr := hr0 _ (by first | with_reducible assumption | exact rfl); clear hr0) | (with_reducible refine at_list ?_; refine wpList_fop_g rfl rfl rfl rfl rfl ?_; intro r n hr0; have hr := hr0 _ _ (by first | with_reducible assumption | exact rfl) (by first | with_reducible assumption | exact rfl); clear hr0) | (with_reducible refine at_list ?_; refine wpList_wide_g rfl rfl Try.underlying25 Try.underlying32 rfl ?_; intro r n hr0; have hr := hr0 _ (by first | with_reducible assumption | exact rfl); clear hr0) | (with_reducible refine at_list ?_; refine wpList_wide rfl rfl rfl Try.underlying25 Try.underlying32 ?_; intro r n hr0; have hr := hr0 _ (by first | with_reducible assumption | exact rfl); clear hr0) | (go_at_call 105; refine ((HF) ).mono ?_; rintro e w' ⟨rfl, n, rfl⟩))
    go_ret2
    exact ⟨rfl, _, rfl⟩
end Go.Proofs.Ytgkcfeaknehopaa

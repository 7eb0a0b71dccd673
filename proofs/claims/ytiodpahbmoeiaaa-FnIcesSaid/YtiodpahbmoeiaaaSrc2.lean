/-
  Draws: a number below a bound; a source made of bytes; bytes handed in. No condition but what each contract says.
-/
import Derived.Test.YtiodpahbmoeiaaaSrc
import Derived.Test.YtiodpahbmoeiaaaOpenB
set_option linter.unusedSimpArgs false
set_option linter.unusedVariables false
set_option linter.unusedSectionVars false
namespace Go.Proofs.Ytiodpahbmoeiaaa
open Go Go.RowKit
open Go.ChangeShapes Go.WideShapes Go.ChangeAt Go.RowKit Go.Joins
theorem rem_bd {x n : Int} (hx : 0 ≤ x) (hn : 1 ≤ n) : 0 ≤ x % n ∧ x % n ≤ n - 1 := ⟨Int.emod_nonneg _ (by omega), by have := Int.emod_lt_of_pos x (show 0 < n by omega); omega⟩
theorem Turn.then {B S : Nat} {a b c : World} (h : Turn B S a b) (h' : Turn B S b c) : Turn B S a c := h.trans h'
set_option maxHeartbeats 2000000 in
theorem pick_any (b K : Nat) (n : Int) (w : World) (h : SrcAt w b K) (hK : K ≤ 900000) (hn : 1 ≤ n ∧ n ≤ 1000000000) : Calls Try.prog 89 #[.pointer (some ⟨b, 0, none⟩), .int .i64 n] w (SP w b (K + 2) 0 (n - 1)) := by
  have HN := Lib.hid (fun (K : Nat) w h (hK : K ≤ 1000000) => next_any b K w h hK)
  have HS := Lib.hid h
  clear h
  obtain ⟨hn1, hn2⟩ := hn
  by_cases h1 : n ≤ 1
  · have he : n = 1 := by omega
    subst he
    go_enter Try.func89, Try.ntmps89
    go_wp2_with (first | (with_reducible refine at_list ?_; refine wpList_fop rfl rfl rfl rfl rfl ?_; intro r n hr0; have hr := hr0 _ _ (by first | with_reducible assumption | exact rfl) (by first | with_reducible assumption | exact rfl); clear hr0) | (with_reducible refine at_list ?_; refine wpList_neg rfl rfl rfl ?_; intro r hr0; have hr := hr0 _ (by first | with_reducible assumption | exact rfl); clear hr0) | (with_reducible refine at_list ?_; refine wpList_fop_g rfl rfl rfl rfl rfl ?_; intro r n hr0; have hr := hr0 _ _ (by first | with_reducible assumption | exact rfl) (by first | with_reducible assumption | exact rfl); clear hr0) | (with_reducible refine at_list ?_; refine wpList_wide_g rfl rfl Try.underlying22 Try.underlying26 rfl ?_; intro r n hr0; have hr := hr0 _ (by first | with_reducible assumption | exact rfl); clear hr0) | (with_reducible refine at_list ?_; refine wpList_wide rfl rfl rfl Try.underlying22 Try.underlying26 ?_; intro r n hr0; have hr := hr0 _ (by first | with_reducible assumption | exact rfl); clear hr0))
    all_goals
      go_ret
      exact ⟨0, rfl, ⟨by omega, by omega⟩, Turn.refl _ _ _, rfl, HS.out.mono (by omega)⟩
  by_cases h2 : 200 < n
  · go_enter Try.func89, Try.ntmps89
    go_wp2_with (first | (with_reducible refine at_list ?_; refine wpList_fop rfl rfl rfl rfl rfl ?_; intro r n hr0; have hr := hr0 _ _ (by first | with_reducible assumption | exact rfl) (by first | with_reducible assumption | exact rfl); clear hr0) | (with_reducible refine at_list ?_; refine wpList_neg rfl rfl rfl ?_; intro r hr0; have hr := hr0 _ (by first | with_reducible assumption | exact rfl); clear hr0) | (with_reducible refine at_list ?_; refine wpList_fop_g rfl rfl rfl rfl rfl ?_; intro r n hr0; have hr := hr0 _ _ (by first | with_reducible assumption | exact rfl) (by first | with_reducible assumption | exact rfl); clear hr0) | (with_reducible refine at_list ?_; refine wpList_wide_g rfl rfl Try.underlying22 Try.underlying26 rfl ?_; intro r n hr0; have hr := hr0 _ (by first | with_reducible assumption | exact rfl); clear hr0) | (with_reducible refine at_list ?_; refine wpList_wide rfl rfl rfl Try.underlying22 Try.underlying26 ?_; intro r n hr0; have hr := hr0 _ (by first | with_reducible assumption | exact rfl); clear hr0) | (go_at_call 96; first | (refine (HN.out _ _ HSa.out (by omega)).mono ?_; rintro e w2 ⟨r2, rfl, hr2, hg2, hz2, hs2⟩; have HSb := Lib.hid hs2; have HGb := Lib.hid hg2; have HZb := Lib.hid hz2; clear hs2 hg2 hz2) | (refine (HN.out _ _ HS.out (by omega)).mono ?_; rintro e w' ⟨r, rfl, hr, hg, hz, hs⟩; have HSa := Lib.hid hs; have HGa := Lib.hid hg; have HZa := Lib.hid hz; clear hs hg hz)))
    go_ret
    obtain ⟨hb1, hb2⟩ := rem_bd (x := r * 256 + r2) (n := n) (by omega) hn1
    exact ⟨_, rfl, ⟨by go_num, by go_num⟩, HGa.out.then HGb.out, HZb.out.trans HZa.out, HSb.out⟩
  · go_enter Try.func89, Try.ntmps89
    go_wp2_with (first | (with_reducible refine at_list ?_; refine wpList_fop rfl rfl rfl rfl rfl ?_; intro r n hr0; have hr := hr0 _ _ (by first | with_reducible assumption | exact rfl) (by first | with_reducible assumption | exact rfl); clear hr0) | (with_reducible refine at_list ?_; refine wpList_neg rfl rfl rfl ?_; intro r hr0; have hr := hr0 _ (by first | with_reducible assumption | exact rfl); clear hr0) | (with_reducible refine at_list ?_; refine wpList_fop_g rfl rfl rfl rfl rfl ?_; intro r n hr0; have hr := hr0 _ _ (by first | with_reducible assumption | exact rfl) (by first | with_reducible assumption | exact rfl); clear hr0) | (with_reducible refine at_list ?_; refine wpList_wide_g rfl rfl Try.underlying22 Try.underlying26 rfl ?_; intro r n hr0; have hr := hr0 _ (by first | with_reducible assumption | exact rfl); clear hr0) | (with_reducible refine at_list ?_; refine wpList_wide rfl rfl rfl Try.underlying22 Try.underlying26 ?_; intro r n hr0; have hr := hr0 _ (by first | with_reducible assumption | exact rfl); clear hr0) | (go_at_call 96; first | (refine (HN.out _ _ HSa.out (by omega)).mono ?_; rintro e w2 ⟨r2, rfl, hr2, hg2, hz2, hs2⟩; have HSb := Lib.hid hs2; have HGb := Lib.hid hg2; have HZb := Lib.hid hz2; clear hs2 hg2 hz2) | (refine (HN.out _ _ HS.out (by omega)).mono ?_; rintro e w' ⟨r, rfl, hr, hg, hz, hs⟩; have HSa := Lib.hid hs; have HGa := Lib.hid hg; have HZa := Lib.hid hz; clear hs hg hz)))
    go_ret
    obtain ⟨hb1, hb2⟩ := rem_bd (x := r) (n := n) (by omega) hn1
    exact ⟨_, rfl, ⟨by go_num, by go_num⟩, HGa.out, HZa.out, HSa.out.mono (by omega)⟩
end Go.Proofs.Ytiodpahbmoeiaaa

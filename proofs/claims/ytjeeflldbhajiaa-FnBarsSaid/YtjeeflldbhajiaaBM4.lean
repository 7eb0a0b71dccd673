/-
  What the statements draw: a stuff of small dyadic numbers. No condition but what each contract says.
  Drawn stuffs: how warm they are, how far molten, what heat that comes to: between bounds. No condition but what each law says.
  slices.IndexFunc and ContainsFunc at a closure with one captured variable, whose calls may make memory. No condition but what each contract says.
  Bars: which are valid (the program's and the reference's), how they are copied and compared; the law on valid bars. No condition but what each contract says.
  Sums of lists of numbers (the program's and the reference's). No condition but what each contract says.
  Sums over bars: heat and what is molten (the program's and the reference's). No condition but what each contract says.
  What a 32-bit word stands for, as a whole number of units of the least place; comparisons are those of these numbers. No condition but what each lemma says.
  The lesser and the greater of two finite numbers. No condition; nothing of the program is named here.
  The greatest tick of a bar (the program's and the reference's). No condition but what each contract says.
-/
import Derived.Test.YtjeeflldbhajiaaBM3
import Derived.Test.YtjeeflldbhajiaaBM2
set_option linter.unusedSimpArgs false
set_option linter.unusedVariables false
set_option linter.unusedSectionVars false
namespace Go.Proofs.Ytjeeflldbhajiaa
open Go Go.RowKit
open Go.ChangeShapes Go.WideShapes Go.ChangeAt Go.RowKit Go.Joins
theorem Turn.set {B S : Nat} {a b : World} (h : Turn B S a b) {ad : Addr} (hb : a.heap.size ≤ ad.block) (v : Value) : Turn B S a (b.setCell ad v) :=
  ⟨h.os, h.tape, h.output, by rw [World.size_setCell]; exact h.size, fun k hk hr => (Below.heap_setCell _ _ _ _ (by omega)).trans (h.block k hk hr)⟩
/-- A drawn stuff. -/
def DS (s : St) : Prop := ∃ a b c d p l : Int, ((1 ≤ a ∧ a ≤ 8) ∧ (1 ≤ b ∧ b ≤ 8) ∧ (1 ≤ c ∧ c ≤ 8) ∧ (1 ≤ d ∧ d ≤ 8) ∧ (-4 ≤ p ∧ p ≤ 4) ∧ (1 ≤ l ∧ l ≤ 16)) ∧
  V .f32 (cn .f32 s.a) ((a : Rat) / 2) ∧ V .f32 (cn .f32 s.b) ((b : Rat) / 2) ∧ V .f32 (cn .f32 s.c) ((c : Rat) / 4) ∧ V .f32 (cn .f32 s.d) ((d : Rat) / 4) ∧ V .f32 (cn .f32 s.p) (p : Rat) ∧ V .f32 (cn .f32 s.l) ((l : Rat) / 2)
/-- Its words are words. -/
def DL (s : St) : Prop := s.a < 4294967296 ∧ s.b < 4294967296 ∧ s.c < 4294967296 ∧ s.d < 4294967296 ∧ s.p < 4294967296 ∧ s.l < 4294967296
theorem wf_lt {x : Nat} (h : (Lit.float .f32 x).wf = true) : x < 4294967296 := by simpa [Lit.wf] using h
theorem fop_lt (op : BinOp) (x y : Nat) : fop op .f32 x y < 4294967296 := by
  unfold fop
  cases h : floatBits op .f32 x y with
  | none => decide +kernel
  | some r => exact wf_lt (floatBits_wf h)
theorem raw_lt {x c : Nat} (h : cn .f32 x = c) (hf : fnt .f32 c = true) (hc : c < 4294967296) : x < 4294967296 := by
  cases hn : isN .f32 x with
  | true =>
    rw [cn_of_isN hn] at h
    subst h
    have : fnt .f32 (qn .f32) = false := by decide +kernel
    rw [this] at hf; cases hf
  | false =>
    rw [cn_of_not hn] at h
    rw [h]; exact hc
set_option maxHeartbeats 4000000 in
theorem l03DrawOk_any (sb K : Nat) (w : World) (h : SrcAt w sb K) (hK : K ≤ 800000) : Calls Try.prog 97 #[.pointer (some ⟨sb, 0, none⟩)] w (fun e w' => ∃ s : St, e = .returned (.agg #[.float .f32 s.a, .float .f32 s.b, .float .f32 s.c, .float .f32 s.d, .float .f32 s.p, .float .f32 s.l]) ∧ DS s ∧ DL s ∧ Turn sb (sb + 1) w w' ∧ SrcAt w' sb (K + 12)) := by
  have HS := Lib.hid h
  have hlt := h.lt
  have HG : Hid (Turn sb (sb + 1) w w) := Turn.refl _ _ _
  have HPK := Lib.hid (fun (K : Nat) (n : Int) w h hK hn => pick_any sb K n w h hK hn)
  clear h
  have hz0 : True := trivial
  go_enter Try.func97, Try.ntmps97
  go_wp2_with (first | (with_reducible refine at_list ?_; refine wpList_fop rfl rfl rfl rfl rfl ?_; intro r n hr0; have hr := hr0 _ _ (by first | with_reducible assumption | exact rfl) (by first | with_reducible assumption | exact rfl); clear hr0) | (with_reducible refine at_list ?_; refine wpList_neg rfl rfl rfl ?_; intro r hr0; have hr := hr0 _ (by first | with_reducible assumption | exact rfl); clear hr0) | (with_reducible refine at_list ?_; refine wpList_fop_g rfl rfl rfl rfl rfl ?_; intro r n hr0; have hr := hr0 _ _ (by first | with_reducible assumption | exact rfl) (by first | with_reducible assumption | exact rfl); clear hr0) | (with_reducible refine at_list ?_; refine wpList_wide_g rfl rfl Try.underlying22 Try.underlying40 rfl ?_; intro r n hr0; have hr := hr0 _ (by first | with_reducible assumption | exact rfl); clear hr0) | (with_reducible refine at_list ?_; refine wpList_wide rfl rfl rfl Try.underlying22 Try.underlying40 ?_; intro r n hr0; have hr := hr0 _ (by first | with_reducible assumption | exact rfl); clear hr0) | (go_at_call 114; refine stop_here ?_))
  unfold Stop
  refine (HPK.out _ _ _ (HS.out.later (B := sb + 1) (by (repeat (first | (with_reducible exact Below.refl _ _) | (with_reducible refine below_drewN ?_ _) | (with_reducible refine Below.alloc ?_ (by first | omega | (simp only [World.size_alloc, World.size_setCell, World.size_drew, size_drewN']; omega)) _) | (with_reducible refine Below.setCell ?_ (by first | omega | (simp only [World.size_alloc, World.size_setCell, World.size_drew, size_drewN']; omega)) _)))) (Nat.lt_succ_self _)) (by omega) (by omega)).mono ?_; rintro e w' ⟨i1, rfl, ⟨hi11, hi12⟩, hg, hgs, hs⟩; have HG := Lib.hid (Turn.trans (show Turn sb (sb + 1) w _ by (repeat (first | (with_reducible exact HG.out) | (with_reducible exact Turn.refl _ _ _) | (with_reducible refine Turn.draws ?_ _) | (with_reducible refine Turn.alloc ?_ _) | (with_reducible refine Turn.set ?_ (by first | omega | (simp only [World.size_alloc, World.size_setCell, World.size_drew, size_drewN']; omega)) _)))) hg); have HS := Lib.hid hs; obtain ⟨hT, hk⟩ := turn_track hg (by (repeat (with_reducible first | assumption | apply Trk.alloc | apply Trk.setCell | apply Trk.drewN | apply Trk.drew | exact Trk.nil _))) (by first | (simp only [List.forall_mem_cons, List.not_mem_nil, false_implies, implies_true, and_true, World.size_alloc, World.size_setCell, World.size_drew, size_drewN']; done) | (simp only [List.forall_mem_cons, List.not_mem_nil, false_implies, implies_true, and_true, World.size_alloc, World.size_setCell, World.size_drew, size_drewN']; omega)); simp only [SameOn, World.size_alloc, World.size_setCell, World.size_drew, size_drewN', and_true] at hk; (try simp only [World.size_alloc, World.size_setCell, World.size_drew, size_drewN'] at hgs); (try simp only [hz0, Nat.add_assoc, Nat.reduceAdd] at hgs); (try simp only [hz0, Nat.add_assoc, Nat.reduceAdd] at hk); (try simp only [hz0, Nat.add_assoc, Nat.reduceAdd] at hT); have hz0 := hgs; clear hg hs hgs
  go_wp2_with (first | (with_reducible refine at_list ?_; refine wpList_fop rfl rfl rfl rfl rfl ?_; intro r n hr0; have hr := hr0 _ _ (by first | with_reducible assumption | exact rfl) (by first | with_reducible assumption | exact rfl); clear hr0) | (with_reducible refine at_list ?_; refine wpList_neg rfl rfl rfl ?_; intro r hr0; have hr := hr0 _ (by first | with_reducible assumption | exact rfl); clear hr0) | (with_reducible refine at_list ?_; refine wpList_fop_g rfl rfl rfl rfl rfl ?_; intro r n hr0; have hr := hr0 _ _ (by first | with_reducible assumption | exact rfl) (by first | with_reducible assumption | exact rfl); clear hr0) | (with_reducible refine at_list ?_; refine wpList_wide_g rfl rfl Try.underlying22 Try.underlying40 rfl ?_; intro r n hr0; have hr := hr0 _ (by first | with_reducible assumption | exact rfl); clear hr0) | (with_reducible refine at_list ?_; refine wpList_wide rfl rfl rfl Try.underlying22 Try.underlying40 ?_; intro r n hr0; have hr := hr0 _ (by first | with_reducible assumption | exact rfl); clear hr0) | (go_at_call 114; refine stop_here ?_))
  obtain ⟨ra, rfl⟩ : ∃ x, x = r := ⟨r, rfl⟩
  have hra := hr
  clear hr
  unfold Stop
  refine (HPK.out _ _ _ (HS.out.later (B := sb + 1) (by (repeat (first | (with_reducible exact Below.refl _ _) | (with_reducible refine below_drewN ?_ _) | (with_reducible refine Below.alloc ?_ (by first | omega | (simp only [World.size_alloc, World.size_setCell, World.size_drew, size_drewN']; omega)) _) | (with_reducible refine Below.setCell ?_ (by first | omega | (simp only [World.size_alloc, World.size_setCell, World.size_drew, size_drewN']; omega)) _)))) (Nat.lt_succ_self _)) (by omega) (by omega)).mono ?_; rintro e w' ⟨i2, rfl, ⟨hi21, hi22⟩, hg, hgs, hs⟩; have HG := Lib.hid (Turn.trans (show Turn sb (sb + 1) w _ by (repeat (first | (with_reducible exact HG.out) | (with_reducible exact Turn.refl _ _ _) | (with_reducible refine Turn.draws ?_ _) | (with_reducible refine Turn.alloc ?_ _) | (with_reducible refine Turn.set ?_ (by first | omega | (simp only [World.size_alloc, World.size_setCell, World.size_drew, size_drewN']; omega)) _)))) hg); have HS := Lib.hid hs; obtain ⟨hT, hk⟩ := turn_track hg (by (repeat (with_reducible first | assumption | apply Trk.alloc | apply Trk.setCell | apply Trk.drewN | apply Trk.drew | exact Trk.nil _))) (by first | (simp only [List.forall_mem_cons, List.not_mem_nil, false_implies, implies_true, and_true, World.size_alloc, World.size_setCell, World.size_drew, size_drewN']; done) | (simp only [List.forall_mem_cons, List.not_mem_nil, false_implies, implies_true, and_true, World.size_alloc, World.size_setCell, World.size_drew, size_drewN']; omega)); simp only [SameOn, World.size_alloc, World.size_setCell, World.size_drew, size_drewN', and_true] at hk; (try simp only [World.size_alloc, World.size_setCell, World.size_drew, size_drewN'] at hgs); (try simp only [hz0, Nat.add_assoc, Nat.reduceAdd] at hgs); (try simp only [hz0, Nat.add_assoc, Nat.reduceAdd] at hk); (try simp only [hz0, Nat.add_assoc, Nat.reduceAdd] at hT); have hz0 := hgs; clear hg hs hgs
  go_wp2_with (first | (with_reducible refine at_list ?_; refine wpList_fop rfl rfl rfl rfl rfl ?_; intro r n hr0; have hr := hr0 _ _ (by first | with_reducible assumption | exact rfl) (by first | with_reducible assumption | exact rfl); clear hr0) | (with_reducible refine at_list ?_; refine wpList_neg rfl rfl rfl ?_; intro r hr0; have hr := hr0 _ (by first | with_reducible assumption | exact rfl); clear hr0) | (with_reducible refine at_list ?_; refine wpList_fop_g rfl rfl rfl rfl rfl ?_; intro r n hr0; have hr := hr0 _ _ (by first | with_reducible assumption | exact rfl) (by first | with_reducible assumption | exact rfl); clear hr0) | (with_reducible refine at_list ?_; refine wpList_wide_g rfl rfl Try.underlying22 Try.underlying40 rfl ?_; intro r n hr0; have hr := hr0 _ (by first | with_reducible assumption | exact rfl); clear hr0) | (with_reducible refine at_list ?_; refine wpList_wide rfl rfl rfl Try.underlying22 Try.underlying40 ?_; intro r n hr0; have hr := hr0 _ (by first | with_reducible assumption | exact rfl); clear hr0) | (go_at_call 114; refine stop_here ?_))
  obtain ⟨rb, rfl⟩ : ∃ x, x = r := ⟨r, rfl⟩
  have hrb := hr
  clear hr
  unfold Stop
  refine (HPK.out _ _ _ (HS.out.later (B := sb + 1) (by (repeat (first | (with_reducible exact Below.refl _ _) | (with_reducible refine below_drewN ?_ _) | (with_reducible refine Below.alloc ?_ (by first | omega | (simp only [World.size_alloc, World.size_setCell, World.size_drew, size_drewN']; omega)) _) | (with_reducible refine Below.setCell ?_ (by first | omega | (simp only [World.size_alloc, World.size_setCell, World.size_drew, size_drewN']; omega)) _)))) (Nat.lt_succ_self _)) (by omega) (by omega)).mono ?_; rintro e w' ⟨i3, rfl, ⟨hi31, hi32⟩, hg, hgs, hs⟩; have HG := Lib.hid (Turn.trans (show Turn sb (sb + 1) w _ by (repeat (first | (with_reducible exact HG.out) | (with_reducible exact Turn.refl _ _ _) | (with_reducible refine Turn.draws ?_ _) | (with_reducible refine Turn.alloc ?_ _) | (with_reducible refine Turn.set ?_ (by first | omega | (simp only [World.size_alloc, World.size_setCell, World.size_drew, size_drewN']; omega)) _)))) hg); have HS := Lib.hid hs; obtain ⟨hT, hk⟩ := turn_track hg (by (repeat (with_reducible first | assumption | apply Trk.alloc | apply Trk.setCell | apply Trk.drewN | apply Trk.drew | exact Trk.nil _))) (by first | (simp only [List.forall_mem_cons, List.not_mem_nil, false_implies, implies_true, and_true, World.size_alloc, World.size_setCell, World.size_drew, size_drewN']; done) | (simp only [List.forall_mem_cons, List.not_mem_nil, false_implies, implies_true, and_true, World.size_alloc, World.size_setCell, World.size_drew, size_drewN']; omega)); simp only [SameOn, World.size_alloc, World.size_setCell, World.size_drew, size_drewN', and_true] at hk; (try simp only [World.size_alloc, World.size_setCell, World.size_drew, size_drewN'] at hgs); (try simp only [hz0, Nat.add_assoc, Nat.reduceAdd] at hgs); (try simp only [hz0, Nat.add_assoc, Nat.reduceAdd] at hk); (try simp only [hz0, Nat.add_assoc, Nat.reduceAdd] at hT); have hz0 := hgs; clear hg hs hgs
  go_wp2_with (first | (with_reducible refine at_list ?_; refine wpList_fop rfl rfl rfl rfl rfl ?_; intro r n hr0; have hr := hr0 _ _ (by first | with_reducible assumption | exact rfl) (by first | with_reducible assumption | exact rfl); clear hr0) | (with_reducible refine at_list ?_; refine wpList_neg rfl rfl rfl ?_; intro r hr0; have hr := hr0 _ (by first | with_reducible assumption | exact rfl); clear hr0) | (with_reducible refine at_list ?_; refine wpList_fop_g rfl rfl rfl rfl rfl ?_; intro r n hr0; have hr := hr0 _ _ (by first | with_reducible assumption | exact rfl) (by first | with_reducible assumption | exact rfl); clear hr0) | (with_reducible refine at_list ?_; refine wpList_wide_g rfl rfl Try.underlying22 Try.underlying40 rfl ?_; intro r n hr0; have hr := hr0 _ (by first | with_reducible assumption | exact rfl); clear hr0) | (with_reducible refine at_list ?_; refine wpList_wide rfl rfl rfl Try.underlying22 Try.underlying40 ?_; intro r n hr0; have hr := hr0 _ (by first | with_reducible assumption | exact rfl); clear hr0) | (go_at_call 114; refine stop_here ?_))
  obtain ⟨rc, rfl⟩ : ∃ x, x = r := ⟨r, rfl⟩
  have hrc := hr
  clear hr
  unfold Stop
  refine (HPK.out _ _ _ (HS.out.later (B := sb + 1) (by (repeat (first | (with_reducible exact Below.refl _ _) | (with_reducible refine below_drewN ?_ _) | (with_reducible refine Below.alloc ?_ (by first | omega | (simp only [World.size_alloc, World.size_setCell, World.size_drew, size_drewN']; omega)) _) | (with_reducible refine Below.setCell ?_ (by first | omega | (simp only [World.size_alloc, World.size_setCell, World.size_drew, size_drewN']; omega)) _)))) (Nat.lt_succ_self _)) (by omega) (by omega)).mono ?_; rintro e w' ⟨i4, rfl, ⟨hi41, hi42⟩, hg, hgs, hs⟩; have HG := Lib.hid (Turn.trans (show Turn sb (sb + 1) w _ by (repeat (first | (with_reducible exact HG.out) | (with_reducible exact Turn.refl _ _ _) | (with_reducible refine Turn.draws ?_ _) | (with_reducible refine Turn.alloc ?_ _) | (with_reducible refine Turn.set ?_ (by first | omega | (simp only [World.size_alloc, World.size_setCell, World.size_drew, size_drewN']; omega)) _)))) hg); have HS := Lib.hid hs; obtain ⟨hT, hk⟩ := turn_track hg (by (repeat (with_reducible first | assumption | apply Trk.alloc | apply Trk.setCell | apply Trk.drewN | apply Trk.drew | exact Trk.nil _))) (by first | (simp only [List.forall_mem_cons, List.not_mem_nil, false_implies, implies_true, and_true, World.size_alloc, World.size_setCell, World.size_drew, size_drewN']; done) | (simp only [List.forall_mem_cons, List.not_mem_nil, false_implies, implies_true, and_true, World.size_alloc, World.size_setCell, World.size_drew, size_drewN']; omega)); simp only [SameOn, World.size_alloc, World.size_setCell, World.size_drew, size_drewN', and_true] at hk; (try simp only [World.size_alloc, World.size_setCell, World.size_drew, size_drewN'] at hgs); (try simp only [hz0, Nat.add_assoc, Nat.reduceAdd] at hgs); (try simp only [hz0, Nat.add_assoc, Nat.reduceAdd] at hk); (try simp only [hz0, Nat.add_assoc, Nat.reduceAdd] at hT); have hz0 := hgs; clear hg hs hgs
  go_wp2_with (first | (with_reducible refine at_list ?_; refine wpList_fop rfl rfl rfl rfl rfl ?_; intro r n hr0; have hr := hr0 _ _ (by first | with_reducible assumption | exact rfl) (by first | with_reducible assumption | exact rfl); clear hr0) | (with_reducible refine at_list ?_; refine wpList_neg rfl rfl rfl ?_; intro r hr0; have hr := hr0 _ (by first | with_reducible assumption | exact rfl); clear hr0) | (with_reducible refine at_list ?_; refine wpList_fop_g rfl rfl rfl rfl rfl ?_; intro r n hr0; have hr := hr0 _ _ (by first | with_reducible assumption | exact rfl) (by first | with_reducible assumption | exact rfl); clear hr0) | (with_reducible refine at_list ?_; refine wpList_wide_g rfl rfl Try.underlying22 Try.underlying40 rfl ?_; intro r n hr0; have hr := hr0 _ (by first | with_reducible assumption | exact rfl); clear hr0) | (with_reducible refine at_list ?_; refine wpList_wide rfl rfl rfl Try.underlying22 Try.underlying40 ?_; intro r n hr0; have hr := hr0 _ (by first | with_reducible assumption | exact rfl); clear hr0) | (go_at_call 114; refine stop_here ?_))
  obtain ⟨rd, rfl⟩ : ∃ x, x = r := ⟨r, rfl⟩
  have hrd := hr
  clear hr
  unfold Stop
  refine (HPK.out _ _ _ (HS.out.later (B := sb + 1) (by (repeat (first | (with_reducible exact Below.refl _ _) | (with_reducible refine below_drewN ?_ _) | (with_reducible refine Below.alloc ?_ (by first | omega | (simp only [World.size_alloc, World.size_setCell, World.size_drew, size_drewN']; omega)) _) | (with_reducible refine Below.setCell ?_ (by first | omega | (simp only [World.size_alloc, World.size_setCell, World.size_drew, size_drewN']; omega)) _)))) (Nat.lt_succ_self _)) (by omega) (by omega)).mono ?_; rintro e w' ⟨i5, rfl, ⟨hi51, hi52⟩, hg, hgs, hs⟩; have HG := Lib.hid (Turn.trans (show Turn sb (sb + 1) w _ by (repeat (first | (with_reducible exact HG.out) | (with_reducible exact Turn.refl _ _ _) | (with_reducible refine Turn.draws ?_ _) | (with_reducible refine Turn.alloc ?_ _) | (with_reducible refine Turn.set ?_ (by first | omega | (simp only [World.size_alloc, World.size_setCell, World.size_drew, size_drewN']; omega)) _)))) hg); have HS := Lib.hid hs; obtain ⟨hT, hk⟩ := turn_track hg (by (repeat (with_reducible first | assumption | apply Trk.alloc | apply Trk.setCell | apply Trk.drewN | apply Trk.drew | exact Trk.nil _))) (by first | (simp only [List.forall_mem_cons, List.not_mem_nil, false_implies, implies_true, and_true, World.size_alloc, World.size_setCell, World.size_drew, size_drewN']; done) | (simp only [List.forall_mem_cons, List.not_mem_nil, false_implies, implies_true, and_true, World.size_alloc, World.size_setCell, World.size_drew, size_drewN']; omega)); simp only [SameOn, World.size_alloc, World.size_setCell, World.size_drew, size_drewN', and_true] at hk; (try simp only [World.size_alloc, World.size_setCell, World.size_drew, size_drewN'] at hgs); (try simp only [hz0, Nat.add_assoc, Nat.reduceAdd] at hgs); (try simp only [hz0, Nat.add_assoc, Nat.reduceAdd] at hk); (try simp only [hz0, Nat.add_assoc, Nat.reduceAdd] at hT); have hz0 := hgs; clear hg hs hgs
  go_wp2_with (first | (with_reducible refine at_list ?_; refine wpList_fop rfl rfl rfl rfl rfl ?_; intro r n hr0; have hr := hr0 _ _ (by first | with_reducible assumption | exact rfl) (by first | with_reducible assumption | exact rfl); clear hr0) | (with_reducible refine at_list ?_; refine wpList_neg rfl rfl rfl ?_; intro r hr0; have hr := hr0 _ (by first | with_reducible assumption | exact rfl); clear hr0) | (with_reducible refine at_list ?_; refine wpList_fop_g rfl rfl rfl rfl rfl ?_; intro r n hr0; have hr := hr0 _ _ (by first | with_reducible assumption | exact rfl) (by first | with_reducible assumption | exact rfl); clear hr0) | (with_reducible refine at_list ?_; refine wpList_wide_g rfl rfl Try.underlying22 Try.underlying40 rfl ?_; intro r n hr0; have hr := hr0 _ (by first | with_reducible assumption | exact rfl); clear hr0) | (with_reducible refine at_list ?_; refine wpList_wide rfl rfl rfl Try.underlying22 Try.underlying40 ?_; intro r n hr0; have hr := hr0 _ (by first | with_reducible assumption | exact rfl); clear hr0) | (go_at_call 114; refine stop_here ?_))
  unfold Stop
  refine (HPK.out _ _ _ (HS.out.later (B := sb + 1) (by (repeat (first | (with_reducible exact Below.refl _ _) | (with_reducible refine below_drewN ?_ _) | (with_reducible refine Below.alloc ?_ (by first | omega | (simp only [World.size_alloc, World.size_setCell, World.size_drew, size_drewN']; omega)) _) | (with_reducible refine Below.setCell ?_ (by first | omega | (simp only [World.size_alloc, World.size_setCell, World.size_drew, size_drewN']; omega)) _)))) (Nat.lt_succ_self _)) (by omega) (by omega)).mono ?_; rintro e w' ⟨i6, rfl, ⟨hi61, hi62⟩, hg, hgs, hs⟩; have HG := Lib.hid (Turn.trans (show Turn sb (sb + 1) w _ by (repeat (first | (with_reducible exact HG.out) | (with_reducible exact Turn.refl _ _ _) | (with_reducible refine Turn.draws ?_ _) | (with_reducible refine Turn.alloc ?_ _) | (with_reducible refine Turn.set ?_ (by first | omega | (simp only [World.size_alloc, World.size_setCell, World.size_drew, size_drewN']; omega)) _)))) hg); have HS := Lib.hid hs; obtain ⟨hT, hk⟩ := turn_track hg (by (repeat (with_reducible first | assumption | apply Trk.alloc | apply Trk.setCell | apply Trk.drewN | apply Trk.drew | exact Trk.nil _))) (by first | (simp only [List.forall_mem_cons, List.not_mem_nil, false_implies, implies_true, and_true, World.size_alloc, World.size_setCell, World.size_drew, size_drewN']; done) | (simp only [List.forall_mem_cons, List.not_mem_nil, false_implies, implies_true, and_true, World.size_alloc, World.size_setCell, World.size_drew, size_drewN']; omega)); simp only [SameOn, World.size_alloc, World.size_setCell, World.size_drew, size_drewN', and_true] at hk; (try simp only [World.size_alloc, World.size_setCell, World.size_drew, size_drewN'] at hgs); (try simp only [hz0, Nat.add_assoc, Nat.reduceAdd] at hgs); (try simp only [hz0, Nat.add_assoc, Nat.reduceAdd] at hk); (try simp only [hz0, Nat.add_assoc, Nat.reduceAdd] at hT); have hz0 := hgs; clear hg hs hgs
  go_wp2_with (first | (with_reducible refine at_list ?_; refine wpList_fop rfl rfl rfl rfl rfl ?_; intro r n hr0; have hr := hr0 _ _ (by first | with_reducible assumption | exact rfl) (by first | with_reducible assumption | exact rfl); clear hr0) | (with_reducible refine at_list ?_; refine wpList_neg rfl rfl rfl ?_; intro r hr0; have hr := hr0 _ (by first | with_reducible assumption | exact rfl); clear hr0) | (with_reducible refine at_list ?_; refine wpList_fop_g rfl rfl rfl rfl rfl ?_; intro r n hr0; have hr := hr0 _ _ (by first | with_reducible assumption | exact rfl) (by first | with_reducible assumption | exact rfl); clear hr0) | (with_reducible refine at_list ?_; refine wpList_wide_g rfl rfl Try.underlying22 Try.underlying40 rfl ?_; intro r n hr0; have hr := hr0 _ (by first | with_reducible assumption | exact rfl); clear hr0) | (with_reducible refine at_list ?_; refine wpList_wide rfl rfl rfl Try.underlying22 Try.underlying40 ?_; intro r n hr0; have hr := hr0 _ (by first | with_reducible assumption | exact rfl); clear hr0))
  obtain ⟨rl, rfl⟩ : ∃ x, x = r := ⟨r, rfl⟩
  have hrl := hr
  clear hr
  refine bodyPost_ret (v := .agg #[.float .f32 ra, .float .f32 rb, .float .f32 rc, .float .f32 rd, .float .f32 (floatOfInt .f32 (i5 - 4)), .float .f32 rl]) (by simp [results, Try.results97, go_sem, *]) rfl ?_
  refine ⟨⟨ra, rb, rc, rd, floatOfInt .f32 (i5 - 4), rl⟩, rfl, ⟨1 + i1, 1 + i2, 1 + i3, 1 + i4, i5 - 4, 1 + i6, by omega, ?_, ?_, ?_, ?_, (V.int .f32 (i5 - 4) (show (i5 - 4).natAbs < 16777216 by omega)).cn, ?_⟩, ⟨raw_lt hra (half_val (by omega)).1 (fop_lt _ _ _), raw_lt hrb (half_val (by omega)).1 (fop_lt _ _ _), raw_lt hrc (quarter_val (by omega)).1 (fop_lt _ _ _), raw_lt hrd (quarter_val (by omega)).1 (fop_lt _ _ _), wf_lt (floatOfInt_wf .f32 _), raw_lt hrl (half_val (by omega)).1 (fop_lt _ _ _)⟩, by (repeat (first | (with_reducible exact HG.out) | (with_reducible exact Turn.refl _ _ _) | (with_reducible refine Turn.draws ?_ _) | (with_reducible refine Turn.alloc ?_ _) | (with_reducible refine Turn.set ?_ (by first | omega | (simp only [World.size_alloc, World.size_setCell, World.size_drew, size_drewN']; omega)) _))), HS.out.later (B := sb + 1) (by (repeat (first | (with_reducible exact Below.refl _ _) | (with_reducible refine below_drewN ?_ _) | (with_reducible refine Below.alloc ?_ (by first | omega | (simp only [World.size_alloc, World.size_setCell, World.size_drew, size_drewN']; omega)) _) | (with_reducible refine Below.setCell ?_ (by first | omega | (simp only [World.size_alloc, World.size_setCell, World.size_drew, size_drewN']; omega)) _)))) (Nat.lt_succ_self _)⟩
  · show V _ (cn .f32 ra) _; rw [hra]; exact half_val (by omega)
  · show V _ (cn .f32 rb) _; rw [hrb]; exact half_val (by omega)
  · show V _ (cn .f32 rc) _; rw [hrc]; exact quarter_val (by omega)
  · show V _ (cn .f32 rd) _; rw [hrd]; exact quarter_val (by omega)
  · show V _ (cn .f32 rl) _; rw [hrl]; exact half_val (by omega)
end Go.Proofs.Ytjeeflldbhajiaa
set_option linter.unusedSimpArgs false
set_option linter.unusedVariables false
set_option linter.unusedSectionVars false
namespace Go.Proofs.Ytjeeflldbhajiaa
open Go Go.RowKit
theorem rnd_err {f : Ieee.Format} {v r : Rat} {Q : Int} (h : Rnd f v r) (h1 : v ≤ tp Q) (h2 : -v ≤ tp Q) (hQ : f.leastPlace ≤ Q - f.fractionBits) : r - v ≤ tp (Q - f.fractionBits - 1) ∧ v - r ≤ tp (Q - f.fractionBits - 1) := by
  obtain ⟨last, k, hl, hr, e1, e2, h3⟩ := h
  have hle : tp last ≤ tp (Q - f.fractionBits) := by
    rcases h3 with h3 | h3 | h3
    · exact tp_le (by omega)
    · exact tp_le (by have := le_of_tp (Rat.le_trans h3 h1); omega)
    · exact tp_le (by have := le_of_tp (Rat.le_trans h3 h2); omega)
  have e : tp (Q - f.fractionBits) = 2 * tp (Q - f.fractionBits - 1) := by
    have := tp_succ (Q - f.fractionBits - 1)
    rw [show Q - (f.fractionBits : Int) - 1 + 1 = Q - f.fractionBits by omega] at this
    exact this
  constructor <;> grind
/-- A word near a number. -/
def Nr (x : Nat) (v e : Rat) : Prop := fnt .f32 x = true ∧ fv .f32 x - v ≤ e ∧ v - fv .f32 x ≤ e
theorem tp7 : tp 7 = 128 := (tp_nat 7).trans rfl
theorem tp_n17 : tp (-17) * 131072 = 1 := by
  have h : tp (-17) * tp 17 = 1 := by rw [← tp_add]; exact tp_zero
  rwa [show tp 17 = 131072 from (tp_nat 17).trans rfl] at h
/-- One operation on numbers that are not great. -/
theorem fop_nr (op : BinOp) (hop : arithOp op = true) {x y : Nat} (hx : fnt .f32 x = true) (hy : fnt .f32 y = true) (h0 : op = .quo → fv .f32 y ≠ 0) (h1 : ex op (fv .f32 x) (fv .f32 y) ≤ 128) (h2 : -ex op (fv .f32 x) (fv .f32 y) ≤ 128) :
    Nr (fop op .f32 x y) (ex op (fv .f32 x) (fv .f32 y)) (tp (-17)) := by
  obtain ⟨g1, g2⟩ := fop_rnd op hop .f32 hx hy h0 7 (by decide) (by rw [tp7]; exact h1) (by rw [tp7]; exact h2)
  have := rnd_err (Q := 7) g2 (by rw [tp7]; exact h1) (by rw [tp7]; exact h2) (by decide)
  exact ⟨g1, this.1, this.2⟩
theorem V.fin {x : Nat} {q : Rat} (h : V .f32 x q) : fin .f32 x = true := by rw [fin_num]; exact h.1
theorem abv_of {x : Nat} (h : fnt .f32 x = true) (h0 : 0 < fv .f32 x) : abv x = true := by
  have e : fgt .f32 x (cn .f32 0) = true := by
    rw [fgtv h V0.1, V0.2]
    exact decide_eq_true h0
  have hf : fin .f32 x = true := by rw [fin_num]; exact h
  have := abv_neg x
  rw [hf, flev h V0.1, V0.2] at this
  simp only [Bool.not_true, Bool.false_or] at this
  have h2 : decide (fv .f32 x ≤ 0) = false := decide_eq_false (by grind)
  rw [h2] at this
  simpa using this.symm
/-- What is known of a drawn stuff's canonical words. -/
structure SV (s : St) (a b c d p l : Int) : Prop where
  bd : (1 ≤ a ∧ a ≤ 8) ∧ (1 ≤ b ∧ b ≤ 8) ∧ (1 ≤ c ∧ c ≤ 8) ∧ (1 ≤ d ∧ d ≤ 8) ∧ (-4 ≤ p ∧ p ≤ 4) ∧ (1 ≤ l ∧ l ≤ 16)
  A : V .f32 s.k.a ((a : Rat) / 2)
  B : V .f32 s.k.b ((b : Rat) / 2)
  C : V .f32 s.k.c ((c : Rat) / 4)
  D : V .f32 s.k.d ((d : Rat) / 4)
  P : V .f32 s.k.p (p : Rat)
  L : V .f32 s.k.l ((l : Rat) / 2)
theorem DS.sv {s : St} (h : DS s) : ∃ a b c d p l, SV s a b c d p l := by
  obtain ⟨a, b, c, d, p, l, h0, h1, h2, h3, h4, h5, h6⟩ := h
  exact ⟨a, b, c, d, p, l, h0, h1, h2, h3, h4, h5, h6⟩
theorem icast_le {a b : Int} (h : a ≤ b) : (a : Rat) ≤ (b : Rat) := by exact_mod_cast h
theorem icast_lt {a b : Int} (h : a < b) : (a : Rat) < (b : Rat) := by exact_mod_cast h
theorem SV.ok {s : St} {a b c d p l : Int} (h : SV s a b c d p l) : s.ok = true := by
  obtain ⟨⟨h1, _⟩, ⟨h2, _⟩, ⟨h3, _⟩, ⟨h4, _⟩, _, ⟨h6, _⟩⟩ := h.bd
  have pos : ∀ {n : Int}, 1 ≤ n → (1 : Rat) ≤ (n : Rat) := fun {n} h => icast_le h
  have q1 := pos h1; have q2 := pos h2; have q3 := pos h3; have q4 := pos h4; have q6 := pos h6
  have e1 : abv (cn .f32 s.a) = true := abv_of h.A.1 (by rw [show fv .f32 (cn .f32 s.a) = _ from h.A.2]; grind)
  have e2 : abv (cn .f32 s.b) = true := abv_of h.B.1 (by rw [show fv .f32 (cn .f32 s.b) = _ from h.B.2]; grind)
  have e3 : abv (cn .f32 s.c) = true := abv_of h.C.1 (by rw [show fv .f32 (cn .f32 s.c) = _ from h.C.2]; grind)
  have e4 : abv (cn .f32 s.d) = true := abv_of h.D.1 (by rw [show fv .f32 (cn .f32 s.d) = _ from h.D.2]; grind)
  have e5 : fin .f32 (cn .f32 s.p) = true := h.P.fin
  have e6 : abv (cn .f32 s.l) = true := abv_of h.L.1 (by rw [show fv .f32 (cn .f32 s.l) = _ from h.L.2]; grind)
  unfold St.ok
  rw [e1, e2, e3, e4, e5, e6]
  rfl
section
variable {s : St} {a b c d p l k : Int} {H : Nat}
theorem rep16 (z : Int) (h : z.natAbs < 16777216) : Rep .f32 ((z : Rat) / 16) := rep_at (k := .f32) z (-4) h (by decide) (by decide) (by have e : tp (-4) = tp (-2) * tp (-2) := (by rw [← tp_add]; rfl); have := tp_n2; rw [e]; grind)
end
end Go.Proofs.Ytjeeflldbhajiaa
set_option linter.unusedSimpArgs false
set_option linter.unusedVariables false
set_option linter.unusedSectionVars false
namespace Go.Proofs.Ytjeeflldbhajiaa
open Go Go.RowKit
set_option maxHeartbeats 1000000 in
theorem IndexFuncC_any (g : Nat) (cap : Value) (p : Nat → Bool) (xs : List Nat) (v : Value) (w : World) (hs : FS w v xs) (hcf : ∀ x w', (callFunc g #[.float .f32 x, cap]).run Try.prog w' = .ok (.enter g #[.float .f32 x, cap]) w')
    (hg : ∀ x w', Below w.heap.size w w' → Calls Try.prog g #[.float .f32 x, cap] w' (BV w' (.bool (p x)))) :
    Calls Try.prog 110 #[v, .func (.func g) #[] #[cap]] w (BV w (.int .i64 (findI p xs))) := by
  have HG := Lib.hid hg; clear hg
  obtain ⟨q, c, rfl, hc1, hc2, HV⟩ := FS_view hs
  have HV := Lib.hid HV
  clear hs
  go_enter Try.func110, Try.ntmps110
  go_wp2
  go_loopw [8] (fun t wr => ∃ k : Nat, k ≤ xs.length ∧ t = .int .i64 k ∧ Below w.heap.size w wr ∧ Hid (∀ j, j < k → p (xs.getD j 0) = false)) (fun t _ => xs.length - (intOf t).toNat)
  case atStart => exact ⟨0, Nat.zero_le _, rfl, Below.refl _ _, fun j hj => by omega⟩
  case round =>
    obtain ⟨k, hk, rfl, hB, hp⟩ := hrel
    by_cases hlt : k < xs.length
    · obtain ⟨b, o, rfl, hcell0⟩ := HV.out k hlt
      have hcell := cell_later hB hcell0
      generalize hx : xs.getD k 0 = x at hcell hcell0
      have Hx := Lib.hid hx; clear hx hcell0 HV
      have HC := Lib.hid (HG.out x wr hB)
      rcases hb : p x
      · rw [hb] at HC
        go_wp2_with fail
        refine HC.out.mono ?_
        rintro e w' ⟨rfl, hbl⟩
        go_wp2_with fail
        go_roundw
        case rel => exact ⟨k + 1, by omega, by go_num, below_then hB hbl, fun j hj => by rcases Nat.lt_succ_iff_lt_or_eq.1 hj with h | rfl; exact hp j h; rw [Hx.out]; exact hb⟩
        case measure => simp [intOf]; omega
      · rw [hb] at HC
        go_wp2_with fail
        refine HC.out.mono ?_
        rintro e w' ⟨rfl, hbl⟩
        go_wp2_with fail
        go_ret
        exact ⟨by rw [findI_at p xs k hlt hp (by rw [Hx.out]; exact hb)]; rfl, below_then hB hbl⟩
    · go_wp2
      go_ret
      exact ⟨by rw [findI_no p xs (fun j hj => hp.out j (by omega))]; rfl, hB⟩
set_option maxHeartbeats 400000 in
theorem ContainsFuncC_any (g : Nat) (cap : Value) (p : Nat → Bool) (xs : List Nat) (v : Value) (w : World) (hs : FS w v xs) (hcf : ∀ x w', (callFunc g #[.float .f32 x, cap]).run Try.prog w' = .ok (.enter g #[.float .f32 x, cap]) w')
    (hg : ∀ x w', Below w.heap.size w w' → Calls Try.prog g #[.float .f32 x, cap] w' (BV w' (.bool (p x)))) :
    Calls Try.prog 65 #[v, .func (.func g) #[] #[cap]] w (BV w (.bool (xs.any p))) := by
  have HC := Lib.hid hcf; clear hcf
  have HG := Lib.hid hg; clear hg
  have hq := findI_ge p xs
  go_enter Try.func65, Try.ntmps65
  go_wp2_with fail
  refine (IndexFuncC_any g cap p xs v _ hs HC.out HG.out).mono ?_
  rintro e w' ⟨rfl, hb⟩
  go_wp2_with fail
  go_ret
  exact ⟨rfl, hb⟩
end Go.Proofs.Ytjeeflldbhajiaa
set_option linter.unusedSimpArgs false
set_option linter.unusedVariables false
set_option linter.unusedSectionVars false
namespace Go.Proofs.Ytjeeflldbhajiaa
open Go Go.RowKit
open Go.ChangeShapes Go.WideShapes Go.ChangeAt Go.RowKit Go.Joins
/-- A bar's cells in memory. -/
def BarAt (s : St) (p : Nat) (v : Value) (w : World) (b o : Nat) : Prop := s.at w b o ∧ w.cell? ⟨b, o + 6, none⟩ = some (.float .f32 p) ∧ w.cell? ⟨b, o + 7, none⟩ = some v
def badC (s : St) (c : Nat) : Bool := !fin .f32 c || !fin .f32 (warmC s c)
/-- Is a bar valid. -/
def barOk (s : St) (p : Nat) (xs : List Nat) : Bool := s.ok && (abv (cn .f32 p) && (decide (1 ≤ xs.length) && (decide (xs.length ≤ 48) && !xs.any fun x => badC s.k (cn .f32 x))))
set_option maxHeartbeats 1000000 in
theorem ValidBar1_any (s : St) (p : Nat) (v : Value) (x b o : Nat) (w : World) (hs : BarAt s p v w b o) : Calls Try.prog 66 #[.float .f32 x, .pointer (some ⟨b, o, none⟩)] w (BV w (.bool (badC s.k (cn .f32 x)))) := by
  obtain ⟨⟨h0, h1, h2, h3, h4, h5⟩, h6, h7⟩ := hs
  rcases hf : fin .f32 (cn .f32 x)
  all_goals
    go_enter Try.func66, Try.ntmps66
    go_wp2_with (first | (with_reducible refine at_list ?_; refine wpList_fop rfl rfl rfl rfl rfl ?_; intro r n hr0; have hr := hr0 _ _ (by first | with_reducible assumption | exact rfl) (by first | with_reducible assumption | exact rfl); clear hr0) | (with_reducible refine at_list ?_; refine wpList_neg rfl rfl rfl ?_; intro r hr0; have hr := hr0 _ (by first | with_reducible assumption | exact rfl); clear hr0) | (with_reducible refine at_list ?_; refine wpList_fop_g rfl rfl rfl rfl rfl ?_; intro r n hr0; have hr := hr0 _ _ (by first | with_reducible assumption | exact rfl) (by first | with_reducible assumption | exact rfl); clear hr0) | (with_reducible refine at_list ?_; refine wpList_wide_g rfl rfl Try.underlying22 Try.underlying40 rfl ?_; intro r n hr0; have hr := hr0 _ (by first | with_reducible assumption | exact rfl); clear hr0) | (with_reducible refine at_list ?_; refine wpList_wide rfl rfl rfl Try.underlying22 Try.underlying40 ?_; intro r n hr0; have hr := hr0 _ (by first | with_reducible assumption | exact rfl); clear hr0) | (go_at_call 67; refine (IsFinite_any _ _).mono ?_; rintro e w' ⟨rfl, n, rfl⟩) | (go_at_call 68; refine (warmOf_any _ _ _).mono ?_; rintro e w' ⟨r, rfl, hr, hb⟩; obtain ⟨hT, hk⟩ := bv_next hb (by (repeat (with_reducible first | assumption | apply Trk.alloc | apply Trk.setCell | apply Trk.drewN | apply Trk.drew | exact Trk.nil _))); simp only [SameOn, World.size_alloc, World.size_setCell, World.size_drew, size_drewN', and_true] at hk; have hsz := Below.size hb; (try simp only [World.size_alloc, World.size_setCell, World.size_drew, size_drewN'] at hsz)))
    all_goals
      go_ret
      exact ⟨by simp [badC, *], by (repeat (first | (with_reducible exact Below.refl _ _) | (with_reducible assumption) | (with_reducible refine below_then ?_ (by assumption)) | (with_reducible refine Below.trans ?_ (by assumption)) | (with_reducible refine below_drewN ?_ _) | (with_reducible apply Below.drew) | (with_reducible refine below_alloc ?_ _) | refine Below.setCell ?_ (by first | (simp; done) | (simp; omega)) _))⟩
set_option maxHeartbeats 1000000 in
theorem implValidBar_any (s : St) (p : Nat) (v : Value) (xs : List Nat) (w : World) (hs : FS w v xs) : Calls Try.prog 21 #[.agg #[.float .f32 s.a, .float .f32 s.b, .float .f32 s.c, .float .f32 s.d, .float .f32 s.p, .float .f32 s.l, .float .f32 p, v]] w (BV w (.bool (barOk s p xs))) := by
  have HS := Lib.hid hs
  obtain ⟨q, c, rfl, hc1, hc2, _⟩ := FS_view hs
  clear hs
  rcases h0 : s.ok
  · go_enter Try.func21, Try.ntmps21
    go_wp2_with (first | (with_reducible refine at_list ?_; refine wpList_fop rfl rfl rfl rfl rfl ?_; intro r n hr0; have hr := hr0 _ _ (by first | with_reducible assumption | exact rfl) (by first | with_reducible assumption | exact rfl); clear hr0) | (with_reducible refine at_list ?_; refine wpList_neg rfl rfl rfl ?_; intro r hr0; have hr := hr0 _ (by first | with_reducible assumption | exact rfl); clear hr0) | (with_reducible refine at_list ?_; refine wpList_fop_g rfl rfl rfl rfl rfl ?_; intro r n hr0; have hr := hr0 _ _ (by first | with_reducible assumption | exact rfl) (by first | with_reducible assumption | exact rfl); clear hr0) | (with_reducible refine at_list ?_; refine wpList_wide_g rfl rfl Try.underlying22 Try.underlying40 rfl ?_; intro r n hr0; have hr := hr0 _ (by first | with_reducible assumption | exact rfl); clear hr0) | (with_reducible refine at_list ?_; refine wpList_wide rfl rfl rfl Try.underlying22 Try.underlying40 ?_; intro r n hr0; have hr := hr0 _ (by first | with_reducible assumption | exact rfl); clear hr0) | (go_at_call 63; refine (implValidStuff_any _ _).mono ?_; rintro e w' ⟨rfl, hb⟩; obtain ⟨hT, hk⟩ := bv_next hb (by (repeat (with_reducible first | assumption | apply Trk.alloc | apply Trk.setCell | apply Trk.drewN | apply Trk.drew | exact Trk.nil _))); simp only [SameOn, World.size_alloc, World.size_setCell, World.size_drew, size_drewN', and_true] at hk; have hsz := Below.size hb; (try simp only [World.size_alloc, World.size_setCell, World.size_drew, size_drewN'] at hsz)) | (go_at_call 64; refine (arePositive_any _ _ _ (by assumption)).mono ?_; rintro e w' ⟨rfl, n, rfl⟩))
    all_goals
      go_ret
      exact ⟨by simp [barOk, *], by (repeat (first | (with_reducible exact Below.refl _ _) | (with_reducible assumption) | (with_reducible refine below_then ?_ (by assumption)) | (with_reducible refine Below.trans ?_ (by assumption)) | (with_reducible refine below_drewN ?_ _) | (with_reducible apply Below.drew) | (with_reducible refine below_alloc ?_ _) | refine Below.setCell ?_ (by first | (simp; done) | (simp; omega)) _))⟩
  rcases h1 : abv (cn .f32 p)
  · go_enter Try.func21, Try.ntmps21
    go_wp2_with (first | (with_reducible refine at_list ?_; refine wpList_fop rfl rfl rfl rfl rfl ?_; intro r n hr0; have hr := hr0 _ _ (by first | with_reducible assumption | exact rfl) (by first | with_reducible assumption | exact rfl); clear hr0) | (with_reducible refine at_list ?_; refine wpList_neg rfl rfl rfl ?_; intro r hr0; have hr := hr0 _ (by first | with_reducible assumption | exact rfl); clear hr0) | (with_reducible refine at_list ?_; refine wpList_fop_g rfl rfl rfl rfl rfl ?_; intro r n hr0; have hr := hr0 _ _ (by first | with_reducible assumption | exact rfl) (by first | with_reducible assumption | exact rfl); clear hr0) | (with_reducible refine at_list ?_; refine wpList_wide_g rfl rfl Try.underlying22 Try.underlying40 rfl ?_; intro r n hr0; have hr := hr0 _ (by first | with_reducible assumption | exact rfl); clear hr0) | (with_reducible refine at_list ?_; refine wpList_wide rfl rfl rfl Try.underlying22 Try.underlying40 ?_; intro r n hr0; have hr := hr0 _ (by first | with_reducible assumption | exact rfl); clear hr0) | (go_at_call 63; refine (implValidStuff_any _ _).mono ?_; rintro e w' ⟨rfl, hb⟩; obtain ⟨hT, hk⟩ := bv_next hb (by (repeat (with_reducible first | assumption | apply Trk.alloc | apply Trk.setCell | apply Trk.drewN | apply Trk.drew | exact Trk.nil _))); simp only [SameOn, World.size_alloc, World.size_setCell, World.size_drew, size_drewN', and_true] at hk; have hsz := Below.size hb; (try simp only [World.size_alloc, World.size_setCell, World.size_drew, size_drewN'] at hsz)) | (go_at_call 64; refine ((arePos1_any _ _ _ (FS1 (by go_simp <;> exact rfl))) ).mono ?_; rintro e w' ⟨rfl, n, rfl⟩))
    all_goals
      go_ret
      exact ⟨by simp [barOk, *], by (repeat (first | (with_reducible exact Below.refl _ _) | (with_reducible assumption) | (with_reducible refine below_then ?_ (by assumption)) | (with_reducible refine Below.trans ?_ (by assumption)) | (with_reducible refine below_drewN ?_ _) | (with_reducible apply Below.drew) | (with_reducible refine below_alloc ?_ _) | refine Below.setCell ?_ (by first | (simp; done) | (simp; omega)) _))⟩
  by_cases h2 : xs.length < 1
  · go_enter Try.func21, Try.ntmps21
    go_wp2_with (first | (with_reducible refine at_list ?_; refine wpList_fop rfl rfl rfl rfl rfl ?_; intro r n hr0; have hr := hr0 _ _ (by first | with_reducible assumption | exact rfl) (by first | with_reducible assumption | exact rfl); clear hr0) | (with_reducible refine at_list ?_; refine wpList_neg rfl rfl rfl ?_; intro r hr0; have hr := hr0 _ (by first | with_reducible assumption | exact rfl); clear hr0) | (with_reducible refine at_list ?_; refine wpList_fop_g rfl rfl rfl rfl rfl ?_; intro r n hr0; have hr := hr0 _ _ (by first | with_reducible assumption | exact rfl) (by first | with_reducible assumption | exact rfl); clear hr0) | (with_reducible refine at_list ?_; refine wpList_wide_g rfl rfl Try.underlying22 Try.underlying40 rfl ?_; intro r n hr0; have hr := hr0 _ (by first | with_reducible assumption | exact rfl); clear hr0) | (with_reducible refine at_list ?_; refine wpList_wide rfl rfl rfl Try.underlying22 Try.underlying40 ?_; intro r n hr0; have hr := hr0 _ (by first | with_reducible assumption | exact rfl); clear hr0) | (go_at_call 63; refine (implValidStuff_any _ _).mono ?_; rintro e w' ⟨rfl, hb⟩; obtain ⟨hT, hk⟩ := bv_next hb (by (repeat (with_reducible first | assumption | apply Trk.alloc | apply Trk.setCell | apply Trk.drewN | apply Trk.drew | exact Trk.nil _))); simp only [SameOn, World.size_alloc, World.size_setCell, World.size_drew, size_drewN', and_true] at hk; have hsz := Below.size hb; (try simp only [World.size_alloc, World.size_setCell, World.size_drew, size_drewN'] at hsz)) | (go_at_call 64; refine ((arePos1_any _ _ _ (FS1 (by go_simp <;> exact rfl))) ).mono ?_; rintro e w' ⟨rfl, n, rfl⟩))
    all_goals
      go_ret
      exact ⟨by simp [barOk, *]; omega, by (repeat (first | (with_reducible exact Below.refl _ _) | (with_reducible assumption) | (with_reducible refine below_then ?_ (by assumption)) | (with_reducible refine Below.trans ?_ (by assumption)) | (with_reducible refine below_drewN ?_ _) | (with_reducible apply Below.drew) | (with_reducible refine below_alloc ?_ _) | refine Below.setCell ?_ (by first | (simp; done) | (simp; omega)) _))⟩
  by_cases h3 : 48 < xs.length
  · go_enter Try.func21, Try.ntmps21
    go_wp2_with (first | (with_reducible refine at_list ?_; refine wpList_fop rfl rfl rfl rfl rfl ?_; intro r n hr0; have hr := hr0 _ _ (by first | with_reducible assumption | exact rfl) (by first | with_reducible assumption | exact rfl); clear hr0) | (with_reducible refine at_list ?_; refine wpList_neg rfl rfl rfl ?_; intro r hr0; have hr := hr0 _ (by first | with_reducible assumption | exact rfl); clear hr0) | (with_reducible refine at_list ?_; refine wpList_fop_g rfl rfl rfl rfl rfl ?_; intro r n hr0; have hr := hr0 _ _ (by first | with_reducible assumption | exact rfl) (by first | with_reducible assumption | exact rfl); clear hr0) | (with_reducible refine at_list ?_; refine wpList_wide_g rfl rfl Try.underlying22 Try.underlying40 rfl ?_; intro r n hr0; have hr := hr0 _ (by first | with_reducible assumption | exact rfl); clear hr0) | (with_reducible refine at_list ?_; refine wpList_wide rfl rfl rfl Try.underlying22 Try.underlying40 ?_; intro r n hr0; have hr := hr0 _ (by first | with_reducible assumption | exact rfl); clear hr0) | (go_at_call 63; refine (implValidStuff_any _ _).mono ?_; rintro e w' ⟨rfl, hb⟩; obtain ⟨hT, hk⟩ := bv_next hb (by (repeat (with_reducible first | assumption | apply Trk.alloc | apply Trk.setCell | apply Trk.drewN | apply Trk.drew | exact Trk.nil _))); simp only [SameOn, World.size_alloc, World.size_setCell, World.size_drew, size_drewN', and_true] at hk; have hsz := Below.size hb; (try simp only [World.size_alloc, World.size_setCell, World.size_drew, size_drewN'] at hsz)) | (go_at_call 64; refine ((arePos1_any _ _ _ (FS1 (by go_simp <;> exact rfl))) ).mono ?_; rintro e w' ⟨rfl, n, rfl⟩))
    all_goals
      go_ret
      exact ⟨by simp [barOk, *]; omega, by (repeat (first | (with_reducible exact Below.refl _ _) | (with_reducible assumption) | (with_reducible refine below_then ?_ (by assumption)) | (with_reducible refine Below.trans ?_ (by assumption)) | (with_reducible refine below_drewN ?_ _) | (with_reducible apply Below.drew) | (with_reducible refine below_alloc ?_ _) | refine Below.setCell ?_ (by first | (simp; done) | (simp; omega)) _))⟩
  have e2 : decide (1 ≤ xs.length) = true := by simp; omega
  have e3 : decide (xs.length ≤ 48) = true := by simp; omega
  have HE : Hid (barOk s p xs = !xs.any fun x => badC s.k (cn .f32 x)) := by show _ = _; simp only [barOk, h0, h1, e2, e3, Bool.true_and]
  clear e2 e3
  go_enter Try.func21, Try.ntmps21
  go_wp2_with (first | (with_reducible refine at_list ?_; refine wpList_fop rfl rfl rfl rfl rfl ?_; intro r n hr0; have hr := hr0 _ _ (by first | with_reducible assumption | exact rfl) (by first | with_reducible assumption | exact rfl); clear hr0) | (with_reducible refine at_list ?_; refine wpList_neg rfl rfl rfl ?_; intro r hr0; have hr := hr0 _ (by first | with_reducible assumption | exact rfl); clear hr0) | (with_reducible refine at_list ?_; refine wpList_fop_g rfl rfl rfl rfl rfl ?_; intro r n hr0; have hr := hr0 _ _ (by first | with_reducible assumption | exact rfl) (by first | with_reducible assumption | exact rfl); clear hr0) | (with_reducible refine at_list ?_; refine wpList_wide_g rfl rfl Try.underlying22 Try.underlying40 rfl ?_; intro r n hr0; have hr := hr0 _ (by first | with_reducible assumption | exact rfl); clear hr0) | (with_reducible refine at_list ?_; refine wpList_wide rfl rfl rfl Try.underlying22 Try.underlying40 ?_; intro r n hr0; have hr := hr0 _ (by first | with_reducible assumption | exact rfl); clear hr0) | (go_at_call 65; refine (ContainsFuncC_any 66 _ (fun x => badC s.k (cn .f32 x)) xs _ _ (HS.out.later (by (repeat (first | (with_reducible exact Below.refl _ _) | (with_reducible assumption) | (with_reducible refine below_then ?_ (by assumption)) | (with_reducible refine Below.trans ?_ (by assumption)) | (with_reducible refine below_drewN ?_ _) | (with_reducible apply Below.drew) | (with_reducible refine below_alloc ?_ _) | refine Below.setCell ?_ (by first | (simp; done) | (simp; omega)) _)))) (fun x w' => by kernel_rfl) (fun x w2 hb2 => ValidBar1_any s p (.slice q xs.length c) x _ _ w2 (by obtain ⟨hT, hk⟩ := bv_next hb2 (by (repeat (with_reducible first | assumption | apply Trk.alloc | apply Trk.setCell | apply Trk.drewN | apply Trk.drew | exact Trk.nil _))); simp only [SameOn, World.size_alloc, World.size_setCell, World.size_drew, size_drewN', and_true] at hk; have hsz := Below.size hb2; (try simp only [World.size_alloc, World.size_setCell, World.size_drew, size_drewN'] at hsz); exact (by unfold BarAt St.at; refine ⟨⟨?_, ?_, ?_, ?_, ?_, ?_⟩, ?_, ?_⟩ <;> go_simp)))).mono ?_; rintro e w' ⟨rfl, hb⟩; obtain ⟨hT, hk⟩ := bv_next hb (by (repeat (with_reducible first | assumption | apply Trk.alloc | apply Trk.setCell | apply Trk.drewN | apply Trk.drew | exact Trk.nil _))); simp only [SameOn, World.size_alloc, World.size_setCell, World.size_drew, size_drewN', and_true] at hk; have hsz := Below.size hb; (try simp only [World.size_alloc, World.size_setCell, World.size_drew, size_drewN'] at hsz)) | (go_at_call 63; refine (implValidStuff_any _ _).mono ?_; rintro e w' ⟨rfl, hb⟩; obtain ⟨hT, hk⟩ := bv_next hb (by (repeat (with_reducible first | assumption | apply Trk.alloc | apply Trk.setCell | apply Trk.drewN | apply Trk.drew | exact Trk.nil _))); simp only [SameOn, World.size_alloc, World.size_setCell, World.size_drew, size_drewN', and_true] at hk; have hsz := Below.size hb; (try simp only [World.size_alloc, World.size_setCell, World.size_drew, size_drewN'] at hsz)) | (go_at_call 64; refine ((arePos1_any _ _ _ (FS1 (by go_simp <;> exact rfl))) ).mono ?_; rintro e w' ⟨rfl, n, rfl⟩))
  all_goals
    go_ret
    exact ⟨by rw [HE.out]; rfl, by (repeat (first | (with_reducible exact Below.refl _ _) | (with_reducible assumption) | (with_reducible refine below_then ?_ (by assumption)) | (with_reducible refine Below.trans ?_ (by assumption)) | (with_reducible refine below_drewN ?_ _) | (with_reducible apply Below.drew) | (with_reducible refine below_alloc ?_ _) | refine Below.setCell ?_ (by first | (simp; done) | (simp; omega)) _))⟩
end Go.Proofs.Ytjeeflldbhajiaa
set_option linter.unusedSimpArgs false
set_option linter.unusedVariables false
set_option linter.unusedSectionVars false
namespace Go.Proofs.Ytjeeflldbhajiaa
open Go Go.RowKit
/-- A sum from left to right. -/
def accC (f : Nat → Nat) (xs : List Nat) : Nat := xs.foldl (fun a x => fop .add .f32 a (f (cn .f32 x))) (cn .f32 0)
theorem accC_step (f : Nat → Nat) (xs : List Nat) {k : Nat} (h : k < xs.length) : accC f (xs.take (k + 1)) = fop .add .f32 (accC f (xs.take k)) (f (cn .f32 (xs.getD k 0))) := by
  unfold accC
  rw [List.take_add_one, List.foldl_append, List.getElem?_eq_getElem h, List.getD_eq_getElem?_getD, List.getElem?_eq_getElem h]
  rfl
theorem cn_accC (f : Nat → Nat) (xs : List Nat) : cn .f32 (accC f xs) = accC f xs := by
  rcases List.eq_nil_or_concat xs with rfl | ⟨l, x, rfl⟩
  · exact cn_cn .f32 0
  · unfold accC; simp only [List.concat_eq_append, List.foldl_append, List.foldl_cons, List.foldl_nil]; exact cn_fop _ _ _ _
set_option maxHeartbeats 1000000 in
theorem sum_any (xs : List Nat) (v : Value) (w : World) (hs : FS w v xs) : Calls Try.prog 72 #[v] w (RF w .f32 (accC id xs)) := by
  obtain ⟨p, c, rfl, hc1, hc2, HV⟩ := FS_view hs
  have HV := Lib.hid HV
  clear hs
  go_enter Try.func72, Try.ntmps72
  go_wp2_with (first | (with_reducible refine at_list ?_; refine wpList_fop rfl rfl rfl rfl rfl ?_; intro r n hr0; have hr := hr0 _ _ (by first | with_reducible assumption | exact rfl) (by first | with_reducible assumption | exact rfl); clear hr0) | (with_reducible refine at_list ?_; refine wpList_neg rfl rfl rfl ?_; intro r hr0; have hr := hr0 _ (by first | with_reducible assumption | exact rfl); clear hr0) | (with_reducible refine at_list ?_; refine wpList_fop_g rfl rfl rfl rfl rfl ?_; intro r n hr0; have hr := hr0 _ _ (by first | with_reducible assumption | exact rfl) (by first | with_reducible assumption | exact rfl); clear hr0) | (with_reducible refine at_list ?_; refine wpList_wide_g rfl rfl Try.underlying22 Try.underlying40 rfl ?_; intro r n hr0; have hr := hr0 _ (by first | with_reducible assumption | exact rfl); clear hr0) | (with_reducible refine at_list ?_; refine wpList_wide rfl rfl rfl Try.underlying22 Try.underlying40 ?_; intro r n hr0; have hr := hr0 _ (by first | with_reducible assumption | exact rfl); clear hr0))
  go_loopw [3, 8] (fun s t wr => ∃ k m r : Nat, k ≤ xs.length ∧ t = .int .i64 k ∧ s = .float .f32 r ∧ Hid (cn .f32 r = accC id (xs.take k)) ∧ wr = w.drewN m) (fun _ t _ => xs.length - (intOf t).toNat)
  case atStart => exact ⟨0, 0, 0, Nat.zero_le _, rfl, rfl, rfl, rfl⟩
  case round =>
    obtain ⟨k, m, r, hk, rfl, rfl, HR, rfl⟩ := hrel
    by_cases hlt : k < xs.length
    · obtain ⟨b, o, rfl, hcell⟩ := HV.out k hlt
      have HST := Lib.hid (accC_step id xs hlt)
      generalize hx : xs.getD k 0 = x at hcell HST
      clear hx HV
      go_wp2_with (first | (with_reducible refine at_list ?_; refine wpList_fop rfl rfl rfl rfl rfl ?_; intro r n hr0; have hr := hr0 _ _ (by first | with_reducible assumption | exact rfl) (by first | with_reducible assumption | exact rfl); clear hr0) | (with_reducible refine at_list ?_; refine wpList_neg rfl rfl rfl ?_; intro r hr0; have hr := hr0 _ (by first | with_reducible assumption | exact rfl); clear hr0) | (with_reducible refine at_list ?_; refine wpList_fop_g rfl rfl rfl rfl rfl ?_; intro r n hr0; have hr := hr0 _ _ (by first | with_reducible assumption | exact rfl) (by first | with_reducible assumption | exact rfl); clear hr0) | (with_reducible refine at_list ?_; refine wpList_wide_g rfl rfl Try.underlying22 Try.underlying40 rfl ?_; intro r n hr0; have hr := hr0 _ (by first | with_reducible assumption | exact rfl); clear hr0) | (with_reducible refine at_list ?_; refine wpList_wide rfl rfl rfl Try.underlying22 Try.underlying40 ?_; intro r n hr0; have hr := hr0 _ (by first | with_reducible assumption | exact rfl); clear hr0))
      go_roundw
      case rel => exact ⟨k + 1, _, _, by omega, by go_num, rfl, by show _ = _; rw [HST.out, ← HR.out]; assumption, rfl⟩
      case measure => simp [intOf]; omega
    · have he : k = xs.length := by omega
      have HR2 : Hid (cn .f32 r = accC id xs) := by have := HR.out; rw [he, List.take_length] at this; exact this
      clear HR
      go_wp2_with (first | (with_reducible refine at_list ?_; refine wpList_fop rfl rfl rfl rfl rfl ?_; intro r n hr0; have hr := hr0 _ _ (by first | with_reducible assumption | exact rfl) (by first | with_reducible assumption | exact rfl); clear hr0) | (with_reducible refine at_list ?_; refine wpList_neg rfl rfl rfl ?_; intro r hr0; have hr := hr0 _ (by first | with_reducible assumption | exact rfl); clear hr0) | (with_reducible refine at_list ?_; refine wpList_fop_g rfl rfl rfl rfl rfl ?_; intro r n hr0; have hr := hr0 _ _ (by first | with_reducible assumption | exact rfl) (by first | with_reducible assumption | exact rfl); clear hr0) | (with_reducible refine at_list ?_; refine wpList_wide_g rfl rfl Try.underlying22 Try.underlying40 rfl ?_; intro r n hr0; have hr := hr0 _ (by first | with_reducible assumption | exact rfl); clear hr0) | (with_reducible refine at_list ?_; refine wpList_wide rfl rfl rfl Try.underlying22 Try.underlying40 ?_; intro r n hr0; have hr := hr0 _ (by first | with_reducible assumption | exact rfl); clear hr0))
      go_ret
      exact ⟨_, rfl, HR2.out, m, rfl⟩
end Go.Proofs.Ytjeeflldbhajiaa
set_option linter.unusedSimpArgs false
set_option linter.unusedVariables false
set_option linter.unusedSectionVars false
namespace Go.Proofs.Ytjeeflldbhajiaa
open Go Go.RowKit
theorem bar_later {s : St} {p : Nat} {v : Value} {w w' : World} {b o B : Nat} (h : BarAt s p v w b o) (hb : Below B w w') (hB : b < B) : BarAt s p v w' b o :=
  ⟨at_later h.1 hb hB, (hb.cell hB).trans h.2.1, (hb.cell hB).trans h.2.2⟩
def heatB (p : Nat) (xs : List Nat) : Nat := fop .mul .f32 (accC id xs) (cn .f32 p)
def meltB (s : St) (p : Nat) (xs : List Nat) : Nat := fop .mul .f32 (accC (partC s.k) xs) (cn .f32 p)
set_option maxHeartbeats 2000000 in
theorem implHeatInBar_any (s : St) (p : Nat) (v : Value) (xs : List Nat) (w : World) (hs : FS w v xs) : Calls Try.prog 26 #[.agg #[.float .f32 s.a, .float .f32 s.b, .float .f32 s.c, .float .f32 s.d, .float .f32 s.p, .float .f32 s.l, .float .f32 p, v]] w (BFB w .f32 (gF (barOk s p xs) (heatB p xs)) (gB (barOk s p xs) (heatB p xs))) := by
  have HS := Lib.hid hs
  obtain ⟨q, c, rfl, hc1, hc2, HV⟩ := FS_view hs
  clear hs HV
  have HB := Lib.hid (fun w h => implValidBar_any s p (.slice q xs.length c) xs w h)
  rcases h0 : barOk s p xs
  all_goals
    rw [h0] at HB
    go_enter Try.func26, Try.ntmps26
    go_wp2_with (first | (with_reducible refine at_list ?_; refine wpList_fop rfl rfl rfl rfl rfl ?_; intro r n hr0; have hr := hr0 _ _ (by first | with_reducible assumption | exact rfl) (by first | with_reducible assumption | exact rfl); clear hr0) | (with_reducible refine at_list ?_; refine wpList_neg rfl rfl rfl ?_; intro r hr0; have hr := hr0 _ (by first | with_reducible assumption | exact rfl); clear hr0) | (with_reducible refine at_list ?_; refine wpList_fop_g rfl rfl rfl rfl rfl ?_; intro r n hr0; have hr := hr0 _ _ (by first | with_reducible assumption | exact rfl) (by first | with_reducible assumption | exact rfl); clear hr0) | (with_reducible refine at_list ?_; refine wpList_wide_g rfl rfl Try.underlying22 Try.underlying40 rfl ?_; intro r n hr0; have hr := hr0 _ (by first | with_reducible assumption | exact rfl); clear hr0) | (with_reducible refine at_list ?_; refine wpList_wide rfl rfl rfl Try.underlying22 Try.underlying40 ?_; intro r n hr0; have hr := hr0 _ (by first | with_reducible assumption | exact rfl); clear hr0) | (go_at_call 21; refine ((HB.out _ (HS.out.later (by (repeat (first | (with_reducible exact Below.refl _ _) | (with_reducible assumption) | (with_reducible refine below_then ?_ (by assumption)) | (with_reducible refine Below.trans ?_ (by assumption)) | (with_reducible refine below_drewN ?_ _) | (with_reducible apply Below.drew) | (with_reducible refine below_alloc ?_ _) | refine Below.setCell ?_ (by first | (simp; done) | (simp; omega)) _))))) ).mono ?_; rintro e w' ⟨rfl, hb⟩; obtain ⟨hT, hk⟩ := bv_next hb (by (repeat (with_reducible first | assumption | apply Trk.alloc | apply Trk.setCell | apply Trk.drewN | apply Trk.drew | exact Trk.nil _))); simp only [SameOn, World.size_alloc, World.size_setCell, World.size_drew, size_drewN', and_true] at hk; have hsz := Below.size hb; (try simp only [World.size_alloc, World.size_setCell, World.size_drew, size_drewN'] at hsz)) | (go_at_call 72; refine ((sum_any xs _ _ (HS.out.later (by (repeat (first | (with_reducible exact Below.refl _ _) | (with_reducible assumption) | (with_reducible refine below_then ?_ (by assumption)) | (with_reducible refine Below.trans ?_ (by assumption)) | (with_reducible refine below_drewN ?_ _) | (with_reducible apply Below.drew) | (with_reducible refine below_alloc ?_ _) | refine Below.setCell ?_ (by first | (simp; done) | (simp; omega)) _))))) ).mono ?_; rintro e w' ⟨r, rfl, hr, n, rfl⟩) | (go_at_call 71; refine (checked_any _ _).mono ?_; rintro e w' ⟨r, rfl, hr, n, rfl⟩))
    all_goals (try ((first | (apply wp_region_plan; ((apply wpC_det; (case hw => exact rfl); (case hs => (intro cs b h; cases h)); (case h1 => (intro w'; go_simp <;> exact rfl))); apply wpC_norm; (case ha => (simp only [Act.put, List.setIfInBounds_toArray, List.set_cons_zero, List.set_cons_succ]; exact rfl))); ((apply wpC_val; (case hw => exact rfl); (case h1 => (intro w' hb hk0; obtain ⟨hT, hk⟩ := bv_next hb (by (repeat (with_reducible first | assumption | apply Trk.alloc | apply Trk.setCell | apply Trk.drewN | apply Trk.drew | exact Trk.nil _))); simp only [SameOn, World.size_alloc, World.size_setCell, World.size_drew, size_drewN', and_true] at hk; have hsz := Below.size hb; (try simp only [World.size_alloc, World.size_setCell, World.size_drew, size_drewN'] at hsz); go_simp <;> exact rfl))); apply wpC_norm; (case ha => (simp only [Act.put, List.setIfInBounds_toArray, List.set_cons_zero, List.set_cons_succ]; exact rfl))); ((apply wpC_callF _ _; ((case hw => exact rfl)); (case h1 => (intro w'; go_simp; exact ⟨rfl, rfl⟩)); (case hc => (intro w' hb hk0; obtain ⟨hT, hk⟩ := bv_next hb (by (repeat (with_reducible first | assumption | apply Trk.alloc | apply Trk.setCell | apply Trk.drewN | apply Trk.drew | exact Trk.nil _))); simp only [SameOn, World.size_alloc, World.size_setCell, World.size_drew, size_drewN', and_true] at hk; have hsz := Below.size hb; (try simp only [World.size_alloc, World.size_setCell, World.size_drew, size_drewN'] at hsz); refine ((sum_any xs _ _ (HS.out.later (by (repeat (first | (with_reducible exact Below.refl _ _) | (with_reducible assumption) | (with_reducible refine below_then ?_ (by assumption)) | (with_reducible refine Below.trans ?_ (by assumption)) | (with_reducible refine below_drewN ?_ _) | (with_reducible apply Below.drew) | (with_reducible refine below_alloc ?_ _) | refine Below.setCell ?_ (by first | (simp; done) | (simp; omega)) _))))) ).mono ?_; intro e2 w3 h; (try simp only [*] at h); exact RF.bf h)); (case hcc => (first | (with_reducible first | assumption | exact cn_fop _ _ _ _ | exact cn_cn _ _ | exact cn_wide _ | exact cn_narrow _ | exact cn_accC .. | exact cn_heatC .. | exact cn_half .. | exact cn_bet .. | exact cn_end .. | exact cn_erV .. | exact cn_exV .. | exact cn_slopeV .. | exact cn_rootC .. | exact cn_stF .. | exact cn_warmC .. | exact cn_partC .. | exact cn_easeC .. | exact cn_growC .. | exact cn_mostV .. | exact cn_passV .. | exact cn_flowL .. | exact cn_flowV .. | exact cn_fV .. | exact cn_heldA .. | exact cn_gainA .. | exact cn_meanV .. | exact cn_sqC ..) | (refine cn_chk ?_; (with_reducible first | assumption | exact cn_fop _ _ _ _ | exact cn_cn _ _ | exact cn_wide _ | exact cn_narrow _ | exact cn_accC .. | exact cn_heatC .. | exact cn_half .. | exact cn_bet .. | exact cn_end .. | exact cn_erV .. | exact cn_exV .. | exact cn_slopeV .. | exact cn_rootC .. | exact cn_stF .. | exact cn_warmC .. | exact cn_partC .. | exact cn_easeC .. | exact cn_growC .. | exact cn_mostV .. | exact cn_passV .. | exact cn_flowL .. | exact cn_flowV .. | exact cn_fV .. | exact cn_heldA .. | exact cn_gainA .. | exact cn_meanV .. | exact cn_sqC ..)) | (refine cn_gF ?_; (with_reducible first | assumption | exact cn_fop _ _ _ _ | exact cn_cn _ _ | exact cn_wide _ | exact cn_narrow _ | exact cn_accC .. | exact cn_heatC .. | exact cn_half .. | exact cn_bet .. | exact cn_end .. | exact cn_erV .. | exact cn_exV .. | exact cn_slopeV .. | exact cn_rootC .. | exact cn_stF .. | exact cn_warmC .. | exact cn_partC .. | exact cn_easeC .. | exact cn_growC .. | exact cn_mostV .. | exact cn_passV .. | exact cn_flowL .. | exact cn_flowV .. | exact cn_fV .. | exact cn_heldA .. | exact cn_gainA .. | exact cn_meanV .. | exact cn_sqC ..)))); intro r hr); apply wpC_norm; (case ha => (simp only [Act.put, List.setIfInBounds_toArray, List.set_cons_zero, List.set_cons_succ]; exact rfl))); ((apply wpC_det; (case hw => exact rfl); (case hs => (intro cs b h; cases h)); (case h1 => (intro w'; go_simp <;> exact rfl))); apply wpC_norm; (case ha => (simp only [Act.put, List.setIfInBounds_toArray, List.set_cons_zero, List.set_cons_succ]; exact rfl))); ((apply wpC_val; (case hw => exact rfl); (case h1 => (intro w' hb hk0; obtain ⟨hT, hk⟩ := bv_next hb (by (repeat (with_reducible first | assumption | apply Trk.alloc | apply Trk.setCell | apply Trk.drewN | apply Trk.drew | exact Trk.nil _))); simp only [SameOn, World.size_alloc, World.size_setCell, World.size_drew, size_drewN', and_true] at hk; have hsz := Below.size hb; (try simp only [World.size_alloc, World.size_setCell, World.size_drew, size_drewN'] at hsz); go_simp <;> exact rfl))); apply wpC_norm; (case ha => (simp only [Act.put, List.setIfInBounds_toArray, List.set_cons_zero, List.set_cons_succ]; exact rfl))); ((apply wpC_fop rfl rfl rfl rfl rfl; intro r hr0; have hr := hr0 _ _ (by first | with_reducible assumption | exact rfl) (by first | with_reducible assumption | exact rfl); clear hr0); apply wpC_norm; (case ha => (simp only [Act.put, List.setIfInBounds_toArray, List.set_cons_zero, List.set_cons_succ]; exact rfl))); ((apply wpC_callFB _ _ _; ((case hw => exact rfl)); (case h1 => (intro w'; go_simp; exact ⟨rfl, rfl⟩)); (case hc => (intro w' hb hk0; obtain ⟨hT, hk⟩ := bv_next hb (by (repeat (with_reducible first | assumption | apply Trk.alloc | apply Trk.setCell | apply Trk.drewN | apply Trk.drew | exact Trk.nil _))); simp only [SameOn, World.size_alloc, World.size_setCell, World.size_drew, size_drewN', and_true] at hk; have hsz := Below.size hb; (try simp only [World.size_alloc, World.size_setCell, World.size_drew, size_drewN'] at hsz); refine (checked_any _ _).mono ?_; intro e2 w3 h; (try simp only [*] at h); exact RFB.bfb h)); (case hcc => (first | (with_reducible first | assumption | exact cn_fop _ _ _ _ | exact cn_cn _ _ | exact cn_wide _ | exact cn_narrow _ | exact cn_accC .. | exact cn_heatC .. | exact cn_half .. | exact cn_bet .. | exact cn_end .. | exact cn_erV .. | exact cn_exV .. | exact cn_slopeV .. | exact cn_rootC .. | exact cn_stF .. | exact cn_warmC .. | exact cn_partC .. | exact cn_easeC .. | exact cn_growC .. | exact cn_mostV .. | exact cn_passV .. | exact cn_flowL .. | exact cn_flowV .. | exact cn_fV .. | exact cn_heldA .. | exact cn_gainA .. | exact cn_meanV .. | exact cn_sqC ..) | (refine cn_chk ?_; (with_reducible first | assumption | exact cn_fop _ _ _ _ | exact cn_cn _ _ | exact cn_wide _ | exact cn_narrow _ | exact cn_accC .. | exact cn_heatC .. | exact cn_half .. | exact cn_bet .. | exact cn_end .. | exact cn_erV .. | exact cn_exV .. | exact cn_slopeV .. | exact cn_rootC .. | exact cn_stF .. | exact cn_warmC .. | exact cn_partC .. | exact cn_easeC .. | exact cn_growC .. | exact cn_mostV .. | exact cn_passV .. | exact cn_flowL .. | exact cn_flowV .. | exact cn_fV .. | exact cn_heldA .. | exact cn_gainA .. | exact cn_meanV .. | exact cn_sqC ..)) | (refine cn_gF ?_; (with_reducible first | assumption | exact cn_fop _ _ _ _ | exact cn_cn _ _ | exact cn_wide _ | exact cn_narrow _ | exact cn_accC .. | exact cn_heatC .. | exact cn_half .. | exact cn_bet .. | exact cn_end .. | exact cn_erV .. | exact cn_exV .. | exact cn_slopeV .. | exact cn_rootC .. | exact cn_stF .. | exact cn_warmC .. | exact cn_partC .. | exact cn_easeC .. | exact cn_growC .. | exact cn_mostV .. | exact cn_passV .. | exact cn_flowL .. | exact cn_flowV .. | exact cn_fV .. | exact cn_heldA .. | exact cn_gainA .. | exact cn_meanV .. | exact cn_sqC ..)))); intro r hr); apply wpC_norm; (case ha => (simp only [Act.put, List.setIfInBounds_toArray, List.set_cons_zero, List.set_cons_succ]; exact rfl))); ((apply wpC_det; (case hw => exact rfl); (case hs => (intro cs b h; cases h)); (case h1 => (intro w'; go_simp <;> exact rfl))); apply wpC_norm; (case ha => (simp only [Act.put, List.setIfInBounds_toArray, List.set_cons_zero, List.set_cons_succ]; exact rfl))); ((apply wpC_det; (case hw => exact rfl); (case hs => (intro cs b h; cases h)); (case h1 => (intro w'; go_simp <;> exact rfl))); apply wpC_norm; (case ha => (simp only [Act.put, List.setIfInBounds_toArray, List.set_cons_zero, List.set_cons_succ]; exact rfl))); ((apply wpC_det; (case hw => exact rfl); (case hs => (intro cs b h; cases h)); (case h1 => (intro w'; go_simp <;> exact rfl))); apply wpC_norm; (case ha => (simp only [Act.put, List.setIfInBounds_toArray, List.set_cons_zero, List.set_cons_succ]; exact rfl))); ((apply wpC_det; (case hw => exact rfl); (case hs => (intro cs b h; cases h)); (case h1 => (intro w'; go_simp <;> exact rfl))); apply wpC_norm; (case ha => (simp only [Act.put, List.setIfInBounds_toArray, List.set_cons_zero, List.set_cons_succ]; exact rfl))); refine wpC_nil ?_; intro w' hb hkk; obtain ⟨hT, hk⟩ := bv_next hb (by (repeat (with_reducible first | assumption | apply Trk.alloc | apply Trk.setCell | apply Trk.drewN | apply Trk.drew | exact Trk.nil _))); simp only [SameOn, World.size_alloc, World.size_setCell, World.size_drew, size_drewN', and_true] at hk; have hsz := Below.size hb; (try simp only [World.size_alloc, World.size_setCell, World.size_drew, size_drewN'] at hsz))); go_wp2_with (first | (with_reducible refine at_list ?_; refine wpList_fop rfl rfl rfl rfl rfl ?_; intro r n hr0; have hr := hr0 _ _ (by first | with_reducible assumption | exact rfl) (by first | with_reducible assumption | exact rfl); clear hr0) | (with_reducible refine at_list ?_; refine wpList_neg rfl rfl rfl ?_; intro r hr0; have hr := hr0 _ (by first | with_reducible assumption | exact rfl); clear hr0) | (with_reducible refine at_list ?_; refine wpList_fop_g rfl rfl rfl rfl rfl ?_; intro r n hr0; have hr := hr0 _ _ (by first | with_reducible assumption | exact rfl) (by first | with_reducible assumption | exact rfl); clear hr0) | (with_reducible refine at_list ?_; refine wpList_wide_g rfl rfl Try.underlying22 Try.underlying40 rfl ?_; intro r n hr0; have hr := hr0 _ (by first | with_reducible assumption | exact rfl); clear hr0) | (with_reducible refine at_list ?_; refine wpList_wide rfl rfl rfl Try.underlying22 Try.underlying40 ?_; intro r n hr0; have hr := hr0 _ (by first | with_reducible assumption | exact rfl); clear hr0) | (go_at_call 21; refine ((HB.out _ (HS.out.later (by (repeat (first | (with_reducible exact Below.refl _ _) | (with_reducible assumption) | (with_reducible refine below_then ?_ (by assumption)) | (with_reducible refine Below.trans ?_ (by assumption)) | (with_reducible refine below_drewN ?_ _) | (with_reducible apply Below.drew) | (with_reducible refine below_alloc ?_ _) | refine Below.setCell ?_ (by first | (simp; done) | (simp; omega)) _))))) ).mono ?_; rintro e w' ⟨rfl, hb⟩; obtain ⟨hT, hk⟩ := bv_next hb (by (repeat (with_reducible first | assumption | apply Trk.alloc | apply Trk.setCell | apply Trk.drewN | apply Trk.drew | exact Trk.nil _))); simp only [SameOn, World.size_alloc, World.size_setCell, World.size_drew, size_drewN', and_true] at hk; have hsz := Below.size hb; (try simp only [World.size_alloc, World.size_setCell, World.size_drew, size_drewN'] at hsz)) | (go_at_call 72; refine ((sum_any xs _ _ (HS.out.later (by (repeat (first | (with_reducible exact Below.refl _ _) | (with_reducible assumption) | (with_reducible refine below_then ?_ (by assumption)) | (with_reducible refine Below.trans ?_ (by assumption)) | (with_reducible refine below_drewN ?_ _) | (with_reducible apply Below.drew) | (with_reducible refine below_alloc ?_ _) | refine Below.setCell ?_ (by first | (simp; done) | (simp; omega)) _))))) ).mono ?_; rintro e w' ⟨r, rfl, hr, n, rfl⟩) | (go_at_call 71; refine (checked_any _ _).mono ?_; rintro e w' ⟨r, rfl, hr, n, rfl⟩))))
    all_goals (try (first | kernel_rfl | rfl))
    all_goals
      go_ret2
      exact ⟨_, by first | rfl | (simp [gB, heatB, *] <;> rfl), by simp [gF, heatB, *], by (repeat (first | (with_reducible exact Below.refl _ _) | (with_reducible assumption) | (with_reducible refine below_then ?_ (by assumption)) | (with_reducible refine Below.trans ?_ (by assumption)) | (with_reducible refine below_drewN ?_ _) | (with_reducible apply Below.drew) | (with_reducible refine below_alloc ?_ _) | refine Below.setCell ?_ (by first | (simp; done) | (simp; omega)) _))⟩
set_option maxHeartbeats 2000000 in
theorem implMelted_any (s : St) (p : Nat) (v : Value) (xs : List Nat) (w : World) (hs : FS w v xs) : Calls Try.prog 28 #[.agg #[.float .f32 s.a, .float .f32 s.b, .float .f32 s.c, .float .f32 s.d, .float .f32 s.p, .float .f32 s.l, .float .f32 p, v]] w (BFB w .f32 (gF (barOk s p xs) (meltB s p xs)) (gB (barOk s p xs) (meltB s p xs))) := by
  have HS := Lib.hid hs
  obtain ⟨q, c, rfl, hc1, hc2, HV⟩ := FS_view hs
  have HV := Lib.hid HV
  clear hs
  have HB := Lib.hid (fun w h => implValidBar_any s p (.slice q xs.length c) xs w h)
  rcases h0 : barOk s p xs
  · rw [h0] at HB
    go_enter Try.func28, Try.ntmps28
    go_wp2_with (first | (with_reducible refine at_list ?_; refine wpList_fop rfl rfl rfl rfl rfl ?_; intro r n hr0; have hr := hr0 _ _ (by first | with_reducible assumption | exact rfl) (by first | with_reducible assumption | exact rfl); clear hr0) | (with_reducible refine at_list ?_; refine wpList_neg rfl rfl rfl ?_; intro r hr0; have hr := hr0 _ (by first | with_reducible assumption | exact rfl); clear hr0) | (with_reducible refine at_list ?_; refine wpList_fop_g rfl rfl rfl rfl rfl ?_; intro r n hr0; have hr := hr0 _ _ (by first | with_reducible assumption | exact rfl) (by first | with_reducible assumption | exact rfl); clear hr0) | (with_reducible refine at_list ?_; refine wpList_wide_g rfl rfl Try.underlying22 Try.underlying40 rfl ?_; intro r n hr0; have hr := hr0 _ (by first | with_reducible assumption | exact rfl); clear hr0) | (with_reducible refine at_list ?_; refine wpList_wide rfl rfl rfl Try.underlying22 Try.underlying40 ?_; intro r n hr0; have hr := hr0 _ (by first | with_reducible assumption | exact rfl); clear hr0) | (go_at_call 21; refine ((HB.out _ (HS.out.later (by (repeat (first | (with_reducible exact Below.refl _ _) | (with_reducible assumption) | (with_reducible refine below_then ?_ (by assumption)) | (with_reducible refine Below.trans ?_ (by assumption)) | (with_reducible refine below_drewN ?_ _) | (with_reducible apply Below.drew) | (with_reducible refine below_alloc ?_ _) | refine Below.setCell ?_ (by first | (simp; done) | (simp; omega)) _))))) ).mono ?_; rintro e w' ⟨rfl, hb⟩; obtain ⟨hT, hk⟩ := bv_next hb (by (repeat (with_reducible first | assumption | apply Trk.alloc | apply Trk.setCell | apply Trk.drewN | apply Trk.drew | exact Trk.nil _))); simp only [SameOn, World.size_alloc, World.size_setCell, World.size_drew, size_drewN', and_true] at hk; have hsz := Below.size hb; (try simp only [World.size_alloc, World.size_setCell, World.size_drew, size_drewN'] at hsz)) | (go_at_call 74; refine (partOf_any _ _ _).mono ?_; rintro e w' ⟨r, rfl, hr, hb⟩; obtain ⟨hT, hk⟩ := bv_next hb (by (repeat (with_reducible first | assumption | apply Trk.alloc | apply Trk.setCell | apply Trk.drewN | apply Trk.drew | exact Trk.nil _))); simp only [SameOn, World.size_alloc, World.size_setCell, World.size_drew, size_drewN', and_true] at hk; have hsz := Below.size hb; (try simp only [World.size_alloc, World.size_setCell, World.size_drew, size_drewN'] at hsz)) | (go_at_call 71; refine (checked_any _ _).mono ?_; rintro e w' ⟨r, rfl, hr, n, rfl⟩))
    all_goals
      go_ret2
      exact ⟨_, by first | rfl | (simp [gB, meltB, *] <;> rfl), by simp [gF, meltB, *], by (repeat (first | (with_reducible exact Below.refl _ _) | (with_reducible assumption) | (with_reducible refine below_then ?_ (by assumption)) | (with_reducible refine Below.trans ?_ (by assumption)) | (with_reducible refine below_drewN ?_ _) | (with_reducible apply Below.drew) | (with_reducible refine below_alloc ?_ _) | refine Below.setCell ?_ (by first | (simp; done) | (simp; omega)) _))⟩
  rw [h0] at HB
  go_enter Try.func28, Try.ntmps28
  go_wp2_with (first | (with_reducible refine at_list ?_; refine wpList_fop rfl rfl rfl rfl rfl ?_; intro r n hr0; have hr := hr0 _ _ (by first | with_reducible assumption | exact rfl) (by first | with_reducible assumption | exact rfl); clear hr0) | (with_reducible refine at_list ?_; refine wpList_neg rfl rfl rfl ?_; intro r hr0; have hr := hr0 _ (by first | with_reducible assumption | exact rfl); clear hr0) | (with_reducible refine at_list ?_; refine wpList_fop_g rfl rfl rfl rfl rfl ?_; intro r n hr0; have hr := hr0 _ _ (by first | with_reducible assumption | exact rfl) (by first | with_reducible assumption | exact rfl); clear hr0) | (with_reducible refine at_list ?_; refine wpList_wide_g rfl rfl Try.underlying22 Try.underlying40 rfl ?_; intro r n hr0; have hr := hr0 _ (by first | with_reducible assumption | exact rfl); clear hr0) | (with_reducible refine at_list ?_; refine wpList_wide rfl rfl rfl Try.underlying22 Try.underlying40 ?_; intro r n hr0; have hr := hr0 _ (by first | with_reducible assumption | exact rfl); clear hr0) | (go_at_call 21; refine ((HB.out _ (HS.out.later (by (repeat (first | (with_reducible exact Below.refl _ _) | (with_reducible assumption) | (with_reducible refine below_then ?_ (by assumption)) | (with_reducible refine Below.trans ?_ (by assumption)) | (with_reducible refine below_drewN ?_ _) | (with_reducible apply Below.drew) | (with_reducible refine below_alloc ?_ _) | refine Below.setCell ?_ (by first | (simp; done) | (simp; omega)) _))))) ).mono ?_; rintro e w' ⟨rfl, hb⟩; obtain ⟨hT, hk⟩ := bv_next hb (by (repeat (with_reducible first | assumption | apply Trk.alloc | apply Trk.setCell | apply Trk.drewN | apply Trk.drew | exact Trk.nil _))); simp only [SameOn, World.size_alloc, World.size_setCell, World.size_drew, size_drewN', and_true] at hk; have hsz := Below.size hb; (try simp only [World.size_alloc, World.size_setCell, World.size_drew, size_drewN'] at hsz)) | (go_at_call 74; refine (partOf_any _ _ _).mono ?_; rintro e w' ⟨r, rfl, hr, hb⟩; obtain ⟨hT, hk⟩ := bv_next hb (by (repeat (with_reducible first | assumption | apply Trk.alloc | apply Trk.setCell | apply Trk.drewN | apply Trk.drew | exact Trk.nil _))); simp only [SameOn, World.size_alloc, World.size_setCell, World.size_drew, size_drewN', and_true] at hk; have hsz := Below.size hb; (try simp only [World.size_alloc, World.size_setCell, World.size_drew, size_drewN'] at hsz)) | (go_at_call 71; refine (checked_any _ _).mono ?_; rintro e w' ⟨r, rfl, hr, n, rfl⟩))
  refine wp_named ?_
  intro ws hws
  have hBs : Below w.heap.size w ws := by rw [hws]; (repeat (first | (with_reducible exact Below.refl _ _) | (with_reducible assumption) | (with_reducible refine below_then ?_ (by assumption)) | (with_reducible refine Below.trans ?_ (by assumption)) | (with_reducible refine below_drewN ?_ _) | (with_reducible apply Below.drew) | (with_reducible refine below_alloc ?_ _) | refine Below.setCell ?_ (by first | (simp; done) | (simp; omega)) _))
  have hzs : w.heap.size < ws.heap.size := by rw [hws]; omega
  have hat : BarAt s p (.slice q xs.length c) ws w.heap.size 0 := by rw [hws]; exact (by unfold BarAt St.at; refine ⟨⟨?_, ?_, ?_, ?_, ?_, ?_⟩, ?_, ?_⟩ <;> go_simp)
  go_loopw [4, 13] (fun a t wr => ∃ k r : Nat, k ≤ xs.length ∧ t = .int .i64 k ∧ a = .float .f32 r ∧ Hid (cn .f32 r = accC (partC s.k) (xs.take k)) ∧ Below w.heap.size w wr ∧ w.heap.size < wr.heap.size ∧ Hid (BarAt s p (.slice q xs.length c) wr w.heap.size 0)) (fun _ t _ => xs.length - (intOf t).toNat)
  case atStart => exact ⟨0, 0, Nat.zero_le _, rfl, rfl, rfl, hBs, hzs, hat⟩
  case round =>
    clear hws hBs hzs hat
    obtain ⟨k, r, hk, rfl, rfl, HR, hB, hwr, HBA⟩ := hrel
    obtain ⟨⟨c0, c1, c2, c3, c4, c5⟩, c6, c7⟩ := HBA.out
    have hT : Trk wr [w.heap.size] := (Trk.nil wr).more hwr
    by_cases hlt : k < xs.length
    · obtain ⟨b, o, rfl, hcell0⟩ := HV.out k hlt
      have hcell := cell_later hB hcell0
      have HST := Lib.hid (accC_step (partC s.k) xs hlt)
      generalize hx : xs.getD k 0 = x at hcell HST
      clear hx HV hcell0
      go_wp2_with (first | (with_reducible refine at_list ?_; refine wpList_fop rfl rfl rfl rfl rfl ?_; intro r n hr0; have hr := hr0 _ _ (by first | with_reducible assumption | exact rfl) (by first | with_reducible assumption | exact rfl); clear hr0) | (with_reducible refine at_list ?_; refine wpList_neg rfl rfl rfl ?_; intro r hr0; have hr := hr0 _ (by first | with_reducible assumption | exact rfl); clear hr0) | (with_reducible refine at_list ?_; refine wpList_fop_g rfl rfl rfl rfl rfl ?_; intro r n hr0; have hr := hr0 _ _ (by first | with_reducible assumption | exact rfl) (by first | with_reducible assumption | exact rfl); clear hr0) | (with_reducible refine at_list ?_; refine wpList_wide_g rfl rfl Try.underlying22 Try.underlying40 rfl ?_; intro r n hr0; have hr := hr0 _ (by first | with_reducible assumption | exact rfl); clear hr0) | (with_reducible refine at_list ?_; refine wpList_wide rfl rfl rfl Try.underlying22 Try.underlying40 ?_; intro r n hr0; have hr := hr0 _ (by first | with_reducible assumption | exact rfl); clear hr0) | (go_at_call 21; refine (implValidBar_any _ _ _ _ _ (by assumption)).mono ?_; rintro e w' ⟨rfl, hb⟩; obtain ⟨hT, hk⟩ := bv_next hb (by (repeat (with_reducible first | assumption | apply Trk.alloc | apply Trk.setCell | apply Trk.drewN | apply Trk.drew | exact Trk.nil _))); simp only [SameOn, World.size_alloc, World.size_setCell, World.size_drew, size_drewN', and_true] at hk; have hsz := Below.size hb; (try simp only [World.size_alloc, World.size_setCell, World.size_drew, size_drewN'] at hsz)) | (go_at_call 74; refine (partOf_any _ _ _).mono ?_; rintro e w' ⟨r, rfl, hr, hb⟩; obtain ⟨hT, hk⟩ := bv_next hb (by (repeat (with_reducible first | assumption | apply Trk.alloc | apply Trk.setCell | apply Trk.drewN | apply Trk.drew | exact Trk.nil _))); simp only [SameOn, World.size_alloc, World.size_setCell, World.size_drew, size_drewN', and_true] at hk; have hsz := Below.size hb; (try simp only [World.size_alloc, World.size_setCell, World.size_drew, size_drewN'] at hsz)) | (go_at_call 71; refine (checked_any _ _).mono ?_; rintro e w' ⟨r, rfl, hr, n, rfl⟩))
      go_roundw
      case rel => exact ⟨k + 1, _, by omega, by go_num, rfl, by show _ = _; rw [HST.out, ← HR.out]; assumption, by (repeat (first | (with_reducible exact Below.refl _ _) | (with_reducible assumption) | (with_reducible refine below_then ?_ (by assumption)) | (with_reducible refine Below.trans ?_ (by assumption)) | (with_reducible refine below_drewN ?_ _) | (with_reducible apply Below.drew) | (with_reducible refine below_alloc ?_ _) | refine Below.setCell ?_ (by first | (simp; done) | (simp; omega)) _)), by simp only [size_drewN']; omega, (by unfold BarAt St.at; refine ⟨⟨?_, ?_, ?_, ?_, ?_, ?_⟩, ?_, ?_⟩ <;> go_simp)⟩
      case measure => simp [intOf]; omega
    · have he : k = xs.length := by omega
      have HR2 : Hid (cn .f32 r = accC (partC s.k) xs) := by have := HR.out; rw [he, List.take_length] at this; exact this
      have hr2 := HR2.out
      clear HR
      go_wp2_with (first | (with_reducible refine at_list ?_; refine wpList_fop rfl rfl rfl rfl rfl ?_; intro r n hr0; have hr := hr0 _ _ (by first | with_reducible assumption | exact rfl) (by first | with_reducible assumption | exact rfl); clear hr0) | (with_reducible refine at_list ?_; refine wpList_neg rfl rfl rfl ?_; intro r hr0; have hr := hr0 _ (by first | with_reducible assumption | exact rfl); clear hr0) | (with_reducible refine at_list ?_; refine wpList_fop_g rfl rfl rfl rfl rfl ?_; intro r n hr0; have hr := hr0 _ _ (by first | with_reducible assumption | exact rfl) (by first | with_reducible assumption | exact rfl); clear hr0) | (with_reducible refine at_list ?_; refine wpList_wide_g rfl rfl Try.underlying22 Try.underlying40 rfl ?_; intro r n hr0; have hr := hr0 _ (by first | with_reducible assumption | exact rfl); clear hr0) | (with_reducible refine at_list ?_; refine wpList_wide rfl rfl rfl Try.underlying22 Try.underlying40 ?_; intro r n hr0; have hr := hr0 _ (by first | with_reducible assumption | exact rfl); clear hr0) | (go_at_call 21; refine (implValidBar_any _ _ _ _ _ (by assumption)).mono ?_; rintro e w' ⟨rfl, hb⟩; obtain ⟨hT, hk⟩ := bv_next hb (by (repeat (with_reducible first | assumption | apply Trk.alloc | apply Trk.setCell | apply Trk.drewN | apply Trk.drew | exact Trk.nil _))); simp only [SameOn, World.size_alloc, World.size_setCell, World.size_drew, size_drewN', and_true] at hk; have hsz := Below.size hb; (try simp only [World.size_alloc, World.size_setCell, World.size_drew, size_drewN'] at hsz)) | (go_at_call 74; refine (partOf_any _ _ _).mono ?_; rintro e w' ⟨r, rfl, hr, hb⟩; obtain ⟨hT, hk⟩ := bv_next hb (by (repeat (with_reducible first | assumption | apply Trk.alloc | apply Trk.setCell | apply Trk.drewN | apply Trk.drew | exact Trk.nil _))); simp only [SameOn, World.size_alloc, World.size_setCell, World.size_drew, size_drewN', and_true] at hk; have hsz := Below.size hb; (try simp only [World.size_alloc, World.size_setCell, World.size_drew, size_drewN'] at hsz)) | (go_at_call 71; refine (checked_any _ _).mono ?_; rintro e w' ⟨r, rfl, hr, n, rfl⟩))
      go_ret2
      exact ⟨_, by first | rfl | (simp [gB, meltB, *] <;> rfl), by simp [gF, meltB, *], by (repeat (first | (with_reducible exact Below.refl _ _) | (with_reducible assumption) | (with_reducible refine below_then ?_ (by assumption)) | (with_reducible refine Below.trans ?_ (by assumption)) | (with_reducible refine below_drewN ?_ _) | (with_reducible apply Below.drew) | (with_reducible refine below_alloc ?_ _) | refine Below.setCell ?_ (by first | (simp; done) | (simp; omega)) _))⟩
end Go.Proofs.Ytjeeflldbhajiaa
set_option linter.unusedSimpArgs false
set_option linter.unusedVariables false
set_option linter.unusedSectionVars false
namespace Go.Proofs.Ytjeeflldbhajiaa
open Go Go.RowKit
/-- The magnitude of a rung, in units of the least place. -/
def mag32 (r : Nat) : Nat := if r < 8388608 then r else (8388608 + r % 8388608) * 2 ^ (r / 8388608 - 1)
def neg32 (c : Nat) : Bool := c / 2147483648 % 2 == 1
/-- What a finite word stands for. -/
def val (c : Nat) : Int := if neg32 c then -(mag32 (c % 2147483648) : Int) else (mag32 (c % 2147483648) : Int)
/-- Is a word finite. -/
def isF (c : Nat) : Bool := c % 2147483648 < 2139095040
theorem mag32_lo (r : Nat) (h : 8388608 ≤ r) : 2 ^ (r / 8388608 + 22) ≤ mag32 r := by
  unfold mag32
  rw [if_neg (by omega)]
  calc 2 ^ (r / 8388608 + 22) = 8388608 * 2 ^ (r / 8388608 - 1) := by
        rw [show r / 8388608 + 22 = 23 + (r / 8388608 - 1) by omega, Nat.pow_add]
    _ ≤ _ := Nat.mul_le_mul_right _ (by omega)
theorem mag32_hi (r : Nat) (h : 8388608 ≤ r) : mag32 r < 2 ^ (r / 8388608 + 23) := by
  unfold mag32
  rw [if_neg (by omega)]
  calc (8388608 + r % 8388608) * 2 ^ (r / 8388608 - 1) < 16777216 * 2 ^ (r / 8388608 - 1) := Nat.mul_lt_mul_of_pos_right (by omega) (Nat.two_pow_pos _)
    _ = 2 ^ (r / 8388608 + 23) := by
        rw [show r / 8388608 + 23 = 24 + (r / 8388608 - 1) by omega, Nat.pow_add]
theorem mag32_lt {r s : Nat} (h : r < s) : mag32 r < mag32 s := by
  by_cases h1 : s < 8388608
  · unfold mag32; rw [if_pos h1, if_pos (by omega)]; exact h
  · by_cases h2 : r < 8388608
    · have := mag32_lo s (by omega)
      have h3 : 2 ^ 23 ≤ 2 ^ (s / 8388608 + 22) := Nat.pow_le_pow_right (by omega) (by omega)
      have h4 : mag32 r = r := by unfold mag32; rw [if_pos h2]
      omega
    · by_cases h3 : r / 8388608 = s / 8388608
      · unfold mag32
        rw [if_neg h2, if_neg h1, h3]
        exact Nat.mul_lt_mul_of_pos_right (by omega) (Nat.two_pow_pos _)
      · have h5 : r / 8388608 < s / 8388608 := by
          have := Nat.div_le_div_right (c := 8388608) (Nat.le_of_lt h)
          omega
        have h6 := mag32_hi r (by omega)
        have h7 := mag32_lo s (by omega)
        have h8 : 2 ^ (r / 8388608 + 23) ≤ 2 ^ (s / 8388608 + 22) := Nat.pow_le_pow_right (by omega) (by omega)
        omega
theorem mag32_inj {r s : Nat} (h : mag32 r = mag32 s) : r = s := by
  rcases Nat.lt_trichotomy r s with h1 | h1 | h1
  · have := mag32_lt h1; omega
  · exact h1
  · have := mag32_lt h1; omega
/-- A finite word's datum. -/
theorem decode_fin {c : Nat} (h : isF c = true) : ∃ m p, FloatKind.f32.decode c = .number (neg32 c) m p ∧ -149 ≤ p ∧ m * 2 ^ (p + 149).toNat = mag32 (c % 2147483648) := by
  simp only [isF, decide_eq_true_eq] at h
  rw [decode_single]
  by_cases h1 : c % 2147483648 < 8388608
  · rw [if_pos h1]
    exact ⟨_, _, rfl, by omega, by unfold mag32; rw [if_pos h1]; simp⟩
  · rw [if_neg h1, if_pos h]
    refine ⟨_, _, rfl, by omega, ?_⟩
    unfold mag32
    rw [if_neg h1]
    congr 2
    omega
theorem signed_scale (s : Bool) (m : Nat) (p b : Int) (hb : -149 ≤ b) (hp : b ≤ p) : Ieee.signed s m (p - b).toNat * (2 ^ (b + 149).toNat : Nat) = if s then -((m * 2 ^ (p + 149).toNat : Nat) : Int) else ((m * 2 ^ (p + 149).toNat : Nat) : Int) := by
  have e : m <<< (p - b).toNat * 2 ^ (b + 149).toNat = m * 2 ^ (p + 149).toNat := by
    rw [Nat.shiftLeft_eq, Nat.mul_assoc, ← Nat.pow_add]
    congr 2
    omega
  unfold Ieee.signed
  cases s
  · simp only [Bool.false_eq_true, if_false]; rw [← Int.natCast_mul, e]
  · simp only [if_true]; rw [Int.neg_mul, ← Int.natCast_mul, e]
theorem compare_scale (a b : Int) (k : Nat) (hk : 0 < k) : compare a b = compare (a * k) (b * k) := by
  have hk' : (0 : Int) < k := by omega
  simp only [compare, compareOfLessAndEq]
  have e1 : (a < b) ↔ (a * k < b * k) := (Int.mul_lt_mul_right hk').symm
  have e2 : (a = b) ↔ (a * k = b * k) := ⟨fun h => by rw [h], fun h => Int.eq_of_mul_eq_mul_right (by omega) h⟩
  by_cases h1 : a < b
  · rw [if_pos h1, if_pos (e1.1 h1)]
  · rw [if_neg h1, if_neg (fun h => h1 (e1.2 h))]
    by_cases h2 : a = b
    · rw [if_pos h2, if_pos (e2.1 h2)]
    · rw [if_neg h2, if_neg (fun h => h2 (e2.2 h))]
theorem order_val {x y : Nat} (hx : isF x = true) (hy : isF y = true) : FloatKind.f32.format.order x y = some (compare (val x) (val y)) := by
  obtain ⟨m, p, e1, hp, hm⟩ := decode_fin hx
  obtain ⟨n, q, e2, hq, hn⟩ := decode_fin hy
  have d1 : FloatKind.f32.format.read x = .number (neg32 x) m p := e1
  have d2 : FloatKind.f32.format.read y = .number (neg32 y) n q := e2
  unfold Ieee.Format.order
  rw [d1, d2]
  simp only [Ieee.Datum.order]
  rw [compare_scale _ _ (2 ^ (min p q + 149).toNat) (Nat.two_pow_pos _), signed_scale _ _ _ _ (by omega) (by omega), signed_scale _ _ _ _ (by omega) (by omega), hm, hn]
  rfl
theorem flt_val {x y : Nat} (hx : isF x = true) (hy : isF y = true) : flt .f32 x y = decide (val x < val y) := by
  unfold flt
  rw [order_val hx hy]
  simp only [compare, compareOfLessAndEq]
  by_cases h : val x < val y
  · simp [h]
  · by_cases h2 : val x = val y <;> simp [h, h2]
theorem feq_val {x y : Nat} (hx : isF x = true) (hy : isF y = true) : feq .f32 x y = decide (val x = val y) := by
  unfold feq
  rw [order_val hx hy]
  simp only [compare, compareOfLessAndEq]
  by_cases h : val x < val y
  · simp [h]; omega
  · by_cases h2 : val x = val y <;> simp [h, h2]
/-- Equal numbers with equal signs are one word. -/
theorem word_of_val {x y : Nat} (hx : x < 4294967296) (hy : y < 4294967296) (hv : val x = val y) (hs : neg32 x = neg32 y) : x = y := by
  have hm : mag32 (x % 2147483648) = mag32 (y % 2147483648) := by
    unfold val at hv
    rw [hs] at hv
    split at hv <;> omega
  have hr := mag32_inj hm
  simp only [neg32] at hs
  have : x / 2147483648 % 2 = y / 2147483648 % 2 := by
    rcases Nat.mod_two_eq_zero_or_one (x / 2147483648) with h1 | h1 <;> rcases Nat.mod_two_eq_zero_or_one (y / 2147483648) with h2 | h2 <;> simp [h1, h2] at hs <;> omega
  omega
end Go.Proofs.Ytjeeflldbhajiaa
set_option linter.unusedSimpArgs false
set_option linter.unusedVariables false
set_option linter.unusedSectionVars false
namespace Go.Proofs.Ytjeeflldbhajiaa
open Go Go.RowKit
theorem fin_isF0 {c : Nat} (h : fin .f32 c = true) : isF c = true := by
  obtain ⟨s, m, i, e⟩ := fin_decode h
  rw [decode_single] at e
  unfold isF
  by_cases c1 : c % 2147483648 < 8388608
  · exact decide_eq_true (by omega)
  · rw [if_neg c1] at e
    by_cases c2 : c % 2147483648 < 2139095040
    · exact decide_eq_true c2
    · rw [if_neg c2] at e
      by_cases c3 : c % 2147483648 = 2139095040
      · rw [if_pos c3] at e; cases e
      · rw [if_neg c3] at e; cases e
theorem fin_word {c : Nat} (h : fin .f32 (cn .f32 c) = true) : isF c = true ∧ cn .f32 c = c := by
  by_cases hn : isN .f32 c = true
  · rw [cn_of_isN hn] at h
    have : fin .f32 (qn .f32) = false := by decide +kernel
    rw [this] at h; cases h
  · have e := cn_of_not (k := .f32) (b := c) (by simpa using hn)
    rw [e] at h
    exact ⟨fin_isF0 h, e⟩
def fmin (x y : Nat) : Nat := if val y < val x then y else if val x < val y then x else if (FloatKind.f32.decode x).neg then x else y
def fmax (x y : Nat) : Nat := if val x < val y then y else if val y < val x then x else if (FloatKind.f32.decode x).neg then y else x
theorem run_fmin {P : Program} {x y : Nat} (hx : isF x = true) (hy : isF y = true) (ts : Array TypeId) (t : TypeId) (w : World) : (Builtin.min_ ts t #[.float .f32 x, .float .f32 y]).run P w = .ok (.float .f32 (fmin x y)) w := by
  have h := order_val hx hy
  unfold fmin
  rcases hc : compare (val x) (val y) with _ | _ | _
  · have := Int.compare_eq_lt.1 hc
    rw [hc] at h
    simp [Builtin.min_, Builtin.min2, h, show ¬ val y < val x by omega, show val x < val y from this]
  · have := Int.compare_eq_eq.1 hc
    rw [hc] at h
    simp [Builtin.min_, Builtin.min2, h, show ¬ val y < val x by omega, show ¬ val x < val y by omega]
  · have := Int.compare_eq_gt.1 hc
    rw [hc] at h
    simp [Builtin.min_, Builtin.min2, h, show val y < val x from this, show ¬ val x < val y by omega]
theorem run_fmax {P : Program} {x y : Nat} (hx : isF x = true) (hy : isF y = true) (ts : Array TypeId) (t : TypeId) (w : World) : (Builtin.max_ ts t #[.float .f32 x, .float .f32 y]).run P w = .ok (.float .f32 (fmax x y)) w := by
  have h := order_val hx hy
  unfold fmax
  rcases hc : compare (val x) (val y) with _ | _ | _
  · have := Int.compare_eq_lt.1 hc
    rw [hc] at h
    simp [Builtin.max_, Builtin.max2, h, show ¬ val y < val x by omega, show val x < val y from this]
  · have := Int.compare_eq_eq.1 hc
    rw [hc] at h
    simp [Builtin.max_, Builtin.max2, h, show ¬ val y < val x by omega, show ¬ val x < val y by omega]
  · have := Int.compare_eq_gt.1 hc
    rw [hc] at h
    simp [Builtin.max_, Builtin.max2, h, show val y < val x from this, show ¬ val x < val y by omega]
end Go.Proofs.Ytjeeflldbhajiaa
set_option linter.unusedSimpArgs false
set_option linter.unusedVariables false
set_option linter.unusedSectionVars false
namespace Go.Proofs.Ytjeeflldbhajiaa
open Go Go.RowKit
def mostV (s : St) (p : Nat) : Nat := fop .quo .f32 (fop .mul .f32 (fop .mul .f32 (fop .mul .f32 (cn .f32 1048576000) (cn .f32 p)) (cn .f32 p)) (cn .f32 (fmin s.a s.b))) (cn .f32 (fmax s.c s.d))
theorem cn_mostV (s : St) (p : Nat) : cn .f32 (mostV s p) = mostV s p := cn_fop _ _ _ _
theorem ok_words {s : St} (h : s.ok = true) : isF s.a = true ∧ isF s.b = true ∧ isF s.c = true ∧ isF s.d = true := by
  unfold St.ok abv at h
  simp only [Bool.and_eq_true] at h
  exact ⟨(fin_word h.1.1).1, (fin_word h.2.1.1).1, (fin_word h.2.2.1.1).1, (fin_word h.2.2.2.1.1).1⟩
set_option maxHeartbeats 2000000 in
theorem implMostTick_any (s : St) (p : Nat) (v : Value) (xs : List Nat) (w : World) (hs : FS w v xs) : Calls Try.prog 23 #[.agg #[.float .f32 s.a, .float .f32 s.b, .float .f32 s.c, .float .f32 s.d, .float .f32 s.p, .float .f32 s.l, .float .f32 p, v]] w (BFB w .f32 (gF (barOk s p xs) (mostV s p)) (gB (barOk s p xs) (mostV s p))) := by
  have HS := Lib.hid hs
  obtain ⟨q, c, rfl, hc1, hc2, HV⟩ := FS_view hs
  clear hs HV
  have HB := Lib.hid (fun w h => implValidBar_any s p (.slice q xs.length c) xs w h)
  rcases h0 : barOk s p xs
  · rw [h0] at HB
    go_enter Try.func23, Try.ntmps23
    go_wp2_with (first | (with_reducible refine at_list ?_; refine wpList_fop rfl rfl rfl rfl rfl ?_; intro r n hr0; have hr := hr0 _ _ (by first | with_reducible assumption | exact rfl) (by first | with_reducible assumption | exact rfl); clear hr0) | (with_reducible refine at_list ?_; refine wpList_neg rfl rfl rfl ?_; intro r hr0; have hr := hr0 _ (by first | with_reducible assumption | exact rfl); clear hr0) | (with_reducible refine at_list ?_; refine wpList_fop_g rfl rfl rfl rfl rfl ?_; intro r n hr0; have hr := hr0 _ _ (by first | with_reducible assumption | exact rfl) (by first | with_reducible assumption | exact rfl); clear hr0) | (with_reducible refine at_list ?_; refine wpList_wide_g rfl rfl Try.underlying22 Try.underlying40 rfl ?_; intro r n hr0; have hr := hr0 _ (by first | with_reducible assumption | exact rfl); clear hr0) | (with_reducible refine at_list ?_; refine wpList_wide rfl rfl rfl Try.underlying22 Try.underlying40 ?_; intro r n hr0; have hr := hr0 _ (by first | with_reducible assumption | exact rfl); clear hr0) | (go_at_call 21; refine ((HB.out _ (HS.out.later (by (repeat (first | (with_reducible exact Below.refl _ _) | (with_reducible assumption) | (with_reducible refine below_then ?_ (by assumption)) | (with_reducible refine Below.trans ?_ (by assumption)) | (with_reducible refine below_drewN ?_ _) | (with_reducible apply Below.drew) | (with_reducible refine below_alloc ?_ _) | refine Below.setCell ?_ (by first | (simp; done) | (simp; omega)) _))))) ).mono ?_; rintro e w' ⟨rfl, hb⟩; obtain ⟨hT, hk⟩ := bv_next hb (by (repeat (with_reducible first | assumption | apply Trk.alloc | apply Trk.setCell | apply Trk.drewN | apply Trk.drew | exact Trk.nil _))); simp only [SameOn, World.size_alloc, World.size_setCell, World.size_drew, size_drewN', and_true] at hk; have hsz := Below.size hb; (try simp only [World.size_alloc, World.size_setCell, World.size_drew, size_drewN'] at hsz)) | (go_at_call 71; refine (checked_any _ _).mono ?_; rintro e w' ⟨r, rfl, hr, n, rfl⟩))
    all_goals
      go_ret2
      exact ⟨_, by first | rfl | (simp [gB, *] <;> rfl), by simp [gF, *], by (repeat (first | (with_reducible exact Below.refl _ _) | (with_reducible assumption) | (with_reducible refine below_then ?_ (by assumption)) | (with_reducible refine Below.trans ?_ (by assumption)) | (with_reducible refine below_drewN ?_ _) | (with_reducible apply Below.drew) | (with_reducible refine below_alloc ?_ _) | refine Below.setCell ?_ (by first | (simp; done) | (simp; omega)) _))⟩
  rw [h0] at HB
  have hok : s.ok = true := by unfold barOk at h0; simp only [Bool.and_eq_true] at h0; exact h0.1
  obtain ⟨ha, hb, hc, hd⟩ := ok_words hok
  have hmin := fun ts t w => run_fmin (P := Try.prog) ha hb ts t w
  have hmax := fun ts t w => run_fmax (P := Try.prog) hc hd ts t w
  have HM : Hid (mostV s p = fop .quo .f32 (fop .mul .f32 (fop .mul .f32 (fop .mul .f32 (cn .f32 1048576000) (cn .f32 p)) (cn .f32 p)) (cn .f32 (fmin s.a s.b))) (cn .f32 (fmax s.c s.d))) := rfl
  clear ha hb hc hd hok
  go_enter Try.func23, Try.ntmps23
  go_wp2_with (first | (with_reducible refine at_list ?_; refine wpList_fop rfl rfl rfl rfl rfl ?_; intro r n hr0; have hr := hr0 _ _ (by first | with_reducible assumption | exact rfl) (by first | with_reducible assumption | exact rfl); clear hr0) | (with_reducible refine at_list ?_; refine wpList_neg rfl rfl rfl ?_; intro r hr0; have hr := hr0 _ (by first | with_reducible assumption | exact rfl); clear hr0) | (with_reducible refine at_list ?_; refine wpList_fop_g rfl rfl rfl rfl rfl ?_; intro r n hr0; have hr := hr0 _ _ (by first | with_reducible assumption | exact rfl) (by first | with_reducible assumption | exact rfl); clear hr0) | (with_reducible refine at_list ?_; refine wpList_wide_g rfl rfl Try.underlying22 Try.underlying40 rfl ?_; intro r n hr0; have hr := hr0 _ (by first | with_reducible assumption | exact rfl); clear hr0) | (with_reducible refine at_list ?_; refine wpList_wide rfl rfl rfl Try.underlying22 Try.underlying40 ?_; intro r n hr0; have hr := hr0 _ (by first | with_reducible assumption | exact rfl); clear hr0) | (go_at_call 21; refine ((HB.out _ (HS.out.later (by (repeat (first | (with_reducible exact Below.refl _ _) | (with_reducible assumption) | (with_reducible refine below_then ?_ (by assumption)) | (with_reducible refine Below.trans ?_ (by assumption)) | (with_reducible refine below_drewN ?_ _) | (with_reducible apply Below.drew) | (with_reducible refine below_alloc ?_ _) | refine Below.setCell ?_ (by first | (simp; done) | (simp; omega)) _))))) ).mono ?_; rintro e w' ⟨rfl, hb⟩; obtain ⟨hT, hk⟩ := bv_next hb (by (repeat (with_reducible first | assumption | apply Trk.alloc | apply Trk.setCell | apply Trk.drewN | apply Trk.drew | exact Trk.nil _))); simp only [SameOn, World.size_alloc, World.size_setCell, World.size_drew, size_drewN', and_true] at hk; have hsz := Below.size hb; (try simp only [World.size_alloc, World.size_setCell, World.size_drew, size_drewN'] at hsz)) | (go_at_call 71; refine (checked_any _ _).mono ?_; rintro e w' ⟨r, rfl, hr, n, rfl⟩))
  all_goals
    go_ret2
    exact ⟨_, by first | rfl | (simp [gB, mostV, *] <;> rfl), by simp [gF, mostV, *], by (repeat (first | (with_reducible exact Below.refl _ _) | (with_reducible assumption) | (with_reducible refine below_then ?_ (by assumption)) | (with_reducible refine Below.trans ?_ (by assumption)) | (with_reducible refine below_drewN ?_ _) | (with_reducible apply Below.drew) | (with_reducible refine below_alloc ?_ _) | refine Below.setCell ?_ (by first | (simp; done) | (simp; omega)) _))⟩
end Go.Proofs.Ytjeeflldbhajiaa

/-
  Bytes that choose numbers: the source of what the statements draw. No condition but what each contract says.
  How this seat's bars and slices of numbers are opened to their cells. No condition.
  Draws: a number below a bound; a source made of bytes; bytes handed in. No condition but what each contract says.
  A statement whose order Go leaves open and in which a call, an append or a store turns memory that was there before: what holds of the world is told from one such operation to the next; one walk in the order of the text serves every order. No condition; nothing of the program is named here.
  Draws in a statement whose order Go leaves open; a source made of bytes; bytes handed in. No condition but what each contract says.
  What the statements draw: a stuff of small dyadic numbers. No condition but what each contract says.
  Drawn stuffs: how warm they are, how far molten, what heat that comes to: between bounds. No condition but what each law says.
  Rounding keeps order: no number of the format is nearer than the rounded one. No condition but what each law says; nothing of the program is named here.
  Rods: how they are opened to their cells. No condition but what each contract says.
  Rods: the laws' own helpers; which rods are valid (the program's and the reference's). No condition but what each contract says.
  Which rods are valid: the program's way. No condition but what each contract says.
  Which rods are valid: the reference's way. No condition but what each contract says.
  Half of a number: by two, or a half times. No condition.
  The middles of a rod's cells (the program's and the reference's). No condition but what each contract says.
  A list of numbers appended whole to an own slice; slices.Clone, and the reference's copy. No condition but what each contract says.
  Marks in rods of the call's own. No condition but what each contract says.
  Rods of the call's own that are made in a region that draws its order: four lists, made one behind the other. No condition but what each contract says.
-/
import Derived.Test.YtpnkapdemgieaaaSM2
import Derived.Deep.Slices
import Derived.Test.YtpnkapdemgieaaaSM1
set_option linter.unusedSimpArgs false
set_option linter.unusedVariables false
set_option linter.unusedSectionVars false
namespace Go.Proofs.Ytpnkapdemgieaaa
open Go Go.RowKit
/-- A slice of bytes, in blocks ahead of B. -/
def BY (B : Nat) (w : World) (p : Option Addr) (n c : Nat) : Prop := (n ≤ c ∧ c ≤ 9223372036854775807) ∧ ∀ i, i < n → ∃ b o x, p = some ⟨b, o, none⟩ ∧ b < B ∧ w.cell? ⟨b, o + i, none⟩ = some (.int .u8 x) ∧ 0 ≤ x ∧ x ≤ 255
theorem BY.later {B C : Nat} {w w' : World} {p : Option Addr} {n c : Nat} (h : BY B w p n c) (hb : Below C w w') (hB : B ≤ C) : BY B w' p n c :=
  ⟨h.1, fun i hi => by
    obtain ⟨b, o, x, e, h1, h2, h3⟩ := h.2 i hi
    exact ⟨b, o, x, e, h1, (hb.cell (p := ⟨b, o + i, none⟩) (show b < C by omega)).trans h2, h3⟩⟩
theorem BY.mono {B C : Nat} {w : World} {p : Option Addr} {n c : Nat} (h : BY B w p n c) (hB : B ≤ C) : BY C w p n c :=
  ⟨h.1, fun i hi => by
    obtain ⟨b, o, x, e, h1, h2⟩ := h.2 i hi
    exact ⟨b, o, x, e, by omega, h2⟩⟩
/-- A source of draws in block b, after at most K draws. -/
def SrcAt (w : World) (b K : Nat) : Prop := ∃ (p : Option Addr) (n c : Nat) (k s : Int), (w.cell? ⟨b, 0, none⟩ = some (.slice p n c) ∧ w.cell? ⟨b, 1, none⟩ = some (.int .i64 k) ∧ w.cell? ⟨b, 2, none⟩ = some (.int .u64 s)) ∧ (w.frozen? ⟨b, 1, none⟩ = false ∧ w.frozen? ⟨b, 2, none⟩ = false) ∧ BY b w p n c ∧ n ≤ 1048576 ∧ (0 ≤ k ∧ k ≤ K) ∧ 0 ≤ s ∧ s < 18446744073709551616
theorem SrcAt.later {w w' : World} {b K B : Nat} (h : SrcAt w b K) (hb : Below B w w') (hB : b < B) : SrcAt w' b K := by
  obtain ⟨p, n, c, k, s, ⟨h1, h2, h3⟩, ⟨h4, h5⟩, h6, h7⟩ := h
  exact ⟨p, n, c, k, s, ⟨(hb.cell hB).trans h1, (hb.cell hB).trans h2, (hb.cell hB).trans h3⟩, ⟨(hb.frozen hB).trans h4, (hb.frozen hB).trans h5⟩, h6.later hb (by omega), h7⟩
theorem SrcAt.mono {w : World} {b K L : Nat} (h : SrcAt w b K) (hL : K ≤ L) : SrcAt w b L := by
  obtain ⟨p, n, c, k, s, h1, h2, h3, h4, ⟨h5, h6⟩, h7⟩ := h
  exact ⟨p, n, c, k, s, h1, h2, h3, h4, ⟨h5, by omega⟩, h7⟩
/-- What a draw leaves. -/
def SP (w : World) (b K : Nat) (lo hi : Int) (e : Ending) (w' : World) : Prop := ∃ r, e = .returned (.int .i64 r) ∧ (lo ≤ r ∧ r ≤ hi) ∧ Turn b (b + 1) w w' ∧ w'.heap.size = w.heap.size ∧ SrcAt w' b K
theorem src_next {w : World} {b K n c : Nat} {p : Option Addr} {k s : Int} (c0 : w.cell? ⟨b, 0, none⟩ = some (.slice p n c)) (c1 : w.cell? ⟨b, 1, none⟩ = some (.int .i64 k)) (c2 : w.cell? ⟨b, 2, none⟩ = some (.int .u64 s)) (f1 : w.frozen? ⟨b, 1, none⟩ = false) (f2 : w.frozen? ⟨b, 2, none⟩ = false) (hb : BY b w p n c) (hn : n ≤ 1048576) (hk : 0 ≤ k ∧ k ≤ K) (x : Int) (m : Nat) :
    Turn b (b + 1) w (((w.setCell ⟨b, 1, none⟩ (.int .i64 (k + 1))).setCell ⟨b, 2, none⟩ (.int .u64 (IntKind.u64.wrap x))).drewN m) ∧ (((w.setCell ⟨b, 1, none⟩ (.int .i64 (k + 1))).setCell ⟨b, 2, none⟩ (.int .u64 (IntKind.u64.wrap x))).drewN m).heap.size = w.heap.size ∧ SrcAt (((w.setCell ⟨b, 1, none⟩ (.int .i64 (k + 1))).setCell ⟨b, 2, none⟩ (.int .u64 (IntKind.u64.wrap x))).drewN m) b (K + 1) := by
  have hgt : ∀ (w' : World) (j : Nat) (v : Value), w'.grownBy (w'.setCell ⟨b, j, none⟩ v) (some b) := fun w' j v => ⟨rfl, rfl, rfl, by simp, fun i _ hi => Below.heap_setCell _ _ _ _ (fun e => hi (by rw [e]))⟩
  have h1 : Turn b (b + 1) w ((w.setCell ⟨b, 1, none⟩ (.int .i64 (k + 1))).setCell ⟨b, 2, none⟩ (.int .u64 (IntKind.u64.wrap x))) := by
    have a := hgt w 1 (.int .i64 (k + 1))
    have d := hgt (w.setCell ⟨b, 1, none⟩ (.int .i64 (k + 1))) 2 (.int .u64 (IntKind.u64.wrap x))
    exact ⟨rfl, rfl, rfl, by simp, fun i hi hr => (d.block i (by simpa using hi) (by simp; omega)).trans (a.block i hi (by simp; omega))⟩
  refine ⟨h1.draws m, by simp, p, n, c, k + 1, IntKind.u64.wrap x, ⟨by go_simp, ?_, ?_⟩, ⟨by simp; exact f1, by simp; exact f2⟩, ⟨hb.1, fun i hi => ?_⟩, hn, ⟨by omega, by omega⟩, ?_⟩
  · have := World.block_lt_of_cell? _ _ c1
    go_simp
  · go_simp
  · obtain ⟨bb, o, y, e, e1, e2, e3⟩ := hb.2 i hi
    refine ⟨bb, o, y, e, e1, ?_, e3⟩
    have hbl : Below bb.succ w (((w.setCell ⟨b, 1, none⟩ (.int .i64 (k + 1))).setCell ⟨b, 2, none⟩ (.int .u64 (IntKind.u64.wrap x))).drewN m) := by
      have h2 := h1.draws m
      exact ⟨h2.os, h2.tape, h2.output, h2.size, fun j hj => by
        by_cases hjw : j < w.heap.size
        · exact h2.block j hjw (.inl (by omega))
        · have := World.block_lt_of_cell? _ _ e2
          exact absurd (show j < w.heap.size by have : bb < w.heap.size := this; omega) hjw⟩
    exact (hbl.cell (p := ⟨bb, o + i, none⟩) (Nat.lt_succ_self bb)).trans e2
  · rw [IntKind.wrap_u64]
    omega
theorem and255 (x : Int) (h : 0 ≤ x) (h2 : x < 18446744073709551616) : 0 ≤ bits .and .u64 x 255 ∧ bits .and .u64 x 255 ≤ 255 := by
  obtain ⟨n, rfl⟩ := Int.eq_ofNat_of_zero_le h
  have e : bits .and .u64 (n : Int) 255 = ((n &&& 255 : Nat) : Int) := bits_and_u64_nat n 255 (by omega) (by omega)
  rw [e]
  have := Nat.and_le_right (n := n) (m := 255)
  omega
set_option maxHeartbeats 2000000 in
theorem next_any (b K : Nat) (w : World) (h : SrcAt w b K) (hK : K ≤ 1000000) : Calls Try.prog 70 #[.pointer (some ⟨b, 0, none⟩)] w (SP w b (K + 1) 0 255) := by
  obtain ⟨p, n, c, k, s, ⟨c0, c1, c2⟩, ⟨f1, f2⟩, hby, hn, ⟨hk0, hk1⟩, hs0, hs1⟩ := h
  obtain ⟨⟨hc1, hc2⟩, hv⟩ := hby
  have HV := Lib.hid hv
  clear hv
  by_cases hlt : k < n
  · obtain ⟨km, rfl⟩ := Int.eq_ofNat_of_zero_le hk0
    obtain ⟨bb, o, x, rfl, hbb, hx, hx0, hx1⟩ := HV.out km (by omega)
    go_enter Try.func70, Try.ntmps70
    go_wp2_with (first | (with_reducible refine at_list ?_; refine wpList_fop rfl rfl rfl rfl rfl ?_; intro r n hr0; have hr := hr0 _ _ (by first | with_reducible assumption | exact rfl) (by first | with_reducible assumption | exact rfl); clear hr0) | (with_reducible refine at_list ?_; refine wpList_neg rfl rfl rfl ?_; intro r hr0; have hr := hr0 _ (by first | with_reducible assumption | exact rfl); clear hr0) | (with_reducible refine at_list ?_; refine wpList_fop_g rfl rfl rfl rfl rfl ?_; intro r n hr0; have hr := hr0 _ _ (by first | with_reducible assumption | exact rfl) (by first | with_reducible assumption | exact rfl); clear hr0) | (with_reducible refine at_list ?_; refine wpList_wide_g rfl rfl Try.underlying28 Try.underlying39 rfl ?_; intro r n hr0; have hr := hr0 _ (by first | with_reducible assumption | exact rfl); clear hr0) | (with_reducible refine at_list ?_; refine wpList_wide rfl rfl rfl Try.underlying28 Try.underlying39 ?_; intro r n hr0; have hr := hr0 _ (by first | with_reducible assumption | exact rfl); clear hr0))
    all_goals (try ((first | (refine wp_some_lit (by kernel_rfl) (by kernel_rfl) ?_; (refine wpSome_one ?_; go_big_quiet_step (fail); refine wpQuiet_nil ?_); (refine wpSome_one ?_; go_big_quiet_step (fail); refine wpQuiet_nil ?_); (refine wpSome_one ?_; go_big_quiet_step (fail); refine wpQuiet_nil ?_); (refine wpSome_one ?_; go_big_quiet_step (fail); refine wpQuiet_nil ?_); (refine wpSome_one ?_; go_big_quiet_step (fail); refine wpQuiet_nil ?_); (refine wpSome_one ?_; go_big_quiet_step (fail); refine wpQuiet_nil ?_); (refine wpSome_one ?_; go_big_quiet_step (fail); refine wpQuiet_nil ?_); (refine wpSome_one ?_; go_big_quiet_step (fail); refine wpQuiet_nil ?_); (refine wpSome_one ?_; go_big_quiet_step (fail); refine wpQuiet_nil ?_); (refine wpSome_one ?_; go_big_quiet_step (fail); refine wpQuiet_nil ?_); refine wpSome_nil ?_; intro w' hw'; obtain ⟨nq, rfl⟩ := hw') | (refine wp_some_lit (by kernel_rfl) (by kernel_rfl) ?_; (refine wpSome_one ?_; go_big_quiet_step (fail); refine wpQuiet_nil ?_); (refine wpSome_one ?_; go_big_quiet_step (fail); refine wpQuiet_nil ?_); (refine wpSome_one ?_; go_big_quiet_step (fail); refine wpQuiet_nil ?_); (refine wpSome_one ?_; go_big_quiet_step (fail); refine wpQuiet_nil ?_); (refine wpSome_one ?_; go_big_quiet_step (fail); refine wpQuiet_nil ?_); (refine wpSome_one ?_; go_big_quiet_step (fail); refine wpQuiet_nil ?_); (refine wpSome_one ?_; go_big_quiet_step (fail); refine wpQuiet_nil ?_); (refine wpSome_one ?_; go_big_quiet_step (fail); refine wpQuiet_nil ?_); (refine wpSome_one ?_; go_big_quiet_step (fail); refine wpQuiet_nil ?_); (refine wpSome_one ?_; go_big_quiet_step (fail); refine wpQuiet_nil ?_); (refine wpSome_one ?_; go_big_quiet_step (fail); refine wpQuiet_nil ?_); (refine wpSome_one ?_; go_big_quiet_step (fail); refine wpQuiet_nil ?_); refine wpSome_nil ?_; intro w' hw'; obtain ⟨nq, rfl⟩ := hw') | (refine wp_some_lit (by kernel_rfl) (by kernel_rfl) ?_; (refine wpSome_one ?_; go_big_quiet_step (fail); refine wpQuiet_nil ?_); (refine wpSome_one ?_; go_big_quiet_step (fail); refine wpQuiet_nil ?_); (refine wpSome_one ?_; go_big_quiet_step (fail); refine wpQuiet_nil ?_); (refine wpSome_one ?_; go_big_quiet_step (fail); refine wpQuiet_nil ?_); (refine wpSome_one ?_; go_big_quiet_step (fail); refine wpQuiet_nil ?_); (refine wpSome_one ?_; go_big_quiet_step (fail); refine wpQuiet_nil ?_); (refine wpSome_one ?_; go_big_quiet_step (fail); refine wpQuiet_nil ?_); (refine wpSome_one ?_; go_big_quiet_step (fail); refine wpQuiet_nil ?_); (refine wpSome_one ?_; go_big_quiet_step (fail); refine wpQuiet_nil ?_); (refine wpSome_one ?_; go_big_quiet_step (fail); refine wpQuiet_nil ?_); refine wpSome_nil ?_; intro w' hw'; obtain ⟨nq, rfl⟩ := hw')); go_wp2_with (first | (with_reducible refine at_list ?_; refine wpList_fop rfl rfl rfl rfl rfl ?_; intro r n hr0; have hr := hr0 _ _ (by first | with_reducible assumption | exact rfl) (by first | with_reducible assumption | exact rfl); clear hr0) | (with_reducible refine at_list ?_; refine wpList_neg rfl rfl rfl ?_; intro r hr0; have hr := hr0 _ (by first | with_reducible assumption | exact rfl); clear hr0) | (with_reducible refine at_list ?_; refine wpList_fop_g rfl rfl rfl rfl rfl ?_; intro r n hr0; have hr := hr0 _ _ (by first | with_reducible assumption | exact rfl) (by first | with_reducible assumption | exact rfl); clear hr0) | (with_reducible refine at_list ?_; refine wpList_wide_g rfl rfl Try.underlying28 Try.underlying39 rfl ?_; intro r n hr0; have hr := hr0 _ (by first | with_reducible assumption | exact rfl); clear hr0) | (with_reducible refine at_list ?_; refine wpList_wide rfl rfl rfl Try.underlying28 Try.underlying39 ?_; intro r n hr0; have hr := hr0 _ (by first | with_reducible assumption | exact rfl); clear hr0))))
    all_goals (try ((first | (refine wp_some_lit (by kernel_rfl) (by kernel_rfl) ?_; (refine wpSome_one ?_; go_big_quiet_step (fail); refine wpQuiet_nil ?_); (refine wpSome_one ?_; go_big_quiet_step (fail); refine wpQuiet_nil ?_); (refine wpSome_one ?_; go_big_quiet_step (fail); refine wpQuiet_nil ?_); (refine wpSome_one ?_; go_big_quiet_step (fail); refine wpQuiet_nil ?_); (refine wpSome_one ?_; go_big_quiet_step (fail); refine wpQuiet_nil ?_); (refine wpSome_one ?_; go_big_quiet_step (fail); refine wpQuiet_nil ?_); (refine wpSome_one ?_; go_big_quiet_step (fail); refine wpQuiet_nil ?_); (refine wpSome_one ?_; go_big_quiet_step (fail); refine wpQuiet_nil ?_); (refine wpSome_one ?_; go_big_quiet_step (fail); refine wpQuiet_nil ?_); (refine wpSome_one ?_; go_big_quiet_step (fail); refine wpQuiet_nil ?_); refine wpSome_nil ?_; intro w' hw'; obtain ⟨nq, rfl⟩ := hw') | (refine wp_some_lit (by kernel_rfl) (by kernel_rfl) ?_; (refine wpSome_one ?_; go_big_quiet_step (fail); refine wpQuiet_nil ?_); (refine wpSome_one ?_; go_big_quiet_step (fail); refine wpQuiet_nil ?_); (refine wpSome_one ?_; go_big_quiet_step (fail); refine wpQuiet_nil ?_); (refine wpSome_one ?_; go_big_quiet_step (fail); refine wpQuiet_nil ?_); (refine wpSome_one ?_; go_big_quiet_step (fail); refine wpQuiet_nil ?_); (refine wpSome_one ?_; go_big_quiet_step (fail); refine wpQuiet_nil ?_); (refine wpSome_one ?_; go_big_quiet_step (fail); refine wpQuiet_nil ?_); (refine wpSome_one ?_; go_big_quiet_step (fail); refine wpQuiet_nil ?_); (refine wpSome_one ?_; go_big_quiet_step (fail); refine wpQuiet_nil ?_); (refine wpSome_one ?_; go_big_quiet_step (fail); refine wpQuiet_nil ?_); (refine wpSome_one ?_; go_big_quiet_step (fail); refine wpQuiet_nil ?_); (refine wpSome_one ?_; go_big_quiet_step (fail); refine wpQuiet_nil ?_); refine wpSome_nil ?_; intro w' hw'; obtain ⟨nq, rfl⟩ := hw') | (refine wp_some_lit (by kernel_rfl) (by kernel_rfl) ?_; (refine wpSome_one ?_; go_big_quiet_step (fail); refine wpQuiet_nil ?_); (refine wpSome_one ?_; go_big_quiet_step (fail); refine wpQuiet_nil ?_); (refine wpSome_one ?_; go_big_quiet_step (fail); refine wpQuiet_nil ?_); (refine wpSome_one ?_; go_big_quiet_step (fail); refine wpQuiet_nil ?_); (refine wpSome_one ?_; go_big_quiet_step (fail); refine wpQuiet_nil ?_); (refine wpSome_one ?_; go_big_quiet_step (fail); refine wpQuiet_nil ?_); (refine wpSome_one ?_; go_big_quiet_step (fail); refine wpQuiet_nil ?_); (refine wpSome_one ?_; go_big_quiet_step (fail); refine wpQuiet_nil ?_); (refine wpSome_one ?_; go_big_quiet_step (fail); refine wpQuiet_nil ?_); (refine wpSome_one ?_; go_big_quiet_step (fail); refine wpQuiet_nil ?_); refine wpSome_nil ?_; intro w' hw'; obtain ⟨nq, rfl⟩ := hw')); go_wp2_with (first | (with_reducible refine at_list ?_; refine wpList_fop rfl rfl rfl rfl rfl ?_; intro r n hr0; have hr := hr0 _ _ (by first | with_reducible assumption | exact rfl) (by first | with_reducible assumption | exact rfl); clear hr0) | (with_reducible refine at_list ?_; refine wpList_neg rfl rfl rfl ?_; intro r hr0; have hr := hr0 _ (by first | with_reducible assumption | exact rfl); clear hr0) | (with_reducible refine at_list ?_; refine wpList_fop_g rfl rfl rfl rfl rfl ?_; intro r n hr0; have hr := hr0 _ _ (by first | with_reducible assumption | exact rfl) (by first | with_reducible assumption | exact rfl); clear hr0) | (with_reducible refine at_list ?_; refine wpList_wide_g rfl rfl Try.underlying28 Try.underlying39 rfl ?_; intro r n hr0; have hr := hr0 _ (by first | with_reducible assumption | exact rfl); clear hr0) | (with_reducible refine at_list ?_; refine wpList_wide rfl rfl rfl Try.underlying28 Try.underlying39 ?_; intro r n hr0; have hr := hr0 _ (by first | with_reducible assumption | exact rfl); clear hr0))))
    all_goals (try ((first | (refine wp_some_lit (by kernel_rfl) (by kernel_rfl) ?_; (refine wpSome_one ?_; go_big_quiet_step (fail); refine wpQuiet_nil ?_); (refine wpSome_one ?_; go_big_quiet_step (fail); refine wpQuiet_nil ?_); (refine wpSome_one ?_; go_big_quiet_step (fail); refine wpQuiet_nil ?_); (refine wpSome_one ?_; go_big_quiet_step (fail); refine wpQuiet_nil ?_); (refine wpSome_one ?_; go_big_quiet_step (fail); refine wpQuiet_nil ?_); (refine wpSome_one ?_; go_big_quiet_step (fail); refine wpQuiet_nil ?_); (refine wpSome_one ?_; go_big_quiet_step (fail); refine wpQuiet_nil ?_); (refine wpSome_one ?_; go_big_quiet_step (fail); refine wpQuiet_nil ?_); (refine wpSome_one ?_; go_big_quiet_step (fail); refine wpQuiet_nil ?_); (refine wpSome_one ?_; go_big_quiet_step (fail); refine wpQuiet_nil ?_); refine wpSome_nil ?_; intro w' hw'; obtain ⟨nq, rfl⟩ := hw') | (refine wp_some_lit (by kernel_rfl) (by kernel_rfl) ?_; (refine wpSome_one ?_; go_big_quiet_step (fail); refine wpQuiet_nil ?_); (refine wpSome_one ?_; go_big_quiet_step (fail); refine wpQuiet_nil ?_); (refine wpSome_one ?_; go_big_quiet_step (fail); refine wpQuiet_nil ?_); (refine wpSome_one ?_; go_big_quiet_step (fail); refine wpQuiet_nil ?_); (refine wpSome_one ?_; go_big_quiet_step (fail); refine wpQuiet_nil ?_); (refine wpSome_one ?_; go_big_quiet_step (fail); refine wpQuiet_nil ?_); (refine wpSome_one ?_; go_big_quiet_step (fail); refine wpQuiet_nil ?_); (refine wpSome_one ?_; go_big_quiet_step (fail); refine wpQuiet_nil ?_); (refine wpSome_one ?_; go_big_quiet_step (fail); refine wpQuiet_nil ?_); (refine wpSome_one ?_; go_big_quiet_step (fail); refine wpQuiet_nil ?_); (refine wpSome_one ?_; go_big_quiet_step (fail); refine wpQuiet_nil ?_); (refine wpSome_one ?_; go_big_quiet_step (fail); refine wpQuiet_nil ?_); refine wpSome_nil ?_; intro w' hw'; obtain ⟨nq, rfl⟩ := hw') | (refine wp_some_lit (by kernel_rfl) (by kernel_rfl) ?_; (refine wpSome_one ?_; go_big_quiet_step (fail); refine wpQuiet_nil ?_); (refine wpSome_one ?_; go_big_quiet_step (fail); refine wpQuiet_nil ?_); (refine wpSome_one ?_; go_big_quiet_step (fail); refine wpQuiet_nil ?_); (refine wpSome_one ?_; go_big_quiet_step (fail); refine wpQuiet_nil ?_); (refine wpSome_one ?_; go_big_quiet_step (fail); refine wpQuiet_nil ?_); (refine wpSome_one ?_; go_big_quiet_step (fail); refine wpQuiet_nil ?_); (refine wpSome_one ?_; go_big_quiet_step (fail); refine wpQuiet_nil ?_); (refine wpSome_one ?_; go_big_quiet_step (fail); refine wpQuiet_nil ?_); (refine wpSome_one ?_; go_big_quiet_step (fail); refine wpQuiet_nil ?_); (refine wpSome_one ?_; go_big_quiet_step (fail); refine wpQuiet_nil ?_); refine wpSome_nil ?_; intro w' hw'; obtain ⟨nq, rfl⟩ := hw')); go_wp2_with (first | (with_reducible refine at_list ?_; refine wpList_fop rfl rfl rfl rfl rfl ?_; intro r n hr0; have hr := hr0 _ _ (by first | with_reducible assumption | exact rfl) (by first | with_reducible assumption | exact rfl); clear hr0) | (with_reducible refine at_list ?_; refine wpList_neg rfl rfl rfl ?_; intro r hr0; have hr := hr0 _ (by first | with_reducible assumption | exact rfl); clear hr0) | (with_reducible refine at_list ?_; refine wpList_fop_g rfl rfl rfl rfl rfl ?_; intro r n hr0; have hr := hr0 _ _ (by first | with_reducible assumption | exact rfl) (by first | with_reducible assumption | exact rfl); clear hr0) | (with_reducible refine at_list ?_; refine wpList_wide_g rfl rfl Try.underlying28 Try.underlying39 rfl ?_; intro r n hr0; have hr := hr0 _ (by first | with_reducible assumption | exact rfl); clear hr0) | (with_reducible refine at_list ?_; refine wpList_wide rfl rfl rfl Try.underlying28 Try.underlying39 ?_; intro r n hr0; have hr := hr0 _ (by first | with_reducible assumption | exact rfl); clear hr0))))
    all_goals (try (first | kernel_rfl | rfl))
    all_goals
      go_ret
      obtain ⟨e1, e2, e3⟩ := src_next c0 c1 c2 f1 f2 ⟨⟨hc1, hc2⟩, HV.out⟩ hn ⟨hk0, hk1⟩ (IntKind.u64.wrap (IntKind.u64.wrap (s * 6364136223846793005) + x) + 1442695040888963407) 0
      exact ⟨_, rfl, ⟨hx0, hx1⟩, ⟨e1.os, e1.tape, e1.output, e1.size, e1.block⟩, e2, e3⟩
  · go_enter Try.func70, Try.ntmps70
    go_wp2_with (first | (with_reducible refine at_list ?_; refine wpList_fop rfl rfl rfl rfl rfl ?_; intro r n hr0; have hr := hr0 _ _ (by first | with_reducible assumption | exact rfl) (by first | with_reducible assumption | exact rfl); clear hr0) | (with_reducible refine at_list ?_; refine wpList_neg rfl rfl rfl ?_; intro r hr0; have hr := hr0 _ (by first | with_reducible assumption | exact rfl); clear hr0) | (with_reducible refine at_list ?_; refine wpList_fop_g rfl rfl rfl rfl rfl ?_; intro r n hr0; have hr := hr0 _ _ (by first | with_reducible assumption | exact rfl) (by first | with_reducible assumption | exact rfl); clear hr0) | (with_reducible refine at_list ?_; refine wpList_wide_g rfl rfl Try.underlying28 Try.underlying39 rfl ?_; intro r n hr0; have hr := hr0 _ (by first | with_reducible assumption | exact rfl); clear hr0) | (with_reducible refine at_list ?_; refine wpList_wide rfl rfl rfl Try.underlying28 Try.underlying39 ?_; intro r n hr0; have hr := hr0 _ (by first | with_reducible assumption | exact rfl); clear hr0))
    all_goals (try ((first | (refine wp_some_lit (by kernel_rfl) (by kernel_rfl) ?_; (refine wpSome_one ?_; go_big_quiet_step (fail); refine wpQuiet_nil ?_); (refine wpSome_one ?_; go_big_quiet_step (fail); refine wpQuiet_nil ?_); (refine wpSome_one ?_; go_big_quiet_step (fail); refine wpQuiet_nil ?_); (refine wpSome_one ?_; go_big_quiet_step (fail); refine wpQuiet_nil ?_); (refine wpSome_one ?_; go_big_quiet_step (fail); refine wpQuiet_nil ?_); (refine wpSome_one ?_; go_big_quiet_step (fail); refine wpQuiet_nil ?_); (refine wpSome_one ?_; go_big_quiet_step (fail); refine wpQuiet_nil ?_); (refine wpSome_one ?_; go_big_quiet_step (fail); refine wpQuiet_nil ?_); (refine wpSome_one ?_; go_big_quiet_step (fail); refine wpQuiet_nil ?_); (refine wpSome_one ?_; go_big_quiet_step (fail); refine wpQuiet_nil ?_); refine wpSome_nil ?_; intro w' hw'; obtain ⟨nq, rfl⟩ := hw') | (refine wp_some_lit (by kernel_rfl) (by kernel_rfl) ?_; (refine wpSome_one ?_; go_big_quiet_step (fail); refine wpQuiet_nil ?_); (refine wpSome_one ?_; go_big_quiet_step (fail); refine wpQuiet_nil ?_); (refine wpSome_one ?_; go_big_quiet_step (fail); refine wpQuiet_nil ?_); (refine wpSome_one ?_; go_big_quiet_step (fail); refine wpQuiet_nil ?_); (refine wpSome_one ?_; go_big_quiet_step (fail); refine wpQuiet_nil ?_); (refine wpSome_one ?_; go_big_quiet_step (fail); refine wpQuiet_nil ?_); (refine wpSome_one ?_; go_big_quiet_step (fail); refine wpQuiet_nil ?_); (refine wpSome_one ?_; go_big_quiet_step (fail); refine wpQuiet_nil ?_); (refine wpSome_one ?_; go_big_quiet_step (fail); refine wpQuiet_nil ?_); (refine wpSome_one ?_; go_big_quiet_step (fail); refine wpQuiet_nil ?_); (refine wpSome_one ?_; go_big_quiet_step (fail); refine wpQuiet_nil ?_); (refine wpSome_one ?_; go_big_quiet_step (fail); refine wpQuiet_nil ?_); refine wpSome_nil ?_; intro w' hw'; obtain ⟨nq, rfl⟩ := hw') | (refine wp_some_lit (by kernel_rfl) (by kernel_rfl) ?_; (refine wpSome_one ?_; go_big_quiet_step (fail); refine wpQuiet_nil ?_); (refine wpSome_one ?_; go_big_quiet_step (fail); refine wpQuiet_nil ?_); (refine wpSome_one ?_; go_big_quiet_step (fail); refine wpQuiet_nil ?_); (refine wpSome_one ?_; go_big_quiet_step (fail); refine wpQuiet_nil ?_); (refine wpSome_one ?_; go_big_quiet_step (fail); refine wpQuiet_nil ?_); (refine wpSome_one ?_; go_big_quiet_step (fail); refine wpQuiet_nil ?_); (refine wpSome_one ?_; go_big_quiet_step (fail); refine wpQuiet_nil ?_); (refine wpSome_one ?_; go_big_quiet_step (fail); refine wpQuiet_nil ?_); (refine wpSome_one ?_; go_big_quiet_step (fail); refine wpQuiet_nil ?_); (refine wpSome_one ?_; go_big_quiet_step (fail); refine wpQuiet_nil ?_); refine wpSome_nil ?_; intro w' hw'; obtain ⟨nq, rfl⟩ := hw')); go_wp2_with (first | (with_reducible refine at_list ?_; refine wpList_fop rfl rfl rfl rfl rfl ?_; intro r n hr0; have hr := hr0 _ _ (by first | with_reducible assumption | exact rfl) (by first | with_reducible assumption | exact rfl); clear hr0) | (with_reducible refine at_list ?_; refine wpList_neg rfl rfl rfl ?_; intro r hr0; have hr := hr0 _ (by first | with_reducible assumption | exact rfl); clear hr0) | (with_reducible refine at_list ?_; refine wpList_fop_g rfl rfl rfl rfl rfl ?_; intro r n hr0; have hr := hr0 _ _ (by first | with_reducible assumption | exact rfl) (by first | with_reducible assumption | exact rfl); clear hr0) | (with_reducible refine at_list ?_; refine wpList_wide_g rfl rfl Try.underlying28 Try.underlying39 rfl ?_; intro r n hr0; have hr := hr0 _ (by first | with_reducible assumption | exact rfl); clear hr0) | (with_reducible refine at_list ?_; refine wpList_wide rfl rfl rfl Try.underlying28 Try.underlying39 ?_; intro r n hr0; have hr := hr0 _ (by first | with_reducible assumption | exact rfl); clear hr0))))
    all_goals (try ((first | (refine wp_some_lit (by kernel_rfl) (by kernel_rfl) ?_; (refine wpSome_one ?_; go_big_quiet_step (fail); refine wpQuiet_nil ?_); (refine wpSome_one ?_; go_big_quiet_step (fail); refine wpQuiet_nil ?_); (refine wpSome_one ?_; go_big_quiet_step (fail); refine wpQuiet_nil ?_); (refine wpSome_one ?_; go_big_quiet_step (fail); refine wpQuiet_nil ?_); (refine wpSome_one ?_; go_big_quiet_step (fail); refine wpQuiet_nil ?_); (refine wpSome_one ?_; go_big_quiet_step (fail); refine wpQuiet_nil ?_); (refine wpSome_one ?_; go_big_quiet_step (fail); refine wpQuiet_nil ?_); (refine wpSome_one ?_; go_big_quiet_step (fail); refine wpQuiet_nil ?_); (refine wpSome_one ?_; go_big_quiet_step (fail); refine wpQuiet_nil ?_); (refine wpSome_one ?_; go_big_quiet_step (fail); refine wpQuiet_nil ?_); refine wpSome_nil ?_; intro w' hw'; obtain ⟨nq, rfl⟩ := hw') | (refine wp_some_lit (by kernel_rfl) (by kernel_rfl) ?_; (refine wpSome_one ?_; go_big_quiet_step (fail); refine wpQuiet_nil ?_); (refine wpSome_one ?_; go_big_quiet_step (fail); refine wpQuiet_nil ?_); (refine wpSome_one ?_; go_big_quiet_step (fail); refine wpQuiet_nil ?_); (refine wpSome_one ?_; go_big_quiet_step (fail); refine wpQuiet_nil ?_); (refine wpSome_one ?_; go_big_quiet_step (fail); refine wpQuiet_nil ?_); (refine wpSome_one ?_; go_big_quiet_step (fail); refine wpQuiet_nil ?_); (refine wpSome_one ?_; go_big_quiet_step (fail); refine wpQuiet_nil ?_); (refine wpSome_one ?_; go_big_quiet_step (fail); refine wpQuiet_nil ?_); (refine wpSome_one ?_; go_big_quiet_step (fail); refine wpQuiet_nil ?_); (refine wpSome_one ?_; go_big_quiet_step (fail); refine wpQuiet_nil ?_); (refine wpSome_one ?_; go_big_quiet_step (fail); refine wpQuiet_nil ?_); (refine wpSome_one ?_; go_big_quiet_step (fail); refine wpQuiet_nil ?_); refine wpSome_nil ?_; intro w' hw'; obtain ⟨nq, rfl⟩ := hw') | (refine wp_some_lit (by kernel_rfl) (by kernel_rfl) ?_; (refine wpSome_one ?_; go_big_quiet_step (fail); refine wpQuiet_nil ?_); (refine wpSome_one ?_; go_big_quiet_step (fail); refine wpQuiet_nil ?_); (refine wpSome_one ?_; go_big_quiet_step (fail); refine wpQuiet_nil ?_); (refine wpSome_one ?_; go_big_quiet_step (fail); refine wpQuiet_nil ?_); (refine wpSome_one ?_; go_big_quiet_step (fail); refine wpQuiet_nil ?_); (refine wpSome_one ?_; go_big_quiet_step (fail); refine wpQuiet_nil ?_); (refine wpSome_one ?_; go_big_quiet_step (fail); refine wpQuiet_nil ?_); (refine wpSome_one ?_; go_big_quiet_step (fail); refine wpQuiet_nil ?_); (refine wpSome_one ?_; go_big_quiet_step (fail); refine wpQuiet_nil ?_); (refine wpSome_one ?_; go_big_quiet_step (fail); refine wpQuiet_nil ?_); refine wpSome_nil ?_; intro w' hw'; obtain ⟨nq, rfl⟩ := hw')); go_wp2_with (first | (with_reducible refine at_list ?_; refine wpList_fop rfl rfl rfl rfl rfl ?_; intro r n hr0; have hr := hr0 _ _ (by first | with_reducible assumption | exact rfl) (by first | with_reducible assumption | exact rfl); clear hr0) | (with_reducible refine at_list ?_; refine wpList_neg rfl rfl rfl ?_; intro r hr0; have hr := hr0 _ (by first | with_reducible assumption | exact rfl); clear hr0) | (with_reducible refine at_list ?_; refine wpList_fop_g rfl rfl rfl rfl rfl ?_; intro r n hr0; have hr := hr0 _ _ (by first | with_reducible assumption | exact rfl) (by first | with_reducible assumption | exact rfl); clear hr0) | (with_reducible refine at_list ?_; refine wpList_wide_g rfl rfl Try.underlying28 Try.underlying39 rfl ?_; intro r n hr0; have hr := hr0 _ (by first | with_reducible assumption | exact rfl); clear hr0) | (with_reducible refine at_list ?_; refine wpList_wide rfl rfl rfl Try.underlying28 Try.underlying39 ?_; intro r n hr0; have hr := hr0 _ (by first | with_reducible assumption | exact rfl); clear hr0))))
    all_goals (try ((first | (refine wp_some_lit (by kernel_rfl) (by kernel_rfl) ?_; (refine wpSome_one ?_; go_big_quiet_step (fail); refine wpQuiet_nil ?_); (refine wpSome_one ?_; go_big_quiet_step (fail); refine wpQuiet_nil ?_); (refine wpSome_one ?_; go_big_quiet_step (fail); refine wpQuiet_nil ?_); (refine wpSome_one ?_; go_big_quiet_step (fail); refine wpQuiet_nil ?_); (refine wpSome_one ?_; go_big_quiet_step (fail); refine wpQuiet_nil ?_); (refine wpSome_one ?_; go_big_quiet_step (fail); refine wpQuiet_nil ?_); (refine wpSome_one ?_; go_big_quiet_step (fail); refine wpQuiet_nil ?_); (refine wpSome_one ?_; go_big_quiet_step (fail); refine wpQuiet_nil ?_); (refine wpSome_one ?_; go_big_quiet_step (fail); refine wpQuiet_nil ?_); (refine wpSome_one ?_; go_big_quiet_step (fail); refine wpQuiet_nil ?_); refine wpSome_nil ?_; intro w' hw'; obtain ⟨nq, rfl⟩ := hw') | (refine wp_some_lit (by kernel_rfl) (by kernel_rfl) ?_; (refine wpSome_one ?_; go_big_quiet_step (fail); refine wpQuiet_nil ?_); (refine wpSome_one ?_; go_big_quiet_step (fail); refine wpQuiet_nil ?_); (refine wpSome_one ?_; go_big_quiet_step (fail); refine wpQuiet_nil ?_); (refine wpSome_one ?_; go_big_quiet_step (fail); refine wpQuiet_nil ?_); (refine wpSome_one ?_; go_big_quiet_step (fail); refine wpQuiet_nil ?_); (refine wpSome_one ?_; go_big_quiet_step (fail); refine wpQuiet_nil ?_); (refine wpSome_one ?_; go_big_quiet_step (fail); refine wpQuiet_nil ?_); (refine wpSome_one ?_; go_big_quiet_step (fail); refine wpQuiet_nil ?_); (refine wpSome_one ?_; go_big_quiet_step (fail); refine wpQuiet_nil ?_); (refine wpSome_one ?_; go_big_quiet_step (fail); refine wpQuiet_nil ?_); (refine wpSome_one ?_; go_big_quiet_step (fail); refine wpQuiet_nil ?_); (refine wpSome_one ?_; go_big_quiet_step (fail); refine wpQuiet_nil ?_); refine wpSome_nil ?_; intro w' hw'; obtain ⟨nq, rfl⟩ := hw') | (refine wp_some_lit (by kernel_rfl) (by kernel_rfl) ?_; (refine wpSome_one ?_; go_big_quiet_step (fail); refine wpQuiet_nil ?_); (refine wpSome_one ?_; go_big_quiet_step (fail); refine wpQuiet_nil ?_); (refine wpSome_one ?_; go_big_quiet_step (fail); refine wpQuiet_nil ?_); (refine wpSome_one ?_; go_big_quiet_step (fail); refine wpQuiet_nil ?_); (refine wpSome_one ?_; go_big_quiet_step (fail); refine wpQuiet_nil ?_); (refine wpSome_one ?_; go_big_quiet_step (fail); refine wpQuiet_nil ?_); (refine wpSome_one ?_; go_big_quiet_step (fail); refine wpQuiet_nil ?_); (refine wpSome_one ?_; go_big_quiet_step (fail); refine wpQuiet_nil ?_); (refine wpSome_one ?_; go_big_quiet_step (fail); refine wpQuiet_nil ?_); (refine wpSome_one ?_; go_big_quiet_step (fail); refine wpQuiet_nil ?_); refine wpSome_nil ?_; intro w' hw'; obtain ⟨nq, rfl⟩ := hw')); go_wp2_with (first | (with_reducible refine at_list ?_; refine wpList_fop rfl rfl rfl rfl rfl ?_; intro r n hr0; have hr := hr0 _ _ (by first | with_reducible assumption | exact rfl) (by first | with_reducible assumption | exact rfl); clear hr0) | (with_reducible refine at_list ?_; refine wpList_neg rfl rfl rfl ?_; intro r hr0; have hr := hr0 _ (by first | with_reducible assumption | exact rfl); clear hr0) | (with_reducible refine at_list ?_; refine wpList_fop_g rfl rfl rfl rfl rfl ?_; intro r n hr0; have hr := hr0 _ _ (by first | with_reducible assumption | exact rfl) (by first | with_reducible assumption | exact rfl); clear hr0) | (with_reducible refine at_list ?_; refine wpList_wide_g rfl rfl Try.underlying28 Try.underlying39 rfl ?_; intro r n hr0; have hr := hr0 _ (by first | with_reducible assumption | exact rfl); clear hr0) | (with_reducible refine at_list ?_; refine wpList_wide rfl rfl rfl Try.underlying28 Try.underlying39 ?_; intro r n hr0; have hr := hr0 _ (by first | with_reducible assumption | exact rfl); clear hr0))))
    all_goals (try (first | kernel_rfl | rfl))
    all_goals
      go_ret
      obtain ⟨e1, e2, e3⟩ := src_next c0 c1 c2 f1 f2 ⟨⟨hc1, hc2⟩, HV.out⟩ hn ⟨hk0, hk1⟩ (IntKind.u64.wrap (IntKind.u64.wrap (s * 6364136223846793005)) + 1442695040888963407) 0
      obtain ⟨g1, g2⟩ := and255 (IntKind.u64.wrap (IntKind.u64.wrap (IntKind.u64.wrap (s * 6364136223846793005)) + 1442695040888963407) / 1099511627776) (by rw [IntKind.wrap_u64]; omega) (by rw [IntKind.wrap_u64]; omega)
      refine ⟨_, rfl, ?_, ⟨e1.os, e1.tape, e1.output, e1.size, e1.block⟩, e2, e3⟩
      unfold wrap64
      omega
end Go.Proofs.Ytpnkapdemgieaaa
set_option linter.unusedSimpArgs false
set_option linter.unusedVariables false
set_option linter.unusedSectionVars false
namespace Go.Proofs.Ytpnkapdemgieaaa
open Go Go.RowKit
open Go.ChangeShapes Go.WideShapes Go.ChangeAt Go.RowKit Go.Joins
theorem spot_none {w : World} {a : Addr} {v : Value} (h : w.cell? a = some v) : a.spot = none := by
  unfold World.cell? at h
  split at h
  · split at h
    · cases h
    · rename_i hs; simpa using hs
  · cases h
section
variable {H : Type} {enc : TypeId × Value → H} {P : Program} {w : World} {base : Nat} {spare : Nat → Bool} {held : Bool}
end
section
variable {H : Type} {enc : TypeId × Value → H} {w : World} {base : Nat} {spare : Nat → Bool} {held : Bool}
end
end Go.Proofs.Ytpnkapdemgieaaa
set_option linter.unusedSimpArgs false
set_option linter.unusedVariables false
set_option linter.unusedSectionVars false
namespace Go.Proofs.Ytpnkapdemgieaaa
open Go Go.RowKit
open Go.ChangeShapes Go.WideShapes Go.ChangeAt Go.RowKit Go.Joins
theorem rem_bd {x n : Int} (hx : 0 ≤ x) (hn : 1 ≤ n) : 0 ≤ x % n ∧ x % n ≤ n - 1 := ⟨Int.emod_nonneg _ (by omega), by have := Int.emod_lt_of_pos x (show 0 < n by omega); omega⟩
theorem Turn.then {B S : Nat} {a b c : World} (h : Turn B S a b) (h' : Turn B S b c) : Turn B S a c := h.trans h'
set_option maxHeartbeats 2000000 in
theorem pick_any (b K : Nat) (n : Int) (w : World) (h : SrcAt w b K) (hK : K ≤ 900000) (hn : 1 ≤ n ∧ n ≤ 1000000000) : Calls Try.prog 34 #[.pointer (some ⟨b, 0, none⟩), .int .i64 n] w (SP w b (K + 2) 0 (n - 1)) := by
  have HN := Lib.hid (fun (K : Nat) w h (hK : K ≤ 1000000) => next_any b K w h hK)
  have HS := Lib.hid h
  clear h
  obtain ⟨hn1, hn2⟩ := hn
  by_cases h1 : n ≤ 1
  · have he : n = 1 := by omega
    subst he
    go_enter Try.func34, Try.ntmps34
    go_wp2_with (first | (with_reducible refine at_list ?_; refine wpList_fop rfl rfl rfl rfl rfl ?_; intro r n hr0; have hr := hr0 _ _ (by first | with_reducible assumption | exact rfl) (by first | with_reducible assumption | exact rfl); clear hr0) | (with_reducible refine at_list ?_; refine wpList_neg rfl rfl rfl ?_; intro r hr0; have hr := hr0 _ (by first | with_reducible assumption | exact rfl); clear hr0) | (with_reducible refine at_list ?_; refine wpList_fop_g rfl rfl rfl rfl rfl ?_; intro r n hr0; have hr := hr0 _ _ (by first | with_reducible assumption | exact rfl) (by first | with_reducible assumption | exact rfl); clear hr0) | (with_reducible refine at_list ?_; refine wpList_wide_g rfl rfl Try.underlying28 Try.underlying39 rfl ?_; intro r n hr0; have hr := hr0 _ (by first | with_reducible assumption | exact rfl); clear hr0) | (with_reducible refine at_list ?_; refine wpList_wide rfl rfl rfl Try.underlying28 Try.underlying39 ?_; intro r n hr0; have hr := hr0 _ (by first | with_reducible assumption | exact rfl); clear hr0))
    all_goals
      go_ret
      exact ⟨0, rfl, ⟨by omega, by omega⟩, Turn.refl _ _ _, rfl, HS.out.mono (by omega)⟩
  by_cases h2 : 200 < n
  · go_enter Try.func34, Try.ntmps34
    go_wp2_with (first | (with_reducible refine at_list ?_; refine wpList_fop rfl rfl rfl rfl rfl ?_; intro r n hr0; have hr := hr0 _ _ (by first | with_reducible assumption | exact rfl) (by first | with_reducible assumption | exact rfl); clear hr0) | (with_reducible refine at_list ?_; refine wpList_neg rfl rfl rfl ?_; intro r hr0; have hr := hr0 _ (by first | with_reducible assumption | exact rfl); clear hr0) | (with_reducible refine at_list ?_; refine wpList_fop_g rfl rfl rfl rfl rfl ?_; intro r n hr0; have hr := hr0 _ _ (by first | with_reducible assumption | exact rfl) (by first | with_reducible assumption | exact rfl); clear hr0) | (with_reducible refine at_list ?_; refine wpList_wide_g rfl rfl Try.underlying28 Try.underlying39 rfl ?_; intro r n hr0; have hr := hr0 _ (by first | with_reducible assumption | exact rfl); clear hr0) | (with_reducible refine at_list ?_; refine wpList_wide rfl rfl rfl Try.underlying28 Try.underlying39 ?_; intro r n hr0; have hr := hr0 _ (by first | with_reducible assumption | exact rfl); clear hr0) | (go_at_call 70; first | (refine (HN.out _ _ HSa.out (by omega)).mono ?_; rintro e w2 ⟨r2, rfl, hr2, hg2, hz2, hs2⟩; have HSb := Lib.hid hs2; have HGb := Lib.hid hg2; have HZb := Lib.hid hz2; clear hs2 hg2 hz2) | (refine (HN.out _ _ HS.out (by omega)).mono ?_; rintro e w' ⟨r, rfl, hr, hg, hz, hs⟩; have HSa := Lib.hid hs; have HGa := Lib.hid hg; have HZa := Lib.hid hz; clear hs hg hz)))
    go_ret
    obtain ⟨hb1, hb2⟩ := rem_bd (x := r * 256 + r2) (n := n) (by omega) hn1
    exact ⟨_, rfl, ⟨by go_num, by go_num⟩, HGa.out.then HGb.out, HZb.out.trans HZa.out, HSb.out⟩
  · go_enter Try.func34, Try.ntmps34
    go_wp2_with (first | (with_reducible refine at_list ?_; refine wpList_fop rfl rfl rfl rfl rfl ?_; intro r n hr0; have hr := hr0 _ _ (by first | with_reducible assumption | exact rfl) (by first | with_reducible assumption | exact rfl); clear hr0) | (with_reducible refine at_list ?_; refine wpList_neg rfl rfl rfl ?_; intro r hr0; have hr := hr0 _ (by first | with_reducible assumption | exact rfl); clear hr0) | (with_reducible refine at_list ?_; refine wpList_fop_g rfl rfl rfl rfl rfl ?_; intro r n hr0; have hr := hr0 _ _ (by first | with_reducible assumption | exact rfl) (by first | with_reducible assumption | exact rfl); clear hr0) | (with_reducible refine at_list ?_; refine wpList_wide_g rfl rfl Try.underlying28 Try.underlying39 rfl ?_; intro r n hr0; have hr := hr0 _ (by first | with_reducible assumption | exact rfl); clear hr0) | (with_reducible refine at_list ?_; refine wpList_wide rfl rfl rfl Try.underlying28 Try.underlying39 ?_; intro r n hr0; have hr := hr0 _ (by first | with_reducible assumption | exact rfl); clear hr0) | (go_at_call 70; first | (refine (HN.out _ _ HSa.out (by omega)).mono ?_; rintro e w2 ⟨r2, rfl, hr2, hg2, hz2, hs2⟩; have HSb := Lib.hid hs2; have HGb := Lib.hid hg2; have HZb := Lib.hid hz2; clear hs2 hg2 hz2) | (refine (HN.out _ _ HS.out (by omega)).mono ?_; rintro e w' ⟨r, rfl, hr, hg, hz, hs⟩; have HSa := Lib.hid hs; have HGa := Lib.hid hg; have HZa := Lib.hid hz; clear hs hg hz)))
    go_ret
    obtain ⟨hb1, hb2⟩ := rem_bd (x := r) (n := n) (by omega) hn1
    exact ⟨_, rfl, ⟨by go_num, by go_num⟩, HGa.out, HZa.out, HSa.out.mono (by omega)⟩
end Go.Proofs.Ytpnkapdemgieaaa
set_option linter.unusedSimpArgs false
set_option linter.unusedVariables false
set_option linter.unusedSectionVars false
namespace Go.Proofs.Ytpnkapdemgieaaa
open Go Go.RowKit
/-- A claim; of an operation that turns memory (mode 3) also what holds of every world from it on. Mode 4: it asks only what always holds, and nothing is told of it but its value. -/
structure GC where
  c : Clm
  I : World → Prop
  kept : ∀ w w', I w → Below w.heap.size w w' → I w'
def GC.of (c : Clm) : GC := ⟨c, fun _ => True, fun _ _ _ _ => trivial⟩
def invG (I : World → Prop) (g : GC) : World → Prop := match g.c.mode with | 3 => g.I | _ => I
def nextG (c : Clm) (i : Nat) (k : World → Prop) (ks : List (Nat × (World → Prop))) : List (Nat × (World → Prop)) :=
  match c.mode with | 0 => ks | 4 => ks | 3 => [(i, k)] | _ => (i, k) :: ks
section
variable {P : Program} {ops : Array Oper} {Q : Exit → Act → World → Prop} {F : World → Prop}
def stepG (P : Program) (ops : Array Oper) (F I : World → Prop) (o : Oper) (g : GC) (ks : List (Nat × (World → Prop))) (a : Act) : Prop :=
  (Region.wanted o (yielded ops a.tmps) = true ∧ (g.c.mode = 0 ∨ g.c.mode = 1 ∨ g.c.mode = 3 ∨ g.c.mode = 4) ∧
    (g.c.mode = 0 → ∀ w, uponC P (fun u w' => (∃ n, w' = w.drewN n) ∧ g.c.S (o.op.operands.toList.map a.eval) u) ((execOp a.eval o).run P w)) ∧
    (g.c.mode = 4 → (∀ x v w, g.c.K x v w) ∧ ∀ w, F w → uponC P (fun u w' => Below w.heap.size w w' ∧ g.c.S (o.op.operands.toList.map a.eval) u) ((execOp a.eval o).run P w)) ∧
    (g.c.mode = 1 → ∀ w, I w → depK o ks w → uponC P (fun u w' => Below w.heap.size w w' ∧ g.c.S (o.op.operands.toList.map a.eval) u ∧ g.c.K (oargs ops o a) u w') ((execOp a.eval o).run P w)) ∧
    (g.c.mode = 3 → ∀ w, I w → depK o ks w → uponC P (fun u w' => g.I w' ∧ g.c.S (o.op.operands.toList.map a.eval) u ∧ g.c.K (oargs ops o a) u w') ((execOp a.eval o).run P w))) ∨
  (Region.wanted o (yielded ops a.tmps) = false ∧ g.c.mode = 0 ∧ g.c.S (o.op.operands.toList.map a.eval) undef)
/-- The walk in the order of the text. -/
def wpG (P : Program) (ops : Array Oper) (Q : Exit → Act → World → Prop) (F : World → Prop) : (World → Prop) → List Oper → List GC → Nat → List (Nat × (World → Prop)) → Act → Prop
  | I, [], [], _, ks, a => ∀ w, I w → allK ks w → Q .normal a w
  | I, o :: l, g :: cs, i, ks, a => stepG P ops F I o g ks a ∧ ∀ v, g.c.S (o.op.operands.toList.map a.eval) v → wpG P ops Q F (invG I g) l cs (i + 1) (nextG g.c i (g.c.K (oargs ops o a) v) ks) (a.put o.dst v)
  | _, _, _, _, _, _ => False
/-- What holds of the world ahead of operation number j. -/
def Iat (I : World → Prop) : List GC → Nat → World → Prop
  | _, 0 => I
  | [], _ + 1 => I
  | g :: cs, j + 1 => Iat (invG I g) cs j
theorem Iat_zero (I : World → Prop) (cs : List GC) : Iat I cs 0 = I := by cases cs <;> rfl
theorem Iat_succ : ∀ (I : World → Prop) (cs : List GC) (j : Nat) (g : GC), cs[j]? = some g → Iat I cs (j + 1) = invG (Iat I cs j) g
  | I, [], j, g, h => by simp at h
  | I, g' :: cs, 0, g, h => by
    simp only [List.getElem?_cons_zero, Option.some.injEq] at h
    subst h
    show Iat (invG I g') cs 0 = invG (Iat I (g' :: cs) 0) g'
    rw [Iat_zero, Iat_zero]
  | I, g' :: cs, j + 1, g, h => by
    show Iat (invG I g') cs (j + 1) = invG (Iat (invG I g') cs j) g
    exact Iat_succ _ cs j g (by simpa using h)
theorem invG_ne {I : World → Prop} {g : GC} (h : g.c.mode ≠ 3) : invG I g = I := by
  unfold invG
  split
  · exact absurd (by assumption) h
  · rfl
theorem invG_eq {I : World → Prop} {g : GC} (h : g.c.mode = 3) : invG I g = g.I := by
  unfold invG
  split
  · rfl
  · exact absurd h (by assumption)
theorem Iat_over (I : World → Prop) (cs : List GC) : ∀ (d p : Nat), (∀ k g, p ≤ k → k < p + d → cs[k]? = some g → g.c.mode ≠ 3) → p + d ≤ cs.length → Iat I cs (p + d) = Iat I cs p
  | 0, _, _, _ => rfl
  | d + 1, p, h, hl => by
    have hg : cs[p + d]? = some cs[p + d] := List.getElem?_eq_getElem (by omega)
    rw [show p + (d + 1) = (p + d) + 1 by omega, Iat_succ _ _ _ _ hg, invG_ne (h (p + d) _ (by omega) (by omega) hg)]
    exact Iat_over I cs d p (fun k g h1 h2 => h k g h1 (by omega)) (by omega)
theorem Iat_kept {I : World → Prop} (hI : ∀ w w', I w → Below w.heap.size w w' → I w') : ∀ (cs : List GC) (j : Nat) (w w' : World), Iat I cs j w → Below w.heap.size w w' → Iat I cs j w'
  | cs, 0, w, w', h, hb => by rw [Iat_zero] at h ⊢; exact hI w w' h hb
  | [], j + 1, w, w', h, hb => hI w w' h hb
  | g :: cs, j + 1, w, w', h, hb => by
    refine Iat_kept (I := invG I g) (fun w w' h hb => ?_) cs j w w' h hb
    by_cases hm : g.c.mode = 3
    · rw [invG_eq hm] at h ⊢; exact g.kept w w' h hb
    · rw [invG_ne hm] at h ⊢; exact hI w w' h hb
/-- The claims that still stand. -/
def standsG (ops : Array Oper) (V : Nat → Value) (l : List Oper) (cs : List GC) (i : Nat) (a : Act) (w : World) (n : Nat) (X : Nat → Prop) : Prop :=
  ∀ (k : Nat) (o : Oper) (c : GC), k < n → l[k]? = some o → cs[k]? = some c → X (i + k) → (∀ (b : Nat) (cb : GC), k < b → b < n → cs[b]? = some cb → cb.c.mode ≠ 3) → c.c.K (opx ops V l i a k o) (V (i + k)) w
theorem standsG_tail {V : Nat → Value} {o : Oper} {l : List Oper} {c : GC} {cs : List GC} {i : Nat} {a : Act} {w : World} {n : Nat} {X : Nat → Prop} (h : standsG ops V (o :: l) (c :: cs) i a w (n + 1) X) : standsG ops V l cs (i + 1) (a.put o.dst (V i)) w n X := by
  intro k o' c' hk ho hc hX hb
  have := h (k + 1) o' c' (by omega) (by simpa using ho) (by simpa using hc) (by simpa [Nat.add_assoc, Nat.add_comm 1 k] using hX) (fun b cb h1 h2 h3 => by
    obtain ⟨b, rfl⟩ : ∃ b', b = b' + 1 := ⟨b - 1, by omega⟩
    exact hb b cb (by omega) (by omega) (by simpa using h3))
  rw [opx_succ] at this
  simpa [Nat.add_assoc, Nat.add_comm 1 k] using this
theorem nextG_dep {o : Oper} {c : Clm} {i : Nat} {k : World → Prop} {ks : List (Nat × (World → Prop))} {w : World} (h1 : depB o i = true → k w) (h2 : c.mode ≠ 3 → depK o ks w) : depK o (nextG c i k ks) w := by
  have h3 : (match depB o i with | true => k w | false => True) := by
    cases hd : depB o i with
    | false => trivial
    | true => exact h1 hd
  unfold nextG
  split
  · exact h2 (by omega)
  · exact h2 (by omega)
  · exact ⟨h3, trivial⟩
  · exact ⟨h3, h2 (by assumption)⟩
theorem nextG_all {c : Clm} {i : Nat} {k : World → Prop} {ks : List (Nat × (World → Prop))} {w : World} (h1 : k w) (h2 : c.mode ≠ 3 → allK ks w) : allK (nextG c i k ks) w := by
  unfold nextG
  split
  · exact h2 (by omega)
  · exact h2 (by omega)
  · exact ⟨h1, trivial⟩
  · exact ⟨h1, h2 (by assumption)⟩
def noBarG (cs : List GC) (n : Nat) : Prop := ∀ (b : Nat) (cb : GC), b < n → cs[b]? = some cb → cb.c.mode ≠ 3
def validG (V : Nat → Value) (l : List Oper) (cs : List GC) (i : Nat) (a : Act) : Prop := ∀ (k : Nat) (o : Oper) (c : GC), l[k]? = some o → cs[k]? = some c → c.c.S (opn V l i a k o) (V (i + k))
variable {cs : List GC} {a0 : Act}
end
section
variable {P : Program} {ops : Array Oper} {Q : Exit → Act → World → Prop} {F I : World → Prop} {l : List Oper} {cs : List GC} {i : Nat} {ks : List (Nat × (World → Prop))} {a : Act} {o : Oper}
theorem wpG_norm {a' : Act} (ha : a = a') (h : wpG P ops Q F I l cs i ks a') : wpG P ops Q F I l cs i ks a := ha ▸ h
theorem wpG_nil (h : ∀ w, I w → allK ks w → Q .normal a w) : wpG P ops Q F I [] [] i ks a := h
theorem wpG_pure (c : Clm) (hm : c.mode = 0) (hw : Region.wanted o (yielded ops a.tmps) = true) (h0 : ∀ w, uponC P (fun u w' => (∃ n, w' = w.drewN n) ∧ c.S (o.op.operands.toList.map a.eval) u) ((execOp a.eval o).run P w))
    (h : ∀ v, c.S (o.op.operands.toList.map a.eval) v → wpG P ops Q F I l cs (i + 1) ks (a.put o.dst v)) : wpG P ops Q F I (o :: l) (GC.of c :: cs) i ks a := by
  simp only [wpG]
  refine ⟨.inl ⟨hw, .inl hm, fun _ => h0, fun h => ?_, fun h => ?_, fun h => ?_⟩, fun v hv => ?_⟩
  · have : c.mode = 4 := h; omega
  · have : c.mode = 1 := h; omega
  · have : c.mode = 3 := h; omega
  · have e1 : invG I (GC.of c) = I := invG_ne (by show c.mode ≠ 3; omega)
    have e2 : nextG (GC.of c).c i ((GC.of c).c.K (oargs ops o a) v) ks = ks := by
      show nextG c i _ ks = ks
      unfold nextG
      split
      · rfl
      · rfl
      · omega
      · rename_i h0 _ _; exact absurd hm h0
    rw [e1, e2]; exact h v hv
theorem wpG_det (v : Value) (hw : Region.wanted o (yielded ops a.tmps) = true) (hs : ∀ cs b, o.op ≠ .select cs b) (h1 : ∀ w, (execOp a.eval o).run P w = .ok (.value v) w)
    (h : wpG P ops Q F I l cs (i + 1) ks (a.put o.dst v)) : wpG P ops Q F I (o :: l) (GC.of (Clm.det P o) :: cs) i ks a := by
  have hp : PureAt P o (o.op.operands.toList.map a.eval) v := ⟨⟨a, rfl⟩, fun a' w he => by
    rw [execOp_congr (ρ := a'.eval) (ρ' := a.eval) o hs fun x hx => ?_]
    · exact h1 w
    · have := List.map_inj_left.1 he x (by simpa using hx)
      exact this⟩
  refine wpG_pure (Clm.det P o) rfl hw (fun w => ?_) fun u hu => ?_
  · rw [h1 w]; exact ⟨⟨0, rfl⟩, fun u hu => hp.uniq hu⟩
  · rw [hu v hp]; exact h
theorem wpG_fop {op : BinOp} {t t' : TypeId} {X Y : Operand} (ho : o.op = .binOp op t X Y t') (hop : arithOp op = true) {k : FloatKind} {x y : Nat} (hx : a.eval X = .float k x) (hy : a.eval Y = .float k y) (hw : Region.wanted o (yielded ops a.tmps) = true)
    (h : ∀ r, (∀ cx cy, cn k x = cx → cn k y = cy → cn k r = Go.Proofs.Ytpnkapdemgieaaa.fop op k cx cy) → wpG P ops Q F I l cs (i + 1) ks (a.put o.dst (.float k r))) : wpG P ops Q F I (o :: l) (GC.of (Clm.fop op) :: cs) i ks a := by
  have hl : o.op.operands.toList.map a.eval = [.float k x, .float k y] := by rw [ho]; simp [Op.operands, hx, hy]
  refine wpG_pure (Clm.fop op) rfl hw (fun w => ?_) fun u hu => ?_
  · obtain ⟨r, n, h1, h2⟩ := run_exec_fop (P := P) op hop t t' X Y ho k x y hx hy w
    rw [h1, hl]
    refine ⟨⟨n, rfl⟩, fun k' p' q' e => ?_⟩
    simp only [List.cons.injEq, Value.float.injEq, and_true] at e
    obtain ⟨⟨rfl, rfl⟩, _, rfl⟩ := e
    exact ⟨r, rfl, h2⟩
  · rw [hl] at hu
    obtain ⟨r, rfl, hr⟩ := hu k x y rfl
    exact h r (by rintro cx cy rfl rfl; exact hr)
theorem wpG_one (c : Clm) (hm : c.mode = 1) (hw : Region.wanted o (yielded ops a.tmps) = true) (h1 : ∀ w, I w → depK o ks w → uponC P (fun u w' => Below w.heap.size w w' ∧ c.S (o.op.operands.toList.map a.eval) u ∧ c.K (oargs ops o a) u w') ((execOp a.eval o).run P w))
    (h : ∀ v, c.S (o.op.operands.toList.map a.eval) v → wpG P ops Q F I l cs (i + 1) ((i, c.K (oargs ops o a) v) :: ks) (a.put o.dst v)) : wpG P ops Q F I (o :: l) (GC.of c :: cs) i ks a := by
  simp only [wpG]
  refine ⟨.inl ⟨hw, .inr (.inl hm), fun h => ?_, fun h => ?_, fun _ => h1, fun h => ?_⟩, fun v hv => ?_⟩
  · have : c.mode = 0 := h; omega
  · have : c.mode = 4 := h; omega
  · have : c.mode = 3 := h; omega
  · have e1 : invG I (GC.of c) = I := invG_ne (by show c.mode ≠ 3; omega)
    have e2 : nextG (GC.of c).c i ((GC.of c).c.K (oargs ops o a) v) ks = (i, c.K (oargs ops o a) v) :: ks := by
      show nextG c i _ ks = _
      unfold nextG
      split <;> first | omega | rfl
    rw [e1, e2]; exact h v hv
/-- A load of what never turns. -/
def Clm.any (v : Value) : Clm := ⟨4, fun _ u => u = v, fun _ _ _ => True, fun _ => ⟨v, rfl⟩, fun _ _ _ _ _ _ => trivial, fun h => nomatch h⟩
theorem wpG_any (v : Value) (hw : Region.wanted o (yielded ops a.tmps) = true) (h1 : ∀ w, F w → (execOp a.eval o).run P w = .ok (.value v) w)
    (h : wpG P ops Q F I l cs (i + 1) ks (a.put o.dst v)) : wpG P ops Q F I (o :: l) (GC.of (Clm.any v) :: cs) i ks a := by
  simp only [wpG]
  refine ⟨.inl ⟨hw, .inr (.inr (.inr rfl)), fun h => absurd (show (4 : Nat) = 0 from h) (by decide), fun _ => ⟨fun _ _ _ => trivial, fun w hF => ?_⟩, fun h => absurd (show (4 : Nat) = 1 from h) (by decide), fun h => absurd (show (4 : Nat) = 3 from h) (by decide)⟩, fun u hu => ?_⟩
  · rw [h1 w hF]; exact ⟨Below.refl _ _, rfl⟩
  · have hu : u = v := hu
    subst hu; exact h
/-- An operation that turns memory, with one value. -/
def GC.turn (v : Value) (I' K : World → Prop) (hI : ∀ w w', I' w → Below w.heap.size w w' → I' w') (hK : ∀ w w', K w → Below w.heap.size w w' → K w') : GC :=
  ⟨⟨3, fun _ u => u = v, fun _ _ w => K w, fun _ => ⟨v, rfl⟩, fun _ _ w w' h hb => hK w w' h hb, fun h => nomatch h⟩, I', hI⟩
/-- A call that turns memory. -/
theorem wpG_turnC (c : Clm) (hm : c.mode = 3) (I' : World → Prop) (hI : ∀ w w', I' w → Below w.heap.size w w' → I' w') (hw : Region.wanted o (yielded ops a.tmps) = true) {f : FuncId} {args : Array Value} (he : ∀ w, (execOp a.eval o).run P w = .ok (.enter f args) w)
    (h1 : ∀ w, I w → depK o ks w → Calls P f args w (fun e w' => ∃ v, e = .returned v ∧ I' w' ∧ c.S (o.op.operands.toList.map a.eval) v ∧ c.K (oargs ops o a) v w'))
    (h : ∀ v, c.S (o.op.operands.toList.map a.eval) v → wpG P ops Q F I' l cs (i + 1) [(i, c.K (oargs ops o a) v)] (a.put o.dst v)) : wpG P ops Q F I (o :: l) (⟨c, I', hI⟩ :: cs) i ks a := by
  simp only [wpG]
  refine ⟨.inl ⟨hw, .inr (.inr (.inl hm)), fun h => ?_, fun h => ?_, fun h => ?_, fun _ w hi hk => ?_⟩, fun v hv => ?_⟩
  · have : c.mode = 0 := h; omega
  · have : c.mode = 4 := h; omega
  · have : c.mode = 1 := h; omega
  · rw [he w]
    exact Calls.mono (h1 w hi hk) fun e w' ⟨v, e1, h2⟩ => ⟨v, e1, h2⟩
  · have e1 : invG I ⟨c, I', hI⟩ = I' := invG_eq hm
    have e2 : nextG c i (c.K (oargs ops o a) v) ks = [(i, c.K (oargs ops o a) v)] := by
      unfold nextG
      split <;> first | omega | exact absurd hm (by assumption) | rfl
    show wpG P ops Q F (invG I ⟨c, I', hI⟩) l cs (i + 1) (nextG c i (c.K (oargs ops o a) v) ks) _
    rw [e1, e2]; exact h v hv
end
attribute [irreducible] wpG
end Go.Proofs.Ytpnkapdemgieaaa
set_option linter.unusedSimpArgs false
set_option linter.unusedVariables false
set_option linter.unusedSectionVars false
namespace Go.Proofs.Ytpnkapdemgieaaa
open Go Go.RowKit
open Go.ChangeShapes Go.WideShapes Go.ChangeAt Go.RowKit Go.Joins
theorem i64_fit {n : Int} (h : -9223372036854775808 ≤ n ∧ n ≤ 9223372036854775807) : IntKind.i64.wrap n = n := by
  simp [IntKind.wrap, IntKind.bits, IntKind.signed]
  omega
def Clm.pick (hi : Int) : Clm := ⟨3, fun _ v => ∃ r, v = .int .i64 r ∧ (0 ≤ hi → 0 ≤ r ∧ r ≤ hi), fun _ _ _ => True, fun _ => ⟨_, 0, rfl, fun h => ⟨by omega, h⟩⟩, fun _ _ _ _ _ _ => trivial, fun h => nomatch h⟩
theorem SrcAt.lt {w : World} {b K : Nat} (h : SrcAt w b K) : b < w.heap.size := by
  obtain ⟨p, n, c, k, s, ⟨h1, _⟩, _⟩ := h
  exact World.block_lt_of_cell? _ _ h1
section
variable {ops : Array Oper} {Q : Exit → Act → World → Prop} {F : World → Prop}
variable {l : List Oper} {cs : List GC} {i : Nat} {ks : List (Nat × (World → Prop))} {a : Act} {o : Oper}
end
theorem l00From_any (p : Option Addr) (n c : Nat) (w : World) (h : BY w.heap.size w p n c) (hn : n ≤ 1048576) : Calls Try.prog 32 #[.slice p n c] w (fun e w' => e = .returned (.pointer (some ⟨w.heap.size, 0, none⟩)) ∧ Below w.heap.size w w' ∧ SrcAt w' w.heap.size 0) := by
  have H := Lib.hid h
  clear h
  go_enter Try.func32, Try.ntmps32
  go_wp2_with (first | (with_reducible refine at_list ?_; refine wpList_fop rfl rfl rfl rfl rfl ?_; intro r n hr0; have hr := hr0 _ _ (by first | with_reducible assumption | exact rfl) (by first | with_reducible assumption | exact rfl); clear hr0) | (with_reducible refine at_list ?_; refine wpList_neg rfl rfl rfl ?_; intro r hr0; have hr := hr0 _ (by first | with_reducible assumption | exact rfl); clear hr0) | (with_reducible refine at_list ?_; refine wpList_fop_g rfl rfl rfl rfl rfl ?_; intro r n hr0; have hr := hr0 _ _ (by first | with_reducible assumption | exact rfl) (by first | with_reducible assumption | exact rfl); clear hr0) | (with_reducible refine at_list ?_; refine wpList_wide_g rfl rfl Try.underlying28 Try.underlying39 rfl ?_; intro r n hr0; have hr := hr0 _ (by first | with_reducible assumption | exact rfl); clear hr0) | (with_reducible refine at_list ?_; refine wpList_wide rfl rfl rfl Try.underlying28 Try.underlying39 ?_; intro r n hr0; have hr := hr0 _ (by first | with_reducible assumption | exact rfl); clear hr0))
  all_goals
    go_ret
    refine ⟨rfl, by (repeat (first | (with_reducible exact Below.refl _ _) | (with_reducible assumption) | (with_reducible refine below_then ?_ (by assumption)) | (with_reducible refine Below.trans ?_ (by assumption)) | (with_reducible refine below_drewN ?_ _) | (with_reducible apply Below.drew) | (with_reducible refine below_alloc ?_ _) | refine Below.setCell ?_ (by first | (simp; done) | (simp; omega)) _)), p, n, c, 0, 0, ⟨by go_simp, by go_simp, by go_simp⟩, ⟨by go_simp, by go_simp⟩, H.out.later (C := w.heap.size) (by (repeat (first | (with_reducible exact Below.refl _ _) | (with_reducible assumption) | (with_reducible refine below_then ?_ (by assumption)) | (with_reducible refine Below.trans ?_ (by assumption)) | (with_reducible refine below_drewN ?_ _) | (with_reducible apply Below.drew) | (with_reducible refine below_alloc ?_ _) | refine Below.setCell ?_ (by first | (simp; done) | (simp; omega)) _))) (Nat.le_refl _), hn, ⟨by omega, by omega⟩, by omega, by omega⟩
end Go.Proofs.Ytpnkapdemgieaaa
set_option linter.unusedSimpArgs false
set_option linter.unusedVariables false
set_option linter.unusedSectionVars false
namespace Go.Proofs.Ytpnkapdemgieaaa
open Go Go.RowKit
open Go.ChangeShapes Go.WideShapes Go.ChangeAt Go.RowKit Go.Joins
theorem Turn.set {B S : Nat} {a b : World} (h : Turn B S a b) {ad : Addr} (hb : a.heap.size ≤ ad.block) (v : Value) : Turn B S a (b.setCell ad v) :=
  ⟨h.os, h.tape, h.output, by rw [World.size_setCell]; exact h.size, fun k hk hr => (Below.heap_setCell _ _ _ _ (by omega)).trans (h.block k hk hr)⟩
theorem wf_lt {x : Nat} (h : (Lit.float .f32 x).wf = true) : x < 4294967296 := by simpa [Lit.wf] using h
theorem fop_lt (op : BinOp) (x y : Nat) : fop op .f32 x y < 4294967296 := by
  unfold fop
  cases h : floatBits op .f32 x y with
  | none => decide +kernel
  | some r => exact wf_lt (floatBits_wf h)
theorem raw_lt {x c : Nat} (h : cn .f32 x = c) (hf : fnt .f32 c = true) (hc : c < 4294967296) : x < 4294967296 := by
  cases hn : isN .f32 x with
  | true =>
    rw [cn_of_isN hn] at h
    subst h
    have : fnt .f32 (qn .f32) = false := by decide +kernel
    rw [this] at hf; cases hf
  | false =>
    rw [cn_of_not hn] at h
    rw [h]; exact hc
end Go.Proofs.Ytpnkapdemgieaaa
set_option linter.unusedSimpArgs false
set_option linter.unusedVariables false
set_option linter.unusedSectionVars false
namespace Go.Proofs.Ytpnkapdemgieaaa
open Go Go.RowKit
theorem V.fin {x : Nat} {q : Rat} (h : V .f32 x q) : fin .f32 x = true := by rw [fin_num]; exact h.1
theorem abv_of {x : Nat} (h : fnt .f32 x = true) (h0 : 0 < fv .f32 x) : abv x = true := by
  have e : fgt .f32 x (cn .f32 0) = true := by
    rw [fgtv h V0.1, V0.2]
    exact decide_eq_true h0
  have hf : fin .f32 x = true := by rw [fin_num]; exact h
  have := abv_neg x
  rw [hf, flev h V0.1, V0.2] at this
  simp only [Bool.not_true, Bool.false_or] at this
  have h2 : decide (fv .f32 x ≤ 0) = false := decide_eq_false (by grind)
  rw [h2] at this
  simpa using this.symm
/-- What is known of a drawn stuff's canonical words. -/
structure SV (s : St) (a b c d p l : Int) : Prop where
  bd : (1 ≤ a ∧ a ≤ 8) ∧ (1 ≤ b ∧ b ≤ 8) ∧ (1 ≤ c ∧ c ≤ 8) ∧ (1 ≤ d ∧ d ≤ 8) ∧ (-4 ≤ p ∧ p ≤ 4) ∧ (1 ≤ l ∧ l ≤ 16)
  A : V .f32 s.k.a ((a : Rat) / 2)
  B : V .f32 s.k.b ((b : Rat) / 2)
  C : V .f32 s.k.c ((c : Rat) / 4)
  D : V .f32 s.k.d ((d : Rat) / 4)
  P : V .f32 s.k.p (p : Rat)
  L : V .f32 s.k.l ((l : Rat) / 2)
theorem icast_le {a b : Int} (h : a ≤ b) : (a : Rat) ≤ (b : Rat) := by exact_mod_cast h
theorem SV.ok {s : St} {a b c d p l : Int} (h : SV s a b c d p l) : s.ok = true := by
  obtain ⟨⟨h1, _⟩, ⟨h2, _⟩, ⟨h3, _⟩, ⟨h4, _⟩, _, ⟨h6, _⟩⟩ := h.bd
  have pos : ∀ {n : Int}, 1 ≤ n → (1 : Rat) ≤ (n : Rat) := fun {n} h => icast_le h
  have q1 := pos h1; have q2 := pos h2; have q3 := pos h3; have q4 := pos h4; have q6 := pos h6
  have e1 : abv (cn .f32 s.a) = true := abv_of h.A.1 (by rw [show fv .f32 (cn .f32 s.a) = _ from h.A.2]; grind)
  have e2 : abv (cn .f32 s.b) = true := abv_of h.B.1 (by rw [show fv .f32 (cn .f32 s.b) = _ from h.B.2]; grind)
  have e3 : abv (cn .f32 s.c) = true := abv_of h.C.1 (by rw [show fv .f32 (cn .f32 s.c) = _ from h.C.2]; grind)
  have e4 : abv (cn .f32 s.d) = true := abv_of h.D.1 (by rw [show fv .f32 (cn .f32 s.d) = _ from h.D.2]; grind)
  have e5 : fin .f32 (cn .f32 s.p) = true := h.P.fin
  have e6 : abv (cn .f32 s.l) = true := abv_of h.L.1 (by rw [show fv .f32 (cn .f32 s.l) = _ from h.L.2]; grind)
  unfold St.ok
  rw [e1, e2, e3, e4, e5, e6]
  rfl
section
variable {s : St} {a b c d p l k : Int} {H : Nat}
end
end Go.Proofs.Ytpnkapdemgieaaa
set_option linter.unusedSimpArgs false
set_option linter.unusedVariables false
set_option linter.unusedSectionVars false
namespace Go.Proofs.Ytpnkapdemgieaaa
open Go Go.RowKit
/-- A number of a format. -/
def Rp (f : Ieee.Format) (r : Rat) : Prop := ∃ z q : Int, z.natAbs < 2 ^ (f.fractionBits + 1) ∧ f.leastPlace ≤ q ∧ r = z * tp q
theorem Rp.neg {f : Ieee.Format} {r : Rat} (h : Rp f r) : Rp f (-r) := by
  obtain ⟨z, q, h1, h2, rfl⟩ := h
  exact ⟨-z, q, by omega, h2, by rw [Rat.intCast_neg]; grind⟩
theorem rp_word {k : FloatKind} {x : Nat} (h : fnt k x = true) : Rp k.format (fv k x) := by
  unfold fnt at h
  cases e : k.format.read x with
  | number s m p =>
    obtain ⟨g1, g2, g3⟩ := read_bd _ e
    refine ⟨if s then -(m : Int) else m, p, by split <;> omega, g2, ?_⟩
    rw [(fv_of e).2]
    cases s
    · simp only [sg, Bool.false_eq_true, if_false, Rat.intCast_natCast]; grind
    · simp only [sg, if_true, Rat.intCast_neg, Rat.intCast_natCast]; grind
  | _ => rw [e] at h; simp [isNum] at h
end Go.Proofs.Ytpnkapdemgieaaa
set_option linter.unusedSimpArgs false
set_option linter.unusedVariables false
set_option linter.unusedSectionVars false
namespace Go.Proofs.Ytpnkapdemgieaaa
open Go Go.RowKit
open Go.ChangeShapes Go.WideShapes Go.ChangeAt Go.RowKit Go.Joins
/-- What a rod tells; where its lists lie. -/
structure Rd where
  a : List Nat
  b : List Nat
  c : List Nat
  d : List Nat
structure RL where
  p1 : Option Addr
  c1 : Nat
  p2 : Option Addr
  c2 : Nat
  p3 : Option Addr
  c3 : Nat
  p4 : Option Addr
  c4 : Nat
def Rd.fs (P : Rd) (w : World) (l : RL) : Prop := FS w (.slice l.p1 P.a.length l.c1) P.a ∧ FS w (.slice l.p2 P.b.length l.c2) P.b ∧ FS w (.slice l.p3 P.c.length l.c3) P.c ∧ FS w (.slice l.p4 P.d.length l.c4) P.d
def Rd.own (P : Rd) (B : Nat) (w : World) (l : RL) : Prop := OF B w (.slice l.p1 P.a.length l.c1) P.a ∧ OF B w (.slice l.p2 P.b.length l.c2) P.b ∧ OF B w (.slice l.p3 P.c.length l.c3) P.c ∧ OF B w (.slice l.p4 P.d.length l.c4) P.d
/-- A rod's cells in memory. -/
def RdAt (P : Rd) (l : RL) (w : World) (b o : Nat) : Prop := w.cell? ⟨b, o, none⟩ = some (.slice l.p1 P.a.length l.c1) ∧ w.cell? ⟨b, o + 1, none⟩ = some (.slice l.p2 P.b.length l.c2) ∧ w.cell? ⟨b, o + 2, none⟩ = some (.slice l.p3 P.c.length l.c3) ∧ w.cell? ⟨b, o + 3, none⟩ = some (.slice l.p4 P.d.length l.c4)
def Rd.wf (P : Rd) : Prop := (∀ j, P.a.getD j 0 < 4294967296) ∧ (∀ j, P.b.getD j 0 < 4294967296) ∧ (∀ j, P.c.getD j 0 < 4294967296) ∧ ∀ j, P.d.getD j 0 < 4294967296
section
variable {P : Rd} {B : Nat} {w w' : World} {l : RL}
theorem Rd.fs.later (h : P.fs w l) (hb : Below w.heap.size w w') : P.fs w' l := ⟨h.1.later hb, h.2.1.later hb, h.2.2.1.later hb, h.2.2.2.later hb⟩
theorem Rd.own.later (h : P.own B w l) (hb : Below w.heap.size w w') : P.own B w' l := ⟨h.1.later hb, h.2.1.later hb, h.2.2.1.later hb, h.2.2.2.later hb⟩
theorem Rd.own.base {B' : Nat} (h : P.own B w l) (hB : B' ≤ B) : P.own B' w l := ⟨h.1.base hB, h.2.1.base hB, h.2.2.1.base hB, h.2.2.2.base hB⟩
theorem Rd.own.fs (h : P.own B w l) : P.fs w l := ⟨h.1.fs, h.2.1.fs, h.2.2.1.fs, h.2.2.2.fs⟩
theorem Rd.own.setCell (h : P.own B w l) {a : Addr} (ha : a.block < B) (v : Value) : P.own B (w.setCell a v) l := ⟨h.1.setCell ha v, h.2.1.setCell ha v, h.2.2.1.setCell ha v, h.2.2.2.setCell ha v⟩
theorem Rd.own.alloc (h : P.own B w l) (o : Obj) : P.own B (w.alloc o) l := ⟨h.1.alloc o, h.2.1.alloc o, h.2.2.1.alloc o, h.2.2.2.alloc o⟩
theorem Rd.own.drewN (h : P.own B w l) (n : Nat) : P.own B (w.drewN n) l := ⟨h.1.drewN n, h.2.1.drewN n, h.2.2.1.drewN n, h.2.2.2.drewN n⟩
end
def rdV (P : Rd) (l : RL) : Value := .agg #[.slice l.p1 P.a.length l.c1, .slice l.p2 P.b.length l.c2, .slice l.p3 P.c.length l.c3, .slice l.p4 P.d.length l.c4]
/-- In a plan: a call that hands back a rod of its own. -/
def Clm.rod (P : Rd) (B : Nat) : Clm := ⟨1, fun _ v => ∃ l, v = rdV P l, fun _ v w => ∀ l, v = rdV P l → P.own B w l, fun _ => ⟨_, ⟨none, 0, none, 0, none, 0, none, 0⟩, rfl⟩,
  fun _ v w w' h hb u e => (h u e).later hb, fun h => nomatch h⟩
end Go.Proofs.Ytpnkapdemgieaaa
set_option linter.unusedSimpArgs false
set_option linter.unusedVariables false
set_option linter.unusedSectionVars false
namespace Go.Proofs.Ytpnkapdemgieaaa
open Go Go.RowKit
open Go.ChangeShapes Go.WideShapes Go.ChangeAt Go.RowKit Go.Joins
def Rd.size (P : Rd) : Nat := P.a.length + P.b.length + P.c.length + P.d.length
def finL (xs : List Nat) : Bool := !xs.any fun x => !fin .f32 (cn .f32 x)
def posL (xs : List Nat) : Bool := !xs.any fun x => !fin .f32 (cn .f32 x) || fle .f32 (cn .f32 x) (cn .f32 0)
/-- Is a rod valid. -/
def Rd.sized (P : Rd) : Bool := decide (1 ≤ P.a.length) && (decide (P.a.length ≤ 48) && (decide (P.b.length = P.a.length) && (decide (P.c.length = P.a.length) && decide (P.d.length = P.a.length))))
def Rd.ok (P : Rd) : Bool := P.sized && (posL P.a && (posL P.b && (posL P.c && finL P.d)))
theorem Rd.ok_len {P : Rd} (h : P.ok = true) : (1 ≤ P.a.length ∧ P.a.length ≤ 48) ∧ P.b.length = P.a.length ∧ P.c.length = P.a.length ∧ P.d.length = P.a.length := by
  unfold Rd.ok Rd.sized at h
  simp only [Bool.and_eq_true, decide_eq_true_eq] at h
  exact ⟨⟨h.1.1, h.1.2.1⟩, h.1.2.2.1, h.1.2.2.2.1, h.1.2.2.2.2⟩
def Ap (p q : Option Addr) : Prop := ∀ a b, p = some a → q = some b → a.block ≠ b.block
theorem Ap.of {p q : Option Addr} {n c m d s : Nat} (h1 : ∀ k, (Value.slice p n c).ownBlock = some k → k < s) (h2 : ∀ k, (Value.slice q m d).ownBlock = some k → s ≤ k) : Ap p q := by
  rintro a b rfl rfl
  have := h1 a.block rfl
  have := h2 b.block rfl
  omega
theorem Ap.row {p q : Option Addr} {n c m d : Nat} (h : Ap p q) : (Value.slice p n c).ownBlock = none ∨ (Value.slice p n c).ownBlock ≠ (Value.slice q m d).ownBlock := by
  cases p with
  | none => exact .inl rfl
  | some a =>
    refine .inr fun e => ?_
    cases q with
    | none => cases e
    | some b => exact h a b rfl rfl (by simpa [Value.ownBlock] using e)
theorem Ap.symm {p q : Option Addr} (h : Ap p q) : Ap q p := fun a b h1 h2 e => h b a h2 h1 e.symm
/-- A rod of the call's own. -/
def RdX (B S : Nat) (w : World) (P : Rd) (l : RL) : Prop :=
  (P.own B w l ∧ (∀ k, (Value.slice l.p1 P.a.length l.c1).ownBlock = some k → k < S) ∧ (∀ k, (Value.slice l.p2 P.b.length l.c2).ownBlock = some k → k < S) ∧ (∀ k, (Value.slice l.p3 P.c.length l.c3).ownBlock = some k → k < S) ∧ ∀ k, (Value.slice l.p4 P.d.length l.c4).ownBlock = some k → k < S) ∧
    Ap l.p1 l.p2 ∧ Ap l.p1 l.p3 ∧ Ap l.p1 l.p4 ∧ Ap l.p2 l.p3 ∧ Ap l.p2 l.p4 ∧ Ap l.p3 l.p4
section
variable {B S : Nat} {w w' : World} {P : Rd} {l : RL}
theorem RdX.own (h : RdX B S w P l) : P.own B w l := h.1.1
theorem RdX.fs (h : RdX B S w P l) : P.fs w l := h.1.1.fs
theorem RdX.later (h : RdX B S w P l) (hb : Below w.heap.size w w') : RdX B S w' P l := ⟨⟨h.1.1.later hb, h.1.2⟩, h.2⟩
theorem RdX.alloc (h : RdX B S w P l) (o : Obj) : RdX B S (w.alloc o) P l := ⟨⟨h.1.1.alloc o, h.1.2⟩, h.2⟩
theorem RdX.drewN (h : RdX B S w P l) (m : Nat) : RdX B S (w.drewN m) P l := ⟨⟨h.1.1.drewN m, h.1.2⟩, h.2⟩
theorem RdX.setCell (h : RdX B S w P l) {a : Addr} (ha : a.block < B ∨ S ≤ a.block) (v : Value) : RdX B S (w.setCell a v) P l :=
  ⟨⟨⟨(RX.setCell ⟨h.1.1.1, h.1.2.1⟩ ha v).1, (RX.setCell ⟨h.1.1.2.1, h.1.2.2.1⟩ ha v).1, (RX.setCell ⟨h.1.1.2.2.1, h.1.2.2.2.1⟩ ha v).1, (RX.setCell ⟨h.1.1.2.2.2, h.1.2.2.2.2⟩ ha v).1⟩, h.1.2⟩, h.2⟩
theorem RdX.turn {B' S' : Nat} (h : RdX B S w P l) (hg : Turn B' S' w w') (hd : S ≤ B' ∨ S' ≤ B) : RdX B S w' P l :=
  ⟨⟨⟨(RX.turn ⟨h.1.1.1, h.1.2.1⟩ hg hd).1, (RX.turn ⟨h.1.1.2.1, h.1.2.2.1⟩ hg hd).1, (RX.turn ⟨h.1.1.2.2.1, h.1.2.2.2.1⟩ hg hd).1, (RX.turn ⟨h.1.1.2.2.2, h.1.2.2.2.2⟩ hg hd).1⟩, h.1.2⟩, h.2⟩
theorem RdAt.grown {b o : Nat} {row : Option Nat} (h : RdAt P l w b o) (hg : w.grownBy w' row) (hne : some b ≠ row) : RdAt P l w' b o :=
  ⟨hg.cell h.1 hne, hg.cell h.2.1 hne, hg.cell h.2.2.1 hne, hg.cell h.2.2.2 hne⟩
end
end Go.Proofs.Ytpnkapdemgieaaa
set_option linter.unusedSimpArgs false
set_option linter.unusedVariables false
set_option linter.unusedSectionVars false
namespace Go.Proofs.Ytpnkapdemgieaaa
open Go Go.RowKit
open Go.ChangeShapes Go.WideShapes Go.ChangeAt Go.RowKit Go.Joins
set_option maxHeartbeats 4000000 in
set_option maxRecDepth 100000 in
theorem implValidRod_any (P : Rd) (l : RL) (w : World) (hs : P.fs w l) : Calls Try.prog 35 #[.agg #[.slice l.p1 P.a.length l.c1, .slice l.p2 P.b.length l.c2, .slice l.p3 P.c.length l.c3, .slice l.p4 P.d.length l.c4]] w (BV w (.bool P.ok)) := by
  have HS := Lib.hid hs
  clear hs
  by_cases g1 : (P.a.length : Int) < 1
  · have HE : Hid (P.ok = false) := by show _ = _; simp [Rd.ok, Rd.sized]; omega
    go_enter Try.func35, Try.ntmps35
    go_wp2_with (first | (with_reducible refine at_list ?_; refine wpList_fop rfl rfl rfl rfl rfl ?_; intro r n hr0; have hr := hr0 _ _ (by first | with_reducible assumption | exact rfl) (by first | with_reducible assumption | exact rfl); clear hr0) | (with_reducible refine at_list ?_; refine wpList_neg rfl rfl rfl ?_; intro r hr0; have hr := hr0 _ (by first | with_reducible assumption | exact rfl); clear hr0) | (with_reducible refine at_list ?_; refine wpList_fop_g rfl rfl rfl rfl rfl ?_; intro r n hr0; have hr := hr0 _ _ (by first | with_reducible assumption | exact rfl) (by first | with_reducible assumption | exact rfl); clear hr0) | (with_reducible refine at_list ?_; refine wpList_wide_g rfl rfl Try.underlying28 Try.underlying39 rfl ?_; intro r n hr0; have hr := hr0 _ (by first | with_reducible assumption | exact rfl); clear hr0) | (with_reducible refine at_list ?_; refine wpList_wide rfl rfl rfl Try.underlying28 Try.underlying39 ?_; intro r n hr0; have hr := hr0 _ (by first | with_reducible assumption | exact rfl); clear hr0) | (go_at_call 45; refine ((arePositive_any P.a _ _ (HS.out.1.later (by (repeat (first | (with_reducible exact Below.refl _ _) | (with_reducible assumption) | (with_reducible refine below_then ?_ (by assumption)) | (with_reducible refine Below.trans ?_ (by assumption)) | (with_reducible refine below_drewN ?_ _) | (with_reducible apply Below.drew) | (with_reducible refine below_alloc ?_ _) | refine Below.setCell ?_ (by first | (simp; done) | (simp; omega)) _))))) ).mono ?_; rintro e w' ⟨rfl, n, rfl⟩) | (go_at_call 44; refine ((areFinite_any P.d _ _ (HS.out.2.2.2.later (by (repeat (first | (with_reducible exact Below.refl _ _) | (with_reducible assumption) | (with_reducible refine below_then ?_ (by assumption)) | (with_reducible refine Below.trans ?_ (by assumption)) | (with_reducible refine below_drewN ?_ _) | (with_reducible apply Below.drew) | (with_reducible refine below_alloc ?_ _) | refine Below.setCell ?_ (by first | (simp; done) | (simp; omega)) _))))) ).mono ?_; rintro e w' ⟨rfl, n, rfl⟩))
    all_goals
      go_ret
      exact ⟨by (first | (rw [HE.out]; rfl) | rw [HE.out]), by (repeat (first | (with_reducible exact Below.refl _ _) | (with_reducible assumption) | (with_reducible refine below_then ?_ (by assumption)) | (with_reducible refine Below.trans ?_ (by assumption)) | (with_reducible refine below_drewN ?_ _) | (with_reducible apply Below.drew) | (with_reducible refine below_alloc ?_ _) | refine Below.setCell ?_ (by first | (simp; done) | (simp; omega)) _))⟩
  by_cases g2 : 48 < (P.a.length : Int)
  · have HE : Hid (P.ok = false) := by show _ = _; simp [Rd.ok, Rd.sized]; omega
    go_enter Try.func35, Try.ntmps35
    go_wp2_with (first | (with_reducible refine at_list ?_; refine wpList_fop rfl rfl rfl rfl rfl ?_; intro r n hr0; have hr := hr0 _ _ (by first | with_reducible assumption | exact rfl) (by first | with_reducible assumption | exact rfl); clear hr0) | (with_reducible refine at_list ?_; refine wpList_neg rfl rfl rfl ?_; intro r hr0; have hr := hr0 _ (by first | with_reducible assumption | exact rfl); clear hr0) | (with_reducible refine at_list ?_; refine wpList_fop_g rfl rfl rfl rfl rfl ?_; intro r n hr0; have hr := hr0 _ _ (by first | with_reducible assumption | exact rfl) (by first | with_reducible assumption | exact rfl); clear hr0) | (with_reducible refine at_list ?_; refine wpList_wide_g rfl rfl Try.underlying28 Try.underlying39 rfl ?_; intro r n hr0; have hr := hr0 _ (by first | with_reducible assumption | exact rfl); clear hr0) | (with_reducible refine at_list ?_; refine wpList_wide rfl rfl rfl Try.underlying28 Try.underlying39 ?_; intro r n hr0; have hr := hr0 _ (by first | with_reducible assumption | exact rfl); clear hr0) | (go_at_call 45; refine ((arePositive_any P.a _ _ (HS.out.1.later (by (repeat (first | (with_reducible exact Below.refl _ _) | (with_reducible assumption) | (with_reducible refine below_then ?_ (by assumption)) | (with_reducible refine Below.trans ?_ (by assumption)) | (with_reducible refine below_drewN ?_ _) | (with_reducible apply Below.drew) | (with_reducible refine below_alloc ?_ _) | refine Below.setCell ?_ (by first | (simp; done) | (simp; omega)) _))))) ).mono ?_; rintro e w' ⟨rfl, n, rfl⟩) | (go_at_call 44; refine ((areFinite_any P.d _ _ (HS.out.2.2.2.later (by (repeat (first | (with_reducible exact Below.refl _ _) | (with_reducible assumption) | (with_reducible refine below_then ?_ (by assumption)) | (with_reducible refine Below.trans ?_ (by assumption)) | (with_reducible refine below_drewN ?_ _) | (with_reducible apply Below.drew) | (with_reducible refine below_alloc ?_ _) | refine Below.setCell ?_ (by first | (simp; done) | (simp; omega)) _))))) ).mono ?_; rintro e w' ⟨rfl, n, rfl⟩))
    all_goals
      go_ret
      exact ⟨by (first | (rw [HE.out]; rfl) | rw [HE.out]), by (repeat (first | (with_reducible exact Below.refl _ _) | (with_reducible assumption) | (with_reducible refine below_then ?_ (by assumption)) | (with_reducible refine Below.trans ?_ (by assumption)) | (with_reducible refine below_drewN ?_ _) | (with_reducible apply Below.drew) | (with_reducible refine below_alloc ?_ _) | refine Below.setCell ?_ (by first | (simp; done) | (simp; omega)) _))⟩
  by_cases e2 : (P.b.length : Int) = P.a.length
  rotate_left
  · have HE : Hid (P.ok = false) := by show _ = _; simp [Rd.ok, Rd.sized]; omega
    go_enter Try.func35, Try.ntmps35
    go_wp2_with (first | (with_reducible refine at_list ?_; refine wpList_fop rfl rfl rfl rfl rfl ?_; intro r n hr0; have hr := hr0 _ _ (by first | with_reducible assumption | exact rfl) (by first | with_reducible assumption | exact rfl); clear hr0) | (with_reducible refine at_list ?_; refine wpList_neg rfl rfl rfl ?_; intro r hr0; have hr := hr0 _ (by first | with_reducible assumption | exact rfl); clear hr0) | (with_reducible refine at_list ?_; refine wpList_fop_g rfl rfl rfl rfl rfl ?_; intro r n hr0; have hr := hr0 _ _ (by first | with_reducible assumption | exact rfl) (by first | with_reducible assumption | exact rfl); clear hr0) | (with_reducible refine at_list ?_; refine wpList_wide_g rfl rfl Try.underlying28 Try.underlying39 rfl ?_; intro r n hr0; have hr := hr0 _ (by first | with_reducible assumption | exact rfl); clear hr0) | (with_reducible refine at_list ?_; refine wpList_wide rfl rfl rfl Try.underlying28 Try.underlying39 ?_; intro r n hr0; have hr := hr0 _ (by first | with_reducible assumption | exact rfl); clear hr0) | (go_at_call 45; refine ((arePositive_any P.a _ _ (HS.out.1.later (by (repeat (first | (with_reducible exact Below.refl _ _) | (with_reducible assumption) | (with_reducible refine below_then ?_ (by assumption)) | (with_reducible refine Below.trans ?_ (by assumption)) | (with_reducible refine below_drewN ?_ _) | (with_reducible apply Below.drew) | (with_reducible refine below_alloc ?_ _) | refine Below.setCell ?_ (by first | (simp; done) | (simp; omega)) _))))) ).mono ?_; rintro e w' ⟨rfl, n, rfl⟩) | (go_at_call 44; refine ((areFinite_any P.d _ _ (HS.out.2.2.2.later (by (repeat (first | (with_reducible exact Below.refl _ _) | (with_reducible assumption) | (with_reducible refine below_then ?_ (by assumption)) | (with_reducible refine Below.trans ?_ (by assumption)) | (with_reducible refine below_drewN ?_ _) | (with_reducible apply Below.drew) | (with_reducible refine below_alloc ?_ _) | refine Below.setCell ?_ (by first | (simp; done) | (simp; omega)) _))))) ).mono ?_; rintro e w' ⟨rfl, n, rfl⟩))
    all_goals
      go_ret
      exact ⟨by (first | (rw [HE.out]; rfl) | rw [HE.out]), by (repeat (first | (with_reducible exact Below.refl _ _) | (with_reducible assumption) | (with_reducible refine below_then ?_ (by assumption)) | (with_reducible refine Below.trans ?_ (by assumption)) | (with_reducible refine below_drewN ?_ _) | (with_reducible apply Below.drew) | (with_reducible refine below_alloc ?_ _) | refine Below.setCell ?_ (by first | (simp; done) | (simp; omega)) _))⟩
  by_cases e3 : (P.c.length : Int) = P.a.length
  rotate_left
  · have HE : Hid (P.ok = false) := by show _ = _; simp [Rd.ok, Rd.sized]; omega
    go_enter Try.func35, Try.ntmps35
    go_wp2_with (first | (with_reducible refine at_list ?_; refine wpList_fop rfl rfl rfl rfl rfl ?_; intro r n hr0; have hr := hr0 _ _ (by first | with_reducible assumption | exact rfl) (by first | with_reducible assumption | exact rfl); clear hr0) | (with_reducible refine at_list ?_; refine wpList_neg rfl rfl rfl ?_; intro r hr0; have hr := hr0 _ (by first | with_reducible assumption | exact rfl); clear hr0) | (with_reducible refine at_list ?_; refine wpList_fop_g rfl rfl rfl rfl rfl ?_; intro r n hr0; have hr := hr0 _ _ (by first | with_reducible assumption | exact rfl) (by first | with_reducible assumption | exact rfl); clear hr0) | (with_reducible refine at_list ?_; refine wpList_wide_g rfl rfl Try.underlying28 Try.underlying39 rfl ?_; intro r n hr0; have hr := hr0 _ (by first | with_reducible assumption | exact rfl); clear hr0) | (with_reducible refine at_list ?_; refine wpList_wide rfl rfl rfl Try.underlying28 Try.underlying39 ?_; intro r n hr0; have hr := hr0 _ (by first | with_reducible assumption | exact rfl); clear hr0) | (go_at_call 45; refine ((arePositive_any P.a _ _ (HS.out.1.later (by (repeat (first | (with_reducible exact Below.refl _ _) | (with_reducible assumption) | (with_reducible refine below_then ?_ (by assumption)) | (with_reducible refine Below.trans ?_ (by assumption)) | (with_reducible refine below_drewN ?_ _) | (with_reducible apply Below.drew) | (with_reducible refine below_alloc ?_ _) | refine Below.setCell ?_ (by first | (simp; done) | (simp; omega)) _))))) ).mono ?_; rintro e w' ⟨rfl, n, rfl⟩) | (go_at_call 44; refine ((areFinite_any P.d _ _ (HS.out.2.2.2.later (by (repeat (first | (with_reducible exact Below.refl _ _) | (with_reducible assumption) | (with_reducible refine below_then ?_ (by assumption)) | (with_reducible refine Below.trans ?_ (by assumption)) | (with_reducible refine below_drewN ?_ _) | (with_reducible apply Below.drew) | (with_reducible refine below_alloc ?_ _) | refine Below.setCell ?_ (by first | (simp; done) | (simp; omega)) _))))) ).mono ?_; rintro e w' ⟨rfl, n, rfl⟩))
    all_goals
      go_ret
      exact ⟨by (first | (rw [HE.out]; rfl) | rw [HE.out]), by (repeat (first | (with_reducible exact Below.refl _ _) | (with_reducible assumption) | (with_reducible refine below_then ?_ (by assumption)) | (with_reducible refine Below.trans ?_ (by assumption)) | (with_reducible refine below_drewN ?_ _) | (with_reducible apply Below.drew) | (with_reducible refine below_alloc ?_ _) | refine Below.setCell ?_ (by first | (simp; done) | (simp; omega)) _))⟩
  by_cases e4 : (P.d.length : Int) = P.a.length
  rotate_left
  · have HE : Hid (P.ok = false) := by show _ = _; simp [Rd.ok, Rd.sized]; omega
    go_enter Try.func35, Try.ntmps35
    go_wp2_with (first | (with_reducible refine at_list ?_; refine wpList_fop rfl rfl rfl rfl rfl ?_; intro r n hr0; have hr := hr0 _ _ (by first | with_reducible assumption | exact rfl) (by first | with_reducible assumption | exact rfl); clear hr0) | (with_reducible refine at_list ?_; refine wpList_neg rfl rfl rfl ?_; intro r hr0; have hr := hr0 _ (by first | with_reducible assumption | exact rfl); clear hr0) | (with_reducible refine at_list ?_; refine wpList_fop_g rfl rfl rfl rfl rfl ?_; intro r n hr0; have hr := hr0 _ _ (by first | with_reducible assumption | exact rfl) (by first | with_reducible assumption | exact rfl); clear hr0) | (with_reducible refine at_list ?_; refine wpList_wide_g rfl rfl Try.underlying28 Try.underlying39 rfl ?_; intro r n hr0; have hr := hr0 _ (by first | with_reducible assumption | exact rfl); clear hr0) | (with_reducible refine at_list ?_; refine wpList_wide rfl rfl rfl Try.underlying28 Try.underlying39 ?_; intro r n hr0; have hr := hr0 _ (by first | with_reducible assumption | exact rfl); clear hr0) | (go_at_call 45; refine ((arePositive_any P.a _ _ (HS.out.1.later (by (repeat (first | (with_reducible exact Below.refl _ _) | (with_reducible assumption) | (with_reducible refine below_then ?_ (by assumption)) | (with_reducible refine Below.trans ?_ (by assumption)) | (with_reducible refine below_drewN ?_ _) | (with_reducible apply Below.drew) | (with_reducible refine below_alloc ?_ _) | refine Below.setCell ?_ (by first | (simp; done) | (simp; omega)) _))))) ).mono ?_; rintro e w' ⟨rfl, n, rfl⟩) | (go_at_call 44; refine ((areFinite_any P.d _ _ (HS.out.2.2.2.later (by (repeat (first | (with_reducible exact Below.refl _ _) | (with_reducible assumption) | (with_reducible refine below_then ?_ (by assumption)) | (with_reducible refine Below.trans ?_ (by assumption)) | (with_reducible refine below_drewN ?_ _) | (with_reducible apply Below.drew) | (with_reducible refine below_alloc ?_ _) | refine Below.setCell ?_ (by first | (simp; done) | (simp; omega)) _))))) ).mono ?_; rintro e w' ⟨rfl, n, rfl⟩))
    all_goals
      go_ret
      exact ⟨by (first | (rw [HE.out]; rfl) | rw [HE.out]), by (repeat (first | (with_reducible exact Below.refl _ _) | (with_reducible assumption) | (with_reducible refine below_then ?_ (by assumption)) | (with_reducible refine Below.trans ?_ (by assumption)) | (with_reducible refine below_drewN ?_ _) | (with_reducible apply Below.drew) | (with_reducible refine below_alloc ?_ _) | refine Below.setCell ?_ (by first | (simp; done) | (simp; omega)) _))⟩
  have HA : Hid (∀ w', Below w.heap.size w w' → Calls Try.prog 45 #[.slice l.p1 P.a.length l.c1] w' (RB w' (posL P.a))) := fun w' h => arePositive_any P.a _ w' (HS.out.1.later h)
  have HB : Hid (∀ w', Below w.heap.size w w' → Calls Try.prog 45 #[.slice l.p2 P.b.length l.c2] w' (RB w' (posL P.b))) := fun w' h => arePositive_any P.b _ w' (HS.out.2.1.later h)
  have HC : Hid (∀ w', Below w.heap.size w w' → Calls Try.prog 45 #[.slice l.p3 P.c.length l.c3] w' (RB w' (posL P.c))) := fun w' h => arePositive_any P.c _ w' (HS.out.2.2.1.later h)
  have HD : Hid (∀ w', Below w.heap.size w w' → Calls Try.prog 44 #[.slice l.p4 P.d.length l.c4] w' (RB w' (finL P.d))) := fun w' h => areFinite_any P.d _ w' (HS.out.2.2.2.later h)
  have HE : Hid (P.ok = (posL P.a && (posL P.b && (posL P.c && finL P.d)))) := by
    show _ = _
    have q1 : decide (1 ≤ P.a.length) = true := by simp; omega
    have q2 : decide (P.a.length ≤ 48) = true := by simp; omega
    have q3 : decide (P.b.length = P.a.length) = true := by simp; omega
    have q4 : decide (P.c.length = P.a.length) = true := by simp; omega
    have q5 : decide (P.d.length = P.a.length) = true := by simp; omega
    simp only [Rd.ok, Rd.sized, q1, q2, q3, q4, q5, Bool.true_and]
  rcases f1 : posL P.a
  · rw [f1] at HA
    go_enter Try.func35, Try.ntmps35
    go_wp2_with (first | (with_reducible refine at_list ?_; refine wpList_fop rfl rfl rfl rfl rfl ?_; intro r n hr0; have hr := hr0 _ _ (by first | with_reducible assumption | exact rfl) (by first | with_reducible assumption | exact rfl); clear hr0) | (with_reducible refine at_list ?_; refine wpList_neg rfl rfl rfl ?_; intro r hr0; have hr := hr0 _ (by first | with_reducible assumption | exact rfl); clear hr0) | (with_reducible refine at_list ?_; refine wpList_fop_g rfl rfl rfl rfl rfl ?_; intro r n hr0; have hr := hr0 _ _ (by first | with_reducible assumption | exact rfl) (by first | with_reducible assumption | exact rfl); clear hr0) | (with_reducible refine at_list ?_; refine wpList_wide_g rfl rfl Try.underlying28 Try.underlying39 rfl ?_; intro r n hr0; have hr := hr0 _ (by first | with_reducible assumption | exact rfl); clear hr0) | (with_reducible refine at_list ?_; refine wpList_wide rfl rfl rfl Try.underlying28 Try.underlying39 ?_; intro r n hr0; have hr := hr0 _ (by first | with_reducible assumption | exact rfl); clear hr0) | (go_at_call_of 45 (Value.slice l.p1 P.a.length l.c1); refine ((HA.out _ (by (repeat (first | (with_reducible exact Below.refl _ _) | (with_reducible assumption) | (with_reducible refine below_then ?_ (by assumption)) | (with_reducible refine Below.trans ?_ (by assumption)) | (with_reducible refine below_drewN ?_ _) | (with_reducible apply Below.drew) | (with_reducible refine below_alloc ?_ _) | refine Below.setCell ?_ (by first | (simp; done) | (simp; omega)) _)))) ).mono ?_; rintro e w' ⟨rfl, n, rfl⟩) | (go_at_call_of 45 (Value.slice l.p2 P.b.length l.c2); refine ((HB.out _ (by (repeat (first | (with_reducible exact Below.refl _ _) | (with_reducible assumption) | (with_reducible refine below_then ?_ (by assumption)) | (with_reducible refine Below.trans ?_ (by assumption)) | (with_reducible refine below_drewN ?_ _) | (with_reducible apply Below.drew) | (with_reducible refine below_alloc ?_ _) | refine Below.setCell ?_ (by first | (simp; done) | (simp; omega)) _)))) ).mono ?_; rintro e w' ⟨rfl, n, rfl⟩) | (go_at_call_of 45 (Value.slice l.p3 P.c.length l.c3); refine ((HC.out _ (by (repeat (first | (with_reducible exact Below.refl _ _) | (with_reducible assumption) | (with_reducible refine below_then ?_ (by assumption)) | (with_reducible refine Below.trans ?_ (by assumption)) | (with_reducible refine below_drewN ?_ _) | (with_reducible apply Below.drew) | (with_reducible refine below_alloc ?_ _) | refine Below.setCell ?_ (by first | (simp; done) | (simp; omega)) _)))) ).mono ?_; rintro e w' ⟨rfl, n, rfl⟩) | (go_at_call 44; refine ((HD.out _ (by (repeat (first | (with_reducible exact Below.refl _ _) | (with_reducible assumption) | (with_reducible refine below_then ?_ (by assumption)) | (with_reducible refine Below.trans ?_ (by assumption)) | (with_reducible refine below_drewN ?_ _) | (with_reducible apply Below.drew) | (with_reducible refine below_alloc ?_ _) | refine Below.setCell ?_ (by first | (simp; done) | (simp; omega)) _)))) ).mono ?_; rintro e w' ⟨rfl, n, rfl⟩))
    all_goals
      go_ret
      exact ⟨by rw [HE.out]; simp [*], by (repeat (first | (with_reducible exact Below.refl _ _) | (with_reducible assumption) | (with_reducible refine below_then ?_ (by assumption)) | (with_reducible refine Below.trans ?_ (by assumption)) | (with_reducible refine below_drewN ?_ _) | (with_reducible apply Below.drew) | (with_reducible refine below_alloc ?_ _) | refine Below.setCell ?_ (by first | (simp; done) | (simp; omega)) _))⟩
  rcases f2 : posL P.b
  · rw [f1] at HA
    rw [f2] at HB
    go_enter Try.func35, Try.ntmps35
    go_wp2_with (first | (with_reducible refine at_list ?_; refine wpList_fop rfl rfl rfl rfl rfl ?_; intro r n hr0; have hr := hr0 _ _ (by first | with_reducible assumption | exact rfl) (by first | with_reducible assumption | exact rfl); clear hr0) | (with_reducible refine at_list ?_; refine wpList_neg rfl rfl rfl ?_; intro r hr0; have hr := hr0 _ (by first | with_reducible assumption | exact rfl); clear hr0) | (with_reducible refine at_list ?_; refine wpList_fop_g rfl rfl rfl rfl rfl ?_; intro r n hr0; have hr := hr0 _ _ (by first | with_reducible assumption | exact rfl) (by first | with_reducible assumption | exact rfl); clear hr0) | (with_reducible refine at_list ?_; refine wpList_wide_g rfl rfl Try.underlying28 Try.underlying39 rfl ?_; intro r n hr0; have hr := hr0 _ (by first | with_reducible assumption | exact rfl); clear hr0) | (with_reducible refine at_list ?_; refine wpList_wide rfl rfl rfl Try.underlying28 Try.underlying39 ?_; intro r n hr0; have hr := hr0 _ (by first | with_reducible assumption | exact rfl); clear hr0) | (go_at_call_of 45 (Value.slice l.p1 P.a.length l.c1); refine ((HA.out _ (by (repeat (first | (with_reducible exact Below.refl _ _) | (with_reducible assumption) | (with_reducible refine below_then ?_ (by assumption)) | (with_reducible refine Below.trans ?_ (by assumption)) | (with_reducible refine below_drewN ?_ _) | (with_reducible apply Below.drew) | (with_reducible refine below_alloc ?_ _) | refine Below.setCell ?_ (by first | (simp; done) | (simp; omega)) _)))) ).mono ?_; rintro e w' ⟨rfl, n, rfl⟩) | (go_at_call_of 45 (Value.slice l.p2 P.b.length l.c2); refine ((HB.out _ (by (repeat (first | (with_reducible exact Below.refl _ _) | (with_reducible assumption) | (with_reducible refine below_then ?_ (by assumption)) | (with_reducible refine Below.trans ?_ (by assumption)) | (with_reducible refine below_drewN ?_ _) | (with_reducible apply Below.drew) | (with_reducible refine below_alloc ?_ _) | refine Below.setCell ?_ (by first | (simp; done) | (simp; omega)) _)))) ).mono ?_; rintro e w' ⟨rfl, n, rfl⟩) | (go_at_call_of 45 (Value.slice l.p3 P.c.length l.c3); refine ((HC.out _ (by (repeat (first | (with_reducible exact Below.refl _ _) | (with_reducible assumption) | (with_reducible refine below_then ?_ (by assumption)) | (with_reducible refine Below.trans ?_ (by assumption)) | (with_reducible refine below_drewN ?_ _) | (with_reducible apply Below.drew) | (with_reducible refine below_alloc ?_ _) | refine Below.setCell ?_ (by first | (simp; done) | (simp; omega)) _)))) ).mono ?_; rintro e w' ⟨rfl, n, rfl⟩) | (go_at_call 44; refine ((HD.out _ (by (repeat (first | (with_reducible exact Below.refl _ _) | (with_reducible assumption) | (with_reducible refine below_then ?_ (by assumption)) | (with_reducible refine Below.trans ?_ (by assumption)) | (with_reducible refine below_drewN ?_ _) | (with_reducible apply Below.drew) | (with_reducible refine below_alloc ?_ _) | refine Below.setCell ?_ (by first | (simp; done) | (simp; omega)) _)))) ).mono ?_; rintro e w' ⟨rfl, n, rfl⟩))
    all_goals
      go_ret
      exact ⟨by rw [HE.out]; simp [*], by (repeat (first | (with_reducible exact Below.refl _ _) | (with_reducible assumption) | (with_reducible refine below_then ?_ (by assumption)) | (with_reducible refine Below.trans ?_ (by assumption)) | (with_reducible refine below_drewN ?_ _) | (with_reducible apply Below.drew) | (with_reducible refine below_alloc ?_ _) | refine Below.setCell ?_ (by first | (simp; done) | (simp; omega)) _))⟩
  rcases f3 : posL P.c
  all_goals
    rw [f1] at HA
    rw [f2] at HB
    rw [f3] at HC
    go_enter Try.func35, Try.ntmps35
    go_wp2_with (first | (with_reducible refine at_list ?_; refine wpList_fop rfl rfl rfl rfl rfl ?_; intro r n hr0; have hr := hr0 _ _ (by first | with_reducible assumption | exact rfl) (by first | with_reducible assumption | exact rfl); clear hr0) | (with_reducible refine at_list ?_; refine wpList_neg rfl rfl rfl ?_; intro r hr0; have hr := hr0 _ (by first | with_reducible assumption | exact rfl); clear hr0) | (with_reducible refine at_list ?_; refine wpList_fop_g rfl rfl rfl rfl rfl ?_; intro r n hr0; have hr := hr0 _ _ (by first | with_reducible assumption | exact rfl) (by first | with_reducible assumption | exact rfl); clear hr0) | (with_reducible refine at_list ?_; refine wpList_wide_g rfl rfl Try.underlying28 Try.underlying39 rfl ?_; intro r n hr0; have hr := hr0 _ (by first | with_reducible assumption | exact rfl); clear hr0) | (with_reducible refine at_list ?_; refine wpList_wide rfl rfl rfl Try.underlying28 Try.underlying39 ?_; intro r n hr0; have hr := hr0 _ (by first | with_reducible assumption | exact rfl); clear hr0) | (go_at_call_of 45 (Value.slice l.p1 P.a.length l.c1); refine ((HA.out _ (by (repeat (first | (with_reducible exact Below.refl _ _) | (with_reducible assumption) | (with_reducible refine below_then ?_ (by assumption)) | (with_reducible refine Below.trans ?_ (by assumption)) | (with_reducible refine below_drewN ?_ _) | (with_reducible apply Below.drew) | (with_reducible refine below_alloc ?_ _) | refine Below.setCell ?_ (by first | (simp; done) | (simp; omega)) _)))) ).mono ?_; rintro e w' ⟨rfl, n, rfl⟩) | (go_at_call_of 45 (Value.slice l.p2 P.b.length l.c2); refine ((HB.out _ (by (repeat (first | (with_reducible exact Below.refl _ _) | (with_reducible assumption) | (with_reducible refine below_then ?_ (by assumption)) | (with_reducible refine Below.trans ?_ (by assumption)) | (with_reducible refine below_drewN ?_ _) | (with_reducible apply Below.drew) | (with_reducible refine below_alloc ?_ _) | refine Below.setCell ?_ (by first | (simp; done) | (simp; omega)) _)))) ).mono ?_; rintro e w' ⟨rfl, n, rfl⟩) | (go_at_call_of 45 (Value.slice l.p3 P.c.length l.c3); refine ((HC.out _ (by (repeat (first | (with_reducible exact Below.refl _ _) | (with_reducible assumption) | (with_reducible refine below_then ?_ (by assumption)) | (with_reducible refine Below.trans ?_ (by assumption)) | (with_reducible refine below_drewN ?_ _) | (with_reducible apply Below.drew) | (with_reducible refine below_alloc ?_ _) | refine Below.setCell ?_ (by first | (simp; done) | (simp; omega)) _)))) ).mono ?_; rintro e w' ⟨rfl, n, rfl⟩) | (go_at_call 44; refine ((HD.out _ (by (repeat (first | (with_reducible exact Below.refl _ _) | (with_reducible assumption) | (with_reducible refine below_then ?_ (by assumption)) | (with_reducible refine Below.trans ?_ (by assumption)) | (with_reducible refine below_drewN ?_ _) | (with_reducible apply Below.drew) | (with_reducible refine below_alloc ?_ _) | refine Below.setCell ?_ (by first | (simp; done) | (simp; omega)) _)))) ).mono ?_; rintro e w' ⟨rfl, n, rfl⟩))
    all_goals
      go_ret
      exact ⟨by rw [HE.out]; simp [*], by (repeat (first | (with_reducible exact Below.refl _ _) | (with_reducible assumption) | (with_reducible refine below_then ?_ (by assumption)) | (with_reducible refine Below.trans ?_ (by assumption)) | (with_reducible refine below_drewN ?_ _) | (with_reducible apply Below.drew) | (with_reducible refine below_alloc ?_ _) | refine Below.setCell ?_ (by first | (simp; done) | (simp; omega)) _))⟩
end Go.Proofs.Ytpnkapdemgieaaa
set_option linter.unusedSimpArgs false
set_option linter.unusedVariables false
set_option linter.unusedSectionVars false
namespace Go.Proofs.Ytpnkapdemgieaaa
open Go Go.RowKit
open Go.ChangeShapes Go.WideShapes Go.ChangeAt Go.RowKit Go.Joins
end Go.Proofs.Ytpnkapdemgieaaa
set_option linter.unusedSimpArgs false
set_option linter.unusedVariables false
set_option linter.unusedSectionVars false
namespace Go.Proofs.Ytpnkapdemgieaaa
open Go Go.RowKit
end Go.Proofs.Ytpnkapdemgieaaa
set_option linter.unusedSimpArgs false
set_option linter.unusedVariables false
set_option linter.unusedSectionVars false
namespace Go.Proofs.Ytpnkapdemgieaaa
open Go Go.RowKit
open Go.ChangeShapes Go.WideShapes Go.ChangeAt Go.RowKit Go.Joins
theorem any_cn (ys : List Nat) {L : List Nat} (h : ys.map (cn .f32) = L) : (ys.any fun x => !fin .f32 (cn .f32 x)) = L.any fun x => !fin .f32 x := by
  rw [← h, List.any_map]; rfl
/-- A slice of numbers that is not empty, seen. -/
theorem FS.ptr {w : World} {v : Value} {xs : List Nat} (h : FS w v xs) (hn : 1 ≤ xs.length) : ∃ b o c, v = .slice (some ⟨b, o, none⟩) xs.length c ∧ (c ≤ 9223372036854775807 ∧ xs.length ≤ c) ∧ Hid (∀ i, i < xs.length → w.cell? ⟨b, o + i, none⟩ = some (.float .f32 (xs.getD i 0))) := by
  obtain ⟨q, c, rfl, h1, h2, h3⟩ := FS_view h
  obtain ⟨b, o, rfl, _⟩ := h3 0 (by omega)
  refine ⟨b, o, c, rfl, ⟨h1, h2⟩, fun i hi => ?_⟩
  obtain ⟨b', o', e, hc⟩ := h3 i hi
  cases e; exact hc
/-- A rod whose lists are not empty, seen. -/
theorem Rd.open {P : Rd} {w : World} {l : RL} (h : P.fs w l) (hk : P.ok = true) : ∃ b1 o1 c1 b2 o2 c2 b3 o3 c3 b4 o4 c4, l = ⟨some ⟨b1, o1, none⟩, c1, some ⟨b2, o2, none⟩, c2, some ⟨b3, o3, none⟩, c3, some ⟨b4, o4, none⟩, c4⟩ ∧ Hid (∀ i, i < P.a.length → w.cell? ⟨b1, o1 + i, none⟩ = some (.float .f32 (P.a.getD i 0))) ∧ Hid (∀ i, i < P.a.length → w.cell? ⟨b2, o2 + i, none⟩ = some (.float .f32 (P.b.getD i 0))) ∧ Hid (∀ i, i < P.a.length → w.cell? ⟨b3, o3 + i, none⟩ = some (.float .f32 (P.c.getD i 0))) ∧ Hid (∀ i, i < P.a.length → w.cell? ⟨b4, o4 + i, none⟩ = some (.float .f32 (P.d.getD i 0))) := by
  obtain ⟨⟨h1, h2⟩, e2, e3, e4⟩ := Rd.ok_len hk
  obtain ⟨p1, c1, p2, c2, p3, c3, p4, c4⟩ := l
  obtain ⟨f1, f2, f3, f4⟩ := h
  obtain ⟨b1, o1, d1, g1, _, k1⟩ := f1.ptr h1
  obtain ⟨b2, o2, d2, g2, _, k2⟩ := f2.ptr (by omega)
  obtain ⟨b3, o3, d3, g3, _, k3⟩ := f3.ptr (by omega)
  obtain ⟨b4, o4, d4, g4, _, k4⟩ := f4.ptr (by omega)
  cases g1; cases g2; cases g3; cases g4
  exact ⟨b1, o1, _, b2, o2, _, b3, o3, _, b4, o4, _, rfl, k1, fun i hi => k2.out i (by omega), fun i hi => k3.out i (by omega), fun i hi => k4.out i (by omega)⟩
theorem rd_later {P : Rd} {l : RL} {w w' : World} {b o B : Nat} (h : RdAt P l w b o) (hb : Below B w w') (hB : b < B) : RdAt P l w' b o :=
  ⟨(hb.cell hB).trans h.1, (hb.cell hB).trans h.2.1, (hb.cell hB).trans h.2.2.1, (hb.cell hB).trans h.2.2.2⟩
end Go.Proofs.Ytpnkapdemgieaaa
set_option linter.unusedSimpArgs false
set_option linter.unusedVariables false
set_option linter.unusedSectionVars false
namespace Go.Proofs.Ytpnkapdemgieaaa
open Go Go.RowKit
open Go.ChangeShapes Go.WideShapes Go.ChangeAt Go.RowKit Go.Joins
theorem OF.one {B n r : Nat} (w : World) (t : TypeId) (hn : n = w.heap.size) (hB : B ≤ w.heap.size) (ht : t = 28) : OF B (w.alloc (.cells #[.float .f32 r] t)) (.slice (some ⟨n, 0, none⟩) 1 1) [r] := by
  subst ht
  subst hn
  exact World.ownsRow_lit w #[.float .f32 r] 1 hB (by decide) (by simp)
end Go.Proofs.Ytpnkapdemgieaaa
set_option linter.unusedSimpArgs false
set_option linter.unusedVariables false
set_option linter.unusedSectionVars false
namespace Go.Proofs.Ytpnkapdemgieaaa
open Go Go.RowKit
open Go.ChangeShapes Go.WideShapes Go.ChangeAt Go.RowKit Go.Joins
def Rd.sum (P : Rd) (k : Int) : Int := k + P.a.length + P.b.length + P.c.length + P.d.length
theorem FX.fs {B S : Nat} {w : World} {u : Value} {xs : List Nat} (h : FX B S w u xs) : FS w u xs := OF.fs h.1
end Go.Proofs.Ytpnkapdemgieaaa
set_option linter.unusedSimpArgs false
set_option linter.unusedVariables false
set_option linter.unusedSectionVars false
namespace Go.Proofs.Ytpnkapdemgieaaa
open Go Go.RowKit
open Go.ChangeShapes Go.WideShapes Go.ChangeAt Go.RowKit Go.Joins
def nilRL : RL := ⟨none, 0, none, 0, none, 0, none, 0⟩
/-- Four own lists that lie apart. -/
def RdA (B : Nat) (w : World) (P : Rd) (l : RL) : Prop := P.own B w l ∧ Ap l.p1 l.p2 ∧ Ap l.p1 l.p3 ∧ Ap l.p1 l.p4 ∧ Ap l.p2 l.p3 ∧ Ap l.p2 l.p4 ∧ Ap l.p3 l.p4
theorem RdA.later {B : Nat} {w w' : World} {P : Rd} {l : RL} (h : RdA B w P l) (hb : Below w.heap.size w w') : RdA B w' P l := ⟨h.1.later hb, h.2⟩
theorem RdX.base {B S B' S' : Nat} {w : World} {P : Rd} {l : RL} (h : RdX B S w P l) (hB : B' ≤ B) (hS : S ≤ S') : RdX B' S' w P l :=
  ⟨⟨h.1.1.base hB, fun k hk => Nat.lt_of_lt_of_le (h.1.2.1 k hk) hS, fun k hk => Nat.lt_of_lt_of_le (h.1.2.2.1 k hk) hS, fun k hk => Nat.lt_of_lt_of_le (h.1.2.2.2.1 k hk) hS, fun k hk => Nat.lt_of_lt_of_le (h.1.2.2.2.2 k hk) hS⟩, h.2⟩
section
variable {P : Program} {ops : Array Oper} {Q : Exit → Act → World → Prop} {W : World} {l : List Oper} {cs : List Clm} {i : Nat} {ks : List (Nat × (World → Prop))} {a : Act} {o : Oper}
def Clm.chk : Clm := ⟨1, fun x v => v = .tuple #[x.getLastD undef, .bool true], fun _ _ _ => True, fun _ => ⟨_, rfl⟩, fun _ _ _ _ _ _ => trivial, fun h => nomatch h⟩
end
end Go.Proofs.Ytpnkapdemgieaaa

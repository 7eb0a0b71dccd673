/-
  Draws: a number below a bound; a source made of bytes; bytes handed in. No condition but what each contract says.
  Draws in a statement whose order Go leaves open; a source made of bytes; bytes handed in. No condition but what each contract says.
  What IEEE 754's rounding does to the exact value of a result: the nearest number of a grid that has at least the format's digits. Plain laws on data; no condition but what each law says.
  Words of floats as rational numbers: what an operation gives, rounded; bounds that are kept. No condition but what each law says.
  The error function in 64 bits as a plain function, and how great it gets. No condition but what each law says.
  Words as exact numbers: small dyadic ones, and what is reckoned of them without rounding; what is rounded, between bounds. No condition but what each law says; nothing of the program is named here.
  What the statements draw: a stuff of small dyadic numbers. No condition but what each contract says.
  Drawn stuffs: how warm they are, how far molten, what heat that comes to: between bounds. No condition but what each law says.
  slices.IndexFunc, Index, Contains and DeleteFunc over whole numbers; own slices of whole numbers that are cut or appended to. No condition but what each contract says.
  Sums of lists of numbers (the program's and the reference's). No condition but what each contract says.
  Numbers of a plate: gains, mean, range (the program's and the reference's), and the laws on them. No condition.
-/
import Derived.Test.YtphamdlnnfionaaM3
import Derived.Test.YtphamdlnnfionaaM2
import Derived.Test.YtphamdlnnfionaaM1
import Derived.Lib.SliceRun
set_option linter.unusedSimpArgs false
set_option linter.unusedVariables false
set_option linter.unusedSectionVars false
namespace Go.Proofs.Ytphamdlnnfionaa
open Go Go.RowKit
open Go.ChangeShapes Go.WideShapes Go.ChangeAt Go.RowKit Go.Joins
theorem rem_bd {x n : Int} (hx : 0 ≤ x) (hn : 1 ≤ n) : 0 ≤ x % n ∧ x % n ≤ n - 1 := ⟨Int.emod_nonneg _ (by omega), by have := Int.emod_lt_of_pos x (show 0 < n by omega); omega⟩
theorem Turn.then {B S : Nat} {a b c : World} (h : Turn B S a b) (h' : Turn B S b c) : Turn B S a c := h.trans h'
set_option maxHeartbeats 2000000 in
theorem pick_any (b K : Nat) (n : Int) (w : World) (h : SrcAt w b K) (hK : K ≤ 900000) (hn : 1 ≤ n ∧ n ≤ 1000000000) : Calls Try.prog 68 #[.pointer (some ⟨b, 0, none⟩), .int .i64 n] w (SP w b (K + 2) 0 (n - 1)) := by
  have HN := Lib.hid (fun (K : Nat) w h (hK : K ≤ 1000000) => next_any b K w h hK)
  have HS := Lib.hid h
  clear h
  obtain ⟨hn1, hn2⟩ := hn
  by_cases h1 : n ≤ 1
  · have he : n = 1 := by omega
    subst he
    go_enter Try.func68, Try.ntmps68
    go_wp2_with (first | (with_reducible refine at_list ?_; refine wpList_fop rfl rfl rfl rfl rfl ?_; intro r n hr0; have hr := hr0 _ _ (by first | with_reducible assumption | exact rfl) (by first | with_reducible assumption | exact rfl); clear hr0) | (with_reducible refine at_list ?_; refine wpList_neg rfl rfl rfl ?_; intro r hr0; have hr := hr0 _ (by first | with_reducible assumption | exact rfl); clear hr0) | (with_reducible refine at_list ?_; refine wpList_fop_g rfl rfl rfl rfl rfl ?_; intro r n hr0; have hr := hr0 _ _ (by first | with_reducible assumption | exact rfl) (by first | with_reducible assumption | exact rfl); clear hr0) | (with_reducible refine at_list ?_; refine wpList_wide_g rfl rfl Try.underlying26 Try.underlying54 rfl ?_; intro r n hr0; have hr := hr0 _ (by first | with_reducible assumption | exact rfl); clear hr0) | (with_reducible refine at_list ?_; refine wpList_wide rfl rfl rfl Try.underlying26 Try.underlying54 ?_; intro r n hr0; have hr := hr0 _ (by first | with_reducible assumption | exact rfl); clear hr0))
    all_goals
      go_ret
      exact ⟨0, rfl, ⟨by omega, by omega⟩, Turn.refl _ _ _, rfl, HS.out.mono (by omega)⟩
  by_cases h2 : 200 < n
  · go_enter Try.func68, Try.ntmps68
    go_wp2_with (first | (with_reducible refine at_list ?_; refine wpList_fop rfl rfl rfl rfl rfl ?_; intro r n hr0; have hr := hr0 _ _ (by first | with_reducible assumption | exact rfl) (by first | with_reducible assumption | exact rfl); clear hr0) | (with_reducible refine at_list ?_; refine wpList_neg rfl rfl rfl ?_; intro r hr0; have hr := hr0 _ (by first | with_reducible assumption | exact rfl); clear hr0) | (with_reducible refine at_list ?_; refine wpList_fop_g rfl rfl rfl rfl rfl ?_; intro r n hr0; have hr := hr0 _ _ (by first | with_reducible assumption | exact rfl) (by first | with_reducible assumption | exact rfl); clear hr0) | (with_reducible refine at_list ?_; refine wpList_wide_g rfl rfl Try.underlying26 Try.underlying54 rfl ?_; intro r n hr0; have hr := hr0 _ (by first | with_reducible assumption | exact rfl); clear hr0) | (with_reducible refine at_list ?_; refine wpList_wide rfl rfl rfl Try.underlying26 Try.underlying54 ?_; intro r n hr0; have hr := hr0 _ (by first | with_reducible assumption | exact rfl); clear hr0) | (go_at_call 77; first | (refine (HN.out _ _ HSa.out (by omega)).mono ?_; rintro e w2 ⟨r2, rfl, hr2, hg2, hz2, hs2⟩; have HSb := Lib.hid hs2; have HGb := Lib.hid hg2; have HZb := Lib.hid hz2; clear hs2 hg2 hz2) | (refine (HN.out _ _ HS.out (by omega)).mono ?_; rintro e w' ⟨r, rfl, hr, hg, hz, hs⟩; have HSa := Lib.hid hs; have HGa := Lib.hid hg; have HZa := Lib.hid hz; clear hs hg hz)))
    go_ret
    obtain ⟨hb1, hb2⟩ := rem_bd (x := r * 256 + r2) (n := n) (by omega) hn1
    exact ⟨_, rfl, ⟨by go_num, by go_num⟩, HGa.out.then HGb.out, HZb.out.trans HZa.out, HSb.out⟩
  · go_enter Try.func68, Try.ntmps68
    go_wp2_with (first | (with_reducible refine at_list ?_; refine wpList_fop rfl rfl rfl rfl rfl ?_; intro r n hr0; have hr := hr0 _ _ (by first | with_reducible assumption | exact rfl) (by first | with_reducible assumption | exact rfl); clear hr0) | (with_reducible refine at_list ?_; refine wpList_neg rfl rfl rfl ?_; intro r hr0; have hr := hr0 _ (by first | with_reducible assumption | exact rfl); clear hr0) | (with_reducible refine at_list ?_; refine wpList_fop_g rfl rfl rfl rfl rfl ?_; intro r n hr0; have hr := hr0 _ _ (by first | with_reducible assumption | exact rfl) (by first | with_reducible assumption | exact rfl); clear hr0) | (with_reducible refine at_list ?_; refine wpList_wide_g rfl rfl Try.underlying26 Try.underlying54 rfl ?_; intro r n hr0; have hr := hr0 _ (by first | with_reducible assumption | exact rfl); clear hr0) | (with_reducible refine at_list ?_; refine wpList_wide rfl rfl rfl Try.underlying26 Try.underlying54 ?_; intro r n hr0; have hr := hr0 _ (by first | with_reducible assumption | exact rfl); clear hr0) | (go_at_call 77; first | (refine (HN.out _ _ HSa.out (by omega)).mono ?_; rintro e w2 ⟨r2, rfl, hr2, hg2, hz2, hs2⟩; have HSb := Lib.hid hs2; have HGb := Lib.hid hg2; have HZb := Lib.hid hz2; clear hs2 hg2 hz2) | (refine (HN.out _ _ HS.out (by omega)).mono ?_; rintro e w' ⟨r, rfl, hr, hg, hz, hs⟩; have HSa := Lib.hid hs; have HGa := Lib.hid hg; have HZa := Lib.hid hz; clear hs hg hz)))
    go_ret
    obtain ⟨hb1, hb2⟩ := rem_bd (x := r) (n := n) (by omega) hn1
    exact ⟨_, rfl, ⟨by go_num, by go_num⟩, HGa.out, HZa.out, HSa.out.mono (by omega)⟩
end Go.Proofs.Ytphamdlnnfionaa
set_option linter.unusedSimpArgs false
set_option linter.unusedVariables false
set_option linter.unusedSectionVars false
namespace Go.Proofs.Ytphamdlnnfionaa
open Go Go.RowKit
open Go.ChangeShapes Go.WideShapes Go.ChangeAt Go.RowKit Go.Joins
theorem i64_fit {n : Int} (h : -9223372036854775808 ≤ n ∧ n ≤ 9223372036854775807) : IntKind.i64.wrap n = n := by
  simp [IntKind.wrap, IntKind.bits, IntKind.signed]
  omega
def Clm.pick (hi : Int) : Clm := ⟨3, fun _ v => ∃ r, v = .int .i64 r ∧ (0 ≤ hi → 0 ≤ r ∧ r ≤ hi), fun _ _ _ => True, fun _ => ⟨_, 0, rfl, fun h => ⟨by omega, h⟩⟩, fun _ _ _ _ _ _ => trivial, fun h => nomatch h⟩
/-- Only the source has turned. -/
def srcI (W : World) (b K : Nat) (u : World) : Prop := Turn b (b + 1) W u ∧ SrcAt u b K
theorem SrcAt.lt {w : World} {b K : Nat} (h : SrcAt w b K) : b < w.heap.size := by
  obtain ⟨p, n, c, k, s, ⟨h1, _⟩, _⟩ := h
  exact World.block_lt_of_cell? _ _ h1
theorem srcI_kept {W : World} {b K : Nat} (w w' : World) (h : srcI W b K w) (hb : Below w.heap.size w w') : srcI W b K w' := ⟨h.1.trans (Turn.below hb), h.2.later hb h.2.lt⟩
/-- .. and then one cell was written, with a value of a class. -/
def putI (I : World → Prop) (a : Addr) (S : Value → Prop) (u : World) : Prop := ∃ v u0, S v ∧ I u0 ∧ Below (u0.setCell a v).heap.size (u0.setCell a v) u
theorem putI_kept {I : World → Prop} {a : Addr} {S : Value → Prop} (w w' : World) (h : putI I a S w) (hb : Below w.heap.size w w') : putI I a S w' := by
  obtain ⟨v, u0, h0, h1, h2⟩ := h
  exact ⟨v, u0, h0, h1, below_then h2 hb⟩
section
variable {ops : Array Oper} {Q : Exit → Act → World → Prop} {F : World → Prop}
variable {l : List Oper} {cs : List GC} {i : Nat} {ks : List (Nat × (World → Prop))} {a : Act} {o : Oper}
theorem wpG_pick {W : World} {b K : Nat} {n : Int} (hn : 1 ≤ n ∧ n ≤ 1000000000) (hK : K ≤ 900000) (hw : Region.wanted o (yielded ops a.tmps) = true) (he : ∀ w, (execOp a.eval o).run Try.prog w = .ok (.enter 68 #[.pointer (some ⟨b, 0, none⟩), .int .i64 n]) w)
    (h : ∀ r, 0 ≤ r → r ≤ n - 1 → wpG Try.prog ops Q F (srcI W b (K + 2)) l cs (i + 1) [(i, fun _ => True)] (a.put o.dst (.int .i64 r))) : wpG Try.prog ops Q F (srcI W b K) (o :: l) (⟨Clm.pick (n - 1), srcI W b (K + 2), srcI_kept⟩ :: cs) i ks a := by
  refine wpG_turnC (Clm.pick (n - 1)) rfl _ _ hw he (fun w hi hk => ?_) ?_
  · refine (pick_any b K n w hi.2 hK hn).mono ?_
    rintro e w' ⟨r, rfl, ⟨h1, h2⟩, hg, hz, hs⟩
    exact ⟨_, rfl, ⟨hi.1.trans hg, hs⟩, ⟨r, rfl, fun _ => ⟨h1, h2⟩⟩, trivial⟩
  · rintro v ⟨r, rfl, h2⟩
    have := h2 (by omega)
    exact h r this.1 this.2
theorem wpG_set {I : World → Prop} (ad : Addr) (S : Value → Prop) (v : Value) (hI : ∀ w w', I w → Below w.heap.size w w' → I w') (hw : Region.wanted o (yielded ops a.tmps) = true) (hS : S v) (h1 : ∀ w, I w → (execOp a.eval o).run Try.prog w = .ok .skip (w.setCell ad v))
    (h : wpG Try.prog ops Q F (putI I ad S) l cs (i + 1) [(i, fun _ => True)] (a.put o.dst undef)) : wpG Try.prog ops Q F I (o :: l) (GC.turn undef (putI I ad S) (fun _ => True) putI_kept (fun _ _ _ _ => trivial) :: cs) i ks a := by
  simp only [wpG]
  refine ⟨.inl ⟨hw, .inr (.inr (.inl rfl)), fun h => absurd (show (3 : Nat) = 0 from h) (by decide), fun h => absurd (show (3 : Nat) = 4 from h) (by decide), fun h => absurd (show (3 : Nat) = 1 from h) (by decide), fun _ w hi hk => ?_⟩, fun u hu => ?_⟩
  · rw [h1 w hi]; exact ⟨⟨v, w, hS, hi, Below.refl _ _⟩, rfl, trivial⟩
  · have hu : u = undef := hu
    subst hu; exact h
end
theorem l00From_any (p : Option Addr) (n c : Nat) (w : World) (h : BY w.heap.size w p n c) (hn : n ≤ 1048576) : Calls Try.prog 48 #[.slice p n c] w (fun e w' => e = .returned (.pointer (some ⟨w.heap.size, 0, none⟩)) ∧ Below w.heap.size w w' ∧ SrcAt w' w.heap.size 0) := by
  have H := Lib.hid h
  clear h
  go_enter Try.func48, Try.ntmps48
  go_wp2_with (first | (with_reducible refine at_list ?_; refine wpList_fop rfl rfl rfl rfl rfl ?_; intro r n hr0; have hr := hr0 _ _ (by first | with_reducible assumption | exact rfl) (by first | with_reducible assumption | exact rfl); clear hr0) | (with_reducible refine at_list ?_; refine wpList_neg rfl rfl rfl ?_; intro r hr0; have hr := hr0 _ (by first | with_reducible assumption | exact rfl); clear hr0) | (with_reducible refine at_list ?_; refine wpList_fop_g rfl rfl rfl rfl rfl ?_; intro r n hr0; have hr := hr0 _ _ (by first | with_reducible assumption | exact rfl) (by first | with_reducible assumption | exact rfl); clear hr0) | (with_reducible refine at_list ?_; refine wpList_wide_g rfl rfl Try.underlying26 Try.underlying54 rfl ?_; intro r n hr0; have hr := hr0 _ (by first | with_reducible assumption | exact rfl); clear hr0) | (with_reducible refine at_list ?_; refine wpList_wide rfl rfl rfl Try.underlying26 Try.underlying54 ?_; intro r n hr0; have hr := hr0 _ (by first | with_reducible assumption | exact rfl); clear hr0))
  all_goals
    go_ret
    refine ⟨rfl, by (repeat (first | (with_reducible exact Below.refl _ _) | (with_reducible assumption) | (with_reducible refine below_then ?_ (by assumption)) | (with_reducible refine Below.trans ?_ (by assumption)) | (with_reducible refine below_drewN ?_ _) | (with_reducible apply Below.drew) | (with_reducible refine below_alloc ?_ _) | refine Below.setCell ?_ (by first | (simp; done) | (simp; omega)) _)), p, n, c, 0, 0, ⟨by go_simp, by go_simp, by go_simp⟩, ⟨by go_simp, by go_simp⟩, H.out.later (C := w.heap.size) (by (repeat (first | (with_reducible exact Below.refl _ _) | (with_reducible assumption) | (with_reducible refine below_then ?_ (by assumption)) | (with_reducible refine Below.trans ?_ (by assumption)) | (with_reducible refine below_drewN ?_ _) | (with_reducible apply Below.drew) | (with_reducible refine below_alloc ?_ _) | refine Below.setCell ?_ (by first | (simp; done) | (simp; omega)) _))) (Nat.le_refl _), hn, ⟨by omega, by omega⟩, by omega, by omega⟩
end Go.Proofs.Ytphamdlnnfionaa
set_option linter.unusedSimpArgs false
set_option linter.unusedVariables false
set_option linter.unusedSectionVars false
namespace Go.Proofs.Ytphamdlnnfionaa
def tp (z : Int) : Rat := (2 : Rat) ^ z
theorem tp_pos (z : Int) : 0 < tp z := Rat.zpow_pos (by decide)
theorem tp_add (a b : Int) : tp (a + b) = tp a * tp b := Rat.zpow_add (by decide) a b
theorem tp_zero : tp 0 = 1 := Rat.zpow_zero 2
theorem tp_one : tp 1 = 2 := Rat.zpow_one 2
theorem tp_nat (n : Nat) : tp n = ((2 ^ n : Nat) : Rat) := by
  unfold tp
  rw [Rat.zpow_natCast, Rat.natCast_pow]; rfl
theorem tp_succ (a : Int) : tp (a + 1) = 2 * tp a := by rw [tp_add, tp_one, Rat.mul_comm]
theorem tp_le {a b : Int} (h : a ≤ b) : tp a ≤ tp b := by
  obtain ⟨n, rfl⟩ : ∃ n : Nat, b = a + n := ⟨(b - a).toNat, by omega⟩
  rw [tp_add, tp_nat]
  have h1 : (1 : Rat) ≤ ((2 ^ n : Nat) : Rat) := by
    have := Nat.one_le_two_pow (n := n)
    exact_mod_cast this
  have h2 := tp_pos a
  have := Rat.mul_le_mul_of_nonneg_left h1 (Rat.le_of_lt h2)
  grind
theorem tp_lt {a b : Int} (h : a < b) : tp a < tp b := by
  have h1 := tp_le (show a + 1 ≤ b by omega)
  have h2 := tp_pos a
  rw [tp_succ] at h1
  grind
theorem lt_of_tp {a b : Int} (h : tp a < tp b) : a < b := by
  by_cases h1 : a < b
  · exact h1
  · have := tp_le (show b ≤ a by omega); grind
theorem le_of_tp {a b : Int} (h : tp a ≤ tp b) : a ≤ b := by
  by_cases h1 : a ≤ b
  · exact h1
  · have := tp_lt (show b < a by omega); grind
/-- to the nearest multiple of a place that has at least f's digits -/
def RndAt (f : Ieee.Format) (last : Int) (v r : Rat) : Prop := ∃ k : Int, f.leastPlace ≤ last ∧ r = (k : Rat) * tp last ∧ 2 * (r - v) ≤ tp last ∧ 2 * (v - r) ≤ tp last ∧ (last = f.leastPlace ∨ tp (last + f.fractionBits) ≤ v ∨ tp (last + f.fractionBits) ≤ -v)
def Rnd (f : Ieee.Format) (v r : Rat) : Prop := ∃ last, RndAt f last v r
theorem mul_cancel_le {a b c : Rat} (h : 0 < c) (h1 : a * c ≤ b * c) : a ≤ b := Rat.le_of_mul_le_mul_right h1 h
theorem rnd_near {v r t : Rat} {k N : Int} (ht : 0 < t) (hr : r = k * t) (h1 : 2 * (r - v) ≤ t) (hv : v ≤ N * t) : r ≤ N * t := by
  by_cases h : k ≤ N
  · rw [hr]
    exact Rat.mul_le_mul_of_nonneg_right (by exact_mod_cast h) (Rat.le_of_lt ht)
  · exfalso
    have h2 : ((N + 1 : Int) : Rat) ≤ (k : Rat) := by exact_mod_cast (by omega : N + 1 ≤ k)
    have h3 := Rat.mul_le_mul_of_nonneg_right h2 (Rat.le_of_lt ht)
    rw [Rat.intCast_add] at h3
    grind
theorem Rnd.le {f : Ieee.Format} {v r : Rat} (h : Rnd f v r) {z q : Int} (hz : z.natAbs < 2 ^ (f.fractionBits + 1)) (hq : f.leastPlace ≤ q) (hv : v ≤ z * tp q) : r ≤ z * tp q := by
  obtain ⟨last, k, hl, hr, h1, h2, h3⟩ := h
  by_cases hlq : last ≤ q
  · obtain ⟨n, rfl⟩ : ∃ n : Nat, q = last + n := ⟨(q - last).toNat, by omega⟩
    have e : (z : Rat) * tp (last + n) = ((z * (2 ^ n : Nat) : Int) : Rat) * tp last := by
      rw [tp_add, tp_nat, Rat.intCast_mul]
      have : (((2 ^ n : Nat) : Int) : Rat) = ((2 ^ n : Nat) : Rat) := Rat.intCast_natCast _
      rw [this]
      grind
    rw [e] at hv ⊢
    exact rnd_near (tp_pos last) hr h1 hv
  · have hb : tp (q + f.fractionBits + 1) ≤ tp (last + f.fractionBits) := tp_le (by omega)
    have e : tp (q + f.fractionBits + 1) = ((2 ^ (f.fractionBits + 1) : Nat) : Rat) * tp q := by
      rw [show q + (f.fractionBits : Int) + 1 = ((f.fractionBits + 1 : Nat) : Int) + q by omega, tp_add, tp_nat]
    have hq0 := tp_pos q
    have hz1 : (z : Rat) < ((2 ^ (f.fractionBits + 1) : Nat) : Rat) := by
      have : z < ((2 ^ (f.fractionBits + 1) : Nat) : Int) := by omega
      have := Rat.intCast_lt_intCast.2 this
      rwa [Rat.intCast_natCast] at this
    have hz2 : -((2 ^ (f.fractionBits + 1) : Nat) : Rat) < (z : Rat) := by
      have : -((2 ^ (f.fractionBits + 1) : Nat) : Int) < z := by omega
      have := Rat.intCast_lt_intCast.2 this
      rwa [Rat.intCast_neg, Rat.intCast_natCast] at this
    have hz3 := Rat.mul_lt_mul_of_pos_right hz1 hq0
    have hz4 := Rat.mul_lt_mul_of_pos_right hz2 hq0
    rcases h3 with h3 | h3 | h3
    · omega
    · exfalso; grind
    · have e2 : tp (last + f.fractionBits) = ((2 ^ f.fractionBits : Nat) : Rat) * tp last := by
        rw [Int.add_comm, tp_add, tp_nat]
      have := rnd_near (N := -((2 ^ f.fractionBits : Nat) : Int)) (tp_pos last) hr h1 (by rw [Rat.intCast_neg, Rat.intCast_natCast]; grind)
      rw [Rat.intCast_neg, Rat.intCast_natCast] at this
      grind
theorem RndAt.neg {f : Ieee.Format} {last : Int} {v r : Rat} (h : RndAt f last v r) : RndAt f last (-v) (-r) := by
  obtain ⟨k, hl, hr, h1, h2, h3⟩ := h
  refine ⟨-k, hl, by rw [hr, Rat.intCast_neg]; grind, by grind, by grind, by grind⟩
theorem Rnd.neg {f : Ieee.Format} {v r : Rat} (h : Rnd f v r) : Rnd f (-v) (-r) := by
  obtain ⟨last, h⟩ := h
  exact ⟨last, h.neg⟩
theorem Rnd.ge {f : Ieee.Format} {v r : Rat} (h : Rnd f v r) {z q : Int} (hz : z.natAbs < 2 ^ (f.fractionBits + 1)) (hq : f.leastPlace ≤ q) (hv : z * tp q ≤ v) : z * tp q ≤ r := by
  have := h.neg.le (z := -z) (by omega) hq (by rw [Rat.intCast_neg]; grind)
  rw [Rat.intCast_neg] at this
  grind
theorem Rnd.eq {f : Ieee.Format} {v r : Rat} (h : Rnd f v r) {z q : Int} (hz : z.natAbs < 2 ^ (f.fractionBits + 1)) (hq : f.leastPlace ≤ q) (hv : v = z * tp q) : r = v := by
  have h1 := h.le hz hq (by grind)
  have h2 := h.ge hz hq (by grind)
  grind
def sg (s : Bool) : Rat := if s then -1 else 1
/-- The value of a datum. -/
def dv : Ieee.Datum → Rat
  | .number s m p => sg s * ((m : Rat) * tp p)
  | _ => 0
theorem rnd_cut (s : Bool) (m d : Nat) : 2 * (Ieee.Toward.even.cut s m d * 2 ^ d) ≤ 2 * m + 2 ^ d ∧ 2 * m ≤ 2 * (Ieee.Toward.even.cut s m d * 2 ^ d) + 2 ^ d := by
  unfold Ieee.Toward.cut
  simp only [Nat.one_shiftLeft]
  by_cases hd : d ≤ m.log2 + 2
  · rw [Nat.min_eq_left hd]
    have hp := Nat.two_pow_pos d
    have hm1 := Nat.div_add_mod m (2 ^ d)
    have hm2 := Nat.mod_lt m hp
    generalize m % 2 ^ d = rest at *
    generalize m / 2 ^ d = low at *
    generalize 2 ^ d = g at *
    rw [Nat.mul_comm] at hm1
    by_cases h1 : g < 2 * rest
    · have e : (decide (g < 2 * rest) || g == 2 * rest && low % 2 == 1) = true := by simp [h1]
      rw [e, Bool.toNat_true, Nat.add_mul]
      omega
    · by_cases h2 : g = 2 * rest ∧ low % 2 = 1
      · have e : (decide (g < 2 * rest) || g == 2 * rest && low % 2 == 1) = true := by simp [h2.1, h2.2]
        rw [e, Bool.toNat_true, Nat.add_mul]
        omega
      · have e : (decide (g < 2 * rest) || g == 2 * rest && low % 2 == 1) = false := by
          simp only [h1, decide_false, Bool.false_or, Bool.and_eq_false_iff, beq_eq_false_iff_ne]
          omega
        rw [e, Bool.toNat_false, Nat.add_zero]
        omega
  · rw [Nat.min_eq_right (by omega)]
    have h2 : m < 2 ^ (m.log2 + 1) := Nat.lt_log2_self
    have h3 : 2 ^ (m.log2 + 2) = 2 * 2 ^ (m.log2 + 1) := by rw [show m.log2 + 2 = (m.log2 + 1) + 1 by omega, Nat.pow_succ]; omega
    have h4 : 2 ^ (m.log2 + 2) ≤ 2 ^ d := Nat.pow_le_pow_right (by omega) (by omega)
    rw [Nat.div_eq_of_lt (by omega), Nat.mod_eq_of_lt (by omega)]
    have e : (decide (2 ^ (m.log2 + 2) < 2 * m) || 2 ^ (m.log2 + 2) == 2 * m && 0 % 2 == 1) = false := by
      simp; omega
    rw [e]
    simp; omega
theorem infRung_lt' (f : Ieee.Format) : f.infRung + f.binade = f.signWeight := by
  unfold Ieee.Format.infRung Ieee.Format.binade Ieee.Format.signWeight
  rw [Nat.pow_add, Nat.sub_mul, Nat.one_mul]
  have : 1 * 2 ^ f.fractionBits ≤ 2 ^ f.exponentBits * 2 ^ f.fractionBits := Nat.mul_le_mul_right _ (Nat.two_pow_pos _)
  omega
theorem binade_pos' (f : Ieee.Format) : 0 < f.binade := Nat.two_pow_pos _
theorem read_wordR (f : Ieee.Format) (s : Bool) {r : Nat} (h : r < f.signWeight) : f.read (f.word s r) = (if r < f.binade then .number s r f.leastPlace else if r < f.infRung then .number s (f.binade + r % f.binade) (f.leastPlace + (r / f.binade - 1 : Nat)) else if r = f.infRung then .infinity s else .nan s (r - f.infRung)) := by
  have hp : 0 < f.signWeight := by have := infRung_lt' f; have := binade_pos' f; omega
  have e1 : f.word s r % f.signWeight = r := by
    unfold Ieee.Format.word
    split
    · rw [Nat.add_mod_left, Nat.mod_eq_of_lt h]
    · exact Nat.mod_eq_of_lt h
  have e2 : (f.word s r / f.signWeight % 2 == 1) = s := by
    unfold Ieee.Format.word
    cases s
    · simp [Nat.div_eq_of_lt h]
    · simp [Nat.add_div_left _ hp, Nat.div_eq_of_lt h]
  unfold Ieee.Format.read
  simp only [e1, e2]
theorem dv_rung (f : Ieee.Format) (s : Bool) (e k : Nat) (h1 : e = 0 ∨ f.binade ≤ k) (h2 : k ≤ 2 * f.binade) (h3 : e * f.binade + k < f.infRung) :
    isNum (f.read (f.word s (e * f.binade + k))) = true ∧ dv (f.read (f.word s (e * f.binade + k))) = sg s * ((k : Rat) * tp (f.leastPlace + e)) := by
  have hb := binade_pos' f
  have hlt : e * f.binade + k < f.signWeight := by have := infRung_lt' f; omega
  rw [read_wordR f s hlt]
  by_cases h4 : e * f.binade + k < f.binade
  · rw [if_pos h4]
    have he : e = 0 := by
      rcases h1 with h1 | h1
      · exact h1
      · omega
    subst he
    simp [isNum, dv]
  · rw [if_neg h4, if_pos h3]
    refine ⟨rfl, ?_⟩
    by_cases h5 : k < f.binade
    · rcases h1 with h1 | h1
      · subst h1; omega
      · omega
    by_cases h6 : k < 2 * f.binade
    · have e1 : (e * f.binade + k) % f.binade = k - f.binade := by
        rw [show e * f.binade + k = (k - f.binade) + f.binade * (e + 1) by rw [Nat.mul_add, Nat.mul_comm]; omega, Nat.add_mul_mod_self_left]
        exact Nat.mod_eq_of_lt (by omega)
      have e2 : (e * f.binade + k) / f.binade = e + 1 := by
        rw [show e * f.binade + k = (k - f.binade) + f.binade * (e + 1) by rw [Nat.mul_add, Nat.mul_comm]; omega, Nat.add_mul_div_left _ _ hb, Nat.div_eq_of_lt (by omega)]
        omega
      rw [e1, e2]
      unfold dv
      rw [show f.binade + (k - f.binade) = k by omega, show e + 1 - 1 = e by omega]
    · have hk : k = 2 * f.binade := by omega
      subst hk
      have e0 : e * f.binade + 2 * f.binade = f.binade * (e + 2) := by rw [Nat.mul_add, Nat.mul_comm, Nat.mul_comm 2]
      rw [e0, Nat.mul_mod_right, Nat.mul_div_cancel_left _ hb]
      have e3 : tp (f.leastPlace + ((e + 2 - 1 : Nat) : Int)) = 2 * tp (f.leastPlace + e) := by
        rw [← tp_succ]; congr 1; omega
      simp only [dv]
      rw [e3, Nat.add_zero, Rat.natCast_mul]
      have : ((2 : Nat) : Rat) = 2 := rfl
      rw [this]
      grind
theorem abs_sg (s : Bool) (x : Rat) : (sg s * x = x ∧ s = false) ∨ (sg s * x = -x ∧ s = true) := by
  cases s
  · left; simp [sg]
  · right; refine ⟨?_, rfl⟩; simp only [sg]; grind
/-- one above the greatest place of a finite number's first digit -/
def top (f : Ieee.Format) : Int := f.leastPlace + (2 ^ f.exponentBits : Nat) - 2 + f.fractionBits
theorem nearest_at (f : Ieee.Format) (s : Bool) (m : Nat) (p : Int) (h2 : 4 ≤ 2 ^ f.exponentBits) (Q : Int) (hQ : Q < top f) (hv : (m : Rat) * tp p ≤ tp Q) :
    isNum (f.read (f.nearest s m p)) = true ∧ ∃ last, (m ≠ 0 → p + m.log2 - f.fractionBits ≤ last) ∧ RndAt f last (sg s * ((m : Rat) * tp p)) (dv (f.read (f.nearest s m p))) := by
  have hb := binade_pos' f
  by_cases hm : m = 0
  · subst hm
    unfold Ieee.Format.nearest
    rw [if_pos rfl]
    have hinf : 0 < f.infRung := by
      unfold Ieee.Format.infRung
      exact Nat.mul_pos (by omega) hb
    have := dv_rung f s 0 0 (.inl rfl) (by omega) (by omega)
    simp only [Nat.zero_mul, Nat.add_zero] at this
    refine ⟨this.1, ?_⟩
    rw [this.2]
    refine ⟨f.leastPlace, fun h => absurd rfl h, 0, Int.le_refl _, ?_, ?_, ?_, .inl rfl⟩
    · simp
    · have := tp_pos f.leastPlace; simp; grind
    · have := tp_pos f.leastPlace; simp; grind
  unfold Ieee.Format.nearest
  rw [if_neg hm]
  simp only
  obtain ⟨last, hlast⟩ : ∃ last, last = max (p + m.log2 - f.fractionBits) f.leastPlace := ⟨_, rfl⟩
  rw [← hlast]
  obtain ⟨kept, hkept⟩ : ∃ kept, kept = Ieee.Toward.even.cut s (m <<< (p - last).toNat) (last - p).toNat := ⟨_, rfl⟩
  rw [← hkept]
  have hge : f.leastPlace ≤ last := by omega
  obtain ⟨e, he⟩ : ∃ e : Nat, last = f.leastPlace + e := ⟨(last - f.leastPlace).toNat, by omega⟩
  have he' : (last - f.leastPlace).toNat = e := by omega
  rw [he']
  -- near
  have hnear : 2 * ((kept : Rat) * tp last) ≤ 2 * ((m : Rat) * tp p) + tp last ∧ 2 * ((m : Rat) * tp p) ≤ 2 * ((kept : Rat) * tp last) + tp last := by
    by_cases hlp : last ≤ p
    · have e1 : (last - p).toNat = 0 := by omega
      have e2 : kept = m * 2 ^ (p - last).toNat := by
        rw [hkept, e1, Nat.shiftLeft_eq]
        simp [Ieee.Toward.cut, Nat.mod_one]
      obtain ⟨n, hn⟩ : ∃ n : Nat, p = last + n := ⟨(p - last).toNat, by omega⟩
      have e3 : (p - last).toNat = n := by omega
      rw [e3] at e2
      rw [e2, hn, tp_add, tp_nat, Rat.natCast_mul]
      have := tp_pos last
      constructor <;> grind
    · obtain ⟨n, hn⟩ : ∃ n : Nat, last = p + n := ⟨(last - p).toNat, by omega⟩
      have e1 : (p - last).toNat = 0 := by omega
      have e3 : (last - p).toNat = n := by omega
      rw [e1, e3, Nat.shiftLeft_zero] at hkept
      have hc := rnd_cut s m n
      rw [← hkept] at hc
      rw [hn, tp_add, tp_nat]
      have c1 : ((2 * (kept * 2 ^ n) : Nat) : Rat) ≤ ((2 * m + 2 ^ n : Nat) : Rat) := by exact_mod_cast hc.1
      have c2 : ((2 * m : Nat) : Rat) ≤ ((2 * (kept * 2 ^ n) + 2 ^ n : Nat) : Rat) := by exact_mod_cast hc.2
      rw [Rat.natCast_add, Rat.natCast_mul, Rat.natCast_mul, Rat.natCast_mul] at c1 c2
      have hp0 := tp_pos p
      have e2 : ((2 : Nat) : Rat) = 2 := rfl
      rw [e2] at c1 c2
      have d1 := Rat.mul_le_mul_of_nonneg_right c1 (Rat.le_of_lt hp0)
      have d2 := Rat.mul_le_mul_of_nonneg_right c2 (Rat.le_of_lt hp0)
      constructor <;> grind
  have hlow : ((2 ^ m.log2 : Nat) : Rat) ≤ m := by exact_mod_cast Nat.log2_self_le hm
  have hup : (m : Rat) < ((2 ^ (m.log2 + 1) : Nat) : Rat) := by exact_mod_cast Nat.lt_log2_self (n := m)
  have hp0 := tp_pos p
  have hlow' : tp (p + m.log2) ≤ (m : Rat) * tp p := by
    rw [Int.add_comm, tp_add, tp_nat]; exact Rat.mul_le_mul_of_nonneg_right hlow (Rat.le_of_lt hp0)
  have hup' : (m : Rat) * tp p < tp (p + m.log2 + 1) := by
    rw [show p + (m.log2 : Int) + 1 = ((m.log2 + 1 : Nat) : Int) + p by omega, tp_add, tp_nat]; exact Rat.mul_lt_mul_of_pos_right hup hp0
  have hsub : last = f.leastPlace ∨ tp (last + f.fractionBits) ≤ (m : Rat) * tp p := by
    by_cases h : last = f.leastPlace
    · exact .inl h
    · right
      have : last + f.fractionBits = p + m.log2 := by omega
      rw [this]; exact hlow'
  have htop : (m : Rat) * tp p < tp (last + f.fractionBits + 1) := by
    have := tp_le (show p + (m.log2 : Int) + 1 ≤ last + f.fractionBits + 1 by omega)
    grind
  have hl0 := tp_pos last
  have eB : tp (last + f.fractionBits) = (f.binade : Rat) * tp last := by
    rw [Int.add_comm, tp_add, tp_nat]; rfl
  -- kept between
  have hk2 : kept ≤ 2 * f.binade := by
    have h1 := rnd_near (N := ((2 * f.binade : Nat) : Int)) (k := (kept : Int)) (v := (m : Rat) * tp p) (r := (kept : Rat) * tp last) hl0 (by rw [Rat.intCast_natCast]) (by grind) (by
      rw [Rat.intCast_natCast, Rat.natCast_mul]
      rw [tp_succ, eB] at htop
      have e2 : ((2 : Nat) : Rat) = 2 := rfl
      rw [e2]; grind)
    rw [Rat.intCast_natCast] at h1
    have h2 := mul_cancel_le hl0 h1
    exact_mod_cast h2
  have hk1 : e = 0 ∨ f.binade ≤ kept := by
    rcases hsub with h | h
    · left; omega
    · right
      have h1 := rnd_near (N := -(f.binade : Int)) (k := -(kept : Int)) (v := -((m : Rat) * tp p)) (r := -((kept : Rat) * tp last)) hl0 (by rw [Rat.intCast_neg, Rat.intCast_natCast]; grind) (by grind) (by
        rw [Rat.intCast_neg, Rat.intCast_natCast]; grind)
      rw [Rat.intCast_neg, Rat.intCast_natCast] at h1
      have h2 := mul_cancel_le (a := (f.binade : Rat)) (b := (kept : Rat)) hl0 (by grind)
      exact_mod_cast h2
  have hrnd : RndAt f last (sg s * ((m : Rat) * tp p)) (sg s * ((kept : Rat) * tp last)) := by
    rcases abs_sg s ((m : Rat) * tp p) with ⟨e1, e2⟩ | ⟨e1, e2⟩ <;> rcases abs_sg s ((kept : Rat) * tp last) with ⟨e3, e4⟩ | ⟨e3, e4⟩
    · rw [e1, e3]
      exact ⟨kept, hge, by rw [Rat.intCast_natCast], by grind, by grind, by rcases hsub with h | h; exact .inl h; exact .inr (.inl h)⟩
    · rw [e2] at e4; cases e4
    · rw [e2] at e4; cases e4
    · rw [e1, e3]
      exact ⟨-kept, hge, by rw [Rat.intCast_neg, Rat.intCast_natCast]; grind, by grind, by grind, by rcases hsub with h | h; exact .inl h; exact .inr (.inr (by grind))⟩
  -- no overflow
  have hfin : e * f.binade + kept < f.infRung := by
    have eI : f.infRung = (2 ^ f.exponentBits - 1) * f.binade := rfl
    rw [eI]
    obtain ⟨E, hE⟩ : ∃ E, 2 ^ f.exponentBits = E + 2 := ⟨2 ^ f.exponentBits - 2, by omega⟩
    have ht : top f = f.leastPlace + E + f.fractionBits := by unfold top; rw [hE]; omega
    rw [ht] at hQ
    rw [hE, show E + 2 - 1 = E + 1 by omega, Nat.add_mul, Nat.one_mul]
    have hlastQ : last = f.leastPlace ∨ last + f.fractionBits ≤ Q := by
      rcases hsub with h | h
      · exact .inl h
      · right; exact le_of_tp (by grind)
    rcases hlastQ with h | h
    · have he0 : e = 0 := by omega
      subst he0
      rw [Nat.zero_mul]
      have := Nat.mul_le_mul_right f.binade (show 2 ≤ E by omega)
      omega
    · have he1 : (e : Int) ≤ E - 1 := by omega
      have hEe : e + 1 ≤ E := by omega
      have := Nat.mul_le_mul_right f.binade hEe
      rw [Nat.add_mul, Nat.one_mul] at this
      by_cases hk : kept = 2 * f.binade
      · have h1 : (kept : Rat) * tp last ≤ tp Q := by
          have hh := (show Rnd f ((m : Rat) * tp p) ((kept : Rat) * tp last) from ⟨last, kept, hge, by rw [Rat.intCast_natCast], by grind, by grind, by rcases hsub with h | h; exact .inl h; exact .inr (.inl h)⟩)
          have := hh.le (z := 1) (q := Q) (by have := Nat.one_lt_two_pow (n := f.fractionBits + 1) (by omega); simp) (by omega) (by simpa using hv)
          simpa using this
        rw [hk, Rat.natCast_mul] at h1
        have e2 : ((2 : Nat) : Rat) = 2 := rfl
        have h6 : tp (last + f.fractionBits + 1) ≤ tp Q := by rw [tp_succ, eB]; rw [e2] at h1; grind
        have h7 := le_of_tp h6
        have hEe : e + 2 ≤ E := by omega
        have := Nat.mul_le_mul_right f.binade hEe
        rw [Nat.add_mul] at this
        omega
      · omega
  rw [Nat.min_eq_left (by omega)]
  have := dv_rung f s e kept hk1 hk2 hfin
  refine ⟨this.1, ?_⟩
  rw [this.2, ← he]
  exact ⟨last, fun _ => by omega, hrnd⟩
theorem nearest_rnd (f : Ieee.Format) (s : Bool) (m : Nat) (p : Int) (h2 : 4 ≤ 2 ^ f.exponentBits) (Q : Int) (hQ : Q < top f) (hv : (m : Rat) * tp p ≤ tp Q) :
    isNum (f.read (f.nearest s m p)) = true ∧ Rnd f (sg s * ((m : Rat) * tp p)) (dv (f.read (f.nearest s m p))) := by
  obtain ⟨h1, last, _, h⟩ := nearest_at f s m p h2 Q hQ hv
  exact ⟨h1, last, h⟩
/-! words -/
theorem Rnd.zero {f : Ieee.Format} {r : Rat} (h : Rnd f 0 r) : r = 0 := by
  have := h.eq (z := 0) (q := f.leastPlace) (by simp; exact Nat.two_pow_pos _) (Int.le_refl _) (by simp)
  exact this
theorem abs_le_of_sg {s : Bool} {x b : Rat} (h1 : sg s * x ≤ b) (h2 : -(sg s * x) ≤ b) : x ≤ b := by
  rcases abs_sg s x with ⟨e, _⟩ | ⟨e, _⟩ <;> rw [e] at h1 h2 <;> grind
/-- what a datum's word stands for, rounded -/
theorem write_rnd (f : Ieee.Format) (d : Ieee.Datum) (hd : isNum d = true) (h2 : 4 ≤ 2 ^ f.exponentBits) (Q : Int) (hQ : Q < top f) (h3 : dv d ≤ tp Q) (h4 : -dv d ≤ tp Q) : isNum (f.read (f.write d)) = true ∧ Rnd f (dv d) (dv (f.read (f.write d))) := by
  cases d with
  | number s m p =>
    refine nearest_rnd f s m p h2 Q hQ ?_
    exact abs_le_of_sg h3 h4
  | infinity => cases hd
  | nan => cases hd
theorem signed_val (s : Bool) (m n : Nat) : ((Ieee.signed s m n : Int) : Rat) = sg s * ((m : Rat) * tp n) := by
  unfold Ieee.signed
  rw [tp_nat]
  cases s
  · rw [if_neg (by decide), Rat.intCast_natCast, Nat.shiftLeft_eq, Rat.natCast_mul]; simp only [sg]; grind
  · rw [if_pos rfl, Rat.intCast_neg, Rat.intCast_natCast, Nat.shiftLeft_eq, Rat.natCast_mul]; simp only [sg]; grind
theorem sum_val {x y d : Ieee.Datum} (hx : isNum x = true) (hy : isNum y = true) (h : x.sum y = some d) : isNum d = true ∧ dv d = dv x + dv y := by
  cases x with
  | number s m i =>
    cases y with
    | number t n j =>
      simp only [Ieee.Datum.sum, Option.some.injEq] at h
      subst h
      refine ⟨rfl, ?_⟩
      obtain ⟨a, ha⟩ : ∃ a : Nat, i = min i j + a := ⟨(i - min i j).toNat, by omega⟩
      obtain ⟨b, hb⟩ : ∃ b : Nat, j = min i j + b := ⟨(j - min i j).toNat, by omega⟩
      have ea : (i - min i j).toNat = a := by omega
      have eb : (j - min i j).toNat = b := by omega
      rw [ea, eb]
      have hs := signed_val s m a
      have ht := signed_val t n b
      generalize Ieee.signed s m a = A at hs ⊢
      generalize Ieee.signed t n b = B at ht ⊢
      generalize min i j = base at *
      have e1 : dv (.number s m i) = ((A : Int) : Rat) * tp base := by
        rw [hs, ha]; simp only [dv]; rw [tp_add]; grind
      have e2 : dv (.number t n j) = ((B : Int) : Rat) * tp base := by
        rw [ht, hb]; simp only [dv]; rw [tp_add]; grind
      rw [e1, e2]
      simp only [dv]
      have e3 : sg (if A + B = 0 then s && t else decide (A + B < 0)) * (((A + B).natAbs : Nat) : Rat) = ((A + B : Int) : Rat) := by
        by_cases h0 : A + B = 0
        · rw [h0]; simp
        · rw [if_neg h0]
          by_cases h1 : A + B < 0
          · simp only [h1, decide_true, sg, if_true]
            have : ((A + B : Int) : Rat) = -((-(A + B) : Int) : Rat) := by rw [Rat.intCast_neg]; grind
            rw [this]
            have h5 : ((A + B).natAbs : Int) = -(A + B) := by omega
            rw [← h5, Rat.intCast_natCast]; grind
          · simp only [h1, decide_false, sg]
            have h5 : ((A + B).natAbs : Int) = (A + B) := by omega
            rw [← h5, Rat.intCast_natCast]; simp
      rw [← Rat.mul_assoc, e3, Rat.intCast_add]
      grind
    | infinity => cases hy
    | nan => cases hy
  | infinity => cases hx
  | nan => cases hx
theorem sg_xor (s t : Bool) : sg (s ^^ t) = sg s * sg t := by cases s <;> cases t <;> simp [sg] <;> grind
theorem product_val {x y d : Ieee.Datum} (hx : isNum x = true) (hy : isNum y = true) (h : x.product y = some d) : isNum d = true ∧ dv d = dv x * dv y := by
  cases x with
  | number s m i =>
    cases y with
    | number t n j =>
      simp only [Ieee.Datum.product, Option.some.injEq] at h
      subst h
      refine ⟨rfl, ?_⟩
      simp only [dv]
      rw [sg_xor, tp_add, Rat.natCast_mul]
      grind
    | infinity => cases hy
    | nan => cases hy
  | infinity => cases hx
  | nan => cases hx
theorem opposite_val {x : Ieee.Datum} (hx : isNum x = true) : isNum x.opposite = true ∧ dv x.opposite = -dv x := by
  cases x with
  | number s m i => refine ⟨rfl, ?_⟩; cases s <;> simp [Ieee.Datum.opposite, dv, sg] <;> grind
  | infinity => cases hx
  | nan => cases hx
/-- A number just above or just below: it is rounded as the one that tells so by its last digit. -/
theorem sticky (f : Ieee.Format) {last place : Int} {q : Nat} {st : Bool} {v r : Rat} (h : RndAt f last (((2 * q + st.toNat : Nat) : Rat) * tp place) r) (hl : place + 2 ≤ last)
    (hv : if st then ((2 * q : Nat) : Rat) * tp place < v ∧ v < ((2 * q + 2 : Nat) : Rat) * tp place else v = ((2 * q : Nat) : Rat) * tp place) : RndAt f last v r := by
  cases st with
  | false =>
    simp only [Bool.toNat_false, Nat.add_zero] at h
    simp only [Bool.false_eq_true, if_false] at hv
    rw [hv]; exact h
  | true =>
    simp only [Bool.toNat_true] at h
    simp only [if_true] at hv
    obtain ⟨k, h0, hr, h1, h2, h3⟩ := h
    obtain ⟨n, hn⟩ : ∃ n : Nat, last = place + 2 + n := ⟨(last - place - 2).toNat, by omega⟩
    have et : tp last = ((4 * 2 ^ n : Nat) : Rat) * tp place := by
      rw [hn, Int.add_assoc, Int.add_comm, tp_add, show (2 : Int) + (n : Int) = ((n + 2 : Nat) : Int) by omega, tp_nat, Nat.pow_add]
      congr 2; omega
    have hp := tp_pos place
    obtain ⟨g, hg⟩ : ∃ g : Nat, g = 2 ^ n := ⟨_, rfl⟩
    rw [← hg] at et
    -- in units of the place
    have et1 : tp last = 4 * (g : Rat) * tp place := by rw [et]; push_cast; grind
    have a1 : ((8 * (k * g) - 2 * (2 * q + 1) : Int) : Rat) ≤ ((4 * g : Int) : Rat) := by
      refine mul_cancel_le hp ?_
      rw [hr, et1] at h1
      push_cast at h1 ⊢
      grind
    have a2 : ((2 * (2 * q + 1) - 8 * (k * g) : Int) : Rat) ≤ ((4 * g : Int) : Rat) := by
      refine mul_cancel_le hp ?_
      rw [hr, et1] at h2
      push_cast at h2 ⊢
      grind
    obtain ⟨K, hK⟩ : ∃ K : Int, K = k * g := ⟨_, rfl⟩
    rw [← hK] at a1 a2
    have a1' : 8 * K - 2 * (2 * q + 1) ≤ 4 * (g : Int) := by exact_mod_cast a1
    have a2' : 2 * (2 * q + 1) - 8 * K ≤ 4 * (g : Int) := by exact_mod_cast a2
    -- 2q+1 is odd
    have b1 : 4 * K - 2 * g ≤ 2 * (q : Int) := by omega
    have b2 : (2 * q + 2 : Int) ≤ 4 * K + 2 * g := by omega
    have c1 : ((4 * K - 2 * g : Int) : Rat) ≤ ((2 * q : Int) : Rat) := by exact_mod_cast b1
    have c2 : ((2 * q + 2 : Int) : Rat) ≤ ((4 * K + 2 * g : Int) : Rat) := by exact_mod_cast b2
    have d1 := Rat.mul_le_mul_of_nonneg_right c1 (Rat.le_of_lt hp)
    have d2 := Rat.mul_le_mul_of_nonneg_right c2 (Rat.le_of_lt hp)
    have er : r = 4 * ((K : Int) : Rat) * tp place := by
      rw [hr, et1, hK]; push_cast; grind
    push_cast at d1 d2 hv
    have f1 : 2 * (r - v) ≤ tp last := by
      rw [er, et1]
      grind
    have f2 : 2 * (v - r) ≤ tp last := by
      rw [er, et1]
      grind
    refine ⟨k, h0, hr, f1, f2, ?_⟩
    rcases h3 with h3 | h3 | h3
    · exact .inl h3
    · right; left
      have e5 : tp (last + f.fractionBits) = ((2 * (2 * g * 2 ^ f.fractionBits) : Nat) : Rat) * tp place := by
        rw [Int.add_comm, tp_add, tp_nat, et1]; push_cast; grind
      rw [e5] at h3 ⊢
      generalize 2 * g * 2 ^ f.fractionBits = X at h3 ⊢
      have h4 := mul_cancel_le hp h3
      have h5 : 2 * X ≤ 2 * q + 1 := by exact_mod_cast h4
      have h6 : ((2 * X : Nat) : Rat) ≤ ((2 * q : Nat) : Rat) := by exact_mod_cast (show 2 * X ≤ 2 * q by omega)
      have := Rat.mul_le_mul_of_nonneg_right h6 (Rat.le_of_lt hp)
      push_cast at this ⊢
      grind
    · exfalso
      have h4 := tp_pos (last + f.fractionBits)
      have h5 : (0 : Rat) ≤ ((2 * q + 1 : Nat) : Rat) := by exact_mod_cast Nat.zero_le _
      have h6 := Rat.mul_nonneg h5 (Rat.le_of_lt hp)
      grind
theorem sg_ne (s : Bool) : sg s * sg s = 1 := by cases s <;> simp [sg] <;> grind
theorem dv_zero {s : Bool} {n : Nat} {j : Int} (h : dv (.number s n j) ≠ 0) : n ≠ 0 := by
  rintro rfl
  apply h
  simp [dv]
theorem div_rnd (f : Ieee.Format) {x y d : Ieee.Datum} (hx : isNum x = true) (hy : isNum y = true) (h0 : dv y ≠ 0) (h2 : 4 ≤ 2 ^ f.exponentBits) (h : x.quotient (f.fractionBits + 2) y = some d) (Q : Int) (hQ : Q < top f)
    (h3 : dv x / dv y ≤ tp Q) (h4 : -(dv x / dv y) ≤ tp Q) : isNum (f.read (f.write d)) = true ∧ Rnd f (dv x / dv y) (dv (f.read (f.write d))) := by
  cases x with
  | number s m i =>
    cases y with
    | number t n j =>
      have hn : n ≠ 0 := dv_zero h0
      simp only [Ieee.Datum.quotient, if_neg hn, Option.some.injEq] at h
      obtain ⟨more, hmore⟩ : ∃ more, more = f.fractionBits + 2 + n.log2 - m.log2 := ⟨_, rfl⟩
      rw [← hmore, Nat.shiftLeft_eq] at h
      obtain ⟨D, hD⟩ : ∃ D, D = m * 2 ^ more := ⟨_, rfl⟩
      rw [← hD] at h
      obtain ⟨q, hq⟩ : ∃ q, q = D / n := ⟨_, rfl⟩
      obtain ⟨r, hr⟩ : ∃ r, r = D % n := ⟨_, rfl⟩
      rw [← hq, ← hr] at h
      have hdm := Nat.div_add_mod D n
      rw [← hq, ← hr] at hdm
      have hrn : r < n := by rw [hr]; exact Nat.mod_lt _ (by omega)
      obtain ⟨place, hpl⟩ : ∃ place, place = i - j - more - 1 := ⟨_, rfl⟩
      rw [← hpl] at h
      have hu := tp_pos place
      have hj := tp_pos j
      have hn0 : (0 : Rat) < n := by exact_mod_cast (show 0 < n by omega)
      -- the value
      obtain ⟨V, hV⟩ : ∃ V : Rat, V = (m : Rat) * tp (i - j) / n := ⟨_, rfl⟩
      have hVm : V * n = (m : Rat) * tp (i - j) := by rw [hV]; grind
      have hVn : V * n = 2 * (D : Rat) * tp place := by
        rw [hVm, show i - j = ((more : Nat) : Int) + 1 + place by omega, tp_add, tp_succ, tp_nat, hD]
        push_cast
        grind
      have e2 : tp i = tp (i - j) * tp j := by rw [← tp_add]; congr 1; omega
      have hst := sg_ne t
      have hval : dv (.number s m i) / dv (.number t n j) = sg (s ^^ t) * V := by
        rw [sg_xor, hV]
        simp only [dv]
        rw [e2]
        have h5 : sg t ≠ 0 := by intro h; rw [h] at hst; grind
        grind
      have hV0 : 0 ≤ V := by
        rw [hV]
        have := Rat.mul_nonneg (show (0 : Rat) ≤ m by exact_mod_cast Nat.zero_le m) (Rat.le_of_lt (tp_pos (i - j)))
        refine Rat.le_of_mul_le_mul_right (c := (n : Rat)) ?_ hn0
        rw [Rat.zero_mul, ← hV, hVm]
        exact this
      rw [hval] at h3 h4 ⊢
      have hVQ := abs_le_of_sg h3 h4
      have hDq : (D : Rat) = (n : Rat) * q + r := by exact_mod_cast hdm.symm
      -- the sticky digit
      have hcase : if (r != 0) = true then ((2 * q : Nat) : Rat) * tp place < V ∧ V < ((2 * q + 2 : Nat) : Rat) * tp place else V = ((2 * q : Nat) : Rat) * tp place := by
        by_cases hr0 : r = 0
        · subst hr0
          rw [if_neg (by simp)]
          rw [hDq] at hVn
          push_cast at hVn ⊢
          have : (V - 2 * q * tp place) * n = 0 := by grind
          have := Rat.mul_eq_zero.1 this
          grind
        · rw [if_pos (by simpa using hr0)]
          have hr1 : (0 : Rat) < r := by exact_mod_cast (show 0 < r by omega)
          have hr2 : (r : Rat) < n := by exact_mod_cast hrn
          have k1 := Rat.mul_lt_mul_of_pos_right hr1 hu
          have k2 := Rat.mul_lt_mul_of_pos_right hr2 hu
          rw [hDq] at hVn
          push_cast
          constructor
          · exact Rat.lt_of_mul_lt_mul_right (c := (n : Rat)) (by grind) (Rat.le_of_lt hn0)
          · exact Rat.lt_of_mul_lt_mul_right (c := (n : Rat)) (by grind) (Rat.le_of_lt hn0)
      have hst0 : (r != 0).toNat ≤ 1 := by cases (r != 0) <;> simp
      by_cases hm : m = 0
      · have hD0 : D = 0 := by rw [hD, hm, Nat.zero_mul]
        have hq0 : q = 0 := by rw [hq, hD0, Nat.zero_div]
        have hr0 : r = 0 := by rw [hr, hD0, Nat.zero_mod]
        subst hq0
        subst hr0
        simp at h
        subst h
        have := write_rnd f (.number (s ^^ t) 0 place) rfl h2 Q hQ (by simp [dv]; exact Rat.le_of_lt (tp_pos Q)) (by simp [dv]; exact Rat.le_of_lt (tp_pos Q))
        refine ⟨this.1, ?_⟩
        have hz : V = 0 := by simpa using hcase
        rw [hz]
        have h6 := this.2
        simpa [dv] using h6
      -- enough digits
      have hqb : 2 ^ (f.fractionBits + 1) ≤ q := by
        by_cases hlt : 2 ^ (f.fractionBits + 1) ≤ q
        · exact hlt
        · exfalso
          have a1 : q + 1 ≤ 2 ^ (f.fractionBits + 1) := by omega
          have a2 : (q + 1) * n ≤ 2 ^ (f.fractionBits + 1) * n := Nat.mul_le_mul_right _ a1
          have a3 : n < 2 ^ (n.log2 + 1) := Nat.lt_log2_self
          have a4 : 2 ^ (f.fractionBits + 1) * n < 2 ^ (f.fractionBits + 1) * 2 ^ (n.log2 + 1) := Nat.mul_lt_mul_of_pos_left a3 (Nat.two_pow_pos _)
          rw [← Nat.pow_add] at a4
          have a5 : 2 ^ m.log2 ≤ m := Nat.log2_self_le hm
          have a6 : 2 ^ m.log2 * 2 ^ more ≤ D := by rw [hD]; exact Nat.mul_le_mul_right _ a5
          rw [← Nat.pow_add] at a6
          have a7 : 2 ^ (f.fractionBits + 1 + (n.log2 + 1)) ≤ 2 ^ (m.log2 + more) := Nat.pow_le_pow_right (by omega) (by omega)
          rw [Nat.add_mul, Nat.one_mul, Nat.mul_comm] at a2
          omega
      have hnum : 2 * q + (r != 0).toNat ≠ 0 := by have := Nat.two_pow_pos (f.fractionBits + 1); omega
      have hlog : f.fractionBits + 2 ≤ (2 * q + (r != 0).toNat).log2 := by
        rw [Nat.le_log2 hnum, Nat.pow_succ]
        omega
      subst h
      -- bound of the told number
      have hQ2 : ((2 * q + (r != 0).toNat : Nat) : Rat) * tp place ≤ tp Q := by
        by_cases hr0 : (r != 0) = true
        · rw [if_pos hr0] at hcase
          have hpq : place < Q := by
            refine lt_of_tp ?_
            have : (1 : Rat) ≤ ((2 * q : Nat) : Rat) := by exact_mod_cast (show 1 ≤ 2 * q by have := Nat.two_pow_pos (f.fractionBits + 1); omega)
            have := Rat.mul_le_mul_of_nonneg_right this (Rat.le_of_lt hu)
            grind
          obtain ⟨e, he⟩ : ∃ e : Nat, Q = e + place := ⟨(Q - place).toNat, by omega⟩
          have e5 : tp Q = ((2 ^ e : Nat) : Rat) * tp place := by rw [he, tp_add, tp_nat]
          rw [e5] at hVQ ⊢
          have h7 : ((2 * q : Nat) : Rat) * tp place < ((2 ^ e : Nat) : Rat) * tp place := by grind
          have h8 := Rat.lt_of_mul_lt_mul_right h7 (Rat.le_of_lt hu)
          have h9 : 2 * q < 2 ^ e := by exact_mod_cast h8
          rw [hr0, Bool.toNat_true]
          exact Rat.mul_le_mul_of_nonneg_right (by exact_mod_cast (show 2 * q + 1 ≤ 2 ^ e by omega)) (Rat.le_of_lt hu)
        · rw [if_neg hr0] at hcase
          have hr1 : (r != 0) = false := by simpa using hr0
          rw [hr1, Bool.toNat_false, Nat.add_zero, ← hcase]
          exact hVQ
      obtain ⟨g1, last, g2, g3⟩ := nearest_at f (s ^^ t) (2 * q + (r != 0).toNat) place h2 Q hQ hQ2
      refine ⟨g1, last, ?_⟩
      have g2' := g2 hnum
      have hpl2 : place + 2 ≤ last := by omega
      show RndAt f last (sg (s ^^ t) * V) (dv (f.read (f.nearest (s ^^ t) (2 * q + (r != 0).toNat) place)))
      rcases hs : (s ^^ t)
      · rw [hs] at g3
        have e1 : ∀ z : Rat, sg false * z = z := fun z => by simp [sg]
        rw [e1] at g3 ⊢
        exact sticky f g3 hpl2 hcase
      · rw [hs] at g3
        have e1 : ∀ z : Rat, sg true * z = -z := fun z => by simp only [sg]; grind
        rw [e1] at g3 ⊢
        have g4 := g3.neg
        rw [Rat.neg_neg] at g4
        have g5 := (sticky f g4 hpl2 hcase).neg
        rwa [Rat.neg_neg] at g5
    | infinity => cases hy
    | nan => cases hy
  | infinity => cases hx
  | nan => cases hx
end Go.Proofs.Ytphamdlnnfionaa
set_option linter.unusedSimpArgs false
set_option linter.unusedVariables false
set_option linter.unusedSectionVars false
namespace Go.Proofs.Ytphamdlnnfionaa
open Go Go.RowKit
/-- A finite word. -/
def fnt (k : FloatKind) (x : Nat) : Bool := isNum (k.format.read x)
/-- Its value. -/
def fv (k : FloatKind) (x : Nat) : Rat := dv (k.format.read x)
theorem fmt_exp (k : FloatKind) : 4 ≤ 2 ^ k.format.exponentBits := by cases k <;> decide
def topK : FloatKind → Int
  | .f32 => 128
  | .f64 => 1024
def lowK : FloatKind → Int
  | .f32 => -149
  | .f64 => -1074
def digK : FloatKind → Nat
  | .f32 => 23
  | .f64 => 52
theorem top_eq (k : FloatKind) : top k.format = topK k := by cases k <;> decide
theorem low_eq (k : FloatKind) : k.format.leastPlace = lowK k := by cases k <;> decide
theorem dig_eq (k : FloatKind) : k.format.fractionBits = digK k := by cases k <;> rfl
/-- The exact operation. -/
def ex (op : BinOp) (a b : Rat) : Rat := match op with | .add => a + b | .sub => a - b | .mul => a * b | .quo => a / b | _ => 0
theorem fop_rnd (op : BinOp) (hop : arithOp op = true) (k : FloatKind) {x y : Nat} (hx : fnt k x = true) (hy : fnt k y = true) (h0 : op = .quo → fv k y ≠ 0) (Q : Int) (hQ : Q < topK k) (h1 : ex op (fv k x) (fv k y) ≤ tp Q) (h2 : -ex op (fv k x) (fv k y) ≤ tp Q) :
    fnt k (fop op k x y) = true ∧ Rnd k.format (ex op (fv k x) (fv k y)) (fv k (fop op k x y)) := by
  have hQ' : Q < top k.format := by rw [top_eq]; exact hQ
  have he := fmt_exp k
  unfold fnt at hx hy
  unfold fv at h0 h1 h2 ⊢
  unfold fnt fop
  cases op <;> simp [arithOp] at hop
  · -- add
    have h : ∃ d, (k.format.read x).sum (k.format.read y) = some d := by
      cases h3 : k.format.read x <;> rw [h3] at hx <;> first | cases hx | skip
      cases h4 : k.format.read y <;> rw [h4] at hy <;> first | cases hy | skip
      exact ⟨_, rfl⟩
    obtain ⟨d, hd⟩ := h
    have hb : floatBits .add k x y = some (k.format.write d) := by simp [floatBits, Ieee.Format.add, hd]
    rw [hb, Option.getD_some]
    obtain ⟨g1, g2⟩ := sum_val hx hy hd
    have e : ex .add (dv (k.format.read x)) (dv (k.format.read y)) = dv d := g2.symm
    rw [e] at h1 h2 ⊢
    exact write_rnd k.format d g1 he Q hQ' h1 h2
  · -- sub
    have hy' := opposite_val hy
    have h : ∃ d, (k.format.read x).sum (k.format.read y).opposite = some d := by
      cases h3 : k.format.read x <;> rw [h3] at hx <;> first | cases hx | skip
      cases h4 : k.format.read y <;> rw [h4] at hy <;> first | cases hy | skip
      exact ⟨_, rfl⟩
    obtain ⟨d, hd⟩ := h
    have hb : floatBits .sub k x y = some (k.format.write d) := by simp [floatBits, Ieee.Format.sub, hd]
    rw [hb, Option.getD_some]
    obtain ⟨g1, g2⟩ := sum_val hx hy'.1 hd
    have e : ex .sub (dv (k.format.read x)) (dv (k.format.read y)) = dv d := by rw [g2, hy'.2, ex, Rat.sub_eq_add_neg]
    rw [e] at h1 h2 ⊢
    exact write_rnd k.format d g1 he Q hQ' h1 h2
  · -- mul
    have h : ∃ d, (k.format.read x).product (k.format.read y) = some d := by
      cases h3 : k.format.read x <;> rw [h3] at hx <;> first | cases hx | skip
      cases h4 : k.format.read y <;> rw [h4] at hy <;> first | cases hy | skip
      exact ⟨_, rfl⟩
    obtain ⟨d, hd⟩ := h
    have hb : floatBits .mul k x y = some (k.format.write d) := by simp [floatBits, Ieee.Format.mul, hd]
    rw [hb, Option.getD_some]
    obtain ⟨g1, g2⟩ := product_val hx hy hd
    have e : ex .mul (dv (k.format.read x)) (dv (k.format.read y)) = dv d := g2.symm
    rw [e] at h1 h2 ⊢
    exact write_rnd k.format d g1 he Q hQ' h1 h2
  · -- quo
    have hn0 := h0 rfl
    have h : ∃ d, (k.format.read x).quotient (k.format.fractionBits + 2) (k.format.read y) = some d := by
      cases h3 : k.format.read x <;> rw [h3] at hx <;> first | cases hx | skip
      cases h4 : k.format.read y <;> rw [h4] at hy <;> first | cases hy | skip
      rw [h4] at hn0
      have hnz := dv_zero hn0
      exact ⟨_, by simp only [Ieee.Datum.quotient, if_neg hnz]; rfl⟩
    obtain ⟨d, hd⟩ := h
    have hb : floatBits .quo k x y = some (k.format.write d) := by simp [floatBits, Ieee.Format.div, hd]
    rw [hb, Option.getD_some]
    exact div_rnd k.format hx hy hn0 he hd Q hQ' h1 h2
/-- A number that a format has. -/
def Rep (k : FloatKind) (c : Rat) : Prop := (∃ z q : Int, z.natAbs < 2 ^ (digK k + 1) ∧ lowK k ≤ q ∧ c = z * tp q) ∧ c ≤ tp (topK k - 1) ∧ -c ≤ tp (topK k - 1)
theorem Rnd.rep_le {k : FloatKind} {v r c : Rat} (h : Rnd k.format v r) (hc : Rep k c) (hv : v ≤ c) : r ≤ c := by
  obtain ⟨⟨z, q, h1, h2, rfl⟩, _⟩ := hc
  exact h.le (by rw [dig_eq]; exact h1) (by rw [low_eq]; exact h2) hv
theorem Rnd.rep_ge {k : FloatKind} {v r c : Rat} (h : Rnd k.format v r) (hc : Rep k c) (hv : c ≤ v) : c ≤ r := by
  obtain ⟨⟨z, q, h1, h2, rfl⟩, _⟩ := hc
  exact h.ge (by rw [dig_eq]; exact h1) (by rw [low_eq]; exact h2) hv
theorem Rep.neg {k : FloatKind} {c : Rat} (h : Rep k c) : Rep k (-c) := by
  obtain ⟨⟨z, q, h1, h2, rfl⟩, h3, h4⟩ := h
  exact ⟨⟨-z, q, by omega, h2, by rw [Rat.intCast_neg]; grind⟩, h4, by rw [Rat.neg_neg]; exact h3⟩
theorem Rep.int {k : FloatKind} (z : Int) (h : z.natAbs < 2 ^ (digK k + 1)) : Rep k (z : Rat) := by
  have h1 : (z : Rat) ≤ ((2 ^ (digK k + 1) : Nat) : Rat) := by
    have : z ≤ ((2 ^ (digK k + 1) : Nat) : Int) := by omega
    exact_mod_cast this
  have h2 : -(z : Rat) ≤ ((2 ^ (digK k + 1) : Nat) : Rat) := by
    have : -z ≤ ((2 ^ (digK k + 1) : Nat) : Int) := by omega
    exact_mod_cast this
  have h3 : ((2 ^ (digK k + 1) : Nat) : Rat) ≤ tp (topK k - 1) := by rw [← tp_nat]; exact tp_le (by cases k <;> decide)
  exact ⟨⟨z, 0, h, by cases k <;> decide, by rw [tp_zero, Rat.mul_one]⟩, Rat.le_trans h1 h3, Rat.le_trans h2 h3⟩
theorem Rep.nat {k : FloatKind} (n : Nat) (h : n < 2 ^ (digK k + 1)) : Rep k (n : Rat) := by
  have := Rep.int (k := k) (n : Int) (by omega)
  rwa [Rat.intCast_natCast] at this
theorem Rep.tp {k : FloatKind} (q : Int) (h1 : lowK k ≤ q) (h2 : q < topK k) : Rep k (tp q) := by
  have h3 := tp_pos q
  have h4 := tp_pos (topK k - 1)
  exact ⟨⟨1, q, by cases k <;> decide, h1, by simp⟩, tp_le (by omega), by grind⟩
theorem Rep.mul_tp {k : FloatKind} (z q : Int) (h : z.natAbs < 2 ^ (digK k + 1)) (h1 : lowK k ≤ q) (h2 : q + digK k + 1 < topK k) : Rep k (z * Go.Proofs.Ytphamdlnnfionaa.tp q) := by
  have hq := tp_pos q
  have e : ((2 ^ (digK k + 1) : Nat) : Rat) * Go.Proofs.Ytphamdlnnfionaa.tp q ≤ Go.Proofs.Ytphamdlnnfionaa.tp (topK k - 1) := by
    rw [← tp_nat, ← tp_add]; exact tp_le (by omega)
  have a1 : (z : Rat) ≤ ((2 ^ (digK k + 1) : Nat) : Rat) := by
    have : z ≤ ((2 ^ (digK k + 1) : Nat) : Int) := by omega
    exact_mod_cast this
  have a2 : -(z : Rat) ≤ ((2 ^ (digK k + 1) : Nat) : Rat) := by
    have : -z ≤ ((2 ^ (digK k + 1) : Nat) : Int) := by omega
    exact_mod_cast this
  have b1 := Rat.mul_le_mul_of_nonneg_right a1 (Rat.le_of_lt hq)
  have b2 := Rat.mul_le_mul_of_nonneg_right a2 (Rat.le_of_lt hq)
  exact ⟨⟨z, q, h, h1, rfl⟩, by grind, by grind⟩
/-- Between two numbers. -/
def Btw (k : FloatKind) (x : Nat) (a b : Rat) : Prop := fnt k x = true ∧ a ≤ fv k x ∧ fv k x ≤ b
theorem fop_btw (op : BinOp) (hop : arithOp op = true) (k : FloatKind) {x y : Nat} {a b : Rat} (hx : fnt k x = true) (hy : fnt k y = true) (h0 : op = .quo → fv k y ≠ 0) (ha : Rep k a) (hb : Rep k b) (h1 : a ≤ ex op (fv k x) (fv k y)) (h2 : ex op (fv k x) (fv k y) ≤ b) : Btw k (fop op k x y) a b := by
  have h3 := ha.2.2
  have h4 := hb.2.1
  obtain ⟨g1, g2⟩ := fop_rnd op hop k hx hy h0 (topK k - 1) (by omega) (by grind) (by grind)
  exact ⟨g1, g2.rep_ge ha h1, g2.rep_le hb h2⟩
/-- At most so great. -/
def Bnd (k : FloatKind) (x : Nat) (b : Rat) : Prop := fnt k x = true ∧ -b ≤ fv k x ∧ fv k x ≤ b
theorem Bnd.btw {k : FloatKind} {x : Nat} {b : Rat} (h : Btw k x (-b) b) : Bnd k x b := h
theorem Bnd.mono {k : FloatKind} {x : Nat} {b c : Rat} (h : Bnd k x b) (hc : b ≤ c) : Bnd k x c := ⟨h.1, by have := h.2.1; grind, by have := h.2.2; grind⟩
theorem Bnd.nonneg {k : FloatKind} {x : Nat} {b : Rat} (h : Bnd k x b) : 0 ≤ b := by have := h.2.1; have := h.2.2; grind
theorem mul_bd {a b x y : Rat} (h1 : -a ≤ x) (h2 : x ≤ a) (h3 : -b ≤ y) (h4 : y ≤ b) : -(a * b) ≤ x * y ∧ x * y ≤ a * b := by
  have p1 := Rat.mul_nonneg (show 0 ≤ a - x by grind) (show 0 ≤ b - y by grind)
  have p2 := Rat.mul_nonneg (show 0 ≤ a + x by grind) (show 0 ≤ b + y by grind)
  have p3 := Rat.mul_nonneg (show 0 ≤ a - x by grind) (show 0 ≤ b + y by grind)
  have p4 := Rat.mul_nonneg (show 0 ≤ a + x by grind) (show 0 ≤ b - y by grind)
  constructor <;> grind
theorem Bnd.mul {k : FloatKind} {x y : Nat} {a b c : Rat} (hx : Bnd k x a) (hy : Bnd k y b) (hc : Rep k c) (h : a * b ≤ c) : Bnd k (fop .mul k x y) c := by
  have := mul_bd hx.2.1 hx.2.2 hy.2.1 hy.2.2
  exact Bnd.btw (fop_btw .mul rfl k hx.1 hy.1 (by simp) hc.neg hc (by simp only [ex]; grind) (by simp only [ex]; grind))
theorem Bnd.add {k : FloatKind} {x y : Nat} {a b c : Rat} (hx : Bnd k x a) (hy : Bnd k y b) (hc : Rep k c) (h : a + b ≤ c) : Bnd k (fop .add k x y) c := by
  have h1 := hx.2; have h2 := hy.2
  exact Bnd.btw (fop_btw .add rfl k hx.1 hy.1 (by simp) hc.neg hc (by simp only [ex]; grind) (by simp only [ex]; grind))
theorem Bnd.sub {k : FloatKind} {x y : Nat} {a b c : Rat} (hx : Bnd k x a) (hy : Bnd k y b) (hc : Rep k c) (h : a + b ≤ c) : Bnd k (fop .sub k x y) c := by
  have h1 := hx.2; have h2 := hy.2
  exact Bnd.btw (fop_btw .sub rfl k hx.1 hy.1 (by simp) hc.neg hc (by simp only [ex]; grind) (by simp only [ex]; grind))
/-- By a number that is at least d. -/
theorem Bnd.div {k : FloatKind} {x y : Nat} {a c d : Rat} (hx : Bnd k x a) (hy : fnt k y = true) (hd : 0 < d) (hyd : d ≤ fv k y) (hc : Rep k c) (h : a ≤ c * d) : Bnd k (fop .quo k x y) c := by
  have h1 := hx.2
  have hy0 : 0 < fv k y := by grind
  have hne : fv k y ≠ 0 := by grind
  have e : fv k x / fv k y * fv k y = fv k x := by grind
  have hc0 : 0 ≤ c := by
    have := hx.nonneg
    by_cases h0 : 0 ≤ c
    · exact h0
    · have := Rat.mul_pos (show 0 < -c by grind) hd
      grind
  have h2 := Rat.mul_le_mul_of_nonneg_left hyd hc0
  exact Bnd.btw (fop_btw .quo rfl k hx.1 hy (fun _ => hne) hc.neg hc
    (by simp only [ex]; exact Rat.le_of_mul_le_mul_right (c := fv k y) (by grind) hy0)
    (by simp only [ex]; exact Rat.le_of_mul_le_mul_right (c := fv k y) (by grind) hy0))
/-! ### Order -/
theorem ordv (k : FloatKind) {x y : Nat} (hx : fnt k x = true) (hy : fnt k y = true) : (k.format.order x y = some .lt ∧ fv k x < fv k y) ∨ (k.format.order x y = some .eq ∧ fv k x = fv k y) ∨ (k.format.order x y = some .gt ∧ fv k y < fv k x) := by
  unfold fnt at hx hy
  unfold fv Ieee.Format.order
  cases h3 : k.format.read x with
  | number s m i =>
    cases h4 : k.format.read y with
    | number t n j =>
      simp only [Ieee.Datum.order]
      obtain ⟨a, ha⟩ : ∃ a : Nat, i = min i j + a := ⟨(i - min i j).toNat, by omega⟩
      obtain ⟨b, hb⟩ : ∃ b : Nat, j = min i j + b := ⟨(j - min i j).toNat, by omega⟩
      have ea : (i - min i j).toNat = a := by omega
      have eb : (j - min i j).toNat = b := by omega
      rw [ea, eb]
      have hs := signed_val s m a
      have ht := signed_val t n b
      generalize Ieee.signed s m a = A at hs ⊢
      generalize Ieee.signed t n b = B at ht ⊢
      generalize min i j = base at *
      have hp := tp_pos base
      have e1 : dv (.number s m i) = ((A : Int) : Rat) * tp base := by
        rw [hs, ha]; simp only [dv]; rw [tp_add]; grind
      have e2 : dv (.number t n j) = ((B : Int) : Rat) * tp base := by
        rw [ht, hb]; simp only [dv]; rw [tp_add]; grind
      rw [e1, e2]
      rcases Int.lt_trichotomy A B with h | h | h
      · left
        refine ⟨by rw [Int.compare_eq_lt.2 h], ?_⟩
        exact Rat.mul_lt_mul_of_pos_right (by exact_mod_cast h) hp
      · right; left
        subst h
        exact ⟨by rw [Int.compare_eq_eq.2 rfl], rfl⟩
      · right; right
        refine ⟨by rw [Int.compare_eq_gt.2 h], ?_⟩
        exact Rat.mul_lt_mul_of_pos_right (by exact_mod_cast h) hp
    | infinity => rw [h4] at hy; cases hy
    | nan => rw [h4] at hy; cases hy
  | infinity => rw [h3] at hx; cases hx
  | nan => rw [h3] at hx; cases hx
theorem fltv {k : FloatKind} {x y : Nat} (hx : fnt k x = true) (hy : fnt k y = true) : flt k x y = decide (fv k x < fv k y) := by
  unfold flt
  rcases ordv k hx hy with ⟨h, h'⟩ | ⟨h, h'⟩ | ⟨h, h'⟩ <;> rw [h]
  · simp [h']
  · rw [h']; simp [Rat.lt_irrefl]
  · have : ¬ fv k x < fv k y := by grind
    simp [this]
theorem flev {k : FloatKind} {x y : Nat} (hx : fnt k x = true) (hy : fnt k y = true) : fle k x y = decide (fv k x ≤ fv k y) := by
  unfold fle
  rcases ordv k hx hy with ⟨h, h'⟩ | ⟨h, h'⟩ | ⟨h, h'⟩ <;> rw [h]
  · have : fv k x ≤ fv k y := by grind
    simp [this]
  · rw [h']; simp [Rat.le_refl]
  · have : ¬ fv k x ≤ fv k y := by grind
    simp [this]
theorem fgtv {k : FloatKind} {x y : Nat} (hx : fnt k x = true) (hy : fnt k y = true) : fgt k x y = decide (fv k y < fv k x) := by
  unfold fgt
  rcases ordv k hx hy with ⟨h, h'⟩ | ⟨h, h'⟩ | ⟨h, h'⟩ <;> rw [h]
  · have : ¬ fv k y < fv k x := by grind
    simp [this]
  · rw [h']; simp [Rat.lt_irrefl]
  · simp [h']
theorem fgev {k : FloatKind} {x y : Nat} (hx : fnt k x = true) (hy : fnt k y = true) : fge k x y = decide (fv k y ≤ fv k x) := by
  unfold fge
  rcases ordv k hx hy with ⟨h, h'⟩ | ⟨h, h'⟩ | ⟨h, h'⟩ <;> rw [h]
  · have : ¬ fv k y ≤ fv k x := by grind
    simp [this]
  · rw [h']; simp [Rat.le_refl]
  · have : fv k y ≤ fv k x := by grind
    simp [this]
theorem feqv {k : FloatKind} {x y : Nat} (hx : fnt k x = true) (hy : fnt k y = true) : feq k x y = decide (fv k x = fv k y) := by
  unfold feq
  rcases ordv k hx hy with ⟨h, h'⟩ | ⟨h, h'⟩ | ⟨h, h'⟩ <;> rw [h]
  · have : ¬ fv k x = fv k y := by grind
    simp [this]
  · simp [h']
  · have : ¬ fv k x = fv k y := by grind
    simp [this]
theorem fnt_not_nan {k : FloatKind} {x : Nat} (h : fnt k x = true) : isN k x = false := by
  unfold fnt at h
  unfold isN FloatKind.decode
  cases h3 : k.format.read x <;> rw [h3] at h <;> first | rfl | cases h
theorem fnt_cn {k : FloatKind} {x : Nat} (h : fnt k x = true) : cn k x = x := cn_of_not (fnt_not_nan h)
/-! ### The opposite, conversions -/
theorem read_neg (k : FloatKind) (b : Nat) : k.format.read (Op.negFloat k b) = (k.format.read b).opposite := by
  have key : ∀ (f : Ieee.Format), f.read (b ^^^ 2 ^ (f.exponentBits + f.fractionBits)) = (f.read b).opposite := by
    intro f
    have e : (b ^^^ 2 ^ (f.exponentBits + f.fractionBits)) % f.signWeight = b % f.signWeight := by
      unfold Ieee.Format.signWeight
      rw [Nat.xor_mod_two_pow, Nat.mod_self, Nat.xor_zero]
    have e2 : ((b ^^^ 2 ^ (f.exponentBits + f.fractionBits)) / f.signWeight % 2 == 1) = !(b / f.signWeight % 2 == 1) := by
      unfold Ieee.Format.signWeight
      rw [← Nat.shiftRight_eq_div_pow, ← Nat.shiftRight_eq_div_pow, Nat.shiftRight_xor_distrib, Nat.shiftRight_eq_div_pow (2 ^ _), Nat.div_self (Nat.two_pow_pos _)]
      generalize b >>> (f.exponentBits + f.fractionBits) = c
      rcases Nat.mod_two_eq_zero_or_one c with h | h
      · have : (c ^^^ 1) % 2 = 1 := by rw [show (2 : Nat) = 2 ^ 1 from rfl, Nat.xor_mod_two_pow]; rw [show (2 : Nat) ^ 1 = 2 from rfl, h]; rfl
        rw [h, this]; rfl
      · have : (c ^^^ 1) % 2 = 0 := by rw [show (2 : Nat) = 2 ^ 1 from rfl, Nat.xor_mod_two_pow]; rw [show (2 : Nat) ^ 1 = 2 from rfl, h]; rfl
        rw [h, this]; rfl
    unfold Ieee.Format.read
    simp only [e, e2]
    split
    · rfl
    · split
      · rfl
      · split <;> rfl
  cases k <;> exact key _
theorem fneg_val {k : FloatKind} {x : Nat} (h : fnt k x = true) : fnt k (fneg k x) = true ∧ fv k (fneg k x) = -fv k x := by
  have hn := fnt_not_nan h
  unfold fneg fnt fv
  rw [if_neg (by rw [hn]; decide), read_neg]
  exact opposite_val h
theorem Bnd.neg {k : FloatKind} {x : Nat} {b : Rat} (h : Bnd k x b) : Bnd k (fneg k x) b := by
  obtain ⟨h1, h2⟩ := fneg_val h.1
  have h3 := h.2
  exact ⟨h1, by grind, by grind⟩
theorem read_bd (f : Ieee.Format) {x : Nat} {s : Bool} {m : Nat} {p : Int} (h : f.read x = .number s m p) : m < 2 ^ (f.fractionBits + 1) ∧ f.leastPlace ≤ p ∧ p ≤ f.leastPlace + (2 ^ f.exponentBits : Nat) := by
  have hb : 0 < f.binade := binade_pos' f
  have e2 : 2 ^ (f.fractionBits + 1) = 2 * f.binade := by unfold Ieee.Format.binade; rw [Nat.pow_succ]; omega
  have hE : f.infRung / f.binade = 2 ^ f.exponentBits - 1 := by unfold Ieee.Format.infRung; exact Nat.mul_div_cancel _ hb
  have hE0 : (0 : Int) < ((2 ^ f.exponentBits : Nat) : Int) := by exact_mod_cast Nat.two_pow_pos f.exponentBits
  unfold Ieee.Format.read at h
  simp only at h
  split at h
  · injection h with h1 h2 h3
    omega
  · split at h
    · rename_i h4 h5
      injection h with h1 h2 h3
      have := Nat.mod_lt (x % f.signWeight) hb
      have h6 : x % f.signWeight / f.binade ≤ f.infRung / f.binade := Nat.div_le_div_right (Nat.le_of_lt h5)
      rw [hE] at h6
      generalize 2 ^ f.exponentBits = E at *
      generalize x % f.signWeight / f.binade = y at *
      omega
    · split at h <;> exact absurd h (by simp)
theorem wide_val {x : Nat} (h : fnt .f32 x = true) : fnt .f64 (wide x) = true ∧ fv .f64 (wide x) = fv .f32 x := by
  have hn := fnt_not_nan h
  unfold wide
  rw [if_neg (by rw [hn]; decide)]
  unfold fnt at h
  cases h3 : FloatKind.f32.format.read x with
  | number s m p =>
    obtain ⟨b1, b2, b3⟩ := read_bd _ h3
    have e1 : FloatKind.f32.format.fractionBits = 23 := rfl
    have e2 : FloatKind.f32.format.leastPlace = -149 := by decide
    have e3 : FloatKind.f32.format.exponentBits = 8 := rfl
    rw [e1] at b1
    rw [e2] at b2 b3
    rw [e3] at b3
    have ed : FloatKind.f32.decode x = .number s m p := h3
    have hm0 : (0 : Rat) ≤ m := by exact_mod_cast Nat.zero_le m
    have hm1 : (m : Rat) ≤ ((2 ^ 24 : Nat) : Rat) := by exact_mod_cast Nat.le_of_lt b1
    have hp := tp_pos p
    have hup : (m : Rat) * tp p ≤ tp 1023 := by
      have a1 := Rat.mul_le_mul_of_nonneg_right hm1 (Rat.le_of_lt hp)
      have a2 : ((2 ^ 24 : Nat) : Rat) * tp p ≤ tp 1023 := by rw [← tp_nat, ← tp_add]; exact tp_le (by omega)
      exact Rat.le_trans a1 a2
    have hlo := Rat.mul_nonneg hm0 (Rat.le_of_lt hp)
    have hpp := tp_pos 1023
    have hsg : dv (.number s m p) ≤ tp 1023 ∧ -dv (.number s m p) ≤ tp 1023 := by
      simp only [dv]
      rcases abs_sg s ((m : Rat) * tp p) with ⟨e, _⟩ | ⟨e, _⟩ <;> rw [e] <;> constructor <;> grind
    have key := write_rnd FloatKind.f64.format (.number s m p) rfl (fmt_exp .f64) 1023 (by rw [top_eq]; decide) hsg.1 hsg.2
    have e4 : fv .f32 x = dv (.number s m p) := by unfold fv; rw [h3]
    rw [e4, ed]
    refine ⟨key.1, ?_⟩
    have e5 : dv (.number s m p) = ((if s then -(m : Int) else m : Int) : Rat) * tp p := by
      cases s
      · rw [if_neg (by decide), Rat.intCast_natCast]; simp [dv, sg]
      · rw [if_pos rfl, Rat.intCast_neg, Rat.intCast_natCast]; simp only [dv, sg]; grind
    refine key.2.eq (z := if s then -(m : Int) else m) (q := p) ?_ (by rw [low_eq]; show (-1074 : Int) ≤ p; omega) e5
    rw [dig_eq]
    show _ < 2 ^ 53
    split <;> omega
  | infinity => rw [h3] at h; cases h
  | nan => rw [h3] at h; cases h
end Go.Proofs.Ytphamdlnnfionaa
set_option linter.unusedSimpArgs false
set_option linter.unusedVariables false
set_option linter.unusedSectionVars false
namespace Go.Proofs.Ytphamdlnnfionaa
open Go Go.RowKit
/-- A whole number as a word. -/
def fI (n : Int) : Nat := cn .f64 (floatOfInt .f64 n)
/-- The term of the k-th round, and the sum ahead of it. -/
def erT (x : Nat) : Nat → Nat
  | 0 => x
  | k + 1 => fop .quo .f64 (fop .mul .f64 (fop .mul .f64 (erT x k) (fneg .f64 (fop .mul .f64 x x))) (fI (2 * k + 1))) (fI ((k + 1) * (2 * k + 3)))
def erS (x : Nat) : Nat → Nat
  | 0 => cn .f64 0
  | k + 1 => fop .add .f64 (erS x k) (erT x k)
def erV (x : Nat) : Nat := if fge .f64 x (cn .f64 4616189618054758400) then cn .f64 4607182418800017408 else if fle .f64 x (cn .f64 13839561654909534208) then cn .f64 13830554455654793216 else fop .mul .f64 (cn .f64 4607760587169110893) (erS x 60)
theorem cn_erV (x : Nat) : cn .f64 (erV x) = erV x := by
  unfold erV; split
  · exact cn_cn _ _
  · split
    · exact cn_cn _ _
    · exact cn_fop _ _ _ _
/-! ### How great -/
theorem ofInt_val (k : FloatKind) (n : Int) (h : n.natAbs < 2 ^ (digK k + 1)) : fnt k (floatOfInt k n) = true ∧ fv k (floatOfInt k n) = n := by
  have e : dv (.number (decide (n < 0)) n.natAbs 0) = (n : Rat) := by
    simp only [dv, tp_zero, Rat.mul_one]
    by_cases h0 : n < 0
    · have : (n.natAbs : Int) = -n := by omega
      have h2 : ((n.natAbs : Nat) : Rat) = ((-n : Int) : Rat) := by rw [← this]; rfl
      rw [h2]; simp [h0, sg]; grind
    · have : (n.natAbs : Int) = n := by omega
      have h2 : ((n.natAbs : Nat) : Rat) = ((n : Int) : Rat) := by rw [← Rat.intCast_natCast, this]
      rw [h2]; simp [h0, sg]
  have hup : (n : Rat) ≤ tp (digK k + 1) ∧ -(n : Rat) ≤ tp (digK k + 1) := by
    have e1 : tp ((digK k : Int) + 1) = ((2 ^ (digK k + 1) : Nat) : Rat) := tp_nat (digK k + 1)
    rw [e1]
    have a1 : n ≤ ((2 ^ (digK k + 1) : Nat) : Int) := by omega
    have a2 : -n ≤ ((2 ^ (digK k + 1) : Nat) : Int) := by omega
    exact ⟨by exact_mod_cast a1, by exact_mod_cast a2⟩
  have key := write_rnd k.format (.number (decide (n < 0)) n.natAbs 0) rfl (fmt_exp k) (digK k + 1) (by rw [top_eq]; cases k <;> decide) (by rw [e]; exact hup.1) (by rw [e]; exact hup.2)
  rw [e] at key
  refine ⟨key.1, ?_⟩
  exact key.2.eq (z := n) (q := 0) (by rw [dig_eq]; exact h) (by rw [low_eq]; cases k <;> decide) (by rw [tp_zero, Rat.mul_one])
/-! ### Where the counter stands -/
/-! ### The exponential function, and how fast a front goes -/
def exP (t : Nat) : Nat → Nat
  | 0 => cn .f64 4607182418800017408
  | j + 1 => fop .add .f64 (cn .f64 4607182418800017408) (fop .quo .f64 (fop .mul .f64 t (exP t j)) (fI (12 - (j : Int))))
def exQ (p : Nat) : Nat → Nat
  | 0 => p
  | j + 1 => fop .mul .f64 (exQ p j) (exQ p j)
def exV (y : Nat) : Nat := exQ (exP (fop .quo .f64 y (cn .f64 4643211215818981376)) 12) 8
theorem cn_exP (t j : Nat) : cn .f64 (exP t j) = exP t j := by cases j; exact cn_cn _ _; exact cn_fop _ _ _ _
theorem cn_exQ {p : Nat} (h : cn .f64 p = p) (j : Nat) : cn .f64 (exQ p j) = exQ p j := by cases j; exact h; exact cn_fop _ _ _ _
theorem cn_exV (y : Nat) : cn .f64 (exV y) = exV y := cn_exQ (cn_exP _ _) _
end Go.Proofs.Ytphamdlnnfionaa
set_option linter.unusedSimpArgs false
set_option linter.unusedVariables false
set_option linter.unusedSectionVars false
namespace Go.Proofs.Ytphamdlnnfionaa
open Go Go.RowKit
/-- The word is the number q. -/
def V (k : FloatKind) (x : Nat) (q : Rat) : Prop := fnt k x = true ∧ fv k x = q
theorem V.btw {k : FloatKind} {x : Nat} {q : Rat} (h : V k x q) : Btw k x q q := ⟨h.1, by rw [h.2]; exact Rat.le_refl, by rw [h.2]; exact Rat.le_refl⟩
theorem V.op (op : BinOp) (hop : arithOp op = true) {k : FloatKind} {x y : Nat} {a b : Rat} (hx : V k x a) (hy : V k y b) (h0 : op = .quo → b ≠ 0) (hr : Rep k (ex op a b)) : V k (fop op k x y) (ex op a b) := by
  have h := fop_btw op hop k hx.1 hy.1 (by rw [hy.2]; exact h0) hr hr (by rw [hx.2, hy.2]; exact Rat.le_refl) (by rw [hx.2, hy.2]; exact Rat.le_refl)
  exact ⟨h.1, Rat.le_antisymm h.2.2 h.2.1⟩
theorem V.eq {k : FloatKind} {x : Nat} {a b : Rat} (h : V k x a) (e : a = b) : V k x b := e ▸ h
theorem V.int (k : FloatKind) (n : Int) (h : n.natAbs < 2 ^ (digK k + 1)) : V k (floatOfInt k n) n := ofInt_val k n h
theorem V.cn {k : FloatKind} {x : Nat} {q : Rat} (h : V k x q) : V k (Go.Proofs.Ytphamdlnnfionaa.cn k x) q := by rw [fnt_cn h.1]; exact h
theorem tp_n1 : tp (-1) * 2 = 1 := by have := tp_add (-1) 1; rw [tp_one] at this; rw [← this]; exact tp_zero
theorem tp_n2 : tp (-2) * 4 = 1 := by
  have h := tp_n1
  have e : tp (-2) = tp (-1) * tp (-1) := by rw [← tp_add]; rfl
  rw [e]; grind
/-- A whole number of units of a power of two. -/
theorem rep_at {k : FloatKind} (z q : Int) (h : z.natAbs < 2 ^ (digK k + 1)) (h1 : lowK k ≤ q) (h2 : q + digK k + 1 < topK k) {c : Rat} (hc : c = z * tp q) : Rep k c := hc ▸ Rep.mul_tp z q h h1 h2
theorem rep_half {n : Int} (h : n.natAbs < 16777216) : Rep .f32 ((n : Rat) / 2) := rep_at (k := .f32) n (-1) h (by decide) (by decide) (by have := tp_n1; grind)
theorem rep_quarter {n : Int} (h : n.natAbs < 16777216) : Rep .f32 ((n : Rat) / 4) := rep_at (k := .f32) n (-2) h (by decide) (by decide) (by have := tp_n2; grind)
theorem c2 : Go.Proofs.Ytphamdlnnfionaa.cn .f32 1073741824 = floatOfInt .f32 2 := by decide +kernel
theorem c4 : Go.Proofs.Ytphamdlnnfionaa.cn .f32 1082130432 = floatOfInt .f32 4 := by decide +kernel
theorem c0 : Go.Proofs.Ytphamdlnnfionaa.cn .f32 0 = floatOfInt .f32 0 := by decide +kernel
theorem c1 : Go.Proofs.Ytphamdlnnfionaa.cn .f32 1065353216 = floatOfInt .f32 1 := by decide +kernel
theorem V2 : V .f32 (Go.Proofs.Ytphamdlnnfionaa.cn .f32 1073741824) 2 := by rw [c2]; exact (V.int .f32 2 (by decide)).eq rfl
theorem V4 : V .f32 (Go.Proofs.Ytphamdlnnfionaa.cn .f32 1082130432) 4 := by rw [c4]; exact (V.int .f32 4 (by decide)).eq rfl
theorem V1 : V .f32 (Go.Proofs.Ytphamdlnnfionaa.cn .f32 1065353216) 1 := by rw [c1]; exact (V.int .f32 1 (by decide)).eq rfl
theorem V0 : V .f32 (Go.Proofs.Ytphamdlnnfionaa.cn .f32 0) 0 := by rw [c0]; exact (V.int .f32 0 (by decide)).eq rfl
theorem half_val {n : Int} (h : n.natAbs < 16777216) : V .f32 (fop .quo .f32 (Go.Proofs.Ytphamdlnnfionaa.cn .f32 (floatOfInt .f32 n)) (Go.Proofs.Ytphamdlnnfionaa.cn .f32 1073741824)) ((n : Rat) / 2) :=
  V.op .quo rfl (V.int .f32 n h).cn V2 (fun _ => by decide) (rep_half h)
theorem quarter_val {n : Int} (h : n.natAbs < 16777216) : V .f32 (fop .quo .f32 (Go.Proofs.Ytphamdlnnfionaa.cn .f32 (floatOfInt .f32 n)) (Go.Proofs.Ytphamdlnnfionaa.cn .f32 1082130432)) ((n : Rat) / 4) :=
  V.op .quo rfl (V.int .f32 n h).cn V4 (fun _ => by decide) (rep_quarter h)
end Go.Proofs.Ytphamdlnnfionaa
set_option linter.unusedSimpArgs false
set_option linter.unusedVariables false
set_option linter.unusedSectionVars false
namespace Go.Proofs.Ytphamdlnnfionaa
open Go Go.RowKit
open Go.ChangeShapes Go.WideShapes Go.ChangeAt Go.RowKit Go.Joins
theorem Turn.set {B S : Nat} {a b : World} (h : Turn B S a b) {ad : Addr} (hb : a.heap.size ≤ ad.block) (v : Value) : Turn B S a (b.setCell ad v) :=
  ⟨h.os, h.tape, h.output, by rw [World.size_setCell]; exact h.size, fun k hk hr => (Below.heap_setCell _ _ _ _ (by omega)).trans (h.block k hk hr)⟩
end Go.Proofs.Ytphamdlnnfionaa
set_option linter.unusedSimpArgs false
set_option linter.unusedVariables false
set_option linter.unusedSectionVars false
namespace Go.Proofs.Ytphamdlnnfionaa
open Go Go.RowKit
theorem rnd_err {f : Ieee.Format} {v r : Rat} {Q : Int} (h : Rnd f v r) (h1 : v ≤ tp Q) (h2 : -v ≤ tp Q) (hQ : f.leastPlace ≤ Q - f.fractionBits) : r - v ≤ tp (Q - f.fractionBits - 1) ∧ v - r ≤ tp (Q - f.fractionBits - 1) := by
  obtain ⟨last, k, hl, hr, e1, e2, h3⟩ := h
  have hle : tp last ≤ tp (Q - f.fractionBits) := by
    rcases h3 with h3 | h3 | h3
    · exact tp_le (by omega)
    · exact tp_le (by have := le_of_tp (Rat.le_trans h3 h1); omega)
    · exact tp_le (by have := le_of_tp (Rat.le_trans h3 h2); omega)
  have e : tp (Q - f.fractionBits) = 2 * tp (Q - f.fractionBits - 1) := by
    have := tp_succ (Q - f.fractionBits - 1)
    rw [show Q - (f.fractionBits : Int) - 1 + 1 = Q - f.fractionBits by omega] at this
    exact this
  constructor <;> grind
/-- A word near a number. -/
def Nr (x : Nat) (v e : Rat) : Prop := fnt .f32 x = true ∧ fv .f32 x - v ≤ e ∧ v - fv .f32 x ≤ e
theorem tp7 : tp 7 = 128 := (tp_nat 7).trans rfl
theorem tp_n17 : tp (-17) * 131072 = 1 := by
  have h : tp (-17) * tp 17 = 1 := by rw [← tp_add]; exact tp_zero
  rwa [show tp 17 = 131072 from (tp_nat 17).trans rfl] at h
/-- One operation on numbers that are not great. -/
theorem fop_nr (op : BinOp) (hop : arithOp op = true) {x y : Nat} (hx : fnt .f32 x = true) (hy : fnt .f32 y = true) (h0 : op = .quo → fv .f32 y ≠ 0) (h1 : ex op (fv .f32 x) (fv .f32 y) ≤ 128) (h2 : -ex op (fv .f32 x) (fv .f32 y) ≤ 128) :
    Nr (fop op .f32 x y) (ex op (fv .f32 x) (fv .f32 y)) (tp (-17)) := by
  obtain ⟨g1, g2⟩ := fop_rnd op hop .f32 hx hy h0 7 (by decide) (by rw [tp7]; exact h1) (by rw [tp7]; exact h2)
  have := rnd_err (Q := 7) g2 (by rw [tp7]; exact h1) (by rw [tp7]; exact h2) (by decide)
  exact ⟨g1, this.1, this.2⟩
theorem V.fin {x : Nat} {q : Rat} (h : V .f32 x q) : fin .f32 x = true := by rw [fin_num]; exact h.1
theorem abv_of {x : Nat} (h : fnt .f32 x = true) (h0 : 0 < fv .f32 x) : abv x = true := by
  have e : fgt .f32 x (cn .f32 0) = true := by
    rw [fgtv h V0.1, V0.2]
    exact decide_eq_true h0
  have hf : fin .f32 x = true := by rw [fin_num]; exact h
  have := abv_neg x
  rw [hf, flev h V0.1, V0.2] at this
  simp only [Bool.not_true, Bool.false_or] at this
  have h2 : decide (fv .f32 x ≤ 0) = false := decide_eq_false (by grind)
  rw [h2] at this
  simpa using this.symm
/-- What is known of a drawn stuff's canonical words. -/
structure SV (s : St) (a b c d p l : Int) : Prop where
  bd : (1 ≤ a ∧ a ≤ 8) ∧ (1 ≤ b ∧ b ≤ 8) ∧ (1 ≤ c ∧ c ≤ 8) ∧ (1 ≤ d ∧ d ≤ 8) ∧ (-4 ≤ p ∧ p ≤ 4) ∧ (1 ≤ l ∧ l ≤ 16)
  A : V .f32 s.k.a ((a : Rat) / 2)
  B : V .f32 s.k.b ((b : Rat) / 2)
  C : V .f32 s.k.c ((c : Rat) / 4)
  D : V .f32 s.k.d ((d : Rat) / 4)
  P : V .f32 s.k.p (p : Rat)
  L : V .f32 s.k.l ((l : Rat) / 2)
theorem icast_le {a b : Int} (h : a ≤ b) : (a : Rat) ≤ (b : Rat) := by exact_mod_cast h
theorem SV.ok {s : St} {a b c d p l : Int} (h : SV s a b c d p l) : s.ok = true := by
  obtain ⟨⟨h1, _⟩, ⟨h2, _⟩, ⟨h3, _⟩, ⟨h4, _⟩, _, ⟨h6, _⟩⟩ := h.bd
  have pos : ∀ {n : Int}, 1 ≤ n → (1 : Rat) ≤ (n : Rat) := fun {n} h => icast_le h
  have q1 := pos h1; have q2 := pos h2; have q3 := pos h3; have q4 := pos h4; have q6 := pos h6
  have e1 : abv (cn .f32 s.a) = true := abv_of h.A.1 (by rw [show fv .f32 (cn .f32 s.a) = _ from h.A.2]; grind)
  have e2 : abv (cn .f32 s.b) = true := abv_of h.B.1 (by rw [show fv .f32 (cn .f32 s.b) = _ from h.B.2]; grind)
  have e3 : abv (cn .f32 s.c) = true := abv_of h.C.1 (by rw [show fv .f32 (cn .f32 s.c) = _ from h.C.2]; grind)
  have e4 : abv (cn .f32 s.d) = true := abv_of h.D.1 (by rw [show fv .f32 (cn .f32 s.d) = _ from h.D.2]; grind)
  have e5 : fin .f32 (cn .f32 s.p) = true := h.P.fin
  have e6 : abv (cn .f32 s.l) = true := abv_of h.L.1 (by rw [show fv .f32 (cn .f32 s.l) = _ from h.L.2]; grind)
  unfold St.ok
  rw [e1, e2, e3, e4, e5, e6]
  rfl
section
variable {s : St} {a b c d p l k : Int} {H : Nat}
end
end Go.Proofs.Ytphamdlnnfionaa
set_option linter.unusedSimpArgs false
set_option linter.unusedVariables false
set_option linter.unusedSectionVars false
namespace Go.Proofs.Ytphamdlnnfionaa
open Go Go.RowKit
def findZ (p : Int → Bool) (xs : List Int) : Int := match xs.findIdx? p with | some i => i | none => -1
theorem findZ_at (p : Int → Bool) (xs : List Int) (k : Nat) (hk : k < xs.length) (h0 : ∀ j, j < k → p (xs.getD j 0) = false) (h1 : p (xs.getD k 0) = true) : findZ p xs = k := by
  have : xs.findIdx? p = some k := by
    rw [List.findIdx?_eq_some_iff_getElem]
    refine ⟨hk, by simpa [hk] using h1, fun j hj => ?_⟩
    have := h0 j hj
    simpa [show j < xs.length by omega] using this
  simp [findZ, this]
theorem findZ_no (p : Int → Bool) (xs : List Int) (h0 : ∀ j, j < xs.length → p (xs.getD j 0) = false) : findZ p xs = -1 := by
  have : xs.findIdx? p = none := by
    rw [List.findIdx?_eq_none_iff]
    intro x hx
    obtain ⟨j, hj, rfl⟩ := List.getElem_of_mem hx
    have := h0 j hj
    simpa [hj] using this
  simp [findZ, this]
theorem findZ_ge (p : Int → Bool) (xs : List Int) : decide (0 ≤ findZ p xs) = xs.any p := by
  unfold findZ
  cases h : xs.findIdx? p with
  | none =>
    have := List.findIdx?_eq_none_iff.1 h
    simp only [show ¬ (0 : Int) ≤ -1 by omega, decide_false]
    symm
    rw [List.any_eq_false]
    intro x hx
    simpa using this x hx
  | some i =>
    rw [List.findIdx?_eq_some_iff_getElem] at h
    obtain ⟨hi, hp, _⟩ := h
    simp only [show (0 : Int) ≤ (i : Int) by omega, decide_true]
    symm
    rw [List.any_eq_true]
    exact ⟨_, List.getElem_mem hi, hp⟩
/-- No hit, or the first one. -/
theorem findZ_cases (p : Int → Bool) (xs : List Int) : (findZ p xs = -1 ∧ ∀ j, j < xs.length → p (xs.getD j 0) = false) ∨ ∃ k : Nat, k < xs.length ∧ findZ p xs = k ∧ p (xs.getD k 0) = true ∧ ∀ j, j < k → p (xs.getD j 0) = false := by
  unfold findZ
  cases h : xs.findIdx? p with
  | none =>
    have := List.findIdx?_eq_none_iff.1 h
    refine .inl ⟨rfl, fun j hj => ?_⟩
    rw [List.getD_eq_getElem?_getD, List.getElem?_eq_getElem hj]
    exact this _ (List.getElem_mem hj)
  | some i =>
    rw [List.findIdx?_eq_some_iff_getElem] at h
    obtain ⟨hi, hp, h0⟩ := h
    refine .inr ⟨i, hi, rfl, ?_, fun j hj => ?_⟩
    · rw [List.getD_eq_getElem?_getD, List.getElem?_eq_getElem hi]; exact hp
    · have := h0 j hj
      rw [List.getD_eq_getElem?_getD, List.getElem?_eq_getElem (by omega)]
      simpa using this
theorem OI.take {B g c k : Nat} {w : World} {xs : List Int} (h : OI B w (.slice (some ⟨g, 0, none⟩) xs.length c) xs) (hk : k ≤ xs.length) : OI B w (.slice (some ⟨g, 0, none⟩) (xs.take k).length c) (xs.take k) := by
  unfold OI World.ownsRow at h ⊢
  rcases h.2 with ⟨h', _⟩ | ⟨g', cap', cur, h', hb, hg, hnc, hcm, hcs, ht⟩
  · cases h'
  · simp only [Value.slice.injEq, Option.some.injEq, Addr.mk.injEq, and_true, true_and] at h'
    obtain ⟨rfl, rfl⟩ := h'
    refine ⟨by simp, .inr ⟨g, c, cur, rfl, hb, hg, by simp; omega, hcm, hcs, ?_⟩⟩
    have e : (xs.take k).length = k := by simp; omega
    rw [e, List.map_take, ← ht, List.take_take]
    congr 1; omega
theorem OI.stored {B g c : Nat} {w : World} {xs : List Int} (h : OI B w (.slice (some ⟨g, 0, none⟩) xs.length c) xs) (j : Nat) (u : Int) : OI B (w.setCell ⟨g, j, none⟩ (.int .i64 u)) (.slice (some ⟨g, 0, none⟩) (xs.set j u).length c) (xs.set j u) ∧ w.grownBy (w.setCell ⟨g, j, none⟩ (.int .i64 u)) (some g) := by
  obtain ⟨a, b⟩ := World.ownsRow.stored h j (.int .i64 u)
  refine ⟨?_, b⟩
  unfold OI
  rw [List.length_set, List.map_set]
  exact a
theorem grown_trans {w w' w'' : World} {r : Option Nat} (h : w.grownBy w' r) (h' : w'.grownBy w'' r) : w.grownBy w'' r := ⟨h'.os.trans h.os, h'.tape.trans h.tape, h'.output.trans h.output, Nat.le_trans h.size h'.size, fun j hj hne => (h'.block j (Nat.lt_of_lt_of_le hj h.size) hne).trans (h.block j hj hne)⟩
theorem grown_draws {w w' : World} {r : Option Nat} (h : w.grownBy w' r) (n : Nat) : w.grownBy (w'.drewN n) r := ⟨h.os, h.tape, h.output, h.size, h.block⟩
theorem OI.stores {B g c : Nat} : ∀ (m i : Nat) (w : World) (xs : List Int), OI B w (.slice (some ⟨g, 0, none⟩) xs.length c) xs → ∃ ys, ys.length = xs.length ∧ ys.take i = xs.take i ∧ OI B (w.setCells g i (List.replicate m (.int .i64 0))) (.slice (some ⟨g, 0, none⟩) ys.length c) ys ∧ w.grownBy (w.setCells g i (List.replicate m (.int .i64 0))) (some g) ∧ (w.setCells g i (List.replicate m (.int .i64 0))).heap.size = w.heap.size
  | 0, i, w, xs, h => ⟨xs, rfl, rfl, h, World.grownBy.refl _ _, rfl⟩
  | m + 1, i, w, xs, h => by
    obtain ⟨a, b⟩ := h.stored i 0
    obtain ⟨ys, l, t, o, gr, sz⟩ := OI.stores m (i + 1) _ _ a
    refine ⟨ys, by simpa using l, ?_, o, grown_trans b gr, (show (World.setCells (w.setCell ⟨g, i, none⟩ (.int .i64 0)) g (i + 1) _).heap.size = _ by rw [sz, World.size_setCell])⟩
    have := congrArg (List.take i) t
    rw [List.take_take, List.take_take, Nat.min_eq_left (by omega)] at this
    rw [this, List.take_set_of_le (Nat.le_refl _)]
set_option maxHeartbeats 1000000 in
theorem IndexFuncI_any (g : Nat) (p : Int → Bool) (xs : List Int) (v : Value) (w : World) (hs : IS w v xs) (hcf : ∀ x w', (callFunc g #[.int .i64 x]).run Try.prog w' = .ok (.enter g #[.int .i64 x]) w')
    (hg : ∀ j, j < xs.length → ∀ m, Calls Try.prog g #[.int .i64 (xs.getD j 0)] (w.drewN m) (RB (w.drewN m) (p (xs.getD j 0)))) :
    Calls Try.prog 67 #[v, .func (.func g) #[] #[]] w (RI w (findZ p xs)) := by
  have HG := Lib.hid hg; clear hg
  obtain ⟨q, c, rfl, hc1, hc0, HV⟩ := IS_view hs
  have HV := Lib.hid HV
  clear hs
  go_enter Try.func67, Try.ntmps67
  go_wp2
  go_loopw [8] (fun t wr => ∃ k m : Nat, k ≤ xs.length ∧ t = .int .i64 k ∧ wr = w.drewN m ∧ Hid (∀ j, j < k → p (xs.getD j 0) = false)) (fun t _ => xs.length - (intOf t).toNat)
  case atStart => exact ⟨0, 0, Nat.zero_le _, rfl, rfl, fun j hj => by omega⟩
  case round =>
    obtain ⟨k, m, hk, rfl, rfl, hp⟩ := hrel
    by_cases hlt : k < xs.length
    · obtain ⟨b, o, rfl, hcell⟩ := HV.out k hlt
      clear HV
      generalize hx : xs.getD k 0 = x at hcell
      have Hx := Lib.hid hx; clear hx
      rcases hb : p x
      · go_wp2_with fail
        refine (Hx.out ▸ HG.out k hlt m).mono ?_
        rintro e w' ⟨rfl, n, rfl⟩
        go_wp2_with fail
        go_roundw
        case rel => exact ⟨k + 1, m + n, by omega, by go_num, by simp, fun j hj => by rcases Nat.lt_succ_iff_lt_or_eq.1 hj with h | rfl; exact hp j h; rw [Hx.out]; exact hb⟩
        case measure => simp [intOf]; omega
      · go_wp2_with fail
        refine (Hx.out ▸ HG.out k hlt m).mono ?_
        rintro e w' ⟨rfl, n, rfl⟩
        go_wp2_with fail
        go_ret
        exact ⟨by rw [findZ_at p xs k hlt hp (by rw [Hx.out]; exact hb)]; rfl, m + n, by simp⟩
    · go_wp2
      go_ret
      exact ⟨by rw [findZ_no p xs (fun j hj => hp.out j (by omega))]; rfl, m, rfl⟩
/-- What is told while numbers are struck. -/
def DelInv (p : Int → Bool) (xs L : List Int) (i j : Nat) : Prop := i < j ∧ j ≤ xs.length ∧ L.length = xs.length ∧ L.take i = (xs.take j).filter (fun x => !p x) ∧ ∀ t, j ≤ t → L.getD t 0 = xs.getD t 0
theorem take_filter (f : Int → Bool) (xs : List Int) {j : Nat} (h : j < xs.length) : (xs.take (j + 1)).filter f = (xs.take j).filter f ++ (if f (xs.getD j 0) then [xs.getD j 0] else []) := by
  rw [List.take_add_one, List.filter_append, List.getElem?_eq_getElem h, List.getD_eq_getElem?_getD, List.getElem?_eq_getElem h]
  simp only [Option.toList_some, Option.getD_some, List.filter_cons, List.filter_nil]
theorem filter_all {f : Int → Bool} {xs : List Int} {k : Nat} (hk : k ≤ xs.length) (h : ∀ j, j < k → f (xs.getD j 0) = true) : (xs.take k).filter f = xs.take k := by
  rw [List.filter_eq_self]
  intro x hx
  obtain ⟨j, hj, rfl⟩ := List.getElem_of_mem hx
  have hj' : j < k := by simp at hj; omega
  have := h j hj'
  rw [List.getD_eq_getElem?_getD, List.getElem?_eq_getElem (by omega)] at this
  simpa using this
theorem DelInv.start {p : Int → Bool} {xs : List Int} {k : Nat} (hk : k < xs.length) (h1 : p (xs.getD k 0) = true) (h0 : ∀ j, j < k → p (xs.getD j 0) = false) : DelInv p xs xs k (k + 1) := by
  refine ⟨by omega, by omega, rfl, ?_, fun t _ => rfl⟩
  rw [take_filter _ _ hk, if_neg (by rw [h1]; simp), List.append_nil, filter_all (by omega)]
  intro j hj; rw [h0 j hj]; rfl
theorem DelInv.skip {p : Int → Bool} {xs L : List Int} {i j : Nat} (h : DelInv p xs L i j) (hj : j < xs.length) (h1 : p (xs.getD j 0) = true) : DelInv p xs L i (j + 1) := by
  obtain ⟨a, b, c, d, e⟩ := h
  exact ⟨by omega, by omega, c, by rw [take_filter _ _ hj, if_neg (by rw [h1]; simp), List.append_nil]; exact d, fun t ht => e t (by omega)⟩
theorem DelInv.keep {p : Int → Bool} {xs L : List Int} {i j : Nat} (h : DelInv p xs L i j) (hj : j < xs.length) (h1 : p (xs.getD j 0) = false) : DelInv p xs (L.set i (xs.getD j 0)) (i + 1) (j + 1) := by
  obtain ⟨a, b, c, d, e⟩ := h
  refine ⟨by omega, by omega, by simpa using c, ?_, fun t ht => ?_⟩
  · rw [take_filter _ _ hj, if_pos (by rw [h1]; rfl), ← d, List.take_add_one, List.take_set_of_le (Nat.le_refl _), List.getElem?_set_self (by omega)]
    rfl
  · rw [List.getD_eq_getElem?_getD, List.getElem?_set_ne (by omega), ← List.getD_eq_getElem?_getD]
    exact e t (by omega)
theorem DelInv.done {p : Int → Bool} {xs L : List Int} {i : Nat} (h : DelInv p xs L i xs.length) : L.take i = xs.filter (fun x => !p x) := by
  obtain ⟨a, b, c, d, e⟩ := h
  rw [d, List.take_length]
set_option maxHeartbeats 2000000 in
theorem DeleteFuncI_any (g : Nat) (p : Int → Bool) (B : Nat) (xs : List Int) (u : Value) (w : World) (hs : OI B w u xs) (hcf : ∀ x w', (callFunc g #[.int .i64 x]).run Try.prog w' = .ok (.enter g #[.int .i64 x]) w')
    (hg : ∀ x w', Calls Try.prog g #[.int .i64 x] w' (RB w' (p x))) :
    Calls Try.prog 64 #[u, .func (.func g) #[] #[]] w (fun e w' => ∃ u', e = .returned u' ∧ w.grownBy w' u.ownBlock ∧ w'.heap.size = w.heap.size ∧ OI B w' u' (xs.filter fun x => !p x)) := by
  have HG := Lib.hid hg; clear hg
  have HCF := Lib.hid hcf
  have HS := Lib.hid hs
  have HI := Lib.hid (IndexFuncI_any g p xs u w hs.fs hcf (fun j _ m => HG.out _ _))
  rcases findZ_cases p xs with ⟨e0, hno⟩ | ⟨k0, hk0, e0, ht, hall⟩
  · have HF : Hid (xs.filter (fun x => !p x) = xs) := by
      have := filter_all (f := fun x => !p x) (Nat.le_refl xs.length) (fun j hj => by rw [hno j hj]; rfl)
      rw [List.take_length] at this; exact this
    obtain ⟨q, c, rfl⟩ := hs.shape
    rw [e0] at HI
    clear hs hno e0 hcf
    go_enter Try.func64, Try.ntmps64
    go_wp2_with (go_at_call 67; refine HI.out.mono ?_; rintro e w' ⟨rfl, n, rfl⟩)
    go_ret
    exact ⟨_, rfl, grown_draws (World.grownBy.refl _ _) _, rfl, by rw [HF.out]; exact HS.out.drewN n⟩
  rw [e0] at HI
  rcases hs.view with ⟨rfl, rfl⟩ | ⟨b, c, rfl, v1, v2, v3, v4, v5⟩
  · simp at hk0
  have HD := Lib.hid (DelInv.start hk0 ht hall)
  have hne1 : ((k0 : Int) == -1) = false := beq_eq_false_iff_ne.2 (by omega)
  unfold maxLen at v4
  clear hs v5 ht hall e0
  go_enter Try.func64, Try.ntmps64
  go_wp2_with (go_at_call 67; refine HI.out.mono ?_; rintro e w' ⟨rfl, n, rfl⟩)
  go_loopw [5, 6, 7] (fun s t x wr => ∃ (i j : Nat) (L : List Int), j ≤ xs.length ∧ i < j ∧ s = .int .i64 i ∧ t = .int .i64 j ∧ w.grownBy wr (some b) ∧ wr.heap.size = w.heap.size ∧ Hid (OI B wr (.slice (some ⟨b, 0, none⟩) xs.length c) L) ∧ Hid (DelInv p xs L i j)) (fun _ t _ _ => xs.length - (intOf t).toNat)
  case atStart => exact ⟨k0, k0 + 1, xs, by omega, by omega, rfl, by go_num, grown_draws (World.grownBy.refl _ _) _, rfl, HS.out.drewN _, HD.out⟩
  case round =>
    obtain ⟨i, j, L, hj, hij, rfl, rfl, hG, hZ, HO, HI2⟩ := hrel
    have hLl : L.length = xs.length := HI2.out.2.2.1
    have hv : ∀ t, t < xs.length → wr.cell? ⟨b, t, none⟩ = some (.int .i64 (L.getD t 0)) ∧ wr.frozen? ⟨b, t, none⟩ = false := by
      have HO := HO.out
      rw [← hLl] at HO ⊢
      rcases HO.view with ⟨h, _⟩ | ⟨g', c', h1, _, _, _, _, h2⟩
      · cases h
      · simp only [Value.slice.injEq, Option.some.injEq, Addr.mk.injEq, and_true] at h1
        obtain ⟨rfl, _⟩ := h1
        exact h2
    have HGr := Lib.hid hG
    have HZr := Lib.hid hZ
    have HL := Lib.hid hLl
    clear hLl hG hZ
    by_cases hlt : j < xs.length
    · obtain ⟨cj, _⟩ := hv j hlt
      obtain ⟨ci, fi⟩ := hv i (by omega)
      rw [HI2.out.2.2.2.2 j (Nat.le_refl _)] at cj
      have HX1 : Hid (p (xs.getD j 0) = true → DelInv p xs L i (j + 1)) := fun h => HI2.out.skip hlt h
      have HX2 : Hid (p (xs.getD j 0) = false → DelInv p xs (L.set i (xs.getD j 0)) (i + 1) (j + 1)) := fun h => HI2.out.keep hlt h
      have HX3 : Hid (OI B (wr.setCell ⟨b, i, none⟩ (.int .i64 (xs.getD j 0))) (.slice (some ⟨b, 0, none⟩) xs.length c) (L.set i (xs.getD j 0)) ∧ wr.grownBy (wr.setCell ⟨b, i, none⟩ (.int .i64 (xs.getD j 0))) (some b)) := by
        have HO := HO.out
        rw [← HL.out] at HO
        have := HO.stored i (xs.getD j 0)
        rw [List.length_set, HL.out] at this
        exact this
      clear hv
      generalize xs.getD j 0 = x at cj HX1 HX2 HX3
      generalize L.getD i 0 = y at ci
      have HC := Lib.hid (HG.out x wr)
      rcases hp : p x
      · rw [hp] at HC
        go_wp2_with fail
        refine HC.out.mono ?_
        rintro e w' ⟨rfl, n, rfl⟩
        go_wp2_with fail
        go_roundw
        case rel => exact ⟨i + 1, j + 1, L.set i x, by omega, by omega, by go_num, by go_num, grown_draws (grown_trans HGr.out HX3.out.2) _, by rw [← HZr.out]; simp, HX3.out.1.drewN _, HX2.out hp⟩
        case measure => simp [intOf]; omega
      · rw [hp] at HC
        go_wp2_with fail
        refine HC.out.mono ?_
        rintro e w' ⟨rfl, n, rfl⟩
        go_wp2_with fail
        go_roundw
        case rel => exact ⟨i, j + 1, L, by omega, by omega, rfl, by go_num, grown_draws HGr.out _, HZr.out, HO.out.drewN _, HX1.out hp⟩
        case measure => simp [intOf]; omega
    · obtain rfl : j = xs.length := by omega
      have hcl : ∀ ty, (Builtin.clear_ #[34] ty #[.slice (some ⟨b, i, none⟩) (xs.length - i) (c - i)]).run Try.prog wr = .ok (.tuple #[]) (wr.setCells b i (List.replicate (xs.length - i) (.int .i64 0))) :=
        fun ty => Lib.run_clear_slice wr _ _ ty _ Try.underlying34 (fun w => by go_simp) rfl rfl b i _ _ (by omega) (fun t ht => by rw [(hv (i + t) (by omega)).1]; rfl) (fun t ht => (hv (i + t) (by omega)).2)
      have HW : Hid (w.grownBy (wr.setCells b i (List.replicate (xs.length - i) (.int .i64 0))) (some b) ∧ (wr.setCells b i (List.replicate (xs.length - i) (.int .i64 0))).heap.size = w.heap.size ∧ OI B (wr.setCells b i (List.replicate (xs.length - i) (.int .i64 0))) (.slice (some ⟨b, 0, none⟩) i c) (xs.filter fun x => !p x)) := by
        have HO := HO.out
        rw [← HL.out] at HO
        obtain ⟨ys, l, t, o, gr, sz⟩ := OI.stores (B := B) (g := b) (c := c) (xs.length - i) i wr L HO
        refine ⟨grown_trans HGr.out gr, sz.trans HZr.out, ?_⟩
        have hil : i ≤ ys.length := by rw [l, HL.out]; omega
        have := o.take hil
        rw [t, HI2.out.done] at this
        have e : (xs.filter fun x => !p x).length = i := by rw [← HI2.out.done]; simp; rw [HL.out]; omega
        rw [e] at this
        exact this
      have hic : (c : Int) ≠ i := by omega
      have hic' : i < c := by omega
      clear hv HO
      go_wp2
      go_ret
      exact ⟨_, rfl, HW.out.1, HW.out.2.1, HW.out.2.2⟩
end Go.Proofs.Ytphamdlnnfionaa
set_option linter.unusedSimpArgs false
set_option linter.unusedVariables false
set_option linter.unusedSectionVars false
namespace Go.Proofs.Ytphamdlnnfionaa
open Go Go.RowKit
/-- A sum from left to right. -/
def accC (f : Nat → Nat) (xs : List Nat) : Nat := xs.foldl (fun a x => fop .add .f32 a (f (cn .f32 x))) (cn .f32 0)
theorem cn_accC (f : Nat → Nat) (xs : List Nat) : cn .f32 (accC f xs) = accC f xs := by
  rcases List.eq_nil_or_concat xs with rfl | ⟨l, x, rfl⟩
  · exact cn_cn .f32 0
  · unfold accC; simp only [List.concat_eq_append, List.foldl_append, List.foldl_cons, List.foldl_nil]; exact cn_fop _ _ _ _
end Go.Proofs.Ytphamdlnnfionaa
set_option linter.unusedSimpArgs false
set_option linter.unusedVariables false
set_option linter.unusedSectionVars false
namespace Go.Proofs.Ytphamdlnnfionaa
open Go Go.RowKit
open Go.ChangeShapes Go.WideShapes Go.ChangeAt Go.RowKit Go.Joins
theorem Pl.ok_len {P : Pl} (h : P.ok = true) : (1 ≤ P.W ∧ P.W ≤ 12) ∧ (1 ≤ P.H ∧ P.H ≤ 12) ∧ (P.a.length : Int) = P.W * P.H ∧ (P.b.length : Int) = P.W * P.H ∧ (P.c.length : Int) = P.W * P.H ∧ (P.d.length : Int) = P.W * P.H := by
  unfold Pl.ok Pl.sized Pl.n at h
  simp only [Bool.and_eq_true, decide_eq_true_eq] at h
  exact ⟨inB_iff h.1, inB_iff h.2.1, h.2.2.1.1, h.2.2.1.2.1, h.2.2.1.2.2.1, h.2.2.1.2.2.2⟩
/-- A valid plate, seen. -/
theorem Pl.view {P : Pl} {w : World} {l : Lay} (hs : P.fs w l) (h : P.ok = true) : ∃ b1 o1 c1 b2 o2 c2 b3 o3 c3 b4 o4 c4, l = ⟨some ⟨b1, o1, none⟩, c1, some ⟨b2, o2, none⟩, c2, some ⟨b3, o3, none⟩, c3, some ⟨b4, o4, none⟩, c4⟩ ∧
    ((P.a.length ≤ c1 ∧ c1 ≤ 9223372036854775807) ∧ (P.b.length ≤ c2 ∧ c2 ≤ 9223372036854775807) ∧ (P.c.length ≤ c3 ∧ c3 ≤ 9223372036854775807) ∧ (P.d.length ≤ c4 ∧ c4 ≤ 9223372036854775807)) ∧
    Hid (∀ i, i < P.a.length → w.cell? ⟨b1, o1 + i, none⟩ = some (.float .f32 (P.a.getD i 0))) ∧ Hid (∀ i, i < P.b.length → w.cell? ⟨b2, o2 + i, none⟩ = some (.float .f32 (P.b.getD i 0))) ∧
    Hid (∀ i, i < P.c.length → w.cell? ⟨b3, o3 + i, none⟩ = some (.float .f32 (P.c.getD i 0))) ∧ Hid (∀ i, i < P.d.length → w.cell? ⟨b4, o4 + i, none⟩ = some (.bool (P.d.getD i false))) := by
  obtain ⟨hW, hH, e1, e2, e3, e4⟩ := Pl.ok_len h
  have hn : 1 ≤ P.W * P.H := by
    have := Int.mul_le_mul hW.1 hH.1 (by omega) (by omega); omega
  obtain ⟨s1, s2, s3, s4⟩ := hs
  obtain ⟨q1, d1, z1, x1, y1, V1⟩ := FS_view s1
  obtain ⟨q2, d2, z2, x2, y2, V2⟩ := FS_view s2
  obtain ⟨q3, d3, z3, x3, y3, V3⟩ := FS_view s3
  obtain ⟨q4, d4, z4, x4, y4, V4⟩ := BS_view s4
  cases z1
  cases z2
  cases z3
  cases z4
  obtain ⟨b1, o1, r1, _⟩ := V1 0 (by omega)
  obtain ⟨b2, o2, r2, _⟩ := V2 0 (by omega)
  obtain ⟨b3, o3, r3, _⟩ := V3 0 (by omega)
  obtain ⟨b4, o4, r4, _⟩ := V4 0 (by omega)
  obtain ⟨p1, c1, p2, c2, p3, c3, p4, c4⟩ := l
  dsimp only at r1 r2 r3 r4
  subst r1 r2 r3 r4
  refine ⟨b1, o1, c1, b2, o2, c2, b3, o3, c3, b4, o4, c4, rfl, ⟨⟨y1, x1⟩, ⟨y2, x2⟩, ⟨y3, x3⟩, ⟨y4, x4⟩⟩, fun i hi => ?_, fun i hi => ?_, fun i hi => ?_, fun i hi => ?_⟩
  · obtain ⟨b, o, r, hc⟩ := V1 i hi
    cases r; exact hc
  · obtain ⟨b, o, r, hc⟩ := V2 i hi
    cases r; exact hc
  · obtain ⟨b, o, r, hc⟩ := V3 i hi
    cases r; exact hc
  · obtain ⟨b, o, r, hc⟩ := V4 i hi
    cases r; exact hc
theorem PlAt.later {P : Pl} {l : Lay} {w w' : World} {b o B : Nat} (h : PlAt P l w b o) (hb : Below B w w') (hB : b < B) : PlAt P l w' b o :=
  ⟨(hb.cell hB).trans h.1, (hb.cell hB).trans h.2.1, (hb.cell hB).trans h.2.2.1, (hb.cell hB).trans h.2.2.2.1, (hb.cell hB).trans h.2.2.2.2.1, (hb.cell hB).trans h.2.2.2.2.2⟩
/-- What is gained in the first cells. -/
def gainA (P : Pl) : Nat → Nat
  | 0 => cn .f32 0
  | k + 1 => if P.d.getD k false then gainA P k else fop .add .f32 (gainA P k) (cn .f32 (P.c.getD k 0))
theorem cn_gainA (P : Pl) : ∀ k, cn .f32 (gainA P k) = gainA P k
  | 0 => cn_cn .f32 0
  | k + 1 => by unfold gainA; split; exact cn_gainA P k; exact cn_fop _ _ _ _
end Go.Proofs.Ytphamdlnnfionaa

/-
  Sums over bars: heat and what is molten (the program's and the reference's). No condition but what each contract says.
  What a 32-bit word stands for, as a whole number of units of the least place; comparisons are those of these numbers. No condition but what each lemma says.
  The lesser and the greater of two finite numbers. No condition; nothing of the program is named here.
  The greatest tick of a bar (the program's and the reference's). No condition but what each contract says.
  What flows between a bar's cells: the program's way. No condition but what each contract says.
  What flows between a bar's cells: the reference's way. No condition but what each contract says.
  Drawn bars: how warm, how easily heat flows, the tick that is allowed: between bounds. No condition but what each law says; nothing of the program is named here.
  Drawn bars, on: the tick that is allowed; the mean of two eases; the heat that flows between two places: between bounds. No condition but what each law says; nothing of the program is named here.
  Drawn bars, on: what a tick does: no heat is lost, nearly, and none grows beyond the others: bounds. No condition but what each law says; nothing of the program is named here.
  Drawn bars, on: one place of a bar in a tick: bounds. No condition but what each law says; nothing of the program is named here.
  More steps of plans with operations that turn memory: a slice of one number, an append to an own slice, a store behind which what it waited for is told anew. No condition but what each law says.
-/
import Derived.Test.YtjeeflldbhajiaaFM4
import Derived.Test.YtjeeflldbhajiaaFM2
import Derived.Test.YtjeeflldbhajiaaFM3
import Derived.IntWalk
set_option linter.unusedSimpArgs false
set_option linter.unusedVariables false
set_option linter.unusedSectionVars false
namespace Go.Proofs.Ytjeeflldbhajiaa
open Go Go.RowKit
theorem bar_later {s : St} {p : Nat} {v : Value} {w w' : World} {b o B : Nat} (h : BarAt s p v w b o) (hb : Below B w w') (hB : b < B) : BarAt s p v w' b o :=
  ⟨at_later h.1 hb hB, (hb.cell hB).trans h.2.1, (hb.cell hB).trans h.2.2⟩
def meltB (s : St) (p : Nat) (xs : List Nat) : Nat := fop .mul .f32 (accC (partC s.k) xs) (cn .f32 p)
set_option maxHeartbeats 2000000 in
theorem implMelted_any (s : St) (p : Nat) (v : Value) (xs : List Nat) (w : World) (hs : FS w v xs) : Calls Try.prog 28 #[.agg #[.float .f32 s.a, .float .f32 s.b, .float .f32 s.c, .float .f32 s.d, .float .f32 s.p, .float .f32 s.l, .float .f32 p, v]] w (BFB w .f32 (gF (barOk s p xs) (meltB s p xs)) (gB (barOk s p xs) (meltB s p xs))) := by
  have HS := Lib.hid hs
  obtain ⟨q, c, rfl, hc1, hc2, HV⟩ := FS_view hs
  have HV := Lib.hid HV
  clear hs
  have HB := Lib.hid (fun w h => implValidBar_any s p (.slice q xs.length c) xs w h)
  rcases h0 : barOk s p xs
  · rw [h0] at HB
    go_enter Try.func28, Try.ntmps28
    go_wp2_with (first | (with_reducible refine at_list ?_; refine wpList_fop rfl rfl rfl rfl rfl ?_; intro r n hr0; have hr := hr0 _ _ (by first | with_reducible assumption | exact rfl) (by first | with_reducible assumption | exact rfl); clear hr0) | (with_reducible refine at_list ?_; refine wpList_neg rfl rfl rfl ?_; intro r hr0; have hr := hr0 _ (by first | with_reducible assumption | exact rfl); clear hr0) | (with_reducible refine at_list ?_; refine wpList_fop_g rfl rfl rfl rfl rfl ?_; intro r n hr0; have hr := hr0 _ _ (by first | with_reducible assumption | exact rfl) (by first | with_reducible assumption | exact rfl); clear hr0) | (with_reducible refine at_list ?_; refine wpList_wide_g rfl rfl Try.underlying22 Try.underlying40 rfl ?_; intro r n hr0; have hr := hr0 _ (by first | with_reducible assumption | exact rfl); clear hr0) | (with_reducible refine at_list ?_; refine wpList_wide rfl rfl rfl Try.underlying22 Try.underlying40 ?_; intro r n hr0; have hr := hr0 _ (by first | with_reducible assumption | exact rfl); clear hr0) | (go_at_call 21; refine ((HB.out _ (HS.out.later (by (repeat (first | (with_reducible exact Below.refl _ _) | (with_reducible assumption) | (with_reducible refine below_then ?_ (by assumption)) | (with_reducible refine Below.trans ?_ (by assumption)) | (with_reducible refine below_drewN ?_ _) | (with_reducible apply Below.drew) | (with_reducible refine below_alloc ?_ _) | refine Below.setCell ?_ (by first | (simp; done) | (simp; omega)) _))))) ).mono ?_; rintro e w' ⟨rfl, hb⟩; obtain ⟨hT, hk⟩ := bv_next hb (by (repeat (with_reducible first | assumption | apply Trk.alloc | apply Trk.setCell | apply Trk.drewN | apply Trk.drew | exact Trk.nil _))); simp only [SameOn, World.size_alloc, World.size_setCell, World.size_drew, size_drewN', and_true] at hk; have hsz := Below.size hb; (try simp only [World.size_alloc, World.size_setCell, World.size_drew, size_drewN'] at hsz)) | (go_at_call 74; refine (partOf_any _ _ _).mono ?_; rintro e w' ⟨r, rfl, hr, hb⟩; obtain ⟨hT, hk⟩ := bv_next hb (by (repeat (with_reducible first | assumption | apply Trk.alloc | apply Trk.setCell | apply Trk.drewN | apply Trk.drew | exact Trk.nil _))); simp only [SameOn, World.size_alloc, World.size_setCell, World.size_drew, size_drewN', and_true] at hk; have hsz := Below.size hb; (try simp only [World.size_alloc, World.size_setCell, World.size_drew, size_drewN'] at hsz)) | (go_at_call 71; refine (checked_any _ _).mono ?_; rintro e w' ⟨r, rfl, hr, n, rfl⟩))
    all_goals
      go_ret2
      exact ⟨_, by first | rfl | (simp [gB, meltB, *] <;> rfl), by simp [gF, meltB, *], by (repeat (first | (with_reducible exact Below.refl _ _) | (with_reducible assumption) | (with_reducible refine below_then ?_ (by assumption)) | (with_reducible refine Below.trans ?_ (by assumption)) | (with_reducible refine below_drewN ?_ _) | (with_reducible apply Below.drew) | (with_reducible refine below_alloc ?_ _) | refine Below.setCell ?_ (by first | (simp; done) | (simp; omega)) _))⟩
  rw [h0] at HB
  go_enter Try.func28, Try.ntmps28
  go_wp2_with (first | (with_reducible refine at_list ?_; refine wpList_fop rfl rfl rfl rfl rfl ?_; intro r n hr0; have hr := hr0 _ _ (by first | with_reducible assumption | exact rfl) (by first | with_reducible assumption | exact rfl); clear hr0) | (with_reducible refine at_list ?_; refine wpList_neg rfl rfl rfl ?_; intro r hr0; have hr := hr0 _ (by first | with_reducible assumption | exact rfl); clear hr0) | (with_reducible refine at_list ?_; refine wpList_fop_g rfl rfl rfl rfl rfl ?_; intro r n hr0; have hr := hr0 _ _ (by first | with_reducible assumption | exact rfl) (by first | with_reducible assumption | exact rfl); clear hr0) | (with_reducible refine at_list ?_; refine wpList_wide_g rfl rfl Try.underlying22 Try.underlying40 rfl ?_; intro r n hr0; have hr := hr0 _ (by first | with_reducible assumption | exact rfl); clear hr0) | (with_reducible refine at_list ?_; refine wpList_wide rfl rfl rfl Try.underlying22 Try.underlying40 ?_; intro r n hr0; have hr := hr0 _ (by first | with_reducible assumption | exact rfl); clear hr0) | (go_at_call 21; refine ((HB.out _ (HS.out.later (by (repeat (first | (with_reducible exact Below.refl _ _) | (with_reducible assumption) | (with_reducible refine below_then ?_ (by assumption)) | (with_reducible refine Below.trans ?_ (by assumption)) | (with_reducible refine below_drewN ?_ _) | (with_reducible apply Below.drew) | (with_reducible refine below_alloc ?_ _) | refine Below.setCell ?_ (by first | (simp; done) | (simp; omega)) _))))) ).mono ?_; rintro e w' ⟨rfl, hb⟩; obtain ⟨hT, hk⟩ := bv_next hb (by (repeat (with_reducible first | assumption | apply Trk.alloc | apply Trk.setCell | apply Trk.drewN | apply Trk.drew | exact Trk.nil _))); simp only [SameOn, World.size_alloc, World.size_setCell, World.size_drew, size_drewN', and_true] at hk; have hsz := Below.size hb; (try simp only [World.size_alloc, World.size_setCell, World.size_drew, size_drewN'] at hsz)) | (go_at_call 74; refine (partOf_any _ _ _).mono ?_; rintro e w' ⟨r, rfl, hr, hb⟩; obtain ⟨hT, hk⟩ := bv_next hb (by (repeat (with_reducible first | assumption | apply Trk.alloc | apply Trk.setCell | apply Trk.drewN | apply Trk.drew | exact Trk.nil _))); simp only [SameOn, World.size_alloc, World.size_setCell, World.size_drew, size_drewN', and_true] at hk; have hsz := Below.size hb; (try simp only [World.size_alloc, World.size_setCell, World.size_drew, size_drewN'] at hsz)) | (go_at_call 71; refine (checked_any _ _).mono ?_; rintro e w' ⟨r, rfl, hr, n, rfl⟩))
  refine wp_named ?_
  intro ws hws
  have hBs : Below w.heap.size w ws := by rw [hws]; (repeat (first | (with_reducible exact Below.refl _ _) | (with_reducible assumption) | (with_reducible refine below_then ?_ (by assumption)) | (with_reducible refine Below.trans ?_ (by assumption)) | (with_reducible refine below_drewN ?_ _) | (with_reducible apply Below.drew) | (with_reducible refine below_alloc ?_ _) | refine Below.setCell ?_ (by first | (simp; done) | (simp; omega)) _))
  have hzs : w.heap.size < ws.heap.size := by rw [hws]; omega
  have hat : BarAt s p (.slice q xs.length c) ws w.heap.size 0 := by rw [hws]; exact (by unfold BarAt St.at; refine ⟨⟨?_, ?_, ?_, ?_, ?_, ?_⟩, ?_, ?_⟩ <;> go_simp)
  go_loopw [4, 13] (fun a t wr => ∃ k r : Nat, k ≤ xs.length ∧ t = .int .i64 k ∧ a = .float .f32 r ∧ Hid (cn .f32 r = accC (partC s.k) (xs.take k)) ∧ Below w.heap.size w wr ∧ w.heap.size < wr.heap.size ∧ Hid (BarAt s p (.slice q xs.length c) wr w.heap.size 0)) (fun _ t _ => xs.length - (intOf t).toNat)
  case atStart => exact ⟨0, 0, Nat.zero_le _, rfl, rfl, rfl, hBs, hzs, hat⟩
  case round =>
    clear hws hBs hzs hat
    obtain ⟨k, r, hk, rfl, rfl, HR, hB, hwr, HBA⟩ := hrel
    obtain ⟨⟨c0, c1, c2, c3, c4, c5⟩, c6, c7⟩ := HBA.out
    have hT : Trk wr [w.heap.size] := (Trk.nil wr).more hwr
    by_cases hlt : k < xs.length
    · obtain ⟨b, o, rfl, hcell0⟩ := HV.out k hlt
      have hcell := cell_later hB hcell0
      have HST := Lib.hid (accC_step (partC s.k) xs hlt)
      generalize hx : xs.getD k 0 = x at hcell HST
      clear hx HV hcell0
      go_wp2_with (first | (with_reducible refine at_list ?_; refine wpList_fop rfl rfl rfl rfl rfl ?_; intro r n hr0; have hr := hr0 _ _ (by first | with_reducible assumption | exact rfl) (by first | with_reducible assumption | exact rfl); clear hr0) | (with_reducible refine at_list ?_; refine wpList_neg rfl rfl rfl ?_; intro r hr0; have hr := hr0 _ (by first | with_reducible assumption | exact rfl); clear hr0) | (with_reducible refine at_list ?_; refine wpList_fop_g rfl rfl rfl rfl rfl ?_; intro r n hr0; have hr := hr0 _ _ (by first | with_reducible assumption | exact rfl) (by first | with_reducible assumption | exact rfl); clear hr0) | (with_reducible refine at_list ?_; refine wpList_wide_g rfl rfl Try.underlying22 Try.underlying40 rfl ?_; intro r n hr0; have hr := hr0 _ (by first | with_reducible assumption | exact rfl); clear hr0) | (with_reducible refine at_list ?_; refine wpList_wide rfl rfl rfl Try.underlying22 Try.underlying40 ?_; intro r n hr0; have hr := hr0 _ (by first | with_reducible assumption | exact rfl); clear hr0) | (go_at_call 21; refine (implValidBar_any _ _ _ _ _ (by assumption)).mono ?_; rintro e w' ⟨rfl, hb⟩; obtain ⟨hT, hk⟩ := bv_next hb (by (repeat (with_reducible first | assumption | apply Trk.alloc | apply Trk.setCell | apply Trk.drewN | apply Trk.drew | exact Trk.nil _))); simp only [SameOn, World.size_alloc, World.size_setCell, World.size_drew, size_drewN', and_true] at hk; have hsz := Below.size hb; (try simp only [World.size_alloc, World.size_setCell, World.size_drew, size_drewN'] at hsz)) | (go_at_call 74; refine (partOf_any _ _ _).mono ?_; rintro e w' ⟨r, rfl, hr, hb⟩; obtain ⟨hT, hk⟩ := bv_next hb (by (repeat (with_reducible first | assumption | apply Trk.alloc | apply Trk.setCell | apply Trk.drewN | apply Trk.drew | exact Trk.nil _))); simp only [SameOn, World.size_alloc, World.size_setCell, World.size_drew, size_drewN', and_true] at hk; have hsz := Below.size hb; (try simp only [World.size_alloc, World.size_setCell, World.size_drew, size_drewN'] at hsz)) | (go_at_call 71; refine (checked_any _ _).mono ?_; rintro e w' ⟨r, rfl, hr, n, rfl⟩))
      go_roundw
      case rel => exact ⟨k + 1, _, by omega, by go_num, rfl, by show _ = _; rw [HST.out, ← HR.out]; assumption, by (repeat (first | (with_reducible exact Below.refl _ _) | (with_reducible assumption) | (with_reducible refine below_then ?_ (by assumption)) | (with_reducible refine Below.trans ?_ (by assumption)) | (with_reducible refine below_drewN ?_ _) | (with_reducible apply Below.drew) | (with_reducible refine below_alloc ?_ _) | refine Below.setCell ?_ (by first | (simp; done) | (simp; omega)) _)), by simp only [size_drewN']; omega, (by unfold BarAt St.at; refine ⟨⟨?_, ?_, ?_, ?_, ?_, ?_⟩, ?_, ?_⟩ <;> go_simp)⟩
      case measure => simp [intOf]; omega
    · have he : k = xs.length := by omega
      have HR2 : Hid (cn .f32 r = accC (partC s.k) xs) := by have := HR.out; rw [he, List.take_length] at this; exact this
      have hr2 := HR2.out
      clear HR
      go_wp2_with (first | (with_reducible refine at_list ?_; refine wpList_fop rfl rfl rfl rfl rfl ?_; intro r n hr0; have hr := hr0 _ _ (by first | with_reducible assumption | exact rfl) (by first | with_reducible assumption | exact rfl); clear hr0) | (with_reducible refine at_list ?_; refine wpList_neg rfl rfl rfl ?_; intro r hr0; have hr := hr0 _ (by first | with_reducible assumption | exact rfl); clear hr0) | (with_reducible refine at_list ?_; refine wpList_fop_g rfl rfl rfl rfl rfl ?_; intro r n hr0; have hr := hr0 _ _ (by first | with_reducible assumption | exact rfl) (by first | with_reducible assumption | exact rfl); clear hr0) | (with_reducible refine at_list ?_; refine wpList_wide_g rfl rfl Try.underlying22 Try.underlying40 rfl ?_; intro r n hr0; have hr := hr0 _ (by first | with_reducible assumption | exact rfl); clear hr0) | (with_reducible refine at_list ?_; refine wpList_wide rfl rfl rfl Try.underlying22 Try.underlying40 ?_; intro r n hr0; have hr := hr0 _ (by first | with_reducible assumption | exact rfl); clear hr0) | (go_at_call 21; refine (implValidBar_any _ _ _ _ _ (by assumption)).mono ?_; rintro e w' ⟨rfl, hb⟩; obtain ⟨hT, hk⟩ := bv_next hb (by (repeat (with_reducible first | assumption | apply Trk.alloc | apply Trk.setCell | apply Trk.drewN | apply Trk.drew | exact Trk.nil _))); simp only [SameOn, World.size_alloc, World.size_setCell, World.size_drew, size_drewN', and_true] at hk; have hsz := Below.size hb; (try simp only [World.size_alloc, World.size_setCell, World.size_drew, size_drewN'] at hsz)) | (go_at_call 74; refine (partOf_any _ _ _).mono ?_; rintro e w' ⟨r, rfl, hr, hb⟩; obtain ⟨hT, hk⟩ := bv_next hb (by (repeat (with_reducible first | assumption | apply Trk.alloc | apply Trk.setCell | apply Trk.drewN | apply Trk.drew | exact Trk.nil _))); simp only [SameOn, World.size_alloc, World.size_setCell, World.size_drew, size_drewN', and_true] at hk; have hsz := Below.size hb; (try simp only [World.size_alloc, World.size_setCell, World.size_drew, size_drewN'] at hsz)) | (go_at_call 71; refine (checked_any _ _).mono ?_; rintro e w' ⟨r, rfl, hr, n, rfl⟩))
      go_ret2
      exact ⟨_, by first | rfl | (simp [gB, meltB, *] <;> rfl), by simp [gF, meltB, *], by (repeat (first | (with_reducible exact Below.refl _ _) | (with_reducible assumption) | (with_reducible refine below_then ?_ (by assumption)) | (with_reducible refine Below.trans ?_ (by assumption)) | (with_reducible refine below_drewN ?_ _) | (with_reducible apply Below.drew) | (with_reducible refine below_alloc ?_ _) | refine Below.setCell ?_ (by first | (simp; done) | (simp; omega)) _))⟩
end Go.Proofs.Ytjeeflldbhajiaa
set_option linter.unusedSimpArgs false
set_option linter.unusedVariables false
set_option linter.unusedSectionVars false
namespace Go.Proofs.Ytjeeflldbhajiaa
open Go Go.RowKit
/-- The magnitude of a rung, in units of the least place. -/
def mag32 (r : Nat) : Nat := if r < 8388608 then r else (8388608 + r % 8388608) * 2 ^ (r / 8388608 - 1)
def neg32 (c : Nat) : Bool := c / 2147483648 % 2 == 1
/-- What a finite word stands for. -/
def val (c : Nat) : Int := if neg32 c then -(mag32 (c % 2147483648) : Int) else (mag32 (c % 2147483648) : Int)
/-- Is a word finite. -/
def isF (c : Nat) : Bool := c % 2147483648 < 2139095040
/-- A finite word's datum. -/
theorem decode_fin {c : Nat} (h : isF c = true) : ∃ m p, FloatKind.f32.decode c = .number (neg32 c) m p ∧ -149 ≤ p ∧ m * 2 ^ (p + 149).toNat = mag32 (c % 2147483648) := by
  simp only [isF, decide_eq_true_eq] at h
  rw [decode_single]
  by_cases h1 : c % 2147483648 < 8388608
  · rw [if_pos h1]
    exact ⟨_, _, rfl, by omega, by unfold mag32; rw [if_pos h1]; simp⟩
  · rw [if_neg h1, if_pos h]
    refine ⟨_, _, rfl, by omega, ?_⟩
    unfold mag32
    rw [if_neg h1]
    congr 2
    omega
theorem signed_scale (s : Bool) (m : Nat) (p b : Int) (hb : -149 ≤ b) (hp : b ≤ p) : Ieee.signed s m (p - b).toNat * (2 ^ (b + 149).toNat : Nat) = if s then -((m * 2 ^ (p + 149).toNat : Nat) : Int) else ((m * 2 ^ (p + 149).toNat : Nat) : Int) := by
  have e : m <<< (p - b).toNat * 2 ^ (b + 149).toNat = m * 2 ^ (p + 149).toNat := by
    rw [Nat.shiftLeft_eq, Nat.mul_assoc, ← Nat.pow_add]
    congr 2
    omega
  unfold Ieee.signed
  cases s
  · simp only [Bool.false_eq_true, if_false]; rw [← Int.natCast_mul, e]
  · simp only [if_true]; rw [Int.neg_mul, ← Int.natCast_mul, e]
theorem compare_scale (a b : Int) (k : Nat) (hk : 0 < k) : compare a b = compare (a * k) (b * k) := by
  have hk' : (0 : Int) < k := by omega
  simp only [compare, compareOfLessAndEq]
  have e1 : (a < b) ↔ (a * k < b * k) := (Int.mul_lt_mul_right hk').symm
  have e2 : (a = b) ↔ (a * k = b * k) := ⟨fun h => by rw [h], fun h => Int.eq_of_mul_eq_mul_right (by omega) h⟩
  by_cases h1 : a < b
  · rw [if_pos h1, if_pos (e1.1 h1)]
  · rw [if_neg h1, if_neg (fun h => h1 (e1.2 h))]
    by_cases h2 : a = b
    · rw [if_pos h2, if_pos (e2.1 h2)]
    · rw [if_neg h2, if_neg (fun h => h2 (e2.2 h))]
theorem order_val {x y : Nat} (hx : isF x = true) (hy : isF y = true) : FloatKind.f32.format.order x y = some (compare (val x) (val y)) := by
  obtain ⟨m, p, e1, hp, hm⟩ := decode_fin hx
  obtain ⟨n, q, e2, hq, hn⟩ := decode_fin hy
  have d1 : FloatKind.f32.format.read x = .number (neg32 x) m p := e1
  have d2 : FloatKind.f32.format.read y = .number (neg32 y) n q := e2
  unfold Ieee.Format.order
  rw [d1, d2]
  simp only [Ieee.Datum.order]
  rw [compare_scale _ _ (2 ^ (min p q + 149).toNat) (Nat.two_pow_pos _), signed_scale _ _ _ _ (by omega) (by omega), signed_scale _ _ _ _ (by omega) (by omega), hm, hn]
  rfl
theorem flt_val {x y : Nat} (hx : isF x = true) (hy : isF y = true) : flt .f32 x y = decide (val x < val y) := by
  unfold flt
  rw [order_val hx hy]
  simp only [compare, compareOfLessAndEq]
  by_cases h : val x < val y
  · simp [h]
  · by_cases h2 : val x = val y <;> simp [h, h2]
end Go.Proofs.Ytjeeflldbhajiaa
set_option linter.unusedSimpArgs false
set_option linter.unusedVariables false
set_option linter.unusedSectionVars false
namespace Go.Proofs.Ytjeeflldbhajiaa
open Go Go.RowKit
theorem fin_isF0 {c : Nat} (h : fin .f32 c = true) : isF c = true := by
  obtain ⟨s, m, i, e⟩ := fin_decode h
  rw [decode_single] at e
  unfold isF
  by_cases c1 : c % 2147483648 < 8388608
  · exact decide_eq_true (by omega)
  · rw [if_neg c1] at e
    by_cases c2 : c % 2147483648 < 2139095040
    · exact decide_eq_true c2
    · rw [if_neg c2] at e
      by_cases c3 : c % 2147483648 = 2139095040
      · rw [if_pos c3] at e; cases e
      · rw [if_neg c3] at e; cases e
theorem fin_word {c : Nat} (h : fin .f32 (cn .f32 c) = true) : isF c = true ∧ cn .f32 c = c := by
  by_cases hn : isN .f32 c = true
  · rw [cn_of_isN hn] at h
    have : fin .f32 (qn .f32) = false := by decide +kernel
    rw [this] at h; cases h
  · have e := cn_of_not (k := .f32) (b := c) (by simpa using hn)
    rw [e] at h
    exact ⟨fin_isF0 h, e⟩
def fmin (x y : Nat) : Nat := if val y < val x then y else if val x < val y then x else if (FloatKind.f32.decode x).neg then x else y
def fmax (x y : Nat) : Nat := if val x < val y then y else if val y < val x then x else if (FloatKind.f32.decode x).neg then y else x
theorem run_fmin {P : Program} {x y : Nat} (hx : isF x = true) (hy : isF y = true) (ts : Array TypeId) (t : TypeId) (w : World) : (Builtin.min_ ts t #[.float .f32 x, .float .f32 y]).run P w = .ok (.float .f32 (fmin x y)) w := by
  have h := order_val hx hy
  unfold fmin
  rcases hc : compare (val x) (val y) with _ | _ | _
  · have := Int.compare_eq_lt.1 hc
    rw [hc] at h
    simp [Builtin.min_, Builtin.min2, h, show ¬ val y < val x by omega, show val x < val y from this]
  · have := Int.compare_eq_eq.1 hc
    rw [hc] at h
    simp [Builtin.min_, Builtin.min2, h, show ¬ val y < val x by omega, show ¬ val x < val y by omega]
  · have := Int.compare_eq_gt.1 hc
    rw [hc] at h
    simp [Builtin.min_, Builtin.min2, h, show val y < val x from this, show ¬ val x < val y by omega]
theorem run_fmax {P : Program} {x y : Nat} (hx : isF x = true) (hy : isF y = true) (ts : Array TypeId) (t : TypeId) (w : World) : (Builtin.max_ ts t #[.float .f32 x, .float .f32 y]).run P w = .ok (.float .f32 (fmax x y)) w := by
  have h := order_val hx hy
  unfold fmax
  rcases hc : compare (val x) (val y) with _ | _ | _
  · have := Int.compare_eq_lt.1 hc
    rw [hc] at h
    simp [Builtin.max_, Builtin.max2, h, show ¬ val y < val x by omega, show val x < val y from this]
  · have := Int.compare_eq_eq.1 hc
    rw [hc] at h
    simp [Builtin.max_, Builtin.max2, h, show ¬ val y < val x by omega, show ¬ val x < val y by omega]
  · have := Int.compare_eq_gt.1 hc
    rw [hc] at h
    simp [Builtin.max_, Builtin.max2, h, show val y < val x from this, show ¬ val x < val y by omega]
end Go.Proofs.Ytjeeflldbhajiaa
set_option linter.unusedSimpArgs false
set_option linter.unusedVariables false
set_option linter.unusedSectionVars false
namespace Go.Proofs.Ytjeeflldbhajiaa
open Go Go.RowKit
def mostV (s : St) (p : Nat) : Nat := fop .quo .f32 (fop .mul .f32 (fop .mul .f32 (fop .mul .f32 (cn .f32 1048576000) (cn .f32 p)) (cn .f32 p)) (cn .f32 (fmin s.a s.b))) (cn .f32 (fmax s.c s.d))
theorem cn_mostV (s : St) (p : Nat) : cn .f32 (mostV s p) = mostV s p := cn_fop _ _ _ _
theorem ok_words {s : St} (h : s.ok = true) : isF s.a = true ∧ isF s.b = true ∧ isF s.c = true ∧ isF s.d = true := by
  unfold St.ok abv at h
  simp only [Bool.and_eq_true] at h
  exact ⟨(fin_word h.1.1).1, (fin_word h.2.1.1).1, (fin_word h.2.2.1.1).1, (fin_word h.2.2.2.1.1).1⟩
set_option maxHeartbeats 2000000 in
theorem implMostTick_any (s : St) (p : Nat) (v : Value) (xs : List Nat) (w : World) (hs : FS w v xs) : Calls Try.prog 23 #[.agg #[.float .f32 s.a, .float .f32 s.b, .float .f32 s.c, .float .f32 s.d, .float .f32 s.p, .float .f32 s.l, .float .f32 p, v]] w (BFB w .f32 (gF (barOk s p xs) (mostV s p)) (gB (barOk s p xs) (mostV s p))) := by
  have HS := Lib.hid hs
  obtain ⟨q, c, rfl, hc1, hc2, HV⟩ := FS_view hs
  clear hs HV
  have HB := Lib.hid (fun w h => implValidBar_any s p (.slice q xs.length c) xs w h)
  rcases h0 : barOk s p xs
  · rw [h0] at HB
    go_enter Try.func23, Try.ntmps23
    go_wp2_with (first | (with_reducible refine at_list ?_; refine wpList_fop rfl rfl rfl rfl rfl ?_; intro r n hr0; have hr := hr0 _ _ (by first | with_reducible assumption | exact rfl) (by first | with_reducible assumption | exact rfl); clear hr0) | (with_reducible refine at_list ?_; refine wpList_neg rfl rfl rfl ?_; intro r hr0; have hr := hr0 _ (by first | with_reducible assumption | exact rfl); clear hr0) | (with_reducible refine at_list ?_; refine wpList_fop_g rfl rfl rfl rfl rfl ?_; intro r n hr0; have hr := hr0 _ _ (by first | with_reducible assumption | exact rfl) (by first | with_reducible assumption | exact rfl); clear hr0) | (with_reducible refine at_list ?_; refine wpList_wide_g rfl rfl Try.underlying22 Try.underlying40 rfl ?_; intro r n hr0; have hr := hr0 _ (by first | with_reducible assumption | exact rfl); clear hr0) | (with_reducible refine at_list ?_; refine wpList_wide rfl rfl rfl Try.underlying22 Try.underlying40 ?_; intro r n hr0; have hr := hr0 _ (by first | with_reducible assumption | exact rfl); clear hr0) | (go_at_call 21; refine ((HB.out _ (HS.out.later (by (repeat (first | (with_reducible exact Below.refl _ _) | (with_reducible assumption) | (with_reducible refine below_then ?_ (by assumption)) | (with_reducible refine Below.trans ?_ (by assumption)) | (with_reducible refine below_drewN ?_ _) | (with_reducible apply Below.drew) | (with_reducible refine below_alloc ?_ _) | refine Below.setCell ?_ (by first | (simp; done) | (simp; omega)) _))))) ).mono ?_; rintro e w' ⟨rfl, hb⟩; obtain ⟨hT, hk⟩ := bv_next hb (by (repeat (with_reducible first | assumption | apply Trk.alloc | apply Trk.setCell | apply Trk.drewN | apply Trk.drew | exact Trk.nil _))); simp only [SameOn, World.size_alloc, World.size_setCell, World.size_drew, size_drewN', and_true] at hk; have hsz := Below.size hb; (try simp only [World.size_alloc, World.size_setCell, World.size_drew, size_drewN'] at hsz)) | (go_at_call 71; refine (checked_any _ _).mono ?_; rintro e w' ⟨r, rfl, hr, n, rfl⟩))
    all_goals
      go_ret2
      exact ⟨_, by first | rfl | (simp [gB, *] <;> rfl), by simp [gF, *], by (repeat (first | (with_reducible exact Below.refl _ _) | (with_reducible assumption) | (with_reducible refine below_then ?_ (by assumption)) | (with_reducible refine Below.trans ?_ (by assumption)) | (with_reducible refine below_drewN ?_ _) | (with_reducible apply Below.drew) | (with_reducible refine below_alloc ?_ _) | refine Below.setCell ?_ (by first | (simp; done) | (simp; omega)) _))⟩
  rw [h0] at HB
  have hok : s.ok = true := by unfold barOk at h0; simp only [Bool.and_eq_true] at h0; exact h0.1
  obtain ⟨ha, hb, hc, hd⟩ := ok_words hok
  have hmin := fun ts t w => run_fmin (P := Try.prog) ha hb ts t w
  have hmax := fun ts t w => run_fmax (P := Try.prog) hc hd ts t w
  have HM : Hid (mostV s p = fop .quo .f32 (fop .mul .f32 (fop .mul .f32 (fop .mul .f32 (cn .f32 1048576000) (cn .f32 p)) (cn .f32 p)) (cn .f32 (fmin s.a s.b))) (cn .f32 (fmax s.c s.d))) := rfl
  clear ha hb hc hd hok
  go_enter Try.func23, Try.ntmps23
  go_wp2_with (first | (with_reducible refine at_list ?_; refine wpList_fop rfl rfl rfl rfl rfl ?_; intro r n hr0; have hr := hr0 _ _ (by first | with_reducible assumption | exact rfl) (by first | with_reducible assumption | exact rfl); clear hr0) | (with_reducible refine at_list ?_; refine wpList_neg rfl rfl rfl ?_; intro r hr0; have hr := hr0 _ (by first | with_reducible assumption | exact rfl); clear hr0) | (with_reducible refine at_list ?_; refine wpList_fop_g rfl rfl rfl rfl rfl ?_; intro r n hr0; have hr := hr0 _ _ (by first | with_reducible assumption | exact rfl) (by first | with_reducible assumption | exact rfl); clear hr0) | (with_reducible refine at_list ?_; refine wpList_wide_g rfl rfl Try.underlying22 Try.underlying40 rfl ?_; intro r n hr0; have hr := hr0 _ (by first | with_reducible assumption | exact rfl); clear hr0) | (with_reducible refine at_list ?_; refine wpList_wide rfl rfl rfl Try.underlying22 Try.underlying40 ?_; intro r n hr0; have hr := hr0 _ (by first | with_reducible assumption | exact rfl); clear hr0) | (go_at_call 21; refine ((HB.out _ (HS.out.later (by (repeat (first | (with_reducible exact Below.refl _ _) | (with_reducible assumption) | (with_reducible refine below_then ?_ (by assumption)) | (with_reducible refine Below.trans ?_ (by assumption)) | (with_reducible refine below_drewN ?_ _) | (with_reducible apply Below.drew) | (with_reducible refine below_alloc ?_ _) | refine Below.setCell ?_ (by first | (simp; done) | (simp; omega)) _))))) ).mono ?_; rintro e w' ⟨rfl, hb⟩; obtain ⟨hT, hk⟩ := bv_next hb (by (repeat (with_reducible first | assumption | apply Trk.alloc | apply Trk.setCell | apply Trk.drewN | apply Trk.drew | exact Trk.nil _))); simp only [SameOn, World.size_alloc, World.size_setCell, World.size_drew, size_drewN', and_true] at hk; have hsz := Below.size hb; (try simp only [World.size_alloc, World.size_setCell, World.size_drew, size_drewN'] at hsz)) | (go_at_call 71; refine (checked_any _ _).mono ?_; rintro e w' ⟨r, rfl, hr, n, rfl⟩))
  all_goals
    go_ret2
    exact ⟨_, by first | rfl | (simp [gB, mostV, *] <;> rfl), by simp [gF, mostV, *], by (repeat (first | (with_reducible exact Below.refl _ _) | (with_reducible assumption) | (with_reducible refine below_then ?_ (by assumption)) | (with_reducible refine Below.trans ?_ (by assumption)) | (with_reducible refine below_drewN ?_ _) | (with_reducible apply Below.drew) | (with_reducible refine below_alloc ?_ _) | refine Below.setCell ?_ (by first | (simp; done) | (simp; omega)) _))⟩
end Go.Proofs.Ytjeeflldbhajiaa
set_option linter.unusedSimpArgs false
set_option linter.unusedVariables false
set_option linter.unusedSectionVars false
namespace Go.Proofs.Ytjeeflldbhajiaa
open Go Go.RowKit
open Go.ChangeShapes Go.WideShapes Go.ChangeAt Go.RowKit Go.Joins
def flowB (s : St) (p x y : Nat) : Nat := fop .quo .f32 (fop .mul .f32 (fop .quo .f32 (fop .mul .f32 (fop .mul .f32 (cn .f32 1073741824) (easeC s.k x)) (easeC s.k y)) (fop .add .f32 (easeC s.k x) (easeC s.k y))) (fop .sub .f32 (warmC s.k x) (warmC s.k y))) (cn .f32 p)
def flowsL (s : St) (p : Nat) (xs : List Nat) (k : Nat) : List Nat := (List.range k).map fun j => flowB s p (cn .f32 (xs.getD j 0)) (cn .f32 (xs.getD (j + 1) 0))
theorem flowsL_step (s : St) (p : Nat) (xs : List Nat) (k : Nat) : flowsL s p xs (k + 1) = flowsL s p xs k ++ [flowB s p (cn .f32 (xs.getD k 0)) (cn .f32 (xs.getD (k + 1) 0))] := by
  unfold flowsL; rw [List.range_succ, List.map_append]; rfl
def flowsOk (s : St) (p : Nat) (xs : List Nat) : Bool := barOk s p xs && !(flowsL s p xs (xs.length - 1)).any fun x => !fin .f32 x
def flowsV (s : St) (p : Nat) (xs : List Nat) : List Nat := if flowsOk s p xs then flowsL s p xs (xs.length - 1) else []
theorem flowsV_no {s : St} {p : Nat} {xs : List Nat} (h : flowsOk s p xs = false) : flowsV s p xs = [] := by rw [flowsV, h]; rfl
theorem flowsV_ok {s : St} {p : Nat} {xs : List Nat} (h : flowsOk s p xs = true) : flowsV s p xs = flowsL s p xs (xs.length - 1) := by rw [flowsV, h]; rfl
theorem barOk_len {s : St} {p : Nat} {xs : List Nat} (h : barOk s p xs = true) : 1 ≤ xs.length ∧ xs.length ≤ 48 := by
  unfold barOk at h
  simp only [Bool.and_eq_true, decide_eq_true_eq] at h
  exact ⟨h.2.2.1, h.2.2.2.1⟩
theorem any_cn (ys : List Nat) {L : List Nat} (h : ys.map (cn .f32) = L) : (ys.any fun x => !fin .f32 (cn .f32 x)) = L.any fun x => !fin .f32 x := by
  rw [← h, List.any_map]; rfl
/-- A slice of numbers that is not empty, seen. -/
theorem FS.ptr {w : World} {v : Value} {xs : List Nat} (h : FS w v xs) (hn : 1 ≤ xs.length) : ∃ b o c, v = .slice (some ⟨b, o, none⟩) xs.length c ∧ (c ≤ 9223372036854775807 ∧ xs.length ≤ c) ∧ Hid (∀ i, i < xs.length → w.cell? ⟨b, o + i, none⟩ = some (.float .f32 (xs.getD i 0))) := by
  obtain ⟨q, c, rfl, h1, h2, h3⟩ := FS_view h
  obtain ⟨b, o, rfl, _⟩ := h3 0 (by omega)
  refine ⟨b, o, c, rfl, ⟨h1, h2⟩, fun i hi => ?_⟩
  obtain ⟨b', o', e, hc⟩ := h3 i hi
  cases e; exact hc
set_option maxHeartbeats 4000000 in
theorem implFlows_any (s : St) (p : Nat) (v : Value) (xs : List Nat) (w : World) (hs : FS w v xs) : Calls Try.prog 36 #[.agg #[.float .f32 s.a, .float .f32 s.b, .float .f32 s.c, .float .f32 s.d, .float .f32 s.p, .float .f32 s.l, .float .f32 p, v]] w (BC w (flowsV s p xs) (flowsOk s p xs)) := by
  have HS := Lib.hid hs
  rcases h0 : barOk s p xs
  · obtain ⟨q, c, rfl, hc1, hc2, HV⟩ := FS_view hs
    have HB := Lib.hid (fun w h => implValidBar_any s p (.slice q xs.length c) xs w h)
    rw [h0] at HB
    have HO : Hid (flowsOk s p xs = false) := by show _ = _; unfold flowsOk; rw [h0]; rfl
    have HE := Lib.hid (flowsV_no HO.out)
    clear hs HV
    go_enter Try.func36, Try.ntmps36
    go_wp2_with (first | (with_reducible refine at_list ?_; refine wpList_fop rfl rfl rfl rfl rfl ?_; intro r n hr0; have hr := hr0 _ _ (by first | with_reducible assumption | exact rfl) (by first | with_reducible assumption | exact rfl); clear hr0) | (with_reducible refine at_list ?_; refine wpList_neg rfl rfl rfl ?_; intro r hr0; have hr := hr0 _ (by first | with_reducible assumption | exact rfl); clear hr0) | (with_reducible refine at_list ?_; refine wpList_fop_g rfl rfl rfl rfl rfl ?_; intro r n hr0; have hr := hr0 _ _ (by first | with_reducible assumption | exact rfl) (by first | with_reducible assumption | exact rfl); clear hr0) | (with_reducible refine at_list ?_; refine wpList_wide_g rfl rfl Try.underlying22 Try.underlying40 rfl ?_; intro r n hr0; have hr := hr0 _ (by first | with_reducible assumption | exact rfl); clear hr0) | (with_reducible refine at_list ?_; refine wpList_wide rfl rfl rfl Try.underlying22 Try.underlying40 ?_; intro r n hr0; have hr := hr0 _ (by first | with_reducible assumption | exact rfl); clear hr0) | (go_at_call 21; refine ((HB.out _ (HS.out.later (by (repeat (first | (with_reducible exact Below.refl _ _) | (with_reducible assumption) | (with_reducible refine below_then ?_ (by assumption)) | (with_reducible refine Below.trans ?_ (by assumption)) | (with_reducible refine below_drewN ?_ _) | (with_reducible apply Below.drew) | (with_reducible refine below_alloc ?_ _) | refine Below.setCell ?_ (by first | (simp; done) | (simp; omega)) _))))) ).mono ?_; rintro e w' ⟨rfl, hb⟩; obtain ⟨hT, hk⟩ := bv_next hb (by (repeat (with_reducible first | assumption | apply Trk.alloc | apply Trk.setCell | apply Trk.drewN | apply Trk.drew | exact Trk.nil _))); simp only [SameOn, World.size_alloc, World.size_setCell, World.size_drew, size_drewN', and_true] at hk; have hsz := Below.size hb; (try simp only [World.size_alloc, World.size_setCell, World.size_drew, size_drewN'] at hsz)) | (go_at_call 79; refine (easeOf_any _ _ _).mono ?_; rintro e w' ⟨r, rfl, hr, hb⟩; obtain ⟨hT, hk⟩ := bv_next hb (by (repeat (with_reducible first | assumption | apply Trk.alloc | apply Trk.setCell | apply Trk.drewN | apply Trk.drew | exact Trk.nil _))); simp only [SameOn, World.size_alloc, World.size_setCell, World.size_drew, size_drewN', and_true] at hk; have hsz := Below.size hb; (try simp only [World.size_alloc, World.size_setCell, World.size_drew, size_drewN'] at hsz)) | (go_at_call 68; refine (warmOf_any _ _ _).mono ?_; rintro e w' ⟨r, rfl, hr, hb⟩; obtain ⟨hT, hk⟩ := bv_next hb (by (repeat (with_reducible first | assumption | apply Trk.alloc | apply Trk.setCell | apply Trk.drewN | apply Trk.drew | exact Trk.nil _))); simp only [SameOn, World.size_alloc, World.size_setCell, World.size_drew, size_drewN', and_true] at hk; have hsz := Below.size hb; (try simp only [World.size_alloc, World.size_setCell, World.size_drew, size_drewN'] at hsz)) | (go_at_call 77; refine (areFinite_any _ _ _ (by assumption)).mono ?_; rintro e w' ⟨rfl, n, rfl⟩))
    all_goals
      go_ret2
      exact ⟨_, [], by rw [HO.out]; rfl, by (repeat (first | (with_reducible exact Below.refl _ _) | (with_reducible assumption) | (with_reducible refine below_then ?_ (by assumption)) | (with_reducible refine Below.trans ?_ (by assumption)) | (with_reducible refine below_drewN ?_ _) | (with_reducible apply Below.drew) | (with_reducible refine below_alloc ?_ _) | refine Below.setCell ?_ (by first | (simp; done) | (simp; omega)) _)), OF.nil0 _ _, by rw [HE.out]; rfl⟩
  obtain ⟨hn1, hn2⟩ := barOk_len h0
  obtain ⟨b0, o0, c0, rfl, ⟨hc1, hc2⟩, HV⟩ := hs.ptr hn1
  have HB := Lib.hid (fun w h => implValidBar_any s p (.slice (some ⟨b0, o0, none⟩) xs.length c0) xs w h)
  rw [h0] at HB
  have HOK : Hid (flowsOk s p xs = !(flowsL s p xs (xs.length - 1)).any fun x => !fin .f32 x) := by show _ = _; unfold flowsOk; rw [h0]; rfl
  have HE0 := Lib.hid (fun h => flowsV_no (s := s) (p := p) (xs := xs) h)
  have HE1 := Lib.hid (fun h => flowsV_ok (s := s) (p := p) (xs := xs) h)
  clear hs
  go_enter Try.func36, Try.ntmps36
  go_wp2_with (first | (with_reducible refine at_list ?_; refine wpList_fop rfl rfl rfl rfl rfl ?_; intro r n hr0; have hr := hr0 _ _ (by first | with_reducible assumption | exact rfl) (by first | with_reducible assumption | exact rfl); clear hr0) | (with_reducible refine at_list ?_; refine wpList_neg rfl rfl rfl ?_; intro r hr0; have hr := hr0 _ (by first | with_reducible assumption | exact rfl); clear hr0) | (with_reducible refine at_list ?_; refine wpList_fop_g rfl rfl rfl rfl rfl ?_; intro r n hr0; have hr := hr0 _ _ (by first | with_reducible assumption | exact rfl) (by first | with_reducible assumption | exact rfl); clear hr0) | (with_reducible refine at_list ?_; refine wpList_wide_g rfl rfl Try.underlying22 Try.underlying40 rfl ?_; intro r n hr0; have hr := hr0 _ (by first | with_reducible assumption | exact rfl); clear hr0) | (with_reducible refine at_list ?_; refine wpList_wide rfl rfl rfl Try.underlying22 Try.underlying40 ?_; intro r n hr0; have hr := hr0 _ (by first | with_reducible assumption | exact rfl); clear hr0) | (go_at_call 21; refine ((HB.out _ (HS.out.later (by (repeat (first | (with_reducible exact Below.refl _ _) | (with_reducible assumption) | (with_reducible refine below_then ?_ (by assumption)) | (with_reducible refine Below.trans ?_ (by assumption)) | (with_reducible refine below_drewN ?_ _) | (with_reducible apply Below.drew) | (with_reducible refine below_alloc ?_ _) | refine Below.setCell ?_ (by first | (simp; done) | (simp; omega)) _))))) ).mono ?_; rintro e w' ⟨rfl, hb⟩; obtain ⟨hT, hk⟩ := bv_next hb (by (repeat (with_reducible first | assumption | apply Trk.alloc | apply Trk.setCell | apply Trk.drewN | apply Trk.drew | exact Trk.nil _))); simp only [SameOn, World.size_alloc, World.size_setCell, World.size_drew, size_drewN', and_true] at hk; have hsz := Below.size hb; (try simp only [World.size_alloc, World.size_setCell, World.size_drew, size_drewN'] at hsz)) | (go_at_call 79; refine (easeOf_any _ _ _).mono ?_; rintro e w' ⟨r, rfl, hr, hb⟩; obtain ⟨hT, hk⟩ := bv_next hb (by (repeat (with_reducible first | assumption | apply Trk.alloc | apply Trk.setCell | apply Trk.drewN | apply Trk.drew | exact Trk.nil _))); simp only [SameOn, World.size_alloc, World.size_setCell, World.size_drew, size_drewN', and_true] at hk; have hsz := Below.size hb; (try simp only [World.size_alloc, World.size_setCell, World.size_drew, size_drewN'] at hsz)) | (go_at_call 68; refine (warmOf_any _ _ _).mono ?_; rintro e w' ⟨r, rfl, hr, hb⟩; obtain ⟨hT, hk⟩ := bv_next hb (by (repeat (with_reducible first | assumption | apply Trk.alloc | apply Trk.setCell | apply Trk.drewN | apply Trk.drew | exact Trk.nil _))); simp only [SameOn, World.size_alloc, World.size_setCell, World.size_drew, size_drewN', and_true] at hk; have hsz := Below.size hb; (try simp only [World.size_alloc, World.size_setCell, World.size_drew, size_drewN'] at hsz)) | (go_at_call 77; refine (areFinite_any _ _ _ (by assumption)).mono ?_; rintro e w' ⟨rfl, n, rfl⟩))
  refine wp_named ?_
  intro ws hws
  have hBs : Below w.heap.size w ws := by rw [hws]; (repeat (first | (with_reducible exact Below.refl _ _) | (with_reducible assumption) | (with_reducible refine below_then ?_ (by assumption)) | (with_reducible refine Below.trans ?_ (by assumption)) | (with_reducible refine below_drewN ?_ _) | (with_reducible apply Below.drew) | (with_reducible refine below_alloc ?_ _) | refine Below.setCell ?_ (by first | (simp; done) | (simp; omega)) _))
  have hzs : w.heap.size + 1 ≤ ws.heap.size := by rw [hws]; first | omega | (simp; done) | (simp; omega)
  have hat : BarAt s p (.slice (some ⟨b0, o0, none⟩) xs.length c0) ws w.heap.size 0 := by rw [hws]; exact (by unfold BarAt St.at; refine ⟨⟨?_, ?_, ?_, ?_, ?_, ?_⟩, ?_, ?_⟩ <;> go_simp)
  have HO00 : Hid (OF (w.heap.size + 1) ws (.slice (some ⟨w'.heap.size, 0, none⟩) 0 0) []) := by rw [hws]; first | exact OF.empty _ _ rfl (by first | omega | (simp; omega)) rfl | exact (OF.empty _ _ rfl (by first | omega | (simp; omega)) rfl).drewN _
  clear hws hb hk hT hsz
  go_loopw [4, 5, 6, 7, 8] (fun u t _ _ _ wr => ∃ (k c : Nat) (q : Option Addr) (ys : List Nat), k + 1 ≤ xs.length ∧ t = .int .i64 ((k : Int) + 1) ∧ u = .slice q ys.length c ∧ ys.length = k ∧ Hid (OF (w.heap.size + 1) wr (.slice q ys.length c) ys) ∧ Hid (ys.map (cn .f32) = flowsL s p xs k) ∧ Below w.heap.size w wr ∧ w.heap.size + 1 ≤ wr.heap.size ∧ Hid (BarAt s p (.slice (some ⟨b0, o0, none⟩) xs.length c0) wr w.heap.size 0)) (fun _ t _ _ _ _ => xs.length - (intOf t).toNat)
  case atStart => exact ⟨0, 0, some ⟨_, 0, none⟩, [], by omega, by simp, rfl, rfl, HO00.out, rfl, hBs, hzs, hat⟩
  case round =>
    clear hBs hzs hat HO00
    obtain ⟨k, c, q, ys, hk, rfl, rfl, hyl, HO, HL, hB, hzr, HAT⟩ := hrel
    obtain ⟨⟨g0, g1, g2, g3, g4, g5⟩, g6, g7⟩ := HAT.out
    simp only [Nat.zero_add] at g0 g1 g2 g3 g4 g5 g6 g7
    have HYL := Lib.hid hyl
    by_cases hlt : k + 1 < xs.length
    · have hlti : (k : Int) + 1 < (xs.length : Int) := by omega
      have ca := cell_later hB (HV.out k (by omega))
      have cb := cell_later hB (HV.out (k + 1) hlt)
      have hT : Trk wr [w.heap.size, b0] := ((Trk.nil wr).more (World.block_lt_of_cell? _ _ ca)).more (by omega)
      have HST : Hid (flowsL s p xs (k + 1) = flowsL s p xs k ++ [flowB s p (cn .f32 (xs.getD k 0)) (cn .f32 (xs.getD (k + 1) 0))]) := flowsL_step s p xs k
      have hi1 : IntKind.i64.wrap (k : Int) = (k : Int) := IntWalk.i64_in _ (by omega)
      have hlk : k < xs.length := by omega
      have hi2 : ((k : Int) + 1).toNat = k + 1 := by omega
      have hi3 : 0 ≤ (k : Int) + 1 := by omega
      generalize xs.getD k 0 = x at ca HST
      generalize xs.getD (k + 1) 0 = y at cb HST
      have hyn : ys.length ≤ 48 := by omega
      clear HV hyl
      go_wp2_with (first | (with_reducible refine at_list ?_; refine wpList_fop rfl rfl rfl rfl rfl ?_; intro r n hr0; have hr := hr0 _ _ (by first | with_reducible assumption | exact rfl) (by first | with_reducible assumption | exact rfl); clear hr0) | (with_reducible refine at_list ?_; refine wpList_neg rfl rfl rfl ?_; intro r hr0; have hr := hr0 _ (by first | with_reducible assumption | exact rfl); clear hr0) | (with_reducible refine at_list ?_; refine wpList_fop_g rfl rfl rfl rfl rfl ?_; intro r n hr0; have hr := hr0 _ _ (by first | with_reducible assumption | exact rfl) (by first | with_reducible assumption | exact rfl); clear hr0) | (with_reducible refine at_list ?_; refine wpList_wide_g rfl rfl Try.underlying22 Try.underlying40 rfl ?_; intro r n hr0; have hr := hr0 _ (by first | with_reducible assumption | exact rfl); clear hr0) | (with_reducible refine at_list ?_; refine wpList_wide rfl rfl rfl Try.underlying22 Try.underlying40 ?_; intro r n hr0; have hr := hr0 _ (by first | with_reducible assumption | exact rfl); clear hr0) | (go_at_call 21; refine (implValidBar_any _ _ _ _ _ (by assumption)).mono ?_; rintro e w' ⟨rfl, hb⟩; obtain ⟨hT, hk⟩ := bv_next hb (by (repeat (with_reducible first | assumption | apply Trk.alloc | apply Trk.setCell | apply Trk.drewN | apply Trk.drew | exact Trk.nil _))); simp only [SameOn, World.size_alloc, World.size_setCell, World.size_drew, size_drewN', and_true] at hk; have hsz := Below.size hb; (try simp only [World.size_alloc, World.size_setCell, World.size_drew, size_drewN'] at hsz)) | (go_at_call 79; refine (easeOf_any _ _ _).mono ?_; rintro e w' ⟨r, rfl, hr, hb⟩; obtain ⟨hT, hk⟩ := bv_next hb (by (repeat (with_reducible first | assumption | apply Trk.alloc | apply Trk.setCell | apply Trk.drewN | apply Trk.drew | exact Trk.nil _))); simp only [SameOn, World.size_alloc, World.size_setCell, World.size_drew, size_drewN', and_true] at hk; have hsz := Below.size hb; (try simp only [World.size_alloc, World.size_setCell, World.size_drew, size_drewN'] at hsz)) | (go_at_call 68; refine (warmOf_any _ _ _).mono ?_; rintro e w' ⟨r, rfl, hr, hb⟩; obtain ⟨hT, hk⟩ := bv_next hb (by (repeat (with_reducible first | assumption | apply Trk.alloc | apply Trk.setCell | apply Trk.drewN | apply Trk.drew | exact Trk.nil _))); simp only [SameOn, World.size_alloc, World.size_setCell, World.size_drew, size_drewN', and_true] at hk; have hsz := Below.size hb; (try simp only [World.size_alloc, World.size_setCell, World.size_drew, size_drewN'] at hsz)) | (go_at_call 77; refine (areFinite_any _ _ _ (by assumption)).mono ?_; rintro e w' ⟨rfl, n, rfl⟩))
      (apply wp_region_plan; ((apply wpC_det; (case hw => exact rfl); (case hs => (intro cs b h; cases h)); (case h1 => (intro w'; go_simp <;> exact rfl))); apply wpC_norm; (case ha => (simp only [Act.put, List.setIfInBounds_toArray, List.set_cons_zero, List.set_cons_succ]; exact rfl))); ((apply wpC_val; (case hw => exact rfl); (case h1 => (intro w' hb hk0; obtain ⟨hT, hk⟩ := bv_next hb (by (repeat (with_reducible first | assumption | apply Trk.alloc | apply Trk.setCell | apply Trk.drewN | apply Trk.drew | exact Trk.nil _))); simp only [SameOn, World.size_alloc, World.size_setCell, World.size_drew, size_drewN', and_true] at hk; have hsz := Below.size hb; (try simp only [World.size_alloc, World.size_setCell, World.size_drew, size_drewN'] at hsz); go_simp <;> exact rfl))); apply wpC_norm; (case ha => (simp only [Act.put, List.setIfInBounds_toArray, List.set_cons_zero, List.set_cons_succ]; exact rfl))); ((apply wpC_det; (case hw => exact rfl); (case hs => (intro cs b h; cases h)); (case h1 => (intro w'; go_simp <;> exact rfl))); apply wpC_norm; (case ha => (simp only [Act.put, List.setIfInBounds_toArray, List.set_cons_zero, List.set_cons_succ]; exact rfl))); ((apply wpC_val; (case hw => exact rfl); (case h1 => (intro w' hb hk0; obtain ⟨hT, hk⟩ := bv_next hb (by (repeat (with_reducible first | assumption | apply Trk.alloc | apply Trk.setCell | apply Trk.drewN | apply Trk.drew | exact Trk.nil _))); simp only [SameOn, World.size_alloc, World.size_setCell, World.size_drew, size_drewN', and_true] at hk; have hsz := Below.size hb; (try simp only [World.size_alloc, World.size_setCell, World.size_drew, size_drewN'] at hsz); go_simp <;> exact rfl))); apply wpC_norm; (case ha => (simp only [Act.put, List.setIfInBounds_toArray, List.set_cons_zero, List.set_cons_succ]; exact rfl))); ((apply wpC_det; (case hw => exact rfl); (case hs => (intro cs b h; cases h)); (case h1 => (intro w'; go_simp <;> exact rfl))); apply wpC_norm; (case ha => (simp only [Act.put, List.setIfInBounds_toArray, List.set_cons_zero, List.set_cons_succ]; exact rfl))); ((apply wpC_det; (case hw => exact rfl); (case hs => (intro cs b h; cases h)); (case h1 => (intro w'; go_simp <;> exact rfl))); apply wpC_norm; (case ha => (simp only [Act.put, List.setIfInBounds_toArray, List.set_cons_zero, List.set_cons_succ]; exact rfl))); ((apply wpC_det; (case hw => exact rfl); (case hs => (intro cs b h; cases h)); (case h1 => (intro w'; go_simp <;> exact rfl))); apply wpC_norm; (case ha => (simp only [Act.put, List.setIfInBounds_toArray, List.set_cons_zero, List.set_cons_succ]; exact rfl))); ((apply wpC_val; (case hw => exact rfl); (case h1 => (intro w' hb hk0; obtain ⟨hT, hk⟩ := bv_next hb (by (repeat (with_reducible first | assumption | apply Trk.alloc | apply Trk.setCell | apply Trk.drewN | apply Trk.drew | exact Trk.nil _))); simp only [SameOn, World.size_alloc, World.size_setCell, World.size_drew, size_drewN', and_true] at hk; have hsz := Below.size hb; (try simp only [World.size_alloc, World.size_setCell, World.size_drew, size_drewN'] at hsz); go_simp <;> exact rfl))); apply wpC_norm; (case ha => (simp only [Act.put, List.setIfInBounds_toArray, List.set_cons_zero, List.set_cons_succ]; exact rfl))); ((apply wpC_callF _ _; ((case hw => exact rfl)); (case h1 => (intro w'; go_simp; exact ⟨rfl, rfl⟩)); (case hc => (intro w' hb hk0; obtain ⟨hT, hk⟩ := bv_next hb (by (repeat (with_reducible first | assumption | apply Trk.alloc | apply Trk.setCell | apply Trk.drewN | apply Trk.drew | exact Trk.nil _))); simp only [SameOn, World.size_alloc, World.size_setCell, World.size_drew, size_drewN', and_true] at hk; have hsz := Below.size hb; (try simp only [World.size_alloc, World.size_setCell, World.size_drew, size_drewN'] at hsz); refine ((easeOf_any s _ _) ).mono ?_; intro e2 w3 h; (try simp only [*] at h); exact h)); (case hcc => (first | (with_reducible first | assumption | exact cn_fop _ _ _ _ | exact cn_cn _ _ | exact cn_wide _ | exact cn_narrow _ | exact cn_accC .. | exact cn_heatC .. | exact cn_half .. | exact cn_bet .. | exact cn_end .. | exact cn_erV .. | exact cn_exV .. | exact cn_slopeV .. | exact cn_rootC .. | exact cn_stF .. | exact cn_warmC .. | exact cn_partC .. | exact cn_easeC .. | exact cn_growC .. | exact cn_mostV .. | exact cn_passV .. | exact cn_flowL .. | exact cn_flowV .. | exact cn_fV .. | exact cn_heldA .. | exact cn_gainA .. | exact cn_meanV .. | exact cn_sqC .. | exact cn_gapC ..) | (refine cn_chk ?_; (with_reducible first | assumption | exact cn_fop _ _ _ _ | exact cn_cn _ _ | exact cn_wide _ | exact cn_narrow _ | exact cn_accC .. | exact cn_heatC .. | exact cn_half .. | exact cn_bet .. | exact cn_end .. | exact cn_erV .. | exact cn_exV .. | exact cn_slopeV .. | exact cn_rootC .. | exact cn_stF .. | exact cn_warmC .. | exact cn_partC .. | exact cn_easeC .. | exact cn_growC .. | exact cn_mostV .. | exact cn_passV .. | exact cn_flowL .. | exact cn_flowV .. | exact cn_fV .. | exact cn_heldA .. | exact cn_gainA .. | exact cn_meanV .. | exact cn_sqC .. | exact cn_gapC ..)) | (refine cn_gF ?_; (with_reducible first | assumption | exact cn_fop _ _ _ _ | exact cn_cn _ _ | exact cn_wide _ | exact cn_narrow _ | exact cn_accC .. | exact cn_heatC .. | exact cn_half .. | exact cn_bet .. | exact cn_end .. | exact cn_erV .. | exact cn_exV .. | exact cn_slopeV .. | exact cn_rootC .. | exact cn_stF .. | exact cn_warmC .. | exact cn_partC .. | exact cn_easeC .. | exact cn_growC .. | exact cn_mostV .. | exact cn_passV .. | exact cn_flowL .. | exact cn_flowV .. | exact cn_fV .. | exact cn_heldA .. | exact cn_gainA .. | exact cn_meanV .. | exact cn_sqC .. | exact cn_gapC ..)))); intro r hr); apply wpC_norm; (case ha => (simp only [Act.put, List.setIfInBounds_toArray, List.set_cons_zero, List.set_cons_succ]; exact rfl))); ((apply wpC_det; (case hw => exact rfl); (case hs => (intro cs b h; cases h)); (case h1 => (intro w'; go_simp <;> exact rfl))); apply wpC_norm; (case ha => (simp only [Act.put, List.setIfInBounds_toArray, List.set_cons_zero, List.set_cons_succ]; exact rfl))); ((apply wpC_val; (case hw => exact rfl); (case h1 => (intro w' hb hk0; obtain ⟨hT, hk⟩ := bv_next hb (by (repeat (with_reducible first | assumption | apply Trk.alloc | apply Trk.setCell | apply Trk.drewN | apply Trk.drew | exact Trk.nil _))); simp only [SameOn, World.size_alloc, World.size_setCell, World.size_drew, size_drewN', and_true] at hk; have hsz := Below.size hb; (try simp only [World.size_alloc, World.size_setCell, World.size_drew, size_drewN'] at hsz); go_simp <;> exact rfl))); apply wpC_norm; (case ha => (simp only [Act.put, List.setIfInBounds_toArray, List.set_cons_zero, List.set_cons_succ]; exact rfl))); ((apply wpC_det; (case hw => exact rfl); (case hs => (intro cs b h; cases h)); (case h1 => (intro w'; go_simp <;> exact rfl))); apply wpC_norm; (case ha => (simp only [Act.put, List.setIfInBounds_toArray, List.set_cons_zero, List.set_cons_succ]; exact rfl))); ((apply wpC_val; (case hw => exact rfl); (case h1 => (intro w' hb hk0; obtain ⟨hT, hk⟩ := bv_next hb (by (repeat (with_reducible first | assumption | apply Trk.alloc | apply Trk.setCell | apply Trk.drewN | apply Trk.drew | exact Trk.nil _))); simp only [SameOn, World.size_alloc, World.size_setCell, World.size_drew, size_drewN', and_true] at hk; have hsz := Below.size hb; (try simp only [World.size_alloc, World.size_setCell, World.size_drew, size_drewN'] at hsz); go_simp <;> exact rfl))); apply wpC_norm; (case ha => (simp only [Act.put, List.setIfInBounds_toArray, List.set_cons_zero, List.set_cons_succ]; exact rfl))); ((apply wpC_det; (case hw => exact rfl); (case hs => (intro cs b h; cases h)); (case h1 => (intro w'; go_simp <;> exact rfl))); apply wpC_norm; (case ha => (simp only [Act.put, List.setIfInBounds_toArray, List.set_cons_zero, List.set_cons_succ]; exact rfl))); ((apply wpC_det; (case hw => exact rfl); (case hs => (intro cs b h; cases h)); (case h1 => (intro w'; go_simp <;> exact rfl))); apply wpC_norm; (case ha => (simp only [Act.put, List.setIfInBounds_toArray, List.set_cons_zero, List.set_cons_succ]; exact rfl))); ((apply wpC_val; (case hw => exact rfl); (case h1 => (intro w' hb hk0; obtain ⟨hT, hk⟩ := bv_next hb (by (repeat (with_reducible first | assumption | apply Trk.alloc | apply Trk.setCell | apply Trk.drewN | apply Trk.drew | exact Trk.nil _))); simp only [SameOn, World.size_alloc, World.size_setCell, World.size_drew, size_drewN', and_true] at hk; have hsz := Below.size hb; (try simp only [World.size_alloc, World.size_setCell, World.size_drew, size_drewN'] at hsz); go_simp <;> exact rfl))); apply wpC_norm; (case ha => (simp only [Act.put, List.setIfInBounds_toArray, List.set_cons_zero, List.set_cons_succ]; exact rfl))); ((apply wpC_callF _ _; ((case hw => exact rfl)); (case h1 => (intro w'; go_simp; exact ⟨rfl, rfl⟩)); (case hc => (intro w' hb hk0; obtain ⟨hT, hk⟩ := bv_next hb (by (repeat (with_reducible first | assumption | apply Trk.alloc | apply Trk.setCell | apply Trk.drewN | apply Trk.drew | exact Trk.nil _))); simp only [SameOn, World.size_alloc, World.size_setCell, World.size_drew, size_drewN', and_true] at hk; have hsz := Below.size hb; (try simp only [World.size_alloc, World.size_setCell, World.size_drew, size_drewN'] at hsz); refine ((easeOf_any s _ _) ).mono ?_; intro e2 w3 h; (try simp only [*] at h); exact h)); (case hcc => (first | (with_reducible first | assumption | exact cn_fop _ _ _ _ | exact cn_cn _ _ | exact cn_wide _ | exact cn_narrow _ | exact cn_accC .. | exact cn_heatC .. | exact cn_half .. | exact cn_bet .. | exact cn_end .. | exact cn_erV .. | exact cn_exV .. | exact cn_slopeV .. | exact cn_rootC .. | exact cn_stF .. | exact cn_warmC .. | exact cn_partC .. | exact cn_easeC .. | exact cn_growC .. | exact cn_mostV .. | exact cn_passV .. | exact cn_flowL .. | exact cn_flowV .. | exact cn_fV .. | exact cn_heldA .. | exact cn_gainA .. | exact cn_meanV .. | exact cn_sqC .. | exact cn_gapC ..) | (refine cn_chk ?_; (with_reducible first | assumption | exact cn_fop _ _ _ _ | exact cn_cn _ _ | exact cn_wide _ | exact cn_narrow _ | exact cn_accC .. | exact cn_heatC .. | exact cn_half .. | exact cn_bet .. | exact cn_end .. | exact cn_erV .. | exact cn_exV .. | exact cn_slopeV .. | exact cn_rootC .. | exact cn_stF .. | exact cn_warmC .. | exact cn_partC .. | exact cn_easeC .. | exact cn_growC .. | exact cn_mostV .. | exact cn_passV .. | exact cn_flowL .. | exact cn_flowV .. | exact cn_fV .. | exact cn_heldA .. | exact cn_gainA .. | exact cn_meanV .. | exact cn_sqC .. | exact cn_gapC ..)) | (refine cn_gF ?_; (with_reducible first | assumption | exact cn_fop _ _ _ _ | exact cn_cn _ _ | exact cn_wide _ | exact cn_narrow _ | exact cn_accC .. | exact cn_heatC .. | exact cn_half .. | exact cn_bet .. | exact cn_end .. | exact cn_erV .. | exact cn_exV .. | exact cn_slopeV .. | exact cn_rootC .. | exact cn_stF .. | exact cn_warmC .. | exact cn_partC .. | exact cn_easeC .. | exact cn_growC .. | exact cn_mostV .. | exact cn_passV .. | exact cn_flowL .. | exact cn_flowV .. | exact cn_fV .. | exact cn_heldA .. | exact cn_gainA .. | exact cn_meanV .. | exact cn_sqC .. | exact cn_gapC ..)))); intro r hr); apply wpC_norm; (case ha => (simp only [Act.put, List.setIfInBounds_toArray, List.set_cons_zero, List.set_cons_succ]; exact rfl))); ((apply wpC_det; (case hw => exact rfl); (case hs => (intro cs b h; cases h)); (case h1 => (intro w'; go_simp <;> exact rfl))); apply wpC_norm; (case ha => (simp only [Act.put, List.setIfInBounds_toArray, List.set_cons_zero, List.set_cons_succ]; exact rfl))); ((apply wpC_det; (case hw => exact rfl); (case hs => (intro cs b h; cases h)); (case h1 => (intro w'; go_simp <;> exact rfl))); apply wpC_norm; (case ha => (simp only [Act.put, List.setIfInBounds_toArray, List.set_cons_zero, List.set_cons_succ]; exact rfl))); refine wpC_nil ?_; intro w' hb hkk; obtain ⟨hT, hk⟩ := bv_next hb (by (repeat (with_reducible first | assumption | apply Trk.alloc | apply Trk.setCell | apply Trk.drewN | apply Trk.drew | exact Trk.nil _))); simp only [SameOn, World.size_alloc, World.size_setCell, World.size_drew, size_drewN', and_true] at hk; have hsz := Below.size hb; (try simp only [World.size_alloc, World.size_setCell, World.size_drew, size_drewN'] at hsz))
      go_wp2_with (first | (with_reducible refine at_list ?_; refine wpList_fop rfl rfl rfl rfl rfl ?_; intro r n hr0; have hr := hr0 _ _ (by first | with_reducible assumption | exact rfl) (by first | with_reducible assumption | exact rfl); clear hr0) | (with_reducible refine at_list ?_; refine wpList_neg rfl rfl rfl ?_; intro r hr0; have hr := hr0 _ (by first | with_reducible assumption | exact rfl); clear hr0) | (with_reducible refine at_list ?_; refine wpList_fop_g rfl rfl rfl rfl rfl ?_; intro r n hr0; have hr := hr0 _ _ (by first | with_reducible assumption | exact rfl) (by first | with_reducible assumption | exact rfl); clear hr0) | (with_reducible refine at_list ?_; refine wpList_wide_g rfl rfl Try.underlying22 Try.underlying40 rfl ?_; intro r n hr0; have hr := hr0 _ (by first | with_reducible assumption | exact rfl); clear hr0) | (with_reducible refine at_list ?_; refine wpList_wide rfl rfl rfl Try.underlying22 Try.underlying40 ?_; intro r n hr0; have hr := hr0 _ (by first | with_reducible assumption | exact rfl); clear hr0) | (go_at_call 21; refine (implValidBar_any _ _ _ _ _ (by assumption)).mono ?_; rintro e w' ⟨rfl, hb⟩; obtain ⟨hT, hk⟩ := bv_next hb (by (repeat (with_reducible first | assumption | apply Trk.alloc | apply Trk.setCell | apply Trk.drewN | apply Trk.drew | exact Trk.nil _))); simp only [SameOn, World.size_alloc, World.size_setCell, World.size_drew, size_drewN', and_true] at hk; have hsz := Below.size hb; (try simp only [World.size_alloc, World.size_setCell, World.size_drew, size_drewN'] at hsz)) | (go_at_call 79; refine (easeOf_any _ _ _).mono ?_; rintro e w' ⟨r, rfl, hr, hb⟩; obtain ⟨hT, hk⟩ := bv_next hb (by (repeat (with_reducible first | assumption | apply Trk.alloc | apply Trk.setCell | apply Trk.drewN | apply Trk.drew | exact Trk.nil _))); simp only [SameOn, World.size_alloc, World.size_setCell, World.size_drew, size_drewN', and_true] at hk; have hsz := Below.size hb; (try simp only [World.size_alloc, World.size_setCell, World.size_drew, size_drewN'] at hsz)) | (go_at_call 68; refine (warmOf_any _ _ _).mono ?_; rintro e w' ⟨r, rfl, hr, hb⟩; obtain ⟨hT, hk⟩ := bv_next hb (by (repeat (with_reducible first | assumption | apply Trk.alloc | apply Trk.setCell | apply Trk.drewN | apply Trk.drew | exact Trk.nil _))); simp only [SameOn, World.size_alloc, World.size_setCell, World.size_drew, size_drewN', and_true] at hk; have hsz := Below.size hb; (try simp only [World.size_alloc, World.size_setCell, World.size_drew, size_drewN'] at hsz)) | (go_at_call 77; refine (areFinite_any _ _ _ (by assumption)).mono ?_; rintro e w' ⟨rfl, n, rfl⟩))
      (apply wp_region_plan; ((apply wpC_det; (case hw => exact rfl); (case hs => (intro cs b h; cases h)); (case h1 => (intro w'; go_simp <;> exact rfl))); apply wpC_norm; (case ha => (simp only [Act.put, List.setIfInBounds_toArray, List.set_cons_zero, List.set_cons_succ]; exact rfl))); ((apply wpC_det; (case hw => exact rfl); (case hs => (intro cs b h; cases h)); (case h1 => (intro w'; go_simp <;> exact rfl))); apply wpC_norm; (case ha => (simp only [Act.put, List.setIfInBounds_toArray, List.set_cons_zero, List.set_cons_succ]; exact rfl))); ((apply wpC_det; (case hw => exact rfl); (case hs => (intro cs b h; cases h)); (case h1 => (intro w'; go_simp <;> exact rfl))); apply wpC_norm; (case ha => (simp only [Act.put, List.setIfInBounds_toArray, List.set_cons_zero, List.set_cons_succ]; exact rfl))); ((apply wpC_val; (case hw => exact rfl); (case h1 => (intro w' hb hk0; obtain ⟨hT, hk⟩ := bv_next hb (by (repeat (with_reducible first | assumption | apply Trk.alloc | apply Trk.setCell | apply Trk.drewN | apply Trk.drew | exact Trk.nil _))); simp only [SameOn, World.size_alloc, World.size_setCell, World.size_drew, size_drewN', and_true] at hk; have hsz := Below.size hb; (try simp only [World.size_alloc, World.size_setCell, World.size_drew, size_drewN'] at hsz); go_simp <;> exact rfl))); apply wpC_norm; (case ha => (simp only [Act.put, List.setIfInBounds_toArray, List.set_cons_zero, List.set_cons_succ]; exact rfl))); ((apply wpC_det; (case hw => exact rfl); (case hs => (intro cs b h; cases h)); (case h1 => (intro w'; go_simp <;> exact rfl))); apply wpC_norm; (case ha => (simp only [Act.put, List.setIfInBounds_toArray, List.set_cons_zero, List.set_cons_succ]; exact rfl))); ((apply wpC_val; (case hw => exact rfl); (case h1 => (intro w' hb hk0; obtain ⟨hT, hk⟩ := bv_next hb (by (repeat (with_reducible first | assumption | apply Trk.alloc | apply Trk.setCell | apply Trk.drewN | apply Trk.drew | exact Trk.nil _))); simp only [SameOn, World.size_alloc, World.size_setCell, World.size_drew, size_drewN', and_true] at hk; have hsz := Below.size hb; (try simp only [World.size_alloc, World.size_setCell, World.size_drew, size_drewN'] at hsz); go_simp <;> exact rfl))); apply wpC_norm; (case ha => (simp only [Act.put, List.setIfInBounds_toArray, List.set_cons_zero, List.set_cons_succ]; exact rfl))); ((apply wpC_det; (case hw => exact rfl); (case hs => (intro cs b h; cases h)); (case h1 => (intro w'; go_simp <;> exact rfl))); apply wpC_norm; (case ha => (simp only [Act.put, List.setIfInBounds_toArray, List.set_cons_zero, List.set_cons_succ]; exact rfl))); ((apply wpC_det; (case hw => exact rfl); (case hs => (intro cs b h; cases h)); (case h1 => (intro w'; go_simp <;> exact rfl))); apply wpC_norm; (case ha => (simp only [Act.put, List.setIfInBounds_toArray, List.set_cons_zero, List.set_cons_succ]; exact rfl))); ((apply wpC_det; (case hw => exact rfl); (case hs => (intro cs b h; cases h)); (case h1 => (intro w'; go_simp <;> exact rfl))); apply wpC_norm; (case ha => (simp only [Act.put, List.setIfInBounds_toArray, List.set_cons_zero, List.set_cons_succ]; exact rfl))); ((apply wpC_val; (case hw => exact rfl); (case h1 => (intro w' hb hk0; obtain ⟨hT, hk⟩ := bv_next hb (by (repeat (with_reducible first | assumption | apply Trk.alloc | apply Trk.setCell | apply Trk.drewN | apply Trk.drew | exact Trk.nil _))); simp only [SameOn, World.size_alloc, World.size_setCell, World.size_drew, size_drewN', and_true] at hk; have hsz := Below.size hb; (try simp only [World.size_alloc, World.size_setCell, World.size_drew, size_drewN'] at hsz); go_simp <;> exact rfl))); apply wpC_norm; (case ha => (simp only [Act.put, List.setIfInBounds_toArray, List.set_cons_zero, List.set_cons_succ]; exact rfl))); ((apply wpC_callF _ _; ((case hw => exact rfl)); (case h1 => (intro w'; go_simp; exact ⟨rfl, rfl⟩)); (case hc => (intro w' hb hk0; obtain ⟨hT, hk⟩ := bv_next hb (by (repeat (with_reducible first | assumption | apply Trk.alloc | apply Trk.setCell | apply Trk.drewN | apply Trk.drew | exact Trk.nil _))); simp only [SameOn, World.size_alloc, World.size_setCell, World.size_drew, size_drewN', and_true] at hk; have hsz := Below.size hb; (try simp only [World.size_alloc, World.size_setCell, World.size_drew, size_drewN'] at hsz); refine ((warmOf_any s _ _) ).mono ?_; intro e2 w3 h; (try simp only [*] at h); exact h)); (case hcc => (first | (with_reducible first | assumption | exact cn_fop _ _ _ _ | exact cn_cn _ _ | exact cn_wide _ | exact cn_narrow _ | exact cn_accC .. | exact cn_heatC .. | exact cn_half .. | exact cn_bet .. | exact cn_end .. | exact cn_erV .. | exact cn_exV .. | exact cn_slopeV .. | exact cn_rootC .. | exact cn_stF .. | exact cn_warmC .. | exact cn_partC .. | exact cn_easeC .. | exact cn_growC .. | exact cn_mostV .. | exact cn_passV .. | exact cn_flowL .. | exact cn_flowV .. | exact cn_fV .. | exact cn_heldA .. | exact cn_gainA .. | exact cn_meanV .. | exact cn_sqC .. | exact cn_gapC ..) | (refine cn_chk ?_; (with_reducible first | assumption | exact cn_fop _ _ _ _ | exact cn_cn _ _ | exact cn_wide _ | exact cn_narrow _ | exact cn_accC .. | exact cn_heatC .. | exact cn_half .. | exact cn_bet .. | exact cn_end .. | exact cn_erV .. | exact cn_exV .. | exact cn_slopeV .. | exact cn_rootC .. | exact cn_stF .. | exact cn_warmC .. | exact cn_partC .. | exact cn_easeC .. | exact cn_growC .. | exact cn_mostV .. | exact cn_passV .. | exact cn_flowL .. | exact cn_flowV .. | exact cn_fV .. | exact cn_heldA .. | exact cn_gainA .. | exact cn_meanV .. | exact cn_sqC .. | exact cn_gapC ..)) | (refine cn_gF ?_; (with_reducible first | assumption | exact cn_fop _ _ _ _ | exact cn_cn _ _ | exact cn_wide _ | exact cn_narrow _ | exact cn_accC .. | exact cn_heatC .. | exact cn_half .. | exact cn_bet .. | exact cn_end .. | exact cn_erV .. | exact cn_exV .. | exact cn_slopeV .. | exact cn_rootC .. | exact cn_stF .. | exact cn_warmC .. | exact cn_partC .. | exact cn_easeC .. | exact cn_growC .. | exact cn_mostV .. | exact cn_passV .. | exact cn_flowL .. | exact cn_flowV .. | exact cn_fV .. | exact cn_heldA .. | exact cn_gainA .. | exact cn_meanV .. | exact cn_sqC .. | exact cn_gapC ..)))); intro r hr); apply wpC_norm; (case ha => (simp only [Act.put, List.setIfInBounds_toArray, List.set_cons_zero, List.set_cons_succ]; exact rfl))); ((apply wpC_det; (case hw => exact rfl); (case hs => (intro cs b h; cases h)); (case h1 => (intro w'; go_simp <;> exact rfl))); apply wpC_norm; (case ha => (simp only [Act.put, List.setIfInBounds_toArray, List.set_cons_zero, List.set_cons_succ]; exact rfl))); ((apply wpC_val; (case hw => exact rfl); (case h1 => (intro w' hb hk0; obtain ⟨hT, hk⟩ := bv_next hb (by (repeat (with_reducible first | assumption | apply Trk.alloc | apply Trk.setCell | apply Trk.drewN | apply Trk.drew | exact Trk.nil _))); simp only [SameOn, World.size_alloc, World.size_setCell, World.size_drew, size_drewN', and_true] at hk; have hsz := Below.size hb; (try simp only [World.size_alloc, World.size_setCell, World.size_drew, size_drewN'] at hsz); go_simp <;> exact rfl))); apply wpC_norm; (case ha => (simp only [Act.put, List.setIfInBounds_toArray, List.set_cons_zero, List.set_cons_succ]; exact rfl))); ((apply wpC_det; (case hw => exact rfl); (case hs => (intro cs b h; cases h)); (case h1 => (intro w'; go_simp <;> exact rfl))); apply wpC_norm; (case ha => (simp only [Act.put, List.setIfInBounds_toArray, List.set_cons_zero, List.set_cons_succ]; exact rfl))); ((apply wpC_val; (case hw => exact rfl); (case h1 => (intro w' hb hk0; obtain ⟨hT, hk⟩ := bv_next hb (by (repeat (with_reducible first | assumption | apply Trk.alloc | apply Trk.setCell | apply Trk.drewN | apply Trk.drew | exact Trk.nil _))); simp only [SameOn, World.size_alloc, World.size_setCell, World.size_drew, size_drewN', and_true] at hk; have hsz := Below.size hb; (try simp only [World.size_alloc, World.size_setCell, World.size_drew, size_drewN'] at hsz); go_simp <;> exact rfl))); apply wpC_norm; (case ha => (simp only [Act.put, List.setIfInBounds_toArray, List.set_cons_zero, List.set_cons_succ]; exact rfl))); ((apply wpC_det; (case hw => exact rfl); (case hs => (intro cs b h; cases h)); (case h1 => (intro w'; go_simp <;> exact rfl))); apply wpC_norm; (case ha => (simp only [Act.put, List.setIfInBounds_toArray, List.set_cons_zero, List.set_cons_succ]; exact rfl))); ((apply wpC_det; (case hw => exact rfl); (case hs => (intro cs b h; cases h)); (case h1 => (intro w'; go_simp <;> exact rfl))); apply wpC_norm; (case ha => (simp only [Act.put, List.setIfInBounds_toArray, List.set_cons_zero, List.set_cons_succ]; exact rfl))); ((apply wpC_val; (case hw => exact rfl); (case h1 => (intro w' hb hk0; obtain ⟨hT, hk⟩ := bv_next hb (by (repeat (with_reducible first | assumption | apply Trk.alloc | apply Trk.setCell | apply Trk.drewN | apply Trk.drew | exact Trk.nil _))); simp only [SameOn, World.size_alloc, World.size_setCell, World.size_drew, size_drewN', and_true] at hk; have hsz := Below.size hb; (try simp only [World.size_alloc, World.size_setCell, World.size_drew, size_drewN'] at hsz); go_simp <;> exact rfl))); apply wpC_norm; (case ha => (simp only [Act.put, List.setIfInBounds_toArray, List.set_cons_zero, List.set_cons_succ]; exact rfl))); ((apply wpC_callF _ _; ((case hw => exact rfl)); (case h1 => (intro w'; go_simp; exact ⟨rfl, rfl⟩)); (case hc => (intro w' hb hk0; obtain ⟨hT, hk⟩ := bv_next hb (by (repeat (with_reducible first | assumption | apply Trk.alloc | apply Trk.setCell | apply Trk.drewN | apply Trk.drew | exact Trk.nil _))); simp only [SameOn, World.size_alloc, World.size_setCell, World.size_drew, size_drewN', and_true] at hk; have hsz := Below.size hb; (try simp only [World.size_alloc, World.size_setCell, World.size_drew, size_drewN'] at hsz); refine ((warmOf_any s _ _) ).mono ?_; intro e2 w3 h; (try simp only [*] at h); exact h)); (case hcc => (first | (with_reducible first | assumption | exact cn_fop _ _ _ _ | exact cn_cn _ _ | exact cn_wide _ | exact cn_narrow _ | exact cn_accC .. | exact cn_heatC .. | exact cn_half .. | exact cn_bet .. | exact cn_end .. | exact cn_erV .. | exact cn_exV .. | exact cn_slopeV .. | exact cn_rootC .. | exact cn_stF .. | exact cn_warmC .. | exact cn_partC .. | exact cn_easeC .. | exact cn_growC .. | exact cn_mostV .. | exact cn_passV .. | exact cn_flowL .. | exact cn_flowV .. | exact cn_fV .. | exact cn_heldA .. | exact cn_gainA .. | exact cn_meanV .. | exact cn_sqC .. | exact cn_gapC ..) | (refine cn_chk ?_; (with_reducible first | assumption | exact cn_fop _ _ _ _ | exact cn_cn _ _ | exact cn_wide _ | exact cn_narrow _ | exact cn_accC .. | exact cn_heatC .. | exact cn_half .. | exact cn_bet .. | exact cn_end .. | exact cn_erV .. | exact cn_exV .. | exact cn_slopeV .. | exact cn_rootC .. | exact cn_stF .. | exact cn_warmC .. | exact cn_partC .. | exact cn_easeC .. | exact cn_growC .. | exact cn_mostV .. | exact cn_passV .. | exact cn_flowL .. | exact cn_flowV .. | exact cn_fV .. | exact cn_heldA .. | exact cn_gainA .. | exact cn_meanV .. | exact cn_sqC .. | exact cn_gapC ..)) | (refine cn_gF ?_; (with_reducible first | assumption | exact cn_fop _ _ _ _ | exact cn_cn _ _ | exact cn_wide _ | exact cn_narrow _ | exact cn_accC .. | exact cn_heatC .. | exact cn_half .. | exact cn_bet .. | exact cn_end .. | exact cn_erV .. | exact cn_exV .. | exact cn_slopeV .. | exact cn_rootC .. | exact cn_stF .. | exact cn_warmC .. | exact cn_partC .. | exact cn_easeC .. | exact cn_growC .. | exact cn_mostV .. | exact cn_passV .. | exact cn_flowL .. | exact cn_flowV .. | exact cn_fV .. | exact cn_heldA .. | exact cn_gainA .. | exact cn_meanV .. | exact cn_sqC .. | exact cn_gapC ..)))); intro r hr); apply wpC_norm; (case ha => (simp only [Act.put, List.setIfInBounds_toArray, List.set_cons_zero, List.set_cons_succ]; exact rfl))); ((apply wpC_fop rfl rfl rfl rfl rfl; intro r hr0; have hr := hr0 _ _ (by first | with_reducible assumption | exact rfl) (by first | with_reducible assumption | exact rfl); clear hr0); apply wpC_norm; (case ha => (simp only [Act.put, List.setIfInBounds_toArray, List.set_cons_zero, List.set_cons_succ]; exact rfl))); ((apply wpC_fop rfl rfl rfl rfl rfl; intro r hr0; have hr := hr0 _ _ (by first | with_reducible assumption | exact rfl) (by first | with_reducible assumption | exact rfl); clear hr0); apply wpC_norm; (case ha => (simp only [Act.put, List.setIfInBounds_toArray, List.set_cons_zero, List.set_cons_succ]; exact rfl))); ((apply wpC_det; (case hw => exact rfl); (case hs => (intro cs b h; cases h)); (case h1 => (intro w'; go_simp <;> exact rfl))); apply wpC_norm; (case ha => (simp only [Act.put, List.setIfInBounds_toArray, List.set_cons_zero, List.set_cons_succ]; exact rfl))); ((apply wpC_val; (case hw => exact rfl); (case h1 => (intro w' hb hk0; obtain ⟨hT, hk⟩ := bv_next hb (by (repeat (with_reducible first | assumption | apply Trk.alloc | apply Trk.setCell | apply Trk.drewN | apply Trk.drew | exact Trk.nil _))); simp only [SameOn, World.size_alloc, World.size_setCell, World.size_drew, size_drewN', and_true] at hk; have hsz := Below.size hb; (try simp only [World.size_alloc, World.size_setCell, World.size_drew, size_drewN'] at hsz); go_simp <;> exact rfl))); apply wpC_norm; (case ha => (simp only [Act.put, List.setIfInBounds_toArray, List.set_cons_zero, List.set_cons_succ]; exact rfl))); ((apply wpC_fop rfl rfl rfl rfl rfl; intro r hr0; have hr := hr0 _ _ (by first | with_reducible assumption | exact rfl) (by first | with_reducible assumption | exact rfl); clear hr0); apply wpC_norm; (case ha => (simp only [Act.put, List.setIfInBounds_toArray, List.set_cons_zero, List.set_cons_succ]; exact rfl))); ((apply wpC_lit1; (case hx => (first | exact rfl | (simp [Op.operands]; exact rfl))); (case hw => exact rfl); (case h1 => (intro w'; go_simp <;> exact rfl)); intro bv); apply wpC_norm; (case ha => (simp only [Act.put, List.setIfInBounds_toArray, List.set_cons_zero, List.set_cons_succ]; exact rfl))); refine wpC_tail (by kernel_rfl) (by first | rfl | kernel_rfl) ?_; intro w' hb hkk; obtain ⟨hT, hk⟩ := bv_next hb (by (repeat (with_reducible first | assumption | apply Trk.alloc | apply Trk.setCell | apply Trk.drewN | apply Trk.drew | exact Trk.nil _))); simp only [SameOn, World.size_alloc, World.size_setCell, World.size_drew, size_drewN', and_true] at hk; have hsz := Below.size hb; (try simp only [World.size_alloc, World.size_setCell, World.size_drew, size_drewN'] at hsz))
      apply wpList_app (B := w.heap.size + 1) (xs := ys) (v := .slice q ys.length c)
      case hg => rfl
      case ho => rfl
      case hs => rfl
      case hx => rfl
      case hO => exact OF.later HO.out (by (repeat (first | (with_reducible exact Below.refl _ _) | (with_reducible assumption) | (with_reducible refine below_then ?_ (by assumption)) | (with_reducible refine Below.trans ?_ (by assumption)) | (with_reducible refine below_drewN ?_ _) | (with_reducible apply Below.drew) | (with_reducible refine below_alloc ?_ _) | refine Below.setCell ?_ (by first | (simp; done) | (simp; omega)) _)))
      case hc => exact (hkk.1.2 0 _ rfl).1
      case hn => omega
      case hB => omega
      intro q2 c2 w2 hO2 hB2
      have hw2 : w.heap.size + 1 ≤ w2.heap.size := by have := hB2.size; omega
      have hB3 := Below.trans (B := w.heap.size) (a := w) (by (repeat (first | (with_reducible exact Below.refl _ _) | (with_reducible assumption) | (with_reducible refine below_then ?_ (by assumption)) | (with_reducible refine Below.trans ?_ (by assumption)) | (with_reducible refine below_drewN ?_ _) | (with_reducible apply Below.drew) | (with_reducible refine below_alloc ?_ _) | refine Below.setCell ?_ (by first | (simp; done) | (simp; omega)) _))) (hB2.mono (by omega))
      have hat2 : BarAt s p (.slice (some ⟨b0, o0, none⟩) xs.length c0) w2 w.heap.size 0 := bar_later (by unfold BarAt St.at; refine ⟨⟨?_, ?_, ?_, ?_, ?_, ?_⟩, ?_, ?_⟩ <;> go_simp) hB2 (by omega)
      have hL2 : Hid ((ys ++ [r]).map (cn .f32) = flowsL s p xs (k + 1)) := by
        show _ = _
        rw [HST.out, List.map_append, HL.out]
        have hrr : cn .f32 r = flowB s p (cn .f32 x) (cn .f32 y) := by unfold flowB; assumption
        simp [hrr]
      have HB3 := Lib.hid hB3
      have HAT2 := Lib.hid hat2
      have HO2 := Lib.hid hO2
      clear hat2 hB3 hB2 hO2 hkk
      go_wp2
      go_roundw
      case rel => exact ⟨k + 1, c2, q2, ys ++ [r], by omega, by go_num, by simp, by simp [HYL.out], by show OF _ _ _ _; have := HO2.out; simpa using this, hL2.out, HB3.out, hw2, HAT2.out⟩
      case measure => simp [intOf]; omega
      all_goals first | kernel_rfl | rfl
    · have hlti : ¬ (k : Int) + 1 < (xs.length : Int) := by omega
      have hke : xs.length - 1 = k := by omega
      have HYS : Hid (ys.map (cn .f32) = flowsL s p xs (xs.length - 1)) := by show _ = _; rw [hke]; exact HL.out
      have HAF := Lib.hid (fun w h => areFinite_any ys (.slice q ys.length c) w h)
      rw [any_cn ys HYS.out] at HAF
      rcases f1 : (flowsL s p xs (xs.length - 1)).any fun x => !fin .f32 x
      · rw [f1] at HAF
        have HF : Hid (flowsOk s p xs = true) := by show _ = _; rw [HOK.out, f1]; rfl
        have HE := Lib.hid (HE1.out HF.out)
        clear HL f1 hke hyl
        go_wp2_with (first | (with_reducible refine at_list ?_; refine wpList_fop rfl rfl rfl rfl rfl ?_; intro r n hr0; have hr := hr0 _ _ (by first | with_reducible assumption | exact rfl) (by first | with_reducible assumption | exact rfl); clear hr0) | (with_reducible refine at_list ?_; refine wpList_neg rfl rfl rfl ?_; intro r hr0; have hr := hr0 _ (by first | with_reducible assumption | exact rfl); clear hr0) | (with_reducible refine at_list ?_; refine wpList_fop_g rfl rfl rfl rfl rfl ?_; intro r n hr0; have hr := hr0 _ _ (by first | with_reducible assumption | exact rfl) (by first | with_reducible assumption | exact rfl); clear hr0) | (with_reducible refine at_list ?_; refine wpList_wide_g rfl rfl Try.underlying22 Try.underlying40 rfl ?_; intro r n hr0; have hr := hr0 _ (by first | with_reducible assumption | exact rfl); clear hr0) | (with_reducible refine at_list ?_; refine wpList_wide rfl rfl rfl Try.underlying22 Try.underlying40 ?_; intro r n hr0; have hr := hr0 _ (by first | with_reducible assumption | exact rfl); clear hr0) | (go_at_call 21; refine (implValidBar_any _ _ _ _ _ (by assumption)).mono ?_; rintro e w' ⟨rfl, hb⟩; obtain ⟨hT, hk⟩ := bv_next hb (by (repeat (with_reducible first | assumption | apply Trk.alloc | apply Trk.setCell | apply Trk.drewN | apply Trk.drew | exact Trk.nil _))); simp only [SameOn, World.size_alloc, World.size_setCell, World.size_drew, size_drewN', and_true] at hk; have hsz := Below.size hb; (try simp only [World.size_alloc, World.size_setCell, World.size_drew, size_drewN'] at hsz)) | (go_at_call 79; refine (easeOf_any _ _ _).mono ?_; rintro e w' ⟨r, rfl, hr, hb⟩; obtain ⟨hT, hk⟩ := bv_next hb (by (repeat (with_reducible first | assumption | apply Trk.alloc | apply Trk.setCell | apply Trk.drewN | apply Trk.drew | exact Trk.nil _))); simp only [SameOn, World.size_alloc, World.size_setCell, World.size_drew, size_drewN', and_true] at hk; have hsz := Below.size hb; (try simp only [World.size_alloc, World.size_setCell, World.size_drew, size_drewN'] at hsz)) | (go_at_call 68; refine (warmOf_any _ _ _).mono ?_; rintro e w' ⟨r, rfl, hr, hb⟩; obtain ⟨hT, hk⟩ := bv_next hb (by (repeat (with_reducible first | assumption | apply Trk.alloc | apply Trk.setCell | apply Trk.drewN | apply Trk.drew | exact Trk.nil _))); simp only [SameOn, World.size_alloc, World.size_setCell, World.size_drew, size_drewN', and_true] at hk; have hsz := Below.size hb; (try simp only [World.size_alloc, World.size_setCell, World.size_drew, size_drewN'] at hsz)) | (go_at_call 77; refine ((HAF.out _ (FS.later (OF.fs HO.out) (by (repeat (first | (with_reducible exact Below.refl _ _) | (with_reducible assumption) | (with_reducible refine below_then ?_ (by assumption)) | (with_reducible refine Below.trans ?_ (by assumption)) | (with_reducible refine below_drewN ?_ _) | (with_reducible apply Below.drew) | (with_reducible refine below_alloc ?_ _) | refine Below.setCell ?_ (by first | (simp; done) | (simp; omega)) _))))) ).mono ?_; rintro e w' ⟨rfl, n, rfl⟩))
        go_ret2
        exact ⟨_, ys, by rw [HF.out]; rfl, by (repeat (first | (with_reducible exact Below.refl _ _) | (with_reducible assumption) | (with_reducible refine below_then ?_ (by assumption)) | (with_reducible refine Below.trans ?_ (by assumption)) | (with_reducible refine below_drewN ?_ _) | (with_reducible apply Below.drew) | (with_reducible refine below_alloc ?_ _) | refine Below.setCell ?_ (by first | (simp; done) | (simp; omega)) _)), OF.base (OF.later HO.out (by (repeat (first | (with_reducible exact Below.refl _ _) | (with_reducible assumption) | (with_reducible refine below_then ?_ (by assumption)) | (with_reducible refine Below.trans ?_ (by assumption)) | (with_reducible refine below_drewN ?_ _) | (with_reducible apply Below.drew) | (with_reducible refine below_alloc ?_ _) | refine Below.setCell ?_ (by first | (simp; done) | (simp; omega)) _)))) (by omega), by rw [HE.out]; exact HYS.out⟩
      · rw [f1] at HAF
        have HF : Hid (flowsOk s p xs = false) := by show _ = _; rw [HOK.out, f1]; rfl
        have HE := Lib.hid (HE0.out HF.out)
        clear HL f1 hke hyl
        go_wp2_with (first | (with_reducible refine at_list ?_; refine wpList_fop rfl rfl rfl rfl rfl ?_; intro r n hr0; have hr := hr0 _ _ (by first | with_reducible assumption | exact rfl) (by first | with_reducible assumption | exact rfl); clear hr0) | (with_reducible refine at_list ?_; refine wpList_neg rfl rfl rfl ?_; intro r hr0; have hr := hr0 _ (by first | with_reducible assumption | exact rfl); clear hr0) | (with_reducible refine at_list ?_; refine wpList_fop_g rfl rfl rfl rfl rfl ?_; intro r n hr0; have hr := hr0 _ _ (by first | with_reducible assumption | exact rfl) (by first | with_reducible assumption | exact rfl); clear hr0) | (with_reducible refine at_list ?_; refine wpList_wide_g rfl rfl Try.underlying22 Try.underlying40 rfl ?_; intro r n hr0; have hr := hr0 _ (by first | with_reducible assumption | exact rfl); clear hr0) | (with_reducible refine at_list ?_; refine wpList_wide rfl rfl rfl Try.underlying22 Try.underlying40 ?_; intro r n hr0; have hr := hr0 _ (by first | with_reducible assumption | exact rfl); clear hr0) | (go_at_call 21; refine (implValidBar_any _ _ _ _ _ (by assumption)).mono ?_; rintro e w' ⟨rfl, hb⟩; obtain ⟨hT, hk⟩ := bv_next hb (by (repeat (with_reducible first | assumption | apply Trk.alloc | apply Trk.setCell | apply Trk.drewN | apply Trk.drew | exact Trk.nil _))); simp only [SameOn, World.size_alloc, World.size_setCell, World.size_drew, size_drewN', and_true] at hk; have hsz := Below.size hb; (try simp only [World.size_alloc, World.size_setCell, World.size_drew, size_drewN'] at hsz)) | (go_at_call 79; refine (easeOf_any _ _ _).mono ?_; rintro e w' ⟨r, rfl, hr, hb⟩; obtain ⟨hT, hk⟩ := bv_next hb (by (repeat (with_reducible first | assumption | apply Trk.alloc | apply Trk.setCell | apply Trk.drewN | apply Trk.drew | exact Trk.nil _))); simp only [SameOn, World.size_alloc, World.size_setCell, World.size_drew, size_drewN', and_true] at hk; have hsz := Below.size hb; (try simp only [World.size_alloc, World.size_setCell, World.size_drew, size_drewN'] at hsz)) | (go_at_call 68; refine (warmOf_any _ _ _).mono ?_; rintro e w' ⟨r, rfl, hr, hb⟩; obtain ⟨hT, hk⟩ := bv_next hb (by (repeat (with_reducible first | assumption | apply Trk.alloc | apply Trk.setCell | apply Trk.drewN | apply Trk.drew | exact Trk.nil _))); simp only [SameOn, World.size_alloc, World.size_setCell, World.size_drew, size_drewN', and_true] at hk; have hsz := Below.size hb; (try simp only [World.size_alloc, World.size_setCell, World.size_drew, size_drewN'] at hsz)) | (go_at_call 77; refine ((HAF.out _ (FS.later (OF.fs HO.out) (by (repeat (first | (with_reducible exact Below.refl _ _) | (with_reducible assumption) | (with_reducible refine below_then ?_ (by assumption)) | (with_reducible refine Below.trans ?_ (by assumption)) | (with_reducible refine below_drewN ?_ _) | (with_reducible apply Below.drew) | (with_reducible refine below_alloc ?_ _) | refine Below.setCell ?_ (by first | (simp; done) | (simp; omega)) _))))) ).mono ?_; rintro e w' ⟨rfl, n, rfl⟩))
        go_ret2
        exact ⟨_, [], by rw [HF.out]; rfl, by (repeat (first | (with_reducible exact Below.refl _ _) | (with_reducible assumption) | (with_reducible refine below_then ?_ (by assumption)) | (with_reducible refine Below.trans ?_ (by assumption)) | (with_reducible refine below_drewN ?_ _) | (with_reducible apply Below.drew) | (with_reducible refine below_alloc ?_ _) | refine Below.setCell ?_ (by first | (simp; done) | (simp; omega)) _)), OF.nil0 _ _, by rw [HE.out]; rfl⟩
end Go.Proofs.Ytjeeflldbhajiaa
set_option linter.unusedSimpArgs false
set_option linter.unusedVariables false
set_option linter.unusedSectionVars false
namespace Go.Proofs.Ytjeeflldbhajiaa
open Go Go.RowKit
open Go.ChangeShapes Go.WideShapes Go.ChangeAt Go.RowKit Go.Joins
end Go.Proofs.Ytjeeflldbhajiaa
set_option linter.unusedSimpArgs false
set_option linter.unusedVariables false
set_option linter.unusedSectionVars false
namespace Go.Proofs.Ytjeeflldbhajiaa
open Go Go.RowKit
theorem rnd_rel {f : Ieee.Format} {v r M : Rat} (h : Rnd f v r) (h1 : v ≤ M) (h2 : -v ≤ M) : 2 * (r - v) ≤ M * tp (-(f.fractionBits : Int)) + tp f.leastPlace ∧ 2 * (v - r) ≤ M * tp (-(f.fractionBits : Int)) + tp f.leastPlace := by
  obtain ⟨last, k, hl, hr, e1, e2, h3⟩ := h
  have hM : 0 ≤ M := by grind
  have t1 := tp_pos (-(f.fractionBits : Int))
  have t2 := tp_pos f.leastPlace
  have hm := Rat.mul_nonneg hM (Rat.le_of_lt t1)
  have hle : tp last ≤ M * tp (-(f.fractionBits : Int)) + tp f.leastPlace := by
    have key : tp (last + f.fractionBits) ≤ M → tp last ≤ M * tp (-(f.fractionBits : Int)) := fun h => by
      have e : tp last = tp (last + f.fractionBits) * tp (-(f.fractionBits : Int)) := by rw [← tp_add]; congr 1; omega
      rw [e]
      exact Rat.mul_le_mul_of_nonneg_right h (Rat.le_of_lt t1)
    rcases h3 with h3 | h3 | h3
    · rw [h3]; grind
    · have := key (Rat.le_trans h3 h1); grind
    · have := key (Rat.le_trans h3 h2); grind
  exact ⟨by grind, by grind⟩
/-- One operation on numbers of at most 2^Q. -/
theorem fop_q (op : BinOp) (hop : arithOp op = true) {x y : Nat} (hx : fnt .f32 x = true) (hy : fnt .f32 y = true) (h0 : op = .quo → fv .f32 y ≠ 0) (Q : Int) (hQ : -100 ≤ Q ∧ Q ≤ 100) (h1 : ex op (fv .f32 x) (fv .f32 y) ≤ tp Q) (h2 : -ex op (fv .f32 x) (fv .f32 y) ≤ tp Q) :
    Nr (fop op .f32 x y) (ex op (fv .f32 x) (fv .f32 y)) (tp (Q - 24)) := by
  obtain ⟨g1, g2⟩ := fop_rnd op hop .f32 hx hy h0 Q (show Q < 128 by omega) h1 h2
  have := rnd_err (Q := Q) g2 h1 h2 (show (-149 : Int) ≤ Q - 23 by omega)
  have e : Q - (FloatKind.f32.format.fractionBits : Int) - 1 = Q - 24 := by show Q - 23 - 1 = Q - 24; omega
  rw [e] at this
  exact ⟨g1, this.1, this.2⟩
theorem tp_n19 : tp (-19) * 524288 = 1 := by
  have h : tp (-19) * tp 19 = 1 := by rw [← tp_add]; exact tp_zero
  rwa [show tp 19 = 524288 from (tp_nat 19).trans rfl] at h
theorem tpq4 : tp 4 = 16 := (tp_nat 4).trans rfl
/-- How warm stuff with a heat is. -/
def wX (a b p l : Int) (h : Rat) : Rat := if h < 0 then (p : Rat) + h * ((a : Rat) / 2)⁻¹ else if (l : Rat) / 2 < h then (p : Rat) + (h - (l : Rat) / 2) * ((b : Rat) / 2)⁻¹ else (p : Rat)
theorem inv_fact {A m : Rat} (hm : 0 < m) (hA : m ≤ A) : 0 < A⁻¹ ∧ A * A⁻¹ = 1 ∧ m * A⁻¹ ≤ 1 := by
  have h0 : 0 < A := by grind
  have h1 : 0 < A⁻¹ := Rat.inv_pos.2 h0
  have h2 : A * A⁻¹ = 1 := Rat.mul_inv_cancel A (by grind)
  have h3 := Rat.mul_le_mul_of_nonneg_right hA (Rat.le_of_lt h1)
  exact ⟨h1, h2, by grind⟩
theorem scale_le {z m i : Rat} (hz : 0 ≤ z) (hi : 0 < i) (hmi : m * i ≤ 1) : 0 ≤ z * i ∧ m * (z * i) ≤ z := by
  have h1 := Rat.mul_nonneg hz (Rat.le_of_lt hi)
  have h2 := Rat.mul_le_mul_of_nonneg_right hmi hz
  exact ⟨h1, by grind⟩
section
variable {a b p l : Int} {m : Rat}
end
section
variable {s : St} {a b c d p l : Int}
theorem SV.rat (h : SV s a b c d p l) : ((1 : Rat) ≤ (a : Rat) ∧ (a : Rat) ≤ 8) ∧ ((1 : Rat) ≤ (b : Rat) ∧ (b : Rat) ≤ 8) ∧ ((1 : Rat) ≤ (c : Rat) ∧ (c : Rat) ≤ 8) ∧ ((1 : Rat) ≤ (d : Rat) ∧ (d : Rat) ≤ 8) ∧ (-(4 : Rat) ≤ (p : Rat) ∧ (p : Rat) ≤ 4) ∧ ((1 : Rat) ≤ (l : Rat) ∧ (l : Rat) ≤ 16) := by
  obtain ⟨h1, h2, h3, h4, h5, h6⟩ := h.bd
  have f : ∀ {x : Int} {u v : Int}, u ≤ x ∧ x ≤ v → (u : Rat) ≤ (x : Rat) ∧ (x : Rat) ≤ (v : Rat) := fun h => ⟨icast_le h.1, icast_le h.2⟩
  exact ⟨f h1, f h2, f h3, f h4, f (u := -4) h5, f h6⟩
/-- How warm: near what is exact, and not great. -/
theorem warm_near (h : SV s a b c d p l) {H : Nat} (hH : Bnd .f32 H 9) : Nr (warmC s.k H) (wX a b p l (fv .f32 H)) (4 * tp (-17)) ∧ Bnd .f32 (warmC s.k H) 23 := by
  obtain ⟨⟨a1, a2⟩, ⟨b1, b2⟩, _, _, ⟨p1, p2⟩, ⟨l1, l2⟩⟩ := h.rat
  obtain ⟨hf, h1, h2⟩ := hH
  have ht := tp_n17
  have ht0 := tp_pos (-17)
  obtain ⟨i1, i2, i3⟩ := inv_fact (A := (a : Rat) / 2) (m := 1 / 2) (by grind) (by grind)
  obtain ⟨j1, j2, j3⟩ := inv_fact (A := (b : Rat) / 2) (m := 1 / 2) (by grind) (by grind)
  unfold warmC wX
  rw [fltv hf V0.1, V0.2]
  by_cases c1 : fv .f32 H < 0
  · rw [if_pos (decide_eq_true c1), if_pos c1]
    have e : ex .quo (fv .f32 H) (fv .f32 s.k.a) = fv .f32 H * ((a : Rat) / 2)⁻¹ := by simp only [ex]; rw [h.A.2, Rat.div_def]
    have q := scale_le (z := -fv .f32 H) (by grind) i1 i3
    have N := fop_nr .quo rfl hf h.A.1 (fun _ => by rw [h.A.2]; grind) (by rw [e]; grind) (by rw [e]; grind)
    rw [e] at N
    have N2 := fop_nr .add rfl h.P.1 N.1 (by simp) (by simp only [ex]; rw [h.P.2]; have := N.2; grind) (by simp only [ex]; rw [h.P.2]; have := N.2; grind)
    simp only [ex] at N2
    rw [h.P.2] at N2
    obtain ⟨n0, n1, n2⟩ := N
    obtain ⟨m0, m1, m2⟩ := N2
    exact ⟨⟨m0, by grind, by grind⟩, m0, by grind, by grind⟩
  · rw [if_neg (by rw [decide_eq_false c1]; simp), if_neg c1, fgtv hf h.L.1, h.L.2]
    by_cases c2 : (l : Rat) / 2 < fv .f32 H
    · rw [if_pos (decide_eq_true c2), if_pos c2]
      have S := fop_nr .sub rfl hf h.L.1 (by simp) (by simp only [ex]; rw [h.L.2]; grind) (by simp only [ex]; rw [h.L.2]; grind)
      simp only [ex] at S
      rw [h.L.2] at S
      obtain ⟨s0, s1, s2⟩ := S
      have e : ex .quo (fv .f32 (fop .sub .f32 H s.k.l)) (fv .f32 s.k.b) = fv .f32 (fop .sub .f32 H s.k.l) * ((b : Rat) / 2)⁻¹ := by simp only [ex]; rw [h.B.2, Rat.div_def]
      have q1 := scale_le (z := fv .f32 (fop .sub .f32 H s.k.l) - (fv .f32 H - (l : Rat) / 2) + tp (-17)) (by grind) j1 j3
      have q2 := scale_le (z := (fv .f32 H - (l : Rat) / 2) - fv .f32 (fop .sub .f32 H s.k.l) + tp (-17)) (by grind) j1 j3
      have q3 := scale_le (z := fv .f32 H - (l : Rat) / 2) (by grind) j1 j3
      have q4 := scale_le (z := tp (-17)) (by grind) j1 j3
      generalize ((b : Rat) / 2)⁻¹ = j at *
      have N := fop_nr .quo rfl s0 h.B.1 (fun _ => by rw [h.B.2]; grind) (by rw [e]; grind) (by rw [e]; grind)
      rw [e] at N
      obtain ⟨n0, n1, n2⟩ := N
      have N2 := fop_nr .add rfl h.P.1 n0 (by simp) (by simp only [ex]; rw [h.P.2]; grind) (by simp only [ex]; rw [h.P.2]; grind)
      simp only [ex] at N2
      rw [h.P.2] at N2
      obtain ⟨m0, m1, m2⟩ := N2
      exact ⟨⟨m0, by grind, by grind⟩, m0, by grind, by grind⟩
    · rw [if_neg (by rw [decide_eq_false c2]; simp), if_neg c2]
      exact ⟨⟨h.P.1, by rw [h.P.2]; grind, by rw [h.P.2]; grind⟩, h.P.1, by rw [h.P.2]; grind, by rw [h.P.2]; grind⟩
/-- Which part is molten: between 0 and 1. -/
theorem part_in (h : SV s a b c d p l) {H : Nat} (hH : fnt .f32 H = true) : Btw .f32 (partC s.k H) 0 1 := by
  obtain ⟨_, _, _, _, _, ⟨l1, l2⟩⟩ := h.rat
  have z0 : Btw .f32 (cn .f32 0) 0 1 := ⟨V0.1, by rw [V0.2]; decide, by rw [V0.2]; decide⟩
  unfold partC
  rw [fltv hH V0.1, V0.2]
  by_cases c1 : fv .f32 H < 0
  · rw [if_pos (decide_eq_true c1)]; exact z0
  · rw [if_neg (by rw [decide_eq_false c1]; simp), fgtv hH h.L.1, h.L.2]
    by_cases c2 : (l : Rat) / 2 < fv .f32 H
    · rw [if_pos (decide_eq_true c2)]
      exact ⟨V1.1, by rw [V1.2]; decide, by rw [V1.2]; exact Rat.le_refl⟩
    · rw [if_neg (by rw [decide_eq_false c2]; simp)]
      obtain ⟨i1, i2, _⟩ := inv_fact (A := (l : Rat) / 2) (m := 1 / 2) (by grind) (by grind)
      have r1 := Rat.mul_nonneg (show 0 ≤ fv .f32 H by grind) (Rat.le_of_lt i1)
      have r2 := Rat.mul_le_mul_of_nonneg_right (show fv .f32 H ≤ (l : Rat) / 2 by grind) (Rat.le_of_lt i1)
      refine fop_btw .quo rfl .f32 hH h.L.1 (fun _ => by rw [h.L.2]; grind) (Rep.int (k := .f32) 0 (by decide)) (Rep.int (k := .f32) 1 (by decide)) ?_ ?_
      · simp only [ex]; rw [h.L.2, Rat.div_def]; exact r1
      · simp only [ex]; rw [h.L.2, Rat.div_def]; show _ ≤ (1 : Rat); grind
/-- How easily heat flows: between what is solid and what is molten. -/
theorem ease_in (h : SV s a b c d p l) {H : Nat} (hH : fnt .f32 H = true) {lo hi : Int} (h1 : lo ≤ c ∧ lo ≤ d) (h2 : c ≤ hi ∧ d ≤ hi) (h3 : 1 ≤ lo) (h4 : hi ≤ 8) : Btw .f32 (easeC s.k H) ((lo : Rat) / 4) ((hi : Rat) / 4) := by
  obtain ⟨_, _, ⟨c1, c2⟩, ⟨d1, d2⟩, _, _⟩ := h.rat
  have hb := h.bd
  obtain ⟨p0, p1, p2⟩ := part_in h hH
  have eD : ex .sub ((d : Rat) / 4) ((c : Rat) / 4) = ((d - c : Int) : Rat) / 4 := by simp only [ex]; rw [Rat.intCast_sub]; grind
  have D := V.op .sub rfl h.D h.C (by simp) (by rw [eD]; exact rep_quarter (by omega))
  rw [eD] at D
  have lc : (lo : Rat) ≤ (c : Rat) := icast_le h1.1
  have ld : (lo : Rat) ≤ (d : Rat) := icast_le h1.2
  have ch : (c : Rat) ≤ (hi : Rat) := icast_le h2.1
  have dh : (d : Rat) ≤ (hi : Rat) := icast_le h2.2
  have ed : ((d - c : Int) : Rat) = (d : Rat) - (c : Rat) := Rat.intCast_sub _ _
  -- the product lies between lo - c and hi - c
  have M := fop_btw .mul rfl .f32 (x := partC s.k H) (y := fop .sub .f32 s.k.d s.k.c) (a := ((lo - c : Int) : Rat) / 4) (b := ((hi - c : Int) : Rat) / 4) p0 D.1 (by simp) (rep_quarter (by omega)) (rep_quarter (by omega)) (by
    simp only [ex]; rw [D.2, ed, Rat.intCast_sub]
    have q := Rat.mul_nonneg p1 (show 0 ≤ (d : Rat) - (lo : Rat) by grind)
    have r := Rat.mul_nonneg (show 0 ≤ 1 - fv .f32 (partC s.k H) by grind) (show 0 ≤ (c : Rat) - (lo : Rat) by grind)
    grind) (by
    simp only [ex]; rw [D.2, ed, Rat.intCast_sub]
    have q := Rat.mul_nonneg p1 (show 0 ≤ (hi : Rat) - (d : Rat) by grind)
    have r := Rat.mul_nonneg (show 0 ≤ 1 - fv .f32 (partC s.k H) by grind) (show 0 ≤ (hi : Rat) - (c : Rat) by grind)
    grind)
  obtain ⟨m0, m1, m2⟩ := M
  rw [Rat.intCast_sub] at m1 m2
  unfold easeC
  refine fop_btw .add rfl .f32 h.C.1 m0 (by simp) (rep_quarter (by omega)) (rep_quarter (by omega)) ?_ ?_
  · simp only [ex]; rw [h.C.2]; grind
  · simp only [ex]; rw [h.C.2]; grind
end
end Go.Proofs.Ytjeeflldbhajiaa
set_option linter.unusedSimpArgs false
set_option linter.unusedVariables false
set_option linter.unusedSectionVars false
namespace Go.Proofs.Ytjeeflldbhajiaa
open Go Go.RowKit
theorem same_raw {k : FloatKind} {x : Nat} (hf : fnt k (cn k x) = true) : cn k x = x := by
  cases hn : isN k x with
  | true =>
    rw [cn_of_isN hn] at hf
    have : fnt k (qn k) = false := by cases k <;> decide +kernel
    rw [this] at hf; cases hf
  | false => exact cn_of_not hn
theorem val_fv {x y : Nat} (hx : fnt .f32 x = true) (hy : fnt .f32 y = true) : (val x < val y) ↔ (fv .f32 x < fv .f32 y) := by
  have a := flt_val (fin_isF0 (show fin .f32 x = true by rw [fin_num]; exact hx)) (fin_isF0 (show fin .f32 y = true by rw [fin_num]; exact hy))
  rw [fltv hx hy] at a
  exact (decide_eq_decide.1 a).symm
theorem fmin_fv {x y : Nat} (hx : fnt .f32 x = true) (hy : fnt .f32 y = true) : (fmin x y = x ∨ fmin x y = y) ∧ fv .f32 (fmin x y) ≤ fv .f32 x ∧ fv .f32 (fmin x y) ≤ fv .f32 y := by
  have h1 := val_fv hx hy
  have h2 := val_fv hy hx
  unfold fmin
  by_cases c : val y < val x
  · rw [if_pos c]; exact ⟨.inr rfl, Rat.le_of_lt (h2.1 c), Rat.le_refl⟩
  · rw [if_neg c]
    have n2 : ¬ fv .f32 y < fv .f32 x := fun e => c (h2.2 e)
    by_cases c2 : val x < val y
    · rw [if_pos c2]; exact ⟨.inl rfl, Rat.le_refl, by grind⟩
    · rw [if_neg c2]
      have n1 : ¬ fv .f32 x < fv .f32 y := fun e => c2 (h1.2 e)
      split
      · exact ⟨.inl rfl, Rat.le_refl, by grind⟩
      · exact ⟨.inr rfl, by grind, Rat.le_refl⟩
theorem fmax_fv {x y : Nat} (hx : fnt .f32 x = true) (hy : fnt .f32 y = true) : (fmax x y = x ∨ fmax x y = y) ∧ fv .f32 x ≤ fv .f32 (fmax x y) ∧ fv .f32 y ≤ fv .f32 (fmax x y) := by
  have h1 := val_fv hx hy
  have h2 := val_fv hy hx
  unfold fmax
  by_cases c : val x < val y
  · rw [if_pos c]; exact ⟨.inr rfl, Rat.le_of_lt (h1.1 c), Rat.le_refl⟩
  · rw [if_neg c]
    have n2 : ¬ fv .f32 x < fv .f32 y := fun e => c (h1.2 e)
    by_cases c2 : val y < val x
    · rw [if_pos c2]; exact ⟨.inl rfl, Rat.le_refl, by grind⟩
    · rw [if_neg c2]
      have n1 : ¬ fv .f32 y < fv .f32 x := fun e => c2 (h2.2 e)
      split
      · exact ⟨.inr rfl, by grind, Rat.le_refl⟩
      · exact ⟨.inl rfl, Rat.le_refl, by grind⟩
/-- The lesser of two capacities, the greater of two eases. -/
def lessI (a b : Int) : Int := if a ≤ b then a else b
def moreI (a b : Int) : Int := if a ≤ b then b else a
theorem lessI_le (a b : Int) : lessI a b ≤ a ∧ lessI a b ≤ b ∧ (lessI a b = a ∨ lessI a b = b) := by unfold lessI; split <;> omega
theorem moreI_le (a b : Int) : a ≤ moreI a b ∧ b ≤ moreI a b ∧ (moreI a b = a ∨ moreI a b = b) := by unfold moreI; split <;> omega
section
variable {s : St} {a b c d p l : Int}
theorem less_val (h : SV s a b c d p l) : V .f32 (cn .f32 (fmin s.a s.b)) ((lessI a b : Rat) / 2) := by
  have ea : cn .f32 s.a = s.a := same_raw h.A.1
  have eb : cn .f32 s.b = s.b := same_raw h.B.1
  have hA : V .f32 s.a ((a : Rat) / 2) := by have := h.A; rwa [show s.k.a = s.a from ea] at this
  have hB : V .f32 s.b ((b : Rat) / 2) := by have := h.B; rwa [show s.k.b = s.b from eb] at this
  obtain ⟨h1, h2, h3⟩ := fmin_fv hA.1 hB.1
  rw [hA.2] at h2
  rw [hB.2] at h3
  refine V.cn ?_
  unfold lessI
  rcases h1 with e | e
  · rw [e] at h2 h3 ⊢
    rw [hA.2] at h3
    by_cases c : a ≤ b
    · rw [if_pos c]; exact hA
    · rw [if_neg c]
      have : ((b : Int) : Rat) < (a : Rat) := icast_lt (by omega)
      exfalso; grind
  · rw [e] at h2 h3 ⊢
    rw [hB.2] at h2
    by_cases c : a ≤ b
    · rw [if_pos c]
      have : ((a : Int) : Rat) ≤ (b : Rat) := icast_le c
      exact hB.eq (by grind)
    · rw [if_neg c]; exact hB
theorem more_val (h : SV s a b c d p l) : V .f32 (cn .f32 (fmax s.c s.d)) ((moreI c d : Rat) / 4) := by
  have ea : cn .f32 s.c = s.c := same_raw h.C.1
  have eb : cn .f32 s.d = s.d := same_raw h.D.1
  have hA : V .f32 s.c ((c : Rat) / 4) := by have := h.C; rwa [show s.k.c = s.c from ea] at this
  have hB : V .f32 s.d ((d : Rat) / 4) := by have := h.D; rwa [show s.k.d = s.d from eb] at this
  obtain ⟨h1, h2, h3⟩ := fmax_fv hA.1 hB.1
  rw [hA.2] at h2
  rw [hB.2] at h3
  refine V.cn ?_
  unfold moreI
  rcases h1 with e | e
  · rw [e] at h2 h3 ⊢
    rw [hA.2] at h3
    by_cases q : c ≤ d
    · rw [if_pos q]
      have : ((c : Int) : Rat) ≤ (d : Rat) := icast_le q
      exact hA.eq (by grind)
    · rw [if_neg q]; exact hA
  · rw [e] at h2 h3 ⊢
    rw [hB.2] at h2
    by_cases q : c ≤ d
    · rw [if_pos q]; exact hB
    · rw [if_neg q]
      have : ((d : Int) : Rat) < (c : Rat) := icast_lt (by omega)
      exfalso; grind
theorem tp_n34 : tp (-34) * 17179869184 = 1 := by
  have h : tp (-34) * tp 34 = 1 := by rw [← tp_add]; exact tp_zero
  rwa [show tp 34 = 17179869184 from (tp_nat 34).trans rfl] at h
theorem tp_n6 : tp (-6) * 64 = 1 := by
  have h : tp (-6) * tp 6 = 1 := by rw [← tp_add]; exact tp_zero
  rwa [show tp 6 = 64 from (tp_nat 6).trans rfl] at h
theorem tp_n7' : tp (-7) * 128 = 1 := by
  have h : tp (-7) * tp 7 = 1 := by rw [← tp_add]; exact tp_zero
  rwa [tp7] at h
theorem rep64th {n : Int} (h : n.natAbs < 16777216) : Rep .f32 ((n : Rat) / 64) := rep_at (k := .f32) n (-6) h (by decide) (by decide) (by have := tp_n6; grind)
theorem rep128th {n : Int} (h : n.natAbs < 16777216) : Rep .f32 ((n : Rat) / 128) := rep_at (k := .f32) n (-7) h (by decide) (by decide) (by have := tp_n7'; grind)
theorem V25 : V .f32 (cn .f32 1048576000) ((1 : Rat) / 4) := by
  have e0 : cn .f32 1048576000 = fop .quo .f32 (floatOfInt .f32 1) (floatOfInt .f32 4) := by decide +kernel
  rw [e0]
  have e : (((1 : Int) : Rat) / ((4 : Int) : Rat)) = (1 : Rat) / 4 := rfl
  have := V.op .quo rfl (V.int .f32 1 (by decide)) (V.int .f32 4 (by decide)) (fun _ => by decide) (by simp only [ex]; exact rep_quarter (n := 1) (by decide))
  exact this.eq e
/-- The tick that is allowed. -/
theorem most_val (h : SV s a b c d p l) {q : Nat} {e : Int} (he : 1 ≤ e ∧ e ≤ 8) (hq : V .f32 (cn .f32 q) ((e : Rat) / 4)) : Btw .f32 (mostV s q) ((1 : Rat) / 256) 16 ∧ fv .f32 (mostV s q) * ((moreI c d : Rat) / 4) ≤ 1001 / 1000 * ((e : Rat) * (e : Rat) * (lessI a b : Rat) / 128) := by
  have hb := h.bd
  have l1 := lessI_le a b
  have m1 := moreI_le c d
  have lm := less_val h
  have mm := more_val h
  obtain ⟨n, hn⟩ : ∃ n, lessI a b = n := ⟨_, rfl⟩
  obtain ⟨x, hx⟩ : ∃ x, moreI c d = x := ⟨_, rfl⟩
  rw [hn] at l1 lm ⊢
  rw [hx] at m1 mm ⊢
  have n1 : 1 ≤ n ∧ n ≤ 8 := by omega
  have x1 : 1 ≤ x ∧ x ≤ 8 := by omega
  have s1 : ex .mul ((1 : Rat) / 4) ((e : Rat) / 4) = (e : Rat) / 16 := by simp only [ex]; grind
  have A1 := V.op .mul rfl V25 hq (by simp) (by rw [s1]; exact rep16 e (by omega))
  rw [s1] at A1
  have s2 : ex .mul ((e : Rat) / 16) ((e : Rat) / 4) = ((e * e : Int) : Rat) / 64 := by simp only [ex]; rw [Rat.intCast_mul]; grind
  have ee : e * e ≤ 8 * 8 := Int.mul_le_mul he.2 he.2 (by omega) (by omega)
  have ee1 : 1 * 1 ≤ e * e := Int.mul_le_mul he.1 he.1 (by omega) (by omega)
  have A2 := V.op .mul rfl A1 hq (by simp) (by rw [s2]; exact rep64th (by omega))
  rw [s2] at A2
  have s3 : ex .mul (((e * e : Int) : Rat) / 64) ((n : Rat) / 2) = ((e * e * n : Int) : Rat) / 128 := by simp only [ex]; rw [Rat.intCast_mul (e * e) n]; grind
  have en : e * e * n ≤ 64 * 8 := Int.mul_le_mul (by omega) n1.2 (by omega) (by omega)
  have en1 : 1 * 1 ≤ e * e * n := Int.mul_le_mul (by omega) n1.1 (by omega) (by omega)
  have A3 := V.op .mul rfl A2 lm (by simp) (by rw [s3]; exact rep128th (by omega))
  rw [s3] at A3
  have N1 : ((1 : Int) : Rat) ≤ ((e * e * n : Int) : Rat) := icast_le (by omega)
  have N2 : ((e * e * n : Int) : Rat) ≤ ((512 : Int) : Rat) := icast_le (by omega)
  have X1 : ((1 : Int) : Rat) ≤ (x : Rat) := icast_le x1.1
  have X2 : (x : Rat) ≤ ((8 : Int) : Rat) := icast_le x1.2
  have eN : ((e * e * n : Int) : Rat) = (e : Rat) * (e : Rat) * (n : Rat) := by rw [Rat.intCast_mul, Rat.intCast_mul]
  generalize ((e * e * n : Int) : Rat) = N at *
  have hne : fv .f32 (cn .f32 (fmax s.c s.d)) ≠ 0 := by rw [mm.2]; grind
  have hv : (N / 128 / ((x : Rat) / 4)) * (x : Rat) = N / 32 := by grind
  have hv1 : (1 : Rat) / 256 ≤ N / 128 / ((x : Rat) / 4) := by
    generalize N / 128 / ((x : Rat) / 4) = y at hv ⊢
    refine mul_cancel_le (c := (x : Rat)) (by grind) ?_
    rw [hv]; grind
  have hv2 : N / 128 / ((x : Rat) / 4) ≤ 16 := by
    generalize N / 128 / ((x : Rat) / 4) = y at hv ⊢
    refine mul_cancel_le (c := (x : Rat)) (by grind) ?_
    rw [hv]; grind
  have r256 : Rep .f32 ((1 : Rat) / 256) := rep_at (k := .f32) 1 (-8) (by decide) (by decide) (by decide) (by
    have h8 : tp (-8) * 256 = 1 := by
      have h : tp (-8) * tp 8 = 1 := by rw [← tp_add]; exact tp_zero
      rwa [show tp 8 = 256 from (tp_nat 8).trans rfl] at h
    have : ((1 : Int) : Rat) = 1 := rfl
    rw [this]; grind)
  have r16 : Rep .f32 (16 : Rat) := Rep.int (k := .f32) 16 (by decide)
  have B := fop_btw .quo rfl .f32 A3.1 mm.1 (fun _ => hne) r256 r16 (by simp only [ex]; rw [A3.2, mm.2]; exact hv1) (by simp only [ex]; rw [A3.2, mm.2]; exact hv2)
  refine ⟨B, ?_⟩
  have R := (fop_rnd .quo rfl .f32 A3.1 mm.1 (fun _ => hne) 4 (by decide) (by simp only [ex]; rw [A3.2, mm.2, tpq4]; exact hv2) (by simp only [ex]; rw [A3.2, mm.2, tpq4]; grind)).2
  simp only [ex] at R
  rw [A3.2, mm.2] at R
  have E := (rnd_rel R (Rat.le_refl) (by grind)).1
  have t1 : tp (-(FloatKind.f32.format.fractionBits : Int)) ≤ 1 / 1000 := by
    have : tp (-(FloatKind.f32.format.fractionBits : Int)) ≤ tp (-17) := tp_le (by decide)
    have := tp_n17; grind
  have t2 : tp FloatKind.f32.format.leastPlace ≤ tp (-34) := tp_le (by decide)
  have t0 := tp_pos (-(FloatKind.f32.format.fractionBits : Int))
  have t34 := tp_n34
  show fv .f32 (fop .quo .f32 (fop .mul .f32 (fop .mul .f32 (fop .mul .f32 (cn .f32 1048576000) (cn .f32 q)) (cn .f32 q)) (cn .f32 (fmin s.a s.b))) (cn .f32 (fmax s.c s.d))) * _ ≤ _
  generalize fv .f32 (fop .quo .f32 (fop .mul .f32 (fop .mul .f32 (fop .mul .f32 (cn .f32 1048576000) (cn .f32 q)) (cn .f32 q)) (cn .f32 (fmin s.a s.b))) (cn .f32 (fmax s.c s.d))) = r at E ⊢
  rw [← eN]
  generalize N / 128 / ((x : Rat) / 4) = y at *
  generalize tp (-(FloatKind.f32.format.fractionBits : Int)) = u at *
  generalize tp FloatKind.f32.format.leastPlace = u2 at *
  have e1 := Rat.mul_le_mul_of_nonneg_left t1 (show 0 ≤ y by grind)
  have e2 : r ≤ y + y / 1000 := by grind
  have e3 := Rat.mul_le_mul_of_nonneg_right e2 (show 0 ≤ (x : Rat) / 4 by grind)
  grind
/-- The mean of two eases. -/
theorem mean_btw {x y : Nat} {M : Rat} (hM : (1 : Rat) / 4 ≤ M ∧ M ≤ 2) (hx : Btw .f32 x ((1 : Rat) / 4) M) (hy : Btw .f32 y ((1 : Rat) / 4) M) : fnt .f32 (fop .quo .f32 (fop .mul .f32 (fop .mul .f32 (cn .f32 1073741824) x) y) (fop .add .f32 x y)) = true ∧ 0 ≤ fv .f32 (fop .quo .f32 (fop .mul .f32 (fop .mul .f32 (cn .f32 1073741824) x) y) (fop .add .f32 x y)) ∧ fv .f32 (fop .quo .f32 (fop .mul .f32 (fop .mul .f32 (cn .f32 1073741824) x) y) (fop .add .f32 x y)) ≤ 1001 / 1000 * M := by
  obtain ⟨x0, x1, x2⟩ := hx
  obtain ⟨y0, y1, y2⟩ := hy
  have ht := tp_n17
  have ht0 := tp_pos (-17)
  have A := fop_nr .mul rfl V2.1 x0 (by simp) (by simp only [ex]; rw [V2.2]; grind) (by simp only [ex]; rw [V2.2]; grind)
  simp only [ex] at A
  rw [V2.2] at A
  obtain ⟨a0, a1, a2⟩ := A
  generalize fop .mul .f32 (cn .f32 1073741824) x = X at *
  have pb : 0 ≤ fv .f32 X * fv .f32 y ∧ fv .f32 X * fv .f32 y ≤ (2 * fv .f32 x + tp (-17)) * fv .f32 y := by
    exact ⟨Rat.mul_nonneg (by grind) (by grind), Rat.mul_le_mul_of_nonneg_right (by grind) (by grind)⟩
  have xy1 := Rat.mul_nonneg (show 0 ≤ M - fv .f32 y by grind) (show 0 ≤ fv .f32 x by grind)
  have xy2 := Rat.mul_nonneg (show 0 ≤ M - fv .f32 x by grind) (show 0 ≤ fv .f32 y by grind)
  have xy3 := Rat.mul_nonneg (show 0 ≤ 2 - fv .f32 y by grind) (show 0 ≤ tp (-17) by grind)
  have xy4 := Rat.mul_nonneg (show 0 ≤ 2 - M by grind) (show 0 ≤ fv .f32 x by grind)
  have xy5 := Rat.mul_nonneg (show 0 ≤ 2 - M by grind) (show 0 ≤ fv .f32 y by grind)
  have B := fop_nr .mul rfl a0 y0 (by simp) (by simp only [ex]; grind) (by simp only [ex]; grind)
  have C := fop_nr .add rfl x0 y0 (by simp) (by simp only [ex]; grind) (by simp only [ex]; grind)
  simp only [ex] at B C
  obtain ⟨b0, b1, b2⟩ := B
  obtain ⟨c0, c1, c2⟩ := C
  have P0 := (fop_btw .mul rfl .f32 (a := 0) (b := 64) a0 y0 (by simp) (Rep.int (k := .f32) 0 (by decide)) (Rep.int (k := .f32) 64 (by decide)) (by simp only [ex]; exact pb.1) (by simp only [ex]; grind)).2.1
  generalize fop .mul .f32 X y = Y at *
  generalize fop .add .f32 x y = S at *
  have hs : (1 : Rat) / 3 ≤ fv .f32 S := by grind
  have hne : fv .f32 S ≠ 0 := by grind
  have hq : (fv .f32 Y / fv .f32 S) * fv .f32 S = fv .f32 Y := by grind
  have mt := Rat.mul_nonneg (show 0 ≤ 2 - M by grind) (show 0 ≤ tp (-17) by grind)
  have up : fv .f32 Y ≤ (M + 21 * tp (-17)) * fv .f32 S := by
    have g1 := Rat.mul_nonneg (show 0 ≤ fv .f32 S - 1 / 3 by grind) (show 0 ≤ tp (-17) by grind)
    have g2 := Rat.mul_nonneg (show 0 ≤ M by grind) (show 0 ≤ fv .f32 S - (fv .f32 x + fv .f32 y - tp (-17)) by grind)
    grind
  have q1 : fv .f32 Y / fv .f32 S ≤ M + 21 * tp (-17) := mul_cancel_le (c := fv .f32 S) (by grind) (by rw [hq]; exact up)
  have q0 : 0 ≤ fv .f32 Y / fv .f32 S := mul_cancel_le (c := fv .f32 S) (by grind) (by rw [hq]; grind)
  have D := fop_nr .quo rfl b0 c0 (fun _ => hne) (by simp only [ex]; grind) (by simp only [ex]; grind)
  simp only [ex] at D
  obtain ⟨d0, d1, d2⟩ := D
  have Z := (fop_btw .quo rfl .f32 (a := 0) (b := 64) b0 c0 (fun _ => hne) (Rep.int (k := .f32) 0 (by decide)) (Rep.int (k := .f32) 64 (by decide)) (by simp only [ex]; exact q0) (by simp only [ex]; grind)).2.1
  exact ⟨d0, Z, by grind⟩
end
end Go.Proofs.Ytjeeflldbhajiaa
set_option linter.unusedSimpArgs false
set_option linter.unusedVariables false
set_option linter.unusedSectionVars false
namespace Go.Proofs.Ytjeeflldbhajiaa
open Go Go.RowKit
/-- A drawn stuff, step and a tick that is allowed. -/
structure TK (s : St) (a b c d p l : Int) (q : Nat) (e : Int) (T : Nat) : Prop where
  sv : SV s a b c d p l
  he : 1 ≤ e ∧ e ≤ 8
  hq : V .f32 (cn .f32 q) ((e : Rat) / 4)
  hT : fnt .f32 T = true
  t0 : 0 < fv .f32 T
  t1 : fv .f32 T ≤ fv .f32 (mostV s q)
section
variable {s : St} {a b c d p l : Int} {q : Nat} {e : Int} {T : Nat}
/-- The tick over the step, and over its square. -/
theorem TK.nums (h : TK s a b c d p l q e T) : ∃ i g τ : Rat, (i * ((e : Rat) / 4) = 1 ∧ 0 < i ∧ i ≤ 4 ∧ (1 : Rat) / 2 ≤ i) ∧ (g = fv .f32 T * i ∧ 0 < g ∧ g ≤ 9) ∧ (τ = g * i ∧ 0 < τ ∧ τ ≤ 5) ∧ τ * ((moreI c d : Rat) / 4) ≤ 1001 / 4000 * ((lessI a b : Rat) / 2) := by
  have hb := h.sv.bd
  obtain ⟨_, hm⟩ := most_val h.sv h.he h.hq
  have l1 := lessI_le a b
  have m1 := moreI_le c d
  have he := h.he
  have E1 : ((1 : Int) : Rat) ≤ (e : Rat) := icast_le he.1
  have E2 : (e : Rat) ≤ ((8 : Int) : Rat) := icast_le he.2
  have N1 : ((1 : Int) : Rat) ≤ (lessI a b : Rat) := icast_le (by omega)
  have N2 : (lessI a b : Rat) ≤ ((8 : Int) : Rat) := icast_le (by omega)
  have M1 : ((1 : Int) : Rat) ≤ (moreI c d : Rat) := icast_le (by omega)
  have M2 : (moreI c d : Rat) ≤ ((8 : Int) : Rat) := icast_le (by omega)
  have t0 := h.t0
  have t1 := h.t1
  generalize (lessI a b : Rat) = n at *
  generalize (moreI c d : Rat) = m at *
  generalize fv .f32 T = t at *
  generalize fv .f32 (mostV s q) = y at *
  generalize (e : Rat) = E at *
  have hE : 0 < E / 4 := by grind
  obtain ⟨i0, i1⟩ : 0 < (E / 4)⁻¹ ∧ (E / 4) * (E / 4)⁻¹ = 1 := ⟨Rat.inv_pos.2 hE, Rat.mul_inv_cancel _ (by grind)⟩
  generalize (E / 4)⁻¹ = i at *
  have i2 : i ≤ 4 := by
    have := Rat.mul_nonneg (show 0 ≤ E - 1 by grind) (Rat.le_of_lt i0)
    grind
  have i3 : (1 : Rat) / 2 ≤ i := by
    have := Rat.mul_nonneg (show 0 ≤ 8 - E by grind) (Rat.le_of_lt i0)
    grind
  have k0 : t * (m / 4) ≤ 1001 / 1000 * (E * E * n / 128) := by
    have := Rat.mul_le_mul_of_nonneg_right t1 (show 0 ≤ m / 4 by grind)
    grind
  have ii := Rat.mul_nonneg (Rat.le_of_lt i0) (Rat.le_of_lt i0)
  have k1 := Rat.mul_le_mul_of_nonneg_right k0 ii
  have k2 : (E * E * n / 128) * (i * i) = n / 8 := by
    have e1 : E * i = 4 := by grind
    have e2 : E * E * n / 128 * (i * i) = (E * i) * (E * i) * n / 128 := by grind
    rw [e2, e1]; grind
  have k3 : t * i * i * (m / 4) ≤ 1001 / 4000 * (n / 2) := by
    have e3 : t * (m / 4) * (i * i) = t * i * i * (m / 4) := by grind
    have e4 : 1001 / 1000 * (E * E * n / 128) * (i * i) = 1001 / 1000 * ((E * E * n / 128) * (i * i)) := by grind
    rw [e3, e4, k2] at k1
    grind
  have g0 : 0 < t * i := Rat.mul_pos t0 i0
  have τ0 : 0 < t * i * i := Rat.mul_pos g0 i0
  have τ1 : t * i * i ≤ 5 := by
    have := Rat.mul_nonneg (Rat.le_of_lt τ0) (show 0 ≤ m - 1 by grind)
    grind
  have g1 : t * i ≤ 9 := by
    -- t i = (t i i) E / 4 <= 1001/4000 n/2 . 4/m . E/4
    have e5 : t * i = t * i * i * (E / 4) := by grind
    have h1 := Rat.mul_nonneg (Rat.le_of_lt τ0) (show 0 ≤ m - 1 by grind)
    have h2 : t * i * i ≤ 1001 / 1000 * (n / 2) := by grind
    have h3 := Rat.mul_nonneg (Rat.le_of_lt τ0) (show 0 ≤ 8 - E by grind)
    grind
  exact ⟨i, t * i, t * i * i, ⟨by grind, i0, i2, i3⟩, ⟨rfl, g0, g1⟩, ⟨rfl, τ0, τ1⟩, k3⟩
end
end Go.Proofs.Ytjeeflldbhajiaa
set_option linter.unusedSimpArgs false
set_option linter.unusedVariables false
set_option linter.unusedSectionVars false
namespace Go.Proofs.Ytjeeflldbhajiaa
open Go Go.RowKit
section
variable {s : St} {a b c d p l : Int} {q : Nat} {e : Int} {T : Nat}
end
end Go.Proofs.Ytjeeflldbhajiaa
set_option linter.unusedSimpArgs false
set_option linter.unusedVariables false
set_option linter.unusedSectionVars false
namespace Go.Proofs.Ytjeeflldbhajiaa
open Go Go.RowKit
section
variable {P : Program} {ops : Array Oper} {Q : Exit → Act → World → Prop} {F I : World → Prop} {l : List Oper} {cs : List GC} {i : Nat} {ks : List (Nat × (World → Prop))} {a : Act} {o : Oper}
theorem wpG_lit1 {B : Nat} {x : Value} {t : TypeId} (hx : o.op.operands.toList.map a.eval = [x]) (hw : Region.wanted o (yielded ops a.tmps) = true) (hB : ∀ w, I w → B ≤ w.heap.size) (h1 : ∀ w, (execOp a.eval o).run P w = .ok (.value (.slice (some ⟨w.heap.size, 0, none⟩) 1 1)) (w.alloc (.cells #[x] t)))
    (h : ∀ b, wpG P ops Q F I l cs (i + 1) ((i, fun w => B ≤ b ∧ owned w b [x]) :: ks) (a.put o.dst (.slice (some ⟨b, 0, none⟩) 1 1))) : wpG P ops Q F I (o :: l) (GC.of (Clm.lit1 B) :: cs) i ks a := by
  have ht : (oargs ops o a).take 1 = [x] := by unfold oargs; rw [hx]; rfl
  refine wpG_one (Clm.lit1 B) rfl hw (fun w hi hk => ?_) ?_
  · rw [h1 w]
    exact ⟨(Below.refl _ _).alloc (Nat.le_refl _) _, ⟨_, rfl⟩, by show lit1K B ((oargs ops o a).take 1) (.slice (some ⟨w.heap.size, 0, none⟩) 1 1) _; rw [ht]; exact ⟨hB w hi, owned_alloc w [x] t⟩⟩
  · rintro v ⟨b, rfl⟩
    show wpG P ops Q F I l cs (i + 1) ((i, fun w => lit1K B ((oargs ops o a).take 1) (.slice (some ⟨b, 0, none⟩) 1 1) w) :: ks) _
    rw [ht]
    exact h b
/-- An operation that turns memory and gives a value of a class. -/
theorem wpG_turnE (c : Clm) (hm : c.mode = 3) (I' : World → Prop) (hI : ∀ w w', I' w → Below w.heap.size w w' → I' w') (hw : Region.wanted o (yielded ops a.tmps) = true)
    (h1 : ∀ w, I w → depK o ks w → uponC P (fun u w' => I' w' ∧ c.S (o.op.operands.toList.map a.eval) u ∧ c.K (oargs ops o a) u w') ((execOp a.eval o).run P w))
    (h : ∀ v, c.S (o.op.operands.toList.map a.eval) v → wpG P ops Q F I' l cs (i + 1) [(i, c.K (oargs ops o a) v)] (a.put o.dst v)) : wpG P ops Q F I (o :: l) (⟨c, I', hI⟩ :: cs) i ks a := by
  simp only [wpG]
  refine ⟨.inl ⟨hw, .inr (.inr (.inl hm)), fun h => ?_, fun h => ?_, fun h => ?_, fun _ w hi hk => h1 w hi hk⟩, fun v hv => ?_⟩
  · have : c.mode = 0 := h; omega
  · have : c.mode = 4 := h; omega
  · have : c.mode = 1 := h; omega
  · have e1 : invG I ⟨c, I', hI⟩ = I' := invG_eq hm
    have e2 : nextG c i (c.K (oargs ops o a) v) ks = [(i, c.K (oargs ops o a) v)] := by
      unfold nextG
      split <;> first | omega | exact absurd hm (by assumption) | rfl
    show wpG P ops Q F (invG I ⟨c, I', hI⟩) l cs (i + 1) (nextG c i (c.K (oargs ops o a) v) ks) _
    rw [e1, e2]; exact h v hv
/-- A store of a struct: of all that it waited for it tells M anew. -/
def Clm.putM (M : List Value → World → Prop) (hM : Keeps M) : Clm := ⟨3, fun _ u => u = undef, fun x _ w => M x w, fun _ => ⟨undef, rfl⟩, fun x _ w w' h hb => hM x w w' h hb, fun h => nomatch h⟩
theorem wpG_putM {ty : TypeId} {X Y : Operand} {b : Nat} {vs : Array Value} (olds : List Value) (M : List Value → World → Prop) (hM : Keeps M) (I' : World → Prop) (hI : ∀ w w', I' w → Below w.heap.size w w' → I' w') {x0 : List Value} (hox : oargs ops o a = x0) (ho : o.op = .store ty X Y) (hx : a.eval X = .pointer (some ⟨b, 0, none⟩)) (hy : a.eval Y = .agg vs) (hn : olds.length = vs.size)
    (hi : (P.info? ty).map (·.size) = some vs.size) (h2 : vs.toList.all (·.oneCell') = true) (hw : Region.wanted o (yielded ops a.tmps) = true) (hk : ∀ w, I w → owned w b olds) (hI' : ∀ w, I w → depK o ks w → I' (w.setCells b 0 vs.toList) ∧ M x0 (w.setCells b 0 vs.toList))
    (h : wpG P ops Q F I' l cs (i + 1) [(i, M x0)] (a.put o.dst undef)) : wpG P ops Q F I (o :: l) (⟨Clm.putM M hM, I', hI⟩ :: cs) i ks a := by
  have h1 : vs.all (·.oneCell') = true := Array.all_eq_true_iff_forall_mem.2 fun v hv => List.all_eq_true.1 h2 v (by simpa using hv)
  refine wpG_turnE (Clm.putM M hM) rfl I' hI hw (fun w hi' hkw => ?_) (fun u hu => ?_)
  · have hown := hk w hi'
    have ht : w.there b 0 vs.size := fun j hj => by
      have hj' : j < olds.length := by omega
      have := hown j olds[j] (List.getElem?_eq_getElem hj')
      simp only [Nat.zero_add]
      exact ⟨by rw [this.1]; rfl, this.2⟩
    have hr : (execOp a.eval o).run P w = .ok .skip (w.setCells b 0 vs.toList) := by
      unfold execOp
      simp only [ho, hx, hy, Instr.storeAt, Instr.sureAddr, Sem.run_bind, Sem.run_pure, Result.andThen_ok, run_storeVar_mid w b 0 ty vs ht hi h1]
    rw [hr]
    obtain ⟨g1, g2⟩ := hI' w hi' hkw
    exact ⟨g1, rfl, by show M (oargs ops o a) _; rw [hox]; exact g2⟩
  · have hu : u = undef := hu
    subst hu
    show wpG P ops Q F I' l cs (i + 1) [(i, M (oargs ops o a))] _
    rw [hox]; exact h
end
/-- An own slice with a number more; where it lies. -/
def appP (B S : Nat) (g0 : Option Nat) (xs : List Nat) (v : Value) (w : World) : Prop := OF B w v xs ∧ (v.ownBlock = g0 ∨ ∀ k, v.ownBlock = some k → S ≤ k)
theorem appP.later {B S : Nat} {g0 : Option Nat} {xs : List Nat} {v : Value} {w w' : World} (h : appP B S g0 xs v w) (hb : Below w.heap.size w w') : appP B S g0 xs v w' := ⟨h.1.later hb, h.2⟩
def Clm.appG (B S : Nat) (g0 : Option Nat) (xs : List Nat) : Clm := ⟨3, fun _ u => ∃ q c, u = .slice q xs.length c, fun _ u w => appP B S g0 xs u w, fun _ => ⟨_, none, 0, rfl⟩, fun _ _ _ _ h hb => appP.later h hb, fun h => nomatch h⟩
end Go.Proofs.Ytjeeflldbhajiaa

/-
  The law on cups: what is mixed, heated and molten, exactly: true for every input. No condition.
-/
import Derived.Test.YtpdpokbjfnnomaaBy
import Derived.Test.YtpdpokbjfnnomaaCup2
import Derived.Test.YtpdpokbjfnnomaaMelt
import Derived.Deep.CutRange
set_option linter.unusedSimpArgs false
set_option linter.unusedVariables false
set_option linter.unusedSectionVars false
namespace Go.Proofs.Ytpdpokbjfnnomaa
open Go Go.RowKit
open Go.ChangeShapes Go.WideShapes Go.ChangeAt Go.RowKit Go.Joins
theorem cupB_ok {m h : Int} (h1 : 1 ≤ m ∧ m ≤ 1000000) (h2 : -50 * m ≤ h ∧ h ≤ 180 * m) : cupB m h = true := by
  simp [cupB, inB]
  omega
theorem low_ok {t m : Int} (hm : 1 ≤ m) : 1 ≤ m.tdiv (gI t m) ∧ m.tdiv (gI t m) ≤ m ∧ t.tdiv (gI t m) * m = t * m.tdiv (gI t m) ∧ (t.tdiv (gI t m)).natAbs ≤ t.natAbs := by
  have hg : 0 < gI t m := by
    unfold gI
    have := Int.gcd_pos_of_ne_zero_right t (show m ≠ 0 by omega)
    omega
  obtain ⟨a, ha⟩ : gI t m ∣ t := Int.gcd_dvd_left ..
  obtain ⟨b, hb⟩ : gI t m ∣ m := Int.gcd_dvd_right ..
  generalize gI t m = g at ha hb hg
  subst ha
  subst hb
  rw [Int.mul_tdiv_cancel_left _ (by omega), Int.mul_tdiv_cancel_left _ (by omega)]
  have hb1 : 1 ≤ b := by
    rcases Int.lt_or_le b 1 with h | h
    · have : g * b ≤ 0 := Int.mul_nonpos_of_nonneg_of_nonpos (by omega) (by omega)
      omega
    · exact h
  refine ⟨hb1, ?_, by rw [Int.mul_comm g a, Int.mul_assoc], ?_⟩
  · have := Int.mul_le_mul_of_nonneg_right (show 1 ≤ g by omega) (show 0 ≤ b by omega)
    omega
  · rw [Int.natAbs_mul]
    exact Nat.le_mul_of_pos_left _ (by omega)
theorem meltI_bd {m h : Int} (hm : 1 ≤ m) : 0 ≤ meltI m h ∧ meltI m h ≤ m := by
  unfold meltI
  split
  · omega
  · split <;> omega
theorem meltI_mono {m h k : Int} (hm : 1 ≤ m) (hk : h ≤ k) : meltI m h ≤ meltI m k := by
  unfold meltI
  split <;> split <;> (try split) <;> (try split) <;> omega
theorem meltI_neg {m h : Int} (hh : h < 0) : meltI m h = 0 := by unfold meltI; rw [if_pos hh]
theorem meltI_all {m h : Int} (hm : 1 ≤ m) (hh : 80 * m < h) : meltI m h = m := by unfold meltI; rw [if_neg (by omega), if_pos (by omega)]
theorem meltI_part {m h : Int} (h0 : 0 ≤ h) (hh : h ≤ 80 * m) : meltI m h = h / 80 := by
  unfold meltI
  rw [if_neg (by omega)]
  split <;> omega
/-- How warm a cup is, as a fraction. -/
def warmR (m h p q : Int) : Prop := (1 ≤ q ∧ q ≤ m) ∧ (p.natAbs : Int) ≤ 1000000 ∧ (h < 0 → p * m = 2 * h * q) ∧ (80 * m < h → p * m = (h - 80 * m) * q) ∧ (0 ≤ h → h ≤ 80 * m → p = 0 ∧ q = 1)
theorem warm_ok {m h : Int} (h1 : 1 ≤ m ∧ m ≤ 400) (h2 : -50 * m ≤ h ∧ h ≤ 180 * m) : ∃ p q, warmCupV m h = .tuple #[.int .i64 p, .int .i64 q, .bool true] ∧ warmR m h p q := by
  unfold warmCupV
  rw [if_pos (cupB_ok (by omega) h2)]
  split
  · obtain ⟨a, b, c, d⟩ := low_ok (t := 2 * h) h1.1
    exact ⟨_, _, rfl, ⟨a, b⟩, by omega, fun _ => c, fun h => by omega, fun h _ => by omega⟩
  · split
    · obtain ⟨a, b, c, d⟩ := low_ok (t := h - 80 * m) h1.1
      exact ⟨_, _, rfl, ⟨a, b⟩, by omega, fun h => by omega, fun _ => c, fun _ h => by omega⟩
    · obtain ⟨e1, e2⟩ := warm0 h1.1
      rw [e1, e2]
      exact ⟨_, _, rfl, ⟨by omega, by omega⟩, by decide, fun h => by omega, fun h => by omega, fun _ _ => ⟨rfl, rfl⟩⟩
theorem mulB {p q a b : Int} (hp : (p.natAbs : Int) ≤ a) (hq : (q.natAbs : Int) ≤ b) : -(a * b) ≤ p * q ∧ p * q ≤ a * b := by
  have h : (p * q).natAbs ≤ a.toNat * b.toNat := by
    rw [Int.natAbs_mul]
    exact Nat.mul_le_mul (by omega) (by omega)
  have e : ((a.toNat * b.toNat : Nat) : Int) = a * b := by
    rw [Int.natCast_mul, Int.toNat_of_nonneg (by omega), Int.toNat_of_nonneg (by omega)]
  omega
theorem mix_any (m1 h1 m2 h2 : Int) (w : World) (b1 : 1 ≤ m1 ∧ m1 ≤ 400) (c1 : -50 * m1 ≤ h1 ∧ h1 ≤ 180 * m1) (b2 : 1 ≤ m2 ∧ m2 ≤ 400) (c2 : -50 * m2 ≤ h2 ∧ h2 ≤ 180 * m2) : Calls Try.prog 30 #[.agg #[.int .i64 m1, .int .i64 h1], .agg #[.int .i64 m2, .int .i64 h2]] w (BV w (.tuple #[.agg #[.int .i64 (m1 + m2), .int .i64 (h1 + h2)], .bool true])) := by
  have := implMix_any m1 h1 m2 h2 w
  have e : mixV m1 h1 m2 h2 = .tuple #[.agg #[.int .i64 (m1 + m2), .int .i64 (h1 + h2)], .bool true] := by
    unfold mixV
    rw [cupB_ok (by omega) c1, cupB_ok (by omega) c2]
    exact cupV_yes (cupB_ok (by omega) (by omega))
  rwa [e] at this
theorem melt_any (m h : Int) (w : World) (b1 : 1 ≤ m ∧ m ≤ 400) (c1 : -50 * m ≤ h ∧ h ≤ 180 * m) : Calls Try.prog 23 #[.agg #[.int .i64 m, .int .i64 h]] w (BV w (.tuple #[.int .i64 (meltI m h), .bool true])) := by
  have := implMelt_any m h w
  have e : meltV m h = .tuple #[.int .i64 (meltI m h), .bool true] := by
    unfold meltV
    rw [if_pos (cupB_ok (by omega) c1)]
  rwa [e] at this
theorem heat_yes (m h b : Int) (w : World) (b1 : 1 ≤ m ∧ m ≤ 400) (c1 : -50 * m ≤ h ∧ h ≤ 180 * m) (hb : -1000 ≤ b ∧ b ≤ 1000) (c2 : -50 * m ≤ h + b ∧ h + b ≤ 180 * m) : Calls Try.prog 27 #[.agg #[.int .i64 m, .int .i64 h], .int .i64 b] w (BV w (.tuple #[.agg #[.int .i64 m, .int .i64 (h + b)], .bool true])) := by
  have := implHeat_any m h b w
  have e : heatV m h b = .tuple #[.agg #[.int .i64 m, .int .i64 (h + b)], .bool true] := by
    unfold heatV
    rw [cupB_ok (by omega) c1, show inB b (-1000000000) 1000000000 = true by simp [inB]; omega]
    exact cupV_yes (cupB_ok (by omega) c2)
  rwa [e] at this
theorem heat_no (m h b : Int) (w : World) (b1 : 1 ≤ m ∧ m ≤ 400) (c1 : -50 * m ≤ h ∧ h ≤ 180 * m) (hb : -1000 ≤ b ∧ b ≤ 1000) (c2 : ¬ (-50 * m ≤ h + b ∧ h + b ≤ 180 * m)) : Calls Try.prog 27 #[.agg #[.int .i64 m, .int .i64 h], .int .i64 b] w (BV w (.tuple #[.agg #[.int .i64 0, .int .i64 0], .bool false])) := by
  have := implHeat_any m h b w
  have e : heatV m h b = .tuple #[.agg #[.int .i64 0, .int .i64 0], .bool false] := by
    unfold heatV
    rw [cupB_ok (by omega) c1, show inB b (-1000000000) 1000000000 = true by simp [inB]; omega]
    exact cupV_no (by simp [cupB, inB]; omega)
  rwa [e] at this
theorem heat_back (m h b z : Int) (w : World) (b1 : 1 ≤ m ∧ m ≤ 400) (c1 : -50 * m ≤ h ∧ h ≤ 180 * m) (hb : -1000 ≤ b ∧ b ≤ 1000) (c2 : -50 * m ≤ h + b ∧ h + b ≤ 180 * m) (hz : z = -b) : Calls Try.prog 27 #[.agg #[.int .i64 m, .int .i64 (h + b)], .int .i64 z] w (BV w (.tuple #[.agg #[.int .i64 m, .int .i64 h], .bool true])) := by
  have := heat_yes m (h + b) z w b1 c2 (by omega) (by omega)
  rw [show h + b + z = h by omega] at this
  exact this
theorem melt_at (m h T : Int) (w : World) (b1 : 1 ≤ m ∧ m ≤ 400) (c1 : -50 * m ≤ h ∧ h ≤ 180 * m) (hT : meltI m h = T) : Calls Try.prog 23 #[.agg #[.int .i64 m, .int .i64 h]] w (BV w (.tuple #[.int .i64 T, .bool true])) := hT ▸ melt_any m h w b1 c1
set_option maxHeartbeats 16000000 in
set_option maxRecDepth 100000 in
theorem walk_FnCups (pa : Option Addr) (na ca : Nat) (pb : Option Addr) (nb cb : Nat) (w : World) (hp : BY w.heap.size w pa na ca) (hq : BY w.heap.size w pb nb cb) : Calls Try.prog 12 #[.slice pa na ca, .slice pb nb cb] w (BV w (.bool true)) := by
  have HP := Lib.hid hp
  have HQ := Lib.hid hq
  clear hp hq
  by_cases hlong : 1048576 < na ∨ 1048576 < nb
  · have HL := Lib.hid (fun w => (show Calls Try.prog 35 #[.slice pa na ca, .slice pb nb cb] w (RB w true) from (show (decide (1048576 < na) || decide (1048576 < nb)) = true by simpa using hlong) ▸ b10Long_any pa pb na ca nb cb w))
    go_enter Try.func12, Try.ntmps12
    go_wp2_with (first | (with_reducible refine at_list ?_; refine wpList_fop rfl rfl rfl rfl rfl ?_; intro r n hr0; have hr := hr0 _ _ (by first | with_reducible assumption | exact rfl) (by first | with_reducible assumption | exact rfl); clear hr0) | (with_reducible refine at_list ?_; refine wpList_neg rfl rfl rfl ?_; intro r hr0; have hr := hr0 _ (by first | with_reducible assumption | exact rfl); clear hr0) | (with_reducible refine at_list ?_; refine wpList_fop_g rfl rfl rfl rfl rfl ?_; intro r n hr0; have hr := hr0 _ _ (by first | with_reducible assumption | exact rfl) (by first | with_reducible assumption | exact rfl); clear hr0) | (with_reducible refine at_list ?_; refine wpList_wide_g rfl rfl Try.underlying28 Try.underlying32 rfl ?_; intro r n hr0; have hr := hr0 _ (by first | with_reducible assumption | exact rfl); clear hr0) | (with_reducible refine at_list ?_; refine wpList_wide rfl rfl rfl Try.underlying28 Try.underlying32 ?_; intro r n hr0; have hr := hr0 _ (by first | with_reducible assumption | exact rfl); clear hr0) | (go_at_call 35; refine ((HL.out _) ).mono ?_; rintro e w' ⟨rfl, n, rfl⟩) | (go_at_call 30; refine (implMix_any _ _ _ _ _).mono ?_; rintro e w' ⟨rfl, hb⟩; obtain ⟨hT, hk⟩ := bv_next hb (by (repeat (with_reducible first | assumption | apply Trk.alloc | apply Trk.setCell | apply Trk.drewN | apply Trk.drew | exact Trk.nil _))); simp only [SameOn, World.size_alloc, World.size_setCell, World.size_drew, size_drewN', and_true] at hk; have hsz := Below.size hb; (try simp only [World.size_alloc, World.size_setCell, World.size_drew, size_drewN'] at hsz)) | (go_at_call 23; refine (implMelt_any _ _ _).mono ?_; rintro e w' ⟨rfl, hb⟩; obtain ⟨hT, hk⟩ := bv_next hb (by (repeat (with_reducible first | assumption | apply Trk.alloc | apply Trk.setCell | apply Trk.drewN | apply Trk.drew | exact Trk.nil _))); simp only [SameOn, World.size_alloc, World.size_setCell, World.size_drew, size_drewN', and_true] at hk; have hsz := Below.size hb; (try simp only [World.size_alloc, World.size_setCell, World.size_drew, size_drewN'] at hsz)) | (go_at_call 15; refine (implValidCup_any _ _ _).mono ?_; rintro e w' ⟨rfl, hb⟩; obtain ⟨hT, hk⟩ := bv_next hb (by (repeat (with_reducible first | assumption | apply Trk.alloc | apply Trk.setCell | apply Trk.drewN | apply Trk.drew | exact Trk.nil _))); simp only [SameOn, World.size_alloc, World.size_setCell, World.size_drew, size_drewN', and_true] at hk; have hsz := Below.size hb; (try simp only [World.size_alloc, World.size_setCell, World.size_drew, size_drewN'] at hsz)) | (go_at_call 27; refine (implHeat_any _ _ _ _).mono ?_; rintro e w' ⟨rfl, hb⟩; obtain ⟨hT, hk⟩ := bv_next hb (by (repeat (with_reducible first | assumption | apply Trk.alloc | apply Trk.setCell | apply Trk.drewN | apply Trk.drew | exact Trk.nil _))); simp only [SameOn, World.size_alloc, World.size_setCell, World.size_drew, size_drewN', and_true] at hk; have hsz := Below.size hb; (try simp only [World.size_alloc, World.size_setCell, World.size_drew, size_drewN'] at hsz)))
    go_ret
    exact ⟨rfl, by (repeat (first | (with_reducible exact Below.refl _ _) | (with_reducible assumption) | (with_reducible refine below_then ?_ (by assumption)) | (with_reducible refine Below.trans ?_ (by assumption)) | (with_reducible refine below_drewN ?_ _) | (with_reducible apply Below.drew) | (with_reducible refine below_alloc ?_ _) | refine Below.setCell ?_ (by first | (simp; done) | (simp; omega)) _))⟩
  have HL := Lib.hid (fun w => (show Calls Try.prog 35 #[.slice pa na ca, .slice pb nb cb] w (RB w false) from (show (decide (1048576 < na) || decide (1048576 < nb)) = false by simp; omega) ▸ b10Long_any pa pb na ca nb cb w))
  have hn1 : na ≤ 1048576 := by omega
  have hk1 : nb ≤ 1048576 := by omega
  clear hlong
  go_enter Try.func12, Try.ntmps12
  go_wp2_with (first | (with_reducible refine at_list ?_; refine wpList_fop rfl rfl rfl rfl rfl ?_; intro r n hr0; have hr := hr0 _ _ (by first | with_reducible assumption | exact rfl) (by first | with_reducible assumption | exact rfl); clear hr0) | (with_reducible refine at_list ?_; refine wpList_neg rfl rfl rfl ?_; intro r hr0; have hr := hr0 _ (by first | with_reducible assumption | exact rfl); clear hr0) | (with_reducible refine at_list ?_; refine wpList_fop_g rfl rfl rfl rfl rfl ?_; intro r n hr0; have hr := hr0 _ _ (by first | with_reducible assumption | exact rfl) (by first | with_reducible assumption | exact rfl); clear hr0) | (with_reducible refine at_list ?_; refine wpList_wide_g rfl rfl Try.underlying28 Try.underlying32 rfl ?_; intro r n hr0; have hr := hr0 _ (by first | with_reducible assumption | exact rfl); clear hr0) | (with_reducible refine at_list ?_; refine wpList_wide rfl rfl rfl Try.underlying28 Try.underlying32 ?_; intro r n hr0; have hr := hr0 _ (by first | with_reducible assumption | exact rfl); clear hr0) | (go_at_call_of 36 (Value.slice pa na ca); refine (B10Cup_any _ _ _ _ ((HP.out.later (C := w.heap.size) (by (repeat (first | (with_reducible exact Below.refl _ _) | (with_reducible assumption) | (with_reducible refine below_then ?_ (by assumption)) | (with_reducible refine Below.trans ?_ (by assumption)) | (with_reducible refine below_drewN ?_ _) | (with_reducible apply Below.drew) | (with_reducible refine below_alloc ?_ _) | refine Below.setCell ?_ (by first | (simp; done) | (simp; omega)) _))) (Nat.le_refl _)).mono (by first | omega | (simp; done) | (simp; omega))) hn1).mono ?_; rintro e w' ⟨m1, h1, rfl, hm1, hh1, hb⟩; obtain ⟨hT, hk⟩ := bv_next hb (by (repeat (with_reducible first | assumption | apply Trk.alloc | apply Trk.setCell | apply Trk.drewN | apply Trk.drew | exact Trk.nil _))); simp only [SameOn, World.size_alloc, World.size_setCell, World.size_drew, size_drewN', and_true] at hk; have hsz := Below.size hb; (try simp only [World.size_alloc, World.size_setCell, World.size_drew, size_drewN'] at hsz)) | (go_at_call_of 36 (Value.slice pb nb cb); refine (B10Cup_any _ _ _ _ ((HQ.out.later (C := w.heap.size) (by (repeat (first | (with_reducible exact Below.refl _ _) | (with_reducible assumption) | (with_reducible refine below_then ?_ (by assumption)) | (with_reducible refine Below.trans ?_ (by assumption)) | (with_reducible refine below_drewN ?_ _) | (with_reducible apply Below.drew) | (with_reducible refine below_alloc ?_ _) | refine Below.setCell ?_ (by first | (simp; done) | (simp; omega)) _))) (Nat.le_refl _)).mono (by first | omega | (simp; done) | (simp; omega))) hk1).mono ?_; rintro e w' ⟨m2, h2, rfl, hm2, hh2, hb⟩; obtain ⟨hT, hk⟩ := bv_next hb (by (repeat (with_reducible first | assumption | apply Trk.alloc | apply Trk.setCell | apply Trk.drewN | apply Trk.drew | exact Trk.nil _))); simp only [SameOn, World.size_alloc, World.size_setCell, World.size_drew, size_drewN', and_true] at hk; have hsz := Below.size hb; (try simp only [World.size_alloc, World.size_setCell, World.size_drew, size_drewN'] at hsz)) | (go_at_call 30; refine stop_here ?_) | (go_at_call 35; refine ((HL.out _) ).mono ?_; rintro e w' ⟨rfl, n, rfl⟩) | (go_at_call 30; refine (implMix_any _ _ _ _ _).mono ?_; rintro e w' ⟨rfl, hb⟩; obtain ⟨hT, hk⟩ := bv_next hb (by (repeat (with_reducible first | assumption | apply Trk.alloc | apply Trk.setCell | apply Trk.drewN | apply Trk.drew | exact Trk.nil _))); simp only [SameOn, World.size_alloc, World.size_setCell, World.size_drew, size_drewN', and_true] at hk; have hsz := Below.size hb; (try simp only [World.size_alloc, World.size_setCell, World.size_drew, size_drewN'] at hsz)) | (go_at_call 23; refine (implMelt_any _ _ _).mono ?_; rintro e w' ⟨rfl, hb⟩; obtain ⟨hT, hk⟩ := bv_next hb (by (repeat (with_reducible first | assumption | apply Trk.alloc | apply Trk.setCell | apply Trk.drewN | apply Trk.drew | exact Trk.nil _))); simp only [SameOn, World.size_alloc, World.size_setCell, World.size_drew, size_drewN', and_true] at hk; have hsz := Below.size hb; (try simp only [World.size_alloc, World.size_setCell, World.size_drew, size_drewN'] at hsz)) | (go_at_call 15; refine (implValidCup_any _ _ _).mono ?_; rintro e w' ⟨rfl, hb⟩; obtain ⟨hT, hk⟩ := bv_next hb (by (repeat (with_reducible first | assumption | apply Trk.alloc | apply Trk.setCell | apply Trk.drewN | apply Trk.drew | exact Trk.nil _))); simp only [SameOn, World.size_alloc, World.size_setCell, World.size_drew, size_drewN', and_true] at hk; have hsz := Below.size hb; (try simp only [World.size_alloc, World.size_setCell, World.size_drew, size_drewN'] at hsz)) | (go_at_call 27; refine (implHeat_any _ _ _ _).mono ?_; rintro e w' ⟨rfl, hb⟩; obtain ⟨hT, hk⟩ := bv_next hb (by (repeat (with_reducible first | assumption | apply Trk.alloc | apply Trk.setCell | apply Trk.drewN | apply Trk.drew | exact Trk.nil _))); simp only [SameOn, World.size_alloc, World.size_setCell, World.size_drew, size_drewN', and_true] at hk; have hsz := Below.size hb; (try simp only [World.size_alloc, World.size_setCell, World.size_drew, size_drewN'] at hsz)))
  unfold Stop
  obtain ⟨P, Q, hW, hR⟩ := warm_ok (m := m1) (h := h1) (by omega) hh1
  have HWm := Lib.hid (fun w => (show Calls Try.prog 34 #[.agg #[.int .i64 m1, .int .i64 h1]] w (BV w (.tuple #[.int .i64 P, .int .i64 Q, .bool true])) from hW ▸ implWarmCup_any m1 h1 w))
  have HMx1 := Lib.hid (fun w => mix_any m1 h1 m2 h2 w (by omega) hh1 (by omega) hh2)
  have HMx2 := Lib.hid (fun w => (show Calls Try.prog 30 #[.agg #[.int .i64 m2, .int .i64 h2], .agg #[.int .i64 m1, .int .i64 h1]] w (BV w (.tuple #[.agg #[.int .i64 (m1 + m2), .int .i64 (h1 + h2)], .bool true])) from Int.add_comm m1 m2 ▸ Int.add_comm h1 h2 ▸ mix_any m2 h2 m1 h1 w (by omega) hh2 (by omega) hh1))
  obtain ⟨M, hM⟩ : ∃ M, meltI m1 h1 = M := ⟨_, rfl⟩
  have HMl := Lib.hid (fun w => (show Calls Try.prog 23 #[.agg #[.int .i64 m1, .int .i64 h1]] w (BV w (.tuple #[.int .i64 M, .bool true])) from hM ▸ melt_any m1 h1 w (by omega) hh1))
  have HVc := Lib.hid (fun w => (show Calls Try.prog 15 #[.agg #[.int .i64 (m1 + m2), .int .i64 (h1 + h2)]] w (BV w (.bool true)) from (cupB_ok (m := m1 + m2) (h := h1 + h2) (by omega) (by omega)) ▸ implValidCup_any (m1 + m2) (h1 + h2) w))
  obtain ⟨hq1, hq2⟩ := hR.1
  obtain ⟨hM1, hM2⟩ := meltI_bd (m := m1) (h := h1) hm1.1
  rw [hM] at hM1 hM2
  have HM := Lib.hid hM
  have HR := Lib.hid hR
  clear hW hR hM
  refine (HMx1.out _).mono ?_
  rintro e w' ⟨rfl, hb⟩
  obtain ⟨hT, hk⟩ := bv_next hb (by (repeat (with_reducible first | assumption | apply Trk.alloc | apply Trk.setCell | apply Trk.drewN | apply Trk.drew | exact Trk.nil _))); simp only [SameOn, World.size_alloc, World.size_setCell, World.size_drew, size_drewN', and_true] at hk; have hsz := Below.size hb; (try simp only [World.size_alloc, World.size_setCell, World.size_drew, size_drewN'] at hsz)
  go_wp2_with (first | (with_reducible refine at_list ?_; refine wpList_fop rfl rfl rfl rfl rfl ?_; intro r n hr0; have hr := hr0 _ _ (by first | with_reducible assumption | exact rfl) (by first | with_reducible assumption | exact rfl); clear hr0) | (with_reducible refine at_list ?_; refine wpList_neg rfl rfl rfl ?_; intro r hr0; have hr := hr0 _ (by first | with_reducible assumption | exact rfl); clear hr0) | (with_reducible refine at_list ?_; refine wpList_fop_g rfl rfl rfl rfl rfl ?_; intro r n hr0; have hr := hr0 _ _ (by first | with_reducible assumption | exact rfl) (by first | with_reducible assumption | exact rfl); clear hr0) | (with_reducible refine at_list ?_; refine wpList_wide_g rfl rfl Try.underlying28 Try.underlying32 rfl ?_; intro r n hr0; have hr := hr0 _ (by first | with_reducible assumption | exact rfl); clear hr0) | (with_reducible refine at_list ?_; refine wpList_wide rfl rfl rfl Try.underlying28 Try.underlying32 ?_; intro r n hr0; have hr := hr0 _ (by first | with_reducible assumption | exact rfl); clear hr0) | (go_at_call 15; refine stop_here ?_) | (go_at_call 30; refine ((HMx2.out _) ).mono ?_; rintro e w' ⟨rfl, hb⟩; obtain ⟨hT, hk⟩ := bv_next hb (by (repeat (with_reducible first | assumption | apply Trk.alloc | apply Trk.setCell | apply Trk.drewN | apply Trk.drew | exact Trk.nil _))); simp only [SameOn, World.size_alloc, World.size_setCell, World.size_drew, size_drewN', and_true] at hk; have hsz := Below.size hb; (try simp only [World.size_alloc, World.size_setCell, World.size_drew, size_drewN'] at hsz)) | (go_at_call 23; refine ((HMl.out _) ).mono ?_; rintro e w' ⟨rfl, hb⟩; obtain ⟨hT, hk⟩ := bv_next hb (by (repeat (with_reducible first | assumption | apply Trk.alloc | apply Trk.setCell | apply Trk.drewN | apply Trk.drew | exact Trk.nil _))); simp only [SameOn, World.size_alloc, World.size_setCell, World.size_drew, size_drewN', and_true] at hk; have hsz := Below.size hb; (try simp only [World.size_alloc, World.size_setCell, World.size_drew, size_drewN'] at hsz)) | (go_at_call 34; refine ((HWm.out _) ).mono ?_; rintro e w' ⟨rfl, hb⟩; obtain ⟨hT, hk⟩ := bv_next hb (by (repeat (with_reducible first | assumption | apply Trk.alloc | apply Trk.setCell | apply Trk.drewN | apply Trk.drew | exact Trk.nil _))); simp only [SameOn, World.size_alloc, World.size_setCell, World.size_drew, size_drewN', and_true] at hk; have hsz := Below.size hb; (try simp only [World.size_alloc, World.size_setCell, World.size_drew, size_drewN'] at hsz)) | (go_at_call 15; refine (implValidCup_any _ _ _).mono ?_; rintro e w' ⟨rfl, hb⟩; obtain ⟨hT, hk⟩ := bv_next hb (by (repeat (with_reducible first | assumption | apply Trk.alloc | apply Trk.setCell | apply Trk.drewN | apply Trk.drew | exact Trk.nil _))); simp only [SameOn, World.size_alloc, World.size_setCell, World.size_drew, size_drewN', and_true] at hk; have hsz := Below.size hb; (try simp only [World.size_alloc, World.size_setCell, World.size_drew, size_drewN'] at hsz)) | (go_at_call 27; refine (implHeat_any _ _ _ _).mono ?_; rintro e w' ⟨rfl, hb⟩; obtain ⟨hT, hk⟩ := bv_next hb (by (repeat (with_reducible first | assumption | apply Trk.alloc | apply Trk.setCell | apply Trk.drewN | apply Trk.drew | exact Trk.nil _))); simp only [SameOn, World.size_alloc, World.size_setCell, World.size_drew, size_drewN', and_true] at hk; have hsz := Below.size hb; (try simp only [World.size_alloc, World.size_setCell, World.size_drew, size_drewN'] at hsz)))
  unfold Stop
  refine (HVc.out _).mono ?_
  rintro e w' ⟨rfl, hb⟩
  obtain ⟨hT, hk⟩ := bv_next hb (by (repeat (with_reducible first | assumption | apply Trk.alloc | apply Trk.setCell | apply Trk.drewN | apply Trk.drew | exact Trk.nil _))); simp only [SameOn, World.size_alloc, World.size_setCell, World.size_drew, size_drewN', and_true] at hk; have hsz := Below.size hb; (try simp only [World.size_alloc, World.size_setCell, World.size_drew, size_drewN'] at hsz)
  go_upto_if 111 with fail
  go_upto_region 11 with fail
  simp only [List.append]
  rcases (show h1 < 0 ∨ 80 * m1 < h1 ∨ (0 ≤ h1 ∧ h1 ≤ 80 * m1) by omega) with hc | hc | hc
  case' inl =>
    have e0 : M = 0 := by rw [← HM.out]; exact meltI_neg hc
    have e1 := HR.out.2.2.1 hc
    subst e0
    have hbd := mulB (p := P) (q := m1) (a := 1000000) (b := 1000) HR.out.2.1 (by omega)
    go_upto_if 187 with fail
    clear e1 hbd
  case' inr.inl =>
    have e0 : m1 = M := by rw [← HM.out]; exact (meltI_all hm1.1 hc).symm
    have e1 := HR.out.2.2.2.1 hc
    subst e0
    have hbd := mulB (p := P) (q := m1) (a := 1000000) (b := 1000) HR.out.2.1 (by omega)
    go_upto_if 187 with fail
    clear e1 hbd
  case' inr.inr =>
    have e0 : M = h1 / 80 := by rw [← HM.out]; exact meltI_part hc.1 hc.2
    obtain ⟨e1, e2⟩ := HR.out.2.2.2.2 hc.1 hc.2
    subst e0
    subst e1
    subst e2
    go_upto_if 187 with fail
  all_goals
    clear HR HMl HVc HMx1 HMx2 HWm hc
    go_wp2_with (first | (with_reducible refine at_list ?_; refine wpList_fop rfl rfl rfl rfl rfl ?_; intro r n hr0; have hr := hr0 _ _ (by first | with_reducible assumption | exact rfl) (by first | with_reducible assumption | exact rfl); clear hr0) | (with_reducible refine at_list ?_; refine wpList_neg rfl rfl rfl ?_; intro r hr0; have hr := hr0 _ (by first | with_reducible assumption | exact rfl); clear hr0) | (with_reducible refine at_list ?_; refine wpList_fop_g rfl rfl rfl rfl rfl ?_; intro r n hr0; have hr := hr0 _ _ (by first | with_reducible assumption | exact rfl) (by first | with_reducible assumption | exact rfl); clear hr0) | (with_reducible refine at_list ?_; refine wpList_wide_g rfl rfl Try.underlying28 Try.underlying32 rfl ?_; intro r n hr0; have hr := hr0 _ (by first | with_reducible assumption | exact rfl); clear hr0) | (with_reducible refine at_list ?_; refine wpList_wide rfl rfl rfl Try.underlying28 Try.underlying32 ?_; intro r n hr0; have hr := hr0 _ (by first | with_reducible assumption | exact rfl); clear hr0) | (go_at_call 37; refine stop_here ?_) | (go_at_call 30; refine (implMix_any _ _ _ _ _).mono ?_; rintro e w' ⟨rfl, hb⟩; obtain ⟨hT, hk⟩ := bv_next hb (by (repeat (with_reducible first | assumption | apply Trk.alloc | apply Trk.setCell | apply Trk.drewN | apply Trk.drew | exact Trk.nil _))); simp only [SameOn, World.size_alloc, World.size_setCell, World.size_drew, size_drewN', and_true] at hk; have hsz := Below.size hb; (try simp only [World.size_alloc, World.size_setCell, World.size_drew, size_drewN'] at hsz)) | (go_at_call 23; refine (implMelt_any _ _ _).mono ?_; rintro e w' ⟨rfl, hb⟩; obtain ⟨hT, hk⟩ := bv_next hb (by (repeat (with_reducible first | assumption | apply Trk.alloc | apply Trk.setCell | apply Trk.drewN | apply Trk.drew | exact Trk.nil _))); simp only [SameOn, World.size_alloc, World.size_setCell, World.size_drew, size_drewN', and_true] at hk; have hsz := Below.size hb; (try simp only [World.size_alloc, World.size_setCell, World.size_drew, size_drewN'] at hsz)) | (go_at_call 15; refine (implValidCup_any _ _ _).mono ?_; rintro e w' ⟨rfl, hb⟩; obtain ⟨hT, hk⟩ := bv_next hb (by (repeat (with_reducible first | assumption | apply Trk.alloc | apply Trk.setCell | apply Trk.drewN | apply Trk.drew | exact Trk.nil _))); simp only [SameOn, World.size_alloc, World.size_setCell, World.size_drew, size_drewN', and_true] at hk; have hsz := Below.size hb; (try simp only [World.size_alloc, World.size_setCell, World.size_drew, size_drewN'] at hsz)) | (go_at_call 27; refine (implHeat_any _ _ _ _).mono ?_; rintro e w' ⟨rfl, hb⟩; obtain ⟨hT, hk⟩ := bv_next hb (by (repeat (with_reducible first | assumption | apply Trk.alloc | apply Trk.setCell | apply Trk.drewN | apply Trk.drew | exact Trk.nil _))); simp only [SameOn, World.size_alloc, World.size_setCell, World.size_drew, size_drewN', and_true] at hk; have hsz := Below.size hb; (try simp only [World.size_alloc, World.size_setCell, World.size_drew, size_drewN'] at hsz)))
    unfold Stop
    refine (b10At_any _ _ _ 2 200 _ ((HQ.out.later (C := w.heap.size) (by (repeat (first | (with_reducible exact Below.refl _ _) | (with_reducible assumption) | (with_reducible refine below_then ?_ (by assumption)) | (with_reducible refine Below.trans ?_ (by assumption)) | (with_reducible refine below_drewN ?_ _) | (with_reducible apply Below.drew) | (with_reducible refine below_alloc ?_ _) | refine Below.setCell ?_ (by first | (simp; done) | (simp; omega)) _))) (Nat.le_refl _)).mono (by first | omega | (simp; done) | (simp; omega))) (by omega) (by omega)).mono ?_
    rintro e w' ⟨r, rfl, ⟨hr1, hr2⟩, nq, rfl⟩
    by_cases hkn : -50 * m1 ≤ h1 + (r - 100) ∧ h1 + (r - 100) ≤ 180 * m1
    · obtain ⟨T, hT⟩ : ∃ T, meltI m1 (h1 + (r - 100)) = T := ⟨_, rfl⟩
      have HH1 := Lib.hid (fun w => heat_yes m1 h1 (r - 100) w (by omega) hh1 (by omega) hkn)
      have HH2 := Lib.hid (fun w z (hz : z = -(r - 100)) => heat_back m1 h1 (r - 100) z w (by omega) hh1 (by omega) hkn hz)
      have HT := Lib.hid (fun w => melt_at m1 (h1 + (r - 100)) T w (by omega) hkn hT)
      rcases (show 0 ≤ r - 100 ∨ r - 100 < 0 by omega) with hs | hs
      · have hle := meltI_mono (m := m1) (h := h1) (k := h1 + (r - 100)) hm1.1 (by omega)
        rw [HM.out, hT] at hle
        clear hT
        obtain ⟨hka, hkb⟩ := hkn
        go_wp2_with (first | (with_reducible refine at_list ?_; refine wpList_fop rfl rfl rfl rfl rfl ?_; intro r n hr0; have hr := hr0 _ _ (by first | with_reducible assumption | exact rfl) (by first | with_reducible assumption | exact rfl); clear hr0) | (with_reducible refine at_list ?_; refine wpList_neg rfl rfl rfl ?_; intro r hr0; have hr := hr0 _ (by first | with_reducible assumption | exact rfl); clear hr0) | (with_reducible refine at_list ?_; refine wpList_fop_g rfl rfl rfl rfl rfl ?_; intro r n hr0; have hr := hr0 _ _ (by first | with_reducible assumption | exact rfl) (by first | with_reducible assumption | exact rfl); clear hr0) | (with_reducible refine at_list ?_; refine wpList_wide_g rfl rfl Try.underlying28 Try.underlying32 rfl ?_; intro r n hr0; have hr := hr0 _ (by first | with_reducible assumption | exact rfl); clear hr0) | (with_reducible refine at_list ?_; refine wpList_wide rfl rfl rfl Try.underlying28 Try.underlying32 ?_; intro r n hr0; have hr := hr0 _ (by first | with_reducible assumption | exact rfl); clear hr0) | (go_at_call_of 27 (Value.agg #[Value.int .i64 m1, Value.int .i64 h1]); refine (HH1.out _).mono ?_; rintro e w' ⟨rfl, hb⟩; obtain ⟨hT, hk⟩ := bv_next hb (by (repeat (with_reducible first | assumption | apply Trk.alloc | apply Trk.setCell | apply Trk.drewN | apply Trk.drew | exact Trk.nil _))); simp only [SameOn, World.size_alloc, World.size_setCell, World.size_drew, size_drewN', and_true] at hk; have hsz := Below.size hb; (try simp only [World.size_alloc, World.size_setCell, World.size_drew, size_drewN'] at hsz)) | (go_at_call 27; refine (HH2.out _ _ (by omega)).mono ?_; rintro e w' ⟨rfl, hb⟩; obtain ⟨hT, hk⟩ := bv_next hb (by (repeat (with_reducible first | assumption | apply Trk.alloc | apply Trk.setCell | apply Trk.drewN | apply Trk.drew | exact Trk.nil _))); simp only [SameOn, World.size_alloc, World.size_setCell, World.size_drew, size_drewN', and_true] at hk; have hsz := Below.size hb; (try simp only [World.size_alloc, World.size_setCell, World.size_drew, size_drewN'] at hsz)) | (go_at_call 30; refine (implMix_any _ _ _ _ _).mono ?_; rintro e w' ⟨rfl, hb⟩; obtain ⟨hT, hk⟩ := bv_next hb (by (repeat (with_reducible first | assumption | apply Trk.alloc | apply Trk.setCell | apply Trk.drewN | apply Trk.drew | exact Trk.nil _))); simp only [SameOn, World.size_alloc, World.size_setCell, World.size_drew, size_drewN', and_true] at hk; have hsz := Below.size hb; (try simp only [World.size_alloc, World.size_setCell, World.size_drew, size_drewN'] at hsz)) | (go_at_call 23; refine ((HT.out _) ).mono ?_; rintro e w' ⟨rfl, hb⟩; obtain ⟨hT, hk⟩ := bv_next hb (by (repeat (with_reducible first | assumption | apply Trk.alloc | apply Trk.setCell | apply Trk.drewN | apply Trk.drew | exact Trk.nil _))); simp only [SameOn, World.size_alloc, World.size_setCell, World.size_drew, size_drewN', and_true] at hk; have hsz := Below.size hb; (try simp only [World.size_alloc, World.size_setCell, World.size_drew, size_drewN'] at hsz)) | (go_at_call 15; refine (implValidCup_any _ _ _).mono ?_; rintro e w' ⟨rfl, hb⟩; obtain ⟨hT, hk⟩ := bv_next hb (by (repeat (with_reducible first | assumption | apply Trk.alloc | apply Trk.setCell | apply Trk.drewN | apply Trk.drew | exact Trk.nil _))); simp only [SameOn, World.size_alloc, World.size_setCell, World.size_drew, size_drewN', and_true] at hk; have hsz := Below.size hb; (try simp only [World.size_alloc, World.size_setCell, World.size_drew, size_drewN'] at hsz)) | (go_at_call 27; refine (implHeat_any _ _ _ _).mono ?_; rintro e w' ⟨rfl, hb⟩; obtain ⟨hT, hk⟩ := bv_next hb (by (repeat (with_reducible first | assumption | apply Trk.alloc | apply Trk.setCell | apply Trk.drewN | apply Trk.drew | exact Trk.nil _))); simp only [SameOn, World.size_alloc, World.size_setCell, World.size_drew, size_drewN', and_true] at hk; have hsz := Below.size hb; (try simp only [World.size_alloc, World.size_setCell, World.size_drew, size_drewN'] at hsz)))
        go_ret
        exact ⟨rfl, by (repeat (first | (with_reducible exact Below.refl _ _) | (with_reducible assumption) | (with_reducible refine below_then ?_ (by assumption)) | (with_reducible refine Below.trans ?_ (by assumption)) | (with_reducible refine below_drewN ?_ _) | (with_reducible apply Below.drew) | (with_reducible refine below_alloc ?_ _) | refine Below.setCell ?_ (by first | (simp; done) | (simp; omega)) _))⟩
      · have hle := meltI_mono (m := m1) (h := h1 + (r - 100)) (k := h1) hm1.1 (by omega)
        rw [HM.out, hT] at hle
        clear hT
        obtain ⟨hka, hkb⟩ := hkn
        go_wp2_with (first | (with_reducible refine at_list ?_; refine wpList_fop rfl rfl rfl rfl rfl ?_; intro r n hr0; have hr := hr0 _ _ (by first | with_reducible assumption | exact rfl) (by first | with_reducible assumption | exact rfl); clear hr0) | (with_reducible refine at_list ?_; refine wpList_neg rfl rfl rfl ?_; intro r hr0; have hr := hr0 _ (by first | with_reducible assumption | exact rfl); clear hr0) | (with_reducible refine at_list ?_; refine wpList_fop_g rfl rfl rfl rfl rfl ?_; intro r n hr0; have hr := hr0 _ _ (by first | with_reducible assumption | exact rfl) (by first | with_reducible assumption | exact rfl); clear hr0) | (with_reducible refine at_list ?_; refine wpList_wide_g rfl rfl Try.underlying28 Try.underlying32 rfl ?_; intro r n hr0; have hr := hr0 _ (by first | with_reducible assumption | exact rfl); clear hr0) | (with_reducible refine at_list ?_; refine wpList_wide rfl rfl rfl Try.underlying28 Try.underlying32 ?_; intro r n hr0; have hr := hr0 _ (by first | with_reducible assumption | exact rfl); clear hr0) | (go_at_call_of 27 (Value.agg #[Value.int .i64 m1, Value.int .i64 h1]); refine (HH1.out _).mono ?_; rintro e w' ⟨rfl, hb⟩; obtain ⟨hT, hk⟩ := bv_next hb (by (repeat (with_reducible first | assumption | apply Trk.alloc | apply Trk.setCell | apply Trk.drewN | apply Trk.drew | exact Trk.nil _))); simp only [SameOn, World.size_alloc, World.size_setCell, World.size_drew, size_drewN', and_true] at hk; have hsz := Below.size hb; (try simp only [World.size_alloc, World.size_setCell, World.size_drew, size_drewN'] at hsz)) | (go_at_call 27; refine (HH2.out _ _ (by omega)).mono ?_; rintro e w' ⟨rfl, hb⟩; obtain ⟨hT, hk⟩ := bv_next hb (by (repeat (with_reducible first | assumption | apply Trk.alloc | apply Trk.setCell | apply Trk.drewN | apply Trk.drew | exact Trk.nil _))); simp only [SameOn, World.size_alloc, World.size_setCell, World.size_drew, size_drewN', and_true] at hk; have hsz := Below.size hb; (try simp only [World.size_alloc, World.size_setCell, World.size_drew, size_drewN'] at hsz)) | (go_at_call 30; refine (implMix_any _ _ _ _ _).mono ?_; rintro e w' ⟨rfl, hb⟩; obtain ⟨hT, hk⟩ := bv_next hb (by (repeat (with_reducible first | assumption | apply Trk.alloc | apply Trk.setCell | apply Trk.drewN | apply Trk.drew | exact Trk.nil _))); simp only [SameOn, World.size_alloc, World.size_setCell, World.size_drew, size_drewN', and_true] at hk; have hsz := Below.size hb; (try simp only [World.size_alloc, World.size_setCell, World.size_drew, size_drewN'] at hsz)) | (go_at_call 23; refine ((HT.out _) ).mono ?_; rintro e w' ⟨rfl, hb⟩; obtain ⟨hT, hk⟩ := bv_next hb (by (repeat (with_reducible first | assumption | apply Trk.alloc | apply Trk.setCell | apply Trk.drewN | apply Trk.drew | exact Trk.nil _))); simp only [SameOn, World.size_alloc, World.size_setCell, World.size_drew, size_drewN', and_true] at hk; have hsz := Below.size hb; (try simp only [World.size_alloc, World.size_setCell, World.size_drew, size_drewN'] at hsz)) | (go_at_call 15; refine (implValidCup_any _ _ _).mono ?_; rintro e w' ⟨rfl, hb⟩; obtain ⟨hT, hk⟩ := bv_next hb (by (repeat (with_reducible first | assumption | apply Trk.alloc | apply Trk.setCell | apply Trk.drewN | apply Trk.drew | exact Trk.nil _))); simp only [SameOn, World.size_alloc, World.size_setCell, World.size_drew, size_drewN', and_true] at hk; have hsz := Below.size hb; (try simp only [World.size_alloc, World.size_setCell, World.size_drew, size_drewN'] at hsz)) | (go_at_call 27; refine (implHeat_any _ _ _ _).mono ?_; rintro e w' ⟨rfl, hb⟩; obtain ⟨hT, hk⟩ := bv_next hb (by (repeat (with_reducible first | assumption | apply Trk.alloc | apply Trk.setCell | apply Trk.drewN | apply Trk.drew | exact Trk.nil _))); simp only [SameOn, World.size_alloc, World.size_setCell, World.size_drew, size_drewN', and_true] at hk; have hsz := Below.size hb; (try simp only [World.size_alloc, World.size_setCell, World.size_drew, size_drewN'] at hsz)))
        go_ret
        exact ⟨rfl, by (repeat (first | (with_reducible exact Below.refl _ _) | (with_reducible assumption) | (with_reducible refine below_then ?_ (by assumption)) | (with_reducible refine Below.trans ?_ (by assumption)) | (with_reducible refine below_drewN ?_ _) | (with_reducible apply Below.drew) | (with_reducible refine below_alloc ?_ _) | refine Below.setCell ?_ (by first | (simp; done) | (simp; omega)) _))⟩
    · have HH := Lib.hid (fun w => heat_no m1 h1 (r - 100) w (by omega) hh1 (by omega) hkn)
      rcases (show h1 + (r - 100) < -50 * m1 ∨ (-50 * m1 ≤ h1 + (r - 100) ∧ ¬ h1 + (r - 100) ≤ 180 * m1) by omega) with hkx | ⟨hkx, hky⟩
      all_goals try (exfalso; omega)
      all_goals
        clear hkn
        go_wp2_with (first | (with_reducible refine at_list ?_; refine wpList_fop rfl rfl rfl rfl rfl ?_; intro r n hr0; have hr := hr0 _ _ (by first | with_reducible assumption | exact rfl) (by first | with_reducible assumption | exact rfl); clear hr0) | (with_reducible refine at_list ?_; refine wpList_neg rfl rfl rfl ?_; intro r hr0; have hr := hr0 _ (by first | with_reducible assumption | exact rfl); clear hr0) | (with_reducible refine at_list ?_; refine wpList_fop_g rfl rfl rfl rfl rfl ?_; intro r n hr0; have hr := hr0 _ _ (by first | with_reducible assumption | exact rfl) (by first | with_reducible assumption | exact rfl); clear hr0) | (with_reducible refine at_list ?_; refine wpList_wide_g rfl rfl Try.underlying28 Try.underlying32 rfl ?_; intro r n hr0; have hr := hr0 _ (by first | with_reducible assumption | exact rfl); clear hr0) | (with_reducible refine at_list ?_; refine wpList_wide rfl rfl rfl Try.underlying28 Try.underlying32 ?_; intro r n hr0; have hr := hr0 _ (by first | with_reducible assumption | exact rfl); clear hr0) | (go_at_call 30; refine (implMix_any _ _ _ _ _).mono ?_; rintro e w' ⟨rfl, hb⟩; obtain ⟨hT, hk⟩ := bv_next hb (by (repeat (with_reducible first | assumption | apply Trk.alloc | apply Trk.setCell | apply Trk.drewN | apply Trk.drew | exact Trk.nil _))); simp only [SameOn, World.size_alloc, World.size_setCell, World.size_drew, size_drewN', and_true] at hk; have hsz := Below.size hb; (try simp only [World.size_alloc, World.size_setCell, World.size_drew, size_drewN'] at hsz)) | (go_at_call 23; refine (implMelt_any _ _ _).mono ?_; rintro e w' ⟨rfl, hb⟩; obtain ⟨hT, hk⟩ := bv_next hb (by (repeat (with_reducible first | assumption | apply Trk.alloc | apply Trk.setCell | apply Trk.drewN | apply Trk.drew | exact Trk.nil _))); simp only [SameOn, World.size_alloc, World.size_setCell, World.size_drew, size_drewN', and_true] at hk; have hsz := Below.size hb; (try simp only [World.size_alloc, World.size_setCell, World.size_drew, size_drewN'] at hsz)) | (go_at_call 15; refine (implValidCup_any _ _ _).mono ?_; rintro e w' ⟨rfl, hb⟩; obtain ⟨hT, hk⟩ := bv_next hb (by (repeat (with_reducible first | assumption | apply Trk.alloc | apply Trk.setCell | apply Trk.drewN | apply Trk.drew | exact Trk.nil _))); simp only [SameOn, World.size_alloc, World.size_setCell, World.size_drew, size_drewN', and_true] at hk; have hsz := Below.size hb; (try simp only [World.size_alloc, World.size_setCell, World.size_drew, size_drewN'] at hsz)) | (go_at_call 27; refine ((HH.out _) ).mono ?_; rintro e w' ⟨rfl, hb⟩; obtain ⟨hT, hk⟩ := bv_next hb (by (repeat (with_reducible first | assumption | apply Trk.alloc | apply Trk.setCell | apply Trk.drewN | apply Trk.drew | exact Trk.nil _))); simp only [SameOn, World.size_alloc, World.size_setCell, World.size_drew, size_drewN', and_true] at hk; have hsz := Below.size hb; (try simp only [World.size_alloc, World.size_setCell, World.size_drew, size_drewN'] at hsz)))
        go_ret
        exact ⟨rfl, by (repeat (first | (with_reducible exact Below.refl _ _) | (with_reducible assumption) | (with_reducible refine below_then ?_ (by assumption)) | (with_reducible refine Below.trans ?_ (by assumption)) | (with_reducible refine below_drewN ?_ _) | (with_reducible apply Below.drew) | (with_reducible refine below_alloc ?_ _) | refine Below.setCell ?_ (by first | (simp; done) | (simp; omega)) _))⟩
set_option maxRecDepth 100000 in
set_option maxHeartbeats 2000000 in
theorem lifted_FnCups (os : Os) (started : os.Started) (H : Type) (enc : TypeId × Value → H) :
    ReturnsInHanded {} Try.checked os 12 .any (Rows.fnCupsSpec.pre6 enc Try.prog Try.f12 Rows.fnCupsRow.domain false) (Rows.fnCupsSpec.post enc Try.prog Try.f12 false true false false) := by
  refine returnsInHanded_of_change (C := Try.checked) own started (by kernel_rfl) Try.func12
    (ChangeSpec.witness6 (enc := enc) (C := Try.checked) false ⟨#[], #[.slice none 0 0, .slice none 0 0], []⟩ 8 (by kernel_rfl) (by kernel_rfl) (by kernel_rfl) (by kernel_rfl)) ?_
  intro W base args ds gs before hval0 hW hcnd _
  have hval : ∀ (j : Nat) t v, Try.f12.params[j]? = some t → args[j]? = some v → Value.okWide Try.prog W .any base t v := hval0
  have hW' := hW
  obtain ⟨p, q, hA0, hV, rfl, hfz, hnd⟩ := hW
  have hA : DataW.TrodAll enc Try.prog W 0 (fun _ => true) true Try.f12.params.toList args.toList ds p := hA0
  rw [Try.params12] at hA hval
  obtain ⟨v0, vs0, d0, ds0, p0, q0, hargs, rfl, rfl, h0, r0⟩ := trodAll_cons hA
  obtain ⟨v1, vs1, d1, ds1, p1, q1, rfl, rfl, rfl, h1, r1⟩ := trodAll_cons r0
  obtain ⟨rfl, rfl, rfl⟩ := trodAll_nil r1
  obtain rfl : args = #[v0, v1] := by cases args; simp_all
  obtain ⟨rfl, rfl⟩ := trodVars_none hV
  have k0 := h0
  have lt0 : ∀ x ∈ p0, x.block < W.heap.size := by obtain ⟨m, hm⟩ := k0; exact DataW.trod_lt m _ _ _ hm
  obtain ⟨pa, na, ca, rfl, w0⟩ := open_By (hval 0 54 v0 rfl rfl) h0
  have k1 := h1
  have lt1 : ∀ x ∈ p1, x.block < W.heap.size := by obtain ⟨m, hm⟩ := k1; exact DataW.trod_lt m _ _ _ hm
  obtain ⟨pb, nb, cb, rfl, w1⟩ := open_By (hval 1 54 v1 rfl rfl) h1
  clear hA0 hval0
  refine (walk_FnCups pa na ca pb nb cb W w0 w1).mono fun e W' ⟨he, hg⟩ => ?_
  subst he
  exact ⟨_, rfl, _, _, _, [], _, [], hW', trodAll_mk1 (shut_bool Try.underlying4 _), (trodAll_cons_mk (Below.trod laidOut (by kernel_rfl) (of_decide_eq_true (by kernel_rfl)) k0 hg lt0) (trodAll_cons_mk (Below.trod laidOut (by kernel_rfl) (of_decide_eq_true (by kernel_rfl)) k1 hg lt1) trodAll_mk0)), rfl, hg.frame _, fun h => by cases h⟩
theorem fnCups_holds : Rows.FnCupsSaid :=
  OpenClaim.holds_of_wide 12 Try.f12 rfl rfl rfl rfl rfl rfl rfl ⟨rfl, rfl, rfl, rfl, rfl⟩ rfl rfl rfl rfl rfl (by kernel_rfl) Try.func12 (by kernel_rfl)
    (of_decide_eq_true (by kernel_rfl)) (by unfold Func.isWrapper; rw [if_neg (of_decide_eq_false (by kernel_rfl))]; exact ⟨rfl, rfl⟩)
    (fun os started H enc _ => lifted_FnCups os started H enc)
end Go.Proofs.Ytpdpokbjfnnomaa

/-
  How much of a cup is molten, and how warm it is (the program's and the reference's), each proved once. No condition but what each contract says.
-/
import Derived.Test.YtpdpokbjfnnomaaCup
set_option linter.unusedSimpArgs false
set_option linter.unusedVariables false
set_option linter.unusedSectionVars false
namespace Go.Proofs.Ytpdpokbjfnnomaa
open Go Go.RowKit
def RII (w : World) (a b : Int) (e : Ending) (w' : World) : Prop := e = .returned (.tuple #[.int .i64 a, .int .i64 b]) ∧ ∃ n, w' = w.drewN n
def gI (top bot : Int) : Int := (Int.gcd top bot : Int)
set_option maxHeartbeats 1000000 in
theorem lowest_any (top bot : Int) (w : World) (h0 : -1000000000 ≤ top) (h1 : top ≤ 1000000000) (h2 : 1 ≤ bot) (h3 : bot ≤ 1000000) :
    Calls Try.prog 57 #[.int .i64 top, .int .i64 bot] w (RII w (top.tdiv (gI top bot)) (bot.tdiv (gI top bot))) := by
  obtain ⟨bn, rfl⟩ := Int.eq_ofNat_of_zero_le (show 0 ≤ bot by omega)
  have hn : ((if top < -top then -top else top) : Int) = (top.natAbs : Int) := by omega
  by_cases hs : top < -top
  all_goals
    have HG : Hid (Nat.gcd top.natAbs bn = (gI top bn).toNat) := by show _ = _; simp [gI, Int.gcd]
    have hpos : Hid (0 < Nat.gcd top.natAbs bn) := Nat.gcd_pos_of_pos_right _ (by omega)
    go_enter Try.func57, Try.ntmps57
    go_wp2
    go_loopw [6, 7] (fun s t wr => ∃ a b m : Nat, s = .int .i64 a ∧ t = .int .i64 b ∧ wr = w.drewN m ∧ Hid (Nat.gcd a b = Nat.gcd top.natAbs bn) ∧ a ≤ 1000000000 ∧ b ≤ 1000000000) (fun _ t _ => (intOf t).toNat)
    case atStart => exact ⟨top.natAbs, bn, 0, by congr 1; omega, rfl, rfl, rfl, by omega, by omega⟩
    case round =>
      obtain ⟨a, b, m, rfl, rfl, rfl, hg, ha, hb⟩ := hrel
      by_cases hz : b = 0
      · subst hz
        have hap : (0 : Int) < a := by have := hpos.out; rw [← hg.out] at this; simpa using this
        have hga : (a : Int) = gI top bn := by have := hg.out; simp only [Nat.gcd_zero_right] at this; rw [gI, Int.gcd]; simp [this]
        have hw : wrap64 ((bn : Int) / (a : Int)) = (bn : Int).tdiv (a : Int) := by
          have e1 : (bn : Int).tdiv (a : Int) = (bn : Int) / (a : Int) := Int.tdiv_eq_ediv_of_nonneg (by omega)
          have e2 : 0 ≤ (bn : Int) / (a : Int) := Int.ediv_nonneg (by omega) (by omega)
          have e3 : (bn : Int) / (a : Int) ≤ bn := Int.ediv_le_self _ (by omega)
          rw [e1]; unfold wrap64; omega
        have HW := Lib.hid hw
        have HGA := Lib.hid hga
        clear hw hga
        have HT : Hid (top.tdiv (a : Int) = top.tdiv (gI top bn)) := by show _ = _; rw [HGA.out]
        go_wp2_with fail
        refine wp_some_lit (by kernel_rfl) (by kernel_rfl) ?_
        repeat (first | (with_reducible refine at_some ?_; refine wpSome_fop rfl rfl rfl rfl rfl ?_; intro r hr0; have hr := hr0 _ _ (by first | with_reducible assumption | exact rfl) (by first | with_reducible assumption | exact rfl); clear hr0) | (with_reducible refine at_some ?_; refine wpSome_neg rfl rfl rfl ?_; intro r hr0; have hr := hr0 _ (by first | with_reducible assumption | exact rfl); clear hr0) | (refine wpSome_one ?_; go_big_quiet_step (fail); refine wpQuiet_nil ?_))
        refine wpSome_nil ?_
        intro w' hw'
        obtain ⟨nq, rfl⟩ := hw'
        go_wp2
        go_ret2
        refine ⟨?_, _, World.drewN_drewN ..⟩
        rw [← HT.out, ← HGA.out, ← HW.out]
        first | rfl | (rw [Int.tdiv_eq_ediv_of_nonneg (by omega)]; rfl)
      · have hb0 : (0 : Int) < b := by omega
        go_wp2_with fail
        refine wp_some_lit (by kernel_rfl) (by kernel_rfl) ?_
        repeat (first | (with_reducible refine at_some ?_; refine wpSome_fop rfl rfl rfl rfl rfl ?_; intro r hr0; have hr := hr0 _ _ (by first | with_reducible assumption | exact rfl) (by first | with_reducible assumption | exact rfl); clear hr0) | (with_reducible refine at_some ?_; refine wpSome_neg rfl rfl rfl ?_; intro r hr0; have hr := hr0 _ (by first | with_reducible assumption | exact rfl); clear hr0) | (refine wpSome_one ?_; go_big_quiet_step (fail); refine wpQuiet_nil ?_))
        refine wpSome_nil ?_
        intro w' hw'
        obtain ⟨nq, rfl⟩ := hw'
        go_wp2
        go_roundw
        case rel => exact ⟨b, a % b, m + nq, rfl, by simp, by simp, by show _ = _; rw [← hg.out, Nat.gcd_comm a b, Nat.gcd_rec b a, Nat.gcd_comm], hb, by have := Nat.mod_lt a (show 0 < b by omega); omega⟩
        case measure => simp only [intOf]; have := Nat.mod_lt a (show 0 < b by omega); omega
set_option maxHeartbeats 1000000 in
theorem l03Low_any (top bot : Int) (w : World) (h0 : -1000000000 ≤ top) (h1 : top ≤ 1000000000) (h2 : 1 ≤ bot) (h3 : bot ≤ 1000000) :
    Calls Try.prog 56 #[.int .i64 top, .int .i64 bot] w (RII w (top.tdiv (gI top bot)) (bot.tdiv (gI top bot))) := by
  obtain ⟨bn, rfl⟩ := Int.eq_ofNat_of_zero_le (show 0 ≤ bot by omega)
  have HG : Hid (Nat.gcd top.natAbs bn = (gI top bn).toNat) := by show _ = _; simp [gI, Int.gcd]
  have hpos : Hid (0 < Nat.gcd top.natAbs bn) := Nat.gcd_pos_of_pos_right _ (by omega)
  by_cases hs : top < 0
  all_goals
    go_enter Try.func56, Try.ntmps56
    go_wp2
    go_loopw [6, 7] (fun s t wr => ∃ a b m : Nat, s = .int .i64 a ∧ t = .int .i64 b ∧ wr = w.drewN m ∧ Hid (Nat.gcd a b = Nat.gcd top.natAbs bn) ∧ a ≤ 1000000000 ∧ b ≤ 1000000000) (fun _ t _ => (intOf t).toNat)
    case atStart => exact ⟨top.natAbs, bn, 0, by congr 1; omega, rfl, rfl, rfl, by omega, by omega⟩
    case round =>
      obtain ⟨a, b, m, rfl, rfl, rfl, hg, ha, hb⟩ := hrel
      by_cases hz : b = 0
      · subst hz
        have hap : (0 : Int) < a := by have := hpos.out; rw [← hg.out] at this; simpa using this
        have hga : (a : Int) = gI top bn := by have := hg.out; simp only [Nat.gcd_zero_right] at this; rw [gI, Int.gcd]; simp [this]
        have hw : wrap64 ((bn : Int) / (a : Int)) = (bn : Int).tdiv (a : Int) := by
          have e1 : (bn : Int).tdiv (a : Int) = (bn : Int) / (a : Int) := Int.tdiv_eq_ediv_of_nonneg (by omega)
          have e2 : 0 ≤ (bn : Int) / (a : Int) := Int.ediv_nonneg (by omega) (by omega)
          have e3 : (bn : Int) / (a : Int) ≤ bn := Int.ediv_le_self _ (by omega)
          rw [e1]; unfold wrap64; omega
        have HW := Lib.hid hw
        have HGA := Lib.hid hga
        clear hw hga
        have HT : Hid (top.tdiv (a : Int) = top.tdiv (gI top bn)) := by show _ = _; rw [HGA.out]
        go_wp2_with fail
        refine wp_some_lit (by kernel_rfl) (by kernel_rfl) ?_
        repeat (first | (with_reducible refine at_some ?_; refine wpSome_fop rfl rfl rfl rfl rfl ?_; intro r hr0; have hr := hr0 _ _ (by first | with_reducible assumption | exact rfl) (by first | with_reducible assumption | exact rfl); clear hr0) | (with_reducible refine at_some ?_; refine wpSome_neg rfl rfl rfl ?_; intro r hr0; have hr := hr0 _ (by first | with_reducible assumption | exact rfl); clear hr0) | (refine wpSome_one ?_; go_big_quiet_step (fail); refine wpQuiet_nil ?_))
        refine wpSome_nil ?_
        intro w' hw'
        obtain ⟨nq, rfl⟩ := hw'
        go_wp2
        go_ret2
        refine ⟨?_, _, World.drewN_drewN ..⟩
        rw [← HT.out, ← HGA.out, ← HW.out]
        first | rfl | (rw [Int.tdiv_eq_ediv_of_nonneg (by omega)]; rfl)
      · have hb0 : (0 : Int) < b := by omega
        go_wp2_with fail
        refine wp_some_lit (by kernel_rfl) (by kernel_rfl) ?_
        repeat (first | (with_reducible refine at_some ?_; refine wpSome_fop rfl rfl rfl rfl rfl ?_; intro r hr0; have hr := hr0 _ _ (by first | with_reducible assumption | exact rfl) (by first | with_reducible assumption | exact rfl); clear hr0) | (with_reducible refine at_some ?_; refine wpSome_neg rfl rfl rfl ?_; intro r hr0; have hr := hr0 _ (by first | with_reducible assumption | exact rfl); clear hr0) | (refine wpSome_one ?_; go_big_quiet_step (fail); refine wpQuiet_nil ?_))
        refine wpSome_nil ?_
        intro w' hw'
        obtain ⟨nq, rfl⟩ := hw'
        go_wp2
        go_roundw
        case rel => exact ⟨b, a % b, m + nq, rfl, by simp, by simp, by show _ = _; rw [← hg.out, Nat.gcd_comm a b, Nat.gcd_rec b a, Nat.gcd_comm], hb, by have := Nat.mod_lt a (show 0 < b by omega); omega⟩
        case measure => simp only [intOf]; have := Nat.mod_lt a (show 0 < b by omega); omega
theorem warm0 {m : Int} (h : 1 ≤ m) : (0 : Int).tdiv (gI 0 m) = 0 ∧ m.tdiv (gI 0 m) = 1 := by
  have e : gI 0 m = m := by unfold gI; simp; omega
  rw [e]; exact ⟨Int.zero_tdiv _, Int.tdiv_self (by omega)⟩
def warmCupV (m h : Int) : Value := if cupB m h then (if h < 0 then .tuple #[.int .i64 ((2 * h).tdiv (gI (2 * h) m)), .int .i64 (m.tdiv (gI (2 * h) m)), .bool true] else if 80 * m < h then .tuple #[.int .i64 ((h - 80 * m).tdiv (gI (h - 80 * m) m)), .int .i64 (m.tdiv (gI (h - 80 * m) m)), .bool true] else .tuple #[.int .i64 ((0 : Int).tdiv (gI 0 m)), .int .i64 (m.tdiv (gI 0 m)), .bool true]) else .tuple #[.int .i64 0, .int .i64 0, .bool false]
set_option maxHeartbeats 1000000 in
theorem implWarmCup_any (m h : Int) (w : World) : Calls Try.prog 34 #[.agg #[.int .i64 m, .int .i64 h]] w (BV w (warmCupV m h)) := by
  rcases g1 : cupB m h
  · have Hv : Hid (warmCupV m h = .tuple #[.int .i64 0, .int .i64 0, .bool false]) := by show _ = _; simp [warmCupV, g1]
    go_enter Try.func34, Try.ntmps34
    go_wp2_with (first | (with_reducible refine at_list ?_; refine wpList_fop rfl rfl rfl rfl rfl ?_; intro r n hr0; have hr := hr0 _ _ (by first | with_reducible assumption | exact rfl) (by first | with_reducible assumption | exact rfl); clear hr0) | (with_reducible refine at_list ?_; refine wpList_neg rfl rfl rfl ?_; intro r hr0; have hr := hr0 _ (by first | with_reducible assumption | exact rfl); clear hr0) | (with_reducible refine at_list ?_; refine wpList_fop_g rfl rfl rfl rfl rfl ?_; intro r n hr0; have hr := hr0 _ _ (by first | with_reducible assumption | exact rfl) (by first | with_reducible assumption | exact rfl); clear hr0) | (with_reducible refine at_list ?_; refine wpList_wide_g rfl rfl Try.underlying28 Try.underlying32 rfl ?_; intro r n hr0; have hr := hr0 _ (by first | with_reducible assumption | exact rfl); clear hr0) | (with_reducible refine at_list ?_; refine wpList_wide rfl rfl rfl Try.underlying28 Try.underlying32 ?_; intro r n hr0; have hr := hr0 _ (by first | with_reducible assumption | exact rfl); clear hr0) | (go_at_call 15; refine (implValidCup_any _ _ _).mono ?_; rintro e w' ⟨rfl, hb⟩; have hk0 : w'.cell? ⟨w.heap.size, 0, none⟩ = some (.int .i64 m) := cell_later hb (by go_simp); have hk1 : w'.cell? ⟨w.heap.size, 1, none⟩ = some (.int .i64 h) := cell_later hb (by go_simp)))
    refine bodyPost_ret (v := .tuple #[.int .i64 0, .int .i64 0, .bool false]) (by simp [results, Try.results34, go_sem, *]) rfl ?_
    exact ⟨by rw [Hv.out], by (repeat (first | (with_reducible exact Below.refl _ _) | (with_reducible assumption) | (with_reducible refine below_then ?_ (by assumption)) | (with_reducible refine Below.trans ?_ (by assumption)) | (with_reducible refine below_drewN ?_ _) | (with_reducible apply Below.drew) | (with_reducible refine below_alloc ?_ _) | refine Below.setCell ?_ (by first | (simp; done) | (simp; omega)) _))⟩
  obtain ⟨b1, b2, b3, b4⟩ := cupB_bd g1
  by_cases hn : h < 0
  · have Hv : Hid (warmCupV m h = .tuple #[.int .i64 ((2 * h).tdiv (gI (2 * h) m)), .int .i64 (m.tdiv (gI (2 * h) m)), .bool true]) := by show _ = _; simp [warmCupV, g1, hn]
    go_enter Try.func34, Try.ntmps34
    go_wp2_with (first | (with_reducible refine at_list ?_; refine wpList_fop rfl rfl rfl rfl rfl ?_; intro r n hr0; have hr := hr0 _ _ (by first | with_reducible assumption | exact rfl) (by first | with_reducible assumption | exact rfl); clear hr0) | (with_reducible refine at_list ?_; refine wpList_neg rfl rfl rfl ?_; intro r hr0; have hr := hr0 _ (by first | with_reducible assumption | exact rfl); clear hr0) | (with_reducible refine at_list ?_; refine wpList_fop_g rfl rfl rfl rfl rfl ?_; intro r n hr0; have hr := hr0 _ _ (by first | with_reducible assumption | exact rfl) (by first | with_reducible assumption | exact rfl); clear hr0) | (with_reducible refine at_list ?_; refine wpList_wide_g rfl rfl Try.underlying28 Try.underlying32 rfl ?_; intro r n hr0; have hr := hr0 _ (by first | with_reducible assumption | exact rfl); clear hr0) | (with_reducible refine at_list ?_; refine wpList_wide rfl rfl rfl Try.underlying28 Try.underlying32 ?_; intro r n hr0; have hr := hr0 _ (by first | with_reducible assumption | exact rfl); clear hr0) | (go_at_call 15; refine (implValidCup_any _ _ _).mono ?_; rintro e w' ⟨rfl, hb⟩; have hk0 : w'.cell? ⟨w.heap.size, 0, none⟩ = some (.int .i64 m) := cell_later hb (by go_simp); have hk1 : w'.cell? ⟨w.heap.size, 1, none⟩ = some (.int .i64 h) := cell_later hb (by go_simp)) | (go_at_call 57; refine (lowest_any _ _ _ (by omega) (by omega) (by omega) (by omega)).mono ?_; rintro e w' ⟨rfl, n, rfl⟩))
    refine bodyPost_ret (v := .tuple #[.int .i64 ((2 * h).tdiv (gI (2 * h) m)), .int .i64 (m.tdiv (gI (2 * h) m)), .bool true]) (by simp [results, Try.results34, go_sem, *]) rfl ?_
    exact ⟨by rw [Hv.out], by (repeat (first | (with_reducible exact Below.refl _ _) | (with_reducible assumption) | (with_reducible refine below_then ?_ (by assumption)) | (with_reducible refine Below.trans ?_ (by assumption)) | (with_reducible refine below_drewN ?_ _) | (with_reducible apply Below.drew) | (with_reducible refine below_alloc ?_ _) | refine Below.setCell ?_ (by first | (simp; done) | (simp; omega)) _))⟩
  by_cases hp : 80 * m < h
  · have Hv : Hid (warmCupV m h = .tuple #[.int .i64 ((h - 80 * m).tdiv (gI (h - 80 * m) m)), .int .i64 (m.tdiv (gI (h - 80 * m) m)), .bool true]) := by show _ = _; simp [warmCupV, g1, hn, hp]
    go_enter Try.func34, Try.ntmps34
    go_wp2_with (first | (with_reducible refine at_list ?_; refine wpList_fop rfl rfl rfl rfl rfl ?_; intro r n hr0; have hr := hr0 _ _ (by first | with_reducible assumption | exact rfl) (by first | with_reducible assumption | exact rfl); clear hr0) | (with_reducible refine at_list ?_; refine wpList_neg rfl rfl rfl ?_; intro r hr0; have hr := hr0 _ (by first | with_reducible assumption | exact rfl); clear hr0) | (with_reducible refine at_list ?_; refine wpList_fop_g rfl rfl rfl rfl rfl ?_; intro r n hr0; have hr := hr0 _ _ (by first | with_reducible assumption | exact rfl) (by first | with_reducible assumption | exact rfl); clear hr0) | (with_reducible refine at_list ?_; refine wpList_wide_g rfl rfl Try.underlying28 Try.underlying32 rfl ?_; intro r n hr0; have hr := hr0 _ (by first | with_reducible assumption | exact rfl); clear hr0) | (with_reducible refine at_list ?_; refine wpList_wide rfl rfl rfl Try.underlying28 Try.underlying32 ?_; intro r n hr0; have hr := hr0 _ (by first | with_reducible assumption | exact rfl); clear hr0) | (go_at_call 15; refine (implValidCup_any _ _ _).mono ?_; rintro e w' ⟨rfl, hb⟩; have hk0 : w'.cell? ⟨w.heap.size, 0, none⟩ = some (.int .i64 m) := cell_later hb (by go_simp); have hk1 : w'.cell? ⟨w.heap.size, 1, none⟩ = some (.int .i64 h) := cell_later hb (by go_simp)) | (go_at_call 57; refine (lowest_any _ _ _ (by omega) (by omega) (by omega) (by omega)).mono ?_; rintro e w' ⟨rfl, n, rfl⟩))
    refine bodyPost_ret (v := .tuple #[.int .i64 ((h - 80 * m).tdiv (gI (h - 80 * m) m)), .int .i64 (m.tdiv (gI (h - 80 * m) m)), .bool true]) (by simp [results, Try.results34, go_sem, *]) rfl ?_
    exact ⟨by rw [Hv.out], by (repeat (first | (with_reducible exact Below.refl _ _) | (with_reducible assumption) | (with_reducible refine below_then ?_ (by assumption)) | (with_reducible refine Below.trans ?_ (by assumption)) | (with_reducible refine below_drewN ?_ _) | (with_reducible apply Below.drew) | (with_reducible refine below_alloc ?_ _) | refine Below.setCell ?_ (by first | (simp; done) | (simp; omega)) _))⟩
  · have Hv : Hid (warmCupV m h = .tuple #[.int .i64 ((0 : Int).tdiv (gI 0 m)), .int .i64 (m.tdiv (gI 0 m)), .bool true]) := by show _ = _; simp [warmCupV, g1, hn, hp]
    go_enter Try.func34, Try.ntmps34
    go_wp2_with (first | (with_reducible refine at_list ?_; refine wpList_fop rfl rfl rfl rfl rfl ?_; intro r n hr0; have hr := hr0 _ _ (by first | with_reducible assumption | exact rfl) (by first | with_reducible assumption | exact rfl); clear hr0) | (with_reducible refine at_list ?_; refine wpList_neg rfl rfl rfl ?_; intro r hr0; have hr := hr0 _ (by first | with_reducible assumption | exact rfl); clear hr0) | (with_reducible refine at_list ?_; refine wpList_fop_g rfl rfl rfl rfl rfl ?_; intro r n hr0; have hr := hr0 _ _ (by first | with_reducible assumption | exact rfl) (by first | with_reducible assumption | exact rfl); clear hr0) | (with_reducible refine at_list ?_; refine wpList_wide_g rfl rfl Try.underlying28 Try.underlying32 rfl ?_; intro r n hr0; have hr := hr0 _ (by first | with_reducible assumption | exact rfl); clear hr0) | (with_reducible refine at_list ?_; refine wpList_wide rfl rfl rfl Try.underlying28 Try.underlying32 ?_; intro r n hr0; have hr := hr0 _ (by first | with_reducible assumption | exact rfl); clear hr0) | (go_at_call 15; refine (implValidCup_any _ _ _).mono ?_; rintro e w' ⟨rfl, hb⟩; have hk0 : w'.cell? ⟨w.heap.size, 0, none⟩ = some (.int .i64 m) := cell_later hb (by go_simp); have hk1 : w'.cell? ⟨w.heap.size, 1, none⟩ = some (.int .i64 h) := cell_later hb (by go_simp)) | (go_at_call 57; refine (lowest_any _ _ _ (by omega) (by omega) (by omega) (by omega)).mono ?_; rintro e w' ⟨rfl, n, rfl⟩))
    refine bodyPost_ret (v := .tuple #[.int .i64 ((0 : Int).tdiv (gI 0 m)), .int .i64 (m.tdiv (gI 0 m)), .bool true]) (by simp [results, Try.results34, go_sem, *]) rfl ?_
    exact ⟨by rw [Hv.out], by (repeat (first | (with_reducible exact Below.refl _ _) | (with_reducible assumption) | (with_reducible refine below_then ?_ (by assumption)) | (with_reducible refine Below.trans ?_ (by assumption)) | (with_reducible refine below_drewN ?_ _) | (with_reducible apply Below.drew) | (with_reducible refine below_alloc ?_ _) | refine Below.setCell ?_ (by first | (simp; done) | (simp; omega)) _))⟩
set_option maxHeartbeats 1000000 in
theorem specWarmCup_any (m h : Int) (w : World) : Calls Try.prog 33 #[.agg #[.int .i64 m, .int .i64 h]] w (BV w (warmCupV m h)) := by
  rcases g1 : cupB m h
  · have Hv : Hid (warmCupV m h = .tuple #[.int .i64 0, .int .i64 0, .bool false]) := by show _ = _; simp [warmCupV, g1]
    go_enter Try.func33, Try.ntmps33
    go_wp2_with (first | (with_reducible refine at_list ?_; refine wpList_fop rfl rfl rfl rfl rfl ?_; intro r n hr0; have hr := hr0 _ _ (by first | with_reducible assumption | exact rfl) (by first | with_reducible assumption | exact rfl); clear hr0) | (with_reducible refine at_list ?_; refine wpList_neg rfl rfl rfl ?_; intro r hr0; have hr := hr0 _ (by first | with_reducible assumption | exact rfl); clear hr0) | (with_reducible refine at_list ?_; refine wpList_fop_g rfl rfl rfl rfl rfl ?_; intro r n hr0; have hr := hr0 _ _ (by first | with_reducible assumption | exact rfl) (by first | with_reducible assumption | exact rfl); clear hr0) | (with_reducible refine at_list ?_; refine wpList_wide_g rfl rfl Try.underlying28 Try.underlying32 rfl ?_; intro r n hr0; have hr := hr0 _ (by first | with_reducible assumption | exact rfl); clear hr0) | (with_reducible refine at_list ?_; refine wpList_wide rfl rfl rfl Try.underlying28 Try.underlying32 ?_; intro r n hr0; have hr := hr0 _ (by first | with_reducible assumption | exact rfl); clear hr0) | (go_at_call 38; refine (l03Cup_any _ _ m h _ (by go_simp) (by go_simp)).mono ?_; rintro e w' ⟨rfl, n, rfl⟩))
    refine bodyPost_ret (v := .tuple #[.int .i64 0, .int .i64 0, .bool false]) (by simp [results, Try.results33, go_sem, *]) rfl ?_
    exact ⟨by rw [Hv.out], by (repeat (first | (with_reducible exact Below.refl _ _) | (with_reducible assumption) | (with_reducible refine below_then ?_ (by assumption)) | (with_reducible refine Below.trans ?_ (by assumption)) | (with_reducible refine below_drewN ?_ _) | (with_reducible apply Below.drew) | (with_reducible refine below_alloc ?_ _) | refine Below.setCell ?_ (by first | (simp; done) | (simp; omega)) _))⟩
  obtain ⟨b1, b2, b3, b4⟩ := cupB_bd g1
  by_cases hn : h < 0
  · have Hv : Hid (warmCupV m h = .tuple #[.int .i64 ((2 * h).tdiv (gI (2 * h) m)), .int .i64 (m.tdiv (gI (2 * h) m)), .bool true]) := by show _ = _; simp [warmCupV, g1, hn]
    go_enter Try.func33, Try.ntmps33
    go_wp2_with (first | (with_reducible refine at_list ?_; refine wpList_fop rfl rfl rfl rfl rfl ?_; intro r n hr0; have hr := hr0 _ _ (by first | with_reducible assumption | exact rfl) (by first | with_reducible assumption | exact rfl); clear hr0) | (with_reducible refine at_list ?_; refine wpList_neg rfl rfl rfl ?_; intro r hr0; have hr := hr0 _ (by first | with_reducible assumption | exact rfl); clear hr0) | (with_reducible refine at_list ?_; refine wpList_fop_g rfl rfl rfl rfl rfl ?_; intro r n hr0; have hr := hr0 _ _ (by first | with_reducible assumption | exact rfl) (by first | with_reducible assumption | exact rfl); clear hr0) | (with_reducible refine at_list ?_; refine wpList_wide_g rfl rfl Try.underlying28 Try.underlying32 rfl ?_; intro r n hr0; have hr := hr0 _ (by first | with_reducible assumption | exact rfl); clear hr0) | (with_reducible refine at_list ?_; refine wpList_wide rfl rfl rfl Try.underlying28 Try.underlying32 ?_; intro r n hr0; have hr := hr0 _ (by first | with_reducible assumption | exact rfl); clear hr0) | (go_at_call 38; refine (l03Cup_any _ _ m h _ (by go_simp) (by go_simp)).mono ?_; rintro e w' ⟨rfl, n, rfl⟩) | (go_at_call 56; refine (l03Low_any _ _ _ (by omega) (by omega) (by omega) (by omega)).mono ?_; rintro e w' ⟨rfl, n, rfl⟩))
    refine bodyPost_ret (v := .tuple #[.int .i64 ((2 * h).tdiv (gI (2 * h) m)), .int .i64 (m.tdiv (gI (2 * h) m)), .bool true]) (by simp [results, Try.results33, go_sem, *]) rfl ?_
    exact ⟨by rw [Hv.out], by (repeat (first | (with_reducible exact Below.refl _ _) | (with_reducible assumption) | (with_reducible refine below_then ?_ (by assumption)) | (with_reducible refine Below.trans ?_ (by assumption)) | (with_reducible refine below_drewN ?_ _) | (with_reducible apply Below.drew) | (with_reducible refine below_alloc ?_ _) | refine Below.setCell ?_ (by first | (simp; done) | (simp; omega)) _))⟩
  by_cases hp : 80 * m < h
  · have Hv : Hid (warmCupV m h = .tuple #[.int .i64 ((h - 80 * m).tdiv (gI (h - 80 * m) m)), .int .i64 (m.tdiv (gI (h - 80 * m) m)), .bool true]) := by show _ = _; simp [warmCupV, g1, hn, hp]
    go_enter Try.func33, Try.ntmps33
    go_wp2_with (first | (with_reducible refine at_list ?_; refine wpList_fop rfl rfl rfl rfl rfl ?_; intro r n hr0; have hr := hr0 _ _ (by first | with_reducible assumption | exact rfl) (by first | with_reducible assumption | exact rfl); clear hr0) | (with_reducible refine at_list ?_; refine wpList_neg rfl rfl rfl ?_; intro r hr0; have hr := hr0 _ (by first | with_reducible assumption | exact rfl); clear hr0) | (with_reducible refine at_list ?_; refine wpList_fop_g rfl rfl rfl rfl rfl ?_; intro r n hr0; have hr := hr0 _ _ (by first | with_reducible assumption | exact rfl) (by first | with_reducible assumption | exact rfl); clear hr0) | (with_reducible refine at_list ?_; refine wpList_wide_g rfl rfl Try.underlying28 Try.underlying32 rfl ?_; intro r n hr0; have hr := hr0 _ (by first | with_reducible assumption | exact rfl); clear hr0) | (with_reducible refine at_list ?_; refine wpList_wide rfl rfl rfl Try.underlying28 Try.underlying32 ?_; intro r n hr0; have hr := hr0 _ (by first | with_reducible assumption | exact rfl); clear hr0) | (go_at_call 38; refine (l03Cup_any _ _ m h _ (by go_simp) (by go_simp)).mono ?_; rintro e w' ⟨rfl, n, rfl⟩) | (go_at_call 56; refine (l03Low_any _ _ _ (by omega) (by omega) (by omega) (by omega)).mono ?_; rintro e w' ⟨rfl, n, rfl⟩))
    refine bodyPost_ret (v := .tuple #[.int .i64 ((h - 80 * m).tdiv (gI (h - 80 * m) m)), .int .i64 (m.tdiv (gI (h - 80 * m) m)), .bool true]) (by simp [results, Try.results33, go_sem, *]) rfl ?_
    exact ⟨by rw [Hv.out], by (repeat (first | (with_reducible exact Below.refl _ _) | (with_reducible assumption) | (with_reducible refine below_then ?_ (by assumption)) | (with_reducible refine Below.trans ?_ (by assumption)) | (with_reducible refine below_drewN ?_ _) | (with_reducible apply Below.drew) | (with_reducible refine below_alloc ?_ _) | refine Below.setCell ?_ (by first | (simp; done) | (simp; omega)) _))⟩
  · have Hv : Hid (warmCupV m h = .tuple #[.int .i64 0, .int .i64 1, .bool true]) := by show _ = _; simp [warmCupV, g1, hn, hp, warm0 b1]
    go_enter Try.func33, Try.ntmps33
    go_wp2_with (first | (with_reducible refine at_list ?_; refine wpList_fop rfl rfl rfl rfl rfl ?_; intro r n hr0; have hr := hr0 _ _ (by first | with_reducible assumption | exact rfl) (by first | with_reducible assumption | exact rfl); clear hr0) | (with_reducible refine at_list ?_; refine wpList_neg rfl rfl rfl ?_; intro r hr0; have hr := hr0 _ (by first | with_reducible assumption | exact rfl); clear hr0) | (with_reducible refine at_list ?_; refine wpList_fop_g rfl rfl rfl rfl rfl ?_; intro r n hr0; have hr := hr0 _ _ (by first | with_reducible assumption | exact rfl) (by first | with_reducible assumption | exact rfl); clear hr0) | (with_reducible refine at_list ?_; refine wpList_wide_g rfl rfl Try.underlying28 Try.underlying32 rfl ?_; intro r n hr0; have hr := hr0 _ (by first | with_reducible assumption | exact rfl); clear hr0) | (with_reducible refine at_list ?_; refine wpList_wide rfl rfl rfl Try.underlying28 Try.underlying32 ?_; intro r n hr0; have hr := hr0 _ (by first | with_reducible assumption | exact rfl); clear hr0) | (go_at_call 38; refine (l03Cup_any _ _ m h _ (by go_simp) (by go_simp)).mono ?_; rintro e w' ⟨rfl, n, rfl⟩) | (go_at_call 56; refine (l03Low_any _ _ _ (by omega) (by omega) (by omega) (by omega)).mono ?_; rintro e w' ⟨rfl, n, rfl⟩))
    refine bodyPost_ret (v := .tuple #[.int .i64 0, .int .i64 1, .bool true]) (by simp [results, Try.results33, go_sem, *]) rfl ?_
    exact ⟨by rw [Hv.out], by (repeat (first | (with_reducible exact Below.refl _ _) | (with_reducible assumption) | (with_reducible refine below_then ?_ (by assumption)) | (with_reducible refine Below.trans ?_ (by assumption)) | (with_reducible refine below_drewN ?_ _) | (with_reducible apply Below.drew) | (with_reducible refine below_alloc ?_ _) | refine Below.setCell ?_ (by first | (simp; done) | (simp; omega)) _))⟩
end Go.Proofs.Ytpdpokbjfnnomaa

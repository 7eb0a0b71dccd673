/-
  What the functions over cups return (the program's and the reference's), each proved once. No condition but what each contract says.
-/
import Derived.Test.YtpdpokbjfnnomaaOpen
namespace Go.Proofs.Ytpdpokbjfnnomaa
open Go Go.RowKit
theorem inits_eq : Try.prog.inits = #[2] := by kernel_rfl

def inB (n lo hi : Int) : Bool := decide (lo ≤ n) && decide (n ≤ hi)
theorem inB_split (n lo hi : Int) : (lo ≤ n ∧ n ≤ hi) ∨ (lo ≤ n ∧ ¬ n ≤ hi) ∨ ¬ lo ≤ n := by omega

set_option maxHeartbeats 400000 in
theorem within_any (n lo hi : Int) (w : World) :
    Calls Try.prog 39 #[.int .i64 n, .int .i64 lo, .int .i64 hi] w (RB w (inB n lo hi)) := by
  rcases inB_split n lo hi with ⟨h1, h2⟩ | ⟨h1, h2⟩ | h1 <;>
  · go_enter Try.func39, Try.ntmps39
    go_wp2
    go_ret
    exact ⟨by simp [inB]; omega, 0, rfl⟩
set_option maxHeartbeats 400000 in
theorem l00In_any (n lo hi : Int) (w : World) :
    Calls Try.prog 50 #[.int .i64 n, .int .i64 lo, .int .i64 hi] w (RB w (inB n lo hi)) := by
  rcases inB_split n lo hi with ⟨h1, h2⟩ | ⟨h1, h2⟩ | h1 <;>
  · go_enter Try.func50, Try.ntmps50
    go_wp2
    go_ret
    exact ⟨by simp [inB]; omega, 0, rfl⟩

def cupB (m h : Int) : Bool := inB m 1 1000000 && inB h (-50 * m) (180 * m)
theorem cupB_split (m h : Int) : (inB m 1 1000000 = true ∧ 1 ≤ m ∧ m ≤ 1000000 ∧ cupB m h = inB h (-50 * m) (180 * m)) ∨ (inB m 1 1000000 = false ∧ cupB m h = false) := by
  unfold cupB
  cases g : inB m 1 1000000
  · exact .inr ⟨rfl, rfl⟩
  · simp [inB] at g; exact .inl ⟨rfl, g.1, g.2, by simp⟩

set_option maxHeartbeats 400000 in
theorem l03Cup_any (b o : Nat) (m h : Int) (w : World) (h0 : w.cell? ⟨b, o, none⟩ = some (.int .i64 m)) (h1 : w.cell? ⟨b, o + 1, none⟩ = some (.int .i64 h)) :
    Calls Try.prog 38 #[.pointer (some ⟨b, o, none⟩)] w (RB w (cupB m h)) := by
  have hI := inits_eq
  rcases cupB_split m h with ⟨g, hm0, hm1, hc⟩ | ⟨g, hc⟩
  · have Hc := Lib.hid hc; clear hc
    go_enter Try.func38, Try.ntmps38
    go_wp2_with fail
    refine wp_some_lit (by kernel_rfl) (by kernel_rfl) ?_
    repeat (first | (with_reducible refine wpSome_fop ?_ ?_ ?_ ?_ ?_ ?_; iterate 5 exact rfl; intro r hr) | (refine wpSome_one ?_; go_big_quiet_step ((first | (go_at_call 50; first | exact Calls.quiet_of (RB_as (l00In_any _ _ _ _) (by with_reducible assumption)) | exact Calls.quiet_of (l00In_any _ _ _ _)))); refine wpQuiet_nil ?_))
    refine wpSome_nil ?_
    intro w' hw'
    obtain ⟨nq, rfl⟩ := hw'
    go_wp2
    go_ret
    exact ⟨by rw [Hc.out]; rfl, _, rfl⟩
  · have Hc := Lib.hid hc; clear hc
    go_enter Try.func38, Try.ntmps38
    go_wp2_with fail
    refine wp_some_lit (by kernel_rfl) (by kernel_rfl) ?_
    repeat (first | (with_reducible refine wpSome_fop ?_ ?_ ?_ ?_ ?_ ?_; iterate 5 exact rfl; intro r hr) | (refine wpSome_one ?_; go_big_quiet_step ((first | (go_at_call 50; first | exact Calls.quiet_of (RB_as (l00In_any _ _ _ _) (by with_reducible assumption)) | exact Calls.quiet_of (l00In_any _ _ _ _)))); refine wpQuiet_nil ?_))
    refine wpSome_nil ?_
    intro w' hw'
    obtain ⟨nq, rfl⟩ := hw'
    go_wp2
    go_ret
    exact ⟨by rw [Hc.out]; rfl, _, rfl⟩
set_option maxHeartbeats 400000 in
theorem implValidCup_any (m h : Int) (w : World) :
    Calls Try.prog 15 #[.agg #[.int .i64 m, .int .i64 h]] w (BV w (.bool (cupB m h))) := by
  rcases cupB_split m h with ⟨g, hm0, hm1, hc⟩ | ⟨g, hc⟩ <;>
  · have Hc := Lib.hid hc; clear hc
    go_enter Try.func15, Try.ntmps15
    go_wp2_with (first | (with_reducible refine wpList_fop ?_ ?_ ?_ ?_ ?_ ?_; iterate 5 exact rfl; intro r n hr) | (go_at_call 39; refine (within_any _ _ _ _).mono ?_; rintro e w' ⟨rfl, n, rfl⟩))
    go_ret
    exact ⟨by rw [Hc.out]; rfl, by (repeat (first | exact Below.refl _ _ | refine below_then ?_ (by assumption) | refine below_drewN ?_ _ | apply Below.drew | refine below_alloc ?_ _ | refine Below.setCell ?_ (by first | (simp; done) | (simp; omega)) _))⟩
set_option maxHeartbeats 400000 in
theorem specValidCup_any (m h : Int) (w : World) :
    Calls Try.prog 13 #[.agg #[.int .i64 m, .int .i64 h]] w (BV w (.bool (cupB m h))) := by
  go_enter Try.func13, Try.ntmps13
  go_wp2_with (first | (with_reducible refine wpList_fop ?_ ?_ ?_ ?_ ?_ ?_; iterate 5 exact rfl; intro r n hr) | (go_at_call 38; refine (l03Cup_any _ _ m h _ (by go_simp) (by go_simp)).mono ?_; rintro e w' ⟨rfl, n, rfl⟩))
  go_ret
  exact ⟨rfl, by (repeat (first | exact Below.refl _ _ | refine below_then ?_ (by assumption) | refine below_drewN ?_ _ | apply Below.drew | refine below_alloc ?_ _ | refine Below.setCell ?_ (by first | (simp; done) | (simp; omega)) _))⟩
set_option maxHeartbeats 400000 in
theorem toCup_any (m h : Int) (w : World) :
    Calls Try.prog 14 #[.agg #[.int .i64 m, .int .i64 h]] w (BV w (.agg #[.int .i64 m, .int .i64 h])) := by
  go_enter Try.func14, Try.ntmps14
  go_wp2
  refine bodyPost_ret (v := .agg #[.int .i64 m, .int .i64 h]) (by simp [results, Try.results14, go_sem]) rfl ?_
  exact ⟨rfl, by (repeat (first | exact Below.refl _ _ | refine below_then ?_ (by assumption) | refine below_drewN ?_ _ | apply Below.drew | refine below_alloc ?_ _ | refine Below.setCell ?_ (by first | (simp; done) | (simp; omega)) _))⟩
set_option maxHeartbeats 400000 in
theorem eqCup_self (m h : Int) (w : World) :
    Calls Try.prog 28 #[.agg #[.int .i64 m, .int .i64 h], .agg #[.int .i64 m, .int .i64 h]] w (BV w (.bool true)) := by
  go_enter Try.func28, Try.ntmps28
  go_wp2
  go_ret
  exact ⟨rfl, by (repeat (first | exact Below.refl _ _ | refine below_then ?_ (by assumption) | refine below_drewN ?_ _ | apply Below.drew | refine below_alloc ?_ _ | refine Below.setCell ?_ (by first | (simp; done) | (simp; omega)) _))⟩

/-- A cup, if it is valid. -/
def cupV (m h : Int) : Value := .tuple #[if cupB m h then .agg #[.int .i64 m, .int .i64 h] else .agg #[.int .i64 0, .int .i64 0], .bool (cupB m h)]
theorem cupV_yes {m h : Int} (g : cupB m h = true) : cupV m h = .tuple #[.agg #[.int .i64 m, .int .i64 h], .bool true] := by simp [cupV, g]
theorem cupV_no {m h : Int} (g : cupB m h = false) : cupV m h = .tuple #[.agg #[.int .i64 0, .int .i64 0], .bool false] := by simp [cupV, g]

set_option maxHeartbeats 400000 in
theorem l03Give_any (m h : Int) (w : World) :
    Calls Try.prog 51 #[.agg #[.int .i64 m, .int .i64 h]] w (BV w (cupV m h)) := by
  rcases g : cupB m h
  · rw [cupV_no g]
    go_enter Try.func51, Try.ntmps51
    go_wp2_with (first | (with_reducible refine wpList_fop ?_ ?_ ?_ ?_ ?_ ?_; iterate 5 exact rfl; intro r n hr) | (go_at_call 38; refine (l03Cup_any _ _ m h _ (by go_simp) (by go_simp)).mono ?_; rintro e w' ⟨rfl, n, rfl⟩))
    refine bodyPost_ret (v := .tuple #[.agg #[.int .i64 0, .int .i64 0], .bool false]) (by simp [results, Try.results51, go_sem]) rfl ?_
    exact ⟨rfl, by (repeat (first | exact Below.refl _ _ | refine below_then ?_ (by assumption) | refine below_drewN ?_ _ | apply Below.drew | refine below_alloc ?_ _ | refine Below.setCell ?_ (by first | (simp; done) | (simp; omega)) _))⟩
  · rw [cupV_yes g]
    go_enter Try.func51, Try.ntmps51
    go_wp2_with (first | (with_reducible refine wpList_fop ?_ ?_ ?_ ?_ ?_ ?_; iterate 5 exact rfl; intro r n hr) | (go_at_call 38; refine (l03Cup_any _ _ m h _ (by go_simp) (by go_simp)).mono ?_; rintro e w' ⟨rfl, n, rfl⟩))
    refine bodyPost_ret (v := .tuple #[.agg #[.int .i64 m, .int .i64 h], .bool true]) (by simp [results, Try.results51, go_sem]) rfl ?_
    exact ⟨rfl, by (repeat (first | exact Below.refl _ _ | refine below_then ?_ (by assumption) | refine below_drewN ?_ _ | apply Below.drew | refine below_alloc ?_ _ | refine Below.setCell ?_ (by first | (simp; done) | (simp; omega)) _))⟩
set_option maxHeartbeats 400000 in
theorem checkedCup_any (m h : Int) (w : World) :
    Calls Try.prog 52 #[.agg #[.int .i64 m, .int .i64 h]] w (BV w (cupV m h)) := by
  rcases g : cupB m h
  · rw [cupV_no g]
    go_enter Try.func52, Try.ntmps52
    go_wp2_with (first | (with_reducible refine wpList_fop ?_ ?_ ?_ ?_ ?_ ?_; iterate 5 exact rfl; intro r n hr) | (go_at_call 15; refine (implValidCup_any _ _ _).mono ?_; rintro e w' ⟨rfl, hb⟩; have hk0 : w'.cell? ⟨w.heap.size, 0, none⟩ = some (.int .i64 m) := cell_later hb (by go_simp); have hk1 : w'.cell? ⟨w.heap.size, 1, none⟩ = some (.int .i64 h) := cell_later hb (by go_simp); have hk2 : w'.cell? ⟨w.heap.size + 1, 0, none⟩ = some (.int .i64 0) := cell_later hb (by go_simp); have hf2 : w'.frozen? ⟨w.heap.size + 1, 0, none⟩ = false := free_later hb (v := .int .i64 0) (by go_simp) (by go_simp); have hk3 : w'.cell? ⟨w.heap.size + 1, 1, none⟩ = some (.int .i64 0) := cell_later hb (by go_simp); have hf3 : w'.frozen? ⟨w.heap.size + 1, 1, none⟩ = false := free_later hb (v := .int .i64 0) (by go_simp) (by go_simp)))
    refine bodyPost_ret (v := .tuple #[.agg #[.int .i64 0, .int .i64 0], .bool false]) (by simp [results, Try.results52, go_sem, hk2, hk3]) rfl ?_
    exact ⟨rfl, by (repeat (first | exact Below.refl _ _ | refine below_then ?_ (by assumption) | refine below_drewN ?_ _ | apply Below.drew | refine below_alloc ?_ _ | refine Below.setCell ?_ (by first | (simp; done) | (simp; omega)) _))⟩
  · rw [cupV_yes g]
    go_enter Try.func52, Try.ntmps52
    go_wp2_with (first | (with_reducible refine wpList_fop ?_ ?_ ?_ ?_ ?_ ?_; iterate 5 exact rfl; intro r n hr) | (go_at_call 15; refine (implValidCup_any _ _ _).mono ?_; rintro e w' ⟨rfl, hb⟩; have hk0 : w'.cell? ⟨w.heap.size, 0, none⟩ = some (.int .i64 m) := cell_later hb (by go_simp); have hk1 : w'.cell? ⟨w.heap.size, 1, none⟩ = some (.int .i64 h) := cell_later hb (by go_simp); have hk2 : w'.cell? ⟨w.heap.size + 1, 0, none⟩ = some (.int .i64 0) := cell_later hb (by go_simp); have hf2 : w'.frozen? ⟨w.heap.size + 1, 0, none⟩ = false := free_later hb (v := .int .i64 0) (by go_simp) (by go_simp); have hk3 : w'.cell? ⟨w.heap.size + 1, 1, none⟩ = some (.int .i64 0) := cell_later hb (by go_simp); have hf3 : w'.frozen? ⟨w.heap.size + 1, 1, none⟩ = false := free_later hb (v := .int .i64 0) (by go_simp) (by go_simp)))
    refine bodyPost_ret (v := .tuple #[.agg #[.int .i64 m, .int .i64 h], .bool true]) (by simp [results, Try.results52, go_sem, hk2, hk3]) rfl ?_
    exact ⟨rfl, by (repeat (first | exact Below.refl _ _ | refine below_then ?_ (by assumption) | refine below_drewN ?_ _ | apply Below.drew | refine below_alloc ?_ _ | refine Below.setCell ?_ (by first | (simp; done) | (simp; omega)) _))⟩
end Go.Proofs.Ytpdpokbjfnnomaa

/-
  The middles of a rod's cells (the program's and the reference's). No condition but what each contract says.
-/
import Derived.Test.YtgkcfeaknehopaaRdIs
import Derived.Test.YtgkcfeaknehopaaHalf
import Derived.Test.YtgkcfeaknehopaaApp
set_option linter.unusedSimpArgs false
set_option linter.unusedVariables false
set_option linter.unusedSectionVars false
namespace Go.Proofs.Ytgkcfeaknehopaa
open Go Go.RowKit
open Go.ChangeShapes Go.WideShapes Go.ChangeAt Go.RowKit Go.Joins
theorem any_cn (ys : List Nat) {L : List Nat} (h : ys.map (cn .f32) = L) : (ys.any fun x => !fin .f32 (cn .f32 x)) = L.any fun x => !fin .f32 x := by
  rw [← h, List.any_map]; rfl
/-- A slice of numbers that is not empty, seen. -/
theorem FS.ptr {w : World} {v : Value} {xs : List Nat} (h : FS w v xs) (hn : 1 ≤ xs.length) : ∃ b o c, v = .slice (some ⟨b, o, none⟩) xs.length c ∧ (c ≤ 9223372036854775807 ∧ xs.length ≤ c) ∧ Hid (∀ i, i < xs.length → w.cell? ⟨b, o + i, none⟩ = some (.float .f32 (xs.getD i 0))) := by
  obtain ⟨q, c, rfl, h1, h2, h3⟩ := FS_view h
  obtain ⟨b, o, rfl, _⟩ := h3 0 (by omega)
  refine ⟨b, o, c, rfl, ⟨h1, h2⟩, fun i hi => ?_⟩
  obtain ⟨b', o', e, hc⟩ := h3 i hi
  cases e; exact hc
/-- A rod whose lists are not empty, seen. -/
theorem Rd.open {P : Rd} {w : World} {l : RL} (h : P.fs w l) (hk : P.ok = true) : ∃ b1 o1 c1 b2 o2 c2 b3 o3 c3 b4 o4 c4, l = ⟨some ⟨b1, o1, none⟩, c1, some ⟨b2, o2, none⟩, c2, some ⟨b3, o3, none⟩, c3, some ⟨b4, o4, none⟩, c4⟩ ∧ Hid (∀ i, i < P.a.length → w.cell? ⟨b1, o1 + i, none⟩ = some (.float .f32 (P.a.getD i 0))) ∧ Hid (∀ i, i < P.a.length → w.cell? ⟨b2, o2 + i, none⟩ = some (.float .f32 (P.b.getD i 0))) ∧ Hid (∀ i, i < P.a.length → w.cell? ⟨b3, o3 + i, none⟩ = some (.float .f32 (P.c.getD i 0))) ∧ Hid (∀ i, i < P.a.length → w.cell? ⟨b4, o4 + i, none⟩ = some (.float .f32 (P.d.getD i 0))) := by
  obtain ⟨⟨h1, h2⟩, e2, e3, e4⟩ := Rd.ok_len hk
  obtain ⟨p1, c1, p2, c2, p3, c3, p4, c4⟩ := l
  obtain ⟨f1, f2, f3, f4⟩ := h
  obtain ⟨b1, o1, d1, g1, _, k1⟩ := f1.ptr h1
  obtain ⟨b2, o2, d2, g2, _, k2⟩ := f2.ptr (by omega)
  obtain ⟨b3, o3, d3, g3, _, k3⟩ := f3.ptr (by omega)
  obtain ⟨b4, o4, d4, g4, _, k4⟩ := f4.ptr (by omega)
  cases g1; cases g2; cases g3; cases g4
  exact ⟨b1, o1, _, b2, o2, _, b3, o3, _, b4, o4, _, rfl, k1, fun i hi => k2.out i (by omega), fun i hi => k3.out i (by omega), fun i hi => k4.out i (by omega)⟩
theorem rd_later {P : Rd} {l : RL} {w w' : World} {b o B : Nat} (h : RdAt P l w b o) (hb : Below B w w') (hB : b < B) : RdAt P l w' b o :=
  ⟨(hb.cell hB).trans h.1, (hb.cell hB).trans h.2.1, (hb.cell hB).trans h.2.2.1, (hb.cell hB).trans h.2.2.2⟩
theorem half_cn (x : Nat) : fop .quo .f32 x (cn .f32 1073741824) = fop .mul .f32 (cn .f32 1056964608) x := by
  rw [cn_of_not (by decide +kernel), cn_of_not (by decide +kernel), half_same]
def befS (a : List Nat) : Nat → Nat
  | 0 => cn .f32 0
  | k + 1 => fop .add .f32 (befS a k) (cn .f32 (a.getD k 0))
def midB (s x : Nat) : Nat := fop .add .f32 s (fop .quo .f32 x (cn .f32 1073741824))
def midL (a : List Nat) (k : Nat) : List Nat := (List.range k).map fun j => midB (befS a j) (cn .f32 (a.getD j 0))
theorem midL_step (a : List Nat) (k : Nat) : midL a (k + 1) = midL a k ++ [midB (befS a k) (cn .f32 (a.getD k 0))] := by
  unfold midL; rw [List.range_succ, List.map_append]; rfl
def midOk (a : List Nat) : Bool := !(midL a a.length).any fun x => !fin .f32 x
def midV (a : List Nat) : List Nat := if midOk a then midL a a.length else []
theorem midV_no {a : List Nat} (h : midOk a = false) : midV a = [] := by rw [midV, h]; rfl
theorem midV_ok {a : List Nat} (h : midOk a = true) : midV a = midL a a.length := by rw [midV, h]; rfl
set_option maxHeartbeats 4000000 in
theorem implMiddles_any (P : Rd) (l : RL) (w : World) (hs : P.fs w l) (h0 : P.ok = true) : Calls Try.prog 55 #[.agg #[.slice l.p1 P.a.length l.c1, .slice l.p2 P.b.length l.c2, .slice l.p3 P.c.length l.c3, .slice l.p4 P.d.length l.c4]] w (BC w (midL P.a P.a.length) (midOk P.a)) := by
  obtain ⟨hn1, hn2⟩ := (Rd.ok_len h0).1
  have HS := Lib.hid hs
  obtain ⟨b1, o1, c1, b2, o2, c2, b3, o3, c3, b4, o4, c4, rfl, HA, HB, HC, HD⟩ := Rd.open hs h0
  have HM : Hid (midOk P.a = !(midL P.a P.a.length).any fun x => !fin .f32 x) := rfl
  clear hs h0
  go_enter Try.func55, Try.ntmps55
  go_wp2_with (first | (with_reducible refine at_list ?_; refine wpList_fop rfl rfl rfl rfl rfl ?_; intro r n hr0; have hr := hr0 _ _ (by first | with_reducible assumption | exact rfl) (by first | with_reducible assumption | exact rfl); clear hr0) | (with_reducible refine at_list ?_; refine wpList_neg rfl rfl rfl ?_; intro r hr0; have hr := hr0 _ (by first | with_reducible assumption | exact rfl); clear hr0) | (with_reducible refine at_list ?_; refine wpList_fop_g rfl rfl rfl rfl rfl ?_; intro r n hr0; have hr := hr0 _ _ (by first | with_reducible assumption | exact rfl) (by first | with_reducible assumption | exact rfl); clear hr0) | (with_reducible refine at_list ?_; refine wpList_wide_g rfl rfl Try.underlying25 Try.underlying32 rfl ?_; intro r n hr0; have hr := hr0 _ (by first | with_reducible assumption | exact rfl); clear hr0) | (with_reducible refine at_list ?_; refine wpList_wide rfl rfl rfl Try.underlying25 Try.underlying32 ?_; intro r n hr0; have hr := hr0 _ (by first | with_reducible assumption | exact rfl); clear hr0) | (go_at_call 79; refine (areFinite_any _ _ _ (by assumption)).mono ?_; rintro e w' ⟨rfl, n, rfl⟩))
  refine wp_named ?_
  intro ws hws
  have hBs : Below w.heap.size w ws := by rw [hws]; (repeat (first | (with_reducible exact Below.refl _ _) | (with_reducible assumption) | (with_reducible refine below_then ?_ (by assumption)) | (with_reducible refine Below.trans ?_ (by assumption)) | (with_reducible refine below_drewN ?_ _) | (with_reducible apply Below.drew) | (with_reducible refine below_alloc ?_ _) | refine Below.setCell ?_ (by first | (simp; done) | (simp; omega)) _))
  have hzs : w.heap.size + 1 ≤ ws.heap.size := by rw [hws]; first | omega | (simp; done) | (simp; omega)
  have HO00 : Hid (OF (w.heap.size + 1) ws (.slice (some ⟨w.heap.size + 1, 0, none⟩) 0 0) []) := by rw [hws]; first | exact OF.empty _ _ (by simp) (by simp) rfl | exact (OF.empty _ _ (by simp) (by simp) rfl).drewN _
  clear hws
  go_loopw [4, 5, 12] (fun u f t wr => ∃ (k c r0 : Nat) (q : Option Addr) (ys : List Nat), k ≤ P.a.length ∧ t = .int .i64 (k : Int) ∧ u = .slice q ys.length c ∧ f = .float .f32 r0 ∧ Hid (cn .f32 r0 = befS P.a k) ∧ ys.length = k ∧ Hid (OF (w.heap.size + 1) wr (.slice q ys.length c) ys) ∧ Hid (ys.map (cn .f32) = midL P.a k) ∧ Below w.heap.size w wr ∧ w.heap.size + 1 ≤ wr.heap.size) (fun _ _ t _ => P.a.length - (intOf t).toNat)
  case atStart => exact ⟨0, 0, 0, some ⟨_, 0, none⟩, [], by omega, rfl, rfl, rfl, rfl, rfl, HO00.out, rfl, hBs, hzs⟩
  case round =>
    clear hBs hzs HO00
    obtain ⟨k, c, r0, q, ys, hk, rfl, rfl, rfl, HR, hyl, HO, HL, hB, hzr⟩ := hrel
    have HYL := Lib.hid hyl
    by_cases hlt : k < P.a.length
    · have hlti : (k : Int) < (P.a.length : Int) := by omega
      have ca := cell_later hB (HA.out k hlt)
      have hT : Trk wr [w.heap.size, b1] := ((Trk.nil wr).more (World.block_lt_of_cell? _ _ ca)).more (by omega)
      have HST := Lib.hid (midL_step P.a k)
      have HBF : Hid (befS P.a (k + 1) = fop .add .f32 (befS P.a k) (cn .f32 (P.a.getD k 0))) := rfl
      generalize P.a.getD k 0 = x at ca HST HBF
      have hyn : ys.length ≤ 48 := by omega
      have hr2 := HR.out
      clear HA HB HC HD hyl
      go_wp2_with (first | (with_reducible refine at_list ?_; refine wpList_fop rfl rfl rfl rfl rfl ?_; intro r n hr0; have hr := hr0 _ _ (by first | with_reducible assumption | exact rfl) (by first | with_reducible assumption | exact rfl); clear hr0) | (with_reducible refine at_list ?_; refine wpList_neg rfl rfl rfl ?_; intro r hr0; have hr := hr0 _ (by first | with_reducible assumption | exact rfl); clear hr0) | (with_reducible refine at_list ?_; refine wpList_fop_g rfl rfl rfl rfl rfl ?_; intro r n hr0; have hr := hr0 _ _ (by first | with_reducible assumption | exact rfl) (by first | with_reducible assumption | exact rfl); clear hr0) | (with_reducible refine at_list ?_; refine wpList_wide_g rfl rfl Try.underlying25 Try.underlying32 rfl ?_; intro r n hr0; have hr := hr0 _ (by first | with_reducible assumption | exact rfl); clear hr0) | (with_reducible refine at_list ?_; refine wpList_wide rfl rfl rfl Try.underlying25 Try.underlying32 ?_; intro r n hr0; have hr := hr0 _ (by first | with_reducible assumption | exact rfl); clear hr0) | (at_builtin; refine stop_here ?_) | (go_at_call 79; refine (areFinite_any _ _ _ (by assumption)).mono ?_; rintro e w' ⟨rfl, n, rfl⟩))
      unfold Stop
      apply wpList_app (B := w.heap.size + 1) (xs := ys) (v := .slice q ys.length c)
      case hg => rfl
      case ho => rfl
      case hs => rfl
      case hx => rfl
      case hO => exact OF.alloc (OF.later HO.out (by (repeat (first | (with_reducible exact Below.refl _ _) | (with_reducible assumption) | (with_reducible refine below_then ?_ (by assumption)) | (with_reducible refine Below.trans ?_ (by assumption)) | (with_reducible refine below_drewN ?_ _) | (with_reducible apply Below.drew) | (with_reducible refine below_alloc ?_ _) | refine Below.setCell ?_ (by first | (simp; done) | (simp; omega)) _)))) _
      case hc => go_simp <;> exact rfl
      case hn => omega
      case hB => simp; omega
      intro q2 c2' w2 hO2 hB2
      have hw2 : w.heap.size + 1 ≤ w2.heap.size := by have := hB2.size; simp at this; omega
      have hB3 := Below.trans (B := w.heap.size) (a := w) (by (repeat (first | (with_reducible exact Below.refl _ _) | (with_reducible assumption) | (with_reducible refine below_then ?_ (by assumption)) | (with_reducible refine Below.trans ?_ (by assumption)) | (with_reducible refine below_drewN ?_ _) | (with_reducible apply Below.drew) | (with_reducible refine below_alloc ?_ _) | refine Below.setCell ?_ (by first | (simp; done) | (simp; omega)) _))) (hB2.mono (by omega))
      have hL2 : Hid ((ys ++ [r]).map (cn .f32) = midL P.a (k + 1)) := by
        show _ = _
        rw [HST.out, List.map_append, HL.out]
        have hrr : cn .f32 r = midB (befS P.a k) (cn .f32 x) := by unfold midB; assumption
        simp [hrr]
      have HB3 := Lib.hid hB3
      have HO2 := Lib.hid hO2
      clear hB3 hB2 hO2
      go_wp2_with (first | (with_reducible refine at_list ?_; refine wpList_fop rfl rfl rfl rfl rfl ?_; intro r n hr0; have hr := hr0 _ _ (by first | with_reducible assumption | exact rfl) (by first | with_reducible assumption | exact rfl); clear hr0) | (with_reducible refine at_list ?_; refine wpList_neg rfl rfl rfl ?_; intro r hr0; have hr := hr0 _ (by first | with_reducible assumption | exact rfl); clear hr0) | (with_reducible refine at_list ?_; refine wpList_fop_g rfl rfl rfl rfl rfl ?_; intro r n hr0; have hr := hr0 _ _ (by first | with_reducible assumption | exact rfl) (by first | with_reducible assumption | exact rfl); clear hr0) | (with_reducible refine at_list ?_; refine wpList_wide_g rfl rfl Try.underlying25 Try.underlying32 rfl ?_; intro r n hr0; have hr := hr0 _ (by first | with_reducible assumption | exact rfl); clear hr0) | (with_reducible refine at_list ?_; refine wpList_wide rfl rfl rfl Try.underlying25 Try.underlying32 ?_; intro r n hr0; have hr := hr0 _ (by first | with_reducible assumption | exact rfl); clear hr0) | (go_at_call 79; refine (areFinite_any _ _ _ (by assumption)).mono ?_; rintro e w' ⟨rfl, n, rfl⟩))
      go_roundw
      case rel => exact ⟨k + 1, c2', _, q2, ys ++ [_], by omega, by go_num, by simp, rfl, by show _ = _; rw [HBF.out]; assumption, by simp [HYL.out], by show OF _ _ _ _; have := OF.drewN HO2.out n; simpa using this, hL2.out, below_drewN HB3.out _, by simpa using hw2⟩
      case measure => simp [intOf]; omega
      all_goals first | kernel_rfl | rfl
    · have hlti : ¬ (k : Int) < (P.a.length : Int) := by omega
      have hke : P.a.length = k := by omega
      have HYS : Hid (ys.map (cn .f32) = midL P.a P.a.length) := by show _ = _; rw [hke]; exact HL.out
      have HAF := Lib.hid (fun w h => areFinite_any ys (.slice q ys.length c) w h)
      rw [any_cn ys HYS.out, ← HM.out] at HAF
      clear HL hke hyl HM
      go_wp2_with (first | (with_reducible refine at_list ?_; refine wpList_fop rfl rfl rfl rfl rfl ?_; intro r n hr0; have hr := hr0 _ _ (by first | with_reducible assumption | exact rfl) (by first | with_reducible assumption | exact rfl); clear hr0) | (with_reducible refine at_list ?_; refine wpList_neg rfl rfl rfl ?_; intro r hr0; have hr := hr0 _ (by first | with_reducible assumption | exact rfl); clear hr0) | (with_reducible refine at_list ?_; refine wpList_fop_g rfl rfl rfl rfl rfl ?_; intro r n hr0; have hr := hr0 _ _ (by first | with_reducible assumption | exact rfl) (by first | with_reducible assumption | exact rfl); clear hr0) | (with_reducible refine at_list ?_; refine wpList_wide_g rfl rfl Try.underlying25 Try.underlying32 rfl ?_; intro r n hr0; have hr := hr0 _ (by first | with_reducible assumption | exact rfl); clear hr0) | (with_reducible refine at_list ?_; refine wpList_wide rfl rfl rfl Try.underlying25 Try.underlying32 ?_; intro r n hr0; have hr := hr0 _ (by first | with_reducible assumption | exact rfl); clear hr0) | (go_at_call 79; refine ((HAF.out _ (FS.later (OF.fs HO.out) (by (repeat (first | (with_reducible exact Below.refl _ _) | (with_reducible assumption) | (with_reducible refine below_then ?_ (by assumption)) | (with_reducible refine Below.trans ?_ (by assumption)) | (with_reducible refine below_drewN ?_ _) | (with_reducible apply Below.drew) | (with_reducible refine below_alloc ?_ _) | refine Below.setCell ?_ (by first | (simp; done) | (simp; omega)) _))))) ).mono ?_; rintro e w' ⟨rfl, n, rfl⟩))
      go_ret2
      exact ⟨_, ys, rfl, by (repeat (first | (with_reducible exact Below.refl _ _) | (with_reducible assumption) | (with_reducible refine below_then ?_ (by assumption)) | (with_reducible refine Below.trans ?_ (by assumption)) | (with_reducible refine below_drewN ?_ _) | (with_reducible apply Below.drew) | (with_reducible refine below_alloc ?_ _) | refine Below.setCell ?_ (by first | (simp; done) | (simp; omega)) _)), OF.base (OF.later HO.out (by (repeat (first | (with_reducible exact Below.refl _ _) | (with_reducible assumption) | (with_reducible refine below_then ?_ (by assumption)) | (with_reducible refine Below.trans ?_ (by assumption)) | (with_reducible refine below_drewN ?_ _) | (with_reducible apply Below.drew) | (with_reducible refine below_alloc ?_ _) | refine Below.setCell ?_ (by first | (simp; done) | (simp; omega)) _)))) (by omega), HYS.out⟩
set_option maxHeartbeats 1000000 in
theorem l02List_any (ys : List Nat) (q : Option Addr) (c : Nat) (w : World) (b : Bool) (hs : FS w (.slice q ys.length c) ys) (hb : finL ys = b) : Calls Try.prog 108 #[.slice q ys.length c] w (fun e w' => e = .returned (.tuple #[if b then .slice q ys.length c else .slice none 0 0, .bool b]) ∧ ∃ n, w' = w.drewN n) := by
  have HF := l02Finite_any ys (.slice q ys.length c) w hs
  rw [show (!ys.any fun x => !fin .f32 (cn .f32 x)) = b from hb] at HF
  clear hb hs
  cases b
  all_goals
    go_enter Try.func108, Try.ntmps108
    go_wp2_with (first | (with_reducible refine at_list ?_; refine wpList_fop rfl rfl rfl rfl rfl ?_; intro r n hr0; have hr := hr0 _ _ (by first | with_reducible assumption | exact rfl) (by first | with_reducible assumption | exact rfl); clear hr0) | (with_reducible refine at_list ?_; refine wpList_neg rfl rfl rfl ?_; intro r hr0; have hr := hr0 _ (by first | with_reducible assumption | exact rfl); clear hr0) | (with_reducible refine at_list ?_; refine wpList_fop_g rfl rfl rfl rfl rfl ?_; intro r n hr0; have hr := hr0 _ _ (by first | with_reducible assumption | exact rfl) (by first | with_reducible assumption | exact rfl); clear hr0) | (with_reducible refine at_list ?_; refine wpList_wide_g rfl rfl Try.underlying25 Try.underlying32 rfl ?_; intro r n hr0; have hr := hr0 _ (by first | with_reducible assumption | exact rfl); clear hr0) | (with_reducible refine at_list ?_; refine wpList_wide rfl rfl rfl Try.underlying25 Try.underlying32 ?_; intro r n hr0; have hr := hr0 _ (by first | with_reducible assumption | exact rfl); clear hr0) | (go_at_call 105; refine ((HF) ).mono ?_; rintro e w' ⟨rfl, n, rfl⟩))
    go_ret2
    exact ⟨rfl, _, rfl⟩
set_option maxHeartbeats 4000000 in
theorem l02Middles_any (P : Rd) (l : RL) (b o : Nat) (w : World) (ha : RdAt P l w b o) (hs : P.fs w l) (h0 : P.ok = true) : Calls Try.prog 50 #[.pointer (some ⟨b, o, none⟩)] w (BC w (midV P.a) (midOk P.a)) := by
  obtain ⟨hn1, hn2⟩ := (Rd.ok_len h0).1
  obtain ⟨b1, o1, c1, b2, o2, c2, b3, o3, c3, b4, o4, c4, rfl, HA, HB, HC, HD⟩ := Rd.open hs h0
  obtain ⟨d0, d1, d2, d3⟩ := ha
  have HM : Hid (midOk P.a = !(midL P.a P.a.length).any fun x => !fin .f32 x) := rfl
  have hbz := World.block_lt_of_cell? _ _ d0
  have HD0 := Lib.hid d0
  clear hs h0 d1 d2 d3
  go_enter Try.func50, Try.ntmps50
  go_wp2_with (first | (with_reducible refine at_list ?_; refine wpList_fop rfl rfl rfl rfl rfl ?_; intro r n hr0; have hr := hr0 _ _ (by first | with_reducible assumption | exact rfl) (by first | with_reducible assumption | exact rfl); clear hr0) | (with_reducible refine at_list ?_; refine wpList_neg rfl rfl rfl ?_; intro r hr0; have hr := hr0 _ (by first | with_reducible assumption | exact rfl); clear hr0) | (with_reducible refine at_list ?_; refine wpList_fop_g rfl rfl rfl rfl rfl ?_; intro r n hr0; have hr := hr0 _ _ (by first | with_reducible assumption | exact rfl) (by first | with_reducible assumption | exact rfl); clear hr0) | (with_reducible refine at_list ?_; refine wpList_wide_g rfl rfl Try.underlying25 Try.underlying32 rfl ?_; intro r n hr0; have hr := hr0 _ (by first | with_reducible assumption | exact rfl); clear hr0) | (with_reducible refine at_list ?_; refine wpList_wide rfl rfl rfl Try.underlying25 Try.underlying32 ?_; intro r n hr0; have hr := hr0 _ (by first | with_reducible assumption | exact rfl); clear hr0) | (go_at_call 108; refine (l02List_any _ _ _ (by assumption)).mono ?_; rintro e w' ⟨rfl, n, rfl⟩))
  refine wp_named ?_
  intro ws hws
  have hBs : Below w.heap.size w ws := by rw [hws]; (repeat (first | (with_reducible exact Below.refl _ _) | (with_reducible assumption) | (with_reducible refine below_then ?_ (by assumption)) | (with_reducible refine Below.trans ?_ (by assumption)) | (with_reducible refine below_drewN ?_ _) | (with_reducible apply Below.drew) | (with_reducible refine below_alloc ?_ _) | refine Below.setCell ?_ (by first | (simp; done) | (simp; omega)) _))
  have hzs : w.heap.size ≤ ws.heap.size := by rw [hws]; first | omega | (simp; done) | (simp; omega)
  have HO00 : Hid (OF w.heap.size ws (.slice (some ⟨w.heap.size, 0, none⟩) 0 0) []) := by rw [hws]; first | exact OF.empty _ _ (by simp) (by simp) rfl | exact (OF.empty _ _ (by simp) (by simp) rfl).drewN _
  clear hws
  go_loopw [4, 5, 6] (fun f u t wr => ∃ (k c r0 : Nat) (q : Option Addr) (ys : List Nat), k ≤ P.a.length ∧ t = .int .i64 (k : Int) ∧ u = .slice q ys.length c ∧ f = .float .f32 r0 ∧ Hid (cn .f32 r0 = befS P.a k) ∧ ys.length = k ∧ Hid (OF w.heap.size wr (.slice q ys.length c) ys) ∧ Hid (ys.map (cn .f32) = midL P.a k) ∧ Below w.heap.size w wr ∧ w.heap.size ≤ wr.heap.size) (fun _ _ t _ => P.a.length - (intOf t).toNat)
  case atStart => exact ⟨0, 0, 0, some ⟨_, 0, none⟩, [], by omega, rfl, rfl, rfl, rfl, rfl, HO00.out, rfl, hBs, hzs⟩
  case round =>
    clear hBs hzs HO00 d0
    obtain ⟨k, c, r0, q, ys, hk, rfl, rfl, rfl, HR, hyl, HO, HL, hB, hzr⟩ := hrel
    have HYL := Lib.hid hyl
    have d0 := cell_later hB HD0.out
    by_cases hlt : k < P.a.length
    · have hlti : (k : Int) < (P.a.length : Int) := by omega
      have ca := cell_later hB (HA.out k hlt)
      have hb1 := World.block_lt_of_cell? _ _ (HA.out k hlt)
      have HCA := Lib.hid (HA.out k hlt)
      have hbn : b ≠ wr.heap.size := by omega
      have hbm : wr.heap.size ≠ b := by omega
      have hT : Trk wr [b, b1] := ((Trk.nil wr).more (World.block_lt_of_cell? _ _ ca)).more (by omega)
      have HST := Lib.hid (midL_step P.a k)
      have HBF : Hid (befS P.a (k + 1) = fop .add .f32 (befS P.a k) (cn .f32 (P.a.getD k 0))) := rfl
      generalize P.a.getD k 0 = x at ca HST HBF HCA
      have hyn : ys.length ≤ 48 := by omega
      have hr2 := HR.out
      clear HA HB HC HD hyl
      go_wp2_with (first | (with_reducible refine at_list ?_; refine wpList_fop rfl rfl rfl rfl rfl ?_; intro r n hr0; have hr := hr0 _ _ (by first | with_reducible assumption | exact rfl) (by first | with_reducible assumption | exact rfl); clear hr0) | (with_reducible refine at_list ?_; refine wpList_neg rfl rfl rfl ?_; intro r hr0; have hr := hr0 _ (by first | with_reducible assumption | exact rfl); clear hr0) | (with_reducible refine at_list ?_; refine wpList_fop_g rfl rfl rfl rfl rfl ?_; intro r n hr0; have hr := hr0 _ _ (by first | with_reducible assumption | exact rfl) (by first | with_reducible assumption | exact rfl); clear hr0) | (with_reducible refine at_list ?_; refine wpList_wide_g rfl rfl Try.underlying25 Try.underlying32 rfl ?_; intro r n hr0; have hr := hr0 _ (by first | with_reducible assumption | exact rfl); clear hr0) | (with_reducible refine at_list ?_; refine wpList_wide rfl rfl rfl Try.underlying25 Try.underlying32 ?_; intro r n hr0; have hr := hr0 _ (by first | with_reducible assumption | exact rfl); clear hr0) | (at_builtin; refine stop_here ?_) | (go_at_call 108; refine (l02List_any _ _ _ (by assumption)).mono ?_; rintro e w' ⟨rfl, n, rfl⟩))
      unfold Stop
      apply wpList_app (B := w.heap.size) (xs := ys) (v := .slice q ys.length c)
      case hg => rfl
      case ho => rfl
      case hs => rfl
      case hx => rfl
      case hO => exact OF.alloc (OF.later HO.out (by (repeat (first | (with_reducible exact Below.refl _ _) | (with_reducible assumption) | (with_reducible refine below_then ?_ (by assumption)) | (with_reducible refine Below.trans ?_ (by assumption)) | (with_reducible refine below_drewN ?_ _) | (with_reducible apply Below.drew) | (with_reducible refine below_alloc ?_ _) | refine Below.setCell ?_ (by first | (simp; done) | (simp; omega)) _)))) _
      case hc => go_simp <;> exact rfl
      case hn => omega
      case hB => simp; omega
      intro q2 c2' w2 hO2 hB2
      have hw2 : w.heap.size ≤ w2.heap.size := by have := hB2.size; simp at this; omega
      have hB3 := Below.trans (B := w.heap.size) (a := w) (by (repeat (first | (with_reducible exact Below.refl _ _) | (with_reducible assumption) | (with_reducible refine below_then ?_ (by assumption)) | (with_reducible refine Below.trans ?_ (by assumption)) | (with_reducible refine below_drewN ?_ _) | (with_reducible apply Below.drew) | (with_reducible refine below_alloc ?_ _) | refine Below.setCell ?_ (by first | (simp; done) | (simp; omega)) _))) (hB2.mono (by omega))
      have hL2 : Hid ((ys ++ [r]).map (cn .f32) = midL P.a (k + 1)) := by
        show _ = _
        rw [HST.out, List.map_append, HL.out]
        have hrr : cn .f32 r = midB (befS P.a k) (cn .f32 x) := by unfold midB; rw [half_cn]; assumption
        simp [hrr]
      have HB3 := Lib.hid hB3
      have HO2 := Lib.hid hO2
      clear ca d0
      have ca := cell_later hB3 HCA.out
      have d0 := cell_later hB3 HD0.out
      clear hB3 hB2 hO2
      go_wp2_with (first | (with_reducible refine at_list ?_; refine wpList_fop rfl rfl rfl rfl rfl ?_; intro r n hr0; have hr := hr0 _ _ (by first | with_reducible assumption | exact rfl) (by first | with_reducible assumption | exact rfl); clear hr0) | (with_reducible refine at_list ?_; refine wpList_neg rfl rfl rfl ?_; intro r hr0; have hr := hr0 _ (by first | with_reducible assumption | exact rfl); clear hr0) | (with_reducible refine at_list ?_; refine wpList_fop_g rfl rfl rfl rfl rfl ?_; intro r n hr0; have hr := hr0 _ _ (by first | with_reducible assumption | exact rfl) (by first | with_reducible assumption | exact rfl); clear hr0) | (with_reducible refine at_list ?_; refine wpList_wide_g rfl rfl Try.underlying25 Try.underlying32 rfl ?_; intro r n hr0; have hr := hr0 _ (by first | with_reducible assumption | exact rfl); clear hr0) | (with_reducible refine at_list ?_; refine wpList_wide rfl rfl rfl Try.underlying25 Try.underlying32 ?_; intro r n hr0; have hr := hr0 _ (by first | with_reducible assumption | exact rfl); clear hr0) | (go_at_call 108; refine (l02List_any _ _ _ (by assumption)).mono ?_; rintro e w' ⟨rfl, n, rfl⟩))
      go_roundw
      case rel => exact ⟨k + 1, c2', _, q2, ys ++ [_], by omega, by go_num, by simp, rfl, by show _ = _; rw [HBF.out]; assumption, by simp [HYL.out], by show OF _ _ _ _; have := OF.drewN HO2.out n; simpa using this, hL2.out, below_drewN HB3.out _, by simpa using hw2⟩
      case measure => simp [intOf]; omega
      all_goals first | kernel_rfl | rfl
    · have hlti : ¬ (k : Int) < (P.a.length : Int) := by omega
      have hke : P.a.length = k := by omega
      have HYS : Hid (ys.map (cn .f32) = midL P.a P.a.length) := by show _ = _; rw [hke]; exact HL.out
      have hfe : finL ys = midOk P.a := by unfold finL; rw [any_cn ys HYS.out]; exact HM.out.symm
      rcases f1 : midOk P.a
      all_goals
        rw [f1] at hfe
        have HAF := Lib.hid (fun w h => l02List_any ys q c w _ h hfe)
        clear HL hke hyl HM hfe
        go_wp2_with (first | (with_reducible refine at_list ?_; refine wpList_fop rfl rfl rfl rfl rfl ?_; intro r n hr0; have hr := hr0 _ _ (by first | with_reducible assumption | exact rfl) (by first | with_reducible assumption | exact rfl); clear hr0) | (with_reducible refine at_list ?_; refine wpList_neg rfl rfl rfl ?_; intro r hr0; have hr := hr0 _ (by first | with_reducible assumption | exact rfl); clear hr0) | (with_reducible refine at_list ?_; refine wpList_fop_g rfl rfl rfl rfl rfl ?_; intro r n hr0; have hr := hr0 _ _ (by first | with_reducible assumption | exact rfl) (by first | with_reducible assumption | exact rfl); clear hr0) | (with_reducible refine at_list ?_; refine wpList_wide_g rfl rfl Try.underlying25 Try.underlying32 rfl ?_; intro r n hr0; have hr := hr0 _ (by first | with_reducible assumption | exact rfl); clear hr0) | (with_reducible refine at_list ?_; refine wpList_wide rfl rfl rfl Try.underlying25 Try.underlying32 ?_; intro r n hr0; have hr := hr0 _ (by first | with_reducible assumption | exact rfl); clear hr0) | (go_at_call 108; refine ((HAF.out _ (FS.later (OF.fs HO.out) (by (repeat (first | (with_reducible exact Below.refl _ _) | (with_reducible assumption) | (with_reducible refine below_then ?_ (by assumption)) | (with_reducible refine Below.trans ?_ (by assumption)) | (with_reducible refine below_drewN ?_ _) | (with_reducible apply Below.drew) | (with_reducible refine below_alloc ?_ _) | refine Below.setCell ?_ (by first | (simp; done) | (simp; omega)) _))))) ).mono ?_; rintro e w' ⟨rfl, n, rfl⟩))
        go_ret2
      · exact ⟨_, [], by rw [f1]; rfl, by (repeat (first | (with_reducible exact Below.refl _ _) | (with_reducible assumption) | (with_reducible refine below_then ?_ (by assumption)) | (with_reducible refine Below.trans ?_ (by assumption)) | (with_reducible refine below_drewN ?_ _) | (with_reducible apply Below.drew) | (with_reducible refine below_alloc ?_ _) | refine Below.setCell ?_ (by first | (simp; done) | (simp; omega)) _)), OF.nil0 _ _, (midV_no f1).symm⟩
      · exact ⟨_, ys, by rw [f1]; rfl, by (repeat (first | (with_reducible exact Below.refl _ _) | (with_reducible assumption) | (with_reducible refine below_then ?_ (by assumption)) | (with_reducible refine Below.trans ?_ (by assumption)) | (with_reducible refine below_drewN ?_ _) | (with_reducible apply Below.drew) | (with_reducible refine below_alloc ?_ _) | refine Below.setCell ?_ (by first | (simp; done) | (simp; omega)) _)), OF.later HO.out (by (repeat (first | (with_reducible exact Below.refl _ _) | (with_reducible assumption) | (with_reducible refine below_then ?_ (by assumption)) | (with_reducible refine Below.trans ?_ (by assumption)) | (with_reducible refine below_drewN ?_ _) | (with_reducible apply Below.drew) | (with_reducible refine below_alloc ?_ _) | refine Below.setCell ?_ (by first | (simp; done) | (simp; omega)) _))), HYS.out.trans (midV_ok f1).symm⟩
end Go.Proofs.Ytgkcfeaknehopaa

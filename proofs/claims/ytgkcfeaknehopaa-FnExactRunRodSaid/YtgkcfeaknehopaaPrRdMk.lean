/-
  Marks in rods of the call's own. No condition but what each contract says.
-/
import Derived.Test.YtgkcfeaknehopaaPrRdIs
set_option linter.unusedSimpArgs false
set_option linter.unusedVariables false
set_option linter.unusedSectionVars false
namespace Go.Proofs.Ytgkcfeaknehopaa
open Go Go.RowKit
open Go.ChangeShapes Go.WideShapes Go.ChangeAt Go.RowKit Go.Joins
set_option maxHeartbeats 1000000 in
theorem markF2_any (B : Nat) (xs : List Nat) (u : Value) (k0 : Int) (w : World) (hs : OF B w u xs) (hk : 0 ≤ k0 ∧ k0 ≤ 4194304) (hn : xs.length ≤ 1048576) : Calls Try.prog 32 #[u, .int .i64 k0] w (fun e w' => e = .returned (.int .i64 (k0 + xs.length)) ∧ w.grownBy w' u.ownBlock ∧ w'.heap.size = w.heap.size ∧ OF B w' u (marks k0 xs.length)) := by
  obtain ⟨k1, k2⟩ := hk
  rcases hs.view with ⟨rfl, rfl⟩ | ⟨g, c, rfl, v1, v2, v3, v4, v5⟩
  · go_enter Try.func32, Try.ntmps32
    go_wp2
    go_loopw [1, 5] (fun s t wr => s = .int .i64 k0 ∧ t = .int .i64 0 ∧ wr = w) (fun _ _ _ => 0)
    case atStart => exact ⟨rfl, rfl, rfl⟩
    case round =>
      obtain ⟨rfl, rfl, rfl⟩ := hrel
      go_wp2
      go_ret
      exact ⟨by simp, World.grownBy.refl _ _, rfl, World.ownsRow_nil _ _ _ _⟩
  · have HS := Lib.hid hs
    clear hs
    unfold maxLen at v4
    have HV := Lib.hid v5
    clear v5
    go_enter Try.func32, Try.ntmps32
    go_wp2
    go_loopw [1, 5] (fun s t wr => ∃ k : Nat, k ≤ xs.length ∧ t = .int .i64 k ∧ s = .int .i64 (k0 + k) ∧ w.grownBy wr (some g) ∧ wr.heap.size = w.heap.size ∧ Hid (OF B wr (.slice (some ⟨g, 0, none⟩) xs.length c) (marks k0 k ++ xs.drop k))) (fun _ t _ => xs.length - (intOf t).toNat)
    case atStart => exact ⟨0, Nat.zero_le _, rfl, by simp, World.grownBy.refl _ _, rfl, by simpa [marks] using HS⟩
    case round =>
      obtain ⟨k, hk, rfl, rfl, hG, hZ, HO⟩ := hrel
      by_cases hlt : k < xs.length
      · have hlen : (marks k0 k ++ xs.drop k).length = xs.length := by simp [marks_length]; omega
        obtain ⟨old, hcell0, hfr⟩ : ∃ old, wr.cell? ⟨g, k, none⟩ = some old ∧ wr.frozen? ⟨g, k, none⟩ = false := by
          rcases HO.out.view with ⟨h, _⟩ | ⟨g', c', h1, _, _, _, _, h2⟩
          · cases h
          · simp only [Value.slice.injEq, Option.some.injEq, Addr.mk.injEq, and_true] at h1
            obtain ⟨rfl, _⟩ := h1
            have := h2 k (by omega)
            exact ⟨_, this.1, this.2⟩
        have hstore : Hid (OF B (wr.setCell ⟨g, k, none⟩ (.float .f32 (floatOfInt .f32 (k0 + k)))) (.slice (some ⟨g, 0, none⟩) xs.length c) (marks k0 (k + 1) ++ xs.drop (k + 1)) ∧ w.grownBy (wr.setCell ⟨g, k, none⟩ (.float .f32 (floatOfInt .f32 (k0 + k)))) (some g)) := by
          have h1 := HO.out
          unfold OF at h1
          rw [hlen] at h1
          obtain ⟨h2, h3⟩ := World.ownsRow.stored h1 k (.float .f32 (floatOfInt .f32 (k0 + k)))
          have e : marks k0 (k + 1) ++ xs.drop (k + 1) = (marks k0 k ++ xs.drop k).set k (floatOfInt .f32 (k0 + k)) := by
            rw [List.set_append_right _ _ (by simp [marks_length]), marks_length, Nat.sub_self, List.drop_eq_getElem_cons hlt, List.set_cons_zero]
            simp [marks, List.range_succ]
          have e2 : (marks k0 (k + 1) ++ xs.drop (k + 1)).length = xs.length := by simp [marks_length]; omega
          refine ⟨?_, ⟨h3.os.trans hG.os, h3.tape.trans hG.tape, h3.output.trans hG.output, by rw [World.size_setCell]; omega, fun j hj hne => (h3.block j (by omega) hne).trans (hG.block j hj hne)⟩⟩
          unfold OF
          rw [e2, e, List.map_set]
          exact h2
        have HG := Lib.hid hG
        clear hG HS HV HO hlen
        go_wp2
        go_roundw
        case rel => exact ⟨k + 1, by omega, by go_num, by go_num, hstore.out.2, by simp [hZ], hstore.out.1⟩
        case measure => simp [intOf]; omega
      · have he : k = xs.length := by omega
        subst he
        have HO2 : Hid (OF B wr (.slice (some ⟨g, 0, none⟩) xs.length c) (marks k0 xs.length)) := by
          have := HO.out
          rw [List.drop_length, List.append_nil] at this
          exact this
        clear HO HS HV
        go_wp2
        go_ret
        exact ⟨rfl, hG, hZ, HO2.out⟩
set_option maxHeartbeats 1000000 in
theorem heldF2_any (n : Nat) (u : Value) (k0 : Int) (w : World) (hs : FS w u (marks k0 n)) (hk : 0 ≤ k0 ∧ k0 ≤ 2097152) (hn : n ≤ 1048576) : Calls Try.prog 33 #[u, .int .i64 k0] w (RI w (k0 + n)) := by
  obtain ⟨p, c, rfl, hc1, hc2, HV⟩ := FS_view hs
  rw [marks_length] at hc2 HV ⊢
  have HV := Lib.hid HV
  clear hs
  obtain ⟨k1, k2⟩ := hk
  go_enter Try.func33, Try.ntmps33
  go_wp2
  go_loopw [1, 5] (fun s t wr => ∃ k m : Nat, k ≤ n ∧ t = .int .i64 k ∧ s = .int .i64 (k0 + k) ∧ wr = w.drewN m) (fun _ t _ => n - (intOf t).toNat)
  case atStart => exact ⟨0, 0, Nat.zero_le _, rfl, by simp, rfl⟩
  case round =>
    obtain ⟨k, m, hk, rfl, rfl, rfl⟩ := hrel
    by_cases hlt : k < n
    · obtain ⟨b, o, rfl, hcell⟩ := HV.out k hlt
      rw [marks_getD k0 hlt] at hcell
      have hfe : feq .f32 (cn .f32 (floatOfInt .f32 (k0 + k))) (cn .f32 (floatOfInt .f32 (k0 + k))) = true := by rw [feq_cn_self, floatOfInt_not_nan]; rfl
      clear HV
      go_wp2
      go_roundw
      case rel => exact ⟨k + 1, m, by omega, by go_num, by go_num, rfl⟩
      case measure => simp [intOf]; omega
    · have he : k = n := by omega
      subst he
      go_wp2
      go_ret
      exact ⟨rfl, m, rfl⟩
/-- A rod with marks. -/
def mkRd (P : Rd) (k : Int) : Rd := ⟨marks k P.a.length, marks (k + P.a.length) P.b.length, marks (k + P.a.length + P.b.length) P.c.length, marks (k + P.a.length + P.b.length + P.c.length) P.d.length⟩
def Rd.sum (P : Rd) (k : Int) : Int := k + P.a.length + P.b.length + P.c.length + P.d.length
theorem mkRd_rx {B S : Nat} {w : World} {P : Rd} {l : RL} {k : Int} (h : RdX B S w (mkRd P k) l) :
    FS w (.slice l.p1 P.a.length l.c1) (marks k P.a.length) ∧ FS w (.slice l.p2 P.b.length l.c2) (marks (k + P.a.length) P.b.length) ∧ FS w (.slice l.p3 P.c.length l.c3) (marks (k + P.a.length + P.b.length) P.c.length) ∧ FS w (.slice l.p4 P.d.length l.c4) (marks (k + P.a.length + P.b.length + P.c.length) P.d.length) := by
  obtain ⟨h1, h2, h3, h4⟩ := h.fs
  simp only [mkRd, marks_length] at h1 h2 h3 h4
  exact ⟨h1, h2, h3, h4⟩
theorem FX.fs {B S : Nat} {w : World} {u : Value} {xs : List Nat} (h : FX B S w u xs) : FS w u xs := OF.fs h.1
set_option maxHeartbeats 2000000 in
theorem markRod_any (B S : Nat) (P : Rd) (l : RL) (k0 : Int) (w : World) (hs : RdX B S w P l) (hS : S ≤ w.heap.size) (hk : 0 ≤ k0 ∧ k0 ≤ 2097152) (hn : P.size ≤ 1048576) : Calls Try.prog 21 #[.agg #[.slice l.p1 P.a.length l.c1, .slice l.p2 P.b.length l.c2, .slice l.p3 P.c.length l.c3, .slice l.p4 P.d.length l.c4], .int .i64 k0] w (fun e w' => e = .returned (.int .i64 (P.sum k0)) ∧ Turn B S w w' ∧ w.heap.size ≤ w'.heap.size ∧ RdX B S w' (mkRd P k0) l) := by
  have HS := Lib.hid hs
  have HZ : Hid (P.sum k0 = k0 + P.a.length + P.b.length + P.c.length + P.d.length) := rfl
  obtain ⟨⟨⟨o1, o2, o3, o4⟩, s1, s2, s3, s4⟩, a12, a13, a14, a23, a24, a34⟩ := hs
  unfold Rd.size at hn
  have O1 := Lib.hid (o1.alloc (.cells #[.slice l.p1 P.a.length l.c1, .slice l.p2 P.b.length l.c2, .slice l.p3 P.c.length l.c3, .slice l.p4 P.d.length l.c4] 29))
  have O2 := Lib.hid (o2.alloc (.cells #[.slice l.p1 P.a.length l.c1, .slice l.p2 P.b.length l.c2, .slice l.p3 P.c.length l.c3, .slice l.p4 P.d.length l.c4] 29))
  have O3 := Lib.hid (o3.alloc (.cells #[.slice l.p1 P.a.length l.c1, .slice l.p2 P.b.length l.c2, .slice l.p3 P.c.length l.c3, .slice l.p4 P.d.length l.c4] 29))
  have O4 := Lib.hid (o4.alloc (.cells #[.slice l.p1 P.a.length l.c1, .slice l.p2 P.b.length l.c2, .slice l.p3 P.c.length l.c3, .slice l.p4 P.d.length l.c4] 29))
  have r1 : some w.heap.size ≠ (Value.slice l.p1 P.a.length l.c1).ownBlock := fun e => by have := s1 _ e.symm; omega
  have r2 : some w.heap.size ≠ (Value.slice l.p2 P.b.length l.c2).ownBlock := fun e => by have := s2 _ e.symm; omega
  have r3 : some w.heap.size ≠ (Value.slice l.p3 P.c.length l.c3).ownBlock := fun e => by have := s3 _ e.symm; omega
  have t1 := Lib.hid (fun w w' (hg : World.grownBy w w' (Value.slice l.p1 P.a.length l.c1).ownBlock) => Turn.of hg (fun k hk => ⟨(OF.block o1 k hk).1, s1 k hk⟩))
  have t2 := Lib.hid (fun w w' (hg : World.grownBy w w' (Value.slice l.p2 P.b.length l.c2).ownBlock) => Turn.of hg (fun k hk => ⟨(OF.block o2 k hk).1, s2 k hk⟩))
  have t3 := Lib.hid (fun w w' (hg : World.grownBy w w' (Value.slice l.p3 P.c.length l.c3).ownBlock) => Turn.of hg (fun k hk => ⟨(OF.block o3 k hk).1, s3 k hk⟩))
  have t4 := Lib.hid (fun w w' (hg : World.grownBy w w' (Value.slice l.p4 P.d.length l.c4).ownBlock) => Turn.of hg (fun k hk => ⟨(OF.block o4 k hk).1, s4 k hk⟩))
  have HR := Lib.hid r1
  have HR2 := Lib.hid r2
  have HR3 := Lib.hid r3
  clear r1 r2 r3 o1 o2 o3 o4 s1 s2 s3 s4
  go_enter Try.func21, Try.ntmps21
  go_wp2_with fail
  have hat : Hid (RdAt P l (w.alloc (.cells #[.slice l.p1 P.a.length l.c1, .slice l.p2 P.b.length l.c2, .slice l.p3 P.c.length l.c3, .slice l.p4 P.d.length l.c4] 29)) w.heap.size 0) := (by unfold RdAt; refine ⟨?_, ?_, ?_, ?_⟩ <;> go_simp)
  refine (markF2_any B P.a _ k0 _ O1.out (by omega) (by omega)).mono ?_
  rintro e w1 ⟨rfl, hg1, hz1, hO1⟩
  have T1 := Lib.hid (((Turn.refl B S w).alloc _).trans (t1.out _ _ hg1))
  have hat1 := Lib.hid (hat.out.grown hg1 HR.out)
  have P2 := Lib.hid (O2.out.kept hg1 a12.symm.row)
  have P3 := Lib.hid (O3.out.kept hg1 a13.symm.row)
  have P4 := Lib.hid (O4.out.kept hg1 a14.symm.row)
  have Q1 := Lib.hid hO1
  obtain ⟨g0, g1, g2, g3⟩ := hat1.out
  simp only [Nat.zero_add] at g0 g1 g2 g3
  clear hg1 hO1
  go_wp2_with fail
  refine (markF2_any B P.b _ (k0 + P.a.length) _ P2.out (by omega) (by omega)).mono ?_
  rintro e w2 ⟨rfl, hg2, hz2, hO2⟩
  clear g0 g1 g2 g3
  have T2 := Lib.hid (T1.out.trans (t2.out _ _ hg2))
  have hat2 := Lib.hid (hat1.out.grown hg2 HR2.out)
  have R1 := Lib.hid (Q1.out.kept hg2 (by have := a12.row (n := P.a.length) (c := l.c1) (m := P.b.length) (d := l.c2); exact this))
  have R3 := Lib.hid (P3.out.kept hg2 a23.symm.row)
  have R4 := Lib.hid (P4.out.kept hg2 a24.symm.row)
  have R2 := Lib.hid hO2
  obtain ⟨g0, g1, g2, g3⟩ := hat2.out
  simp only [Nat.zero_add] at g0 g1 g2 g3
  clear hg2 hO2
  go_wp2_with fail
  refine (markF2_any B P.c _ (k0 + P.a.length + P.b.length) _ R3.out (by omega) (by omega)).mono ?_
  rintro e w3 ⟨rfl, hg3, hz3, hO3⟩
  clear g0 g1 g2 g3
  have T3 := Lib.hid (T2.out.trans (t3.out _ _ hg3))
  have hat3 := Lib.hid (hat2.out.grown hg3 HR3.out)
  have U1 := Lib.hid (R1.out.kept hg3 (by have := a13.row (n := P.a.length) (c := l.c1) (m := P.c.length) (d := l.c3); exact this))
  have U2 := Lib.hid (R2.out.kept hg3 (by have := a23.row (n := P.b.length) (c := l.c2) (m := P.c.length) (d := l.c3); exact this))
  have U4 := Lib.hid (R4.out.kept hg3 a34.symm.row)
  have U3 := Lib.hid hO3
  obtain ⟨g0, g1, g2, g3⟩ := hat3.out
  simp only [Nat.zero_add] at g0 g1 g2 g3
  clear hg3 hO3
  go_wp2_with fail
  refine (markF2_any B P.d _ (k0 + P.a.length + P.b.length + P.c.length) _ U4.out (by omega) (by omega)).mono ?_
  rintro e w4 ⟨rfl, hg4, hz4, hO4⟩
  clear g0 g1 g2 g3
  have T4 := Lib.hid (T3.out.trans (t4.out _ _ hg4))
  have V1 := Lib.hid (U1.out.kept hg4 (by have := a14.row (n := P.a.length) (c := l.c1) (m := P.d.length) (d := l.c4); exact this))
  have V2 := Lib.hid (U2.out.kept hg4 (by have := a24.row (n := P.b.length) (c := l.c2) (m := P.d.length) (d := l.c4); exact this))
  have V3 := Lib.hid (U3.out.kept hg4 (by have := a34.row (n := P.c.length) (c := l.c3) (m := P.d.length) (d := l.c4); exact this))
  have V4 := Lib.hid hO4
  clear hg4 hO4
  go_wp2_with fail
  go_ret
  refine ⟨by rw [HZ.out]; rfl, T4.out, T4.out.size, ⟨⟨⟨?_, ?_, ?_, ?_⟩, ?_⟩, HS.out.2⟩⟩
  · simpa only [mkRd, marks_length] using V1.out
  · simpa only [mkRd, marks_length] using V2.out
  · simpa only [mkRd, marks_length] using V3.out
  · simpa only [mkRd, marks_length] using V4.out
  · simpa only [mkRd, marks_length] using HS.out.1.2
set_option maxHeartbeats 2000000 in
theorem heldRod_any (B S : Nat) (P : Rd) (l : RL) (k0 : Int) (w : World) (hs : RdX B S w (mkRd P k0) l) (hk : 0 ≤ k0 ∧ k0 ≤ 8) (hn : P.size ≤ 1048576) : Calls Try.prog 22 #[.agg #[.slice l.p1 P.a.length l.c1, .slice l.p2 P.b.length l.c2, .slice l.p3 P.c.length l.c3, .slice l.p4 P.d.length l.c4], .int .i64 k0] w (BV w (.int .i64 (P.sum k0))) := by
  have HZ : Hid (P.sum k0 = k0 + P.a.length + P.b.length + P.c.length + P.d.length) := rfl
  have HM := Lib.hid (mkRd_rx hs)
  unfold Rd.size at hn
  clear hs
  go_enter Try.func22, Try.ntmps22
  go_wp2_with (first | (with_reducible refine at_list ?_; refine wpList_fop rfl rfl rfl rfl rfl ?_; intro r n hr0; have hr := hr0 _ _ (by first | with_reducible assumption | exact rfl) (by first | with_reducible assumption | exact rfl); clear hr0) | (with_reducible refine at_list ?_; refine wpList_neg rfl rfl rfl ?_; intro r hr0; have hr := hr0 _ (by first | with_reducible assumption | exact rfl); clear hr0) | (with_reducible refine at_list ?_; refine wpList_fop_g rfl rfl rfl rfl rfl ?_; intro r n hr0; have hr := hr0 _ _ (by first | with_reducible assumption | exact rfl) (by first | with_reducible assumption | exact rfl); clear hr0) | (with_reducible refine at_list ?_; refine wpList_wide_g rfl rfl Try.underlying25 Try.underlying32 rfl ?_; intro r n hr0; have hr := hr0 _ (by first | with_reducible assumption | exact rfl); clear hr0) | (with_reducible refine at_list ?_; refine wpList_wide rfl rfl rfl Try.underlying25 Try.underlying32 ?_; intro r n hr0; have hr := hr0 _ (by first | with_reducible assumption | exact rfl); clear hr0) | (go_at_call_of 33 (Value.slice l.p1 P.a.length l.c1); refine ((heldF2_any P.a.length _ k0 _ (HM.out.1.later (by (repeat (first | (with_reducible exact Below.refl _ _) | (with_reducible assumption) | (with_reducible refine below_then ?_ (by assumption)) | (with_reducible refine Below.trans ?_ (by assumption)) | (with_reducible refine below_drewN ?_ _) | (with_reducible apply Below.drew) | (with_reducible refine below_alloc ?_ _) | refine Below.setCell ?_ (by first | (simp; done) | (simp; omega)) _)))) (by omega) (by omega)) ).mono ?_; rintro e w' ⟨rfl, n, rfl⟩) | (go_at_call_of 33 (Value.slice l.p2 P.b.length l.c2); refine ((heldF2_any P.b.length _ (k0 + P.a.length) _ (HM.out.2.1.later (by (repeat (first | (with_reducible exact Below.refl _ _) | (with_reducible assumption) | (with_reducible refine below_then ?_ (by assumption)) | (with_reducible refine Below.trans ?_ (by assumption)) | (with_reducible refine below_drewN ?_ _) | (with_reducible apply Below.drew) | (with_reducible refine below_alloc ?_ _) | refine Below.setCell ?_ (by first | (simp; done) | (simp; omega)) _)))) (by omega) (by omega)) ).mono ?_; rintro e w' ⟨rfl, n, rfl⟩) | (go_at_call_of 33 (Value.slice l.p3 P.c.length l.c3); refine ((heldF2_any P.c.length _ (k0 + P.a.length + P.b.length) _ (HM.out.2.2.1.later (by (repeat (first | (with_reducible exact Below.refl _ _) | (with_reducible assumption) | (with_reducible refine below_then ?_ (by assumption)) | (with_reducible refine Below.trans ?_ (by assumption)) | (with_reducible refine below_drewN ?_ _) | (with_reducible apply Below.drew) | (with_reducible refine below_alloc ?_ _) | refine Below.setCell ?_ (by first | (simp; done) | (simp; omega)) _)))) (by omega) (by omega)) ).mono ?_; rintro e w' ⟨rfl, n, rfl⟩) | (go_at_call_of 33 (Value.slice l.p4 P.d.length l.c4); refine ((heldF2_any P.d.length _ (k0 + P.a.length + P.b.length + P.c.length) _ (HM.out.2.2.2.later (by (repeat (first | (with_reducible exact Below.refl _ _) | (with_reducible assumption) | (with_reducible refine below_then ?_ (by assumption)) | (with_reducible refine Below.trans ?_ (by assumption)) | (with_reducible refine below_drewN ?_ _) | (with_reducible apply Below.drew) | (with_reducible refine below_alloc ?_ _) | refine Below.setCell ?_ (by first | (simp; done) | (simp; omega)) _)))) (by omega) (by omega)) ).mono ?_; rintro e w' ⟨rfl, n, rfl⟩))
  go_ret
  exact ⟨by rw [HZ.out]; rfl, by (repeat (first | (with_reducible exact Below.refl _ _) | (with_reducible assumption) | (with_reducible refine below_then ?_ (by assumption)) | (with_reducible refine Below.trans ?_ (by assumption)) | (with_reducible refine below_drewN ?_ _) | (with_reducible apply Below.drew) | (with_reducible refine below_alloc ?_ _) | refine Below.setCell ?_ (by first | (simp; done) | (simp; omega)) _))⟩
end Go.Proofs.Ytgkcfeaknehopaa

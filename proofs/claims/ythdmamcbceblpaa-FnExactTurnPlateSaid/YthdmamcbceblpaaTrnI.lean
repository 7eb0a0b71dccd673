/-
  A turned plate: the program's way. No condition but what each contract says.
-/
import Derived.Test.YthdmamcbceblpaaTrnR
import Derived.Test.YthdmamcbceblpaaTrn
set_option linter.unusedSimpArgs false
set_option linter.unusedVariables false
set_option linter.unusedSectionVars false
namespace Go.Proofs.Ythdmamcbceblpaa
open Go Go.RowKit
open Go.ChangeShapes Go.WideShapes Go.ChangeAt Go.RowKit Go.Joins
set_option maxHeartbeats 8000000 in
set_option maxRecDepth 100000 in
theorem implTurn_any (P : Pl) (l : Lay) (w : World) (hs : P.fs w l) : Calls Try.prog 37 #[.agg #[.int .i64 P.W, .int .i64 P.H, .slice l.p1 P.a.length l.c1, .slice l.p2 P.b.length l.c2, .slice l.p3 P.c.length l.c3, .slice l.p4 P.d.length l.c4]] w (BPB w (okP P.ok (turnPl P (P.W * P.H).toNat)) P.ok) := by
  have HS := Lib.hid hs
  clear hs
  have HV := Lib.hid (fun w h1 => implValidPlate_any P l w h1)
  rcases h0 : P.ok
  · rw [h0] at HV
    clear h0
    go_enter Try.func37, Try.ntmps37
    go_wp2_with (first | (with_reducible refine at_list ?_; refine wpList_fop rfl rfl rfl rfl rfl ?_; intro r n hr0; have hr := hr0 _ _ (by first | with_reducible assumption | exact rfl) (by first | with_reducible assumption | exact rfl); clear hr0) | (with_reducible refine at_list ?_; refine wpList_neg rfl rfl rfl ?_; intro r hr0; have hr := hr0 _ (by first | with_reducible assumption | exact rfl); clear hr0) | (with_reducible refine at_list ?_; refine wpList_fop_g rfl rfl rfl rfl rfl ?_; intro r n hr0; have hr := hr0 _ _ (by first | with_reducible assumption | exact rfl) (by first | with_reducible assumption | exact rfl); clear hr0) | (with_reducible refine at_list ?_; refine wpList_wide_g rfl rfl Try.underlying33 Try.underlying37 rfl ?_; intro r n hr0; have hr := hr0 _ (by first | with_reducible assumption | exact rfl); clear hr0) | (with_reducible refine at_list ?_; refine wpList_wide rfl rfl rfl Try.underlying33 Try.underlying37 ?_; intro r n hr0; have hr := hr0 _ (by first | with_reducible assumption | exact rfl); clear hr0) | (go_at_call 18; refine ((HV.out _ (HS.out.later (by (repeat (first | (with_reducible exact Below.refl _ _) | (with_reducible assumption) | (with_reducible refine below_then ?_ (by assumption)) | (with_reducible refine Below.trans ?_ (by assumption)) | (with_reducible refine below_drewN ?_ _) | (with_reducible apply Below.drew) | (with_reducible refine below_alloc ?_ _) | refine Below.setCell ?_ (by first | (simp; done) | (simp; omega)) _))))) ).mono ?_; rintro e w' ⟨rfl, hb⟩; obtain ⟨hT, hk⟩ := bv_next hb (by (repeat (with_reducible first | assumption | apply Trk.alloc | apply Trk.setCell | apply Trk.drewN | apply Trk.drew | exact Trk.nil _))); simp only [SameOn, World.size_alloc, World.size_setCell, World.size_drew, size_drewN', and_true] at hk; have hsz := Below.size hb; (try simp only [World.size_alloc, World.size_setCell, World.size_drew, size_drewN'] at hsz)))
    all_goals
      refine bodyPost_ret (v := .tuple #[.agg #[.int .i64 0, .int .i64 0, .slice none 0 0, .slice none 0 0, .slice none 0 0, .slice none 0 0], .bool false]) (by simp [results, Try.results37, go_sem, *]) rfl ?_
      exact bpb_no rfl (by (repeat (first | (with_reducible exact Below.refl _ _) | (with_reducible assumption) | (with_reducible refine below_then ?_ (by assumption)) | (with_reducible refine Below.trans ?_ (by assumption)) | (with_reducible refine below_drewN ?_ _) | (with_reducible apply Below.drew) | (with_reducible refine below_alloc ?_ _) | refine Below.setCell ?_ (by first | (simp; done) | (simp; omega)) _))) rfl
  rw [h0] at HV
  obtain ⟨hW, hH, hla, hlb, hlc, hld⟩ := Pl.ok_len h0
  obtain ⟨b1, o1, z1, b2, o2, z2, b3, o3, z3, b4, o4, z4, rfl, ⟨⟨hz1, hz1'⟩, ⟨hz2, hz2'⟩, ⟨hz3, hz3'⟩, hz4, hz4'⟩, HA, HB, HC, HD⟩ := Pl.view HS.out h0
  have HLB : Hid (P.b.length = P.a.length) := by show _ = _; omega
  have HLC : Hid (P.c.length = P.a.length) := by show _ = _; omega
  have HLD : Hid (P.d.length = P.a.length) := by show _ = _; omega
  have HLA : Hid ((P.a.length : Int) = P.W * P.H) := hla
  (try dsimp only)
  clear hla hlb hlc hld
  obtain ⟨N, hN⟩ : ∃ N : Nat, N = (P.W * P.H).toNat := ⟨_, rfl⟩
  rw [okP_yes rfl, ← hN]
  have hla := HLA.out
  have hWH : P.W * P.H = (N : Int) := by omega
  have hn : 1 ≤ N ∧ N ≤ 144 := by
    have h1 := Int.mul_le_mul hW.1 hH.1 (by omega) (by omega)
    have h2 := Int.mul_le_mul hW.2 hH.2 (by omega) (by omega)
    omega
  have HN := Lib.hid hn
  have HJ : Hid (∀ k, k < N → ∃ (x y m1 : Int) (j : Nat), (k : Int).tmod P.H = x ∧ (k : Int).tdiv P.H = y ∧ (0 ≤ x ∧ x ≤ P.H - 1) ∧ (0 ≤ y ∧ y ≤ 144) ∧ (P.H - 1 - x) * P.W = m1 ∧ (0 ≤ m1 ∧ m1 ≤ 144) ∧ m1 + y = (j : Int) ∧ j < N ∧ j = turnJ P.W.toNat P.H.toNat k) := fun k hk => turn_nums hW hH hWH hk
  have HLN : Hid (P.a.length = N ∧ P.b.length = N ∧ P.c.length = N ∧ P.d.length = N) := by
    have e1 := HLB.out; have e2 := HLC.out; have e3 := HLD.out
    show _ ∧ _ ∧ _ ∧ _
    omega
  clear h0 hN hla hn
  have hN8 : N ≤ 144 := HN.out.2
  go_enter Try.func37, Try.ntmps37
  go_wp2_with (first | (with_reducible refine at_list ?_; refine wpList_fop rfl rfl rfl rfl rfl ?_; intro r n hr0; have hr := hr0 _ _ (by first | with_reducible assumption | exact rfl) (by first | with_reducible assumption | exact rfl); clear hr0) | (with_reducible refine at_list ?_; refine wpList_neg rfl rfl rfl ?_; intro r hr0; have hr := hr0 _ (by first | with_reducible assumption | exact rfl); clear hr0) | (with_reducible refine at_list ?_; refine wpList_fop_g rfl rfl rfl rfl rfl ?_; intro r n hr0; have hr := hr0 _ _ (by first | with_reducible assumption | exact rfl) (by first | with_reducible assumption | exact rfl); clear hr0) | (with_reducible refine at_list ?_; refine wpList_wide_g rfl rfl Try.underlying33 Try.underlying37 rfl ?_; intro r n hr0; have hr := hr0 _ (by first | with_reducible assumption | exact rfl); clear hr0) | (with_reducible refine at_list ?_; refine wpList_wide rfl rfl rfl Try.underlying33 Try.underlying37 ?_; intro r n hr0; have hr := hr0 _ (by first | with_reducible assumption | exact rfl); clear hr0) | (go_at_call 18; refine stop_here ?_) | (go_at_call 18; refine (implValidPlate_any _ _ _ (by assumption)).mono ?_; rintro e w' ⟨rfl, hb⟩; obtain ⟨hT, hk⟩ := bv_next hb (by (repeat (with_reducible first | assumption | apply Trk.alloc | apply Trk.setCell | apply Trk.drewN | apply Trk.drew | exact Trk.nil _))); simp only [SameOn, World.size_alloc, World.size_setCell, World.size_drew, size_drewN', and_true] at hk; have hsz := Below.size hb; (try simp only [World.size_alloc, World.size_setCell, World.size_drew, size_drewN'] at hsz)))
  unfold Stop
  refine (HV.out _ (HS.out.later (by (repeat (first | (with_reducible exact Below.refl _ _) | (with_reducible assumption) | (with_reducible refine below_then ?_ (by assumption)) | (with_reducible refine Below.trans ?_ (by assumption)) | (with_reducible refine below_drewN ?_ _) | (with_reducible apply Below.drew) | (with_reducible refine below_alloc ?_ _) | refine Below.setCell ?_ (by first | (simp; done) | (simp; omega)) _))))).mono ?_
  rintro e w' ⟨rfl, hb⟩
  obtain ⟨hT, hk⟩ := bv_next hb (by (repeat (with_reducible first | assumption | apply Trk.alloc | apply Trk.setCell | apply Trk.drewN | apply Trk.drew | exact Trk.nil _))); simp only [SameOn, World.size_alloc, World.size_setCell, World.size_drew, size_drewN', and_true] at hk; have hsz := Below.size hb; (try simp only [World.size_alloc, World.size_setCell, World.size_drew, size_drewN'] at hsz)
  rename World => w1
  have hz1w : w.heap.size + 2 ≤ w1.heap.size := by have h9 := hb.size; simp only [World.size_alloc, World.size_setCell, World.size_drew, size_drewN'] at h9; omega
  go_wp2_with (first | (with_reducible refine at_list ?_; refine wpList_fop rfl rfl rfl rfl rfl ?_; intro r n hr0; have hr := hr0 _ _ (by first | with_reducible assumption | exact rfl) (by first | with_reducible assumption | exact rfl); clear hr0) | (with_reducible refine at_list ?_; refine wpList_neg rfl rfl rfl ?_; intro r hr0; have hr := hr0 _ (by first | with_reducible assumption | exact rfl); clear hr0) | (with_reducible refine at_list ?_; refine wpList_fop_g rfl rfl rfl rfl rfl ?_; intro r n hr0; have hr := hr0 _ _ (by first | with_reducible assumption | exact rfl) (by first | with_reducible assumption | exact rfl); clear hr0) | (with_reducible refine at_list ?_; refine wpList_wide_g rfl rfl Try.underlying33 Try.underlying37 rfl ?_; intro r n hr0; have hr := hr0 _ (by first | with_reducible assumption | exact rfl); clear hr0) | (with_reducible refine at_list ?_; refine wpList_wide rfl rfl rfl Try.underlying33 Try.underlying37 ?_; intro r n hr0; have hr := hr0 _ (by first | with_reducible assumption | exact rfl); clear hr0) | (go_at_call 18; refine (implValidPlate_any _ _ _ (by assumption)).mono ?_; rintro e w' ⟨rfl, hb⟩; obtain ⟨hT, hk⟩ := bv_next hb (by (repeat (with_reducible first | assumption | apply Trk.alloc | apply Trk.setCell | apply Trk.drewN | apply Trk.drew | exact Trk.nil _))); simp only [SameOn, World.size_alloc, World.size_setCell, World.size_drew, size_drewN', and_true] at hk; have hsz := Below.size hb; (try simp only [World.size_alloc, World.size_setCell, World.size_drew, size_drewN'] at hsz)))
  refine wp_named ?_
  intro ws hws
  obtain ⟨bt, B, ⟨hbt, hwB, hBb⟩, HTV, HR6, HBS, HAT⟩ : ∃ bt B, (bt = w1.heap.size ∧ w.heap.size + 1 < B ∧ B ≤ bt) ∧ Hid (PV B ws bt (turnPl P 0) nilLay) ∧ Hid ((ws.cell? ⟨w.heap.size + 1, 0, none⟩ = some (.int .i64 0) ∧ ws.cell? ⟨w.heap.size + 1, 1, none⟩ = some (.int .i64 0) ∧ ws.cell? ⟨w.heap.size + 1, 2, none⟩ = some (.slice none 0 0) ∧ ws.cell? ⟨w.heap.size + 1, 3, none⟩ = some (.slice none 0 0) ∧ ws.cell? ⟨w.heap.size + 1, 4, none⟩ = some (.slice none 0 0) ∧ ws.cell? ⟨w.heap.size + 1, 5, none⟩ = some (.slice none 0 0)) ∧ ∀ o, ws.frozen? ⟨w.heap.size + 1, o, none⟩ = false) ∧ Hid (Below w.heap.size w ws) ∧ Hid (PlAt P ⟨some ⟨b1, o1, none⟩, z1, some ⟨b2, o2, none⟩, z2, some ⟨b3, o3, none⟩, z3, some ⟨b4, o4, none⟩, z4⟩ ws w.heap.size 0) := by
    refine ⟨w1.heap.size, w.heap.size + 2, ⟨rfl, by omega, hz1w⟩, PV.new ?_ hz1w, ?_, ?_, ?_⟩
    · rw [hws]
      intro j x hj
      unfold plC at hj
      match j, hj with
      | 0, hj => simp [turnPl] at hj; subst hj; exact ⟨by go_simp, by go_simp⟩
      | 1, hj => simp [turnPl] at hj; subst hj; exact ⟨by go_simp, by go_simp⟩
      | 2, hj => simp [nilLay] at hj; subst hj; exact ⟨by go_simp, by go_simp⟩
      | 3, hj => simp [nilLay] at hj; subst hj; exact ⟨by go_simp, by go_simp⟩
      | 4, hj => simp [nilLay] at hj; subst hj; exact ⟨by go_simp, by go_simp⟩
      | 5, hj => simp [nilLay] at hj; subst hj; exact ⟨by go_simp, by go_simp⟩
      | j + 6, hj => simp at hj
    · rw [hws]; exact ⟨⟨by go_simp, by go_simp, by go_simp, by go_simp, by go_simp, by go_simp⟩, fun o => by go_simp⟩
    · rw [hws]; show Below _ _ _; (repeat (first | (with_reducible exact Below.refl _ _) | (with_reducible assumption) | (with_reducible refine below_then ?_ (by assumption)) | (with_reducible refine Below.trans ?_ (by assumption)) | (with_reducible refine below_drewN ?_ _) | (with_reducible apply Below.drew) | (with_reducible refine below_alloc ?_ _) | refine Below.setCell ?_ (by first | (simp; done) | (simp; omega)) _))
    · rw [hws]; exact (by unfold PlAt; refine ⟨?_, ?_, ?_, ?_, ?_, ?_⟩ <;> go_simp)
  rw [← hbt]
  clear hws hbt hz1w
  try clear hb hk hT hsz
  have HZB : Hid (B ≤ ws.heap.size) := by have h1 := PV.lt HTV.out; show _ ≤ _; omega
  go_loopw [23] (fun q23 wr => ∃ (k : Nat) (lt : Lay), k ≤ N ∧ q23 = .int .i64 (k : Int) ∧ Hid (PV B wr bt (turnPl P k) lt) ∧ Below B ws wr) (fun q23 _ => N - (intOf q23).toNat)
  case atStart => exact ⟨0, nilLay, Nat.zero_le _, rfl, HTV.out, Below.refl _ _⟩
  case round =>
    obtain ⟨k, lt, hkN, rfl, HPV, hB⟩ := hrel
    have hzr := hB.size
    obtain ⟨R, hR⟩ : ∃ R, R = turnPl P k := ⟨_, rfl⟩
    have HR := Lib.hid hR
    rw [← hR] at HPV
    have HBW := Lib.hid hB
    have hwz : w.heap.size < ws.heap.size := by have := HZB.out; omega
    have HAT0 : Hid (∀ u, Below B ws u → PlAt P ⟨some ⟨b1, o1, none⟩, z1, some ⟨b2, o2, none⟩, z2, some ⟨b3, o3, none⟩, z3, some ⟨b4, o4, none⟩, z4⟩ u w.heap.size 0) := fun u h => ⟨(h.cell (p := ⟨w.heap.size, 0, none⟩) (by show w.heap.size < B; omega)).trans HAT.out.1, (h.cell (p := ⟨w.heap.size, 0 + 1, none⟩) (by show w.heap.size < B; omega)).trans HAT.out.2.1, (h.cell (p := ⟨w.heap.size, 0 + 2, none⟩) (by show w.heap.size < B; omega)).trans HAT.out.2.2.1, (h.cell (p := ⟨w.heap.size, 0 + 3, none⟩) (by show w.heap.size < B; omega)).trans HAT.out.2.2.2.1, (h.cell (p := ⟨w.heap.size, 0 + 4, none⟩) (by show w.heap.size < B; omega)).trans HAT.out.2.2.2.2.1, (h.cell (p := ⟨w.heap.size, 0 + 5, none⟩) (by show w.heap.size < B; omega)).trans HAT.out.2.2.2.2.2⟩
    have HBWW : Hid (∀ u, Below B ws u → Below w.heap.size w u) := fun u h => HBS.out.trans (h.mono (by omega))
    have HZR : Hid (∀ u, Below B ws u → B ≤ u.heap.size) := fun u h => Nat.le_trans HZB.out h.size
    have hwrB : B ≤ wr.heap.size := HZR.out wr hB
    obtain ⟨p0, p1, p2, p3, p4, p5⟩ := HAT0.out wr hB
    simp only [Nat.zero_add] at p0 p1 p2 p3 p4 p5
    have hNp : 0 < N := HN.out.1
    have hN9 : N ≤ 144 := HN.out.2
    by_cases hlt : k < N
    · have hlti : (k : Int) < (N : Int) := by omega
      have hH0 : P.H ≠ 0 := by omega
      obtain ⟨x, y, m1, j, e1, e2, hx, hy, e3, hm1, e4, hj, hjE⟩ := HJ.out k hlt
      have HJE := Lib.hid hjE
      have hlen : Hid (R.a.length = k ∧ R.b.length = k ∧ R.c.length = k ∧ R.d.length = k) := by show _ ∧ _; rw [hR]; exact turn_len P k
      have HKN : Hid (k ≤ 144) := by show _ ≤ _; omega
      have hja : (j : Int) < (P.a.length : Int) := by have := HLN.out.1; omega
      have hjb : (j : Int) < (P.b.length : Int) := by have := HLN.out.2.1; omega
      have hjc : (j : Int) < (P.c.length : Int) := by have := HLN.out.2.2.1; omega
      have hjd : (j : Int) < (P.d.length : Int) := by have := HLN.out.2.2.2; omega
      have hj0 : 0 ≤ (j : Int) := by omega
      have XA : Hid (∀ u, Below B ws u → u.cell? ⟨b1, o1 + j, none⟩ = some (.float .f32 (P.a.getD j 0))) := fun u h => cell_later (HBWW.out u h) (HA.out j (by omega))
      have XB : Hid (∀ u, Below B ws u → u.cell? ⟨b2, o2 + j, none⟩ = some (.float .f32 (P.b.getD j 0))) := fun u h => cell_later (HBWW.out u h) (HB.out j (by omega))
      have XC : Hid (∀ u, Below B ws u → u.cell? ⟨b3, o3 + j, none⟩ = some (.float .f32 (P.c.getD j 0))) := fun u h => cell_later (HBWW.out u h) (HC.out j (by omega))
      have XD : Hid (∀ u, Below B ws u → u.cell? ⟨b4, o4 + j, none⟩ = some (.bool (P.d.getD j false))) := fun u h => cell_later (HBWW.out u h) (HD.out j (by omega))
      have hpg : P.H - 1 - x ≤ 11 ∧ 0 ≤ P.H - 1 - x := by omega
      have hb9z : bt < wr.heap.size := PV.lt HPV.out
      have hT : Trk wr [w.heap.size, bt] := ((Trk.nil wr).more hb9z).more (by omega)
      clear hR hB hjE
      have hRW : R.W = P.H := by rw [HR.out]; rfl
      have g0 := (HPV.out.1.1 0 _ rfl).1
      have f0 := (HPV.out.1.1 0 _ rfl).2
      have g1 := (HPV.out.1.1 1 _ rfl).1
      have f1 := (HPV.out.1.1 1 _ rfl).2
      have g2 := (HPV.out.1.1 2 _ rfl).1
      have f2 := (HPV.out.1.1 2 _ rfl).2
      have g3 := (HPV.out.1.1 3 _ rfl).1
      have f3 := (HPV.out.1.1 3 _ rfl).2
      have g4 := (HPV.out.1.1 4 _ rfl).1
      have f4 := (HPV.out.1.1 4 _ rfl).2
      have g5 := (HPV.out.1.1 5 _ rfl).1
      have f5 := (HPV.out.1.1 5 _ rfl).2
      rw [hRW] at g0
      go_wp2_with (first | (with_reducible refine at_list ?_; refine wpList_fop rfl rfl rfl rfl rfl ?_; intro r n hr0; have hr := hr0 _ _ (by first | with_reducible assumption | exact rfl) (by first | with_reducible assumption | exact rfl); clear hr0) | (with_reducible refine at_list ?_; refine wpList_neg rfl rfl rfl ?_; intro r hr0; have hr := hr0 _ (by first | with_reducible assumption | exact rfl); clear hr0) | (with_reducible refine at_list ?_; refine wpList_fop_g rfl rfl rfl rfl rfl ?_; intro r n hr0; have hr := hr0 _ _ (by first | with_reducible assumption | exact rfl) (by first | with_reducible assumption | exact rfl); clear hr0) | (with_reducible refine at_list ?_; refine wpList_wide_g rfl rfl Try.underlying33 Try.underlying37 rfl ?_; intro r n hr0; have hr := hr0 _ (by first | with_reducible assumption | exact rfl); clear hr0) | (with_reducible refine at_list ?_; refine wpList_wide rfl rfl rfl Try.underlying33 Try.underlying37 ?_; intro r n hr0; have hr := hr0 _ (by first | with_reducible assumption | exact rfl); clear hr0) | (go_at_call 18; refine (implValidPlate_any _ _ _ (by assumption)).mono ?_; rintro e w' ⟨rfl, hb⟩; obtain ⟨hT, hk⟩ := bv_next hb (by (repeat (with_reducible first | assumption | apply Trk.alloc | apply Trk.setCell | apply Trk.drewN | apply Trk.drew | exact Trk.nil _))); simp only [SameOn, World.size_alloc, World.size_setCell, World.size_drew, size_drewN', and_true] at hk; have hsz := Below.size hb; (try simp only [World.size_alloc, World.size_setCell, World.size_drew, size_drewN'] at hsz)))
      (refine wp_some_lit (by kernel_rfl) (by kernel_rfl) ?_; (refine wpSome_one ?_; go_big_quiet_step (fail); refine wpQuiet_nil ?_); (refine wpSome_one ?_; go_big_quiet_step (fail); refine wpQuiet_nil ?_); (refine wpSome_one ?_; go_big_quiet_step (fail); refine wpQuiet_nil ?_); (refine wpSome_one ?_; go_big_quiet_step (fail); refine wpQuiet_nil ?_); (refine wpSome_one ?_; go_big_quiet_step (fail); refine wpQuiet_nil ?_); (refine wpSome_one ?_; go_big_quiet_step (fail); refine wpQuiet_nil ?_); (refine wpSome_one ?_; go_big_quiet_step (fail); refine wpQuiet_nil ?_); (refine wpSome_one ?_; go_big_quiet_step (fail); refine wpQuiet_nil ?_); (refine wpSome_one ?_; go_big_quiet_step (fail); refine wpQuiet_nil ?_); (refine wpSome_one ?_; go_big_quiet_step (fail); refine wpQuiet_nil ?_); refine wpSome_nil ?_; intro w' hw'; obtain ⟨nq, rfl⟩ := hw')
      go_wp2_with (first | (with_reducible refine at_list ?_; refine wpList_fop rfl rfl rfl rfl rfl ?_; intro r n hr0; have hr := hr0 _ _ (by first | with_reducible assumption | exact rfl) (by first | with_reducible assumption | exact rfl); clear hr0) | (with_reducible refine at_list ?_; refine wpList_neg rfl rfl rfl ?_; intro r hr0; have hr := hr0 _ (by first | with_reducible assumption | exact rfl); clear hr0) | (with_reducible refine at_list ?_; refine wpList_fop_g rfl rfl rfl rfl rfl ?_; intro r n hr0; have hr := hr0 _ _ (by first | with_reducible assumption | exact rfl) (by first | with_reducible assumption | exact rfl); clear hr0) | (with_reducible refine at_list ?_; refine wpList_wide_g rfl rfl Try.underlying33 Try.underlying37 rfl ?_; intro r n hr0; have hr := hr0 _ (by first | with_reducible assumption | exact rfl); clear hr0) | (with_reducible refine at_list ?_; refine wpList_wide rfl rfl rfl Try.underlying33 Try.underlying37 ?_; intro r n hr0; have hr := hr0 _ (by first | with_reducible assumption | exact rfl); clear hr0) | (go_at_call 18; refine (implValidPlate_any _ _ _ (by assumption)).mono ?_; rintro e w' ⟨rfl, hb⟩; obtain ⟨hT, hk⟩ := bv_next hb (by (repeat (with_reducible first | assumption | apply Trk.alloc | apply Trk.setCell | apply Trk.drewN | apply Trk.drew | exact Trk.nil _))); simp only [SameOn, World.size_alloc, World.size_setCell, World.size_drew, size_drewN', and_true] at hk; have hsz := Below.size hb; (try simp only [World.size_alloc, World.size_setCell, World.size_drew, size_drewN'] at hsz)))
      refine wp_named ?_
      intro W0 hW0
      have HPW : Hid (PV B W0 bt R lt) := by show PV _ _ _ _ _; rw [hW0]; first | exact HPV.out | exact PV.later HPV.out (below_drewN (Below.refl _ _) _)
      have HBW0 : Hid (Below B ws W0) := by show Below _ _ _; rw [hW0]; first | exact HBW.out | exact below_drewN HBW.out _
      clear hW0 hT p0 p1 p2 p3 p4 p5 g0 f0 g1 f1 g2 f2 g3 f3 g4 f4 g5 f5
      have hbz : bt < W0.heap.size := PV.lt HPW.out
      have hzB : B ≤ W0.heap.size := HZR.out _ HBW0.out
      have HG0 : Hid (∀ k, (Value.slice lt.p1 R.a.length lt.c1).ownBlock = some k → B ≤ k ∧ k ≠ bt) := fun k hk => ⟨(World.ownsRow.lt (HPW.out.2.2.1 0 (by omega)) k hk).1, fun e => HPW.out.2.1 0 (by omega) (e ▸ hk)⟩
      have HG1 : Hid (∀ k, (Value.slice lt.p2 R.b.length lt.c2).ownBlock = some k → B ≤ k) := fun k hk => (World.ownsRow.lt (HPW.out.2.2.1 1 (by omega)) k hk).1
      have HFC : Hid (∀ u, W0.grownBy u (Value.slice lt.p1 R.a.length lt.c1).ownBlock → u.cell? ⟨bt, 2, none⟩ = some (.slice lt.p1 R.a.length lt.c1) ∧ u.cell? ⟨bt, 3, none⟩ = some (.slice lt.p2 R.b.length lt.c2) ∧ u.cell? ⟨w.heap.size, 2, none⟩ = some (.slice (some ⟨b1, o1, none⟩) P.a.length z1) ∧ u.cell? ⟨w.heap.size, 3, none⟩ = some (.slice (some ⟨b2, o2, none⟩) P.b.length z2) ∧ u.cell? ⟨b1, o1 + j, none⟩ = some (.float .f32 (P.a.getD j 0)) ∧ u.cell? ⟨b2, o2 + j, none⟩ = some (.float .f32 (P.b.getD j 0))) := fun u hg => by
        have c1 := owned_kept HPW.out.1.1 hg hbz (fun k hk => (HG0.out k hk).2)
        have hbw : Below B W0 u := (Below.refl _ _).grown hg hzB (fun k hk => (HG0.out k hk).1)
        have hbu : Below B ws u := HBW0.out.trans hbw
        have pa := HAT0.out u hbu
        simp only [PlAt, Nat.zero_add] at pa
        exact ⟨(c1 2 _ rfl).1, (c1 3 _ rfl).1, pa.2.2.1, pa.2.2.2.1, XA.out u hbu, XB.out u hbu⟩
      apply wp_region_planH (F := fun u => W0.grownBy u (Value.slice lt.p1 R.a.length lt.c1).ownBlock) (T := Sz W0.heap.size) (fun u => Below W0.heap.size W0 u) (fun a c h hb => h.trans (hb.mono h.size))
      case hW => exact Below.refl _ _
      case hF0 => exact fun u h => below_grown h _
      (apply wpH_det; (case hw => exact rfl); (case hs => (intro cs b h; cases h)); (case h1 => (intro w'; go_simp <;> exact rfl)))
      apply wpH_norm
      (case ha => (simp only [Act.put, List.setIfInBounds_toArray, List.set_cons_zero, List.set_cons_succ]; exact rfl))
      (apply wpH_any; (case hw => exact rfl); (case h1 => (intro w' hF; obtain ⟨y1, y2, y3, y4, y5, y6⟩ := HFC.out w' hF; go_simp <;> exact rfl)))
      apply wpH_norm
      (case ha => (simp only [Act.put, List.setIfInBounds_toArray, List.set_cons_zero, List.set_cons_succ]; exact rfl))
      (apply wpH_det; (case hw => exact rfl); (case hs => (intro cs b h; cases h)); (case h1 => (intro w'; go_simp <;> exact rfl)))
      apply wpH_norm
      (case ha => (simp only [Act.put, List.setIfInBounds_toArray, List.set_cons_zero, List.set_cons_succ]; exact rfl))
      (apply wpH_any; (case hw => exact rfl); (case h1 => (intro w' hF; obtain ⟨y1, y2, y3, y4, y5, y6⟩ := HFC.out w' hF; go_simp <;> exact rfl)))
      apply wpH_norm
      (case ha => (simp only [Act.put, List.setIfInBounds_toArray, List.set_cons_zero, List.set_cons_succ]; exact rfl))
      (apply wpH_det; (case hw => exact rfl); (case hs => (intro cs b h; cases h)); (case h1 => (intro w'; go_simp <;> exact rfl)))
      apply wpH_norm
      (case ha => (simp only [Act.put, List.setIfInBounds_toArray, List.set_cons_zero, List.set_cons_succ]; exact rfl))
      (apply wpH_det; (case hw => exact rfl); (case hs => (intro cs b h; cases h)); (case h1 => (intro w'; go_simp <;> exact rfl)))
      apply wpH_norm
      (case ha => (simp only [Act.put, List.setIfInBounds_toArray, List.set_cons_zero, List.set_cons_succ]; exact rfl))
      (apply wpH_any; (case hw => exact rfl); (case h1 => (intro w' hF; obtain ⟨y1, y2, y3, y4, y5, y6⟩ := HFC.out w' hF; go_simp <;> exact rfl)))
      apply wpH_norm
      (case ha => (simp only [Act.put, List.setIfInBounds_toArray, List.set_cons_zero, List.set_cons_succ]; exact rfl))
      (apply wpH_lit5 (S := W0.heap.size); (case hx => (first | exact rfl | (simp [Op.operands]; exact rfl))); (case hw => exact rfl); (case hS => (intro u h; exact h.size)); (case hT => (intro u u' h; exact h)); (case h1 => (intro w'; go_simp <;> exact rfl)); intro b7)
      apply wpH_norm
      (case ha => (simp only [Act.put, List.setIfInBounds_toArray, List.set_cons_zero, List.set_cons_succ]; exact rfl))
      (apply wpH_row1 (B := B) (b := bt) (W0 := W0) (f := plF R lt) (cl := plC R lt) (j := 0) (v := .slice lt.p1 R.a.length lt.c1) 33 (R.a.length + 1) ((R.a ++ [P.a.getD j 0]).map (Value.float .f32)); (case hRV => exact HPW.out); (case hcl => simp [plC]); (case hj => omega); (case hf => rfl); (case hw => exact rfl); (case hr => (intro w' hb hrv hd; exact appRunF rfl rfl rfl (show OF _ _ _ _ from hrv.2.2.1 0 (by omega)) (((show owned _ _ _ from hd.1) 0 _ rfl).1) (by have h8 := hlen.out; have h9 := HKN.out; omega) (Nat.le_trans hzB hb.size))); intro q1 c1)
      apply wpH_norm
      (case ha => (simp only [Act.put, List.setIfInBounds_toArray, List.set_cons_zero, List.set_cons_succ]; exact rfl))
      (apply wpH_det; (case hw => exact rfl); (case hs => (intro cs b h; cases h)); (case h1 => (intro w'; go_simp <;> exact rfl)))
      apply wpH_norm
      (case ha => (simp only [Act.put, List.setIfInBounds_toArray, List.set_cons_zero, List.set_cons_succ]; exact rfl))
      (apply wpH_any; (case hw => exact rfl); (case h1 => (intro w' hF; obtain ⟨y1, y2, y3, y4, y5, y6⟩ := HFC.out w' hF; go_simp <;> exact rfl)))
      apply wpH_norm
      (case ha => (simp only [Act.put, List.setIfInBounds_toArray, List.set_cons_zero, List.set_cons_succ]; exact rfl))
      (apply wpH_det; (case hw => exact rfl); (case hs => (intro cs b h; cases h)); (case h1 => (intro w'; go_simp <;> exact rfl)))
      apply wpH_norm
      (case ha => (simp only [Act.put, List.setIfInBounds_toArray, List.set_cons_zero, List.set_cons_succ]; exact rfl))
      (apply wpH_any; (case hw => exact rfl); (case h1 => (intro w' hF; obtain ⟨y1, y2, y3, y4, y5, y6⟩ := HFC.out w' hF; go_simp <;> exact rfl)))
      apply wpH_norm
      (case ha => (simp only [Act.put, List.setIfInBounds_toArray, List.set_cons_zero, List.set_cons_succ]; exact rfl))
      (apply wpH_det; (case hw => exact rfl); (case hs => (intro cs b h; cases h)); (case h1 => (intro w'; go_simp <;> exact rfl)))
      apply wpH_norm
      (case ha => (simp only [Act.put, List.setIfInBounds_toArray, List.set_cons_zero, List.set_cons_succ]; exact rfl))
      (apply wpH_det; (case hw => exact rfl); (case hs => (intro cs b h; cases h)); (case h1 => (intro w'; go_simp <;> exact rfl)))
      apply wpH_norm
      (case ha => (simp only [Act.put, List.setIfInBounds_toArray, List.set_cons_zero, List.set_cons_succ]; exact rfl))
      (apply wpH_any; (case hw => exact rfl); (case h1 => (intro w' hF; obtain ⟨y1, y2, y3, y4, y5, y6⟩ := HFC.out w' hF; go_simp <;> exact rfl)))
      apply wpH_norm
      (case ha => (simp only [Act.put, List.setIfInBounds_toArray, List.set_cons_zero, List.set_cons_succ]; exact rfl))
      (apply wpH_lit5 (S := W0.heap.size); (case hx => (first | exact rfl | (simp [Op.operands]; exact rfl))); (case hw => exact rfl); (case hS => (intro u h; exact h.size)); (case hT => (intro u u' h; exact h)); (case h1 => (intro w'; go_simp <;> exact rfl)); intro b16)
      apply wpH_norm
      (case ha => (simp only [Act.put, List.setIfInBounds_toArray, List.set_cons_zero, List.set_cons_succ]; exact rfl))
      (apply wpH_row2 (B := B) (b := bt) (W0 := W0) (f := plF R lt) (cl := plC R lt) (j := 0) (j2 := 1) (v := .slice lt.p1 R.a.length lt.c1) (v2 := .slice lt.p2 R.b.length lt.c2) 2 33 (R.a.length + 1) ((R.a ++ [P.a.getD j 0]).map (Value.float .f32)) 33 (R.b.length + 1) ((R.b ++ [P.b.getD j 0]).map (Value.float .f32)) (v1 := .slice q1 (R.a.length + 1) c1); (case hRV => exact HPW.out); (case hcl => simp [plC]); (case hj => omega); (case hj2 => omega); (case hne => omega); (case hf => rfl); (case hd => (first | exact rfl | kernel_rfl)); (case hw => exact rfl); (case hk => (intro w' hk0; exact hk0.1)); (case hr => (intro w' hz hrv hd; exact appRunF rfl rfl rfl (show OF _ _ _ _ from hrv.2.2.1 1 (by omega)) (((show owned _ _ _ from hd.1) 0 _ rfl).1) (by have h8 := hlen.out; have h9 := HKN.out; omega) (Nat.le_trans hzB hz))); intro q2 c2)
      apply wpH_norm
      (case ha => (simp only [Act.put, List.setIfInBounds_toArray, List.set_cons_zero, List.set_cons_succ]; exact rfl))
      (apply wpH_det; (case hw => exact rfl); (case hs => (intro cs b h; cases h)); (case h1 => (intro w'; go_simp <;> exact rfl)))
      apply wpH_norm
      (case ha => (simp only [Act.put, List.setIfInBounds_toArray, List.set_cons_zero, List.set_cons_succ]; exact rfl))
      (apply wpH_putR (b := bt) (W0 := W0) (j := 2) (fun x u => RV B u bt ((plC R lt).set 2 (x.getD 1 undef)) (upd (upd (plF R lt) 0 ⟨33, x.getD 1 undef, R.a.length + 1, ((R.a ++ [P.a.getD j 0]).map (Value.float .f32))⟩) 1 ⟨33, x.getD 13 undef, R.b.length + 1, ((R.b ++ [P.b.getD j 0]).map (Value.float .f32))⟩)) (fun x u u' h hb => RV.later h hb) (x0 := [.pointer (some ⟨bt, 2, none⟩), .slice q1 (R.a.length + 1) c1, .pointer (some ⟨bt, 2, none⟩), .slice lt.p1 R.a.length lt.c1, .pointer (some ⟨w.heap.size, 2, none⟩), .slice (some ⟨b1, o1, none⟩) P.a.length z1, .int .i64 (j : Int), .pointer (some ⟨b1, o1 + j, none⟩), .float .f32 (P.a.getD j 0), .slice (some ⟨b7, 0, none⟩) 1 1, .slice q1 (R.a.length + 1) c1, .pointer (some ⟨bt, 3, none⟩), .slice lt.p2 R.b.length lt.c2, .slice q2 (R.b.length + 1) c2, .pointer (some ⟨bt, 2, none⟩)]); (case hox => (first | exact rfl | kernel_rfl)); (case ho => exact rfl); (case hx => exact rfl); (case hy => exact rfl); (case hty => (intro w'; go_simp <;> exact rfl)); (case hb => exact hbz); (case hw => exact rfl); (case hc => (intro w' hk0; exact ⟨_, (show RV _ _ _ _ _ from hk0.1).1.1 2 _ rfl⟩)); (case hk => (intro w' hk0; exact RV.put (j := 2) (show RV B w' bt (plC R lt) _ from hk0.1) (by simp [plC]))))
      apply wpH_norm
      (case ha => (simp only [Act.put, List.setIfInBounds_toArray, List.set_cons_zero, List.set_cons_succ]; exact rfl))
      (apply wpH_det; (case hw => exact rfl); (case hs => (intro cs b h; cases h)); (case h1 => (intro w'; go_simp <;> exact rfl)))
      apply wpH_norm
      (case ha => (simp only [Act.put, List.setIfInBounds_toArray, List.set_cons_zero, List.set_cons_succ]; exact rfl))
      (apply wpH_putR (b := bt) (W0 := W0) (j := 3) (fun x u => RV B u bt (((plC R lt).set 2 (x.getD 10 undef)).set 3 (x.getD 1 undef)) (upd (upd (plF R lt) 0 ⟨33, x.getD 10 undef, R.a.length + 1, ((R.a ++ [P.a.getD j 0]).map (Value.float .f32))⟩) 1 ⟨33, x.getD 1 undef, R.b.length + 1, ((R.b ++ [P.b.getD j 0]).map (Value.float .f32))⟩)) (fun x u u' h hb => RV.later h hb) (x0 := [.pointer (some ⟨bt, 3, none⟩), .slice q2 (R.b.length + 1) c2, .pointer (some ⟨bt, 2, none⟩), .slice lt.p1 R.a.length lt.c1, .pointer (some ⟨w.heap.size, 2, none⟩), .slice (some ⟨b1, o1, none⟩) P.a.length z1, .int .i64 (j : Int), .pointer (some ⟨b1, o1 + j, none⟩), .float .f32 (P.a.getD j 0), .slice (some ⟨b7, 0, none⟩) 1 1, .slice q1 (R.a.length + 1) c1, .pointer (some ⟨bt, 3, none⟩), .slice lt.p2 R.b.length lt.c2, .pointer (some ⟨w.heap.size, 3, none⟩), .slice (some ⟨b2, o2, none⟩) P.b.length z2, .int .i64 (j : Int), .pointer (some ⟨b2, o2 + j, none⟩), .float .f32 (P.b.getD j 0), .slice (some ⟨b16, 0, none⟩) 1 1, .slice q2 (R.b.length + 1) c2, .pointer (some ⟨bt, 2, none⟩), .pointer (some ⟨bt, 3, none⟩)]); (case hox => (first | exact rfl | kernel_rfl)); (case ho => exact rfl); (case hx => exact rfl); (case hy => exact rfl); (case hty => (intro w'; go_simp <;> exact rfl)); (case hb => exact hbz); (case hw => exact rfl); (case hc => (intro w' hk0; exact ⟨_, (show RV _ _ _ _ _ from hk0.1).1.1 3 _ rfl⟩)); (case hk => (intro w' hk0; exact RV.put (j := 3) (show RV B w' bt ((plC R lt).set 2 (.slice q1 (R.a.length + 1) c1)) _ from hk0.1) (by simp [plC]))))
      apply wpH_norm
      (case ha => (simp only [Act.put, List.setIfInBounds_toArray, List.set_cons_zero, List.set_cons_succ]; exact rfl))
      refine wpH_nil ?_
      intro w29 hi hkk hpp
      rotate_left
      case hFs => repeat' (first | exact trivial | (refine ⟨?_, ?_⟩) | (intro h; exact absurd (show (0 : Nat) = 3 from h.1) (by decide)) | (intro h; exact absurd (show (4 : Nat) = 3 from h.1) (by decide)) | (intro h; exact absurd (show (5 : Nat) = 3 from h.1) (by decide)) | (intro _ u hu; exact hu) | (intro h; exact Bool.noConfusion (h.2.symm.trans (by kernel_rfl : _ = true))))
      all_goals (try (first | kernel_rfl | rfl))
      have HRVN : Hid (RV B w29 bt (((plC R lt).set 2 (.slice q1 (R.a.length + 1) c1)).set 3 (.slice q2 (R.b.length + 1) c2)) (upd (upd (plF R lt) 0 ⟨33, .slice q1 (R.a.length + 1) c1, R.a.length + 1, ((R.a ++ [P.a.getD j 0]).map (Value.float .f32))⟩) 1 ⟨33, .slice q2 (R.b.length + 1) c2, R.b.length + 1, ((R.b ++ [P.b.getD j 0]).map (Value.float .f32))⟩)) := hkk.1
      have HB29 : Hid (Below B ws w29) := HBW0.out.trans (G3.below hi hzB (fun k hk => (HG0.out k hk).1) HG1.out hBb)
      clear hi hkk hpp HPW HG0 HG1 HFC HBW0 hbz hzB
      obtain ⟨R2, hR2⟩ : ∃ R2 : Pl, R2 = { R with a := R.a ++ [P.a.getD j 0], b := R.b ++ [P.b.getD j 0] } := ⟨_, rfl⟩
      obtain ⟨l2, hl2⟩ : ∃ l2 : Lay, l2 = { lt with p1 := q1, c1 := c1, p2 := q2, c2 := c2 } := ⟨_, rfl⟩
      have HP2 : Hid (PV B w29 bt R2 l2) := by
        refine PV.rv (f := upd (upd (plF R lt) 0 ⟨33, .slice q1 (R.a.length + 1) c1, R.a.length + 1, (R.a ++ [P.a.getD j 0]).map (Value.float .f32)⟩) 1 ⟨33, .slice q2 (R.b.length + 1) c2, R.b.length + 1, (R.b ++ [P.b.getD j 0]).map (Value.float .f32)⟩) ?_ ?_
        · rw [hR2, hl2]
          have h9 := HRVN.out
          simp only [plC, List.length_append, List.length_cons, List.length_nil, Nat.zero_add] at h9 ⊢
          exact h9
        · intro i hi
          rw [hR2, hl2]
          match i, hi with
          | 0, _ => simp [upd, plF]
          | 1, _ => simp [upd, plF]
          | 2, _ => rfl
          | 3, _ => rfl
      have hlen2 : Hid (R2.a.length = k + 1 ∧ R2.b.length = k + 1 ∧ R2.c.length = k ∧ R2.d.length = k) := by have h9 := hlen.out; show _ ∧ _; rw [hR2]; simp [h9]
      have HR2 := Lib.hid hR2
      have HL2 := Lib.hid hl2
      clear hR2 hl2 HRVN
      have hT : Trk w29 [bt] := (Trk.nil w29).more (PV.lt HP2.out)
      go_wp2_with (first | (with_reducible refine at_list ?_; refine wpList_fop rfl rfl rfl rfl rfl ?_; intro r n hr0; have hr := hr0 _ _ (by first | with_reducible assumption | exact rfl) (by first | with_reducible assumption | exact rfl); clear hr0) | (with_reducible refine at_list ?_; refine wpList_neg rfl rfl rfl ?_; intro r hr0; have hr := hr0 _ (by first | with_reducible assumption | exact rfl); clear hr0) | (with_reducible refine at_list ?_; refine wpList_fop_g rfl rfl rfl rfl rfl ?_; intro r n hr0; have hr := hr0 _ _ (by first | with_reducible assumption | exact rfl) (by first | with_reducible assumption | exact rfl); clear hr0) | (with_reducible refine at_list ?_; refine wpList_wide_g rfl rfl Try.underlying33 Try.underlying37 rfl ?_; intro r n hr0; have hr := hr0 _ (by first | with_reducible assumption | exact rfl); clear hr0) | (with_reducible refine at_list ?_; refine wpList_wide rfl rfl rfl Try.underlying33 Try.underlying37 ?_; intro r n hr0; have hr := hr0 _ (by first | with_reducible assumption | exact rfl); clear hr0) | (go_at_call 18; refine (implValidPlate_any _ _ _ (by assumption)).mono ?_; rintro e w' ⟨rfl, hb⟩; obtain ⟨hT, hk⟩ := bv_next hb (by (repeat (with_reducible first | assumption | apply Trk.alloc | apply Trk.setCell | apply Trk.drewN | apply Trk.drew | exact Trk.nil _))); simp only [SameOn, World.size_alloc, World.size_setCell, World.size_drew, size_drewN', and_true] at hk; have hsz := Below.size hb; (try simp only [World.size_alloc, World.size_setCell, World.size_drew, size_drewN'] at hsz)))
      refine wp_named ?_
      intro W0 hW0
      have HPW : Hid (PV B W0 bt R2 l2) := by show PV _ _ _ _ _; rw [hW0]; first | exact HP2.out | exact PV.later HP2.out (below_drewN (Below.refl _ _) _)
      have HBW0 : Hid (Below B ws W0) := by show Below _ _ _; rw [hW0]; first | exact HB29.out | exact below_drewN HB29.out _
      clear hW0 hT 
      have hbz : bt < W0.heap.size := PV.lt HPW.out
      have hzB : B ≤ W0.heap.size := HZR.out _ HBW0.out
      have HG0 : Hid (∀ k, (Value.slice l2.p3 R2.c.length l2.c3).ownBlock = some k → B ≤ k ∧ k ≠ bt) := fun k hk => ⟨(World.ownsRow.lt (HPW.out.2.2.1 2 (by omega)) k hk).1, fun e => HPW.out.2.1 2 (by omega) (e ▸ hk)⟩
      have HG1 : Hid (∀ k, (Value.slice l2.p4 R2.d.length l2.c4).ownBlock = some k → B ≤ k) := fun k hk => (World.ownsRow.lt (HPW.out.2.2.1 3 (by omega)) k hk).1
      have HFC : Hid (∀ u, W0.grownBy u (Value.slice l2.p3 R2.c.length l2.c3).ownBlock → u.cell? ⟨bt, 4, none⟩ = some (.slice l2.p3 R2.c.length l2.c3) ∧ u.cell? ⟨bt, 5, none⟩ = some (.slice l2.p4 R2.d.length l2.c4) ∧ u.cell? ⟨w.heap.size, 4, none⟩ = some (.slice (some ⟨b3, o3, none⟩) P.c.length z3) ∧ u.cell? ⟨w.heap.size, 5, none⟩ = some (.slice (some ⟨b4, o4, none⟩) P.d.length z4) ∧ u.cell? ⟨b3, o3 + j, none⟩ = some (.float .f32 (P.c.getD j 0)) ∧ u.cell? ⟨b4, o4 + j, none⟩ = some (.bool (P.d.getD j false))) := fun u hg => by
        have c1 := owned_kept HPW.out.1.1 hg hbz (fun k hk => (HG0.out k hk).2)
        have hbw : Below B W0 u := (Below.refl _ _).grown hg hzB (fun k hk => (HG0.out k hk).1)
        have hbu : Below B ws u := HBW0.out.trans hbw
        have pa := HAT0.out u hbu
        simp only [PlAt, Nat.zero_add] at pa
        exact ⟨(c1 4 _ rfl).1, (c1 5 _ rfl).1, pa.2.2.2.2.1, pa.2.2.2.2.2, XC.out u hbu, XD.out u hbu⟩
      apply wp_region_planH (F := fun u => W0.grownBy u (Value.slice l2.p3 R2.c.length l2.c3).ownBlock) (T := Sz W0.heap.size) (fun u => Below W0.heap.size W0 u) (fun a c h hb => h.trans (hb.mono h.size))
      case hW => exact Below.refl _ _
      case hF0 => exact fun u h => below_grown h _
      (apply wpH_det; (case hw => exact rfl); (case hs => (intro cs b h; cases h)); (case h1 => (intro w'; go_simp <;> exact rfl)))
      apply wpH_norm
      (case ha => (simp only [Act.put, List.setIfInBounds_toArray, List.set_cons_zero, List.set_cons_succ]; exact rfl))
      (apply wpH_any; (case hw => exact rfl); (case h1 => (intro w' hF; obtain ⟨y1, y2, y3, y4, y5, y6⟩ := HFC.out w' hF; go_simp <;> exact rfl)))
      apply wpH_norm
      (case ha => (simp only [Act.put, List.setIfInBounds_toArray, List.set_cons_zero, List.set_cons_succ]; exact rfl))
      (apply wpH_det; (case hw => exact rfl); (case hs => (intro cs b h; cases h)); (case h1 => (intro w'; go_simp <;> exact rfl)))
      apply wpH_norm
      (case ha => (simp only [Act.put, List.setIfInBounds_toArray, List.set_cons_zero, List.set_cons_succ]; exact rfl))
      (apply wpH_any; (case hw => exact rfl); (case h1 => (intro w' hF; obtain ⟨y1, y2, y3, y4, y5, y6⟩ := HFC.out w' hF; go_simp <;> exact rfl)))
      apply wpH_norm
      (case ha => (simp only [Act.put, List.setIfInBounds_toArray, List.set_cons_zero, List.set_cons_succ]; exact rfl))
      (apply wpH_det; (case hw => exact rfl); (case hs => (intro cs b h; cases h)); (case h1 => (intro w'; go_simp <;> exact rfl)))
      apply wpH_norm
      (case ha => (simp only [Act.put, List.setIfInBounds_toArray, List.set_cons_zero, List.set_cons_succ]; exact rfl))
      (apply wpH_det; (case hw => exact rfl); (case hs => (intro cs b h; cases h)); (case h1 => (intro w'; go_simp <;> exact rfl)))
      apply wpH_norm
      (case ha => (simp only [Act.put, List.setIfInBounds_toArray, List.set_cons_zero, List.set_cons_succ]; exact rfl))
      (apply wpH_any; (case hw => exact rfl); (case h1 => (intro w' hF; obtain ⟨y1, y2, y3, y4, y5, y6⟩ := HFC.out w' hF; go_simp <;> exact rfl)))
      apply wpH_norm
      (case ha => (simp only [Act.put, List.setIfInBounds_toArray, List.set_cons_zero, List.set_cons_succ]; exact rfl))
      (apply wpH_lit5 (S := W0.heap.size); (case hx => (first | exact rfl | (simp [Op.operands]; exact rfl))); (case hw => exact rfl); (case hS => (intro u h; exact h.size)); (case hT => (intro u u' h; exact h)); (case h1 => (intro w'; go_simp <;> exact rfl)); intro b7)
      apply wpH_norm
      (case ha => (simp only [Act.put, List.setIfInBounds_toArray, List.set_cons_zero, List.set_cons_succ]; exact rfl))
      (apply wpH_row1 (B := B) (b := bt) (W0 := W0) (f := plF R2 l2) (cl := plC R2 l2) (j := 2) (v := .slice l2.p3 R2.c.length l2.c3) 33 (R2.c.length + 1) ((R2.c ++ [P.c.getD j 0]).map (Value.float .f32)); (case hRV => exact HPW.out); (case hcl => simp [plC]); (case hj => omega); (case hf => rfl); (case hw => exact rfl); (case hr => (intro w' hb hrv hd; exact appRunF rfl rfl rfl (show OF _ _ _ _ from hrv.2.2.1 2 (by omega)) (((show owned _ _ _ from hd.1) 0 _ rfl).1) (by have h8 := hlen2.out; have h9 := HKN.out; omega) (Nat.le_trans hzB hb.size))); intro q3 c3)
      apply wpH_norm
      (case ha => (simp only [Act.put, List.setIfInBounds_toArray, List.set_cons_zero, List.set_cons_succ]; exact rfl))
      (apply wpH_det; (case hw => exact rfl); (case hs => (intro cs b h; cases h)); (case h1 => (intro w'; go_simp <;> exact rfl)))
      apply wpH_norm
      (case ha => (simp only [Act.put, List.setIfInBounds_toArray, List.set_cons_zero, List.set_cons_succ]; exact rfl))
      (apply wpH_any; (case hw => exact rfl); (case h1 => (intro w' hF; obtain ⟨y1, y2, y3, y4, y5, y6⟩ := HFC.out w' hF; go_simp <;> exact rfl)))
      apply wpH_norm
      (case ha => (simp only [Act.put, List.setIfInBounds_toArray, List.set_cons_zero, List.set_cons_succ]; exact rfl))
      (apply wpH_det; (case hw => exact rfl); (case hs => (intro cs b h; cases h)); (case h1 => (intro w'; go_simp <;> exact rfl)))
      apply wpH_norm
      (case ha => (simp only [Act.put, List.setIfInBounds_toArray, List.set_cons_zero, List.set_cons_succ]; exact rfl))
      (apply wpH_any; (case hw => exact rfl); (case h1 => (intro w' hF; obtain ⟨y1, y2, y3, y4, y5, y6⟩ := HFC.out w' hF; go_simp <;> exact rfl)))
      apply wpH_norm
      (case ha => (simp only [Act.put, List.setIfInBounds_toArray, List.set_cons_zero, List.set_cons_succ]; exact rfl))
      (apply wpH_det; (case hw => exact rfl); (case hs => (intro cs b h; cases h)); (case h1 => (intro w'; go_simp <;> exact rfl)))
      apply wpH_norm
      (case ha => (simp only [Act.put, List.setIfInBounds_toArray, List.set_cons_zero, List.set_cons_succ]; exact rfl))
      (apply wpH_det; (case hw => exact rfl); (case hs => (intro cs b h; cases h)); (case h1 => (intro w'; go_simp <;> exact rfl)))
      apply wpH_norm
      (case ha => (simp only [Act.put, List.setIfInBounds_toArray, List.set_cons_zero, List.set_cons_succ]; exact rfl))
      (apply wpH_any; (case hw => exact rfl); (case h1 => (intro w' hF; obtain ⟨y1, y2, y3, y4, y5, y6⟩ := HFC.out w' hF; go_simp <;> exact rfl)))
      apply wpH_norm
      (case ha => (simp only [Act.put, List.setIfInBounds_toArray, List.set_cons_zero, List.set_cons_succ]; exact rfl))
      (apply wpH_lit5 (S := W0.heap.size); (case hx => (first | exact rfl | (simp [Op.operands]; exact rfl))); (case hw => exact rfl); (case hS => (intro u h; exact h.size)); (case hT => (intro u u' h; exact h)); (case h1 => (intro w'; go_simp <;> exact rfl)); intro b16)
      apply wpH_norm
      (case ha => (simp only [Act.put, List.setIfInBounds_toArray, List.set_cons_zero, List.set_cons_succ]; exact rfl))
      (apply wpH_row2 (B := B) (b := bt) (W0 := W0) (f := plF R2 l2) (cl := plC R2 l2) (j := 2) (j2 := 3) (v := .slice l2.p3 R2.c.length l2.c3) (v2 := .slice l2.p4 R2.d.length l2.c4) 2 33 (R2.c.length + 1) ((R2.c ++ [P.c.getD j 0]).map (Value.float .f32)) 4 (R2.d.length + 1) ((R2.d ++ [P.d.getD j false]).map Value.bool) (v1 := .slice q3 (R2.c.length + 1) c3); (case hRV => exact HPW.out); (case hcl => simp [plC]); (case hj => omega); (case hj2 => omega); (case hne => omega); (case hf => rfl); (case hd => (first | exact rfl | kernel_rfl)); (case hw => exact rfl); (case hk => (intro w' hk0; exact hk0.1)); (case hr => (intro w' hz hrv hd; exact appRunB rfl rfl rfl (show OL _ _ _ _ from hrv.2.2.1 3 (by omega)) (((show owned _ _ _ from hd.1) 0 _ rfl).1) (by have h8 := hlen2.out; have h9 := HKN.out; omega) (Nat.le_trans hzB hz))); intro q4 c4)
      apply wpH_norm
      (case ha => (simp only [Act.put, List.setIfInBounds_toArray, List.set_cons_zero, List.set_cons_succ]; exact rfl))
      (apply wpH_det; (case hw => exact rfl); (case hs => (intro cs b h; cases h)); (case h1 => (intro w'; go_simp <;> exact rfl)))
      apply wpH_norm
      (case ha => (simp only [Act.put, List.setIfInBounds_toArray, List.set_cons_zero, List.set_cons_succ]; exact rfl))
      (apply wpH_putR (b := bt) (W0 := W0) (j := 4) (fun x u => RV B u bt ((plC R2 l2).set 4 (x.getD 1 undef)) (upd (upd (plF R2 l2) 2 ⟨33, x.getD 1 undef, R2.c.length + 1, ((R2.c ++ [P.c.getD j 0]).map (Value.float .f32))⟩) 3 ⟨4, x.getD 13 undef, R2.d.length + 1, ((R2.d ++ [P.d.getD j false]).map Value.bool)⟩)) (fun x u u' h hb => RV.later h hb) (x0 := [.pointer (some ⟨bt, 4, none⟩), .slice q3 (R2.c.length + 1) c3, .pointer (some ⟨bt, 4, none⟩), .slice l2.p3 R2.c.length l2.c3, .pointer (some ⟨w.heap.size, 4, none⟩), .slice (some ⟨b3, o3, none⟩) P.c.length z3, .int .i64 (j : Int), .pointer (some ⟨b3, o3 + j, none⟩), .float .f32 (P.c.getD j 0), .slice (some ⟨b7, 0, none⟩) 1 1, .slice q3 (R2.c.length + 1) c3, .pointer (some ⟨bt, 5, none⟩), .slice l2.p4 R2.d.length l2.c4, .slice q4 (R2.d.length + 1) c4, .pointer (some ⟨bt, 4, none⟩)]); (case hox => (first | exact rfl | kernel_rfl)); (case ho => exact rfl); (case hx => exact rfl); (case hy => exact rfl); (case hty => (intro w'; go_simp <;> exact rfl)); (case hb => exact hbz); (case hw => exact rfl); (case hc => (intro w' hk0; exact ⟨_, (show RV _ _ _ _ _ from hk0.1).1.1 4 _ rfl⟩)); (case hk => (intro w' hk0; exact RV.put (j := 4) (show RV B w' bt (plC R2 l2) _ from hk0.1) (by simp [plC]))))
      apply wpH_norm
      (case ha => (simp only [Act.put, List.setIfInBounds_toArray, List.set_cons_zero, List.set_cons_succ]; exact rfl))
      (apply wpH_det; (case hw => exact rfl); (case hs => (intro cs b h; cases h)); (case h1 => (intro w'; go_simp <;> exact rfl)))
      apply wpH_norm
      (case ha => (simp only [Act.put, List.setIfInBounds_toArray, List.set_cons_zero, List.set_cons_succ]; exact rfl))
      (apply wpH_putR (b := bt) (W0 := W0) (j := 5) (fun x u => RV B u bt (((plC R2 l2).set 4 (x.getD 10 undef)).set 5 (x.getD 1 undef)) (upd (upd (plF R2 l2) 2 ⟨33, x.getD 10 undef, R2.c.length + 1, ((R2.c ++ [P.c.getD j 0]).map (Value.float .f32))⟩) 3 ⟨4, x.getD 1 undef, R2.d.length + 1, ((R2.d ++ [P.d.getD j false]).map Value.bool)⟩)) (fun x u u' h hb => RV.later h hb) (x0 := [.pointer (some ⟨bt, 5, none⟩), .slice q4 (R2.d.length + 1) c4, .pointer (some ⟨bt, 4, none⟩), .slice l2.p3 R2.c.length l2.c3, .pointer (some ⟨w.heap.size, 4, none⟩), .slice (some ⟨b3, o3, none⟩) P.c.length z3, .int .i64 (j : Int), .pointer (some ⟨b3, o3 + j, none⟩), .float .f32 (P.c.getD j 0), .slice (some ⟨b7, 0, none⟩) 1 1, .slice q3 (R2.c.length + 1) c3, .pointer (some ⟨bt, 5, none⟩), .slice l2.p4 R2.d.length l2.c4, .pointer (some ⟨w.heap.size, 5, none⟩), .slice (some ⟨b4, o4, none⟩) P.d.length z4, .int .i64 (j : Int), .pointer (some ⟨b4, o4 + j, none⟩), .bool (P.d.getD j false), .slice (some ⟨b16, 0, none⟩) 1 1, .slice q4 (R2.d.length + 1) c4, .pointer (some ⟨bt, 4, none⟩), .pointer (some ⟨bt, 5, none⟩)]); (case hox => (first | exact rfl | kernel_rfl)); (case ho => exact rfl); (case hx => exact rfl); (case hy => exact rfl); (case hty => (intro w'; go_simp <;> exact rfl)); (case hb => exact hbz); (case hw => exact rfl); (case hc => (intro w' hk0; exact ⟨_, (show RV _ _ _ _ _ from hk0.1).1.1 5 _ rfl⟩)); (case hk => (intro w' hk0; exact RV.put (j := 5) (show RV B w' bt ((plC R2 l2).set 4 (.slice q3 (R2.c.length + 1) c3)) _ from hk0.1) (by simp [plC]))))
      apply wpH_norm
      (case ha => (simp only [Act.put, List.setIfInBounds_toArray, List.set_cons_zero, List.set_cons_succ]; exact rfl))
      refine wpH_nil ?_
      intro w210 hi hkk hpp
      rotate_left
      case hFs => repeat' (first | exact trivial | (refine ⟨?_, ?_⟩) | (intro h; exact absurd (show (0 : Nat) = 3 from h.1) (by decide)) | (intro h; exact absurd (show (4 : Nat) = 3 from h.1) (by decide)) | (intro h; exact absurd (show (5 : Nat) = 3 from h.1) (by decide)) | (intro _ u hu; exact hu) | (intro h; exact Bool.noConfusion (h.2.symm.trans (by kernel_rfl : _ = true))))
      all_goals (try (first | kernel_rfl | rfl))
      have HRVN : Hid (RV B w210 bt (((plC R2 l2).set 4 (.slice q3 (R2.c.length + 1) c3)).set 5 (.slice q4 (R2.d.length + 1) c4)) (upd (upd (plF R2 l2) 2 ⟨33, .slice q3 (R2.c.length + 1) c3, R2.c.length + 1, ((R2.c ++ [P.c.getD j 0]).map (Value.float .f32))⟩) 3 ⟨4, .slice q4 (R2.d.length + 1) c4, R2.d.length + 1, ((R2.d ++ [P.d.getD j false]).map Value.bool)⟩)) := hkk.1
      have HB210 : Hid (Below B ws w210) := HBW0.out.trans (G3.below hi hzB (fun k hk => (HG0.out k hk).1) HG1.out hBb)
      clear hi hkk hpp HPW HG0 HG1 HFC HBW0 hbz hzB
      have HP4 : Hid (PV B w210 bt { R2 with c := R2.c ++ [P.c.getD j 0], d := R2.d ++ [P.d.getD j false] } { l2 with p3 := q3, c3 := c3, p4 := q4, c4 := c4 }) := by
        refine PV.rv (f := upd (upd (plF R2 l2) 2 ⟨33, .slice q3 (R2.c.length + 1) c3, R2.c.length + 1, (R2.c ++ [P.c.getD j 0]).map (Value.float .f32)⟩) 3 ⟨4, .slice q4 (R2.d.length + 1) c4, R2.d.length + 1, (R2.d ++ [P.d.getD j false]).map Value.bool⟩) ?_ ?_
        · have h9 := HRVN.out
          simp only [plC, List.length_append, List.length_cons, List.length_nil, Nat.zero_add] at h9 ⊢
          exact h9
        · intro i hi
          match i, hi with
          | 0, _ => rfl
          | 1, _ => rfl
          | 2, _ => simp [upd, plF]
          | 3, _ => simp [upd, plF]
      have HE : Hid (({ R2 with c := R2.c ++ [P.c.getD j 0], d := R2.d ++ [P.d.getD j false] } : Pl) = turnPl P (k + 1)) := by show _ = _; rw [HR2.out, HR.out, HJE.out]; exact turn_step P k
      have HP5 : Hid (PV B w210 bt (turnPl P (k + 1)) { l2 with p3 := q3, c3 := c3, p4 := q4, c4 := c4 }) := by show PV _ _ _ _ _; rw [← HE.out]; exact HP4.out
      clear HRVN HP4 HE
      have hT : Trk w210 [bt] := (Trk.nil w210).more (PV.lt HP5.out)
      go_wp2_with (first | (with_reducible refine at_list ?_; refine wpList_fop rfl rfl rfl rfl rfl ?_; intro r n hr0; have hr := hr0 _ _ (by first | with_reducible assumption | exact rfl) (by first | with_reducible assumption | exact rfl); clear hr0) | (with_reducible refine at_list ?_; refine wpList_neg rfl rfl rfl ?_; intro r hr0; have hr := hr0 _ (by first | with_reducible assumption | exact rfl); clear hr0) | (with_reducible refine at_list ?_; refine wpList_fop_g rfl rfl rfl rfl rfl ?_; intro r n hr0; have hr := hr0 _ _ (by first | with_reducible assumption | exact rfl) (by first | with_reducible assumption | exact rfl); clear hr0) | (with_reducible refine at_list ?_; refine wpList_wide_g rfl rfl Try.underlying33 Try.underlying37 rfl ?_; intro r n hr0; have hr := hr0 _ (by first | with_reducible assumption | exact rfl); clear hr0) | (with_reducible refine at_list ?_; refine wpList_wide rfl rfl rfl Try.underlying33 Try.underlying37 ?_; intro r n hr0; have hr := hr0 _ (by first | with_reducible assumption | exact rfl); clear hr0) | (go_at_call 18; refine (implValidPlate_any _ _ _ (by assumption)).mono ?_; rintro e w' ⟨rfl, hb⟩; obtain ⟨hT, hk⟩ := bv_next hb (by (repeat (with_reducible first | assumption | apply Trk.alloc | apply Trk.setCell | apply Trk.drewN | apply Trk.drew | exact Trk.nil _))); simp only [SameOn, World.size_alloc, World.size_setCell, World.size_drew, size_drewN', and_true] at hk; have hsz := Below.size hb; (try simp only [World.size_alloc, World.size_setCell, World.size_drew, size_drewN'] at hsz)))
      go_roundw
      case rel => exact ⟨k + 1, _, by omega, by go_num, HP5.out, HB210.out⟩
      case measure => simp [intOf]; omega
      all_goals first | kernel_rfl | rfl
    · have hlti : ¬ (k : Int) < (N : Int) := by omega
      have hke : k = N := by omega
      subst hke
      rw [hR] at HPV
      obtain ⟨⟨r0, r1, r2, r3, r4, r5⟩, rf⟩ := HR6.out
      have hwB1 : w.heap.size + 1 < B := hwB
      have r0 := (hB.cell (p := ⟨w.heap.size + 1, 0, none⟩) hwB1).trans r0
      have r1 := (hB.cell (p := ⟨w.heap.size + 1, 1, none⟩) hwB1).trans r1
      have r2 := (hB.cell (p := ⟨w.heap.size + 1, 2, none⟩) hwB1).trans r2
      have r3 := (hB.cell (p := ⟨w.heap.size + 1, 3, none⟩) hwB1).trans r3
      have r4 := (hB.cell (p := ⟨w.heap.size + 1, 4, none⟩) hwB1).trans r4
      have r5 := (hB.cell (p := ⟨w.heap.size + 1, 5, none⟩) hwB1).trans r5
      have rf : ∀ o, wr.frozen? ⟨w.heap.size + 1, o, none⟩ = false := fun o => (hB.frozen (p := ⟨w.heap.size + 1, o, none⟩) hwB1).trans (rf o)
      have g0 := (HPV.out.1.1 0 _ rfl).1
      have f0 := (HPV.out.1.1 0 _ rfl).2
      have g1 := (HPV.out.1.1 1 _ rfl).1
      have f1 := (HPV.out.1.1 1 _ rfl).2
      have g2 := (HPV.out.1.1 2 _ rfl).1
      have f2 := (HPV.out.1.1 2 _ rfl).2
      have g3 := (HPV.out.1.1 3 _ rfl).1
      have f3 := (HPV.out.1.1 3 _ rfl).2
      have g4 := (HPV.out.1.1 4 _ rfl).1
      have f4 := (HPV.out.1.1 4 _ rfl).2
      have g5 := (HPV.out.1.1 5 _ rfl).1
      have f5 := (HPV.out.1.1 5 _ rfl).2
      have hb9z : bt < wr.heap.size := PV.lt HPV.out
      have hT : Trk wr [w.heap.size, w.heap.size + 1, bt] := (((Trk.nil wr).more hb9z).more (by omega)).more (by omega)
      have hBr : Below w.heap.size w wr := HBS.out.trans (HBW.out.mono (by omega))
      have HX : Hid (PX w.heap.size (wr.setCells (w.heap.size + 1) 0 (plC (turnPl P k) lt)).heap.size (wr.setCells (w.heap.size + 1) 0 (plC (turnPl P k) lt)) (turnPl P k) lt) := by
        have hgs := grown_setCells (w.heap.size + 1) (plC (turnPl P k) lt) 0 wr
        obtain ⟨a1, a2, a3, a4, a5, a6⟩ := HPV.out.apart
        obtain ⟨o1, o2, o3, o4⟩ := HPV.out.own
        have ne : ∀ {v : Value} {xs : List Nat}, OF B wr v xs → v.ownBlock = none ∨ v.ownBlock ≠ some (w.heap.size + 1) := fun {v xs} ho => by
          cases hu : v.ownBlock with
          | none => exact .inl rfl
          | some kk => exact .inr fun e => by have h9 := (ho.block kk hu).1; cases e; omega
        have ne4 : (Value.slice lt.p4 (turnPl P k).d.length lt.c4).ownBlock = none ∨ (Value.slice lt.p4 (turnPl P k).d.length lt.c4).ownBlock ≠ some (w.heap.size + 1) := by
          cases hu : (Value.slice lt.p4 (turnPl P k).d.length lt.c4).ownBlock with
          | none => exact .inl rfl
          | some kk => exact .inr fun e => by have h9 := (o4.block kk hu).1; cases e; omega
        exact PX.mk' (Pl.own.base ⟨o1.kept hgs (ne o1), o2.kept hgs (ne o2), o3.kept hgs (ne o3), o4.kept hgs ne4⟩ (by omega)) a1 a2 a3 a4 a5 a6
      clear hB hR
      go_wp2_with (first | (with_reducible refine at_list ?_; refine wpList_fop rfl rfl rfl rfl rfl ?_; intro r n hr0; have hr := hr0 _ _ (by first | with_reducible assumption | exact rfl) (by first | with_reducible assumption | exact rfl); clear hr0) | (with_reducible refine at_list ?_; refine wpList_neg rfl rfl rfl ?_; intro r hr0; have hr := hr0 _ (by first | with_reducible assumption | exact rfl); clear hr0) | (with_reducible refine at_list ?_; refine wpList_fop_g rfl rfl rfl rfl rfl ?_; intro r n hr0; have hr := hr0 _ _ (by first | with_reducible assumption | exact rfl) (by first | with_reducible assumption | exact rfl); clear hr0) | (with_reducible refine at_list ?_; refine wpList_wide_g rfl rfl Try.underlying33 Try.underlying37 rfl ?_; intro r n hr0; have hr := hr0 _ (by first | with_reducible assumption | exact rfl); clear hr0) | (with_reducible refine at_list ?_; refine wpList_wide rfl rfl rfl Try.underlying33 Try.underlying37 ?_; intro r n hr0; have hr := hr0 _ (by first | with_reducible assumption | exact rfl); clear hr0) | (go_at_call 18; refine (implValidPlate_any _ _ _ (by assumption)).mono ?_; rintro e w' ⟨rfl, hb⟩; obtain ⟨hT, hk⟩ := bv_next hb (by (repeat (with_reducible first | assumption | apply Trk.alloc | apply Trk.setCell | apply Trk.drewN | apply Trk.drew | exact Trk.nil _))); simp only [SameOn, World.size_alloc, World.size_setCell, World.size_drew, size_drewN', and_true] at hk; have hsz := Below.size hb; (try simp only [World.size_alloc, World.size_setCell, World.size_drew, size_drewN'] at hsz)))
      refine bodyPost_ret (v := .tuple #[.agg #[.int .i64 (turnPl P k).W, .int .i64 (turnPl P k).H, .slice lt.p1 (turnPl P k).a.length lt.c1, .slice lt.p2 (turnPl P k).b.length lt.c2, .slice lt.p3 (turnPl P k).c.length lt.c3, .slice lt.p4 (turnPl P k).d.length lt.c4], .bool true]) (by simp [results, Try.results37, go_sem, *]) rfl ?_
      exact ⟨lt, rfl, by (repeat (first | (with_reducible exact Below.refl _ _) | (with_reducible assumption) | (with_reducible refine below_then ?_ (by assumption)) | (with_reducible refine Below.trans ?_ (by assumption)) | (with_reducible refine below_drewN ?_ _) | (with_reducible apply Below.drew) | (with_reducible refine below_alloc ?_ _) | refine Below.setCell ?_ (by first | (simp; done) | (simp; omega)) _)), HX.out⟩
end Go.Proofs.Ythdmamcbceblpaa

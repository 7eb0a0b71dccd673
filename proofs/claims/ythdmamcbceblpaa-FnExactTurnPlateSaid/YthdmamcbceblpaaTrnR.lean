/-
  A turned plate: the reference's way. No condition but what each contract says.
-/
import Derived.Test.YthdmamcbceblpaaPlnR
import Derived.Test.YthdmamcbceblpaaPlSum
set_option linter.unusedSimpArgs false
set_option linter.unusedVariables false
set_option linter.unusedSectionVars false
namespace Go.Proofs.Ythdmamcbceblpaa
open Go Go.RowKit
open Go.ChangeShapes Go.WideShapes Go.ChangeAt Go.RowKit Go.Joins
def turnJ (W H k : Nat) : Nat := (H - 1 - k % H) * W + k / H
theorem turnJ_lt {W H k : Nat} (hW : 1 ≤ W) (hH : 1 ≤ H) (hk : k < W * H) : turnJ W H k < W * H := by
  unfold turnJ
  have h1 : k / H < W := Nat.div_lt_of_lt_mul (by rw [Nat.mul_comm]; exact hk)
  have h2 : (H - 1 - k % H) * W ≤ (H - 1) * W := Nat.mul_le_mul_right _ (by omega)
  have h3 : (H - 1) * W + W = W * H := by
    obtain ⟨h, rfl⟩ : ∃ h, H = h + 1 := ⟨H - 1, by omega⟩
    rw [Nat.add_sub_cancel, Nat.mul_succ, Nat.mul_comm]
  omega
def turnPl (P : Pl) (k : Nat) : Pl := ⟨P.H, P.W, (List.range k).map fun i => P.a.getD (turnJ P.W.toNat P.H.toNat i) 0, (List.range k).map fun i => P.b.getD (turnJ P.W.toNat P.H.toNat i) 0, (List.range k).map fun i => P.c.getD (turnJ P.W.toNat P.H.toNat i) 0, (List.range k).map fun i => P.d.getD (turnJ P.W.toNat P.H.toNat i) false⟩
theorem turn_step (P : Pl) (k : Nat) : (⟨(turnPl P k).W, (turnPl P k).H, (turnPl P k).a ++ [P.a.getD (turnJ P.W.toNat P.H.toNat k) 0], (turnPl P k).b ++ [P.b.getD (turnJ P.W.toNat P.H.toNat k) 0], (turnPl P k).c ++ [P.c.getD (turnJ P.W.toNat P.H.toNat k) 0], (turnPl P k).d ++ [P.d.getD (turnJ P.W.toNat P.H.toNat k) false]⟩ : Pl) = turnPl P (k + 1) := by
  simp [turnPl, List.range_succ]
theorem turn_len (P : Pl) (k : Nat) : (turnPl P k).a.length = k ∧ (turnPl P k).b.length = k ∧ (turnPl P k).c.length = k ∧ (turnPl P k).d.length = k := by simp [turnPl]
/-- What the walk asks of the numbers. -/
theorem turn_nums {W H : Int} {N k : Nat} (hW : 1 ≤ W ∧ W ≤ 12) (hH : 1 ≤ H ∧ H ≤ 12) (hN : W * H = (N : Int)) (hk : k < N) : ∃ (x y m1 : Int) (j : Nat), (k : Int).tmod H = x ∧ (k : Int).tdiv H = y ∧ (0 ≤ x ∧ x ≤ H - 1) ∧ (0 ≤ y ∧ y ≤ 144) ∧ (H - 1 - x) * W = m1 ∧ (0 ≤ m1 ∧ m1 ≤ 144) ∧ m1 + y = (j : Int) ∧ j < N ∧ j = turnJ W.toNat H.toNat k := by
  obtain ⟨w, rfl⟩ : ∃ w : Nat, W = (w : Int) := ⟨W.toNat, by omega⟩
  obtain ⟨h, rfl⟩ : ∃ h : Nat, H = (h : Int) := ⟨H.toNat, by omega⟩
  have hN2 : w * h = N := by exact_mod_cast hN
  have hlt := turnJ_lt (W := w) (H := h) (k := k) (by omega) (by omega) (by rw [hN2]; exact hk)
  have hmod : k % h < h := Nat.mod_lt _ (by omega)
  have hdiv : k / h ≤ k := Nat.div_le_self _ _
  have hN3 : N ≤ 144 := by rw [← hN2]; exact Nat.mul_le_mul (show w ≤ 12 by omega) (show h ≤ 12 by omega)
  have e1 : (k : Int).tmod (h : Int) = ((k % h : Nat) : Int) := by rw [Int.tmod_eq_emod_of_nonneg (by omega)]; rfl
  have e2 : (k : Int).tdiv (h : Int) = ((k / h : Nat) : Int) := by rw [Int.tdiv_eq_ediv_of_nonneg (by omega)]; rfl
  rw [e1, e2, Int.toNat_natCast, Int.toNat_natCast]
  have hJ : turnJ w h k = (h - 1 - k % h) * w + k / h := rfl
  rw [hN2] at hlt
  clear e1 e2 hN
  generalize turnJ w h k = j at *
  generalize k % h = x at *
  generalize k / h = y at *
  have e3 : ((h : Int) - 1 - (x : Int)) = ((h - 1 - x : Nat) : Int) := by omega
  have e4 : ((h : Int) - 1 - (x : Int)) * (w : Int) = (((h - 1 - x) * w : Nat) : Int) := by rw [e3]; exact (Int.natCast_mul _ _).symm
  refine ⟨(x : Int), (y : Int), (((h - 1 - x) * w : Nat) : Int), j, rfl, rfl, by omega, by omega, e4, ?_, ?_, hlt, rfl⟩
  · generalize (h - 1 - x) * w = m at *
    omega
  · generalize (h - 1 - x) * w = m at *
    omega
set_option maxHeartbeats 8000000 in
set_option maxRecDepth 100000 in
theorem specTurn_any (P : Pl) (l : Lay) (w : World) (hs : P.fs w l) : Calls Try.prog 36 #[.agg #[.int .i64 P.W, .int .i64 P.H, .slice l.p1 P.a.length l.c1, .slice l.p2 P.b.length l.c2, .slice l.p3 P.c.length l.c3, .slice l.p4 P.d.length l.c4]] w (BPB w (okP P.ok (turnPl P (P.W * P.H).toNat)) P.ok) := by
  have HS := Lib.hid hs
  clear hs
  have HV := Lib.hid (fun b o w h1 h2 => l04Is_any P l b o w h1 h2)
  rcases h0 : P.ok
  · rw [h0] at HV
    clear h0
    go_enter Try.func36, Try.ntmps36
    go_wp2_with (first | (with_reducible refine at_list ?_; refine wpList_fop rfl rfl rfl rfl rfl ?_; intro r n hr0; have hr := hr0 _ _ (by first | with_reducible assumption | exact rfl) (by first | with_reducible assumption | exact rfl); clear hr0) | (with_reducible refine at_list ?_; refine wpList_neg rfl rfl rfl ?_; intro r hr0; have hr := hr0 _ (by first | with_reducible assumption | exact rfl); clear hr0) | (with_reducible refine at_list ?_; refine wpList_fop_g rfl rfl rfl rfl rfl ?_; intro r n hr0; have hr := hr0 _ _ (by first | with_reducible assumption | exact rfl) (by first | with_reducible assumption | exact rfl); clear hr0) | (with_reducible refine at_list ?_; refine wpList_wide_g rfl rfl Try.underlying33 Try.underlying37 rfl ?_; intro r n hr0; have hr := hr0 _ (by first | with_reducible assumption | exact rfl); clear hr0) | (with_reducible refine at_list ?_; refine wpList_wide rfl rfl rfl Try.underlying33 Try.underlying37 ?_; intro r n hr0; have hr := hr0 _ (by first | with_reducible assumption | exact rfl); clear hr0) | (go_at_call 51; refine ((HV.out _ _ _ (by unfold PlAt; refine ⟨?_, ?_, ?_, ?_, ?_, ?_⟩ <;> go_simp) (HS.out.later (by (repeat (first | (with_reducible exact Below.refl _ _) | (with_reducible assumption) | (with_reducible refine below_then ?_ (by assumption)) | (with_reducible refine Below.trans ?_ (by assumption)) | (with_reducible refine below_drewN ?_ _) | (with_reducible apply Below.drew) | (with_reducible refine below_alloc ?_ _) | refine Below.setCell ?_ (by first | (simp; done) | (simp; omega)) _))))) ).mono ?_; rintro e w' ⟨rfl, n, rfl⟩))
    all_goals
      refine bodyPost_ret (v := .tuple #[.agg #[.int .i64 0, .int .i64 0, .slice none 0 0, .slice none 0 0, .slice none 0 0, .slice none 0 0], .bool false]) (by simp [results, Try.results36, go_sem, *]) rfl ?_
      exact bpb_no rfl (by (repeat (first | (with_reducible exact Below.refl _ _) | (with_reducible assumption) | (with_reducible refine below_then ?_ (by assumption)) | (with_reducible refine Below.trans ?_ (by assumption)) | (with_reducible refine below_drewN ?_ _) | (with_reducible apply Below.drew) | (with_reducible refine below_alloc ?_ _) | refine Below.setCell ?_ (by first | (simp; done) | (simp; omega)) _))) rfl
  rw [h0] at HV
  obtain ⟨hW, hH, hla, hlb, hlc, hld⟩ := Pl.ok_len h0
  obtain ⟨b1, o1, z1, b2, o2, z2, b3, o3, z3, b4, o4, z4, rfl, ⟨⟨hz1, hz1'⟩, ⟨hz2, hz2'⟩, ⟨hz3, hz3'⟩, hz4, hz4'⟩, HA, HB, HC, HD⟩ := Pl.view HS.out h0
  have HLB : Hid (P.b.length = P.a.length) := by show _ = _; omega
  have HLC : Hid (P.c.length = P.a.length) := by show _ = _; omega
  have HLD : Hid (P.d.length = P.a.length) := by show _ = _; omega
  have HLA : Hid ((P.a.length : Int) = P.W * P.H) := hla
  (try dsimp only)
  clear hla hlb hlc hld
  obtain ⟨N, hN⟩ : ∃ N : Nat, N = (P.W * P.H).toNat := ⟨_, rfl⟩
  rw [okP_yes rfl, ← hN]
  have hla := HLA.out
  have hWH : P.W * P.H = (N : Int) := by omega
  have hn : 1 ≤ N ∧ N ≤ 144 := by
    have h1 := Int.mul_le_mul hW.1 hH.1 (by omega) (by omega)
    have h2 := Int.mul_le_mul hW.2 hH.2 (by omega) (by omega)
    omega
  have HN := Lib.hid hn
  have HJ : Hid (∀ k, k < N → ∃ (x y m1 : Int) (j : Nat), (k : Int).tmod P.H = x ∧ (k : Int).tdiv P.H = y ∧ (0 ≤ x ∧ x ≤ P.H - 1) ∧ (0 ≤ y ∧ y ≤ 144) ∧ (P.H - 1 - x) * P.W = m1 ∧ (0 ≤ m1 ∧ m1 ≤ 144) ∧ m1 + y = (j : Int) ∧ j < N ∧ j = turnJ P.W.toNat P.H.toNat k) := fun k hk => turn_nums hW hH hWH hk
  have HLN : Hid (P.a.length = N ∧ P.b.length = N ∧ P.c.length = N ∧ P.d.length = N) := by
    have e1 := HLB.out; have e2 := HLC.out; have e3 := HLD.out
    show _ ∧ _ ∧ _ ∧ _
    omega
  clear h0 hN hla hn
  go_enter Try.func36, Try.ntmps36
  go_wp2_with (first | (with_reducible refine at_list ?_; refine wpList_fop rfl rfl rfl rfl rfl ?_; intro r n hr0; have hr := hr0 _ _ (by first | with_reducible assumption | exact rfl) (by first | with_reducible assumption | exact rfl); clear hr0) | (with_reducible refine at_list ?_; refine wpList_neg rfl rfl rfl ?_; intro r hr0; have hr := hr0 _ (by first | with_reducible assumption | exact rfl); clear hr0) | (with_reducible refine at_list ?_; refine wpList_fop_g rfl rfl rfl rfl rfl ?_; intro r n hr0; have hr := hr0 _ _ (by first | with_reducible assumption | exact rfl) (by first | with_reducible assumption | exact rfl); clear hr0) | (with_reducible refine at_list ?_; refine wpList_wide_g rfl rfl Try.underlying33 Try.underlying37 rfl ?_; intro r n hr0; have hr := hr0 _ (by first | with_reducible assumption | exact rfl); clear hr0) | (with_reducible refine at_list ?_; refine wpList_wide rfl rfl rfl Try.underlying33 Try.underlying37 ?_; intro r n hr0; have hr := hr0 _ (by first | with_reducible assumption | exact rfl); clear hr0) | (go_at_call 51; refine ((HV.out _ _ _ (by unfold PlAt; refine ⟨?_, ?_, ?_, ?_, ?_, ?_⟩ <;> go_simp) (HS.out.later (by (repeat (first | (with_reducible exact Below.refl _ _) | (with_reducible assumption) | (with_reducible refine below_then ?_ (by assumption)) | (with_reducible refine Below.trans ?_ (by assumption)) | (with_reducible refine below_drewN ?_ _) | (with_reducible apply Below.drew) | (with_reducible refine below_alloc ?_ _) | refine Below.setCell ?_ (by first | (simp; done) | (simp; omega)) _))))) ).mono ?_; rintro e w' ⟨rfl, n, rfl⟩))
  refine wp_named ?_
  intro ws hws
  obtain ⟨bt, B, ⟨hbt, hwB, hBb⟩, HTV, HR6, HBS, HAT⟩ : ∃ bt B, (bt = w.heap.size + 2 ∧ w.heap.size + 1 < B ∧ B ≤ bt) ∧ Hid (PV B ws bt (turnPl P 0) nilLay) ∧ Hid ((ws.cell? ⟨w.heap.size + 1, 0, none⟩ = some (.int .i64 0) ∧ ws.cell? ⟨w.heap.size + 1, 1, none⟩ = some (.int .i64 0) ∧ ws.cell? ⟨w.heap.size + 1, 2, none⟩ = some (.slice none 0 0) ∧ ws.cell? ⟨w.heap.size + 1, 3, none⟩ = some (.slice none 0 0) ∧ ws.cell? ⟨w.heap.size + 1, 4, none⟩ = some (.slice none 0 0) ∧ ws.cell? ⟨w.heap.size + 1, 5, none⟩ = some (.slice none 0 0)) ∧ ∀ o, ws.frozen? ⟨w.heap.size + 1, o, none⟩ = false) ∧ Hid (Below w.heap.size w ws) ∧ Hid (PlAt P ⟨some ⟨b1, o1, none⟩, z1, some ⟨b2, o2, none⟩, z2, some ⟨b3, o3, none⟩, z3, some ⟨b4, o4, none⟩, z4⟩ ws w.heap.size 0) := by
    refine ⟨w.heap.size + 2, w.heap.size + 2, ⟨rfl, by omega, Nat.le_refl _⟩, PV.new ?_ (Nat.le_refl _), ?_, ?_, ?_⟩
    · rw [hws]
      intro j x hj
      unfold plC at hj
      match j, hj with
      | 0, hj => simp [turnPl] at hj; subst hj; exact ⟨by go_simp, by go_simp⟩
      | 1, hj => simp [turnPl] at hj; subst hj; exact ⟨by go_simp, by go_simp⟩
      | 2, hj => simp [nilLay] at hj; subst hj; exact ⟨by go_simp, by go_simp⟩
      | 3, hj => simp [nilLay] at hj; subst hj; exact ⟨by go_simp, by go_simp⟩
      | 4, hj => simp [nilLay] at hj; subst hj; exact ⟨by go_simp, by go_simp⟩
      | 5, hj => simp [nilLay] at hj; subst hj; exact ⟨by go_simp, by go_simp⟩
      | j + 6, hj => simp at hj
    · rw [hws]; exact ⟨⟨by go_simp, by go_simp, by go_simp, by go_simp, by go_simp, by go_simp⟩, fun o => by go_simp⟩
    · rw [hws]; show Below _ _ _; (repeat (first | (with_reducible exact Below.refl _ _) | (with_reducible assumption) | (with_reducible refine below_then ?_ (by assumption)) | (with_reducible refine Below.trans ?_ (by assumption)) | (with_reducible refine below_drewN ?_ _) | (with_reducible apply Below.drew) | (with_reducible refine below_alloc ?_ _) | refine Below.setCell ?_ (by first | (simp; done) | (simp; omega)) _))
    · rw [hws]; exact (by unfold PlAt; refine ⟨?_, ?_, ?_, ?_, ?_, ?_⟩ <;> go_simp)
  rw [show w.heap.size + 1 + 1 = bt from hbt.symm]
  clear hws hbt
  try clear hb hk hT hsz
  have HZB : Hid (B ≤ ws.heap.size) := by have h1 := PV.lt HTV.out; show _ ≤ _; omega
  go_loopw [5] (fun q5 wr => ∃ (k : Nat) (lt : Lay), k ≤ N ∧ q5 = .int .i64 (k : Int) ∧ Hid (PV B wr bt (turnPl P k) lt) ∧ Below B ws wr) (fun q5 _ => N - (intOf q5).toNat)
  case atStart => exact ⟨0, nilLay, Nat.zero_le _, rfl, HTV.out, Below.refl _ _⟩
  case round =>
    obtain ⟨k, lt, hkN, rfl, HPV, hB⟩ := hrel
    have hzr := hB.size
    obtain ⟨R, hR⟩ : ∃ R, R = turnPl P k := ⟨_, rfl⟩
    have HR := Lib.hid hR
    rw [← hR] at HPV
    have HBW := Lib.hid hB
    have hwz : w.heap.size < ws.heap.size := by have := HZB.out; omega
    have HAT0 : Hid (∀ u, Below B ws u → PlAt P ⟨some ⟨b1, o1, none⟩, z1, some ⟨b2, o2, none⟩, z2, some ⟨b3, o3, none⟩, z3, some ⟨b4, o4, none⟩, z4⟩ u w.heap.size 0) := fun u h => ⟨(h.cell (p := ⟨w.heap.size, 0, none⟩) (by show w.heap.size < B; omega)).trans HAT.out.1, (h.cell (p := ⟨w.heap.size, 0 + 1, none⟩) (by show w.heap.size < B; omega)).trans HAT.out.2.1, (h.cell (p := ⟨w.heap.size, 0 + 2, none⟩) (by show w.heap.size < B; omega)).trans HAT.out.2.2.1, (h.cell (p := ⟨w.heap.size, 0 + 3, none⟩) (by show w.heap.size < B; omega)).trans HAT.out.2.2.2.1, (h.cell (p := ⟨w.heap.size, 0 + 4, none⟩) (by show w.heap.size < B; omega)).trans HAT.out.2.2.2.2.1, (h.cell (p := ⟨w.heap.size, 0 + 5, none⟩) (by show w.heap.size < B; omega)).trans HAT.out.2.2.2.2.2⟩
    have HBWW : Hid (∀ u, Below B ws u → Below w.heap.size w u) := fun u h => HBS.out.trans (h.mono (by omega))
    have HZR : Hid (∀ u, Below B ws u → B ≤ u.heap.size) := fun u h => Nat.le_trans HZB.out h.size
    have hwrB : B ≤ wr.heap.size := HZR.out wr hB
    obtain ⟨p0, p1, p2, p3, p4, p5⟩ := HAT0.out wr hB
    simp only [Nat.zero_add] at p0 p1 p2 p3 p4 p5
    have hNp : 0 < N := HN.out.1
    have hN9 : N ≤ 144 := HN.out.2
    by_cases hlt : k < N
    · have hlti : (k : Int) < (N : Int) := by omega
      have hH0 : P.H ≠ 0 := by omega
      obtain ⟨x, y, m1, j, e1, e2, hx, hy, e3, hm1, e4, hj, hjE⟩ := HJ.out k hlt
      have HJE := Lib.hid hjE
      have hlen : Hid (R.a.length = k ∧ R.b.length = k ∧ R.c.length = k ∧ R.d.length = k) := by show _ ∧ _; rw [hR]; exact turn_len P k
      have HKN : Hid (k ≤ 144) := by show _ ≤ _; omega
      have hja : (j : Int) < (P.a.length : Int) := by have := HLN.out.1; omega
      have hjb : (j : Int) < (P.b.length : Int) := by have := HLN.out.2.1; omega
      have hjc : (j : Int) < (P.c.length : Int) := by have := HLN.out.2.2.1; omega
      have hjd : (j : Int) < (P.d.length : Int) := by have := HLN.out.2.2.2; omega
      have hj0 : 0 ≤ (j : Int) := by omega
      have XA : Hid (∀ u, Below B ws u → u.cell? ⟨b1, o1 + j, none⟩ = some (.float .f32 (P.a.getD j 0))) := fun u h => cell_later (HBWW.out u h) (HA.out j (by omega))
      have XB : Hid (∀ u, Below B ws u → u.cell? ⟨b2, o2 + j, none⟩ = some (.float .f32 (P.b.getD j 0))) := fun u h => cell_later (HBWW.out u h) (HB.out j (by omega))
      have XC : Hid (∀ u, Below B ws u → u.cell? ⟨b3, o3 + j, none⟩ = some (.float .f32 (P.c.getD j 0))) := fun u h => cell_later (HBWW.out u h) (HC.out j (by omega))
      have XD : Hid (∀ u, Below B ws u → u.cell? ⟨b4, o4 + j, none⟩ = some (.bool (P.d.getD j false))) := fun u h => cell_later (HBWW.out u h) (HD.out j (by omega))
      have hpg : P.H - 1 - x ≤ 11 ∧ 0 ≤ P.H - 1 - x := by omega
      have hb9z : bt < wr.heap.size := PV.lt HPV.out
      have hT : Trk wr [w.heap.size, bt] := ((Trk.nil wr).more hb9z).more (by omega)
      clear hR hB hjE
      go_wp2_with (first | (with_reducible refine at_list ?_; refine wpList_fop rfl rfl rfl rfl rfl ?_; intro r n hr0; have hr := hr0 _ _ (by first | with_reducible assumption | exact rfl) (by first | with_reducible assumption | exact rfl); clear hr0) | (with_reducible refine at_list ?_; refine wpList_neg rfl rfl rfl ?_; intro r hr0; have hr := hr0 _ (by first | with_reducible assumption | exact rfl); clear hr0) | (with_reducible refine at_list ?_; refine wpList_fop_g rfl rfl rfl rfl rfl ?_; intro r n hr0; have hr := hr0 _ _ (by first | with_reducible assumption | exact rfl) (by first | with_reducible assumption | exact rfl); clear hr0) | (with_reducible refine at_list ?_; refine wpList_wide_g rfl rfl Try.underlying33 Try.underlying37 rfl ?_; intro r n hr0; have hr := hr0 _ (by first | with_reducible assumption | exact rfl); clear hr0) | (with_reducible refine at_list ?_; refine wpList_wide rfl rfl rfl Try.underlying33 Try.underlying37 ?_; intro r n hr0; have hr := hr0 _ (by first | with_reducible assumption | exact rfl); clear hr0) | (go_at_call 51; refine (l04Is_any _ _ _ _ _ (by assumption) (by assumption)).mono ?_; rintro e w' ⟨rfl, n, rfl⟩))
      (refine wp_some_lit (by kernel_rfl) (by kernel_rfl) ?_; (refine wpSome_one ?_; go_big_quiet_step (fail); refine wpQuiet_nil ?_); (refine wpSome_one ?_; go_big_quiet_step (fail); refine wpQuiet_nil ?_); (refine wpSome_one ?_; go_big_quiet_step (fail); refine wpQuiet_nil ?_); (refine wpSome_one ?_; go_big_quiet_step (fail); refine wpQuiet_nil ?_); (refine wpSome_one ?_; go_big_quiet_step (fail); refine wpQuiet_nil ?_); (refine wpSome_one ?_; go_big_quiet_step (fail); refine wpQuiet_nil ?_); (refine wpSome_one ?_; go_big_quiet_step (fail); refine wpQuiet_nil ?_); (refine wpSome_one ?_; go_big_quiet_step (fail); refine wpQuiet_nil ?_); (refine wpSome_one ?_; go_big_quiet_step (fail); refine wpQuiet_nil ?_); (refine wpSome_one ?_; go_big_quiet_step (fail); refine wpQuiet_nil ?_); (refine wpSome_one ?_; go_big_quiet_step (fail); refine wpQuiet_nil ?_); (refine wpSome_one ?_; go_big_quiet_step (fail); refine wpQuiet_nil ?_); (refine wpSome_one ?_; go_big_quiet_step (fail); refine wpQuiet_nil ?_); (refine wpSome_one ?_; go_big_quiet_step (fail); refine wpQuiet_nil ?_); (refine wpSome_one ?_; go_big_quiet_step (fail); refine wpQuiet_nil ?_); (refine wpSome_one ?_; go_big_quiet_step (fail); refine wpQuiet_nil ?_); (refine wpSome_one ?_; go_big_quiet_step (fail); refine wpQuiet_nil ?_); refine wpSome_nil ?_; intro w' hw'; obtain ⟨nq, rfl⟩ := hw')
      go_wp2_with (first | (with_reducible refine at_list ?_; refine wpList_fop rfl rfl rfl rfl rfl ?_; intro r n hr0; have hr := hr0 _ _ (by first | with_reducible assumption | exact rfl) (by first | with_reducible assumption | exact rfl); clear hr0) | (with_reducible refine at_list ?_; refine wpList_neg rfl rfl rfl ?_; intro r hr0; have hr := hr0 _ (by first | with_reducible assumption | exact rfl); clear hr0) | (with_reducible refine at_list ?_; refine wpList_fop_g rfl rfl rfl rfl rfl ?_; intro r n hr0; have hr := hr0 _ _ (by first | with_reducible assumption | exact rfl) (by first | with_reducible assumption | exact rfl); clear hr0) | (with_reducible refine at_list ?_; refine wpList_wide_g rfl rfl Try.underlying33 Try.underlying37 rfl ?_; intro r n hr0; have hr := hr0 _ (by first | with_reducible assumption | exact rfl); clear hr0) | (with_reducible refine at_list ?_; refine wpList_wide rfl rfl rfl Try.underlying33 Try.underlying37 ?_; intro r n hr0; have hr := hr0 _ (by first | with_reducible assumption | exact rfl); clear hr0) | (go_at_call 51; refine (l04Is_any _ _ _ _ _ (by assumption) (by assumption)).mono ?_; rintro e w' ⟨rfl, n, rfl⟩))
      have g0 := (HPV.out.1.1 0 _ rfl).1
      have f0 := (HPV.out.1.1 0 _ rfl).2
      have g1 := (HPV.out.1.1 1 _ rfl).1
      have f1 := (HPV.out.1.1 1 _ rfl).2
      have g2 := (HPV.out.1.1 2 _ rfl).1
      have f2 := (HPV.out.1.1 2 _ rfl).2
      have g3 := (HPV.out.1.1 3 _ rfl).1
      have f3 := (HPV.out.1.1 3 _ rfl).2
      have g4 := (HPV.out.1.1 4 _ rfl).1
      have f4 := (HPV.out.1.1 4 _ rfl).2
      have g5 := (HPV.out.1.1 5 _ rfl).1
      have f5 := (HPV.out.1.1 5 _ rfl).2
      refine wp_named ?_
      intro w01 hw0
      have HP1 := Lib.hid (show PV B w01 bt _ _ from by rw [hw0]; first | exact HPV.out | exact PV.later HPV.out (below_drewN (Below.refl _ _) _))
      have HB1 : Hid (Below B ws w01) := by show Below _ _ _; rw [hw0]; first | exact HBW.out | exact below_drewN HBW.out _
      clear hw0 hT g0 f0 g1 f1 g2 f2 g3 f3 g4 f4 g5 f5 p0 p1 p2 p3 p4 p5
      have g0 := (HP1.out.1.1 0 _ rfl).1
      have f0 := (HP1.out.1.1 0 _ rfl).2
      have g1 := (HP1.out.1.1 1 _ rfl).1
      have f1 := (HP1.out.1.1 1 _ rfl).2
      have g2 := (HP1.out.1.1 2 _ rfl).1
      have f2 := (HP1.out.1.1 2 _ rfl).2
      have g3 := (HP1.out.1.1 3 _ rfl).1
      have f3 := (HP1.out.1.1 3 _ rfl).2
      have g4 := (HP1.out.1.1 4 _ rfl).1
      have f4 := (HP1.out.1.1 4 _ rfl).2
      have g5 := (HP1.out.1.1 5 _ rfl).1
      have f5 := (HP1.out.1.1 5 _ rfl).2
      obtain ⟨p0, p1, p2, p3, p4, p5⟩ := HAT0.out w01 HB1.out
      simp only [Nat.zero_add] at p0 p1 p2 p3 p4 p5
      have hx9 := XA.out w01 HB1.out
      have hbz : bt < w01.heap.size := PV.lt HP1.out
      have hzB : B ≤ w01.heap.size := HZR.out _ HB1.out
      have hbs : b1 < w01.heap.size := World.block_lt_of_cell? _ _ hx9
      have hT : Trk w01 [w.heap.size, bt, b1] := (((Trk.nil w01).more hbs).more hbz).more (by omega)
      (apply wp_region_plan; ((apply wpC_det; (case hw => exact rfl); (case hs => (intro cs b h; cases h)); (case h1 => (intro w'; go_simp <;> exact rfl))); apply wpC_norm; (case ha => (simp only [Act.put, List.setIfInBounds_toArray, List.set_cons_zero, List.set_cons_succ]; exact rfl))); ((apply wpC_val; (case hw => exact rfl); (case h1 => (intro w' hb hk0; obtain ⟨hT, hk⟩ := bv_next hb (by (repeat (with_reducible first | assumption | apply Trk.alloc | apply Trk.setCell | apply Trk.drewN | apply Trk.drew | exact Trk.nil _))); simp only [SameOn, World.size_alloc, World.size_setCell, World.size_drew, size_drewN', and_true] at hk; have hsz := Below.size hb; (try simp only [World.size_alloc, World.size_setCell, World.size_drew, size_drewN'] at hsz); go_simp <;> exact rfl))); apply wpC_norm; (case ha => (simp only [Act.put, List.setIfInBounds_toArray, List.set_cons_zero, List.set_cons_succ]; exact rfl))); ((apply wpC_det; (case hw => exact rfl); (case hs => (intro cs b h; cases h)); (case h1 => (intro w'; go_simp <;> exact rfl))); apply wpC_norm; (case ha => (simp only [Act.put, List.setIfInBounds_toArray, List.set_cons_zero, List.set_cons_succ]; exact rfl))); ((apply wpC_val; (case hw => exact rfl); (case h1 => (intro w' hb hk0; obtain ⟨hT, hk⟩ := bv_next hb (by (repeat (with_reducible first | assumption | apply Trk.alloc | apply Trk.setCell | apply Trk.drewN | apply Trk.drew | exact Trk.nil _))); simp only [SameOn, World.size_alloc, World.size_setCell, World.size_drew, size_drewN', and_true] at hk; have hsz := Below.size hb; (try simp only [World.size_alloc, World.size_setCell, World.size_drew, size_drewN'] at hsz); go_simp <;> exact rfl))); apply wpC_norm; (case ha => (simp only [Act.put, List.setIfInBounds_toArray, List.set_cons_zero, List.set_cons_succ]; exact rfl))); ((apply wpC_det; (case hw => exact rfl); (case hs => (intro cs b h; cases h)); (case h1 => (intro w'; go_simp <;> exact rfl))); apply wpC_norm; (case ha => (simp only [Act.put, List.setIfInBounds_toArray, List.set_cons_zero, List.set_cons_succ]; exact rfl))); ((apply wpC_det; (case hw => exact rfl); (case hs => (intro cs b h; cases h)); (case h1 => (intro w'; go_simp <;> exact rfl))); apply wpC_norm; (case ha => (simp only [Act.put, List.setIfInBounds_toArray, List.set_cons_zero, List.set_cons_succ]; exact rfl))); ((apply wpC_val; (case hw => exact rfl); (case h1 => (intro w' hb hk0; obtain ⟨hT, hk⟩ := bv_next hb (by (repeat (with_reducible first | assumption | apply Trk.alloc | apply Trk.setCell | apply Trk.drewN | apply Trk.drew | exact Trk.nil _))); simp only [SameOn, World.size_alloc, World.size_setCell, World.size_drew, size_drewN', and_true] at hk; have hsz := Below.size hb; (try simp only [World.size_alloc, World.size_setCell, World.size_drew, size_drewN'] at hsz); go_simp <;> exact rfl))); apply wpC_norm; (case ha => (simp only [Act.put, List.setIfInBounds_toArray, List.set_cons_zero, List.set_cons_succ]; exact rfl))); ((apply wpC_lit1; (case hx => (first | exact rfl | (simp [Op.operands]; exact rfl))); (case hw => exact rfl); (case h1 => (intro w'; go_simp <;> exact rfl)); intro bv); apply wpC_norm; (case ha => (simp only [Act.put, List.setIfInBounds_toArray, List.set_cons_zero, List.set_cons_succ]; exact rfl))); refine wpC_tail (by kernel_rfl) (by first | rfl | kernel_rfl) ?_; intro w' hb hkk; obtain ⟨hT, hk⟩ := bv_next hb (by (repeat (with_reducible first | assumption | apply Trk.alloc | apply Trk.setCell | apply Trk.drewN | apply Trk.drew | exact Trk.nil _))); simp only [SameOn, World.size_alloc, World.size_setCell, World.size_drew, size_drewN', and_true] at hk; have hsz := Below.size hb; (try simp only [World.size_alloc, World.size_setCell, World.size_drew, size_drewN'] at hsz))
      rename World => w11
      have hal := hb
      have HVa := Lib.hid (PV.later HP1.out hal)
      have HBa : Hid (Below B ws w11) := HB1.out.trans (hal.mono hzB)
      have HZa : Hid (B ≤ w11.heap.size) := HZR.out _ HBa.out
      apply wpList_appQ (B := B) (xs := R.a) (v := .slice (lt.p1) R.a.length (lt.c1)) (r := P.a.getD j 0)
      case hg => rfl
      case ho => rfl
      case hs => rfl
      case hx => rfl
      case hO => exact (PV.own HVa.out).1
      case hc => exact (hkk.1.2 0 _ rfl).1
      case hn => have h8 := hlen.out; have h9 := HKN.out; omega
      case hB => exact HZa.out
      intro q1 c1 w21 hO hB2 hg hv
      have HV1 := Lib.hid (PV.app1 HVa.out hg hO hv)
      have HCL := Lib.hid (PV.cells HVa.out (i := 0) (by omega) hg)
      have HBW1 : Hid (Below B ws (w21.setCell ⟨bt, 2, none⟩ (.slice q1 (R.a.length + 1) c1))) := below_put (HBa.out.trans hB2) (Nat.le_trans HZa.out hB2.size) hBb
      have hb9z : bt < w21.heap.size := Nat.lt_of_lt_of_le (PV.lt HVa.out) hB2.size
      clear hO hB2 hg hv HVa HBa HZa hkk hb hal hT hx9 p0 p1 p2 p3 p4 p5 g0 f0 g1 f1 g2 f2 g3 f3 g4 f4 g5 f5
      try clear hk hsz
      have g0 := (HCL.out 0 _ rfl).1
      have f0 := (HCL.out 0 _ rfl).2
      have g1 := (HCL.out 1 _ rfl).1
      have f1 := (HCL.out 1 _ rfl).2
      have g2 := (HCL.out 2 _ rfl).1
      have f2 := (HCL.out 2 _ rfl).2
      have g3 := (HCL.out 3 _ rfl).1
      have f3 := (HCL.out 3 _ rfl).2
      have g4 := (HCL.out 4 _ rfl).1
      have f4 := (HCL.out 4 _ rfl).2
      have g5 := (HCL.out 5 _ rfl).1
      have f5 := (HCL.out 5 _ rfl).2
      have hT : Trk w21 [bt] := (Trk.nil w21).more hb9z
      go_wp2_with (first | (with_reducible refine at_list ?_; refine wpList_fop rfl rfl rfl rfl rfl ?_; intro r n hr0; have hr := hr0 _ _ (by first | with_reducible assumption | exact rfl) (by first | with_reducible assumption | exact rfl); clear hr0) | (with_reducible refine at_list ?_; refine wpList_neg rfl rfl rfl ?_; intro r hr0; have hr := hr0 _ (by first | with_reducible assumption | exact rfl); clear hr0) | (with_reducible refine at_list ?_; refine wpList_fop_g rfl rfl rfl rfl rfl ?_; intro r n hr0; have hr := hr0 _ _ (by first | with_reducible assumption | exact rfl) (by first | with_reducible assumption | exact rfl); clear hr0) | (with_reducible refine at_list ?_; refine wpList_wide_g rfl rfl Try.underlying33 Try.underlying37 rfl ?_; intro r n hr0; have hr := hr0 _ (by first | with_reducible assumption | exact rfl); clear hr0) | (with_reducible refine at_list ?_; refine wpList_wide rfl rfl rfl Try.underlying33 Try.underlying37 ?_; intro r n hr0; have hr := hr0 _ (by first | with_reducible assumption | exact rfl); clear hr0) | (go_at_call 51; refine (l04Is_any _ _ _ _ _ (by assumption) (by assumption)).mono ?_; rintro e w' ⟨rfl, n, rfl⟩))
      have p0 : True := trivial
      have p1 : True := trivial
      have p2 : True := trivial
      have p3 : True := trivial
      have p4 : True := trivial
      have p5 : True := trivial
      refine wp_named ?_
      intro w02 hw0
      have HP2 := Lib.hid (show PV B w02 bt _ _ from by rw [hw0]; first | exact HV1.out | exact PV.later HV1.out (below_drewN (Below.refl _ _) _))
      have HB2 : Hid (Below B ws w02) := by show Below _ _ _; rw [hw0]; first | exact HBW1.out | exact below_drewN HBW1.out _
      clear hw0 hT g0 f0 g1 f1 g2 f2 g3 f3 g4 f4 g5 f5 p0 p1 p2 p3 p4 p5
      have g0 := (HP2.out.1.1 0 _ rfl).1
      have f0 := (HP2.out.1.1 0 _ rfl).2
      have g1 := (HP2.out.1.1 1 _ rfl).1
      have f1 := (HP2.out.1.1 1 _ rfl).2
      have g2 := (HP2.out.1.1 2 _ rfl).1
      have f2 := (HP2.out.1.1 2 _ rfl).2
      have g3 := (HP2.out.1.1 3 _ rfl).1
      have f3 := (HP2.out.1.1 3 _ rfl).2
      have g4 := (HP2.out.1.1 4 _ rfl).1
      have f4 := (HP2.out.1.1 4 _ rfl).2
      have g5 := (HP2.out.1.1 5 _ rfl).1
      have f5 := (HP2.out.1.1 5 _ rfl).2
      obtain ⟨p0, p1, p2, p3, p4, p5⟩ := HAT0.out w02 HB2.out
      simp only [Nat.zero_add] at p0 p1 p2 p3 p4 p5
      have hx9 := XB.out w02 HB2.out
      have hbz : bt < w02.heap.size := PV.lt HP2.out
      have hzB : B ≤ w02.heap.size := HZR.out _ HB2.out
      have hbs : b2 < w02.heap.size := World.block_lt_of_cell? _ _ hx9
      have hT : Trk w02 [w.heap.size, bt, b2] := (((Trk.nil w02).more hbs).more hbz).more (by omega)
      (apply wp_region_plan; ((apply wpC_det; (case hw => exact rfl); (case hs => (intro cs b h; cases h)); (case h1 => (intro w'; go_simp <;> exact rfl))); apply wpC_norm; (case ha => (simp only [Act.put, List.setIfInBounds_toArray, List.set_cons_zero, List.set_cons_succ]; exact rfl))); ((apply wpC_val; (case hw => exact rfl); (case h1 => (intro w' hb hk0; obtain ⟨hT, hk⟩ := bv_next hb (by (repeat (with_reducible first | assumption | apply Trk.alloc | apply Trk.setCell | apply Trk.drewN | apply Trk.drew | exact Trk.nil _))); simp only [SameOn, World.size_alloc, World.size_setCell, World.size_drew, size_drewN', and_true] at hk; have hsz := Below.size hb; (try simp only [World.size_alloc, World.size_setCell, World.size_drew, size_drewN'] at hsz); go_simp <;> exact rfl))); apply wpC_norm; (case ha => (simp only [Act.put, List.setIfInBounds_toArray, List.set_cons_zero, List.set_cons_succ]; exact rfl))); ((apply wpC_det; (case hw => exact rfl); (case hs => (intro cs b h; cases h)); (case h1 => (intro w'; go_simp <;> exact rfl))); apply wpC_norm; (case ha => (simp only [Act.put, List.setIfInBounds_toArray, List.set_cons_zero, List.set_cons_succ]; exact rfl))); ((apply wpC_val; (case hw => exact rfl); (case h1 => (intro w' hb hk0; obtain ⟨hT, hk⟩ := bv_next hb (by (repeat (with_reducible first | assumption | apply Trk.alloc | apply Trk.setCell | apply Trk.drewN | apply Trk.drew | exact Trk.nil _))); simp only [SameOn, World.size_alloc, World.size_setCell, World.size_drew, size_drewN', and_true] at hk; have hsz := Below.size hb; (try simp only [World.size_alloc, World.size_setCell, World.size_drew, size_drewN'] at hsz); go_simp <;> exact rfl))); apply wpC_norm; (case ha => (simp only [Act.put, List.setIfInBounds_toArray, List.set_cons_zero, List.set_cons_succ]; exact rfl))); ((apply wpC_det; (case hw => exact rfl); (case hs => (intro cs b h; cases h)); (case h1 => (intro w'; go_simp <;> exact rfl))); apply wpC_norm; (case ha => (simp only [Act.put, List.setIfInBounds_toArray, List.set_cons_zero, List.set_cons_succ]; exact rfl))); ((apply wpC_det; (case hw => exact rfl); (case hs => (intro cs b h; cases h)); (case h1 => (intro w'; go_simp <;> exact rfl))); apply wpC_norm; (case ha => (simp only [Act.put, List.setIfInBounds_toArray, List.set_cons_zero, List.set_cons_succ]; exact rfl))); ((apply wpC_val; (case hw => exact rfl); (case h1 => (intro w' hb hk0; obtain ⟨hT, hk⟩ := bv_next hb (by (repeat (with_reducible first | assumption | apply Trk.alloc | apply Trk.setCell | apply Trk.drewN | apply Trk.drew | exact Trk.nil _))); simp only [SameOn, World.size_alloc, World.size_setCell, World.size_drew, size_drewN', and_true] at hk; have hsz := Below.size hb; (try simp only [World.size_alloc, World.size_setCell, World.size_drew, size_drewN'] at hsz); go_simp <;> exact rfl))); apply wpC_norm; (case ha => (simp only [Act.put, List.setIfInBounds_toArray, List.set_cons_zero, List.set_cons_succ]; exact rfl))); ((apply wpC_lit1; (case hx => (first | exact rfl | (simp [Op.operands]; exact rfl))); (case hw => exact rfl); (case h1 => (intro w'; go_simp <;> exact rfl)); intro bv); apply wpC_norm; (case ha => (simp only [Act.put, List.setIfInBounds_toArray, List.set_cons_zero, List.set_cons_succ]; exact rfl))); refine wpC_tail (by kernel_rfl) (by first | rfl | kernel_rfl) ?_; intro w' hb hkk; obtain ⟨hT, hk⟩ := bv_next hb (by (repeat (with_reducible first | assumption | apply Trk.alloc | apply Trk.setCell | apply Trk.drewN | apply Trk.drew | exact Trk.nil _))); simp only [SameOn, World.size_alloc, World.size_setCell, World.size_drew, size_drewN', and_true] at hk; have hsz := Below.size hb; (try simp only [World.size_alloc, World.size_setCell, World.size_drew, size_drewN'] at hsz))
      rename World => w12
      have hal := hb
      have HVa := Lib.hid (PV.later HP2.out hal)
      have HBa : Hid (Below B ws w12) := HB2.out.trans (hal.mono hzB)
      have HZa : Hid (B ≤ w12.heap.size) := HZR.out _ HBa.out
      apply wpList_appQ (B := B) (xs := R.b) (v := .slice (lt.p2) R.b.length (lt.c2)) (r := P.b.getD j 0)
      case hg => rfl
      case ho => rfl
      case hs => rfl
      case hx => rfl
      case hO => exact (PV.own HVa.out).2.1
      case hc => exact (hkk.1.2 0 _ rfl).1
      case hn => have h8 := hlen.out; have h9 := HKN.out; omega
      case hB => exact HZa.out
      intro q2 c2 w22 hO hB2 hg hv
      have HV2 := Lib.hid (PV.app2 HVa.out hg hO hv)
      have HCL := Lib.hid (PV.cells HVa.out (i := 1) (by omega) hg)
      have HBW2 : Hid (Below B ws (w22.setCell ⟨bt, 3, none⟩ (.slice q2 (R.b.length + 1) c2))) := below_put (HBa.out.trans hB2) (Nat.le_trans HZa.out hB2.size) hBb
      have hb9z : bt < w22.heap.size := Nat.lt_of_lt_of_le (PV.lt HVa.out) hB2.size
      clear hO hB2 hg hv HVa HBa HZa hkk hb hal hT hx9 p0 p1 p2 p3 p4 p5 g0 f0 g1 f1 g2 f2 g3 f3 g4 f4 g5 f5
      try clear hk hsz
      have g0 := (HCL.out 0 _ rfl).1
      have f0 := (HCL.out 0 _ rfl).2
      have g1 := (HCL.out 1 _ rfl).1
      have f1 := (HCL.out 1 _ rfl).2
      have g2 := (HCL.out 2 _ rfl).1
      have f2 := (HCL.out 2 _ rfl).2
      have g3 := (HCL.out 3 _ rfl).1
      have f3 := (HCL.out 3 _ rfl).2
      have g4 := (HCL.out 4 _ rfl).1
      have f4 := (HCL.out 4 _ rfl).2
      have g5 := (HCL.out 5 _ rfl).1
      have f5 := (HCL.out 5 _ rfl).2
      have hT : Trk w22 [bt] := (Trk.nil w22).more hb9z
      go_wp2_with (first | (with_reducible refine at_list ?_; refine wpList_fop rfl rfl rfl rfl rfl ?_; intro r n hr0; have hr := hr0 _ _ (by first | with_reducible assumption | exact rfl) (by first | with_reducible assumption | exact rfl); clear hr0) | (with_reducible refine at_list ?_; refine wpList_neg rfl rfl rfl ?_; intro r hr0; have hr := hr0 _ (by first | with_reducible assumption | exact rfl); clear hr0) | (with_reducible refine at_list ?_; refine wpList_fop_g rfl rfl rfl rfl rfl ?_; intro r n hr0; have hr := hr0 _ _ (by first | with_reducible assumption | exact rfl) (by first | with_reducible assumption | exact rfl); clear hr0) | (with_reducible refine at_list ?_; refine wpList_wide_g rfl rfl Try.underlying33 Try.underlying37 rfl ?_; intro r n hr0; have hr := hr0 _ (by first | with_reducible assumption | exact rfl); clear hr0) | (with_reducible refine at_list ?_; refine wpList_wide rfl rfl rfl Try.underlying33 Try.underlying37 ?_; intro r n hr0; have hr := hr0 _ (by first | with_reducible assumption | exact rfl); clear hr0) | (go_at_call 51; refine (l04Is_any _ _ _ _ _ (by assumption) (by assumption)).mono ?_; rintro e w' ⟨rfl, n, rfl⟩))
      have p0 : True := trivial
      have p1 : True := trivial
      have p2 : True := trivial
      have p3 : True := trivial
      have p4 : True := trivial
      have p5 : True := trivial
      refine wp_named ?_
      intro w03 hw0
      have HP3 := Lib.hid (show PV B w03 bt _ _ from by rw [hw0]; first | exact HV2.out | exact PV.later HV2.out (below_drewN (Below.refl _ _) _))
      have HB3 : Hid (Below B ws w03) := by show Below _ _ _; rw [hw0]; first | exact HBW2.out | exact below_drewN HBW2.out _
      clear hw0 hT g0 f0 g1 f1 g2 f2 g3 f3 g4 f4 g5 f5 p0 p1 p2 p3 p4 p5
      have g0 := (HP3.out.1.1 0 _ rfl).1
      have f0 := (HP3.out.1.1 0 _ rfl).2
      have g1 := (HP3.out.1.1 1 _ rfl).1
      have f1 := (HP3.out.1.1 1 _ rfl).2
      have g2 := (HP3.out.1.1 2 _ rfl).1
      have f2 := (HP3.out.1.1 2 _ rfl).2
      have g3 := (HP3.out.1.1 3 _ rfl).1
      have f3 := (HP3.out.1.1 3 _ rfl).2
      have g4 := (HP3.out.1.1 4 _ rfl).1
      have f4 := (HP3.out.1.1 4 _ rfl).2
      have g5 := (HP3.out.1.1 5 _ rfl).1
      have f5 := (HP3.out.1.1 5 _ rfl).2
      obtain ⟨p0, p1, p2, p3, p4, p5⟩ := HAT0.out w03 HB3.out
      simp only [Nat.zero_add] at p0 p1 p2 p3 p4 p5
      have hx9 := XC.out w03 HB3.out
      have hbz : bt < w03.heap.size := PV.lt HP3.out
      have hzB : B ≤ w03.heap.size := HZR.out _ HB3.out
      have hbs : b3 < w03.heap.size := World.block_lt_of_cell? _ _ hx9
      have hT : Trk w03 [w.heap.size, bt, b3] := (((Trk.nil w03).more hbs).more hbz).more (by omega)
      (apply wp_region_plan; ((apply wpC_det; (case hw => exact rfl); (case hs => (intro cs b h; cases h)); (case h1 => (intro w'; go_simp <;> exact rfl))); apply wpC_norm; (case ha => (simp only [Act.put, List.setIfInBounds_toArray, List.set_cons_zero, List.set_cons_succ]; exact rfl))); ((apply wpC_val; (case hw => exact rfl); (case h1 => (intro w' hb hk0; obtain ⟨hT, hk⟩ := bv_next hb (by (repeat (with_reducible first | assumption | apply Trk.alloc | apply Trk.setCell | apply Trk.drewN | apply Trk.drew | exact Trk.nil _))); simp only [SameOn, World.size_alloc, World.size_setCell, World.size_drew, size_drewN', and_true] at hk; have hsz := Below.size hb; (try simp only [World.size_alloc, World.size_setCell, World.size_drew, size_drewN'] at hsz); go_simp <;> exact rfl))); apply wpC_norm; (case ha => (simp only [Act.put, List.setIfInBounds_toArray, List.set_cons_zero, List.set_cons_succ]; exact rfl))); ((apply wpC_det; (case hw => exact rfl); (case hs => (intro cs b h; cases h)); (case h1 => (intro w'; go_simp <;> exact rfl))); apply wpC_norm; (case ha => (simp only [Act.put, List.setIfInBounds_toArray, List.set_cons_zero, List.set_cons_succ]; exact rfl))); ((apply wpC_val; (case hw => exact rfl); (case h1 => (intro w' hb hk0; obtain ⟨hT, hk⟩ := bv_next hb (by (repeat (with_reducible first | assumption | apply Trk.alloc | apply Trk.setCell | apply Trk.drewN | apply Trk.drew | exact Trk.nil _))); simp only [SameOn, World.size_alloc, World.size_setCell, World.size_drew, size_drewN', and_true] at hk; have hsz := Below.size hb; (try simp only [World.size_alloc, World.size_setCell, World.size_drew, size_drewN'] at hsz); go_simp <;> exact rfl))); apply wpC_norm; (case ha => (simp only [Act.put, List.setIfInBounds_toArray, List.set_cons_zero, List.set_cons_succ]; exact rfl))); ((apply wpC_det; (case hw => exact rfl); (case hs => (intro cs b h; cases h)); (case h1 => (intro w'; go_simp <;> exact rfl))); apply wpC_norm; (case ha => (simp only [Act.put, List.setIfInBounds_toArray, List.set_cons_zero, List.set_cons_succ]; exact rfl))); ((apply wpC_det; (case hw => exact rfl); (case hs => (intro cs b h; cases h)); (case h1 => (intro w'; go_simp <;> exact rfl))); apply wpC_norm; (case ha => (simp only [Act.put, List.setIfInBounds_toArray, List.set_cons_zero, List.set_cons_succ]; exact rfl))); ((apply wpC_val; (case hw => exact rfl); (case h1 => (intro w' hb hk0; obtain ⟨hT, hk⟩ := bv_next hb (by (repeat (with_reducible first | assumption | apply Trk.alloc | apply Trk.setCell | apply Trk.drewN | apply Trk.drew | exact Trk.nil _))); simp only [SameOn, World.size_alloc, World.size_setCell, World.size_drew, size_drewN', and_true] at hk; have hsz := Below.size hb; (try simp only [World.size_alloc, World.size_setCell, World.size_drew, size_drewN'] at hsz); go_simp <;> exact rfl))); apply wpC_norm; (case ha => (simp only [Act.put, List.setIfInBounds_toArray, List.set_cons_zero, List.set_cons_succ]; exact rfl))); ((apply wpC_lit1; (case hx => (first | exact rfl | (simp [Op.operands]; exact rfl))); (case hw => exact rfl); (case h1 => (intro w'; go_simp <;> exact rfl)); intro bv); apply wpC_norm; (case ha => (simp only [Act.put, List.setIfInBounds_toArray, List.set_cons_zero, List.set_cons_succ]; exact rfl))); refine wpC_tail (by kernel_rfl) (by first | rfl | kernel_rfl) ?_; intro w' hb hkk; obtain ⟨hT, hk⟩ := bv_next hb (by (repeat (with_reducible first | assumption | apply Trk.alloc | apply Trk.setCell | apply Trk.drewN | apply Trk.drew | exact Trk.nil _))); simp only [SameOn, World.size_alloc, World.size_setCell, World.size_drew, size_drewN', and_true] at hk; have hsz := Below.size hb; (try simp only [World.size_alloc, World.size_setCell, World.size_drew, size_drewN'] at hsz))
      rename World => w13
      have hal := hb
      have HVa := Lib.hid (PV.later HP3.out hal)
      have HBa : Hid (Below B ws w13) := HB3.out.trans (hal.mono hzB)
      have HZa : Hid (B ≤ w13.heap.size) := HZR.out _ HBa.out
      apply wpList_appQ (B := B) (xs := R.c) (v := .slice (lt.p3) R.c.length (lt.c3)) (r := P.c.getD j 0)
      case hg => rfl
      case ho => rfl
      case hs => rfl
      case hx => rfl
      case hO => exact (PV.own HVa.out).2.2.1
      case hc => exact (hkk.1.2 0 _ rfl).1
      case hn => have h8 := hlen.out; have h9 := HKN.out; omega
      case hB => exact HZa.out
      intro q3 c3 w23 hO hB2 hg hv
      have HV3 := Lib.hid (PV.app3 HVa.out hg hO hv)
      have HCL := Lib.hid (PV.cells HVa.out (i := 2) (by omega) hg)
      have HBW3 : Hid (Below B ws (w23.setCell ⟨bt, 4, none⟩ (.slice q3 (R.c.length + 1) c3))) := below_put (HBa.out.trans hB2) (Nat.le_trans HZa.out hB2.size) hBb
      have hb9z : bt < w23.heap.size := Nat.lt_of_lt_of_le (PV.lt HVa.out) hB2.size
      clear hO hB2 hg hv HVa HBa HZa hkk hb hal hT hx9 p0 p1 p2 p3 p4 p5 g0 f0 g1 f1 g2 f2 g3 f3 g4 f4 g5 f5
      try clear hk hsz
      have g0 := (HCL.out 0 _ rfl).1
      have f0 := (HCL.out 0 _ rfl).2
      have g1 := (HCL.out 1 _ rfl).1
      have f1 := (HCL.out 1 _ rfl).2
      have g2 := (HCL.out 2 _ rfl).1
      have f2 := (HCL.out 2 _ rfl).2
      have g3 := (HCL.out 3 _ rfl).1
      have f3 := (HCL.out 3 _ rfl).2
      have g4 := (HCL.out 4 _ rfl).1
      have f4 := (HCL.out 4 _ rfl).2
      have g5 := (HCL.out 5 _ rfl).1
      have f5 := (HCL.out 5 _ rfl).2
      have hT : Trk w23 [bt] := (Trk.nil w23).more hb9z
      go_wp2_with (first | (with_reducible refine at_list ?_; refine wpList_fop rfl rfl rfl rfl rfl ?_; intro r n hr0; have hr := hr0 _ _ (by first | with_reducible assumption | exact rfl) (by first | with_reducible assumption | exact rfl); clear hr0) | (with_reducible refine at_list ?_; refine wpList_neg rfl rfl rfl ?_; intro r hr0; have hr := hr0 _ (by first | with_reducible assumption | exact rfl); clear hr0) | (with_reducible refine at_list ?_; refine wpList_fop_g rfl rfl rfl rfl rfl ?_; intro r n hr0; have hr := hr0 _ _ (by first | with_reducible assumption | exact rfl) (by first | with_reducible assumption | exact rfl); clear hr0) | (with_reducible refine at_list ?_; refine wpList_wide_g rfl rfl Try.underlying33 Try.underlying37 rfl ?_; intro r n hr0; have hr := hr0 _ (by first | with_reducible assumption | exact rfl); clear hr0) | (with_reducible refine at_list ?_; refine wpList_wide rfl rfl rfl Try.underlying33 Try.underlying37 ?_; intro r n hr0; have hr := hr0 _ (by first | with_reducible assumption | exact rfl); clear hr0) | (go_at_call 51; refine (l04Is_any _ _ _ _ _ (by assumption) (by assumption)).mono ?_; rintro e w' ⟨rfl, n, rfl⟩))
      have p0 : True := trivial
      have p1 : True := trivial
      have p2 : True := trivial
      have p3 : True := trivial
      have p4 : True := trivial
      have p5 : True := trivial
      refine wp_named ?_
      intro w04 hw0
      have HP4 := Lib.hid (show PV B w04 bt _ _ from by rw [hw0]; first | exact HV3.out | exact PV.later HV3.out (below_drewN (Below.refl _ _) _))
      have HB4 : Hid (Below B ws w04) := by show Below _ _ _; rw [hw0]; first | exact HBW3.out | exact below_drewN HBW3.out _
      clear hw0 hT g0 f0 g1 f1 g2 f2 g3 f3 g4 f4 g5 f5 p0 p1 p2 p3 p4 p5
      have g0 := (HP4.out.1.1 0 _ rfl).1
      have f0 := (HP4.out.1.1 0 _ rfl).2
      have g1 := (HP4.out.1.1 1 _ rfl).1
      have f1 := (HP4.out.1.1 1 _ rfl).2
      have g2 := (HP4.out.1.1 2 _ rfl).1
      have f2 := (HP4.out.1.1 2 _ rfl).2
      have g3 := (HP4.out.1.1 3 _ rfl).1
      have f3 := (HP4.out.1.1 3 _ rfl).2
      have g4 := (HP4.out.1.1 4 _ rfl).1
      have f4 := (HP4.out.1.1 4 _ rfl).2
      have g5 := (HP4.out.1.1 5 _ rfl).1
      have f5 := (HP4.out.1.1 5 _ rfl).2
      obtain ⟨p0, p1, p2, p3, p4, p5⟩ := HAT0.out w04 HB4.out
      simp only [Nat.zero_add] at p0 p1 p2 p3 p4 p5
      have hx9 := XD.out w04 HB4.out
      have hbz : bt < w04.heap.size := PV.lt HP4.out
      have hzB : B ≤ w04.heap.size := HZR.out _ HB4.out
      have hbs : b4 < w04.heap.size := World.block_lt_of_cell? _ _ hx9
      have hT : Trk w04 [w.heap.size, bt, b4] := (((Trk.nil w04).more hbs).more hbz).more (by omega)
      (apply wp_region_plan; ((apply wpC_det; (case hw => exact rfl); (case hs => (intro cs b h; cases h)); (case h1 => (intro w'; go_simp <;> exact rfl))); apply wpC_norm; (case ha => (simp only [Act.put, List.setIfInBounds_toArray, List.set_cons_zero, List.set_cons_succ]; exact rfl))); ((apply wpC_val; (case hw => exact rfl); (case h1 => (intro w' hb hk0; obtain ⟨hT, hk⟩ := bv_next hb (by (repeat (with_reducible first | assumption | apply Trk.alloc | apply Trk.setCell | apply Trk.drewN | apply Trk.drew | exact Trk.nil _))); simp only [SameOn, World.size_alloc, World.size_setCell, World.size_drew, size_drewN', and_true] at hk; have hsz := Below.size hb; (try simp only [World.size_alloc, World.size_setCell, World.size_drew, size_drewN'] at hsz); go_simp <;> exact rfl))); apply wpC_norm; (case ha => (simp only [Act.put, List.setIfInBounds_toArray, List.set_cons_zero, List.set_cons_succ]; exact rfl))); ((apply wpC_det; (case hw => exact rfl); (case hs => (intro cs b h; cases h)); (case h1 => (intro w'; go_simp <;> exact rfl))); apply wpC_norm; (case ha => (simp only [Act.put, List.setIfInBounds_toArray, List.set_cons_zero, List.set_cons_succ]; exact rfl))); ((apply wpC_val; (case hw => exact rfl); (case h1 => (intro w' hb hk0; obtain ⟨hT, hk⟩ := bv_next hb (by (repeat (with_reducible first | assumption | apply Trk.alloc | apply Trk.setCell | apply Trk.drewN | apply Trk.drew | exact Trk.nil _))); simp only [SameOn, World.size_alloc, World.size_setCell, World.size_drew, size_drewN', and_true] at hk; have hsz := Below.size hb; (try simp only [World.size_alloc, World.size_setCell, World.size_drew, size_drewN'] at hsz); go_simp <;> exact rfl))); apply wpC_norm; (case ha => (simp only [Act.put, List.setIfInBounds_toArray, List.set_cons_zero, List.set_cons_succ]; exact rfl))); ((apply wpC_det; (case hw => exact rfl); (case hs => (intro cs b h; cases h)); (case h1 => (intro w'; go_simp <;> exact rfl))); apply wpC_norm; (case ha => (simp only [Act.put, List.setIfInBounds_toArray, List.set_cons_zero, List.set_cons_succ]; exact rfl))); ((apply wpC_det; (case hw => exact rfl); (case hs => (intro cs b h; cases h)); (case h1 => (intro w'; go_simp <;> exact rfl))); apply wpC_norm; (case ha => (simp only [Act.put, List.setIfInBounds_toArray, List.set_cons_zero, List.set_cons_succ]; exact rfl))); ((apply wpC_val; (case hw => exact rfl); (case h1 => (intro w' hb hk0; obtain ⟨hT, hk⟩ := bv_next hb (by (repeat (with_reducible first | assumption | apply Trk.alloc | apply Trk.setCell | apply Trk.drewN | apply Trk.drew | exact Trk.nil _))); simp only [SameOn, World.size_alloc, World.size_setCell, World.size_drew, size_drewN', and_true] at hk; have hsz := Below.size hb; (try simp only [World.size_alloc, World.size_setCell, World.size_drew, size_drewN'] at hsz); go_simp <;> exact rfl))); apply wpC_norm; (case ha => (simp only [Act.put, List.setIfInBounds_toArray, List.set_cons_zero, List.set_cons_succ]; exact rfl))); ((apply wpC_lit1; (case hx => (first | exact rfl | (simp [Op.operands]; exact rfl))); (case hw => exact rfl); (case h1 => (intro w'; go_simp <;> exact rfl)); intro bv); apply wpC_norm; (case ha => (simp only [Act.put, List.setIfInBounds_toArray, List.set_cons_zero, List.set_cons_succ]; exact rfl))); refine wpC_tail (by kernel_rfl) (by first | rfl | kernel_rfl) ?_; intro w' hb hkk; obtain ⟨hT, hk⟩ := bv_next hb (by (repeat (with_reducible first | assumption | apply Trk.alloc | apply Trk.setCell | apply Trk.drewN | apply Trk.drew | exact Trk.nil _))); simp only [SameOn, World.size_alloc, World.size_setCell, World.size_drew, size_drewN', and_true] at hk; have hsz := Below.size hb; (try simp only [World.size_alloc, World.size_setCell, World.size_drew, size_drewN'] at hsz))
      rename World => w14
      have hal := hb
      have HVa := Lib.hid (PV.later HP4.out hal)
      have HBa : Hid (Below B ws w14) := HB4.out.trans (hal.mono hzB)
      have HZa : Hid (B ≤ w14.heap.size) := HZR.out _ HBa.out
      apply wpList_appQB (B := B) (xs := R.d) (v := .slice (lt.p4) R.d.length (lt.c4)) (r := P.d.getD j false)
      case hg => rfl
      case ho => rfl
      case hs => rfl
      case hx => rfl
      case hO => exact (PV.own HVa.out).2.2.2
      case hc => exact (hkk.1.2 0 _ rfl).1
      case hn => have h8 := hlen.out; have h9 := HKN.out; omega
      case hB => exact HZa.out
      intro q4 c4 w24 hO hB2 hg hv
      have HV4 := Lib.hid (PV.app4 HVa.out hg hO hv)
      have HCL := Lib.hid (PV.cells HVa.out (i := 3) (by omega) hg)
      have HBW4 : Hid (Below B ws (w24.setCell ⟨bt, 5, none⟩ (.slice q4 (R.d.length + 1) c4))) := below_put (HBa.out.trans hB2) (Nat.le_trans HZa.out hB2.size) hBb
      have hb9z : bt < w24.heap.size := Nat.lt_of_lt_of_le (PV.lt HVa.out) hB2.size
      clear hO hB2 hg hv HVa HBa HZa hkk hb hal hT hx9 p0 p1 p2 p3 p4 p5 g0 f0 g1 f1 g2 f2 g3 f3 g4 f4 g5 f5
      try clear hk hsz
      have g0 := (HCL.out 0 _ rfl).1
      have f0 := (HCL.out 0 _ rfl).2
      have g1 := (HCL.out 1 _ rfl).1
      have f1 := (HCL.out 1 _ rfl).2
      have g2 := (HCL.out 2 _ rfl).1
      have f2 := (HCL.out 2 _ rfl).2
      have g3 := (HCL.out 3 _ rfl).1
      have f3 := (HCL.out 3 _ rfl).2
      have g4 := (HCL.out 4 _ rfl).1
      have f4 := (HCL.out 4 _ rfl).2
      have g5 := (HCL.out 5 _ rfl).1
      have f5 := (HCL.out 5 _ rfl).2
      have hT : Trk w24 [bt] := (Trk.nil w24).more hb9z
      go_wp2_with (first | (with_reducible refine at_list ?_; refine wpList_fop rfl rfl rfl rfl rfl ?_; intro r n hr0; have hr := hr0 _ _ (by first | with_reducible assumption | exact rfl) (by first | with_reducible assumption | exact rfl); clear hr0) | (with_reducible refine at_list ?_; refine wpList_neg rfl rfl rfl ?_; intro r hr0; have hr := hr0 _ (by first | with_reducible assumption | exact rfl); clear hr0) | (with_reducible refine at_list ?_; refine wpList_fop_g rfl rfl rfl rfl rfl ?_; intro r n hr0; have hr := hr0 _ _ (by first | with_reducible assumption | exact rfl) (by first | with_reducible assumption | exact rfl); clear hr0) | (with_reducible refine at_list ?_; refine wpList_wide_g rfl rfl Try.underlying33 Try.underlying37 rfl ?_; intro r n hr0; have hr := hr0 _ (by first | with_reducible assumption | exact rfl); clear hr0) | (with_reducible refine at_list ?_; refine wpList_wide rfl rfl rfl Try.underlying33 Try.underlying37 ?_; intro r n hr0; have hr := hr0 _ (by first | with_reducible assumption | exact rfl); clear hr0) | (go_at_call 51; refine (l04Is_any _ _ _ _ _ (by assumption) (by assumption)).mono ?_; rintro e w' ⟨rfl, n, rfl⟩))
      have HE : Hid ((⟨R.W, R.H, R.a ++ [P.a.getD j 0], R.b ++ [P.b.getD j 0], R.c ++ [P.c.getD j 0], R.d ++ [P.d.getD j false]⟩ : Pl) = turnPl P (k + 1)) := by show _ = _; rw [HR.out, HJE.out]; exact turn_step P k
      have HPV9 : Hid (PV B (w24.setCell ⟨bt, 5, none⟩ (.slice q4 (R.d.length + 1) c4)) bt (turnPl P (k + 1)) ⟨q1, c1, q2, c2, q3, c3, q4, c4⟩) := by show PV _ _ _ _ _; rw [← HE.out]; exact HV4.out
      go_roundw
      case rel => exact ⟨k + 1, _, by omega, by go_num, HPV9.out, HBW4.out⟩
      case measure => simp [intOf]; omega
      all_goals first | kernel_rfl | rfl
    · have hlti : ¬ (k : Int) < (N : Int) := by omega
      have hke : k = N := by omega
      subst hke
      rw [hR] at HPV
      obtain ⟨⟨r0, r1, r2, r3, r4, r5⟩, rf⟩ := HR6.out
      have hwB1 : w.heap.size + 1 < B := hwB
      have r0 := (hB.cell (p := ⟨w.heap.size + 1, 0, none⟩) hwB1).trans r0
      have r1 := (hB.cell (p := ⟨w.heap.size + 1, 1, none⟩) hwB1).trans r1
      have r2 := (hB.cell (p := ⟨w.heap.size + 1, 2, none⟩) hwB1).trans r2
      have r3 := (hB.cell (p := ⟨w.heap.size + 1, 3, none⟩) hwB1).trans r3
      have r4 := (hB.cell (p := ⟨w.heap.size + 1, 4, none⟩) hwB1).trans r4
      have r5 := (hB.cell (p := ⟨w.heap.size + 1, 5, none⟩) hwB1).trans r5
      have rf : ∀ o, wr.frozen? ⟨w.heap.size + 1, o, none⟩ = false := fun o => (hB.frozen (p := ⟨w.heap.size + 1, o, none⟩) hwB1).trans (rf o)
      have g0 := (HPV.out.1.1 0 _ rfl).1
      have f0 := (HPV.out.1.1 0 _ rfl).2
      have g1 := (HPV.out.1.1 1 _ rfl).1
      have f1 := (HPV.out.1.1 1 _ rfl).2
      have g2 := (HPV.out.1.1 2 _ rfl).1
      have f2 := (HPV.out.1.1 2 _ rfl).2
      have g3 := (HPV.out.1.1 3 _ rfl).1
      have f3 := (HPV.out.1.1 3 _ rfl).2
      have g4 := (HPV.out.1.1 4 _ rfl).1
      have f4 := (HPV.out.1.1 4 _ rfl).2
      have g5 := (HPV.out.1.1 5 _ rfl).1
      have f5 := (HPV.out.1.1 5 _ rfl).2
      have hb9z : bt < wr.heap.size := PV.lt HPV.out
      have hT : Trk wr [w.heap.size, w.heap.size + 1, bt] := (((Trk.nil wr).more hb9z).more (by omega)).more (by omega)
      have hBr : Below w.heap.size w wr := HBS.out.trans (HBW.out.mono (by omega))
      have HX : Hid (PX w.heap.size (wr.setCells (w.heap.size + 1) 0 (plC (turnPl P k) lt)).heap.size (wr.setCells (w.heap.size + 1) 0 (plC (turnPl P k) lt)) (turnPl P k) lt) := by
        have hgs := grown_setCells (w.heap.size + 1) (plC (turnPl P k) lt) 0 wr
        obtain ⟨a1, a2, a3, a4, a5, a6⟩ := HPV.out.apart
        obtain ⟨o1, o2, o3, o4⟩ := HPV.out.own
        have ne : ∀ {v : Value} {xs : List Nat}, OF B wr v xs → v.ownBlock = none ∨ v.ownBlock ≠ some (w.heap.size + 1) := fun {v xs} ho => by
          cases hu : v.ownBlock with
          | none => exact .inl rfl
          | some kk => exact .inr fun e => by have h9 := (ho.block kk hu).1; cases e; omega
        have ne4 : (Value.slice lt.p4 (turnPl P k).d.length lt.c4).ownBlock = none ∨ (Value.slice lt.p4 (turnPl P k).d.length lt.c4).ownBlock ≠ some (w.heap.size + 1) := by
          cases hu : (Value.slice lt.p4 (turnPl P k).d.length lt.c4).ownBlock with
          | none => exact .inl rfl
          | some kk => exact .inr fun e => by have h9 := (o4.block kk hu).1; cases e; omega
        exact PX.mk' (Pl.own.base ⟨o1.kept hgs (ne o1), o2.kept hgs (ne o2), o3.kept hgs (ne o3), o4.kept hgs ne4⟩ (by omega)) a1 a2 a3 a4 a5 a6
      clear hB hR
      go_wp2_with (first | (with_reducible refine at_list ?_; refine wpList_fop rfl rfl rfl rfl rfl ?_; intro r n hr0; have hr := hr0 _ _ (by first | with_reducible assumption | exact rfl) (by first | with_reducible assumption | exact rfl); clear hr0) | (with_reducible refine at_list ?_; refine wpList_neg rfl rfl rfl ?_; intro r hr0; have hr := hr0 _ (by first | with_reducible assumption | exact rfl); clear hr0) | (with_reducible refine at_list ?_; refine wpList_fop_g rfl rfl rfl rfl rfl ?_; intro r n hr0; have hr := hr0 _ _ (by first | with_reducible assumption | exact rfl) (by first | with_reducible assumption | exact rfl); clear hr0) | (with_reducible refine at_list ?_; refine wpList_wide_g rfl rfl Try.underlying33 Try.underlying37 rfl ?_; intro r n hr0; have hr := hr0 _ (by first | with_reducible assumption | exact rfl); clear hr0) | (with_reducible refine at_list ?_; refine wpList_wide rfl rfl rfl Try.underlying33 Try.underlying37 ?_; intro r n hr0; have hr := hr0 _ (by first | with_reducible assumption | exact rfl); clear hr0) | (go_at_call 51; refine (l04Is_any _ _ _ _ _ (by assumption) (by assumption)).mono ?_; rintro e w' ⟨rfl, n, rfl⟩))
      refine bodyPost_ret (v := .tuple #[.agg #[.int .i64 (turnPl P k).W, .int .i64 (turnPl P k).H, .slice lt.p1 (turnPl P k).a.length lt.c1, .slice lt.p2 (turnPl P k).b.length lt.c2, .slice lt.p3 (turnPl P k).c.length lt.c3, .slice lt.p4 (turnPl P k).d.length lt.c4], .bool true]) (by simp [results, Try.results36, go_sem, *]) rfl ?_
      exact ⟨lt, rfl, by (repeat (first | (with_reducible exact Below.refl _ _) | (with_reducible assumption) | (with_reducible refine below_then ?_ (by assumption)) | (with_reducible refine Below.trans ?_ (by assumption)) | (with_reducible refine below_drewN ?_ _) | (with_reducible apply Below.drew) | (with_reducible refine below_alloc ?_ _) | refine Below.setCell ?_ (by first | (simp; done) | (simp; omega)) _)), HX.out⟩
end Go.Proofs.Ythdmamcbceblpaa

/-
  A plain plate: the reference's way. No condition but what each contract says.
-/
import Derived.Test.YthdmamcbceblpaaPln
import Derived.Test.YthdmamcbceblpaaRep
set_option linter.unusedSimpArgs false
set_option linter.unusedVariables false
set_option linter.unusedSectionVars false
namespace Go.Proofs.Ythdmamcbceblpaa
open Go Go.RowKit
open Go.ChangeShapes Go.WideShapes Go.ChangeAt Go.RowKit Go.Joins
theorem PX.base {B S B' S' : Nat} {w : World} {P : Pl} {l : Lay} (h : PX B S w P l) (hB : B' ≤ B) (hS : S ≤ S') : PX B' S' w P l :=
  ⟨⟨h.1.1.base hB, fun k hk => Nat.lt_of_lt_of_le (h.1.2.1 k hk) hS, fun k hk => Nat.lt_of_lt_of_le (h.1.2.2.1 k hk) hS, fun k hk => Nat.lt_of_lt_of_le (h.1.2.2.2.1 k hk) hS, fun k hk => Nat.lt_of_lt_of_le (h.1.2.2.2.2 k hk) hS⟩, h.2⟩
theorem below_put {B : Nat} {w0 w : World} {b j : Nat} {x : Value} (h : Below B w0 w) (hB : B ≤ w.heap.size) (hb : B ≤ b) : Below B w0 (w.setCell ⟨b, j, none⟩ x) :=
  h.grown (row := some b) ⟨rfl, rfl, rfl, by simp, fun k _ hk => Below.heap_setCell _ _ _ _ (fun e => hk (by rw [e]))⟩ hB (fun kk hkk => by cases hkk; exact hb)
def plainPl (W H : Int) (t p k : Nat) : Pl := ⟨W, H, List.replicate k t, List.replicate k p, List.replicate k 0, List.replicate k false⟩
theorem plain_step (W H : Int) (t p k : Nat) : (⟨(plainPl W H t p k).W, (plainPl W H t p k).H, (plainPl W H t p k).a ++ [t], (plainPl W H t p k).b ++ [p], (plainPl W H t p k).c ++ [0], (plainPl W H t p k).d ++ [false]⟩ : Pl) = plainPl W H t p (k + 1) := by
  simp [plainPl, List.replicate_succ']
def plB (W H : Int) (t p : Nat) : Bool := inB W 1 12 && (inB H 1 12 && (plainPl W H t p (W * H).toNat).ok)
theorem plB_no {W H : Int} {t p : Nat} (h : inB W 1 12 = false ∨ inB H 1 12 = false) : plB W H t p = false := by
  unfold plB
  rcases h with h | h <;> simp [h]
theorem plB_yes {W H : Int} {t p : Nat} (h1 : inB W 1 12 = true) (h2 : inB H 1 12 = true) : plB W H t p = (plainPl W H t p (W * H).toNat).ok := by
  unfold plB
  rw [h1, h2]; rfl
set_option maxHeartbeats 8000000 in
set_option maxRecDepth 100000 in
theorem l04Plain_any (W H : Int) (t p N : Nat) (w : World) (hN : W * H = (N : Int)) (hn : 1 ≤ N ∧ N ≤ 144) : Calls Try.prog 68 #[.int .i64 W, .int .i64 H, .float .f32 t, .float .f32 p] w (fun e w' => ∃ l, e = .returned (.agg #[.int .i64 (plainPl W H t p N).W, .int .i64 (plainPl W H t p N).H, .slice (l).p1 (plainPl W H t p N).a.length (l).c1, .slice (l).p2 (plainPl W H t p N).b.length (l).c2, .slice (l).p3 (plainPl W H t p N).c.length (l).c3, .slice (l).p4 (plainPl W H t p N).d.length (l).c4]) ∧ Below w.heap.size w w' ∧ PX w.heap.size w'.heap.size w' (plainPl W H t p N) l) := by
  have hwr : IntKind.i64.wrap (W * H) = (N : Int) := by rw [hN]; exact IntWalk.i64_in _ (by omega)
  have HN := Lib.hid hn
  clear hN
  go_enter Try.func68, Try.ntmps68
  go_wp2_with (first | (with_reducible refine at_list ?_; refine wpList_fop rfl rfl rfl rfl rfl ?_; intro r n hr0; have hr := hr0 _ _ (by first | with_reducible assumption | exact rfl) (by first | with_reducible assumption | exact rfl); clear hr0) | (with_reducible refine at_list ?_; refine wpList_neg rfl rfl rfl ?_; intro r hr0; have hr := hr0 _ (by first | with_reducible assumption | exact rfl); clear hr0) | (with_reducible refine at_list ?_; refine wpList_fop_g rfl rfl rfl rfl rfl ?_; intro r n hr0; have hr := hr0 _ _ (by first | with_reducible assumption | exact rfl) (by first | with_reducible assumption | exact rfl); clear hr0) | (with_reducible refine at_list ?_; refine wpList_wide_g rfl rfl Try.underlying33 Try.underlying37 rfl ?_; intro r n hr0; have hr := hr0 _ (by first | with_reducible assumption | exact rfl); clear hr0) | (with_reducible refine at_list ?_; refine wpList_wide rfl rfl rfl Try.underlying33 Try.underlying37 ?_; intro r n hr0; have hr := hr0 _ (by first | with_reducible assumption | exact rfl); clear hr0))
  refine wp_named ?_
  intro ws hws
  obtain ⟨b9, B, ⟨hb9, hwB, hBb⟩, HV, HR6, HBS⟩ : ∃ b9 B, (b9 = w.heap.size + 1 ∧ w.heap.size < B ∧ B ≤ b9) ∧ Hid (PV B ws b9 (plainPl W H t p 0) nilLay) ∧ Hid ((ws.cell? ⟨w.heap.size, 0, none⟩ = some (.int .i64 0) ∧ ws.cell? ⟨w.heap.size, 1, none⟩ = some (.int .i64 0) ∧ ws.cell? ⟨w.heap.size, 2, none⟩ = some (.slice none 0 0) ∧ ws.cell? ⟨w.heap.size, 3, none⟩ = some (.slice none 0 0) ∧ ws.cell? ⟨w.heap.size, 4, none⟩ = some (.slice none 0 0) ∧ ws.cell? ⟨w.heap.size, 5, none⟩ = some (.slice none 0 0)) ∧ ∀ o, ws.frozen? ⟨w.heap.size, o, none⟩ = false) ∧ Hid (Below w.heap.size w ws) := by
    refine ⟨w.heap.size + 1, w.heap.size + 1, ⟨rfl, by omega, Nat.le_refl _⟩, PV.new ?_ (Nat.le_refl _), ?_, ?_⟩
    · rw [hws]
      intro j x hj
      unfold plC at hj
      match j, hj with
      | 0, hj => simp at hj; subst hj; exact ⟨by go_simp, by go_simp⟩
      | 1, hj => simp at hj; subst hj; exact ⟨by go_simp, by go_simp⟩
      | 2, hj => simp [nilLay] at hj; subst hj; exact ⟨by go_simp, by go_simp⟩
      | 3, hj => simp [nilLay] at hj; subst hj; exact ⟨by go_simp, by go_simp⟩
      | 4, hj => simp [nilLay] at hj; subst hj; exact ⟨by go_simp, by go_simp⟩
      | 5, hj => simp [nilLay] at hj; subst hj; exact ⟨by go_simp, by go_simp⟩
      | j + 6, hj => simp at hj
    · rw [hws]; exact ⟨⟨by go_simp, by go_simp, by go_simp, by go_simp, by go_simp, by go_simp⟩, fun o => by go_simp⟩
    · rw [hws]; show Below _ _ _; (repeat (first | (with_reducible exact Below.refl _ _) | (with_reducible assumption) | (with_reducible refine below_then ?_ (by assumption)) | (with_reducible refine Below.trans ?_ (by assumption)) | (with_reducible refine below_drewN ?_ _) | (with_reducible apply Below.drew) | (with_reducible refine below_alloc ?_ _) | refine Below.setCell ?_ (by first | (simp; done) | (simp; omega)) _))
  rw [← hb9]
  clear hws hb9
  try clear hb hk hT hsz
  go_loopw [10] (fun q10 wr => ∃ (k : Nat) (l : Lay), k ≤ N ∧ q10 = .int .i64 (k : Int) ∧ Hid (PV B wr b9 (plainPl W H t p k) l) ∧ Below B ws wr) (fun q10 _ => N - (intOf q10).toNat)
  case atStart => exact ⟨0, nilLay, Nat.zero_le _, rfl, HV.out, Below.refl _ _⟩
  case round =>
    obtain ⟨k, l, hkN, rfl, HPV, hB⟩ := hrel
    have hzr := hB.size
    obtain ⟨P, hP⟩ : ∃ P, P = plainPl W H t p k := ⟨_, rfl⟩
    have HP := Lib.hid hP
    rw [← hP] at HPV
    have HBW := Lib.hid hB
    by_cases hlt : k < N
    · have hlti : (k : Int) < (N : Int) := by omega
      have hlen : Hid (P.a.length = k ∧ P.b.length = k ∧ P.c.length = k ∧ P.d.length = k) := by show _ ∧ _; rw [hP]; simp [plainPl]
      have HKN : Hid (k ≤ 144) := by have := HN.out; show _ ≤ _; omega
      clear hP hB hzr
      have HZB : Hid (B ≤ ws.heap.size) := by have h1 := PV.lt HV.out; show _ ≤ _; omega
      have g0 := (HPV.out.1.1 0 _ rfl).1
      have f0 := (HPV.out.1.1 0 _ rfl).2
      have g1 := (HPV.out.1.1 1 _ rfl).1
      have f1 := (HPV.out.1.1 1 _ rfl).2
      have g2 := (HPV.out.1.1 2 _ rfl).1
      have f2 := (HPV.out.1.1 2 _ rfl).2
      have g3 := (HPV.out.1.1 3 _ rfl).1
      have f3 := (HPV.out.1.1 3 _ rfl).2
      have g4 := (HPV.out.1.1 4 _ rfl).1
      have f4 := (HPV.out.1.1 4 _ rfl).2
      have g5 := (HPV.out.1.1 5 _ rfl).1
      have f5 := (HPV.out.1.1 5 _ rfl).2
      have hb9z : b9 < wr.heap.size := PV.lt HPV.out
      go_wp2_with (first | (with_reducible refine at_list ?_; refine wpList_fop rfl rfl rfl rfl rfl ?_; intro r n hr0; have hr := hr0 _ _ (by first | with_reducible assumption | exact rfl) (by first | with_reducible assumption | exact rfl); clear hr0) | (with_reducible refine at_list ?_; refine wpList_neg rfl rfl rfl ?_; intro r hr0; have hr := hr0 _ (by first | with_reducible assumption | exact rfl); clear hr0) | (with_reducible refine at_list ?_; refine wpList_fop_g rfl rfl rfl rfl rfl ?_; intro r n hr0; have hr := hr0 _ _ (by first | with_reducible assumption | exact rfl) (by first | with_reducible assumption | exact rfl); clear hr0) | (with_reducible refine at_list ?_; refine wpList_wide_g rfl rfl Try.underlying33 Try.underlying37 rfl ?_; intro r n hr0; have hr := hr0 _ (by first | with_reducible assumption | exact rfl); clear hr0) | (with_reducible refine at_list ?_; refine wpList_wide rfl rfl rfl Try.underlying33 Try.underlying37 ?_; intro r n hr0; have hr := hr0 _ (by first | with_reducible assumption | exact rfl); clear hr0) | (at_builtin; refine stop_here ?_))
      unfold Stop
      refine wpL_named ?_
      intro w11 hw
      have hal : Below (wr).heap.size wr w11 := by rw [hw]; exact (Below.refl _ _).alloc (Nat.le_refl _) _
      have HVa := Lib.hid (PV.later HPV.out hal)
      have hc : w11.cell? ⟨(wr).heap.size, 0, none⟩ = some (.float .f32 t) := by rw [hw]; go_simp
      have HBa : Hid (Below B ws w11) := HBW.out.trans (hal.mono (Nat.le_trans HZB.out HBW.out.size))
      have HZa : Hid (B ≤ w11.heap.size) := Nat.le_trans HZB.out HBa.out.size
      clear hw hal g0 f0 g1 f1 g2 f2 g3 f3 g4 f4 g5 f5
      apply wpList_appQ (B := B) (xs := P.a) (v := .slice l.p1 P.a.length l.c1) (r := t)
      case hg => rfl
      case ho => rfl
      case hs => rfl
      case hx => rfl
      case hO => exact (PV.own HVa.out).1
      case hc => first | exact hc | (simpa using hc)
      case hn => have h8 := hlen.out; have h9 := HKN.out; omega
      case hB => exact HZa.out
      intro q1 c1 w21 hO hB2 hg hv
      have HV1 := Lib.hid (PV.app1 HVa.out hg hO hv)
      have hcl := PV.cells HVa.out (i := 0) (by omega) hg
      have HCL := Lib.hid hcl
      have HBW1 : Hid (Below B ws (w21.setCell ⟨b9, 2, none⟩ (.slice q1 (P.a.length + 1) c1))) := below_put (HBa.out.trans hB2) (Nat.le_trans HZa.out hB2.size) hBb
      have hb9z : b9 < w21.heap.size := Nat.lt_of_lt_of_le (PV.lt HVa.out) hB2.size
      clear hO hB2 hg hv hcl hc HVa HBa HZa
      have g0 := (HCL.out 0 _ rfl).1
      have f0 := (HCL.out 0 _ rfl).2
      have g1 := (HCL.out 1 _ rfl).1
      have f1 := (HCL.out 1 _ rfl).2
      have g2 := (HCL.out 2 _ rfl).1
      have f2 := (HCL.out 2 _ rfl).2
      have g3 := (HCL.out 3 _ rfl).1
      have f3 := (HCL.out 3 _ rfl).2
      have g4 := (HCL.out 4 _ rfl).1
      have f4 := (HCL.out 4 _ rfl).2
      have g5 := (HCL.out 5 _ rfl).1
      have f5 := (HCL.out 5 _ rfl).2
      go_wp2_with (first | (with_reducible refine at_list ?_; refine wpList_fop rfl rfl rfl rfl rfl ?_; intro r n hr0; have hr := hr0 _ _ (by first | with_reducible assumption | exact rfl) (by first | with_reducible assumption | exact rfl); clear hr0) | (with_reducible refine at_list ?_; refine wpList_neg rfl rfl rfl ?_; intro r hr0; have hr := hr0 _ (by first | with_reducible assumption | exact rfl); clear hr0) | (with_reducible refine at_list ?_; refine wpList_fop_g rfl rfl rfl rfl rfl ?_; intro r n hr0; have hr := hr0 _ _ (by first | with_reducible assumption | exact rfl) (by first | with_reducible assumption | exact rfl); clear hr0) | (with_reducible refine at_list ?_; refine wpList_wide_g rfl rfl Try.underlying33 Try.underlying37 rfl ?_; intro r n hr0; have hr := hr0 _ (by first | with_reducible assumption | exact rfl); clear hr0) | (with_reducible refine at_list ?_; refine wpList_wide rfl rfl rfl Try.underlying33 Try.underlying37 ?_; intro r n hr0; have hr := hr0 _ (by first | with_reducible assumption | exact rfl); clear hr0) | (at_builtin; refine stop_here ?_))
      unfold Stop
      refine wpL_named ?_
      intro w12 hw
      have hal : Below ((w21.setCell ⟨b9, 2, none⟩ (.slice q1 (P.a.length + 1) c1))).heap.size (w21.setCell ⟨b9, 2, none⟩ (.slice q1 (P.a.length + 1) c1)) w12 := by rw [hw]; exact (Below.refl _ _).alloc (Nat.le_refl _) _
      have HVa := Lib.hid (PV.later HV1.out hal)
      have hc : w12.cell? ⟨((w21.setCell ⟨b9, 2, none⟩ (.slice q1 (P.a.length + 1) c1))).heap.size, 0, none⟩ = some (.float .f32 p) := by rw [hw]; go_simp
      have HBa : Hid (Below B ws w12) := HBW1.out.trans (hal.mono (Nat.le_trans HZB.out HBW1.out.size))
      have HZa : Hid (B ≤ w12.heap.size) := Nat.le_trans HZB.out HBa.out.size
      clear hw hal g0 f0 g1 f1 g2 f2 g3 f3 g4 f4 g5 f5
      apply wpList_appQ (B := B) (xs := P.b) (v := .slice l.p2 P.b.length l.c2) (r := p)
      case hg => rfl
      case ho => rfl
      case hs => rfl
      case hx => rfl
      case hO => exact (PV.own HVa.out).2.1
      case hc => first | exact hc | (simpa using hc)
      case hn => have h8 := hlen.out; have h9 := HKN.out; omega
      case hB => exact HZa.out
      intro q2 c2 w22 hO hB2 hg hv
      have HV2 := Lib.hid (PV.app2 HVa.out hg hO hv)
      have hcl := PV.cells HVa.out (i := 1) (by omega) hg
      have HCL := Lib.hid hcl
      have HBW2 : Hid (Below B ws (w22.setCell ⟨b9, 3, none⟩ (.slice q2 (P.b.length + 1) c2))) := below_put (HBa.out.trans hB2) (Nat.le_trans HZa.out hB2.size) hBb
      have hb9z : b9 < w22.heap.size := Nat.lt_of_lt_of_le (PV.lt HVa.out) hB2.size
      clear hO hB2 hg hv hcl hc HVa HBa HZa
      have g0 := (HCL.out 0 _ rfl).1
      have f0 := (HCL.out 0 _ rfl).2
      have g1 := (HCL.out 1 _ rfl).1
      have f1 := (HCL.out 1 _ rfl).2
      have g2 := (HCL.out 2 _ rfl).1
      have f2 := (HCL.out 2 _ rfl).2
      have g3 := (HCL.out 3 _ rfl).1
      have f3 := (HCL.out 3 _ rfl).2
      have g4 := (HCL.out 4 _ rfl).1
      have f4 := (HCL.out 4 _ rfl).2
      have g5 := (HCL.out 5 _ rfl).1
      have f5 := (HCL.out 5 _ rfl).2
      go_wp2_with (first | (with_reducible refine at_list ?_; refine wpList_fop rfl rfl rfl rfl rfl ?_; intro r n hr0; have hr := hr0 _ _ (by first | with_reducible assumption | exact rfl) (by first | with_reducible assumption | exact rfl); clear hr0) | (with_reducible refine at_list ?_; refine wpList_neg rfl rfl rfl ?_; intro r hr0; have hr := hr0 _ (by first | with_reducible assumption | exact rfl); clear hr0) | (with_reducible refine at_list ?_; refine wpList_fop_g rfl rfl rfl rfl rfl ?_; intro r n hr0; have hr := hr0 _ _ (by first | with_reducible assumption | exact rfl) (by first | with_reducible assumption | exact rfl); clear hr0) | (with_reducible refine at_list ?_; refine wpList_wide_g rfl rfl Try.underlying33 Try.underlying37 rfl ?_; intro r n hr0; have hr := hr0 _ (by first | with_reducible assumption | exact rfl); clear hr0) | (with_reducible refine at_list ?_; refine wpList_wide rfl rfl rfl Try.underlying33 Try.underlying37 ?_; intro r n hr0; have hr := hr0 _ (by first | with_reducible assumption | exact rfl); clear hr0) | (at_builtin; refine stop_here ?_))
      unfold Stop
      refine wpL_named ?_
      intro w13 hw
      have hal : Below ((w22.setCell ⟨b9, 3, none⟩ (.slice q2 (P.b.length + 1) c2))).heap.size (w22.setCell ⟨b9, 3, none⟩ (.slice q2 (P.b.length + 1) c2)) w13 := by rw [hw]; exact (Below.refl _ _).alloc (Nat.le_refl _) _
      have HVa := Lib.hid (PV.later HV2.out hal)
      have hc : w13.cell? ⟨((w22.setCell ⟨b9, 3, none⟩ (.slice q2 (P.b.length + 1) c2))).heap.size, 0, none⟩ = some (.float .f32 0) := by rw [hw]; go_simp
      have HBa : Hid (Below B ws w13) := HBW2.out.trans (hal.mono (Nat.le_trans HZB.out HBW2.out.size))
      have HZa : Hid (B ≤ w13.heap.size) := Nat.le_trans HZB.out HBa.out.size
      clear hw hal g0 f0 g1 f1 g2 f2 g3 f3 g4 f4 g5 f5
      apply wpList_appQ (B := B) (xs := P.c) (v := .slice l.p3 P.c.length l.c3) (r := 0)
      case hg => rfl
      case ho => rfl
      case hs => rfl
      case hx => rfl
      case hO => exact (PV.own HVa.out).2.2.1
      case hc => first | exact hc | (simpa using hc)
      case hn => have h8 := hlen.out; have h9 := HKN.out; omega
      case hB => exact HZa.out
      intro q3 c3 w23 hO hB2 hg hv
      have HV3 := Lib.hid (PV.app3 HVa.out hg hO hv)
      have hcl := PV.cells HVa.out (i := 2) (by omega) hg
      have HCL := Lib.hid hcl
      have HBW3 : Hid (Below B ws (w23.setCell ⟨b9, 4, none⟩ (.slice q3 (P.c.length + 1) c3))) := below_put (HBa.out.trans hB2) (Nat.le_trans HZa.out hB2.size) hBb
      have hb9z : b9 < w23.heap.size := Nat.lt_of_lt_of_le (PV.lt HVa.out) hB2.size
      clear hO hB2 hg hv hcl hc HVa HBa HZa
      have g0 := (HCL.out 0 _ rfl).1
      have f0 := (HCL.out 0 _ rfl).2
      have g1 := (HCL.out 1 _ rfl).1
      have f1 := (HCL.out 1 _ rfl).2
      have g2 := (HCL.out 2 _ rfl).1
      have f2 := (HCL.out 2 _ rfl).2
      have g3 := (HCL.out 3 _ rfl).1
      have f3 := (HCL.out 3 _ rfl).2
      have g4 := (HCL.out 4 _ rfl).1
      have f4 := (HCL.out 4 _ rfl).2
      have g5 := (HCL.out 5 _ rfl).1
      have f5 := (HCL.out 5 _ rfl).2
      go_wp2_with (first | (with_reducible refine at_list ?_; refine wpList_fop rfl rfl rfl rfl rfl ?_; intro r n hr0; have hr := hr0 _ _ (by first | with_reducible assumption | exact rfl) (by first | with_reducible assumption | exact rfl); clear hr0) | (with_reducible refine at_list ?_; refine wpList_neg rfl rfl rfl ?_; intro r hr0; have hr := hr0 _ (by first | with_reducible assumption | exact rfl); clear hr0) | (with_reducible refine at_list ?_; refine wpList_fop_g rfl rfl rfl rfl rfl ?_; intro r n hr0; have hr := hr0 _ _ (by first | with_reducible assumption | exact rfl) (by first | with_reducible assumption | exact rfl); clear hr0) | (with_reducible refine at_list ?_; refine wpList_wide_g rfl rfl Try.underlying33 Try.underlying37 rfl ?_; intro r n hr0; have hr := hr0 _ (by first | with_reducible assumption | exact rfl); clear hr0) | (with_reducible refine at_list ?_; refine wpList_wide rfl rfl rfl Try.underlying33 Try.underlying37 ?_; intro r n hr0; have hr := hr0 _ (by first | with_reducible assumption | exact rfl); clear hr0) | (at_builtin; refine stop_here ?_))
      unfold Stop
      refine wpL_named ?_
      intro w14 hw
      have hal : Below ((w23.setCell ⟨b9, 4, none⟩ (.slice q3 (P.c.length + 1) c3))).heap.size (w23.setCell ⟨b9, 4, none⟩ (.slice q3 (P.c.length + 1) c3)) w14 := by rw [hw]; exact (Below.refl _ _).alloc (Nat.le_refl _) _
      have HVa := Lib.hid (PV.later HV3.out hal)
      have hc : w14.cell? ⟨((w23.setCell ⟨b9, 4, none⟩ (.slice q3 (P.c.length + 1) c3))).heap.size, 0, none⟩ = some (.bool false) := by rw [hw]; go_simp
      have HBa : Hid (Below B ws w14) := HBW3.out.trans (hal.mono (Nat.le_trans HZB.out HBW3.out.size))
      have HZa : Hid (B ≤ w14.heap.size) := Nat.le_trans HZB.out HBa.out.size
      clear hw hal g0 f0 g1 f1 g2 f2 g3 f3 g4 f4 g5 f5
      apply wpList_appQB (B := B) (xs := P.d) (v := .slice l.p4 P.d.length l.c4) (r := false)
      case hg => rfl
      case ho => rfl
      case hs => rfl
      case hx => rfl
      case hO => exact (PV.own HVa.out).2.2.2
      case hc => first | exact hc | (simpa using hc)
      case hn => have h8 := hlen.out; have h9 := HKN.out; omega
      case hB => exact HZa.out
      intro q4 c4 w24 hO hB2 hg hv
      have HV4 := Lib.hid (PV.app4 HVa.out hg hO hv)
      have hcl := PV.cells HVa.out (i := 3) (by omega) hg
      have HCL := Lib.hid hcl
      have HBW4 : Hid (Below B ws (w24.setCell ⟨b9, 5, none⟩ (.slice q4 (P.d.length + 1) c4))) := below_put (HBa.out.trans hB2) (Nat.le_trans HZa.out hB2.size) hBb
      have hb9z : b9 < w24.heap.size := Nat.lt_of_lt_of_le (PV.lt HVa.out) hB2.size
      clear hO hB2 hg hv hcl hc HVa HBa HZa
      have g0 := (HCL.out 0 _ rfl).1
      have f0 := (HCL.out 0 _ rfl).2
      have g1 := (HCL.out 1 _ rfl).1
      have f1 := (HCL.out 1 _ rfl).2
      have g2 := (HCL.out 2 _ rfl).1
      have f2 := (HCL.out 2 _ rfl).2
      have g3 := (HCL.out 3 _ rfl).1
      have f3 := (HCL.out 3 _ rfl).2
      have g4 := (HCL.out 4 _ rfl).1
      have f4 := (HCL.out 4 _ rfl).2
      have g5 := (HCL.out 5 _ rfl).1
      have f5 := (HCL.out 5 _ rfl).2
      go_wp2_with (first | (with_reducible refine at_list ?_; refine wpList_fop rfl rfl rfl rfl rfl ?_; intro r n hr0; have hr := hr0 _ _ (by first | with_reducible assumption | exact rfl) (by first | with_reducible assumption | exact rfl); clear hr0) | (with_reducible refine at_list ?_; refine wpList_neg rfl rfl rfl ?_; intro r hr0; have hr := hr0 _ (by first | with_reducible assumption | exact rfl); clear hr0) | (with_reducible refine at_list ?_; refine wpList_fop_g rfl rfl rfl rfl rfl ?_; intro r n hr0; have hr := hr0 _ _ (by first | with_reducible assumption | exact rfl) (by first | with_reducible assumption | exact rfl); clear hr0) | (with_reducible refine at_list ?_; refine wpList_wide_g rfl rfl Try.underlying33 Try.underlying37 rfl ?_; intro r n hr0; have hr := hr0 _ (by first | with_reducible assumption | exact rfl); clear hr0) | (with_reducible refine at_list ?_; refine wpList_wide rfl rfl rfl Try.underlying33 Try.underlying37 ?_; intro r n hr0; have hr := hr0 _ (by first | with_reducible assumption | exact rfl); clear hr0))
      have HE : Hid ((⟨P.W, P.H, P.a ++ [t], P.b ++ [p], P.c ++ [0], P.d ++ [false]⟩ : Pl) = plainPl W H t p (k + 1)) := by show _ = _; rw [HP.out]; exact plain_step W H t p k
      have HPV9 : Hid (PV B (w24.setCell ⟨b9, 5, none⟩ (.slice q4 (P.d.length + 1) c4)) b9 (plainPl W H t p (k + 1)) ⟨q1, c1, q2, c2, q3, c3, q4, c4⟩) := by show PV _ _ _ _ _; rw [← HE.out]; exact HV4.out
      go_roundw
      case rel => exact ⟨k + 1, _, by omega, by go_num, HPV9.out, HBW4.out⟩
      case measure => simp [intOf]; omega
      all_goals first | kernel_rfl | rfl
    · have hlti : ¬ (k : Int) < (N : Int) := by omega
      have hke : k = N := by omega
      subst hke
      rw [hP] at HPV
      obtain ⟨⟨r0, r1, r2, r3, r4, r5⟩, rf⟩ := HR6.out
      have r0 := (hB.cell (p := ⟨w.heap.size, 0, none⟩) hwB).trans r0
      have r1 := (hB.cell (p := ⟨w.heap.size, 1, none⟩) hwB).trans r1
      have r2 := (hB.cell (p := ⟨w.heap.size, 2, none⟩) hwB).trans r2
      have r3 := (hB.cell (p := ⟨w.heap.size, 3, none⟩) hwB).trans r3
      have r4 := (hB.cell (p := ⟨w.heap.size, 4, none⟩) hwB).trans r4
      have r5 := (hB.cell (p := ⟨w.heap.size, 5, none⟩) hwB).trans r5
      have rf : ∀ o, wr.frozen? ⟨w.heap.size, o, none⟩ = false := fun o => (hB.frozen (p := ⟨w.heap.size, o, none⟩) hwB).trans (rf o)
      have hPV := HPV.out
      have g0 := (HPV.out.1.1 0 _ rfl).1
      have f0 := (HPV.out.1.1 0 _ rfl).2
      have g1 := (HPV.out.1.1 1 _ rfl).1
      have f1 := (HPV.out.1.1 1 _ rfl).2
      have g2 := (HPV.out.1.1 2 _ rfl).1
      have f2 := (HPV.out.1.1 2 _ rfl).2
      have g3 := (HPV.out.1.1 3 _ rfl).1
      have f3 := (HPV.out.1.1 3 _ rfl).2
      have g4 := (HPV.out.1.1 4 _ rfl).1
      have f4 := (HPV.out.1.1 4 _ rfl).2
      have g5 := (HPV.out.1.1 5 _ rfl).1
      have f5 := (HPV.out.1.1 5 _ rfl).2
      have hb9z : b9 < wr.heap.size := PV.lt HPV.out
      have hT : Trk wr [w.heap.size, b9] := ((Trk.nil wr).more hb9z).more (by omega)
      have hBr : Below w.heap.size w wr := HBS.out.trans (HBW.out.mono (by omega))
      have HX : Hid (PX w.heap.size (wr.setCells w.heap.size 0 (plC (plainPl W H t p k) l)).heap.size (wr.setCells w.heap.size 0 (plC (plainPl W H t p k) l)) (plainPl W H t p k) l) := by
        have hgs := grown_setCells w.heap.size (plC (plainPl W H t p k) l) 0 wr
        obtain ⟨a1, a2, a3, a4, a5, a6⟩ := HPV.out.apart
        obtain ⟨o1, o2, o3, o4⟩ := HPV.out.own
        have ne : ∀ {v : Value} {xs : List Nat}, OF B wr v xs → v.ownBlock = none ∨ v.ownBlock ≠ some w.heap.size := fun {v xs} ho => by
          cases hu : v.ownBlock with
          | none => exact .inl rfl
          | some kk => exact .inr fun e => by have h9 := (ho.block kk hu).1; cases e; omega
        have ne4 : (Value.slice l.p4 (plainPl W H t p k).d.length l.c4).ownBlock = none ∨ (Value.slice l.p4 (plainPl W H t p k).d.length l.c4).ownBlock ≠ some w.heap.size := by
          cases hu : (Value.slice l.p4 (plainPl W H t p k).d.length l.c4).ownBlock with
          | none => exact .inl rfl
          | some kk => exact .inr fun e => by have h9 := (o4.block kk hu).1; cases e; omega
        exact PX.mk' (Pl.own.base ⟨o1.kept hgs (ne o1), o2.kept hgs (ne o2), o3.kept hgs (ne o3), o4.kept hgs ne4⟩ (by omega)) a1 a2 a3 a4 a5 a6
      clear hPV hB hP
      go_wp2_with (first | (with_reducible refine at_list ?_; refine wpList_fop rfl rfl rfl rfl rfl ?_; intro r n hr0; have hr := hr0 _ _ (by first | with_reducible assumption | exact rfl) (by first | with_reducible assumption | exact rfl); clear hr0) | (with_reducible refine at_list ?_; refine wpList_neg rfl rfl rfl ?_; intro r hr0; have hr := hr0 _ (by first | with_reducible assumption | exact rfl); clear hr0) | (with_reducible refine at_list ?_; refine wpList_fop_g rfl rfl rfl rfl rfl ?_; intro r n hr0; have hr := hr0 _ _ (by first | with_reducible assumption | exact rfl) (by first | with_reducible assumption | exact rfl); clear hr0) | (with_reducible refine at_list ?_; refine wpList_wide_g rfl rfl Try.underlying33 Try.underlying37 rfl ?_; intro r n hr0; have hr := hr0 _ (by first | with_reducible assumption | exact rfl); clear hr0) | (with_reducible refine at_list ?_; refine wpList_wide rfl rfl rfl Try.underlying33 Try.underlying37 ?_; intro r n hr0; have hr := hr0 _ (by first | with_reducible assumption | exact rfl); clear hr0))
      refine bodyPost_ret (v := .agg #[.int .i64 (plainPl W H t p k).W, .int .i64 (plainPl W H t p k).H, .slice l.p1 (plainPl W H t p k).a.length l.c1, .slice l.p2 (plainPl W H t p k).b.length l.c2, .slice l.p3 (plainPl W H t p k).c.length l.c3, .slice l.p4 (plainPl W H t p k).d.length l.c4]) (by simp [results, Try.results68, go_sem, *]) rfl ?_
      exact ⟨l, rfl, by (repeat (first | (with_reducible exact Below.refl _ _) | (with_reducible assumption) | (with_reducible refine below_then ?_ (by assumption)) | (with_reducible refine Below.trans ?_ (by assumption)) | (with_reducible refine below_drewN ?_ _) | (with_reducible apply Below.drew) | (with_reducible refine below_alloc ?_ _) | refine Below.setCell ?_ (by first | (simp; done) | (simp; omega)) _)), HX.out⟩
set_option maxHeartbeats 1000000 in
theorem l04Give_yes (P : Pl) (l : Lay) (w : World) (hs : P.fs w l) (h0 : P.ok = true) : Calls Try.prog 67 #[.agg #[.int .i64 P.W, .int .i64 P.H, .slice l.p1 P.a.length l.c1, .slice l.p2 P.b.length l.c2, .slice l.p3 P.c.length l.c3, .slice l.p4 P.d.length l.c4]] w (BV w (.tuple #[.agg #[.int .i64 P.W, .int .i64 P.H, .slice l.p1 P.a.length l.c1, .slice l.p2 P.b.length l.c2, .slice l.p3 P.c.length l.c3, .slice l.p4 P.d.length l.c4], .bool true])) := by
  have HV := Lib.hid (fun b o w h1 h2 => l04Is_any P l b o w h1 h2)
  rw [h0] at HV
  have HS := Lib.hid hs
  clear hs h0
  go_enter Try.func67, Try.ntmps67
  go_wp2_with (first | (with_reducible refine at_list ?_; refine wpList_fop rfl rfl rfl rfl rfl ?_; intro r n hr0; have hr := hr0 _ _ (by first | with_reducible assumption | exact rfl) (by first | with_reducible assumption | exact rfl); clear hr0) | (with_reducible refine at_list ?_; refine wpList_neg rfl rfl rfl ?_; intro r hr0; have hr := hr0 _ (by first | with_reducible assumption | exact rfl); clear hr0) | (with_reducible refine at_list ?_; refine wpList_fop_g rfl rfl rfl rfl rfl ?_; intro r n hr0; have hr := hr0 _ _ (by first | with_reducible assumption | exact rfl) (by first | with_reducible assumption | exact rfl); clear hr0) | (with_reducible refine at_list ?_; refine wpList_wide_g rfl rfl Try.underlying33 Try.underlying37 rfl ?_; intro r n hr0; have hr := hr0 _ (by first | with_reducible assumption | exact rfl); clear hr0) | (with_reducible refine at_list ?_; refine wpList_wide rfl rfl rfl Try.underlying33 Try.underlying37 ?_; intro r n hr0; have hr := hr0 _ (by first | with_reducible assumption | exact rfl); clear hr0) | (go_at_call 51; refine ((HV.out _ _ _ (by unfold PlAt; refine ⟨?_, ?_, ?_, ?_, ?_, ?_⟩ <;> go_simp) (HS.out.later (by (repeat (first | (with_reducible exact Below.refl _ _) | (with_reducible assumption) | (with_reducible refine below_then ?_ (by assumption)) | (with_reducible refine Below.trans ?_ (by assumption)) | (with_reducible refine below_drewN ?_ _) | (with_reducible apply Below.drew) | (with_reducible refine below_alloc ?_ _) | refine Below.setCell ?_ (by first | (simp; done) | (simp; omega)) _))))) ).mono ?_; rintro e w' ⟨rfl, n, rfl⟩))
  all_goals
    refine bodyPost_ret (v := .tuple #[.agg #[.int .i64 P.W, .int .i64 P.H, .slice l.p1 P.a.length l.c1, .slice l.p2 P.b.length l.c2, .slice l.p3 P.c.length l.c3, .slice l.p4 P.d.length l.c4], .bool true]) (by simp [results, Try.results67, go_sem, *]) rfl ?_
    exact ⟨rfl, by (repeat (first | (with_reducible exact Below.refl _ _) | (with_reducible assumption) | (with_reducible refine below_then ?_ (by assumption)) | (with_reducible refine Below.trans ?_ (by assumption)) | (with_reducible refine below_drewN ?_ _) | (with_reducible apply Below.drew) | (with_reducible refine below_alloc ?_ _) | refine Below.setCell ?_ (by first | (simp; done) | (simp; omega)) _))⟩
set_option maxHeartbeats 1000000 in
theorem l04Give_no (P : Pl) (l : Lay) (w : World) (hs : P.fs w l) (h0 : P.ok = false) : Calls Try.prog 67 #[.agg #[.int .i64 P.W, .int .i64 P.H, .slice l.p1 P.a.length l.c1, .slice l.p2 P.b.length l.c2, .slice l.p3 P.c.length l.c3, .slice l.p4 P.d.length l.c4]] w (BV w (.tuple #[.agg #[.int .i64 0, .int .i64 0, .slice none 0 0, .slice none 0 0, .slice none 0 0, .slice none 0 0], .bool false])) := by
  have HV := Lib.hid (fun b o w h1 h2 => l04Is_any P l b o w h1 h2)
  rw [h0] at HV
  have HS := Lib.hid hs
  clear hs h0
  go_enter Try.func67, Try.ntmps67
  go_wp2_with (first | (with_reducible refine at_list ?_; refine wpList_fop rfl rfl rfl rfl rfl ?_; intro r n hr0; have hr := hr0 _ _ (by first | with_reducible assumption | exact rfl) (by first | with_reducible assumption | exact rfl); clear hr0) | (with_reducible refine at_list ?_; refine wpList_neg rfl rfl rfl ?_; intro r hr0; have hr := hr0 _ (by first | with_reducible assumption | exact rfl); clear hr0) | (with_reducible refine at_list ?_; refine wpList_fop_g rfl rfl rfl rfl rfl ?_; intro r n hr0; have hr := hr0 _ _ (by first | with_reducible assumption | exact rfl) (by first | with_reducible assumption | exact rfl); clear hr0) | (with_reducible refine at_list ?_; refine wpList_wide_g rfl rfl Try.underlying33 Try.underlying37 rfl ?_; intro r n hr0; have hr := hr0 _ (by first | with_reducible assumption | exact rfl); clear hr0) | (with_reducible refine at_list ?_; refine wpList_wide rfl rfl rfl Try.underlying33 Try.underlying37 ?_; intro r n hr0; have hr := hr0 _ (by first | with_reducible assumption | exact rfl); clear hr0) | (go_at_call 51; refine ((HV.out _ _ _ (by unfold PlAt; refine ⟨?_, ?_, ?_, ?_, ?_, ?_⟩ <;> go_simp) (HS.out.later (by (repeat (first | (with_reducible exact Below.refl _ _) | (with_reducible assumption) | (with_reducible refine below_then ?_ (by assumption)) | (with_reducible refine Below.trans ?_ (by assumption)) | (with_reducible refine below_drewN ?_ _) | (with_reducible apply Below.drew) | (with_reducible refine below_alloc ?_ _) | refine Below.setCell ?_ (by first | (simp; done) | (simp; omega)) _))))) ).mono ?_; rintro e w' ⟨rfl, n, rfl⟩))
  all_goals
    refine bodyPost_ret (v := .tuple #[.agg #[.int .i64 0, .int .i64 0, .slice none 0 0, .slice none 0 0, .slice none 0 0, .slice none 0 0], .bool false]) (by simp [results, Try.results67, go_sem, *]) rfl ?_
    exact ⟨rfl, by (repeat (first | (with_reducible exact Below.refl _ _) | (with_reducible assumption) | (with_reducible refine below_then ?_ (by assumption)) | (with_reducible refine Below.trans ?_ (by assumption)) | (with_reducible refine below_drewN ?_ _) | (with_reducible apply Below.drew) | (with_reducible refine below_alloc ?_ _) | refine Below.setCell ?_ (by first | (simp; done) | (simp; omega)) _))⟩
set_option maxHeartbeats 4000000 in
set_option maxRecDepth 100000 in
theorem specPlain_any (W H : Int) (t p : Nat) (w : World) : Calls Try.prog 29 #[.int .i64 W, .int .i64 H, .float .f32 t, .float .f32 p] w (BPB w (okP (plB W H t p) (plainPl W H t p (W * H).toNat)) (plB W H t p)) := by
  rcases h1 : inB W 1 12
  · have HE : Hid (plB W H t p = false) := plB_no (.inl h1)
    go_enter Try.func29, Try.ntmps29
    go_wp2_with (first | (with_reducible refine at_list ?_; refine wpList_fop rfl rfl rfl rfl rfl ?_; intro r n hr0; have hr := hr0 _ _ (by first | with_reducible assumption | exact rfl) (by first | with_reducible assumption | exact rfl); clear hr0) | (with_reducible refine at_list ?_; refine wpList_neg rfl rfl rfl ?_; intro r hr0; have hr := hr0 _ (by first | with_reducible assumption | exact rfl); clear hr0) | (with_reducible refine at_list ?_; refine wpList_fop_g rfl rfl rfl rfl rfl ?_; intro r n hr0; have hr := hr0 _ _ (by first | with_reducible assumption | exact rfl) (by first | with_reducible assumption | exact rfl); clear hr0) | (with_reducible refine at_list ?_; refine wpList_wide_g rfl rfl Try.underlying33 Try.underlying37 rfl ?_; intro r n hr0; have hr := hr0 _ (by first | with_reducible assumption | exact rfl); clear hr0) | (with_reducible refine at_list ?_; refine wpList_wide rfl rfl rfl Try.underlying33 Try.underlying37 ?_; intro r n hr0; have hr := hr0 _ (by first | with_reducible assumption | exact rfl); clear hr0) | (go_at_call 66; refine (l00In_any _ _ _ _).mono ?_; rintro e w' ⟨rfl, n, rfl⟩))
    all_goals
      refine bodyPost_ret (v := .tuple #[.agg #[.int .i64 0, .int .i64 0, .slice none 0 0, .slice none 0 0, .slice none 0 0, .slice none 0 0], .bool false]) (by simp [results, Try.results29, go_sem, *]) rfl ?_
      exact bpb_no rfl (by (repeat (first | (with_reducible exact Below.refl _ _) | (with_reducible assumption) | (with_reducible refine below_then ?_ (by assumption)) | (with_reducible refine Below.trans ?_ (by assumption)) | (with_reducible refine below_drewN ?_ _) | (with_reducible apply Below.drew) | (with_reducible refine below_alloc ?_ _) | refine Below.setCell ?_ (by first | (simp; done) | (simp; omega)) _))) HE.out
  rcases h2 : inB H 1 12
  · have HE : Hid (plB W H t p = false) := plB_no (.inr h2)
    go_enter Try.func29, Try.ntmps29
    go_wp2_with (first | (with_reducible refine at_list ?_; refine wpList_fop rfl rfl rfl rfl rfl ?_; intro r n hr0; have hr := hr0 _ _ (by first | with_reducible assumption | exact rfl) (by first | with_reducible assumption | exact rfl); clear hr0) | (with_reducible refine at_list ?_; refine wpList_neg rfl rfl rfl ?_; intro r hr0; have hr := hr0 _ (by first | with_reducible assumption | exact rfl); clear hr0) | (with_reducible refine at_list ?_; refine wpList_fop_g rfl rfl rfl rfl rfl ?_; intro r n hr0; have hr := hr0 _ _ (by first | with_reducible assumption | exact rfl) (by first | with_reducible assumption | exact rfl); clear hr0) | (with_reducible refine at_list ?_; refine wpList_wide_g rfl rfl Try.underlying33 Try.underlying37 rfl ?_; intro r n hr0; have hr := hr0 _ (by first | with_reducible assumption | exact rfl); clear hr0) | (with_reducible refine at_list ?_; refine wpList_wide rfl rfl rfl Try.underlying33 Try.underlying37 ?_; intro r n hr0; have hr := hr0 _ (by first | with_reducible assumption | exact rfl); clear hr0) | (go_at_call 66; refine (l00In_any _ _ _ _).mono ?_; rintro e w' ⟨rfl, n, rfl⟩))
    all_goals
      refine bodyPost_ret (v := .tuple #[.agg #[.int .i64 0, .int .i64 0, .slice none 0 0, .slice none 0 0, .slice none 0 0, .slice none 0 0], .bool false]) (by simp [results, Try.results29, go_sem, *]) rfl ?_
      exact bpb_no rfl (by (repeat (first | (with_reducible exact Below.refl _ _) | (with_reducible assumption) | (with_reducible refine below_then ?_ (by assumption)) | (with_reducible refine Below.trans ?_ (by assumption)) | (with_reducible refine below_drewN ?_ _) | (with_reducible apply Below.drew) | (with_reducible refine below_alloc ?_ _) | refine Below.setCell ?_ (by first | (simp; done) | (simp; omega)) _))) HE.out
  have hm := side_mul h1 h2
  obtain ⟨N, hN⟩ : ∃ N : Nat, N = (W * H).toNat := ⟨_, rfl⟩
  have HPL := Lib.hid (fun w => l04Plain_any W H t p N w (by omega) (by omega))
  rw [plB_yes h1 h2, ← hN]
  obtain ⟨P, hP⟩ : ∃ P, P = plainPl W H t p N := ⟨_, rfl⟩
  have HW : Hid (P.W = W ∧ P.H = H) := by show _ ∧ _; rw [hP]; exact ⟨rfl, rfl⟩
  rw [← hP] at HPL ⊢
  rcases hb0 : P.ok
  · have HG := Lib.hid (fun l w h => l04Give_no P l w h hb0)
    clear hm hN hP hb0
    go_enter Try.func29, Try.ntmps29
    go_wp2_with (first | (with_reducible refine at_list ?_; refine wpList_fop rfl rfl rfl rfl rfl ?_; intro r n hr0; have hr := hr0 _ _ (by first | with_reducible assumption | exact rfl) (by first | with_reducible assumption | exact rfl); clear hr0) | (with_reducible refine at_list ?_; refine wpList_neg rfl rfl rfl ?_; intro r hr0; have hr := hr0 _ (by first | with_reducible assumption | exact rfl); clear hr0) | (with_reducible refine at_list ?_; refine wpList_fop_g rfl rfl rfl rfl rfl ?_; intro r n hr0; have hr := hr0 _ _ (by first | with_reducible assumption | exact rfl) (by first | with_reducible assumption | exact rfl); clear hr0) | (with_reducible refine at_list ?_; refine wpList_wide_g rfl rfl Try.underlying33 Try.underlying37 rfl ?_; intro r n hr0; have hr := hr0 _ (by first | with_reducible assumption | exact rfl); clear hr0) | (with_reducible refine at_list ?_; refine wpList_wide rfl rfl rfl Try.underlying33 Try.underlying37 ?_; intro r n hr0; have hr := hr0 _ (by first | with_reducible assumption | exact rfl); clear hr0) | (go_at_call 68; refine stop_here ?_) | (go_at_call 66; refine (l00In_any _ _ _ _).mono ?_; rintro e w' ⟨rfl, n, rfl⟩))
    unfold Stop
    refine (HPL.out _).mono ?_
    rintro e w' ⟨l, rfl, hb, hX⟩
    obtain ⟨hT, hk⟩ := bv_next hb (by (repeat (with_reducible first | assumption | apply Trk.alloc | apply Trk.setCell | apply Trk.drewN | apply Trk.drew | exact Trk.nil _))); simp only [SameOn, World.size_alloc, World.size_setCell, World.size_drew, size_drewN', and_true] at hk; have hsz := Below.size hb; (try simp only [World.size_alloc, World.size_setCell, World.size_drew, size_drewN'] at hsz)
    have HX := Lib.hid hX
    clear hX
    go_wp2_with (first | (with_reducible refine at_list ?_; refine wpList_fop rfl rfl rfl rfl rfl ?_; intro r n hr0; have hr := hr0 _ _ (by first | with_reducible assumption | exact rfl) (by first | with_reducible assumption | exact rfl); clear hr0) | (with_reducible refine at_list ?_; refine wpList_neg rfl rfl rfl ?_; intro r hr0; have hr := hr0 _ (by first | with_reducible assumption | exact rfl); clear hr0) | (with_reducible refine at_list ?_; refine wpList_fop_g rfl rfl rfl rfl rfl ?_; intro r n hr0; have hr := hr0 _ _ (by first | with_reducible assumption | exact rfl) (by first | with_reducible assumption | exact rfl); clear hr0) | (with_reducible refine at_list ?_; refine wpList_wide_g rfl rfl Try.underlying33 Try.underlying37 rfl ?_; intro r n hr0; have hr := hr0 _ (by first | with_reducible assumption | exact rfl); clear hr0) | (with_reducible refine at_list ?_; refine wpList_wide rfl rfl rfl Try.underlying33 Try.underlying37 ?_; intro r n hr0; have hr := hr0 _ (by first | with_reducible assumption | exact rfl); clear hr0) | (go_at_call 66; refine (l00In_any _ _ _ _).mono ?_; rintro e w' ⟨rfl, n, rfl⟩) | (go_at_call 67; refine ((HG.out l _ (HX.out.fs.later (by (repeat (first | (with_reducible exact Below.refl _ _) | (with_reducible assumption) | (with_reducible refine below_then ?_ (by assumption)) | (with_reducible refine Below.trans ?_ (by assumption)) | (with_reducible refine below_drewN ?_ _) | (with_reducible apply Below.drew) | (with_reducible refine below_alloc ?_ _) | refine Below.setCell ?_ (by first | (simp; done) | (simp; omega)) _))))) ).mono ?_; rintro e w' ⟨rfl, hb⟩; obtain ⟨hT, hk⟩ := bv_next hb (by (repeat (with_reducible first | assumption | apply Trk.alloc | apply Trk.setCell | apply Trk.drewN | apply Trk.drew | exact Trk.nil _))); simp only [SameOn, World.size_alloc, World.size_setCell, World.size_drew, size_drewN', and_true] at hk; have hsz := Below.size hb; (try simp only [World.size_alloc, World.size_setCell, World.size_drew, size_drewN'] at hsz)))
    refine bodyPost_ret (v := .tuple #[.agg #[.int .i64 0, .int .i64 0, .slice none 0 0, .slice none 0 0, .slice none 0 0, .slice none 0 0], .bool false]) (by simp [results, Try.results29, go_sem, *]) rfl ?_
    exact bpb_no rfl (by (repeat (first | (with_reducible exact Below.refl _ _) | (with_reducible assumption) | (with_reducible refine below_then ?_ (by assumption)) | (with_reducible refine Below.trans ?_ (by assumption)) | (with_reducible refine below_drewN ?_ _) | (with_reducible apply Below.drew) | (with_reducible refine below_alloc ?_ _) | refine Below.setCell ?_ (by first | (simp; done) | (simp; omega)) _))) rfl
  · have HG := Lib.hid (fun l w h => l04Give_yes P l w h hb0)
    clear hm hN hP hb0
    go_enter Try.func29, Try.ntmps29
    go_wp2_with (first | (with_reducible refine at_list ?_; refine wpList_fop rfl rfl rfl rfl rfl ?_; intro r n hr0; have hr := hr0 _ _ (by first | with_reducible assumption | exact rfl) (by first | with_reducible assumption | exact rfl); clear hr0) | (with_reducible refine at_list ?_; refine wpList_neg rfl rfl rfl ?_; intro r hr0; have hr := hr0 _ (by first | with_reducible assumption | exact rfl); clear hr0) | (with_reducible refine at_list ?_; refine wpList_fop_g rfl rfl rfl rfl rfl ?_; intro r n hr0; have hr := hr0 _ _ (by first | with_reducible assumption | exact rfl) (by first | with_reducible assumption | exact rfl); clear hr0) | (with_reducible refine at_list ?_; refine wpList_wide_g rfl rfl Try.underlying33 Try.underlying37 rfl ?_; intro r n hr0; have hr := hr0 _ (by first | with_reducible assumption | exact rfl); clear hr0) | (with_reducible refine at_list ?_; refine wpList_wide rfl rfl rfl Try.underlying33 Try.underlying37 ?_; intro r n hr0; have hr := hr0 _ (by first | with_reducible assumption | exact rfl); clear hr0) | (go_at_call 68; refine stop_here ?_) | (go_at_call 66; refine (l00In_any _ _ _ _).mono ?_; rintro e w' ⟨rfl, n, rfl⟩))
    unfold Stop
    refine (HPL.out _).mono ?_
    rintro e w' ⟨l, rfl, hb, hX⟩
    simp only [World.size_alloc, World.size_setCell, World.size_drew, size_drewN'] at hX
    obtain ⟨hT, hk⟩ := bv_next hb (by (repeat (with_reducible first | assumption | apply Trk.alloc | apply Trk.setCell | apply Trk.drewN | apply Trk.drew | exact Trk.nil _))); simp only [SameOn, World.size_alloc, World.size_setCell, World.size_drew, size_drewN', and_true] at hk; have hsz := Below.size hb; (try simp only [World.size_alloc, World.size_setCell, World.size_drew, size_drewN'] at hsz)
    have HXF : Hid (P.fs w' l) := hX.fs
    rename World => w1
    go_wp2_with (first | (with_reducible refine at_list ?_; refine wpList_fop rfl rfl rfl rfl rfl ?_; intro r n hr0; have hr := hr0 _ _ (by first | with_reducible assumption | exact rfl) (by first | with_reducible assumption | exact rfl); clear hr0) | (with_reducible refine at_list ?_; refine wpList_neg rfl rfl rfl ?_; intro r hr0; have hr := hr0 _ (by first | with_reducible assumption | exact rfl); clear hr0) | (with_reducible refine at_list ?_; refine wpList_fop_g rfl rfl rfl rfl rfl ?_; intro r n hr0; have hr := hr0 _ _ (by first | with_reducible assumption | exact rfl) (by first | with_reducible assumption | exact rfl); clear hr0) | (with_reducible refine at_list ?_; refine wpList_wide_g rfl rfl Try.underlying33 Try.underlying37 rfl ?_; intro r n hr0; have hr := hr0 _ (by first | with_reducible assumption | exact rfl); clear hr0) | (with_reducible refine at_list ?_; refine wpList_wide rfl rfl rfl Try.underlying33 Try.underlying37 ?_; intro r n hr0; have hr := hr0 _ (by first | with_reducible assumption | exact rfl); clear hr0) | (go_at_call 66; refine (l00In_any _ _ _ _).mono ?_; rintro e w' ⟨rfl, n, rfl⟩) | (go_at_call 67; refine ((HG.out l _ (HXF.out.later (by (repeat (first | (with_reducible exact Below.refl _ _) | (with_reducible assumption) | (with_reducible refine below_then ?_ (by assumption)) | (with_reducible refine Below.trans ?_ (by assumption)) | (with_reducible refine below_drewN ?_ _) | (with_reducible apply Below.drew) | (with_reducible refine below_alloc ?_ _) | refine Below.setCell ?_ (by first | (simp; done) | (simp; omega)) _))))) ).mono ?_; rintro e w' ⟨rfl, hb⟩; obtain ⟨hT, hk⟩ := bv_next hb (by (repeat (with_reducible first | assumption | apply Trk.alloc | apply Trk.setCell | apply Trk.drewN | apply Trk.drew | exact Trk.nil _))); simp only [SameOn, World.size_alloc, World.size_setCell, World.size_drew, size_drewN', and_true] at hk; have hsz := Below.size hb; (try simp only [World.size_alloc, World.size_setCell, World.size_drew, size_drewN'] at hsz)))
    refine bodyPost_ret (v := .tuple #[.agg #[.int .i64 P.W, .int .i64 P.H, .slice l.p1 P.a.length l.c1, .slice l.p2 P.b.length l.c2, .slice l.p3 P.c.length l.c3, .slice l.p4 P.d.length l.c4], .bool true]) (by simp [results, Try.results29, go_sem, *]) rfl ?_
    refine ⟨l, rfl, by (repeat (first | (with_reducible exact Below.refl _ _) | (with_reducible assumption) | (with_reducible refine below_then ?_ (by assumption)) | (with_reducible refine Below.trans ?_ (by assumption)) | (with_reducible refine below_drewN ?_ _) | (with_reducible apply Below.drew) | (with_reducible refine below_alloc ?_ _) | refine Below.setCell ?_ (by first | (simp; done) | (simp; omega)) _)), ?_⟩
    have hX2 : PX (w.heap.size + 1) w1.heap.size w' P l := PX.later hX hb
    have hlt : ∀ j, (⟨w.heap.size, j, none⟩ : Addr).block < w.heap.size + 1 ∨ w1.heap.size ≤ (⟨w.heap.size, j, none⟩ : Addr).block := fun j => .inl (Nat.lt_succ_self _)
    exact PX.base (PX.setCell (PX.setCell (PX.setCell (PX.setCell (PX.setCell (PX.setCell hX2 (hlt _) _) (hlt _) _) (hlt _) _) (hlt _) _) (hlt _) _) (hlt _) _) (by omega) (by simp only [World.size_setCell]; omega)
end Go.Proofs.Ythdmamcbceblpaa

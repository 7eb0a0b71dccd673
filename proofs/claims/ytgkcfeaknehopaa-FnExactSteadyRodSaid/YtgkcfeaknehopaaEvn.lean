/-
  Rods that are as warm everywhere: the program's way and the reference's. No condition but what each contract says.
-/
import Derived.Test.YtgkcfeaknehopaaRep
import Derived.Test.YtgkcfeaknehopaaWw
import Derived.Test.YtgkcfeaknehopaaOwn
import Derived.Test.YtgkcfeaknehopaaOkR
import Derived.Test.YtgkcfeaknehopaaRdL
set_option linter.unusedSimpArgs false
set_option linter.unusedVariables false
set_option linter.unusedSectionVars false
namespace Go.Proofs.Ytgkcfeaknehopaa
open Go Go.RowKit
open Go.ChangeShapes Go.WideShapes Go.ChangeAt Go.RowKit Go.Joins
def evenR (P : Rd) (x : Nat) : Rd := ⟨P.a, P.b, P.c, List.replicate P.d.length x⟩
theorem evenR_ok {P : Rd} {x : Nat} (h : P.ok = true) (hx : fin .f32 (cn .f32 x) = true) : (evenR P x).ok = true := by
  unfold Rd.ok at h ⊢
  simp only [Bool.and_eq_true] at h ⊢
  refine ⟨?_, h.2.1, h.2.2.1, h.2.2.2.1, ?_⟩
  · have := h.1
    unfold Rd.sized evenR at *
    simpa using this
  · unfold finL evenR
    rw [Bool.not_eq_true', List.any_eq_false]
    intro y hy
    rw [List.mem_replicate] at hy
    rw [hy.2, hx]
    simp
/-- A rod of the call's own, a number and a bool. -/
def BRFB (w : World) (R : Rd) (f : Nat) (b : Bool) (e : Ending) (w' : World) : Prop := ∃ m g, cn .f32 g = f ∧ e = .returned (.tuple #[.agg #[.slice m.p1 R.a.length m.c1, .slice m.p2 R.b.length m.c2, .slice m.p3 R.c.length m.c3, .slice m.p4 R.d.length m.c4], .float .f32 g, .bool b]) ∧ Below w.heap.size w w' ∧ RdX w.heap.size w'.heap.size w' R m
set_option maxHeartbeats 4000000 in
set_option maxRecDepth 100000 in
theorem evenRod_any (P : Rd) (l : RL) (x : Nat) (w : World) (hs : P.fs w l) (h0 : P.ok = true) (hx : fin .f32 (cn .f32 x) = true) (R0 : Rd) (hR0 : R0 = evenR P x) : Calls Try.prog 98 #[.agg #[.slice l.p1 P.a.length l.c1, .slice l.p2 P.b.length l.c2, .slice l.p3 P.c.length l.c3, .slice l.p4 P.d.length l.c4], .float .f32 x] w (fun e w' => ∃ m, e = .returned (.tuple #[.agg #[.slice m.p1 R0.a.length m.c1, .slice m.p2 R0.b.length m.c2, .slice m.p3 R0.c.length m.c3, .slice m.p4 R0.d.length m.c4], .float .f32 0, .bool true]) ∧ Below w.heap.size w w' ∧ RdX w.heap.size w'.heap.size w' R0 m) := by
  have HS := Lib.hid hs
  have hnl := Rd.ok_len h0
  have HN0 : Hid ((1 ≤ P.a.length ∧ P.a.length ≤ 1048576) ∧ (1 ≤ P.b.length ∧ P.b.length ≤ 1048576) ∧ (1 ≤ P.c.length ∧ P.c.length ≤ 1048576) ∧ 1 ≤ P.d.length ∧ P.d.length ≤ 1048576) := by show _ ∧ _; omega
  obtain ⟨zs, hz⟩ : ∃ zs, zs = List.replicate P.d.length x := ⟨_, rfl⟩
  have hzl : zs.length = P.d.length := by rw [hz]; simp
  have HN : Hid ((1 ≤ P.a.length ∧ P.a.length ≤ 1048576) ∧ (1 ≤ P.b.length ∧ P.b.length ≤ 1048576) ∧ (1 ≤ P.c.length ∧ P.c.length ≤ 1048576) ∧ 1 ≤ zs.length ∧ zs.length ≤ 1048576) := by rw [hzl]; exact HN0
  have HRP : Hid (∀ v w, FS w v [x] → Calls Try.prog 138 #[v, .int .i64 (P.d.length : Int)] w (fun e w' => ∃ u, e = .returned u ∧ Below w.heap.size w w' ∧ OF w.heap.size w' u zs)) := fun v w h => hz ▸ repeatF_any x P.d.length v w h HN0.out.2.2.2
  have HOK : Hid ((Rd.mk P.a P.b P.c zs).ok = true) := by show _ = _; rw [hz]; exact evenR_ok h0 hx
  replace hR0 : R0 = Rd.mk P.a P.b P.c zs := by rw [hR0, hz]; rfl
  obtain ⟨b0, hb0⟩ : ∃ b0, b0 = true := ⟨_, rfl⟩
  have HW : Hid (∀ v w, P.fs w l → FS w v zs → Calls Try.prog 81 #[.agg #[.slice l.p1 P.a.length l.c1, .slice l.p2 P.b.length l.c2, .slice l.p3 P.c.length l.c3, .slice l.p4 P.d.length l.c4], v] w (BRB w R0 b0)) := by
    intro v w h1 h2
    rw [hR0, hb0]
    exact withWarms_yes P l zs v w h1 h2 HN.out HOK.out
  have HR : Hid (b0 = true) := hb0
  clear hs h0 hx hnl hz hzl hR0 hb0
  go_enter Try.func98, Try.ntmps98
  go_wp2_with (first | (with_reducible refine at_list ?_; refine wpList_fop rfl rfl rfl rfl rfl ?_; intro r n hr0; have hr := hr0 _ _ (by first | with_reducible assumption | exact rfl) (by first | with_reducible assumption | exact rfl); clear hr0) | (with_reducible refine at_list ?_; refine wpList_neg rfl rfl rfl ?_; intro r hr0; have hr := hr0 _ (by first | with_reducible assumption | exact rfl); clear hr0) | (with_reducible refine at_list ?_; refine wpList_fop_g rfl rfl rfl rfl rfl ?_; intro r n hr0; have hr := hr0 _ _ (by first | with_reducible assumption | exact rfl) (by first | with_reducible assumption | exact rfl); clear hr0) | (with_reducible refine at_list ?_; refine wpList_wide_g rfl rfl Try.underlying25 Try.underlying32 rfl ?_; intro r n hr0; have hr := hr0 _ (by first | with_reducible assumption | exact rfl); clear hr0) | (with_reducible refine at_list ?_; refine wpList_wide rfl rfl rfl Try.underlying25 Try.underlying32 ?_; intro r n hr0; have hr := hr0 _ (by first | with_reducible assumption | exact rfl); clear hr0) | (go_at_call 138; refine (repeatF_any _ _ _ _ (by assumption) (by omega)).mono ?_; rintro e w' ⟨u, rfl, hb, hO⟩; obtain ⟨pu, cu, rfl⟩ := OF.shape hO; (try simp only [World.size_alloc, World.size_setCell, World.size_drew, World.drewN] at hO); obtain ⟨hT, hk⟩ := bv_next hb (by (repeat (with_reducible first | assumption | apply Trk.alloc | apply Trk.setCell | apply Trk.drewN | apply Trk.drew | exact Trk.nil _))); simp only [SameOn, World.size_alloc, World.size_setCell, World.size_drew, size_drewN', and_true] at hk; have hsz := Below.size hb; (try simp only [World.size_alloc, World.size_setCell, World.size_drew, size_drewN'] at hsz)))
  (apply wp_region_plan; ((apply wpC_val; (case hw => exact rfl); (case h1 => (intro w' hb hk0; obtain ⟨hT, hk⟩ := bv_next hb (by (repeat (with_reducible first | assumption | apply Trk.alloc | apply Trk.setCell | apply Trk.drewN | apply Trk.drew | exact Trk.nil _))); simp only [SameOn, World.size_alloc, World.size_setCell, World.size_drew, size_drewN', and_true] at hk; have hsz := Below.size hb; (try simp only [World.size_alloc, World.size_setCell, World.size_drew, size_drewN'] at hsz); go_simp <;> exact rfl))); apply wpC_norm; (case ha => (simp only [Act.put, List.setIfInBounds_toArray, List.set_cons_zero, List.set_cons_succ]; exact rfl))); ((apply wpC_det; (case hw => exact rfl); (case hs => (intro cs b h; cases h)); (case h1 => (intro w'; go_simp <;> exact rfl))); apply wpC_norm; (case ha => (simp only [Act.put, List.setIfInBounds_toArray, List.set_cons_zero, List.set_cons_succ]; exact rfl))); ((apply wpC_lit1; (case hx => (first | exact rfl | (simp [Op.operands]; exact rfl))); (case hw => exact rfl); (case h1 => (intro w'; go_simp <;> exact rfl)); intro bv); apply wpC_norm; (case ha => (simp only [Act.put, List.setIfInBounds_toArray, List.set_cons_zero, List.set_cons_succ]; exact rfl))); ((apply wpC_det; (case hw => exact rfl); (case hs => (intro cs b h; cases h)); (case h1 => (intro w'; go_simp <;> exact rfl))); apply wpC_norm; (case ha => (simp only [Act.put, List.setIfInBounds_toArray, List.set_cons_zero, List.set_cons_succ]; exact rfl))); ((apply wpC_val; (case hw => exact rfl); (case h1 => (intro w' hb hk0; obtain ⟨hT, hk⟩ := bv_next hb (by (repeat (with_reducible first | assumption | apply Trk.alloc | apply Trk.setCell | apply Trk.drewN | apply Trk.drew | exact Trk.nil _))); simp only [SameOn, World.size_alloc, World.size_setCell, World.size_drew, size_drewN', and_true] at hk; have hsz := Below.size hb; (try simp only [World.size_alloc, World.size_setCell, World.size_drew, size_drewN'] at hsz); go_simp <;> exact rfl))); apply wpC_norm; (case ha => (simp only [Act.put, List.setIfInBounds_toArray, List.set_cons_zero, List.set_cons_succ]; exact rfl))); ((apply wpC_det; (case hw => exact rfl); (case hs => (intro cs b h; cases h)); (case h1 => (intro w'; go_simp <;> exact rfl))); apply wpC_norm; (case ha => (simp only [Act.put, List.setIfInBounds_toArray, List.set_cons_zero, List.set_cons_succ]; exact rfl))); ((apply wpC_callO; (case hw => exact rfl); (case h1 => (intro w'; go_simp; exact ⟨rfl, rfl⟩)); (case hc => (intro w' hb hk0; obtain ⟨hT, hk⟩ := bv_next hb (by (repeat (with_reducible first | assumption | apply Trk.alloc | apply Trk.setCell | apply Trk.drewN | apply Trk.drew | exact Trk.nil _))); simp only [SameOn, World.size_alloc, World.size_setCell, World.size_drew, size_drewN', and_true] at hk; have hsz := Below.size hb; (try simp only [World.size_alloc, World.size_setCell, World.size_drew, size_drewN'] at hsz); exact ((HRP.out _ _ (FS1 (hk0.2.1.2 0 _ rfl).1)) ))); (case hmk => (intro u u' h; simpa using h)); intro pu cu); apply wpC_norm; (case ha => (simp only [Act.put, List.setIfInBounds_toArray, List.set_cons_zero, List.set_cons_succ]; exact rfl))); ((apply wpC_callRB; (case hw => exact rfl); (case h1 => (intro w'; go_simp; exact ⟨rfl, rfl⟩)); (case hc => (intro w' hb hk0; obtain ⟨hT, hk⟩ := bv_next hb (by (repeat (with_reducible first | assumption | apply Trk.alloc | apply Trk.setCell | apply Trk.drewN | apply Trk.drew | exact Trk.nil _))); simp only [SameOn, World.size_alloc, World.size_setCell, World.size_drew, size_drewN', and_true] at hk; have hsz := Below.size hb; (try simp only [World.size_alloc, World.size_setCell, World.size_drew, size_drewN'] at hsz); exact ((HW.out _ _ (HS.out.later (by (repeat (first | (with_reducible exact Below.refl _ _) | (with_reducible assumption) | (with_reducible refine below_then ?_ (by assumption)) | (with_reducible refine Below.trans ?_ (by assumption)) | (with_reducible refine below_drewN ?_ _) | (with_reducible apply Below.drew) | (with_reducible refine below_alloc ?_ _) | refine Below.setCell ?_ (by first | (simp; done) | (simp; omega)) _)))) (OF.fs (hk0.1 _ rfl))) ))); intro mq); apply wpC_norm; (case ha => (simp only [Act.put, List.setIfInBounds_toArray, List.set_cons_zero, List.set_cons_succ]; exact rfl))); ((apply wpC_det; (case hw => exact rfl); (case hs => (intro cs b h; cases h)); (case h1 => (intro w'; go_simp <;> exact rfl))); apply wpC_norm; (case ha => (simp only [Act.put, List.setIfInBounds_toArray, List.set_cons_zero, List.set_cons_succ]; exact rfl))); ((apply wpC_det; (case hw => exact rfl); (case hs => (intro cs b h; cases h)); (case h1 => (intro w'; go_simp <;> exact rfl))); apply wpC_norm; (case ha => (simp only [Act.put, List.setIfInBounds_toArray, List.set_cons_zero, List.set_cons_succ]; exact rfl))); ((apply wpC_det; (case hw => exact rfl); (case hs => (intro cs b h; cases h)); (case h1 => (intro w'; go_simp <;> exact rfl))); apply wpC_norm; (case ha => (simp only [Act.put, List.setIfInBounds_toArray, List.set_cons_zero, List.set_cons_succ]; exact rfl))); ((apply wpC_varT [.slice none 0 0, .slice none 0 0, .slice none 0 0, .slice none 0 0] 29; (case hw => exact rfl); (case h1 => (intro w'; go_simp <;> exact rfl)); intro bv); apply wpC_norm; (case ha => (simp only [Act.put, List.setIfInBounds_toArray, List.set_cons_zero, List.set_cons_succ]; exact rfl))); ((apply wpC_putR (R := R0) (m := mq) [.slice none 0 0, .slice none 0 0, .slice none 0 0, .slice none 0 0] 29 rfl; (case hx => exact rfl); (case hy => exact rfl); (case hn => rfl); (case hi => kernel_rfl); (case hw => exact rfl); (case hk => (intro w' hk0; exact hk0.1)); (case ht => decide); (case hm => (intro w' hb hk0; exact (show ∀ u, Value.tuple #[rdV R0 mq, .bool b0] = .tuple #[rdV R0 u, .bool b0] → RdA _ _ R0 u from hk0.2.1) _ rfl))); apply wpC_norm; (case ha => (simp only [Act.put, List.setIfInBounds_toArray, List.set_cons_zero, List.set_cons_succ]; exact rfl))); ((apply wpC_det; (case hw => exact rfl); (case hs => (intro cs b h; cases h)); (case h1 => (intro w'; go_simp <;> exact rfl))); apply wpC_norm; (case ha => (simp only [Act.put, List.setIfInBounds_toArray, List.set_cons_zero, List.set_cons_succ]; exact rfl))); refine wpC_nil ?_; intro w' hb hkk; obtain ⟨hT, hk⟩ := bv_next hb (by (repeat (with_reducible first | assumption | apply Trk.alloc | apply Trk.setCell | apply Trk.drewN | apply Trk.drew | exact Trk.nil _))); simp only [SameOn, World.size_alloc, World.size_setCell, World.size_drew, size_drewN', and_true] at hk; have hsz := Below.size hb; (try simp only [World.size_alloc, World.size_setCell, World.size_drew, size_drewN'] at hsz))
  rotate_left
  all_goals (try (first | kernel_rfl | rfl))
  have hA := (show ∀ u, rdV R0 mq = rdV R0 u → RdA _ _ R0 u from hkk.1.2.1) _ rfl
  have hX := hA.rx (Nat.le_refl _)
  obtain ⟨⟨⟨hv0, hv1⟩, _⟩, _⟩ := hkk
  (try simp only [World.size_alloc, World.size_setCell, World.size_drew, size_drewN'] at hv0 hX)
  obtain ⟨y0, f0⟩ := hv1 0 _ rfl
  obtain ⟨y1, f1⟩ := hv1 1 _ rfl
  obtain ⟨y2, f2⟩ := hv1 2 _ rfl
  obtain ⟨y3, f3⟩ := hv1 3 _ rfl
  rename Nat => bv1
  rename World => wv1
  have hbv := World.block_lt_of_cell? _ _ y0
  have hbv' : bv1 < wv1.heap.size := hbv
  have hT2 := hT.more hbv'
  clear hT hv1 hbv hA
  have hbt := HR.out
  subst hbt
  go_wp2_with (first | (with_reducible refine at_list ?_; refine wpList_fop rfl rfl rfl rfl rfl ?_; intro r n hr0; have hr := hr0 _ _ (by first | with_reducible assumption | exact rfl) (by first | with_reducible assumption | exact rfl); clear hr0) | (with_reducible refine at_list ?_; refine wpList_neg rfl rfl rfl ?_; intro r hr0; have hr := hr0 _ (by first | with_reducible assumption | exact rfl); clear hr0) | (with_reducible refine at_list ?_; refine wpList_fop_g rfl rfl rfl rfl rfl ?_; intro r n hr0; have hr := hr0 _ _ (by first | with_reducible assumption | exact rfl) (by first | with_reducible assumption | exact rfl); clear hr0) | (with_reducible refine at_list ?_; refine wpList_wide_g rfl rfl Try.underlying25 Try.underlying32 rfl ?_; intro r n hr0; have hr := hr0 _ (by first | with_reducible assumption | exact rfl); clear hr0) | (with_reducible refine at_list ?_; refine wpList_wide rfl rfl rfl Try.underlying25 Try.underlying32 ?_; intro r n hr0; have hr := hr0 _ (by first | with_reducible assumption | exact rfl); clear hr0) | (go_at_call 138; refine (repeatF_any _ _ _ _ (by assumption) (by omega)).mono ?_; rintro e w' ⟨u, rfl, hb, hO⟩; obtain ⟨pu, cu, rfl⟩ := OF.shape hO; (try simp only [World.size_alloc, World.size_setCell, World.size_drew, World.drewN] at hO); obtain ⟨hT, hk⟩ := bv_next hb (by (repeat (with_reducible first | assumption | apply Trk.alloc | apply Trk.setCell | apply Trk.drewN | apply Trk.drew | exact Trk.nil _))); simp only [SameOn, World.size_alloc, World.size_setCell, World.size_drew, size_drewN', and_true] at hk; have hsz := Below.size hb; (try simp only [World.size_alloc, World.size_setCell, World.size_drew, size_drewN'] at hsz)))
  refine bodyPost_ret (v := .tuple #[.agg #[.slice mq.p1 R0.a.length mq.c1, .slice mq.p2 R0.b.length mq.c2, .slice mq.p3 R0.c.length mq.c3, .slice mq.p4 R0.d.length mq.c4], .float .f32 0, .bool true]) (by simp [results, Try.results98, go_sem, *]) rfl ?_
  exact ⟨mq, rfl, by (repeat (first | (with_reducible exact Below.refl _ _) | (with_reducible assumption) | (with_reducible refine below_then ?_ (by assumption)) | (with_reducible refine Below.trans ?_ (by assumption)) | (with_reducible refine below_drewN ?_ _) | (with_reducible apply Below.drew) | (with_reducible refine below_alloc ?_ _) | refine Below.setCell ?_ (by first | (simp; done) | (simp; omega)) _)), RdX.base (by (repeat' (first | (with_reducible assumption) | (with_reducible apply RdX.setCell) | (with_reducible apply RdX.alloc) | (with_reducible apply RdX.later; rotate_left; with_reducible assumption) | (with_reducible apply RdX.turn; rotate_left; with_reducible assumption) | (with_reducible apply RdX.drewN))) <;> (first | omega | (simp; done) | (simp; omega))) (by first | omega | (simp; done) | (simp; omega)) (by first | omega | (simp; done) | (simp; omega))⟩
set_option maxHeartbeats 4000000 in
set_option maxRecDepth 100000 in
theorem l02Even_any (P : Rd) (l : RL) (x b o : Nat) (w : World) (ha : RdAt P l w b o) (hs : P.fs w l) (h0 : P.ok = true) (R0 : Rd) (hR0 : R0 = evenR P x) : Calls Try.prog 92 #[.pointer (some ⟨b, o, none⟩), .float .f32 x] w (fun e w' => ∃ m, e = .returned (.agg #[.slice m.p1 R0.a.length m.c1, .slice m.p2 R0.b.length m.c2, .slice m.p3 R0.c.length m.c3, .slice m.p4 R0.d.length m.c4]) ∧ Below w.heap.size w w' ∧ RdX w.heap.size w'.heap.size w' R0 m) := by
  have HS := Lib.hid hs
  have hbz : b < w.heap.size := World.block_lt_of_cell? _ _ ha.1
  have HRA := Lib.hid ha
  have HLN := Lib.hid (Rd.ok_len h0)
  have hlb : P.d.length ≤ 48 := by have := HLN.out; omega
  have HN : Hid ((1 ≤ P.a.length ∧ P.a.length ≤ 1048576) ∧ (1 ≤ P.b.length ∧ P.b.length ≤ 1048576) ∧ (1 ≤ P.c.length ∧ P.c.length ≤ 1048576) ∧ 1 ≤ P.d.length ∧ P.d.length ≤ 1048576) := by have := HLN.out; exact ⟨⟨by omega, by omega⟩, ⟨by omega, by omega⟩, ⟨by omega, by omega⟩, by omega, by omega⟩
  have HR0 := Lib.hid hR0
  clear hs ha h0 hR0
  go_enter Try.func92, Try.ntmps92
  go_wp2_with (first | (with_reducible refine at_list ?_; refine wpList_fop rfl rfl rfl rfl rfl ?_; intro r n hr0; have hr := hr0 _ _ (by first | with_reducible assumption | exact rfl) (by first | with_reducible assumption | exact rfl); clear hr0) | (with_reducible refine at_list ?_; refine wpList_neg rfl rfl rfl ?_; intro r hr0; have hr := hr0 _ (by first | with_reducible assumption | exact rfl); clear hr0) | (with_reducible refine at_list ?_; refine wpList_fop_g rfl rfl rfl rfl rfl ?_; intro r n hr0; have hr := hr0 _ _ (by first | with_reducible assumption | exact rfl) (by first | with_reducible assumption | exact rfl); clear hr0) | (with_reducible refine at_list ?_; refine wpList_wide_g rfl rfl Try.underlying25 Try.underlying32 rfl ?_; intro r n hr0; have hr := hr0 _ (by first | with_reducible assumption | exact rfl); clear hr0) | (with_reducible refine at_list ?_; refine wpList_wide rfl rfl rfl Try.underlying25 Try.underlying32 ?_; intro r n hr0; have hr := hr0 _ (by first | with_reducible assumption | exact rfl); clear hr0) | (go_at_call 59; refine stop_here ?_))
  unfold Stop
  refine (l02Own_any P _ b o _ (rd_later HRA.out (by (repeat (first | (with_reducible exact Below.refl _ _) | (with_reducible assumption) | (with_reducible refine below_then ?_ (by assumption)) | (with_reducible refine Below.trans ?_ (by assumption)) | (with_reducible refine below_drewN ?_ _) | (with_reducible apply Below.drew) | (with_reducible refine below_alloc ?_ _) | refine Below.setCell ?_ (by first | (simp; done) | (simp; omega)) _))) hbz) (HS.out.later (by (repeat (first | (with_reducible exact Below.refl _ _) | (with_reducible assumption) | (with_reducible refine below_then ?_ (by assumption)) | (with_reducible refine Below.trans ?_ (by assumption)) | (with_reducible refine below_drewN ?_ _) | (with_reducible apply Below.drew) | (with_reducible refine below_alloc ?_ _) | refine Below.setCell ?_ (by first | (simp; done) | (simp; omega)) _)))) HN.out).mono ?_
  rintro e w' ⟨m, rfl, hb, hX⟩
  rename World => w1
  simp only [World.size_alloc] at hX
  obtain ⟨g4, p4, e4, z4, _, _⟩ := hX.fs.2.2.2.ptr HN.out.2.2.2.1
  obtain ⟨m1, n1, m2, n2, m3, n3, m4, n4⟩ := m
  simp only [Value.slice.injEq] at z4
  obtain ⟨rfl, _, rfl⟩ := z4
  have hp4 : p4 = 0 := by
    rcases OF.view hX.own.2.2.2 with ⟨h, _⟩ | ⟨g', c', h1, _⟩
    · cases h
    · simp only [Value.slice.injEq, Option.some.injEq, Addr.mk.injEq] at h1; exact h1.1.2.1
  subst hp4
  have hg4 := OF.block hX.own.2.2.2 g4 rfl
  have hg4' : g4 < w1.heap.size := hg4.2
  have hg4'' : w.heap.size + 1 ≤ g4 := hg4.1
  have hz01 := hb.size
  obtain ⟨hT, hk⟩ := bv_next hb (by (repeat (with_reducible first | assumption | apply Trk.alloc | apply Trk.setCell | apply Trk.drewN | apply Trk.drew | exact Trk.nil _))); simp only [SameOn, World.size_alloc, World.size_setCell, World.size_drew, size_drewN', and_true] at hk; have hsz := Below.size hb; (try simp only [World.size_alloc, World.size_setCell, World.size_drew, size_drewN'] at hsz)
  have HX1 := Lib.hid hX
  have HBW := Lib.hid (show Below w.heap.size w w1 by (repeat (first | (with_reducible exact Below.refl _ _) | (with_reducible assumption) | (with_reducible refine below_then ?_ (by assumption)) | (with_reducible refine Below.trans ?_ (by assumption)) | (with_reducible refine below_drewN ?_ _) | (with_reducible apply Below.drew) | (with_reducible refine below_alloc ?_ _) | refine Below.setCell ?_ (by first | (simp; done) | (simp; omega)) _)))
  simp only [World.size_alloc] at hz01
  have HR8 : Hid (w1.cell? ⟨w.heap.size, 0, none⟩ = some (.slice none 0 0) ∧ w1.cell? ⟨w.heap.size, 1, none⟩ = some (.slice none 0 0) ∧ w1.cell? ⟨w.heap.size, 2, none⟩ = some (.slice none 0 0) ∧ w1.cell? ⟨w.heap.size, 3, none⟩ = some (.slice none 0 0) ∧ ∀ o, w1.frozen? ⟨w.heap.size, o, none⟩ = false) := ⟨by go_simp, by go_simp, by go_simp, by go_simp, fun o => by go_simp⟩
  clear hX hg4
  go_wp2_with (first | (with_reducible refine at_list ?_; refine wpList_fop rfl rfl rfl rfl rfl ?_; intro r n hr0; have hr := hr0 _ _ (by first | with_reducible assumption | exact rfl) (by first | with_reducible assumption | exact rfl); clear hr0) | (with_reducible refine at_list ?_; refine wpList_neg rfl rfl rfl ?_; intro r hr0; have hr := hr0 _ (by first | with_reducible assumption | exact rfl); clear hr0) | (with_reducible refine at_list ?_; refine wpList_fop_g rfl rfl rfl rfl rfl ?_; intro r n hr0; have hr := hr0 _ _ (by first | with_reducible assumption | exact rfl) (by first | with_reducible assumption | exact rfl); clear hr0) | (with_reducible refine at_list ?_; refine wpList_wide_g rfl rfl Try.underlying25 Try.underlying32 rfl ?_; intro r n hr0; have hr := hr0 _ (by first | with_reducible assumption | exact rfl); clear hr0) | (with_reducible refine at_list ?_; refine wpList_wide rfl rfl rfl Try.underlying25 Try.underlying32 ?_; intro r n hr0; have hr := hr0 _ (by first | with_reducible assumption | exact rfl); clear hr0))
  refine wp_named ?_
  intro ws hws
  have hX := HX1.out
  have HX5 : Hid (RdX (w.heap.size + 1) w1.heap.size ws P ⟨m1, n1, m2, n2, m3, n3, some ⟨g4, 0, none⟩, n4⟩) := by show RdX _ _ _ _ _; rw [hws]; exact (by (repeat' (first | (with_reducible assumption) | (with_reducible apply RdX.setCell) | (with_reducible apply RdX.alloc) | (with_reducible apply RdX.later; rotate_left; with_reducible assumption) | (with_reducible apply RdX.turn; rotate_left; with_reducible assumption) | (with_reducible apply RdX.drewN))) <;> (first | omega | (simp; done) | (simp; omega)))
  have HRO : Hid (RdAt P ⟨m1, n1, m2, n2, m3, n3, some ⟨g4, 0, none⟩, n4⟩ ws w1.heap.size 0) := by show RdAt _ _ _ _ _; rw [hws]; exact (by unfold RdAt; refine ⟨?_, ?_, ?_, ?_⟩ <;> go_simp)
  have HB5 : Hid (Below (w.heap.size + 1) w1 ws) := by show Below _ _ _; rw [hws]; exact (Below.refl _ _).alloc hz01 _
  have HZ5 : Hid (w1.heap.size + 1 ≤ ws.heap.size) := by show _ ≤ _; rw [hws]; first | omega | (simp; done) | (simp; omega)
  clear hws hX
  go_loopw [6] (fun z wr => ∃ (k : Nat) (zs : List Nat), k ≤ P.d.length ∧ z = .int .i64 (k : Int) ∧ zs.length = P.d.length ∧ Hid (zs.take k = List.replicate k x) ∧ Hid (RdX (w.heap.size + 1) w1.heap.size wr (Rd.mk P.a P.b P.c zs) ⟨m1, n1, m2, n2, m3, n3, some ⟨g4, 0, none⟩, n4⟩) ∧ Hid (Turn (w.heap.size + 1) w1.heap.size ws wr)) (fun z _ => P.d.length - (intOf z).toNat)
  case atStart => exact ⟨0, P.d, by omega, rfl, rfl, rfl, HX5.out, Turn.refl _ _ _⟩
  case round =>
    clear hb hk hT hsz
    obtain ⟨k, zs, hk, rfl, hzl, HL, HX, HTN⟩ := hrel
    have hzr := HTN.out.size
    have hz5 := HZ5.out
    have hB0 : Below (w.heap.size + 1) w1 wr := HB5.out.trans (turn_below HTN.out (Nat.le_refl _) (by omega))
    have HBr : Hid (Below w.heap.size w wr) := HBW.out.trans (hB0.mono (by omega))
    have hcb : ∀ o, wr.cell? ⟨w1.heap.size, o, none⟩ = ws.cell? ⟨w1.heap.size, o, none⟩ := fun o => World.cell?_of_block (HTN.out.block w1.heap.size (by omega) (.inr (Nat.le_refl _)))
    have e0 := (hcb 0).trans HRO.out.1
    have e1 := (hcb 1).trans HRO.out.2.1
    have e2 := (hcb 2).trans HRO.out.2.2.1
    have e3 := (hcb 3).trans HRO.out.2.2.2
    simp only [Nat.zero_add] at e0 e1 e2 e3
    have HZL := Lib.hid hzl
    clear hcb hzl
    by_cases hlt : k < P.d.length
    · have hlti : (k : Int) < (P.d.length : Int) := by omega
      have hki : 0 ≤ (k : Int) + 1 := by omega
      have hkt : ((k : Int) + 1).toNat = k + 1 := by omega
      have hkw : IntKind.i64.wrap ((k : Int) + 1) = (k : Int) + 1 := IntWalk.i64_in _ (by omega)
      obtain ⟨old, hcell0, hfr⟩ : ∃ old, wr.cell? ⟨g4, k, none⟩ = some old ∧ wr.frozen? ⟨g4, k, none⟩ = false := by
        rcases OF.view HX.out.own.2.2.2 with ⟨h, _⟩ | ⟨g', c', h1, _, _, _, _, h2⟩
        · cases h
        · simp only [Value.slice.injEq, Option.some.injEq, Addr.mk.injEq, and_true] at h1
          obtain ⟨rfl, _⟩ := h1
          have := h2 k (by show k < zs.length; have := HZL.out; omega)
          exact ⟨_, this.1, this.2⟩
      have HS8 : Hid (RdX (w.heap.size + 1) w1.heap.size (wr.setCell ⟨g4, k, none⟩ (.float .f32 x)) (Rd.mk P.a P.b P.c (zs.set k x)) ⟨m1, n1, m2, n2, m3, n3, some ⟨g4, 0, none⟩, n4⟩ ∧ wr.grownBy (wr.setCell ⟨g4, k, none⟩ (.float .f32 x)) (some g4)) := RdX.stored HX.out rfl k x
      have HT8 : Hid (Turn (w.heap.size + 1) w1.heap.size ws (wr.setCell ⟨g4, k, none⟩ (.float .f32 x))) := HTN.out.trans (Turn.of (u := .slice (some ⟨g4, 0, none⟩) 0 0) HS8.out.2 (fun j hj => by cases hj; exact ⟨hg4'', hg4'⟩))
      have HL8 : Hid ((zs.set k x).take (k + 1) = List.replicate (k + 1) x) := by
        show _ = _
        rw [take_set (by rw [HZL.out]; exact hlt), HL.out, List.replicate_succ']
      clear HR8 HRO HX5 HX1
      go_wp2_with (first | (with_reducible refine at_list ?_; refine wpList_fop rfl rfl rfl rfl rfl ?_; intro r n hr0; have hr := hr0 _ _ (by first | with_reducible assumption | exact rfl) (by first | with_reducible assumption | exact rfl); clear hr0) | (with_reducible refine at_list ?_; refine wpList_neg rfl rfl rfl ?_; intro r hr0; have hr := hr0 _ (by first | with_reducible assumption | exact rfl); clear hr0) | (with_reducible refine at_list ?_; refine wpList_fop_g rfl rfl rfl rfl rfl ?_; intro r n hr0; have hr := hr0 _ _ (by first | with_reducible assumption | exact rfl) (by first | with_reducible assumption | exact rfl); clear hr0) | (with_reducible refine at_list ?_; refine wpList_wide_g rfl rfl Try.underlying25 Try.underlying32 rfl ?_; intro r n hr0; have hr := hr0 _ (by first | with_reducible assumption | exact rfl); clear hr0) | (with_reducible refine at_list ?_; refine wpList_wide rfl rfl rfl Try.underlying25 Try.underlying32 ?_; intro r n hr0; have hr := hr0 _ (by first | with_reducible assumption | exact rfl); clear hr0))
      go_roundw
      case rel => exact ⟨k + 1, zs.set k x, by omega, by go_num, by rw [List.length_set]; exact HZL.out, HL8.out, HS8.out.1, HT8.out⟩
      case measure => simp [intOf]; omega
      all_goals first | kernel_rfl | rfl
    · have hlti : ¬ (k : Int) < (P.d.length : Int) := by omega
      have hke : k = P.d.length := by omega
      have hzx : zs = List.replicate P.d.length x := by
        have h := HL.out
        rw [hke] at h
        rw [← h, ← HZL.out, List.take_length]
      have HQ : Hid (Rd.mk P.a P.b P.c zs = R0) := by show _ = _; rw [HR0.out, hzx]; rfl
      have hB8 : w.heap.size < w.heap.size + 1 := by omega
      have g0 := (hB0.cell hB8).trans HR8.out.1
      have g1 := (hB0.cell hB8).trans HR8.out.2.1
      have g2 := (hB0.cell hB8).trans HR8.out.2.2.1
      have g3 := (hB0.cell hB8).trans HR8.out.2.2.2.1
      have g5 : ∀ o, wr.frozen? ⟨w.heap.size, o, none⟩ = false := fun o => (hB0.frozen (p := ⟨w.heap.size, o, none⟩) hB8).trans (HR8.out.2.2.2.2 o)
      have hbw := HBW.out
      have hbr := HBr.out
      clear HL hke hzx HTN HX5 HX1 HRO HR8
      go_wp2_with (first | (with_reducible refine at_list ?_; refine wpList_fop rfl rfl rfl rfl rfl ?_; intro r n hr0; have hr := hr0 _ _ (by first | with_reducible assumption | exact rfl) (by first | with_reducible assumption | exact rfl); clear hr0) | (with_reducible refine at_list ?_; refine wpList_neg rfl rfl rfl ?_; intro r hr0; have hr := hr0 _ (by first | with_reducible assumption | exact rfl); clear hr0) | (with_reducible refine at_list ?_; refine wpList_fop_g rfl rfl rfl rfl rfl ?_; intro r n hr0; have hr := hr0 _ _ (by first | with_reducible assumption | exact rfl) (by first | with_reducible assumption | exact rfl); clear hr0) | (with_reducible refine at_list ?_; refine wpList_wide_g rfl rfl Try.underlying25 Try.underlying32 rfl ?_; intro r n hr0; have hr := hr0 _ (by first | with_reducible assumption | exact rfl); clear hr0) | (with_reducible refine at_list ?_; refine wpList_wide rfl rfl rfl Try.underlying25 Try.underlying32 ?_; intro r n hr0; have hr := hr0 _ (by first | with_reducible assumption | exact rfl); clear hr0))
      refine bodyPost_ret (v := .agg #[.slice m1 P.a.length n1, .slice m2 P.b.length n2, .slice m3 P.c.length n3, .slice (some ⟨g4, 0, none⟩) P.d.length n4]) (by simp [results, Try.results92, go_sem, *]) rfl ?_
      have hX := HX.out
      rw [HQ.out] at hX
      have hq := HQ.out
      subst hq
      refine ⟨⟨m1, n1, m2, n2, m3, n3, some ⟨g4, 0, none⟩, n4⟩, ?_, by (repeat (first | (with_reducible exact Below.refl _ _) | (with_reducible assumption) | (with_reducible refine below_then ?_ (by assumption)) | (with_reducible refine Below.trans ?_ (by assumption)) | (with_reducible refine below_drewN ?_ _) | (with_reducible apply Below.drew) | (with_reducible refine below_alloc ?_ _) | refine Below.setCell ?_ (by first | (simp; done) | (simp; omega)) _)), RdX.base (by (repeat' (first | (with_reducible assumption) | (with_reducible apply RdX.setCell) | (with_reducible apply RdX.alloc) | (with_reducible apply RdX.later; rotate_left; with_reducible assumption) | (with_reducible apply RdX.turn; rotate_left; with_reducible assumption) | (with_reducible apply RdX.drewN))) <;> (first | omega | (simp; done) | (simp; omega))) (by first | omega | (simp; done) | (simp; omega)) (by first | omega | (simp; done) | (simp; omega))⟩
      show _ = Ending.returned (.agg #[.slice m1 P.a.length n1, .slice m2 P.b.length n2, .slice m3 P.c.length n3, .slice (some ⟨g4, 0, none⟩) zs.length n4])
      rw [HZL.out]
end Go.Proofs.Ytgkcfeaknehopaa

/-
  Cells at the edge: the program's and the reference's. No condition but what each contract says.
-/
import Derived.Test.YthdmamcbceblpaaNb4
import Derived.Test.YthdmamcbceblpaaPlMk
set_option linter.unusedSimpArgs false
set_option linter.unusedVariables false
set_option linter.unusedSectionVars false
namespace Go.Proofs.Ythdmamcbceblpaa
open Go Go.RowKit
open Go.ChangeShapes Go.WideShapes Go.ChangeAt Go.RowKit Go.Joins
theorem OI.nil0 (B : Nat) (w : World) : OI B w (.slice .none 0 0) [] := World.ownsRow_nil _ _ _ _
theorem OI.empty {B n : Nat} (w : World) (t : TypeId) (hn : n = w.heap.size) (hB : B ≤ w.heap.size) (ht : t = 2) : OI B (w.alloc (.cells #[] t)) (.slice (some ⟨n, 0, .none⟩) 0 0) [] := by
  subst ht
  subst hn
  exact World.ownsRow_lit w #[] 0 hB (by simp) (by simp)
/-- A slice of whole numbers of the call's own, and a bool. -/
def BIB (w : World) (L : List Int) (b : Bool) (e : Ending) (w' : World) : Prop := ∃ u, e = .returned (.tuple #[u, .bool b]) ∧ Below w.heap.size w w' ∧ OI w.heap.size w' u L
theorem wpList_appI {B : Nat} {xs : List Int} {v : Value} {b : Nat} {r : Int} {w : World} {ops : Array Oper} {rest : List Oper} {o : Oper} {a : Act} {Q : Exit → Act → World → Prop} (hg : o.guard = .none) {s x : Operand}
    (ho : o.op = .call { callee := .builtin .append, args := #[s, x], argTypes := #[54, 54] }) (hs : a.eval s = v) (hx : a.eval x = .slice (some ⟨b, 0, .none⟩) 1 1) (hO : OI B w v xs) (hc : w.cell? ⟨b, 0, .none⟩ = some (.int .i64 r)) (hn : xs.length < 1048576) (hB : B ≤ w.heap.size)
    (h : ∀ q c w', OI B w' (.slice q (xs.length + 1) c) (xs ++ [r]) → Below B w w' → wpList Try.prog ops Q rest (a.put o.dst (.slice q (xs.length + 1) c)) w') : wpList Try.prog ops Q (o :: rest) a w := by
  obtain ⟨i0, hi, hz0, hz1, hz2⟩ := info_parts Try.infoI64
  refine wpList_append_own w hg s x 54 ho B 2 i0 (.int .i64 0) 1 8 Try.underlying54 hi hz0 hz1 hz2 rfl (by decide) v xs.length (xs.map (Value.int .i64)) hs hO ⟨b, 0, .none⟩ 1 1 [.int .i64 r] hx rfl ?_ ?_ (by unfold maxLen; omega) (by omega) hB ?_
  · intro j u hj
    match j, hj with
    | 0, hj => simp at hj; subst hj; simpa [Addr.add] using hc
    | j + 1, hj => simp at hj
  · intro u hu; simp at hu; subst hu; rfl
  · intro v' w' hown hgrow _
    have hO' : OI B w' v' (xs ++ [r]) := by
      unfold OI
      simpa using hown
    obtain ⟨q, c, rfl⟩ := hO'.shape
    simp only [List.length_append, List.length_cons, List.length_nil, Nat.zero_add] at hO' ⊢
    exact h q c w' hO' ((Below.refl _ _).grown hgrow hB fun k hk => (OI.block hO k hk).1)
def edgeL (P : Pl) : Nat → List Int
  | 0 => []
  | k + 1 => if (nbl P.W P.H k).length < 4 then edgeL P k ++ [(k : Int)] else edgeL P k
theorem edgeL_yes {P : Pl} {k : Nat} (h : (nbl P.W P.H k).length < 4) : edgeL P (k + 1) = edgeL P k ++ [(k : Int)] := by simp only [edgeL]; rw [if_pos h]
theorem edgeL_no {P : Pl} {k : Nat} (h : ¬ (nbl P.W P.H k).length < 4) : edgeL P (k + 1) = edgeL P k := by simp only [edgeL]; rw [if_neg h]
theorem edgeL_len (P : Pl) : ∀ k, (edgeL P k).length ≤ k
  | 0 => Nat.le_refl _
  | k + 1 => by
    have := edgeL_len P k
    simp only [edgeL]; split
    · simp; omega
    · omega
def edgeV (P : Pl) : List Int := if P.ok then edgeL P P.a.length else []
theorem edgeV_ok {P : Pl} (h : P.ok = true) : edgeV P = edgeL P P.a.length := by rw [edgeV, h]; rfl
theorem edgeV_no {P : Pl} (h : P.ok = false) : edgeV P = [] := by rw [edgeV, h]; rfl
set_option maxHeartbeats 4000000 in
theorem implEdgeCells_any (P : Pl) (l : Lay) (w : World) (hs : P.fs w l) : Calls Try.prog 43 #[.agg #[.int .i64 P.W, .int .i64 P.H, .slice l.p1 P.a.length l.c1, .slice l.p2 P.b.length l.c2, .slice l.p3 P.c.length l.c3, .slice l.p4 P.d.length l.c4]] w (BIB w (edgeV P) P.ok) := by
  have HS := Lib.hid hs
  clear hs
  have HV := Lib.hid (fun w h => implValidPlate_any P l w h)
  rcases h0 : P.ok
  · rw [h0] at HV
    have HE := Lib.hid (edgeV_no h0)
    go_enter Try.func43, Try.ntmps43
    go_wp2_with (first | (with_reducible refine at_list ?_; refine wpList_fop rfl rfl rfl rfl rfl ?_; intro r n hr0; have hr := hr0 _ _ (by first | with_reducible assumption | exact rfl) (by first | with_reducible assumption | exact rfl); clear hr0) | (with_reducible refine at_list ?_; refine wpList_neg rfl rfl rfl ?_; intro r hr0; have hr := hr0 _ (by first | with_reducible assumption | exact rfl); clear hr0) | (with_reducible refine at_list ?_; refine wpList_fop_g rfl rfl rfl rfl rfl ?_; intro r n hr0; have hr := hr0 _ _ (by first | with_reducible assumption | exact rfl) (by first | with_reducible assumption | exact rfl); clear hr0) | (with_reducible refine at_list ?_; refine wpList_wide_g rfl rfl Try.underlying33 Try.underlying37 rfl ?_; intro r n hr0; have hr := hr0 _ (by first | with_reducible assumption | exact rfl); clear hr0) | (with_reducible refine at_list ?_; refine wpList_wide rfl rfl rfl Try.underlying33 Try.underlying37 ?_; intro r n hr0; have hr := hr0 _ (by first | with_reducible assumption | exact rfl); clear hr0) | (go_at_call 18; refine ((HV.out _ (HS.out.later (by (repeat (first | (with_reducible exact Below.refl _ _) | (with_reducible assumption) | (with_reducible refine below_then ?_ (by assumption)) | (with_reducible refine Below.trans ?_ (by assumption)) | (with_reducible refine below_drewN ?_ _) | (with_reducible apply Below.drew) | (with_reducible refine below_alloc ?_ _) | refine Below.setCell ?_ (by first | (simp; done) | (simp; omega)) _))))) ).mono ?_; rintro e w' ⟨rfl, hb⟩; obtain ⟨hT, hk⟩ := bv_next hb (by (repeat (with_reducible first | assumption | apply Trk.alloc | apply Trk.setCell | apply Trk.drewN | apply Trk.drew | exact Trk.nil _))); simp only [SameOn, World.size_alloc, World.size_setCell, World.size_drew, size_drewN', and_true] at hk; have hsz := Below.size hb; (try simp only [World.size_alloc, World.size_setCell, World.size_drew, size_drewN'] at hsz)) | (go_at_call 85; refine (neighbours_any _ _ _ _ (by omega) (by omega) (by omega)).mono ?_; rintro e w' ⟨u, rfl, hb, hO⟩; obtain ⟨pu, cu, rfl⟩ := OI.shape hO; (try simp only [World.size_alloc, World.size_setCell, World.size_drew, World.drewN] at hO); obtain ⟨hT, hk⟩ := bv_next hb (by (repeat (with_reducible first | assumption | apply Trk.alloc | apply Trk.setCell | apply Trk.drewN | apply Trk.drew | exact Trk.nil _))); simp only [SameOn, World.size_alloc, World.size_setCell, World.size_drew, size_drewN', and_true] at hk; have hsz := Below.size hb; (try simp only [World.size_alloc, World.size_setCell, World.size_drew, size_drewN'] at hsz)))
    all_goals
      go_ret2
      exact ⟨_, rfl, by (repeat (first | (with_reducible exact Below.refl _ _) | (with_reducible assumption) | (with_reducible refine below_then ?_ (by assumption)) | (with_reducible refine Below.trans ?_ (by assumption)) | (with_reducible refine below_drewN ?_ _) | (with_reducible apply Below.drew) | (with_reducible refine below_alloc ?_ _) | refine Below.setCell ?_ (by first | (simp; done) | (simp; omega)) _)), by rw [HE.out]; exact OI.nil0 _ _⟩
  rw [h0] at HV
  have HE := Lib.hid (edgeV_ok h0)
  obtain ⟨hn1, hn2⟩ := Pl.ok_n h0
  obtain ⟨hW, hH, hla, _⟩ := Pl.ok_len h0
  have hlaN : P.a.length ≤ 144 := by omega
  have HLA := Lib.hid hla
  have HN := Lib.hid (fun (k : Nat) (hk : k < P.a.length) w => neighbours_any P l k w hW hH (by omega))
  go_enter Try.func43, Try.ntmps43
  go_wp2_with (first | (with_reducible refine at_list ?_; refine wpList_fop rfl rfl rfl rfl rfl ?_; intro r n hr0; have hr := hr0 _ _ (by first | with_reducible assumption | exact rfl) (by first | with_reducible assumption | exact rfl); clear hr0) | (with_reducible refine at_list ?_; refine wpList_neg rfl rfl rfl ?_; intro r hr0; have hr := hr0 _ (by first | with_reducible assumption | exact rfl); clear hr0) | (with_reducible refine at_list ?_; refine wpList_fop_g rfl rfl rfl rfl rfl ?_; intro r n hr0; have hr := hr0 _ _ (by first | with_reducible assumption | exact rfl) (by first | with_reducible assumption | exact rfl); clear hr0) | (with_reducible refine at_list ?_; refine wpList_wide_g rfl rfl Try.underlying33 Try.underlying37 rfl ?_; intro r n hr0; have hr := hr0 _ (by first | with_reducible assumption | exact rfl); clear hr0) | (with_reducible refine at_list ?_; refine wpList_wide rfl rfl rfl Try.underlying33 Try.underlying37 ?_; intro r n hr0; have hr := hr0 _ (by first | with_reducible assumption | exact rfl); clear hr0) | (go_at_call 18; refine ((HV.out _ (HS.out.later (by (repeat (first | (with_reducible exact Below.refl _ _) | (with_reducible assumption) | (with_reducible refine below_then ?_ (by assumption)) | (with_reducible refine Below.trans ?_ (by assumption)) | (with_reducible refine below_drewN ?_ _) | (with_reducible apply Below.drew) | (with_reducible refine below_alloc ?_ _) | refine Below.setCell ?_ (by first | (simp; done) | (simp; omega)) _))))) ).mono ?_; rintro e w' ⟨rfl, hb⟩; obtain ⟨hT, hk⟩ := bv_next hb (by (repeat (with_reducible first | assumption | apply Trk.alloc | apply Trk.setCell | apply Trk.drewN | apply Trk.drew | exact Trk.nil _))); simp only [SameOn, World.size_alloc, World.size_setCell, World.size_drew, size_drewN', and_true] at hk; have hsz := Below.size hb; (try simp only [World.size_alloc, World.size_setCell, World.size_drew, size_drewN'] at hsz)) | (go_at_call 85; refine (neighbours_any _ _ _ _ (by omega) (by omega) (by omega)).mono ?_; rintro e w' ⟨u, rfl, hb, hO⟩; obtain ⟨pu, cu, rfl⟩ := OI.shape hO; (try simp only [World.size_alloc, World.size_setCell, World.size_drew, World.drewN] at hO); obtain ⟨hT, hk⟩ := bv_next hb (by (repeat (with_reducible first | assumption | apply Trk.alloc | apply Trk.setCell | apply Trk.drewN | apply Trk.drew | exact Trk.nil _))); simp only [SameOn, World.size_alloc, World.size_setCell, World.size_drew, size_drewN', and_true] at hk; have hsz := Below.size hb; (try simp only [World.size_alloc, World.size_setCell, World.size_drew, size_drewN'] at hsz)))
  refine wp_named ?_
  intro ws hws
  have hBs : Below w.heap.size w ws := by rw [hws]; (repeat (first | (with_reducible exact Below.refl _ _) | (with_reducible assumption) | (with_reducible refine below_then ?_ (by assumption)) | (with_reducible refine Below.trans ?_ (by assumption)) | (with_reducible refine below_drewN ?_ _) | (with_reducible apply Below.drew) | (with_reducible refine below_alloc ?_ _) | refine Below.setCell ?_ (by first | (simp; done) | (simp; omega)) _))
  have hzs : w.heap.size + 1 ≤ ws.heap.size := by rw [hws]; first | omega | (simp; done) | (simp; omega)
  have hat : PlAt P l ws w.heap.size 0 := by rw [hws]; exact (by unfold PlAt; refine ⟨?_, ?_, ?_, ?_, ?_, ?_⟩ <;> go_simp)
  have HO00 : Hid (OI (w.heap.size + 1) ws (.slice (some ⟨w'.heap.size, 0, none⟩) 0 0) []) := by rw [hws]; exact OI.empty _ _ rfl (by first | omega | (simp; omega)) rfl
  clear hws hb hk hT hsz
  go_loopw [4, 5, 15] (fun s _ t wr => ∃ (k c : Nat) (q : Option Addr) (L : List Int), k ≤ P.a.length ∧ t = .int .i64 k ∧ s = .slice q L.length c ∧ L.length ≤ k ∧ Hid (OI (w.heap.size + 1) wr (.slice q L.length c) L) ∧ Hid (edgeL P k = L) ∧ Below w.heap.size w wr ∧ w.heap.size + 1 ≤ wr.heap.size ∧ Hid (PlAt P l wr w.heap.size 0)) (fun _ _ t _ => P.a.length - (intOf t).toNat)
  case atStart => exact ⟨0, 0, some ⟨_, 0, none⟩, [], Nat.zero_le _, rfl, rfl, Nat.le_refl _, HO00.out, rfl, hBs, hzs, hat⟩
  case round =>
    clear hBs hzs hat HO00
    obtain ⟨k, c, q, L, hk, rfl, rfl, hLk, HO, HL, hB, hzr, HAT⟩ := hrel
    obtain ⟨g0, g1, g2, g3, g4, g5⟩ := HAT.out
    simp only [Nat.zero_add] at g0 g1 g2 g3 g4 g5
    have hT : Trk wr [w.heap.size] := (Trk.nil wr).more (by omega)
    by_cases hlt : k < P.a.length
    · have hlt2 : (k : Int) < P.W * P.H := by omega
      have HNk := Lib.hid (HN.out k hlt)
      have HEY0 : Hid ((nbl P.W P.H k).length < 4 → edgeL P (k + 1) = edgeL P k ++ [(k : Int)]) := fun h => edgeL_yes h
      have HEN0 : Hid (¬ (nbl P.W P.H k).length < 4 → edgeL P (k + 1) = edgeL P k) := fun h => edgeL_no h
      generalize nbl P.W P.H k = M at HNk HEY0 HEN0
      by_cases hed : M.length < 4
      · have HEY := Lib.hid (HEY0.out hed)
        clear HEY0 HEN0
        go_wp2_with (first | (with_reducible refine at_list ?_; refine wpList_fop rfl rfl rfl rfl rfl ?_; intro r n hr0; have hr := hr0 _ _ (by first | with_reducible assumption | exact rfl) (by first | with_reducible assumption | exact rfl); clear hr0) | (with_reducible refine at_list ?_; refine wpList_neg rfl rfl rfl ?_; intro r hr0; have hr := hr0 _ (by first | with_reducible assumption | exact rfl); clear hr0) | (with_reducible refine at_list ?_; refine wpList_fop_g rfl rfl rfl rfl rfl ?_; intro r n hr0; have hr := hr0 _ _ (by first | with_reducible assumption | exact rfl) (by first | with_reducible assumption | exact rfl); clear hr0) | (with_reducible refine at_list ?_; refine wpList_wide_g rfl rfl Try.underlying33 Try.underlying37 rfl ?_; intro r n hr0; have hr := hr0 _ (by first | with_reducible assumption | exact rfl); clear hr0) | (with_reducible refine at_list ?_; refine wpList_wide rfl rfl rfl Try.underlying33 Try.underlying37 ?_; intro r n hr0; have hr := hr0 _ (by first | with_reducible assumption | exact rfl); clear hr0) | (at_builtin; refine stop_here ?_) | (go_at_call 18; refine (implValidPlate_any _ _ _ (by assumption)).mono ?_; rintro e w' ⟨rfl, hb⟩; obtain ⟨hT, hk⟩ := bv_next hb (by (repeat (with_reducible first | assumption | apply Trk.alloc | apply Trk.setCell | apply Trk.drewN | apply Trk.drew | exact Trk.nil _))); simp only [SameOn, World.size_alloc, World.size_setCell, World.size_drew, size_drewN', and_true] at hk; have hsz := Below.size hb; (try simp only [World.size_alloc, World.size_setCell, World.size_drew, size_drewN'] at hsz)) | (go_at_call 85; refine ((HNk.out _) ).mono ?_; rintro e w' ⟨u, rfl, hb, hO⟩; obtain ⟨pu, cu, rfl⟩ := OI.shape hO; (try simp only [World.size_alloc, World.size_setCell, World.size_drew, World.drewN] at hO); obtain ⟨hT, hk⟩ := bv_next hb (by (repeat (with_reducible first | assumption | apply Trk.alloc | apply Trk.setCell | apply Trk.drewN | apply Trk.drew | exact Trk.nil _))); simp only [SameOn, World.size_alloc, World.size_setCell, World.size_drew, size_drewN', and_true] at hk; have hsz := Below.size hb; (try simp only [World.size_alloc, World.size_setCell, World.size_drew, size_drewN'] at hsz)))
        unfold Stop
        apply wpList_appI (B := w.heap.size + 1) (xs := L) (v := .slice q L.length c)
        case hg => rfl
        case ho => rfl
        case hs => rfl
        case hx => rfl
        case hO => exact (HO.out.later hb).alloc _
        case hc => go_simp <;> exact rfl
        case hn => omega
        case hB => simp; omega
        intro q2 c2 w2 hO2 hB2
        have hw2 : w.heap.size + 1 ≤ w2.heap.size := by have := hB2.size; simp at this; omega
        have hB3 := Below.trans (B := w.heap.size) (a := w) (by (repeat (first | (with_reducible exact Below.refl _ _) | (with_reducible assumption) | (with_reducible refine below_then ?_ (by assumption)) | (with_reducible refine Below.trans ?_ (by assumption)) | (with_reducible refine below_drewN ?_ _) | (with_reducible apply Below.drew) | (with_reducible refine below_alloc ?_ _) | refine Below.setCell ?_ (by first | (simp; done) | (simp; omega)) _))) (hB2.mono (by omega))
        have hat2 := PlAt.later (P := P) (l := l) (b := w.heap.size) (o := 0) (by unfold PlAt; refine ⟨?_, ?_, ?_, ?_, ?_, ?_⟩ <;> go_simp) hB2 (by omega)
        have HB3 := Lib.hid hB3
        have HAT2 := Lib.hid hat2
        have HO2 := Lib.hid hO2
        clear hat2 hB3 hB2 hO2
        go_wp2
        go_roundw
        case rel => exact ⟨k + 1, c2, q2, L ++ [(k : Int)], by omega, by go_num, by simp, by simp; omega, by show OI _ _ _ _; have := HO2.out; simpa using this, by show _ = _; rw [HEY.out, HL.out], HB3.out, hw2, HAT2.out⟩
        case measure => simp [intOf]; omega
      · have HEN := Lib.hid (HEN0.out hed)
        clear HEY0 HEN0
        go_wp2_with (first | (with_reducible refine at_list ?_; refine wpList_fop rfl rfl rfl rfl rfl ?_; intro r n hr0; have hr := hr0 _ _ (by first | with_reducible assumption | exact rfl) (by first | with_reducible assumption | exact rfl); clear hr0) | (with_reducible refine at_list ?_; refine wpList_neg rfl rfl rfl ?_; intro r hr0; have hr := hr0 _ (by first | with_reducible assumption | exact rfl); clear hr0) | (with_reducible refine at_list ?_; refine wpList_fop_g rfl rfl rfl rfl rfl ?_; intro r n hr0; have hr := hr0 _ _ (by first | with_reducible assumption | exact rfl) (by first | with_reducible assumption | exact rfl); clear hr0) | (with_reducible refine at_list ?_; refine wpList_wide_g rfl rfl Try.underlying33 Try.underlying37 rfl ?_; intro r n hr0; have hr := hr0 _ (by first | with_reducible assumption | exact rfl); clear hr0) | (with_reducible refine at_list ?_; refine wpList_wide rfl rfl rfl Try.underlying33 Try.underlying37 ?_; intro r n hr0; have hr := hr0 _ (by first | with_reducible assumption | exact rfl); clear hr0) | (go_at_call 18; refine (implValidPlate_any _ _ _ (by assumption)).mono ?_; rintro e w' ⟨rfl, hb⟩; obtain ⟨hT, hk⟩ := bv_next hb (by (repeat (with_reducible first | assumption | apply Trk.alloc | apply Trk.setCell | apply Trk.drewN | apply Trk.drew | exact Trk.nil _))); simp only [SameOn, World.size_alloc, World.size_setCell, World.size_drew, size_drewN', and_true] at hk; have hsz := Below.size hb; (try simp only [World.size_alloc, World.size_setCell, World.size_drew, size_drewN'] at hsz)) | (go_at_call 85; refine ((HNk.out _) ).mono ?_; rintro e w' ⟨u, rfl, hb, hO⟩; obtain ⟨pu, cu, rfl⟩ := OI.shape hO; (try simp only [World.size_alloc, World.size_setCell, World.size_drew, World.drewN] at hO); obtain ⟨hT, hk⟩ := bv_next hb (by (repeat (with_reducible first | assumption | apply Trk.alloc | apply Trk.setCell | apply Trk.drewN | apply Trk.drew | exact Trk.nil _))); simp only [SameOn, World.size_alloc, World.size_setCell, World.size_drew, size_drewN', and_true] at hk; have hsz := Below.size hb; (try simp only [World.size_alloc, World.size_setCell, World.size_drew, size_drewN'] at hsz)))
        go_roundw
        case rel => exact ⟨k + 1, c, q, L, by omega, by go_num, rfl, by omega, HO.out.later hb, by show _ = _; rw [HEN.out, HL.out], by (repeat (first | (with_reducible exact Below.refl _ _) | (with_reducible assumption) | (with_reducible refine below_then ?_ (by assumption)) | (with_reducible refine Below.trans ?_ (by assumption)) | (with_reducible refine below_drewN ?_ _) | (with_reducible apply Below.drew) | (with_reducible refine below_alloc ?_ _) | refine Below.setCell ?_ (by first | (simp; done) | (simp; omega)) _)), by omega, (by unfold PlAt; refine ⟨?_, ?_, ?_, ?_, ?_, ?_⟩ <;> go_simp)⟩
        case measure => simp [intOf]; omega
    · have hlt2 : ¬ (k : Int) < P.W * P.H := by omega
      have he : k = P.a.length := by omega
      have HLE : Hid (edgeV P = L) := by show _ = _; rw [HE.out, ← he]; exact HL.out
      clear HL hn1
      go_wp2_with (first | (with_reducible refine at_list ?_; refine wpList_fop rfl rfl rfl rfl rfl ?_; intro r n hr0; have hr := hr0 _ _ (by first | with_reducible assumption | exact rfl) (by first | with_reducible assumption | exact rfl); clear hr0) | (with_reducible refine at_list ?_; refine wpList_neg rfl rfl rfl ?_; intro r hr0; have hr := hr0 _ (by first | with_reducible assumption | exact rfl); clear hr0) | (with_reducible refine at_list ?_; refine wpList_fop_g rfl rfl rfl rfl rfl ?_; intro r n hr0; have hr := hr0 _ _ (by first | with_reducible assumption | exact rfl) (by first | with_reducible assumption | exact rfl); clear hr0) | (with_reducible refine at_list ?_; refine wpList_wide_g rfl rfl Try.underlying33 Try.underlying37 rfl ?_; intro r n hr0; have hr := hr0 _ (by first | with_reducible assumption | exact rfl); clear hr0) | (with_reducible refine at_list ?_; refine wpList_wide rfl rfl rfl Try.underlying33 Try.underlying37 ?_; intro r n hr0; have hr := hr0 _ (by first | with_reducible assumption | exact rfl); clear hr0) | (go_at_call 18; refine (implValidPlate_any _ _ _ (by assumption)).mono ?_; rintro e w' ⟨rfl, hb⟩; obtain ⟨hT, hk⟩ := bv_next hb (by (repeat (with_reducible first | assumption | apply Trk.alloc | apply Trk.setCell | apply Trk.drewN | apply Trk.drew | exact Trk.nil _))); simp only [SameOn, World.size_alloc, World.size_setCell, World.size_drew, size_drewN', and_true] at hk; have hsz := Below.size hb; (try simp only [World.size_alloc, World.size_setCell, World.size_drew, size_drewN'] at hsz)) | (go_at_call 85; refine (neighbours_any _ _ _ _ (by omega) (by omega) (by omega)).mono ?_; rintro e w' ⟨u, rfl, hb, hO⟩; obtain ⟨pu, cu, rfl⟩ := OI.shape hO; (try simp only [World.size_alloc, World.size_setCell, World.size_drew, World.drewN] at hO); obtain ⟨hT, hk⟩ := bv_next hb (by (repeat (with_reducible first | assumption | apply Trk.alloc | apply Trk.setCell | apply Trk.drewN | apply Trk.drew | exact Trk.nil _))); simp only [SameOn, World.size_alloc, World.size_setCell, World.size_drew, size_drewN', and_true] at hk; have hsz := Below.size hb; (try simp only [World.size_alloc, World.size_setCell, World.size_drew, size_drewN'] at hsz)))
      go_ret2
      exact ⟨_, rfl, by (repeat (first | (with_reducible exact Below.refl _ _) | (with_reducible assumption) | (with_reducible refine below_then ?_ (by assumption)) | (with_reducible refine Below.trans ?_ (by assumption)) | (with_reducible refine below_drewN ?_ _) | (with_reducible apply Below.drew) | (with_reducible refine below_alloc ?_ _) | refine Below.setCell ?_ (by first | (simp; done) | (simp; omega)) _)), by rw [HLE.out]; exact HO.out.base (by omega)⟩
theorem edge_near (W H i : Int) : (nbl W H i).length < 4 ↔ ((nbs W H i).getD 0 0 < 0 ∨ (nbs W H i).getD 1 0 < 0 ∨ (nbs W H i).getD 2 0 < 0 ∨ (nbs W H i).getD 3 0 < 0) := by
  unfold nbl
  have e : nbs W H i = [nb W H i 0 (-1), nb W H i (-1) 0, nb W H i 1 0, nb W H i 0 1] := rfl
  rw [e]
  simp only [List.getD_cons_zero, List.getD_cons_succ]
  generalize nb W H i 0 (-1) = a
  generalize nb W H i (-1) 0 = b
  generalize nb W H i 1 0 = c
  generalize nb W H i 0 1 = d
  by_cases ha : a < 0 <;> by_cases hb : b < 0 <;> by_cases hc : c < 0 <;> by_cases hd : d < 0 <;> simp [List.filter_cons, ha, hb, hc, hd]
set_option maxHeartbeats 4000000 in
theorem specEdgeCells_any (P : Pl) (l : Lay) (w : World) (hs : P.fs w l) : Calls Try.prog 42 #[.agg #[.int .i64 P.W, .int .i64 P.H, .slice l.p1 P.a.length l.c1, .slice l.p2 P.b.length l.c2, .slice l.p3 P.c.length l.c3, .slice l.p4 P.d.length l.c4]] w (BIB w (edgeV P) P.ok) := by
  have HS := Lib.hid hs
  clear hs
  have HV := Lib.hid (fun b o w h1 h2 => l04Is_any P l b o w h1 h2)
  rcases h0 : P.ok
  · rw [h0] at HV
    have HE := Lib.hid (edgeV_no h0)
    go_enter Try.func42, Try.ntmps42
    go_wp2_with (first | (with_reducible refine at_list ?_; refine wpList_fop rfl rfl rfl rfl rfl ?_; intro r n hr0; have hr := hr0 _ _ (by first | with_reducible assumption | exact rfl) (by first | with_reducible assumption | exact rfl); clear hr0) | (with_reducible refine at_list ?_; refine wpList_neg rfl rfl rfl ?_; intro r hr0; have hr := hr0 _ (by first | with_reducible assumption | exact rfl); clear hr0) | (with_reducible refine at_list ?_; refine wpList_fop_g rfl rfl rfl rfl rfl ?_; intro r n hr0; have hr := hr0 _ _ (by first | with_reducible assumption | exact rfl) (by first | with_reducible assumption | exact rfl); clear hr0) | (with_reducible refine at_list ?_; refine wpList_wide_g rfl rfl Try.underlying33 Try.underlying37 rfl ?_; intro r n hr0; have hr := hr0 _ (by first | with_reducible assumption | exact rfl); clear hr0) | (with_reducible refine at_list ?_; refine wpList_wide rfl rfl rfl Try.underlying33 Try.underlying37 ?_; intro r n hr0; have hr := hr0 _ (by first | with_reducible assumption | exact rfl); clear hr0) | (go_at_call 51; refine ((HV.out _ _ _ (by unfold PlAt; refine ⟨?_, ?_, ?_, ?_, ?_, ?_⟩ <;> go_simp) (HS.out.later (by (repeat (first | (with_reducible exact Below.refl _ _) | (with_reducible assumption) | (with_reducible refine below_then ?_ (by assumption)) | (with_reducible refine Below.trans ?_ (by assumption)) | (with_reducible refine below_drewN ?_ _) | (with_reducible apply Below.drew) | (with_reducible refine below_alloc ?_ _) | refine Below.setCell ?_ (by first | (simp; done) | (simp; omega)) _))))) ).mono ?_; rintro e w' ⟨rfl, n, rfl⟩) | (go_at_call 77; refine (l04Near_any _ _ _ _ _ _ (by assumption) (by omega) (by omega) (by omega)).mono ?_; rintro e w' ⟨u, rfl, hb, hO⟩; obtain ⟨pu, cu, rfl⟩ := OI.shape hO; (try simp only [World.size_alloc, World.size_setCell, World.size_drew, World.drewN] at hO); obtain ⟨hT, hk⟩ := bv_next hb (by (repeat (with_reducible first | assumption | apply Trk.alloc | apply Trk.setCell | apply Trk.drewN | apply Trk.drew | exact Trk.nil _))); simp only [SameOn, World.size_alloc, World.size_setCell, World.size_drew, size_drewN', and_true] at hk; have hsz := Below.size hb; (try simp only [World.size_alloc, World.size_setCell, World.size_drew, size_drewN'] at hsz)))
    all_goals
      go_ret2
      exact ⟨_, rfl, by (repeat (first | (with_reducible exact Below.refl _ _) | (with_reducible assumption) | (with_reducible refine below_then ?_ (by assumption)) | (with_reducible refine Below.trans ?_ (by assumption)) | (with_reducible refine below_drewN ?_ _) | (with_reducible apply Below.drew) | (with_reducible refine below_alloc ?_ _) | refine Below.setCell ?_ (by first | (simp; done) | (simp; omega)) _)), by rw [HE.out]; exact OI.nil0 _ _⟩
  rw [h0] at HV
  have HE := Lib.hid (edgeV_ok h0)
  obtain ⟨hn1, hn2⟩ := Pl.ok_n h0
  obtain ⟨hW, hH, hla, _⟩ := Pl.ok_len h0
  have hlaN : P.a.length ≤ 144 := by omega
  have HLA := Lib.hid hla
  have HN := Lib.hid (fun (k : Nat) (hk : k < P.a.length) b o w ha => l04Near_any P l k b o w ha hW hH (by omega))
  have HL4 : Hid (∀ k, (nbs P.W P.H k).length = 4) := fun k => rfl
  go_enter Try.func42, Try.ntmps42
  go_wp2_with (first | (with_reducible refine at_list ?_; refine wpList_fop rfl rfl rfl rfl rfl ?_; intro r n hr0; have hr := hr0 _ _ (by first | with_reducible assumption | exact rfl) (by first | with_reducible assumption | exact rfl); clear hr0) | (with_reducible refine at_list ?_; refine wpList_neg rfl rfl rfl ?_; intro r hr0; have hr := hr0 _ (by first | with_reducible assumption | exact rfl); clear hr0) | (with_reducible refine at_list ?_; refine wpList_fop_g rfl rfl rfl rfl rfl ?_; intro r n hr0; have hr := hr0 _ _ (by first | with_reducible assumption | exact rfl) (by first | with_reducible assumption | exact rfl); clear hr0) | (with_reducible refine at_list ?_; refine wpList_wide_g rfl rfl Try.underlying33 Try.underlying37 rfl ?_; intro r n hr0; have hr := hr0 _ (by first | with_reducible assumption | exact rfl); clear hr0) | (with_reducible refine at_list ?_; refine wpList_wide rfl rfl rfl Try.underlying33 Try.underlying37 ?_; intro r n hr0; have hr := hr0 _ (by first | with_reducible assumption | exact rfl); clear hr0) | (go_at_call 51; refine ((HV.out _ _ _ (by unfold PlAt; refine ⟨?_, ?_, ?_, ?_, ?_, ?_⟩ <;> go_simp) (HS.out.later (by (repeat (first | (with_reducible exact Below.refl _ _) | (with_reducible assumption) | (with_reducible refine below_then ?_ (by assumption)) | (with_reducible refine Below.trans ?_ (by assumption)) | (with_reducible refine below_drewN ?_ _) | (with_reducible apply Below.drew) | (with_reducible refine below_alloc ?_ _) | refine Below.setCell ?_ (by first | (simp; done) | (simp; omega)) _))))) ).mono ?_; rintro e w' ⟨rfl, n, rfl⟩) | (go_at_call 77; refine (l04Near_any _ _ _ _ _ _ (by assumption) (by omega) (by omega) (by omega)).mono ?_; rintro e w' ⟨u, rfl, hb, hO⟩; obtain ⟨pu, cu, rfl⟩ := OI.shape hO; (try simp only [World.size_alloc, World.size_setCell, World.size_drew, World.drewN] at hO); obtain ⟨hT, hk⟩ := bv_next hb (by (repeat (with_reducible first | assumption | apply Trk.alloc | apply Trk.setCell | apply Trk.drewN | apply Trk.drew | exact Trk.nil _))); simp only [SameOn, World.size_alloc, World.size_setCell, World.size_drew, size_drewN', and_true] at hk; have hsz := Below.size hb; (try simp only [World.size_alloc, World.size_setCell, World.size_drew, size_drewN'] at hsz)))
  refine wp_named ?_
  intro ws hws
  have hBs : Below w.heap.size w ws := by rw [hws]; (repeat (first | (with_reducible exact Below.refl _ _) | (with_reducible assumption) | (with_reducible refine below_then ?_ (by assumption)) | (with_reducible refine Below.trans ?_ (by assumption)) | (with_reducible refine below_drewN ?_ _) | (with_reducible apply Below.drew) | (with_reducible refine below_alloc ?_ _) | refine Below.setCell ?_ (by first | (simp; done) | (simp; omega)) _))
  have hzs : w.heap.size + 1 ≤ ws.heap.size := by rw [hws]; first | omega | (simp; done) | (simp; omega)
  have hat : PlAt P l ws w.heap.size 0 := by rw [hws]; exact (by unfold PlAt; refine ⟨?_, ?_, ?_, ?_, ?_, ?_⟩ <;> go_simp)
  have HO00 : Hid (OI (w.heap.size + 1) ws (.slice (some ⟨w.heap.size + 1, 0, none⟩) 0 0) []) := by rw [hws]; first | exact OI.empty _ _ (by simp) (by simp) rfl | exact (OI.empty _ _ (by simp) (by simp) rfl).drewN _
  clear hws
  go_loopw [4, 5, 6] (fun s t _ wr => ∃ (k c : Nat) (q : Option Addr) (L : List Int), k ≤ P.a.length ∧ t = .int .i64 k ∧ s = .slice q L.length c ∧ L.length ≤ k ∧ Hid (OI (w.heap.size + 1) wr (.slice q L.length c) L) ∧ Hid (edgeL P k = L) ∧ Below w.heap.size w wr ∧ w.heap.size + 1 ≤ wr.heap.size ∧ Hid (PlAt P l wr w.heap.size 0)) (fun _ t _ _ => P.a.length - (intOf t).toNat)
  case atStart => exact ⟨0, 0, some ⟨_, 0, none⟩, [], Nat.zero_le _, rfl, rfl, Nat.le_refl _, HO00.out, rfl, hBs, hzs, hat⟩
  case round =>
    clear hBs hzs hat HO00
    obtain ⟨k, c, q, L, hk, rfl, rfl, hLk, HO, HL, hB, hzr, HAT⟩ := hrel
    obtain ⟨g0, g1, g2, g3, g4, g5⟩ := HAT.out
    simp only [Nat.zero_add] at g0 g1 g2 g3 g4 g5
    have hT : Trk wr [w.heap.size] := (Trk.nil wr).more (by omega)
    by_cases hlt : k < P.a.length
    · have hlt2 : (k : Int) < P.W * P.H := by omega
      have HNk := Lib.hid (HN.out k hlt)
      have HEY0 : Hid ((nbl P.W P.H k).length < 4 → edgeL P (k + 1) = edgeL P k ++ [(k : Int)]) := fun h => edgeL_yes h
      have HEN0 : Hid (¬ (nbl P.W P.H k).length < 4 → edgeL P (k + 1) = edgeL P k) := fun h => edgeL_no h
      have HEQ := Lib.hid (edge_near P.W P.H k)
      have hl4 := HL4.out k
      go_wp2_with (first | (with_reducible refine at_list ?_; refine wpList_fop rfl rfl rfl rfl rfl ?_; intro r n hr0; have hr := hr0 _ _ (by first | with_reducible assumption | exact rfl) (by first | with_reducible assumption | exact rfl); clear hr0) | (with_reducible refine at_list ?_; refine wpList_neg rfl rfl rfl ?_; intro r hr0; have hr := hr0 _ (by first | with_reducible assumption | exact rfl); clear hr0) | (with_reducible refine at_list ?_; refine wpList_fop_g rfl rfl rfl rfl rfl ?_; intro r n hr0; have hr := hr0 _ _ (by first | with_reducible assumption | exact rfl) (by first | with_reducible assumption | exact rfl); clear hr0) | (with_reducible refine at_list ?_; refine wpList_wide_g rfl rfl Try.underlying33 Try.underlying37 rfl ?_; intro r n hr0; have hr := hr0 _ (by first | with_reducible assumption | exact rfl); clear hr0) | (with_reducible refine at_list ?_; refine wpList_wide rfl rfl rfl Try.underlying33 Try.underlying37 ?_; intro r n hr0; have hr := hr0 _ (by first | with_reducible assumption | exact rfl); clear hr0) | (go_at_call 77; refine stop_here ?_) | (go_at_call 51; refine (l04Is_any _ _ _ _ _ (by assumption) (by assumption)).mono ?_; rintro e w' ⟨rfl, n, rfl⟩) | (go_at_call 77; refine (l04Near_any _ _ _ _ _ _ (by assumption) (by omega) (by omega) (by omega)).mono ?_; rintro e w' ⟨u, rfl, hb, hO⟩; obtain ⟨pu, cu, rfl⟩ := OI.shape hO; (try simp only [World.size_alloc, World.size_setCell, World.size_drew, World.drewN] at hO); obtain ⟨hT, hk⟩ := bv_next hb (by (repeat (with_reducible first | assumption | apply Trk.alloc | apply Trk.setCell | apply Trk.drewN | apply Trk.drew | exact Trk.nil _))); simp only [SameOn, World.size_alloc, World.size_setCell, World.size_drew, size_drewN', and_true] at hk; have hsz := Below.size hb; (try simp only [World.size_alloc, World.size_setCell, World.size_drew, size_drewN'] at hsz)))
      unfold Stop
      refine (HNk.out _ _ _ (by unfold PlAt; refine ⟨?_, ?_, ?_, ?_, ?_, ?_⟩ <;> go_simp)).mono ?_
      rintro e w' ⟨u, rfl, hb, hO⟩
      obtain ⟨hT, hk⟩ := bv_next hb (by (repeat (with_reducible first | assumption | apply Trk.alloc | apply Trk.setCell | apply Trk.drewN | apply Trk.drew | exact Trk.nil _))); simp only [SameOn, World.size_alloc, World.size_setCell, World.size_drew, size_drewN', and_true] at hk; have hsz := Below.size hb; (try simp only [World.size_alloc, World.size_setCell, World.size_drew, size_drewN'] at hsz)
      have hz3 : w.heap.size + 1 ≤ w'.heap.size := by omega
      generalize nbl P.W P.H k = M at HEQ HEY0 HEN0
      generalize nbs P.W P.H k = N at hO hl4 HEQ
      rcases OI.view hO with ⟨h, _⟩ | ⟨gb, gc, h, _, _, hg1, hg2, hv⟩
      · exfalso
        rw [h] at hO
        rcases hO.2 with ⟨_, h0⟩ | ⟨_, _, _, h0, _⟩
        · rw [hl4] at h0; cases h0
        · cases h0
      subst h
      rw [hl4] at hv hg1 ⊢
      unfold maxLen at hg2
      obtain ⟨c0, _⟩ := hv 0 (by omega)
      obtain ⟨c1, _⟩ := hv 1 (by omega)
      obtain ⟨c2', _⟩ := hv 2 (by omega)
      obtain ⟨c3, _⟩ := hv 3 (by omega)
      clear hv hO HNk
      generalize N.getD 0 0 = x0 at c0 HEQ
      generalize N.getD 1 0 = x1 at c1 HEQ
      generalize N.getD 2 0 = x2 at c2' HEQ
      generalize N.getD 3 0 = x3 at c3 HEQ
      have HHL := Lib.hid hl4
      clear hl4
      by_cases h0 : x0 < 0 <;> by_cases h1 : x1 < 0 <;> by_cases h2 : x2 < 0 <;> by_cases h3 : x3 < 0
      all_goals
        first
        | (have hed : M.length < 4 := HEQ.out.2 (by omega)
           have HEY := Lib.hid (HEY0.out hed)
           clear HEY0 HEN0 HEQ hed
           go_wp2_with (first | (with_reducible refine at_list ?_; refine wpList_fop rfl rfl rfl rfl rfl ?_; intro r n hr0; have hr := hr0 _ _ (by first | with_reducible assumption | exact rfl) (by first | with_reducible assumption | exact rfl); clear hr0) | (with_reducible refine at_list ?_; refine wpList_neg rfl rfl rfl ?_; intro r hr0; have hr := hr0 _ (by first | with_reducible assumption | exact rfl); clear hr0) | (with_reducible refine at_list ?_; refine wpList_fop_g rfl rfl rfl rfl rfl ?_; intro r n hr0; have hr := hr0 _ _ (by first | with_reducible assumption | exact rfl) (by first | with_reducible assumption | exact rfl); clear hr0) | (with_reducible refine at_list ?_; refine wpList_wide_g rfl rfl Try.underlying33 Try.underlying37 rfl ?_; intro r n hr0; have hr := hr0 _ (by first | with_reducible assumption | exact rfl); clear hr0) | (with_reducible refine at_list ?_; refine wpList_wide rfl rfl rfl Try.underlying33 Try.underlying37 ?_; intro r n hr0; have hr := hr0 _ (by first | with_reducible assumption | exact rfl); clear hr0) | (at_builtin; refine stop_here ?_) | (go_at_call 51; refine (l04Is_any _ _ _ _ _ (by assumption) (by assumption)).mono ?_; rintro e w' ⟨rfl, n, rfl⟩) | (go_at_call 77; refine (l04Near_any _ _ _ _ _ _ (by assumption) (by omega) (by omega) (by omega)).mono ?_; rintro e w' ⟨u, rfl, hb, hO⟩; obtain ⟨pu, cu, rfl⟩ := OI.shape hO; (try simp only [World.size_alloc, World.size_setCell, World.size_drew, World.drewN] at hO); obtain ⟨hT, hk⟩ := bv_next hb (by (repeat (with_reducible first | assumption | apply Trk.alloc | apply Trk.setCell | apply Trk.drewN | apply Trk.drew | exact Trk.nil _))); simp only [SameOn, World.size_alloc, World.size_setCell, World.size_drew, size_drewN', and_true] at hk; have hsz := Below.size hb; (try simp only [World.size_alloc, World.size_setCell, World.size_drew, size_drewN'] at hsz)))
           unfold Stop
           apply wpList_appI (B := w.heap.size + 1) (xs := L) (v := .slice q L.length c)
           case hg => rfl
           case ho => rfl
           case hs => rfl
           case hx => rfl
           case hO => (first | exact (HO.out.later hb).alloc _ | exact ((HO.out.later hb).drewN _).alloc _)
           case hc => go_simp <;> exact rfl
           case hn => omega
           case hB => simp; omega
           intro q2 c2 w2 hO2 hB2
           have hw2 : w.heap.size + 1 ≤ w2.heap.size := by have := hB2.size; simp at this; omega
           have hB3 := Below.trans (B := w.heap.size) (a := w) (by (repeat (first | (with_reducible exact Below.refl _ _) | (with_reducible assumption) | (with_reducible refine below_then ?_ (by assumption)) | (with_reducible refine Below.trans ?_ (by assumption)) | (with_reducible refine below_drewN ?_ _) | (with_reducible apply Below.drew) | (with_reducible refine below_alloc ?_ _) | refine Below.setCell ?_ (by first | (simp; done) | (simp; omega)) _))) (hB2.mono (by omega))
           have hat2 := PlAt.later (P := P) (l := l) (b := w.heap.size) (o := 0) (by unfold PlAt; refine ⟨?_, ?_, ?_, ?_, ?_, ?_⟩ <;> go_simp) hB2 (by omega)
           have HB3 := Lib.hid hB3
           have HAT2 := Lib.hid hat2
           have HO2 := Lib.hid hO2
           clear hat2 hB3 hB2 hO2
           go_wp2
           go_roundw
           case rel => exact ⟨k + 1, c2, q2, L ++ [(k : Int)], by omega, by go_num, by simp, by simp; omega, by show OI _ _ _ _; have := HO2.out; simpa using this, by show _ = _; rw [HEY.out, HL.out], HB3.out, hw2, HAT2.out⟩
           case measure => simp [intOf]; omega)
        | (have hed : ¬ M.length < 4 := fun h => by have := HEQ.out.1 h; omega
           have HEN := Lib.hid (HEN0.out hed)
           clear HEY0 HEN0 HEQ hed
           go_wp2_with (first | (with_reducible refine at_list ?_; refine wpList_fop rfl rfl rfl rfl rfl ?_; intro r n hr0; have hr := hr0 _ _ (by first | with_reducible assumption | exact rfl) (by first | with_reducible assumption | exact rfl); clear hr0) | (with_reducible refine at_list ?_; refine wpList_neg rfl rfl rfl ?_; intro r hr0; have hr := hr0 _ (by first | with_reducible assumption | exact rfl); clear hr0) | (with_reducible refine at_list ?_; refine wpList_fop_g rfl rfl rfl rfl rfl ?_; intro r n hr0; have hr := hr0 _ _ (by first | with_reducible assumption | exact rfl) (by first | with_reducible assumption | exact rfl); clear hr0) | (with_reducible refine at_list ?_; refine wpList_wide_g rfl rfl Try.underlying33 Try.underlying37 rfl ?_; intro r n hr0; have hr := hr0 _ (by first | with_reducible assumption | exact rfl); clear hr0) | (with_reducible refine at_list ?_; refine wpList_wide rfl rfl rfl Try.underlying33 Try.underlying37 ?_; intro r n hr0; have hr := hr0 _ (by first | with_reducible assumption | exact rfl); clear hr0) | (go_at_call 51; refine (l04Is_any _ _ _ _ _ (by assumption) (by assumption)).mono ?_; rintro e w' ⟨rfl, n, rfl⟩) | (go_at_call 77; refine (l04Near_any _ _ _ _ _ _ (by assumption) (by omega) (by omega) (by omega)).mono ?_; rintro e w' ⟨u, rfl, hb, hO⟩; obtain ⟨pu, cu, rfl⟩ := OI.shape hO; (try simp only [World.size_alloc, World.size_setCell, World.size_drew, World.drewN] at hO); obtain ⟨hT, hk⟩ := bv_next hb (by (repeat (with_reducible first | assumption | apply Trk.alloc | apply Trk.setCell | apply Trk.drewN | apply Trk.drew | exact Trk.nil _))); simp only [SameOn, World.size_alloc, World.size_setCell, World.size_drew, size_drewN', and_true] at hk; have hsz := Below.size hb; (try simp only [World.size_alloc, World.size_setCell, World.size_drew, size_drewN'] at hsz)))
           go_roundw
           case rel => exact ⟨k + 1, c, q, L, by omega, by go_num, rfl, by omega, by first | exact HO.out.later hb | exact (HO.out.later hb).drewN _, by show _ = _; rw [HEN.out, HL.out], by (repeat (first | (with_reducible exact Below.refl _ _) | (with_reducible assumption) | (with_reducible refine below_then ?_ (by assumption)) | (with_reducible refine Below.trans ?_ (by assumption)) | (with_reducible refine below_drewN ?_ _) | (with_reducible apply Below.drew) | (with_reducible refine below_alloc ?_ _) | refine Below.setCell ?_ (by first | (simp; done) | (simp; omega)) _)), by omega, (by unfold PlAt; refine ⟨?_, ?_, ?_, ?_, ?_, ?_⟩ <;> go_simp)⟩
           case measure => simp [intOf]; omega)
    · have hlt2 : ¬ (k : Int) < P.W * P.H := by omega
      have he : k = P.a.length := by omega
      have HLE : Hid (edgeV P = L) := by show _ = _; rw [HE.out, ← he]; exact HL.out
      clear HL hn1
      go_wp2_with (first | (with_reducible refine at_list ?_; refine wpList_fop rfl rfl rfl rfl rfl ?_; intro r n hr0; have hr := hr0 _ _ (by first | with_reducible assumption | exact rfl) (by first | with_reducible assumption | exact rfl); clear hr0) | (with_reducible refine at_list ?_; refine wpList_neg rfl rfl rfl ?_; intro r hr0; have hr := hr0 _ (by first | with_reducible assumption | exact rfl); clear hr0) | (with_reducible refine at_list ?_; refine wpList_fop_g rfl rfl rfl rfl rfl ?_; intro r n hr0; have hr := hr0 _ _ (by first | with_reducible assumption | exact rfl) (by first | with_reducible assumption | exact rfl); clear hr0) | (with_reducible refine at_list ?_; refine wpList_wide_g rfl rfl Try.underlying33 Try.underlying37 rfl ?_; intro r n hr0; have hr := hr0 _ (by first | with_reducible assumption | exact rfl); clear hr0) | (with_reducible refine at_list ?_; refine wpList_wide rfl rfl rfl Try.underlying33 Try.underlying37 ?_; intro r n hr0; have hr := hr0 _ (by first | with_reducible assumption | exact rfl); clear hr0) | (go_at_call 51; refine (l04Is_any _ _ _ _ _ (by assumption) (by assumption)).mono ?_; rintro e w' ⟨rfl, n, rfl⟩) | (go_at_call 77; refine (l04Near_any _ _ _ _ _ _ (by assumption) (by omega) (by omega) (by omega)).mono ?_; rintro e w' ⟨u, rfl, hb, hO⟩; obtain ⟨pu, cu, rfl⟩ := OI.shape hO; (try simp only [World.size_alloc, World.size_setCell, World.size_drew, World.drewN] at hO); obtain ⟨hT, hk⟩ := bv_next hb (by (repeat (with_reducible first | assumption | apply Trk.alloc | apply Trk.setCell | apply Trk.drewN | apply Trk.drew | exact Trk.nil _))); simp only [SameOn, World.size_alloc, World.size_setCell, World.size_drew, size_drewN', and_true] at hk; have hsz := Below.size hb; (try simp only [World.size_alloc, World.size_setCell, World.size_drew, size_drewN'] at hsz)))
      go_ret2
      exact ⟨_, rfl, by (repeat (first | (with_reducible exact Below.refl _ _) | (with_reducible assumption) | (with_reducible refine below_then ?_ (by assumption)) | (with_reducible refine Below.trans ?_ (by assumption)) | (with_reducible refine below_drewN ?_ _) | (with_reducible apply Below.drew) | (with_reducible refine below_alloc ?_ _) | refine Below.setCell ?_ (by first | (simp; done) | (simp; omega)) _)), by rw [HLE.out]; exact HO.out.base (by omega)⟩
end Go.Proofs.Ythdmamcbceblpaa

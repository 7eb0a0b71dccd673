/-
  A run of a rod: the reference's way. No condition but what each contract says.
-/
import Derived.Test.YtgkcfeaknehopaaPrRunS
set_option linter.unusedSimpArgs false
set_option linter.unusedVariables false
set_option linter.unusedSectionVars false
namespace Go.Proofs.Ytgkcfeaknehopaa
open Go Go.RowKit
open Go.ChangeShapes Go.WideShapes Go.ChangeAt Go.RowKit Go.Joins
theorem fgt_of_lst {c : Nat} (h : lst c = true) (hc : cn .f32 c = c) : fgt .f32 c (cn .f32 0) = !feq .f32 c (cn .f32 0) := by
  unfold lst at h
  rw [Bool.and_eq_true] at h
  have h1 := h.2
  unfold fge at h1
  unfold fgt feq
  cases ho : FloatKind.f32.format.order c (cn .f32 0) with
  | none => rw [ho] at h1; cases h1
  | some x => rw [ho] at h1; cases x <;> first | rfl | cases h1
theorem abv_of_lst {c : Nat} (h : lst c = true) (h2 : feq .f32 c (cn .f32 0) = false) (hc : cn .f32 c = c) : abv c = true := by
  have h3 := fgt_of_lst h hc
  rw [h2] at h3
  unfold lst at h
  rw [Bool.and_eq_true] at h
  unfold abv
  rw [h.1, h3]; rfl
set_option maxHeartbeats 16000000 in
set_option maxRecDepth 100000 in
theorem specRun_any (P : Rd) (l : RL) (E G : EndT) (t : Nat) (z : Int) (rows : Bool) (w : World) (hs : P.fs w l) : Calls Try.prog 45 #[.agg #[.slice l.p1 P.a.length l.c1, .slice l.p2 P.b.length l.c2, .slice l.p3 P.c.length l.c3, .slice l.p4 P.d.length l.c4], .agg #[.int .i64 E.k, .float .f32 E.t, .float .f32 E.e], .agg #[.int .i64 G.k, .float .f32 G.t, .float .f32 G.e], .float .f32 t, .int .i64 z, .bool rows] w (BRL w (okR (runB rows E G t z P) (runR rows E G t P z.toNat)) (okL (runB rows E G t z P) (runL rows E G t P z.toNat)) (runB rows E G t z P)) := by
  have HS := Lib.hid hs
  obtain ⟨B0, hB0⟩ : ∃ B0, B0 = runB rows E G t z P := ⟨_, rfl⟩
  have HB0 := Lib.hid hB0
  have HN := Lib.hid (fun b o c p d q w h1 h2 h3 h4 => l02Ends_any P l E G b o c p d q w h1 h2 h3 h4)
  rw [show (P.ok && (E.ok && G.ok)) = endsOk P E G from rfl] at HN
  rw [← hB0]
  clear hs hB0
  rcases h0 : endsOk P E G
  · have HE : Hid (B0 = false) := by show _ = _; rw [HB0.out]; exact runB_no (by simp [runPre, h0])
    rw [h0] at HN
    clear h0
    go_enter Try.func45, Try.ntmps45
    go_wp2_with (first | (with_reducible refine at_list ?_; refine wpList_wide_g rfl rfl Try.underlying25 Try.underlying32 rfl ?_; intro r n hr0; have hr := hr0 _ (by first | with_reducible assumption | exact rfl); clear hr0) | (with_reducible refine at_list ?_; refine wpList_wide rfl rfl rfl Try.underlying25 Try.underlying32 ?_; intro r n hr0; have hr := hr0 _ (by first | with_reducible assumption | exact rfl); clear hr0) | (go_at_call 63; refine ((HN.out _ _ _ _ _ _ _ (by unfold RdAt; refine ⟨?_, ?_, ?_, ?_⟩ <;> go_simp) (HS.out.later (by (repeat (first | (with_reducible exact Below.refl _ _) | (with_reducible assumption) | (with_reducible refine below_then ?_ (by assumption)) | (with_reducible refine Below.trans ?_ (by assumption)) | (with_reducible refine below_drewN ?_ _) | (with_reducible apply Below.drew) | (with_reducible refine below_alloc ?_ _) | refine Below.setCell ?_ (by first | (simp; done) | (simp; omega)) _)))) (by unfold EnAt; refine ⟨?_, ?_, ?_⟩ <;> go_simp) (by unfold EnAt; refine ⟨?_, ?_, ?_⟩ <;> go_simp)) ).mono ?_; rintro e w' ⟨rfl, n, rfl⟩) | (go_at_call 66; refine (l02Least_any _ _).mono ?_; rintro e w' ⟨rfl, n, rfl⟩) | (go_at_call 102; refine (l00In_any _ _ _ _).mono ?_; rintro e w' ⟨rfl, n, rfl⟩) | (go_at_call 104; refine (l02Heat_any _ _ _ _ _ (by assumption) (by assumption) (by assumption)).mono ?_; rintro e w' ⟨r, rfl, hr, hb⟩; obtain ⟨hT, hk⟩ := bv_next hb (by (repeat (with_reducible first | assumption | apply Trk.alloc | apply Trk.setCell | apply Trk.drewN | apply Trk.drew | exact Trk.nil _))); simp only [SameOn, World.size_alloc, World.size_setCell, World.size_drew, size_drewN', and_true] at hk; have hsz := Below.size hb; (try simp only [World.size_alloc, World.size_setCell, World.size_drew, size_drewN'] at hsz)) | (go_at_call 105; refine (l02Finite_any _ _ _ (by assumption)).mono ?_; rintro e w' ⟨rfl, n, rfl⟩))
    all_goals
      refine bodyPost_ret (v := .tuple #[.agg #[.slice none 0 0, .slice none 0 0, .slice none 0 0, .slice none 0 0], .slice none 0 0, .bool false]) (by simp [results, Try.results45, go_sem, *]) rfl ?_
      exact brl_no rfl (by (repeat (first | (with_reducible exact Below.refl _ _) | (with_reducible assumption) | (with_reducible refine below_then ?_ (by assumption)) | (with_reducible refine Below.trans ?_ (by assumption)) | (with_reducible refine below_drewN ?_ _) | (with_reducible apply Below.drew) | (with_reducible refine below_alloc ?_ _) | refine Below.setCell ?_ (by first | (simp; done) | (simp; omega)) _))) HE.out
  rw [h0] at HN
  rcases h1 : lst (cn .f32 t)
  · have HE : Hid (B0 = false) := by show _ = _; rw [HB0.out]; exact runB_no (by simp [runPre, h1])
    clear h0
    go_enter Try.func45, Try.ntmps45
    go_wp2_with (first | (with_reducible refine at_list ?_; refine wpList_wide_g rfl rfl Try.underlying25 Try.underlying32 rfl ?_; intro r n hr0; have hr := hr0 _ (by first | with_reducible assumption | exact rfl); clear hr0) | (with_reducible refine at_list ?_; refine wpList_wide rfl rfl rfl Try.underlying25 Try.underlying32 ?_; intro r n hr0; have hr := hr0 _ (by first | with_reducible assumption | exact rfl); clear hr0) | (go_at_call 63; refine ((HN.out _ _ _ _ _ _ _ (by unfold RdAt; refine ⟨?_, ?_, ?_, ?_⟩ <;> go_simp) (HS.out.later (by (repeat (first | (with_reducible exact Below.refl _ _) | (with_reducible assumption) | (with_reducible refine below_then ?_ (by assumption)) | (with_reducible refine Below.trans ?_ (by assumption)) | (with_reducible refine below_drewN ?_ _) | (with_reducible apply Below.drew) | (with_reducible refine below_alloc ?_ _) | refine Below.setCell ?_ (by first | (simp; done) | (simp; omega)) _)))) (by unfold EnAt; refine ⟨?_, ?_, ?_⟩ <;> go_simp) (by unfold EnAt; refine ⟨?_, ?_, ?_⟩ <;> go_simp)) ).mono ?_; rintro e w' ⟨rfl, n, rfl⟩) | (go_at_call 66; refine (l02Least_any _ _).mono ?_; rintro e w' ⟨rfl, n, rfl⟩) | (go_at_call 102; refine (l00In_any _ _ _ _).mono ?_; rintro e w' ⟨rfl, n, rfl⟩) | (go_at_call 104; refine (l02Heat_any _ _ _ _ _ (by assumption) (by assumption) (by assumption)).mono ?_; rintro e w' ⟨r, rfl, hr, hb⟩; obtain ⟨hT, hk⟩ := bv_next hb (by (repeat (with_reducible first | assumption | apply Trk.alloc | apply Trk.setCell | apply Trk.drewN | apply Trk.drew | exact Trk.nil _))); simp only [SameOn, World.size_alloc, World.size_setCell, World.size_drew, size_drewN', and_true] at hk; have hsz := Below.size hb; (try simp only [World.size_alloc, World.size_setCell, World.size_drew, size_drewN'] at hsz)) | (go_at_call 105; refine (l02Finite_any _ _ _ (by assumption)).mono ?_; rintro e w' ⟨rfl, n, rfl⟩))
    all_goals
      refine bodyPost_ret (v := .tuple #[.agg #[.slice none 0 0, .slice none 0 0, .slice none 0 0, .slice none 0 0], .slice none 0 0, .bool false]) (by simp [results, Try.results45, go_sem, *]) rfl ?_
      exact brl_no rfl (by (repeat (first | (with_reducible exact Below.refl _ _) | (with_reducible assumption) | (with_reducible refine below_then ?_ (by assumption)) | (with_reducible refine Below.trans ?_ (by assumption)) | (with_reducible refine below_drewN ?_ _) | (with_reducible apply Below.drew) | (with_reducible refine below_alloc ?_ _) | refine Below.setCell ?_ (by first | (simp; done) | (simp; omega)) _))) HE.out
  have hfg := fgt_of_lst h1 (cn_cn _ _)
  have h0k := h0
  have h1k := h1
  have HAB : Hid (feq .f32 (cn .f32 t) (cn .f32 0) = false → abv (cn .f32 t) = true) := fun h => abv_of_lst h1k h (cn_cn _ _)
  rcases h3 : inB z 0 128
  · have HE : Hid (B0 = false) := by show _ = _; rw [HB0.out]; exact runB_no (by simp [runPre, h3])
    clear h0 h0k h1k HAB
    cases rows
    · clear hfg
      go_enter Try.func45, Try.ntmps45
      go_wp2_with (first | (with_reducible refine at_list ?_; refine wpList_wide_g rfl rfl Try.underlying25 Try.underlying32 rfl ?_; intro r n hr0; have hr := hr0 _ (by first | with_reducible assumption | exact rfl); clear hr0) | (with_reducible refine at_list ?_; refine wpList_wide rfl rfl rfl Try.underlying25 Try.underlying32 ?_; intro r n hr0; have hr := hr0 _ (by first | with_reducible assumption | exact rfl); clear hr0) | (go_at_call 63; refine ((HN.out _ _ _ _ _ _ _ (by unfold RdAt; refine ⟨?_, ?_, ?_, ?_⟩ <;> go_simp) (HS.out.later (by (repeat (first | (with_reducible exact Below.refl _ _) | (with_reducible assumption) | (with_reducible refine below_then ?_ (by assumption)) | (with_reducible refine Below.trans ?_ (by assumption)) | (with_reducible refine below_drewN ?_ _) | (with_reducible apply Below.drew) | (with_reducible refine below_alloc ?_ _) | refine Below.setCell ?_ (by first | (simp; done) | (simp; omega)) _)))) (by unfold EnAt; refine ⟨?_, ?_, ?_⟩ <;> go_simp) (by unfold EnAt; refine ⟨?_, ?_, ?_⟩ <;> go_simp)) ).mono ?_; rintro e w' ⟨rfl, n, rfl⟩) | (go_at_call 66; refine (l02Least_any _ _).mono ?_; rintro e w' ⟨rfl, n, rfl⟩) | (go_at_call 102; refine (l00In_any _ _ _ _).mono ?_; rintro e w' ⟨rfl, n, rfl⟩) | (go_at_call 104; refine (l02Heat_any _ _ _ _ _ (by assumption) (by assumption) (by assumption)).mono ?_; rintro e w' ⟨r, rfl, hr, hb⟩; obtain ⟨hT, hk⟩ := bv_next hb (by (repeat (with_reducible first | assumption | apply Trk.alloc | apply Trk.setCell | apply Trk.drewN | apply Trk.drew | exact Trk.nil _))); simp only [SameOn, World.size_alloc, World.size_setCell, World.size_drew, size_drewN', and_true] at hk; have hsz := Below.size hb; (try simp only [World.size_alloc, World.size_setCell, World.size_drew, size_drewN'] at hsz)) | (go_at_call 105; refine (l02Finite_any _ _ _ (by assumption)).mono ?_; rintro e w' ⟨rfl, n, rfl⟩))
      all_goals
        refine bodyPost_ret (v := .tuple #[.agg #[.slice none 0 0, .slice none 0 0, .slice none 0 0, .slice none 0 0], .slice none 0 0, .bool false]) (by simp [results, Try.results45, go_sem, *]) rfl ?_
        exact brl_no rfl (by (repeat (first | (with_reducible exact Below.refl _ _) | (with_reducible assumption) | (with_reducible refine below_then ?_ (by assumption)) | (with_reducible refine Below.trans ?_ (by assumption)) | (with_reducible refine below_drewN ?_ _) | (with_reducible apply Below.drew) | (with_reducible refine below_alloc ?_ _) | refine Below.setCell ?_ (by first | (simp; done) | (simp; omega)) _))) HE.out
    · rcases h8 : fgt .f32 (cn .f32 t) (cn .f32 0)
      all_goals
        clear hfg
        go_enter Try.func45, Try.ntmps45
        go_wp2_with (first | (with_reducible refine at_list ?_; refine wpList_wide_g rfl rfl Try.underlying25 Try.underlying32 rfl ?_; intro r n hr0; have hr := hr0 _ (by first | with_reducible assumption | exact rfl); clear hr0) | (with_reducible refine at_list ?_; refine wpList_wide rfl rfl rfl Try.underlying25 Try.underlying32 ?_; intro r n hr0; have hr := hr0 _ (by first | with_reducible assumption | exact rfl); clear hr0) | (go_at_call 63; refine ((HN.out _ _ _ _ _ _ _ (by unfold RdAt; refine ⟨?_, ?_, ?_, ?_⟩ <;> go_simp) (HS.out.later (by (repeat (first | (with_reducible exact Below.refl _ _) | (with_reducible assumption) | (with_reducible refine below_then ?_ (by assumption)) | (with_reducible refine Below.trans ?_ (by assumption)) | (with_reducible refine below_drewN ?_ _) | (with_reducible apply Below.drew) | (with_reducible refine below_alloc ?_ _) | refine Below.setCell ?_ (by first | (simp; done) | (simp; omega)) _)))) (by unfold EnAt; refine ⟨?_, ?_, ?_⟩ <;> go_simp) (by unfold EnAt; refine ⟨?_, ?_, ?_⟩ <;> go_simp)) ).mono ?_; rintro e w' ⟨rfl, n, rfl⟩) | (go_at_call 66; refine (l02Least_any _ _).mono ?_; rintro e w' ⟨rfl, n, rfl⟩) | (go_at_call 102; refine (l00In_any _ _ _ _).mono ?_; rintro e w' ⟨rfl, n, rfl⟩) | (go_at_call 104; refine (l02Heat_any _ _ _ _ _ (by assumption) (by assumption) (by assumption)).mono ?_; rintro e w' ⟨r, rfl, hr, hb⟩; obtain ⟨hT, hk⟩ := bv_next hb (by (repeat (with_reducible first | assumption | apply Trk.alloc | apply Trk.setCell | apply Trk.drewN | apply Trk.drew | exact Trk.nil _))); simp only [SameOn, World.size_alloc, World.size_setCell, World.size_drew, size_drewN', and_true] at hk; have hsz := Below.size hb; (try simp only [World.size_alloc, World.size_setCell, World.size_drew, size_drewN'] at hsz)) | (go_at_call 105; refine (l02Finite_any _ _ _ (by assumption)).mono ?_; rintro e w' ⟨rfl, n, rfl⟩))
        all_goals
          refine bodyPost_ret (v := .tuple #[.agg #[.slice none 0 0, .slice none 0 0, .slice none 0 0, .slice none 0 0], .slice none 0 0, .bool false]) (by simp [results, Try.results45, go_sem, *]) rfl ?_
          exact brl_no rfl (by (repeat (first | (with_reducible exact Below.refl _ _) | (with_reducible assumption) | (with_reducible refine below_then ?_ (by assumption)) | (with_reducible refine Below.trans ?_ (by assumption)) | (with_reducible refine below_drewN ?_ _) | (with_reducible apply Below.drew) | (with_reducible refine below_alloc ?_ _) | refine Below.setCell ?_ (by first | (simp; done) | (simp; omega)) _))) HE.out
  have hPok : P.ok = true := by unfold endsOk at h0; rw [Bool.and_eq_true] at h0; exact h0.1
  have hEG : (E.ok && G.ok) = true := by unfold endsOk at h0; rw [Bool.and_eq_true] at h0; exact h0.2
  have hPRE : runPre rows E G t z P = (!rows || !feq .f32 (cn .f32 t) (cn .f32 0)) := by unfold runPre; rw [h0, h1, h3]; simp
  have hin : 0 ≤ z ∧ z ≤ 128 := by simpa [inB] using h3
  obtain ⟨N, hN⟩ : ∃ N : Nat, N = z.toNat := ⟨_, rfl⟩
  obtain ⟨RK, MK, UK, OK, LK, ⟨hRK, hMK, hRS, hUK, hLK⟩, ⟨r0, -, o0, l0⟩, -, hOS, hUE, hLS, hLL, hOk, -, hStop, hMok, -⟩ := run_abs rows E G t P hPok
  have HRUN : Hid (runPre rows E G t z P = true → B0 = UK N) := fun h => by rw [HB0.out, hN, hUK]; exact runB_yes h
  have HNO : Hid (runPre rows E G t z P = false → B0 = false) := fun h => by rw [HB0.out]; exact runB_no h
  have HMV : Hid ((rows = true → feq .f32 (cn .f32 t) (cn .f32 0) = false) → ∀ (k : Nat) (m : RL) (b o c p d q : Nat) (w' : World), RdAt (RK k) m w' b o → (RK k).fs w' m → EnAt E w' c p → EnAt G w' d q → OK k = true → Calls Try.prog 103 #[.pointer (some ⟨b, o, none⟩), .pointer (some ⟨c, p, none⟩), .pointer (some ⟨d, q, none⟩), .float .f32 t, .bool rows] w' (BRB w' (okR (MK k) (RK (k + 1))) (MK k))) := fun hr k m b o c p d q w' a1 a2 a3 a4 a5 => by
    rw [hRS k, hMK k]
    exact l02Move_any (RK k) m E G t b o c p d q rows w' a1 a2 a3 a4 (by unfold endsOk; rw [hOk k a5, hEG]; rfl) h1 (fun h => HAB.out (hr h))
  rw [← hRK, ← hLK, ← hN]
  rw [hPRE] at HRUN HNO
  have HF := Lib.hid (And.intro hOS (And.intro hLS (And.intro hLL (And.intro hOk (And.intro hStop (And.intro hMok hUE))))))
  have HR0 := Lib.hid (And.intro r0 (And.intro o0 l0))
  have HNN := Lib.hid hN
  have HP := Lib.hid hPok
  have hmx : (z.toNat : Int) = z := by omega
  have HMX := Lib.hid hmx
  clear hPok hEG h0 h0k h1k hPRE hRK hMK hRS hUK hLK r0 o0 l0 hOS hUE hLS hLL hOk hStop hMok HAB HB0 hN hmx
  by_cases hrt : rows = true ∧ feq .f32 (cn .f32 t) (cn .f32 0) = true
  · obtain ⟨rfl, h7⟩ := hrt
    have HE : Hid (B0 = false) := HNO.out (by rw [h7]; rfl)
    rw [h7] at hfg
    simp only [Bool.not_true] at hfg
    clear h7
    go_enter Try.func45, Try.ntmps45
    go_wp2_with (first | (with_reducible refine at_list ?_; refine wpList_wide_g rfl rfl Try.underlying25 Try.underlying32 rfl ?_; intro r n hr0; have hr := hr0 _ (by first | with_reducible assumption | exact rfl); clear hr0) | (with_reducible refine at_list ?_; refine wpList_wide rfl rfl rfl Try.underlying25 Try.underlying32 ?_; intro r n hr0; have hr := hr0 _ (by first | with_reducible assumption | exact rfl); clear hr0) | (go_at_call 63; refine ((HN.out _ _ _ _ _ _ _ (by unfold RdAt; refine ⟨?_, ?_, ?_, ?_⟩ <;> go_simp) (HS.out.later (by (repeat (first | (with_reducible exact Below.refl _ _) | (with_reducible assumption) | (with_reducible refine below_then ?_ (by assumption)) | (with_reducible refine Below.trans ?_ (by assumption)) | (with_reducible refine below_drewN ?_ _) | (with_reducible apply Below.drew) | (with_reducible refine below_alloc ?_ _) | refine Below.setCell ?_ (by first | (simp; done) | (simp; omega)) _)))) (by unfold EnAt; refine ⟨?_, ?_, ?_⟩ <;> go_simp) (by unfold EnAt; refine ⟨?_, ?_, ?_⟩ <;> go_simp)) ).mono ?_; rintro e w' ⟨rfl, n, rfl⟩) | (go_at_call 66; refine (l02Least_any _ _).mono ?_; rintro e w' ⟨rfl, n, rfl⟩) | (go_at_call 102; refine (l00In_any _ _ _ _).mono ?_; rintro e w' ⟨rfl, n, rfl⟩) | (go_at_call 104; refine (l02Heat_any _ _ _ _ _ (by assumption) (by assumption) (by assumption)).mono ?_; rintro e w' ⟨r, rfl, hr, hb⟩; obtain ⟨hT, hk⟩ := bv_next hb (by (repeat (with_reducible first | assumption | apply Trk.alloc | apply Trk.setCell | apply Trk.drewN | apply Trk.drew | exact Trk.nil _))); simp only [SameOn, World.size_alloc, World.size_setCell, World.size_drew, size_drewN', and_true] at hk; have hsz := Below.size hb; (try simp only [World.size_alloc, World.size_setCell, World.size_drew, size_drewN'] at hsz)) | (go_at_call 105; refine (l02Finite_any _ _ _ (by assumption)).mono ?_; rintro e w' ⟨rfl, n, rfl⟩))
    all_goals
      refine bodyPost_ret (v := .tuple #[.agg #[.slice none 0 0, .slice none 0 0, .slice none 0 0, .slice none 0 0], .slice none 0 0, .bool false]) (by simp [results, Try.results45, go_sem, *]) rfl ?_
      exact brl_no rfl (by (repeat (first | (with_reducible exact Below.refl _ _) | (with_reducible assumption) | (with_reducible refine below_then ?_ (by assumption)) | (with_reducible refine Below.trans ?_ (by assumption)) | (with_reducible refine below_drewN ?_ _) | (with_reducible apply Below.drew) | (with_reducible refine below_alloc ?_ _) | refine Below.setCell ?_ (by first | (simp; done) | (simp; omega)) _))) HE.out
  have hno : rows = true → feq .f32 (cn .f32 t) (cn .f32 0) = false := fun h => by
    cases h8 : feq .f32 (cn .f32 t) (cn .f32 0)
    · rfl
    · exact absurd ⟨h, h8⟩ hrt
  have HU : Hid (B0 = UK N) := HRUN.out (by
    cases rows
    · rfl
    · rw [hno rfl]; rfl)
  replace HMV := Lib.hid (HMV.out hno)
  clear hrt
  cases rows
  case' true =>
    rw [hno rfl] at hfg
    simp only [Bool.not_false] at hfg
  case' false => clear hfg
  all_goals clear hno
  all_goals
    have HLN := Lib.hid (Rd.ok_len HP.out)
    clear HRUN HNO
    go_enter Try.func45, Try.ntmps45
    go_wp2_with (first | (with_reducible refine at_list ?_; refine wpList_wide_g rfl rfl Try.underlying25 Try.underlying32 rfl ?_; intro r n hr0; have hr := hr0 _ (by first | with_reducible assumption | exact rfl); clear hr0) | (with_reducible refine at_list ?_; refine wpList_wide rfl rfl rfl Try.underlying25 Try.underlying32 ?_; intro r n hr0; have hr := hr0 _ (by first | with_reducible assumption | exact rfl); clear hr0) | (go_at_call 59; refine stop_here ?_) | (go_at_call 63; refine ((HN.out _ _ _ _ _ _ _ (by unfold RdAt; refine ⟨?_, ?_, ?_, ?_⟩ <;> go_simp) (HS.out.later (by (repeat (first | (with_reducible exact Below.refl _ _) | (with_reducible assumption) | (with_reducible refine below_then ?_ (by assumption)) | (with_reducible refine Below.trans ?_ (by assumption)) | (with_reducible refine below_drewN ?_ _) | (with_reducible apply Below.drew) | (with_reducible refine below_alloc ?_ _) | refine Below.setCell ?_ (by first | (simp; done) | (simp; omega)) _)))) (by unfold EnAt; refine ⟨?_, ?_, ?_⟩ <;> go_simp) (by unfold EnAt; refine ⟨?_, ?_, ?_⟩ <;> go_simp)) ).mono ?_; rintro e w' ⟨rfl, n, rfl⟩) | (go_at_call 66; refine (l02Least_any _ _).mono ?_; rintro e w' ⟨rfl, n, rfl⟩) | (go_at_call 102; refine (l00In_any _ _ _ _).mono ?_; rintro e w' ⟨rfl, n, rfl⟩) | (go_at_call 104; refine (l02Heat_any _ _ _ _ _ (by assumption) (by assumption) (by assumption)).mono ?_; rintro e w' ⟨r, rfl, hr, hb⟩; obtain ⟨hT, hk⟩ := bv_next hb (by (repeat (with_reducible first | assumption | apply Trk.alloc | apply Trk.setCell | apply Trk.drewN | apply Trk.drew | exact Trk.nil _))); simp only [SameOn, World.size_alloc, World.size_setCell, World.size_drew, size_drewN', and_true] at hk; have hsz := Below.size hb; (try simp only [World.size_alloc, World.size_setCell, World.size_drew, size_drewN'] at hsz)) | (go_at_call 105; refine (l02Finite_any _ _ _ (by assumption)).mono ?_; rintro e w' ⟨rfl, n, rfl⟩))
    unfold Stop
    refine (l02Own_any P l _ _ _ (by unfold RdAt; refine ⟨?_, ?_, ?_, ?_⟩ <;> go_simp) (HS.out.later (by (repeat (first | (with_reducible exact Below.refl _ _) | (with_reducible assumption) | (with_reducible refine below_then ?_ (by assumption)) | (with_reducible refine Below.trans ?_ (by assumption)) | (with_reducible refine below_drewN ?_ _) | (with_reducible apply Below.drew) | (with_reducible refine below_alloc ?_ _) | refine Below.setCell ?_ (by first | (simp; done) | (simp; omega)) _)))) (by have := HLN.out; omega)).mono ?_
    rintro e w' ⟨m0, rfl, hb, hX⟩
    obtain ⟨hT, hk⟩ := bv_next hb (by (repeat (with_reducible first | assumption | apply Trk.alloc | apply Trk.setCell | apply Trk.drewN | apply Trk.drew | exact Trk.nil _))); simp only [SameOn, World.size_alloc, World.size_setCell, World.size_drew, size_drewN', and_true] at hk; have hsz := Below.size hb; (try simp only [World.size_alloc, World.size_setCell, World.size_drew, size_drewN'] at hsz)
    have HX := Lib.hid hX
    clear hX
    go_wp2_with (first | (with_reducible refine at_list ?_; refine wpList_wide_g rfl rfl Try.underlying25 Try.underlying32 rfl ?_; intro r n hr0; have hr := hr0 _ (by first | with_reducible assumption | exact rfl); clear hr0) | (with_reducible refine at_list ?_; refine wpList_wide rfl rfl rfl Try.underlying25 Try.underlying32 ?_; intro r n hr0; have hr := hr0 _ (by first | with_reducible assumption | exact rfl); clear hr0) | (go_at_call 63; refine (l02Ends_any _ _ _ _ _ _ _ _ _ _ _ (by assumption) (by assumption) (by assumption) (by assumption)).mono ?_; rintro e w' ⟨rfl, n, rfl⟩) | (go_at_call 66; refine (l02Least_any _ _).mono ?_; rintro e w' ⟨rfl, n, rfl⟩) | (go_at_call 102; refine (l00In_any _ _ _ _).mono ?_; rintro e w' ⟨rfl, n, rfl⟩) | (go_at_call 104; refine (l02Heat_any _ _ _ _ _ (by assumption) (by assumption) (by assumption)).mono ?_; rintro e w' ⟨r, rfl, hr, hb⟩; obtain ⟨hT, hk⟩ := bv_next hb (by (repeat (with_reducible first | assumption | apply Trk.alloc | apply Trk.setCell | apply Trk.drewN | apply Trk.drew | exact Trk.nil _))); simp only [SameOn, World.size_alloc, World.size_setCell, World.size_drew, size_drewN', and_true] at hk; have hsz := Below.size hb; (try simp only [World.size_alloc, World.size_setCell, World.size_drew, size_drewN'] at hsz)) | (go_at_call 105; refine (l02Finite_any _ _ _ (by assumption)).mono ?_; rintro e w' ⟨rfl, n, rfl⟩))
    refine wp_named ?_
    intro ws hws
    obtain ⟨B, b15, hBw, hB15, HBS, HRA, HEN, HR8⟩ : ∃ B b15, (w.heap.size + 4 ≤ B ∧ B ≤ w'.heap.size) ∧ b15 = w'.heap.size ∧ Hid (Below w.heap.size w ws ∧ b15 < ws.heap.size) ∧ Hid (RunAt B ws b15 P m0 (some ⟨w'.heap.size + 1, 0, none⟩) 0 []) ∧ Hid (EnAt E ws (w.heap.size + 1) 0 ∧ EnAt G ws (w.heap.size + 2) 0) ∧ Hid (ws.cell? ⟨w.heap.size + 3, 0, none⟩ = some (.slice none 0 0) ∧ ws.cell? ⟨w.heap.size + 3, 1, none⟩ = some (.slice none 0 0) ∧ ws.cell? ⟨w.heap.size + 3, 2, none⟩ = some (.slice none 0 0) ∧ ws.cell? ⟨w.heap.size + 3, 3, none⟩ = some (.slice none 0 0) ∧ ∀ o, ws.frozen? ⟨w.heap.size + 3, o, none⟩ = false) := by
      have hsz' := hb.size
      simp only [World.size_alloc, World.size_setCell, World.size_drew, size_drewN'] at hsz'
      have hX := HX.out
      simp only [World.size_alloc, World.size_setCell, World.size_drew, size_drewN'] at hX
      refine ⟨w.heap.size + 4, w'.heap.size, ⟨Nat.le_refl _, by omega⟩, rfl, ?_, ?_, ?_, ?_⟩
      · rw [hws]; exact ⟨by (repeat (first | (with_reducible exact Below.refl _ _) | (with_reducible assumption) | (with_reducible refine below_then ?_ (by assumption)) | (with_reducible refine Below.trans ?_ (by assumption)) | (with_reducible refine below_drewN ?_ _) | (with_reducible apply Below.drew) | (with_reducible refine below_alloc ?_ _) | refine Below.setCell ?_ (by first | (simp; done) | (simp; omega)) _)), by first | (simp; done) | (simp; omega)⟩
      · refine ⟨⟨?_, by omega⟩, (hX.ra (B' := w.heap.size + 4) (by omega)).later (by rw [hws]; (repeat (first | (with_reducible exact Below.refl _ _) | (with_reducible assumption) | (with_reducible refine below_then ?_ (by assumption)) | (with_reducible refine Below.trans ?_ (by assumption)) | (with_reducible refine below_drewN ?_ _) | (with_reducible apply Below.drew) | (with_reducible refine below_alloc ?_ _) | refine Below.setCell ?_ (by first | (simp; done) | (simp; omega)) _))), ?_, fun k hk => by (have e : w'.heap.size + 1 = k := by cases hk; rfl); omega, ?_⟩
        · rw [hws]
          intro j x hj
          match j, hj with
          | 0, hj => simp at hj; subst hj; exact ⟨by go_simp, by go_simp⟩
          | 1, hj => simp at hj; subst hj; exact ⟨by go_simp, by go_simp⟩
          | 2, hj => simp at hj; subst hj; exact ⟨by go_simp, by go_simp⟩
          | 3, hj => simp at hj; subst hj; exact ⟨by go_simp, by go_simp⟩
          | j + 4, hj => simp at hj
        · rw [hws]; exact OF.empty _ _ (by simp) (by simp; omega) rfl
        · refine ⟨?_, ?_, ?_, ?_⟩
          · rintro a a' ha ha'; cases ha; have := hX.1.2.1 a'.block (by rw [ha']; rfl); show w'.heap.size + 1 ≠ a'.block; omega
          · rintro a a' ha ha'; cases ha; have := hX.1.2.2.1 a'.block (by rw [ha']; rfl); show w'.heap.size + 1 ≠ a'.block; omega
          · rintro a a' ha ha'; cases ha; have := hX.1.2.2.2.1 a'.block (by rw [ha']; rfl); show w'.heap.size + 1 ≠ a'.block; omega
          · rintro a a' ha ha'; cases ha; have := hX.1.2.2.2.2 a'.block (by rw [ha']; rfl); show w'.heap.size + 1 ≠ a'.block; omega
      · rw [hws]; exact ⟨by unfold EnAt; exact ⟨by go_simp, by go_simp, by go_simp⟩, by unfold EnAt; exact ⟨by go_simp, by go_simp, by go_simp⟩⟩
      · rw [hws]; exact ⟨by go_simp, by go_simp, by go_simp, by go_simp, fun o => by go_simp⟩
    rw [← hB15] at HRA ⊢
    clear hws hb hk hT hsz HX hB15 HN HS
    go_loopw [16, 17] (fun u q17 wr => ∃ (k c : Nat) (q : Option Addr) (ys : List Nat) (m : RL), k ≤ N ∧ q17 = .int .i64 (k : Int) ∧ u = .slice q ys.length c ∧ ys.length = k ∧ Hid (RunAt B wr b15 (RK k) m q c ys) ∧ Hid (ys.map (cn .f32) = LK k) ∧ Hid (OK k = true) ∧ Below B ws wr) (fun _ q17 _ => N - (intOf q17).toNat)
    case atStart => exact ⟨0, 0, _, [], m0, Nat.zero_le _, rfl, rfl, rfl, by show RunAt _ _ _ _ _ _ _ _; rw [HR0.out.1]; exact HRA.out, by show _ = _; rw [HR0.out.2.2]; rfl, HR0.out.2.1, Below.refl _ _⟩
    case round =>
      obtain ⟨k, c, q, ys, m, hkN, rfl, rfl, hyl, HAT, HL, HOK, hB⟩ := hrel
      have hzr := hB.size
      have hBr : Below w.heap.size w wr := HBS.out.1.trans (hB.mono (by omega))
      have en0 : EnAt E wr (w.heap.size + 1) 0 := en_later HEN.out.1 hB (by omega)
      have en1 : EnAt G wr (w.heap.size + 2) 0 := en_later HEN.out.2 hB (by omega)
      obtain ⟨q0, q1, q2, q3, qf⟩ := HR8.out
      have hl3 : w.heap.size + 3 < B := by omega
      have q0 := (hB.cell (p := ⟨w.heap.size + 3, 0, none⟩) hl3).trans q0
      have q1 := (hB.cell (p := ⟨w.heap.size + 3, 1, none⟩) hl3).trans q1
      have q2 := (hB.cell (p := ⟨w.heap.size + 3, 2, none⟩) hl3).trans q2
      have q3 := (hB.cell (p := ⟨w.heap.size + 3, 3, none⟩) hl3).trans q3
      have qf : ∀ o, wr.frozen? ⟨w.heap.size + 3, o, none⟩ = false := fun o => (hB.frozen (p := ⟨w.heap.size + 3, o, none⟩) hl3).trans (qf o)
      have g0 := (HAT.out.1.1 0 _ rfl).1
      have g1 := (HAT.out.1.1 1 _ rfl).1
      have g2 := (HAT.out.1.1 2 _ rfl).1
      have g3 := (HAT.out.1.1 3 _ rfl).1
      have f0 := (HAT.out.1.1 0 _ rfl).2
      have f1 := (HAT.out.1.1 1 _ rfl).2
      have f2 := (HAT.out.1.1 2 _ rfl).2
      have f3 := (HAT.out.1.1 3 _ rfl).2
      have hat : RdAt (RK k) m wr b15 0 := ⟨g0, g1, g2, g3⟩
      have HRAT := Lib.hid hat
      have HEN0 := Lib.hid (And.intro en0 en1)
      have hb15 : b15 < wr.heap.size := World.block_lt_of_cell? _ _ g0
      have hbB : B ≤ b15 := HAT.out.1.2
      have hT : Trk wr [b15, w.heap.size + 3, w.heap.size + 1, w.heap.size + 2] := ((((Trk.nil wr).more (by omega)).more (by omega)).more (by omega)).more hb15
      have HZ' : Hid (B ≤ wr.heap.size) := by show _ ≤ _; omega
      have HYL := Lib.hid hyl
      have HBr := Lib.hid hBr
      have HBW := Lib.hid hB
      by_cases hlt : k < N
      · have hlti : (k : Int) < z := by have := HMX.out; have := HNN.out; omega
        have hwb : b15 < wr.heap.size := hb15
        have HFS : Hid ((RK k).fs wr m) := HAT.out.2.1.1.fs
        have HMK : Hid (∀ w' : World, Below wr.heap.size wr w' → Calls Try.prog 103 #[.pointer (some ⟨b15, 0, none⟩), .pointer (some ⟨w.heap.size + 1, 0, none⟩), .pointer (some ⟨w.heap.size + 2, 0, none⟩), .float .f32 t, .bool _] w' (BRB w' (okR (MK k) (RK (k + 1))) (MK k))) := fun w' h => HMV.out k m b15 0 (w.heap.size + 1) 0 (w.heap.size + 2) 0 w' (rd_later HRAT.out h hwb) (HFS.out.later h) (en_later HEN0.out.1 h (by have := HZ'.out; omega)) (en_later HEN0.out.2 h (by have := HZ'.out; omega)) HOK.out
        clear en0 en1 hat
        rcases hmk : MK k
        · rw [hmk, okR_no rfl] at HMK
          have HE : Hid (B0 = false) := by
            show _ = _
            rw [HU.out]
            exact HF.out.2.2.2.2.1 (k + 1) N (by rw [HF.out.1 k, hmk]; simp) (by omega)
          clear hmk hB hyl hzr hb15
          go_wp2_with (first | (with_reducible refine at_list ?_; refine wpList_wide_g rfl rfl Try.underlying25 Try.underlying32 rfl ?_; intro r n hr0; have hr := hr0 _ (by first | with_reducible assumption | exact rfl); clear hr0) | (with_reducible refine at_list ?_; refine wpList_wide rfl rfl rfl Try.underlying25 Try.underlying32 ?_; intro r n hr0; have hr := hr0 _ (by first | with_reducible assumption | exact rfl); clear hr0) | (go_at_call 103; refine stop_here ?_) | (go_at_call 63; refine (l02Ends_any _ _ _ _ _ _ _ _ _ _ _ (by assumption) (by assumption) (by assumption) (by assumption)).mono ?_; rintro e w' ⟨rfl, n, rfl⟩) | (go_at_call 66; refine (l02Least_any _ _).mono ?_; rintro e w' ⟨rfl, n, rfl⟩) | (go_at_call 102; refine (l00In_any _ _ _ _).mono ?_; rintro e w' ⟨rfl, n, rfl⟩) | (go_at_call 104; refine (l02Heat_any _ _ _ _ _ (by assumption) (by assumption) (by assumption)).mono ?_; rintro e w' ⟨r, rfl, hr, hb⟩; obtain ⟨hT, hk⟩ := bv_next hb (by (repeat (with_reducible first | assumption | apply Trk.alloc | apply Trk.setCell | apply Trk.drewN | apply Trk.drew | exact Trk.nil _))); simp only [SameOn, World.size_alloc, World.size_setCell, World.size_drew, size_drewN', and_true] at hk; have hsz := Below.size hb; (try simp only [World.size_alloc, World.size_setCell, World.size_drew, size_drewN'] at hsz)) | (go_at_call 105; refine (l02Finite_any _ _ _ (by assumption)).mono ?_; rintro e w' ⟨rfl, n, rfl⟩))
          unfold Stop
          refine (HMK.out _ (by (repeat (first | (with_reducible exact Below.refl _ _) | (with_reducible assumption) | (with_reducible refine below_then ?_ (by assumption)) | (with_reducible refine Below.trans ?_ (by assumption)) | (with_reducible refine below_drewN ?_ _) | (with_reducible apply Below.drew) | (with_reducible refine below_alloc ?_ _) | refine Below.setCell ?_ (by first | (simp; done) | (simp; omega)) _)))).mono ?_
          rintro e w' ⟨mq, rfl, hb, hX⟩
          obtain ⟨hT, hk⟩ := bv_next hb (by (repeat (with_reducible first | assumption | apply Trk.alloc | apply Trk.setCell | apply Trk.drewN | apply Trk.drew | exact Trk.nil _))); simp only [SameOn, World.size_alloc, World.size_setCell, World.size_drew, size_drewN', and_true] at hk; have hsz := Below.size hb; (try simp only [World.size_alloc, World.size_setCell, World.size_drew, size_drewN'] at hsz)
          clear hX
          go_wp2_with (first | (with_reducible refine at_list ?_; refine wpList_wide_g rfl rfl Try.underlying25 Try.underlying32 rfl ?_; intro r n hr0; have hr := hr0 _ (by first | with_reducible assumption | exact rfl); clear hr0) | (with_reducible refine at_list ?_; refine wpList_wide rfl rfl rfl Try.underlying25 Try.underlying32 ?_; intro r n hr0; have hr := hr0 _ (by first | with_reducible assumption | exact rfl); clear hr0) | (go_at_call 63; refine (l02Ends_any _ _ _ _ _ _ _ _ _ _ _ (by assumption) (by assumption) (by assumption) (by assumption)).mono ?_; rintro e w' ⟨rfl, n, rfl⟩) | (go_at_call 66; refine (l02Least_any _ _).mono ?_; rintro e w' ⟨rfl, n, rfl⟩) | (go_at_call 102; refine (l00In_any _ _ _ _).mono ?_; rintro e w' ⟨rfl, n, rfl⟩) | (go_at_call 104; refine (l02Heat_any _ _ _ _ _ (by assumption) (by assumption) (by assumption)).mono ?_; rintro e w' ⟨r, rfl, hr, hb⟩; obtain ⟨hT, hk⟩ := bv_next hb (by (repeat (with_reducible first | assumption | apply Trk.alloc | apply Trk.setCell | apply Trk.drewN | apply Trk.drew | exact Trk.nil _))); simp only [SameOn, World.size_alloc, World.size_setCell, World.size_drew, size_drewN', and_true] at hk; have hsz := Below.size hb; (try simp only [World.size_alloc, World.size_setCell, World.size_drew, size_drewN'] at hsz)) | (go_at_call 105; refine (l02Finite_any _ _ _ (by assumption)).mono ?_; rintro e w' ⟨rfl, n, rfl⟩))
          refine bodyPost_ret (v := .tuple #[.agg #[.slice none 0 0, .slice none 0 0, .slice none 0 0, .slice none 0 0], .slice none 0 0, .bool false]) (by simp [results, Try.results45, go_sem, *]) rfl ?_
          exact brl_no rfl (by (repeat (first | (with_reducible exact Below.refl _ _) | (with_reducible assumption) | (with_reducible refine below_then ?_ (by assumption)) | (with_reducible refine Below.trans ?_ (by assumption)) | (with_reducible refine below_drewN ?_ _) | (with_reducible apply Below.drew) | (with_reducible refine below_alloc ?_ _) | refine Below.setCell ?_ (by first | (simp; done) | (simp; omega)) _))) HE.out
        · rw [hmk, okR_yes rfl] at HMK
          have hOK1 : (RK (k + 1)).ok = true := HF.out.2.2.2.2.2.1 k hmk
          have HHT : Hid (∀ (m : RL) (b o : Nat) (w : World), RdAt (RK (k + 1)) m w b o → (RK (k + 1)).fs w m → Calls Try.prog 104 #[.pointer (some ⟨b, o, none⟩)] w (BF w .f32 (htV (RK (k + 1))))) := fun m b o w h1 h2 => l02Heat_any (RK (k + 1)) m b o w h1 h2 hOK1
          have HO1 : Hid (OK (k + 1) = true) := by show _ = _; rw [HF.out.1 k, HOK.out, hmk]; rfl
          have HL1 : Hid (LK (k + 1) = LK k ++ [htV (RK (k + 1))]) := HF.out.2.1 k
          obtain ⟨R1, hR1⟩ : ∃ R1, R1 = RK (k + 1) := ⟨_, rfl⟩
          rw [← hR1] at HMK HHT HL1
          have HR1 := Lib.hid hR1
          have hyn : ys.length ≤ 128 := by have := HNN.out; omega
          have HYN := Lib.hid hyn
          clear hR1 hOK1 hmk hB hyl hzr hb15 hyn
          go_wp2_with (first | (with_reducible refine at_list ?_; refine wpList_wide_g rfl rfl Try.underlying25 Try.underlying32 rfl ?_; intro r n hr0; have hr := hr0 _ (by first | with_reducible assumption | exact rfl); clear hr0) | (with_reducible refine at_list ?_; refine wpList_wide rfl rfl rfl Try.underlying25 Try.underlying32 ?_; intro r n hr0; have hr := hr0 _ (by first | with_reducible assumption | exact rfl); clear hr0) | (go_at_call 103; refine stop_here ?_) | (go_at_call 63; refine (l02Ends_any _ _ _ _ _ _ _ _ _ _ _ (by assumption) (by assumption) (by assumption) (by assumption)).mono ?_; rintro e w' ⟨rfl, n, rfl⟩) | (go_at_call 66; refine (l02Least_any _ _).mono ?_; rintro e w' ⟨rfl, n, rfl⟩) | (go_at_call 102; refine (l00In_any _ _ _ _).mono ?_; rintro e w' ⟨rfl, n, rfl⟩) | (go_at_call 104; refine (l02Heat_any _ _ _ _ _ (by assumption) (by assumption) (by assumption)).mono ?_; rintro e w' ⟨r, rfl, hr, hb⟩; obtain ⟨hT, hk⟩ := bv_next hb (by (repeat (with_reducible first | assumption | apply Trk.alloc | apply Trk.setCell | apply Trk.drewN | apply Trk.drew | exact Trk.nil _))); simp only [SameOn, World.size_alloc, World.size_setCell, World.size_drew, size_drewN', and_true] at hk; have hsz := Below.size hb; (try simp only [World.size_alloc, World.size_setCell, World.size_drew, size_drewN'] at hsz)) | (go_at_call 105; refine (l02Finite_any _ _ _ (by assumption)).mono ?_; rintro e w' ⟨rfl, n, rfl⟩))
          unfold Stop
          refine (HMK.out _ (by (repeat (first | (with_reducible exact Below.refl _ _) | (with_reducible assumption) | (with_reducible refine below_then ?_ (by assumption)) | (with_reducible refine Below.trans ?_ (by assumption)) | (with_reducible refine below_drewN ?_ _) | (with_reducible apply Below.drew) | (with_reducible refine below_alloc ?_ _) | refine Below.setCell ?_ (by first | (simp; done) | (simp; omega)) _)))).mono ?_
          rintro e w' ⟨mq, rfl, hb, hX⟩
          obtain ⟨hT, hk⟩ := bv_next hb (by (repeat (with_reducible first | assumption | apply Trk.alloc | apply Trk.setCell | apply Trk.drewN | apply Trk.drew | exact Trk.nil _))); simp only [SameOn, World.size_alloc, World.size_setCell, World.size_drew, size_drewN', and_true] at hk; have hsz := Below.size hb; (try simp only [World.size_alloc, World.size_setCell, World.size_drew, size_drewN'] at hsz)
          have HX := Lib.hid hX
          have HB1 := Lib.hid hb
          clear hX
          rename World => w1
          go_wp2_with (first | (with_reducible refine at_list ?_; refine wpList_wide_g rfl rfl Try.underlying25 Try.underlying32 rfl ?_; intro r n hr0; have hr := hr0 _ (by first | with_reducible assumption | exact rfl); clear hr0) | (with_reducible refine at_list ?_; refine wpList_wide rfl rfl rfl Try.underlying25 Try.underlying32 ?_; intro r n hr0; have hr := hr0 _ (by first | with_reducible assumption | exact rfl); clear hr0) | (go_at_call 104; refine stop_here ?_) | (go_at_call 63; refine (l02Ends_any _ _ _ _ _ _ _ _ _ _ _ (by assumption) (by assumption) (by assumption) (by assumption)).mono ?_; rintro e w' ⟨rfl, n, rfl⟩) | (go_at_call 66; refine (l02Least_any _ _).mono ?_; rintro e w' ⟨rfl, n, rfl⟩) | (go_at_call 102; refine (l00In_any _ _ _ _).mono ?_; rintro e w' ⟨rfl, n, rfl⟩) | (go_at_call 104; refine (l02Heat_any _ _ _ _ _ (by assumption) (by assumption) (by assumption)).mono ?_; rintro e w' ⟨r, rfl, hr, hb⟩; obtain ⟨hT, hk⟩ := bv_next hb (by (repeat (with_reducible first | assumption | apply Trk.alloc | apply Trk.setCell | apply Trk.drewN | apply Trk.drew | exact Trk.nil _))); simp only [SameOn, World.size_alloc, World.size_setCell, World.size_drew, size_drewN', and_true] at hk; have hsz := Below.size hb; (try simp only [World.size_alloc, World.size_setCell, World.size_drew, size_drewN'] at hsz)) | (go_at_call 105; refine (l02Finite_any _ _ _ (by assumption)).mono ?_; rintro e w' ⟨rfl, n, rfl⟩))
          unfold Stop
          refine calls_named ?_
          intro w3 hw3
          have HNE : Hid (∀ kk, (Value.slice q ys.length c).ownBlock = some kk → kk ≠ b15) := HAT.out.2.2.2.1
          have HGL : Hid (∀ kk, (Value.slice q ys.length c).ownBlock = some kk → kk < wr.heap.size) := fun kk hkk => (HAT.out.2.2.1.block kk hkk).2
          have hz1 := HB1.out.size
          obtain ⟨HA3, HW3, HO3, HB3, HZ3⟩ : Hid (RdA wr.heap.size w3 R1 mq) ∧ Hid (owned w3 b15 [.slice mq.p1 R1.a.length mq.c1, .slice mq.p2 R1.b.length mq.c2, .slice mq.p3 R1.c.length mq.c3, .slice mq.p4 R1.d.length mq.c4]) ∧ Hid (OF B w3 (.slice q ys.length c) ys) ∧ Hid (Below B wr w3) ∧ Hid (wr.heap.size ≤ w3.heap.size) := by
            have hal : Below wr.heap.size wr w1 := HB1.out
            have e3 : w3 = (w1.setCells b15 0 [.slice mq.p1 R1.a.length mq.c1, .slice mq.p2 R1.b.length mq.c2, .slice mq.p3 R1.c.length mq.c3, .slice mq.p4 R1.d.length mq.c4]).alloc (.cells #[.slice mq.p1 R1.a.length mq.c1, .slice mq.p2 R1.b.length mq.c2, .slice mq.p3 R1.c.length mq.c3, .slice mq.p4 R1.d.length mq.c4] 29) := hw3
            have hgs := grown_setCells b15 [.slice mq.p1 R1.a.length mq.c1, .slice mq.p2 R1.b.length mq.c2, .slice mq.p3 R1.c.length mq.c3, .slice mq.p4 R1.d.length mq.c4] 0 w1
            have hbe : Below (w1.setCells b15 0 [.slice mq.p1 R1.a.length mq.c1, .slice mq.p2 R1.b.length mq.c2, .slice mq.p3 R1.c.length mq.c3, .slice mq.p4 R1.d.length mq.c4]).heap.size (w1.setCells b15 0 [.slice mq.p1 R1.a.length mq.c1, .slice mq.p2 R1.b.length mq.c2, .slice mq.p3 R1.c.length mq.c3, .slice mq.p4 R1.d.length mq.c4]) ((w1.setCells b15 0 [.slice mq.p1 R1.a.length mq.c1, .slice mq.p2 R1.b.length mq.c2, .slice mq.p3 R1.c.length mq.c3, .slice mq.p4 R1.d.length mq.c4]).alloc (.cells #[.slice mq.p1 R1.a.length mq.c1, .slice mq.p2 R1.b.length mq.c2, .slice mq.p3 R1.c.length mq.c3, .slice mq.p4 R1.d.length mq.c4] 29)) := (Below.refl _ _).alloc (Nat.le_refl _) _
            have hzs := hgs.size
            have hbz := HZ'.out
            rw [e3]
            refine ⟨((HX.out.ra (Nat.le_refl _)).low hwb 0 _).later hbe, (owned_stored (HAT.out.1.1.later hal)).later hbe, ((HAT.out.2.2.1.later hal).kept hgs ?_).later hbe, ((hal.mono hbz).grown hgs (by omega) (fun kk hkk => by cases hkk; exact hbB)).alloc (by omega) _, by have := hbe.size; show _ ≤ _; omega⟩
            cases hu : (Value.slice q ys.length c).ownBlock with
            | none => exact .inl rfl
            | some kk => exact .inr fun e => HNE.out kk hu (by simpa using e)
          have hb153 : b15 < w3.heap.size := Nat.lt_of_lt_of_le hwb HZ3.out
          have hf3 : RdAt R1 mq w3 b15 0 := ⟨(HW3.out 0 _ rfl).1, (HW3.out 1 _ rfl).1, (HW3.out 2 _ rfl).1, (HW3.out 3 _ rfl).1⟩
          clear hw3 hb hT hk hsz g0 g1 g2 g3 f0 f1 f2 f3 HB1 hz1
          refine (HHT.out mq b15 0 w3 hf3 HA3.out.1.fs).mono ?_
          rintro e w' ⟨r3, rfl, hr3, hb⟩
          have HR3 := Lib.hid hr3
          have HB4 := Lib.hid hb
          clear hr3 hf3
          go_wp2_with (first | (with_reducible refine at_list ?_; refine wpList_wide_g rfl rfl Try.underlying25 Try.underlying32 rfl ?_; intro r n hr0; have hr := hr0 _ (by first | with_reducible assumption | exact rfl); clear hr0) | (with_reducible refine at_list ?_; refine wpList_wide rfl rfl rfl Try.underlying25 Try.underlying32 ?_; intro r n hr0; have hr := hr0 _ (by first | with_reducible assumption | exact rfl); clear hr0) | (at_builtin; refine stop_here ?_) | (go_at_call 63; refine (l02Ends_any _ _ _ _ _ _ _ _ _ _ _ (by assumption) (by assumption) (by assumption) (by assumption)).mono ?_; rintro e w' ⟨rfl, n, rfl⟩) | (go_at_call 66; refine (l02Least_any _ _).mono ?_; rintro e w' ⟨rfl, n, rfl⟩) | (go_at_call 102; refine (l00In_any _ _ _ _).mono ?_; rintro e w' ⟨rfl, n, rfl⟩) | (go_at_call 104; refine (l02Heat_any _ _ _ _ _ (by assumption) (by assumption) (by assumption)).mono ?_; rintro e w' ⟨r, rfl, hr, hb⟩; obtain ⟨hT, hk⟩ := bv_next hb (by (repeat (with_reducible first | assumption | apply Trk.alloc | apply Trk.setCell | apply Trk.drewN | apply Trk.drew | exact Trk.nil _))); simp only [SameOn, World.size_alloc, World.size_setCell, World.size_drew, size_drewN', and_true] at hk; have hsz := Below.size hb; (try simp only [World.size_alloc, World.size_setCell, World.size_drew, size_drewN'] at hsz)) | (go_at_call 105; refine (l02Finite_any _ _ _ (by assumption)).mono ?_; rintro e w' ⟨rfl, n, rfl⟩))
          unfold Stop
          apply wpList_app2 (B := B) (xs := ys) (v := .slice q ys.length c) (r := r3)
          case hg => rfl
          case ho => rfl
          case hs => rfl
          case hx => rfl
          case hO => exact (HO3.out.later HB4.out).alloc _
          case hc => go_simp <;> exact rfl
          case hn => have := HYN.out; omega
          case hB => have h1 := HB4.out.size; have h2 := HZ3.out; have h3 := HZ'.out; simp; omega
          intro qa c2 w9 hO9 hB9 hg9 hblk
          have hz4 := HB4.out.size
          have HRN : Hid (RunAt B w9 b15 R1 mq qa c2 (ys ++ [r3])) := by
            have e9 : (ys ++ [r3]).length = ys.length + 1 := by simp
            refine runAt_app (W := wr.heap.size) hg9 (((HW3.out.later HB4.out).later ((Below.refl _ _).alloc (Nat.le_refl _) _))) hbB HNE.out (((HA3.out.later HB4.out).later ((Below.refl _ _).alloc (Nat.le_refl _) _)).rx (Nat.le_refl _)) HZ'.out HGL.out (by rw [e9]; exact hO9) (by rw [e9]; exact hblk)
          have HB9 : Hid (Below B ws w9) := (HBW.out.trans (HB3.out.trans ((HB4.out.mono (Nat.le_trans HZ'.out HZ3.out)).alloc (by have := HZ'.out; have := HZ3.out; omega) _))).trans hB9
          have HMAP : Hid ((ys ++ [r3]).map (cn .f32) = LK (k + 1)) := by show _ = _; rw [HL1.out, List.map_append, HL.out]; simp [HR3.out]
          rw [HR1.out] at HRN
          clear hO9 hB9 hg9 hblk hb hz4
          go_wp2_with (first | (with_reducible refine at_list ?_; refine wpList_wide_g rfl rfl Try.underlying25 Try.underlying32 rfl ?_; intro r n hr0; have hr := hr0 _ (by first | with_reducible assumption | exact rfl); clear hr0) | (with_reducible refine at_list ?_; refine wpList_wide rfl rfl rfl Try.underlying25 Try.underlying32 ?_; intro r n hr0; have hr := hr0 _ (by first | with_reducible assumption | exact rfl); clear hr0) | (go_at_call 63; refine (l02Ends_any _ _ _ _ _ _ _ _ _ _ _ (by assumption) (by assumption) (by assumption) (by assumption)).mono ?_; rintro e w' ⟨rfl, n, rfl⟩) | (go_at_call 66; refine (l02Least_any _ _).mono ?_; rintro e w' ⟨rfl, n, rfl⟩) | (go_at_call 102; refine (l00In_any _ _ _ _).mono ?_; rintro e w' ⟨rfl, n, rfl⟩) | (go_at_call 104; refine (l02Heat_any _ _ _ _ _ (by assumption) (by assumption) (by assumption)).mono ?_; rintro e w' ⟨r, rfl, hr, hb⟩; obtain ⟨hT, hk⟩ := bv_next hb (by (repeat (with_reducible first | assumption | apply Trk.alloc | apply Trk.setCell | apply Trk.drewN | apply Trk.drew | exact Trk.nil _))); simp only [SameOn, World.size_alloc, World.size_setCell, World.size_drew, size_drewN', and_true] at hk; have hsz := Below.size hb; (try simp only [World.size_alloc, World.size_setCell, World.size_drew, size_drewN'] at hsz)) | (go_at_call 105; refine (l02Finite_any _ _ _ (by assumption)).mono ?_; rintro e w' ⟨rfl, n, rfl⟩))
          go_roundw
          case rel => exact ⟨k + 1, c2, qa, ys ++ [r3], mq, by omega, by go_num, by simp, by simp [HYL.out], HRN.out, HMAP.out, HO1.out, HB9.out⟩
          case measure => simp [intOf]; omega
          all_goals first | kernel_rfl | rfl
      · have hlti : ¬ (k : Int) < z := by have := HMX.out; have := HNN.out; omega
        have hke : k = N := by omega
        subst hke
        have HUK : Hid (UK k = finC (ys.map (cn .f32))) := by show _ = _; rw [HF.out.2.2.2.2.2.2 k, HOK.out, HL.out]; rfl
        have HFN := Lib.hid (fun w h => l02Finite_any ys (.slice q ys.length c) w h)
        have HFC : Hid ((!ys.any fun x => !fin .f32 (cn .f32 x)) = B0) := by
          show _ = _
          rw [HU.out, HUK.out]
          unfold finC
          rw [List.any_map]; rfl
        rw [HFC.out] at HFN
        have HRA9 : Hid (RdA B (wr.setCells (w.heap.size + 1 + 1 + 1) 0 [.slice m.p1 (RK k).a.length m.c1, .slice m.p2 (RK k).b.length m.c2, .slice m.p3 (RK k).c.length m.c3, .slice m.p4 (RK k).d.length m.c4]) (RK k) m) := HAT.out.2.1.low (by omega) 0 _
        have HO9 : Hid (OF B (wr.setCells (w.heap.size + 1 + 1 + 1) 0 [.slice m.p1 (RK k).a.length m.c1, .slice m.p2 (RK k).b.length m.c2, .slice m.p3 (RK k).c.length m.c3, .slice m.p4 (RK k).d.length m.c4]) (.slice q ys.length c) ys) := by
          refine HAT.out.2.2.1.kept (grown_setCells _ _ _ _) ?_
          cases hu : (Value.slice q ys.length c).ownBlock with
          | none => exact .inl rfl
          | some kk =>
            refine .inr fun e => ?_
            have h9 := (HAT.out.2.2.1.block kk hu).1
            cases e
            omega
        have HFS : Hid (FS wr (.slice q ys.length c) ys) := OF.fs HAT.out.2.2.1
        clear hB hyl hzr hb15 en0 en1 hat
        rcases hb0 : B0
        · rw [hb0] at HFN
          subst hb0
          go_wp2_with (first | (with_reducible refine at_list ?_; refine wpList_wide_g rfl rfl Try.underlying25 Try.underlying32 rfl ?_; intro r n hr0; have hr := hr0 _ (by first | with_reducible assumption | exact rfl); clear hr0) | (with_reducible refine at_list ?_; refine wpList_wide rfl rfl rfl Try.underlying25 Try.underlying32 ?_; intro r n hr0; have hr := hr0 _ (by first | with_reducible assumption | exact rfl); clear hr0) | (go_at_call 63; refine (l02Ends_any _ _ _ _ _ _ _ _ _ _ _ (by assumption) (by assumption) (by assumption) (by assumption)).mono ?_; rintro e w' ⟨rfl, n, rfl⟩) | (go_at_call 66; refine (l02Least_any _ _).mono ?_; rintro e w' ⟨rfl, n, rfl⟩) | (go_at_call 102; refine (l00In_any _ _ _ _).mono ?_; rintro e w' ⟨rfl, n, rfl⟩) | (go_at_call 104; refine (l02Heat_any _ _ _ _ _ (by assumption) (by assumption) (by assumption)).mono ?_; rintro e w' ⟨r, rfl, hr, hb⟩; obtain ⟨hT, hk⟩ := bv_next hb (by (repeat (with_reducible first | assumption | apply Trk.alloc | apply Trk.setCell | apply Trk.drewN | apply Trk.drew | exact Trk.nil _))); simp only [SameOn, World.size_alloc, World.size_setCell, World.size_drew, size_drewN', and_true] at hk; have hsz := Below.size hb; (try simp only [World.size_alloc, World.size_setCell, World.size_drew, size_drewN'] at hsz)) | (go_at_call 105; refine ((HFN.out _ (HFS.out.later (by (repeat (first | (with_reducible exact Below.refl _ _) | (with_reducible assumption) | (with_reducible refine below_then ?_ (by assumption)) | (with_reducible refine Below.trans ?_ (by assumption)) | (with_reducible refine below_drewN ?_ _) | (with_reducible apply Below.drew) | (with_reducible refine below_alloc ?_ _) | refine Below.setCell ?_ (by first | (simp; done) | (simp; omega)) _))))) ).mono ?_; rintro e w' ⟨rfl, n, rfl⟩))
          refine bodyPost_ret (v := .tuple #[.agg #[.slice none 0 0, .slice none 0 0, .slice none 0 0, .slice none 0 0], .slice none 0 0, .bool false]) (by simp [results, Try.results45, go_sem, *]) rfl ?_
          exact brl_no rfl (by (repeat (first | (with_reducible exact Below.refl _ _) | (with_reducible assumption) | (with_reducible refine below_then ?_ (by assumption)) | (with_reducible refine Below.trans ?_ (by assumption)) | (with_reducible refine below_drewN ?_ _) | (with_reducible apply Below.drew) | (with_reducible refine below_alloc ?_ _) | refine Below.setCell ?_ (by first | (simp; done) | (simp; omega)) _))) rfl
        · rw [hb0] at HFN
          subst hb0
          go_wp2_with (first | (with_reducible refine at_list ?_; refine wpList_wide_g rfl rfl Try.underlying25 Try.underlying32 rfl ?_; intro r n hr0; have hr := hr0 _ (by first | with_reducible assumption | exact rfl); clear hr0) | (with_reducible refine at_list ?_; refine wpList_wide rfl rfl rfl Try.underlying25 Try.underlying32 ?_; intro r n hr0; have hr := hr0 _ (by first | with_reducible assumption | exact rfl); clear hr0) | (go_at_call 63; refine (l02Ends_any _ _ _ _ _ _ _ _ _ _ _ (by assumption) (by assumption) (by assumption) (by assumption)).mono ?_; rintro e w' ⟨rfl, n, rfl⟩) | (go_at_call 66; refine (l02Least_any _ _).mono ?_; rintro e w' ⟨rfl, n, rfl⟩) | (go_at_call 102; refine (l00In_any _ _ _ _).mono ?_; rintro e w' ⟨rfl, n, rfl⟩) | (go_at_call 104; refine (l02Heat_any _ _ _ _ _ (by assumption) (by assumption) (by assumption)).mono ?_; rintro e w' ⟨r, rfl, hr, hb⟩; obtain ⟨hT, hk⟩ := bv_next hb (by (repeat (with_reducible first | assumption | apply Trk.alloc | apply Trk.setCell | apply Trk.drewN | apply Trk.drew | exact Trk.nil _))); simp only [SameOn, World.size_alloc, World.size_setCell, World.size_drew, size_drewN', and_true] at hk; have hsz := Below.size hb; (try simp only [World.size_alloc, World.size_setCell, World.size_drew, size_drewN'] at hsz)) | (go_at_call 105; refine ((HFN.out _ (HFS.out.later (by (repeat (first | (with_reducible exact Below.refl _ _) | (with_reducible assumption) | (with_reducible refine below_then ?_ (by assumption)) | (with_reducible refine Below.trans ?_ (by assumption)) | (with_reducible refine below_drewN ?_ _) | (with_reducible apply Below.drew) | (with_reducible refine below_alloc ?_ _) | refine Below.setCell ?_ (by first | (simp; done) | (simp; omega)) _))))) ).mono ?_; rintro e w' ⟨rfl, n, rfl⟩))
          refine bodyPost_ret (v := .tuple #[.agg #[.slice m.p1 (RK k).a.length m.c1, .slice m.p2 (RK k).b.length m.c2, .slice m.p3 (RK k).c.length m.c3, .slice m.p4 (RK k).d.length m.c4], .slice q ys.length c, .bool true]) (by simp [results, Try.results45, go_sem, *]) rfl ?_
          exact ⟨m, q, c, ys, rfl, by (repeat (first | (with_reducible exact Below.refl _ _) | (with_reducible assumption) | (with_reducible refine below_then ?_ (by assumption)) | (with_reducible refine Below.trans ?_ (by assumption)) | (with_reducible refine below_drewN ?_ _) | (with_reducible apply Below.drew) | (with_reducible refine below_alloc ?_ _) | refine Below.setCell ?_ (by first | (simp; done) | (simp; omega)) _)), RdA.rx (HRA9.out.later (below_drewN (Below.refl _ _) _)) (by omega), OF.base (OF.later HO9.out (below_drewN (Below.refl _ _) _)) (by omega), HL.out, HAT.out.2.2.2.2⟩
end Go.Proofs.Ytgkcfeaknehopaa

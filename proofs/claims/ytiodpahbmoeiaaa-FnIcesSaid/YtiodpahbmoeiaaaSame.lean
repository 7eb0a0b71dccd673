/-
  Which numbers and which stuffs are the same (the program's and the reference's), each function proved once. No condition but what each contract says.
-/
import Derived.Test.YtiodpahbmoeiaaaVal
import Derived.Test.YtiodpahbmoeiaaaList
set_option linter.unusedSimpArgs false
set_option linter.unusedVariables false
set_option linter.unusedSectionVars false
namespace Go.Proofs.Ytiodpahbmoeiaaa
open Go Go.RowKit
def same (a b : Nat) : Bool := cn .f32 a == cn .f32 b
def sgn64 (x : Nat) : Bool := decide (9223372036854775808 ≤ x % 18446744073709551616)
theorem sgn64_word (s : Bool) (r : Nat) (h : r ≤ Ieee.double.infRung) : sgn64 (Ieee.double.word s r) = s := by
  have h1 : Ieee.double.infRung = 9218868437227405312 := rfl
  have h2 : Ieee.double.signWeight = 9223372036854775808 := rfl
  rw [h1] at h
  unfold sgn64 Ieee.Format.word
  rw [h2]
  cases s
  · simp; omega
  · simp; omega
theorem near64 (s : Bool) (m : Nat) (p : Int) : sgn64 (Ieee.double.nearest s m p) = s := by
  unfold Ieee.Format.nearest
  split
  · exact sgn64_word _ _ (Nat.zero_le _)
  · exact sgn64_word _ _ (Nat.min_le_right ..)
theorem sgn64_wide {c : Nat} (h : isN .f32 c = false) : sgn64 (wide c) = neg32 c := by
  unfold wide
  rw [h, if_neg (by simp), decode_single]
  have hn : isN .f32 c = (FloatKind.f32.decode c).isNaN := rfl
  rw [decode_single] at hn
  by_cases h1 : c % 2147483648 < 8388608
  · rw [if_pos h1]; exact near64 _ _ _
  · rw [if_neg h1] at hn ⊢
    by_cases h2 : c % 2147483648 < 2139095040
    · rw [if_pos h2]; exact near64 _ _ _
    · rw [if_neg h2] at hn ⊢
      by_cases h3 : c % 2147483648 = 2139095040
      · rw [if_pos h3]; exact sgn64_word _ _ (Nat.le_refl _)
      · rw [if_neg h3] at hn
        rw [h] at hn; cases hn
theorem rung64_word (s : Bool) (r : Nat) (h : r ≤ Ieee.double.infRung) : Ieee.double.word s r % 9223372036854775808 ≤ 9218868437227405312 := by
  have h1 : Ieee.double.infRung = 9218868437227405312 := rfl
  have h2 : Ieee.double.signWeight = 9223372036854775808 := rfl
  rw [h1] at h
  unfold Ieee.Format.word
  rw [h2]
  cases s
  · simp; omega
  · simp; omega
theorem rung64_near (s : Bool) (m : Nat) (p : Int) : Ieee.double.nearest s m p % 9223372036854775808 ≤ 9218868437227405312 := by
  unfold Ieee.Format.nearest
  split
  · exact rung64_word _ _ (Nat.zero_le _)
  · exact rung64_word _ _ (Nat.min_le_right ..)
theorem wide_rung {c : Nat} (h : isN .f32 c = false) : wide c % 9223372036854775808 ≤ 9218868437227405312 := by
  unfold wide
  rw [h, if_neg (by simp), decode_single]
  have hn : isN .f32 c = (FloatKind.f32.decode c).isNaN := rfl
  rw [decode_single] at hn
  by_cases h1 : c % 2147483648 < 8388608
  · rw [if_pos h1]; exact rung64_near _ _ _
  · rw [if_neg h1] at hn ⊢
    by_cases h2 : c % 2147483648 < 2139095040
    · rw [if_pos h2]; exact rung64_near _ _ _
    · rw [if_neg h2] at hn ⊢
      by_cases h3 : c % 2147483648 = 2139095040
      · rw [if_pos h3]; exact rung64_word _ _ (Nat.le_refl _)
      · rw [if_neg h3] at hn
        rw [h] at hn; cases hn
/-- What the sign of a widened word is. -/
theorem sgn64_cn {c r : Nat} (h : isN .f32 c = false) (hr : cn .f64 r = wide c) : sgn64 r = neg32 c := by
  have h1 : isN .f64 r = false := by
    rcases hn : isN .f64 r
    · rfl
    · rw [cn_of_isN hn] at hr
      have h2 := wide_rung h
      rw [← hr] at h2
      exact absurd h2 (by decide)
  rw [cn_of_not h1] at hr
  rw [hr]; exact sgn64_wide h
/-- The program's way to ask whether two numbers are the same. -/
theorem same_eq {x y : Nat} (hx : x < 4294967296) (hy : y < 4294967296) (nx : isN .f32 x = false) (ny : isN .f32 y = false) : (feq .f32 x y && (neg32 x == neg32 y)) = same x y := by
  unfold same
  rw [cn_of_not nx, cn_of_not ny]
  have key : ∀ c, c < 4294967296 → isN .f32 c = false → isF c = true ∨ c % 2147483648 = 2139095040 := by
    intro c _ hn
    by_cases h2 : c % 2147483648 < 2139095040
    · exact .inl (by simpa [isF] using h2)
    · by_cases h3 : c % 2147483648 = 2139095040
      · exact .inr h3
      · unfold isN at hn
        rw [decode_single, if_neg (by omega), if_neg h2, if_neg h3] at hn
        cases hn
  have inf : ∀ c, c % 2147483648 = 2139095040 → FloatKind.f32.format.read c = .infinity (neg32 c) := by
    intro c hc
    show FloatKind.f32.decode c = _
    rw [decode_single, if_neg (by omega), if_neg (by omega), if_pos hc]; rfl
  have sg : ∀ c, c < 4294967296 → (neg32 c = decide (2147483648 ≤ c)) := by
    intro c hc
    unfold neg32
    rw [Bool.eq_iff_iff]; simp; omega
  rcases key x hx nx with fx | ix <;> rcases key y hy ny with fy | iy
  · rw [feq_val fx fy]
    by_cases h : x = y
    · subst h; simp
    · have : ¬ (val x = val y ∧ neg32 x = neg32 y) := fun ⟨h1, h2⟩ => h (word_of_val hx hy h1 h2)
      rw [Bool.eq_iff_iff]; simp [h]; intro h1 h2; exact this ⟨h1, h2⟩
  · obtain ⟨m, p, e, _⟩ := decode_fin fx
    have e' : FloatKind.f32.format.read x = .number (neg32 x) m p := e
    have hf : feq .f32 x y = false := by
      unfold feq Ieee.Format.order
      rw [e', inf y iy]
      simp only [Ieee.Datum.order]
      cases neg32 y <;> rfl
    rw [hf]
    have : x ≠ y := by rintro rfl; simp only [isF, decide_eq_true_eq] at fx; omega
    simp [this]
  · obtain ⟨m, p, e, _⟩ := decode_fin fy
    have e' : FloatKind.f32.format.read y = .number (neg32 y) m p := e
    have hf : feq .f32 x y = false := by
      unfold feq Ieee.Format.order
      rw [e', inf x ix]
      simp only [Ieee.Datum.order]
      cases neg32 x <;> rfl
    rw [hf]
    have : x ≠ y := by rintro rfl; simp only [isF, decide_eq_true_eq] at fy; omega
    simp [this]
  · have hf : feq .f32 x y = (neg32 x == neg32 y) := by
      unfold feq Ieee.Format.order
      rw [inf x ix, inf y iy]
      simp only [Ieee.Datum.order]
      cases neg32 x <;> cases neg32 y <;> rfl
    rw [hf, sg x hx, sg y hy, Bool.eq_iff_iff]
    simp
    omega
theorem f32bits (x : Nat) (w : World) : (callFunc 98 #[.float .f32 x]).run Try.prog w = .ok (.value (.int .u32 x)) w := by kernel_rfl
set_option maxHeartbeats 400000 in
theorem l01Bits_any (x : Nat) (hx : x < 4294967296) (w : World) : Calls Try.prog 92 #[.float .f32 x] w (RI w (cn .f32 x : Int)) := by
  have ha := feq_cn_self .f32 x
  have hb := f32bits x
  rcases h : isN .f32 x
  · rw [h] at ha
    have H := Lib.hid (cn_of_not h)
    go_enter Try.func92, Try.ntmps92
    go_wp2
    go_ret
    exact ⟨by rw [H.out]; rfl, 0, rfl⟩
  · rw [h] at ha
    have H := Lib.hid (cn_of_isN h)
    go_enter Try.func92, Try.ntmps92
    go_wp2
    go_ret
    exact ⟨by rw [H.out]; rfl, 0, rfl⟩
set_option maxHeartbeats 400000 in
theorem l01Same_any (x y : Nat) (hx : x < 4294967296) (hy : y < 4294967296) (w : World) : Calls Try.prog 80 #[.float .f32 x, .float .f32 y] w (RB w (same x y)) := by
  have hs : Hid ((((cn .f32 x : Nat) : Int) == ((cn .f32 y : Nat) : Int)) = same x y) := by show _ = _; rw [Bool.eq_iff_iff]; simp [same]; exact Int.ofNat_inj
  have h1 := Lib.hid (fun w => l01Bits_any x hx w)
  have h2 := Lib.hid (fun w => l01Bits_any y hy w)
  go_enter Try.func80, Try.ntmps80
  go_wp2_with fail
  refine (h1.out _).mono ?_
  rintro e w1 ⟨rfl, n, rfl⟩
  go_wp2_with fail
  refine (h2.out _).mono ?_
  rintro e w1 ⟨rfl, n2, rfl⟩
  go_wp2_with fail
  go_ret
  exact ⟨by rw [← hs.out]; rfl, _, rfl⟩
theorem f64bits (x : Nat) (w : World) : (callFunc 99 #[.float .f64 x]).run Try.prog w = .ok (.value (.int .u64 x)) w := by kernel_rfl
set_option maxHeartbeats 400000 in
theorem Signbit_any (x : Nat) (w : World) : Calls Try.prog 97 #[.float .f64 x] w (RB w (sgn64 x)) := by
  have hb := f64bits x
  have hs : Hid (decide (wrap64 (x : Int) < 0) = sgn64 x) := by show _ = _; unfold wrap64 sgn64; rw [Bool.eq_iff_iff]; simp; omega
  go_enter Try.func97, Try.ntmps97
  go_wp2
  go_ret
  exact ⟨by rw [← hs.out]; rfl, 0, rfl⟩
set_option maxHeartbeats 1000000 in
theorem SameNumber_any (x y : Nat) (hx : x < 4294967296) (hy : y < 4294967296) (w : World) : Calls Try.prog 91 #[.float .f32 x, .float .f32 y] w (RB w (same x y)) := by
  have ha := feq_cn_self .f32 x
  have hb := feq_cn_self .f32 y
  rcases h : isN .f32 x
  · rcases h2 : isN .f32 y
    · have Hs := Lib.hid (same_eq hx hy h h2)
      have Hx := Lib.hid (sgn64_wide h)
      have Hy := Lib.hid (sgn64_wide h2)
      have Cx := Lib.hid (cn_of_not h)
      have Cy := Lib.hid (cn_of_not h2)
      rw [h] at ha
      rw [h2] at hb
      rcases h3 : feq .f32 (cn .f32 x) (cn .f32 y)
      · go_enter Try.func91, Try.ntmps91
        go_wp2_with (first | (with_reducible refine at_list ?_; refine wpList_fop rfl rfl rfl rfl rfl ?_; intro r n hr0; have hr := hr0 _ _ (by first | with_reducible assumption | exact rfl) (by first | with_reducible assumption | exact rfl); clear hr0) | (with_reducible refine at_list ?_; refine wpList_neg rfl rfl rfl ?_; intro r hr0; have hr := hr0 _ (by first | with_reducible assumption | exact rfl); clear hr0) | (with_reducible refine at_list ?_; refine wpList_fop_g rfl rfl rfl rfl rfl ?_; intro r n hr0; have hr := hr0 _ _ (by first | with_reducible assumption | exact rfl) (by first | with_reducible assumption | exact rfl); clear hr0) | (with_reducible refine at_list ?_; refine wpList_wide_g rfl rfl Try.underlying22 Try.underlying26 rfl ?_; intro r n hr0; have hr := hr0 _ (by first | with_reducible assumption | exact rfl); clear hr0) | (with_reducible refine at_list ?_; refine wpList_wide rfl rfl rfl Try.underlying22 Try.underlying26 ?_; intro r n hr0; have hr := hr0 _ (by first | with_reducible assumption | exact rfl); clear hr0) | (go_at_call 97; refine (Signbit_any _ _).mono ?_; rintro e w' ⟨rfl, n, rfl⟩))
        go_ret
        exact ⟨by rw [← Hs.out, Cx.out, Cy.out] at *; simp_all, by first | exact ⟨_, rfl⟩ | exact ⟨0, rfl⟩⟩
      · go_enter Try.func91, Try.ntmps91
        go_wp2_with (first | (with_reducible refine at_list ?_; refine wpList_fop rfl rfl rfl rfl rfl ?_; intro r n hr0; have hr := hr0 _ _ (by first | with_reducible assumption | exact rfl) (by first | with_reducible assumption | exact rfl); clear hr0) | (with_reducible refine at_list ?_; refine wpList_neg rfl rfl rfl ?_; intro r hr0; have hr := hr0 _ (by first | with_reducible assumption | exact rfl); clear hr0) | (with_reducible refine at_list ?_; refine wpList_fop_g rfl rfl rfl rfl rfl ?_; intro r n hr0; have hr := hr0 _ _ (by first | with_reducible assumption | exact rfl) (by first | with_reducible assumption | exact rfl); clear hr0) | (with_reducible refine at_list ?_; refine wpList_wide_g rfl rfl Try.underlying22 Try.underlying26 rfl ?_; intro r n hr0; have hr := hr0 _ (by first | with_reducible assumption | exact rfl); clear hr0) | (with_reducible refine at_list ?_; refine wpList_wide rfl rfl rfl Try.underlying22 Try.underlying26 ?_; intro r n hr0; have hr := hr0 _ (by first | with_reducible assumption | exact rfl); clear hr0) | (go_at_call 97; refine (Signbit_any _ _).mono ?_; rintro e w' ⟨rfl, n, rfl⟩))
        go_ret
        refine ⟨?_, by first | exact ⟨_, rfl⟩ | exact ⟨0, rfl⟩⟩
        have e1 := sgn64_cn h (by rw [← Cx.out]; exact ‹cn .f64 _ = wide (cn .f32 x)›)
        have e2 := sgn64_cn h2 (by rw [← Cy.out]; exact ‹cn .f64 _ = wide (cn .f32 y)›)
        rw [Cx.out, Cy.out] at h3
        rw [← Hs.out, h3]
        simp only [e1, e2, Bool.true_and]
        rfl
    · have H : Hid (same x y = false) := by
        show same x y = false
        unfold same; rw [cn_of_not h, cn_of_isN h2]
        simp; rintro rfl; rw [isN_qn] at h; cases h
      rw [h] at ha
      rw [h2] at hb
      go_enter Try.func91, Try.ntmps91
      go_wp2_with (first | (with_reducible refine at_list ?_; refine wpList_fop rfl rfl rfl rfl rfl ?_; intro r n hr0; have hr := hr0 _ _ (by first | with_reducible assumption | exact rfl) (by first | with_reducible assumption | exact rfl); clear hr0) | (with_reducible refine at_list ?_; refine wpList_neg rfl rfl rfl ?_; intro r hr0; have hr := hr0 _ (by first | with_reducible assumption | exact rfl); clear hr0) | (with_reducible refine at_list ?_; refine wpList_fop_g rfl rfl rfl rfl rfl ?_; intro r n hr0; have hr := hr0 _ _ (by first | with_reducible assumption | exact rfl) (by first | with_reducible assumption | exact rfl); clear hr0) | (with_reducible refine at_list ?_; refine wpList_wide_g rfl rfl Try.underlying22 Try.underlying26 rfl ?_; intro r n hr0; have hr := hr0 _ (by first | with_reducible assumption | exact rfl); clear hr0) | (with_reducible refine at_list ?_; refine wpList_wide rfl rfl rfl Try.underlying22 Try.underlying26 ?_; intro r n hr0; have hr := hr0 _ (by first | with_reducible assumption | exact rfl); clear hr0) | (go_at_call 97; refine (Signbit_any _ _).mono ?_; rintro e w' ⟨rfl, n, rfl⟩))
      go_ret
      exact ⟨by rw [H.out]; rfl, by first | exact ⟨_, rfl⟩ | exact ⟨0, rfl⟩⟩
  · rcases h2 : isN .f32 y
    · have H : Hid (same x y = false) := by
        show same x y = false
        unfold same; rw [cn_of_not h2, cn_of_isN h]
        simp; rintro rfl; rw [isN_qn] at h2; cases h2
      rw [h] at ha
      rw [h2] at hb
      go_enter Try.func91, Try.ntmps91
      go_wp2_with (first | (with_reducible refine at_list ?_; refine wpList_fop rfl rfl rfl rfl rfl ?_; intro r n hr0; have hr := hr0 _ _ (by first | with_reducible assumption | exact rfl) (by first | with_reducible assumption | exact rfl); clear hr0) | (with_reducible refine at_list ?_; refine wpList_neg rfl rfl rfl ?_; intro r hr0; have hr := hr0 _ (by first | with_reducible assumption | exact rfl); clear hr0) | (with_reducible refine at_list ?_; refine wpList_fop_g rfl rfl rfl rfl rfl ?_; intro r n hr0; have hr := hr0 _ _ (by first | with_reducible assumption | exact rfl) (by first | with_reducible assumption | exact rfl); clear hr0) | (with_reducible refine at_list ?_; refine wpList_wide_g rfl rfl Try.underlying22 Try.underlying26 rfl ?_; intro r n hr0; have hr := hr0 _ (by first | with_reducible assumption | exact rfl); clear hr0) | (with_reducible refine at_list ?_; refine wpList_wide rfl rfl rfl Try.underlying22 Try.underlying26 ?_; intro r n hr0; have hr := hr0 _ (by first | with_reducible assumption | exact rfl); clear hr0) | (go_at_call 97; refine (Signbit_any _ _).mono ?_; rintro e w' ⟨rfl, n, rfl⟩))
      go_ret
      exact ⟨by rw [H.out]; rfl, by first | exact ⟨_, rfl⟩ | exact ⟨0, rfl⟩⟩
    · have H : Hid (same x y = true) := by
        show same x y = true
        unfold same; rw [cn_of_isN h2, cn_of_isN h]
        simp
      rw [h] at ha
      rw [h2] at hb
      go_enter Try.func91, Try.ntmps91
      go_wp2_with (first | (with_reducible refine at_list ?_; refine wpList_fop rfl rfl rfl rfl rfl ?_; intro r n hr0; have hr := hr0 _ _ (by first | with_reducible assumption | exact rfl) (by first | with_reducible assumption | exact rfl); clear hr0) | (with_reducible refine at_list ?_; refine wpList_neg rfl rfl rfl ?_; intro r hr0; have hr := hr0 _ (by first | with_reducible assumption | exact rfl); clear hr0) | (with_reducible refine at_list ?_; refine wpList_fop_g rfl rfl rfl rfl rfl ?_; intro r n hr0; have hr := hr0 _ _ (by first | with_reducible assumption | exact rfl) (by first | with_reducible assumption | exact rfl); clear hr0) | (with_reducible refine at_list ?_; refine wpList_wide_g rfl rfl Try.underlying22 Try.underlying26 rfl ?_; intro r n hr0; have hr := hr0 _ (by first | with_reducible assumption | exact rfl); clear hr0) | (with_reducible refine at_list ?_; refine wpList_wide rfl rfl rfl Try.underlying22 Try.underlying26 ?_; intro r n hr0; have hr := hr0 _ (by first | with_reducible assumption | exact rfl); clear hr0) | (go_at_call 97; refine (Signbit_any _ _).mono ?_; rintro e w' ⟨rfl, n, rfl⟩))
      go_ret
      exact ⟨by rw [H.out]; rfl, by first | exact ⟨_, rfl⟩ | exact ⟨0, rfl⟩⟩
/-- Are two lists of words the same, one by one? -/
def eqL (p : Nat → Nat → Bool) (xs ys : List Nat) : Bool := (xs.length == ys.length) && (List.range xs.length).all fun j => p (xs.getD j 0) (ys.getD j 0)
set_option maxHeartbeats 1000000 in
theorem EqualFunc_any (g : Nat) (p : Nat → Nat → Bool) (xs ys : List Nat) (v u : Value) (w : World) (hs : FS w v xs) (ht : FS w u ys) (hcf : ∀ x y w', (callFunc g #[.float .f32 x, .float .f32 y]).run Try.prog w' = .ok (.enter g #[.float .f32 x, .float .f32 y]) w')
    (hg : ∀ j, j < xs.length → j < ys.length → ∀ m, Calls Try.prog g #[.float .f32 (xs.getD j 0), .float .f32 (ys.getD j 0)] (w.drewN m) (RB (w.drewN m) (p (xs.getD j 0) (ys.getD j 0)))) :
    Calls Try.prog 90 #[v, u, .func (.func g) #[] #[]] w (RB w (eqL p xs ys)) := by
  have HG := Lib.hid hg; clear hg
  obtain ⟨pv, cv, rfl, hv1, hv2, hv3⟩ := FS_view hs
  obtain ⟨pu, cu, rfl, hu1, hu2, hu3⟩ := FS_view ht
  have HV := Lib.hid hv3; clear hv3
  have HU := Lib.hid hu3; clear hu3
  clear hs ht
  by_cases hl : xs.length = ys.length
  · have Hl := Lib.hid hl
    rw [hl] at hv2 ⊢
    clear hl
    go_enter Try.func90, Try.ntmps90
    go_wp2
    go_loopw [17] (fun t wr => ∃ k m : Nat, k ≤ ys.length ∧ t = .int .i64 k ∧ wr = w.drewN m ∧ Hid (∀ j, j < k → p (xs.getD j 0) (ys.getD j 0) = true)) (fun t _ => ys.length - (intOf t).toNat)
    case atStart => exact ⟨0, 0, Nat.zero_le _, rfl, rfl, fun j hj => by omega⟩
    case round =>
      obtain ⟨k, m, hk, rfl, rfl, hp⟩ := hrel
      by_cases hlt2 : k < ys.length
      · have hlt : k < xs.length := by rw [Hl.out]; exact hlt2
        obtain ⟨b1, o1, rfl, hc1⟩ := HV.out k hlt
        obtain ⟨b2, o2, rfl, hc2⟩ := HU.out k hlt2
        have Hlt := Lib.hid hlt; clear hlt
        generalize hx : xs.getD k 0 = x at hc1
        generalize hy : ys.getD k 0 = y at hc2
        have Hx := Lib.hid hx; clear hx
        have Hy := Lib.hid hy; clear hy
        rcases hb : p x y
        · go_wp2_with fail
          refine (Hx.out ▸ Hy.out ▸ HG.out k Hlt.out hlt2 m).mono ?_
          rintro e w' ⟨rfl, n, rfl⟩
          go_wp2_with fail
          go_ret
          exact ⟨by
            have : eqL p xs ys = false := by
              unfold eqL
              rw [Bool.and_eq_false_iff]
              right
              rw [List.all_eq_false]
              exact ⟨k, List.mem_range.2 Hlt.out, by rw [Hx.out, Hy.out, hb]; simp⟩
            rw [this]; rfl, m + n, by simp⟩
        · go_wp2_with fail
          refine (Hx.out ▸ Hy.out ▸ HG.out k Hlt.out hlt2 m).mono ?_
          rintro e w' ⟨rfl, n, rfl⟩
          go_wp2_with fail
          go_roundw
          case rel => exact ⟨k + 1, m + n, by omega, by go_num, by simp, fun j hj => by rcases Nat.lt_succ_iff_lt_or_eq.1 hj with h | rfl; exact hp.out j h; rw [Hx.out, Hy.out]; exact hb⟩
          case measure => simp [intOf]; omega
      · go_wp2
        go_ret
        exact ⟨by
          have : eqL p xs ys = true := by
            unfold eqL
            rw [Bool.and_eq_true]
            refine ⟨by simpa using Hl.out, ?_⟩
            rw [List.all_eq_true]
            exact fun j hj => hp.out j (by have := List.mem_range.1 hj; rw [Hl.out] at this; omega)
          rw [this]; rfl, m, rfl⟩
  · go_enter Try.func90, Try.ntmps90
    go_wp2
    go_ret
    exact ⟨by simp [eqL, hl], 0, rfl⟩
end Go.Proofs.Ytiodpahbmoeiaaa

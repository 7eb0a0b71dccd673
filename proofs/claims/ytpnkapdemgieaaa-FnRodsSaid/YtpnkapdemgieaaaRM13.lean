/-
  Which numbers and which stuffs are the same (the program's and the reference's), each function proved once. No condition but what each contract says.
  Which stuffs are the same (the program's and the reference's), each proved once; the law. No condition but what each contract says.
  Rods: other warmths set, how long, which are the same. No condition but what each contract says.
  Lists of numbers, turned round in place. No condition but what each contract says.
  Rods, the other way round. No condition but what each contract says.
  Drawn rods: the program's answers about them, without conditions. No condition but what each contract says.
  Drawn rods: the same words. No condition but what each law says; nothing of the program is named here.
  As XPlanG; besides: what an operation makes may outlive an operation that turns memory (mode 5: it asks only what always holds, and what is told of it stays true under T, the effect of what turns memory). No condition; nothing of the program is named here.
-/
import Derived.Test.YtpnkapdemgieaaaRM12
import Derived.Test.YtpnkapdemgieaaaRM2
import Derived.Test.YtpnkapdemgieaaaRM1
import Derived.Test.YtpnkapdemgieaaaRM7
import Derived.Test.YtpnkapdemgieaaaRM11
import Derived.Test.YtpnkapdemgieaaaRM8
import Derived.Test.YtpnkapdemgieaaaRM3
import Derived.Test.YtpnkapdemgieaaaRM5
set_option linter.unusedSimpArgs false
set_option linter.unusedVariables false
set_option linter.unusedSectionVars false
namespace Go.Proofs.Ytpnkapdemgieaaa
open Go Go.RowKit
def same (a b : Nat) : Bool := cn .f32 a == cn .f32 b
def sgn64 (x : Nat) : Bool := decide (9223372036854775808 ≤ x % 18446744073709551616)
theorem sgn64_word (s : Bool) (r : Nat) (h : r ≤ Ieee.double.infRung) : sgn64 (Ieee.double.word s r) = s := by
  have h1 : Ieee.double.infRung = 9218868437227405312 := rfl
  have h2 : Ieee.double.signWeight = 9223372036854775808 := rfl
  rw [h1] at h
  unfold sgn64 Ieee.Format.word
  rw [h2]
  cases s
  · simp; omega
  · simp; omega
theorem near64 (s : Bool) (m : Nat) (p : Int) : sgn64 (Ieee.double.nearest s m p) = s := by
  unfold Ieee.Format.nearest
  split
  · exact sgn64_word _ _ (Nat.zero_le _)
  · exact sgn64_word _ _ (Nat.min_le_right ..)
theorem sgn64_wide {c : Nat} (h : isN .f32 c = false) : sgn64 (wide c) = neg32 c := by
  unfold wide
  rw [h, if_neg (by simp), decode_single]
  have hn : isN .f32 c = (FloatKind.f32.decode c).isNaN := rfl
  rw [decode_single] at hn
  by_cases h1 : c % 2147483648 < 8388608
  · rw [if_pos h1]; exact near64 _ _ _
  · rw [if_neg h1] at hn ⊢
    by_cases h2 : c % 2147483648 < 2139095040
    · rw [if_pos h2]; exact near64 _ _ _
    · rw [if_neg h2] at hn ⊢
      by_cases h3 : c % 2147483648 = 2139095040
      · rw [if_pos h3]; exact sgn64_word _ _ (Nat.le_refl _)
      · rw [if_neg h3] at hn
        rw [h] at hn; cases hn
theorem rung64_word (s : Bool) (r : Nat) (h : r ≤ Ieee.double.infRung) : Ieee.double.word s r % 9223372036854775808 ≤ 9218868437227405312 := by
  have h1 : Ieee.double.infRung = 9218868437227405312 := rfl
  have h2 : Ieee.double.signWeight = 9223372036854775808 := rfl
  rw [h1] at h
  unfold Ieee.Format.word
  rw [h2]
  cases s
  · simp; omega
  · simp; omega
theorem rung64_near (s : Bool) (m : Nat) (p : Int) : Ieee.double.nearest s m p % 9223372036854775808 ≤ 9218868437227405312 := by
  unfold Ieee.Format.nearest
  split
  · exact rung64_word _ _ (Nat.zero_le _)
  · exact rung64_word _ _ (Nat.min_le_right ..)
theorem wide_rung {c : Nat} (h : isN .f32 c = false) : wide c % 9223372036854775808 ≤ 9218868437227405312 := by
  unfold wide
  rw [h, if_neg (by simp), decode_single]
  have hn : isN .f32 c = (FloatKind.f32.decode c).isNaN := rfl
  rw [decode_single] at hn
  by_cases h1 : c % 2147483648 < 8388608
  · rw [if_pos h1]; exact rung64_near _ _ _
  · rw [if_neg h1] at hn ⊢
    by_cases h2 : c % 2147483648 < 2139095040
    · rw [if_pos h2]; exact rung64_near _ _ _
    · rw [if_neg h2] at hn ⊢
      by_cases h3 : c % 2147483648 = 2139095040
      · rw [if_pos h3]; exact rung64_word _ _ (Nat.le_refl _)
      · rw [if_neg h3] at hn
        rw [h] at hn; cases hn
/-- What the sign of a widened word is. -/
theorem sgn64_cn {c r : Nat} (h : isN .f32 c = false) (hr : cn .f64 r = wide c) : sgn64 r = neg32 c := by
  have h1 : isN .f64 r = false := by
    rcases hn : isN .f64 r
    · rfl
    · rw [cn_of_isN hn] at hr
      have h2 := wide_rung h
      rw [← hr] at h2
      exact absurd h2 (by decide)
  rw [cn_of_not h1] at hr
  rw [hr]; exact sgn64_wide h
/-- The program's way to ask whether two numbers are the same. -/
theorem same_eq {x y : Nat} (hx : x < 4294967296) (hy : y < 4294967296) (nx : isN .f32 x = false) (ny : isN .f32 y = false) : (feq .f32 x y && (neg32 x == neg32 y)) = same x y := by
  unfold same
  rw [cn_of_not nx, cn_of_not ny]
  have key : ∀ c, c < 4294967296 → isN .f32 c = false → isF c = true ∨ c % 2147483648 = 2139095040 := by
    intro c _ hn
    by_cases h2 : c % 2147483648 < 2139095040
    · exact .inl (by simpa [isF] using h2)
    · by_cases h3 : c % 2147483648 = 2139095040
      · exact .inr h3
      · unfold isN at hn
        rw [decode_single, if_neg (by omega), if_neg h2, if_neg h3] at hn
        cases hn
  have inf : ∀ c, c % 2147483648 = 2139095040 → FloatKind.f32.format.read c = .infinity (neg32 c) := by
    intro c hc
    show FloatKind.f32.decode c = _
    rw [decode_single, if_neg (by omega), if_neg (by omega), if_pos hc]; rfl
  have sg : ∀ c, c < 4294967296 → (neg32 c = decide (2147483648 ≤ c)) := by
    intro c hc
    unfold neg32
    rw [Bool.eq_iff_iff]; simp; omega
  rcases key x hx nx with fx | ix <;> rcases key y hy ny with fy | iy
  · rw [feq_val fx fy]
    by_cases h : x = y
    · subst h; simp
    · have : ¬ (val x = val y ∧ neg32 x = neg32 y) := fun ⟨h1, h2⟩ => h (word_of_val hx hy h1 h2)
      rw [Bool.eq_iff_iff]; simp [h]; intro h1 h2; exact this ⟨h1, h2⟩
  · obtain ⟨m, p, e, _⟩ := decode_fin fx
    have e' : FloatKind.f32.format.read x = .number (neg32 x) m p := e
    have hf : feq .f32 x y = false := by
      unfold feq Ieee.Format.order
      rw [e', inf y iy]
      simp only [Ieee.Datum.order]
      cases neg32 y <;> rfl
    rw [hf]
    have : x ≠ y := by rintro rfl; simp only [isF, decide_eq_true_eq] at fx; omega
    simp [this]
  · obtain ⟨m, p, e, _⟩ := decode_fin fy
    have e' : FloatKind.f32.format.read y = .number (neg32 y) m p := e
    have hf : feq .f32 x y = false := by
      unfold feq Ieee.Format.order
      rw [e', inf x ix]
      simp only [Ieee.Datum.order]
      cases neg32 x <;> rfl
    rw [hf]
    have : x ≠ y := by rintro rfl; simp only [isF, decide_eq_true_eq] at fy; omega
    simp [this]
  · have hf : feq .f32 x y = (neg32 x == neg32 y) := by
      unfold feq Ieee.Format.order
      rw [inf x ix, inf y iy]
      simp only [Ieee.Datum.order]
      cases neg32 x <;> cases neg32 y <;> rfl
    rw [hf, sg x hx, sg y hy, Bool.eq_iff_iff]
    simp
    omega
theorem f64bits (x : Nat) (w : World) : (callFunc 97 #[.float .f64 x]).run Try.prog w = .ok (.value (.int .u64 x)) w := by kernel_rfl
set_option maxHeartbeats 400000 in
theorem Signbit_any (x : Nat) (w : World) : Calls Try.prog 90 #[.float .f64 x] w (RB w (sgn64 x)) := by
  have hb := f64bits x
  have hs : Hid (decide (wrap64 (x : Int) < 0) = sgn64 x) := by show _ = _; unfold wrap64 sgn64; rw [Bool.eq_iff_iff]; simp; omega
  go_enter Try.func90, Try.ntmps90
  go_wp2
  go_ret
  exact ⟨by rw [← hs.out]; rfl, 0, rfl⟩
set_option maxHeartbeats 1000000 in
theorem SameNumber_any (x y : Nat) (hx : x < 4294967296) (hy : y < 4294967296) (w : World) : Calls Try.prog 78 #[.float .f32 x, .float .f32 y] w (RB w (same x y)) := by
  have ha := feq_cn_self .f32 x
  have hb := feq_cn_self .f32 y
  rcases h : isN .f32 x
  · rcases h2 : isN .f32 y
    · have Hs := Lib.hid (same_eq hx hy h h2)
      have Hx := Lib.hid (sgn64_wide h)
      have Hy := Lib.hid (sgn64_wide h2)
      have Cx := Lib.hid (cn_of_not h)
      have Cy := Lib.hid (cn_of_not h2)
      rw [h] at ha
      rw [h2] at hb
      rcases h3 : feq .f32 (cn .f32 x) (cn .f32 y)
      · go_enter Try.func78, Try.ntmps78
        go_wp2_with (first | (with_reducible refine at_list ?_; refine wpList_fop rfl rfl rfl rfl rfl ?_; intro r n hr0; have hr := hr0 _ _ (by first | with_reducible assumption | exact rfl) (by first | with_reducible assumption | exact rfl); clear hr0) | (with_reducible refine at_list ?_; refine wpList_neg rfl rfl rfl ?_; intro r hr0; have hr := hr0 _ (by first | with_reducible assumption | exact rfl); clear hr0) | (with_reducible refine at_list ?_; refine wpList_fop_g rfl rfl rfl rfl rfl ?_; intro r n hr0; have hr := hr0 _ _ (by first | with_reducible assumption | exact rfl) (by first | with_reducible assumption | exact rfl); clear hr0) | (with_reducible refine at_list ?_; refine wpList_wide_g rfl rfl Try.underlying28 Try.underlying39 rfl ?_; intro r n hr0; have hr := hr0 _ (by first | with_reducible assumption | exact rfl); clear hr0) | (with_reducible refine at_list ?_; refine wpList_wide rfl rfl rfl Try.underlying28 Try.underlying39 ?_; intro r n hr0; have hr := hr0 _ (by first | with_reducible assumption | exact rfl); clear hr0) | (go_at_call 90; refine (Signbit_any _ _).mono ?_; rintro e w' ⟨rfl, n, rfl⟩))
        go_ret
        exact ⟨by rw [← Hs.out, Cx.out, Cy.out] at *; simp_all, by first | exact ⟨_, rfl⟩ | exact ⟨0, rfl⟩⟩
      · go_enter Try.func78, Try.ntmps78
        go_wp2_with (first | (with_reducible refine at_list ?_; refine wpList_fop rfl rfl rfl rfl rfl ?_; intro r n hr0; have hr := hr0 _ _ (by first | with_reducible assumption | exact rfl) (by first | with_reducible assumption | exact rfl); clear hr0) | (with_reducible refine at_list ?_; refine wpList_neg rfl rfl rfl ?_; intro r hr0; have hr := hr0 _ (by first | with_reducible assumption | exact rfl); clear hr0) | (with_reducible refine at_list ?_; refine wpList_fop_g rfl rfl rfl rfl rfl ?_; intro r n hr0; have hr := hr0 _ _ (by first | with_reducible assumption | exact rfl) (by first | with_reducible assumption | exact rfl); clear hr0) | (with_reducible refine at_list ?_; refine wpList_wide_g rfl rfl Try.underlying28 Try.underlying39 rfl ?_; intro r n hr0; have hr := hr0 _ (by first | with_reducible assumption | exact rfl); clear hr0) | (with_reducible refine at_list ?_; refine wpList_wide rfl rfl rfl Try.underlying28 Try.underlying39 ?_; intro r n hr0; have hr := hr0 _ (by first | with_reducible assumption | exact rfl); clear hr0) | (go_at_call 90; refine (Signbit_any _ _).mono ?_; rintro e w' ⟨rfl, n, rfl⟩))
        go_ret
        refine ⟨?_, by first | exact ⟨_, rfl⟩ | exact ⟨0, rfl⟩⟩
        have e1 := sgn64_cn h (by rw [← Cx.out]; exact ‹cn .f64 _ = wide (cn .f32 x)›)
        have e2 := sgn64_cn h2 (by rw [← Cy.out]; exact ‹cn .f64 _ = wide (cn .f32 y)›)
        rw [Cx.out, Cy.out] at h3
        rw [← Hs.out, h3]
        simp only [e1, e2, Bool.true_and]
        rfl
    · have H : Hid (same x y = false) := by
        show same x y = false
        unfold same; rw [cn_of_not h, cn_of_isN h2]
        simp; rintro rfl; rw [isN_qn] at h; cases h
      rw [h] at ha
      rw [h2] at hb
      go_enter Try.func78, Try.ntmps78
      go_wp2_with (first | (with_reducible refine at_list ?_; refine wpList_fop rfl rfl rfl rfl rfl ?_; intro r n hr0; have hr := hr0 _ _ (by first | with_reducible assumption | exact rfl) (by first | with_reducible assumption | exact rfl); clear hr0) | (with_reducible refine at_list ?_; refine wpList_neg rfl rfl rfl ?_; intro r hr0; have hr := hr0 _ (by first | with_reducible assumption | exact rfl); clear hr0) | (with_reducible refine at_list ?_; refine wpList_fop_g rfl rfl rfl rfl rfl ?_; intro r n hr0; have hr := hr0 _ _ (by first | with_reducible assumption | exact rfl) (by first | with_reducible assumption | exact rfl); clear hr0) | (with_reducible refine at_list ?_; refine wpList_wide_g rfl rfl Try.underlying28 Try.underlying39 rfl ?_; intro r n hr0; have hr := hr0 _ (by first | with_reducible assumption | exact rfl); clear hr0) | (with_reducible refine at_list ?_; refine wpList_wide rfl rfl rfl Try.underlying28 Try.underlying39 ?_; intro r n hr0; have hr := hr0 _ (by first | with_reducible assumption | exact rfl); clear hr0) | (go_at_call 90; refine (Signbit_any _ _).mono ?_; rintro e w' ⟨rfl, n, rfl⟩))
      go_ret
      exact ⟨by rw [H.out]; rfl, by first | exact ⟨_, rfl⟩ | exact ⟨0, rfl⟩⟩
  · rcases h2 : isN .f32 y
    · have H : Hid (same x y = false) := by
        show same x y = false
        unfold same; rw [cn_of_not h2, cn_of_isN h]
        simp; rintro rfl; rw [isN_qn] at h2; cases h2
      rw [h] at ha
      rw [h2] at hb
      go_enter Try.func78, Try.ntmps78
      go_wp2_with (first | (with_reducible refine at_list ?_; refine wpList_fop rfl rfl rfl rfl rfl ?_; intro r n hr0; have hr := hr0 _ _ (by first | with_reducible assumption | exact rfl) (by first | with_reducible assumption | exact rfl); clear hr0) | (with_reducible refine at_list ?_; refine wpList_neg rfl rfl rfl ?_; intro r hr0; have hr := hr0 _ (by first | with_reducible assumption | exact rfl); clear hr0) | (with_reducible refine at_list ?_; refine wpList_fop_g rfl rfl rfl rfl rfl ?_; intro r n hr0; have hr := hr0 _ _ (by first | with_reducible assumption | exact rfl) (by first | with_reducible assumption | exact rfl); clear hr0) | (with_reducible refine at_list ?_; refine wpList_wide_g rfl rfl Try.underlying28 Try.underlying39 rfl ?_; intro r n hr0; have hr := hr0 _ (by first | with_reducible assumption | exact rfl); clear hr0) | (with_reducible refine at_list ?_; refine wpList_wide rfl rfl rfl Try.underlying28 Try.underlying39 ?_; intro r n hr0; have hr := hr0 _ (by first | with_reducible assumption | exact rfl); clear hr0) | (go_at_call 90; refine (Signbit_any _ _).mono ?_; rintro e w' ⟨rfl, n, rfl⟩))
      go_ret
      exact ⟨by rw [H.out]; rfl, by first | exact ⟨_, rfl⟩ | exact ⟨0, rfl⟩⟩
    · have H : Hid (same x y = true) := by
        show same x y = true
        unfold same; rw [cn_of_isN h2, cn_of_isN h]
        simp
      rw [h] at ha
      rw [h2] at hb
      go_enter Try.func78, Try.ntmps78
      go_wp2_with (first | (with_reducible refine at_list ?_; refine wpList_fop rfl rfl rfl rfl rfl ?_; intro r n hr0; have hr := hr0 _ _ (by first | with_reducible assumption | exact rfl) (by first | with_reducible assumption | exact rfl); clear hr0) | (with_reducible refine at_list ?_; refine wpList_neg rfl rfl rfl ?_; intro r hr0; have hr := hr0 _ (by first | with_reducible assumption | exact rfl); clear hr0) | (with_reducible refine at_list ?_; refine wpList_fop_g rfl rfl rfl rfl rfl ?_; intro r n hr0; have hr := hr0 _ _ (by first | with_reducible assumption | exact rfl) (by first | with_reducible assumption | exact rfl); clear hr0) | (with_reducible refine at_list ?_; refine wpList_wide_g rfl rfl Try.underlying28 Try.underlying39 rfl ?_; intro r n hr0; have hr := hr0 _ (by first | with_reducible assumption | exact rfl); clear hr0) | (with_reducible refine at_list ?_; refine wpList_wide rfl rfl rfl Try.underlying28 Try.underlying39 ?_; intro r n hr0; have hr := hr0 _ (by first | with_reducible assumption | exact rfl); clear hr0) | (go_at_call 90; refine (Signbit_any _ _).mono ?_; rintro e w' ⟨rfl, n, rfl⟩))
      go_ret
      exact ⟨by rw [H.out]; rfl, by first | exact ⟨_, rfl⟩ | exact ⟨0, rfl⟩⟩
/-- Are two lists of words the same, one by one? -/
def eqL (p : Nat → Nat → Bool) (xs ys : List Nat) : Bool := (xs.length == ys.length) && (List.range xs.length).all fun j => p (xs.getD j 0) (ys.getD j 0)
set_option maxHeartbeats 1000000 in
theorem EqualFunc_any (g : Nat) (p : Nat → Nat → Bool) (xs ys : List Nat) (v u : Value) (w : World) (hs : FS w v xs) (ht : FS w u ys) (hcf : ∀ x y w', (callFunc g #[.float .f32 x, .float .f32 y]).run Try.prog w' = .ok (.enter g #[.float .f32 x, .float .f32 y]) w')
    (hg : ∀ j, j < xs.length → j < ys.length → ∀ m, Calls Try.prog g #[.float .f32 (xs.getD j 0), .float .f32 (ys.getD j 0)] (w.drewN m) (RB (w.drewN m) (p (xs.getD j 0) (ys.getD j 0)))) :
    Calls Try.prog 77 #[v, u, .func (.func g) #[] #[]] w (RB w (eqL p xs ys)) := by
  have HG := Lib.hid hg; clear hg
  obtain ⟨pv, cv, rfl, hv1, hv2, hv3⟩ := FS_view hs
  obtain ⟨pu, cu, rfl, hu1, hu2, hu3⟩ := FS_view ht
  have HV := Lib.hid hv3; clear hv3
  have HU := Lib.hid hu3; clear hu3
  clear hs ht
  by_cases hl : xs.length = ys.length
  · have Hl := Lib.hid hl
    rw [hl] at hv2 ⊢
    clear hl
    go_enter Try.func77, Try.ntmps77
    go_wp2
    go_loopw [17] (fun t wr => ∃ k m : Nat, k ≤ ys.length ∧ t = .int .i64 k ∧ wr = w.drewN m ∧ Hid (∀ j, j < k → p (xs.getD j 0) (ys.getD j 0) = true)) (fun t _ => ys.length - (intOf t).toNat)
    case atStart => exact ⟨0, 0, Nat.zero_le _, rfl, rfl, fun j hj => by omega⟩
    case round =>
      obtain ⟨k, m, hk, rfl, rfl, hp⟩ := hrel
      by_cases hlt2 : k < ys.length
      · have hlt : k < xs.length := by rw [Hl.out]; exact hlt2
        obtain ⟨b1, o1, rfl, hc1⟩ := HV.out k hlt
        obtain ⟨b2, o2, rfl, hc2⟩ := HU.out k hlt2
        have Hlt := Lib.hid hlt; clear hlt
        generalize hx : xs.getD k 0 = x at hc1
        generalize hy : ys.getD k 0 = y at hc2
        have Hx := Lib.hid hx; clear hx
        have Hy := Lib.hid hy; clear hy
        rcases hb : p x y
        · go_wp2_with fail
          refine (Hx.out ▸ Hy.out ▸ HG.out k Hlt.out hlt2 m).mono ?_
          rintro e w' ⟨rfl, n, rfl⟩
          go_wp2_with fail
          go_ret
          exact ⟨by
            have : eqL p xs ys = false := by
              unfold eqL
              rw [Bool.and_eq_false_iff]
              right
              rw [List.all_eq_false]
              exact ⟨k, List.mem_range.2 Hlt.out, by rw [Hx.out, Hy.out, hb]; simp⟩
            rw [this]; rfl, m + n, by simp⟩
        · go_wp2_with fail
          refine (Hx.out ▸ Hy.out ▸ HG.out k Hlt.out hlt2 m).mono ?_
          rintro e w' ⟨rfl, n, rfl⟩
          go_wp2_with fail
          go_roundw
          case rel => exact ⟨k + 1, m + n, by omega, by go_num, by simp, fun j hj => by rcases Nat.lt_succ_iff_lt_or_eq.1 hj with h | rfl; exact hp.out j h; rw [Hx.out, Hy.out]; exact hb⟩
          case measure => simp [intOf]; omega
      · go_wp2
        go_ret
        exact ⟨by
          have : eqL p xs ys = true := by
            unfold eqL
            rw [Bool.and_eq_true]
            refine ⟨by simpa using Hl.out, ?_⟩
            rw [List.all_eq_true]
            exact fun j hj => hp.out j (by have := List.mem_range.1 hj; rw [Hl.out] at this; omega)
          rw [this]; rfl, m, rfl⟩
  · go_enter Try.func77, Try.ntmps77
    go_wp2
    go_ret
    exact ⟨by simp [eqL, hl], 0, rfl⟩
end Go.Proofs.Ytpnkapdemgieaaa
set_option linter.unusedSimpArgs false
set_option linter.unusedVariables false
set_option linter.unusedSectionVars false
namespace Go.Proofs.Ytpnkapdemgieaaa
open Go Go.RowKit
open Go.ChangeShapes Go.WideShapes Go.ChangeAt Go.RowKit Go.Joins
def St.lt (s : St) : Prop := s.a < 4294967296 ∧ s.b < 4294967296 ∧ s.c < 4294967296 ∧ s.d < 4294967296 ∧ s.p < 4294967296 ∧ s.l < 4294967296
set_option maxHeartbeats 400000 in
theorem sameNumbers_any (xs ys : List Nat) (v u : Value) (w : World) (hs : FS w v xs) (ht : FS w u ys) (hx : ∀ j, xs.getD j 0 < 4294967296) (hy : ∀ j, ys.getD j 0 < 4294967296) : Calls Try.prog 53 #[v, u] w (RB w (eqL same xs ys)) := by
  have HS := Lib.hid hs
  have HT := Lib.hid ht
  clear hs ht
  go_enter Try.func53, Try.ntmps53
  go_wp2_with fail
  refine (EqualFunc_any 78 same xs ys v u _ HS.out HT.out (fun x y w' => by kernel_rfl) (fun j h1 h2 m => SameNumber_any _ _ (hx j) (hy j) _)).mono ?_
  rintro e w' ⟨rfl, n, rfl⟩
  go_wp2_with fail
  go_ret
  exact ⟨rfl, _, rfl⟩
/-- A slice of these words. -/
def Clm.fs (xs : List Nat) : Clm := ⟨1, fun _ _ => True, fun _ v w => FS w v xs, fun _ => ⟨undef, trivial⟩, fun _ _ _ _ h hb => h.later hb, fun h => nomatch h⟩
end Go.Proofs.Ytpnkapdemgieaaa
set_option linter.unusedSimpArgs false
set_option linter.unusedVariables false
set_option linter.unusedSectionVars false
namespace Go.Proofs.Ytpnkapdemgieaaa
open Go Go.RowKit
open Go.ChangeShapes Go.WideShapes Go.ChangeAt Go.RowKit Go.Joins
set_option maxHeartbeats 2000000 in
set_option maxRecDepth 100000 in
theorem implLong_any (P : Rd) (l : RL) (w : World) (hs : P.fs w l) : Calls Try.prog 26 #[.agg #[.slice l.p1 P.a.length l.c1, .slice l.p2 P.b.length l.c2, .slice l.p3 P.c.length l.c3, .slice l.p4 P.d.length l.c4]] w (BFB w .f32 (gF P.ok (accC id P.a)) (gB P.ok (accC id P.a))) := by
  have HS := Lib.hid hs
  clear hs
  have HV := Lib.hid (fun w h => implValidRod_any P l w h)
  have HK := Lib.hid (cn_accC id P.a)
  rcases h0 : P.ok
  · rw [h0] at HV
    go_enter Try.func26, Try.ntmps26
    go_wp2_with (first | (with_reducible refine at_list ?_; refine wpList_wide_g rfl rfl Try.underlying28 Try.underlying39 rfl ?_; intro r n hr0; have hr := hr0 _ (by first | with_reducible assumption | exact rfl); clear hr0) | (with_reducible refine at_list ?_; refine wpList_wide rfl rfl rfl Try.underlying28 Try.underlying39 ?_; intro r n hr0; have hr := hr0 _ (by first | with_reducible assumption | exact rfl); clear hr0) | (go_at_call 35; refine ((HV.out _ (HS.out.later (by (repeat (first | (with_reducible exact Below.refl _ _) | (with_reducible assumption) | (with_reducible refine below_then ?_ (by assumption)) | (with_reducible refine Below.trans ?_ (by assumption)) | (with_reducible refine below_drewN ?_ _) | (with_reducible apply Below.drew) | (with_reducible refine below_alloc ?_ _) | refine Below.setCell ?_ (by first | (simp; done) | (simp; omega)) _))))) ).mono ?_; rintro e w' ⟨rfl, hb⟩; obtain ⟨hT, hk⟩ := bv_next hb (by (repeat (with_reducible first | assumption | apply Trk.alloc | apply Trk.setCell | apply Trk.drewN | apply Trk.drew | exact Trk.nil _))); simp only [SameOn, World.size_alloc, World.size_setCell, World.size_drew, size_drewN', and_true] at hk; have hsz := Below.size hb; (try simp only [World.size_alloc, World.size_setCell, World.size_drew, size_drewN'] at hsz)) | (go_at_call 57; refine (sum_any _ _ _ (by assumption)).mono ?_; rintro e w' ⟨r, rfl, hr, n, rfl⟩) | (go_at_call 47; refine (checked_any _ _).mono ?_; rintro e w' ⟨r, rfl, hr, n, rfl⟩))
    all_goals
      go_ret2
      exact ⟨_, rfl, by simp [gF], by (repeat (first | (with_reducible exact Below.refl _ _) | (with_reducible assumption) | (with_reducible refine below_then ?_ (by assumption)) | (with_reducible refine Below.trans ?_ (by assumption)) | (with_reducible refine below_drewN ?_ _) | (with_reducible apply Below.drew) | (with_reducible refine below_alloc ?_ _) | refine Below.setCell ?_ (by first | (simp; done) | (simp; omega)) _))⟩
  rw [h0] at HV
  have HQ := Lib.hid (fun w h => sum_any P.a (.slice l.p1 P.a.length l.c1) w h)
  go_enter Try.func26, Try.ntmps26
  go_wp2_with (first | (with_reducible refine at_list ?_; refine wpList_wide_g rfl rfl Try.underlying28 Try.underlying39 rfl ?_; intro r n hr0; have hr := hr0 _ (by first | with_reducible assumption | exact rfl); clear hr0) | (with_reducible refine at_list ?_; refine wpList_wide rfl rfl rfl Try.underlying28 Try.underlying39 ?_; intro r n hr0; have hr := hr0 _ (by first | with_reducible assumption | exact rfl); clear hr0) | (go_at_call 35; refine ((HV.out _ (HS.out.later (by (repeat (first | (with_reducible exact Below.refl _ _) | (with_reducible assumption) | (with_reducible refine below_then ?_ (by assumption)) | (with_reducible refine Below.trans ?_ (by assumption)) | (with_reducible refine below_drewN ?_ _) | (with_reducible apply Below.drew) | (with_reducible refine below_alloc ?_ _) | refine Below.setCell ?_ (by first | (simp; done) | (simp; omega)) _))))) ).mono ?_; rintro e w' ⟨rfl, hb⟩; obtain ⟨hT, hk⟩ := bv_next hb (by (repeat (with_reducible first | assumption | apply Trk.alloc | apply Trk.setCell | apply Trk.drewN | apply Trk.drew | exact Trk.nil _))); simp only [SameOn, World.size_alloc, World.size_setCell, World.size_drew, size_drewN', and_true] at hk; have hsz := Below.size hb; (try simp only [World.size_alloc, World.size_setCell, World.size_drew, size_drewN'] at hsz)) | (go_at_call 57; refine ((HQ.out _ (HS.out.1.later (by (repeat (first | (with_reducible exact Below.refl _ _) | (with_reducible assumption) | (with_reducible refine below_then ?_ (by assumption)) | (with_reducible refine Below.trans ?_ (by assumption)) | (with_reducible refine below_drewN ?_ _) | (with_reducible apply Below.drew) | (with_reducible refine below_alloc ?_ _) | refine Below.setCell ?_ (by first | (simp; done) | (simp; omega)) _))))) ).mono ?_; rintro e w' ⟨r, rfl, hr, n, rfl⟩) | (go_at_call 47; refine (checked_any _ _).mono ?_; rintro e w' ⟨r, rfl, hr, n, rfl⟩))
  all_goals
    go_ret2
    exact ⟨_, by first | rfl | (simp only [gB, Bool.true_and]; first | rfl | simp only [*]), by simp only [gF, if_true]; first | assumption | simp only [*], by (repeat (first | (with_reducible exact Below.refl _ _) | (with_reducible assumption) | (with_reducible refine below_then ?_ (by assumption)) | (with_reducible refine Below.trans ?_ (by assumption)) | (with_reducible refine below_drewN ?_ _) | (with_reducible apply Below.drew) | (with_reducible refine below_alloc ?_ _) | refine Below.setCell ?_ (by first | (simp; done) | (simp; omega)) _))⟩
set_option maxHeartbeats 4000000 in
theorem implSameRod_yes (P Q : Rd) (l m : RL) (w : World) (hs : P.fs w l) (ht : Q.fs w m) (hx : (∀ j, P.a.getD j 0 < 4294967296) ∧ (∀ j, P.b.getD j 0 < 4294967296) ∧ (∀ j, P.c.getD j 0 < 4294967296) ∧ ∀ j, P.d.getD j 0 < 4294967296) (hy : (∀ j, Q.a.getD j 0 < 4294967296) ∧ (∀ j, Q.b.getD j 0 < 4294967296) ∧ (∀ j, Q.c.getD j 0 < 4294967296) ∧ ∀ j, Q.d.getD j 0 < 4294967296)
    (h1 : eqL same P.a Q.a = true) (h2 : eqL same P.b Q.b = true) (h3 : eqL same P.c Q.c = true) (h4 : eqL same P.d Q.d = true) : Calls Try.prog 22 #[.agg #[.slice l.p1 P.a.length l.c1, .slice l.p2 P.b.length l.c2, .slice l.p3 P.c.length l.c3, .slice l.p4 P.d.length l.c4], .agg #[.slice m.p1 Q.a.length m.c1, .slice m.p2 Q.b.length m.c2, .slice m.p3 Q.c.length m.c3, .slice m.p4 Q.d.length m.c4]] w (BV w (.bool true)) := by
  have HS := Lib.hid hs
  have HT := Lib.hid ht
  have HX := Lib.hid hx
  have HY := Lib.hid hy
  clear hs ht hx hy
  have HA := Lib.hid (sameNumbers_any P.a Q.a (.slice l.p1 P.a.length l.c1) (.slice m.p1 Q.a.length m.c1))
  have HB := Lib.hid (sameNumbers_any P.b Q.b (.slice l.p2 P.b.length l.c2) (.slice m.p2 Q.b.length m.c2))
  have HC := Lib.hid (sameNumbers_any P.c Q.c (.slice l.p3 P.c.length l.c3) (.slice m.p3 Q.c.length m.c3))
  have HD := Lib.hid (sameNumbers_any P.d Q.d (.slice l.p4 P.d.length l.c4) (.slice m.p4 Q.d.length m.c4))
  rw [h1] at HA
  rw [h2] at HB
  rw [h3] at HC
  rw [h4] at HD
  clear h1 h2 h3 h4
  go_enter Try.func22, Try.ntmps22
  go_wp2_with (first | (with_reducible refine at_list ?_; refine wpList_wide_g rfl rfl Try.underlying28 Try.underlying39 rfl ?_; intro r n hr0; have hr := hr0 _ (by first | with_reducible assumption | exact rfl); clear hr0) | (with_reducible refine at_list ?_; refine wpList_wide rfl rfl rfl Try.underlying28 Try.underlying39 ?_; intro r n hr0; have hr := hr0 _ (by first | with_reducible assumption | exact rfl); clear hr0) | (go_at_call_of 53 (Value.slice l.p1 P.a.length l.c1); refine ((HA.out _ (HS.out.1.later (by (repeat (first | (with_reducible exact Below.refl _ _) | (with_reducible assumption) | (with_reducible refine below_then ?_ (by assumption)) | (with_reducible refine Below.trans ?_ (by assumption)) | (with_reducible refine below_drewN ?_ _) | (with_reducible apply Below.drew) | (with_reducible refine below_alloc ?_ _) | refine Below.setCell ?_ (by first | (simp; done) | (simp; omega)) _)))) (HT.out.1.later (by (repeat (first | (with_reducible exact Below.refl _ _) | (with_reducible assumption) | (with_reducible refine below_then ?_ (by assumption)) | (with_reducible refine Below.trans ?_ (by assumption)) | (with_reducible refine below_drewN ?_ _) | (with_reducible apply Below.drew) | (with_reducible refine below_alloc ?_ _) | refine Below.setCell ?_ (by first | (simp; done) | (simp; omega)) _)))) HX.out.1 HY.out.1) ).mono ?_; rintro e w' ⟨rfl, n, rfl⟩) | (go_at_call_of 53 (Value.slice l.p2 P.b.length l.c2); refine ((HB.out _ (HS.out.2.1.later (by (repeat (first | (with_reducible exact Below.refl _ _) | (with_reducible assumption) | (with_reducible refine below_then ?_ (by assumption)) | (with_reducible refine Below.trans ?_ (by assumption)) | (with_reducible refine below_drewN ?_ _) | (with_reducible apply Below.drew) | (with_reducible refine below_alloc ?_ _) | refine Below.setCell ?_ (by first | (simp; done) | (simp; omega)) _)))) (HT.out.2.1.later (by (repeat (first | (with_reducible exact Below.refl _ _) | (with_reducible assumption) | (with_reducible refine below_then ?_ (by assumption)) | (with_reducible refine Below.trans ?_ (by assumption)) | (with_reducible refine below_drewN ?_ _) | (with_reducible apply Below.drew) | (with_reducible refine below_alloc ?_ _) | refine Below.setCell ?_ (by first | (simp; done) | (simp; omega)) _)))) HX.out.2.1 HY.out.2.1) ).mono ?_; rintro e w' ⟨rfl, n, rfl⟩) | (go_at_call_of 53 (Value.slice l.p3 P.c.length l.c3); refine ((HC.out _ (HS.out.2.2.1.later (by (repeat (first | (with_reducible exact Below.refl _ _) | (with_reducible assumption) | (with_reducible refine below_then ?_ (by assumption)) | (with_reducible refine Below.trans ?_ (by assumption)) | (with_reducible refine below_drewN ?_ _) | (with_reducible apply Below.drew) | (with_reducible refine below_alloc ?_ _) | refine Below.setCell ?_ (by first | (simp; done) | (simp; omega)) _)))) (HT.out.2.2.1.later (by (repeat (first | (with_reducible exact Below.refl _ _) | (with_reducible assumption) | (with_reducible refine below_then ?_ (by assumption)) | (with_reducible refine Below.trans ?_ (by assumption)) | (with_reducible refine below_drewN ?_ _) | (with_reducible apply Below.drew) | (with_reducible refine below_alloc ?_ _) | refine Below.setCell ?_ (by first | (simp; done) | (simp; omega)) _)))) HX.out.2.2.1 HY.out.2.2.1) ).mono ?_; rintro e w' ⟨rfl, n, rfl⟩) | (go_at_call_of 53 (Value.slice l.p4 P.d.length l.c4); refine ((HD.out _ (HS.out.2.2.2.later (by (repeat (first | (with_reducible exact Below.refl _ _) | (with_reducible assumption) | (with_reducible refine below_then ?_ (by assumption)) | (with_reducible refine Below.trans ?_ (by assumption)) | (with_reducible refine below_drewN ?_ _) | (with_reducible apply Below.drew) | (with_reducible refine below_alloc ?_ _) | refine Below.setCell ?_ (by first | (simp; done) | (simp; omega)) _)))) (HT.out.2.2.2.later (by (repeat (first | (with_reducible exact Below.refl _ _) | (with_reducible assumption) | (with_reducible refine below_then ?_ (by assumption)) | (with_reducible refine Below.trans ?_ (by assumption)) | (with_reducible refine below_drewN ?_ _) | (with_reducible apply Below.drew) | (with_reducible refine below_alloc ?_ _) | refine Below.setCell ?_ (by first | (simp; done) | (simp; omega)) _)))) HX.out.2.2.2 HY.out.2.2.2) ).mono ?_; rintro e w' ⟨rfl, n, rfl⟩))
  all_goals
    go_ret
    exact ⟨rfl, by (repeat (first | (with_reducible exact Below.refl _ _) | (with_reducible assumption) | (with_reducible refine below_then ?_ (by assumption)) | (with_reducible refine Below.trans ?_ (by assumption)) | (with_reducible refine below_drewN ?_ _) | (with_reducible apply Below.drew) | (with_reducible refine below_alloc ?_ _) | refine Below.setCell ?_ (by first | (simp; done) | (simp; omega)) _))⟩
set_option maxHeartbeats 2000000 in
set_option maxRecDepth 100000 in
theorem implSetWarms_yes (P : Rd) (l : RL) (xs : List Nat) (v : Value) (w : World) (hs : P.fs w l) (hv : FS w v xs) (hP : P.ok = true) (hl : xs.length = P.a.length) (R0 : Rd) (hR0 : R0 = Rd.mk P.a P.b P.c xs) (h0 : R0.ok = true) : Calls Try.prog 21 #[.agg #[.slice l.p1 P.a.length l.c1, .slice l.p2 P.b.length l.c2, .slice l.p3 P.c.length l.c3, .slice l.p4 P.d.length l.c4], v] w (BRB w R0 true) := by
  have HS := Lib.hid hs
  have HF := Lib.hid hv
  have hn := Rd.ok_len hP
  have hN : (1 ≤ P.a.length ∧ P.a.length ≤ 1048576) ∧ (1 ≤ P.b.length ∧ P.b.length ≤ 1048576) ∧ (1 ≤ P.c.length ∧ P.c.length ≤ 1048576) ∧ 1 ≤ xs.length ∧ xs.length ≤ 1048576 := by omega
  obtain ⟨b0, hb0⟩ : ∃ b0, b0 = true := ⟨_, rfl⟩
  have HV := Lib.hid (fun w h => implValidRod_any P l w h)
  rw [hP] at HV
  have HW : Hid (∀ w, P.fs w l → FS w v xs → Calls Try.prog 40 #[.agg #[.slice l.p1 P.a.length l.c1, .slice l.p2 P.b.length l.c2, .slice l.p3 P.c.length l.c3, .slice l.p4 P.d.length l.c4], v] w (BRB w R0 b0)) := by
    intro w h1 h2
    rw [hR0, hb0]
    exact withWarms_yes P l xs v w h1 h2 hN (hR0 ▸ h0)
  obtain ⟨pv, cv, rfl, _⟩ := hv
  clear hs hP hl hn hN hR0 h0
  rw [← hb0]
  have HR : Hid (b0 = true) := hb0
  clear hb0
  go_enter Try.func21, Try.ntmps21
  go_wp2_with (first | (with_reducible refine at_list ?_; refine wpList_wide_g rfl rfl Try.underlying28 Try.underlying39 rfl ?_; intro r n hr0; have hr := hr0 _ (by first | with_reducible assumption | exact rfl); clear hr0) | (with_reducible refine at_list ?_; refine wpList_wide rfl rfl rfl Try.underlying28 Try.underlying39 ?_; intro r n hr0; have hr := hr0 _ (by first | with_reducible assumption | exact rfl); clear hr0) | (go_at_call 35; refine ((HV.out _ (HS.out.later (by (repeat (first | (with_reducible exact Below.refl _ _) | (with_reducible assumption) | (with_reducible refine below_then ?_ (by assumption)) | (with_reducible refine Below.trans ?_ (by assumption)) | (with_reducible refine below_drewN ?_ _) | (with_reducible apply Below.drew) | (with_reducible refine below_alloc ?_ _) | refine Below.setCell ?_ (by first | (simp; done) | (simp; omega)) _))))) ).mono ?_; rintro e w' ⟨rfl, hb⟩; obtain ⟨hT, hk⟩ := bv_next hb (by (repeat (with_reducible first | assumption | apply Trk.alloc | apply Trk.setCell | apply Trk.drewN | apply Trk.drew | exact Trk.nil _))); simp only [SameOn, World.size_alloc, World.size_setCell, World.size_drew, size_drewN', and_true] at hk; have hsz := Below.size hb; (try simp only [World.size_alloc, World.size_setCell, World.size_drew, size_drewN'] at hsz)) | (go_at_call 40; refine ((HW.out _ (HS.out.later (by (repeat (first | (with_reducible exact Below.refl _ _) | (with_reducible assumption) | (with_reducible refine below_then ?_ (by assumption)) | (with_reducible refine Below.trans ?_ (by assumption)) | (with_reducible refine below_drewN ?_ _) | (with_reducible apply Below.drew) | (with_reducible refine below_alloc ?_ _) | refine Below.setCell ?_ (by first | (simp; done) | (simp; omega)) _)))) (HF.out.later (by (repeat (first | (with_reducible exact Below.refl _ _) | (with_reducible assumption) | (with_reducible refine below_then ?_ (by assumption)) | (with_reducible refine Below.trans ?_ (by assumption)) | (with_reducible refine below_drewN ?_ _) | (with_reducible apply Below.drew) | (with_reducible refine below_alloc ?_ _) | refine Below.setCell ?_ (by first | (simp; done) | (simp; omega)) _))))) ).mono ?_; rintro e w' ⟨mq, rfl, hb, hX⟩; obtain ⟨hT, hk⟩ := bv_next hb (by (repeat (with_reducible first | assumption | apply Trk.alloc | apply Trk.setCell | apply Trk.drewN | apply Trk.drew | exact Trk.nil _))); simp only [SameOn, World.size_alloc, World.size_setCell, World.size_drew, size_drewN', and_true] at hk; have hsz := Below.size hb; (try simp only [World.size_alloc, World.size_setCell, World.size_drew, size_drewN'] at hsz)))
  all_goals (try simp only [World.size_alloc, World.size_setCell, World.size_drew, World.drewN] at hX)
  refine bodyPost_ret (v := .tuple #[.agg #[.slice mq.p1 R0.a.length mq.c1, .slice mq.p2 R0.b.length mq.c2, .slice mq.p3 R0.c.length mq.c3, .slice mq.p4 R0.d.length mq.c4], .bool b0]) (by simp [results, Try.results21, go_sem, *]) rfl ?_
  exact ⟨mq, rfl, by (repeat (first | (with_reducible exact Below.refl _ _) | (with_reducible assumption) | (with_reducible refine below_then ?_ (by assumption)) | (with_reducible refine Below.trans ?_ (by assumption)) | (with_reducible refine below_drewN ?_ _) | (with_reducible apply Below.drew) | (with_reducible refine below_alloc ?_ _) | refine Below.setCell ?_ (by first | (simp; done) | (simp; omega)) _)), RdX.base (by (repeat' (first | (with_reducible assumption) | (with_reducible apply RdX.setCell) | (with_reducible apply RdX.alloc) | (with_reducible apply RdX.later; rotate_left; with_reducible assumption) | (with_reducible apply RdX.turn; rotate_left; with_reducible assumption) | (with_reducible apply RdX.drewN))) <;> (first | omega | (simp; done) | (simp; omega))) (by first | omega | (simp; done) | (simp; omega)) (by first | omega | (simp; done) | (simp; omega))⟩
end Go.Proofs.Ytpnkapdemgieaaa
set_option linter.unusedSimpArgs false
set_option linter.unusedVariables false
set_option linter.unusedSectionVars false
namespace Go.Proofs.Ytpnkapdemgieaaa
open Go Go.RowKit
open Go.ChangeShapes Go.WideShapes Go.ChangeAt Go.RowKit Go.Joins
/-- Turned round in part. -/
def rvQ (n k : Nat) (xs ys : List Nat) : Prop := ys.length = n ∧ ∀ m, m < n → ys.getD m 0 = if k ≤ m ∧ m < n - k then xs.getD m 0 else xs.getD (n - 1 - m) 0
theorem rvQ_zero {xs : List Nat} {n : Nat} (h : xs.length = n) : rvQ n 0 xs xs := ⟨h, fun m hm => by rw [if_pos (by omega)]⟩
theorem rvQ_step {n k j : Nat} {xs ys : List Nat} (h : rvQ n k xs ys) (hj : j + k + 1 = n) (hk : k < j) : rvQ n (k + 1) xs ((ys.set k (ys.getD j 0)).set j (ys.getD k 0)) := by
  obtain ⟨hl, hh⟩ := h
  refine ⟨by simp [hl], fun m hm => ?_⟩
  have a := hh j (by omega)
  have b := hh k (by omega)
  rw [if_pos (by omega)] at a b
  by_cases h1 : m = j
  · subst h1
    rw [getL_set_eq (by simp [hl]; omega), if_neg (by omega), b]; congr 1; omega
  · rw [getL_set_ne h1]
    by_cases h2 : m = k
    · subst h2
      rw [getL_set_eq (by omega), if_neg (by omega), a]; congr 1; omega
    · rw [getL_set_ne h2, hh m hm]
      by_cases h3 : k ≤ m ∧ m < n - k
      · rw [if_pos h3, if_pos (by omega)]
      · rw [if_neg h3, if_neg (by omega)]
theorem rvQ_end {n k : Nat} {xs ys : List Nat} (h : rvQ n k xs ys) (hx : xs.length = n) (hk : n ≤ 2 * k + 1) : ys = xs.reverse := by
  obtain ⟨hl, hh⟩ := h
  refine List.ext_getElem (by simp [hl, hx]) (fun m h1 h2 => ?_)
  have a := hh m (by omega)
  rw [List.getD_eq_getElem?_getD, List.getElem?_eq_getElem h1, Option.getD_some] at a
  rw [a, List.getElem_reverse]
  by_cases h3 : k ≤ m ∧ m < n - k
  · rw [if_pos h3, List.getD_eq_getElem?_getD, List.getElem?_eq_getElem (by omega), Option.getD_some]; congr 1; omega
  · rw [if_neg h3, List.getD_eq_getElem?_getD, List.getElem?_eq_getElem (by omega), Option.getD_some]; congr 1; omega
/-- A list of the call's own, and what else has turned. -/
def rvI (B : Nat) (w0 : World) (g n c : Nat) (zs : List Nat) (u : World) : Prop := OF B u (.slice (some ⟨g, 0, none⟩) n c) zs ∧ w0.grownBy u (some g)
theorem rvI_kept {B : Nat} {w0 : World} {g n c : Nat} {zs : List Nat} (w w' : World) (h : rvI B w0 g n c zs w) (hb : Below w.heap.size w w') : rvI B w0 g n c zs w' := ⟨h.1.later hb, World.grownBy.trans h.2 (below_grown hb _)⟩
theorem rvI_set {B : Nat} {w0 : World} {g n c : Nat} {zs : List Nat} {w : World} (h : rvI B w0 g n c zs w) (hn : zs.length = n) (k r : Nat) : rvI B w0 g n c (zs.set k r) (w.setCell ⟨g, k, none⟩ (.float .f32 r)) := ⟨(h.1.storedR hn k r).1, World.grownBy.trans h.2 (h.1.storedR hn k r).2⟩
section
variable {ops : Array Oper} {Q : Exit → Act → World → Prop} {F : World → Prop}
variable {l : List Oper} {cs : List GC} {i : Nat} {ks : List (Nat × (World → Prop))} {a : Act} {o : Oper}
theorem wpG_cellR {I I' : World → Prop} (ad : Addr) (v : Value) (hI : ∀ w w', I' w → Below w.heap.size w w' → I' w') (hw : Region.wanted o (yielded ops a.tmps) = true) (h1 : ∀ w, I w → (execOp a.eval o).run Try.prog w = .ok .skip (w.setCell ad v)) (h2 : ∀ w, I w → depK o ks w → I' (w.setCell ad v))
    (h : wpG Try.prog ops Q F I' l cs (i + 1) [(i, fun _ => True)] (a.put o.dst undef)) : wpG Try.prog ops Q F I (o :: l) (GC.turn undef I' (fun _ => True) hI (fun _ _ _ _ => trivial) :: cs) i ks a := by
  simp only [wpG]
  refine ⟨.inl ⟨hw, .inr (.inr (.inl rfl)), fun h => absurd (show (3 : Nat) = 0 from h) (by decide), fun h => absurd (show (3 : Nat) = 4 from h) (by decide), fun h => absurd (show (3 : Nat) = 1 from h) (by decide), fun _ w hi hk => ?_⟩, fun u hu => ?_⟩
  · rw [h1 w hi]; exact ⟨h2 w hi hk, rfl, trivial⟩
  · have hu : u = undef := hu
    subst hu; exact h
end
set_option maxHeartbeats 4000000 in
set_option maxRecDepth 100000 in
theorem reverseF_any (B : Nat) (xs : List Nat) (n g c : Nat) (w : World) (hs : OF B w (.slice (some ⟨g, 0, none⟩) n c) xs) (hl : xs.length = n) (hn : 1 ≤ n ∧ n ≤ 1048576) : Calls Try.prog 79 #[.slice (some ⟨g, 0, none⟩) n c] w (fun e w' => e = .returned (.tuple #[]) ∧ w.grownBy w' (some g) ∧ OF B w' (.slice (some ⟨g, 0, none⟩) n c) xs.reverse) := by
  obtain ⟨hn1, hn2⟩ := hn
  have hgw : g < w.heap.size := (OF.block hs g rfl).2
  have HS := Lib.hid hs
  have HX := Lib.hid hl
  clear hs hl
  have hnw : IntKind.i64.wrap ((n : Int) - 1) = ((n - 1 : Nat) : Int) := by rw [IntWalk.i64_in _ (by omega)]; omega
  go_enter Try.func79, Try.ntmps79
  go_wp2_with (first | (with_reducible refine at_list ?_; refine wpList_wide_g rfl rfl Try.underlying28 Try.underlying39 rfl ?_; intro r n hr0; have hr := hr0 _ (by first | with_reducible assumption | exact rfl); clear hr0) | (with_reducible refine at_list ?_; refine wpList_wide rfl rfl rfl Try.underlying28 Try.underlying39 ?_; intro r n hr0; have hr := hr0 _ (by first | with_reducible assumption | exact rfl); clear hr0))
  go_loopw [2, 3] (fun y z wr => ∃ (k j : Nat) (ys : List Nat), j + k + 1 = n ∧ y = .int .i64 (k : Int) ∧ z = .int .i64 (j : Int) ∧ k ≤ j + 1 ∧ Hid (OF B wr (.slice (some ⟨g, 0, none⟩) n c) ys) ∧ Hid (rvQ n k xs ys) ∧ Hid (w.grownBy wr (some g))) (fun _ z _ => (intOf z).toNat)
  case atStart => exact ⟨0, n - 1, xs, by omega, rfl, rfl, by omega, HS.out, rvQ_zero HX.out, World.grownBy.refl _ _⟩
  case round =>
    obtain ⟨k, j, ys, hjk, rfl, rfl, hkj, HO, HQ, HG⟩ := hrel
    by_cases hlt : k < j
    · have hlti : (k : Int) < (j : Int) := by omega
      have hgz : g < wr.heap.size := Nat.lt_of_lt_of_le hgw HG.out.size
      have hk2 : k < n := by omega
      have hj2 : j < n := by omega
      have hk3 : (k : Int) < (n : Int) := by omega
      have hj3 : (j : Int) < (n : Int) := by omega
      have HL := Lib.hid HQ.out.1
      have HI : Hid (rvI B w g n c ys wr) := ⟨HO.out, HG.out⟩
      have HQ2 := Lib.hid (rvQ_step HQ.out hjk hlt)
      have HC0 : Hid (∀ u, rvI B w g n c ys u → (u.cell? ⟨g, k, none⟩ = some (.float .f32 (ys.getD k 0)) ∧ u.frozen? ⟨g, k, none⟩ = false) ∧ u.cell? ⟨g, j, none⟩ = some (.float .f32 (ys.getD j 0)) ∧ u.frozen? ⟨g, j, none⟩ = false) := fun u h => ⟨h.1.cells HL.out k hk2, h.1.cells HL.out j hj2⟩
      have HC1 : Hid (∀ u, rvI B w g n c (ys.set k (ys.getD j 0)) u → ∃ old, u.cell? ⟨g, j, none⟩ = some (.float .f32 old) ∧ u.frozen? ⟨g, j, none⟩ = false) := fun u h => ⟨_, h.1.cells (by rw [List.length_set]; exact HL.out) j hj2⟩
      generalize ys.getD k 0 = v0 at *
      generalize ys.getD j 0 = v1 at *
      have hw1 : IntKind.i64.wrap ((k : Int) + 1) = ((k + 1 : Nat) : Int) := by rw [IntWalk.i64_in _ (by omega)]; omega
      have hw2 : IntKind.i64.wrap ((j : Int) - 1) = ((j - 1 : Nat) : Int) := by rw [IntWalk.i64_in _ (by omega)]; omega
      go_wp2_with (first | (with_reducible refine at_list ?_; refine wpList_wide_g rfl rfl Try.underlying28 Try.underlying39 rfl ?_; intro r n hr0; have hr := hr0 _ (by first | with_reducible assumption | exact rfl); clear hr0) | (with_reducible refine at_list ?_; refine wpList_wide rfl rfl rfl Try.underlying28 Try.underlying39 ?_; intro r n hr0; have hr := hr0 _ (by first | with_reducible assumption | exact rfl); clear hr0))
      (apply wp_region_planG (F := (fun _ => True)) (rvI B w g n c ys) rvI_kept; (case hW => exact (by exact HI.out)); (case hF0 => exact (by intro w h; first | exact h | trivial)); ((apply wpG_det; (case hw => exact rfl); (case hs => (intro cs b h; cases h)); (case h1 => (intro w'; go_simp <;> exact rfl))); apply wpG_norm; (case ha => (simp only [Act.put, List.setIfInBounds_toArray, List.set_cons_zero, List.set_cons_succ]; exact rfl))); ((apply wpG_det; (case hw => exact rfl); (case hs => (intro cs b h; cases h)); (case h1 => (intro w'; go_simp <;> exact rfl))); apply wpG_norm; (case ha => (simp only [Act.put, List.setIfInBounds_toArray, List.set_cons_zero, List.set_cons_succ]; exact rfl))); ((apply wpG_det; (case hw => exact rfl); (case hs => (intro cs b h; cases h)); (case h1 => (intro w'; go_simp <;> exact rfl))); apply wpG_norm; (case ha => (simp only [Act.put, List.setIfInBounds_toArray, List.set_cons_zero, List.set_cons_succ]; exact rfl))); ((apply wpG_det; (case hw => exact rfl); (case hs => (intro cs b h; cases h)); (case h1 => (intro w'; go_simp <;> exact rfl))); apply wpG_norm; (case ha => (simp only [Act.put, List.setIfInBounds_toArray, List.set_cons_zero, List.set_cons_succ]; exact rfl))); ((apply wpG_det; (case hw => exact rfl); (case hs => (intro cs b h; cases h)); (case h1 => (intro w'; go_simp <;> exact rfl))); apply wpG_norm; (case ha => (simp only [Act.put, List.setIfInBounds_toArray, List.set_cons_zero, List.set_cons_succ]; exact rfl))); ((apply wpG_det; (case hw => exact rfl); (case hs => (intro cs b h; cases h)); (case h1 => (intro w'; go_simp <;> exact rfl))); apply wpG_norm; (case ha => (simp only [Act.put, List.setIfInBounds_toArray, List.set_cons_zero, List.set_cons_succ]; exact rfl))); ((apply wpG_det; (case hw => exact rfl); (case hs => (intro cs b h; cases h)); (case h1 => (intro w'; go_simp <;> exact rfl))); apply wpG_norm; (case ha => (simp only [Act.put, List.setIfInBounds_toArray, List.set_cons_zero, List.set_cons_succ]; exact rfl))); ((apply wpG_val; (case hw => exact rfl); (case h1 => (intro w' hb hk0; have q1 := (HC0.out _ hb).2.1; go_simp <;> exact rfl))); apply wpG_norm; (case ha => (simp only [Act.put, List.setIfInBounds_toArray, List.set_cons_zero, List.set_cons_succ]; exact rfl))); ((apply wpG_det; (case hw => exact rfl); (case hs => (intro cs b h; cases h)); (case h1 => (intro w'; go_simp <;> exact rfl))); apply wpG_norm; (case ha => (simp only [Act.put, List.setIfInBounds_toArray, List.set_cons_zero, List.set_cons_succ]; exact rfl))); ((apply wpG_det; (case hw => exact rfl); (case hs => (intro cs b h; cases h)); (case h1 => (intro w'; go_simp <;> exact rfl))); apply wpG_norm; (case ha => (simp only [Act.put, List.setIfInBounds_toArray, List.set_cons_zero, List.set_cons_succ]; exact rfl))); ((apply wpG_det; (case hw => exact rfl); (case hs => (intro cs b h; cases h)); (case h1 => (intro w'; go_simp <;> exact rfl))); apply wpG_norm; (case ha => (simp only [Act.put, List.setIfInBounds_toArray, List.set_cons_zero, List.set_cons_succ]; exact rfl))); ((apply wpG_val; (case hw => exact rfl); (case h1 => (intro w' hb hk0; have q1 := (HC0.out _ hb).1.1; go_simp <;> exact rfl))); apply wpG_norm; (case ha => (simp only [Act.put, List.setIfInBounds_toArray, List.set_cons_zero, List.set_cons_succ]; exact rfl))); ((apply wpG_det; (case hw => exact rfl); (case hs => (intro cs b h; cases h)); (case h1 => (intro w'; go_simp <;> exact rfl))); apply wpG_norm; (case ha => (simp only [Act.put, List.setIfInBounds_toArray, List.set_cons_zero, List.set_cons_succ]; exact rfl))); ((apply wpG_cellR (I := rvI B w g n c ys) (I' := rvI B w g n c (ys.set k v1)) ⟨g, k, none⟩ (.float .f32 v1) rvI_kept; (case hw => exact rfl); (case h1 => (intro u hu; have q1 := (HC0.out _ hu).1.1; have q2 := (HC0.out _ hu).1.2; go_simp)); (case h2 => (intro u hu hd; exact rvI_set hu HL.out k v1))); apply wpG_norm; (case ha => (simp only [Act.put, List.setIfInBounds_toArray, List.set_cons_zero, List.set_cons_succ]; exact rfl))); ((apply wpG_det; (case hw => exact rfl); (case hs => (intro cs b h; cases h)); (case h1 => (intro w'; go_simp <;> exact rfl))); apply wpG_norm; (case ha => (simp only [Act.put, List.setIfInBounds_toArray, List.set_cons_zero, List.set_cons_succ]; exact rfl))); ((apply wpG_cellR (I := rvI B w g n c (ys.set k v1)) (I' := rvI B w g n c ((ys.set k v1).set j v0)) ⟨g, j, none⟩ (.float .f32 v0) rvI_kept; (case hw => exact rfl); (case h1 => (intro u hu; obtain ⟨old, q1, q2⟩ := HC1.out _ hu; go_simp)); (case h2 => (intro u hu hd; exact rvI_set hu (by rw [List.length_set]; exact HL.out) j v0))); apply wpG_norm; (case ha => (simp only [Act.put, List.setIfInBounds_toArray, List.set_cons_zero, List.set_cons_succ]; exact rfl))); refine wpG_nil ?_; intro w' hi hkk)
      rotate_left
      case hFs => repeat' (first | exact trivial | (intro u hu; trivial) | constructor)
      all_goals (try (first | kernel_rfl | rfl))
      obtain ⟨hO, hG⟩ := hi
      have HO3 := Lib.hid hO
      have HG3 := Lib.hid hG
      clear hO hG
      go_wp2_with (first | (with_reducible refine at_list ?_; refine wpList_wide_g rfl rfl Try.underlying28 Try.underlying39 rfl ?_; intro r n hr0; have hr := hr0 _ (by first | with_reducible assumption | exact rfl); clear hr0) | (with_reducible refine at_list ?_; refine wpList_wide rfl rfl rfl Try.underlying28 Try.underlying39 ?_; intro r n hr0; have hr := hr0 _ (by first | with_reducible assumption | exact rfl); clear hr0))
      exact ⟨⟨k + 1, j - 1, _, by omega, rfl, rfl, by omega, HO3.out, HQ2.out, HG3.out⟩, by first | (simp [intOf]; done) | (simp [intOf]; omega)⟩
    · have hlti : ¬ (k : Int) < (j : Int) := by omega
      have HE := Lib.hid (rvQ_end HQ.out HX.out (by omega))
      have ho := HO.out
      rw [HE.out] at ho
      have HO2 := Lib.hid ho
      clear ho
      go_wp2_with (first | (with_reducible refine at_list ?_; refine wpList_wide_g rfl rfl Try.underlying28 Try.underlying39 rfl ?_; intro r n hr0; have hr := hr0 _ (by first | with_reducible assumption | exact rfl); clear hr0) | (with_reducible refine at_list ?_; refine wpList_wide rfl rfl rfl Try.underlying28 Try.underlying39 ?_; intro r n hr0; have hr := hr0 _ (by first | with_reducible assumption | exact rfl); clear hr0))
      refine bodyPost_end (v := .tuple #[]) (by kernel_rfl) rfl ?_
      exact ⟨rfl, HG.out, HO2.out⟩
set_option maxHeartbeats 1000000 in
theorem backwards_any (xs : List Nat) (v : Value) (w : World) (hs : FS w v xs) (hn : 1 ≤ xs.length ∧ xs.length ≤ 1048576) : Calls Try.prog 54 #[v] w (fun e w' => ∃ u, e = .returned u ∧ Below w.heap.size w w' ∧ OF w.heap.size w' u xs.reverse) := by
  have HS := Lib.hid hs
  have HN := Lib.hid hn
  clear hs hn
  go_enter Try.func54, Try.ntmps54
  go_wp2_with (first | (with_reducible refine at_list ?_; refine wpList_wide_g rfl rfl Try.underlying28 Try.underlying39 rfl ?_; intro r n hr0; have hr := hr0 _ (by first | with_reducible assumption | exact rfl); clear hr0) | (with_reducible refine at_list ?_; refine wpList_wide rfl rfl rfl Try.underlying28 Try.underlying39 ?_; intro r n hr0; have hr := hr0 _ (by first | with_reducible assumption | exact rfl); clear hr0) | (go_at_call 43; refine (cloneF_any xs _ _ HS.out HN.out).mono ?_; rintro e w1 ⟨u, rfl, hb1, hO⟩; obtain ⟨q, c, rfl⟩ := hO.shape; obtain ⟨g, rfl⟩ := hO.at0 rfl HN.out.1; have HO := Lib.hid hO; have HB := Lib.hid hb1; clear hO hb1) | (go_at_call 79; refine (reverseF_any w.heap.size xs xs.length g c _ HO.out rfl HN.out).mono ?_; rintro e w2 ⟨rfl, hg, hO2⟩; have HG := Lib.hid hg; have HO2 := Lib.hid hO2; clear hg hO2) | (go_at_call 43; refine (cloneF_any _ _ _ (by assumption) (by omega)).mono ?_; rintro e w' ⟨u, rfl, hb, hO⟩; obtain ⟨pu, cu, rfl⟩ := OF.shape hO; (try simp only [World.size_alloc, World.size_setCell, World.size_drew, World.drewN] at hO); obtain ⟨hT, hk⟩ := bv_next hb (by (repeat (with_reducible first | assumption | apply Trk.alloc | apply Trk.setCell | apply Trk.drewN | apply Trk.drew | exact Trk.nil _))); simp only [SameOn, World.size_alloc, World.size_setCell, World.size_drew, size_drewN', and_true] at hk; have hsz := Below.size hb; (try simp only [World.size_alloc, World.size_setCell, World.size_drew, size_drewN'] at hsz)))
  go_ret
  exact ⟨_, rfl, HB.out.grown HG.out HB.out.size (fun k h => by cases h; exact (OF.block HO.out _ rfl).1), HO2.out⟩
end Go.Proofs.Ytpnkapdemgieaaa
set_option linter.unusedSimpArgs false
set_option linter.unusedVariables false
set_option linter.unusedSectionVars false
namespace Go.Proofs.Ytpnkapdemgieaaa
open Go Go.RowKit
open Go.ChangeShapes Go.WideShapes Go.ChangeAt Go.RowKit Go.Joins
set_option maxHeartbeats 2000000 in
set_option maxRecDepth 100000 in
theorem implBack_yes (P : Rd) (l : RL) (w : World) (hs : P.fs w l) (h0 : P.ok = true) : Calls Try.prog 23 #[.agg #[.slice l.p1 P.a.length l.c1, .slice l.p2 P.b.length l.c2, .slice l.p3 P.c.length l.c3, .slice l.p4 P.d.length l.c4]] w (BRB w (bkR P) true) := by
  have hn' := Rd.ok_len h0
  have hn : (1 ≤ P.a.length ∧ P.a.length ≤ 1048576) ∧ (1 ≤ P.b.length ∧ P.b.length ≤ 1048576) ∧ (1 ≤ P.c.length ∧ P.c.length ≤ 1048576) ∧ 1 ≤ P.d.length ∧ P.d.length ≤ 1048576 := by omega
  have HS := Lib.hid hs
  have HN := Lib.hid hn
  have HL : Hid (1 ≤ (bkR P).b.length ∧ 1 ≤ (bkR P).c.length) := by show _ ∧ _; simp only [bkR, List.length_reverse]; omega
  have HB : Hid ((∀ k, (Value.slice l.p1 P.a.length l.c1).ownBlock = some k → k < w.heap.size) ∧ (∀ k, (Value.slice l.p2 P.b.length l.c2).ownBlock = some k → k < w.heap.size) ∧ (∀ k, (Value.slice l.p3 P.c.length l.c3).ownBlock = some k → k < w.heap.size) ∧ ∀ k, (Value.slice l.p4 P.d.length l.c4).ownBlock = some k → k < w.heap.size) := ⟨own_lt hs.1 hn.1.1, own_lt hs.2.1 hn.2.1.1, own_lt hs.2.2.1 hn.2.2.1.1, own_lt hs.2.2.2 hn.2.2.2.1⟩
  have HV := Lib.hid (fun w h => implValidRod_any P l w h)
  rw [h0] at HV
  clear hs hn hn' h0
  go_enter Try.func23, Try.ntmps23
  go_wp2_with (first | (with_reducible refine at_list ?_; refine wpList_wide_g rfl rfl Try.underlying28 Try.underlying39 rfl ?_; intro r n hr0; have hr := hr0 _ (by first | with_reducible assumption | exact rfl); clear hr0) | (with_reducible refine at_list ?_; refine wpList_wide rfl rfl rfl Try.underlying28 Try.underlying39 ?_; intro r n hr0; have hr := hr0 _ (by first | with_reducible assumption | exact rfl); clear hr0) | (go_at_call 35; refine ((HV.out _ (HS.out.later (by (repeat (first | (with_reducible exact Below.refl _ _) | (with_reducible assumption) | (with_reducible refine below_then ?_ (by assumption)) | (with_reducible refine Below.trans ?_ (by assumption)) | (with_reducible refine below_drewN ?_ _) | (with_reducible apply Below.drew) | (with_reducible refine below_alloc ?_ _) | refine Below.setCell ?_ (by first | (simp; done) | (simp; omega)) _))))) ).mono ?_; rintro e w' ⟨rfl, hb⟩; obtain ⟨hT, hk⟩ := bv_next hb (by (repeat (with_reducible first | assumption | apply Trk.alloc | apply Trk.setCell | apply Trk.drewN | apply Trk.drew | exact Trk.nil _))); simp only [SameOn, World.size_alloc, World.size_setCell, World.size_drew, size_drewN', and_true] at hk; have hsz := Below.size hb; (try simp only [World.size_alloc, World.size_setCell, World.size_drew, size_drewN'] at hsz)))
  rename World => w1
  have hb9 : Below w.heap.size w w1 := by (repeat (first | (with_reducible exact Below.refl _ _) | (with_reducible assumption) | (with_reducible refine below_then ?_ (by assumption)) | (with_reducible refine Below.trans ?_ (by assumption)) | (with_reducible refine below_drewN ?_ _) | (with_reducible apply Below.drew) | (with_reducible refine below_alloc ?_ _) | refine Below.setCell ?_ (by first | (simp; done) | (simp; omega)) _))
  have HBW : Hid ((∀ k, (Value.slice l.p1 P.a.length l.c1).ownBlock = some k → k < w1.heap.size) ∧ (∀ k, (Value.slice l.p2 P.b.length l.c2).ownBlock = some k → k < w1.heap.size) ∧ (∀ k, (Value.slice l.p3 P.c.length l.c3).ownBlock = some k → k < w1.heap.size) ∧ ∀ k, (Value.slice l.p4 P.d.length l.c4).ownBlock = some k → k < w1.heap.size) := ⟨fun k h => Nat.lt_of_lt_of_le (HB.out.1 k h) hb9.size, fun k h => Nat.lt_of_lt_of_le (HB.out.2.1 k h) hb9.size, fun k h => Nat.lt_of_lt_of_le (HB.out.2.2.1 k h) hb9.size, fun k h => Nat.lt_of_lt_of_le (HB.out.2.2.2 k h) hb9.size⟩
  clear hb9
  (apply wp_region_plan; ((apply wpC_det; (case hw => exact rfl); (case hs => (intro cs b h; cases h)); (case h1 => (intro w'; go_simp <;> exact rfl))); apply wpC_norm; (case ha => (simp only [Act.put, List.setIfInBounds_toArray, List.set_cons_zero, List.set_cons_succ]; exact rfl))); ((apply wpC_val; (case hw => exact rfl); (case h1 => (intro w' hb hk0; obtain ⟨hT, hk⟩ := bv_next hb (by (repeat (with_reducible first | assumption | apply Trk.alloc | apply Trk.setCell | apply Trk.drewN | apply Trk.drew | exact Trk.nil _))); simp only [SameOn, World.size_alloc, World.size_setCell, World.size_drew, size_drewN', and_true] at hk; have hsz := Below.size hb; (try simp only [World.size_alloc, World.size_setCell, World.size_drew, size_drewN'] at hsz); go_simp <;> exact rfl))); apply wpC_norm; (case ha => (simp only [Act.put, List.setIfInBounds_toArray, List.set_cons_zero, List.set_cons_succ]; exact rfl))); ((apply wpC_callOrd (P.a.reverse) 54 [9] [9]; (case hts => kernel_rfl); (case hus => kernel_rfl); (case hf => rfl); (case hw => exact rfl); (case h1 => (intro w'; go_simp; exact ⟨rfl, rfl⟩)); (case hz => (intro w' hb hk0 t ht k hk; simp only [List.cons_append, List.nil_append, List.mem_cons, List.not_mem_nil, or_false, or_self] at ht; (first | subst ht | (rcases ht with rfl | rfl) | (rcases ht with rfl | rfl | rfl) | (rcases ht with rfl | rfl | rfl | rfl) | (rcases ht with rfl | rfl | rfl | rfl | rfl)) <;> (first | exact Option.noConfusion (show (none : Option Nat) = some k from hk) | exact Nat.lt_of_lt_of_le ((HBW).out.1 k hk) (by first | exact hb.size | (have h9 := hb.size; simp only [World.size_alloc, World.size_setCell, World.size_drew, World.drewN] at h9; omega)) | exact Nat.lt_of_lt_of_le ((HBW).out.2.1 k hk) (by first | exact hb.size | (have h9 := hb.size; simp only [World.size_alloc, World.size_setCell, World.size_drew, World.drewN] at h9; omega)) | exact Nat.lt_of_lt_of_le ((HBW).out.2.2.1 k hk) (by first | exact hb.size | (have h9 := hb.size; simp only [World.size_alloc, World.size_setCell, World.size_drew, World.drewN] at h9; omega)) | exact Nat.lt_of_lt_of_le ((HBW).out.2.2.2 k hk) (by first | exact hb.size | (have h9 := hb.size; simp only [World.size_alloc, World.size_setCell, World.size_drew, World.drewN] at h9; omega)) | exact (OF.block (show OF _ _ _ _ ∧ _ from hk0.1).1 k hk).2 | exact (OF.block (show OF _ _ _ _ ∧ _ from hk0.2.1).1 k hk).2 | exact (OF.block (show OF _ _ _ _ ∧ _ from hk0.2.2.1).1 k hk).2 | exact (OF.block (show OF _ _ _ _ ∧ _ from hk0.2.2.2.1).1 k hk).2 | exact (OF.block (show OF _ _ _ _ ∧ _ from hk0.2.2.2.2.1).1 k hk).2 | exact (OF.block (show OF _ _ _ _ ∧ _ from hk0.2.2.2.2.2.1).1 k hk).2 | exact (OF.block (show OF _ _ _ _ ∧ _ from hk0.2.2.2.2.2.2.1).1 k hk).2 | exact (OF.block (show OF _ _ _ _ ∧ _ from hk0.2.2.2.2.2.2.2.1).1 k hk).2 | (cases hk; exact World.block_lt_of_cell? _ _ ((show _ ∧ owned _ _ _ from hk0.1).2 0 _ rfl).1)))); (case hc => (intro w' hb hk0; exact backwards_any P.a _ _ (HS.out.1.later (by (repeat (first | (with_reducible exact Below.refl _ _) | (with_reducible assumption) | (with_reducible refine below_then ?_ (by assumption)) | (with_reducible refine Below.trans ?_ (by assumption)) | (with_reducible refine below_drewN ?_ _) | (with_reducible apply Below.drew) | (with_reducible refine below_alloc ?_ _) | refine Below.setCell ?_ (by first | (simp; done) | (simp; omega)) _)))) HN.out.1)); intro q1 d1); apply wpC_norm; (case ha => (simp only [Act.put, List.setIfInBounds_toArray, List.set_cons_zero, List.set_cons_succ]; exact rfl))); ((apply wpC_det; (case hw => exact rfl); (case hs => (intro cs b h; cases h)); (case h1 => (intro w'; go_simp <;> exact rfl))); apply wpC_norm; (case ha => (simp only [Act.put, List.setIfInBounds_toArray, List.set_cons_zero, List.set_cons_succ]; exact rfl))); ((apply wpC_val; (case hw => exact rfl); (case h1 => (intro w' hb hk0; obtain ⟨hT, hk⟩ := bv_next hb (by (repeat (with_reducible first | assumption | apply Trk.alloc | apply Trk.setCell | apply Trk.drewN | apply Trk.drew | exact Trk.nil _))); simp only [SameOn, World.size_alloc, World.size_setCell, World.size_drew, size_drewN', and_true] at hk; have hsz := Below.size hb; (try simp only [World.size_alloc, World.size_setCell, World.size_drew, size_drewN'] at hsz); go_simp <;> exact rfl))); apply wpC_norm; (case ha => (simp only [Act.put, List.setIfInBounds_toArray, List.set_cons_zero, List.set_cons_succ]; exact rfl))); ((apply wpC_callOrd (P.b.reverse) 54 [12] [10, 12]; (case hts => kernel_rfl); (case hus => kernel_rfl); (case hf => rfl); (case hw => exact rfl); (case h1 => (intro w'; go_simp; exact ⟨rfl, rfl⟩)); (case hz => (intro w' hb hk0 t ht k hk; simp only [List.cons_append, List.nil_append, List.mem_cons, List.not_mem_nil, or_false, or_self] at ht; (first | subst ht | (rcases ht with rfl | rfl) | (rcases ht with rfl | rfl | rfl) | (rcases ht with rfl | rfl | rfl | rfl) | (rcases ht with rfl | rfl | rfl | rfl | rfl)) <;> (first | exact Option.noConfusion (show (none : Option Nat) = some k from hk) | exact Nat.lt_of_lt_of_le ((HBW).out.1 k hk) (by first | exact hb.size | (have h9 := hb.size; simp only [World.size_alloc, World.size_setCell, World.size_drew, World.drewN] at h9; omega)) | exact Nat.lt_of_lt_of_le ((HBW).out.2.1 k hk) (by first | exact hb.size | (have h9 := hb.size; simp only [World.size_alloc, World.size_setCell, World.size_drew, World.drewN] at h9; omega)) | exact Nat.lt_of_lt_of_le ((HBW).out.2.2.1 k hk) (by first | exact hb.size | (have h9 := hb.size; simp only [World.size_alloc, World.size_setCell, World.size_drew, World.drewN] at h9; omega)) | exact Nat.lt_of_lt_of_le ((HBW).out.2.2.2 k hk) (by first | exact hb.size | (have h9 := hb.size; simp only [World.size_alloc, World.size_setCell, World.size_drew, World.drewN] at h9; omega)) | exact (OF.block (show OF _ _ _ _ ∧ _ from hk0.1).1 k hk).2 | exact (OF.block (show OF _ _ _ _ ∧ _ from hk0.2.1).1 k hk).2 | exact (OF.block (show OF _ _ _ _ ∧ _ from hk0.2.2.1).1 k hk).2 | exact (OF.block (show OF _ _ _ _ ∧ _ from hk0.2.2.2.1).1 k hk).2 | exact (OF.block (show OF _ _ _ _ ∧ _ from hk0.2.2.2.2.1).1 k hk).2 | exact (OF.block (show OF _ _ _ _ ∧ _ from hk0.2.2.2.2.2.1).1 k hk).2 | exact (OF.block (show OF _ _ _ _ ∧ _ from hk0.2.2.2.2.2.2.1).1 k hk).2 | exact (OF.block (show OF _ _ _ _ ∧ _ from hk0.2.2.2.2.2.2.2.1).1 k hk).2 | (cases hk; exact World.block_lt_of_cell? _ _ ((show _ ∧ owned _ _ _ from hk0.1).2 0 _ rfl).1)))); (case hc => (intro w' hb hk0; exact backwards_any P.b _ _ (HS.out.2.1.later (by (repeat (first | (with_reducible exact Below.refl _ _) | (with_reducible assumption) | (with_reducible refine below_then ?_ (by assumption)) | (with_reducible refine Below.trans ?_ (by assumption)) | (with_reducible refine below_drewN ?_ _) | (with_reducible apply Below.drew) | (with_reducible refine below_alloc ?_ _) | refine Below.setCell ?_ (by first | (simp; done) | (simp; omega)) _)))) HN.out.2.1)); intro q2 d2); apply wpC_norm; (case ha => (simp only [Act.put, List.setIfInBounds_toArray, List.set_cons_zero, List.set_cons_succ]; exact rfl))); ((apply wpC_det; (case hw => exact rfl); (case hs => (intro cs b h; cases h)); (case h1 => (intro w'; go_simp <;> exact rfl))); apply wpC_norm; (case ha => (simp only [Act.put, List.setIfInBounds_toArray, List.set_cons_zero, List.set_cons_succ]; exact rfl))); ((apply wpC_val; (case hw => exact rfl); (case h1 => (intro w' hb hk0; obtain ⟨hT, hk⟩ := bv_next hb (by (repeat (with_reducible first | assumption | apply Trk.alloc | apply Trk.setCell | apply Trk.drewN | apply Trk.drew | exact Trk.nil _))); simp only [SameOn, World.size_alloc, World.size_setCell, World.size_drew, size_drewN', and_true] at hk; have hsz := Below.size hb; (try simp only [World.size_alloc, World.size_setCell, World.size_drew, size_drewN'] at hsz); go_simp <;> exact rfl))); apply wpC_norm; (case ha => (simp only [Act.put, List.setIfInBounds_toArray, List.set_cons_zero, List.set_cons_succ]; exact rfl))); ((apply wpC_callOrd (P.c.reverse) 54 [15] [13, 15]; (case hts => kernel_rfl); (case hus => kernel_rfl); (case hf => rfl); (case hw => exact rfl); (case h1 => (intro w'; go_simp; exact ⟨rfl, rfl⟩)); (case hz => (intro w' hb hk0 t ht k hk; simp only [List.cons_append, List.nil_append, List.mem_cons, List.not_mem_nil, or_false, or_self] at ht; (first | subst ht | (rcases ht with rfl | rfl) | (rcases ht with rfl | rfl | rfl) | (rcases ht with rfl | rfl | rfl | rfl) | (rcases ht with rfl | rfl | rfl | rfl | rfl)) <;> (first | exact Option.noConfusion (show (none : Option Nat) = some k from hk) | exact Nat.lt_of_lt_of_le ((HBW).out.1 k hk) (by first | exact hb.size | (have h9 := hb.size; simp only [World.size_alloc, World.size_setCell, World.size_drew, World.drewN] at h9; omega)) | exact Nat.lt_of_lt_of_le ((HBW).out.2.1 k hk) (by first | exact hb.size | (have h9 := hb.size; simp only [World.size_alloc, World.size_setCell, World.size_drew, World.drewN] at h9; omega)) | exact Nat.lt_of_lt_of_le ((HBW).out.2.2.1 k hk) (by first | exact hb.size | (have h9 := hb.size; simp only [World.size_alloc, World.size_setCell, World.size_drew, World.drewN] at h9; omega)) | exact Nat.lt_of_lt_of_le ((HBW).out.2.2.2 k hk) (by first | exact hb.size | (have h9 := hb.size; simp only [World.size_alloc, World.size_setCell, World.size_drew, World.drewN] at h9; omega)) | exact (OF.block (show OF _ _ _ _ ∧ _ from hk0.1).1 k hk).2 | exact (OF.block (show OF _ _ _ _ ∧ _ from hk0.2.1).1 k hk).2 | exact (OF.block (show OF _ _ _ _ ∧ _ from hk0.2.2.1).1 k hk).2 | exact (OF.block (show OF _ _ _ _ ∧ _ from hk0.2.2.2.1).1 k hk).2 | exact (OF.block (show OF _ _ _ _ ∧ _ from hk0.2.2.2.2.1).1 k hk).2 | exact (OF.block (show OF _ _ _ _ ∧ _ from hk0.2.2.2.2.2.1).1 k hk).2 | exact (OF.block (show OF _ _ _ _ ∧ _ from hk0.2.2.2.2.2.2.1).1 k hk).2 | exact (OF.block (show OF _ _ _ _ ∧ _ from hk0.2.2.2.2.2.2.2.1).1 k hk).2 | (cases hk; exact World.block_lt_of_cell? _ _ ((show _ ∧ owned _ _ _ from hk0.1).2 0 _ rfl).1)))); (case hc => (intro w' hb hk0; exact backwards_any P.c _ _ (HS.out.2.2.1.later (by (repeat (first | (with_reducible exact Below.refl _ _) | (with_reducible assumption) | (with_reducible refine below_then ?_ (by assumption)) | (with_reducible refine Below.trans ?_ (by assumption)) | (with_reducible refine below_drewN ?_ _) | (with_reducible apply Below.drew) | (with_reducible refine below_alloc ?_ _) | refine Below.setCell ?_ (by first | (simp; done) | (simp; omega)) _)))) HN.out.2.2.1)); intro q3 d3); apply wpC_norm; (case ha => (simp only [Act.put, List.setIfInBounds_toArray, List.set_cons_zero, List.set_cons_succ]; exact rfl))); ((apply wpC_det; (case hw => exact rfl); (case hs => (intro cs b h; cases h)); (case h1 => (intro w'; go_simp <;> exact rfl))); apply wpC_norm; (case ha => (simp only [Act.put, List.setIfInBounds_toArray, List.set_cons_zero, List.set_cons_succ]; exact rfl))); ((apply wpC_val; (case hw => exact rfl); (case h1 => (intro w' hb hk0; obtain ⟨hT, hk⟩ := bv_next hb (by (repeat (with_reducible first | assumption | apply Trk.alloc | apply Trk.setCell | apply Trk.drewN | apply Trk.drew | exact Trk.nil _))); simp only [SameOn, World.size_alloc, World.size_setCell, World.size_drew, size_drewN', and_true] at hk; have hsz := Below.size hb; (try simp only [World.size_alloc, World.size_setCell, World.size_drew, size_drewN'] at hsz); go_simp <;> exact rfl))); apply wpC_norm; (case ha => (simp only [Act.put, List.setIfInBounds_toArray, List.set_cons_zero, List.set_cons_succ]; exact rfl))); ((apply wpC_callOrd (P.d.reverse) 54 [18] [16, 18]; (case hts => kernel_rfl); (case hus => kernel_rfl); (case hf => rfl); (case hw => exact rfl); (case h1 => (intro w'; go_simp; exact ⟨rfl, rfl⟩)); (case hz => (intro w' hb hk0 t ht k hk; simp only [List.cons_append, List.nil_append, List.mem_cons, List.not_mem_nil, or_false, or_self] at ht; (first | subst ht | (rcases ht with rfl | rfl) | (rcases ht with rfl | rfl | rfl) | (rcases ht with rfl | rfl | rfl | rfl) | (rcases ht with rfl | rfl | rfl | rfl | rfl)) <;> (first | exact Option.noConfusion (show (none : Option Nat) = some k from hk) | exact Nat.lt_of_lt_of_le ((HBW).out.1 k hk) (by first | exact hb.size | (have h9 := hb.size; simp only [World.size_alloc, World.size_setCell, World.size_drew, World.drewN] at h9; omega)) | exact Nat.lt_of_lt_of_le ((HBW).out.2.1 k hk) (by first | exact hb.size | (have h9 := hb.size; simp only [World.size_alloc, World.size_setCell, World.size_drew, World.drewN] at h9; omega)) | exact Nat.lt_of_lt_of_le ((HBW).out.2.2.1 k hk) (by first | exact hb.size | (have h9 := hb.size; simp only [World.size_alloc, World.size_setCell, World.size_drew, World.drewN] at h9; omega)) | exact Nat.lt_of_lt_of_le ((HBW).out.2.2.2 k hk) (by first | exact hb.size | (have h9 := hb.size; simp only [World.size_alloc, World.size_setCell, World.size_drew, World.drewN] at h9; omega)) | exact (OF.block (show OF _ _ _ _ ∧ _ from hk0.1).1 k hk).2 | exact (OF.block (show OF _ _ _ _ ∧ _ from hk0.2.1).1 k hk).2 | exact (OF.block (show OF _ _ _ _ ∧ _ from hk0.2.2.1).1 k hk).2 | exact (OF.block (show OF _ _ _ _ ∧ _ from hk0.2.2.2.1).1 k hk).2 | exact (OF.block (show OF _ _ _ _ ∧ _ from hk0.2.2.2.2.1).1 k hk).2 | exact (OF.block (show OF _ _ _ _ ∧ _ from hk0.2.2.2.2.2.1).1 k hk).2 | exact (OF.block (show OF _ _ _ _ ∧ _ from hk0.2.2.2.2.2.2.1).1 k hk).2 | exact (OF.block (show OF _ _ _ _ ∧ _ from hk0.2.2.2.2.2.2.2.1).1 k hk).2 | (cases hk; exact World.block_lt_of_cell? _ _ ((show _ ∧ owned _ _ _ from hk0.1).2 0 _ rfl).1)))); (case hc => (intro w' hb hk0; exact backwards_any P.d _ _ (HS.out.2.2.2.later (by (repeat (first | (with_reducible exact Below.refl _ _) | (with_reducible assumption) | (with_reducible refine below_then ?_ (by assumption)) | (with_reducible refine Below.trans ?_ (by assumption)) | (with_reducible refine below_drewN ?_ _) | (with_reducible apply Below.drew) | (with_reducible refine below_alloc ?_ _) | refine Below.setCell ?_ (by first | (simp; done) | (simp; omega)) _)))) HN.out.2.2.2)); intro q4 d4); apply wpC_norm; (case ha => (simp only [Act.put, List.setIfInBounds_toArray, List.set_cons_zero, List.set_cons_succ]; exact rfl))); ((apply wpC_bldR (R := bkR P) (m := ⟨q1, d1, q2, d2, q3, d3, q4, d4⟩); (case hw => exact rfl); (case h1 => (intro w'; go_simp <;> first | exact rfl | (simp [joinR]; done) | (simp [bkR]; done))); (case hk => (intro w' hb hk0; exact rdA_of (show OF _ _ _ _ ∧ ordK _ _ from hk0.2.2.2.2.2.2.1).1 (show OF _ _ _ _ ∧ ordK _ _ from hk0.2.2.2.2.1).1 (show OF _ _ _ _ ∧ ordK _ _ from hk0.2.2.1).1 (show OF _ _ _ _ ∧ ordK _ _ from hk0.1).1 HL.out (fun k k' h h' => (show OF _ _ _ _ ∧ ordK _ _ from hk0.2.2.2.2.1).2 _ (List.mem_cons_of_mem _ (List.mem_map.2 ⟨10, by simp, rfl⟩)) k k' h h') (fun k k' h h' => (show OF _ _ _ _ ∧ ordK _ _ from hk0.2.2.1).2 _ (List.mem_cons_of_mem _ (List.mem_map.2 ⟨13, by simp, rfl⟩)) k k' h h') (fun k k' h h' => (show OF _ _ _ _ ∧ ordK _ _ from hk0.1).2 _ (List.mem_cons_of_mem _ (List.mem_map.2 ⟨16, by simp, rfl⟩)) k k' h h'))); intro lb); apply wpC_norm; (case ha => (simp only [Act.put, List.setIfInBounds_toArray, List.set_cons_zero, List.set_cons_succ]; exact rfl))); refine wpC_tail (by kernel_rfl) (by first | rfl | kernel_rfl) ?_; intro w' hb hkk; obtain ⟨hT, hk⟩ := bv_next hb (by (repeat (with_reducible first | assumption | apply Trk.alloc | apply Trk.setCell | apply Trk.drewN | apply Trk.drew | exact Trk.nil _))); simp only [SameOn, World.size_alloc, World.size_setCell, World.size_drew, size_drewN', and_true] at hk; have hsz := Below.size hb; (try simp only [World.size_alloc, World.size_setCell, World.size_drew, size_drewN'] at hsz))
  have hR := (hkk.1 _ rfl).rx (Nat.le_refl _)
  try simp only [World.size_alloc] at hR
  rotate_left
  all_goals (try (first | kernel_rfl | rfl))
  go_wp2_with (first | (with_reducible refine at_list ?_; refine wpList_wide_g rfl rfl Try.underlying28 Try.underlying39 rfl ?_; intro r n hr0; have hr := hr0 _ (by first | with_reducible assumption | exact rfl); clear hr0) | (with_reducible refine at_list ?_; refine wpList_wide rfl rfl rfl Try.underlying28 Try.underlying39 ?_; intro r n hr0; have hr := hr0 _ (by first | with_reducible assumption | exact rfl); clear hr0) | (go_at_call 35; refine (implValidRod_any _ _ _ (by assumption)).mono ?_; rintro e w' ⟨rfl, hb⟩; obtain ⟨hT, hk⟩ := bv_next hb (by (repeat (with_reducible first | assumption | apply Trk.alloc | apply Trk.setCell | apply Trk.drewN | apply Trk.drew | exact Trk.nil _))); simp only [SameOn, World.size_alloc, World.size_setCell, World.size_drew, size_drewN', and_true] at hk; have hsz := Below.size hb; (try simp only [World.size_alloc, World.size_setCell, World.size_drew, size_drewN'] at hsz)))
  refine bodyPost_ret (v := .tuple #[.agg #[.slice lb.p1 (bkR P).a.length lb.c1, .slice lb.p2 (bkR P).b.length lb.c2, .slice lb.p3 (bkR P).c.length lb.c3, .slice lb.p4 (bkR P).d.length lb.c4], .bool true]) (by simp [results, Try.results23, go_sem, *]) rfl ?_
  exact ⟨lb, rfl, by (repeat (first | (with_reducible exact Below.refl _ _) | (with_reducible assumption) | (with_reducible refine below_then ?_ (by assumption)) | (with_reducible refine Below.trans ?_ (by assumption)) | (with_reducible refine below_drewN ?_ _) | (with_reducible apply Below.drew) | (with_reducible refine below_alloc ?_ _) | refine Below.setCell ?_ (by first | (simp; done) | (simp; omega)) _)), RdX.base (by (repeat' (first | (with_reducible assumption) | (with_reducible apply RdX.setCell) | (with_reducible apply RdX.alloc) | (with_reducible apply RdX.later; rotate_left; with_reducible assumption) | (with_reducible apply RdX.turn; rotate_left; with_reducible assumption) | (with_reducible apply RdX.drewN))) <;> (first | omega | (simp; done) | (simp; omega))) (by first | omega | (simp; done) | (simp; omega)) (by first | omega | (simp; done) | (simp; omega))⟩
end Go.Proofs.Ytpnkapdemgieaaa
set_option linter.unusedSimpArgs false
set_option linter.unusedVariables false
set_option linter.unusedSectionVars false
namespace Go.Proofs.Ytpnkapdemgieaaa
open Go Go.RowKit
open Go.ChangeShapes Go.WideShapes Go.ChangeAt Go.RowKit Go.Joins
section
variable {P : Rd} {n : Nat} {A B C T : Nat → Int}
theorem rk_heat (h : WR P n A B C T) (l : RL) (w : World) (hs : P.fs w l) : Calls Try.prog 18 #[.agg #[.slice l.p1 P.a.length l.c1, .slice l.p2 P.b.length l.c2, .slice l.p3 P.c.length l.c3, .slice l.p4 P.d.length l.c4]] w (BFB w .f32 (heatK P n) true) := by
  have q := implHeatOf_any P l w hs
  rwa [h.heatG.1, h.heatG.2] at q
theorem rk_mean (h : WR P n A B C T) (l : RL) (w : World) (hs : P.fs w l) : Calls Try.prog 19 #[.agg #[.slice l.p1 P.a.length l.c1, .slice l.p2 P.b.length l.c2, .slice l.p3 P.c.length l.c3, .slice l.p4 P.d.length l.c4]] w (BFB w .f32 (meanQ P) true) := by
  have q := implMeanOf_any P l w hs
  rwa [h.meanGG.1, h.meanGG.2] at q
theorem rk_hind (h : WR P n A B C T) (l : RL) (w : World) (hs : P.fs w l) : Calls Try.prog 25 #[.agg #[.slice l.p1 P.a.length l.c1, .slice l.p2 P.b.length l.c2, .slice l.p3 P.c.length l.c3, .slice l.p4 P.d.length l.c4]] w (BFB w .f32 (hindK P n) true) := by
  have q := implHinder_any P l w hs
  rwa [h.hindG.1, h.hindG.2] at q
theorem rk_long (h : WR P n A B C T) (l : RL) (w : World) (hs : P.fs w l) : Calls Try.prog 26 #[.agg #[.slice l.p1 P.a.length l.c1, .slice l.p2 P.b.length l.c2, .slice l.p3 P.c.length l.c3, .slice l.p4 P.d.length l.c4]] w (BFB w .f32 (accC id P.a) true) := by
  have q := implLong_any P l w hs
  rwa [h.longG.1, h.longG.2] at q
theorem rk_run (h : WR P n A B C T) (h6 : n ≤ 6) (l : RL) (w : World) (hs : P.fs w l) : Calls Try.prog 20 #[.agg #[.slice l.p1 P.a.length l.c1, .slice l.p2 P.b.length l.c2, .slice l.p3 P.c.length l.c3, .slice l.p4 P.d.length l.c4], .agg #[.int .i64 shE.k, .float .f32 shE.t, .float .f32 shE.e], .agg #[.int .i64 shE.k, .float .f32 shE.t, .float .f32 shE.e], .float .f32 1048576000, .int .i64 5, .bool true] w (BRL w (runR true shE shE 1048576000 P 5) (runL true shE shE 1048576000 P 5) true) := by
  have q := implRun_any P l shE shE 1048576000 5 true w hs
  rw [h.runB h6] at q
  exact q
theorem rk_join (h : WR P n A B C T) (h6 : n ≤ 6) (l m : RL) (w : World) (hs : P.fs w l) (ht : (bkR P).fs w m) : Calls Try.prog 24 #[.agg #[.slice l.p1 P.a.length l.c1, .slice l.p2 P.b.length l.c2, .slice l.p3 P.c.length l.c3, .slice l.p4 P.d.length l.c4], .agg #[.slice m.p1 (bkR P).a.length m.c1, .slice m.p2 (bkR P).b.length m.c2, .slice m.p3 (bkR P).c.length m.c3, .slice m.p4 (bkR P).d.length m.c4]] w (BRB w (joinR P (bkR P)) true) := by
  have q := implJoin_any P (bkR P) l m w hs ht
  rw [h.joinOk h6] at q
  exact q
theorem step_known {P : Rd} {E G : EndT} {t : Nat} (l : RL) (w : World) (hs : P.fs w l) (h : stepOk P E G t = true) : Calls Try.prog 15 #[.agg #[.slice l.p1 P.a.length l.c1, .slice l.p2 P.b.length l.c2, .slice l.p3 P.c.length l.c3, .slice l.p4 P.d.length l.c4], .agg #[.int .i64 E.k, .float .f32 E.t, .float .f32 E.e], .agg #[.int .i64 G.k, .float .f32 G.t, .float .f32 G.e], .float .f32 t] w (BRB w (stepR P E G t) true) := by
  refine (implStep_any P l E G t w hs).mono ?_
  intro e w' hq
  have q := brb_of2 hq
  rw [h] at q
  exact q
theorem rk_step (h : WR P n A B C T) (h6 : n ≤ 6) (l : RL) (w : World) (hs : P.fs w l) : Calls Try.prog 15 #[.agg #[.slice l.p1 P.a.length l.c1, .slice l.p2 P.b.length l.c2, .slice l.p3 P.c.length l.c3, .slice l.p4 P.d.length l.c4], .agg #[.int .i64 shE.k, .float .f32 shE.t, .float .f32 shE.e], .agg #[.int .i64 shE.k, .float .f32 shE.t, .float .f32 shE.e], .float .f32 1015021568] w (BRB w (stepR P shE shE 1015021568) true) :=
  step_known l w hs ((h.dr h6).g.short (shE_ge 8 (by decide)) (shE_ge 8 (by decide)) rfl rfl).2.1
theorem rk_even {Cc : Nat → Int} {E G : EndT} {t : Int} {M : Rat} (h : EV P n A Cc E G t M) (l : RL) (w : World) (hs : P.fs w l) : Calls Try.prog 15 #[.agg #[.slice l.p1 P.a.length l.c1, .slice l.p2 P.b.length l.c2, .slice l.p3 P.c.length l.c3, .slice l.p4 P.d.length l.c4], .agg #[.int .i64 E.k, .float .f32 E.t, .float .f32 E.e], .agg #[.int .i64 G.k, .float .f32 G.t, .float .f32 G.e], .float .f32 1048576000] w (BRB w (stepR P E G 1048576000) true) :=
  step_known l w hs h.step.1
theorem rk_held {Cc : Nat → Int} {E G : EndT} {t : Int} {M : Rat} (h : EV P n A Cc E G t M) (l : RL) (w : World) (hs : P.fs w l) : Calls Try.prog 12 #[.agg #[.slice l.p1 P.a.length l.c1, .slice l.p2 P.b.length l.c2, .slice l.p3 P.c.length l.c3, .slice l.p4 P.d.length l.c4], .agg #[.int .i64 E.k, .float .f32 E.t, .float .f32 E.e], .agg #[.int .i64 G.k, .float .f32 G.t, .float .f32 G.e], .float .f32 1048576000] w (BRB w (rwsR P E G 1048576000) true) := by
  refine (implRows_any P l E G 1048576000 w hs).mono ?_
  intro e w' hq
  have q := brb_of2 hq
  rw [h.held.1] at q
  exact q
theorem rk_flows {Cc : Nat → Int} {E G : EndT} {t : Int} {M : Rat} (h : EV P n A Cc E G t M) (l : RL) (w : World) (hs : P.fs w l) : Calls Try.prog 11 #[.agg #[.slice l.p1 P.a.length l.c1, .slice l.p2 P.b.length l.c2, .slice l.p3 P.c.length l.c3, .slice l.p4 P.d.length l.c4], .agg #[.int .i64 E.k, .float .f32 E.t, .float .f32 E.e], .agg #[.int .i64 G.k, .float .f32 G.t, .float .f32 G.e]] w (BC w (flowR P E G) true) := by
  have q := implFlowsR_any P l E G w hs
  rw [flowV_ok h.flowOk, h.flowOk] at q
  exact q
theorem rk_set (h : WR P n A B C T) {x : Nat} {Cc : Nat → Int} {E G : EndT} {t : Int} {M : Rat} (he : EV ⟨P.a, P.b, P.c, List.replicate n x⟩ n A Cc E G t M) (l : RL) (v : Value) (w : World) (hs : P.fs w l) (hv : FS w v (List.replicate n x)) : Calls Try.prog 21 #[.agg #[.slice l.p1 P.a.length l.c1, .slice l.p2 P.b.length l.c2, .slice l.p3 P.c.length l.c3, .slice l.p4 P.d.length l.c4], v] w (BRB w ⟨P.a, P.b, P.c, List.replicate n x⟩ true) :=
  implSetWarms_yes P l (List.replicate n x) v w hs hv h.ok (by simp [h.la]) _ rfl he.g.ok
end
end Go.Proofs.Ytpnkapdemgieaaa
set_option linter.unusedSimpArgs false
set_option linter.unusedVariables false
set_option linter.unusedSectionVars false
namespace Go.Proofs.Ytpnkapdemgieaaa
open Go Go.RowKit
theorem eqL_of {xs ys : List Nat} (hl : xs.length = ys.length) (h : ∀ j, j < xs.length → cn .f32 (xs.getD j 0) = cn .f32 (ys.getD j 0)) : eqL same xs ys = true := by
  unfold eqL
  rw [Bool.and_eq_true]
  refine ⟨by simp [hl], ?_⟩
  rw [List.all_eq_true]
  intro j hj
  rw [List.mem_range] at hj
  unfold same
  have := h j (by omega)
  rw [this]; exact beq_self_eq_true _
theorem eqL_self (xs : List Nat) : eqL same xs xs = true := eqL_of rfl fun _ _ => rfl
end Go.Proofs.Ytpnkapdemgieaaa
set_option linter.unusedSimpArgs false
set_option linter.unusedVariables false
set_option linter.unusedSectionVars false
namespace Go.Proofs.Ytpnkapdemgieaaa
open Go Go.RowKit
section
variable {P : Program} {ops : Array Oper} {Q : Exit → Act → World → Prop} {F : World → Prop} {T : World → World → Prop}
def nextH (c : Clm) (i : Nat) (k : World → Prop) (ks : List (Nat × (World → Prop))) : List (Nat × (World → Prop)) := match c.mode with | 5 => ks | _ => nextG c i k ks
def nextP (c : Clm) (i : Nat) (k : World → Prop) (ps : List (Nat × (World → Prop))) : List (Nat × (World → Prop)) := match c.mode with | 5 => (i, k) :: ps | _ => ps
def stepH (P : Program) (ops : Array Oper) (F : World → Prop) (T : World → World → Prop) (I : World → Prop) (o : Oper) (g : GC) (ks ps : List (Nat × (World → Prop))) (a : Act) : Prop :=
  (Region.wanted o (yielded ops a.tmps) = true ∧ (g.c.mode = 0 ∨ g.c.mode = 1 ∨ g.c.mode = 3 ∨ g.c.mode = 4 ∨ g.c.mode = 5) ∧
    (g.c.mode = 0 → ∀ w, uponC P (fun u w' => (∃ n, w' = w.drewN n) ∧ g.c.S (o.op.operands.toList.map a.eval) u) ((execOp a.eval o).run P w)) ∧
    (g.c.mode = 4 → (∀ x v w, g.c.K x v w) ∧ ∀ w, F w → uponC P (fun u w' => Below w.heap.size w w' ∧ g.c.S (o.op.operands.toList.map a.eval) u) ((execOp a.eval o).run P w)) ∧
    (g.c.mode = 1 → ∀ w, I w → depK o ks w → depK o ps w → uponC P (fun u w' => Below w.heap.size w w' ∧ g.c.S (o.op.operands.toList.map a.eval) u ∧ g.c.K (oargs ops o a) u w') ((execOp a.eval o).run P w)) ∧
    (g.c.mode = 3 → ∀ w, I w → depK o ks w → depK o ps w → uponC P (fun u w' => (g.I w' ∧ T w w') ∧ g.c.S (o.op.operands.toList.map a.eval) u ∧ g.c.K (oargs ops o a) u w') ((execOp a.eval o).run P w)) ∧
    (g.c.mode = 5 → (∀ x v w w', g.c.K x v w → T w w' → g.c.K x v w') ∧ ∀ w, F w → depK o ps w → uponC P (fun u w' => Below w.heap.size w w' ∧ g.c.S (o.op.operands.toList.map a.eval) u ∧ g.c.K (oargs ops o a) u w') ((execOp a.eval o).run P w))) ∨
  (Region.wanted o (yielded ops a.tmps) = false ∧ g.c.mode = 0 ∧ g.c.S (o.op.operands.toList.map a.eval) undef)
/-- The walk in the order of the text. -/
def wpH (P : Program) (ops : Array Oper) (Q : Exit → Act → World → Prop) (F : World → Prop) (T : World → World → Prop) : (World → Prop) → List Oper → List GC → Nat → List (Nat × (World → Prop)) → List (Nat × (World → Prop)) → Act → Prop
  | I, [], [], _, ks, ps, a => ∀ w, I w → allK ks w → allK ps w → Q .normal a w
  | I, o :: l, g :: cs, i, ks, ps, a => stepH P ops F T I o g ks ps a ∧ ∀ v, g.c.S (o.op.operands.toList.map a.eval) v → wpH P ops Q F T (invG I g) l cs (i + 1) (nextH g.c i (g.c.K (oargs ops o a) v) ks) (nextP g.c i (g.c.K (oargs ops o a) v) ps) (a.put o.dst v)
  | _, _, _, _, _, _, _ => False
theorem Iat_floatH {I F : World → Prop} (hI : ∀ w, I w → F w) : ∀ (cs : List GC) (p : Nat) (w : World), (∀ j g, j < p → cs[j]? = some g → g.c.mode = 3 → ∀ w, g.I w → F w) → Iat I cs p w → F w
  | cs, 0, w, _, h => by rw [Iat_zero] at h; exact hI w h
  | [], j + 1, w, _, h => hI w h
  | g :: cs, j + 1, w, hg, h => by
    refine Iat_floatH (I := invG I g) (fun w h => ?_) cs j w (fun k g' hk hg' => hg (k + 1) g' (by omega) (by simpa using hg')) h
    by_cases hm : g.c.mode = 3
    · rw [invG_eq hm] at h; exact hg 0 g (by omega) (by simp) hm w h
    · rw [invG_ne hm] at h; exact hI w h
/-- The claims that outlive what turns memory. -/
def standsP (ops : Array Oper) (V : Nat → Value) (l : List Oper) (cs : List GC) (i : Nat) (a : Act) (w : World) (n : Nat) (X : Nat → Prop) : Prop :=
  ∀ (k : Nat) (o : Oper) (c : GC), k < n → l[k]? = some o → cs[k]? = some c → X (i + k) → c.c.mode = 5 → c.c.K (opx ops V l i a k o) (V (i + k)) w
theorem standsP_tail {V : Nat → Value} {o : Oper} {l : List Oper} {c : GC} {cs : List GC} {i : Nat} {a : Act} {w : World} {n : Nat} {X : Nat → Prop} (h : standsP ops V (o :: l) (c :: cs) i a w (n + 1) X) : standsP ops V l cs (i + 1) (a.put o.dst (V i)) w n X := by
  intro k o' c' hk ho hc hX hm
  have := h (k + 1) o' c' (by omega) (by simpa using ho) (by simpa using hc) (by simpa [Nat.add_assoc, Nat.add_comm 1 k] using hX) hm
  rw [opx_succ] at this
  simpa [Nat.add_assoc, Nat.add_comm 1 k] using this
theorem nextH_dep {o : Oper} {c : Clm} {i : Nat} {k : World → Prop} {ks : List (Nat × (World → Prop))} {w : World} (h1 : depB o i = true → k w) (h2 : c.mode ≠ 3 → depK o ks w) : depK o (nextH c i k ks) w := by
  unfold nextH
  split
  · exact h2 (by omega)
  · exact nextG_dep h1 h2
theorem nextH_all {c : Clm} {i : Nat} {k : World → Prop} {ks : List (Nat × (World → Prop))} {w : World} (h1 : k w) (h2 : c.mode ≠ 3 → allK ks w) : allK (nextH c i k ks) w := by
  unfold nextH
  split
  · exact h2 (by omega)
  · exact nextG_all h1 h2
theorem nextP_dep {o : Oper} {c : Clm} {i : Nat} {k : World → Prop} {ps : List (Nat × (World → Prop))} {w : World} (h1 : c.mode = 5 → depB o i = true → k w) (h2 : depK o ps w) : depK o (nextP c i k ps) w := by
  unfold nextP
  split
  · rename_i hm
    refine ⟨?_, h2⟩
    cases hd : depB o i with
    | false => trivial
    | true => exact h1 hm hd
  · exact h2
theorem nextP_all {c : Clm} {i : Nat} {k : World → Prop} {ps : List (Nat × (World → Prop))} {w : World} (h1 : c.mode = 5 → k w) (h2 : allK ps w) : allK (nextP c i k ps) w := by
  unfold nextP
  split
  · rename_i hm
    exact ⟨h1 hm, h2⟩
  · exact h2
/-- What the walk in the order of the text has told of each operation. -/
theorem wpH_unroll {V : Nat → Value} : ∀ (I : World → Prop) (l : List Oper) (cs : List GC) (i : Nat) (ks ps : List (Nat × (World → Prop))) (a : Act), wpH P ops Q F T I l cs i ks ps a → validG V l cs i a →
    (∀ j o, l[j]? = some o → ∃ c ks' ps', cs[j]? = some c ∧ stepH P ops F T (Iat I cs j) o c ks' ps' (puts V (fun k => decide (k < i + j)) l i a) ∧ (∀ w, standsG ops V l cs i a w j (fun k => depB o k = true) → (noBarG cs j → depK o ks w) → depK o ks' w) ∧ ∀ w, standsP ops V l cs i a w j (fun k => depB o k = true) → depK o ps w → depK o ps' w) ∧
    (∀ w, Iat I cs cs.length w → standsG ops V l cs i a w cs.length (fun _ => True) → (noBarG cs cs.length → allK ks w) → standsP ops V l cs i a w cs.length (fun _ => True) → allK ps w → Q .normal (puts V (fun _ => true) l i a) w)
  | I, [], [], i, ks, ps, a, h, hV => ⟨fun j o hj => by simp at hj, fun w hb _ hk _ hp => h w hb (hk fun b cb h1 => by simp at h1) hp⟩
  | I, [], c :: cs, i, ks, ps, a, h, hV => (by unfold wpH at h; exact h.elim)
  | I, o :: l, [], i, ks, ps, a, h, hV => (by unfold wpH at h; exact h.elim)
  | I, o :: l, c :: cs, i, ks, ps, a, h, hV => by
    simp only [wpH] at h
    obtain ⟨h1, h2⟩ := h
    have hS := hV 0 o c (by simp) (by simp)
    rw [opn_zero] at hS
    have ih := wpH_unroll (invG I c) l cs (i + 1) _ _ (a.put o.dst (V i)) (h2 _ hS) (fun k o' c' ho hk => by
      have := hV (k + 1) o' c' (by simpa using ho) (by simpa using hk)
      rw [opn_succ] at this
      simpa [Nat.add_assoc, Nat.add_comm 1 k] using this)
    have bars : ∀ n, noBarG cs n → ∀ (b : Nat) (cb : GC), 0 < b → b < n + 1 → (c :: cs)[b]? = some cb → cb.c.mode ≠ 3 := fun n hn b cb h1 h2 h3 => by
      obtain ⟨b, rfl⟩ : ∃ b', b = b' + 1 := ⟨b - 1, by omega⟩
      exact hn b cb (by omega) (by simpa using h3)
    have bars' : ∀ n, noBarG cs n → c.c.mode ≠ 3 → noBarG (c :: cs) (n + 1) := fun n hn hc b cb h2 h3 => by
      cases b with
      | zero => simp at h3; subst h3; exact hc
      | succ b => exact hn b cb (by omega) (by simpa using h3)
    refine ⟨fun j o' hj => ?_, fun w hb hk hks hkp hps => ?_⟩
    · cases j with
      | zero =>
        simp only [List.getElem?_cons_zero, Option.some.injEq] at hj
        subst hj
        refine ⟨c, ks, ps, by simp, ?_, fun w _ hk => hk fun b cb h1 => by omega, fun w _ hk => hk⟩
        rw [puts_none (o :: l) i a fun k hk => by simpa using hk]
        exact h1
      | succ j =>
        simp only [List.getElem?_cons_succ] at hj
        have e : i + (j + 1) = i + 1 + j := by omega
        have ep : puts V (fun k => decide (k < i + (j + 1))) (o :: l) i a = puts V (fun k => decide (k < i + 1 + j)) l (i + 1) (a.put o.dst (V i)) := by
          simp only [puts, e, show i < i + 1 + j by omega, decide_true, if_true]
        obtain ⟨c', ks', ps', g1, g2, g3, g4⟩ := ih.1 j o' hj
        refine ⟨c', ks', ps', by simpa using g1, by rw [ep]; exact g2, fun w hw hk => g3 w (standsG_tail hw) fun hn => ?_, fun w hw hk => g4 w (standsP_tail hw) ?_⟩
        rotate_left
        · refine nextP_dep (fun hm hd => ?_) hk
          have := hw 0 o c (by omega) (by simp) (by simp) (by simpa using hd) hm
          rw [opx_zero] at this
          exact this
        refine nextH_dep (fun hd => ?_) fun hc => hk (bars' _ hn hc)
        have := hw 0 o c (by omega) (by simp) (by simp) (by simpa using hd) (bars _ hn)
        rw [opx_zero] at this
        exact this
    · simp only [puts, if_true]
      refine ih.2 w hb (standsG_tail hk) (fun hn => ?_) (standsP_tail hkp) ?_
      rotate_left
      · refine nextP_all (fun hm => ?_) hps
        have := hkp 0 o c (by simp) (by simp) (by simp) trivial hm
        rw [opx_zero] at this
        exact this
      refine nextH_all ?_ fun hc => hks (bars' _ hn hc)
      have := hk 0 o c (by simp) (by simp) (by simp) trivial (bars _ hn)
      rw [opx_zero] at this
      exact this
/-- What turns memory stands apart from all that asks the world. -/
def barH (ops : Array Oper) (ms : List Nat) : Bool := (List.range ops.size).all fun i => !(ms[i]? == some 3) || (List.range ops.size).all fun j => j == i || (ms[j]? == some 0) || (ms[j]? == some 4) || (ms[j]? == some 5) ||
  (decide (j < i) && reachB ops 6 i j) || (decide (i < j) && reachB ops 6 j i)
theorem barH_spec {cs : List GC} (h : barH ops (cs.map (·.c.mode)) = true) {i j : Nat} {oi oj : Oper} {ci cj : GC} (hi : ops[i]? = some oi) (hj : ops[j]? = some oj) (hci : cs[i]? = some ci) (hcj : cs[j]? = some cj) (h2 : ci.c.mode = 3) (h0 : cj.c.mode ≠ 0) (h4 : cj.c.mode ≠ 4) (h5 : cj.c.mode ≠ 5) (hne : j ≠ i) :
    (j < i ∧ reachB ops 6 i j = true) ∨ (i < j ∧ reachB ops 6 j i = true) := by
  have hlti : i < ops.size := (Array.getElem?_eq_some_iff.1 hi).1
  have hltj : j < ops.size := (Array.getElem?_eq_some_iff.1 hj).1
  have := List.all_eq_true.1 h i (List.mem_range.2 hlti)
  simp only [List.getElem?_map, hci, Option.map_some, h2, BEq.rfl, Bool.not_true, Bool.false_or] at this
  have := List.all_eq_true.1 this j (List.mem_range.2 hltj)
  simp only [hi, hj, hcj, Option.map_some, Option.getD_some, Bool.or_eq_true, Bool.and_eq_true, decide_eq_true_eq, beq_iff_eq, Option.some.injEq] at this
  rcases this with ((((h | h) | h) | h) | h) | h
  · exact absurd h hne
  · exact absurd h h0
  · exact absurd h h4
  · exact absurd h h5
  · exact .inl h
  · exact .inr h
variable {cs : List GC} {a0 : Act}
theorem wpAny_planH (I0 : World → Prop) (hI0 : ∀ w w', I0 w → Below w.heap.size w w' → I0 w') (hF0 : ∀ w, I0 w → F w) (hFs : ∀ j g, cs[j]? = some g → g.c.mode = 3 → (∀ w, g.I w → F w) ∨ ∀ (i : Nat) (gi : GC), cs[i]? = some gi → gi.c.mode = 4 ∨ gi.c.mode = 5 → reachB ops 6 j i = true)
    (hB : planB ops = true) (hbar : barH ops (cs.map (·.c.mode)) = true) (hlen : cs.length = ops.size) (hw : wpH P ops Q F T I0 ops.toList cs 0 [] [] a0) :
    ∀ (fuel : Nat) (listed : Array Bool) (a : Act) (w : World) (V : Nat → Value), listed.size = ops.size →
      (∀ (k : Nat) (o : Oper) (c : GC), listed.getD k false = true → ops[k]? = some o → cs[k]? = some c → c.c.S (opn V ops.toList 0 a0 k o) (V k)) →
      a = puts V (fun k => listed.getD k false) ops.toList 0 a0 →
      (∃ p, p ≤ cs.length ∧ (∀ k g, cs[k]? = some g → g.c.mode = 3 → (listed.getD k false = true ↔ k < p)) ∧ Iat I0 cs p w) →
      (∀ (k : Nat) (o : Oper) (c : GC), listed.getD k false = true → ops[k]? = some o → cs[k]? = some c → (∀ (b : Nat) (cb : GC), k < b → cs[b]? = some cb → listed.getD b false = true → cb.c.mode ≠ 3) → c.c.K (opx ops V ops.toList 0 a0 k o) (V k) w) →
      (∀ (k : Nat) (o : Oper) (c : GC), listed.getD k false = true → ops[k]? = some o → cs[k]? = some c → c.c.mode = 5 → c.c.K (opx ops V ops.toList 0 a0 k o) (V k) w) →
      (∀ j o, ops[j]? = some o → listed.getD j false = true → ∀ k, depB o k = true → listed.getD k false = true) →
      cnt (fun k => listed.getD k false) ops.size ≤ fuel → wpAny P .any ops Q fuel listed a w := by
  obtain ⟨hsel, hpl⟩ := planB_spec hB
  have full : ∀ (listed : Array Bool) (a : Act) (w : World) (V : Nat → Value),
      (∀ (k : Nat) (o : Oper) (c : GC), listed.getD k false = true → ops[k]? = some o → cs[k]? = some c → c.c.S (opn V ops.toList 0 a0 k o) (V k)) → a = puts V (fun k => listed.getD k false) ops.toList 0 a0 →
      (∃ p, p ≤ cs.length ∧ (∀ k g, cs[k]? = some g → g.c.mode = 3 → (listed.getD k false = true ↔ k < p)) ∧ Iat I0 cs p w) →
      (∀ (k : Nat) (o : Oper) (c : GC), listed.getD k false = true → ops[k]? = some o → cs[k]? = some c → (∀ (b : Nat) (cb : GC), k < b → cs[b]? = some cb → listed.getD b false = true → cb.c.mode ≠ 3) → c.c.K (opx ops V ops.toList 0 a0 k o) (V k) w) →
      (∀ (k : Nat) (o : Oper) (c : GC), listed.getD k false = true → ops[k]? = some o → cs[k]? = some c → c.c.mode = 5 → c.c.K (opx ops V ops.toList 0 a0 k o) (V k) w) →
      (∀ j, j < ops.size → listed.getD j false = true) → Q .normal a w := by
    intro listed a w V hV ha hb hK hPs hall
    have hI : Iat I0 cs cs.length w := by
      obtain ⟨p, hp, h1, h2⟩ := hb
      have := Iat_over I0 cs (cs.length - p) p (fun k g hpk _ hg hm => by
        have hk := (h1 k g hg hm).1 (hall k (by have := (List.getElem?_eq_some_iff.1 hg).1; omega))
        omega) (by omega)
      rw [show p + (cs.length - p) = cs.length by omega] at this
      rw [this]; exact h2
    have := (wpH_unroll (V := V) I0 ops.toList cs 0 [] [] a0 hw (fun k o c ho hk => by
      have ho' : ops[k]? = some o := by simpa using ho
      simpa using hV k o c (hall k (Array.getElem?_eq_some_iff.1 ho').1) ho' hk)).2 w hI
      (fun k o c hlt ho hk _ hnb => by
        have ho' : ops[k]? = some o := by simpa using ho
        have := hK k o c (hall k (by omega)) ho' hk (fun b cb h1 h2 h3 => hnb b cb h1 (List.getElem?_eq_some_iff.1 h2).1 h2)
        simpa using this) (fun _ => trivial) (fun k o c hlt ho hk _ hm => by
        have ho' : ops[k]? = some o := by simpa using ho
        have := hPs k o c (hall k (by omega)) ho' hk hm
        simpa using this) trivial
    rw [ha, puts_congr (V' := V) (D' := fun _ => true) ops.toList 0 a0 fun k _ h2 => ⟨hall k (by simpa using h2), fun _ => rfl⟩]
    exact this
  intro fuel
  induction fuel with
  | zero =>
    intro listed a w V hsz hV ha hb hK hPs hdown hcnt
    have hall := cnt_zero (Nat.le_zero.1 hcnt)
    refine ⟨?_, full listed a w V hV ha hb hK hPs hall⟩
    refine List.eq_nil_iff_forall_not_mem.2 fun j hj => ?_
    obtain ⟨h0, o, ho, _⟩ := mem_ready.1 hj
    have hlt : j < ops.size := (Array.getElem?_eq_some_iff.1 ho).1
    have := hall j hlt
    simp only [Array.getD_eq_getD_getElem?] at h0 this
    rw [Array.getElem?_eq_getElem (by omega)] at h0 this
    simp at h0 this
    rw [h0] at this; cases this
  | succ fuel ih =>
    intro listed a w V hsz hV ha hb hK hPs hdown hcnt
    have conv : ∀ j, j < ops.size → listed.getD j true = listed.getD j false := fun j hj => by
      simp only [Array.getD_eq_getD_getElem?]
      rw [Array.getElem?_eq_getElem (by omega)]; rfl
    refine ⟨fun hnil => ?_, fun i hi => ?_⟩
    · have hall : ∀ j, j < ops.size → listed.getD j false = true := by
        intro j
        induction j using Nat.strongRecOn with
        | ind j ihj =>
          intro hj
          cases hl : listed.getD j false with
          | true => rfl
          | false =>
            have : j ∈ Region.ready .any ops listed := mem_ready.2 ⟨by rw [conv j hj]; exact hl, ops[j], Array.getElem?_eq_getElem hj, fun e he hbd => by
              have hd : depB ops[j] e.on = true := by
                rw [depB_iff]
                obtain ⟨k, hk, rfl⟩ := Array.mem_iff_getElem.1 he
                exact ⟨k, hk, by simp [hbd]⟩
              have hlt := (hpl j ops[j] (Array.getElem?_eq_getElem hj)).1 _ hd
              exact ihj _ hlt (by omega)⟩
            rw [hnil] at this; cases this
      exact full listed a w V hV ha hb hK hPs hall
    · obtain ⟨h0, o, ho, hafter⟩ := mem_ready.1 hi
      have hlt : i < ops.size := (Array.getElem?_eq_some_iff.1 ho).1
      have h0' : listed.getD i false = false := by rw [← conv i hlt]; exact h0
      have hdeps : ∀ k, depB o k = true → listed.getD k false = true := fun k hk => by
        rw [depB_iff] at hk
        obtain ⟨q, hq, hk⟩ := hk
        simp only [Bool.and_eq_true, beq_iff_eq] at hk
        have := hafter o.after[q] (Array.getElem_mem hq) hk.2
        rw [hk.1] at this; exact this
      have hgo : ∀ j, (listed.setIfInBounds i true).getD j false = (j == i || listed.getD j false) := fun j => by
        by_cases hji : j = i
        · subst hji; simp [show j < listed.size by omega]
        · rw [getD_set_ne false (fun e => hji e.symm)]; simp [hji]
      obtain ⟨V1, hV1, hval0⟩ := extend (cs := cs.map (·.c)) (a0 := a0) hB V (fun k => listed.getD k false) hdown (fun k o c h1 h2 h3 => by
        rw [List.getElem?_map] at h3
        obtain ⟨g, hg, rfl⟩ := Option.map_eq_some_iff.1 h3
        exact hV k o g h1 h2 hg)
      have hval : validG V1 ops.toList cs 0 a0 := fun k o g h1 h2 => hval0 k o g.c h1 (by rw [List.getElem?_map, h2]; rfl)
      have hlook : ∀ t ∈ o.looksAt ops, (puts V1 (fun k => decide (k < 0 + i)) ops.toList 0 a0).tmps[t]? = a.tmps[t]? := fun t ht => by
        rw [ha]
        refine puts_look ops.toList 0 a0 a0 (fun k ok hk hd => ?_) rfl
        have hk' : ops[k]? = some ok := by simpa using hk
        simp only [Nat.zero_add]
        rcases ((hpl i o ho).2 k ok t hk' hd).1 ht with hdep | ⟨hik, hdep⟩
        · have h1 := (hpl i o ho).1 k hdep
          have h2 := hdeps k hdep
          exact ⟨by rw [h2]; simpa using h1, fun _ => hV1 k h2⟩
        · refine ⟨?_, fun hD => by simp at hD; omega⟩
          cases hl : listed.getD k false with
          | false => simp; omega
          | true => have := hdown k ok hk' hl i hdep; rw [h0'] at this; cases this
      obtain ⟨he, hwn⟩ := exec_look (ops := ops) (hsel i o · · ho) hlook
      have hoa : o.op.operands.toList.map (puts V1 (fun k => decide (k < 0 + i)) ops.toList 0 a0).eval = opn V ops.toList 0 a0 i o := opn_congr (V' := V) hB ho fun j hj => hV1 j (hdeps j hj)
      have hoax : oargs ops o (puts V1 (fun k => decide (k < 0 + i)) ops.toList 0 a0) = opx ops V ops.toList 0 a0 i o := opx_congr (V' := V) hB ho fun j hj => hV1 j (hdeps j hj)
      obtain ⟨c, ks', ps', g1, g2, g3, g6⟩ := (wpH_unroll (V := V1) I0 ops.toList cs 0 [] [] a0 hw hval).1 i o (by simpa using ho)
      have hi' : i < cs.length := (List.getElem?_eq_some_iff.1 g1).1
      have hks : c.c.mode ≠ 0 → c.c.mode ≠ 4 → c.c.mode ≠ 5 → depK o ks' w := fun hm0 hm4 hm5 => g3 w (fun k ok ck hki hok hck hd hnb => by
          have hok' : ops[k]? = some ok := by simpa using hok
          have hd' : depB o k = true := by simpa using hd
          have hDk := hdeps k hd'
          have := hK k ok ck hDk hok' hck (fun b cb hkb hcb hDb hm => by
            have hbl : b < cs.length := (List.getElem?_eq_some_iff.1 hcb).1
            have hob : ops[b]? = some ops[b] := Array.getElem?_eq_getElem (by omega)
            by_cases hbi : b < i
            · exact hnb b cb hkb hbi hcb hm
            · have hbne : i ≠ b := by rintro rfl; rw [h0'] at hDb; cases hDb
              rcases barH_spec hbar hob ho hcb g1 hm hm0 hm4 hm5 hbne with ⟨_, h⟩ | ⟨h, _⟩
              · have := reachB_down (D := fun k => listed.getD k false) hdown 6 b i h hDb
                rw [h0'] at this; cases this
              · omega)
          rw [opx_congr (V' := V) hB hok' fun j hj => hV1 j (hdown k ok hok' hDk j hj)]
          simpa [hV1 k hDk] using this) (fun _ => trivial)
      obtain ⟨p, hp, hp1, hp2⟩ := hb
      have hps : depK o ps' w := g6 w (fun k ok ck hki hok hck hd hm => by
          have hok' : ops[k]? = some ok := by simpa using hok
          have hd' : depB o k = true := by simpa using hd
          have hDk := hdeps k hd'
          have := hPs k ok ck hDk hok' hck hm
          rw [opx_congr (V' := V) hB hok' fun j hj => hV1 j (hdown k ok hok' hDk j hj)]
          simpa [hV1 k hDk] using this) trivial
      have hFw : c.c.mode = 4 ∨ c.c.mode = 5 → F w := fun hm45 => Iat_floatH hF0 cs p w (fun j g hjp hg hm => by
        have hl := (hp1 j g hg hm).2 hjp
        rcases hFs j g hg hm with h | h
        · exact h
        · have := reachB_down (D := fun k => listed.getD k false) hdown 6 j i (h i c g1 hm45) hl
          rw [h0'] at this; cases this) hp2
      /- ahead of an operation that asks the world those that turn memory are done just as far as the text -/
      have hbefore : c.c.mode ≠ 0 → c.c.mode ≠ 4 → c.c.mode ≠ 5 → ∀ k g, cs[k]? = some g → g.c.mode = 3 → (listed.getD k false = true ↔ k < i) := fun hm0 hm4 hm5 k g hg hm => by
        have hkl : k < cs.length := (List.getElem?_eq_some_iff.1 hg).1
        have hok : ops[k]? = some ops[k] := Array.getElem?_eq_getElem (by omega)
        constructor
        · intro hl
          rcases Nat.lt_or_ge k i with h | h
          · exact h
          · have hne : i ≠ k := by rintro rfl; rw [h0'] at hl; cases hl
            rcases barH_spec hbar hok ho hg g1 hm hm0 hm4 hm5 hne with ⟨_, h'⟩ | ⟨h', _⟩
            · have := reachB_down (D := fun k => listed.getD k false) hdown 6 k i h' hl
              rw [h0'] at this; cases this
            · omega
        · intro hki
          rcases barH_spec hbar hok ho hg g1 hm hm0 hm4 hm5 (by omega) with ⟨h', _⟩ | ⟨_, h'⟩
          · omega
          · unfold reachB at h'
            rw [ho] at h'
            simp only [Bool.or_eq_true] at h'
            rcases h' with h' | h'
            · exact hdeps k h'
            · obtain ⟨q, _, hq⟩ := List.any_eq_true.1 h'
              rw [Bool.and_eq_true] at hq
              exact reachB_down (D := fun k => listed.getD k false) hdown 5 q k hq.2 (hdeps q hq.1)
      have hIat : c.c.mode ≠ 0 → c.c.mode ≠ 4 → c.c.mode ≠ 5 → Iat I0 cs i w := fun hm0 hm4 hm5 => by
        have hb' := hbefore hm0 hm4 hm5
        rcases Nat.lt_or_ge p i with h | h
        · have := Iat_over I0 cs (i - p) p (fun k g h1 h2 hg hm => by
            have := (hp1 k g hg hm).1 ((hb' k g hg hm).2 (by omega)); omega) (by omega)
          rw [show p + (i - p) = i by omega] at this
          rw [this]; exact hp2
        · have := Iat_over I0 cs (p - i) i (fun k g h1 h2 hg hm => by
            have := (hb' k g hg hm).1 ((hp1 k g hg hm).2 (by omega)); omega) (by omega)
          rw [show i + (p - i) = p by omega] at this
          rw [← this]; exact hp2
      have next : ∀ u w', (c.c.mode ≠ 3 → Below w.heap.size w w') ∧ (c.c.mode = 3 → c.I w' ∧ T w w') ∧ (c.c.mode = 5 → ∀ x v w w', c.c.K x v w → T w w' → c.c.K x v w') ∧ c.c.S (opn V ops.toList 0 a0 i o) u ∧ c.c.K (opx ops V ops.toList 0 a0 i o) u w' → wpAny P .any ops Q fuel (listed.setIfInBounds i true) (a.put o.dst u) w' := by
          rintro u w' ⟨hbl, hbW, _, hSu, hKu⟩
          have opnU : ∀ k ok, ops[k]? = some ok → (k = i ∨ listed.getD k false = true) → opn (fun q => if q = i then u else V q) ops.toList 0 a0 k ok = opn V ops.toList 0 a0 k ok := fun k ok hok hk =>
            opn_congr hB hok fun j hj => by
              have : j ≠ i := by
                rintro rfl
                rcases hk with rfl | hk
                · have := (hpl k ok hok).1 k hj; omega
                · have := hdown k ok hok hk j hj
                  rw [h0'] at this; cases this
              simp [this]
          have opxU : ∀ k ok, ops[k]? = some ok → (k = i ∨ listed.getD k false = true) → opx ops (fun q => if q = i then u else V q) ops.toList 0 a0 k ok = opx ops V ops.toList 0 a0 k ok := fun k ok hok hk =>
            opx_congr hB hok fun j hj => by
              have : j ≠ i := by
                rintro rfl
                rcases hk with rfl | hk
                · have := (hpl k ok hok).1 k hj; omega
                · have := hdown k ok hok hk j hj
                  rw [h0'] at this; cases this
              simp [this]
          refine ih (listed.setIfInBounds i true) _ w' (fun k => if k = i then u else V k) (by simpa using hsz) (fun k ok c' hl hok hk => ?_) ?_ ?_ (fun k ok c' hl hok hk hnb => ?_) (fun k ok c' hl hok hk hm5 => ?_) (fun j oj hj hl k hd => ?_) ?_
          · rw [hgo] at hl
            by_cases hki : k = i
            · subst hki
              rw [hk] at g1; cases g1
              rw [hok] at ho; cases ho
              rw [opnU k _ hok (.inl rfl)]
              simpa using hSu
            · have hl : listed.getD k false = true := by simpa [hki] using hl
              rw [opnU k ok hok (.inr hl)]
              simpa [hki] using hV k ok c' hl hok hk
          · rw [ha, puts_put ops.toList 0 i a0 (by simpa using ho) (by simpa using h0') (fun k o' hk hne d hd => ?_)]
            · exact puts_congr ops.toList 0 a0 fun k _ _ => ⟨by simp only [Nat.zero_add]; exact (hgo k).symm, fun _ => by simp⟩
            · exact ((hpl k o' (by simpa using hk)).2 i o d ho hd).2 hne
          · by_cases hm3 : c.c.mode = 3
            · refine ⟨i + 1, by omega, fun k g hg hm => ?_, ?_⟩
              · rw [hgo]
                have := hbefore (by omega) (by omega) (by omega) k g hg hm
                by_cases hki : k = i
                · subst hki; simp
                · simp only [beq_iff_eq, hki, Bool.or_eq_true, false_or]
                  rw [this]; omega
              · rw [Iat_succ _ _ _ _ g1, invG_eq hm3]; exact (hbW hm3).1
            · refine ⟨p, hp, fun k g hg hm => ?_, Iat_kept hI0 cs p w w' hp2 (hbl hm3)⟩
              rw [hgo]
              by_cases hki : k = i
              · subst hki
                rw [hg] at g1; cases g1
                exact absurd hm hm3
              · simp only [beq_iff_eq, hki, Bool.or_eq_true, false_or]
                exact hp1 k g hg hm
          · by_cases hki : k = i
            · subst hki
              rw [hk] at g1; cases g1
              rw [hok] at ho; cases ho
              rw [opxU k _ hok (.inl rfl)]
              simpa using hKu
            · rw [hgo] at hl
              have hl : listed.getD k false = true := by simpa [hki] using hl
              rw [opxU k ok hok (.inr hl)]
              simp only [if_neg hki]
              by_cases hm0 : c'.c.mode = 0
              · exact c'.c.quiet hm0 _ _ _
              · by_cases hm4 : c'.c.mode = 4
                · obtain ⟨c4, ks4, ps4, q1, q2, _, _⟩ := (wpH_unroll (V := V1) I0 ops.toList cs 0 [] [] a0 hw hval).1 k ok (by simpa using hok)
                  rw [hk] at q1; cases q1
                  rcases q2 with ⟨_, _, _, q4, _, _, _⟩ | ⟨_, q0, _⟩
                  · exact (q4 hm4).1 _ _ _
                  · exact absurd q0 hm0
                · by_cases hm5 : c'.c.mode = 5
                  · have h1 := hPs k ok c' hl hok hk hm5
                    by_cases hm2 : c.c.mode = 3
                    · obtain ⟨c4, ks4, ps4, q1, q2, _, _⟩ := (wpH_unroll (V := V1) I0 ops.toList cs 0 [] [] a0 hw hval).1 k ok (by simpa using hok)
                      rw [hk] at q1; cases q1
                      rcases q2 with ⟨_, _, _, _, _, _, q5⟩ | ⟨_, q0, _⟩
                      · exact (q5 hm5).1 _ _ _ _ h1 (hbW hm2).2
                      · exact absurd q0 hm0
                    · exact c'.c.keeps _ _ _ _ h1 (hbl hm2)
                  by_cases hm2 : c.c.mode = 3
                  · exfalso
                    rcases barH_spec hbar ho hok g1 hk hm2 hm0 hm4 hm5 hki with ⟨h, _⟩ | ⟨_, h⟩
                    · exact hnb i c h g1 (by rw [hgo]; simp) hm2
                    · have := reachB_down (D := fun k => listed.getD k false) hdown 6 k i h hl
                      rw [h0'] at this; cases this
                  · exact c'.c.keeps _ _ _ _ (hK k ok c' hl hok hk fun b cb h1 h2 h3 => hnb b cb h1 h2 (by rw [hgo, h3]; simp)) (hbl hm2)
          · by_cases hki : k = i
            · subst hki
              rw [hk] at g1; cases g1
              rw [hok] at ho; cases ho
              rw [opxU k _ hok (.inl rfl)]
              simpa using hKu
            · rw [hgo] at hl
              have hl : listed.getD k false = true := by simpa [hki] using hl
              rw [opxU k ok hok (.inr hl)]
              simp only [if_neg hki]
              have h1 := hPs k ok c' hl hok hk hm5
              by_cases hm2 : c.c.mode = 3
              · obtain ⟨c4, ks4, ps4, q1, q2, _, _⟩ := (wpH_unroll (V := V1) I0 ops.toList cs 0 [] [] a0 hw hval).1 k ok (by simpa using hok)
                rw [hk] at q1; cases q1
                rcases q2 with ⟨_, _, _, _, _, _, q5⟩ | ⟨_, q0, _⟩
                · exact (q5 hm5).1 _ _ _ _ h1 (hbW hm2).2
                · omega
              · exact c'.c.keeps _ _ _ _ h1 (hbl hm2)
          · rw [hgo] at hl ⊢
            by_cases hji : j = i
            · subst hji
              rw [hj] at ho; cases ho
              rw [hdeps k hd]; simp
            · have : listed.getD j false = true := by simpa [hji] using hl
              rw [hdown j oj hj this k hd]; simp
          · have := cnt_set (f := fun k => listed.getD k false) (g := fun k => (listed.setIfInBounds i true).getD k false) (i := i) h0' (by simp only [hgo]; simp) (fun j hj => by simp only [hgo]; simp [hj]) hlt
            omega
      unfold wpOp
      simp only [ho]
      unfold stepH at g2
      rw [hoa, hoax] at g2
      rcases g2 with ⟨k1, km, k0, k4, k5, k3, k9⟩ | ⟨k1, k2, k3⟩
      · rw [← hwn, k1, if_pos rfl]
        rcases km with hm | hm | hm | hm | hm
        · refine .inl (uponC_op (T := fun u w' => (∃ n, w' = w.drewN n) ∧ c.c.S (opn V ops.toList 0 a0 i o) u) (fun u w' hT => ?_) ?_)
          · obtain ⟨⟨n, rfl⟩, hS⟩ := hT
            exact next u _ ⟨fun _ => below_drewN (Below.refl _ _) _, fun h => by omega, fun h => by omega, hS, c.c.quiet hm _ _ _⟩
          · rw [← he]; exact k0 hm w
        · refine .inl (uponC_op (T := fun u w' => Below w.heap.size w w' ∧ c.c.S (opn V ops.toList 0 a0 i o) u ∧ c.c.K (opx ops V ops.toList 0 a0 i o) u w') (fun u w' hT => next u w' ⟨fun _ => hT.1, fun h => by omega, fun h => by omega, hT.2⟩) ?_)
          rw [← he]; exact k5 hm w (hIat (by omega) (by omega) (by omega)) (hks (by omega) (by omega) (by omega)) hps
        · refine .inl (uponC_op (T := fun u w' => (c.I w' ∧ T w w') ∧ c.c.S (opn V ops.toList 0 a0 i o) u ∧ c.c.K (opx ops V ops.toList 0 a0 i o) u w') (fun u w' hT => next u w' ⟨fun h => absurd hm h, fun _ => hT.1, fun h => by omega, hT.2⟩) ?_)
          rw [← he]; exact k3 hm w (hIat (by omega) (by omega) (by omega)) (hks (by omega) (by omega) (by omega)) hps
        · refine .inl (uponC_op (T := fun u w' => Below w.heap.size w w' ∧ c.c.S (opn V ops.toList 0 a0 i o) u) (fun u w' hT => next u w' ⟨fun _ => hT.1, fun h => by omega, fun h => by omega, hT.2, (k4 hm).1 _ _ _⟩) ?_)
          rw [← he]; exact (k4 hm).2 w (hFw (.inl hm))
        · refine .inl (uponC_op (T := fun u w' => Below w.heap.size w w' ∧ c.c.S (opn V ops.toList 0 a0 i o) u ∧ c.c.K (opx ops V ops.toList 0 a0 i o) u w') (fun u w' hT => next u w' ⟨fun _ => hT.1, fun h => by omega, fun _ => (k9 hm).1, hT.2⟩) ?_)
          rw [← he]; exact (k9 hm).2 w (hFw (.inr hm)) hps
      · rw [← hwn, k1, if_neg (by simp)]
        exact next undef w ⟨fun _ => Below.refl _ _, fun h => by omega, fun h => by omega, k3, c.c.quiet k2 _ _ _⟩
/-- An operation that waits for all that ask what always holds. -/
def lateB (ops : Array Oper) (ms : List Nat) (j : Nat) : Bool := (List.range ops.size).all fun i => !(ms[i]? == some 4 || ms[i]? == some 5) || reachB ops 6 j i
/-- What always holds follows from each operation that turns memory and is not late. -/
def allH (ops : Array Oper) (ms : List Nat) (F : World → Prop) : Nat → List GC → Prop
  | _, [] => True
  | j, g :: cs => ((g.c.mode = 3 ∧ lateB ops ms j = false) → ∀ w, g.I w → F w) ∧ allH ops ms F (j + 1) cs
theorem allH_at {ops : Array Oper} {ms : List Nat} {F : World → Prop} : ∀ {cs : List GC} {n : Nat}, allH ops ms F n cs → ∀ (j : Nat) (g : GC), cs[j]? = some g → g.c.mode = 3 → lateB ops ms (n + j) = false → ∀ w, g.I w → F w
  | [], _, _, j, g, hg, _, _, _, _ => by simp at hg
  | g' :: cs, n, h, 0, g, hg, hm, hl, w, hw => by
    simp only [List.getElem?_cons_zero, Option.some.injEq] at hg
    subst hg
    exact h.1 ⟨hm, hl⟩ w hw
  | g' :: cs, n, h, j + 1, g, hg, hm, hl, w, hw => allH_at h.2 j g (by simpa using hg) hm (by rw [show n + 1 + j = n + (j + 1) by omega]; exact hl) w hw
/-- ONE WALK OF THE ORDER OF THE TEXT SERVES EVERY ORDER. -/
theorem wp_region_planH {id : Nat} {a : Act} {W : World} {l : List Oper} {cs : List GC} (I0 : World → Prop) (hI0 : ∀ w w', I0 w → Below w.heap.size w w' → I0 w') (hW : I0 W) (hF0 : ∀ w, I0 w → F w)
    (hw : wpH P l.toArray Q F T I0 l cs 0 [] [] a) (hFs : allH l.toArray (cs.map (·.c.mode)) F 0 cs) (hpr1 : P.follows .mixedOrders = true) (hpr2 : planB l.toArray = true) (hpr3 : barH l.toArray (cs.map (·.c.mode)) = true) (hlen : cs.length = l.length) : (Code.region id l.toArray true).wp P Q a W := by
  have hsz : l.toArray.size = l.length := by simp
  refine wp_region_any hpr1 ?_
  refine wpAny_planH (cs := cs) (a0 := a) I0 hI0 hF0 (fun j g hg hm => ?_) hpr2 hpr3 (by omega) (by simpa using hw) _ _ _ _ (fun _ => undef) (by simp) ?_ ?_ ?_ ?_ ?_ ?_ ?_
  · cases hl : lateB l.toArray (cs.map (·.c.mode)) j with
    | false => exact .inl (allH_at hFs j g hg hm (by rw [Nat.zero_add]; exact hl))
    | true =>
      refine .inr fun i gi hgi hmi => ?_
      have hlt : i < l.toArray.size := by have := (List.getElem?_eq_some_iff.1 hgi).1; omega
      have := List.all_eq_true.1 hl i (List.mem_range.2 hlt)
      simp only [List.getElem?_map, hgi, Option.map_some, Bool.or_eq_true, Bool.not_eq_true', Bool.or_eq_false_iff, beq_eq_false_iff_ne, ne_eq, Option.some.injEq] at this
      rcases this with h | h
      · rcases hmi with hmi | hmi
        · exact absurd hmi h.1
        · exact absurd hmi h.2
      · exact h
  · intro k o c hl
    exfalso
    simp only [Array.getD_eq_getD_getElem?] at hl
    by_cases hk : k < l.length <;> simp [hk] at hl
  · refine (puts_none _ _ _ fun k _ => ?_).symm
    simp only [Array.getD_eq_getD_getElem?]
    by_cases hk : k < l.length <;> simp [hk]
  · refine ⟨0, Nat.zero_le _, fun k g _ _ => ?_, ?_⟩
    · simp only [Array.getD_eq_getD_getElem?]
      by_cases hk : k < l.length <;> simp [hk]
    · rw [Iat_zero]; exact hI0 W _ hW ((Below.refl _ _).drew)
  · intro k o c hl
    exfalso
    simp only [Array.getD_eq_getD_getElem?] at hl
    by_cases hk : k < l.length <;> simp [hk] at hl
  · intro k o c hl
    exfalso
    simp only [Array.getD_eq_getD_getElem?] at hl
    by_cases hk : k < l.length <;> simp [hk] at hl
  · intro j o _ hl
    exfalso
    simp only [Array.getD_eq_getD_getElem?] at hl
    by_cases hk : j < l.length <;> simp [hk] at hl
  · have : ∀ (f : Nat → Bool) (n : Nat), cnt f n ≤ n := by
      intro f n
      induction n with
      | zero => exact Nat.le_refl _
      | succ n ih => simp only [cnt]; split <;> omega
    exact this _ _
end
end Go.Proofs.Ytpnkapdemgieaaa

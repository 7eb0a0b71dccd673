/-
  slices.IndexFunc and ContainsFunc at a closure with one captured variable, whose calls may make memory. No condition but what each contract says.
-/
import Derived.Test.YtjeeflldbhajiaaSl
set_option linter.unusedSimpArgs false
set_option linter.unusedVariables false
set_option linter.unusedSectionVars false
namespace Go.Proofs.Ytjeeflldbhajiaa
open Go Go.RowKit
set_option maxHeartbeats 1000000 in
theorem IndexFuncC_any (g : Nat) (cap : Value) (p : Nat → Bool) (xs : List Nat) (v : Value) (w : World) (hs : FS w v xs) (hcf : ∀ x w', (callFunc g #[.float .f32 x, cap]).run Try.prog w' = .ok (.enter g #[.float .f32 x, cap]) w')
    (hg : ∀ x w', Below w.heap.size w w' → Calls Try.prog g #[.float .f32 x, cap] w' (BV w' (.bool (p x)))) :
    Calls Try.prog 110 #[v, .func (.func g) #[] #[cap]] w (BV w (.int .i64 (findI p xs))) := by
  have HG := Lib.hid hg; clear hg
  obtain ⟨q, c, rfl, hc1, hc2, HV⟩ := FS_view hs
  have HV := Lib.hid HV
  clear hs
  go_enter Try.func110, Try.ntmps110
  go_wp2
  go_loopw [8] (fun t wr => ∃ k : Nat, k ≤ xs.length ∧ t = .int .i64 k ∧ Below w.heap.size w wr ∧ Hid (∀ j, j < k → p (xs.getD j 0) = false)) (fun t _ => xs.length - (intOf t).toNat)
  case atStart => exact ⟨0, Nat.zero_le _, rfl, Below.refl _ _, fun j hj => by omega⟩
  case round =>
    obtain ⟨k, hk, rfl, hB, hp⟩ := hrel
    by_cases hlt : k < xs.length
    · obtain ⟨b, o, rfl, hcell0⟩ := HV.out k hlt
      have hcell := cell_later hB hcell0
      generalize hx : xs.getD k 0 = x at hcell hcell0
      have Hx := Lib.hid hx; clear hx hcell0 HV
      have HC := Lib.hid (HG.out x wr hB)
      rcases hb : p x
      · rw [hb] at HC
        go_wp2_with fail
        refine HC.out.mono ?_
        rintro e w' ⟨rfl, hbl⟩
        go_wp2_with fail
        go_roundw
        case rel => exact ⟨k + 1, by omega, by go_num, below_then hB hbl, fun j hj => by rcases Nat.lt_succ_iff_lt_or_eq.1 hj with h | rfl; exact hp j h; rw [Hx.out]; exact hb⟩
        case measure => simp [intOf]; omega
      · rw [hb] at HC
        go_wp2_with fail
        refine HC.out.mono ?_
        rintro e w' ⟨rfl, hbl⟩
        go_wp2_with fail
        go_ret
        exact ⟨by rw [findI_at p xs k hlt hp (by rw [Hx.out]; exact hb)]; rfl, below_then hB hbl⟩
    · go_wp2
      go_ret
      exact ⟨by rw [findI_no p xs (fun j hj => hp.out j (by omega))]; rfl, hB⟩
set_option maxHeartbeats 400000 in
theorem ContainsFuncC_any (g : Nat) (cap : Value) (p : Nat → Bool) (xs : List Nat) (v : Value) (w : World) (hs : FS w v xs) (hcf : ∀ x w', (callFunc g #[.float .f32 x, cap]).run Try.prog w' = .ok (.enter g #[.float .f32 x, cap]) w')
    (hg : ∀ x w', Below w.heap.size w w' → Calls Try.prog g #[.float .f32 x, cap] w' (BV w' (.bool (p x)))) :
    Calls Try.prog 65 #[v, .func (.func g) #[] #[cap]] w (BV w (.bool (xs.any p))) := by
  have HC := Lib.hid hcf; clear hcf
  have HG := Lib.hid hg; clear hg
  have hq := findI_ge p xs
  go_enter Try.func65, Try.ntmps65
  go_wp2_with fail
  refine (IndexFuncC_any g cap p xs v _ hs HC.out HG.out).mono ?_
  rintro e w' ⟨rfl, hb⟩
  go_wp2_with fail
  go_ret
  exact ⟨rfl, hb⟩
end Go.Proofs.Ytjeeflldbhajiaa

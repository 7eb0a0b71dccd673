/-
  Paths to ever cooler cells: what they are, and that there is one. No condition but what each law says.
-/
import Derived.Test.YtphamdlnnfionaaIapp
import Derived.Test.YtphamdlnnfionaaVal
set_option linter.unusedSimpArgs false
set_option linter.unusedVariables false
set_option linter.unusedSectionVars false
namespace Go.Proofs.Ytphamdlnnfionaa
open Go Go.RowKit
open Go.ChangeShapes Go.WideShapes Go.ChangeAt Go.RowKit Go.Joins
theorem fin_isF {c : Nat} (h : fin .f32 c = true) : isF c = true := by
  obtain ⟨s, m, i, e⟩ := fin_decode h
  rw [decode_single] at e
  unfold isF
  by_cases c1 : c % 2147483648 < 8388608
  · exact decide_eq_true (by omega)
  · rw [if_neg c1] at e
    by_cases c2 : c % 2147483648 < 2139095040
    · exact decide_eq_true c2
    · rw [if_neg c2] at e
      by_cases c3 : c % 2147483648 = 2139095040
      · rw [if_pos c3] at e; cases e
      · rw [if_neg c3] at e; cases e
theorem aE_fin {P : Pl} {i : Int} (h : P.ok = true) (hi : P.cell i = true) : isF (aE P i) = true := by
  apply fin_isF
  have h1 := Pl.cell_iff hi
  have h2 := (Pl.ok_len h).2.2.1
  have h3 : finL P.a = true := by unfold Pl.ok at h; simp only [Bool.and_eq_true] at h; exact h.2.2.2.1
  unfold finL at h3
  rw [Bool.not_eq_true', List.any_eq_false] at h3
  have hlt : i.toNat < P.a.length := by omega
  have := h3 (P.a[i.toNat]) (List.getElem_mem hlt)
  unfold aE
  rw [List.getD_eq_getElem?_getD, List.getElem?_eq_getElem hlt]
  simpa using this
def bestL (P : Pl) (i : Int) (ks : List Int) : Int := ks.foldl (fun b k => if flt .f32 (aE P k) (aE P b) = true then k else b) i
def best (P : Pl) (i : Int) : Int := bestL P i (nbl P.W P.H i)
theorem bestL_snoc (P : Pl) (i : Int) (l : List Int) (k : Int) : bestL P i (l ++ [k]) = if flt .f32 (aE P k) (aE P (bestL P i l)) = true then k else bestL P i l := by unfold bestL; rw [List.foldl_append]; rfl
theorem bestL_step (P : Pl) (i : Int) (ks : List Int) {j : Nat} (h : j < ks.length) : bestL P i (ks.take (j + 1)) = if flt .f32 (aE P (ks.getD j 0)) (aE P (bestL P i (ks.take j))) = true then ks.getD j 0 else bestL P i (ks.take j) := by
  rw [List.take_add_one, List.getElem?_eq_getElem h, Option.toList_some, bestL_snoc, List.getD_eq_getElem?_getD, List.getElem?_eq_getElem h]
  rfl
theorem fold_best {P : Pl} {i : Int} (h0 : P.ok = true) : ∀ (ks : List Int) (b : Int), (∀ k ∈ ks, P.cell k = true) → P.cell b = true → (b = i ∨ val (aE P b) < val (aE P i)) →
    P.cell (ks.foldl (fun b k => if flt .f32 (aE P k) (aE P b) = true then k else b) b) = true ∧ ((ks.foldl (fun b k => if flt .f32 (aE P k) (aE P b) = true then k else b) b) = i ∨ val (aE P (ks.foldl (fun b k => if flt .f32 (aE P k) (aE P b) = true then k else b) b)) < val (aE P i))
  | [], b, _, hb, h => ⟨hb, h⟩
  | k :: ks, b, hk, hb, h => by
    rw [List.foldl_cons]
    have hkc := hk k (by simp)
    have hf := flt_val (aE_fin h0 hkc) (aE_fin h0 hb)
    by_cases hlt : flt .f32 (aE P k) (aE P b) = true
    · rw [if_pos hlt]
      rw [hlt] at hf
      have hv := of_decide_eq_true hf.symm
      refine fold_best h0 ks k (fun x hx => hk x (by simp [hx])) hkc (.inr ?_)
      rcases h with rfl | h <;> omega
    · rw [if_neg hlt]
      exact fold_best h0 ks b (fun x hx => hk x (by simp [hx])) hb h
theorem bestL_cell {P : Pl} {i : Int} (h0 : P.ok = true) (hi : P.cell i = true) {ks : List Int} (hk : ∀ k ∈ ks, P.cell k = true) : P.cell (bestL P i ks) = true := (fold_best h0 ks i hk hi (.inl rfl)).1
theorem nbl_cells {P : Pl} {i : Int} : ∀ k ∈ nbl P.W P.H i, P.cell k = true := fun k hk => by
  have := nbl_cell hk
  unfold Pl.cell; rw [inB_true]; exact this
theorem best_less {P : Pl} {i : Int} (h0 : P.ok = true) (hi : P.cell i = true) : P.cell (best P i) = true ∧ (best P i = i ∨ val (aE P (best P i)) < val (aE P i)) := fold_best h0 _ i nbl_cells hi (.inl rfl)
/-- The path from a cell to ever cooler ones. -/
inductive Path (P : Pl) : Int → List Int → Prop
  | stop {i : Int} : best P i = i → Path P i [i]
  | step {i : Int} {L : List Int} : best P i ≠ i → Path P (best P i) L → Path P i (i :: L)
theorem Path.head {P : Pl} {i : Int} {L : List Int} (h : Path P i L) : ∃ R, L = i :: R := by cases h <;> exact ⟨_, rfl⟩
theorem Path.next {P : Pl} {i : Int} {R : List Int} (h : Path P i (i :: R)) : (best P i = i ∧ R = []) ∨ (best P i ≠ i ∧ ∃ R', R = best P i :: R' ∧ Path P (best P i) (best P i :: R')) := by
  cases h with
  | stop h => exact .inl ⟨h, rfl⟩
  | step h h2 =>
    obtain ⟨R', rfl⟩ := h2.head
    exact .inr ⟨h, R', rfl, h2⟩
theorem filter_le {p q : Nat → Bool} (h : ∀ x, p x = true → q x = true) : ∀ l : List Nat, (l.filter p).length ≤ (l.filter q).length
  | [] => Nat.le_refl _
  | y :: l => by
    have ih := filter_le h l
    simp only [List.filter_cons]
    rcases hp : p y
    · rcases hq : q y
      · simpa using ih
      · simp only [Bool.false_eq_true, if_false, if_true, List.length_cons]; omega
    · rw [h y hp]; simpa using ih
theorem filter_lt {p q : Nat → Bool} (h : ∀ x, p x = true → q x = true) {x : Nat} (hq : q x = true) (hp : p x = false) : ∀ l : List Nat, x ∈ l → (l.filter p).length < (l.filter q).length
  | [], hx => by simp at hx
  | y :: l, hx => by
    simp only [List.filter_cons]
    by_cases e : x = y
    · subst e
      rw [hp, hq]
      have := filter_le h l
      simp only [Bool.false_eq_true, if_false, if_true, List.length_cons]; omega
    · have ih := filter_lt h hq hp l (by simpa [e] using hx)
      rcases hp' : p y
      · rcases hq' : q y
        · simpa using ih
        · simp only [Bool.false_eq_true, if_false, if_true, List.length_cons]; omega
      · rw [h y hp']; simpa using ih
def rank (P : Pl) (i : Int) : Nat := ((List.range P.a.length).filter fun j : Nat => decide (val (aE P (j : Int)) < val (aE P i))).length
theorem rank_lt {P : Pl} {b i : Int} (h0 : P.ok = true) (hb : P.cell b = true) (h : val (aE P b) < val (aE P i)) : rank P b < rank P i := by
  have h1 := Pl.cell_iff hb
  have h2 := (Pl.ok_len h0).2.2.1
  have e : ((b.toNat : Nat) : Int) = b := by omega
  refine filter_lt (x := b.toNat) (fun x hx => ?_) ?_ ?_ _ (List.mem_range.2 (by omega))
  · have := of_decide_eq_true hx
    exact decide_eq_true (by omega)
  · rw [e]; exact decide_eq_true h
  · rw [e]; exact decide_eq_false (by omega)
theorem path_ex {P : Pl} (h0 : P.ok = true) : ∀ (n : Nat) (i : Int), P.cell i = true → rank P i ≤ n → ∃ L, Path P i L ∧ L.length ≤ n + 1
  | n, i, hi, hr => by
    obtain ⟨hc, hl⟩ := best_less h0 hi
    by_cases e : best P i = i
    · exact ⟨[i], .stop e, by simp⟩
    · have hv := hl.resolve_left e
      have hk := rank_lt h0 hc hv
      match n, hr with
      | 0, hr => omega
      | n + 1, hr =>
        obtain ⟨L, hL, hlen⟩ := path_ex h0 n (best P i) hc (by omega)
        exact ⟨i :: L, .step e hL, by simp; omega⟩
def coolR (P : Pl) (i : Int) (L : List Int) (b : Bool) : Prop := (b = false ∧ L = [] ∧ (P.ok && P.cell i) = false) ∨ (b = true ∧ (P.ok = true ∧ P.cell i = true) ∧ Path P i L ∧ L.length ≤ 1000)
theorem cool_ex (P : Pl) (i : Int) : ∃ L b, coolR P i L b := by
  rcases h : (P.ok && P.cell i)
  · exact ⟨[], false, .inl ⟨rfl, rfl, h⟩⟩
  · rw [Bool.and_eq_true] at h
    obtain ⟨L, hL, hn⟩ := path_ex h.1 (rank P i) i h.2 (Nat.le_refl _)
    have h1 : rank P i ≤ P.a.length := by
      unfold rank
      exact Nat.le_trans (List.length_filter_le _ _) (by simp)
    have h2 := Pl.ok_n h.1
    have h3 := (Pl.ok_len h.1).2.2.1
    exact ⟨L, true, .inr ⟨rfl, h, hL, by omega⟩⟩
theorem cool_len {P : Pl} {i : Int} {L : List Int} {b : Bool} (h : coolR P i L b) : L.length ≤ 1048576 := by
  rcases h with ⟨_, rfl, _⟩ | ⟨_, _, _, h⟩
  · simp
  · omega
def lenOf : Value → Nat | .slice _ n _ => n | _ => 0
end Go.Proofs.Ytphamdlnnfionaa

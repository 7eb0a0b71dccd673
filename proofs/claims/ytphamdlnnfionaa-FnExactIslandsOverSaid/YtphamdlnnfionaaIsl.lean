/-
  Islands of warm cells, breadth first: a plain function; its bounds. No condition but what each law says.
-/
import Derived.Test.YtphamdlnnfionaaCool
set_option linter.unusedSimpArgs false
set_option linter.unusedVariables false
set_option linter.unusedSectionVars false
namespace Go.Proofs.Ytphamdlnnfionaa
open Go Go.RowKit
open Go.ChangeShapes Go.WideShapes Go.ChangeAt Go.RowKit Go.Joins
def cntT : List Bool → Nat
  | [] => 0
  | b :: l => (if b = true then 1 else 0) + cntT l
theorem cntT_le : ∀ l : List Bool, cntT l ≤ l.length
  | [] => Nat.le_refl _
  | b :: l => by
    have := cntT_le l
    simp only [cntT, List.length_cons]
    split <;> omega
theorem cntT_set : ∀ (l : List Bool) (i : Nat), i < l.length → l.getD i false = false → cntT (l.set i true) = cntT l + 1
  | [], i, h, _ => by simp at h
  | b :: l, 0, _, h => by
    have hb : b = false := h
    subst hb
    simp [cntT, Nat.add_comm]
  | b :: l, i + 1, h, h2 => by
    have ih := cntT_set l i (by simpa using h) (by simpa using h2)
    simp only [List.set_cons_succ, cntT, ih]
    omega
section
variable (P : Pl) (v : Nat)
def hiB (k : Int) : Bool := fge .f32 (aE P k) (cn .f32 v)
def islNb (s : List Bool × List Int) (k : Int) : List Bool × List Int := if k < 0 then s else if (!s.1.getD k.toNat false && hiB P v k) = true then (s.1.set k.toNat true, s.2 ++ [k]) else s
def islFold (s : List Bool × List Int) (ks : List Int) : List Bool × List Int := ks.foldl (islNb P v) s
def islIt (s : List Bool × List Int) : Nat → List Bool × List Int
  | 0 => s
  | n + 1 => if n < (islIt s n).2.length then islFold P v (islIt s n) (nbs P.W P.H ((islIt s n).2.getD n 0)) else islIt s n
def islEnd (s : List Bool × List Int) : List Bool × List Int := islIt P v s P.a.length
def islOut : Nat → List Bool × Nat × Nat
  | 0 => (List.replicate P.a.length false, 0, 0)
  | i + 1 => if ((islOut i).1.getD i false || !hiB P v (i : Int)) = true then islOut i else ((islEnd P v ((islOut i).1.set i true, [(i : Int)])).1, (islOut i).2.1 + 1, max (islOut i).2.2 (islEnd P v ((islOut i).1.set i true, [(i : Int)])).2.length)
def islInv (N : Nat) (s : List Bool × List Int) : Prop := s.1.length = N ∧ s.2.length ≤ cntT s.1 ∧ ∀ k ∈ s.2, 0 ≤ k ∧ k ≤ (N : Int) - 1
end
section
variable {P : Pl} {v N : Nat} {s : List Bool × List Int}
theorem islNb_neg {k : Int} (h : k < 0) : islNb P v s k = s := by unfold islNb; rw [if_pos h]
theorem islNb_yes {k : Int} (h : 0 ≤ k) (h2 : s.1.getD k.toNat false = false) (h3 : hiB P v k = true) : islNb P v s k = (s.1.set k.toNat true, s.2 ++ [k]) := by unfold islNb; rw [if_neg (by omega), if_pos (by rw [h2, h3]; rfl)]
theorem islNb_seen {k : Int} (h2 : s.1.getD k.toNat false = true) : islNb P v s k = s := by
  unfold islNb
  split
  · rfl
  · rw [if_neg (by rw [h2]; simp)]
theorem islNb_low {k : Int} (h3 : hiB P v k = false) : islNb P v s k = s := by
  unfold islNb
  split
  · rfl
  · rw [if_neg (by rw [h3]; simp)]
theorem islFold_step (ks : List Int) {j : Nat} (h : j < ks.length) : islFold P v s (ks.take (j + 1)) = islNb P v (islFold P v s (ks.take j)) (ks.getD j 0) := by
  unfold islFold
  rw [List.take_add_one, List.getElem?_eq_getElem h, Option.toList_some, List.foldl_append, List.getD_eq_getElem?_getD, List.getElem?_eq_getElem h]
  rfl
theorem islFold_filter : ∀ (ks : List Int) (s : List Bool × List Int), islFold P v s (ks.filter fun k => !decide (k < 0)) = islFold P v s ks
  | [], s => rfl
  | k :: ks, s => by
    by_cases h : k < 0
    · rw [List.filter_cons_of_neg (by simp [h])]
      show _ = islFold P v (islNb P v s k) ks
      rw [islNb_neg h]
      exact islFold_filter ks s
    · rw [List.filter_cons_of_pos (by simp [h])]
      exact islFold_filter ks (islNb P v s k)
theorem islFold_nbl (i : Int) : islFold P v s (nbl P.W P.H i) = islFold P v s (nbs P.W P.H i) := islFold_filter _ _
theorem islInv_nb (h : islInv N s) {k : Int} (hk : k ≤ (N : Int) - 1) : islInv N (islNb P v s k) := by
  unfold islNb
  split
  · exact h
  · split
    · rename_i h1 h2
      rw [Bool.and_eq_true, Bool.not_eq_true'] at h2
      have hlt : k.toNat < s.1.length := by rw [h.1]; omega
      refine ⟨by rw [List.length_set]; exact h.1, ?_, fun x hx => ?_⟩
      · rw [cntT_set _ _ hlt h2.1, List.length_append]
        have := h.2.1
        simpa using this
      · rcases List.mem_append.1 hx with hx | hx
        · exact h.2.2 x hx
        · simp at hx; omega
    · exact h
theorem islInv_fold : ∀ (ks : List Int) (s : List Bool × List Int), islInv N s → (∀ k ∈ ks, k ≤ (N : Int) - 1) → islInv N (islFold P v s ks)
  | [], s, h, _ => h
  | k :: ks, s, h, hk => islInv_fold ks (islNb P v s k) (islInv_nb h (hk k (by simp))) (fun x hx => hk x (by simp [hx]))
theorem nbs_le {W H i : Int} (h : 1 ≤ W * H) : ∀ k ∈ nbs W H i, k ≤ W * H - 1 := by
  intro k hk
  by_cases h0 : k < 0
  · omega
  · have : k ∈ nbl W H i := List.mem_filter.2 ⟨hk, by simp [h0]⟩
    exact (nbl_cell this).2
theorem islInv_it (hN : P.W * P.H = (N : Int)) (h1 : 1 ≤ N) (h : islInv N s) : ∀ n, islInv N (islIt P v s n)
  | 0 => h
  | n + 1 => by
    have ih := islInv_it hN h1 h n
    simp only [islIt]
    split
    · exact islInv_fold _ _ ih (fun k hk => by have := nbs_le (by omega) k hk; omega)
    · exact ih
theorem islInv_len (h : islInv N s) : s.2.length ≤ N := by
  have h1 := cntT_le s.1
  have h2 := h.2.1
  rw [h.1] at h1
  omega
theorem islIt_done {n : Nat} (h : (islIt P v s n).2.length ≤ n) : ∀ d, islIt P v s (n + d) = islIt P v s n
  | 0 => rfl
  | d + 1 => by
    have ih := islIt_done h d
    show islIt P v s (n + d + 1) = _
    simp only [islIt]
    rw [ih, if_neg (by omega)]
theorem islIt_end {n : Nat} (hn : n ≤ P.a.length) (h : (islIt P v s n).2.length ≤ n) : islIt P v s n = islEnd P v s := by
  unfold islEnd
  obtain ⟨d, hd⟩ : ∃ d, P.a.length = n + d := ⟨P.a.length - n, by omega⟩
  rw [hd, islIt_done h d]
theorem islIt_step {n : Nat} (h : n < (islIt P v s n).2.length) : islIt P v s (n + 1) = islFold P v (islIt P v s n) (nbs P.W P.H ((islIt P v s n).2.getD n 0)) := by
  simp only [islIt]
  rw [if_pos h]
theorem islInv_start {l : List Bool} {i : Nat} (hl : l.length = N) (hi : i < N) (h : l.getD i false = false) : islInv N (l.set i true, [(i : Int)]) := by
  refine ⟨by rw [List.length_set]; exact hl, ?_, fun k hk => ?_⟩
  · rw [cntT_set _ _ (by omega) h]
    show 1 ≤ _
    omega
  · simp at hk; omega
theorem islOut_inv (hN : P.W * P.H = (N : Int)) (hL : P.a.length = N) (h1 : 1 ≤ N) : ∀ i, i ≤ N → (islOut P v i).1.length = N ∧ (islOut P v i).2.1 ≤ i ∧ (islOut P v i).2.2 ≤ N
  | 0, _ => ⟨by simp [islOut, hL], Nat.le_refl _, Nat.zero_le _⟩
  | i + 1, hi => by
    obtain ⟨a, b, c⟩ := islOut_inv hN hL h1 i (by omega)
    simp only [islOut]
    split
    · exact ⟨a, by omega, c⟩
    · rename_i h2
      have h3 : (islOut P v i).1.getD i false = false := by
        cases h : (islOut P v i).1.getD i false
        · rfl
        · rw [h] at h2; simp at h2
      have h4 := islInv_it (v := v) hN h1 (islInv_start a (by omega) h3) P.a.length
      exact ⟨h4.1, by show _ + 1 ≤ _; omega, Nat.max_le.2 ⟨c, islInv_len h4⟩⟩
theorem islOut_skip {i : Nat} (h : (islOut P v i).1.getD i false = true ∨ hiB P v (i : Int) = false) : islOut P v (i + 1) = islOut P v i := by
  simp only [islOut]
  rw [if_pos]
  rcases h with h | h <;> rw [h] <;> simp
theorem islOut_new {i : Nat} (h1 : (islOut P v i).1.getD i false = false) (h2 : hiB P v (i : Int) = true) : islOut P v (i + 1) = ((islEnd P v ((islOut P v i).1.set i true, [(i : Int)])).1, (islOut P v i).2.1 + 1, max (islOut P v i).2.2 (islEnd P v ((islOut P v i).1.set i true, [(i : Int)])).2.length) := by
  simp only [islOut]
  rw [if_neg (by rw [h1, h2]; simp)]
theorem set_getD_same {l : List Bool} {i : Nat} (h : i < l.length) : (l.set i true).getD i false = true := by
  rw [List.getD_eq_getElem?_getD, List.getElem?_set_self h]; rfl
theorem set_getD_ne {l : List Bool} {i j : Nat} (h : i ≠ j) : (l.set i true).getD j false = l.getD j false := by
  rw [List.getD_eq_getElem?_getD, List.getElem?_set_ne h, List.getD_eq_getElem?_getD]
end
def islOk (P : Pl) (v : Nat) : Bool := P.ok && fin .f32 (cn .f32 v)
def islC (P : Pl) (v : Nat) : Int := if islOk P v = true then ((islOut P v P.a.length).2.1 : Int) else 0
def islM (P : Pl) (v : Nat) : Int := if islOk P v = true then ((islOut P v P.a.length).2.2 : Int) else 0
end Go.Proofs.Ytphamdlnnfionaa

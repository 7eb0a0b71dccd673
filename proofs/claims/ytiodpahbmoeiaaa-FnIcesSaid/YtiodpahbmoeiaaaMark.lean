/-
  Marks: what a call leaves that writes into one own slice; slices that lie apart. No condition but what each law says.
-/
import Derived.Test.YtiodpahbmoeiaaaApp
set_option linter.unusedSimpArgs false
set_option linter.unusedVariables false
set_option linter.unusedSectionVars false
namespace Go.Proofs.Ytiodpahbmoeiaaa
open Go Go.RowKit
theorem OF.sep {B B' : Nat} {w w' : World} {v u : Value} {xs ys : List Nat} (h1 : OF B w v xs) (h2 : OF B' w' u ys) (h : w.heap.size ≤ B') : v.ownBlock = none ∨ v.ownBlock ≠ u.ownBlock := by
  cases hv : v.ownBlock with
  | none => exact .inl rfl
  | some k =>
    refine .inr fun e => ?_
    have a := (h1.block k hv).2
    have b := (h2.block k e.symm).1
    omega
theorem OF.sep' {B B' : Nat} {w w' : World} {v u : Value} {xs ys : List Nat} (h1 : OF B w v xs) (h2 : OF B' w' u ys) (h : w'.heap.size ≤ B) : v.ownBlock = none ∨ v.ownBlock ≠ u.ownBlock := by
  cases hv : v.ownBlock with
  | none => exact .inl rfl
  | some k =>
    refine .inr fun e => ?_
    have a := (h1.block k hv).1
    have b := (h2.block k e.symm).2
    omega
theorem mark_below {n B : Nat} {wu W w' : World} {u : Value} {xs : List Nat} (hO : OF B wu u xs) (hg : W.grownBy w' u.ownBlock) (hn : n ≤ B) (hW : n ≤ W.heap.size) : Below n W w' :=
  (Below.refl _ _).grown hg hW fun k hk => by have := (hO.block k hk).1; omega
theorem turn_next {B : Nat} {wu W w' : World} {u : Value} {xs : List Nat} (hO : OF B wu u xs) (hg : W.grownBy w' u.ownBlock) : ∀ {L : List Nat}, Trk W L → (∀ b ∈ L, b < B ∨ wu.heap.size ≤ b) → Trk w' L ∧ SameOn W w' L
  | [], _, _ => ⟨Trk.nil _, trivial⟩
  | b :: L, h, hL => by
    have h0 : b < W.heap.size := h b (by simp)
    have h1 := hg.size
    obtain ⟨i1, i2⟩ := turn_next hO hg (L := L) (fun c hc => h c (by simp [hc])) (fun c hc => hL c (by simp [hc]))
    have hne : some b ≠ u.ownBlock := fun e => by
      have := hO.block b e.symm
      have := hL b (by simp)
      omega
    exact ⟨i1.more (by omega), ⟨⟨by omega, by omega, by omega, fun k => by omega, fun k => by omega⟩, fun o => World.cell?_of_block (hg.block b h0 hne), fun o => World.frozen?_of_block (hg.block b h0 hne)⟩, i2⟩
theorem FS.alloc {w : World} {v : Value} {xs : List Nat} (h : FS w v xs) (o : Obj) : FS (w.alloc o) v xs := h.later ((Below.refl _ _).alloc (Nat.le_refl _) o)
theorem FS.drewN {w : World} {v : Value} {xs : List Nat} (h : FS w v xs) (n : Nat) : FS (w.drewN n) v xs := h
theorem map_len {ys L : List Nat} {n : Nat} (h : ys.map (cn .f32) = L) (hn : L.length ≤ n) : ys.length ≤ n := by
  have := congrArg List.length h
  simp at this; omega
end Go.Proofs.Ytiodpahbmoeiaaa

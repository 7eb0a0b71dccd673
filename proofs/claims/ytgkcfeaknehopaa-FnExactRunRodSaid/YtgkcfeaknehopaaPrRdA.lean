/-
  Rods of the call's own that are made in a region that draws its order: four lists, made one behind the other. No condition but what each contract says.
-/
import Derived.Test.YtgkcfeaknehopaaPrApl
import Derived.Test.YtgkcfeaknehopaaPrRdMk
set_option linter.unusedSimpArgs false
set_option linter.unusedVariables false
set_option linter.unusedSectionVars false
namespace Go.Proofs.Ytgkcfeaknehopaa
open Go Go.RowKit
open Go.ChangeShapes Go.WideShapes Go.ChangeAt Go.RowKit Go.Joins
def nilRd : Rd := ⟨[], [], [], []⟩
def nilRL : RL := ⟨none, 0, none, 0, none, 0, none, 0⟩
theorem nilRd_rx (B S : Nat) (w : World) : RdX B S w nilRd nilRL :=
  ⟨⟨⟨OF.nil0 _ _, OF.nil0 _ _, OF.nil0 _ _, OF.nil0 _ _⟩, fun k hk => (by cases hk), fun k hk => (by cases hk), fun k hk => (by cases hk), fun k hk => (by cases hk)⟩, fun a b h => (by cases h), fun a b h => (by cases h), fun a b h => (by cases h), fun a b h => (by cases h), fun a b h => (by cases h), fun a b h => (by cases h)⟩
/-- Four own lists that lie apart. -/
def RdA (B : Nat) (w : World) (P : Rd) (l : RL) : Prop := P.own B w l ∧ Ap l.p1 l.p2 ∧ Ap l.p1 l.p3 ∧ Ap l.p1 l.p4 ∧ Ap l.p2 l.p3 ∧ Ap l.p2 l.p4 ∧ Ap l.p3 l.p4
theorem RdA.later {B : Nat} {w w' : World} {P : Rd} {l : RL} (h : RdA B w P l) (hb : Below w.heap.size w w') : RdA B w' P l := ⟨h.1.later hb, h.2⟩
theorem RdA.rx {B B' : Nat} {w : World} {P : Rd} {l : RL} (h : RdA B w P l) (hB : B' ≤ B) : RdX B' w.heap.size w P l := RdX.mk' (h.1.base hB) h.2.1 h.2.2.1 h.2.2.2.1 h.2.2.2.2.1 h.2.2.2.2.2.1 h.2.2.2.2.2.2
theorem RdX.base {B S B' S' : Nat} {w : World} {P : Rd} {l : RL} (h : RdX B S w P l) (hB : B' ≤ B) (hS : S ≤ S') : RdX B' S' w P l :=
  ⟨⟨h.1.1.base hB, fun k hk => Nat.lt_of_lt_of_le (h.1.2.1 k hk) hS, fun k hk => Nat.lt_of_lt_of_le (h.1.2.2.1 k hk) hS, fun k hk => Nat.lt_of_lt_of_le (h.1.2.2.2.1 k hk) hS, fun k hk => Nat.lt_of_lt_of_le (h.1.2.2.2.2 k hk) hS⟩, h.2⟩
/-- A value's block lies behind those of the values that it waits for. -/
def ordK (v : Value) (x : List Value) : Prop := ∀ z ∈ x, ∀ k k', z.ownBlock = some k → v.ownBlock = some k' → k < k'
def Clm.ord (B : Nat) (xs : List Nat) : Clm := ⟨1, fun _ v => ∃ q c, v = .slice q xs.length c, fun x v w => OF B w v xs ∧ ordK v x, fun _ => ⟨_, none, 0, rfl⟩,
  fun x v w w' h hb => ⟨OF.later h.1 hb, h.2⟩, fun h => nomatch h⟩
section
variable {P : Program} {ops : Array Oper} {Q : Exit → Act → World → Prop} {W : World} {l : List Oper} {cs : List Clm} {i : Nat} {ks : List (Nat × (World → Prop))} {a : Act} {o : Oper}
theorem wpC_callOrd (xs : List Nat) (n0 : Nat) (us ts : List Nat) (hts : depT ops o = ts) (hus : o.op.operands.toList = Operand.func n0 :: us.map Operand.tmp) (hf : (a.eval (.func n0)).ownBlock = none) (hw : Region.wanted o (yielded ops a.tmps) = true) {f : FuncId} {args : Array Value} (h1 : ∀ w, (execOp a.eval o).run P w = .ok (.enter f args) w)
    (hz : ∀ w, Below W.heap.size W w → depK o ks w → ∀ t ∈ us ++ ts, ∀ k, (a.eval (.tmp t)).ownBlock = some k → k < w.heap.size)
    (hc : ∀ w, Below W.heap.size W w → depK o ks w → Calls P f args w (fun e w' => ∃ u, e = .returned u ∧ Below w.heap.size w w' ∧ OF w.heap.size w' u xs))
    (h : ∀ q c, wpC P ops Q W l cs (i + 1) ((i, fun w => OF W.heap.size w (.slice q xs.length c) xs ∧ ordK (.slice q xs.length c) (a.eval (.func n0) :: (us ++ ts).map fun t => a.eval (.tmp t))) :: ks) (a.put o.dst (.slice q xs.length c))) : wpC P ops Q W (o :: l) (Clm.ord W.heap.size xs :: cs) i ks a := by
  have he : oargs ops o a = a.eval (.func n0) :: (us ++ ts).map fun t => a.eval (.tmp t) := by
    unfold oargs
    rw [hts, hus, List.map_append, List.map_cons, List.map_map]; rfl
  refine wpC_call (Clm.ord W.heap.size xs) rfl hw h1 (fun w hb hk => (hc w hb hk).mono ?_) ?_
  · rintro e w' ⟨u, rfl, hbl, hO⟩
    obtain ⟨q, c, rfl⟩ := hO.shape
    exact ⟨_, rfl, hbl, ⟨q, c, rfl⟩, hO.base hb.size, fun z hm k k' h1 h2 => by
      rw [he] at hm
      rcases List.mem_cons.1 hm with rfl | hm
      · rw [hf] at h1; cases h1
      obtain ⟨t, ht, rfl⟩ := List.mem_map.1 hm
      exact Nat.lt_of_lt_of_le (hz w hb hk t ht k h1) (OF.block hO k' h2).1⟩
  · rintro v ⟨q, c, rfl⟩
    show wpC P ops Q W l cs (i + 1) ((i, fun w => OF W.heap.size w (.slice q xs.length c) xs ∧ ordK (.slice q xs.length c) (oargs ops o a)) :: ks) _
    rw [he]; exact h q c
def Clm.bldR (R : Rd) (B : Nat) : Clm := ⟨1, fun _ v => ∃ l, v = rdV R l, fun _ v w => ∀ l, v = rdV R l → RdA B w R l, fun _ => ⟨_, nilRL, rfl⟩,
  fun _ v w w' h hb u e => (h u e).later hb, fun h => nomatch h⟩
theorem wpC_bldR {R : Rd} {m : RL} (hw : Region.wanted o (yielded ops a.tmps) = true) (h1 : ∀ w, (execOp a.eval o).run P w = .ok (.value (.agg #[.slice m.p1 R.a.length m.c1, .slice m.p2 R.b.length m.c2, .slice m.p3 R.c.length m.c3, .slice m.p4 R.d.length m.c4])) w)
    (hk : ∀ w, Below W.heap.size W w → depK o ks w → RdA W.heap.size w R m)
    (h : ∀ lb, wpC P ops Q W l cs (i + 1) ((i, fun w => ∀ u, rdV R lb = rdV R u → RdA W.heap.size w R u) :: ks) (a.put o.dst (.agg #[.slice lb.p1 R.a.length lb.c1, .slice lb.p2 R.b.length lb.c2, .slice lb.p3 R.c.length lb.c3, .slice lb.p4 R.d.length lb.c4]))) : wpC P ops Q W (o :: l) (Clm.bldR R W.heap.size :: cs) i ks a := by
  refine wpC_make (Clm.bldR R W.heap.size) rfl hw (fun w hb hd => ⟨_, _, h1 w, Below.refl _ _, ⟨m, rfl⟩, fun u e => (rdV_inj (P := R) (l := m) (m := u) e) ▸ hk w hb hd⟩) ?_
  rintro v ⟨lb, rfl⟩
  exact h lb
def Clm.chk : Clm := ⟨1, fun x v => v = .tuple #[x.getLastD undef, .bool true], fun _ _ _ => True, fun _ => ⟨_, rfl⟩, fun _ _ _ _ _ _ => trivial, fun h => nomatch h⟩
theorem wpC_chk {v0 : Value} (hx : (o.op.operands.toList.map a.eval).getLastD undef = v0) (hw : Region.wanted o (yielded ops a.tmps) = true) {f : FuncId} {args : Array Value} (h1 : ∀ w, (execOp a.eval o).run P w = .ok (.enter f args) w)
    (hc : ∀ w, Below W.heap.size W w → depK o ks w → Calls P f args w (BV w (.tuple #[v0, .bool true])))
    (h : wpC P ops Q W l cs (i + 1) ((i, fun _ => True) :: ks) (a.put o.dst (.tuple #[v0, .bool true]))) : wpC P ops Q W (o :: l) (Clm.chk :: cs) i ks a := by
  refine wpC_call Clm.chk rfl hw h1 (fun w hb hk => (hc w hb hk).mono ?_) ?_
  · rintro e w' ⟨rfl, hbl⟩
    exact ⟨_, rfl, hbl, by rw [← hx]; rfl, trivial⟩
  · intro v hv
    have hv : v = .tuple #[(o.op.operands.toList.map a.eval).getLastD undef, .bool true] := hv
    subst hv
    rw [hx]; exact h
end
theorem rdA_of {B : Nat} {w : World} {R : Rd} {q1 q2 q3 q4 : Option Addr} {d1 d2 d3 d4 : Nat} (o1 : OF B w (.slice q1 R.a.length d1) R.a) (o2 : OF B w (.slice q2 R.b.length d2) R.b) (o3 : OF B w (.slice q3 R.c.length d3) R.c) (o4 : OF B w (.slice q4 R.d.length d4) R.d) (hn : 1 ≤ R.b.length ∧ 1 ≤ R.c.length)
    (y2 : ∀ k k', (Value.slice q1 R.a.length d1).ownBlock = some k → (Value.slice q2 R.b.length d2).ownBlock = some k' → k < k') (y3 : ∀ k k', (Value.slice q2 R.b.length d2).ownBlock = some k → (Value.slice q3 R.c.length d3).ownBlock = some k' → k < k') (y4 : ∀ k k', (Value.slice q3 R.c.length d3).ownBlock = some k → (Value.slice q4 R.d.length d4).ownBlock = some k' → k < k') : RdA B w R ⟨q1, d1, q2, d2, q3, d3, q4, d4⟩ := by
  obtain ⟨g2, p2, e2, z2, _, _⟩ := o2.fs.ptr hn.1
  obtain ⟨g3, p3, e3, z3, _, _⟩ := o3.fs.ptr hn.2
  simp only [Value.slice.injEq] at z2 z3
  obtain ⟨rfl, _, rfl⟩ := z2
  obtain ⟨rfl, _, rfl⟩ := z3
  refine ⟨⟨o1, o2, o3, o4⟩, ?_, ?_, ?_, ?_, ?_, ?_⟩
  · rintro x y rfl hy; cases hy; have := y2 x.block g2 rfl rfl; show x.block ≠ g2; omega
  · rintro x y rfl hy; cases hy; have h1 := y2 x.block g2 rfl rfl; have h2 := y3 g2 g3 rfl rfl; show x.block ≠ g3; omega
  · rintro x y rfl rfl; have h1 := y2 x.block g2 rfl rfl; have h2 := y3 g2 g3 rfl rfl; have h3 := y4 g3 y.block rfl rfl; omega
  · rintro x y hx hy; cases hx; cases hy; have h2 := y3 g2 g3 rfl rfl; show g2 ≠ g3; omega
  · rintro x y hx rfl; cases hx; have h2 := y3 g2 g3 rfl rfl; have h3 := y4 g3 y.block rfl rfl; show g2 ≠ y.block; omega
  · rintro x y hx rfl; cases hx; have h3 := y4 g3 y.block rfl rfl; show g3 ≠ y.block; omega
end Go.Proofs.Ytgkcfeaknehopaa

/-
  Drawn plates: what passes between cells, heat that flows into cells, which sums up to nothing, nearly. No condition but what each law says; nothing of the program is named here.
  What the statements draw: a plate of small dyadic numbers. No condition but what each contract says.
  Bytes handed in: their lengths, a number chosen by one of them; how they are opened. No condition but what each contract says.
  Bytes handed in, for the laws of the other family: their lengths, a number chosen by one of them. No condition but what each contract says.
  Drawn stuffs, on: how warm a heat makes them, and back. No condition but what each law says.
  Drawn stuffs, on: what the law on stuffs asks of heats, warmths and parts. No condition but what each law says.
  Drawn stuffs, on: the heat that a warmth and a part come to; how easily heat flows. No condition but what each law says.
  Drawn stuffs, in 64 bits: gaps, the lesser and the greater; all that the law on stuffs asks. No condition but what each law says.
  How far two numbers lie apart, in 64 bits: the laws' own helper. No condition but what each law says.
-/
import Derived.Test.YtphamdlnnfionaaM4
import Derived.Test.YtphamdlnnfionaaM5
import Derived.Test.YtphamdlnnfionaaM7
import Derived.Test.YtphamdlnnfionaaM8
import Derived.Test.YtphamdlnnfionaaM3
import Derived.Deep.Slices
set_option linter.unusedSimpArgs false
set_option linter.unusedVariables false
set_option linter.unusedSectionVars false
namespace Go.Proofs.Ytphamdlnnfionaa
open Go Go.RowKit
/-- The word of a number of quarters. -/
def qwd (m : Int) : Nat := fop .quo .f32 (cn .f32 (floatOfInt .f32 m)) (cn .f32 1082130432)
/-- A drawn plate. -/
structure DP (P : Pl) : Prop where
  W : 1 ≤ P.W ∧ P.W ≤ 5
  H : 1 ≤ P.H ∧ P.H ≤ 5
  la : (P.a.length : Int) = P.W * P.H
  lb : P.b.length = P.a.length
  lc : P.c.length = P.a.length
  ld : P.d.length = P.a.length
  a : ∀ j, j < P.a.length → ∃ m : Int, (-16 ≤ m ∧ m ≤ 16) ∧ V .f32 (cn .f32 (P.a.getD j 0)) ((m : Rat) / 2)
  b : ∀ j, j < P.a.length → ∃ m : Int, (1 ≤ m ∧ m ≤ 8) ∧ cn .f32 (P.b.getD j 0) = qwd m
  c : ∀ j, j < P.a.length → fin .f32 (cn .f32 (P.c.getD j 0)) = true
theorem any_none {xs : List Nat} {p : Nat → Bool} (h : ∀ j, j < xs.length → p (xs.getD j 0) = false) : xs.any p = false := by
  rw [List.any_eq_false]
  intro x hx
  obtain ⟨j, hj, rfl⟩ := List.mem_iff_getElem.1 hx
  have := h j hj
  rw [List.getD_eq_getElem?_getD, List.getElem?_eq_getElem hj] at this
  simpa using this
def passQ (m n : Int) : Nat := fop .quo .f32 (fop .mul .f32 (cn .f32 1073741824) (fop .mul .f32 (qwd m) (qwd n))) (fop .add .f32 (qwd m) (qwd n))
theorem pass_tab : ∀ m n : Fin 8, passQ (m.val + 1 : Nat) (n.val + 1 : Nat) = passQ (n.val + 1 : Nat) (m.val + 1 : Nat) ∧ fin .f32 (passQ (m.val + 1 : Nat) (n.val + 1 : Nat)) = true ∧ flt .f32 (cn .f32 0) (passQ (m.val + 1 : Nat) (n.val + 1 : Nat)) = true ∧ fle .f32 (passQ (m.val + 1 : Nat) (n.val + 1 : Nat)) (cn .f32 1073741824) = true := by decide +kernel
theorem quart_tab : ∀ m : Fin 8, fin .f32 (qwd (m.val + 1 : Nat)) = true ∧ fle .f32 (qwd (m.val + 1 : Nat)) (cn .f32 0) = false ∧ fle .f32 (qwd (m.val + 1 : Nat)) (cn .f32 1073741824) = true ∧ fge .f32 (qwd (m.val + 1 : Nat)) (cn .f32 0) = true := by decide +kernel
theorem in_fin {m : Int} (h : 1 ≤ m ∧ m ≤ 8) : ∃ f : Fin 8, m = ((f.val + 1 : Nat) : Int) := ⟨⟨(m - 1).toNat, by omega⟩, by simp; omega⟩
theorem pass_num {m n : Int} (hm : 1 ≤ m ∧ m ≤ 8) (hn : 1 ≤ n ∧ n ≤ 8) : passQ m n = passQ n m ∧ fnt .f32 (passQ m n) = true ∧ 0 < fv .f32 (passQ m n) ∧ fv .f32 (passQ m n) ≤ 2 := by
  obtain ⟨f, rfl⟩ := in_fin hm
  obtain ⟨g, rfl⟩ := in_fin hn
  obtain ⟨a, b, c, d⟩ := pass_tab f g
  have b' : fnt .f32 (passQ (f.val + 1 : Nat) (g.val + 1 : Nat)) = true := by rw [fin_num] at b; exact b
  rw [fltv V0.1 b', V0.2] at c
  rw [flev b' V2.1, V2.2] at d
  exact ⟨a, b', of_decide_eq_true c, of_decide_eq_true d⟩
theorem quart_num {m : Int} (hm : 1 ≤ m ∧ m ≤ 8) : fin .f32 (qwd m) = true ∧ fle .f32 (qwd m) (cn .f32 0) = false ∧ Bnd .f32 (qwd m) 2 := by
  obtain ⟨f, rfl⟩ := in_fin hm
  obtain ⟨a, b, c, d⟩ := quart_tab f
  have a' : fnt .f32 (qwd (f.val + 1 : Nat)) = true := by rw [fin_num] at a; exact a
  rw [flev a' V2.1, V2.2] at c
  rw [fgev a' V0.1, V0.2] at d
  have c' := of_decide_eq_true c
  have d' := of_decide_eq_true d
  exact ⟨a, b, a', by grind, c'⟩
section
variable {P : Pl}
theorem DP.ok (h : DP P) : P.ok = true := by
  have h1 : 1 ≤ P.W * P.H ∧ P.W * P.H ≤ 144 := side_mul (by rw [inB_true]; have := h.W; omega) (by rw [inB_true]; have := h.H; omega)
  unfold Pl.ok Pl.sized Pl.n finL posL
  rw [inB_true.2 (show 1 ≤ P.W ∧ P.W ≤ 12 by have := h.W; omega), inB_true.2 (show 1 ≤ P.H ∧ P.H ≤ 12 by have := h.H; omega), decide_eq_true h.la, decide_eq_true (show (P.b.length : Int) = P.W * P.H by rw [h.lb]; exact h.la), decide_eq_true (show (P.c.length : Int) = P.W * P.H by rw [h.lc]; exact h.la), decide_eq_true (show (P.d.length : Int) = P.W * P.H by rw [h.ld]; exact h.la)]
  rw [any_none (xs := P.a), any_none (xs := P.b), any_none (xs := P.c)]
  · rfl
  · intro j hj; rw [h.c j (by rw [h.lc] at hj; exact hj)]; rfl
  · intro j hj
    obtain ⟨m, hm, e⟩ := h.b j (by rw [h.lb] at hj; exact hj)
    obtain ⟨q1, q2, _⟩ := quart_num hm
    rw [e, q1, q2]; rfl
  · intro j hj
    obtain ⟨m, _, e⟩ := h.a j hj
    rw [e.fin]; rfl
theorem DP.len (h : DP P) : 1 ≤ P.a.length ∧ P.a.length ≤ 25 := by
  have h1 := Pl.ok_n h.ok
  have h2 := h.la
  have h3 : P.W * P.H ≤ 5 * 5 := Int.mul_le_mul h.W.2 h.H.2 (by have := h.H; omega) (by omega)
  omega
theorem DP.idx (h : DP P) {i : Int} (hi : P.cell i = true) : i.toNat < P.a.length := by
  have := Pl.cell_iff hi
  have := h.la
  omega
theorem DP.warm (h : DP P) {i : Int} (hi : P.cell i = true) : ∃ m : Int, (-16 ≤ m ∧ m ≤ 16) ∧ V .f32 (aE P i) ((m : Rat) / 2) := h.a _ (h.idx hi)
theorem DP.pass (h : DP P) {i k : Int} (hi : P.cell i = true) (hk : P.cell k = true) : passV P i k = passV P k i ∧ fnt .f32 (passV P i k) = true ∧ 0 < fv .f32 (passV P i k) ∧ fv .f32 (passV P i k) ≤ 2 := by
  obtain ⟨m, hm, e⟩ := h.b _ (h.idx hi)
  obtain ⟨n, hn, f⟩ := h.b _ (h.idx hk)
  have e' : bE P i = qwd m := e
  have f' : bE P k = qwd n := f
  have g1 : passV P i k = passQ m n := by unfold passV passQ; rw [e', f']
  have g2 : passV P k i = passQ n m := by unfold passV passQ; rw [e', f']
  rw [g1, g2]
  exact pass_num hm hn
/-- What flows from a cell into another, exactly. -/
def eF (P : Pl) (i k : Int) : Rat := fv .f32 (passV P i k) * (fv .f32 (aE P k) - fv .f32 (aE P i))
theorem eF_anti (h : DP P) {i k : Int} (hi : P.cell i = true) (hk : P.cell k = true) : eF P i k = -eF P k i := by
  unfold eF
  rw [(h.pass hi hk).1]
  grind
theorem one_flow (h : DP P) {i k : Int} (hi : P.cell i = true) (hk : P.cell k = true) : Bnd .f32 (fop .mul .f32 (passV P i k) (fop .sub .f32 (aE P k) (aE P i))) 32 ∧ Nr (fop .mul .f32 (passV P i k) (fop .sub .f32 (aE P k) (aE P i))) (eF P i k) (tp (-17)) := by
  obtain ⟨m, hm, hM⟩ := h.warm hi
  obtain ⟨n, hn, hN⟩ := h.warm hk
  obtain ⟨_, p0, p1, p2⟩ := h.pass hi hk
  have hs : ex .sub ((n : Rat) / 2) ((m : Rat) / 2) = ((n - m : Int) : Rat) / 2 := by simp only [ex]; rw [Rat.intCast_sub]; grind
  have hD := V.op .sub rfl hN hM (by simp) (by rw [hs]; exact rep_half (by omega))
  rw [hs] at hD
  have b1 : ((n - m : Int) : Rat) ≤ ((32 : Int) : Rat) := icast_le (by omega)
  have b2 : ((-32 : Int) : Rat) ≤ ((n - m : Int) : Rat) := icast_le (by omega)
  have d1 : Bnd .f32 (fop .sub .f32 (aE P k) (aE P i)) 16 := ⟨hD.1, by rw [hD.2]; grind, by rw [hD.2]; grind⟩
  have d0 : Bnd .f32 (passV P i k) 2 := ⟨p0, by grind, p2⟩
  have r32 : Rep .f32 (32 : Rat) := Rep.int (k := .f32) 32 (by decide)
  have e : ex .mul (fv .f32 (passV P i k)) (fv .f32 (fop .sub .f32 (aE P k) (aE P i))) = eF P i k := by
    simp only [ex]; unfold eF; rw [hD.2, hN.2, hM.2, Rat.intCast_sub]; grind
  have mb := mul_bd d0.2.1 d0.2.2 d1.2.1 d1.2.2
  have e2 : fv .f32 (passV P i k) * fv .f32 (fop .sub .f32 (aE P k) (aE P i)) = eF P i k := e
  rw [e2] at mb
  have N := fop_nr .mul rfl p0 hD.1 (by simp) (by rw [e]; grind) (by rw [e]; grind)
  rw [e] at N
  exact ⟨d0.mul d1 r32 (by grind), N⟩
def eSum (P : Pl) (i : Int) : List Int → Rat
  | [] => 0
  | k :: ks => eF P i k + eSum P i ks
theorem flow_near (h : DP P) {i : Int} (hi : P.cell i = true) : ∀ (ks : List Int) (a : Nat) (c : Nat) (A : Rat), (∀ k ∈ ks, P.cell k = true) → c + ks.length ≤ 4 → Bnd .f32 a ((32 * c : Nat) : Rat) → fv .f32 a - A ≤ 2 * c * tp (-17) → A - fv .f32 a ≤ 2 * c * tp (-17) →
    Bnd .f32 (ks.foldl (flowS P i) a) 128 ∧ fv .f32 (ks.foldl (flowS P i) a) - (A + eSum P i ks) ≤ 8 * tp (-17) ∧ (A + eSum P i ks) - fv .f32 (ks.foldl (flowS P i) a) ≤ 8 * tp (-17)
  | [], a, c, A, _, hc, hb, h1, h2 => by
    have hc' : (c : Rat) ≤ ((4 : Nat) : Rat) := by exact_mod_cast (by simpa using hc)
    have ht := tp_pos (-17)
    have hm := Rat.mul_le_mul_of_nonneg_right hc' (Rat.le_of_lt ht)
    have h4 : ((4 : Nat) : Rat) = 4 := rfl
    rw [h4] at hm hc'
    have e : ((32 * c : Nat) : Rat) ≤ 128 := by
      have : ((32 * c : Nat) : Rat) ≤ ((128 : Nat) : Rat) := by exact_mod_cast (by simp at hc; omega)
      have e2 : ((128 : Nat) : Rat) = 128 := rfl
      rwa [e2] at this
    refine ⟨hb.mono e, ?_, ?_⟩
    · simp only [eSum, List.foldl_nil]; grind
    · simp only [eSum, List.foldl_nil]; grind
  | k :: ks, a, c, A, hk, hc, hb, h1, h2 => by
    obtain ⟨t1, t2⟩ := one_flow h hi (hk k (by simp))
    have hc1 : c + 1 + ks.length ≤ 4 := by simp only [List.length_cons] at hc; omega
    have e32 : ((32 * (c + 1) : Nat) : Rat) = ((32 * c : Nat) : Rat) + 32 := by
      rw [Nat.mul_add]; exact Rat.natCast_add _ _
    have r : Rep .f32 ((32 * (c + 1) : Nat) : Rat) := Rep.nat _ (by show _ < 16777216; omega)
    have S : Bnd .f32 (flowS P i a k) ((32 * (c + 1) : Nat) : Rat) := hb.add t1 r (by rw [e32]; exact Rat.le_refl)
    have hle : ((32 * (c + 1) : Nat) : Rat) ≤ 128 := by
      have : ((32 * (c + 1) : Nat) : Rat) ≤ ((128 : Nat) : Rat) := by exact_mod_cast (by omega)
      have e2 : ((128 : Nat) : Rat) = 128 := rfl
      rwa [e2] at this
    have b1 := hb.2; have b2 := t1.2
    have N := fop_nr .add rfl hb.1 t1.1 (by simp) (by simp only [ex]; grind) (by simp only [ex]; grind)
    simp only [ex] at N
    have ht := tp_pos (-17)
    have cc : ((c + 1 : Nat) : Rat) = (c : Rat) + 1 := Rat.natCast_add _ _
    have g := flow_near h hi ks (flowS P i a k) (c + 1) (A + eF P i k) (fun x hx => hk x (by simp [hx])) hc1 S
      (by have n1 := N.2.1; have n2 := t2.2.1; rw [cc]; show fv .f32 (fop .add .f32 a _) - _ ≤ _; grind)
      (by have n1 := N.2.2; have n2 := t2.2.2; rw [cc]; show _ - fv .f32 (fop .add .f32 a _) ≤ _; grind)
    rw [List.foldl_cons]
    refine ⟨g.1, ?_, ?_⟩
    · simp only [eSum]; have := g.2.1; grind
    · simp only [eSum]; have := g.2.2; grind
theorem DP.flow (h : DP P) {i : Int} (hi : P.cell i = true) : Bnd .f32 (flowV P i) 128 ∧ fv .f32 (flowV P i) - eSum P i (nbl P.W P.H i) ≤ 8 * tp (-17) ∧ eSum P i (nbl P.W P.H i) - fv .f32 (flowV P i) ≤ 8 * tp (-17) := by
  have z : ((32 * 0 : Nat) : Rat) = 0 := rfl
  have z2 : ((0 : Nat) : Rat) = 0 := rfl
  have g := flow_near h hi (nbl P.W P.H i) (cn .f32 0) 0 0 nbl_cells (by have := nbl_len P.W P.H i; omega) ⟨V0.1, by rw [V0.2, z]; decide, by rw [V0.2, z]; decide⟩ (by rw [V0.2, z2]; grind) (by rw [V0.2, z2]; grind)
  rw [Rat.zero_add] at g
  exact g
/-- Sums over the first cells. -/
def sumN (f : Nat → Rat) : Nat → Rat
  | 0 => 0
  | n + 1 => sumN f n + f n
theorem sumN_congr {f g : Nat → Rat} : ∀ n, (∀ i, i < n → f i = g i) → sumN f n = sumN g n
  | 0, _ => rfl
  | n + 1, h => by simp only [sumN]; rw [sumN_congr n (fun i hi => h i (by omega)), h n (by omega)]
theorem sumN_add (f g : Nat → Rat) : ∀ n, sumN (fun i => f i + g i) n = sumN f n + sumN g n
  | 0 => by simp only [sumN]; grind
  | n + 1 => by simp only [sumN]; rw [sumN_add f g n]; grind
theorem sumN_neg (f : Nat → Rat) : ∀ n, sumN (fun i => -f i) n = -sumN f n
  | 0 => by simp only [sumN]; grind
  | n + 1 => by simp only [sumN]; rw [sumN_neg f n]; grind
theorem sumN_zero (f : Nat → Rat) (m : Nat) : ∀ n, (∀ i, m ≤ i → i < m + n → f i = 0) → sumN f (m + n) = sumN f m
  | 0, _ => rfl
  | n + 1, h => by
    show sumN f (m + n) + f (m + n) = _
    rw [sumN_zero f m n (fun i h1 h2 => h i h1 (by omega)), h (m + n) (by omega) (by omega)]; grind
theorem sumN_shift (f : Nat → Rat) (s : Nat) : ∀ n, sumN (fun i => if i < s then 0 else f (i - s)) (s + n) = sumN f n
  | 0 => by
    have := sumN_zero (fun i => if i < s then 0 else f (i - s)) 0 s (fun i _ h => by show (if i < s then 0 else f (i - s)) = 0; rw [if_pos (by omega)])
    rw [Nat.zero_add] at this
    exact this
  | n + 1 => by
    show sumN (fun i => if i < s then 0 else f (i - s)) (s + n) + (if s + n < s then 0 else f (s + n - s)) = _
    rw [sumN_shift f s n, if_neg (by omega), show s + n - s = n by omega]
    rfl
theorem eSum_nbl (P : Pl) (i : Int) : eSum P i (nbl P.W P.H i) = ((if nb P.W P.H i 0 (-1) < 0 then 0 else eF P i (nb P.W P.H i 0 (-1))) + (if nb P.W P.H i (-1) 0 < 0 then 0 else eF P i (nb P.W P.H i (-1) 0))) + ((if nb P.W P.H i 1 0 < 0 then 0 else eF P i (nb P.W P.H i 1 0)) + (if nb P.W P.H i 0 1 < 0 then 0 else eF P i (nb P.W P.H i 0 1))) := by
  have key : ∀ ks : List Int, eSum P i (ks.filter fun k => !decide (k < 0)) = ks.foldr (fun k s => (if k < 0 then 0 else eF P i k) + s) 0 := by
    intro ks
    induction ks with
    | nil => rfl
    | cons k ks ih =>
      by_cases h : k < 0
      · rw [List.filter_cons_of_neg (by simp [h]), List.foldr_cons, if_pos h, ih]; grind
      · rw [List.filter_cons_of_pos (by simp [h]), List.foldr_cons, if_neg h, ← ih]; rfl
  unfold nbl
  rw [key]
  simp only [nbs, List.foldr_cons, List.foldr_nil]
  grind
theorem DP.flows (h : DP P) : sumN (fun i => eSum P (i : Int) (nbl P.W P.H (i : Int))) P.a.length = 0 := by
  obtain ⟨hW, hN, h1, _⟩ := Pl.dims h.ok
  have hp : P.W * (P.H - 1) = P.W * P.H - P.W := by rw [Int.mul_sub, Int.mul_one]
  have hH1 : P.W * 1 ≤ P.W * P.H := Int.mul_le_mul_of_nonneg_left (by have := h.H; omega) (by omega)
  have cell : ∀ x : Int, 0 ≤ x → x ≤ P.W * P.H - 1 → P.cell x = true := fun x a b => by unfold Pl.cell; rw [inB_true]; exact ⟨a, b⟩
  -- to the right, and down
  let r : Nat → Rat := fun i => if (i : Int) % P.W = P.W - 1 then 0 else eF P i (i + 1)
  let d : Nat → Rat := fun i => if P.W * (P.H - 1) ≤ (i : Int) then 0 else eF P i (i + P.W)
  have hr0 : ∀ i, i < P.a.length → (if nb P.W P.H (i : Int) 1 0 < 0 then 0 else eF P i (nb P.W P.H (i : Int) 1 0)) = r i := by
    intro i hi
    show _ = (if (i : Int) % P.W = P.W - 1 then 0 else eF P i (i + 1))
    rw [nb_right hW (by omega) (by omega)]
    by_cases hm : (i : Int) % P.W = P.W - 1
    · rw [if_pos hm, if_pos hm, if_pos (by omega)]
    · rw [if_neg hm, if_neg hm, if_neg (by omega)]
  have hd0 : ∀ i, i < P.a.length → (if nb P.W P.H (i : Int) 0 1 < 0 then 0 else eF P i (nb P.W P.H (i : Int) 0 1)) = d i := by
    intro i hi
    show _ = (if P.W * (P.H - 1) ≤ (i : Int) then 0 else eF P i (i + P.W))
    rw [nb_down hW (by omega) (by omega)]
    by_cases hm : P.W * (P.H - 1) ≤ (i : Int)
    · rw [if_pos hm, if_pos hm, if_pos (by omega)]
    · rw [if_neg hm, if_neg hm, if_neg (by omega)]
  have hl0 : ∀ i, i < P.a.length → (if nb P.W P.H (i : Int) (-1) 0 < 0 then 0 else eF P i (nb P.W P.H (i : Int) (-1) 0)) = -(if i < 1 then 0 else r (i - 1)) := by
    intro i hi
    rw [nb_left hW (by omega) (by omega)]
    by_cases hm : (i : Int) % P.W = 0
    · rw [if_pos hm, if_pos (by omega)]
      by_cases h2 : i < 1
      · rw [if_pos h2]; grind
      · rw [if_neg h2]
        have : r (i - 1) = 0 := by
          show (if ((i - 1 : Nat) : Int) % P.W = P.W - 1 then (0 : Rat) else _) = 0
          rw [if_pos]
          have e : ((i - 1 : Nat) : Int) = (i : Int) - 1 := by omega
          have e2 := Int.mul_ediv_add_emod (i : Int) P.W
          rw [e]
          have e3 : (i : Int) - 1 = (P.W - 1) + P.W * ((i : Int) / P.W - 1) := by rw [Int.mul_sub, Int.mul_one]; omega
          rw [e3, Int.add_mul_emod_self_left, Int.emod_eq_of_lt (by omega) (by omega)]
        rw [this]; grind
    · have h2 : ¬ i < 1 := by
        intro h2
        have : i = 0 := by omega
        subst this
        exact hm (by simp)
      have hpm := mod_pred hW hm (by omega)
      have hb := Int.emod_lt_of_pos (i : Int) (b := P.W) (by omega)
      rw [if_neg hm, if_neg (by omega), if_neg h2]
      show _ = -(if ((i - 1 : Nat) : Int) % P.W = P.W - 1 then (0 : Rat) else eF P ((i - 1 : Nat) : Int) (((i - 1 : Nat) : Int) + 1))
      have e : ((i - 1 : Nat) : Int) = (i : Int) - 1 := by omega
      rw [e, if_neg (by omega), show (i : Int) - 1 + 1 = i by omega]
      exact eF_anti h (cell _ (by omega) (by omega)) (cell _ (by omega) (by omega))
  have hu0 : ∀ i, i < P.a.length → (if nb P.W P.H (i : Int) 0 (-1) < 0 then 0 else eF P i (nb P.W P.H (i : Int) 0 (-1))) = -(if i < P.W.toNat then 0 else d (i - P.W.toNat)) := by
    intro i hi
    rw [nb_up hW (by omega) (by omega)]
    by_cases hm : (i : Int) < P.W
    · rw [if_pos hm, if_pos (by omega), if_pos (by omega)]; grind
    · rw [if_neg hm, if_neg (by omega), if_neg (by omega)]
      show _ = -(if P.W * (P.H - 1) ≤ ((i - P.W.toNat : Nat) : Int) then (0 : Rat) else eF P ((i - P.W.toNat : Nat) : Int) (((i - P.W.toNat : Nat) : Int) + P.W))
      have e : ((i - P.W.toNat : Nat) : Int) = (i : Int) - P.W := by omega
      rw [e, if_neg (by omega), show (i : Int) - P.W + P.W = i by omega]
      exact eF_anti h (cell _ (by omega) (by omega)) (cell _ (by omega) (by omega))
  have s1 : sumN (fun i => eSum P (i : Int) (nbl P.W P.H (i : Int))) P.a.length = sumN (fun i => (-(if i < P.W.toNat then 0 else d (i - P.W.toNat)) + -(if i < 1 then 0 else r (i - 1))) + (r i + d i)) P.a.length := by
    refine sumN_congr _ fun i hi => ?_
    rw [eSum_nbl, hr0 i hi, hd0 i hi, hl0 i hi, hu0 i hi]
  rw [s1, sumN_add, sumN_add, sumN_add, sumN_neg, sumN_neg]
  have t1 : sumN (fun i => if i < 1 then 0 else r (i - 1)) P.a.length = sumN r P.a.length := by
    have a := sumN_shift r 1 (P.a.length - 1)
    have b := sumN_zero r (P.a.length - 1) 1 (fun i h2 h3 => by
      show (if (i : Int) % P.W = P.W - 1 then (0 : Rat) else _) = 0
      rw [if_pos]
      have e3 : (i : Int) = (P.W - 1) + P.W * (P.H - 1) := by omega
      rw [e3, Int.add_mul_emod_self_left, Int.emod_eq_of_lt (by omega) (by omega)])
    rw [show 1 + (P.a.length - 1) = P.a.length by omega] at a
    rw [show P.a.length - 1 + 1 = P.a.length by omega] at b
    rw [a, b]
  have t2 : sumN (fun i => if i < P.W.toNat then 0 else d (i - P.W.toNat)) P.a.length = sumN d P.a.length := by
    have a := sumN_shift d P.W.toNat (P.a.length - P.W.toNat)
    have b := sumN_zero d (P.a.length - P.W.toNat) P.W.toNat (fun i h2 h3 => by
      show (if P.W * (P.H - 1) ≤ (i : Int) then (0 : Rat) else _) = 0
      rw [if_pos (by omega)])
    rw [show P.W.toNat + (P.a.length - P.W.toNat) = P.a.length by omega] at a
    rw [show P.a.length - P.W.toNat + P.W.toNat = P.a.length by omega] at b
    rw [a, b]
  rw [t1, t2]
  grind
theorem nbl_any_false {i : Int} {p : Int → Bool} (h : ∀ k ∈ nbl P.W P.H i, p k = false) : (nbl P.W P.H i).any p = false := by
  rw [List.any_eq_false]
  intro k hk
  rw [h k hk]; simp
theorem DP.flowOk (h : DP P) {i : Int} (hi : P.cell i = true) : flowOk P i = true := by
  unfold Go.Proofs.Ytphamdlnnfionaa.flowOk passOk
  rw [h.ok, hi, nbl_any_false fun k hk => ?_]
  · rfl
  · have hf : fin .f32 (passV P i k) = true := by rw [fin_num]; exact (h.pass hi (nbl_cells k hk)).2.1
    rw [hf]; rfl
theorem DP.flowG (h : DP P) {i : Int} (hi : P.cell i = true) : gF (Go.Proofs.Ytphamdlnnfionaa.flowOk P i) (flowV P i) = flowV P i ∧ gB (Go.Proofs.Ytphamdlnnfionaa.flowOk P i) (flowV P i) = true := by
  have hf : fin .f32 (flowV P i) = true := by rw [fin_num]; exact (h.flow hi).1.1
  unfold gF gB
  rw [h.flowOk hi, hf, if_pos rfl, chk_yes hf]
  exact ⟨rfl, rfl⟩
theorem DP.passG (h : DP P) {i k : Int} (hi : P.cell i = true) (hk : k ∈ nbl P.W P.H i) : gF (pcOk P i k) (passV P i k) = passV P i k ∧ gB (pcOk P i k) (passV P i k) = true := by
  have hf : fin .f32 (passV P i k) = true := by rw [fin_num]; exact (h.pass hi (nbl_cells k hk)).2.1
  have ho : pcOk P i k = true := by
    unfold pcOk
    rw [h.ok, hi, nbl_cells k hk, List.any_eq_true.2 ⟨k, hk, by simp⟩]; rfl
  unfold gF gB
  rw [ho, hf, if_pos rfl, chk_yes hf]
  exact ⟨rfl, rfl⟩
theorem slope_fin (h : DP P) {i f t : Int} (hi : P.cell i = true) (hf : f < 0 ∨ P.cell f = true) (ht : t < 0 ∨ P.cell t = true) : fin .f32 (slopeV P i f t) = true := by
  unfold slopeV
  split
  · rw [fin_num]; exact V0.1
  · have hw : ∀ k : Int, P.cell k = true → Bnd .f32 (slopeW P k) 8 := by
      intro k hk
      obtain ⟨m, hm, e⟩ := h.warm hk
      have e : V .f32 (slopeW P k) ((m : Rat) / 2) := e
      have b1 : (m : Rat) ≤ ((16 : Int) : Rat) := icast_le (by omega)
      have b2 : ((-16 : Int) : Rat) ≤ (m : Rat) := icast_le (by omega)
      exact ⟨e.1, by rw [e.2]; grind, by rw [e.2]; grind⟩
    have h1 : P.cell (if t < 0 then i else t) = true := by split; exact hi; exact ht.resolve_left (by assumption)
    have h2 : P.cell (if f < 0 then i else f) = true := by split; exact hi; exact hf.resolve_left (by assumption)
    have r16 : Rep .f32 (16 : Rat) := Rep.int (k := .f32) 16 (by decide)
    have r32 : Rep .f32 (32 : Rat) := Rep.int (k := .f32) 32 (by decide)
    have s := (hw _ h1).sub (hw _ h2) r16 (by grind)
    obtain ⟨m, hm, e⟩ := h.b _ (h.idx hi)
    obtain ⟨_, _, q⟩ := quart_num hm
    rw [← e] at q
    obtain ⟨y, hy, y1, y2⟩ : ∃ y, (if f < 0 ∨ t < 0 then cn .f32 1065353216 else cn .f32 1073741824) = y ∧ fnt .f32 y = true ∧ 1 ≤ fv .f32 y := by
      split
      · exact ⟨_, rfl, V1.1, by rw [V1.2]; exact Rat.le_refl⟩
      · exact ⟨_, rfl, V2.1, by rw [V2.2]; decide⟩
    rw [hy]
    have d := s.div (d := 1) y1 (by decide) y2 r16 (by rw [Rat.mul_one]; exact Rat.le_refl)
    have := (q.mul d r32 (by grind)).neg
    rw [fin_num]; exact this.1
theorem nb_or (h : DP P) (i dx dy : Int) : nb P.W P.H i dx dy < 0 ∨ P.cell (nb P.W P.H i dx dy) = true := by
  rcases nb_range P.W P.H i dx dy with e | e
  · exact .inl (by omega)
  · exact .inr (by unfold Pl.cell; rw [inB_true]; exact e)
theorem DP.fluxB (h : DP P) {i : Int} (hi : P.cell i = true) : fxB P i = true := by
  have a : fin .f32 (fxX P i) = true := slope_fin h hi (nb_or h _ _ _) (nb_or h _ _ _)
  have b : fin .f32 (fxY P i) = true := slope_fin h hi (nb_or h _ _ _) (nb_or h _ _ _)
  unfold fxB
  rw [h.ok, hi, a, b]; rfl
theorem DP.flux (h : DP P) {i : Int} (hi : P.cell i = true) : fxC P i (fxX P i) = fxX P i ∧ fxC P i (fxY P i) = fxY P i := by
  unfold fxC
  rw [h.fluxB hi, if_pos rfl, if_pos rfl]
  exact ⟨rfl, rfl⟩
/-- A plate of one cell. -/
theorem DP.one (h : DP P) (hn : P.a.length = 1) {i : Int} (hi : P.cell i = true) : fxX P i = cn .f32 0 ∧ fxY P i = cn .f32 0 ∧ flowV P i = cn .f32 0 := by
  have hl := h.la
  rw [hn] at hl
  have hW : P.W = 1 := by
    have := Int.mul_le_mul_of_nonneg_left (show 1 ≤ P.H from h.H.1) (show 0 ≤ P.W by have := h.W; omega)
    have := h.W; omega
  have hH : P.H = 1 := by rw [hW] at hl; omega
  have hi0 : i = 0 := by have := Pl.cell_iff hi; rw [hW, hH] at this; omega
  subst hi0
  have e1 : nb 1 1 0 (-1) (-0) = -1 := by decide
  have e2 : nb 1 1 0 1 0 = -1 := by decide
  have e3 : nb 1 1 0 (-0) (-1) = -1 := by decide
  have e4 : nb 1 1 0 0 1 = -1 := by decide
  have e5 : nbl 1 1 0 = [] := by decide
  unfold fxX fxY flowV slopeV
  rw [hW, hH, e1, e2, e3, e4, e5]
  exact ⟨rfl, rfl, rfl⟩
/-- All flows together, in 64 bits. -/
def sumW (P : Pl) : Nat → Nat
  | 0 => cn .f64 0
  | k + 1 => fop .add .f64 (sumW P k) (wide (flowV P (k : Int)))
theorem tp12 : tp 12 = 4096 := (tp_nat 12).trans rfl
theorem DP.sums (h : DP P) : ∀ k, k ≤ P.a.length → Bnd .f64 (sumW P k) ((128 * k : Nat) : Rat) ∧ fv .f64 (sumW P k) - sumN (fun i => eSum P (i : Int) (nbl P.W P.H (i : Int))) k ≤ (k : Rat) * (9 * tp (-17)) ∧ sumN (fun i => eSum P (i : Int) (nbl P.W P.H (i : Int))) k - fv .f64 (sumW P k) ≤ (k : Rat) * (9 * tp (-17))
  | 0, _ => by
    have z := V.int .f64 0 (by decide)
    have e : sumW P 0 = floatOfInt .f64 0 := by show cn .f64 0 = _; decide +kernel
    have e0 : ((128 * 0 : Nat) : Rat) = 0 := rfl
    have e1 : ((0 : Nat) : Rat) = 0 := rfl
    have e2 : ((0 : Int) : Rat) = 0 := rfl
    rw [e2] at z
    rw [e, e0]
    refine ⟨⟨z.1, by rw [z.2]; decide, by rw [z.2]; decide⟩, ?_, ?_⟩ <;> (simp only [sumN]; rw [z.2]; grind)
  | k + 1, hk => by
    obtain ⟨a, b, c⟩ := h.sums k (by omega)
    have hc := cell_nat h.ok (show k < P.a.length by omega)
    obtain ⟨f, f1, f2⟩ := h.flow hc
    obtain ⟨w1, w2⟩ := wide_val f.1
    have hl := h.len.2
    have e128 : ((128 * (k + 1) : Nat) : Rat) = ((128 * k : Nat) : Rat) + 128 := by rw [Nat.mul_add]; exact Rat.natCast_add _ _
    have r : Rep .f64 ((128 * (k + 1) : Nat) : Rat) := Rep.nat _ (by show _ < 2 ^ (52 + 1); omega)
    have S : Bnd .f64 (sumW P (k + 1)) ((128 * (k + 1) : Nat) : Rat) := a.add (b := 128) ⟨w1, by rw [w2]; exact f.2.1, by rw [w2]; exact f.2.2⟩ r (by rw [e128]; exact Rat.le_refl)
    have hle : ((128 * (k + 1) : Nat) : Rat) ≤ 4096 := by
      have : ((128 * (k + 1) : Nat) : Rat) ≤ ((4096 : Nat) : Rat) := by exact_mod_cast (by omega)
      refine Rat.le_trans this ?_
      decide +kernel
    have a2 := a.2; have f3 := f.2
    have b1 : ex .add (fv .f64 (sumW P k)) (fv .f64 (wide (flowV P (k : Int)))) ≤ tp 12 := by simp only [ex]; rw [w2, tp12]; grind
    have b2 : -ex .add (fv .f64 (sumW P k)) (fv .f64 (wide (flowV P (k : Int)))) ≤ tp 12 := by simp only [ex]; rw [w2, tp12]; grind
    have R := (fop_rnd .add rfl .f64 a.1 w1 (by simp) 12 (by decide) b1 b2).2
    obtain ⟨R1, R2⟩ := rnd_err R b1 b2 (by decide)
    have le : tp (12 - (FloatKind.f64.format.fractionBits : Int) - 1) ≤ tp (-17) := tp_le (by decide)
    simp only [ex] at R1 R2
    rw [w2] at R1 R2
    have cc : ((k + 1 : Nat) : Rat) = (k : Rat) + 1 := Rat.natCast_add _ _
    refine ⟨S, ?_, ?_⟩
    · rw [cc]; simp only [sumN]; show fv .f64 (fop .add .f64 _ _) - _ ≤ _; grind
    · rw [cc]; simp only [sumN]; show _ - fv .f64 (fop .add .f64 _ _) ≤ _; grind
theorem DP.sum (h : DP P) : fnt .f64 (sumW P P.a.length) = true ∧ fv .f64 (sumW P P.a.length) ≤ 1 / 128 ∧ -fv .f64 (sumW P P.a.length) ≤ 1 / 128 := by
  obtain ⟨a, b, c⟩ := h.sums P.a.length (Nat.le_refl _)
  rw [h.flows] at b c
  have hl : ((P.a.length : Nat) : Rat) ≤ ((25 : Nat) : Rat) := by exact_mod_cast h.len.2
  have e : ((25 : Nat) : Rat) = 25 := rfl
  rw [e] at hl
  have ht := tp_n17
  have ht0 := tp_pos (-17)
  have hm := Rat.mul_le_mul_of_nonneg_right hl (show 0 ≤ 9 * tp (-17) by grind)
  exact ⟨a.1, by grind, by grind⟩
/-- The range of a plate. -/
theorem low_all (hp : P.ok = true) : ∀ n, 1 ≤ n → n ≤ P.a.length → (∃ j : Nat, j < P.a.length ∧ lowA P n = aE P (j : Int)) ∧ ∀ j : Nat, j < n → val (lowA P n) ≤ val (aE P (j : Int))
  | 0, h, _ => by omega
  | 1, _, h => by rw [lowA_one]; exact ⟨⟨0, by omega, rfl⟩, fun j hj => by have : j = 0 := (by omega); subst this; exact Int.le_refl _⟩
  | n + 2, _, h => by
    obtain ⟨⟨j, hj, e⟩, b⟩ := low_all hp (n + 1) (by omega) (by omega)
    have fx := aE_fin hp (cell_nat hp (show n + 1 < P.a.length by omega))
    have fy := aE_fin hp (cell_nat hp hj)
    have hf : flt .f32 (aE P ((n + 1 : Nat) : Int)) (lowA P (n + 1)) = decide (val (aE P ((n + 1 : Nat) : Int)) < val (lowA P (n + 1))) := by rw [e]; exact flt_val fx fy
    rw [lowA_step]
    have hf' : flt .f32 (cn .f32 (P.a.getD (n + 1) 0)) (lowA P (n + 1)) = decide (val (aE P ((n + 1 : Nat) : Int)) < val (lowA P (n + 1))) := hf
    by_cases hc : val (aE P ((n + 1 : Nat) : Int)) < val (lowA P (n + 1))
    · rw [hf', decide_eq_true hc, if_pos rfl]
      refine ⟨⟨n + 1, by omega, rfl⟩, fun i hi => ?_⟩
      show val (aE P ((n + 1 : Nat) : Int)) ≤ _
      rcases (show i = n + 1 ∨ i < n + 1 by omega) with rfl | h3
      · exact Int.le_refl _
      · have := b i h3; omega
    · rw [hf', decide_eq_false hc, if_neg (by simp)]
      refine ⟨⟨j, hj, e⟩, fun i hi => ?_⟩
      rcases (show i = n + 1 ∨ i < n + 1 by omega) with rfl | h3
      · omega
      · exact b i h3
theorem high_all (hp : P.ok = true) : ∀ n, 1 ≤ n → n ≤ P.a.length → (∃ j : Nat, j < P.a.length ∧ highA P n = aE P (j : Int)) ∧ ∀ j : Nat, j < n → val (aE P (j : Int)) ≤ val (highA P n)
  | 0, h, _ => by omega
  | 1, _, h => by rw [highA_one]; exact ⟨⟨0, by omega, rfl⟩, fun j hj => by have : j = 0 := (by omega); subst this; exact Int.le_refl _⟩
  | n + 2, _, h => by
    obtain ⟨⟨j, hj, e⟩, b⟩ := high_all hp (n + 1) (by omega) (by omega)
    have fx := aE_fin hp (cell_nat hp (show n + 1 < P.a.length by omega))
    have fy := aE_fin hp (cell_nat hp hj)
    have hf' : fgt .f32 (cn .f32 (P.a.getD (n + 1) 0)) (highA P (n + 1)) = decide (val (highA P (n + 1)) < val (aE P ((n + 1 : Nat) : Int))) := by rw [e]; exact fgt_val fx fy
    rw [highA_step]
    by_cases hc : val (highA P (n + 1)) < val (aE P ((n + 1 : Nat) : Int))
    · rw [hf', decide_eq_true hc, if_pos rfl]
      refine ⟨⟨n + 1, by omega, rfl⟩, fun i hi => ?_⟩
      show _ ≤ val (aE P ((n + 1 : Nat) : Int))
      rcases (show i = n + 1 ∨ i < n + 1 by omega) with rfl | h3
      · exact Int.le_refl _
      · have := b i h3; omega
    · rw [hf', decide_eq_false hc, if_neg (by simp)]
      refine ⟨⟨j, hj, e⟩, fun i hi => ?_⟩
      rcases (show i = n + 1 ∨ i < n + 1 by omega) with rfl | h3
      · omega
      · exact b i h3
/-- At the lowest warmth there is one island. -/
theorem isl_low (hp : P.ok = true) {v : Nat} (hv : cn .f32 v = lowV P) : islOk P v = true ∧ islC P v = 1 ∧ islM P v = (P.a.length : Int) := by
  obtain ⟨_, _, h1, _⟩ := Pl.dims hp
  rw [lowV_ok hp] at hv
  obtain ⟨⟨j, hj, e⟩, b⟩ := low_all hp P.a.length h1 (Nat.le_refl _)
  have fy := aE_fin hp (cell_nat hp hj)
  have hf : fin .f32 (cn .f32 v) = true := by
    rw [hv, e]
    have h3 : finL P.a = true := by unfold Pl.ok at hp; simp only [Bool.and_eq_true] at hp; exact hp.2.2.2.1
    unfold finL at h3
    rw [Bool.not_eq_true', List.any_eq_false] at h3
    have := h3 (P.a[j]) (List.getElem_mem hj)
    unfold aE
    rw [show ((j : Nat) : Int).toNat = j from rfl, List.getD_eq_getElem?_getD, List.getElem?_eq_getElem hj]
    simpa using this
  have ho : islOk P v = true := by unfold islOk; rw [hp, hf]; rfl
  refine ⟨ho, isl_one hp ho fun i hi => ?_⟩
  unfold hiB
  rw [hv, e, fge_val (aE_fin hp (cell_nat hp hi)) fy]
  have := b i hi
  rw [e] at this
  exact decide_eq_true this
/-- No cell is at the level exactly where the highest warmth is below it. -/
theorem over_high (hp : P.ok = true) {v : Nat} (hv : fin .f32 (cn .f32 v) = true) : decide (overC P v P.a.length = 0) = flt .f32 (highV P) (cn .f32 v) := by
  obtain ⟨_, _, h1, _⟩ := Pl.dims hp
  rw [highV_ok hp]
  obtain ⟨⟨j, hj, e⟩, b⟩ := high_all hp P.a.length h1 (Nat.le_refl _)
  have hx := hi_or_lo hp hv (cell_nat hp hj)
  rw [e, hx]
  cases hh : hiB P v (j : Int) with
  | true =>
    refine decide_eq_false fun h0 => ?_
    rw [overC_none _ h0 j hj] at hh; cases hh
  | false =>
    refine decide_eq_true ?_
    by_cases h0 : 0 < overC P v P.a.length
    · obtain ⟨i, hi, hhi⟩ := overC_some _ h0
      have hy := hi_or_lo hp hv (cell_nat hp hi)
      rw [hhi] at hy
      rw [hh] at hx
      have f1 := fin_isF hv
      rw [flt_val (aE_fin hp (cell_nat hp hj)) f1] at hx
      rw [flt_val (aE_fin hp (cell_nat hp hi)) f1] at hy
      have hx' := of_decide_eq_true hx
      have hy' := of_decide_eq_false hy
      have := b i hi
      rw [e] at this
      omega
    · omega
end
end Go.Proofs.Ytphamdlnnfionaa
set_option linter.unusedSimpArgs false
set_option linter.unusedVariables false
set_option linter.unusedSectionVars false
namespace Go.Proofs.Ytphamdlnnfionaa
open Go Go.RowKit
open Go.ChangeShapes Go.WideShapes Go.ChangeAt Go.RowKit Go.Joins
set_option maxHeartbeats 2000000 in
theorem one_any (b K : Nat) (n : Int) (w : World) (h : SrcAt w b K) (hK : K ≤ 900000) (hn : 1 ≤ n ∧ n ≤ 1000000000) : Calls Try.prog 70 #[.pointer (some ⟨b, 0, none⟩), .int .i64 n] w (fun e w' => ∃ c, e = .returned (.bool c) ∧ Turn b (b + 1) w w' ∧ w'.heap.size = w.heap.size ∧ SrcAt w' b (K + 2)) := by
  have HP := Lib.hid (pick_any b K n w h hK hn)
  clear h
  go_enter Try.func70, Try.ntmps70
  go_wp2_with (first | (with_reducible refine at_list ?_; refine wpList_fop rfl rfl rfl rfl rfl ?_; intro r n hr0; have hr := hr0 _ _ (by first | with_reducible assumption | exact rfl) (by first | with_reducible assumption | exact rfl); clear hr0) | (with_reducible refine at_list ?_; refine wpList_neg rfl rfl rfl ?_; intro r hr0; have hr := hr0 _ (by first | with_reducible assumption | exact rfl); clear hr0) | (with_reducible refine at_list ?_; refine wpList_fop_g rfl rfl rfl rfl rfl ?_; intro r n hr0; have hr := hr0 _ _ (by first | with_reducible assumption | exact rfl) (by first | with_reducible assumption | exact rfl); clear hr0) | (with_reducible refine at_list ?_; refine wpList_wide_g rfl rfl Try.underlying26 Try.underlying54 rfl ?_; intro r n hr0; have hr := hr0 _ (by first | with_reducible assumption | exact rfl); clear hr0) | (with_reducible refine at_list ?_; refine wpList_wide rfl rfl rfl Try.underlying26 Try.underlying54 ?_; intro r n hr0; have hr := hr0 _ (by first | with_reducible assumption | exact rfl); clear hr0) | (go_at_call 68; refine stop_here ?_))
  unfold Stop
  refine HP.out.mono ?_
  rintro e w' ⟨r, rfl, hr, hg, hz, hs⟩
  have HG := Lib.hid hg
  have HS := Lib.hid hs
  clear hg hs HP
  go_wp2_with (first | (with_reducible refine at_list ?_; refine wpList_fop rfl rfl rfl rfl rfl ?_; intro r n hr0; have hr := hr0 _ _ (by first | with_reducible assumption | exact rfl) (by first | with_reducible assumption | exact rfl); clear hr0) | (with_reducible refine at_list ?_; refine wpList_neg rfl rfl rfl ?_; intro r hr0; have hr := hr0 _ (by first | with_reducible assumption | exact rfl); clear hr0) | (with_reducible refine at_list ?_; refine wpList_fop_g rfl rfl rfl rfl rfl ?_; intro r n hr0; have hr := hr0 _ _ (by first | with_reducible assumption | exact rfl) (by first | with_reducible assumption | exact rfl); clear hr0) | (with_reducible refine at_list ?_; refine wpList_wide_g rfl rfl Try.underlying26 Try.underlying54 rfl ?_; intro r n hr0; have hr := hr0 _ (by first | with_reducible assumption | exact rfl); clear hr0) | (with_reducible refine at_list ?_; refine wpList_wide rfl rfl rfl Try.underlying26 Try.underlying54 ?_; intro r n hr0; have hr := hr0 _ (by first | with_reducible assumption | exact rfl); clear hr0))
  go_ret
  exact ⟨_, rfl, HG.out, hz, HS.out⟩
section
variable {B : Nat} {w w' : World} {b s : Nat} {P : Pl} {l : Lay}
theorem Turn.grown {a c : World} (h : Turn s (s + 1) a c) : a.grownBy c (some s) := ⟨h.os, h.tape, h.output, h.size, fun k hk hne => h.block k hk (by
  rcases Nat.lt_trichotomy k s with h1 | h1 | h1
  · exact .inl h1
  · exact absurd (by rw [h1]) hne
  · exact .inr h1)⟩
/-- A block ahead of the plate has turned. -/
theorem PV.kept (h : PV B w b P l) (hg : w.grownBy w' (some s)) (hs : s < B) : PV B w' b P l := by
  refine ⟨⟨owned_kept h.1.1 hg h.lt fun k hk e => ?_, h.1.2⟩, h.2.1, fun i hi => (h.2.2.1 i hi).kept hg fun k hk e => ?_, h.2.2.2⟩
  · simp only [Option.some.injEq] at hk; have := h.1.2; omega
  · simp only [Option.some.injEq] at e
    have := (World.ownsRow.lt (h.2.2.1 i hi) k hk).1
    omega
theorem grown_set (w : World) (g j : Nat) (x : Value) : w.grownBy (w.setCell ⟨g, j, none⟩ x) (some g) := ⟨rfl, rfl, rfl, by simp, fun k _ hk => Below.heap_setCell _ _ _ _ (fun e => hk (by rw [e]))⟩
theorem PV.set1 (h : PV B w b P l) {g : Nat} (hp : l.p1 = some ⟨g, 0, none⟩) (k r : Nat) : PV B (w.setCell ⟨g, k, none⟩ (.float .f32 r)) b { P with a := P.a.set k r } l := by
  have hr : (⟨26, .slice l.p1 P.a.length l.c1, P.a.length, (P.a.set k r).map (Value.float .f32)⟩ : Row).at B (w.setCell ⟨g, k, none⟩ (.float .f32 r)) := by
    have h0 : w.ownsRow B 26 1 (.slice l.p1 P.a.length l.c1) P.a.length (P.a.map (Value.float .f32)) := h.2.2.1 0 (by omega)
    show World.ownsRow _ _ _ _ (.slice l.p1 P.a.length l.c1) _ _
    rw [hp] at h0 ⊢
    rw [List.map_set]
    exact (World.ownsRow.stored h0 k (.float .f32 r)).1
  refine PV.rv (f := upd (plF P l) 0 ⟨26, .slice l.p1 P.a.length l.c1, P.a.length, (P.a.set k r).map (Value.float .f32)⟩) ?_ ?_
  · have := RV.grow (i := 0) (w' := w.setCell ⟨g, k, none⟩ (.float .f32 r)) (show RV B w b (plC P l) (plF P l) from h) (by simp [plC]) (by omega) (by show w.grownBy _ (Value.slice l.p1 P.a.length l.c1).ownBlock; rw [hp]; exact grown_set _ _ _ _) hr (.inl rfl)
    simpa [plC] using this
  · intro i hi
    match i, hi with
    | 0, _ => simp [upd, plF]
    | 1, _ => rfl
    | 2, _ => rfl
    | 3, _ => rfl
theorem PV.set2 (h : PV B w b P l) {g : Nat} (hp : l.p2 = some ⟨g, 0, none⟩) (k r : Nat) : PV B (w.setCell ⟨g, k, none⟩ (.float .f32 r)) b { P with b := P.b.set k r } l := by
  have hr : (⟨26, .slice l.p2 P.b.length l.c2, P.b.length, (P.b.set k r).map (Value.float .f32)⟩ : Row).at B (w.setCell ⟨g, k, none⟩ (.float .f32 r)) := by
    have h0 : w.ownsRow B 26 1 (.slice l.p2 P.b.length l.c2) P.b.length (P.b.map (Value.float .f32)) := h.2.2.1 1 (by omega)
    show World.ownsRow _ _ _ _ (.slice l.p2 P.b.length l.c2) _ _
    rw [hp] at h0 ⊢
    rw [List.map_set]
    exact (World.ownsRow.stored h0 k (.float .f32 r)).1
  refine PV.rv (f := upd (plF P l) 1 ⟨26, .slice l.p2 P.b.length l.c2, P.b.length, (P.b.set k r).map (Value.float .f32)⟩) ?_ ?_
  · have := RV.grow (i := 1) (w' := w.setCell ⟨g, k, none⟩ (.float .f32 r)) (show RV B w b (plC P l) (plF P l) from h) (by simp [plC]) (by omega) (by show w.grownBy _ (Value.slice l.p2 P.b.length l.c2).ownBlock; rw [hp]; exact grown_set _ _ _ _) hr (.inl rfl)
    simpa [plC] using this
  · intro i hi
    match i, hi with
    | 0, _ => rfl
    | 1, _ => simp [upd, plF]
    | 2, _ => rfl
    | 3, _ => rfl
theorem PV.set3 (h : PV B w b P l) {g : Nat} (hp : l.p3 = some ⟨g, 0, none⟩) (k r : Nat) : PV B (w.setCell ⟨g, k, none⟩ (.float .f32 r)) b { P with c := P.c.set k r } l := by
  have hr : (⟨26, .slice l.p3 P.c.length l.c3, P.c.length, (P.c.set k r).map (Value.float .f32)⟩ : Row).at B (w.setCell ⟨g, k, none⟩ (.float .f32 r)) := by
    have h0 : w.ownsRow B 26 1 (.slice l.p3 P.c.length l.c3) P.c.length (P.c.map (Value.float .f32)) := h.2.2.1 2 (by omega)
    show World.ownsRow _ _ _ _ (.slice l.p3 P.c.length l.c3) _ _
    rw [hp] at h0 ⊢
    rw [List.map_set]
    exact (World.ownsRow.stored h0 k (.float .f32 r)).1
  refine PV.rv (f := upd (plF P l) 2 ⟨26, .slice l.p3 P.c.length l.c3, P.c.length, (P.c.set k r).map (Value.float .f32)⟩) ?_ ?_
  · have := RV.grow (i := 2) (w' := w.setCell ⟨g, k, none⟩ (.float .f32 r)) (show RV B w b (plC P l) (plF P l) from h) (by simp [plC]) (by omega) (by show w.grownBy _ (Value.slice l.p3 P.c.length l.c3).ownBlock; rw [hp]; exact grown_set _ _ _ _) hr (.inl rfl)
    simpa [plC] using this
  · intro i hi
    match i, hi with
    | 0, _ => rfl
    | 1, _ => rfl
    | 2, _ => simp [upd, plF]
    | 3, _ => rfl
theorem PV.set4 (h : PV B w b P l) {g : Nat} (hp : l.p4 = some ⟨g, 0, none⟩) (k : Nat) (r : Bool) : PV B (w.setCell ⟨g, k, none⟩ (.bool r)) b { P with d := P.d.set k r } l := by
  have hr : (⟨4, .slice l.p4 P.d.length l.c4, P.d.length, (P.d.set k r).map Value.bool⟩ : Row).at B (w.setCell ⟨g, k, none⟩ (.bool r)) := by
    have h0 : w.ownsRow B 4 1 (.slice l.p4 P.d.length l.c4) P.d.length (P.d.map Value.bool) := h.2.2.1 3 (by omega)
    show World.ownsRow _ _ _ _ (.slice l.p4 P.d.length l.c4) _ _
    rw [hp] at h0 ⊢
    rw [List.map_set]
    exact (World.ownsRow.stored h0 k (.bool r)).1
  refine PV.rv (f := upd (plF P l) 3 ⟨4, .slice l.p4 P.d.length l.c4, P.d.length, (P.d.set k r).map Value.bool⟩) ?_ ?_
  · have := RV.grow (i := 3) (w' := w.setCell ⟨g, k, none⟩ (.bool r)) (show RV B w b (plC P l) (plF P l) from h) (by simp [plC]) (by omega) (by show w.grownBy _ (Value.slice l.p4 P.d.length l.c4).ownBlock; rw [hp]; exact grown_set _ _ _ _) hr (.inl rfl)
    simpa [plC] using this
  · intro i hi
    match i, hi with
    | 0, _ => rfl
    | 1, _ => rfl
    | 2, _ => rfl
    | 3, _ => simp [upd, plF]
/-- Where the rows lie, and what they hold. -/
theorem PV.rows (h : PV B w b P l) (h1 : 1 ≤ P.a.length) (h2 : 1 ≤ P.b.length) (h3 : 1 ≤ P.c.length) (h4 : 1 ≤ P.d.length) : ∃ g1 g2 g3 g4, (l.p1 = some ⟨g1, 0, none⟩ ∧ l.p2 = some ⟨g2, 0, none⟩ ∧ l.p3 = some ⟨g3, 0, none⟩ ∧ l.p4 = some ⟨g4, 0, none⟩) ∧ ((B ≤ g1 ∧ g1 ≠ b) ∧ (B ≤ g2 ∧ g2 ≠ b) ∧ (B ≤ g3 ∧ g3 ≠ b) ∧ (B ≤ g4 ∧ g4 ≠ b)) ∧ ((∀ j, j < P.a.length → w.cell? ⟨g1, j, none⟩ = some (.float .f32 (P.a.getD j 0)) ∧ w.frozen? ⟨g1, j, none⟩ = false) ∧ (∀ j, j < P.b.length → w.cell? ⟨g2, j, none⟩ = some (.float .f32 (P.b.getD j 0)) ∧ w.frozen? ⟨g2, j, none⟩ = false) ∧ (∀ j, j < P.c.length → w.cell? ⟨g3, j, none⟩ = some (.float .f32 (P.c.getD j 0)) ∧ w.frozen? ⟨g3, j, none⟩ = false) ∧ (∀ j, j < P.d.length → w.cell? ⟨g4, j, none⟩ = some (.bool (P.d.getD j false)) ∧ w.frozen? ⟨g4, j, none⟩ = false)) := by
  obtain ⟨o1, o2, o3, o4⟩ := h.own
  have n := h.2.1
  have f : ∀ {p : Option Addr} {n c : Nat} {xs : List Nat}, OF B w (.slice p n c) xs → 1 ≤ xs.length → (Value.slice p n c).ownBlock ≠ some b → ∃ g, p = some ⟨g, 0, none⟩ ∧ (B ≤ g ∧ g ≠ b) ∧ ∀ j, j < xs.length → w.cell? ⟨g, j, none⟩ = some (.float .f32 (xs.getD j 0)) ∧ w.frozen? ⟨g, j, none⟩ = false := by
    intro p n c xs h hx hn
    rcases OF.view h with ⟨_, h0⟩ | ⟨g, c', e, hB, _, _, _, hc⟩
    · subst h0; simp at hx
    · simp only [Value.slice.injEq] at e
      obtain ⟨rfl, _, _⟩ := e
      exact ⟨g, rfl, ⟨hB, fun e => hn (by rw [← e]; rfl)⟩, hc⟩
  obtain ⟨g1, a1, b1, c1⟩ := f o1 h1 (n 0 (by omega))
  obtain ⟨g2, a2, b2, c2⟩ := f o2 h2 (n 1 (by omega))
  obtain ⟨g3, a3, b3, c3⟩ := f o3 h3 (n 2 (by omega))
  rcases OL.view o4 with ⟨_, h0⟩ | ⟨g4, c', e, hB, _, _, _, hc⟩
  · rw [h0] at h4; simp at h4
  · simp only [Value.slice.injEq] at e
    have hn : (Value.slice l.p4 P.d.length l.c4).ownBlock ≠ some b := n 3 (by omega)
    exact ⟨g1, g2, g3, g4, ⟨a1, a2, a3, e.1⟩, ⟨b1, b2, b3, hB, fun e2 => hn (by rw [e.1, ← e2]; rfl)⟩, c1, c2, c3, hc⟩
/-- What a draw of one number of a row leaves. -/
def DI (B sb K : Nat) (w1 wr : World) (b : Nat) (P : Pl) (l : Lay) : Prop := PV B wr b P l ∧ SrcAt wr sb K ∧ Turn sb (sb + 1) w1 wr
theorem DI.next {sb K K' : Nat} {w1 wr : World} {g k : Nat} {S : Value → Prop} (h : DI B sb K w1 wr b P l) (hs : sb < B) (hw : w1.heap.size ≤ B) (hg : B ≤ g) (hi : putI (srcI wr sb K') ⟨g, k, none⟩ S w') : ∃ v, S v ∧ SrcAt w' sb K' ∧ Turn sb (sb + 1) w1 w' ∧ ∃ u, PV B u b P l ∧ Below (u.setCell ⟨g, k, none⟩ v).heap.size (u.setCell ⟨g, k, none⟩ v) w' := by
  obtain ⟨v, u, h1, h2, h3⟩ := hi
  have t1 : Turn sb (sb + 1) w1 (u.setCell ⟨g, k, none⟩ v) := Turn.set (h.2.2.trans h2.1) (by simp; omega) v
  have hb := h2.2.lt
  refine ⟨v, h1, ?_, t1.trans (Turn.below h3), u, h.1.kept h2.1.grown hs, h3⟩
  have s1 : SrcAt (u.setCell ⟨g, k, none⟩ v) sb K' := by
    obtain ⟨p, n, c, kk, s, ⟨a0, a1, a2⟩, ⟨f1, f2⟩, hby, hr⟩ := h2.2
    have hbl : (u.setCell ⟨g, k, none⟩ v).heap[sb]? = u.heap[sb]? := Below.heap_setCell _ _ _ _ (by simp; omega)
    refine ⟨p, n, c, kk, s, ⟨(World.cell?_of_block hbl).trans a0, (World.cell?_of_block hbl).trans a1, (World.cell?_of_block hbl).trans a2⟩, ⟨(World.frozen?_of_block hbl).trans f1, (World.frozen?_of_block hbl).trans f2⟩, ⟨hby.1, fun i hi => ?_⟩, hr⟩
    obtain ⟨b', o', x, e1, e2, e3, e4⟩ := hby.2 i hi
    refine ⟨b', o', x, e1, e2, ?_, e4⟩
    have hbl2 : (u.setCell ⟨g, k, none⟩ v).heap[b']? = u.heap[b']? := Below.heap_setCell _ _ _ _ (by simp; omega)
    exact (World.cell?_of_block hbl2).trans e3
  exact s1.later h3 (by rw [World.size_setCell]; exact hb)
end
def Clm.bl : Clm := ⟨3, fun _ v => ∃ c, v = .bool c, fun _ _ _ => True, fun _ => ⟨_, false, rfl⟩, fun _ _ _ _ _ _ => trivial, fun h => nomatch h⟩
theorem wpG_bool {ops : Array Oper} {Q : Exit → Act → World → Prop} {F : World → Prop} {l : List Oper} {cs : List GC} {i : Nat} {ks : List (Nat × (World → Prop))} {a : Act} {o : Oper} {W : World} {b K : Nat} {n : Int} (hn : 1 ≤ n ∧ n ≤ 1000000000) (hK : K ≤ 900000) (hw : Region.wanted o (yielded ops a.tmps) = true) (he : ∀ w, (execOp a.eval o).run Try.prog w = .ok (.enter 70 #[.pointer (some ⟨b, 0, none⟩), .int .i64 n]) w)
    (h : ∀ r, wpG Try.prog ops Q F (srcI W b (K + 2)) l cs (i + 1) [(i, fun _ => True)] (a.put o.dst (.bool r))) : wpG Try.prog ops Q F (srcI W b K) (o :: l) (⟨Clm.bl, srcI W b (K + 2), srcI_kept⟩ :: cs) i ks a := by
  refine wpG_turnC Clm.bl rfl _ _ hw he (fun w hi hk => ?_) ?_
  · refine (one_any b K n w hi.2 hK hn).mono ?_
    rintro e w' ⟨c, rfl, hg, hz, hs⟩
    exact ⟨_, rfl, ⟨hi.1.trans hg, hs⟩, ⟨c, rfl⟩, trivial⟩
  · rintro v ⟨r, rfl⟩
    exact h r
/-- A word of a drawn number. -/
def SW (lo hi : Int) (D : Nat) (v : Value) : Prop := ∃ x, v = .float .f32 x ∧ ∃ m : Int, (lo ≤ m ∧ m ≤ hi) ∧ cn .f32 x = fop .quo .f32 (cn .f32 (floatOfInt .f32 m)) (cn .f32 D)
def SBl (v : Value) : Prop := ∃ x, v = .bool x
theorem srcI.cell {W u : World} {sb K b j : Nat} {x : Value} (hu : srcI W sb K u) (hb : sb < b) (h : W.cell? ⟨b, j, none⟩ = some x) : u.cell? ⟨b, j, none⟩ = some x := (World.cell?_of_block (a := ⟨b, j, none⟩) (hu.1.block b (World.block_lt_of_cell? _ _ h) (.inr (by omega)))).trans h
theorem srcI.free {W u : World} {sb K b j : Nat} {x : Value} (hu : srcI W sb K u) (hb : sb < b) (h : W.cell? ⟨b, j, none⟩ = some x) (hf : W.frozen? ⟨b, j, none⟩ = false) : u.frozen? ⟨b, j, none⟩ = false := (World.frozen?_of_block (a := ⟨b, j, none⟩) (hu.1.block b (World.block_lt_of_cell? _ _ h) (.inr (by omega)))).trans hf
theorem putI.cell {W u : World} {sb K b j g k : Nat} {S : Value → Prop} {x : Value} (hu : putI (srcI W sb K) ⟨g, k, none⟩ S u) (hb : sb < b) (hne : g ≠ b) (h : W.cell? ⟨b, j, none⟩ = some x) : u.cell? ⟨b, j, none⟩ = some x := by
  obtain ⟨v0, u0, _, h3, h4⟩ := hu
  have h1 := h3.cell hb h
  have hlt := World.block_lt_of_cell? _ _ h1
  exact (h4.cell (p := ⟨b, j, none⟩) (by simpa using hlt)).trans ((World.cell?_of_block (a := ⟨b, j, none⟩) (Below.heap_setCell _ _ _ _ (by simp; omega))).trans h1)
/-- A plate of which the first cells are drawn. -/
structure DR (N k : Nat) (P : Pl) : Prop where
  W : 1 ≤ P.W ∧ P.W ≤ 5
  H : 1 ≤ P.H ∧ P.H ≤ 5
  n : P.W * P.H = (N : Int)
  la : P.a.length = N
  lb : P.b.length = N
  lc : P.c.length = N
  ld : P.d.length = N
  a : ∀ j, j < k → ∃ m : Int, (-16 ≤ m ∧ m ≤ 16) ∧ V .f32 (cn .f32 (P.a.getD j 0)) ((m : Rat) / 2)
  b : ∀ j, j < k → ∃ m : Int, (1 ≤ m ∧ m ≤ 8) ∧ cn .f32 (P.b.getD j 0) = qwd m
  c : ∀ j, j < N → fin .f32 (cn .f32 (P.c.getD j 0)) = true
theorem getD_setN {l : List Nat} {i j x : Nat} (h : i < l.length) : (l.set i x).getD j 0 = if i = j then x else l.getD j 0 := by
  rw [List.getD_eq_getElem?_getD, List.getD_eq_getElem?_getD, List.getElem?_set]
  by_cases e : i = j
  · subst e; simp [h]
  · simp [e]
theorem DR.step {N k : Nat} {P : Pl} (h : DR N k P) (hk : k < N) {x y : Nat} {d : List Bool} {c : List Nat} {m m' : Int} (h1 : -16 ≤ m ∧ m ≤ 16) (h2 : cn .f32 x = fop .quo .f32 (cn .f32 (floatOfInt .f32 m)) (cn .f32 1073741824)) (h3 : 1 ≤ m' ∧ m' ≤ 8) (h4 : cn .f32 y = qwd m') (hc : c.length = N) (hc2 : ∀ j, j < N → fin .f32 (cn .f32 (c.getD j 0)) = true) (hd : d.length = N) :
    DR N (k + 1) { P with a := P.a.set k x, b := P.b.set k y, c := c, d := d } := by
  refine ⟨h.W, h.H, h.n, by show (P.a.set k x).length = N; rw [List.length_set]; exact h.la, by show (P.b.set k y).length = N; rw [List.length_set]; exact h.lb, hc, hd, fun j hj => ?_, fun j hj => ?_, hc2⟩
  · show ∃ m : Int, _ ∧ V .f32 (cn .f32 ((P.a.set k x).getD j 0)) _
    rw [getD_setN (by rw [h.la]; exact hk)]
    by_cases e : k = j
    · rw [if_pos e, h2]; exact ⟨m, h1, half_val (by omega)⟩
    · rw [if_neg e]; exact h.a j (by omega)
  · show ∃ m : Int, _ ∧ cn .f32 ((P.b.set k y).getD j 0) = _
    rw [getD_setN (by rw [h.lb]; exact hk)]
    by_cases e : k = j
    · rw [if_pos e]; exact ⟨m', h3, h4⟩
    · rw [if_neg e]; exact h.b j (by omega)
theorem fin_set {l : List Nat} {N k x : Nat} (hl : l.length = N) (hk : k < N) (h : ∀ j, j < N → fin .f32 (cn .f32 (l.getD j 0)) = true) (hx : fin .f32 (cn .f32 x) = true) : ∀ j, j < N → fin .f32 (cn .f32 ((l.set k x).getD j 0)) = true := by
  intro j hj
  rw [getD_setN (by omega)]
  split
  · exact hx
  · exact h j hj
theorem DR.done {N : Nat} {P : Pl} (h : DR N N P) : DP P := by
  refine ⟨h.W, h.H, by rw [h.la]; exact h.n.symm, by rw [h.lb, h.la], by rw [h.lc, h.la], by rw [h.ld, h.la], fun j hj => h.a j (by rw [← h.la]; exact hj), fun j hj => h.b j (by rw [← h.la]; exact hj), fun j hj => h.c j (by rw [← h.la]; exact hj)⟩
section
variable {B : Nat} {w w' : World} {b : Nat} {P : Pl} {l : Lay}
/-- The variable's cells. -/
theorem PV.cl (h : PV B w b P l) : (w.cell? ⟨b, 0, none⟩ = some (.int .i64 P.W) ∧ w.cell? ⟨b, 1, none⟩ = some (.int .i64 P.H) ∧ w.cell? ⟨b, 2, none⟩ = some (.slice l.p1 P.a.length l.c1) ∧ w.cell? ⟨b, 3, none⟩ = some (.slice l.p2 P.b.length l.c2) ∧ w.cell? ⟨b, 4, none⟩ = some (.slice l.p3 P.c.length l.c3) ∧ w.cell? ⟨b, 5, none⟩ = some (.slice l.p4 P.d.length l.c4)) ∧ w.frozen? ⟨b, 0, none⟩ = false :=
  ⟨⟨(h.1.1 0 _ rfl).1, (h.1.1 1 _ rfl).1, (h.1.1 2 _ rfl).1, (h.1.1 3 _ rfl).1, (h.1.1 4 _ rfl).1, (h.1.1 5 _ rfl).1⟩, (h.1.1 0 _ rfl).2⟩
theorem PV.at2 (h : PV B w b P l) {g N : Nat} (hp : l.p1 = some ⟨g, 0, none⟩) (hn : P.a.length = N) : w.cell? ⟨b, 2, none⟩ = some (.slice (some ⟨g, 0, none⟩) N l.c1) := by rw [h.cl.1.2.2.1, hp, hn]
theorem PV.at3 (h : PV B w b P l) {g N : Nat} (hp : l.p2 = some ⟨g, 0, none⟩) (hn : P.b.length = N) : w.cell? ⟨b, 3, none⟩ = some (.slice (some ⟨g, 0, none⟩) N l.c2) := by rw [h.cl.1.2.2.2.1, hp, hn]
theorem PV.at4 (h : PV B w b P l) {g N : Nat} (hp : l.p3 = some ⟨g, 0, none⟩) (hn : P.c.length = N) : w.cell? ⟨b, 4, none⟩ = some (.slice (some ⟨g, 0, none⟩) N l.c3) := by rw [h.cl.1.2.2.2.2.1, hp, hn]
theorem PV.at5 (h : PV B w b P l) {g N : Nat} (hp : l.p4 = some ⟨g, 0, none⟩) (hn : P.d.length = N) : w.cell? ⟨b, 5, none⟩ = some (.slice (some ⟨g, 0, none⟩) N l.c4) := by rw [h.cl.1.2.2.2.2.2, hp, hn]
theorem OF.el {q : Option Addr} {n c g k : Nat} {xs : List Nat} (h : OF B w (.slice q n c) xs) (hp : q = some ⟨g, 0, none⟩) (hk : k < xs.length) : w.cell? ⟨g, k, none⟩ = some (.float .f32 (xs.getD k 0)) ∧ w.frozen? ⟨g, k, none⟩ = false := by
  subst hp
  rcases OF.view h with ⟨e, _⟩ | ⟨g', c', e, _, _, _, _, hc⟩
  · cases e
  · simp only [Value.slice.injEq, Option.some.injEq, Addr.mk.injEq, and_true] at e
    obtain ⟨rfl, _⟩ := e
    exact hc k hk
theorem OL.el {q : Option Addr} {n c g k : Nat} {xs : List Bool} (h : OL B w (.slice q n c) xs) (hp : q = some ⟨g, 0, none⟩) (hk : k < xs.length) : w.cell? ⟨g, k, none⟩ = some (.bool (xs.getD k false)) ∧ w.frozen? ⟨g, k, none⟩ = false := by
  subst hp
  rcases OL.view h with ⟨e, _⟩ | ⟨g', c', e, _, _, _, _, hc⟩
  · cases e
  · simp only [Value.slice.injEq, Option.some.injEq, Addr.mk.injEq, and_true] at e
    obtain ⟨rfl, _⟩ := e
    exact hc k hk
theorem PX.pv {S : Nat} {t : TypeId} (h : PX B S w P l) {B' : Nat} (hB : B' ≤ B) (hS : S ≤ w.heap.size) (hb : B' ≤ w.heap.size) : PV B' (w.alloc (.cells (plC P l).toArray t)) w.heap.size P l := by
  have hal : Below w.heap.size w (w.alloc (.cells (plC P l).toArray t)) := (Below.refl _ _).alloc (Nat.le_refl _) _
  obtain ⟨⟨ho, k1, k2, k3, k4⟩, a1, a2, a3, a4, a5, a6⟩ := h
  obtain ⟨o1, o2, o3, o4⟩ := (ho.base hB).later hal
  have ap : ∀ {p q : Option Addr} {n c m d : Nat}, Ap p q → ∀ k, (Value.slice p n c).ownBlock = some k → (Value.slice q m d).ownBlock ≠ some k := by
    intro p q n c m d h k h1 h2
    cases p with
    | none => cases h1
    | some a => cases q with
      | none => cases h2
      | some b =>
        have e1 : a.block = k := by simpa [Value.ownBlock] using h1
        have e2 : b.block = k := by simpa [Value.ownBlock] using h2
        exact h a b rfl rfl (e1.trans e2.symm)
  refine ⟨⟨owned_alloc w (plC P l) t, hb⟩, fun i hi => ?_, fun i hi => ?_, fun i j hi hj hij k hk => ?_⟩
  · match i, hi with
    | 0, _ => exact fun e => by have := k1 _ e; omega
    | 1, _ => exact fun e => by have := k2 _ e; omega
    | 2, _ => exact fun e => by have := k3 _ e; omega
    | 3, _ => exact fun e => by have := k4 _ e; omega
  · match i, hi with
    | 0, _ => exact o1
    | 1, _ => exact o2
    | 2, _ => exact o3
    | 3, _ => exact o4
  · match i, j, hi, hj, hij with
    | 0, 0, _, _, h => exact absurd rfl h
    | 0, 1, _, _, _ => exact ap a1 k hk
    | 0, 2, _, _, _ => exact ap a2 k hk
    | 0, 3, _, _, _ => exact ap a3 k hk
    | 1, 0, _, _, _ => exact fun e => ap a1 k e hk
    | 1, 1, _, _, h => exact absurd rfl h
    | 1, 2, _, _, _ => exact ap a4 k hk
    | 1, 3, _, _, _ => exact ap a5 k hk
    | 2, 0, _, _, _ => exact fun e => ap a2 k e hk
    | 2, 1, _, _, _ => exact fun e => ap a4 k e hk
    | 2, 2, _, _, h => exact absurd rfl h
    | 2, 3, _, _, _ => exact ap a6 k hk
    | 3, 0, _, _, _ => exact fun e => ap a3 k e hk
    | 3, 1, _, _, _ => exact fun e => ap a5 k e hk
    | 3, 2, _, _, _ => exact fun e => ap a6 k e hk
    | 3, 3, _, _, h => exact absurd rfl h
end
set_option maxHeartbeats 16000000 in
theorem l04DrawOk_any (sb K : Nat) (w : World) (h : SrcAt w sb K) (hK : K ≤ 800000) : Calls Try.prog 49 #[.pointer (some ⟨sb, 0, none⟩)] w (fun e w' => ∃ (P : Pl) (l : Lay), e = .returned (.agg #[.int .i64 P.W, .int .i64 P.H, .slice l.p1 P.a.length l.c1, .slice l.p2 P.b.length l.c2, .slice l.p3 P.c.length l.c3, .slice l.p4 P.d.length l.c4]) ∧ DP P ∧ P.own w.heap.size w' l ∧ Turn sb (sb + 1) w w') := by
  have HS := Lib.hid h
  have hlt := h.lt
  have HPK := Lib.hid (fun (K : Nat) (n : Int) w h hK hn => pick_any sb K n w h hK hn)
  have HON := Lib.hid (fun (K : Nat) (n : Int) w h hK hn => one_any sb K n w h hK hn)
  clear h
  go_enter Try.func49, Try.ntmps49
  go_wp2_with (first | (with_reducible refine at_list ?_; refine wpList_fop rfl rfl rfl rfl rfl ?_; intro r n hr0; have hr := hr0 _ _ (by first | with_reducible assumption | exact rfl) (by first | with_reducible assumption | exact rfl); clear hr0) | (with_reducible refine at_list ?_; refine wpList_neg rfl rfl rfl ?_; intro r hr0; have hr := hr0 _ (by first | with_reducible assumption | exact rfl); clear hr0) | (with_reducible refine at_list ?_; refine wpList_fop_g rfl rfl rfl rfl rfl ?_; intro r n hr0; have hr := hr0 _ _ (by first | with_reducible assumption | exact rfl) (by first | with_reducible assumption | exact rfl); clear hr0) | (with_reducible refine at_list ?_; refine wpList_wide_g rfl rfl Try.underlying26 Try.underlying54 rfl ?_; intro r n hr0; have hr := hr0 _ (by first | with_reducible assumption | exact rfl); clear hr0) | (with_reducible refine at_list ?_; refine wpList_wide rfl rfl rfl Try.underlying26 Try.underlying54 ?_; intro r n hr0; have hr := hr0 _ (by first | with_reducible assumption | exact rfl); clear hr0) | (go_at_call 68; refine stop_here ?_))
  unfold Stop
  generalize hw1 : w.alloc (Obj.cells _ _) = w1
  have hz1 : w1.heap.size = w.heap.size + 1 := by rw [← hw1]; simp
  have HS1 : Hid (SrcAt w1 sb K) := by show SrcAt _ _ _; rw [← hw1]; exact HS.out.later (B := w.heap.size) ((Below.refl _ _).alloc (Nat.le_refl _) _) hlt
  have HG1 : Hid (Turn sb (sb + 1) w w1) := by show Turn _ _ _ _; rw [← hw1]; exact Turn.below ((Below.refl _ _).alloc (Nat.le_refl _) _)
  have HR : Hid ((w1.cell? ⟨w.heap.size, 0, none⟩ = some (.int .i64 0) ∧ w1.cell? ⟨w.heap.size, 1, none⟩ = some (.int .i64 0) ∧ w1.cell? ⟨w.heap.size, 2, none⟩ = some (.slice none 0 0) ∧ w1.cell? ⟨w.heap.size, 3, none⟩ = some (.slice none 0 0) ∧ w1.cell? ⟨w.heap.size, 4, none⟩ = some (.slice none 0 0) ∧ w1.cell? ⟨w.heap.size, 5, none⟩ = some (.slice none 0 0)) ∧ ∀ o, w1.frozen? ⟨w.heap.size, o, none⟩ = false) := by
    rw [← hw1]; clear hw1 hz1; exact ⟨⟨by go_simp, by go_simp, by go_simp, by go_simp, by go_simp, by go_simp⟩, fun o => by go_simp⟩
  clear hw1
  obtain ⟨b2, hb2⟩ : ∃ b2, b2 = w.heap.size := ⟨_, rfl⟩
  rw [← hb2] at HR hz1 hlt ⊢
  have HB2 := Lib.hid hb2
  clear hb2
  refine (HPK.out K 5 _ HS1.out (by omega) (by omega)).mono ?_
  rintro e w2 ⟨r1, rfl, ⟨hr11, hr12⟩, hg2, hz2, hs2⟩
  have HG2 := Lib.hid hg2
  have HS2 := Lib.hid hs2
  clear hg2 hs2
  go_wp2_with (first | (with_reducible refine at_list ?_; refine wpList_fop rfl rfl rfl rfl rfl ?_; intro r n hr0; have hr := hr0 _ _ (by first | with_reducible assumption | exact rfl) (by first | with_reducible assumption | exact rfl); clear hr0) | (with_reducible refine at_list ?_; refine wpList_neg rfl rfl rfl ?_; intro r hr0; have hr := hr0 _ (by first | with_reducible assumption | exact rfl); clear hr0) | (with_reducible refine at_list ?_; refine wpList_fop_g rfl rfl rfl rfl rfl ?_; intro r n hr0; have hr := hr0 _ _ (by first | with_reducible assumption | exact rfl) (by first | with_reducible assumption | exact rfl); clear hr0) | (with_reducible refine at_list ?_; refine wpList_wide_g rfl rfl Try.underlying26 Try.underlying54 rfl ?_; intro r n hr0; have hr := hr0 _ (by first | with_reducible assumption | exact rfl); clear hr0) | (with_reducible refine at_list ?_; refine wpList_wide rfl rfl rfl Try.underlying26 Try.underlying54 ?_; intro r n hr0; have hr := hr0 _ (by first | with_reducible assumption | exact rfl); clear hr0) | (go_at_call 68; refine stop_here ?_))
  unfold Stop
  refine (HPK.out (K + 2) 5 _ HS2.out (by omega) (by omega)).mono ?_
  rintro e w3 ⟨r2, rfl, ⟨hr21, hr22⟩, hg3, hz3, hs3⟩
  have HG3 := Lib.hid (HG2.out.trans hg3)
  have HS3 := Lib.hid hs3
  clear hg3 hs3 HG2 HS2
  go_wp2_with (first | (with_reducible refine at_list ?_; refine wpList_fop rfl rfl rfl rfl rfl ?_; intro r n hr0; have hr := hr0 _ _ (by first | with_reducible assumption | exact rfl) (by first | with_reducible assumption | exact rfl); clear hr0) | (with_reducible refine at_list ?_; refine wpList_neg rfl rfl rfl ?_; intro r hr0; have hr := hr0 _ (by first | with_reducible assumption | exact rfl); clear hr0) | (with_reducible refine at_list ?_; refine wpList_fop_g rfl rfl rfl rfl rfl ?_; intro r n hr0; have hr := hr0 _ _ (by first | with_reducible assumption | exact rfl) (by first | with_reducible assumption | exact rfl); clear hr0) | (with_reducible refine at_list ?_; refine wpList_wide_g rfl rfl Try.underlying26 Try.underlying54 rfl ?_; intro r n hr0; have hr := hr0 _ (by first | with_reducible assumption | exact rfl); clear hr0) | (with_reducible refine at_list ?_; refine wpList_wide rfl rfl rfl Try.underlying26 Try.underlying54 ?_; intro r n hr0; have hr := hr0 _ (by first | with_reducible assumption | exact rfl); clear hr0) | (go_at_call 69; refine stop_here ?_))
  unfold Stop
  obtain ⟨N, hN⟩ := Int.eq_ofNat_of_zero_le (Int.mul_nonneg (show 0 ≤ 1 + r1 by omega) (show 0 ≤ 1 + r2 by omega))
  have hN1 : 1 * 1 ≤ (1 + r1) * (1 + r2) := Int.mul_le_mul (by omega) (by omega) (by omega) (by omega)
  have hN2 : (1 + r1) * (1 + r2) ≤ 5 * 5 := Int.mul_le_mul (by omega) (by omega) (by omega) (by omega)
  refine (l04Plain_any (1 + r1) (1 + r2) 0 1065353216 N _ hN (by omega)).mono ?_
  rintro e w4 ⟨l, rfl, hb4, hX4⟩
  have hz4 := hb4.size
  have HX4 := Lib.hid hX4
  have HG4 := Lib.hid (HG3.out.trans (Turn.below hb4))
  have HS4 := Lib.hid (HS3.out.later hb4 HS3.out.lt)
  have HD0 : Hid (DR N 0 (plainPl (1 + r1) (1 + r2) 0 1065353216 N)) := by
    refine ⟨?_, ?_, hN, ?_, ?_, ?_, ?_, fun j hj => by omega, fun j hj => by omega, fun j hj => ?_⟩
    · show 1 ≤ 1 + r1 ∧ 1 + r1 ≤ 5; omega
    · show 1 ≤ 1 + r2 ∧ 1 + r2 ≤ 5; omega
    · simp [plainPl]
    · simp [plainPl]
    · simp [plainPl]
    · simp [plainPl]
    · show fin .f32 (cn .f32 ((List.replicate N 0).getD j 0)) = true
      rw [List.getD_eq_getElem?_getD, List.getElem?_replicate]
      split <;> exact V0.fin
  clear hX4 hb4 HG3 HS3
  generalize plainPl (1 + r1) (1 + r2) 0 1065353216 N = P0 at *
  go_wp2_with (first | (with_reducible refine at_list ?_; refine wpList_fop rfl rfl rfl rfl rfl ?_; intro r n hr0; have hr := hr0 _ _ (by first | with_reducible assumption | exact rfl) (by first | with_reducible assumption | exact rfl); clear hr0) | (with_reducible refine at_list ?_; refine wpList_neg rfl rfl rfl ?_; intro r hr0; have hr := hr0 _ (by first | with_reducible assumption | exact rfl); clear hr0) | (with_reducible refine at_list ?_; refine wpList_fop_g rfl rfl rfl rfl rfl ?_; intro r n hr0; have hr := hr0 _ _ (by first | with_reducible assumption | exact rfl) (by first | with_reducible assumption | exact rfl); clear hr0) | (with_reducible refine at_list ?_; refine wpList_wide_g rfl rfl Try.underlying26 Try.underlying54 rfl ?_; intro r n hr0; have hr := hr0 _ (by first | with_reducible assumption | exact rfl); clear hr0) | (with_reducible refine at_list ?_; refine wpList_wide rfl rfl rfl Try.underlying26 Try.underlying54 ?_; intro r n hr0; have hr := hr0 _ (by first | with_reducible assumption | exact rfl); clear hr0))
  refine wp_named ?_
  intro ws hws
  obtain ⟨pb, hpb⟩ : ∃ pb, pb = w4.heap.size := ⟨_, rfl⟩
  rw [← hpb]
  have HPV : Hid (PV w1.heap.size ws pb P0 l) := by show PV _ _ _ _ _; rw [hws, hpb]; exact HX4.out.pv (by omega) (Nat.le_refl _) (by omega)
  have HSs : Hid (SrcAt ws sb (K + 4)) := by show SrcAt _ _ _; rw [hws]; exact HS4.out.later (B := w4.heap.size) ((Below.refl _ _).alloc (Nat.le_refl _) _) HS4.out.lt
  have HGs : Hid (Turn sb (sb + 1) w1 ws) := by show Turn _ _ _ _; rw [hws]; exact HG4.out.trans (Turn.below ((Below.refl _ _).alloc (Nat.le_refl _) _))
  clear hws HX4 HS4 HG4 HS1 HS hpb
  have hpb1 : w1.heap.size ≤ pb := HPV.out.1.2
  go_loopw [6] (fun t wr => ∃ (k : Nat) (P : Pl), k ≤ N ∧ t = .int .i64 k ∧ Hid (DR N k P) ∧ Hid (PV w1.heap.size wr pb P l) ∧ Hid (SrcAt wr sb (K + 4 + 10 * k)) ∧ Hid (Turn sb (sb + 1) w1 wr)) (fun t _ => N - (intOf t).toNat)
  case atStart => exact ⟨0, P0, Nat.zero_le _, rfl, HD0.out, HPV.out, HSs.out, HGs.out⟩
  case round =>
    obtain ⟨k, P, hkN, rfl, HD, HV, HS, HG⟩ := hrel
    clear HPV HSs HGs HD0
    obtain ⟨⟨y0, y1, y2, y3, y4, y5⟩, _⟩ := HV.out.cl
    have la := HD.out.la
    rw [la] at y2
    rw [HD.out.lb] at y3
    rw [HD.out.lc] at y4
    rw [HD.out.ld] at y5
    obtain ⟨KK, hKK⟩ : ∃ q, K + 4 + 10 * k = q := ⟨_, rfl⟩
    rw [hKK] at HS
    have HKK := Lib.hid hKK
    clear hKK
    by_cases hk : k < N
    · have hK1 : KK ≤ 850000 := by have := HKK.out; have := Int.toNat_of_nonneg (show 0 ≤ (N : Int) by omega); omega
      obtain ⟨g1, g2, g3, g4, ⟨e1, e2, e3, e4⟩, ⟨⟨hg1, hn1⟩, ⟨hg2, hn2⟩, ⟨hg3, hn3⟩, ⟨hg4, hn4⟩⟩, hc1, hc2, hc3, hc4⟩ := HV.out.rows (by rw [HD.out.la]; omega) (by rw [HD.out.lb]; omega) (by rw [HD.out.lc]; omega) (by rw [HD.out.ld]; omega)
      have HE := Lib.hid (And.intro e1 (And.intro e2 (And.intro e3 e4)))
      clear y0 y1 y2 y3 y4 y5 e1 e2 e3 e4 hc1 hc2 hc3 hc4
      have hsg1 : sb < g1 := by omega
      have hsg2 : sb < g2 := by omega
      have hsg3 : sb < g3 := by omega
      have hsg4 : sb < g4 := by omega
      have hspb : sb < pb := by omega
      have y2 := HV.out.at2 HE.out.1 HD.out.la
      have yy := HV.out.at2 HE.out.1 HD.out.la
      obtain ⟨zz, ff⟩ := OF.el HV.out.own.1 HE.out.1 (k := k) (by rw [HD.out.la]; exact hk)
      go_wp2_with (first | (with_reducible refine at_list ?_; refine wpList_fop rfl rfl rfl rfl rfl ?_; intro r n hr0; have hr := hr0 _ _ (by first | with_reducible assumption | exact rfl) (by first | with_reducible assumption | exact rfl); clear hr0) | (with_reducible refine at_list ?_; refine wpList_neg rfl rfl rfl ?_; intro r hr0; have hr := hr0 _ (by first | with_reducible assumption | exact rfl); clear hr0) | (with_reducible refine at_list ?_; refine wpList_fop_g rfl rfl rfl rfl rfl ?_; intro r n hr0; have hr := hr0 _ _ (by first | with_reducible assumption | exact rfl) (by first | with_reducible assumption | exact rfl); clear hr0) | (with_reducible refine at_list ?_; refine wpList_wide_g rfl rfl Try.underlying26 Try.underlying54 rfl ?_; intro r n hr0; have hr := hr0 _ (by first | with_reducible assumption | exact rfl); clear hr0) | (with_reducible refine at_list ?_; refine wpList_wide rfl rfl rfl Try.underlying26 Try.underlying54 ?_; intro r n hr0; have hr := hr0 _ (by first | with_reducible assumption | exact rfl); clear hr0))
      (apply wp_region_planG (F := (fun u => u.cell? ⟨pb, 2, none⟩ = some (.slice (some ⟨g1, 0, none⟩) N l.c1))) (srcI wr sb (KK)) srcI_kept; (case hW => exact (by exact ⟨Turn.refl _ _ _, HS.out⟩)); (case hF0 => exact (by (intro u hu; exact hu.cell hspb yy))); ((apply wpG_det; (case hw => exact rfl); (case hs => (intro cs b h; cases h)); (case h1 => (intro w'; go_simp <;> exact rfl))); apply wpG_norm; (case ha => (simp only [Act.put, List.setIfInBounds_toArray, List.set_cons_zero, List.set_cons_succ]; exact rfl))); ((apply wpG_any; (case hw => exact rfl); (case h1 => (intro w' hb; go_simp <;> exact rfl))); apply wpG_norm; (case ha => (simp only [Act.put, List.setIfInBounds_toArray, List.set_cons_zero, List.set_cons_succ]; exact rfl))); ((apply wpG_det; (case hw => exact rfl); (case hs => (intro cs b h; cases h)); (case h1 => (intro w'; go_simp <;> exact rfl))); apply wpG_norm; (case ha => (simp only [Act.put, List.setIfInBounds_toArray, List.set_cons_zero, List.set_cons_succ]; exact rfl))); ((apply wpG_det; (case hw => exact rfl); (case hs => (intro cs b h; cases h)); (case h1 => (intro w'; go_simp <;> exact rfl))); apply wpG_norm; (case ha => (simp only [Act.put, List.setIfInBounds_toArray, List.set_cons_zero, List.set_cons_succ]; exact rfl))); ((apply wpG_pick (n := 33) (K := KK) (by omega) (by omega); (case hw => exact rfl); (case he => (intro w'; go_simp <;> first | exact rfl | exact ⟨rfl, rfl⟩)); intro m hm1 hm2; have e5 : IntKind.i64.wrap (m - 16) = m - 16 := i64_fit (by omega)); apply wpG_norm; (case ha => (simp only [Act.put, List.setIfInBounds_toArray, List.set_cons_zero, List.set_cons_succ]; exact rfl))); ((apply wpG_det; (case hw => exact rfl); (case hs => (intro cs b h; cases h)); (case h1 => (intro w'; go_simp <;> exact rfl))); apply wpG_norm; (case ha => (simp only [Act.put, List.setIfInBounds_toArray, List.set_cons_zero, List.set_cons_succ]; exact rfl))); ((apply wpG_det; (case hw => exact rfl); (case hs => (intro cs b h; cases h)); (case h1 => (intro w'; go_simp <;> exact rfl))); apply wpG_norm; (case ha => (simp only [Act.put, List.setIfInBounds_toArray, List.set_cons_zero, List.set_cons_succ]; exact rfl))); ((apply wpG_fop rfl rfl rfl rfl rfl; intro r hr0; have hr := hr0 _ _ (by first | with_reducible assumption | exact rfl) (by first | with_reducible assumption | exact rfl); clear hr0); apply wpG_norm; (case ha => (simp only [Act.put, List.setIfInBounds_toArray, List.set_cons_zero, List.set_cons_succ]; exact rfl))); ((apply wpG_det; (case hw => exact rfl); (case hs => (intro cs b h; cases h)); (case h1 => (intro w'; go_simp <;> exact rfl))); apply wpG_norm; (case ha => (simp only [Act.put, List.setIfInBounds_toArray, List.set_cons_zero, List.set_cons_succ]; exact rfl))); ((apply wpG_set (I := srcI wr sb (KK + 2)) ⟨g1, k, none⟩ (SW (-16) 16 1073741824) (.float .f32 r) srcI_kept; (case hw => exact rfl); (case hS => exact ⟨r, rfl, m - 16, by omega, hr⟩); (case h1 => (intro u hu; have q1 := hu.cell hsg1 zz; have q2 := hu.free hsg1 zz ff; go_simp))); apply wpG_norm; (case ha => (simp only [Act.put, List.setIfInBounds_toArray, List.set_cons_zero, List.set_cons_succ]; exact rfl))); refine wpG_nil ?_; intro w' hi hkk)
      rotate_left
      case hFs => repeat' (first | exact trivial | (intro u hu; exact srcI.cell hu hspb yy) | (intro u hu; exact putI.cell hu hspb hn1 yy) | constructor)
      all_goals (try (first | kernel_rfl | rfl))
      obtain ⟨v, ⟨xa, rfl, mxa, hmxa, hxxa⟩, hs, hg, u, hpu, hbu⟩ := DI.next (K := KK) ⟨HV.out, HS.out, HG.out⟩ (by omega) (Nat.le_refl _) hg1 hi
      have HVa : Hid (PV w1.heap.size w' pb { P with a := P.a.set k xa } l) := (hpu.set1 HE.out.1 k xa).later hbu
      have HSa := Lib.hid hs
      have HGa := Lib.hid hg
      clear hi hkk hs hg hpu hbu yy zz ff
      obtain ⟨wa, hwa⟩ : ∃ W, W = w' := ⟨_, rfl⟩
      rw [← hwa] at HVa HSa HGa ⊢
      clear hwa
      have yy := HVa.out.at3 HE.out.2.1 HD.out.lb
      obtain ⟨zz, ff⟩ := OF.el HVa.out.own.2.1 HE.out.2.1 (k := k) (by rw [HD.out.lb]; exact hk)
      go_wp2_with (first | (with_reducible refine at_list ?_; refine wpList_fop rfl rfl rfl rfl rfl ?_; intro r n hr0; have hr := hr0 _ _ (by first | with_reducible assumption | exact rfl) (by first | with_reducible assumption | exact rfl); clear hr0) | (with_reducible refine at_list ?_; refine wpList_neg rfl rfl rfl ?_; intro r hr0; have hr := hr0 _ (by first | with_reducible assumption | exact rfl); clear hr0) | (with_reducible refine at_list ?_; refine wpList_fop_g rfl rfl rfl rfl rfl ?_; intro r n hr0; have hr := hr0 _ _ (by first | with_reducible assumption | exact rfl) (by first | with_reducible assumption | exact rfl); clear hr0) | (with_reducible refine at_list ?_; refine wpList_wide_g rfl rfl Try.underlying26 Try.underlying54 rfl ?_; intro r n hr0; have hr := hr0 _ (by first | with_reducible assumption | exact rfl); clear hr0) | (with_reducible refine at_list ?_; refine wpList_wide rfl rfl rfl Try.underlying26 Try.underlying54 ?_; intro r n hr0; have hr := hr0 _ (by first | with_reducible assumption | exact rfl); clear hr0))
      (apply wp_region_planG (F := (fun u => u.cell? ⟨pb, 3, none⟩ = some (.slice (some ⟨g2, 0, none⟩) N l.c2))) (srcI wa sb (KK + 2)) srcI_kept; (case hW => exact (by exact ⟨Turn.refl _ _ _, HSa.out⟩)); (case hF0 => exact (by (intro u hu; exact hu.cell hspb yy))); ((apply wpG_det; (case hw => exact rfl); (case hs => (intro cs b h; cases h)); (case h1 => (intro w'; go_simp <;> exact rfl))); apply wpG_norm; (case ha => (simp only [Act.put, List.setIfInBounds_toArray, List.set_cons_zero, List.set_cons_succ]; exact rfl))); ((apply wpG_any; (case hw => exact rfl); (case h1 => (intro w' hb; go_simp <;> exact rfl))); apply wpG_norm; (case ha => (simp only [Act.put, List.setIfInBounds_toArray, List.set_cons_zero, List.set_cons_succ]; exact rfl))); ((apply wpG_det; (case hw => exact rfl); (case hs => (intro cs b h; cases h)); (case h1 => (intro w'; go_simp <;> exact rfl))); apply wpG_norm; (case ha => (simp only [Act.put, List.setIfInBounds_toArray, List.set_cons_zero, List.set_cons_succ]; exact rfl))); ((apply wpG_det; (case hw => exact rfl); (case hs => (intro cs b h; cases h)); (case h1 => (intro w'; go_simp <;> exact rfl))); apply wpG_norm; (case ha => (simp only [Act.put, List.setIfInBounds_toArray, List.set_cons_zero, List.set_cons_succ]; exact rfl))); ((apply wpG_pick (n := 8) (K := KK + 2) (by omega) (by omega); (case hw => exact rfl); (case he => (intro w'; go_simp <;> first | exact rfl | exact ⟨rfl, rfl⟩)); intro m hm1 hm2; have e5 : IntKind.i64.wrap (1 + m) = 1 + m := i64_fit (by omega)); apply wpG_norm; (case ha => (simp only [Act.put, List.setIfInBounds_toArray, List.set_cons_zero, List.set_cons_succ]; exact rfl))); ((apply wpG_det; (case hw => exact rfl); (case hs => (intro cs b h; cases h)); (case h1 => (intro w'; go_simp <;> exact rfl))); apply wpG_norm; (case ha => (simp only [Act.put, List.setIfInBounds_toArray, List.set_cons_zero, List.set_cons_succ]; exact rfl))); ((apply wpG_det; (case hw => exact rfl); (case hs => (intro cs b h; cases h)); (case h1 => (intro w'; go_simp <;> exact rfl))); apply wpG_norm; (case ha => (simp only [Act.put, List.setIfInBounds_toArray, List.set_cons_zero, List.set_cons_succ]; exact rfl))); ((apply wpG_fop rfl rfl rfl rfl rfl; intro r hr0; have hr := hr0 _ _ (by first | with_reducible assumption | exact rfl) (by first | with_reducible assumption | exact rfl); clear hr0); apply wpG_norm; (case ha => (simp only [Act.put, List.setIfInBounds_toArray, List.set_cons_zero, List.set_cons_succ]; exact rfl))); ((apply wpG_det; (case hw => exact rfl); (case hs => (intro cs b h; cases h)); (case h1 => (intro w'; go_simp <;> exact rfl))); apply wpG_norm; (case ha => (simp only [Act.put, List.setIfInBounds_toArray, List.set_cons_zero, List.set_cons_succ]; exact rfl))); ((apply wpG_set (I := srcI wa sb (KK + 2 + 2)) ⟨g2, k, none⟩ (SW (1) 8 1082130432) (.float .f32 r) srcI_kept; (case hw => exact rfl); (case hS => exact ⟨r, rfl, 1 + m, by omega, hr⟩); (case h1 => (intro u hu; have q1 := hu.cell hsg2 zz; have q2 := hu.free hsg2 zz ff; go_simp))); apply wpG_norm; (case ha => (simp only [Act.put, List.setIfInBounds_toArray, List.set_cons_zero, List.set_cons_succ]; exact rfl))); refine wpG_nil ?_; intro w' hi hkk)
      rotate_left
      case hFs => repeat' (first | exact trivial | (intro u hu; exact srcI.cell hu hspb yy) | (intro u hu; exact putI.cell hu hspb hn2 yy) | constructor)
      all_goals (try (first | kernel_rfl | rfl))
      obtain ⟨v, ⟨xb, rfl, mxb, hmxb, hxxb⟩, hs, hg, u, hpu, hbu⟩ := DI.next (K := KK + 2) ⟨HVa.out, HSa.out, HGa.out⟩ (by omega) (Nat.le_refl _) hg2 hi
      have HVb : Hid (PV w1.heap.size w' pb { P with a := P.a.set k xa, b := P.b.set k xb } l) := (hpu.set2 HE.out.2.1 k xb).later hbu
      have HSb := Lib.hid hs
      have HGb := Lib.hid hg
      clear hi hkk hs hg hpu hbu yy zz ff
      obtain ⟨wb, hwb⟩ : ∃ W, W = w' := ⟨_, rfl⟩
      rw [← hwb] at HVb HSb HGb ⊢
      clear hwb HVa HSa HGa
      go_wp2_with (first | (with_reducible refine at_list ?_; refine wpList_fop rfl rfl rfl rfl rfl ?_; intro r n hr0; have hr := hr0 _ _ (by first | with_reducible assumption | exact rfl) (by first | with_reducible assumption | exact rfl); clear hr0) | (with_reducible refine at_list ?_; refine wpList_neg rfl rfl rfl ?_; intro r hr0; have hr := hr0 _ (by first | with_reducible assumption | exact rfl); clear hr0) | (with_reducible refine at_list ?_; refine wpList_fop_g rfl rfl rfl rfl rfl ?_; intro r n hr0; have hr := hr0 _ _ (by first | with_reducible assumption | exact rfl) (by first | with_reducible assumption | exact rfl); clear hr0) | (with_reducible refine at_list ?_; refine wpList_wide_g rfl rfl Try.underlying26 Try.underlying54 rfl ?_; intro r n hr0; have hr := hr0 _ (by first | with_reducible assumption | exact rfl); clear hr0) | (with_reducible refine at_list ?_; refine wpList_wide rfl rfl rfl Try.underlying26 Try.underlying54 ?_; intro r n hr0; have hr := hr0 _ (by first | with_reducible assumption | exact rfl); clear hr0) | (go_at_call 70; refine stop_here ?_))
      unfold Stop
      refine (HON.out (KK + 4) 4 _ HSb.out (by omega) (by omega)).mono ?_
      rintro e wc ⟨c, rfl, hg, hz, hs⟩
      have HVc := Lib.hid (HVb.out.kept hg.grown (by omega))
      have HSc := Lib.hid hs
      have HGc := Lib.hid (HGb.out.trans hg)
      clear hg hs HVb HSb HGb
      cases c
      · skip
        have yy := HVc.out.at5 HE.out.2.2.2 HD.out.ld
        obtain ⟨zz, ff⟩ := OL.el HVc.out.own.2.2.2 HE.out.2.2.2 (k := k) (by rw [HD.out.ld]; exact hk)
        go_wp2_with (first | (with_reducible refine at_list ?_; refine wpList_fop rfl rfl rfl rfl rfl ?_; intro r n hr0; have hr := hr0 _ _ (by first | with_reducible assumption | exact rfl) (by first | with_reducible assumption | exact rfl); clear hr0) | (with_reducible refine at_list ?_; refine wpList_neg rfl rfl rfl ?_; intro r hr0; have hr := hr0 _ (by first | with_reducible assumption | exact rfl); clear hr0) | (with_reducible refine at_list ?_; refine wpList_fop_g rfl rfl rfl rfl rfl ?_; intro r n hr0; have hr := hr0 _ _ (by first | with_reducible assumption | exact rfl) (by first | with_reducible assumption | exact rfl); clear hr0) | (with_reducible refine at_list ?_; refine wpList_wide_g rfl rfl Try.underlying26 Try.underlying54 rfl ?_; intro r n hr0; have hr := hr0 _ (by first | with_reducible assumption | exact rfl); clear hr0) | (with_reducible refine at_list ?_; refine wpList_wide rfl rfl rfl Try.underlying26 Try.underlying54 ?_; intro r n hr0; have hr := hr0 _ (by first | with_reducible assumption | exact rfl); clear hr0))
        (apply wp_region_planG (F := (fun u => u.cell? ⟨pb, 5, none⟩ = some (.slice (some ⟨g4, 0, none⟩) N l.c4))) (srcI wc sb (KK + 6)) srcI_kept; (case hW => exact (by exact ⟨Turn.refl _ _ _, HSc.out⟩)); (case hF0 => exact (by (intro u hu; exact hu.cell hspb yy))); ((apply wpG_det; (case hw => exact rfl); (case hs => (intro cs b h; cases h)); (case h1 => (intro w'; go_simp <;> exact rfl))); apply wpG_norm; (case ha => (simp only [Act.put, List.setIfInBounds_toArray, List.set_cons_zero, List.set_cons_succ]; exact rfl))); ((apply wpG_any; (case hw => exact rfl); (case h1 => (intro w' hb; go_simp <;> exact rfl))); apply wpG_norm; (case ha => (simp only [Act.put, List.setIfInBounds_toArray, List.set_cons_zero, List.set_cons_succ]; exact rfl))); ((apply wpG_det; (case hw => exact rfl); (case hs => (intro cs b h; cases h)); (case h1 => (intro w'; go_simp <;> exact rfl))); apply wpG_norm; (case ha => (simp only [Act.put, List.setIfInBounds_toArray, List.set_cons_zero, List.set_cons_succ]; exact rfl))); ((apply wpG_det; (case hw => exact rfl); (case hs => (intro cs b h; cases h)); (case h1 => (intro w'; go_simp <;> exact rfl))); apply wpG_norm; (case ha => (simp only [Act.put, List.setIfInBounds_toArray, List.set_cons_zero, List.set_cons_succ]; exact rfl))); ((apply wpG_bool (n := 4) (K := KK + 6) (by omega) (by omega); (case hw => exact rfl); (case he => (intro w'; go_simp <;> first | exact rfl | exact ⟨rfl, rfl⟩)); intro r); apply wpG_norm; (case ha => (simp only [Act.put, List.setIfInBounds_toArray, List.set_cons_zero, List.set_cons_succ]; exact rfl))); ((apply wpG_det; (case hw => exact rfl); (case hs => (intro cs b h; cases h)); (case h1 => (intro w'; go_simp <;> exact rfl))); apply wpG_norm; (case ha => (simp only [Act.put, List.setIfInBounds_toArray, List.set_cons_zero, List.set_cons_succ]; exact rfl))); ((apply wpG_set (I := srcI wc sb (KK + 6 + 2)) ⟨g4, k, none⟩ SBl (.bool r) srcI_kept; (case hw => exact rfl); (case hS => exact ⟨r, rfl⟩); (case h1 => (intro u hu; have q1 := hu.cell hsg4 zz; have q2 := hu.free hsg4 zz ff; go_simp))); apply wpG_norm; (case ha => (simp only [Act.put, List.setIfInBounds_toArray, List.set_cons_zero, List.set_cons_succ]; exact rfl))); refine wpG_nil ?_; intro w' hi hkk)
        rotate_left
        case hFs => repeat' (first | exact trivial | (intro u hu; exact srcI.cell hu hspb yy) | (intro u hu; exact putI.cell hu hspb hn4 yy) | constructor)
        all_goals (try (first | kernel_rfl | rfl))
        obtain ⟨v, ⟨xd, rfl⟩, hs, hg, u, hpu, hbu⟩ := DI.next (K := KK + 6) ⟨HVc.out, HSc.out, HGc.out⟩ (by omega) (Nat.le_refl _) hg4 hi
        have HVd := Lib.hid ((hpu.set4 HE.out.2.2.2 k xd).later hbu)
        have HS9 := Lib.hid (hs.mono (show KK + 6 + 2 ≤ K + 4 + 10 * (k + 1) by have := HKK.out; omega))
        have HG9 := Lib.hid hg
        clear hi hkk hs hg hpu hbu yy zz ff
        go_wp2_with (first | (with_reducible refine at_list ?_; refine wpList_fop rfl rfl rfl rfl rfl ?_; intro r n hr0; have hr := hr0 _ _ (by first | with_reducible assumption | exact rfl) (by first | with_reducible assumption | exact rfl); clear hr0) | (with_reducible refine at_list ?_; refine wpList_neg rfl rfl rfl ?_; intro r hr0; have hr := hr0 _ (by first | with_reducible assumption | exact rfl); clear hr0) | (with_reducible refine at_list ?_; refine wpList_fop_g rfl rfl rfl rfl rfl ?_; intro r n hr0; have hr := hr0 _ _ (by first | with_reducible assumption | exact rfl) (by first | with_reducible assumption | exact rfl); clear hr0) | (with_reducible refine at_list ?_; refine wpList_wide_g rfl rfl Try.underlying26 Try.underlying54 rfl ?_; intro r n hr0; have hr := hr0 _ (by first | with_reducible assumption | exact rfl); clear hr0) | (with_reducible refine at_list ?_; refine wpList_wide rfl rfl rfl Try.underlying26 Try.underlying54 ?_; intro r n hr0; have hr := hr0 _ (by first | with_reducible assumption | exact rfl); clear hr0))
        go_roundw
        case rel => exact ⟨k + 1, _, by omega, by go_num, HD.out.step hk hmxa hxxa hmxb hxxb HD.out.lc HD.out.c (by rw [List.length_set]; exact HD.out.ld), HVd.out, HS9.out, HG9.out⟩
        case measure => simp [intOf]; omega
      · skip
        have yy := HVc.out.at4 HE.out.2.2.1 HD.out.lc
        obtain ⟨zz, ff⟩ := OF.el HVc.out.own.2.2.1 HE.out.2.2.1 (k := k) (by rw [HD.out.lc]; exact hk)
        go_wp2_with (first | (with_reducible refine at_list ?_; refine wpList_fop rfl rfl rfl rfl rfl ?_; intro r n hr0; have hr := hr0 _ _ (by first | with_reducible assumption | exact rfl) (by first | with_reducible assumption | exact rfl); clear hr0) | (with_reducible refine at_list ?_; refine wpList_neg rfl rfl rfl ?_; intro r hr0; have hr := hr0 _ (by first | with_reducible assumption | exact rfl); clear hr0) | (with_reducible refine at_list ?_; refine wpList_fop_g rfl rfl rfl rfl rfl ?_; intro r n hr0; have hr := hr0 _ _ (by first | with_reducible assumption | exact rfl) (by first | with_reducible assumption | exact rfl); clear hr0) | (with_reducible refine at_list ?_; refine wpList_wide_g rfl rfl Try.underlying26 Try.underlying54 rfl ?_; intro r n hr0; have hr := hr0 _ (by first | with_reducible assumption | exact rfl); clear hr0) | (with_reducible refine at_list ?_; refine wpList_wide rfl rfl rfl Try.underlying26 Try.underlying54 ?_; intro r n hr0; have hr := hr0 _ (by first | with_reducible assumption | exact rfl); clear hr0))
        (apply wp_region_planG (F := (fun u => u.cell? ⟨pb, 4, none⟩ = some (.slice (some ⟨g3, 0, none⟩) N l.c3))) (srcI wc sb (KK + 6)) srcI_kept; (case hW => exact (by exact ⟨Turn.refl _ _ _, HSc.out⟩)); (case hF0 => exact (by (intro u hu; exact hu.cell hspb yy))); ((apply wpG_det; (case hw => exact rfl); (case hs => (intro cs b h; cases h)); (case h1 => (intro w'; go_simp <;> exact rfl))); apply wpG_norm; (case ha => (simp only [Act.put, List.setIfInBounds_toArray, List.set_cons_zero, List.set_cons_succ]; exact rfl))); ((apply wpG_any; (case hw => exact rfl); (case h1 => (intro w' hb; go_simp <;> exact rfl))); apply wpG_norm; (case ha => (simp only [Act.put, List.setIfInBounds_toArray, List.set_cons_zero, List.set_cons_succ]; exact rfl))); ((apply wpG_det; (case hw => exact rfl); (case hs => (intro cs b h; cases h)); (case h1 => (intro w'; go_simp <;> exact rfl))); apply wpG_norm; (case ha => (simp only [Act.put, List.setIfInBounds_toArray, List.set_cons_zero, List.set_cons_succ]; exact rfl))); ((apply wpG_det; (case hw => exact rfl); (case hs => (intro cs b h; cases h)); (case h1 => (intro w'; go_simp <;> exact rfl))); apply wpG_norm; (case ha => (simp only [Act.put, List.setIfInBounds_toArray, List.set_cons_zero, List.set_cons_succ]; exact rfl))); ((apply wpG_pick (n := 9) (K := KK + 6) (by omega) (by omega); (case hw => exact rfl); (case he => (intro w'; go_simp <;> first | exact rfl | exact ⟨rfl, rfl⟩)); intro m hm1 hm2; have e5 : IntKind.i64.wrap (m - 4) = m - 4 := i64_fit (by omega)); apply wpG_norm; (case ha => (simp only [Act.put, List.setIfInBounds_toArray, List.set_cons_zero, List.set_cons_succ]; exact rfl))); ((apply wpG_det; (case hw => exact rfl); (case hs => (intro cs b h; cases h)); (case h1 => (intro w'; go_simp <;> exact rfl))); apply wpG_norm; (case ha => (simp only [Act.put, List.setIfInBounds_toArray, List.set_cons_zero, List.set_cons_succ]; exact rfl))); ((apply wpG_det; (case hw => exact rfl); (case hs => (intro cs b h; cases h)); (case h1 => (intro w'; go_simp <;> exact rfl))); apply wpG_norm; (case ha => (simp only [Act.put, List.setIfInBounds_toArray, List.set_cons_zero, List.set_cons_succ]; exact rfl))); ((apply wpG_fop rfl rfl rfl rfl rfl; intro r hr0; have hr := hr0 _ _ (by first | with_reducible assumption | exact rfl) (by first | with_reducible assumption | exact rfl); clear hr0); apply wpG_norm; (case ha => (simp only [Act.put, List.setIfInBounds_toArray, List.set_cons_zero, List.set_cons_succ]; exact rfl))); ((apply wpG_det; (case hw => exact rfl); (case hs => (intro cs b h; cases h)); (case h1 => (intro w'; go_simp <;> exact rfl))); apply wpG_norm; (case ha => (simp only [Act.put, List.setIfInBounds_toArray, List.set_cons_zero, List.set_cons_succ]; exact rfl))); ((apply wpG_set (I := srcI wc sb (KK + 6 + 2)) ⟨g3, k, none⟩ (SW (-4) 4 1082130432) (.float .f32 r) srcI_kept; (case hw => exact rfl); (case hS => exact ⟨r, rfl, m - 4, by omega, hr⟩); (case h1 => (intro u hu; have q1 := hu.cell hsg3 zz; have q2 := hu.free hsg3 zz ff; go_simp))); apply wpG_norm; (case ha => (simp only [Act.put, List.setIfInBounds_toArray, List.set_cons_zero, List.set_cons_succ]; exact rfl))); refine wpG_nil ?_; intro w' hi hkk)
        rotate_left
        case hFs => repeat' (first | exact trivial | (intro u hu; exact srcI.cell hu hspb yy) | (intro u hu; exact putI.cell hu hspb hn3 yy) | constructor)
        all_goals (try (first | kernel_rfl | rfl))
        obtain ⟨v, ⟨xc, rfl, mxc, hmxc, hxxc⟩, hs, hg, u, hpu, hbu⟩ := DI.next (K := KK + 6) ⟨HVc.out, HSc.out, HGc.out⟩ (by omega) (Nat.le_refl _) hg3 hi
        have HVe : Hid (PV w1.heap.size w' pb { P with a := P.a.set k xa, b := P.b.set k xb, c := P.c.set k xc } l) := (hpu.set3 HE.out.2.2.1 k xc).later hbu
        have HSe := Lib.hid hs
        have HGe := Lib.hid hg
        clear hi hkk hs hg hpu hbu yy zz ff
        obtain ⟨we, hwe⟩ : ∃ W, W = w' := ⟨_, rfl⟩
        rw [← hwe] at HVe HSe HGe ⊢
        clear hwe HVc HSc HGc
        have yy := HVe.out.at5 HE.out.2.2.2 HD.out.ld
        obtain ⟨zz, ff⟩ := OL.el HVe.out.own.2.2.2 HE.out.2.2.2 (k := k) (by rw [HD.out.ld]; exact hk)
        go_wp2_with (first | (with_reducible refine at_list ?_; refine wpList_fop rfl rfl rfl rfl rfl ?_; intro r n hr0; have hr := hr0 _ _ (by first | with_reducible assumption | exact rfl) (by first | with_reducible assumption | exact rfl); clear hr0) | (with_reducible refine at_list ?_; refine wpList_neg rfl rfl rfl ?_; intro r hr0; have hr := hr0 _ (by first | with_reducible assumption | exact rfl); clear hr0) | (with_reducible refine at_list ?_; refine wpList_fop_g rfl rfl rfl rfl rfl ?_; intro r n hr0; have hr := hr0 _ _ (by first | with_reducible assumption | exact rfl) (by first | with_reducible assumption | exact rfl); clear hr0) | (with_reducible refine at_list ?_; refine wpList_wide_g rfl rfl Try.underlying26 Try.underlying54 rfl ?_; intro r n hr0; have hr := hr0 _ (by first | with_reducible assumption | exact rfl); clear hr0) | (with_reducible refine at_list ?_; refine wpList_wide rfl rfl rfl Try.underlying26 Try.underlying54 ?_; intro r n hr0; have hr := hr0 _ (by first | with_reducible assumption | exact rfl); clear hr0))
        (apply wp_region_planG (F := (fun u => u.cell? ⟨pb, 5, none⟩ = some (.slice (some ⟨g4, 0, none⟩) N l.c4))) (srcI we sb (KK + 8)) srcI_kept; (case hW => exact (by exact ⟨Turn.refl _ _ _, HSe.out⟩)); (case hF0 => exact (by (intro u hu; exact hu.cell hspb yy))); ((apply wpG_det; (case hw => exact rfl); (case hs => (intro cs b h; cases h)); (case h1 => (intro w'; go_simp <;> exact rfl))); apply wpG_norm; (case ha => (simp only [Act.put, List.setIfInBounds_toArray, List.set_cons_zero, List.set_cons_succ]; exact rfl))); ((apply wpG_any; (case hw => exact rfl); (case h1 => (intro w' hb; go_simp <;> exact rfl))); apply wpG_norm; (case ha => (simp only [Act.put, List.setIfInBounds_toArray, List.set_cons_zero, List.set_cons_succ]; exact rfl))); ((apply wpG_det; (case hw => exact rfl); (case hs => (intro cs b h; cases h)); (case h1 => (intro w'; go_simp <;> exact rfl))); apply wpG_norm; (case ha => (simp only [Act.put, List.setIfInBounds_toArray, List.set_cons_zero, List.set_cons_succ]; exact rfl))); ((apply wpG_det; (case hw => exact rfl); (case hs => (intro cs b h; cases h)); (case h1 => (intro w'; go_simp <;> exact rfl))); apply wpG_norm; (case ha => (simp only [Act.put, List.setIfInBounds_toArray, List.set_cons_zero, List.set_cons_succ]; exact rfl))); ((apply wpG_bool (n := 4) (K := KK + 8) (by omega) (by omega); (case hw => exact rfl); (case he => (intro w'; go_simp <;> first | exact rfl | exact ⟨rfl, rfl⟩)); intro r); apply wpG_norm; (case ha => (simp only [Act.put, List.setIfInBounds_toArray, List.set_cons_zero, List.set_cons_succ]; exact rfl))); ((apply wpG_det; (case hw => exact rfl); (case hs => (intro cs b h; cases h)); (case h1 => (intro w'; go_simp <;> exact rfl))); apply wpG_norm; (case ha => (simp only [Act.put, List.setIfInBounds_toArray, List.set_cons_zero, List.set_cons_succ]; exact rfl))); ((apply wpG_set (I := srcI we sb (KK + 8 + 2)) ⟨g4, k, none⟩ SBl (.bool r) srcI_kept; (case hw => exact rfl); (case hS => exact ⟨r, rfl⟩); (case h1 => (intro u hu; have q1 := hu.cell hsg4 zz; have q2 := hu.free hsg4 zz ff; go_simp))); apply wpG_norm; (case ha => (simp only [Act.put, List.setIfInBounds_toArray, List.set_cons_zero, List.set_cons_succ]; exact rfl))); refine wpG_nil ?_; intro w' hi hkk)
        rotate_left
        case hFs => repeat' (first | exact trivial | (intro u hu; exact srcI.cell hu hspb yy) | (intro u hu; exact putI.cell hu hspb hn4 yy) | constructor)
        all_goals (try (first | kernel_rfl | rfl))
        obtain ⟨v, ⟨xd, rfl⟩, hs, hg, u, hpu, hbu⟩ := DI.next (K := KK + 8) ⟨HVe.out, HSe.out, HGe.out⟩ (by omega) (Nat.le_refl _) hg4 hi
        have HVd := Lib.hid ((hpu.set4 HE.out.2.2.2 k xd).later hbu)
        have HS9 := Lib.hid (hs.mono (show KK + 8 + 2 ≤ K + 4 + 10 * (k + 1) by have := HKK.out; omega))
        have HG9 := Lib.hid hg
        clear hi hkk hs hg hpu hbu yy zz ff
        go_wp2_with (first | (with_reducible refine at_list ?_; refine wpList_fop rfl rfl rfl rfl rfl ?_; intro r n hr0; have hr := hr0 _ _ (by first | with_reducible assumption | exact rfl) (by first | with_reducible assumption | exact rfl); clear hr0) | (with_reducible refine at_list ?_; refine wpList_neg rfl rfl rfl ?_; intro r hr0; have hr := hr0 _ (by first | with_reducible assumption | exact rfl); clear hr0) | (with_reducible refine at_list ?_; refine wpList_fop_g rfl rfl rfl rfl rfl ?_; intro r n hr0; have hr := hr0 _ _ (by first | with_reducible assumption | exact rfl) (by first | with_reducible assumption | exact rfl); clear hr0) | (with_reducible refine at_list ?_; refine wpList_wide_g rfl rfl Try.underlying26 Try.underlying54 rfl ?_; intro r n hr0; have hr := hr0 _ (by first | with_reducible assumption | exact rfl); clear hr0) | (with_reducible refine at_list ?_; refine wpList_wide rfl rfl rfl Try.underlying26 Try.underlying54 ?_; intro r n hr0; have hr := hr0 _ (by first | with_reducible assumption | exact rfl); clear hr0))
        go_roundw
        case rel => exact ⟨k + 1, _, by omega, by go_num, HD.out.step hk hmxa hxxa hmxb hxxb (by rw [List.length_set]; exact HD.out.lc) (fin_set HD.out.lc hk HD.out.c (by rw [hxxc]; exact (quarter_val (by omega)).fin)) (by rw [List.length_set]; exact HD.out.ld), HVd.out, HS9.out, HG9.out⟩
        case measure => simp [intOf]; omega
    · have hkN' : k = N := by omega
      subst hkN'
      clear y0 y1 y2 y3 y4 y5 la
      obtain ⟨⟨y0, y1, y2, y3, y4, y5⟩, _⟩ := HV.out.cl
      have hzw : w1.heap.size ≤ wr.heap.size := HG.out.size
      have hbl : wr.heap[b2]? = w1.heap[b2]? := HG.out.block b2 (by omega) (.inr (by omega))
      obtain ⟨⟨q0, q1, q2, q3, q4, q5⟩, qf⟩ := HR.out
      have t0 := (World.cell?_of_block (a := ⟨b2, 0, none⟩) hbl).trans q0
      have t1 := (World.cell?_of_block (a := ⟨b2, 1, none⟩) hbl).trans q1
      have t2 := (World.cell?_of_block (a := ⟨b2, 2, none⟩) hbl).trans q2
      have t3 := (World.cell?_of_block (a := ⟨b2, 3, none⟩) hbl).trans q3
      have t4 := (World.cell?_of_block (a := ⟨b2, 4, none⟩) hbl).trans q4
      have t5 := (World.cell?_of_block (a := ⟨b2, 5, none⟩) hbl).trans q5
      have tf : ∀ o, wr.frozen? ⟨b2, o, none⟩ = false := fun o => (World.frozen?_of_block (a := ⟨b2, o, none⟩) hbl).trans (qf o)
      have hlN : P.a.length = k := HD.out.la
      have hne : pb ≠ b2 := by omega
      have hne' : b2 ≠ pb := by omega
      have HLN := Lib.hid hlN
      rw [hlN] at y2
      clear q0 q1 q2 q3 q4 q5 qf hbl hlN
      go_wp2_with (first | (with_reducible refine at_list ?_; refine wpList_fop rfl rfl rfl rfl rfl ?_; intro r n hr0; have hr := hr0 _ _ (by first | with_reducible assumption | exact rfl) (by first | with_reducible assumption | exact rfl); clear hr0) | (with_reducible refine at_list ?_; refine wpList_neg rfl rfl rfl ?_; intro r hr0; have hr := hr0 _ (by first | with_reducible assumption | exact rfl); clear hr0) | (with_reducible refine at_list ?_; refine wpList_fop_g rfl rfl rfl rfl rfl ?_; intro r n hr0; have hr := hr0 _ _ (by first | with_reducible assumption | exact rfl) (by first | with_reducible assumption | exact rfl); clear hr0) | (with_reducible refine at_list ?_; refine wpList_wide_g rfl rfl Try.underlying26 Try.underlying54 rfl ?_; intro r n hr0; have hr := hr0 _ (by first | with_reducible assumption | exact rfl); clear hr0) | (with_reducible refine at_list ?_; refine wpList_wide rfl rfl rfl Try.underlying26 Try.underlying54 ?_; intro r n hr0; have hr := hr0 _ (by first | with_reducible assumption | exact rfl); clear hr0))
      refine bodyPost_ret (v := .agg #[.int .i64 P.W, .int .i64 P.H, .slice l.p1 k l.c1, .slice l.p2 P.b.length l.c2, .slice l.p3 P.c.length l.c3, .slice l.p4 P.d.length l.c4]) (by simp [results, Try.results49, go_sem, *]) rfl ?_
      have hb0 := HB2.out
      have ho := ((((((HV.out.own.setCell (a := ⟨b2, 0, none⟩) (by show b2 < _; omega) (.int .i64 P.W)).setCell (a := ⟨b2, 1, none⟩) (by show b2 < _; omega) (.int .i64 P.H)).setCell (a := ⟨b2, 2, none⟩) (by show b2 < _; omega) (.slice l.p1 k l.c1)).setCell (a := ⟨b2, 3, none⟩) (by show b2 < _; omega) (.slice l.p2 P.b.length l.c2)).setCell (a := ⟨b2, 4, none⟩) (by show b2 < _; omega) (.slice l.p3 P.c.length l.c3)).setCell (a := ⟨b2, 5, none⟩) (by show b2 < _; omega) (.slice l.p4 P.d.length l.c4))
      have hg : w.heap.size ≤ b2 := by omega
      have hG := HG1.out.trans HG.out
      exact ⟨P, l, by rw [HLN.out], HD.out.done, ho.base (by omega), (((((hG.set (ad := ⟨b2, 0, none⟩) hg _).set (ad := ⟨b2, 1, none⟩) hg _).set (ad := ⟨b2, 2, none⟩) hg _).set (ad := ⟨b2, 3, none⟩) hg _).set (ad := ⟨b2, 4, none⟩) hg _).set (ad := ⟨b2, 5, none⟩) hg _⟩
set_option maxHeartbeats 4000000 in
theorem R8Plate_any (p : Option Addr) (n c : Nat) (w : World) (h : BY w.heap.size w p n c) (hn : n ≤ 1048576) : Calls Try.prog 21 #[.slice p n c] w (fun e w' => ∃ (P : Pl) (l : Lay), e = .returned (.agg #[.int .i64 P.W, .int .i64 P.H, .slice l.p1 P.a.length l.c1, .slice l.p2 P.b.length l.c2, .slice l.p3 P.c.length l.c3, .slice l.p4 P.d.length l.c4]) ∧ DP P ∧ P.fs w' l ∧ Below w.heap.size w w') := by
  have H := Lib.hid h
  have HN := Lib.hid hn
  clear h hn
  go_enter Try.func21, Try.ntmps21
  go_wp2_with (first | (with_reducible refine at_list ?_; refine wpList_fop rfl rfl rfl rfl rfl ?_; intro r n hr0; have hr := hr0 _ _ (by first | with_reducible assumption | exact rfl) (by first | with_reducible assumption | exact rfl); clear hr0) | (with_reducible refine at_list ?_; refine wpList_neg rfl rfl rfl ?_; intro r hr0; have hr := hr0 _ (by first | with_reducible assumption | exact rfl); clear hr0) | (with_reducible refine at_list ?_; refine wpList_fop_g rfl rfl rfl rfl rfl ?_; intro r n hr0; have hr := hr0 _ _ (by first | with_reducible assumption | exact rfl) (by first | with_reducible assumption | exact rfl); clear hr0) | (with_reducible refine at_list ?_; refine wpList_wide_g rfl rfl Try.underlying26 Try.underlying54 rfl ?_; intro r n hr0; have hr := hr0 _ (by first | with_reducible assumption | exact rfl); clear hr0) | (with_reducible refine at_list ?_; refine wpList_wide rfl rfl rfl Try.underlying26 Try.underlying54 ?_; intro r n hr0; have hr := hr0 _ (by first | with_reducible assumption | exact rfl); clear hr0) | (go_at_call 48; refine (l00From_any _ _ _ _ ((H.out.later (C := w.heap.size) (by (repeat (first | (with_reducible exact Below.refl _ _) | (with_reducible assumption) | (with_reducible refine below_then ?_ (by assumption)) | (with_reducible refine Below.trans ?_ (by assumption)) | (with_reducible refine below_drewN ?_ _) | (with_reducible apply Below.drew) | (with_reducible refine below_alloc ?_ _) | refine Below.setCell ?_ (by first | (simp; done) | (simp; omega)) _))) (Nat.le_refl _)).mono (by first | omega | (simp; done) | (simp; omega))) HN.out).mono ?_; rintro e w' ⟨rfl, hb, hs⟩; (try simp only [World.size_alloc] at hs); have HS := Lib.hid hs; clear hs; obtain ⟨hT, hk⟩ := bv_next hb (by (repeat (with_reducible first | assumption | apply Trk.alloc | apply Trk.setCell | apply Trk.drewN | apply Trk.drew | exact Trk.nil _))); simp only [SameOn, World.size_alloc, World.size_setCell, World.size_drew, size_drewN', and_true] at hk; have hsz := Below.size hb; (try simp only [World.size_alloc, World.size_setCell, World.size_drew, size_drewN'] at hsz)) | (go_at_call 49; refine stop_here ?_))
  unfold Stop
  refine (l04DrawOk_any (w.heap.size + 1) 0 _ HS.out (by omega)).mono ?_
  rintro e w2 ⟨P, l, rfl, hd, hfs, hg⟩
  have hbs : w.heap.size < w'.heap.size := by omega
  have HF := Lib.hid (((((((hfs.base (show w.heap.size + 1 ≤ w'.heap.size by omega)).setCell (a := ⟨w.heap.size, 0, none⟩) (Nat.lt_succ_self _) (.int .i64 P.W)).setCell (a := ⟨w.heap.size, 1, none⟩) (Nat.lt_succ_self _) (.int .i64 P.H)).setCell (a := ⟨w.heap.size, 2, none⟩) (Nat.lt_succ_self _) (.slice l.p1 P.a.length l.c1)).setCell (a := ⟨w.heap.size, 3, none⟩) (Nat.lt_succ_self _) (.slice l.p2 P.b.length l.c2)).setCell (a := ⟨w.heap.size, 4, none⟩) (Nat.lt_succ_self _) (.slice l.p3 P.c.length l.c3)).setCell (a := ⟨w.heap.size, 5, none⟩) (Nat.lt_succ_self _) (.slice l.p4 P.d.length l.c4))
  have hB : Below w.heap.size w w2 := (show Below w.heap.size w w' by (repeat (first | (with_reducible exact Below.refl _ _) | (with_reducible assumption) | (with_reducible refine below_then ?_ (by assumption)) | (with_reducible refine Below.trans ?_ (by assumption)) | (with_reducible refine below_drewN ?_ _) | (with_reducible apply Below.drew) | (with_reducible refine below_alloc ?_ _) | refine Below.setCell ?_ (by first | (simp; done) | (simp; omega)) _))).trans ⟨hg.os, hg.tape, hg.output, hg.size, fun k hk' => hg.block k (by omega) (.inl (by omega))⟩
  obtain ⟨hT2, hk2⟩ := turn_track hg (L := [w.heap.size]) (fun x hx => by simp at hx; omega) (by simp)
  simp only [SameOn, and_true] at hk2
  have hz2 := hg.size
  clear hg hb hT hT2 hfs
  go_wp2_with (first | (with_reducible refine at_list ?_; refine wpList_fop rfl rfl rfl rfl rfl ?_; intro r n hr0; have hr := hr0 _ _ (by first | with_reducible assumption | exact rfl) (by first | with_reducible assumption | exact rfl); clear hr0) | (with_reducible refine at_list ?_; refine wpList_neg rfl rfl rfl ?_; intro r hr0; have hr := hr0 _ (by first | with_reducible assumption | exact rfl); clear hr0) | (with_reducible refine at_list ?_; refine wpList_fop_g rfl rfl rfl rfl rfl ?_; intro r n hr0; have hr := hr0 _ _ (by first | with_reducible assumption | exact rfl) (by first | with_reducible assumption | exact rfl); clear hr0) | (with_reducible refine at_list ?_; refine wpList_wide_g rfl rfl Try.underlying26 Try.underlying54 rfl ?_; intro r n hr0; have hr := hr0 _ (by first | with_reducible assumption | exact rfl); clear hr0) | (with_reducible refine at_list ?_; refine wpList_wide rfl rfl rfl Try.underlying26 Try.underlying54 ?_; intro r n hr0; have hr := hr0 _ (by first | with_reducible assumption | exact rfl); clear hr0))
  refine bodyPost_ret (v := .agg #[.int .i64 P.W, .int .i64 P.H, .slice l.p1 P.a.length l.c1, .slice l.p2 P.b.length l.c2, .slice l.p3 P.c.length l.c3, .slice l.p4 P.d.length l.c4]) (by simp [results, Try.results21, go_sem, *]) rfl ?_
  exact ⟨P, l, rfl, hd, HF.out.fs, by (repeat (first | (with_reducible exact Below.refl _ _) | (with_reducible assumption) | (with_reducible refine below_then ?_ (by assumption)) | (with_reducible refine Below.trans ?_ (by assumption)) | (with_reducible refine below_drewN ?_ _) | (with_reducible apply Below.drew) | (with_reducible refine below_alloc ?_ _) | refine Below.setCell ?_ (by first | (simp; done) | (simp; omega)) _))⟩
end Go.Proofs.Ytphamdlnnfionaa
set_option linter.unusedSimpArgs false
set_option linter.unusedVariables false
set_option linter.unusedSectionVars false
namespace Go.Proofs.Ytphamdlnnfionaa
open Go Go.RowKit
open Go.ChangeShapes Go.WideShapes Go.ChangeAt Go.RowKit Go.Joins
section
variable {H : Type} {enc : TypeId × Value → H} {P : Program} {w : World} {base : Nat} {spare : Nat → Bool} {held : Bool}
theorem open_u8s {t e : TypeId} {fuel : Nat} {cs : List Value} {x : DataW H × List MemPlace} (ht : P.underlying t = some (.slice e)) (he : P.underlying e = some (.int .u8)) (hc : P.cellsOf e = 1)
    (h : DataW.trod enc P w base spare held fuel t cs = some x) : ∃ p n c, cs = [.slice p n c] ∧ BY w.heap.size w p n c := by
  rcases Deep.open_slice1 ht hc h with ⟨rfl, _⟩ | ⟨a, len, cap, m, n, V, D, Pl, rfl, _, hl, hm, hmm, _, hx⟩
  · exact ⟨none, 0, 0, rfl, ⟨by omega, by omega⟩, fun i hi => absurd hi (by omega)⟩
  · have hlm : len ≤ m := by rw [hmm]; split <;> omega
    refine ⟨some a, len, cap, rfl, ⟨hl, by simpa [maxLen] using hm⟩, fun i hi => ?_⟩
    have h0 : a.spot = none := by
      have := spot_none (hx 0 (by omega)).1
      simpa [Addr.add] using this
    obtain ⟨b, o, sp⟩ := a
    have h0 : sp = none := h0
    subst h0
    obtain ⟨y, e1, _, e2⟩ := DataW.trod_int he (hx i (by omega)).2
    simp only [List.cons.injEq, and_true] at e1
    have h1 := (hx i (by omega)).1
    have e3 : (⟨b, o, none⟩ : Addr).add i = ⟨b, o + i, none⟩ := by
      unfold Addr.add
      split
      · rename_i h; subst h; rfl
      · rfl
    rw [e3, e1] at h1
    have hb := World.block_lt_of_cell? _ _ h1
    have hw : 0 ≤ y ∧ y ≤ 255 := by simpa [Lit.wf, IntKind.min, IntKind.max, IntKind.signed, IntKind.bits] using e2
    exact ⟨b, o, y, rfl, hb, h1, hw⟩
end
set_option maxRecDepth 100000 in
theorem Try.cellsU8 : Try.prog.cellsOf 5 = 1 := by kernel_rfl
theorem open_By {H : Type} {enc : TypeId × Value → H} {w : World} {base : Nat} {spare : Nat → Bool} {held : Bool} {r : Reach} {b0 : Nat} {v : Value} {d : DataW H} {p : List MemPlace} (hv : Value.okWide Try.prog w r b0 42 v) (h : DataW.Trod enc Try.prog w base spare held 42 v d p) :
    ∃ p n c, v = .slice p n c ∧ BY w.heap.size w p n c := by
  obtain ⟨fuel, hf⟩ := h
  obtain ⟨q, n, c, e, h1⟩ := open_u8s Try.underlying42 Try.underlying5 Try.cellsU8 hf
  obtain ⟨a, l, cc, rfl⟩ := okWide_slice Try.underlying42 hv
  simp [Value.cells] at e
  obtain ⟨rfl, rfl, rfl⟩ := e
  exact ⟨_, _, _, rfl, h1⟩
end Go.Proofs.Ytphamdlnnfionaa
set_option linter.unusedSimpArgs false
set_option linter.unusedVariables false
set_option linter.unusedSectionVars false
namespace Go.Proofs.Ytphamdlnnfionaa
open Go Go.RowKit
open Go.ChangeShapes Go.WideShapes Go.ChangeAt Go.RowKit Go.Joins
theorem r8Long_any (p q : Option Addr) (n c m d : Nat) (w : World) : Calls Try.prog 20 #[.slice p n c, .slice q m d] w (RB w (decide (48 < n) || decide (48 < m))) := by
  by_cases h1 : 48 < n <;> by_cases h2 : 48 < m
  all_goals
    go_enter Try.func20, Try.ntmps20
    go_wp2_with (first | (with_reducible refine at_list ?_; refine wpList_fop rfl rfl rfl rfl rfl ?_; intro r n hr0; have hr := hr0 _ _ (by first | with_reducible assumption | exact rfl) (by first | with_reducible assumption | exact rfl); clear hr0) | (with_reducible refine at_list ?_; refine wpList_neg rfl rfl rfl ?_; intro r hr0; have hr := hr0 _ (by first | with_reducible assumption | exact rfl); clear hr0) | (with_reducible refine at_list ?_; refine wpList_fop_g rfl rfl rfl rfl rfl ?_; intro r n hr0; have hr := hr0 _ _ (by first | with_reducible assumption | exact rfl) (by first | with_reducible assumption | exact rfl); clear hr0) | (with_reducible refine at_list ?_; refine wpList_wide_g rfl rfl Try.underlying26 Try.underlying54 rfl ?_; intro r n hr0; have hr := hr0 _ (by first | with_reducible assumption | exact rfl); clear hr0) | (with_reducible refine at_list ?_; refine wpList_wide rfl rfl rfl Try.underlying26 Try.underlying54 ?_; intro r n hr0; have hr := hr0 _ (by first | with_reducible assumption | exact rfl); clear hr0))
    all_goals
      go_ret
      exact ⟨by first | (simp [h1, h2]; done) | (simp [h1, h2]; omega), by first | exact ⟨_, rfl⟩ | exact ⟨0, rfl⟩⟩
/-- A number below a bound. -/
def RN8 (w : World) (lo hi : Int) (e : Ending) (w' : World) : Prop := ∃ r, e = .returned (.int .i64 r) ∧ (lo ≤ r ∧ r ≤ hi) ∧ ∃ m, w' = w.drewN m
set_option maxHeartbeats 2000000 in
theorem r8At_any (p : Option Addr) (n c i : Nat) (k : Int) (w : World) (h : BY w.heap.size w p n c) (hi : i ≤ 1000) (hk : 1 ≤ k ∧ k ≤ 1000000) : Calls Try.prog 22 #[.slice p n c, .int .i64 i, .int .i64 k] w (RN8 w 0 (k - 1)) := by
  obtain ⟨⟨hc1, hc2⟩, hv⟩ := h
  have HV := Lib.hid hv
  clear hv
  obtain ⟨hk1, hk2⟩ := hk
  by_cases h1 : k ≤ 1
  · go_enter Try.func22, Try.ntmps22
    go_wp2_with (first | (with_reducible refine at_list ?_; refine wpList_fop rfl rfl rfl rfl rfl ?_; intro r n hr0; have hr := hr0 _ _ (by first | with_reducible assumption | exact rfl) (by first | with_reducible assumption | exact rfl); clear hr0) | (with_reducible refine at_list ?_; refine wpList_neg rfl rfl rfl ?_; intro r hr0; have hr := hr0 _ (by first | with_reducible assumption | exact rfl); clear hr0) | (with_reducible refine at_list ?_; refine wpList_fop_g rfl rfl rfl rfl rfl ?_; intro r n hr0; have hr := hr0 _ _ (by first | with_reducible assumption | exact rfl) (by first | with_reducible assumption | exact rfl); clear hr0) | (with_reducible refine at_list ?_; refine wpList_wide_g rfl rfl Try.underlying26 Try.underlying54 rfl ?_; intro r n hr0; have hr := hr0 _ (by first | with_reducible assumption | exact rfl); clear hr0) | (with_reducible refine at_list ?_; refine wpList_wide rfl rfl rfl Try.underlying26 Try.underlying54 ?_; intro r n hr0; have hr := hr0 _ (by first | with_reducible assumption | exact rfl); clear hr0))
    all_goals
      go_ret
      exact ⟨0, rfl, ⟨by omega, by omega⟩, by first | exact ⟨_, rfl⟩ | exact ⟨0, rfl⟩⟩
  by_cases hlt : i < n
  · obtain ⟨bb, o, x, rfl, hbb, hx, hx0, hx1⟩ := HV.out i hlt
    obtain ⟨g1, g2⟩ := rem_bd (x := x) (n := k) hx0 hk1
    go_enter Try.func22, Try.ntmps22
    go_wp2_with (first | (with_reducible refine at_list ?_; refine wpList_fop rfl rfl rfl rfl rfl ?_; intro r n hr0; have hr := hr0 _ _ (by first | with_reducible assumption | exact rfl) (by first | with_reducible assumption | exact rfl); clear hr0) | (with_reducible refine at_list ?_; refine wpList_neg rfl rfl rfl ?_; intro r hr0; have hr := hr0 _ (by first | with_reducible assumption | exact rfl); clear hr0) | (with_reducible refine at_list ?_; refine wpList_fop_g rfl rfl rfl rfl rfl ?_; intro r n hr0; have hr := hr0 _ _ (by first | with_reducible assumption | exact rfl) (by first | with_reducible assumption | exact rfl); clear hr0) | (with_reducible refine at_list ?_; refine wpList_wide_g rfl rfl Try.underlying26 Try.underlying54 rfl ?_; intro r n hr0; have hr := hr0 _ (by first | with_reducible assumption | exact rfl); clear hr0) | (with_reducible refine at_list ?_; refine wpList_wide rfl rfl rfl Try.underlying26 Try.underlying54 ?_; intro r n hr0; have hr := hr0 _ (by first | with_reducible assumption | exact rfl); clear hr0))
    all_goals
      go_ret
      exact ⟨_, rfl, ⟨by go_num, by go_num⟩, by first | exact ⟨_, rfl⟩ | exact ⟨0, rfl⟩⟩
  · obtain ⟨g1, g2⟩ := rem_bd (x := (i : Int) * 37 + 11) (n := k) (by omega) hk1
    go_enter Try.func22, Try.ntmps22
    go_wp2_with (first | (with_reducible refine at_list ?_; refine wpList_fop rfl rfl rfl rfl rfl ?_; intro r n hr0; have hr := hr0 _ _ (by first | with_reducible assumption | exact rfl) (by first | with_reducible assumption | exact rfl); clear hr0) | (with_reducible refine at_list ?_; refine wpList_neg rfl rfl rfl ?_; intro r hr0; have hr := hr0 _ (by first | with_reducible assumption | exact rfl); clear hr0) | (with_reducible refine at_list ?_; refine wpList_fop_g rfl rfl rfl rfl rfl ?_; intro r n hr0; have hr := hr0 _ _ (by first | with_reducible assumption | exact rfl) (by first | with_reducible assumption | exact rfl); clear hr0) | (with_reducible refine at_list ?_; refine wpList_wide_g rfl rfl Try.underlying26 Try.underlying54 rfl ?_; intro r n hr0; have hr := hr0 _ (by first | with_reducible assumption | exact rfl); clear hr0) | (with_reducible refine at_list ?_; refine wpList_wide rfl rfl rfl Try.underlying26 Try.underlying54 ?_; intro r n hr0; have hr := hr0 _ (by first | with_reducible assumption | exact rfl); clear hr0))
    all_goals
      go_ret
      exact ⟨_, rfl, ⟨by go_num, by go_num⟩, by first | exact ⟨_, rfl⟩ | exact ⟨0, rfl⟩⟩
end Go.Proofs.Ytphamdlnnfionaa
set_option linter.unusedSimpArgs false
set_option linter.unusedVariables false
set_option linter.unusedSectionVars false
namespace Go.Proofs.Ytphamdlnnfionaa
open Go Go.RowKit
section
variable {P X Y : Nat} {p m n : Int}
end
end Go.Proofs.Ytphamdlnnfionaa
set_option linter.unusedSimpArgs false
set_option linter.unusedVariables false
set_option linter.unusedSectionVars false
namespace Go.Proofs.Ytphamdlnnfionaa
open Go Go.RowKit
section
variable {s : St} {a b c d p l k : Int} {H : Nat}
/-- What a heat of k quarters leads to. -/
structure HV (s : St) (p k : Int) (W T : Nat) : Prop where
  fW : fnt .f32 W = true
  fT : fnt .f32 T = true
  t0 : 0 ≤ fv .f32 T
  t1 : fv .f32 T ≤ 1
  sg : (fv .f32 W < fv .f32 s.k.p ↔ k < 0) ∧ (0 ≤ k → fv .f32 s.k.p ≤ fv .f32 W)
end
end Go.Proofs.Ytphamdlnnfionaa
set_option linter.unusedSimpArgs false
set_option linter.unusedVariables false
set_option linter.unusedSectionVars false
namespace Go.Proofs.Ytphamdlnnfionaa
open Go Go.RowKit
section
variable {s : St} {a b c d p l k : Int} {H : Nat}
end
end Go.Proofs.Ytphamdlnnfionaa
set_option linter.unusedSimpArgs false
set_option linter.unusedVariables false
set_option linter.unusedSectionVars false
namespace Go.Proofs.Ytphamdlnnfionaa
open Go Go.RowKit
/-- A hundredth, a thousandth, in 64 bits. -/
def cHun : Nat := cn .f64 4576918229304087675
theorem rep64 (z q : Int) (h : z.natAbs < 9007199254740992) (h1 : -1000 ≤ q) (h2 : q ≤ 900) {r : Rat} (hr : r = z * tp q) : Rep .f64 r := rep_at (k := .f64) z q (by show z.natAbs < 2 ^ (52 + 1); exact h) (by show -1074 ≤ q; omega) (by show q + 52 + 1 < 1024; omega) hr
theorem tp_n7 : tp (-7) * 128 = 1 := by
  have h : tp (-7) * tp 7 = 1 := by rw [← tp_add]; exact tp_zero
  rwa [tp7] at h
theorem V64 : V .f64 (fop .quo .f64 (floatOfInt .f64 1) (floatOfInt .f64 128)) ((1 : Rat) / 128) := by
  have := V.op .quo rfl (V.int .f64 1 (by decide)) (V.int .f64 128 (by decide)) (fun _ => by decide) (by simp only [ex]; exact rep64 1 (-7) (by decide) (by decide) (by decide) (by have := tp_n7; grind))
  exact this.eq rfl
theorem cHun_lt : fnt .f64 cHun = true ∧ (1 : Rat) / 128 < fv .f64 cHun := by
  have h1 : fnt .f64 cHun = true := by decide +kernel
  refine ⟨h1, ?_⟩
  have h2 : flt .f64 (fop .quo .f64 (floatOfInt .f64 1) (floatOfInt .f64 128)) cHun = true := by decide +kernel
  rw [fltv V64.1 h1, V64.2] at h2
  exact of_decide_eq_true h2
theorem rep128 : Rep .f64 ((1 : Rat) / 128) := rep64 1 (-7) (by decide) (by decide) (by decide) (by have := tp_n7; grind)
def fmax64 (x y : Nat) : Nat := if flt .f64 x y then y else if flt .f64 y x then x else if (FloatKind.f64.decode x).neg then y else x
theorem run_fmax64 {P : Program} {x y : Nat} (hx : fnt .f64 x = true) (hy : fnt .f64 y = true) (ts : Array TypeId) (t : TypeId) (w : World) : (Builtin.max_ ts t #[.float .f64 x, .float .f64 y]).run P w = .ok (.float .f64 (fmax64 x y)) w := by
  have h1 := fltv hx hy
  have h2 := fltv hy hx
  unfold fmax64
  rcases ordv .f64 hx hy with ⟨h, e⟩ | ⟨h, e⟩ | ⟨h, e⟩
  · rw [h1, decide_eq_true e]
    simp [Builtin.max_, Builtin.max2, h]
  · rw [h1, h2, decide_eq_false (by grind), decide_eq_false (by grind)]
    simp [Builtin.max_, Builtin.max2, h]
  · rw [h1, h2, decide_eq_false (by grind), decide_eq_true e]
    simp [Builtin.max_, Builtin.max2, h]
theorem fmax64_val {x y : Nat} (hx : fnt .f64 x = true) (hy : fnt .f64 y = true) : fnt .f64 (fmax64 x y) = true ∧ fv .f64 x ≤ fv .f64 (fmax64 x y) ∧ fv .f64 y ≤ fv .f64 (fmax64 x y) ∧ (fmax64 x y = x ∨ fmax64 x y = y) := by
  have h1 := fltv hx hy
  have h2 := fltv hy hx
  unfold fmax64
  rcases ordv .f64 hx hy with ⟨h, e⟩ | ⟨h, e⟩ | ⟨h, e⟩
  · rw [h1, decide_eq_true e]
    exact ⟨hy, Rat.le_of_lt e, Rat.le_refl, .inr rfl⟩
  · rw [h1, h2, decide_eq_false (by grind), decide_eq_false (by grind)]
    simp only [Bool.false_eq_true, if_false]
    split
    · exact ⟨hy, by grind, Rat.le_refl, .inr rfl⟩
    · exact ⟨hx, Rat.le_refl, by grind, .inl rfl⟩
  · rw [h1, h2, decide_eq_false (by grind), decide_eq_true e]
    exact ⟨hx, Rat.le_refl, Rat.le_of_lt e, .inl rfl⟩
end Go.Proofs.Ytphamdlnnfionaa
set_option linter.unusedSimpArgs false
set_option linter.unusedVariables false
set_option linter.unusedSectionVars false
namespace Go.Proofs.Ytphamdlnnfionaa
open Go Go.RowKit
open Go.ChangeShapes Go.WideShapes Go.ChangeAt Go.RowKit Go.Joins
def gap8 (x y : Nat) : Nat := fmax64 (fop .sub .f64 x y) (fop .sub .f64 y x)
/-- Both differences are finite. -/
def gapOk (x y : Nat) : Prop := fnt .f64 (fop .sub .f64 x y) = true ∧ fnt .f64 (fop .sub .f64 y x) = true
theorem gap8_le {x y : Nat} {c : Rat} (hx : fnt .f64 x = true) (hy : fnt .f64 y = true) (hc : Rep .f64 c) (h1 : fv .f64 x - fv .f64 y ≤ c) (h2 : fv .f64 y - fv .f64 x ≤ c) : gapOk x y ∧ Btw .f64 (gap8 x y) (-c) c := by
  obtain ⟨a1, a2, a3⟩ := fop_btw .sub rfl .f64 (a := -c) (b := c) hx hy (by simp) hc.neg hc (by simp only [ex]; grind) (by simp only [ex]; grind)
  obtain ⟨b1, b2, b3⟩ := fop_btw .sub rfl .f64 (a := -c) (b := c) hy hx (by simp) hc.neg hc (by simp only [ex]; grind) (by simp only [ex]; grind)
  obtain ⟨g1, g2, g3, g4⟩ := fmax64_val a1 b1
  refine ⟨⟨a1, b1⟩, g1, ?_, ?_⟩
  · show -c ≤ fv .f64 (fmax64 _ _); grind
  · show fv .f64 (fmax64 _ _) ≤ c
    rcases g4 with e | e <;> rw [e] <;> assumption
theorem gap8_hun {x y : Nat} (hx : fnt .f64 x = true) (hy : fnt .f64 y = true) (h1 : fv .f64 x - fv .f64 y ≤ 1 / 128) (h2 : fv .f64 y - fv .f64 x ≤ 1 / 128) : gapOk x y ∧ flt .f64 (gap8 x y) cHun = true := by
  obtain ⟨a, b⟩ := gap8_le hx hy rep128 h1 h2
  obtain ⟨c1, c2⟩ := cHun_lt
  refine ⟨a, ?_⟩
  rw [fltv b.1 c1]
  exact decide_eq_true (by have := b.2.2; grind)
theorem cn_fmax64 {x y : Nat} (hx : fnt .f64 x = true) (hy : fnt .f64 y = true) : cn .f64 (fmax64 x y) = fmax64 x y := fnt_cn (fmax64_val hx hy).1
theorem raw_fnt {k : FloatKind} {x c : Nat} (h : cn k x = c) (hf : fnt k c = true) : x = c := by
  cases hn : isN k x with
  | true =>
    rw [cn_of_isN hn] at h
    subst h
    have : fnt k (qn k) = false := by cases k <;> decide +kernel
    rw [this] at hf; cases hf
  | false => rw [cn_of_not hn] at h; exact h
theorem max_raw {C D : Nat} (hC : fnt .f64 C = true) (hD : fnt .f64 D = true) {P : Program} (x y : Nat) (hx : cn .f64 x = C) (hy : cn .f64 y = D) (ts : Array TypeId) (t : TypeId) (w : World) : (Builtin.max_ ts t #[.float .f64 x, .float .f64 y]).run P w = .ok (.float .f64 (fmax64 C D)) w := by
  rw [raw_fnt hx hC, raw_fnt hy hD]
  exact run_fmax64 hC hD ts t w
theorem r8Gap_any (x y : Nat) (w : World) (h : gapOk (cn .f64 x) (cn .f64 y)) : Calls Try.prog 27 #[.float .f64 x, .float .f64 y] w (RF w .f64 (gap8 (cn .f64 x) (cn .f64 y))) := by
  obtain ⟨h1, h2⟩ := h
  have HC := Lib.hid (cn_fmax64 h1 h2)
  have HM := Lib.hid (fun x y hx hy ts t w => max_raw (P := Try.prog) h1 h2 x y hx hy ts t w)
  have HV : Hid (gap8 (cn .f64 x) (cn .f64 y) = fmax64 (fop .sub .f64 (cn .f64 x) (cn .f64 y)) (fop .sub .f64 (cn .f64 y) (cn .f64 x))) := rfl
  rw [HV.out]
  clear HV
  have hm := HM.out
  go_enter Try.func27, Try.ntmps27
  go_wp2_with (first | (with_reducible refine at_list ?_; refine wpList_fop rfl rfl rfl rfl rfl ?_; intro r n hr0; have hr := hr0 _ _ (by first | with_reducible assumption | exact rfl) (by first | with_reducible assumption | exact rfl); clear hr0) | (with_reducible refine at_list ?_; refine wpList_neg rfl rfl rfl ?_; intro r hr0; have hr := hr0 _ (by first | with_reducible assumption | exact rfl); clear hr0) | (with_reducible refine at_list ?_; refine wpList_fop_g rfl rfl rfl rfl rfl ?_; intro r n hr0; have hr := hr0 _ _ (by first | with_reducible assumption | exact rfl) (by first | with_reducible assumption | exact rfl); clear hr0) | (with_reducible refine at_list ?_; refine wpList_wide_g rfl rfl Try.underlying26 Try.underlying54 rfl ?_; intro r n hr0; have hr := hr0 _ (by first | with_reducible assumption | exact rfl); clear hr0) | (with_reducible refine at_list ?_; refine wpList_wide rfl rfl rfl Try.underlying26 Try.underlying54 ?_; intro r n hr0; have hr := hr0 _ (by first | with_reducible assumption | exact rfl); clear hr0))
  go_ret
  exact ⟨_, rfl, HC.out, by first | exact ⟨_, rfl⟩ | exact ⟨0, rfl⟩⟩
end Go.Proofs.Ytphamdlnnfionaa

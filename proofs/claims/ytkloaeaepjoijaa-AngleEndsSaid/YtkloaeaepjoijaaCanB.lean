/-
  Plain: whether any cut denies, as a function that can be run; what it is good for.
-/
import Derived.Test.YtkloaeaepjoijaaTruthCalls
set_option linter.all false
namespace Go.Proofs.Ytkloaeaepjoijaa

/-- The nodes of a cut whose triangles and circles are told by bits. -/
def mOf (t c : Nat) (v : Int) : Bool := if 0 ≤ v ∧ v < 5 then t.testBit v.toNat else if 5 ≤ v ∧ v < 10 then c.testBit (v - 5).toNat else false

def denyB (n : Nat) (T C : Int) (fr to lo hi : Int → Int) (t c : Nat) : Bool :=
  decide (diffM T C (mOf t c) < lowM n fr to lo hi (mOf t c)) || decide (highM n fr to lo hi (mOf t c) < diffM T C (mOf t c))

/-- No cut denies. -/
def canB (l : List Ang) (T C : Int) (lo hi : Int → Int) : Bool :=
  (List.range (2 ^ T.toNat)).all fun t => (List.range (2 ^ C.toNat)).all fun c => !denyB l.length T C (frL l) (toL l) lo hi t c

theorem exists_bits (m : Nat → Bool) : ∀ k : Nat, ∃ t, t < 2 ^ k ∧ ∀ i, i < k → t.testBit i = m i := by
  intro k
  induction k with
  | zero => exact ⟨0, by simp, fun i hi => by omega⟩
  | succ k ih =>
    obtain ⟨t, ht, hb⟩ := ih
    cases hm : m k with
    | false =>
      refine ⟨t, by rw [Nat.pow_succ]; omega, fun i hi => ?_⟩
      by_cases e : i = k
      · subst e; rw [hm]; exact Nat.testBit_lt_two_pow ht
      · exact hb i (by omega)
    | true =>
      refine ⟨2 ^ k + t, by rw [Nat.pow_succ]; omega, fun i hi => ?_⟩
      by_cases e : i = k
      · subst e; rw [hm, Nat.testBit_two_pow_add_eq, Nat.testBit_lt_two_pow ht]; rfl
      · rw [Nat.testBit_two_pow_add_gt (by omega)]; exact hb i (by omega)

theorem mOf_10 (t c : Nat) : mOf t c 10 = false := by unfold mOf; rw [if_neg (by omega), if_neg (by omega)]

section
variable {l : List Ang} {T C : Int} {lo hi : Int → Int}

theorem diffM_congr {m m' : Int → Bool} (hT : T ≤ 5) (hC : C ≤ 5) (h1 : ∀ v : Int, 0 ≤ v → v < T → m v = m' v) (h2 : ∀ v : Int, 5 ≤ v → v < 5 + C → m v = m' v) : diffM T C m = diffM T C m' := by
  unfold diffM
  refine sumR_congr fun v _ => ?_
  unfold base
  by_cases a : 0 ≤ (v : Int) ∧ (v : Int) < T
  · rw [h1 v a.1 a.2]
  · rw [if_neg a]
    by_cases b : 5 ≤ (v : Int) ∧ (v : Int) < 5 + C
    · rw [h2 v b.1 b.2]
    · rw [if_neg b]; simp

theorem lowM_congr {n : Nat} {fr to : Int → Int} {m m' : Int → Bool} (h1 : ∀ i : Nat, i < n → m (fr i) = m' (fr i)) (h2 : ∀ i : Nat, i < n → m (to i) = m' (to i)) : lowM n fr to lo hi m = lowM n fr to lo hi m' := by
  unfold lowM
  exact sumR_congr fun i hi' => by rw [h1 i hi', h2 i hi']
theorem highM_congr {n : Nat} {fr to : Int → Int} {m m' : Int → Bool} (h1 : ∀ i : Nat, i < n → m (fr i) = m' (fr i)) (h2 : ∀ i : Nat, i < n → m (to i) = m' (to i)) : highM n fr to lo hi m = highM n fr to lo hi m' := by
  unfold highM
  exact sumR_congr fun i hi' => by rw [h1 i hi', h2 i hi']

/-- Every cut can be told by bits. -/
theorem cut_bits (hok : NetOk l T C) (m : Int → Bool) (hm : m 10 = false) : ∃ t c : Nat, t < 2 ^ T.toNat ∧ c < 2 ^ C.toNat ∧
    diffM T C m = diffM T C (mOf t c) ∧ lowM l.length (frL l) (toL l) lo hi m = lowM l.length (frL l) (toL l) lo hi (mOf t c) ∧ highM l.length (frL l) (toL l) lo hi m = highM l.length (frL l) (toL l) lo hi (mOf t c) := by
  obtain ⟨t, ht, hbt⟩ := exists_bits (fun i => m i) T.toNat
  obtain ⟨c, hc, hbc⟩ := exists_bits (fun i => m ((5 + i : Nat) : Int)) C.toNat
  have t0 := hok.t0
  have t1 := hok.t1
  have c0 := hok.c0
  have c1 := hok.c1
  have e1 : ∀ v : Int, 0 ≤ v → v < T → m v = mOf t c v := fun v h0 h1 => by
    unfold mOf; rw [if_pos ⟨h0, by omega⟩, hbt v.toNat (by omega)]
    rw [show ((v.toNat : Nat) : Int) = v by omega]
  have e2 : ∀ v : Int, 5 ≤ v → v < 5 + C → m v = mOf t c v := fun v h0 h1 => by
    unfold mOf; rw [if_neg (by omega), if_pos ⟨h0, by omega⟩, hbc (v - 5).toNat (by omega)]
    rw [show ((5 + (v - 5).toNat : Nat) : Int) = v by omega]
  have f1 : ∀ i : Nat, i < l.length → m (frL l i) = mOf t c (frL l i) := fun i hi' => by
    rcases hok.fr hi' with h | h
    · exact e1 _ h.1 h.2
    · rw [h, hm, mOf_10]
  have f2 : ∀ i : Nat, i < l.length → m (toL l i) = mOf t c (toL l i) := fun i hi' => by
    rcases hok.to hi' with h | h
    · exact e2 _ h.1 h.2
    · rw [h, hm, mOf_10]
  exact ⟨t, c, ht, hc, diffM_congr t1 c1 e1 e2, lowM_congr f1 f2, highM_congr f1 f2⟩

theorem canB_iff (hok : NetOk l T C) : canB l T C lo hi = true ↔ ∀ m : Int → Bool, m 10 = false →
    lowM l.length (frL l) (toL l) lo hi m ≤ diffM T C m ∧ diffM T C m ≤ highM l.length (frL l) (toL l) lo hi m := by
  unfold canB denyB
  simp only [List.all_eq_true, List.mem_range, Bool.not_eq_true', Bool.or_eq_false_iff, decide_eq_false_iff_not, Int.not_lt]
  constructor
  · intro h m hm
    obtain ⟨t, c, ht, hc, h1, h2, h3⟩ := cut_bits (lo := lo) (hi := hi) hok m hm
    rw [h1, h2, h3]
    exact h t ht c hc
  · intro h t _ c _
    exact h (mOf t c) (mOf_10 t c)

theorem canB_of_truth (hok : NetOk l T C) {x : Int → Int} (h : TruthN l.length T C (frL l) (toL l) lo hi x) : canB l T C lo hi = true :=
  (canB_iff hok).2 fun m hm => truth_not_denied
    (fun i h0 h1 => by obtain ⟨j, rfl⟩ := Int.eq_ofNat_of_zero_le h0; have := hok.fr (i := j) (by omega); have := hok.t1; omega)
    (fun i h0 h1 => by obtain ⟨j, rfl⟩ := Int.eq_ofNat_of_zero_le h0; have := hok.to (i := j) (by omega); have := hok.c1; omega) h hm

theorem canB_of_denied (hok : NetOk l T C) {m : Int → Bool} (hm : m 10 = false) (h : diffM T C m < lowM l.length (frL l) (toL l) lo hi m ∨ highM l.length (frL l) (toL l) lo hi m < diffM T C m) : canB l T C lo hi = false := by
  cases e : canB l T C lo hi with
  | false => rfl
  | true => have := (canB_iff hok).1 e m hm; omega

theorem canB_mono (hok : NetOk l T C) {lo' hi' : Int → Int} (h1 : ∀ i : Nat, i < l.length → lo' i ≤ lo i) (h2 : ∀ i : Nat, i < l.length → hi i ≤ hi' i) (h : canB l T C lo hi = true) : canB l T C lo' hi' = true := by
  rw [canB_iff hok] at h ⊢
  intro m hm
  have := h m hm
  have hl : lowM l.length (frL l) (toL l) lo' hi' m ≤ lowM l.length (frL l) (toL l) lo hi m := by
    unfold lowM
    refine sumR_le fun i hi'' => ?_
    have a := h1 i hi''
    have b := h2 i hi''
    split
    · exact a
    · split <;> omega
  have hh : highM l.length (frL l) (toL l) lo hi m ≤ highM l.length (frL l) (toL l) lo' hi' m := by
    unfold highM
    refine sumR_le fun i hi'' => ?_
    have a := h1 i hi''
    have b := h2 i hi''
    split
    · exact b
    · split <;> omega
  omega

theorem canB_congr {lo' hi' : Int → Int} (h1 : ∀ i : Nat, i < l.length → lo' i = lo i) (h2 : ∀ i : Nat, i < l.length → hi' i = hi i) : canB l T C lo' hi' = canB l T C lo hi := by
  unfold canB denyB
  have hl : ∀ m, lowM l.length (frL l) (toL l) lo' hi' m = lowM l.length (frL l) (toL l) lo hi m := fun m => sumR_congr fun i hi'' => by rw [h1 i hi'', h2 i hi'']
  have hh : ∀ m, highM l.length (frL l) (toL l) lo' hi' m = highM l.length (frL l) (toL l) lo hi m := fun m => sumR_congr fun i hi'' => by rw [h1 i hi'', h2 i hi'']
  simp only [hl, hh]
end
end Go.Proofs.Ytkloaeaepjoijaa

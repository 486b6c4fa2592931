/-
  A cut by its lists: what denies proves.
-/
import Derived.Test.YtkloaeaepjoijaaLawB
set_option linter.all false
namespace Go.Proofs.Ytkloaeaepjoijaa

/-- The numbers of the first so many nodes from a base on that are in a set. -/
def setL (m : Int → Bool) (base n : Nat) : List Int := ((List.range n).filter fun i : Nat => m ((base + i : Nat) : Int)).map fun i : Nat => (i : Int)
theorem setL_succ (m : Int → Bool) (base n : Nat) : setL m base (n + 1) = if m ((base + n : Nat) : Int) then setL m base n ++ [(n : Int)] else setL m base n := by
  unfold setL
  rw [List.range_succ, List.filter_append, List.map_append]
  simp only [List.filter_cons, List.filter_nil]
  cases h : m ((base + n : Nat) : Int) with
  | true => simp only [if_true]; rfl
  | false => simp only [Bool.false_eq_true, if_false, List.map_nil, List.append_nil]
theorem setL_len (m : Int → Bool) (base n : Nat) : (setL m base n).length ≤ n := by
  unfold setL
  rw [List.length_map]
  exact Nat.le_trans (List.length_filter_le _ _) (by simp)
theorem setL_sum (m : Int → Bool) (base n : Nat) : ((setL m base n).length : Int) = sumR n fun i => chi (m ((base + i : Nat) : Int)) := by
  induction n with
  | zero => rfl
  | succ n ih =>
    rw [setL_succ]
    simp only [sumR]
    cases h : m ((base + n : Nat) : Int) with
    | true => have c : chi true = 1 := rfl; simp only [if_true, List.length_append, List.length_singleton, c, ← ih]; omega
    | false => have c : chi false = 0 := rfl; simp only [Bool.false_eq_true, if_false, c, ← ih]; omega
theorem setL_ups (m : Int → Bool) (base n : Nat) : Ups n 0 (setL m base n) := by
  unfold setL
  rw [List.range_eq_range']
  exact ups_filter n (fun i => m ((base + i : Nat) : Int)) n 0 (by omega)
theorem setL_mem {m : Int → Bool} {base n i : Nat} : (setL m base n).contains (i : Int) = (decide (i < n) && m ((base + i : Nat) : Int)) := by
  rw [Bool.eq_iff_iff]
  simp only [setL, List.contains_iff_mem, List.mem_map, List.mem_filter, List.mem_range, Bool.and_eq_true, decide_eq_true_eq]
  constructor
  · rintro ⟨j, h, e⟩
    obtain rfl : j = i := by omega
    exact h
  · intro h; exact ⟨i, h, rfl⟩
theorem setL_neg {m : Int → Bool} {base n : Nat} : (setL m base n).contains (-1) = false := by
  cases h : (setL m base n).contains (-1) with
  | false => rfl
  | true =>
    rw [List.contains_iff_mem] at h
    obtain ⟨k, e, _⟩ := (setL_ups m base n).mem _ h
    omega
theorem ups_rising {n : Nat} : ∀ {xs : List Int} {s : Nat}, Ups n s xs → ∀ i, i < xs.length → risesAt xs n i = true := by
  intro xs
  induction xs with
  | nil => intro s _ i h; simp at h
  | cons x xs ih =>
    rintro s ⟨k, rfl, h1, h2, h3⟩ i hi
    cases i with
    | zero =>
      unfold risesAt
      simp only [List.getD_cons_zero, decide_true, Bool.true_or, Bool.and_true]
      exact inB_true.2 (by omega)
    | succ i =>
      have := ih h3 i (by simpa using hi)
      unfold risesAt at this ⊢
      rw [Bool.and_eq_true] at this ⊢
      refine ⟨by simpa using this.1, ?_⟩
      simp only [Nat.add_one_ne_zero, decide_false, Bool.false_or, List.getD_cons_succ, Nat.add_sub_cancel]
      cases i with
      | zero =>
        cases xs with
        | nil => simp at hi
        | cons y ys =>
          obtain ⟨j, rfl, a, _, _⟩ := h3
          simp; omega
      | succ i => simpa using this.2
theorem setL_rising {m : Int → Bool} {base : Nat} {T : Int} (h : 0 ≤ T) : risingB (setL m base T.toNat) T = true := by
  unfold risingB
  rw [List.all_eq_true]
  intro i hi
  have := ups_rising (setL_ups m base T.toNat) i (List.mem_range.1 hi)
  rwa [Int.toNat_of_nonneg h] at this

theorem diffM_lists {T C : Int} (hT0 : 0 ≤ T) (hT : T ≤ 5) (hC0 : 0 ≤ C) (hC : C ≤ 5) (m : Int → Bool) : diffM T C m = 36 * sumR T.toNat (fun v => chi (m ((0 + v : Nat) : Int))) - 72 * sumR C.toNat (fun c => chi (m ((5 + c : Nat) : Int))) := by
  have h1 : T = 0 ∨ T = 1 ∨ T = 2 ∨ T = 3 ∨ T = 4 ∨ T = 5 := by omega
  have h2 : C = 0 ∨ C = 1 ∨ C = 2 ∨ C = 3 ∨ C = 4 ∨ C = 5 := by omega
  unfold diffM base
  rcases h1 with rfl | rfl | rfl | rfl | rfl | rfl <;> rcases h2 with rfl | rfl | rfl | rfl | rfl | rfl <;> simp [sumR] <;> omega

/-- A set of nodes that denies, by its lists, proves. -/
theorem denies_proves {l : List Ang} {T C err : Int} (hok : NetOk l T C) {m : Int → Bool} (hm : m 10 = false)
    (h : diffM T C m < lowM l.length (frL l) (toL l) (roomLo l err []) (roomHi l err []) m ∨ highM l.length (frL l) (toL l) (roomLo l err []) (roomHi l err []) m < diffM T C m) :
    provesB l T C err (setL m 0 T.toNat) (setL m 5 C.toNat) = true := by
  have t0 := hok.t0
  have t1 := hok.t1
  have c0 := hok.c0
  have c1 := hok.c1
  have hd : ((setL m 0 T.toNat).length : Int) * 36 - ((setL m 5 C.toNat).length : Int) * 72 = diffM T C m := by
    rw [diffM_lists t0 t1 c0 c1, setL_sum, setL_sum]; omega
  have ht : ∀ i : Nat, i < l.length → (setL m 0 T.toNat).contains (tOf l i) = m (frL l i) := fun i hi => by
    have ha := hok.ang l[i] (List.getElem_mem hi)
    rw [frL_at hi, tOf_at hi]
    unfold nodeOf
    by_cases e : l[i].t = -1
    · rw [e, if_pos rfl, setL_neg, hm]
    · rw [if_neg e]
      obtain ⟨k, hk⟩ := Int.eq_ofNat_of_zero_le (show 0 ≤ l[i].t by omega)
      rw [hk, setL_mem, decide_eq_true (by omega)]
      simp
  have hc : ∀ i : Nat, i < l.length → (setL m 5 C.toNat).contains (cOf l i) = m (toL l i) := fun i hi => by
    have ha := hok.ang l[i] (List.getElem_mem hi)
    rw [toL_at hi, cOf_at hi]
    unfold nodeOf
    by_cases e : l[i].c = -1
    · rw [e, if_pos rfl, setL_neg, hm]
    · rw [if_neg e]
      obtain ⟨k, hk⟩ := Int.eq_ofNat_of_zero_le (show 0 ≤ l[i].c by omega)
      rw [hk, setL_mem, decide_eq_true (by omega)]
      simp
  have hl : lowC l (roomLo l err []) (roomHi l err []) (setL m 0 T.toNat) (setL m 5 C.toNat) l.length = lowM l.length (frL l) (toL l) (roomLo l err []) (roomHi l err []) m := by
    unfold lowC lowM; exact sumR_congr fun i hi => by rw [ht i hi, hc i hi]
  have hh : highC l (roomLo l err []) (roomHi l err []) (setL m 0 T.toNat) (setL m 5 C.toNat) l.length = highM l.length (frL l) (toL l) (roomLo l err []) (roomHi l err []) m := by
    unfold highC highM; exact sumR_congr fun i hi => by rw [ht i hi, hc i hi]
  unfold provesB
  rw [setL_rising t0, setL_rising c0, hd, hl, hh]
  simp only [Bool.true_and, Bool.not_eq_true']
  cases q : inB (diffM T C m) (lowM l.length (frL l) (toL l) (roomLo l err []) (roomHi l err []) m) (highM l.length (frL l) (toL l) (roomLo l err []) (roomHi l err []) m) with
  | false => rfl
  | true => have := inB_true.1 q; omega
end Go.Proofs.Ytkloaeaepjoijaa

/-
  Plain: if all that is due flows, what flows is a truth; and if there is a truth, no cut denies.
-/
import Derived.Test.YtkloaeaepjoijaaCut
set_option linter.all false
namespace Go.Proofs.Ytkloaeaepjoijaa

/-- A truth of a net in rooms: no node gives anything. -/
def TruthN (len : Nat) (T C : Int) (fr to lo hi x : Int → Int) : Prop :=
  (∀ i : Nat, i < len → lo i ≤ x i ∧ x i ≤ hi i) ∧ ∀ v : Nat, v < 10 → give9 len T C fr to x v = 0

section
variable {len : Nat} {T C : Int} {fr to lo hi x : Int → Int}

theorem truth_not_denied (hfr : ∀ i, 0 ≤ i → i < (len : Int) → 0 ≤ fr i ∧ fr i ≤ 10) (hto : ∀ i, 0 ≤ i → i < (len : Int) → 0 ≤ to i ∧ to i ≤ 10) (h : TruthN len T C fr to lo hi x) {m : Int → Bool} (hm : m 10 = false) :
    lowM len fr to lo hi m ≤ diffM T C m ∧ diffM T C m ≤ highM len fr to lo hi m := by
  have hs := sum_give9 (T := T) (C := C) (lo := x) hfr hto m hm
  have h0 : sumR 10 (fun v => chi (m v) * give9 len T C fr to x v) = 0 := by
    rw [sumR_congr (k := fun _ => 0)]
    · exact sumR_zero _
    · intro v hv; rw [h.2 v hv, Int.mul_zero]
  have e : diffM T C m = sumR len (fun i => (chi (m (fr i)) - chi (m (to i))) * x i) := by
    have : sumR len (fun i => (chi (m (fr i)) - chi (m (to i))) * x i) = - sumR len (fun i => (chi (m (to i)) - chi (m (fr i))) * x i) := by
      rw [← sumR_neg]
      exact sumR_congr fun i _ => by rw [← Int.neg_mul]; congr 1; omega
    omega
  rw [e]
  constructor
  · refine sumR_le fun i hi' => ?_
    have := h.1 i hi'
    cases m (fr i) <;> cases m (to i) <;> simp [chi] <;> omega
  · refine sumR_le fun i hi' => ?_
    have := h.1 i hi'
    cases m (fr i) <;> cases m (to i) <;> simp [chi] <;> omega

theorem sumR_ge_one {n k : Nat} {h : Nat → Int} (h0 : ∀ i, i < n → 0 ≤ h i) (hk : k < n) : h k ≤ sumR n h := by
  have := sumR_le (n := n) (h := fun i => if i = k then h k else 0) (k := h) (fun i hi => by
    by_cases e : i = k
    · subst e; simp
    · rw [if_neg e]; exact h0 i hi)
  rw [sumR_only hk] at this
  exact this

theorem out_zero {f : Int → Int → Int → Int} (nn : ∀ x y z, 0 ≤ f x y z) {u : Int} (h : outR len f u ≤ 0) : ∀ v j : Nat, v < 13 → j < len + 1 → f u v ((j : Int) - 1) = 0 := by
  intro v j hv hj
  have h1 := sumR_eq_zero (n := 13) (h := fun v => sumR (len + 1) (fun j => f u v ((j : Int) - 1))) (fun v _ => sumR_nonneg fun j _ => nn _ _ _) h v hv
  exact sumR_eq_zero (n := len + 1) (h := fun j => f u v ((j : Int) - 1)) (fun j _ => nn _ _ _) (by rw [h1]; omega) j hj

/-- The sum over the angles alone, node by node. -/
theorem out_split (f : Int → Int → Int → Int) (v : Int) : outR len f v = sumR 13 (fun u => f v u (-1)) + sumR len (fun i => sumR 13 (fun u => f v u i)) := by
  unfold outR
  rw [sumR_comm len 13 (fun i u => f v u i), ← sumR_add]
  refine sumR_congr fun u _ => ?_
  rw [sumR_shift]
  congr 1
  refine sumR_congr fun i _ => ?_
  rw [show ((i + 1 : Nat) : Int) - 1 = i by omega]

theorem flow_truth {f : Int → Int → Int → Int} {sum : Int}
    (hfr : ∀ i, 0 ≤ i → i < (len : Int) → (0 ≤ fr i ∧ fr i ≤ 4) ∨ fr i = 10) (hto : ∀ i, 0 ≤ i → i < (len : Int) → (5 ≤ to i ∧ to i ≤ 9) ∨ to i = 10)
    (hcap : ∀ i : Nat, i < len → lo i ≤ hi i)
    (nn : ∀ x y z, 0 ≤ f x y z)
    (pair : ∀ x y z, f x y z + f y x z = initF len fr to (fun i => hi i - lo i) (giveN len T C fr to lo) x y z + initF len fr to (fun i => hi i - lo i) (giveN len T C fr to lo) y x z)
    (bal : ∀ v : Int, outR len (initF len fr to (fun i => hi i - lo i) (giveN len T C fr to lo)) v - outR len f v = (if v = 11 then sum else 0) - (if v = 12 then sum else 0))
    (hsum : sum = sumR 11 (fun v => max 0 (giveN len T C fr to lo v))) :
    TruthN len T C fr to lo hi (fun i => lo i + f (to i) (fr i) i) := by
  obtain ⟨g, hg⟩ : ∃ g, giveN len T C fr to lo = g := ⟨_, rfl⟩
  rw [hg] at pair bal hsum
  have i1 : ∀ u v : Int, initF len fr to (fun i => hi i - lo i) g u v (-1) = if u = 11 ∧ 0 ≤ v ∧ v ≤ 10 then max 0 (g v) else if v = 12 ∧ 0 ≤ u ∧ u ≤ 10 then max 0 (-g u) else 0 := fun u v => by unfold initF; rw [if_pos rfl]
  have i2 : ∀ (u v : Int) (i : Nat), i < len → initF len fr to (fun i => hi i - lo i) g u v i = if u = fr i ∧ v = to i ∧ fr i ≠ to i then hi i - lo i else 0 := fun u v i hi' => by
    unfold initF
    rw [if_neg (by omega)]
    by_cases e : u = fr i ∧ v = to i ∧ fr i ≠ to i
    · rw [if_pos ⟨by omega, by omega, e⟩, if_pos e]
    · rw [if_neg (fun h => e h.2.2), if_neg e]
  -- the free node balances
  have hz : sumR 11 (fun v => g v) = 0 := by
    have : ∀ h : Nat → Int, sumR 11 h = sumR 10 h + h 10 := fun _ => rfl
    rw [this]
    have e1 : sumR 10 (fun v => g v) = sumR 10 (fun v => give9 len T C fr to lo v) := sumR_congr fun v hv => by rw [← hg]; unfold giveN; rw [if_neg (by omega)]
    have e2 : g ((10 : Nat) : Int) = - sumR 10 (fun u => give9 len T C fr to lo u) := by rw [← hg]; unfold giveN; rw [if_pos (by omega)]
    rw [e1, e2]; omega
  have hpm : sumR 11 (fun v => max 0 (g v)) = sumR 11 (fun v => max 0 (-g v)) := by
    have : sumR 11 (fun v => max 0 (g v)) - sumR 11 (fun v => max 0 (-g v)) = sumR 11 (fun v => g v) := by
      rw [← sumR_sub]; exact sumR_congr fun v _ => by omega
    omega
  have s13 : ∀ h : Nat → Int, sumR 13 h = sumR 11 h + h 11 + h 12 := fun _ => rfl
  -- from first nothing more flows
  have o11 : outR len (initF len fr to (fun i => hi i - lo i) g) 11 = sumR 11 (fun v => max 0 (g v)) := by
    rw [out_split]
    have e1 : sumR 13 (fun u => initF len fr to (fun i => hi i - lo i) g 11 u (-1)) = sumR 11 (fun v => max 0 (g v)) := by
      rw [s13, i1, i1, if_neg (fun h => by omega), if_neg (fun h => by omega), if_neg (fun h => by omega), if_neg (fun h => by omega)]
      rw [sumR_congr (k := fun v => max 0 (g v)) (fun v hv => by rw [i1, if_pos ⟨rfl, by omega, by omega⟩])]
      omega
    have e2 : sumR len (fun i => sumR 13 (fun u => initF len fr to (fun i => hi i - lo i) g 11 u i)) = 0 := by
      rw [sumR_congr (k := fun _ => 0)]
      · exact sumR_zero _
      · intro i hi'
        rw [sumR_congr (k := fun _ => 0)]
        · exact sumR_zero _
        · intro u _
          have := hfr i (by omega) (by omega)
          rw [i2 _ _ i hi', if_neg (fun h => by omega)]
    rw [e1, e2]; omega
  have b11 := bal 11
  rw [if_pos rfl, if_neg (by omega), o11] at b11
  have z11 := out_zero (len := len) nn (u := 11) (by omega)
  have f11 : ∀ v : Nat, v < 13 → f 11 v (-1) = 0 := fun v hv => by have := z11 v 0 hv (by omega); simpa using this
  -- all that is due comes to last
  have o12 : outR len (initF len fr to (fun i => hi i - lo i) g) 12 = 0 := by
    rw [out_split]
    have e1 : sumR 13 (fun u => initF len fr to (fun i => hi i - lo i) g 12 u (-1)) = 0 := by
      rw [sumR_congr (k := fun _ => 0)]
      · exact sumR_zero _
      · intro u _; rw [i1, if_neg (fun h => by omega), if_neg (fun h => by omega)]
    have e2 : sumR len (fun i => sumR 13 (fun u => initF len fr to (fun i => hi i - lo i) g 12 u i)) = 0 := by
      rw [sumR_congr (k := fun _ => 0)]
      · exact sumR_zero _
      · intro i hi'
        rw [sumR_congr (k := fun _ => 0)]
        · exact sumR_zero _
        · intro u _
          have := hfr i (by omega) (by omega)
          rw [i2 _ _ i hi', if_neg (fun h => by omega)]
    rw [e1, e2]; omega
  have b12 := bal 12
  rw [if_neg (by omega), if_pos rfl, o12] at b12
  have p12 : ∀ v : Nat, v < 11 → f 12 v (-1) + f v 12 (-1) = max 0 (-g v) := fun v hv => by
    rw [pair, i1, i1, if_neg (fun h => by omega), if_neg (fun h => by omega), if_neg (fun h => by omega), if_pos ⟨rfl, by omega, by omega⟩]; omega
  have o12f : outR len f 12 = sumR 11 (fun v => f 12 v (-1)) := by
    rw [out_split]
    have e1 : sumR 13 (fun u => f 12 u (-1)) = sumR 11 (fun v => f 12 v (-1)) := by
      rw [s13]
      have q1 := pair 12 (11 : Nat) (-1)
      rw [i1, i1, if_neg (fun h => by omega), if_neg (fun h => by omega), if_neg (fun h => by omega), if_neg (fun h => by omega)] at q1
      have q2 := pair 12 (12 : Nat) (-1)
      rw [i1, i1, if_neg (fun h => by omega), if_neg (fun h => by omega), if_neg (fun h => by omega), if_neg (fun h => by omega)] at q2
      have n1 := nn 12 (11 : Nat) (-1)
      have n2 := nn (11 : Nat) 12 (-1)
      have n3 := nn 12 (12 : Nat) (-1)
      have n4 := nn (12 : Nat) 12 (-1)
      omega
    have e2 : sumR len (fun i => sumR 13 (fun u => f 12 u i)) = 0 := by
      rw [sumR_congr (k := fun _ => 0)]
      · exact sumR_zero _
      · intro i hi'
        rw [sumR_congr (k := fun _ => 0)]
        · exact sumR_zero _
        · intro u _
          have h1 := hfr i (by omega) (by omega)
          have h2 := hto i (by omega) (by omega)
          have q := pair 12 u i
          rw [i2 _ _ i hi', i2 _ _ i hi', if_neg (fun h => by omega), if_neg (fun h => by omega)] at q
          have n1 := nn 12 u i
          have n2 := nn u 12 i
          omega
    rw [e1, e2]; omega
  have z12 : ∀ v : Nat, v < 11 → f v 12 (-1) = 0 := by
    have hle : sumR 11 (fun v => f v 12 (-1)) ≤ 0 := by
      have : sumR 11 (fun v => f 12 v (-1)) + sumR 11 (fun v => f v 12 (-1)) = sumR 11 (fun v => max 0 (-g v)) := by
        rw [← sumR_add]; exact sumR_congr fun v hv => p12 v hv
      omega
    exact sumR_eq_zero (h := fun v => f v 12 (-1)) (fun v _ => nn _ _ _) hle
  refine ⟨fun i hi' => ?_, fun v hv => ?_⟩
  · have q := pair (fr i) (to i) i
    rw [i2 _ _ i hi', i2 _ _ i hi'] at q
    have n1 := nn (fr i) (to i) i
    have n2 := nn (to i) (fr i) i
    have h1 := hcap i hi'
    by_cases e : fr i = to i
    · rw [if_neg (fun h => h.2.2 e), if_neg (fun h => h.2.2 e)] at q
      dsimp only; omega
    · rw [if_pos ⟨rfl, rfl, e⟩, if_neg (fun h => e h.1.symm)] at q
      dsimp only; omega
  · have bv := bal v
    rw [if_neg (by omega), if_neg (by omega)] at bv
    have ov : outR len (initF len fr to (fun i => hi i - lo i) g) v = max 0 (-g v) + sumR len (fun i => if fr i = v then hi i - lo i else 0) := by
      rw [out_split]
      congr 1
      · rw [s13, i1, i1, if_neg (fun h => by omega), if_neg (fun h => by omega), if_neg (fun h => by omega), if_pos ⟨rfl, by omega, by omega⟩]
        rw [sumR_congr (k := fun _ => 0) (fun u hu => by rw [i1, if_neg (fun h => by omega), if_neg (fun h => by omega)]), sumR_zero]
        omega
      · refine sumR_congr fun i hi' => ?_
        have h2 := hto i (by omega) (by omega)
        by_cases e : fr i = v
        · rw [if_pos e]
          have := sumR_map_only (n := 13) (k := to i) (by omega) (by omega) (fun _ => hi i - lo i)
          rw [← this]
          refine sumR_congr fun u _ => ?_
          rw [i2 _ _ i hi']
          by_cases eu : (u : Int) = to i
          · rw [if_pos eu, if_pos ⟨e.symm, eu, by have := hfr i (by omega) (by omega); omega⟩]
          · rw [if_neg eu, if_neg (fun h => eu h.2.1)]
        · rw [if_neg e, sumR_congr (k := fun _ => 0)]
          · exact sumR_zero _
          · intro u _; rw [i2 _ _ i hi', if_neg (fun h => e h.1.symm)]
    have fv : outR len f v = max 0 (g v) + sumR len (fun i => (if fr i = v then hi i - lo i - f (to i) (fr i) i else 0) + (if to i = v then f (to i) (fr i) i else 0)) := by
      rw [out_split]
      congr 1
      · have q11 := pair v 11 (-1)
        rw [i1, i1, if_neg (fun h => by omega), if_neg (fun h => by omega), if_pos ⟨rfl, by omega, by omega⟩] at q11
        have q11' := f11 v (by omega)
        have q12 := z12 v (by omega)
        rw [s13]
        have e0 : sumR 11 (fun u => f v u (-1)) = 0 := by
          rw [sumR_congr (k := fun _ => 0)]
          · exact sumR_zero _
          · intro u hu
            have q := pair v u (-1)
            rw [i1, i1, if_neg (fun h => by omega), if_neg (fun h => by omega), if_neg (fun h => by omega), if_neg (fun h => by omega)] at q
            have n1 := nn v u (-1)
            have n2 := nn u v (-1)
            omega
        rw [e0]
        rw [show (((11 : Nat) : Int)) = 11 from rfl, show (((12 : Nat) : Int)) = 12 from rfl]
        omega
      · refine sumR_congr fun i hi' => ?_
        have h1 := hfr i (by omega) (by omega)
        have h2 := hto i (by omega) (by omega)
        by_cases e : fr i = v
        · have et : ¬ to i = v := by omega
          rw [if_pos e, if_neg et]
          have := sumR_map_only (n := 13) (k := to i) (by omega) (by omega) (fun _ => hi i - lo i - f (to i) (fr i) i)
          rw [Int.add_zero, ← this]
          refine sumR_congr fun u _ => ?_
          have q := pair v u i
          rw [i2 _ _ i hi', i2 _ _ i hi'] at q
          by_cases eu : (u : Int) = to i
          · rw [if_pos eu]
            rw [if_pos ⟨e.symm, eu, by omega⟩, if_neg (fun h => by omega)] at q
            rw [eu, ← e] at q
            rw [eu, ← e]
            omega
          · rw [if_neg eu]
            rw [if_neg (fun h => eu h.2.1), if_neg (fun h => et h.2.1.symm)] at q
            have n1 := nn v u i
            have n2 := nn u v i
            omega
        · rw [if_neg e]
          by_cases et : to i = v
          · rw [if_pos et]
            have := sumR_map_only (n := 13) (k := fr i) (by omega) (by omega) (fun _ => f (to i) (fr i) i)
            rw [Int.zero_add, ← this]
            refine sumR_congr fun u _ => ?_
            by_cases eu : (u : Int) = fr i
            · rw [if_pos eu, eu, et]
            · rw [if_neg eu]
              have q := pair v u i
              rw [i2 _ _ i hi', i2 _ _ i hi', if_neg (fun h => e h.1.symm), if_neg (fun h => eu h.1)] at q
              have n1 := nn v u i
              have n2 := nn u v i
              omega
          · rw [if_neg et, sumR_congr (k := fun _ => 0)]
            · rw [sumR_zero]; rfl
            · intro u _
              have q := pair v u i
              rw [i2 _ _ i hi', i2 _ _ i hi', if_neg (fun h => e h.1.symm), if_neg (fun h => et h.2.1.symm)] at q
              have n1 := nn v u i
              have n2 := nn u v i
              omega
    have gv : g v = give9 len T C fr to lo v := by rw [← hg]; unfold giveN; rw [if_neg (by omega)]
    have hsplit : give9 len T C fr to (fun i => lo i + f (to i) (fr i) i) v = give9 len T C fr to lo v +
        (sumR len (fun i => (if fr i = v then hi i - lo i - f (to i) (fr i) i else 0) + (if to i = v then f (to i) (fr i) i else 0)) - sumR len (fun i => if fr i = v then hi i - lo i else 0)) := by
      unfold give9
      rw [← sumR_sub, Int.add_assoc, ← sumR_add]
      congr 1
      refine sumR_congr fun i _ => ?_
      by_cases e : fr i = v <;> by_cases et : to i = v <;> simp only [e, et, if_true, if_false] <;> omega
    rw [hsplit, ← gv]
    omega
end
end Go.Proofs.Ytkloaeaepjoijaa

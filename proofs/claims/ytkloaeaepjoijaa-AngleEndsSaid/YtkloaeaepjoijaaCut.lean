/-
  Plain: after the greatest flow, either all that is due flows, and this is a truth, or what can still be reached is a cut.
-/
import Derived.Test.YtkloaeaepjoijaaFlow
set_option linter.all false
namespace Go.Proofs.Ytkloaeaepjoijaa

theorem sumR_neg (n : Nat) (h : Nat → Int) : sumR n (fun i => - h i) = - sumR n h := by
  induction n with
  | zero => rfl
  | succ n ih => simp only [sumR]; omega

theorem sumR_shift (n : Nat) (h : Nat → Int) : sumR (n + 1) h = h 0 + sumR n (fun i => h (i + 1)) := by
  induction n with
  | zero => simp [sumR]
  | succ n ih =>
    have : sumR (n + 1 + 1) h = sumR (n + 1) h + h (n + 1) := rfl
    rw [this, ih]
    simp only [sumR]
    omega

/-- One term alone. -/
theorem sumR_only {n k : Nat} (hk : k < n) (a : Int) : sumR n (fun i => if i = k then a else 0) = a := by
  have := sumR_one hk (fun _ => 0) a
  rw [sumR_zero] at this
  rw [this]; omega

theorem sumR_eq_zero {n : Nat} {h : Nat → Int} (h0 : ∀ i, i < n → 0 ≤ h i) (hs : sumR n h ≤ 0) : ∀ i, i < n → h i = 0 := by
  induction n with
  | zero => intro i hi; omega
  | succ n ih =>
    simp only [sumR] at hs
    have h1 := sumR_nonneg (n := n) (h := h) (fun i hi => h0 i (by omega))
    have h2 := h0 n (by omega)
    intro i hi
    by_cases e : i = n
    · subst e; omega
    · exact ih (fun i hi => h0 i (by omega)) (by omega) i (by omega)

/-- All arcs together, weighed. -/
def sum3 (len : Nat) (h : Nat → Nat → Nat → Int) : Int := sumR 13 fun u => sumR 13 fun v => sumR (len + 1) fun j => h u v j

theorem sum3_congr {len : Nat} {h k : Nat → Nat → Nat → Int} (e : ∀ u v j, u < 13 → v < 13 → j < len + 1 → h u v j = k u v j) : sum3 len h = sum3 len k :=
  sumR_congr fun u hu => sumR_congr fun v hv => sumR_congr fun j hj => e u v j hu hv hj

theorem sum3_add (len : Nat) (h k : Nat → Nat → Nat → Int) : sum3 len (fun u v j => h u v j + k u v j) = sum3 len h + sum3 len k := by
  unfold sum3
  rw [← sumR_add]
  refine sumR_congr fun u _ => ?_
  rw [← sumR_add]
  refine sumR_congr fun v _ => ?_
  rw [← sumR_add]

theorem sum3_swap (len : Nat) (h : Nat → Nat → Nat → Int) : sum3 len (fun u v j => h v u j) = sum3 len h := by
  unfold sum3
  rw [sumR_comm]

def chi (b : Bool) : Int := if b then 1 else 0

theorem chi_split (a b : Bool) (x : Int) : chi a * x = chi a * chi (!b) * x + chi a * chi b * x := by cases a <;> cases b <;> simp [chi]
theorem chi_high (a b : Bool) (lo hi : Int) : (if (a && !b) = true then hi else if (b && !a) = true then -lo else 0) = chi a * chi (!b) * (hi - lo) - (chi b - chi a) * lo := by cases a <;> cases b <;> simp [chi] <;> omega
theorem chi_low (a b : Bool) (lo hi : Int) : (if (!a && !!b) = true then lo else if (!b && !!a) = true then -hi else 0) = -(chi a * chi (!b) * (hi - lo)) - (chi (!b) - chi (!a)) * lo := by cases a <;> cases b <;> simp [chi] <;> omega
theorem chi_part (b : Bool) (x : Int) : x = chi (!b) * x + chi b * x := by cases b <;> simp [chi]
theorem chi_apart (b : Bool) : chi b * chi (!b) = 0 := by cases b <;> simp [chi]
theorem chi_not (b : Bool) (x : Int) : chi b * x = x - chi (!b) * x := by cases b <;> simp [chi]

/-- What flows over a cut: all that is due, less what was left. -/
theorem cut_sum {len : Nat} {f0 f : Int → Int → Int → Int} {S : Int → Bool} {sum : Int}
    (pair : ∀ x y z, f x y z + f y x z = f0 x y z + f0 y x z)
    (bal : ∀ v : Int, outR len f0 v - outR len f v = (if v = 11 then sum else 0) - (if v = 12 then sum else 0))
    (h11 : S 11 = true) (h12 : S 12 = false)
    (closed : ∀ u v : Nat, ∀ j : Nat, u < 13 → v < 13 → j < len + 1 → S u = true → S v = false → f u v ((j : Int) - 1) = 0) :
    sum = sum3 len (fun u v j => chi (S u) * chi (!S v) * f0 u v ((j : Int) - 1)) := by
  have key : ∀ g : Int → Int → Int → Int, sumR 13 (fun u => chi (S u) * outR len g u) =
      sum3 len (fun u v j => chi (S u) * chi (!S v) * g u v ((j : Int) - 1)) + sum3 len (fun u v j => chi (S u) * chi (S v) * g u v ((j : Int) - 1)) := by
    intro g
    rw [← sum3_add]
    unfold sum3 outR
    refine sumR_congr fun u _ => ?_
    rw [← sumR_mul]
    refine sumR_congr fun v _ => ?_
    rw [← sumR_mul]
    refine sumR_congr fun j _ => ?_
    exact chi_split _ _ _
  have sym : ∀ g : Int → Int → Int → Int, 2 * sum3 len (fun u v j => chi (S u) * chi (S v) * g u v ((j : Int) - 1)) =
      sum3 len (fun u v j => chi (S u) * chi (S v) * (g u v ((j : Int) - 1) + g v u ((j : Int) - 1))) := by
    intro g
    have h1 : sum3 len (fun u v j => chi (S u) * chi (S v) * (g u v ((j : Int) - 1) + g v u ((j : Int) - 1))) =
        sum3 len (fun u v j => chi (S u) * chi (S v) * g u v ((j : Int) - 1)) + sum3 len (fun u v j => chi (S u) * chi (S v) * g v u ((j : Int) - 1)) := by
      rw [← sum3_add]
      exact sum3_congr fun u v j _ _ _ => by rw [Int.mul_add]
    have h2 : sum3 len (fun u v j => chi (S u) * chi (S v) * g v u ((j : Int) - 1)) = sum3 len (fun u v j => chi (S u) * chi (S v) * g u v ((j : Int) - 1)) := by
      rw [← sum3_swap len (fun u v j => chi (S u) * chi (S v) * g u v ((j : Int) - 1))]
      exact sum3_congr fun u v j _ _ _ => by rw [Int.mul_comm (chi (S (u : Int)))]
    rw [h1, h2]; omega
  have inner : sum3 len (fun u v j => chi (S u) * chi (S v) * f u v ((j : Int) - 1)) = sum3 len (fun u v j => chi (S u) * chi (S v) * f0 u v ((j : Int) - 1)) := by
    have e1 := sym f
    have e2 := sym f0
    have e3 : sum3 len (fun u v j => chi (S u) * chi (S v) * (f u v ((j : Int) - 1) + f v u ((j : Int) - 1))) = sum3 len (fun u v j => chi (S u) * chi (S v) * (f0 u v ((j : Int) - 1) + f0 v u ((j : Int) - 1))) :=
      sum3_congr fun u v j _ _ _ => by rw [pair]
    omega
  have out0 : sum3 len (fun u v j => chi (S u) * chi (!S v) * f u v ((j : Int) - 1)) = 0 := by
    rw [sum3_congr (k := fun _ _ _ => 0)]
    · unfold sum3; rw [sumR_congr (k := fun _ => 0)]
      · exact sumR_zero _
      · intro u _; rw [sumR_congr (k := fun _ => 0)]
        · exact sumR_zero _
        · intro v _; exact sumR_zero _
    · intro u v j hu hv hj
      cases hSu : S u with
      | false => simp [chi]
      | true =>
        cases hSv : S v with
        | true => simp [chi]
        | false => rw [closed u v j hu hv hj hSu hSv]; simp
  have k0 := key f0
  have k1 := key f
  have tot : sumR 13 (fun u => chi (S u) * outR len f0 u) - sumR 13 (fun u => chi (S u) * outR len f u) = sum := by
    rw [← sumR_sub]
    rw [sumR_congr (k := fun u => if u = 11 then sum else 0)]
    · exact sumR_only (by omega) _
    · intro u hu
      rw [← Int.mul_sub, bal]
      by_cases e : u = 11
      · subst e; simp [h11, chi]
      · rw [if_neg (by omega), if_neg e]
        by_cases e2 : u = 12
        · subst e2; simp [h12, chi]
        · rw [if_neg (by omega)]; simp
  omega

/-- What can flow at first. -/
def initF (len : Nat) (fr to cap give : Int → Int) (x y z : Int) : Int :=
  if z = -1 then (if x = 11 ∧ 0 ≤ y ∧ y ≤ 10 then max 0 (give y) else if y = 12 ∧ 0 ≤ x ∧ x ≤ 10 then max 0 (-give x) else 0)
  else if 0 ≤ z ∧ z < (len : Int) ∧ x = fr z ∧ y = to z ∧ fr z ≠ to z then cap z else 0

section
variable {len : Nat} {fr to cap give : Int → Int}

theorem sumR_map_only {n : Nat} {k : Int} (hk0 : 0 ≤ k) (hk : k < (n : Int)) (a : Int → Int) : sumR n (fun i => if (i : Int) = k then a i else 0) = a k := by
  have := sumR_only (n := n) (k := k.toNat) (by omega) (a k)
  rw [← this]
  refine sumR_congr fun i _ => ?_
  by_cases e : (i : Int) = k
  · rw [if_pos e, if_pos (by omega), e]
  · rw [if_neg e, if_neg (by omega)]

/-- The angles' part of a weighed sum. -/
theorem sum3_angles (hfr : ∀ i, 0 ≤ i → i < (len : Int) → 0 ≤ fr i ∧ fr i ≤ 10) (hto : ∀ i, 0 ≤ i → i < (len : Int) → 0 ≤ to i ∧ to i ≤ 10) (p q : Int → Int) (hpq : ∀ v, p v * q v = 0) :
    (sumR 13 fun u => sumR 13 fun v => sumR len fun j => p u * q v * initF len fr to cap give u v ((j + 1 : Nat) - 1)) = sumR len fun j => p (fr j) * q (to j) * cap j := by
  have e1 : (sumR 13 fun u => sumR 13 fun v => sumR len fun j => p u * q v * initF len fr to cap give u v ((j + 1 : Nat) - 1)) =
      sumR len fun j => sumR 13 fun u => sumR 13 fun v => p u * q v * initF len fr to cap give u v ((j + 1 : Nat) - 1) := by
    rw [sumR_comm len 13 (fun j u => sumR 13 fun v => p u * q v * initF len fr to cap give u v ((j + 1 : Nat) - 1))]
    refine sumR_congr fun u _ => ?_
    rw [sumR_comm]
  rw [e1]
  refine sumR_congr fun j hj => ?_
  have hf := hfr j (by omega) (by omega)
  have ht := hto j (by omega) (by omega)
  have e2 : (sumR 13 fun u => sumR 13 fun v => p u * q v * initF len fr to cap give u v ((j + 1 : Nat) - 1)) =
      sumR 13 fun u => if (u : Int) = fr j then (fun x => sumR 13 fun v => if (v : Int) = to j then (fun y => p x * q y * cap j) v else 0) u else 0 := by
    refine sumR_congr fun u _ => ?_
    by_cases eu : (u : Int) = fr j
    · rw [if_pos eu]
      refine sumR_congr fun v _ => ?_
      by_cases ev : (v : Int) = to j
      · rw [if_pos ev]
        dsimp only
        unfold initF
        rw [show ((j + 1 : Nat) : Int) - 1 = j by omega, if_neg (by omega)]
        by_cases e : fr j = to j
        · rw [if_neg (fun h => h.2.2.2.2 e), eu, ev, ← e, hpq]; simp
        · rw [if_pos ⟨by omega, by omega, eu, ev, e⟩]
      · rw [if_neg ev]
        unfold initF
        rw [show ((j + 1 : Nat) : Int) - 1 = j by omega, if_neg (by omega), if_neg (fun h => ev h.2.2.2.1), Int.mul_zero]
    · rw [if_neg eu, sumR_congr (k := fun _ => 0)]
      · exact sumR_zero _
      · intro v _
        unfold initF
        rw [show ((j + 1 : Nat) : Int) - 1 = j by omega, if_neg (by omega), if_neg (fun h => eu h.2.2.1), Int.mul_zero]
  rw [e2, sumR_map_only hf.1 (by omega) (fun x => sumR 13 fun v => if (v : Int) = to j then (fun y => p x * q y * cap j) v else 0), sumR_map_only ht.1 (by omega) (fun y => p (fr j) * q y * cap j)]


/-- What the arcs from first and to last bear over a cut. -/
theorem sum_ends (S : Int → Bool) (h11 : S 11 = true) (h12 : S 12 = false) :
    (sumR 13 fun u => sumR 13 fun v => chi (S u) * chi (!S v) * initF len fr to cap give u v ((0 : Nat) - 1)) =
      sumR 11 (fun v => chi (!S v) * max 0 (give v)) + sumR 11 (fun u => chi (S u) * max 0 (-give u)) := by
  have row : ∀ u : Nat, u < 11 → (sumR 13 fun v => chi (S u) * chi (!S v) * initF len fr to cap give u v ((0 : Nat) - 1)) = chi (S u) * max 0 (-give u) := by
    intro u hu
    rw [sumR_congr (k := fun v => if v = 12 then chi (S u) * max 0 (-give u) else 0)]
    · exact sumR_only (by omega) _
    · intro v hv
      unfold initF
      rw [if_pos (by omega), if_neg (fun h => by omega)]
      by_cases e : v = 12
      · subst e
        rw [if_pos ⟨rfl, by omega, by omega⟩, if_pos rfl]
        have : (!S ((12 : Nat) : Int)) = true := by rw [show ((12 : Nat) : Int) = 12 from rfl, h12]; rfl
        rw [this]; simp [chi]
      · rw [if_neg (fun h => by omega), if_neg e, Int.mul_zero]
  have row11 : (sumR 13 fun v => chi (S (11 : Nat)) * chi (!S v) * initF len fr to cap give (11 : Nat) v ((0 : Nat) - 1)) = sumR 11 (fun v => chi (!S v) * max 0 (give v)) := by
    have : ∀ h : Nat → Int, sumR 13 h = sumR 11 h + h 11 + h 12 := fun _ => rfl
    rw [this]
    have e1 : (sumR 11 fun v => chi (S (11 : Nat)) * chi (!S v) * initF len fr to cap give (11 : Nat) v ((0 : Nat) - 1)) = sumR 11 (fun v => chi (!S v) * max 0 (give v)) := by
      refine sumR_congr fun v hv => ?_
      unfold initF
      rw [if_pos (by omega), if_pos ⟨by omega, by omega, by omega⟩, show ((11 : Nat) : Int) = 11 from rfl, h11]
      simp [chi]
    have e2 : initF len fr to cap give (11 : Nat) (11 : Nat) ((0 : Nat) - 1) = 0 := by
      unfold initF; rw [if_pos (by omega), if_neg (fun h => by omega), if_neg (fun h => by omega)]
    have e3 : initF len fr to cap give (11 : Nat) (12 : Nat) ((0 : Nat) - 1) = 0 := by
      unfold initF; rw [if_pos (by omega), if_neg (fun h => by omega), if_neg (fun h => by omega)]
    rw [e1, e2, e3]; omega
  have row12 : (sumR 13 fun v => chi (S (12 : Nat)) * chi (!S v) * initF len fr to cap give (12 : Nat) v ((0 : Nat) - 1)) = 0 := by
    rw [sumR_congr (k := fun _ => 0)]
    · exact sumR_zero _
    · intro v _; rw [show ((12 : Nat) : Int) = 12 from rfl, h12]; simp [chi]
  have : ∀ h : Nat → Int, sumR 13 h = sumR 11 h + h 11 + h 12 := fun _ => rfl
  rw [this (fun u => sumR 13 fun v => chi (S u) * chi (!S v) * initF len fr to cap give u v ((0 : Nat) - 1)), row11, row12, sumR_congr row]
  omega

/-- What is due, less what flows, is what a cut lets through too little. -/
theorem cut_due {f : Int → Int → Int → Int} {S : Int → Bool} {sum : Int}
    (hfr : ∀ i, 0 ≤ i → i < (len : Int) → 0 ≤ fr i ∧ fr i ≤ 10) (hto : ∀ i, 0 ≤ i → i < (len : Int) → 0 ≤ to i ∧ to i ≤ 10)
    (pair : ∀ x y z, f x y z + f y x z = initF len fr to cap give x y z + initF len fr to cap give y x z)
    (bal : ∀ v : Int, outR len (initF len fr to cap give) v - outR len f v = (if v = 11 then sum else 0) - (if v = 12 then sum else 0))
    (h11 : S 11 = true) (h12 : S 12 = false)
    (closed : ∀ u v : Nat, ∀ j : Nat, u < 13 → v < 13 → j < len + 1 → S u = true → S v = false → f u v ((j : Int) - 1) = 0) :
    sumR 11 (fun v => max 0 (give v)) - sum = sumR 11 (fun v => chi (S v) * give v) - sumR len (fun j => chi (S (fr j)) * chi (!S (to j)) * cap j) := by
  have h1 := cut_sum pair bal h11 h12 closed
  have h2 : sum3 len (fun u v j => chi (S u) * chi (!S v) * initF len fr to cap give u v ((j : Int) - 1)) =
      (sumR 13 fun u => sumR 13 fun v => chi (S u) * chi (!S v) * initF len fr to cap give u v ((0 : Nat) - 1)) +
      (sumR 13 fun u => sumR 13 fun v => sumR len fun j => chi (S u) * chi (!S v) * initF len fr to cap give u v ((j + 1 : Nat) - 1)) := by
    unfold sum3
    rw [← sumR_add]
    refine sumR_congr fun u _ => ?_
    rw [← sumR_add]
    refine sumR_congr fun v _ => ?_
    rw [sumR_shift]
  have h3 := sum_ends (len := len) (fr := fr) (to := to) (cap := cap) (give := give) S h11 h12
  have h4 := sum3_angles (cap := cap) (give := give) hfr hto (fun v => chi (S v)) (fun v => chi (!S v)) (fun v => chi_apart _)
  have h5 : sumR 11 (fun v => max 0 (give v)) = sumR 11 (fun v => chi (!S v) * max 0 (give v)) + sumR 11 (fun v => chi (S v) * max 0 (give v)) := by
    rw [← sumR_add]
    refine sumR_congr fun v _ => ?_
    exact chi_part _ _
  have h6 : sumR 11 (fun v => chi (S v) * give v) = sumR 11 (fun v => chi (S v) * max 0 (give v)) - sumR 11 (fun u => chi (S u) * max 0 (-give u)) := by
    rw [← sumR_sub]
    refine sumR_congr fun v _ => ?_
    rw [← Int.mul_sub]
    congr 1
    omega
  omega
end

/-! ### Nets: triangles are the nodes 0 to 4, circles 5 to 9, 10 is free -/

/-- Which node an angle leads from, and to. -/
def nodeOf (i base : Int) : Int := if i = -1 then 10 else base + i

/-- What a node gives, ahead of all angles. -/
def base (T C : Int) (v : Int) : Int := if 0 ≤ v ∧ v < T then 36 else if 5 ≤ v ∧ v < 5 + C then -72 else 0

/-- What a node gives if all angles are at the Lo of their rooms. -/
def give9 (len : Nat) (T C : Int) (fr to lo : Int → Int) (v : Int) : Int :=
  base T C v + sumR len (fun i => (if to i = v then lo i else 0) - (if fr i = v then lo i else 0))

def giveN (len : Nat) (T C : Int) (fr to lo : Int → Int) (v : Int) : Int :=
  if v = 10 then - sumR 10 (fun u => give9 len T C fr to lo u) else give9 len T C fr to lo v

/-- The ends of what angles bear over a cut, and the difference that they must bear. -/
def lowM (len : Nat) (fr to lo hi : Int → Int) (m : Int → Bool) : Int := sumR len fun i => if m (fr i) && !m (to i) then lo i else if m (to i) && !m (fr i) then -hi i else 0
def highM (len : Nat) (fr to lo hi : Int → Int) (m : Int → Bool) : Int := sumR len fun i => if m (fr i) && !m (to i) then hi i else if m (to i) && !m (fr i) then -lo i else 0
def diffM (T C : Int) (m : Int → Bool) : Int := sumR 10 fun v => chi (m v) * base T C v

section
variable {len : Nat} {T C : Int} {fr to lo hi : Int → Int}

theorem sum_give9 (hfr : ∀ i, 0 ≤ i → i < (len : Int) → 0 ≤ fr i ∧ fr i ≤ 10) (hto : ∀ i, 0 ≤ i → i < (len : Int) → 0 ≤ to i ∧ to i ≤ 10) (m : Int → Bool) (hm : m 10 = false) :
    sumR 10 (fun v => chi (m v) * give9 len T C fr to lo v) = diffM T C m + sumR len (fun i => (chi (m (to i)) - chi (m (fr i))) * lo i) := by
  have e1 : sumR 10 (fun v => chi (m v) * give9 len T C fr to lo v) = diffM T C m + sumR 10 (fun v => sumR len (fun i => chi (m v) * ((if to i = v then lo i else 0) - (if fr i = v then lo i else 0)))) := by
    unfold diffM
    rw [← sumR_add]
    refine sumR_congr fun v _ => ?_
    unfold give9
    rw [Int.mul_add, sumR_mul]
  rw [e1, sumR_comm]
  congr 1
  refine sumR_congr fun i hi' => ?_
  have h1 := hfr i (by omega) (by omega)
  have h2 := hto i (by omega) (by omega)
  have one : ∀ x : Int, 0 ≤ x → x ≤ 10 → sumR 10 (fun v => chi (m v) * (if x = v then lo i else 0)) = chi (m x) * lo i := by
    intro x hx0 hx1
    by_cases e : x = 10
    · subst e
      rw [hm, sumR_congr (k := fun _ => 0)]
      · rw [sumR_zero]; simp [chi]
      · intro v hv; rw [if_neg (by omega)]; simp
    · have := sumR_map_only (n := 10) (k := x) hx0 (by omega) (fun v => chi (m v) * lo i)
      rw [← this]
      refine sumR_congr fun v _ => ?_
      by_cases ev : x = v
      · rw [if_pos ev, if_pos ev.symm]
      · rw [if_neg ev, if_neg (fun h => ev h.symm), Int.mul_zero]
  have e2 : sumR 10 (fun v => chi (m v) * ((if to i = v then lo i else 0) - (if fr i = v then lo i else 0))) = sumR 10 (fun v => chi (m v) * (if to i = v then lo i else 0)) - sumR 10 (fun v => chi (m v) * (if fr i = v then lo i else 0)) := by
    rw [← sumR_sub]
    exact sumR_congr fun v _ => by rw [Int.mul_sub]
  rw [e2, one _ h2.1 h2.2, one _ h1.1 h1.2, Int.sub_mul]

/-- What can still be reached when less than what is due flows denies: of both sides the one without the free node. -/
theorem cut_denies {f : Int → Int → Int → Int} {S m : Int → Bool} {sum : Int}
    (hfr : ∀ i, 0 ≤ i → i < (len : Int) → 0 ≤ fr i ∧ fr i ≤ 10) (hto : ∀ i, 0 ≤ i → i < (len : Int) → 0 ≤ to i ∧ to i ≤ 10)
    (pair : ∀ x y z, f x y z + f y x z = initF len fr to (fun i => hi i - lo i) (giveN len T C fr to lo) x y z + initF len fr to (fun i => hi i - lo i) (giveN len T C fr to lo) y x z)
    (bal : ∀ v : Int, outR len (initF len fr to (fun i => hi i - lo i) (giveN len T C fr to lo)) v - outR len f v = (if v = 11 then sum else 0) - (if v = 12 then sum else 0))
    (h11 : S 11 = true) (h12 : S 12 = false)
    (closed : ∀ u v : Nat, ∀ j : Nat, u < 13 → v < 13 → j < len + 1 → S u = true → S v = false → f u v ((j : Int) - 1) = 0)
    (hlt : sum < sumR 11 (fun v => max 0 (giveN len T C fr to lo v))) (hm : ∀ v, m v = (S v == !S 10)) :
    diffM T C m < lowM len fr to lo hi m ∨ highM len fr to lo hi m < diffM T C m := by
  have hd := cut_due hfr hto pair bal h11 h12 closed
  have hm10 : m 10 = false := by rw [hm]; cases S 10 <;> rfl
  have hg := sum_give9 (T := T) (C := C) (lo := lo) hfr hto m hm10
  have h10 : sumR 11 (fun v => chi (S v) * giveN len T C fr to lo v) = sumR 10 (fun v => chi (S v) * give9 len T C fr to lo v) - chi (S 10) * sumR 10 (fun u => give9 len T C fr to lo u) := by
    have : ∀ h : Nat → Int, sumR 11 h = sumR 10 h + h 10 := fun _ => rfl
    rw [this]
    have e1 : sumR 10 (fun v => chi (S v) * giveN len T C fr to lo v) = sumR 10 (fun v => chi (S v) * give9 len T C fr to lo v) :=
      sumR_congr fun v hv => by unfold giveN; rw [if_neg (by omega)]
    have e2 : giveN len T C fr to lo ((10 : Nat) : Int) = - sumR 10 (fun u => give9 len T C fr to lo u) := by unfold giveN; rw [if_pos (by omega)]
    rw [e1, e2]
    rw [show (((10 : Nat) : Int)) = 10 from rfl, Int.mul_neg]
    omega
  cases hS : S 10 with
  | false =>
    right
    have hmS : ∀ v, m v = S v := fun v => by rw [hm, hS]; cases S v <;> rfl
    rw [hS] at h10
    have e1 : sumR 10 (fun v => chi (S v) * give9 len T C fr to lo v) = sumR 10 (fun v => chi (m v) * give9 len T C fr to lo v) := sumR_congr fun v _ => by rw [hmS]
    have e2 : highM len fr to lo hi m = sumR len (fun j => chi (S (fr j)) * chi (!S (to j)) * (hi j - lo j)) - sumR len (fun i => (chi (m (to i)) - chi (m (fr i))) * lo i) := by
      unfold highM
      rw [← sumR_sub]
      refine sumR_congr fun i _ => ?_
      rw [hmS, hmS]
      exact chi_high _ _ _ _
    simp only [chi, Bool.false_eq_true, if_false] at h10
    simp only [chi] at *
    omega
  | true =>
    left
    have hmS : ∀ v, m v = !S v := fun v => by rw [hm, hS]; cases S v <;> rfl
    rw [hS] at h10
    have e1 : sumR 10 (fun v => chi (S v) * give9 len T C fr to lo v) = sumR 10 (fun u => give9 len T C fr to lo u) - sumR 10 (fun v => chi (m v) * give9 len T C fr to lo v) := by
      rw [← sumR_sub]
      refine sumR_congr fun v _ => ?_
      rw [hmS]
      exact chi_not _ _
    have e2 : lowM len fr to lo hi m = - sumR len (fun j => chi (S (fr j)) * chi (!S (to j)) * (hi j - lo j)) - sumR len (fun i => (chi (m (to i)) - chi (m (fr i))) * lo i) := by
      unfold lowM
      rw [← sumR_neg, ← sumR_sub]
      refine sumR_congr fun i _ => ?_
      rw [hmS, hmS]
      exact chi_low _ _ _ _
    simp only [chi, if_true] at h10
    simp only [chi] at *
    omega
end
end Go.Proofs.Ytkloaeaepjoijaa

/-
  Plain: what a walk through the residual net does to what can still flow.
-/
import Derived.Test.YtkloaeaepjoijaaPush
set_option linter.all false
namespace Go.Proofs.Ytkloaeaepjoijaa

def sumR : Nat → (Nat → Int) → Int
  | 0, _ => 0
  | n + 1, h => sumR n h + h n

theorem sumR_congr {n : Nat} {h k : Nat → Int} (e : ∀ i, i < n → h i = k i) : sumR n h = sumR n k := by
  induction n with
  | zero => rfl
  | succ n ih => simp only [sumR]; rw [ih (fun i hi => e i (by omega)), e n (by omega)]

theorem sumR_add (n : Nat) (h k : Nat → Int) : sumR n (fun i => h i + k i) = sumR n h + sumR n k := by
  induction n with
  | zero => rfl
  | succ n ih => simp only [sumR]; omega

theorem sumR_sub (n : Nat) (h k : Nat → Int) : sumR n (fun i => h i - k i) = sumR n h - sumR n k := by
  induction n with
  | zero => rfl
  | succ n ih => simp only [sumR]; omega

theorem sumR_zero (n : Nat) : sumR n (fun _ => 0) = 0 := by
  induction n with
  | zero => rfl
  | succ n ih => simp only [sumR]; omega

theorem sumR_mul (n : Nat) (c : Int) (h : Nat → Int) : sumR n (fun i => c * h i) = c * sumR n h := by
  induction n with
  | zero => simp [sumR]
  | succ n ih => simp only [sumR]; rw [ih, Int.mul_add]

theorem sumR_le {n : Nat} {h k : Nat → Int} (e : ∀ i, i < n → h i ≤ k i) : sumR n h ≤ sumR n k := by
  induction n with
  | zero => exact Int.le_refl _
  | succ n ih => simp only [sumR]; have := ih (fun i hi => e i (by omega)); have := e n (by omega); omega

theorem sumR_nonneg {n : Nat} {h : Nat → Int} (e : ∀ i, i < n → 0 ≤ h i) : 0 ≤ sumR n h := by
  have := sumR_le (n := n) (h := fun _ => 0) (k := h) e
  rw [sumR_zero] at this
  exact this

theorem sumR_one {n k : Nat} (hk : k < n) (h : Nat → Int) (a : Int) : sumR n (fun i => if i = k then a else h i) = sumR n h + (a - h k) := by
  induction n with
  | zero => omega
  | succ n ih =>
    simp only [sumR]
    by_cases e : k = n
    · subst e
      rw [sumR_congr (k := h) (fun i hi => if_neg (by omega)), if_pos rfl]
      omega
    · rw [ih (by omega), if_neg (by omega)]
      omega

theorem sumR_comm (m n : Nat) (h : Nat → Nat → Int) : sumR m (fun i => sumR n (fun j => h i j)) = sumR n (fun j => sumR m (fun i => h i j)) := by
  induction m with
  | zero => simp only [sumR]; rw [sumR_zero]
  | succ m ih => simp only [sumR]; rw [ih, ← sumR_add]

/-- What can still flow from a node, along all arcs. -/
def outR (len : Nat) (f : Int → Int → Int → Int) (v : Int) : Int := sumR 13 (fun u => sumR (len + 1) (fun j => f v u ((j : Int) - 1)))

theorem outR_upd (len : Nat) (f : Int → Int → Int → Int) (x y z a v : Int) (hy : 0 ≤ y) (hy2 : y < 13) (hz : -1 ≤ z) (hz2 : z < (len : Int)) :
    outR len (upd f x y z a) v = outR len f v + (if v = x then a - f x y z else 0) := by
  by_cases e : v = x
  · subst e
    rw [if_pos rfl]
    unfold outR
    have h1 : ∀ u : Nat, sumR (len + 1) (fun j => upd f v y z a v u ((j : Int) - 1)) = if u = y.toNat then sumR (len + 1) (fun j => f v y ((j : Int) - 1)) + (a - f v y z) else sumR (len + 1) (fun j => f v u ((j : Int) - 1)) := by
      intro u
      split
      · rename_i hu
        have hu' : (u : Int) = y := by omega
        have := sumR_one (n := len + 1) (k := (z + 1).toNat) (by omega) (fun j => f v y ((j : Int) - 1)) a
        rw [show ((((z + 1).toNat : Nat) : Int) - 1) = z by omega] at this
        rw [← this]
        refine sumR_congr fun j _ => ?_
        unfold upd
        rw [hu']
        by_cases hj : j = (z + 1).toNat
        · rw [if_pos ⟨rfl, rfl, by omega⟩, if_pos hj]
        · rw [if_neg (fun h => hj (by omega)), if_neg hj]
      · rename_i hu
        refine sumR_congr fun j _ => ?_
        unfold upd
        rw [if_neg (fun h => hu (by omega))]
    rw [sumR_congr (fun u _ => h1 u), sumR_one (k := y.toNat) (by omega) (fun u => sumR (len + 1) (fun j => f v u ((j : Int) - 1)))]
    rw [show ((y.toNat : Nat) : Int) = y by omega]
    omega
  · rw [if_neg e]
    unfold outR
    rw [Int.add_zero]
    refine sumR_congr fun u _ => sumR_congr fun j _ => ?_
    unfold upd
    rw [if_neg (fun h => e h.1)]

/-- What a walk that comes through does: 'got' flows from src to the last node (12), along arcs that touch no node of s. -/
structure Aug (len : Nat) (s : Int → Bool) (src got : Int) (f f' : Int → Int → Int → Int) : Prop where
  nn : ∀ x y z, 0 ≤ f' x y z
  pair : ∀ x y z, f' x y z + f' y x z = f x y z + f y x z
  keep : ∀ x y z, (s x = true ∨ s y = true) → f' x y z = f x y z
  bal : ∀ v : Int, outR len f v - outR len f' v = (if v = src then got else 0) - (if v = 12 then got else 0)

theorem Aug.last (len : Nat) (s : Int → Bool) (got : Int) (f : Int → Int → Int → Int) (hf : ∀ x y z, 0 ≤ f x y z) : Aug len s 12 got f f :=
  ⟨hf, fun _ _ _ => rfl, fun _ _ _ _ => rfl, fun v => by omega⟩

theorem pushF_at (f : Int → Int → Int → Int) (x y z n a b c : Int) (hxy : x ≠ y) :
    pushF f x y z n a b c = if a = x ∧ b = y ∧ c = z then f x y z - n else if a = y ∧ b = x ∧ c = z then f y x z + n else f a b c := by
  unfold pushF upd
  by_cases h1 : a = y ∧ b = x ∧ c = z
  · obtain ⟨rfl, rfl, rfl⟩ := h1
    rw [if_pos ⟨rfl, rfl, rfl⟩, if_neg (fun h => hxy h.2.1), if_neg (fun h => hxy h.2.1), if_pos ⟨rfl, rfl, rfl⟩]
  · rw [if_neg h1, if_neg h1]

theorem Aug.push {len : Nat} {s s1 : Int → Bool} {src to i got : Int} {f f1 : Int → Int → Int → Int} (hf : ∀ x y z, 0 ≤ f x y z)
    (h : Aug len s1 to got f f1) (hss : ∀ v, s v = true → s1 v = true) (hs1 : s1 src = true) (hsrc : s src = false) (hto : s1 to = false)
    (h0 : 0 ≤ src) (h1 : src < 13) (h2 : 0 ≤ to) (h3 : to < 13) (h4 : -1 ≤ i) (h5 : i < (len : Int)) (hg0 : 0 ≤ got) (hg : got ≤ f src to i) :
    Aug len s src got f (pushF f1 src to i got) := by
  have hne : src ≠ to := fun e => by rw [e, hto] at hs1; cases hs1
  have hk : f1 src to i = f src to i := h.keep _ _ _ (.inl hs1)
  have hto' : s to = false := by
    cases e : s to with
    | false => rfl
    | true => rw [hss _ e] at hto; cases hto
  refine ⟨fun x y z => ?_, fun x y z => ?_, fun x y z hxy => ?_, fun v => ?_⟩
  · rw [pushF_at _ _ _ _ _ _ _ _ hne]
    split
    · omega
    · split
      · have := h.nn to src i; omega
      · exact h.nn _ _ _
  · have hp := h.pair x y z
    rw [pushF_at _ _ _ _ _ _ _ _ hne, pushF_at _ _ _ _ _ _ _ _ hne]
    by_cases e1 : x = src ∧ y = to ∧ z = i
    · obtain ⟨rfl, rfl, rfl⟩ := e1
      rw [if_pos ⟨rfl, rfl, rfl⟩, if_neg (fun h => hne h.2.1), if_pos ⟨rfl, rfl, rfl⟩]
      omega
    · rw [if_neg e1]
      by_cases e2 : x = to ∧ y = src ∧ z = i
      · obtain ⟨rfl, rfl, rfl⟩ := e2
        rw [if_pos ⟨rfl, rfl, rfl⟩, if_pos ⟨rfl, rfl, rfl⟩]
        omega
      · rw [if_neg e2, if_neg (fun h => e2 ⟨h.2.1, h.1, h.2.2⟩), if_neg (fun h => e1 ⟨h.2.1, h.1, h.2.2⟩)]
        exact hp
  · rw [pushF_at _ _ _ _ _ _ _ _ hne, if_neg, if_neg]
    · exact h.keep _ _ _ (hxy.imp (hss _) (hss _))
    · rintro ⟨rfl, rfl, rfl⟩
      rw [hsrc, hto'] at hxy
      simp at hxy
    · rintro ⟨rfl, rfl, rfl⟩
      rw [hsrc, hto'] at hxy
      simp at hxy
  · have hb := h.bal v
    unfold pushF
    rw [outR_upd _ _ _ _ _ _ _ h0 h1 h4 h5, outR_upd _ _ _ _ _ _ _ h2 h3 h4 h5]
    (repeat' split at hb) <;> (repeat' split) <;> omega

end Go.Proofs.Ytkloaeaepjoijaa

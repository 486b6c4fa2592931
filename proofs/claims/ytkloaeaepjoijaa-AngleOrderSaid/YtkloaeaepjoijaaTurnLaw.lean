/-
  Triangles and circles numbered in another order: the same truths.
-/
import Derived.Test.YtkloaeaepjoijaaLawC
set_option linter.all false
namespace Go.Proofs.Ytkloaeaepjoijaa

/-- A number, turned round. -/
def rotI (T k t : Int) : Int := if 0 ≤ t then (t + k) % T else t
def rotA (T C k j : Int) (a : Ang) : Ang := ⟨rotI T k a.t, rotI C j a.c, a.r, a.g⟩
def rotL (T C k j : Int) (l : List Ang) : List Ang := l.map (rotA T C k j)
/-- The first so many are turned. -/
def rotK (T C k j : Int) (l : List Ang) (m : Nat) : List Ang := (l.take m).map (rotA T C k j) ++ l.drop m

theorem rotK_len (T C k j : Int) (l : List Ang) (m : Nat) : (rotK T C k j l m).length = l.length := by
  unfold rotK; rw [List.length_append, List.length_map, List.length_take, List.length_drop]; omega
theorem rotK_zero (T C k j : Int) (l : List Ang) : rotK T C k j l 0 = l := by simp [rotK]
theorem rotK_all (T C k j : Int) (l : List Ang) : rotK T C k j l l.length = rotL T C k j l := by simp [rotK, rotL]
theorem rotK_at {T C k j : Int} {l : List Ang} {m : Nat} (hm : m < l.length) : (rotK T C k j l m)[m]'(by rw [rotK_len]; exact hm) = l[m] := by
  unfold rotK
  rw [List.getElem_append_right (by simp; omega)]
  simp [show min m l.length = m by omega]
theorem rotK_step {T C k j : Int} {l : List Ang} {m : Nat} (hm : m < l.length) : (rotK T C k j l m).set m (rotA T C k j l[m]) = rotK T C k j l (m + 1) := by
  refine List.ext_getElem (by rw [List.length_set, rotK_len, rotK_len]) fun i h1 h2 => ?_
  rw [rotK_len] at h2
  have hg : ∀ (m' i : Nat) (h : i < l.length), (rotK T C k j l m')[i]'(by rw [rotK_len]; exact h) = if i < m' then rotA T C k j l[i] else l[i] := by
    intro m' i h
    unfold rotK
    by_cases e : i < m'
    · rw [List.getElem_append_left (by simp; omega), if_pos e]; simp
    · rw [List.getElem_append_right (by simp; omega), if_neg e]
      simp only [List.getElem_drop, List.length_map, List.length_take]
      congr 1; omega
  by_cases e : m = i
  · subst e
    rw [List.getElem_set_self, hg _ _ hm, if_pos (by omega)]
  · rw [List.getElem_set_ne e, hg _ _ h2, hg _ _ h2]
    by_cases e2 : i < m
    · rw [if_pos e2, if_pos (by omega)]
    · rw [if_neg e2, if_neg (by omega)]

section
variable {T C k j : Int} {l : List Ang}
theorem rotL_len : (rotL T C k j l).length = l.length := by simp [rotL]
theorem rotL_at {i : Nat} (h : i < l.length) : (rotL T C k j l)[i]'(by rw [rotL_len]; exact h) = rotA T C k j l[i] := by simp [rotL]

theorem rotI_range {t : Int} (h0 : -1 ≤ t) (h1 : t < T) (hk : 0 ≤ k) : -1 ≤ rotI T k t ∧ rotI T k t < T := by
  unfold rotI
  split
  · have h2 := Int.emod_nonneg (t + k) (by omega : T ≠ 0)
    have h3 := Int.emod_lt_of_pos (t + k) (by omega : 0 < T)
    omega
  · omega
theorem rotL_ok (hok : NetOk l T C) (hk : 0 ≤ k) (hj : 0 ≤ j) : NetOk (rotL T C k j l) T C := by
  refine ⟨by rw [rotL_len]; exact hok.pos, by rw [rotL_len]; exact hok.len, hok.t0, hok.t1, hok.c0, hok.c1, fun a ha => ?_⟩
  simp only [rotL, List.mem_map] at ha
  obtain ⟨b, hb, rfl⟩ := ha
  have h := hok.ang b hb
  have h1 := rotI_range (k := k) h.1 h.2.1 hk
  have h2 := rotI_range (k := j) h.2.2.1 h.2.2.2.1 hj
  simp only [rotA]
  omega
theorem rotL_room (e : Int) (out : List Int) (i : Nat) : roomLo (rotL T C k j l) e out i = roomLo l e out i ∧ roomHi (rotL T C k j l) e out i = roomHi l e out i := by
  unfold roomLo roomHi rotL
  rw [List.getElem?_map]
  cases l[(i : Int).toNat]? <;> exact ⟨rfl, rfl⟩

theorem sumR_rot1 (n : Nat) (f : Nat → Int) : sumR (n + 1) (fun v => f ((v + 1) % (n + 1))) = sumR (n + 1) f := by
  rw [sumR_shift n f]
  show sumR n (fun v => f ((v + 1) % (n + 1))) + f ((n + 1) % (n + 1)) = _
  rw [Nat.mod_self, sumR_congr (k := fun i => f (i + 1)) (fun i hi => by rw [Nat.mod_eq_of_lt (by omega)])]
  omega
theorem sumR_rot (n k : Nat) (f : Nat → Int) : sumR (n + 1) (fun v => f ((v + k) % (n + 1))) = sumR (n + 1) f := by
  induction k generalizing f with
  | zero => exact sumR_congr fun i hi => by rw [Nat.add_zero, Nat.mod_eq_of_lt hi]
  | succ k ih =>
    rw [← sumR_rot1 n f, ← ih (fun v => f ((v + 1) % (n + 1)))]
    refine sumR_congr fun i _ => ?_
    congr 1
    rw [Nat.mod_add_mod]; congr 1
theorem diffM_parts (hT0 : 0 ≤ T) (hT : T ≤ 5) (hC0 : 0 ≤ C) (hC : C ≤ 5) (m : Int → Bool) : diffM T C m = 36 * sumR T.toNat (fun v => chi (m v)) - 72 * sumR C.toNat (fun c => chi (m ((5 + c : Nat) : Int))) := by
  have h1 : T = 0 ∨ T = 1 ∨ T = 2 ∨ T = 3 ∨ T = 4 ∨ T = 5 := by omega
  have h2 : C = 0 ∨ C = 1 ∨ C = 2 ∨ C = 3 ∨ C = 4 ∨ C = 5 := by omega
  unfold diffM base
  rcases h1 with rfl | rfl | rfl | rfl | rfl | rfl <;> rcases h2 with rfl | rfl | rfl | rfl | rfl | rfl <;> simp [sumR] <;> omega

/-- The node that a node becomes. -/
def rotN (T C k j v : Int) : Int := if 0 ≤ v ∧ v < T then (v + k) % T else if 5 ≤ v ∧ v < 5 + C then 5 + (v - 5 + j) % C else v

theorem sumR_rotZ {n : Int} (h0 : 0 ≤ n) (hk : 0 ≤ k) (f : Int → Int) : sumR n.toNat (fun v => f (((v : Int) + k) % n)) = sumR n.toNat (fun v => f v) := by
  obtain ⟨n, rfl⟩ := Int.eq_ofNat_of_zero_le h0
  obtain ⟨k, rfl⟩ := Int.eq_ofNat_of_zero_le hk
  rw [Int.toNat_natCast]
  cases n with
  | zero => rfl
  | succ n =>
    rw [← sumR_rot n k (fun v => f v)]
    exact sumR_congr fun i _ => by simp

theorem diffM_rot (hT0 : 0 ≤ T) (hT : T ≤ 5) (hC0 : 0 ≤ C) (hC : C ≤ 5) (hk : 0 ≤ k) (hj : 0 ≤ j) (m : Int → Bool) : diffM T C (fun v => m (rotN T C k j v)) = diffM T C m := by
  rw [diffM_parts hT0 hT hC0 hC, diffM_parts hT0 hT hC0 hC]
  have e1 : sumR T.toNat (fun v => chi (m (rotN T C k j v))) = sumR T.toNat (fun v => chi (m v)) := by
    rw [← sumR_rotZ hT0 hk (fun v => chi (m v))]
    exact sumR_congr fun i hi => by unfold rotN; rw [if_pos (by omega)]
  have e2 : sumR C.toNat (fun c => chi (m (rotN T C k j ((5 + c : Nat) : Int)))) = sumR C.toNat (fun c => chi (m ((5 + c : Nat) : Int))) := by
    have := sumR_rotZ (k := j) hC0 hj (fun v => chi (m (5 + v)))
    have h2 : sumR C.toNat (fun c => chi (m ((5 + c : Nat) : Int))) = sumR C.toNat (fun v => (fun v : Int => chi (m (5 + v))) (v : Int)) := sumR_congr fun i _ => by simp
    rw [h2, ← this]
    refine sumR_congr fun i hi => ?_
    unfold rotN
    rw [if_neg (by omega), if_pos (by omega)]
    have e : ((5 + i : Nat) : Int) - 5 + j = (i : Int) + j := by omega
    rw [e]
  rw [e1, e2]

theorem nodeOf_rotT {t : Int} (h0 : -1 ≤ t) (h1 : t < T) (hT : T ≤ 5) (hC : C ≤ 5) (hk : 0 ≤ k) : nodeOf (rotI T k t) 0 = rotN T C k j (nodeOf t 0) := by
  have hr := rotI_range h0 h1 hk
  by_cases e : t = -1
  · subst e
    have : rotI T k (-1) = -1 := by unfold rotI; rw [if_neg (by omega)]
    rw [this]
    unfold rotN nodeOf
    rw [if_pos rfl, if_neg (by omega)]
    split
    · omega
    · rfl
  · have h2 : rotI T k t = (t + k) % T := by unfold rotI; rw [if_pos (by omega)]
    have h3 := Int.emod_nonneg (t + k) (by omega : T ≠ 0)
    unfold nodeOf
    rw [h2, if_neg (by omega), if_neg e]
    unfold rotN
    rw [if_pos (by omega), Int.zero_add, Int.zero_add]
theorem nodeOf_rotC {c : Int} (h0 : -1 ≤ c) (h1 : c < C) (hT : T ≤ 5) (hC : C ≤ 5) (hj : 0 ≤ j) : nodeOf (rotI C j c) 5 = rotN T C k j (nodeOf c 5) := by
  by_cases e : c = -1
  · subst e
    have : rotI C j (-1) = -1 := by unfold rotI; rw [if_neg (by omega)]
    rw [this]
    unfold rotN nodeOf
    rw [if_pos rfl, if_neg (by omega)]
    split
    · omega
    · rfl
  · have h2 : rotI C j c = (c + j) % C := by unfold rotI; rw [if_pos (by omega)]
    have h3 := Int.emod_nonneg (c + j) (by omega : C ≠ 0)
    unfold nodeOf
    rw [h2, if_neg (by omega), if_neg e]
    unfold rotN
    rw [if_neg (by omega), if_pos (by omega), show 5 + c - 5 + j = c + j by omega]

theorem rotL_one (hok : NetOk l T C) (hk : 0 ≤ k) (hj : 0 ≤ j) {lo hi : Int → Int} (h : canB l T C lo hi = true) : canB (rotL T C k j l) T C lo hi = true := by
  rw [canB_iff (rotL_ok hok hk hj)]
  rw [canB_iff hok] at h
  intro m hm
  have h10 : rotN T C k j 10 = 10 := by
    have := hok.t1; have := hok.c1
    unfold rotN; rw [if_neg (by omega), if_neg (by omega)]
  have h1 := h (fun v => m (rotN T C k j v)) (by rw [h10]; exact hm)
  rw [diffM_rot hok.t0 hok.t1 hok.c0 hok.c1 hk hj m] at h1
  have hf : ∀ i : Nat, i < l.length → frL (rotL T C k j l) i = rotN T C k j (frL l i) := fun i hi => by
    have ha := hok.ang l[i] (List.getElem_mem hi)
    rw [frL_at hi, frL_at (by rw [rotL_len]; exact hi), rotL_at hi]
    exact nodeOf_rotT ha.1 ha.2.1 hok.t1 hok.c1 hk
  have ht : ∀ i : Nat, i < l.length → toL (rotL T C k j l) i = rotN T C k j (toL l i) := fun i hi => by
    have ha := hok.ang l[i] (List.getElem_mem hi)
    rw [toL_at hi, toL_at (by rw [rotL_len]; exact hi), rotL_at hi]
    exact nodeOf_rotC ha.2.2.1 ha.2.2.2.1 hok.t1 hok.c1 hj
  have el : lowM (rotL T C k j l).length (frL (rotL T C k j l)) (toL (rotL T C k j l)) lo hi m = lowM l.length (frL l) (toL l) lo hi (fun v => m (rotN T C k j v)) := by
    unfold lowM; rw [rotL_len]; exact sumR_congr fun i hi => by rw [hf i hi, ht i hi]
  have eh : highM (rotL T C k j l).length (frL (rotL T C k j l)) (toL (rotL T C k j l)) lo hi m = highM l.length (frL l) (toL l) lo hi (fun v => m (rotN T C k j v)) := by
    unfold highM; rw [rotL_len]; exact sumR_congr fun i hi => by rw [hf i hi, ht i hi]
  rw [el, eh]; exact h1

/-- The turn back. -/
def backN (n q : Int) : Int := if n ≤ 0 then 0 else n - q % n
theorem backN_pos (n q : Int) : 0 ≤ backN n q := by
  unfold backN
  split
  · omega
  · have := Int.emod_lt_of_pos q (by omega : 0 < n); omega
theorem rotI_back {t : Int} (h0 : -1 ≤ t) (h1 : t < T) : rotI T (backN T k) (rotI T k t) = t := by
  by_cases e : t = -1
  · subst e; unfold rotI; rw [if_neg (by omega), if_neg (by omega)]
  · have h2 : rotI T k t = (t + k) % T := by unfold rotI; rw [if_pos (by omega)]
    have h3 := Int.emod_nonneg (t + k) (by omega : T ≠ 0)
    rw [h2]; unfold rotI; rw [if_pos h3]
    unfold backN
    rw [if_neg (by omega)]
    have h4 : (t + k) % T + (T - k % T) = ((t + k) % T - k % T) + T := by omega
    rw [h4, Int.add_emod_right, ← Int.sub_emod, show t + k - k = t by omega, Int.emod_eq_of_lt (by omega) h1]
theorem rotL_back (hok : NetOk l T C) : rotL T C (backN T k) (backN C j) (rotL T C k j l) = l := by
  unfold rotL
  rw [List.map_map]
  refine (List.map_congr_left (g := id) fun a ha => ?_).trans (List.map_id _)
  have h := hok.ang a ha
  simp only [Function.comp, rotA, id]
  rw [rotI_back h.1 h.2.1, rotI_back h.2.2.1 h.2.2.2.1]
theorem rotL_can (hok : NetOk l T C) (hk : 0 ≤ k) (hj : 0 ≤ j) (lo hi : Int → Int) : canB (rotL T C k j l) T C lo hi = canB l T C lo hi := by
  rw [Bool.eq_iff_iff]
  constructor
  · intro h
    have := rotL_one (k := backN T k) (j := backN C j) (rotL_ok hok hk hj) (backN_pos _ _) (backN_pos _ _) h
    rwa [rotL_back hok] at this
  · exact rotL_one hok hk hj

theorem rotL_canE (hok : NetOk l T C) (hk : 0 ≤ k) (hj : 0 ≤ j) (e : Int) (out : List Int) : canE (rotL T C k j l) T C e out = canE l T C e out := by
  unfold canE
  rw [rotL_can hok hk hj]
  exact canB_congr (fun i _ => (rotL_room e out i).1) (fun i _ => (rotL_room e out i).2)
end
end Go.Proofs.Ytkloaeaepjoijaa

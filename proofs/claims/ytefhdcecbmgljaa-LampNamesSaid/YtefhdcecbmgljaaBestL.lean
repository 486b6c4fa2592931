/-
  The best numbers of all nights, plainly: the smallest cost, and the first list that has it.
-/
import Derived.Test.YtefhdcecbmgljaaSpec
set_option linter.all false
namespace Go.Proofs.Ytefhdcecbmgljaa

/-- What a search goes through: the numbers of a night, what one costs, with how many cans and wicks the night is then. -/
structure Job where
  lo : Nat → Int
  hi : Nat → Int
  cost : Nat → Int → Int
  c : Nat → Int → Int
  k : Nat → Int → Int

def never : Int := 1048576
def numN (J : Job) (i : Nat) : Nat := (J.hi i - J.lo i + 1).toNat
def nextO (s : St) (J : Job) (i : Nat) (n o : Int) : Int := leftO s i (J.c i n) (J.k i n) (ntAt s i).hi o
def nextB (s : St) (J : Job) (i : Nat) (n o : Int) : Bool := litO s i (J.c i n) (J.k i n) (ntAt s i).hi o
def bestTo (g : Nat → Option Int) : Nat → Int
  | 0 => never
  | m + 1 => match g m with
    | some v => min (bestTo g m) v
    | none => bestTo g m
/-- The smallest cost of so many nights, from a night on, with some oil before it. -/
def chp (s : St) (J : Job) : Nat → Nat → Int → Int
  | 0, _, _ => 0
  | r + 1, i, o => bestTo (fun m => if nextB s J i (J.lo i + (m : Int)) o then some (J.cost i (J.lo i + (m : Int)) + chp s J r (i + 1) (nextO s J i (J.lo i + (m : Int)) o)) else none) (numN J i)
def chpG (s : St) (J : Job) (r i : Nat) (o : Int) (m : Nat) : Option Int :=
  if nextB s J i (J.lo i + (m : Int)) o then some (J.cost i (J.lo i + (m : Int)) + chp s J r (i + 1) (nextO s J i (J.lo i + (m : Int)) o)) else none
theorem chp_succ (s : St) (J : Job) (r i : Nat) (o : Int) : chp s J (r + 1) i o = bestTo (chpG s J r i o) (numN J i) := rfl
/-- The first number that has a cost. -/
def firstTo (g : Nat → Option Int) (v : Int) : Nat → Nat → Option Nat
  | _, 0 => none
  | m, r + 1 => if g m = some v then some m else firstTo g v (m + 1) r
def pickN (s : St) (J : Job) (r i : Nat) (o v : Int) : Int := J.lo i + (((firstTo (chpG s J r i o) v 0 (numN J i)).getD 0 : Nat) : Int)
def bestL (s : St) (J : Job) : Nat → Nat → Int → List Int
  | 0, _, _ => []
  | r + 1, i, o => pickN s J r i o (chp s J (r + 1) i o) :: bestL s J r (i + 1) (nextO s J i (pickN s J r i o (chp s J (r + 1) i o)) o)

theorem bestTo_le {g : Nat → Option Int} {m j : Nat} {v : Int} (hj : j < m) (hg : g j = some v) : bestTo g m ≤ v := by
  induction m with
  | zero => omega
  | succ m ih =>
    simp only [bestTo]
    by_cases e : j = m
    · subst e; rw [hg]; simp only []; omega
    · have := ih (by omega)
      split <;> omega
theorem bestTo_never (g : Nat → Option Int) (m : Nat) : bestTo g m ≤ never := by
  induction m with
  | zero => exact Int.le_refl _
  | succ m ih => simp only [bestTo]; split <;> omega
theorem bestTo_has (g : Nat → Option Int) (m : Nat) : bestTo g m = never ∨ ∃ j, j < m ∧ g j = some (bestTo g m) := by
  induction m with
  | zero => exact .inl rfl
  | succ m ih =>
    simp only [bestTo]
    split
    · rename_i v hv
      by_cases e : v ≤ bestTo g m
      · right; exact ⟨m, by omega, by rw [hv]; congr 1; omega⟩
      · rw [show min (bestTo g m) v = bestTo g m by omega]
        rcases ih with h | ⟨j, hj, h⟩
        · exact .inl h
        · exact .inr ⟨j, by omega, h⟩
    · rcases ih with h | ⟨j, hj, h⟩
      · exact .inl h
      · exact .inr ⟨j, by omega, h⟩
theorem firstTo_some {g : Nat → Option Int} {v : Int} {m r j : Nat} (h : firstTo g v m r = some j) : m ≤ j ∧ j < m + r ∧ g j = some v ∧ ∀ i, m ≤ i → i < j → g i ≠ some v := by
  induction r generalizing m with
  | zero => cases h
  | succ r ih =>
    simp only [firstTo] at h
    split at h
    · injection h with h; subst h; exact ⟨Nat.le_refl _, by omega, ‹_›, fun i h1 h2 => by omega⟩
    · obtain ⟨h1, h2, h3, h4⟩ := ih h
      refine ⟨by omega, by omega, h3, fun i hi hj => ?_⟩
      by_cases e : i = m
      · subst e; assumption
      · exact h4 i (by omega) hj
theorem firstTo_ex {g : Nat → Option Int} {v : Int} {m r j : Nat} (h1 : m ≤ j) (h2 : j < m + r) (h : g j = some v) : ∃ i, firstTo g v m r = some i := by
  induction r generalizing m with
  | zero => omega
  | succ r ih =>
    simp only [firstTo]
    split
    · exact ⟨_, rfl⟩
    · by_cases e : m = j
      · subst e; exact absurd h ‹_›
      · exact ih (by omega) (by omega)

/-- With these numbers all nights are surely lit. -/
def SafeL (s : St) (J : Job) : Nat → Int → List Int → Prop
  | _, _, [] => True
  | i, o, n :: l => J.lo i ≤ n ∧ n ≤ J.hi i ∧ nextB s J i n o = true ∧ SafeL s J (i + 1) (nextO s J i n o) l
def sumC (J : Job) : Nat → List Int → Int
  | _, [] => 0
  | i, n :: l => J.cost i n + sumC J (i + 1) l
/-- The order of lists of one length. -/
def lexB : List Int → List Int → Bool
  | x :: xs, y :: ys => if x = y then lexB xs ys else decide (x < y)
  | _, _ => false
theorem lexB_irrefl : ∀ xs : List Int, lexB xs xs = false := by
  intro xs
  induction xs with
  | nil => rfl
  | cons x xs ih => simp only [lexB, if_pos]; exact ih

def JobOk (J : Job) : Prop := ∀ i n, J.lo i ≤ n → n ≤ J.hi i → -1000 ≤ J.cost i n ∧ J.cost i n ≤ 1000

theorem chp_low {s : St} {J : Job} (hJ : JobOk J) (r i : Nat) (o : Int) : -1000 * (r : Int) ≤ chp s J r i o := by
  induction r generalizing i o with
  | zero => simp [chp]
  | succ r ih =>
    rw [chp_succ]
    rcases bestTo_has (chpG s J r i o) (numN J i) with h | ⟨j, hj, h⟩
    · rw [h]; unfold never; omega
    · unfold chpG at h
      split at h
      · injection h with h
        unfold numN at hj
        have h1 := hJ i (J.lo i + (j : Int)) (by omega) (by omega)
        have h2 := ih (i + 1) (nextO s J i (J.lo i + (j : Int)) o)
        have h3 : bestTo (chpG s J r i o) (numN J i) = J.cost i (J.lo i + (j : Int)) + chp s J r (i + 1) (nextO s J i (J.lo i + (j : Int)) o) := h.symm
        rw [h3]; omega
      · cases h
theorem chp_le {s : St} {J : Job} {r i : Nat} {o : Int} {l : List Int} (hl : l.length = r) (h : SafeL s J i o l) : chp s J r i o ≤ sumC J i l := by
  induction l generalizing r i o with
  | nil => subst hl; simp [chp, sumC]
  | cons n l ih =>
    subst hl
    obtain ⟨h1, h2, h3, h4⟩ := h
    have h5 := ih rfl h4
    rw [List.length_cons, chp_succ]
    have hn : J.lo i + (((n - J.lo i).toNat : Nat) : Int) = n := by omega
    have hg : chpG s J l.length i o (n - J.lo i).toNat = some (J.cost i n + chp s J l.length (i + 1) (nextO s J i n o)) := by
      unfold chpG; rw [hn, h3]; rfl
    have := bestTo_le (m := numN J i) (by unfold numN; omega) hg
    simp only [sumC]; omega
theorem pick_some {s : St} {J : Job} {r i : Nat} {o : Int} (hJ : JobOk J) (hr : r ≤ 6) (h : chp s J (r + 1) i o < 524288) :
    ∃ m, firstTo (chpG s J r i o) (chp s J (r + 1) i o) 0 (numN J i) = some m ∧ m < numN J i ∧ pickN s J r i o (chp s J (r + 1) i o) = J.lo i + (m : Int) ∧ J.lo i ≤ J.lo i + (m : Int) ∧ J.lo i + (m : Int) ≤ J.hi i ∧ nextB s J i (J.lo i + (m : Int)) o = true ∧
      chp s J r (i + 1) (nextO s J i (J.lo i + (m : Int)) o) = chp s J (r + 1) i o - J.cost i (J.lo i + (m : Int)) := by
  rcases bestTo_has (chpG s J r i o) (numN J i) with h0 | ⟨j, hj, h0⟩
  · rw [chp_succ, h0] at h; unfold never at h; omega
  · rw [← chp_succ] at h0
    obtain ⟨m, hm⟩ := firstTo_ex (r := numN J i) (Nat.zero_le j) (by omega) h0
    obtain ⟨h1, h2, h3, h4⟩ := firstTo_some hm
    refine ⟨m, hm, by omega, by unfold pickN; rw [hm]; rfl, by omega, by unfold numN at h2; omega, ?_⟩
    unfold chpG at h3
    split at h3
    · rename_i hb
      injection h3 with h3
      exact ⟨hb, by omega⟩
    · cases h3
theorem best_safe {s : St} {J : Job} (hJ : JobOk J) (r i : Nat) (o : Int) (hr : r ≤ 6) (h : chp s J r i o + 1000 * (r : Int) < 500000) : (bestL s J r i o).length = r ∧ SafeL s J i o (bestL s J r i o) ∧ sumC J i (bestL s J r i o) = chp s J r i o := by
  induction r generalizing i o with
  | zero => exact ⟨rfl, trivial, rfl⟩
  | succ r ih =>
    obtain ⟨m, h1, h2, h3, h4, h5, h6, h7⟩ := pick_some (s := s) (i := i) (o := o) hJ (by omega) (by omega : chp s J (r + 1) i o < 524288)
    simp only [bestL]
    rw [h3]
    have hc := hJ i _ h4 h5
    obtain ⟨g1, g2, g3⟩ := ih (i + 1) (nextO s J i (J.lo i + (m : Int)) o) (by omega) (by omega)
    exact ⟨by simp [g1], ⟨h4, h5, h6, g2⟩, by simp only [sumC]; rw [g3, h7]; omega⟩
theorem best_first {s : St} {J : Job} (hJ : JobOk J) {r i : Nat} {o : Int} (hr : r ≤ 6) (h : chp s J r i o + 1000 * (r : Int) < 500000) {l : List Int} (hl : l.length = r) (hs : SafeL s J i o l) (he : sumC J i l = chp s J r i o) : lexB l (bestL s J r i o) = false := by
  induction l generalizing r i o with
  | nil => simp [lexB]
  | cons n l ih =>
    subst hl
    simp only [List.length_cons] at *
    obtain ⟨m, h1, h2, h3, h4, h5, h6, h7⟩ := pick_some (s := s) (i := i) (o := o) hJ (by omega) (by omega : chp s J (l.length + 1) i o < 524288)
    obtain ⟨s1, s2, s3, s4⟩ := hs
    simp only [bestL, h3, lexB]
    have hn : J.lo i + (((n - J.lo i).toNat : Nat) : Int) = n := by omega
    have hle := chp_le rfl s4
    simp only [sumC] at he
    have hg : chpG s J l.length i o (n - J.lo i).toNat = some (J.cost i n + chp s J l.length (i + 1) (nextO s J i n o)) := by
      unfold chpG; rw [hn, s3]; rfl
    have hmin := bestTo_le (m := numN J i) (by unfold numN; omega) hg
    rw [← chp_succ] at hmin
    have hv : chpG s J l.length i o (n - J.lo i).toNat = some (chp s J (l.length + 1) i o) := by rw [hg]; congr 1; omega
    have hmm := (firstTo_some h1).2.2.2
    have hge : J.lo i + (m : Int) ≤ n := by
      rcases Nat.lt_or_ge (n - J.lo i).toNat m with e | e
      · exact absurd hv (hmm _ (Nat.zero_le _) e)
      · omega
    by_cases e : n = J.lo i + (m : Int)
    · have hc := hJ i _ h4 h5
      have hi := ih (r := l.length) (i := i + 1) (o := nextO s J i n o) (by omega) (by rw [e, h7]; omega) rfl s4 (by omega)
      rw [if_pos e, ← e]; exact hi
    · rw [if_neg e]; exact decide_eq_false (by omega)
/-- Where no list is safe, the smallest cost is great; where one is, it is small. -/
theorem chp_some {s : St} {J : Job} (hJ : JobOk J) {r i : Nat} {o : Int} (hr : r ≤ 6) : chp s J r i o < 524288 ↔ ∃ l : List Int, l.length = r ∧ SafeL s J i o l := by
  have key : ∀ (r i : Nat) (o : Int), r ≤ 6 → (chp s J r i o ≤ 1000 * (r : Int) ∨ never - 1000 * (r : Int) ≤ chp s J r i o) := by
    intro r
    induction r with
    | zero => intro i o _; left; simp [chp]
    | succ r ih =>
      intro i o hr
      rw [chp_succ]
      rcases bestTo_has (chpG s J r i o) (numN J i) with h | ⟨j, hj, h⟩
      · right; rw [h]; omega
      · unfold chpG at h
        split at h
        · injection h with h
          unfold numN at hj
          have h1 := hJ i (J.lo i + (j : Int)) (by omega) (by omega)
          have h3 : bestTo (chpG s J r i o) (numN J i) = J.cost i (J.lo i + (j : Int)) + chp s J r (i + 1) (nextO s J i (J.lo i + (j : Int)) o) := h.symm
          rw [h3]
          rcases ih (i + 1) (nextO s J i (J.lo i + (j : Int)) o) (by omega) with h2 | h2
          · left; omega
          · right; omega
        · cases h
  constructor
  · intro h
    have h1 := key r i o hr
    unfold never at h1
    obtain ⟨g1, g2, g3⟩ := best_safe (s := s) hJ r i o hr (by omega)
    exact ⟨_, g1, g2⟩
  · rintro ⟨l, h1, h2⟩
    have h3 := chp_le h1 h2
    have h4 : sumC J i l ≤ 1000 * (r : Int) := by
      clear h3 hr key
      induction l generalizing r i o with
      | nil => subst h1; simp [sumC]
      | cons n l ih =>
        subst h1
        obtain ⟨s1, s2, s3, s4⟩ := h2
        have := hJ i n s1 s2
        have := ih rfl s4
        simp only [sumC, List.length_cons]; omega
    omega
theorem chp_small {s : St} {J : Job} (hJ : JobOk J) {r i : Nat} {o : Int} (hr : r ≤ 6) (h : chp s J r i o < 524288) : chp s J r i o ≤ 1000 * (r : Int) := by
  obtain ⟨l, h1, h2⟩ := (chp_some hJ hr).1 h
  have h3 := chp_le h1 h2
  have h4 : sumC J i l ≤ 1000 * (r : Int) := by
    clear h3 hr h
    induction l generalizing r i o with
    | nil => subst h1; simp [sumC]
    | cons n l ih =>
      subst h1
      obtain ⟨s1, s2, s3, s4⟩ := h2
      have := hJ i n s1 s2
      have := ih rfl s4
      simp only [sumC, List.length_cons]; omega
  omega
end Go.Proofs.Ytefhdcecbmgljaa

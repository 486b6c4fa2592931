/-
  The truths of a store by numbers, plainly.
-/
import Derived.Test.YtefhdcecbmgljaaLevL
set_option linter.all false
namespace Go.Proofs.Ytefhdcecbmgljaa

def manyTo (s : St) : Nat → Nat
  | 0 => (s.sh - s.sl + 1).toNat
  | i + 1 => manyTo s i * burnsN s i
def manyN (s : St) : Nat := manyTo s s.ns.length
/-- What is left of a number when the digits of the last nights are taken. -/
def remN (s : St) (n : Nat) : Nat → Nat
  | 0 => n
  | r + 1 => remN s n r / burnsN s (s.ns.length - (r + 1))
def nthB (s : St) (n : Nat) (i : Nat) : Int := (ntAt s i).lo + ((remN s n (s.ns.length - (i + 1)) % burnsN s i : Nat) : Int)
def nthT (s : St) (n : Nat) : Int := s.sl + ((remN s n s.ns.length : Nat) : Int)

theorem burnsN_bd {s : St} (h : StOk s) {i : Nat} (hi : i < s.ns.length) : 1 ≤ burnsN s i ∧ burnsN s i ≤ 11 ∧ (burnsN s i : Int) = (ntAt s i).hi - (ntAt s i).lo + 1 := by
  have := h.nt i hi
  unfold burnsN
  omega
theorem manyTo_bd {s : St} (h : StOk s) {i : Nat} (hi : i ≤ s.ns.length) : 1 ≤ manyTo s i ∧ manyTo s i ≤ 401 * 11 ^ i := by
  induction i with
  | zero =>
    have := h.s0
    have := h.s1
    have := h.s2
    have := h.c1
    simp only [manyTo, Nat.pow_zero]; omega
  | succ i ih =>
    have h1 := ih (by omega)
    have h2 := burnsN_bd h (show i < _ by omega)
    refine ⟨Nat.mul_pos h1.1 h2.1, ?_⟩
    calc manyTo s i * burnsN s i ≤ (401 * 11 ^ i) * 11 := Nat.mul_le_mul h1.2 h2.2.1
      _ = 401 * 11 ^ (i + 1) := by rw [Nat.pow_succ, Nat.mul_assoc]
theorem manyTo_big {s : St} (h : StOk s) {i : Nat} (hi : i ≤ s.ns.length) : manyTo s i ≤ 710395961 := by
  have h1 := manyTo_bd h hi
  have h2 : 11 ^ i ≤ 11 ^ 6 := Nat.pow_le_pow_right (by omega) (by have := h.len; omega)
  have : 401 * 11 ^ i ≤ 401 * 11 ^ 6 := Nat.mul_le_mul_left _ h2
  omega
theorem remN_lt {s : St} (h : StOk s) {n : Nat} (hn : n < manyN s) {r : Nat} (hr : r ≤ s.ns.length) : remN s n r < manyTo s (s.ns.length - r) := by
  induction r with
  | zero => exact hn
  | succ r ih =>
    have h1 := ih (by omega)
    rw [show s.ns.length - r = (s.ns.length - (r + 1)) + 1 by omega] at h1
    simp only [manyTo] at h1
    simp only [remN]
    rw [Nat.mul_comm] at h1
    exact Nat.div_lt_of_lt_mul h1
theorem nth_tr {s : St} (h : StOk s) {n : Nat} (hn : n < manyN s) : Tr s (nthT s n) (nthB s n) := by
  have h1 := remN_lt h hn (Nat.le_refl _)
  rw [Nat.sub_self] at h1
  simp only [manyTo] at h1
  have hs := h.s1
  refine ⟨by unfold nthT; omega, by unfold nthT; omega, fun i hi => ?_⟩
  have h2 := burnsN_bd h hi
  have h3 : remN s n (s.ns.length - (i + 1)) % burnsN s i < burnsN s i := Nat.mod_lt _ (by omega)
  unfold nthB
  omega
/-- The number of a truth. -/
def encN (s : St) (t : Int) (b : Nat → Int) : Nat → Nat
  | 0 => (t - s.sl).toNat
  | i + 1 => encN s t b i * burnsN s i + (b i - (ntAt s i).lo).toNat
theorem encN_lt {s : St} (h : StOk s) {t : Int} {b : Nat → Int} (ht : Tr s t b) {i : Nat} (hi : i ≤ s.ns.length) : encN s t b i < manyTo s i := by
  induction i with
  | zero =>
    have := ht.t0
    have := ht.t1
    simp only [encN, manyTo]; omega
  | succ i ih =>
    have h1 := ih (by omega)
    have h2 := burnsN_bd h (show i < _ by omega)
    have h3 := ht.bb i (by omega)
    simp only [encN, manyTo]
    have h4 : (encN s t b i + 1) * burnsN s i ≤ manyTo s i * burnsN s i := Nat.mul_le_mul_right _ h1
    rw [Nat.add_mul, Nat.one_mul] at h4
    omega
theorem encN_rem {s : St} (h : StOk s) {t : Int} {b : Nat → Int} (ht : Tr s t b) {r : Nat} (hr : r ≤ s.ns.length) : remN s (encN s t b s.ns.length) r = encN s t b (s.ns.length - r) := by
  induction r with
  | zero => rfl
  | succ r ih =>
    simp only [remN]
    rw [ih (by omega), show s.ns.length - r = (s.ns.length - (r + 1)) + 1 by omega]
    have h2 := burnsN_bd h (show s.ns.length - (r + 1) < _ by omega)
    have h3 := ht.bb (s.ns.length - (r + 1)) (by omega)
    simp only [encN]
    rw [Nat.mul_comm, Nat.mul_add_div (by omega), Nat.div_eq_of_lt (by omega), Nat.add_zero]
theorem nth_all {s : St} (h : StOk s) {t : Int} {b : Nat → Int} (ht : Tr s t b) : ∃ n, n < manyN s ∧ nthT s n = t ∧ ∀ i, i < s.ns.length → nthB s n i = b i := by
  refine ⟨encN s t b s.ns.length, encN_lt h ht (Nat.le_refl _), ?_, fun i hi => ?_⟩
  · unfold nthT
    rw [encN_rem h ht (Nat.le_refl _), Nat.sub_self]
    have := ht.t0
    simp only [encN]; omega
  · unfold nthB
    rw [encN_rem h ht (by omega), show s.ns.length - (s.ns.length - (i + 1)) = i + 1 by omega]
    have h2 := burnsN_bd h hi
    have h3 := ht.bb i hi
    simp only [encN]
    rw [Nat.mul_comm, Nat.mul_add_mod, Nat.mod_eq_of_lt (by omega)]
    omega
def nthL (s : St) (n : Nat) : List Int := (List.range s.ns.length).map (nthB s n)
theorem nthL_len (s : St) (n : Nat) : (nthL s n).length = s.ns.length := by simp [nthL]
theorem nthL_at (s : St) (n : Nat) {i : Nat} (hi : i < s.ns.length) : atL (nthL s n) i = nthB s n i := by simp [atL, nthL, hi]
theorem nthL_truth {s : St} (h : StOk s) {n : Nat} (hn : n < manyN s) : truthB s (nthT s n) (nthL s n) = true := by
  have h1 := nth_tr h hn
  exact truthB_true.2 ⟨nthL_len s n, h1.t0, h1.t1, fun i hi => by rw [nthL_at s n hi]; exact h1.bb i hi⟩
/-- Oil and light of a truth by its number. -/
def nOil (s : St) (c k : Nat → Int) (n i : Nat) : Int := oilF s c k (atL (nthL s n)) (nthT s n) i
def nLit (s : St) (c k : Nat → Int) (n i : Nat) : Bool := litO s i (c i) (k i) (atL (nthL s n) i) (nOil s c k n i)
theorem nOil_all {s : St} {c k : Nat → Int} (h : StOk s) {t : Int} {b : Nat → Int} (ht : Tr s t b) : ∃ n, n < manyN s ∧ ∀ i, (i ≤ s.ns.length → nOil s c k n i = oilF s c k b t i) ∧ (i < s.ns.length → nLit s c k n i = litO s i (c i) (k i) (b i) (oilF s c k b t i)) := by
  obtain ⟨n, hn, h1, h2⟩ := nth_all h ht
  have key : ∀ i, i ≤ s.ns.length → nOil s c k n i = oilF s c k b t i := fun i hi => by
    unfold nOil
    rw [h1]
    exact oilF_congr fun j hj => ⟨rfl, rfl, by rw [nthL_at s n (by omega)]; exact h2 j (by omega)⟩
  refine ⟨n, hn, fun i => ⟨key i, fun hi => ?_⟩⟩
  unfold nLit
  rw [key i (by omega), nthL_at s n hi, h2 i hi]
theorem nOil_tr {s : St} (h : StOk s) {n : Nat} (hn : n < manyN s) : Tr s (nthT s n) (atL (nthL s n)) := (truthB_true.1 (nthL_truth h hn)).2
/-- The nights of which some truth, of the first ones, is dark; all of them. -/
def nDark (s : St) (c k : Nat → Int) (m i : Nat) : Bool := (List.range m).any fun n => !nLit s c k n i
theorem nDark_succ (s : St) (c k : Nat → Int) (m i : Nat) : nDark s c k (m + 1) i = (nDark s c k m i || !nLit s c k m i) := by
  unfold nDark
  rw [List.range_succ, List.any_append]
  simp
theorem nDark_all {s : St} {c k : Nat → Int} (h : StOk s) (hp : Pl s c k) {i : Nat} (hi : i < s.ns.length) : nDark s c k (manyN s) i = !wLit s c k i := by
  cases e : wLit s c k i with
  | true =>
    have h1 := (wLit_iff h hp hi).1 e
    unfold nDark
    rw [Bool.not_true, List.any_eq_false]
    intro n hn
    have := h1 _ _ (nOil_tr h (List.mem_range.1 hn))
    unfold nLit nOil
    rw [this]; simp
  | false =>
    have : ¬ ∀ t b, Tr s t b → litO s i (c i) (k i) (b i) (oilF s c k b t i) = true := fun h1 => by rw [(wLit_iff h hp hi).2 h1] at e; cases e
    obtain ⟨t, h2⟩ := Classical.not_forall.1 this
    obtain ⟨b, h2⟩ := Classical.not_forall.1 h2
    obtain ⟨ht, h2⟩ := Classical.not_forall.1 h2
    obtain ⟨n, hn, h3⟩ := nOil_all (c := c) (k := k) h ht
    unfold nDark
    rw [Bool.not_false, List.any_eq_true]
    refine ⟨n, List.mem_range.2 hn, ?_⟩
    rw [(h3 i).2 hi]
    simpa using h2
theorem darkTo_n {s : St} {c k : Nat → Int} (h : StOk s) (hp : Pl s c k) {m : Nat} (hm : m ≤ s.ns.length) : darkTo s c k m = ((List.range m).filter fun i => nDark s c k (manyN s) i).map fun i : Nat => (i : Int) := by
  unfold darkTo
  congr 1
  exact List.filter_congr fun i hi => by rw [nDark_all h hp (by have := List.mem_range.1 hi; omega)]

/-- The ranges of the first truths that agree. -/
structure RgTo (s : St) (c k : Nat → Int) (q : Nat → Bool) (m : Nat) (L H : Nat → Int) : Prop where
  lo : ∀ i, i < s.ns.length → ∃ n, n < m ∧ q n = true ∧ nOil s c k n (i + 1) = L i
  hi : ∀ i, i < s.ns.length → ∃ n, n < m ∧ q n = true ∧ nOil s c k n (i + 1) = H i
  all : ∀ i, i < s.ns.length → ∀ n, n < m → q n = true → L i ≤ nOil s c k n (i + 1) ∧ nOil s c k n (i + 1) ≤ H i
theorem RgTo.skip {s : St} {c k : Nat → Int} {q : Nat → Bool} {m : Nat} {L H : Nat → Int} (h : RgTo s c k q m L H) (hq : q m = false) : RgTo s c k q (m + 1) L H :=
  ⟨fun i hi => by obtain ⟨n, h1, h2, h3⟩ := h.lo i hi; exact ⟨n, by omega, h2, h3⟩, fun i hi => by obtain ⟨n, h1, h2, h3⟩ := h.hi i hi; exact ⟨n, by omega, h2, h3⟩, fun i hi n hn hq' => by
    by_cases e : n = m
    · rw [e, hq] at hq'; cases hq'
    · exact h.all i hi n (by omega) hq'⟩
theorem RgTo.take {s : St} {c k : Nat → Int} {q : Nat → Bool} {m : Nat} {L H : Nat → Int} (h : RgTo s c k q m L H) (hq : q m = true) : RgTo s c k q (m + 1) (fun i => min (L i) (nOil s c k m (i + 1))) (fun i => max (H i) (nOil s c k m (i + 1))) := by
  refine ⟨fun i hi => ?_, fun i hi => ?_, fun i hi n hn hq' => ?_⟩
  · obtain ⟨n, h1, h2, h3⟩ := h.lo i hi
    by_cases e : L i ≤ nOil s c k m (i + 1)
    · exact ⟨n, by omega, h2, by omega⟩
    · exact ⟨m, by omega, hq, by omega⟩
  · obtain ⟨n, h1, h2, h3⟩ := h.hi i hi
    by_cases e : nOil s c k m (i + 1) ≤ H i
    · exact ⟨n, by omega, h2, by omega⟩
    · exact ⟨m, by omega, hq, by omega⟩
  · by_cases e : n = m
    · subst e; omega
    · have := h.all i hi n (by omega) hq'
      omega
theorem RgTo.first {s : St} {c k : Nat → Int} {q : Nat → Bool} {m : Nat} (h : ∀ n, n < m → q n = false) (hq : q m = true) : RgTo s c k q (m + 1) (fun i => nOil s c k m (i + 1)) (fun i => nOil s c k m (i + 1)) := by
  refine ⟨fun i hi => ⟨m, by omega, hq, rfl⟩, fun i hi => ⟨m, by omega, hq, rfl⟩, fun i hi n hn hq' => ?_⟩
  by_cases e : n = m
  · subst e; exact ⟨Int.le_refl _, Int.le_refl _⟩
  · rw [h n (by omega)] at hq'; cases hq'
/-- Which truths agree, by their numbers, with the dips whose bits are 0. -/
def agBit (dips : List Dp) (left : List Int) (out : Nat) (m : Nat) : Bool := (List.range m).all fun i => out.testBit i || inB (atL left (dips.getD i ⟨0, 0, 0⟩).n.toNat) (dips.getD i ⟨0, 0, 0⟩).lo (dips.getD i ⟨0, 0, 0⟩).hi
theorem agBit_iff {dips : List Dp} {left : List Int} {out m : Nat} : agBit dips left out m = true ↔ ∀ i, i < m → out.testBit i = true ∨ inB (atL left (dips.getD i ⟨0, 0, 0⟩).n.toNat) (dips.getD i ⟨0, 0, 0⟩).lo (dips.getD i ⟨0, 0, 0⟩).hi = true := by
  unfold agBit
  rw [List.all_eq_true]
  constructor
  · intro h i hi
    have := h i (List.mem_range.2 hi)
    simpa using this
  · intro h i hi
    have := h i (List.mem_range.1 hi)
    simpa using this
end Go.Proofs.Ytefhdcecbmgljaa

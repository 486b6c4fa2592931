/-
  The reference's smallest set, plainly; which truths agree with the dips that are kept.
-/
import Derived.Test.YtefhdcecbmgljaaLeaveP
import Derived.Test.YtefhdcecbmgljaaNthL
import Derived.Test.YtefhdcecbmgljaaPlay
import Derived.Test.YtefhdcecbmgljaaBefore
set_option linter.all false
namespace Go.Proofs.Ytefhdcecbmgljaa

def bitsL (bits : Nat) : List Int := ((List.range 16).filter bits.testBit).map fun i : Nat => (i : Int)
theorem bitsL_zero : bitsL 0 = [] := by decide
theorem bitsL_has {bits i : Nat} (h : i < 16) : (bitsL bits).contains (i : Int) = bits.testBit i := by
  rw [Bool.eq_iff_iff]
  simp only [bitsL, List.contains_iff_mem, List.mem_map, List.mem_filter, List.mem_range]
  constructor
  · rintro ⟨j, ⟨_, hj⟩, e⟩
    obtain rfl : j = i := by omega
    exact hj
  · intro hb; exact ⟨i, ⟨h, hb⟩, rfl⟩
theorem exists_bits (m : Nat → Bool) : ∀ k : Nat, ∃ t, t < 2 ^ k ∧ ∀ i, i < k → t.testBit i = m i := by
  intro k
  induction k with
  | zero => exact ⟨0, by simp, fun i hi => by omega⟩
  | succ k ih =>
    obtain ⟨t, ht, hb⟩ := ih
    cases hm : m k with
    | false =>
      refine ⟨t, by rw [Nat.pow_succ]; omega, fun i hi => ?_⟩
      by_cases e : i = k
      · subst e; rw [hm]; exact Nat.testBit_lt_two_pow ht
      · exact hb i (by omega)
    | true =>
      refine ⟨2 ^ k + t, by rw [Nat.pow_succ]; omega, fun i hi => ?_⟩
      by_cases e : i = k
      · subst e; rw [hm, Nat.testBit_two_pow_add_eq, Nat.testBit_lt_two_pow ht]; rfl
      · rw [Nat.testBit_two_pow_add_gt (by omega)]; exact hb i (by omega)

theorem ups_filter (n : Nat) (q : Nat → Bool) : ∀ k s : Nat, s + k ≤ n → Ups n s (((List.range' s k).filter q).map fun i : Nat => (i : Int)) := by
  intro k
  induction k with
  | zero => intro s _; exact trivial
  | succ k ih =>
    intro s h
    have h1 := ih (s + 1) (by omega)
    rw [List.range'_succ, List.filter_cons]
    split
    · exact ⟨s, rfl, Nat.le_refl _, by omega, h1⟩
    · have mono : ∀ {xs : List Int}, Ups n (s + 1) xs → Ups n s xs := fun {xs} hx => by
        cases xs with
        | nil => trivial
        | cons x xs => obtain ⟨j, e, a, b, c⟩ := hx; exact ⟨j, e, by omega, b, c⟩
      exact mono h1
theorem bitsL_mem {bits : Nat} {y : Int} : y ∈ bitsL bits ↔ ∃ i : Nat, y = i ∧ i < 16 ∧ bits.testBit i = true := by
  simp only [bitsL, List.mem_map, List.mem_filter, List.mem_range]
  constructor
  · rintro ⟨i, ⟨h1, h2⟩, rfl⟩; exact ⟨i, rfl, h1, h2⟩
  · rintro ⟨i, rfl, h1, h2⟩; exact ⟨i, ⟨h1, h2⟩, rfl⟩
theorem Ups.sub {n m : Nat} : ∀ {xs : List Int} {s : Nat}, Ups n s xs → (∀ y ∈ xs, y < (m : Int)) → Ups m s xs := by
  intro xs
  induction xs with
  | nil => intro s _ _; trivial
  | cons x xs ih =>
    rintro s ⟨k, rfl, a, b, c⟩ h
    exact ⟨k, rfl, a, by have := h (k : Int) (by simp); omega, ih c fun y hy => h y (List.mem_cons_of_mem _ hy)⟩
theorem bitsL_ups {bits n : Nat} (h : bits < 2 ^ n) : Ups n 0 (bitsL bits) := by
  have h16 : Ups 16 0 (bitsL bits) := by
    unfold bitsL
    rw [List.range_eq_range']
    exact ups_filter 16 bits.testBit 16 0 (by omega)
  refine h16.sub fun y hy => ?_
  obtain ⟨i, rfl, _, hb⟩ := bitsL_mem.1 hy
  by_cases e : i < n
  · omega
  · rw [Nat.testBit_lt_two_pow (Nat.lt_of_lt_of_le h (Nat.pow_le_pow_right (by omega) (by omega)))] at hb; cases hb
theorem bitsL_all {n : Nat} (hn : n ≤ 16) {s : List Int} (hs : Ups n 0 s) : ∃ bits, bits < 2 ^ n ∧ bitsL bits = s := by
  obtain ⟨t, ht, hb⟩ := exists_bits (fun i => s.contains (i : Int)) n
  refine ⟨t, ht, (bitsL_ups ht).ext hs fun y => ?_⟩
  rw [bitsL_mem]
  constructor
  · rintro ⟨i, rfl, h1, h2⟩
    by_cases e : i < n
    · rw [hb i e] at h2; simpa using h2
    · rw [Nat.testBit_lt_two_pow (Nat.lt_of_lt_of_le ht (Nat.pow_le_pow_right (by omega) (by omega)))] at h2; cases h2
  · intro hy
    obtain ⟨k, rfl, _, hk⟩ := hs.mem y hy
    exact ⟨k, rfl, by omega, by rw [hb k hk]; simpa using hy⟩

/-- What the reference has found among the first sets. -/
structure RBest (p : List Int → Bool) (n k : Nat) (best : List Int) : Prop where
  ups : Ups n 0 best
  yes : best = bitsL (2 ^ n - 1) ∨ p best = true
  full : lessB (bitsL (2 ^ n - 1)) best = false
  min : ∀ bits, bits < k → p (bitsL bits) = true → lessB (bitsL bits) best = false

theorem full_ups (n : Nat) : Ups n 0 (bitsL (2 ^ n - 1)) := bitsL_ups (by have := Nat.two_pow_pos n; omega)
theorem RBest.start (p : List Int → Bool) (n : Nat) : RBest p n 0 (bitsL (2 ^ n - 1)) := ⟨full_ups n, .inl rfl, lessB_irrefl _, fun bits h => by omega⟩
theorem RBest.keep {p : List Int → Bool} {n k : Nat} {best : List Int} (h : RBest p n k best) (hk : lessB (bitsL k) best = false ∨ p (bitsL k) = false) : RBest p n (k + 1) best := by
  refine ⟨h.ups, h.yes, h.full, fun bits hb hp => ?_⟩
  by_cases e : bits = k
  · subst e
    rcases hk with hk | hk
    · exact hk
    · rw [hk] at hp; cases hp
  · exact h.min bits (by omega) hp
theorem RBest.turn {p : List Int → Bool} {n k : Nat} {best : List Int} (h : RBest p n k best) (hk : k < 2 ^ n) (h1 : lessB (bitsL k) best = true) (h2 : p (bitsL k) = true) : RBest p n (k + 1) (bitsL k) := by
  have key : ∀ x, lessB x best = false → lessB x (bitsL k) = false := fun x hx => by
    cases e : lessB x (bitsL k) with
    | false => rfl
    | true => rw [lessB_trans e h1] at hx; cases hx
  refine ⟨bitsL_ups hk, .inr h2, key _ h.full, fun bits hb hp => ?_⟩
  by_cases e : bits = k
  · subst e; exact lessB_irrefl _
  · exact key _ (h.min bits (by omega) hp)

theorem RBest.fin {p : List Int → Bool} {n : Nat} {best L : List Int} (hn : n ≤ 16) (h : RBest p n (2 ^ n - 1) best) (hf : p (bitsL (2 ^ n - 1)) = true) (hu : Ups n 0 L) (hp : p L = true) (hmin : ∀ x, Ups n 0 x → lessB x L = true → p x = false) : best = L := by
  have hpb : p best = true := by rcases h.yes with e | e; rw [e]; exact hf; exact e
  refine Classical.byContradiction fun hne => ?_
  rcases lessB_total hne with hlt | hlt
  · rw [hmin best h.ups hlt] at hpb; cases hpb
  · obtain ⟨bits, hb, rfl⟩ := bitsL_all hn hu
    by_cases e : bits = 2 ^ n - 1
    · rw [e] at hlt; rw [h.full] at hlt; cases hlt
    · rw [h.min bits (by omega) hp] at hlt; cases hlt

theorem bitsL_full {n : Nat} (hn : n ≤ 16) : bitsL (2 ^ n - 1) = allL n := by
  refine (full_ups n).ext (allL_ups n) fun y => ?_
  rw [bitsL_mem]
  unfold allL
  simp only [List.mem_map, List.mem_range]
  constructor
  · rintro ⟨i, rfl, h1, h2⟩
    rw [Nat.testBit_two_pow_sub_one] at h2
    exact ⟨i, by simpa using h2, rfl⟩
  · rintro ⟨i, h1, rfl⟩
    exact ⟨i, rfl, by omega, by rw [Nat.testBit_two_pow_sub_one]; simpa using h1⟩
/-- The reference's best is the smallest set. -/
theorem ref_leave {s : St} {c k : Nat → Int} {dips : List Dp} {best : List Int} (hs : StOk s) (hd : dips.length ≤ 6) (h : RBest (keptB s c k dips) dips.length (2 ^ dips.length - 1) best) : best = leaveL s c k dips := by
  obtain ⟨_, h1, h2, h3⟩ := leaveL_spec (s := s) (c := c) (k := k) (dips := dips) hs
  exact h.fin (by omega) (by rw [bitsL_full (by omega)]; exact kept_all hs) h1 h2 h3

theorem befB_lex : ∀ {a b : List Int}, a.length = b.length → befB a b = lexB a b := by
  intro a
  induction a with
  | nil => intro b h; cases b with
    | nil => rfl
    | cons y ys => simp at h
  | cons x xs ih =>
    intro b h
    cases b with
    | nil => simp at h
    | cons y ys =>
      simp only [befB, lexB]
      by_cases e : x = y
      · rw [if_pos e, if_pos e]; exact ih (by simpa using h)
      · rw [if_neg e, if_neg e]

/-- A dip's night is one of the store's. -/
theorem dipB_n {s : St} {d : Dp} (h : dipB s d = true) : ∃ i : Nat, d.n = i ∧ i < s.ns.length := by
  unfold dipB at h
  simp only [Bool.and_eq_true, inB_true] at h
  exact ⟨d.n.toNat, by omega, by omega⟩
theorem leftsL_at (s : St) (c k b : Nat → Int) (t : Int) {m i : Nat} (hi : i < m) : atL (leftsL s c k b t m) i = oilF s c k b t (i + 1) := by simp [leftsL, atL, hi]
theorem ag_bits {s : St} {c k b : Nat → Int} {t : Int} {dips : List Dp} {out : Nat} (hd : ∀ d ∈ dips, dipB s d = true) (hl : dips.length ≤ 16) :
    agBit dips (leftsL s c k b t s.ns.length) out dips.length = true ↔ Ag s c k (keptL dips (bitsL out)) t b := by
  rw [agBit_iff]
  constructor
  · intro h i hi
    unfold agN
    rw [List.all_eq_true]
    intro d hdm
    obtain ⟨j, hj, hc, rfl⟩ := keptL_mem.1 hdm
    rw [bitsL_has (by omega)] at hc
    rcases h j hj with h1 | h1
    · rw [hc] at h1; cases h1
    · by_cases e : (dips.getD j ⟨0, 0, 0⟩).n = (i : Int)
      · rw [e] at h1
        rw [show ((i : Int)).toNat = i by omega, leftsL_at _ _ _ _ _ hi] at h1
        rw [h1]; simp
      · rw [decide_eq_false e]; rfl
  · intro h j hj
    cases e : out.testBit j with
    | true => exact .inl rfl
    | false =>
      right
      have hg : dips.getD j ⟨0, 0, 0⟩ = dips[j] := by simp [hj]
      obtain ⟨i, hi, hlt⟩ := dipB_n (hd (dips.getD j ⟨0, 0, 0⟩) (by rw [hg]; exact List.getElem_mem hj))
      have h1 := h i hlt
      unfold agN at h1
      rw [List.all_eq_true] at h1
      have h2 := h1 (dips.getD j ⟨0, 0, 0⟩) (keptL_mem.2 ⟨j, hj, by rw [bitsL_has (by omega)]; exact e, rfl⟩)
      rw [decide_eq_true hi] at h2
      rw [hi, show ((i : Int)).toNat = i by omega, leftsL_at _ _ _ _ _ hlt]
      simpa using h2
/-- Whether a truth agrees with the dips that are kept, by its number. -/
def nAg (s : St) (c k : Nat → Int) (dips : List Dp) (out n : Nat) : Bool := agBit dips (leftsL s c k (atL (nthL s n)) (nthT s n) s.ns.length) out dips.length
theorem oilF_same {s : St} {c k b b' : Nat → Int} {t : Int} {i : Nat} (h : ∀ j, j < i → b j = b' j) : oilF s c k b t i = oilF s c k b' t i := oilF_congr fun j hj => ⟨rfl, rfl, h j hj⟩
theorem ag_all {s : St} {c k : Nat → Int} {dips : List Dp} (hs : StOk s) {t : Int} {b : Nat → Int} (ht : Tr s t b) (ha : Ag s c k dips t b) : ∃ n, n < manyN s ∧ Ag s c k dips (nthT s n) (atL (nthL s n)) ∧ ∀ i, i ≤ s.ns.length → nOil s c k n i = oilF s c k b t i := by
  obtain ⟨n, hn, h⟩ := nOil_all (c := c) (k := k) hs ht
  refine ⟨n, hn, fun i hi => ?_, fun i hi => (h i).1 hi⟩
  have h1 := (h (i + 1)).1 (by omega)
  unfold nOil at h1
  rw [h1]; exact ha i hi
theorem nAg_none {s : St} {c k : Nat → Int} {dips : List Dp} {out : Nat} (hs : StOk s) (hd : ∀ d ∈ dips, dipB s d = true) (hl : dips.length ≤ 16) (h : ∀ n, n < manyN s → nAg s c k dips out n = false) : ¬ Cons s c k (keptL dips (bitsL out)) := by
  rintro ⟨t, b, ht, ha⟩
  obtain ⟨n, hn, h1, _⟩ := ag_all hs ht ha
  have h2 := h n hn
  unfold nAg at h2
  rw [(ag_bits hd hl).2 h1] at h2; cases h2
theorem nAg_cons {s : St} {c k : Nat → Int} {dips : List Dp} {out n : Nat} (hs : StOk s) (hd : ∀ d ∈ dips, dipB s d = true) (hl : dips.length ≤ 16) (hn : n < manyN s) (h : nAg s c k dips out n = true) : Cons s c k (keptL dips (bitsL out)) :=
  ⟨_, _, nOil_tr hs hn, (ag_bits hd hl).1 h⟩
theorem rgTo_rng {s : St} {c k : Nat → Int} {dips : List Dp} {out : Nat} {L H : Nat → Int} (hs : StOk s) (hd : ∀ d ∈ dips, dipB s d = true) (hl : dips.length ≤ 16) (h : RgTo s c k (nAg s c k dips out) (manyN s) L H) : IsRng s c k (keptL dips (bitsL out)) L H := by
  refine ⟨fun i hi => ?_, fun i hi => ?_, fun i hi t b ht ha => ?_⟩
  · obtain ⟨n, h1, h2, h3⟩ := h.lo i hi
    exact ⟨_, _, nOil_tr hs h1, (ag_bits hd hl).1 h2, h3⟩
  · obtain ⟨n, h1, h2, h3⟩ := h.hi i hi
    exact ⟨_, _, nOil_tr hs h1, (ag_bits hd hl).1 h2, h3⟩
  · obtain ⟨n, hn, h1, h2⟩ := ag_all hs ht ha
    have := h.all i hi n hn ((ag_bits hd hl).2 h1)
    rw [h2 (i + 1) (by omega)] at this
    exact this
theorem keptL_zero (dips : List Dp) : keptL dips (bitsL 0) = dips := by
  have : keptL dips [] = dips := by
    unfold keptL keptTo
    rw [show (List.range dips.length).filter (fun i : Nat => !([] : List Int).contains (i : Int)) = List.range dips.length from List.filter_eq_self.2 (fun i _ => rfl)]
    refine List.ext_getElem (by simp) fun i h1 h2 => ?_
    simp [h2]
  rw [bitsL_zero]; exact this
theorem keptB_iff {s : St} {c k : Nat → Int} {dips : List Dp} {out : List Int} (hs : StOk s) : keptB s c k dips out = true ↔ Cons s c k (keptL dips out) := consB_iff hs
end Go.Proofs.Ytefhdcecbmgljaa

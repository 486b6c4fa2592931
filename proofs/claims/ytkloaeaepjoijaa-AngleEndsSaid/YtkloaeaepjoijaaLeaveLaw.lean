/-
  The smallest set of readings: what Leave tries first is what the reference finds least.
-/
import Derived.Test.YtkloaeaepjoijaaLeaveAll
import Derived.Test.YtkloaeaepjoijaaRef2
set_option linter.all false
namespace Go.Proofs.Ytkloaeaepjoijaa

/-- The order of lists of one length. -/
def lexB : List Int → List Int → Bool
  | x :: xs, y :: ys => if x = y then lexB xs ys else decide (x < y)
  | _, _ => false
/-- Shorter, or as long and smaller. -/
def lessB (a b : List Int) : Bool := if a.length = b.length then lexB a b else decide (a.length < b.length)

/-- A list rises from a number on, below another one. -/
def Ups (n : Nat) : Nat → List Int → Prop
  | _, [] => True
  | s, x :: xs => ∃ k : Nat, x = k ∧ s ≤ k ∧ k < n ∧ Ups n (k + 1) xs

theorem Ups.len {n : Nat} : ∀ {xs : List Int} {s : Nat}, Ups n s xs → xs = [] ∨ s + xs.length ≤ n := by
  intro xs
  induction xs with
  | nil => intro s _; exact .inl rfl
  | cons x xs ih =>
    rintro s ⟨k, _, h1, h2, h3⟩
    right
    rcases ih h3 with rfl | h
    · simp; omega
    · simp; omega
theorem Ups.mem {n : Nat} : ∀ {xs : List Int} {s : Nat}, Ups n s xs → ∀ y ∈ xs, ∃ k : Nat, y = k ∧ s ≤ k ∧ k < n := by
  intro xs
  induction xs with
  | nil => intro s _ y hy; cases hy
  | cons x xs ih =>
    rintro s ⟨k, e, h1, h2, h3⟩ y hy
    rcases List.mem_cons.1 hy with rfl | hy
    · exact ⟨k, e, h1, h2⟩
    · obtain ⟨j, e, h4, h5⟩ := ih h3 y hy
      exact ⟨j, e, by omega, h5⟩
theorem Ups.ext {n : Nat} : ∀ {xs ys : List Int} {s s' : Nat}, Ups n s xs → Ups n s' ys → (∀ y, y ∈ xs ↔ y ∈ ys) → xs = ys := by
  intro xs
  induction xs with
  | nil =>
    intro ys s s' _ _ h
    cases ys with
    | nil => rfl
    | cons y ys => exact absurd ((h y).2 (by simp)) (by simp)
  | cons x xs ih =>
    intro ys s s' hx hy h
    cases ys with
    | nil => exact absurd ((h x).1 (by simp)) (by simp)
    | cons y ys =>
      obtain ⟨k, rfl, h1, h2, h3⟩ := hx
      obtain ⟨j, rfl, g1, g2, g3⟩ := hy
      have e1 : j ≤ k := by
        rcases List.mem_cons.1 ((h (k : Int)).1 (by simp)) with e | e
        · omega
        · obtain ⟨i, e, _, _⟩ := g3.mem _ e; omega
      have e2 : k ≤ j := by
        rcases List.mem_cons.1 ((h (j : Int)).2 (by simp)) with e | e
        · omega
        · obtain ⟨i, e, _, _⟩ := h3.mem _ e; omega
      obtain rfl : j = k := by omega
      congr 1
      refine ih h3 g3 fun z => ⟨fun hz => ?_, fun hz => ?_⟩
      · rcases List.mem_cons.1 ((h z).1 (List.mem_cons_of_mem _ hz)) with e | e
        · obtain ⟨i, e', _, _⟩ := h3.mem _ hz; omega
        · exact e
      · rcases List.mem_cons.1 ((h z).2 (List.mem_cons_of_mem _ hz)) with e | e
        · obtain ⟨i, e', _, _⟩ := g3.mem _ hz; omega
        · exact e

theorem lexB_irrefl : ∀ xs : List Int, lexB xs xs = false := by
  intro xs
  induction xs with
  | nil => rfl
  | cons x xs ih => simp only [lexB, if_pos]; exact ih
theorem lexB_trans : ∀ {a b c : List Int}, a.length = b.length → b.length = c.length → lexB a b = true → lexB b c = true → lexB a c = true := by
  intro a
  induction a with
  | nil => intro b c _ _ h _; simp [lexB] at h
  | cons x xs ih =>
    intro b c h1 h2 hab hbc
    cases b with
    | nil => simp at h1
    | cons y ys =>
      cases c with
      | nil => simp at h2
      | cons z zs =>
        simp only [lexB] at hab hbc ⊢
        by_cases e1 : x = y
        · by_cases e2 : y = z
          · rw [if_pos e1] at hab; rw [if_pos e2] at hbc; rw [if_pos (e1.trans e2)]
            exact ih (by simpa using h1) (by simpa using h2) hab hbc
          · rw [if_neg e2] at hbc; rw [e1, if_neg e2]; exact hbc
        · rw [if_neg e1] at hab
          simp at hab
          by_cases e2 : y = z
          · rw [if_neg (by omega)]; simp; omega
          · rw [if_neg e2] at hbc; simp at hbc
            rw [if_neg (by omega)]; simp; omega
theorem lexB_total : ∀ {a b : List Int}, a.length = b.length → a ≠ b → lexB a b = true ∨ lexB b a = true := by
  intro a
  induction a with
  | nil => intro b h1 h2; cases b with
    | nil => exact absurd rfl h2
    | cons y ys => simp at h1
  | cons x xs ih =>
    intro b h1 h2
    cases b with
    | nil => simp at h1
    | cons y ys =>
      simp only [lexB]
      by_cases e : x = y
      · subst e
        rw [if_pos rfl, if_pos rfl]
        exact ih (by simpa using h1) (fun e => h2 (by rw [e]))
      · rw [if_neg e, if_neg (Ne.symm e)]; simp; omega
theorem lessB_irrefl (a : List Int) : lessB a a = false := by unfold lessB; rw [if_pos rfl]; exact lexB_irrefl a
theorem lessB_trans {a b c : List Int} (h1 : lessB a b = true) (h2 : lessB b c = true) : lessB a c = true := by
  unfold lessB at h1 h2 ⊢
  split at h1
  · split at h2
    · rw [if_pos (by omega)]; exact lexB_trans (by omega) (by omega) h1 h2
    · rw [if_neg (by omega)]; simp at h2 ⊢; omega
  · simp at h1
    split at h2
    · rw [if_neg (by omega)]; simp; omega
    · simp at h2; rw [if_neg (by omega)]; simp; omega
theorem lessB_total {a b : List Int} (h : a ≠ b) : lessB a b = true ∨ lessB b a = true := by
  unfold lessB
  by_cases e : a.length = b.length
  · rw [if_pos e, if_pos e.symm]; exact lexB_total e h
  · rw [if_neg e, if_neg (Ne.symm e)]; simp; omega

theorem firstSome_spec {α : Type} {f : Nat → Option α} {m s : Nat} :
    (firstSome f m s = none ∧ ∀ j, s ≤ j → j < s + m → f j = none) ∨ ∃ k x, s ≤ k ∧ k < s + m ∧ f k = some x ∧ (∀ j, s ≤ j → j < k → f j = none) ∧ firstSome f m s = some x := by
  induction m generalizing s with
  | zero => exact .inl ⟨rfl, fun j h1 h2 => by omega⟩
  | succ m ih =>
    cases e : f s with
    | some x => exact .inr ⟨s, x, by omega, by omega, e, fun j h1 h2 => by omega, by simp only [firstSome, e]⟩
    | none =>
      rcases ih (s := s + 1) with ⟨h1, h2⟩ | ⟨k, x, h1, h2, h3, h4, h5⟩
      · refine .inl ⟨by simp only [firstSome, e]; exact h1, fun j a b => ?_⟩
        by_cases ej : j = s
        · rw [ej]; exact e
        · exact h2 j (by omega) (by omega)
      · refine .inr ⟨k, x, by omega, by omega, h3, fun j a b => ?_, by simp only [firstSome, e]; exact h5⟩
        by_cases ej : j = s
        · rw [ej]; exact e
        · exact h4 j (by omega) (by omega)

theorem leaveF_spec (p : List Int → Bool) (n : Nat) : ∀ (m : Nat) (out : List Int) (start : Nat),
    (leaveF p n m out start = none ∧ ∀ s, Ups n start s → s.length = m → p (out ++ s) = false) ∨
    ∃ s, leaveF p n m out start = some (out ++ s) ∧ Ups n start s ∧ s.length = m ∧ p (out ++ s) = true ∧ ∀ s', Ups n start s' → s'.length = m → lexB s' s = true → p (out ++ s') = false := by
  intro m
  induction m with
  | zero =>
    intro out start
    cases e : p out with
    | false => exact .inl ⟨by simp [leaveF, e], fun s _ h => by rw [List.length_eq_zero_iff.1 h, List.append_nil]; exact e⟩
    | true => exact .inr ⟨[], by simp [leaveF, e], trivial, rfl, by simpa using e, fun s' _ h hl => by rw [List.length_eq_zero_iff.1 h] at hl; simp [lexB] at hl⟩
  | succ m ih =>
    intro out start
    have key : ∀ (k : Nat) (s : List Int), start ≤ k → k < n → Ups n (k + 1) s → s.length = m → k < start + (n - m - start) := by
      intro k s h1 h2 h3 h4
      rcases h3.len with rfl | h
      · simp at h4; omega
      · omega
    rcases firstSome_spec (f := fun i => leaveF p n m (out ++ [(i : Int)]) (i + 1)) (m := n - m - start) (s := start) with ⟨h1, h2⟩ | ⟨k, x, h1, h2, h3, h4, h5⟩
    · refine .inl ⟨h1, fun s hs hl => ?_⟩
      cases s with
      | nil => simp at hl
      | cons y ys =>
        obtain ⟨k, rfl, g1, g2, g3⟩ := hs
        have hm : ys.length = m := by simpa using hl
        rcases ih (out ++ [(k : Int)]) (k + 1) with ⟨_, hn⟩ | ⟨s, hs, _⟩
        · simpa using hn ys g3 hm
        · have := h2 k g1 (key k ys g1 g2 g3 hm)
          rw [this] at hs; cases hs
    · rcases ih (out ++ [(k : Int)]) (k + 1) with ⟨hn, _⟩ | ⟨s, hs, hu, hl, hp, hmin⟩
      · rw [hn] at h3; cases h3
      · rw [hs] at h3
        obtain rfl : out ++ [(k : Int)] ++ s = x := by simpa using h3
        refine .inr ⟨(k : Int) :: s, by simpa [leaveF] using h5, ⟨k, rfl, h1, by omega, hu⟩, by simp [hl], by simpa using hp, fun s' hs' hl' hlx => ?_⟩
        cases s' with
        | nil => simp at hl'
        | cons y ys =>
          obtain ⟨j, rfl, g1, g2, g3⟩ := hs'
          have hm : ys.length = m := by simpa using hl'
          simp only [lexB] at hlx
          by_cases e : (j : Int) = k
          · rw [if_pos e] at hlx
            obtain rfl : j = k := by omega
            simpa using hmin ys g3 hm hlx
          · rw [if_neg e] at hlx
            simp at hlx
            have h4' := h4 j g1 hlx
            rcases ih (out ++ [(j : Int)]) (j + 1) with ⟨_, hn⟩ | ⟨s, hs, _⟩
            · simpa using hn ys g3 hm
            · rw [h4'] at hs; cases hs

theorem leaveO_spec (l : List Ang) (T C err : Int) : (leaveO l T C err = none ∧ ∀ s, Ups l.length 0 s → canE l T C err s = false) ∨
    ∃ L, leaveO l T C err = some L ∧ Ups l.length 0 L ∧ canE l T C err L = true ∧ ∀ s, Ups l.length 0 s → lessB s L = true → canE l T C err s = false := by
  have hlen : ∀ s, Ups l.length 0 s → s.length < 0 + (l.length + 1) := fun s hs => by
    rcases hs.len with rfl | h
    · simp
    · omega
  rcases firstSome_spec (f := fun m => leaveF (canE l T C err) l.length m [] 0) (m := l.length + 1) (s := 0) with ⟨h1, h2⟩ | ⟨k, x, h1, h2, h3, h4, h5⟩
  · refine .inl ⟨h1, fun s hs => ?_⟩
    have h := h2 s.length (Nat.zero_le _) (hlen s hs)
    rcases leaveF_spec (canE l T C err) l.length s.length [] 0 with ⟨_, hn⟩ | ⟨t, ht, _⟩
    · simpa using hn s hs rfl
    · rw [h] at ht; cases ht
  · rcases leaveF_spec (canE l T C err) l.length k [] 0 with ⟨hn, _⟩ | ⟨t, ht, hu, hl, hp, hmin⟩
    · rw [hn] at h3; cases h3
    · rw [ht] at h3
      obtain rfl : t = x := by simpa using h3
      refine .inr ⟨t, h5, hu, by simpa using hp, fun s hs hlt => ?_⟩
      unfold lessB at hlt
      split at hlt
      · rename_i e; simpa using hmin s hs (by omega) hlt
      · simp at hlt
        have h := h4 s.length (Nat.zero_le _) (by omega)
        rcases leaveF_spec (canE l T C err) l.length s.length [] 0 with ⟨_, hn⟩ | ⟨t', ht', _⟩
        · simpa using hn s hs rfl
        · rw [h] at ht'; cases ht'

theorem ups_filter (n : Nat) (q : Nat → Bool) : ∀ k s : Nat, s + k ≤ n → Ups n s (((List.range' s k).filter q).map fun i : Nat => (i : Int)) := by
  intro k
  induction k with
  | zero => intro s _; exact trivial
  | succ k ih =>
    intro s h
    have h1 := ih (s + 1) (by omega)
    rw [List.range'_succ, List.filter_cons]
    split
    · exact ⟨s, rfl, Nat.le_refl _, by omega, h1⟩
    · have mono : ∀ {xs : List Int}, Ups n (s + 1) xs → Ups n s xs := fun {xs} hx => by
        cases xs with
        | nil => trivial
        | cons x xs => obtain ⟨j, e, a, b, c⟩ := hx; exact ⟨j, e, by omega, b, c⟩
      exact mono h1
theorem bitsL_mem {bits : Nat} {y : Int} : y ∈ bitsL bits ↔ ∃ i : Nat, y = i ∧ i < 16 ∧ bits.testBit i = true := by
  simp only [bitsL, List.mem_map, List.mem_filter, List.mem_range]
  constructor
  · rintro ⟨i, ⟨h1, h2⟩, rfl⟩; exact ⟨i, rfl, h1, h2⟩
  · rintro ⟨i, rfl, h1, h2⟩; exact ⟨i, ⟨h1, h2⟩, rfl⟩
theorem Ups.sub {n m : Nat} : ∀ {xs : List Int} {s : Nat}, Ups n s xs → (∀ y ∈ xs, y < (m : Int)) → Ups m s xs := by
  intro xs
  induction xs with
  | nil => intro s _ _; trivial
  | cons x xs ih =>
    rintro s ⟨k, rfl, a, b, c⟩ h
    exact ⟨k, rfl, a, by have := h (k : Int) (by simp); omega, ih c fun y hy => h y (List.mem_cons_of_mem _ hy)⟩
theorem bitsL_ups {bits n : Nat} (h : bits < 2 ^ n) : Ups n 0 (bitsL bits) := by
  have h16 : Ups 16 0 (bitsL bits) := by
    unfold bitsL
    rw [List.range_eq_range']
    exact ups_filter 16 bits.testBit 16 0 (by omega)
  refine h16.sub fun y hy => ?_
  obtain ⟨i, rfl, _, hb⟩ := bitsL_mem.1 hy
  by_cases e : i < n
  · omega
  · rw [Nat.testBit_lt_two_pow (Nat.lt_of_lt_of_le h (Nat.pow_le_pow_right (by omega) (by omega)))] at hb; cases hb
theorem bitsL_all {n : Nat} (hn : n ≤ 16) {s : List Int} (hs : Ups n 0 s) : ∃ bits, bits < 2 ^ n ∧ bitsL bits = s := by
  obtain ⟨t, ht, hb⟩ := exists_bits (fun i => s.contains (i : Int)) n
  refine ⟨t, ht, (bitsL_ups ht).ext hs fun y => ?_⟩
  rw [bitsL_mem]
  constructor
  · rintro ⟨i, rfl, h1, h2⟩
    by_cases e : i < n
    · rw [hb i e] at h2; simpa using h2
    · rw [Nat.testBit_lt_two_pow (Nat.lt_of_lt_of_le ht (Nat.pow_le_pow_right (by omega) (by omega)))] at h2; cases h2
  · intro hy
    obtain ⟨k, rfl, _, hk⟩ := hs.mem y hy
    exact ⟨k, rfl, by omega, by rw [hb k hk]; simpa using hy⟩

/-- What the reference has found among the first sets. -/
structure RBest (p : List Int → Bool) (n k : Nat) (best : List Int) : Prop where
  ups : Ups n 0 best
  yes : best = bitsL (2 ^ n - 1) ∨ p best = true
  full : lessB (bitsL (2 ^ n - 1)) best = false
  min : ∀ bits, bits < k → p (bitsL bits) = true → lessB (bitsL bits) best = false

theorem full_ups (n : Nat) : Ups n 0 (bitsL (2 ^ n - 1)) := bitsL_ups (by have := Nat.two_pow_pos n; omega)
theorem RBest.start (p : List Int → Bool) (n : Nat) : RBest p n 0 (bitsL (2 ^ n - 1)) := ⟨full_ups n, .inl rfl, lessB_irrefl _, fun bits h => by omega⟩
theorem RBest.keep {p : List Int → Bool} {n k : Nat} {best : List Int} (h : RBest p n k best) (hk : lessB (bitsL k) best = false ∨ p (bitsL k) = false) : RBest p n (k + 1) best := by
  refine ⟨h.ups, h.yes, h.full, fun bits hb hp => ?_⟩
  by_cases e : bits = k
  · subst e
    rcases hk with hk | hk
    · exact hk
    · rw [hk] at hp; cases hp
  · exact h.min bits (by omega) hp
theorem RBest.turn {p : List Int → Bool} {n k : Nat} {best : List Int} (h : RBest p n k best) (hk : k < 2 ^ n) (h1 : lessB (bitsL k) best = true) (h2 : p (bitsL k) = true) : RBest p n (k + 1) (bitsL k) := by
  have key : ∀ x, lessB x best = false → lessB x (bitsL k) = false := fun x hx => by
    cases e : lessB x (bitsL k) with
    | false => rfl
    | true => rw [lessB_trans e h1] at hx; cases hx
  refine ⟨bitsL_ups hk, .inr h2, key _ h.full, fun bits hb hp => ?_⟩
  by_cases e : bits = k
  · subst e; exact lessB_irrefl _
  · exact key _ (h.min bits (by omega) hp)

theorem RBest.fin {l : List Ang} {T C err : Int} {best L : List Int} (hn : l.length ≤ 16) (h : RBest (canE l T C err) l.length (2 ^ l.length - 1) best) (hL : leaveO l T C err = some L) (hf : canE l T C err (bitsL (2 ^ l.length - 1)) = true) : best = L := by
  rcases leaveO_spec l T C err with ⟨h1, _⟩ | ⟨L', h1, hu, hp, hmin⟩
  · rw [h1] at hL; cases hL
  · obtain rfl : L' = L := by rw [h1] at hL; simpa using hL
    have hpb : canE l T C err best = true := by rcases h.yes with e | e; rw [e]; exact hf; exact e
    refine Classical.byContradiction fun hne => ?_
    rcases lessB_total hne with hlt | hlt
    · rw [hmin best h.ups hlt] at hpb; cases hpb
    · obtain ⟨bits, hb, rfl⟩ := bitsL_all hn hu
      by_cases e : bits = 2 ^ l.length - 1
      · rw [e] at hlt; rw [h.full] at hlt; cases hlt
      · rw [h.min bits (by omega) hp] at hlt; cases hlt

theorem canE_full {l : List Ang} {T C err : Int} (hok : NetOk l T C) (he : 0 ≤ err) {s : List Int} (h : canE l T C err s = true) : canE l T C err (bitsL (2 ^ l.length - 1)) = true := by
  have hn := hok.len
  have hc : ∀ i : Nat, i < l.length → (bitsL (2 ^ l.length - 1)).contains (i : Int) = true := fun i hi => by
    rw [bitsL_has (by omega), Nat.testBit_two_pow_sub_one]; simpa using hi
  have hro := rooms_ok hok he s
  refine canB_mono hok (fun i hi => ?_) (fun i hi => ?_) h
  · have h1 : roomLo l err (bitsL (2 ^ l.length - 1)) i = 0 := by unfold roomLo; rw [Int.toNat_natCast, List.getElem?_eq_getElem hi]; simp only [hc i hi, if_true]
    rw [h1]; exact hro.lo0 i hi
  · have h1 : roomHi l err (bitsL (2 ^ l.length - 1)) i = 40 := by unfold roomHi; rw [Int.toNat_natCast, List.getElem?_eq_getElem hi]; simp only [hc i hi, if_true]
    rw [h1]; exact hro.hi1 i hi
theorem leaveO_full {l : List Ang} {T C err : Int} (hok : NetOk l T C) (he : 0 ≤ err) : (leaveO l T C err).isSome = canE l T C err (bitsL (2 ^ l.length - 1)) := by
  rcases leaveO_spec l T C err with ⟨h1, h2⟩ | ⟨L, h1, hu, hp, _⟩
  · rw [h1, h2 _ (full_ups _)]; rfl
  · rw [h1, canE_full hok he hp]; rfl
end Go.Proofs.Ytkloaeaepjoijaa

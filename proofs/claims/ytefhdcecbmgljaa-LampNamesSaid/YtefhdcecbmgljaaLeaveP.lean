/-
  The smallest set of dips, plainly.
-/
import Derived.Test.YtefhdcecbmgljaaLevL
import Derived.Test.YtefhdcecbmgljaaBestL
set_option linter.all false
namespace Go.Proofs.Ytefhdcecbmgljaa

/-- The first of some tries that comes to something. -/
def firstSome {α : Type} (f : Nat → Option α) : Nat → Nat → Option α
  | 0, _ => none
  | k + 1, i => match f i with | some x => some x | none => firstSome f k (i + 1)

/-- The lists that are left out, in the order in which they are tried. -/
def leaveF (p : List Int → Bool) (n : Nat) : Nat → List Int → Nat → Option (List Int)
  | 0 => fun out _ => if p out then some out else none
  | m + 1 => fun out start => firstSome (fun i => leaveF p n m (out ++ [(i : Int)]) (i + 1)) (n - start) start

theorem firstSome_skip {α : Type} {f : Nat → Option α} {m s : Nat} : ∀ k, k ≤ m → (∀ j, s ≤ j → j < s + k → f j = none) → firstSome f m s = firstSome f (m - k) (s + k) := by
  intro k
  induction k with
  | zero => intro _ _; rfl
  | succ k ih =>
    intro hk h
    rw [ih (by omega) (fun j h1 h2 => h j h1 (by omega)), show m - k = (m - (k + 1)) + 1 by omega]
    simp only [firstSome, h (s + k) (by omega) (by omega)]
    rfl
theorem firstSome_none {α : Type} {f : Nat → Option α} {m s : Nat} (h : ∀ j, s ≤ j → j < s + m → f j = none) : firstSome f m s = none := by
  rw [firstSome_skip m (Nat.le_refl _) h, Nat.sub_self]; rfl
theorem firstSome_some {α : Type} {f : Nat → Option α} {m s k : Nat} {x : α} (h0 : s ≤ k) (hk : k < s + m) (h : ∀ j, s ≤ j → j < k → f j = none) (hf : f k = some x) : firstSome f m s = some x := by
  rw [firstSome_skip (k - s) (by omega) (fun j h1 h2 => h j h1 (by omega)), show m - (k - s) = (m - (k - s) - 1) + 1 by omega, show s + (k - s) = k by omega]
  simp only [firstSome, hf]

/-- Shorter, or as long and smaller. -/
def lessB (a b : List Int) : Bool := if a.length = b.length then lexB a b else decide (a.length < b.length)

/-- A list rises from a number on, below another one. -/
def Ups (n : Nat) : Nat → List Int → Prop
  | _, [] => True
  | s, x :: xs => ∃ k : Nat, x = k ∧ s ≤ k ∧ k < n ∧ Ups n (k + 1) xs

theorem Ups.len {n : Nat} : ∀ {xs : List Int} {s : Nat}, Ups n s xs → xs = [] ∨ s + xs.length ≤ n := by
  intro xs
  induction xs with
  | nil => intro s _; exact .inl rfl
  | cons x xs ih =>
    rintro s ⟨k, _, h1, h2, h3⟩
    right
    rcases ih h3 with rfl | h
    · simp; omega
    · simp; omega
theorem Ups.mem {n : Nat} : ∀ {xs : List Int} {s : Nat}, Ups n s xs → ∀ y ∈ xs, ∃ k : Nat, y = k ∧ s ≤ k ∧ k < n := by
  intro xs
  induction xs with
  | nil => intro s _ y hy; cases hy
  | cons x xs ih =>
    rintro s ⟨k, e, h1, h2, h3⟩ y hy
    rcases List.mem_cons.1 hy with rfl | hy
    · exact ⟨k, e, h1, h2⟩
    · obtain ⟨j, e, h4, h5⟩ := ih h3 y hy
      exact ⟨j, e, by omega, h5⟩
theorem Ups.ext {n : Nat} : ∀ {xs ys : List Int} {s s' : Nat}, Ups n s xs → Ups n s' ys → (∀ y, y ∈ xs ↔ y ∈ ys) → xs = ys := by
  intro xs
  induction xs with
  | nil =>
    intro ys s s' _ _ h
    cases ys with
    | nil => rfl
    | cons y ys => exact absurd ((h y).2 (by simp)) (by simp)
  | cons x xs ih =>
    intro ys s s' hx hy h
    cases ys with
    | nil => exact absurd ((h x).1 (by simp)) (by simp)
    | cons y ys =>
      obtain ⟨k, rfl, h1, h2, h3⟩ := hx
      obtain ⟨j, rfl, g1, g2, g3⟩ := hy
      have e1 : j ≤ k := by
        rcases List.mem_cons.1 ((h (k : Int)).1 (by simp)) with e | e
        · omega
        · obtain ⟨i, e, _, _⟩ := g3.mem _ e; omega
      have e2 : k ≤ j := by
        rcases List.mem_cons.1 ((h (j : Int)).2 (by simp)) with e | e
        · omega
        · obtain ⟨i, e, _, _⟩ := h3.mem _ e; omega
      obtain rfl : j = k := by omega
      congr 1
      refine ih h3 g3 fun z => ⟨fun hz => ?_, fun hz => ?_⟩
      · rcases List.mem_cons.1 ((h z).1 (List.mem_cons_of_mem _ hz)) with e | e
        · obtain ⟨i, e', _, _⟩ := h3.mem _ hz; omega
        · exact e
      · rcases List.mem_cons.1 ((h z).2 (List.mem_cons_of_mem _ hz)) with e | e
        · obtain ⟨i, e', _, _⟩ := g3.mem _ hz; omega
        · exact e

theorem lexB_trans : ∀ {a b c : List Int}, a.length = b.length → b.length = c.length → lexB a b = true → lexB b c = true → lexB a c = true := by
  intro a
  induction a with
  | nil => intro b c _ _ h _; simp [lexB] at h
  | cons x xs ih =>
    intro b c h1 h2 hab hbc
    cases b with
    | nil => simp at h1
    | cons y ys =>
      cases c with
      | nil => simp at h2
      | cons z zs =>
        simp only [lexB] at hab hbc ⊢
        by_cases e1 : x = y
        · by_cases e2 : y = z
          · rw [if_pos e1] at hab; rw [if_pos e2] at hbc; rw [if_pos (e1.trans e2)]
            exact ih (by simpa using h1) (by simpa using h2) hab hbc
          · rw [if_neg e2] at hbc; rw [e1, if_neg e2]; exact hbc
        · rw [if_neg e1] at hab
          simp at hab
          by_cases e2 : y = z
          · rw [if_neg (by omega)]; simp; omega
          · rw [if_neg e2] at hbc; simp at hbc
            rw [if_neg (by omega)]; simp; omega
theorem lexB_total : ∀ {a b : List Int}, a.length = b.length → a ≠ b → lexB a b = true ∨ lexB b a = true := by
  intro a
  induction a with
  | nil => intro b h1 h2; cases b with
    | nil => exact absurd rfl h2
    | cons y ys => simp at h1
  | cons x xs ih =>
    intro b h1 h2
    cases b with
    | nil => simp at h1
    | cons y ys =>
      simp only [lexB]
      by_cases e : x = y
      · subst e
        rw [if_pos rfl, if_pos rfl]
        exact ih (by simpa using h1) (fun e => h2 (by rw [e]))
      · rw [if_neg e, if_neg (Ne.symm e)]; simp; omega
theorem lessB_irrefl (a : List Int) : lessB a a = false := by unfold lessB; rw [if_pos rfl]; exact lexB_irrefl a
theorem lessB_trans {a b c : List Int} (h1 : lessB a b = true) (h2 : lessB b c = true) : lessB a c = true := by
  unfold lessB at h1 h2 ⊢
  split at h1
  · split at h2
    · rw [if_pos (by omega)]; exact lexB_trans (by omega) (by omega) h1 h2
    · rw [if_neg (by omega)]; simp at h2 ⊢; omega
  · simp at h1
    split at h2
    · rw [if_neg (by omega)]; simp; omega
    · simp at h2; rw [if_neg (by omega)]; simp; omega
theorem lessB_total {a b : List Int} (h : a ≠ b) : lessB a b = true ∨ lessB b a = true := by
  unfold lessB
  by_cases e : a.length = b.length
  · rw [if_pos e, if_pos e.symm]; exact lexB_total e h
  · rw [if_neg e, if_neg (Ne.symm e)]; simp; omega

theorem firstSome_spec {α : Type} {f : Nat → Option α} {m s : Nat} :
    (firstSome f m s = none ∧ ∀ j, s ≤ j → j < s + m → f j = none) ∨ ∃ k x, s ≤ k ∧ k < s + m ∧ f k = some x ∧ (∀ j, s ≤ j → j < k → f j = none) ∧ firstSome f m s = some x := by
  induction m generalizing s with
  | zero => exact .inl ⟨rfl, fun j h1 h2 => by omega⟩
  | succ m ih =>
    cases e : f s with
    | some x => exact .inr ⟨s, x, by omega, by omega, e, fun j h1 h2 => by omega, by simp only [firstSome, e]⟩
    | none =>
      rcases ih (s := s + 1) with ⟨h1, h2⟩ | ⟨k, x, h1, h2, h3, h4, h5⟩
      · refine .inl ⟨by simp only [firstSome, e]; exact h1, fun j a b => ?_⟩
        by_cases ej : j = s
        · rw [ej]; exact e
        · exact h2 j (by omega) (by omega)
      · refine .inr ⟨k, x, by omega, by omega, h3, fun j a b => ?_, by simp only [firstSome, e]; exact h5⟩
        by_cases ej : j = s
        · rw [ej]; exact e
        · exact h4 j (by omega) (by omega)

theorem leaveF_spec (p : List Int → Bool) (n : Nat) : ∀ (m : Nat) (out : List Int) (start : Nat),
    (leaveF p n m out start = none ∧ ∀ s, Ups n start s → s.length = m → p (out ++ s) = false) ∨
    ∃ s, leaveF p n m out start = some (out ++ s) ∧ Ups n start s ∧ s.length = m ∧ p (out ++ s) = true ∧ ∀ s', Ups n start s' → s'.length = m → lexB s' s = true → p (out ++ s') = false := by
  intro m
  induction m with
  | zero =>
    intro out start
    cases e : p out with
    | false => exact .inl ⟨by simp [leaveF, e], fun s _ h => by rw [List.length_eq_zero_iff.1 h, List.append_nil]; exact e⟩
    | true => exact .inr ⟨[], by simp [leaveF, e], trivial, rfl, by simpa using e, fun s' _ h hl => by rw [List.length_eq_zero_iff.1 h] at hl; simp [lexB] at hl⟩
  | succ m ih =>
    intro out start
    rcases firstSome_spec (f := fun i => leaveF p n m (out ++ [(i : Int)]) (i + 1)) (m := n - start) (s := start) with ⟨h1, h2⟩ | ⟨k, x, h1, h2, h3, h4, h5⟩
    · refine .inl ⟨h1, fun s hs hl => ?_⟩
      cases s with
      | nil => simp at hl
      | cons y ys =>
        obtain ⟨k, rfl, g1, g2, g3⟩ := hs
        have hm : ys.length = m := by simpa using hl
        rcases ih (out ++ [(k : Int)]) (k + 1) with ⟨_, hn⟩ | ⟨s, hs, _⟩
        · simpa using hn ys g3 hm
        · have := h2 k g1 (by omega)
          rw [this] at hs; cases hs
    · rcases ih (out ++ [(k : Int)]) (k + 1) with ⟨hn, _⟩ | ⟨s, hs, hu, hl, hp, hmin⟩
      · rw [hn] at h3; cases h3
      · rw [hs] at h3
        obtain rfl : out ++ [(k : Int)] ++ s = x := by simpa using h3
        refine .inr ⟨(k : Int) :: s, by simpa [leaveF] using h5, ⟨k, rfl, h1, by omega, hu⟩, by simp [hl], by simpa using hp, fun s' hs' hl' hlx => ?_⟩
        cases s' with
        | nil => simp at hl'
        | cons y ys =>
          obtain ⟨j, rfl, g1, g2, g3⟩ := hs'
          have hm : ys.length = m := by simpa using hl'
          simp only [lexB] at hlx
          by_cases e : (j : Int) = k
          · rw [if_pos e] at hlx
            obtain rfl : j = k := by omega
            simpa using hmin ys g3 hm hlx
          · rw [if_neg e] at hlx
            simp at hlx
            have h4' := h4 j g1 hlx
            rcases ih (out ++ [(j : Int)]) (j + 1) with ⟨_, hn⟩ | ⟨s, hs, _⟩
            · simpa using hn ys g3 hm
            · rw [h4'] at hs; cases hs

/-- The first of all lists, the shorter ones first. -/
def leaveO (p : List Int → Bool) (n : Nat) : Option (List Int) := firstSome (fun m => leaveF p n m [] 0) (n + 1) 0
theorem leaveO_spec (p : List Int → Bool) (n : Nat) : (leaveO p n = none ∧ ∀ s, Ups n 0 s → p s = false) ∨
    ∃ L, leaveO p n = some L ∧ Ups n 0 L ∧ p L = true ∧ ∀ s, Ups n 0 s → lessB s L = true → p s = false := by
  have hlen : ∀ s, Ups n 0 s → s.length < 0 + (n + 1) := fun s hs => by
    rcases hs.len with rfl | h
    · simp
    · omega
  rcases firstSome_spec (f := fun m => leaveF p n m [] 0) (m := n + 1) (s := 0) with ⟨h1, h2⟩ | ⟨k, x, h1, h2, h3, h4, h5⟩
  · refine .inl ⟨h1, fun s hs => ?_⟩
    have h := h2 s.length (Nat.zero_le _) (hlen s hs)
    rcases leaveF_spec p n s.length [] 0 with ⟨_, hn⟩ | ⟨t, ht, _⟩
    · simpa using hn s hs rfl
    · rw [h] at ht; cases ht
  · rcases leaveF_spec p n k [] 0 with ⟨hn, _⟩ | ⟨t, ht, hu, hl, hp, hmin⟩
    · rw [hn] at h3; cases h3
    · rw [ht] at h3
      obtain rfl : t = x := by simpa using h3
      refine .inr ⟨t, h5, hu, by simpa using hp, fun s hs hlt => ?_⟩
      unfold lessB at hlt
      split at hlt
      · rename_i e; simpa using hmin s hs (by omega) hlt
      · simp at hlt
        have h := h4 s.length (Nat.zero_le _) (by omega)
        rcases leaveF_spec p n s.length [] 0 with ⟨_, hn⟩ | ⟨t', ht', _⟩
        · simpa using hn s hs rfl
        · rw [h] at ht'; cases ht'


/-- What oil there can be after some nights, as a list. -/
def fwL (s : St) (c k : Nat → Int) (dips : List Dp) : Nat → List Int
  | 0 => (List.range (s.sh - s.sl + 1).toNat).map fun j : Nat => s.sl + (j : Int)
  | i + 1 => ((fwL s c k dips i).flatMap fun o => nightF s c k i o).filter fun x => agN dips i x
theorem fwL_mem {s : St} {c k : Nat → Int} {dips : List Dp} (hs : StOk s) {i : Nat} (hi : i ≤ s.ns.length) {x : Int} : x ∈ fwL s c k dips i ↔ Fw s c k dips i x := by
  induction i generalizing x with
  | zero =>
    have := hs.s1
    simp only [fwL, List.mem_map, List.mem_range, Fw]
    constructor
    · rintro ⟨j, hj, rfl⟩; omega
    · rintro ⟨h1, h2⟩; exact ⟨(x - s.sl).toNat, by omega, by omega⟩
  | succ i ih =>
    have hn := hs.nt i (by omega)
    simp only [fwL, List.mem_filter, List.mem_flatMap, Fw]
    constructor
    · rintro ⟨⟨o, h1, h2⟩, h3⟩
      obtain ⟨b, b1, b2, hb⟩ := (nightL_mem (by omega)).1 h2
      exact ⟨h3, o, b, (ih (by omega)).1 h1, b1, b2, hb.symm⟩
    · rintro ⟨h3, o, b, h1, b1, b2, hb⟩
      exact ⟨⟨o, (ih (by omega)).2 h1, (nightL_mem (by omega)).2 ⟨b, b1, b2, hb.symm⟩⟩, h3⟩
def consB (s : St) (c k : Nat → Int) (dips : List Dp) : Bool := !(fwL s c k dips s.ns.length).isEmpty
theorem consB_iff {s : St} {c k : Nat → Int} {dips : List Dp} (hs : StOk s) : consB s c k dips = true ↔ Cons s c k dips := by
  rw [← fw_cons]
  unfold consB
  constructor
  · intro h
    cases e : fwL s c k dips s.ns.length with
    | nil => rw [e] at h; cases h
    | cons x l => exact ⟨x, (fwL_mem hs (Nat.le_refl _)).1 (by rw [e]; simp)⟩
  · rintro ⟨o, h⟩
    have := (fwL_mem hs (Nat.le_refl _)).2 h
    cases e : fwL s c k dips s.ns.length with
    | nil => rw [e] at this; cases this
    | cons x l => rfl
/-- The dips that are kept. -/
def keptTo (dips : List Dp) (out : List Int) (m : Nat) : List Dp := ((List.range m).filter fun i : Nat => !out.contains (i : Int)).map fun i => dips.getD i ⟨0, 0, 0⟩
def keptL (dips : List Dp) (out : List Int) : List Dp := keptTo dips out dips.length
theorem keptTo_succ (dips : List Dp) (out : List Int) (m : Nat) : keptTo dips out (m + 1) = if out.contains (m : Int) then keptTo dips out m else keptTo dips out m ++ [dips.getD m ⟨0, 0, 0⟩] := by
  unfold keptTo
  rw [List.range_succ, List.filter_append, List.map_append]
  cases h : out.contains (m : Int) with
  | true => simp only [List.filter_cons, List.filter_nil, h, Bool.not_true, Bool.false_eq_true, if_false, if_true, List.map_nil, List.append_nil]
  | false => simp only [List.filter_cons, List.filter_nil, h, Bool.not_false, Bool.false_eq_true, if_false, if_true, List.map_cons, List.map_nil]
theorem keptTo_len (dips : List Dp) (out : List Int) (m : Nat) : (keptTo dips out m).length ≤ m := by
  unfold keptTo
  rw [List.length_map]
  exact Nat.le_trans (List.length_filter_le _ _) (by simp)
theorem keptL_mem {dips : List Dp} {out : List Int} {d : Dp} : d ∈ keptL dips out ↔ ∃ i : Nat, i < dips.length ∧ out.contains (i : Int) = false ∧ dips.getD i ⟨0, 0, 0⟩ = d := by
  unfold keptL keptTo
  simp only [List.mem_map, List.mem_filter, List.mem_range, Bool.not_eq_true']
  constructor
  · rintro ⟨i, ⟨h1, h2⟩, h3⟩; exact ⟨i, h1, h2, h3⟩
  · rintro ⟨i, h1, h2, h3⟩; exact ⟨i, ⟨h1, h2⟩, h3⟩
/-- Whether the others agree if some are left out; what is left out at least. -/
def keptB (s : St) (c k : Nat → Int) (dips : List Dp) (out : List Int) : Bool := consB s c k (keptL dips out)
def leaveL (s : St) (c k : Nat → Int) (dips : List Dp) : List Int := (leaveO (keptB s c k dips) dips.length).getD []
def allL (n : Nat) : List Int := (List.range n).map fun i : Nat => (i : Int)
theorem allL_ups (n : Nat) : Ups n 0 (allL n) := by
  have key : ∀ k s : Nat, s + k ≤ n → Ups n s ((List.range' s k).map fun i : Nat => (i : Int)) := by
    intro k
    induction k with
    | zero => intro s _; exact trivial
    | succ k ih =>
      intro s h
      rw [List.range'_succ, List.map_cons]
      exact ⟨s, rfl, Nat.le_refl _, by omega, ih (s + 1) (by omega)⟩
  unfold allL
  rw [List.range_eq_range']
  exact key n 0 (by omega)
theorem cons_nil {s : St} {c k : Nat → Int} (hs : StOk s) : Cons s c k [] := ⟨_, _, worst_tr hs, fun i hi => rfl⟩
theorem kept_all {s : St} {c k : Nat → Int} {dips : List Dp} (hs : StOk s) : keptB s c k dips (allL dips.length) = true := by
  have : keptL dips (allL dips.length) = [] := by
    rw [List.eq_nil_iff_forall_not_mem]
    intro d hd
    obtain ⟨i, h1, h2, _⟩ := keptL_mem.1 hd
    have : (allL dips.length).contains (i : Int) = true := by
      rw [List.contains_iff_mem]
      exact List.mem_map.2 ⟨i, List.mem_range.2 h1, rfl⟩
    rw [this] at h2; cases h2
  unfold keptB
  rw [this]
  exact (consB_iff hs).2 (cons_nil hs)
/-- What it is: the dips without it agree; without any smaller one they don't. -/
theorem leaveL_spec {s : St} {c k : Nat → Int} {dips : List Dp} (hs : StOk s) : leaveO (keptB s c k dips) dips.length = some (leaveL s c k dips) ∧ Ups dips.length 0 (leaveL s c k dips) ∧ keptB s c k dips (leaveL s c k dips) = true ∧ ∀ x, Ups dips.length 0 x → lessB x (leaveL s c k dips) = true → keptB s c k dips x = false := by
  rcases leaveO_spec (keptB s c k dips) dips.length with ⟨_, h⟩ | ⟨L, h1, h2, h3, h4⟩
  · have := h _ (allL_ups _)
    rw [kept_all hs] at this; cases this
  · have : leaveL s c k dips = L := by unfold leaveL; rw [h1]; rfl
    rw [this]
    exact ⟨h1, h2, h3, h4⟩
end Go.Proofs.Ytefhdcecbmgljaa

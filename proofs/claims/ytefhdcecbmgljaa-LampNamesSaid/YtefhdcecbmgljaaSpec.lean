/-
  Lamps, plainly: what happens in a truth, what can be seen, what the worst truth is.
-/
import Derived.WalkKit
set_option linter.all false
namespace Go.Proofs.Ytefhdcecbmgljaa

/-- A night, a store, a dip. -/
structure Nt where
  h : Int
  a : Int
  b : Int
  lo : Int
  hi : Int
structure St where
  cap : Int
  can : Int
  sl : Int
  sh : Int
  ns : List Nt
structure Dp where
  n : Int
  lo : Int
  hi : Int

def inB (n lo hi : Int) : Bool := decide (lo ≤ n) && decide (n ≤ hi)
theorem inB_true {n lo hi : Int} : inB n lo hi = true ↔ lo ≤ n ∧ n ≤ hi := by simp [inB]
theorem inB_false {n lo hi : Int} : inB n lo hi = false ↔ n < lo ∨ hi < n := by
  cases h : inB n lo hi with
  | false => simp [inB] at h; simp; omega
  | true => rw [inB_true] at h; simp; omega

def atL (xs : List Int) (i : Nat) : Int := xs.getD i 0
def ntAt (s : St) (i : Nat) : Nt := s.ns.getD i ⟨0, 0, 0, 0, 0⟩
theorem atL_at {xs : List Int} {i : Nat} (h : i < xs.length) : atL xs i = xs[i] := by simp [atL, h]
theorem ntAt_at {s : St} {i : Nat} (h : i < s.ns.length) : ntAt s i = s.ns[i] := by simp [ntAt, h]

/-- What is left of some oil: after an evening, a night; whether it is lit. -/
def nowO (s : St) (c o : Int) : Int := min s.cap (o + c * s.can)
def needO (s : St) (i : Nat) (k b : Int) : Int := (ntAt s i).h * k * b
def leftO (s : St) (i : Nat) (c k b o : Int) : Int := if nowO s c o < needO s i k b then 0 else nowO s c o - needO s i k b
def litO (s : St) (i : Nat) (c k b o : Int) : Bool := decide (needO s i k b ≤ nowO s c o)

/-- The oil before a night (after all before it), in a truth. -/
def oilF (s : St) (c k b : Nat → Int) (t : Int) : Nat → Int
  | 0 => t
  | i + 1 => leftO s i (c i) (k i) (b i) (oilF s c k b t i)

def ntOk (n : Nt) : Bool := inB n.h 1 14 && (decide (1 ≤ n.a) && decide (n.a ≤ n.b) && decide (n.b ≤ 4)) && (decide (0 ≤ n.lo) && decide (n.lo ≤ n.hi) && decide (n.hi ≤ 10))
def faultS (s : St) : Int :=
  if 6 < s.ns.length then 3
  else if !(inB s.cap 1 400) || !(inB s.can 1 200) || !(decide (0 ≤ s.sl) && decide (s.sl ≤ s.sh) && decide (s.sh ≤ s.cap)) || decide (s.ns.length = 0) || !(s.ns.all ntOk) then 1 else 0

structure StOk (s : St) : Prop where
  c0 : 1 ≤ s.cap
  c1 : s.cap ≤ 400
  k0 : 1 ≤ s.can
  k1 : s.can ≤ 200
  s0 : 0 ≤ s.sl
  s1 : s.sl ≤ s.sh
  s2 : s.sh ≤ s.cap
  pos : 0 < s.ns.length
  len : s.ns.length ≤ 6
  nt : ∀ i, i < s.ns.length → 1 ≤ (ntAt s i).h ∧ (ntAt s i).h ≤ 14 ∧ 1 ≤ (ntAt s i).a ∧ (ntAt s i).a ≤ (ntAt s i).b ∧ (ntAt s i).b ≤ 4 ∧ 0 ≤ (ntAt s i).lo ∧ (ntAt s i).lo ≤ (ntAt s i).hi ∧ (ntAt s i).hi ≤ 10

theorem ntOk_true {n : Nt} : ntOk n = true ↔ 1 ≤ n.h ∧ n.h ≤ 14 ∧ 1 ≤ n.a ∧ n.a ≤ n.b ∧ n.b ≤ 4 ∧ 0 ≤ n.lo ∧ n.lo ≤ n.hi ∧ n.hi ≤ 10 := by
  unfold ntOk
  simp only [Bool.and_eq_true, inB_true, decide_eq_true_eq]
  constructor
  · rintro ⟨⟨⟨a, b⟩, ⟨c, d⟩, e⟩, ⟨f, g⟩, h⟩; exact ⟨a, b, c, d, e, f, g, h⟩
  · rintro ⟨a, b, c, d, e, f, g, h⟩; exact ⟨⟨⟨a, b⟩, ⟨c, d⟩, e⟩, ⟨f, g⟩, h⟩
theorem faultS_zero {s : St} : faultS s = 0 ↔ StOk s := by
  have hall : s.ns.all ntOk = true ↔ ∀ i, i < s.ns.length → ntOk (ntAt s i) = true := by
    rw [List.all_eq_true]
    constructor
    · intro h i hi; rw [ntAt_at hi]; exact h _ (List.getElem_mem hi)
    · intro h x hx
      obtain ⟨i, hi, rfl⟩ := List.mem_iff_getElem.1 hx
      rw [← ntAt_at hi]; exact h i hi
  unfold faultS
  constructor
  · intro h
    split at h
    · cases h
    · rename_i h6
      split at h
      · cases h
      · rename_i h1
        simp only [Bool.or_eq_true, Bool.not_eq_true', Bool.and_eq_false_iff, decide_eq_false_iff_not, decide_eq_true_eq, inB_false, not_or, Bool.not_eq_false] at h1
        obtain ⟨⟨⟨⟨a, b⟩, c⟩, d⟩, e⟩ := h1
        have hnt := fun i hi => ntOk_true.1 (hall.1 e i hi)
        exact ⟨by omega, by omega, by omega, by omega, by omega, by omega, by omega, by omega, by omega, hnt⟩
  · intro h
    have e := hall.2 fun i hi => ntOk_true.2 (h.nt i hi)
    rw [if_neg (by have := h.len; omega), if_neg]
    simp only [Bool.or_eq_true, Bool.not_eq_true', Bool.and_eq_false_iff, decide_eq_false_iff_not, decide_eq_true_eq, inB_false, not_or, Bool.not_eq_false]
    obtain ⟨h1, h2, h3, h4, h5, h6, h7, h8, h9, _⟩ := h
    exact ⟨⟨⟨⟨by omega, by omega⟩, by omega⟩, by omega⟩, e⟩
theorem faultS_cases (s : St) : faultS s = 0 ∨ faultS s = 1 ∨ faultS s = 3 := by
  unfold faultS
  split
  · simp
  · split <;> simp

def cansB (s : St) (l : List Int) : Bool := decide (l.length = s.ns.length) && l.all fun x => inB x 0 2
def wicksB (s : St) (l : List Int) : Bool := decide (l.length = s.ns.length) && (List.range l.length).all fun i => inB (atL l i) (ntAt s i).a (ntAt s i).b
def truthB (s : St) (t : Int) (bs : List Int) : Bool := decide (bs.length = s.ns.length) && inB t s.sl s.sh && (List.range bs.length).all fun i => inB (atL bs i) (ntAt s i).lo (ntAt s i).hi
def planL (s : St) (c k : List Int) : Int := if faultS s ≠ 0 then faultS s else if cansB s c && wicksB s k then 0 else 2
def dipB (s : St) (d : Dp) : Bool := inB d.n 0 ((s.ns.length : Int) - 1) && (decide (0 ≤ d.lo) && decide (d.lo ≤ d.hi) && decide (d.hi ≤ 400))
def dipsL (s : St) (dips : List Dp) : Int := if 6 < dips.length then 3 else if dips.all (dipB s) then 0 else 2
def dippedL (s : St) (c k : List Int) (dips : List Dp) : Int := if planL s c k ≠ 0 then planL s c k else dipsL s dips

theorem cansB_true {s : St} {l : List Int} : cansB s l = true ↔ l.length = s.ns.length ∧ ∀ i, i < s.ns.length → 0 ≤ atL l i ∧ atL l i ≤ 2 := by
  unfold cansB
  simp only [Bool.and_eq_true, decide_eq_true_eq, List.all_eq_true, inB_true]
  constructor
  · rintro ⟨h, h2⟩
    exact ⟨h, fun i hi => by rw [atL_at (by omega)]; exact h2 _ (List.getElem_mem _)⟩
  · rintro ⟨h, h2⟩
    refine ⟨h, fun x hx => ?_⟩
    obtain ⟨i, hi, rfl⟩ := List.mem_iff_getElem.1 hx
    rw [← atL_at hi]; exact h2 i (by omega)
theorem wicksB_true {s : St} {l : List Int} : wicksB s l = true ↔ l.length = s.ns.length ∧ ∀ i, i < s.ns.length → (ntAt s i).a ≤ atL l i ∧ atL l i ≤ (ntAt s i).b := by
  unfold wicksB
  simp only [Bool.and_eq_true, decide_eq_true_eq, List.all_eq_true, List.mem_range, inB_true]
  constructor
  · rintro ⟨h, h2⟩; exact ⟨h, fun i hi => h2 i (by omega)⟩
  · rintro ⟨h, h2⟩; exact ⟨h, fun i hi => h2 i (by omega)⟩

/-- A truth of a store: the oil at first, and what a wick burns in each night. -/
structure Tr (s : St) (t : Int) (b : Nat → Int) : Prop where
  t0 : s.sl ≤ t
  t1 : t ≤ s.sh
  bb : ∀ i, i < s.ns.length → (ntAt s i).lo ≤ b i ∧ b i ≤ (ntAt s i).hi
theorem truthB_true {s : St} {t : Int} {bs : List Int} : truthB s t bs = true ↔ bs.length = s.ns.length ∧ Tr s t (atL bs) := by
  unfold truthB
  simp only [Bool.and_eq_true, decide_eq_true_eq, List.all_eq_true, List.mem_range, inB_true]
  constructor
  · rintro ⟨⟨h, h1⟩, h2⟩; exact ⟨h, h1.1, h1.2, fun i hi => h2 i (by omega)⟩
  · rintro ⟨h, h1, h2, h3⟩; exact ⟨⟨h, h1, h2⟩, fun i hi => h3 i (by omega)⟩

/-- A plan of a store, in functions. -/
structure Pl (s : St) (c k : Nat → Int) : Prop where
  c : ∀ i, i < s.ns.length → 0 ≤ c i ∧ c i ≤ 2
  k : ∀ i, i < s.ns.length → (ntAt s i).a ≤ k i ∧ k i ≤ (ntAt s i).b

theorem planL_zero {s : St} {c k : List Int} : planL s c k = 0 ↔ StOk s ∧ c.length = s.ns.length ∧ k.length = s.ns.length ∧ Pl s (atL c) (atL k) := by
  unfold planL
  constructor
  · intro h
    split at h
    · exact absurd h ‹_›
    · rename_i h0
      split at h
      · rename_i h1
        simp only [Bool.and_eq_true, cansB_true, wicksB_true] at h1
        exact ⟨faultS_zero.1 (by simpa using h0), h1.1.1, h1.2.1, h1.1.2, h1.2.2⟩
      · cases h
  · rintro ⟨h0, h1, h2, h3, h4⟩
    rw [if_neg (by rw [faultS_zero.2 h0]; simp), if_pos]
    simp only [Bool.and_eq_true, cansB_true, wicksB_true]
    exact ⟨⟨h1, h3⟩, h2, h4⟩

section
variable {s : St} {c k c' k' b b' : Nat → Int} {t t' : Int}
theorem needO_nn (h : StOk s) {i : Nat} (hi : i < s.ns.length) {k b : Int} (hk : 0 ≤ k) (hb : 0 ≤ b) : 0 ≤ needO s i k b := by
  have := h.nt i hi
  exact Int.mul_nonneg (Int.mul_nonneg (by omega) hk) hb
theorem needO_le (h : StOk s) {i : Nat} (hi : i < s.ns.length) {k k' b b' : Int} (hk : 0 ≤ k) (hk' : k ≤ k') (hb : 0 ≤ b) (hb' : b ≤ b') : needO s i k b ≤ needO s i k' b' := by
  have := h.nt i hi
  have h1 : (ntAt s i).h * k ≤ (ntAt s i).h * k' := Int.mul_le_mul_of_nonneg_left hk' (by omega)
  exact Int.mul_le_mul h1 hb' hb (Int.mul_nonneg (by omega) (by omega))
theorem nowO_le (h : StOk s) {c c' o o' : Int} (hc : c ≤ c') (ho : o ≤ o') : nowO s c o ≤ nowO s c' o' := by
  have := h.k0
  have h1 : c * s.can ≤ c' * s.can := Int.mul_le_mul_of_nonneg_right hc (by omega)
  unfold nowO; omega
theorem nowO_bd (h : StOk s) {c o : Int} (hc : 0 ≤ c) (ho : 0 ≤ o) : 0 ≤ nowO s c o ∧ nowO s c o ≤ s.cap := by
  have := h.k0
  have := h.c0
  have h1 : 0 ≤ c * s.can := Int.mul_nonneg hc (by omega)
  unfold nowO; omega
theorem leftO_bd (h : StOk s) {i : Nat} (hi : i < s.ns.length) {c k b o : Int} (hc : 0 ≤ c) (hk : 0 ≤ k) (hb : 0 ≤ b) (ho : 0 ≤ o) : 0 ≤ leftO s i c k b o ∧ leftO s i c k b o ≤ s.cap := by
  have h1 := nowO_bd h hc ho
  have h2 := needO_nn h hi hk hb
  unfold leftO
  split <;> omega
theorem leftO_le (h : StOk s) {i : Nat} (hi : i < s.ns.length) {c c' k k' b b' o o' : Int} (hc : c ≤ c') (hk : 0 ≤ k') (hk' : k' ≤ k) (hb : 0 ≤ b') (hb' : b' ≤ b) (ho : o ≤ o') : leftO s i c k b o ≤ leftO s i c' k' b' o' := by
  have h1 := nowO_le h hc ho
  have h2 := needO_le h hi hk hk' hb hb'
  unfold leftO
  split <;> split <;> omega
theorem litO_le (h : StOk s) {i : Nat} (hi : i < s.ns.length) {c c' k k' b b' o o' : Int} (hc : c ≤ c') (hk : 0 ≤ k') (hk' : k' ≤ k) (hb : 0 ≤ b') (hb' : b' ≤ b) (ho : o ≤ o') (hl : litO s i c k b o = true) : litO s i c' k' b' o' = true := by
  have h1 := nowO_le h hc ho
  have h2 := needO_le h hi hk hk' hb hb'
  unfold litO at hl ⊢
  simp only [decide_eq_true_eq] at hl ⊢
  omega
theorem oilF_congr {i : Nat} (h : ∀ j, j < i → c j = c' j ∧ k j = k' j ∧ b j = b' j) : oilF s c k b t i = oilF s c' k' b' t i := by
  induction i with
  | zero => rfl
  | succ i ih =>
    obtain ⟨h1, h2, h3⟩ := h i (by omega)
    simp only [oilF, h1, h2, h3, ih fun j hj => h j (by omega)]
theorem oilF_le (h : StOk s) {i : Nat} (hi : i ≤ s.ns.length) (hcb : ∀ j, j < i → c j ≤ c' j ∧ 0 ≤ k' j ∧ k' j ≤ k j ∧ 0 ≤ b' j ∧ b' j ≤ b j) (ht : t ≤ t') : oilF s c k b t i ≤ oilF s c' k' b' t' i := by
  induction i with
  | zero => exact ht
  | succ i ih =>
    obtain ⟨h1, h2, h3, h4, h5⟩ := hcb i (by omega)
    exact leftO_le h (by omega) h1 h2 h3 h4 h5 (ih (by omega) fun j hj => hcb j (by omega))
theorem Pl.nn (h : StOk s) (hp : Pl s c k) {i : Nat} (hi : i < s.ns.length) : 0 ≤ c i ∧ c i ≤ 2 ∧ 1 ≤ k i ∧ k i ≤ 4 := by
  have h1 := h.nt i hi
  have h2 := hp.c i hi
  have h3 := hp.k i hi
  omega
theorem Tr.nn (h : StOk s) (ht : Tr s t b) {i : Nat} (hi : i < s.ns.length) : 0 ≤ b i ∧ b i ≤ 10 := by
  have h1 := h.nt i hi
  have h2 := ht.bb i hi
  omega
theorem oilF_bd (h : StOk s) (hp : Pl s c k) (ht : Tr s t b) {i : Nat} (hi : i ≤ s.ns.length) : 0 ≤ oilF s c k b t i ∧ oilF s c k b t i ≤ s.cap := by
  induction i with
  | zero =>
    have h1 := h.s0
    have h2 := h.s2
    have h3 := ht.t0
    have h4 := ht.t1
    simp only [oilF]; omega
  | succ i ih =>
    have h1 := hp.nn h (show i < _ by omega)
    have h2 := ht.nn h (show i < _ by omega)
    exact leftO_bd h (by omega) (by omega) (by omega) (by omega) (ih (by omega)).1
end

/-- Dips. -/
def agN (dips : List Dp) (i : Nat) (o : Int) : Bool := dips.all fun d => !(decide (d.n = (i : Int))) || inB o d.lo d.hi
def Ag (s : St) (c k : Nat → Int) (dips : List Dp) (t : Int) (b : Nat → Int) : Prop := ∀ i, i < s.ns.length → agN dips i (oilF s c k b t (i + 1)) = true
/-- The dips do not contradict each other. -/
def Cons (s : St) (c k : Nat → Int) (dips : List Dp) : Prop := ∃ t b, Tr s t b ∧ Ag s c k dips t b

/-- The oil that there can be before a night; that which can go on. -/
def Fw (s : St) (c k : Nat → Int) (dips : List Dp) : Nat → Int → Prop
  | 0, o => s.sl ≤ o ∧ o ≤ s.sh
  | i + 1, o' => agN dips i o' = true ∧ ∃ o b, Fw s c k dips i o ∧ (ntAt s i).lo ≤ b ∧ b ≤ (ntAt s i).hi ∧ o' = leftO s i (c i) (k i) b o
def Bw (s : St) (c k : Nat → Int) (dips : List Dp) : Nat → Nat → Int → Prop
  | 0, _, _ => True
  | r + 1, j, o => ∃ b, (ntAt s j).lo ≤ b ∧ b ≤ (ntAt s j).hi ∧ agN dips j (leftO s j (c j) (k j) b o) = true ∧ Bw s c k dips r (j + 1) (leftO s j (c j) (k j) b o)

section
variable {s : St} {c k : Nat → Int} {dips : List Dp}
theorem fw_iff {j : Nat} {o : Int} (hj : j ≤ s.ns.length) : Fw s c k dips j o ↔ ∃ t b, s.sl ≤ t ∧ t ≤ s.sh ∧ (∀ i, i < j → (ntAt s i).lo ≤ b i ∧ b i ≤ (ntAt s i).hi) ∧ (∀ i, i < j → agN dips i (oilF s c k b t (i + 1)) = true) ∧ oilF s c k b t j = o := by
  induction j generalizing o with
  | zero =>
    constructor
    · rintro ⟨h1, h2⟩; exact ⟨o, fun _ => 0, h1, h2, fun i hi => by omega, fun i hi => by omega, rfl⟩
    · rintro ⟨t, b, h1, h2, _, _, rfl⟩; exact ⟨h1, h2⟩
  | succ j ih =>
    constructor
    · rintro ⟨ha, o1, b1, hf, h1, h2, rfl⟩
      obtain ⟨t, b, t0, t1, hb, hag, rfl⟩ := (ih (by omega)).1 hf
      have hc : ∀ i, i ≤ j → oilF s c k (fun i => if i = j then b1 else b i) t i = oilF s c k b t i := fun i hi => oilF_congr fun m hm => ⟨rfl, rfl, if_neg (by omega)⟩
      have hl : oilF s c k (fun i => if i = j then b1 else b i) t (j + 1) = leftO s j (c j) (k j) b1 (oilF s c k b t j) := by
        simp only [oilF]; rw [hc j (Nat.le_refl _)]; simp
      refine ⟨t, fun i => if i = j then b1 else b i, t0, t1, fun i hi => ?_, fun i hi => ?_, hl⟩
      · show (ntAt s i).lo ≤ (if i = j then b1 else b i) ∧ (if i = j then b1 else b i) ≤ (ntAt s i).hi
        split
        · rename_i e; rw [e]; exact ⟨h1, h2⟩
        · exact hb i (by omega)
      · by_cases e : i = j
        · subst e; rw [hl]; exact ha
        · rw [hc (i + 1) (by omega)]; exact hag i (by omega)
    · rintro ⟨t, b, t0, t1, hb, hag, rfl⟩
      exact ⟨hag j (by omega), oilF s c k b t j, b j, (ih (by omega)).2 ⟨t, b, t0, t1, fun i hi => hb i (by omega), fun i hi => hag i (by omega), rfl⟩, (hb j (by omega)).1, (hb j (by omega)).2, rfl⟩
theorem bw_iff {r j : Nat} {o : Int} (hj : j + r = s.ns.length) : Bw s c k dips r j o ↔ ∃ b g : Nat → Int, g j = o ∧ ∀ i, j ≤ i → i < s.ns.length → (ntAt s i).lo ≤ b i ∧ b i ≤ (ntAt s i).hi ∧ g (i + 1) = leftO s i (c i) (k i) (b i) (g i) ∧ agN dips i (g (i + 1)) = true := by
  induction r generalizing j o with
  | zero => exact ⟨fun _ => ⟨fun _ => 0, fun _ => o, rfl, fun i h1 h2 => absurd h2 (by omega)⟩, fun _ => trivial⟩
  | succ r ih =>
    constructor
    · rintro ⟨b1, h1, h2, ha, hb⟩
      obtain ⟨b, g, hg, h⟩ := (ih (by omega)).1 hb
      refine ⟨fun i => if i = j then b1 else b i, fun i => if i = j then o else g i, by simp, fun i hi hn => ?_⟩
      by_cases e : i = j
      · subst e
        simp only [if_true, if_neg (show ¬ i + 1 = i by omega), hg]
        exact ⟨h1, h2, by simp, ha⟩
      · simp only [if_neg e, if_neg (show ¬ i + 1 = j by omega)]
        exact h i (by omega) hn
    · rintro ⟨b, g, rfl, h⟩
      obtain ⟨h1, h2, h3, h4⟩ := h j (Nat.le_refl _) (by omega)
      rw [h3] at h4
      exact ⟨b j, h1, h2, h4, (ih (by omega)).2 ⟨b, g, h3, fun i hi hn => h i (by omega) hn⟩⟩
theorem lev_iff {j : Nat} {o : Int} (hj : j ≤ s.ns.length) : (Fw s c k dips j o ∧ Bw s c k dips (s.ns.length - j) j o) ↔ ∃ t b, Tr s t b ∧ Ag s c k dips t b ∧ oilF s c k b t j = o := by
  rw [fw_iff hj, bw_iff (by omega)]
  constructor
  · rintro ⟨⟨t, b, t0, t1, hb, hag, ho⟩, b2, g, hg, h⟩
    have hlow : ∀ i, i ≤ j → oilF s c k (fun i => if i < j then b i else b2 i) t i = oilF s c k b t i := fun i hi => oilF_congr fun m hm => ⟨rfl, rfl, if_pos (by omega)⟩
    have hup : ∀ d, j + d ≤ s.ns.length → oilF s c k (fun i => if i < j then b i else b2 i) t (j + d) = g (j + d) := by
      intro d
      induction d with
      | zero => intro _; rw [Nat.add_zero, hlow j (Nat.le_refl _), ho, hg]
      | succ d ih =>
        intro hd
        have := (h (j + d) (by omega) (by omega)).2.2.1
        rw [show j + (d + 1) = j + d + 1 by omega, this]
        simp only [oilF]
        rw [ih (by omega), if_neg (by omega)]
    refine ⟨t, fun i => if i < j then b i else b2 i, ⟨t0, t1, fun i hi => ?_⟩, fun i hi => ?_, by rw [hlow j (Nat.le_refl _), ho]⟩
    · show (ntAt s i).lo ≤ (if i < j then b i else b2 i) ∧ (if i < j then b i else b2 i) ≤ (ntAt s i).hi
      split
      · exact hb i ‹_›
      · exact ⟨(h i (by omega) hi).1, (h i (by omega) hi).2.1⟩
    · by_cases e : i < j
      · rw [hlow (i + 1) (by omega)]; exact hag i e
      · have := hup (i + 1 - j) (by omega)
        rw [show j + (i + 1 - j) = i + 1 by omega] at this
        rw [this]; exact (h i (by omega) hi).2.2.2
  · rintro ⟨t, b, ht, hag, rfl⟩
    exact ⟨⟨t, b, ht.t0, ht.t1, fun i hi => ht.bb i (by omega), fun i hi => hag i (by omega), rfl⟩, b, oilF s c k b t, rfl, fun i _ hi => ⟨(ht.bb i hi).1, (ht.bb i hi).2, rfl, hag i hi⟩⟩
theorem fw_cons : (∃ o, Fw s c k dips s.ns.length o) ↔ Cons s c k dips := by
  constructor
  · rintro ⟨o, h⟩
    obtain ⟨t, b, h1, h2, _⟩ := (lev_iff (Nat.le_refl _)).1 ⟨h, by rw [Nat.sub_self]; exact trivial⟩
    exact ⟨t, b, h1, h2⟩
  · rintro ⟨t, b, h1, h2⟩
    exact ⟨_, ((lev_iff (Nat.le_refl _)).2 ⟨t, b, h1, h2, rfl⟩).1⟩
theorem fw_up {j m : Nat} (hjm : j ≤ m) (h : ∃ o, Fw s c k dips m o) : ∃ o, Fw s c k dips j o := by
  induction m with
  | zero => obtain rfl : j = 0 := by omega
            exact h
  | succ m ih =>
    by_cases e : j = m + 1
    · rw [e]; exact h
    · obtain ⟨o, _, o1, b, hf, _⟩ := h
      exact ih (by omega) ⟨o1, hf⟩
theorem fw_bd (h : StOk s) (hp : Pl s c k) {j : Nat} {o : Int} (hj : j ≤ s.ns.length) (hf : Fw s c k dips j o) : 0 ≤ o ∧ o ≤ s.cap := by
  induction j generalizing o with
  | zero => obtain ⟨h1, h2⟩ := hf
            have := h.s0
            have := h.s2
            omega
  | succ j ih =>
    obtain ⟨_, o1, b, h1, h2, h3, rfl⟩ := hf
    have a1 := ih (by omega) h1
    have a2 := hp.nn h (show j < _ by omega)
    have a3 := h.nt j (by omega)
    exact leftO_bd h (by omega) (by omega) (by omega) (by omega) (by omega)
end

/-- The ranges of the oil after each night. -/
structure IsRng (s : St) (c k : Nat → Int) (dips : List Dp) (L H : Nat → Int) : Prop where
  lo : ∀ i, i < s.ns.length → ∃ t b, Tr s t b ∧ Ag s c k dips t b ∧ oilF s c k b t (i + 1) = L i
  hi : ∀ i, i < s.ns.length → ∃ t b, Tr s t b ∧ Ag s c k dips t b ∧ oilF s c k b t (i + 1) = H i
  all : ∀ i, i < s.ns.length → ∀ t b, Tr s t b → Ag s c k dips t b → L i ≤ oilF s c k b t (i + 1) ∧ oilF s c k b t (i + 1) ≤ H i
theorem IsRng.unique {s : St} {c k : Nat → Int} {dips : List Dp} {lo hi lo' hi' : Nat → Int} (h : IsRng s c k dips lo hi) (g : IsRng s c k dips lo' hi') {i : Nat} (hn : i < s.ns.length) : lo i = lo' i ∧ hi i = hi' i := by
  obtain ⟨t1, b1, a1, a2, a3⟩ := h.lo i hn
  obtain ⟨t2, b2, a4, a5, a6⟩ := h.hi i hn
  obtain ⟨t3, b3, a7, a8, a9⟩ := g.lo i hn
  obtain ⟨t4, b4, b5, b6, b7⟩ := g.hi i hn
  have c1 := g.all i hn t1 b1 a1 a2
  have c2 := g.all i hn t2 b2 a4 a5
  have c3 := h.all i hn t3 b3 a7 a8
  have c4 := h.all i hn t4 b4 b5 b6
  omega

/-- The worst truth; the nights that can become dark. -/
def wOil (s : St) (c k : Nat → Int) (i : Nat) : Int := oilF s c k (fun i => (ntAt s i).hi) s.sl i
def wLit (s : St) (c k : Nat → Int) (i : Nat) : Bool := litO s i (c i) (k i) (ntAt s i).hi (wOil s c k i)
def darkTo (s : St) (c k : Nat → Int) (m : Nat) : List Int := ((List.range m).filter fun i => !wLit s c k i).map fun i : Nat => (i : Int)
def darkL (s : St) (c k : Nat → Int) : List Int := darkTo s c k s.ns.length
theorem darkTo_succ (s : St) (c k : Nat → Int) (m : Nat) : darkTo s c k (m + 1) = if wLit s c k m then darkTo s c k m else darkTo s c k m ++ [(m : Int)] := by
  unfold darkTo
  rw [List.range_succ, List.filter_append, List.map_append]
  cases h : wLit s c k m with
  | true => simp [h]
  | false => simp [h]
theorem worst_tr {s : St} (h : StOk s) : Tr s s.sl (fun i => (ntAt s i).hi) := ⟨Int.le_refl _, h.s1, fun i hi => by have := h.nt i hi; omega⟩
theorem worst_le {s : St} {c k b : Nat → Int} {t : Int} (h : StOk s) (hp : Pl s c k) (ht : Tr s t b) {i : Nat} (hi : i ≤ s.ns.length) : wOil s c k i ≤ oilF s c k b t i :=
  oilF_le h hi (fun j hj => by have h1 := hp.nn h (show j < _ by omega); have h2 := ht.nn h (show j < _ by omega); have h3 := ht.bb j (by omega); omega) ht.t0
theorem wLit_iff {s : St} {c k : Nat → Int} (h : StOk s) (hp : Pl s c k) {i : Nat} (hi : i < s.ns.length) : wLit s c k i = true ↔ ∀ t b, Tr s t b → litO s i (c i) (k i) (b i) (oilF s c k b t i) = true := by
  constructor
  · intro hl t b ht
    have h1 := hp.nn h hi
    have h2 := ht.nn h hi
    have h3 := ht.bb i hi
    exact litO_le h hi (Int.le_refl _) (by omega) (Int.le_refl _) (by omega) (by omega) (worst_le h hp ht (by omega)) hl
  · intro hl; exact hl _ _ (worst_tr h)
theorem darkL_mem {s : St} {c k : Nat → Int} {x : Int} : x ∈ darkL s c k ↔ ∃ i : Nat, x = i ∧ i < s.ns.length ∧ wLit s c k i = false := by
  unfold darkL darkTo
  simp only [List.mem_map, List.mem_filter, List.mem_range, Bool.not_eq_true']
  constructor
  · rintro ⟨i, ⟨h1, h2⟩, rfl⟩; exact ⟨i, rfl, h1, h2⟩
  · rintro ⟨i, rfl, h1, h2⟩; exact ⟨i, ⟨h1, h2⟩, rfl⟩
def safeB (s : St) (c k : Nat → Int) : Bool := (List.range s.ns.length).all fun i => wLit s c k i
theorem dark_nil {s : St} {c k : Nat → Int} : darkL s c k = [] ↔ safeB s c k = true := by
  unfold safeB
  rw [List.eq_nil_iff_forall_not_mem, List.all_eq_true]
  constructor
  · intro h i hi
    cases e : wLit s c k i with
    | true => rfl
    | false => exact absurd (darkL_mem.2 ⟨i, rfl, List.mem_range.1 hi, e⟩) (h _)
  · intro h x hx
    obtain ⟨i, rfl, h1, h2⟩ := darkL_mem.1 hx
    rw [h i (List.mem_range.2 h1)] at h2; cases h2
end Go.Proofs.Ytefhdcecbmgljaa

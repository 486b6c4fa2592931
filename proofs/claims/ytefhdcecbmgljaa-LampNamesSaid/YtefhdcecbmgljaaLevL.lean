/-
  The oil that there can be after each night, as rows of booleans.
-/
import Derived.Test.YtefhdcecbmgljaaSpec
set_option linter.all false
namespace Go.Proofs.Ytefhdcecbmgljaa

/-- The oil after a night, for what a wick can burn. -/
def nightL (s : St) (i : Nat) (c k o : Int) (m : Nat) : List Int := (List.range m).map fun j : Nat => leftO s i c k ((ntAt s i).lo + (j : Int)) o
theorem nightL_succ (s : St) (i : Nat) (c k o : Int) (m : Nat) : nightL s i c k o (m + 1) = nightL s i c k o m ++ [leftO s i c k ((ntAt s i).lo + (m : Int)) o] := by simp [nightL, List.range_succ]
theorem nightL_len (s : St) (i : Nat) (c k o : Int) (m : Nat) : (nightL s i c k o m).length = m := by simp [nightL]
/-- So many numbers a wick can burn. -/
def burnsN (s : St) (i : Nat) : Nat := ((ntAt s i).hi - (ntAt s i).lo + 1).toNat
theorem nightL_mem {s : St} {i : Nat} {c k o x : Int} (h : (ntAt s i).lo ≤ (ntAt s i).hi) : x ∈ nightL s i c k o (burnsN s i) ↔ ∃ b, (ntAt s i).lo ≤ b ∧ b ≤ (ntAt s i).hi ∧ leftO s i c k b o = x := by
  unfold nightL burnsN
  simp only [List.mem_map, List.mem_range]
  constructor
  · rintro ⟨j, hj, rfl⟩; exact ⟨_, by omega, by omega, rfl⟩
  · rintro ⟨b, h1, h2, rfl⟩
    exact ⟨(b - (ntAt s i).lo).toNat, by omega, by rw [show (ntAt s i).lo + (((b - (ntAt s i).lo).toNat : Nat) : Int) = b by omega]⟩
/-- All of them. -/
def nightF (s : St) (c k : Nat → Int) (i : Nat) (o : Int) : List Int := nightL s i (c i) (k i) o (burnsN s i)
theorem nightF_bd {s : St} {c k : Nat → Int} (h : StOk s) (hp : Pl s c k) {i : Nat} (hi : i < s.ns.length) {o x : Int} (ho : 0 ≤ o) (hx : x ∈ nightF s c k i o) : 0 ≤ x ∧ x ≤ 400 := by
  have h1 := h.nt i hi
  have h2 := hp.nn h hi
  obtain ⟨b, b1, b2, rfl⟩ := (nightL_mem (by omega)).1 hx
  have := leftO_bd h hi (c := c i) (k := k i) (b := b) (o := o) (by omega) (by omega) (by omega) ho
  have := h.c1
  omega

/-- A row says just which oil there can be. -/
def IsRow (P : Int → Prop) (f : Nat → Bool) : Prop := ∀ x : Nat, x < 401 → (f x = true ↔ P (x : Int))
/-- What can be after a night, by what can be before it, up to some oil, and by the first numbers of this. -/
def stepP (s : St) (c k : Nat → Int) (dips : List Dp) (i : Nat) (f : Nat → Bool) (oil : Nat) (l : List Int) (x : Int) : Prop :=
  agN dips i x = true ∧ ((∃ o : Nat, o < oil ∧ f o = true ∧ x ∈ nightF s c k i o) ∨ x ∈ l)
theorem step_start (s : St) (c k : Nat → Int) (dips : List Dp) (i : Nat) (f : Nat → Bool) : IsRow (stepP s c k dips i f 0 []) (fun _ => false) := by
  intro x _
  constructor
  · intro h; cases h
  · rintro ⟨_, ⟨o, h, _⟩ | h⟩
    · omega
    · cases h
theorem step_skip {s : St} {c k : Nat → Int} {dips : List Dp} {i : Nat} {f g : Nat → Bool} {oil : Nat} (h : IsRow (stepP s c k dips i f oil []) g) (hf : f oil = false) : IsRow (stepP s c k dips i f (oil + 1) []) g := by
  intro x hx
  rw [h x hx]
  constructor
  · rintro ⟨h1, ⟨o, h2, h3⟩ | h2⟩
    · exact ⟨h1, .inl ⟨o, by omega, h3⟩⟩
    · cases h2
  · rintro ⟨h1, ⟨o, h2, h3, h4⟩ | h2⟩
    · by_cases e : o = oil
      · subst e; rw [hf] at h3; cases h3
      · exact ⟨h1, .inl ⟨o, by omega, h3, h4⟩⟩
    · cases h2
theorem step_done {s : St} {c k : Nat → Int} {dips : List Dp} {i : Nat} {f g : Nat → Bool} {oil : Nat} (h : IsRow (stepP s c k dips i f oil (nightF s c k i oil)) g) (hf : f oil = true) : IsRow (stepP s c k dips i f (oil + 1) []) g := by
  intro x hx
  rw [h x hx]
  constructor
  · rintro ⟨h1, ⟨o, h2, h3⟩ | h2⟩
    · exact ⟨h1, .inl ⟨o, by omega, h3⟩⟩
    · exact ⟨h1, .inl ⟨oil, by omega, hf, h2⟩⟩
  · rintro ⟨h1, ⟨o, h2, h3, h4⟩ | h2⟩
    · by_cases e : o = oil
      · subst e; exact ⟨h1, .inr h4⟩
      · exact ⟨h1, .inl ⟨o, by omega, h3, h4⟩⟩
    · cases h2
/-- One cell of a row turned. -/
def setF (g : Nat → Bool) (x : Nat) (v : Bool) : Nat → Bool := fun y => if y = x then v else g y
theorem step_one {s : St} {c k : Nat → Int} {dips : List Dp} {i : Nat} {f g : Nat → Bool} {oil : Nat} {l : List Int} {y : Nat} (h : IsRow (stepP s c k dips i f oil l) g) (hy : y < 401) : IsRow (stepP s c k dips i f oil (l ++ [(y : Int)])) (setF g y (g y || agN dips i y)) := by
  intro x hx
  unfold setF
  split
  · rename_i e
    subst e
    rw [Bool.or_eq_true, h x hx]
    constructor
    · rintro (⟨h1, h2⟩ | h1)
      · exact ⟨h1, h2.imp id fun h => List.mem_append.2 (.inl h)⟩
      · exact ⟨h1, .inr (by simp)⟩
    · rintro ⟨h1, _⟩; exact .inr h1
  · rename_i e
    rw [h x hx]
    constructor
    · rintro ⟨h1, h2⟩; exact ⟨h1, h2.imp id fun h => List.mem_append.2 (.inl h)⟩
    · rintro ⟨h1, h2⟩
      refine ⟨h1, h2.imp id fun h => ?_⟩
      rcases List.mem_append.1 h with h | h
      · exact h
      · rw [List.mem_singleton] at h; exact absurd (Int.ofNat_inj.1 h) e
theorem step_all {s : St} {c k : Nat → Int} {dips : List Dp} {i : Nat} {f g : Nat → Bool} (hs : StOk s) (hp : Pl s c k) (hi : i < s.ns.length) (hf : IsRow (Fw s c k dips i) f) (h : IsRow (stepP s c k dips i f 401 []) g) : IsRow (Fw s c k dips (i + 1)) g := by
  intro x hx
  have hn := hs.nt i hi
  rw [h x hx]
  constructor
  · rintro ⟨h1, ⟨o, h2, h3, h4⟩ | h2⟩
    · obtain ⟨b, b1, b2, hb⟩ := (nightL_mem (by omega)).1 h4
      exact ⟨h1, o, b, (hf o h2).1 h3, b1, b2, hb.symm⟩
    · cases h2
  · rintro ⟨h1, o, b, h2, b1, b2, hb⟩
    have hbd := fw_bd hs hp (by omega) h2
    have := hs.c1
    obtain ⟨n, rfl⟩ := Int.eq_ofNat_of_zero_le hbd.1
    exact ⟨h1, .inl ⟨n, by omega, (hf n (by omega)).2 h2, (nightL_mem (by omega)).2 ⟨b, b1, b2, hb.symm⟩⟩⟩
theorem lv0_row {s : St} {c k : Nat → Int} {dips : List Dp} : IsRow (Fw s c k dips 0) (fun o => decide (s.sl ≤ (o : Int)) && decide ((o : Int) ≤ s.sh)) := by
  intro x _
  simp [Fw]
theorem row_none {s : St} {c k : Nat → Int} {dips : List Dp} {i : Nat} {f : Nat → Bool} (hs : StOk s) (hp : Pl s c k) (hi : i ≤ s.ns.length) (hf : IsRow (Fw s c k dips i) f) : (∀ x, x < 401 → f x = false) ↔ ¬ ∃ o, Fw s c k dips i o := by
  constructor
  · rintro h ⟨o, ho⟩
    have hbd := fw_bd hs hp hi ho
    have := hs.c1
    obtain ⟨n, rfl⟩ := Int.eq_ofNat_of_zero_le hbd.1
    have := (hf n (by omega)).2 ho
    rw [h n (by omega)] at this; cases this
  · intro h x hx
    cases e : f x with
    | false => rfl
    | true => exact absurd ⟨_, (hf x hx).1 e⟩ h
/-- What can go on, too. -/
def FB (s : St) (c k : Nat → Int) (dips : List Dp) (j : Nat) (o : Int) : Prop := Fw s c k dips (j + 1) o ∧ Bw s c k dips (s.ns.length - (j + 1)) (j + 1) o
theorem fb_last {s : St} {c k : Nat → Int} {dips : List Dp} {j : Nat} (hj : j + 1 = s.ns.length) {f : Nat → Bool} (hf : IsRow (Fw s c k dips (j + 1)) f) : IsRow (FB s c k dips j) f := by
  intro x hx
  rw [hf x hx]
  unfold FB
  rw [show s.ns.length - (j + 1) = 0 by omega]
  exact ⟨fun h => ⟨h, trivial⟩, fun h => h.1⟩
theorem fb_back {s : St} {c k : Nat → Int} {dips : List Dp} {j : Nat} (hs : StOk s) (hp : Pl s c k) (hj : j + 1 < s.ns.length) {f g : Nat → Bool} (hf : IsRow (Fw s c k dips (j + 1)) f) (hg : IsRow (FB s c k dips (j + 1)) g) :
    IsRow (FB s c k dips j) (fun x => f x && (nightF s c k (j + 1) x).any fun y => g y.toNat) := by
  intro x hx
  have hn := hs.nt (j + 1) hj
  rw [Bool.and_eq_true, hf x hx, List.any_eq_true]
  unfold FB
  rw [show s.ns.length - (j + 1) = s.ns.length - (j + 1 + 1) + 1 by omega]
  constructor
  · rintro ⟨h1, y, h2, h3⟩
    have hbd := nightF_bd hs hp hj (Int.natCast_nonneg x) h2
    obtain ⟨n, rfl⟩ := Int.eq_ofNat_of_zero_le hbd.1
    obtain ⟨⟨h4, _⟩, h5⟩ := (hg n (by omega)).1 (by simpa using h3)
    obtain ⟨b, b1, b2, hb⟩ := (nightL_mem (by omega)).1 h2
    refine ⟨h1, b, b1, b2, ?_, ?_⟩
    · rw [hb]; exact h4
    · rw [hb]; exact h5
  · rintro ⟨h1, b, b1, b2, h2, h3⟩
    have hm : leftO s (j + 1) (c (j + 1)) (k (j + 1)) b x ∈ nightF s c k (j + 1) x := (nightL_mem (by omega)).2 ⟨b, b1, b2, rfl⟩
    have hbd := nightF_bd hs hp hj (Int.natCast_nonneg x) hm
    refine ⟨h1, _, hm, ?_⟩
    generalize hy : leftO s (j + 1) (c (j + 1)) (k (j + 1)) b x = y at *
    obtain ⟨n, rfl⟩ := Int.eq_ofNat_of_zero_le hbd.1
    exact (hg n (by omega)).2 ⟨⟨h2, x, b, h1, b1, b2, hy.symm⟩, by simpa using h3⟩

/-- The first and the last of a row. -/
def firstB (f : Nat → Bool) : Nat → Nat → Option Nat
  | _, 0 => none
  | m, r + 1 => if f m then some m else firstB f (m + 1) r
theorem firstB_some {f : Nat → Bool} {m r j : Nat} (h0 : m ≤ j) (hj : j < m + r) (hf : f j = true) (h : ∀ i, m ≤ i → i < j → f i = false) : firstB f m r = some j := by
  induction r generalizing m with
  | zero => omega
  | succ r ih =>
    simp only [firstB]
    by_cases e : m = j
    · subst e; rw [if_pos hf]
    · rw [if_neg (by rw [h m (Nat.le_refl _) (by omega)]; simp)]
      exact ih (by omega) (by omega) (fun i h1 h2 => h i (by omega) h2)
/-- The ends of a row. -/
structure EndsOf (f : Nat → Bool) (lo hi : Nat) : Prop where
  l0 : lo ≤ hi
  h1 : hi < 401
  fl : f lo = true
  fh : f hi = true
  below : ∀ i, i < lo → f i = false
  above : ∀ i, hi < i → i < 401 → f i = false
theorem ends_rng {s : St} {c k : Nat → Int} {dips : List Dp} (hs : StOk s) (hp : Pl s c k) {f : Nat → Nat → Bool} {L H : Nat → Nat} (hf : ∀ j, j < s.ns.length → IsRow (FB s c k dips j) (f j)) (he : ∀ j, j < s.ns.length → EndsOf (f j) (L j) (H j)) : IsRng s c k dips (fun j => L j) (fun j => H j) := by
  refine ⟨fun i hi => ?_, fun i hi => ?_, fun i hi t b ht ha => ?_⟩
  · have e := he i hi
    have h1 := (hf i hi _ (Nat.lt_of_le_of_lt e.l0 e.h1)).1 e.fl
    exact (lev_iff (by omega)).1 h1
  · have e := he i hi
    have h1 := (hf i hi _ e.h1).1 e.fh
    exact (lev_iff (by omega)).1 h1
  · have e := he i hi
    have h1 := (lev_iff (s := s) (c := c) (k := k) (dips := dips) (j := i + 1) (by omega)).2 ⟨t, b, ht, ha, rfl⟩
    have hbd := oilF_bd hs hp ht (i := i + 1) (by omega)
    have := hs.c1
    generalize oilF s c k b t (i + 1) = o at *
    obtain ⟨n, rfl⟩ := Int.eq_ofNat_of_zero_le hbd.1
    have h2 := (hf i hi n (by omega)).2 h1
    constructor
    · have : ¬ n < L i := fun h => by rw [e.below n h] at h2; cases h2
      show (L i : Int) ≤ _; omega
    · have : ¬ H i < n := fun h => by rw [e.above n h (by omega)] at h2; cases h2
      show _ ≤ (H i : Int); omega
theorem row_ends {f : Nat → Bool} (h : ∃ x, x < 401 ∧ f x = true) : ∃ lo hi, EndsOf f lo hi := by
  have hlo : ∀ n x, x ≤ n → f x = true → ∃ lo, lo ≤ x ∧ f lo = true ∧ ∀ i, i < lo → f i = false := by
    intro n
    induction n with
    | zero => intro x hx hf; exact ⟨x, Nat.le_refl _, hf, fun i hi => by omega⟩
    | succ n ih =>
      intro x hx hf
      by_cases e : ∃ y, y < x ∧ f y = true
      · obtain ⟨y, hy, hfy⟩ := e
        obtain ⟨lo, h1, h2⟩ := ih y (by omega) hfy
        exact ⟨lo, by omega, h2⟩
      · exact ⟨x, Nat.le_refl _, hf, fun i hi => by
          cases e2 : f i with
          | false => rfl
          | true => exact absurd ⟨i, hi, e2⟩ e⟩
  have hhi : ∀ n x, x < 401 → 401 - x ≤ n → f x = true → ∃ hi, x ≤ hi ∧ hi < 401 ∧ f hi = true ∧ ∀ i, hi < i → i < 401 → f i = false := by
    intro n
    induction n with
    | zero => intro x hx h1 hf; omega
    | succ n ih =>
      intro x hx h1 hf
      by_cases e : ∃ y, x < y ∧ y < 401 ∧ f y = true
      · obtain ⟨y, hy, hy1, hfy⟩ := e
        obtain ⟨hi, g1, g2, g3⟩ := ih y hy1 (by omega) hfy
        exact ⟨hi, by omega, g2, g3⟩
      · exact ⟨x, Nat.le_refl _, hx, hf, fun i hi h2 => by
          cases e2 : f i with
          | false => rfl
          | true => exact absurd ⟨i, hi, h2, e2⟩ e⟩
  obtain ⟨x, hx, hf⟩ := h
  obtain ⟨lo, a1, a2, a3⟩ := hlo x x (Nat.le_refl _) hf
  obtain ⟨hi, b1, b2, b3, b4⟩ := hhi 401 x hx (by omega) hf
  exact ⟨lo, hi, by omega, b2, a2, b3, a3, b4⟩
end Go.Proofs.Ytefhdcecbmgljaa

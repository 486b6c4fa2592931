/-
  Lamps, plainly: more oil, more cans, fewer wicks; one more dip; the ends; what can be left out.
-/
import Derived.Test.YtefhdcecbmgljaaLeaveQ
set_option linter.all false
namespace Go.Proofs.Ytefhdcecbmgljaa

def reS (s : St) (sl sh : Int) : St := ⟨s.cap, s.can, sl, sh, s.ns⟩
structure MoreP (s : St) (c k : Nat → Int) (sl sh : Int) (c' k' : Nat → Int) : Prop where
  sl : s.sl ≤ sl
  sh : s.sh ≤ sh
  ck : ∀ i, i < s.ns.length → c i ≤ c' i ∧ k' i ≤ k i
theorem oilF_re (s : St) (sl sh : Int) (c k b : Nat → Int) (t : Int) (i : Nat) : oilF (reS s sl sh) c k b t i = oilF s c k b t i := by
  induction i with
  | zero => rfl
  | succ i ih => show leftO (reS s sl sh) i (c i) (k i) (b i) (oilF (reS s sl sh) c k b t i) = _; rw [ih]; rfl
theorem ag_nil (s : St) (c k : Nat → Int) (t : Int) (b : Nat → Int) : Ag s c k [] t b := fun i _ => by simp [agN]
section
variable {s : St} {c k c' k' : Nat → Int} {sl sh : Int}
theorem more_oil (h : StOk s) (hp : Pl (reS s sl sh) c' k') (m : MoreP s c k sl sh c' k') {t t' : Int} {b : Nat → Int} (hb : ∀ i, i < s.ns.length → 0 ≤ b i) (ht : t ≤ t') (h' : StOk (reS s sl sh)) {i : Nat} (hi : i ≤ s.ns.length) : oilF s c k b t i ≤ oilF (reS s sl sh) c' k' b t' i := by
  rw [oilF_re]
  exact oilF_le h hi (fun j hj => by
    have h1 := m.ck j (by omega)
    have h2 := hp.nn h' (i := j) (show j < s.ns.length by omega)
    have h3 := hb j (by omega)
    omega) ht
theorem more_rng (h : StOk s) (h' : StOk (reS s sl sh)) (hp : Pl (reS s sl sh) c' k') (m : MoreP s c k sl sh c' k') {L H L' H' : Nat → Int} (r : IsRng s c k [] L H) (r' : IsRng (reS s sl sh) c' k' [] L' H') {i : Nat} (hi : i < s.ns.length) : L i ≤ L' i ∧ H i ≤ H' i := by
  constructor
  · obtain ⟨t, b, h1, h2, h3⟩ := r'.lo i hi
    have hb : ∀ i, i < s.ns.length → 0 ≤ b i := fun j hj => (h1.nn h' (i := j) hj).1
    have ht0 : sl ≤ t := h1.t0
    have h4 := (r.all i hi s.sl b ⟨Int.le_refl _, h.s1, h1.bb⟩ (ag_nil _ _ _ _ _)).1
    have h5 := more_oil h hp m (t := s.sl) (t' := t) hb (by have := m.sl; omega) h' (show i + 1 ≤ s.ns.length by omega)
    omega
  · obtain ⟨t, b, h1, h2, h3⟩ := r.hi i hi
    have hb : ∀ i, i < s.ns.length → 0 ≤ b i := fun j hj => (h1.nn h hj).1
    have h4 := (r'.all i hi sh b ⟨h'.s1, Int.le_refl _, h1.bb⟩ (ag_nil _ _ _ _ _)).2
    have h5 := more_oil h hp m (t := t) (t' := sh) hb (by have := m.sh; have := h1.t1; omega) h' (show i + 1 ≤ s.ns.length by omega)
    omega
theorem more_dark (h : StOk s) (h' : StOk (reS s sl sh)) (hp : Pl (reS s sl sh) c' k') (m : MoreP s c k sl sh c' k') {x : Int} (hx : x ∈ darkL (reS s sl sh) c' k') : x ∈ darkL s c k := by
  obtain ⟨i, rfl, h1, h2⟩ := darkL_mem.1 hx
  have hi : i < s.ns.length := h1
  refine darkL_mem.2 ⟨i, rfl, hi, ?_⟩
  cases e : wLit s c k i with
  | false => rfl
  | true =>
    exfalso
    have hn := h.nt i hi
    have hc := m.ck i hi
    have hq := hp.nn h' (i := i) h1
    have ho := more_oil h hp m (t := s.sl) (t' := sl) (b := fun i => (ntAt s i).hi) (fun j hj => by have := h.nt j hj; omega) m.sl h' (show i ≤ s.ns.length by omega)
    have := litO_le h hi (c := c i) (c' := c' i) (k := k i) (k' := k' i) (b := (ntAt s i).hi) (b' := (ntAt s i).hi) (o := wOil s c k i) (o' := oilF (reS s sl sh) c' k' (fun i => (ntAt s i).hi) sl i) hc.1 (by omega) hc.2 (by omega) (Int.le_refl _) ho e
    have h3 : litO s i (c' i) (k' i) (ntAt s i).hi (oilF (reS s sl sh) c' k' (fun i => (ntAt s i).hi) sl i) = false := h2
    rw [h3] at this; cases this
end

section
variable {s : St} {c k : Nat → Int} {dips : List Dp} {d : Dp}
theorem agN_app (dips : List Dp) (d : Dp) (i : Nat) (o : Int) : agN (dips ++ [d]) i o = (agN dips i o && (!(decide (d.n = (i : Int))) || inB o d.lo d.hi)) := by simp [agN]
theorem ag_app {t : Int} {b : Nat → Int} (h : Ag s c k (dips ++ [d]) t b) : Ag s c k dips t b := fun i hi => by
  have := h i hi
  rw [agN_app, Bool.and_eq_true] at this
  exact this.1
theorem cons_app (h : Cons s c k (dips ++ [d])) : Cons s c k dips := by obtain ⟨t, b, h1, h2⟩ := h; exact ⟨t, b, h1, ag_app h2⟩
theorem app_rng {L H L' H' : Nat → Int} (r : IsRng s c k dips L H) (r' : IsRng s c k (dips ++ [d]) L' H') {i : Nat} (hi : i < s.ns.length) : L i ≤ L' i ∧ H' i ≤ H i := by
  obtain ⟨t, b, h1, h2, h3⟩ := r'.lo i hi
  obtain ⟨t', b', h4, h5, h6⟩ := r'.hi i hi
  have h7 := r.all i hi t b h1 (ag_app h2)
  have h8 := r.all i hi t' b' h4 (ag_app h5)
  omega
theorem ag_mono {d1 d2 : List Dp} (h : ∀ d ∈ d1, d ∈ d2) {t : Int} {b : Nat → Int} (ha : Ag s c k d2 t b) : Ag s c k d1 t b := fun i hi => by
  have := ha i hi
  unfold agN at this ⊢
  rw [List.all_eq_true] at this ⊢
  exact fun x hx => this x (h x hx)
theorem cons_mono {d1 d2 : List Dp} (h : ∀ d ∈ d1, d ∈ d2) (hc : Cons s c k d2) : Cons s c k d1 := by obtain ⟨t, b, h1, h2⟩ := hc; exact ⟨t, b, h1, ag_mono h h2⟩
theorem ag_at {t : Int} {b : Nat → Int} {i : Nat} {lo hi : Int} (hi' : i < s.ns.length) : Ag s c k (dips ++ [⟨i, lo, hi⟩]) t b ↔ Ag s c k dips t b ∧ lo ≤ oilF s c k b t (i + 1) ∧ oilF s c k b t (i + 1) ≤ hi := by
  constructor
  · intro h
    refine ⟨ag_app h, ?_⟩
    have := h i hi'
    rw [agN_app] at this
    simp only [decide_true, Bool.not_true, Bool.false_or, Bool.and_eq_true, inB_true] at this
    exact this.2
  · rintro ⟨h1, h2⟩ j hj
    rw [agN_app, h1 j hj]
    by_cases e : j = i
    · subst e; simp [inB_true.2 h2]
    · have : ¬ (i : Int) = (j : Int) := by omega
      simp [this]
/-- One more dip of an end, or beyond it. -/
theorem ends_lo {L H : Nat → Int} (r : IsRng s c k dips L H) {i : Nat} (hi : i < s.ns.length) : Cons s c k (dips ++ [⟨i, L i, L i⟩]) := by
  obtain ⟨t, b, h1, h2, h3⟩ := r.lo i hi
  exact ⟨t, b, h1, (ag_at hi).2 ⟨h2, by omega, by omega⟩⟩
theorem ends_hi {L H : Nat → Int} (r : IsRng s c k dips L H) {i : Nat} (hi : i < s.ns.length) : Cons s c k (dips ++ [⟨i, H i, H i⟩]) := by
  obtain ⟨t, b, h1, h2, h3⟩ := r.hi i hi
  exact ⟨t, b, h1, (ag_at hi).2 ⟨h2, by omega, by omega⟩⟩
theorem ends_not {L H : Nat → Int} (r : IsRng s c k dips L H) {i : Nat} (hi : i < s.ns.length) {n : Int} (hn : n < L i ∨ H i < n) : ¬ Cons s c k (dips ++ [⟨i, n, n⟩]) := by
  rintro ⟨t, b, h1, h2⟩
  obtain ⟨h3, h4⟩ := (ag_at hi).1 h2
  have := r.all i hi t b h1 h3
  omega

/-- What has to be left out. -/
theorem keptL_nil (dips : List Dp) : keptL dips [] = dips := by
  have := keptL_zero dips
  rwa [bitsL_zero] at this
theorem leave_nil (h : StOk s) : leaveL s c k dips = [] ↔ Cons s c k dips := by
  obtain ⟨_, h1, h2, h3⟩ := leaveL_spec (c := c) (k := k) (dips := dips) h
  constructor
  · intro e
    rw [e] at h2
    have := (keptB_iff h).1 h2
    rwa [keptL_nil] at this
  · intro hc
    cases e : leaveL s c k dips with
    | nil => rfl
    | cons x xs =>
      exfalso
      have h4 := h3 [] trivial (by rw [e]; simp [lessB])
      have h5 : keptB s c k dips [] = true := (keptB_iff h).2 (by rw [keptL_nil]; exact hc)
      rw [h5] at h4; cases h4
theorem Ups.nodup {n : Nat} : ∀ {xs : List Int} {s : Nat}, Ups n s xs → xs.Nodup
  | [], _, _ => List.nodup_nil
  | x :: xs, s, ⟨k, h1, h2, h3, h4⟩ => by
    refine List.nodup_cons.2 ⟨fun hm => ?_, Ups.nodup h4⟩
    obtain ⟨j, h5, h6, _⟩ := Ups.mem h4 _ hm
    omega
theorem Ups.up {n m : Nat} (h : n ≤ m) : ∀ {xs : List Int} {s : Nat}, Ups n s xs → Ups m s xs
  | [], _, _ => trivial
  | x :: xs, s, ⟨k, h1, h2, h3, h4⟩ => ⟨k, h1, h2, by omega, Ups.up h h4⟩
theorem Ups.snoc {n : Nat} : ∀ {xs : List Int} {s : Nat}, s ≤ n → Ups n s xs → Ups (n + 1) s (xs ++ [(n : Int)])
  | [], s, hs, _ => ⟨n, rfl, hs, by omega, trivial⟩
  | x :: xs, s, hs, ⟨k, h1, h2, h3, h4⟩ => ⟨k, h1, h2, by omega, Ups.snoc (by omega) h4⟩
theorem Ups.low {n : Nat} : ∀ {xs : List Int} {s s' : Nat}, s' ≤ s → Ups n s xs → Ups n s' xs
  | [], _, _, _, _ => trivial
  | x :: xs, s, s', hs, ⟨k, h1, h2, h3, h4⟩ => ⟨k, h1, by omega, h3, h4⟩
theorem Ups.filter {n : Nat} {q : Int → Bool} : ∀ {xs : List Int} {s : Nat}, Ups n s xs → Ups n s (xs.filter q)
  | [], _, _ => trivial
  | x :: xs, s, ⟨k, h1, h2, h3, h4⟩ => by
    have h5 := Ups.filter (q := q) h4
    cases e : q x with
    | true => rw [List.filter_cons_of_pos e]; exact ⟨k, h1, h2, h3, h5⟩
    | false =>
      rw [List.filter_cons_of_neg (by rw [e]; simp)]
      exact Ups.low (by omega) h5
theorem leave_app (h : StOk s) : (leaveL s c k dips).length ≤ (leaveL s c k (dips ++ [d])).length ∧ (leaveL s c k (dips ++ [d])).length ≤ (leaveL s c k dips).length + 1 := by
  obtain ⟨_, a1, a2, a3⟩ := leaveL_spec (c := c) (k := k) (dips := dips) h
  obtain ⟨_, b1, b2, b3⟩ := leaveL_spec (c := c) (k := k) (dips := dips ++ [d]) h
  have hl : (dips ++ [d]).length = dips.length + 1 := by simp
  rw [hl] at b1 b3
  obtain ⟨l, hle⟩ : ∃ l, leaveL s c k dips = l := ⟨_, rfl⟩
  obtain ⟨m, hme⟩ : ∃ m, leaveL s c k (dips ++ [d]) = m := ⟨_, rfl⟩
  rw [hle] at a1 a2 a3 ⊢
  rw [hme] at b1 b2 b3 ⊢
  constructor
  · refine Nat.le_of_not_lt fun hlt => ?_
    obtain ⟨m', hm'⟩ : ∃ m', m.filter (fun x => decide (x < (dips.length : Int))) = m' := ⟨_, rfl⟩
    have hu : Ups (dips.length) 0 m' := by
      rw [← hm']
      refine (Ups.filter b1).sub fun y hy => ?_
      have := (List.mem_filter.1 hy).2
      simpa using this
    have hlen : m'.length ≤ m.length := by rw [← hm']; exact List.length_filter_le _ _
    have hk : keptB s c k dips m' = true := by
      rw [keptB_iff h]
      refine cons_mono (fun x hx => ?_) ((keptB_iff h).1 b2)
      obtain ⟨i, h1, h2, h3⟩ := keptL_mem.1 hx
      refine keptL_mem.2 ⟨i, by rw [hl]; omega, ?_, ?_⟩
      · cases e : m.contains (i : Int) with
        | false => rfl
        | true =>
          have h4 : (i : Int) ∈ m' := by rw [← hm']; exact List.mem_filter.2 ⟨by simpa using e, by simpa using h1⟩
          have h5 : m'.contains (i : Int) = true := by simpa using h4
          rw [h5] at h2; cases h2
      · rw [← h3]
        simp [List.getElem?_append_left h1]
    have := a3 m' hu (by unfold lessB; rw [if_neg (by omega)]; simp; omega)
    rw [hk] at this; cases this
  · refine Nat.le_of_not_lt fun hlt => ?_
    have hu : Ups (dips.length + 1) 0 (l ++ [(dips.length : Int)]) := Ups.snoc (Nat.zero_le _) a1
    have hk : keptB s c k (dips ++ [d]) (l ++ [(dips.length : Int)]) = true := by
      rw [keptB_iff h]
      refine cons_mono (fun x hx => ?_) ((keptB_iff h).1 a2)
      obtain ⟨i, h1, h2, h3⟩ := keptL_mem.1 hx
      rw [hl] at h1
      have h2' : ¬ (i : Int) ∈ l ++ [(dips.length : Int)] := by
        intro hm
        have : (l ++ [(dips.length : Int)]).contains (i : Int) = true := by simpa using hm
        rw [this] at h2; cases h2
      have h4 : i ≠ dips.length := fun e => h2' (by rw [e]; simp)
      refine keptL_mem.2 ⟨i, by omega, ?_, ?_⟩
      · cases e : l.contains (i : Int) with
        | false => rfl
        | true => exact absurd (List.mem_append_left _ (by simpa using e)) h2'
      · rw [← h3]
        simp [List.getElem?_append_left (show i < dips.length by omega)]
    have := b3 _ hu (by unfold lessB; rw [if_neg (by simp; omega)]; simp; omega)
    rw [hk] at this; cases this
end
end Go.Proofs.Ytefhdcecbmgljaa

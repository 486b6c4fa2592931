/-
  Lamps, plainly: the best cans, the best wicks; the program's lists and the plans that are safe.
-/
import Derived.Test.YtefhdcecbmgljaaJobs
import Derived.Test.YtefhdcecbmgljaaLeaveQ
set_option linter.all false
namespace Go.Proofs.Ytefhdcecbmgljaa

def sumTo (f : Nat → Int) : Nat → Int
  | 0 => 0
  | k + 1 => sumTo f k + f k
theorem sumTo_congr {f g : Nat → Int} {n : Nat} (h : ∀ i, i < n → f i = g i) : sumTo f n = sumTo g n := by
  induction n with
  | zero => rfl
  | succ n ih => simp only [sumTo]; rw [ih fun i hi => h i (by omega), h n (by omega)]
theorem sumTo_head (f : Nat → Int) (n : Nat) : sumTo f (n + 1) = f 0 + sumTo (fun i => f (i + 1)) n := by
  induction n with
  | zero => simp [sumTo]
  | succ n ih => rw [show sumTo f (n + 1 + 1) = sumTo f (n + 1) + f (n + 1) from rfl, ih]; simp only [sumTo]; omega
theorem sumTo_le {f g : Nat → Int} {n : Nat} (h : ∀ i, i < n → f i ≤ g i) : sumTo f n ≤ sumTo g n := by
  induction n with
  | zero => exact Int.le_refl _
  | succ n ih => have := ih fun i hi => h i (by omega); have := h n (by omega); simp only [sumTo]; omega
theorem sumTo_neg (f : Nat → Int) (n : Nat) : sumTo (fun i => -f i) n = -sumTo f n := by
  induction n with
  | zero => rfl
  | succ n ih => simp only [sumTo]; omega
theorem sumC_to (J : Job) : ∀ (l : List Int) (i : Nat), sumC J i l = sumTo (fun j => J.cost (i + j) (atL l j)) l.length
  | [], _ => rfl
  | x :: l, i => by
    rw [List.length_cons, sumTo_head]
    simp only [sumC]
    rw [sumC_to J l (i + 1)]
    congr 1
    refine sumTo_congr fun j _ => ?_
    rw [show i + 1 + j = i + (j + 1) by omega]; rfl
def sumL (l : List Int) : Int := sumTo (atL l) l.length
def lightL (s : St) (l : List Int) : Int := sumTo (fun i => (ntAt s i).h * atL l i) s.ns.length

def jC (J : Job) (l : List Int) (i : Nat) : Int := J.c i (atL l i)
def jK (J : Job) (l : List Int) (i : Nat) : Int := J.k i (atL l i)
theorem safe_from (s : St) (J : Job) (l : List Int) : ∀ (r i : Nat), i + r = l.length → (SafeL s J i (wOil s (jC J l) (jK J l) i) (l.drop i) ↔ ∀ j, i ≤ j → j < l.length → (J.lo j ≤ atL l j ∧ atL l j ≤ J.hi j) ∧ wLit s (jC J l) (jK J l) j = true)
  | 0, i, h => by
    rw [List.drop_eq_nil_of_le (by omega)]
    exact ⟨fun _ j h1 h2 => by omega, fun _ => trivial⟩
  | r + 1, i, h => by
    rw [List.drop_eq_getElem_cons (show i < l.length by omega)]
    have hx : l[i]'(by omega) = atL l i := (atL_at (by omega)).symm
    rw [hx]
    simp only [SafeL]
    have hn : nextO s J i (atL l i) (wOil s (jC J l) (jK J l) i) = wOil s (jC J l) (jK J l) (i + 1) := rfl
    have hb : nextB s J i (atL l i) (wOil s (jC J l) (jK J l) i) = wLit s (jC J l) (jK J l) i := rfl
    rw [hn, hb, safe_from s J l r (i + 1) (by omega)]
    constructor
    · rintro ⟨h1, h2, h3, h4⟩ j hj hl
      by_cases e : j = i
      · rw [e]; exact ⟨⟨h1, h2⟩, h3⟩
      · exact h4 j (by omega) hl
    · intro h1
      have h2 := h1 i (Nat.le_refl _) (by omega)
      exact ⟨h2.1.1, h2.1.2, h2.2, fun j hj hl => h1 j (by omega) hl⟩
theorem safe_all (s : St) (J : Job) {l : List Int} (hl : l.length = s.ns.length) : SafeL s J 0 s.sl l ↔ (∀ j, j < s.ns.length → J.lo j ≤ atL l j ∧ atL l j ≤ J.hi j) ∧ safeB s (jC J l) (jK J l) = true := by
  have h := safe_from s J l l.length 0 (by omega)
  rw [List.drop_zero] at h
  have h0 : wOil s (jC J l) (jK J l) 0 = s.sl := rfl
  rw [h0] at h
  rw [h]
  unfold safeB
  simp only [List.all_eq_true, List.mem_range]
  constructor
  · intro h1; exact ⟨fun j hj => (h1 j (Nat.zero_le _) (by omega)).1, fun j hj => (h1 j (Nat.zero_le _) (by omega)).2⟩
  · rintro ⟨h1, h2⟩ j _ hj; exact ⟨h1 j (by omega), h2 j (by omega)⟩

theorem prove_iff {s : St} {c k : List Int} : provePlanB s c k = true ↔ planL s c k = 0 ∧ safeB s (atL c) (atL k) = true := by
  unfold provePlanB; simp
theorem plan_zero' {s : St} {c k : List Int} (h0 : faultS s = 0) (h1 : cansB s c = true) (h2 : wicksB s k = true) : planL s c k = 0 := by
  unfold planL; rw [if_neg (by rw [h0]; simp), h1, h2]; rfl
theorem plan_parts {s : St} {c k : List Int} (h : planL s c k = 0) : StOk s ∧ faultS s = 0 ∧ cansB s c = true ∧ wicksB s k = true := by
  obtain ⟨h0, h1, h2, h3⟩ := planL_zero.1 h
  exact ⟨h0, faultS_zero.2 h0, cansB_true.2 ⟨h1, h3.c⟩, wicksB_true.2 ⟨h2, h3.k⟩⟩
theorem wLit_congr {s : St} {c k c' k' : Nat → Int} {i : Nat} (h : ∀ j, j ≤ i → c j = c' j ∧ k j = k' j) : wLit s c k i = wLit s c' k' i := by
  unfold wLit wOil
  rw [oilF_congr (c := c) (c' := c') (k := k) (k' := k') (b := fun i => (ntAt s i).hi) (b' := fun i => (ntAt s i).hi) fun j hj => ⟨(h j (by omega)).1, (h j (by omega)).2, rfl⟩, (h i (Nat.le_refl _)).1, (h i (Nat.le_refl _)).2]

/-! ## The best cans -/
section
variable {s : St} {wk : List Int}
theorem safeD_iff (h : StOk s) (hw : wicksB s wk = true) {l : List Int} : (l.length = s.ns.length ∧ SafeL s (jobD wk) 0 s.sl l) ↔ provePlanB s l wk = true := by
  rw [prove_iff]
  constructor
  · rintro ⟨hl, hs⟩
    obtain ⟨h1, h2⟩ := (safe_all s (jobD wk) hl).1 hs
    exact ⟨plan_zero' (faultS_zero.2 h) (cansB_true.2 ⟨hl, h1⟩) hw, h2⟩
  · rintro ⟨h1, h2⟩
    obtain ⟨_, _, h3, _⟩ := plan_parts h1
    obtain ⟨hl, h4⟩ := cansB_true.1 h3
    exact ⟨hl, (safe_all s (jobD wk) hl).2 ⟨h4, h2⟩⟩
theorem sumD (wk l : List Int) : sumC (jobD wk) 0 l = sumL l := by
  rw [sumC_to]; rfl
theorem deliver_none (h : StOk s) (hw : wicksB s wk = true) (hc : 524288 ≤ chp s (jobD wk) s.ns.length 0 s.sl) (l : List Int) : provePlanB s l wk = false := by
  cases e : provePlanB s l wk with
  | false => rfl
  | true =>
    have h1 := (safeD_iff h hw).2 e
    have := (chp_some (s := s) (jobD_ok wk) (o := s.sl) (i := 0) h.len).2 ⟨l, h1⟩
    omega
theorem job_small {J : Job} (hJ : JobOk J) (h : StOk s) (hc : chp s J s.ns.length 0 s.sl < 524288) : chp s J s.ns.length 0 s.sl + 1000 * (s.ns.length : Int) < 500000 := by
  have := chp_small hJ (i := 0) (o := s.sl) h.len hc
  have := h.len
  omega
theorem deliver_best (h : StOk s) (hw : wicksB s wk = true) (hc : chp s (jobD wk) s.ns.length 0 s.sl < 524288) :
    (bestL s (jobD wk) s.ns.length 0 s.sl).length = s.ns.length ∧ provePlanB s (bestL s (jobD wk) s.ns.length 0 s.sl) wk = true ∧ sumL (bestL s (jobD wk) s.ns.length 0 s.sl) = chp s (jobD wk) s.ns.length 0 s.sl ∧
    ∀ l, provePlanB s l wk = true → chp s (jobD wk) s.ns.length 0 s.sl ≤ sumL l ∧ (sumL l = chp s (jobD wk) s.ns.length 0 s.sl → befB l (bestL s (jobD wk) s.ns.length 0 s.sl) = false) := by
  obtain ⟨h1, h2, h3⟩ := best_safe (jobD_ok wk) s.ns.length 0 s.sl h.len (job_small (jobD_ok wk) h hc)
  refine ⟨h1, (safeD_iff h hw).1 ⟨h1, h2⟩, by rw [← sumD wk, h3], fun l hl => ?_⟩
  obtain ⟨h4, h5⟩ := (safeD_iff h hw).2 hl
  have h6 := chp_le h4 h5
  rw [sumD] at h6
  refine ⟨h6, fun e => ?_⟩
  rw [befB_lex (by omega)]
  exact best_first (jobD_ok wk) h.len (job_small (jobD_ok wk) h hc) h4 h5 (by rw [sumD]; exact e)
end

/-! ## The best wicks -/
section
variable {s : St} {cs : List Int}
theorem safeT_iff (h : StOk s) (hw : cansB s cs = true) {l : List Int} : (l.length = s.ns.length ∧ SafeL s (jobT s cs) 0 s.sl l) ↔ provePlanB s cs l = true := by
  rw [prove_iff]
  constructor
  · rintro ⟨hl, hs⟩
    obtain ⟨h1, h2⟩ := (safe_all s (jobT s cs) hl).1 hs
    exact ⟨plan_zero' (faultS_zero.2 h) hw (wicksB_true.2 ⟨hl, h1⟩), h2⟩
  · rintro ⟨h1, h2⟩
    obtain ⟨_, _, _, h3⟩ := plan_parts h1
    obtain ⟨hl, h4⟩ := wicksB_true.1 h3
    exact ⟨hl, (safe_all s (jobT s cs) hl).2 ⟨h4, h2⟩⟩
theorem sumT (s : St) (cs : List Int) {l : List Int} (hl : l.length = s.ns.length) : sumC (jobT s cs) 0 l = -lightL s l := by
  rw [sumC_to, hl]
  unfold lightL
  rw [← sumTo_neg]
  refine sumTo_congr fun j _ => ?_
  show -atL l j * (ntAt s (0 + j)).h = _
  rw [Nat.zero_add, Int.neg_mul, Int.mul_comm]
theorem trim_none (h : StOk s) (hw : cansB s cs = true) (hc : 524288 ≤ chp s (jobT s cs) s.ns.length 0 s.sl) (l : List Int) : provePlanB s cs l = false := by
  cases e : provePlanB s cs l with
  | false => rfl
  | true =>
    have h1 := (safeT_iff h hw).2 e
    have := (chp_some (s := s) (jobT_ok h cs) (o := s.sl) (i := 0) h.len).2 ⟨l, h1⟩
    omega
theorem trim_best (h : StOk s) (hw : cansB s cs = true) (hc : chp s (jobT s cs) s.ns.length 0 s.sl < 524288) :
    (bestL s (jobT s cs) s.ns.length 0 s.sl).length = s.ns.length ∧ provePlanB s cs (bestL s (jobT s cs) s.ns.length 0 s.sl) = true ∧ lightL s (bestL s (jobT s cs) s.ns.length 0 s.sl) = -chp s (jobT s cs) s.ns.length 0 s.sl ∧
    ∀ l, provePlanB s cs l = true → lightL s l ≤ -chp s (jobT s cs) s.ns.length 0 s.sl ∧ (lightL s l = -chp s (jobT s cs) s.ns.length 0 s.sl → befB l (bestL s (jobT s cs) s.ns.length 0 s.sl) = false) := by
  obtain ⟨h1, h2, h3⟩ := best_safe (jobT_ok h cs) s.ns.length 0 s.sl h.len (job_small (jobT_ok h cs) h hc)
  refine ⟨h1, (safeT_iff h hw).1 ⟨h1, h2⟩, by rw [sumT s cs h1] at h3; omega, fun l hl => ?_⟩
  obtain ⟨h4, h5⟩ := (safeT_iff h hw).2 hl
  have h6 := chp_le h4 h5
  rw [sumT s cs h4] at h6
  refine ⟨by omega, fun e => ?_⟩
  rw [befB_lex (by omega)]
  exact best_first (jobT_ok h cs) h.len (job_small (jobT_ok h cs) h hc) h4 h5 (by rw [sumT s cs h4]; omega)
theorem safeB_more {c c' k : Nat → Int} (h : StOk s) (hk : ∀ i, i < s.ns.length → 0 ≤ k i) (hc : ∀ i, i < s.ns.length → c i ≤ c' i) (hs : safeB s c k = true) : safeB s c' k = true := by
  unfold safeB at hs ⊢
  rw [List.all_eq_true] at hs ⊢
  intro i hi
  have hl := List.mem_range.1 hi
  have h1 := hs i hi
  have hn := h.nt i hl
  exact litO_le h hl (hc i hl) (hk i hl) (Int.le_refl _) (by omega) (Int.le_refl _) (oilF_le h (by omega) (fun j hj => by have := h.nt j (by omega); have := hc j (by omega); have := hk j (by omega); omega) (Int.le_refl _)) h1
/-- One can more: the most light is not less. -/
theorem trim_more {cs' : List Int} (h : StOk s) (hw : cansB s cs = true) (hw' : cansB s cs' = true) (hm : ∀ i, i < s.ns.length → atL cs i ≤ atL cs' i) (hc : chp s (jobT s cs) s.ns.length 0 s.sl < 524288) :
    chp s (jobT s cs') s.ns.length 0 s.sl < 524288 ∧ chp s (jobT s cs') s.ns.length 0 s.sl ≤ chp s (jobT s cs) s.ns.length 0 s.sl := by
  obtain ⟨h1, h2, h3, _⟩ := trim_best h hw hc
  obtain ⟨h4, h5⟩ := prove_iff.1 h2
  obtain ⟨_, h6, _, h7⟩ := plan_parts h4
  have h8 := (wicksB_true.1 h7).2
  have h9 : provePlanB s cs' (bestL s (jobT s cs) s.ns.length 0 s.sl) = true := prove_iff.2 ⟨plan_zero' h6 hw' h7, safeB_more h (fun i hi => by have := h.nt i hi; have := h8 i hi; omega) hm h5⟩
  obtain ⟨g1, g2⟩ := (safeT_iff h hw').2 h9
  have g3 := chp_le g1 g2
  rw [sumT s cs' g1] at g3
  exact ⟨by omega, by omega⟩
end
end Go.Proofs.Ytefhdcecbmgljaa

/-
  The reference: Denies.
-/
import Derived.Test.YtkloaeaepjoijaaRef2
set_option linter.all false
namespace Go.Proofs.Ytkloaeaepjoijaa
open Go.RowKit Go.WalkArith

theorem mOf_tri {t c : Nat} {x : Int} (h0 : -1 ≤ x) (h1 : x ≤ 4) : mOf t c (nodeOf x 0) = (decide (0 ≤ x) && t.testBit x.toNat) := by
  unfold nodeOf mOf
  by_cases h : x = -1
  · rw [if_pos h]
    rw [if_neg (by omega), if_neg (by omega), decide_eq_false (by omega)]; rfl
  · rw [if_neg h, if_pos (by omega), decide_eq_true (by omega), Bool.true_and, show (0 + x).toNat = x.toNat by omega]
theorem mOf_cir {t c : Nat} {x : Int} (h0 : -1 ≤ x) (h1 : x ≤ 4) : mOf t c (nodeOf x 5) = (decide (0 ≤ x) && c.testBit x.toNat) := by
  unfold nodeOf mOf
  by_cases h : x = -1
  · rw [if_pos h]
    rw [if_neg (by omega), if_neg (by omega), decide_eq_false (by omega)]; rfl
  · rw [if_neg h, if_neg (by omega), if_pos (by omega), decide_eq_true (by omega), Bool.true_and, show (5 + x - 5).toNat = x.toNat by omega]

theorem bit_low {t k : Nat} {T : Int} (h : t < 2 ^ T.toNat) (hb : t.testBit k = true) : (k : Int) < T := by
  rcases Int.lt_or_le (k : Int) T with h1 | h1
  · exact h1
  · have : t < 2 ^ k := Nat.lt_of_lt_of_le h (Nat.pow_le_pow_right (by decide) (by omega))
    rw [Nat.testBit_lt_two_pow this] at hb; cases hb

/-- What the reference sums of a cut. -/
def difR (t c : Nat) (k : Nat) : Int := sumR k fun i => (if t.testBit i then 36 else 0) - (if c.testBit i then 72 else 0)

theorem difR_eq {T C : Int} {t c : Nat} (ht1 : T ≤ 5) (hc1 : C ≤ 5) (ht : t < 2 ^ T.toNat) (hc : c < 2 ^ C.toNat) : difR t c 5 = diffM T C (mOf t c) := by
  have h1 : ∀ k : Nat, k < 5 → chi (mOf t c (k : Int)) * base T C k = if t.testBit k then 36 else 0 := by
    intro k hk
    have e : mOf t c (k : Int) = t.testBit k := by unfold mOf; rw [if_pos (by omega), Int.toNat_natCast]
    rw [e]
    cases hb : t.testBit k with
    | false => simp [chi]
    | true =>
      have := bit_low ht hb
      have hb2 : base T C (k : Int) = 36 := by unfold base; rw [if_pos (by omega)]
      rw [hb2]; simp [chi]
  have h2 : ∀ k : Nat, k < 5 → chi (mOf t c ((5 + k : Nat) : Int)) * base T C ((5 + k : Nat) : Int) = - if c.testBit k then 72 else 0 := by
    intro k hk
    have e : mOf t c ((5 + k : Nat) : Int) = c.testBit k := by unfold mOf; rw [if_neg (by omega), if_pos (by omega), show (((5 + k : Nat) : Int) - 5).toNat = k by omega]
    rw [e]
    cases hb : c.testBit k with
    | false => simp [chi]
    | true =>
      have := bit_low hc hb
      have hb2 : base T C ((5 + k : Nat) : Int) = -72 := by unfold base; rw [if_neg (by omega), if_pos (by omega)]
      rw [hb2]; simp [chi]
  have a0 := h1 0 (by omega)
  have a1 := h1 1 (by omega)
  have a2 := h1 2 (by omega)
  have a3 := h1 3 (by omega)
  have a4 := h1 4 (by omega)
  have b0 := h2 0 (by omega)
  have b1 := h2 1 (by omega)
  have b2 := h2 2 (by omega)
  have b3 := h2 3 (by omega)
  have b4 := h2 4 (by omega)
  unfold diffM difR
  simp only [sumR]
  rw [a0, a1, a2, a3, a4, b0, b1, b2, b3, b4]
  omega

theorem lowM_bd (fr tt lo hi : Int → Int) (m : Int → Bool) : ∀ k : Nat, (∀ i : Nat, i < k → 0 ≤ lo i ∧ lo i ≤ hi i ∧ hi i ≤ 40) → (-40 * (k : Int) ≤ lowM k fr tt lo hi m ∧ lowM k fr tt lo hi m ≤ 40 * k) ∧ (-40 * (k : Int) ≤ highM k fr tt lo hi m ∧ highM k fr tt lo hi m ≤ 40 * k) := by
  intro k
  induction k with
  | zero => intro _; simp [lowM, highM, sumR]
  | succ k ih =>
    intro h
    have h1 := ih (fun i hi => h i (by omega))
    have h2 := h k (by omega)
    unfold lowM highM at h1 ⊢
    simp only [sumR]
    constructor
    · split
      · omega
      · split <;> omega
    · split
      · omega
      · split <;> omega

theorem difR_bd (t c : Nat) : ∀ k : Nat, -72 * (k : Int) ≤ difR t c k ∧ difR t c k ≤ 36 * k := by
  intro k
  induction k with
  | zero => simp [difR, sumR]
  | succ k ih =>
    have : difR t c (k + 1) = difR t c k + ((if t.testBit k then 36 else 0) - (if c.testBit k then 72 else 0)) := rfl
    rw [this]
    split <;> split <;> omega

def DRel (l : List Ang) (lo hi : Int → Int) (t c n : Nat) (w : World) (Bi : Nat) (net : Obj) (a b i : Value) (wr : World) : Prop :=
  ∃ k : Nat, k ≤ n ∧ i = .int .i64 k ∧ a = .int .i64 (lowM k (frL l) (toL l) lo hi (mOf t c)) ∧ b = .int .i64 (highM k (frL l) (toL l) lo hi (mOf t c)) ∧ wr.heap[Bi]? = some net ∧ Below w.heap.size w wr

set_option maxRecDepth 100000 in
set_option maxHeartbeats 4000000 in
theorem refDenies_any (b o n cap : Nat) (T C : Int) (l : List Ang) (rv : Value) (lo hi : Int → Int) (t c : Nat) (w : World) (hl : l.length = n) (hok : NetOk l T C) (hA : AngsAt w (some ⟨b, o, none⟩) l) (hr : RangesAt w rv n lo hi) (hro : RoomsOk n lo hi) (ht : t < 2 ^ T.toNat) (hc : c < 2 ^ C.toNat) :
    Calls Try.prog 75 #[.agg #[.slice (some ⟨b, o, none⟩) n cap, .int .i64 T, .int .i64 C], rv, .int .i64 t, .int .i64 c] w fun e w' => e = .returned (.bool (denyB n T C (frL l) (toL l) lo hi t c)) ∧ Below w.heap.size w w' := by
  obtain ⟨Ar, rcap, rfl, hrc⟩ := hr
  have hpos : 0 < n := by rw [← hl]; exact hok.pos
  obtain ⟨rb, ro, rfl, hrc2⟩ := hrc.resolve_left (by omega)
  have hB : Below w.heap.size w (w.alloc (.cells #[.slice (some ⟨b, o, none⟩) n cap, .int .i64 T, .int .i64 C] 24)) := (Below.refl _ _).alloc (Nat.le_refl _) _
  have hn0 := Go.heap_alloc_new w (.cells #[.slice (some ⟨b, o, none⟩) n cap, .int .i64 T, .int .i64 C] 24)
  have HB := Lib.hid hB
  have HN := Lib.hid hn0
  have HA := Lib.hid hA
  have HL := Lib.hid hl
  have HO := Lib.hid hok
  have HRC := Lib.hid hrc2
  have HRO := Lib.hid hro
  have hn12 : n ≤ 12 := by rw [← hl]; exact hok.len
  have ht1 := hok.t1
  have hc1 := hok.c1
  have hdif := Lib.hid (difR_eq ht1 hc1 ht hc)
  have ht32 : t < 65536 := Nat.lt_of_lt_of_le ht (Nat.le_trans (Nat.pow_le_pow_right (by decide) (show T.toNat ≤ 16 by omega)) (by decide))
  have hc32 : c < 65536 := Nat.lt_of_lt_of_le hc (Nat.le_trans (Nat.pow_le_pow_right (by decide) (show C.toNat ≤ 16 by omega)) (by decide))
  clear hB hn0 hA hl hok hrc hrc2 hro
  go_enter Try.func75, Try.ntmps75
  go_wp2_with fail
  generalize w.alloc (.cells #[.slice (some ⟨b, o, none⟩) n cap, .int .i64 T, .int .i64 C] 24) = w1 at HB HN ⊢
  obtain ⟨Bi, hBi⟩ : ∃ Bi, w.heap.size = Bi := ⟨_, rfl⟩
  have o1 : w.heap.size ≤ Bi := by omega
  rw [hBi] at HN ⊢
  clear hBi
  go_loopw [9, 10, 11] (DRel l lo hi t c n w Bi (.cells #[.slice (some ⟨b, o, none⟩) n cap, .int .i64 T, .int .i64 C] 24 (0, 0))) (fun _ _ i _ => n - (intOf i).toNat)
  case atStart => exact ⟨0, by omega, rfl, rfl, rfl, HN.out, HB.out⟩
  case round =>
    clear HB HN
    obtain ⟨k, hk, rfl, rfl, rfl, hI, hBe⟩ := hrel
    have hbd := lowM_bd (frL l) (toL l) lo hi (mOf t c) k (fun i hi => ⟨HRO.out.lo0 i (by omega), HRO.out.le i (by omega), HRO.out.hi1 i (by omega)⟩)
    have x0 : wr.cell? ⟨Bi, 0, none⟩ = some (.slice (some ⟨b, o, none⟩) n cap) := by simp [World.cell?, hI]
    by_cases hlt : k < n
    · have hlt' : decide ((k : Int) < (n : Int)) = true := by simpa using hlt
      have hlk : k < l.length := by rw [HL.out]; exact hlt
      have hAw := HA.out.keep hBe (Nat.le_refl _)
      obtain ⟨b', o', hAe, hAs⟩ := hAw.resolve_left (fun h => by rw [h] at hlk; simp at hlk)
      obtain ⟨rfl, rfl⟩ : b = b' ∧ o = o' := by simpa using hAe
      obtain ⟨ak0, ak1, ak2, ak3⟩ := hAs k hlk
      have han := HO.out.ang l[k] (List.getElem_mem hlk)
      have hfr := frL_at hlk
      have hto := toL_at hlk
      obtain ⟨a, ha⟩ : ∃ a, l[k] = a := ⟨_, rfl⟩
      rw [ha] at ak0 ak1 ak2 ak3 han hfr hto
      have r0 := (HRC.out k hlt).1
      have r1 := (HRC.out k hlt).2
      rw [← hBe.cell (World.block_lt_of_cell? w _ r0)] at r0
      rw [← hBe.cell (World.block_lt_of_cell? w _ r1)] at r1
      have hlo := HRO.out.lo0 k hlt
      have hle := HRO.out.le k hlt
      have hhi := HRO.out.hi1 k hlt
      have hsl : lowM (k + 1) (frL l) (toL l) lo hi (mOf t c) = lowM k (frL l) (toL l) lo hi (mOf t c) + (if mOf t c (nodeOf a.t 0) && !mOf t c (nodeOf a.c 5) then lo k else if mOf t c (nodeOf a.c 5) && !mOf t c (nodeOf a.t 0) then -hi k else 0) := by rw [← hfr, ← hto]; rfl
      have hsh : highM (k + 1) (frL l) (toL l) lo hi (mOf t c) = highM k (frL l) (toL l) lo hi (mOf t c) + (if mOf t c (nodeOf a.t 0) && !mOf t c (nodeOf a.c 5) then hi k else if mOf t c (nodeOf a.c 5) && !mOf t c (nodeOf a.t 0) then -lo k else 0) := by rw [← hfr, ← hto]; rfl
      have hq1 := Lib.hid (fun w => has_any t a.t w (by omega) (by omega) ht32)
      have hq2 := Lib.hid (fun w => has_any c a.c w (by omega) (by omega) hc32)
      rw [← mOf_tri (t := t) (c := c) (x := a.t) (by omega) (by omega)] at hq1
      rw [← mOf_cir (t := t) (c := c) (x := a.c) (by omega) (by omega)] at hq2
      obtain ⟨ou, hou⟩ : ∃ ou, mOf t c (nodeOf a.t 0) = ou := ⟨_, rfl⟩
      obtain ⟨inn, hinn⟩ : ∃ inn, mOf t c (nodeOf a.c 5) = inn := ⟨_, rfl⟩
      obtain ⟨L, hL⟩ : ∃ L, lo k = L := ⟨_, rfl⟩
      obtain ⟨H, hH⟩ : ∃ H, hi k = H := ⟨_, rfl⟩
      obtain ⟨P, hP⟩ : ∃ P, lowM k (frL l) (toL l) lo hi (mOf t c) = P := ⟨_, rfl⟩
      obtain ⟨Q, hQ⟩ : ∃ Q, highM k (frL l) (toL l) lo hi (mOf t c) = Q := ⟨_, rfl⟩
      rw [hou] at hq1
      rw [hinn] at hq2
      rw [hou, hinn, hP, hL, hH] at hsl
      rw [hou, hinn, hQ, hL, hH] at hsh
      rw [hP, hQ] at hbd ⊢
      rw [hL] at r0 hlo hle
      rw [hH] at r1 hle hhi
      have HSL := Lib.hid hsl
      have HSH := Lib.hid hsh
      have HI := Lib.hid hI
      have HBe := Lib.hid hBe
      have i1 : (0 : Int) ≤ (k : Int) := by omega
      have i2 : (k : Int) < (n : Int) := by omega
      clear hsl hsh hI hBe hou hinn hL hH hP hQ hfr hto ha hAs hAe hAw
      go_wp2_with fail
      refine wp_region_held_drew (S := fun X => X.cell? ⟨Bi, 0, none⟩ = some (.slice (some ⟨b, o, none⟩) n cap) ∧ X.cell? ⟨b, o + k * 4, none⟩ = some (.int .i64 a.t) ∧ X.cell? ⟨b, o + k * 4 + 1, none⟩ = some (.int .i64 a.c)) (by kernel_rfl) (⟨x0, ak0, ak1⟩) (fun hS0 => ?_)
      refine wpAnyH_take (i := 0) (oi := { dst := some 23, op := Op.move (Operand.tmp 2), type := 3, pos := "ref.go:57", after := #[], guard := none }) (v := ?_) rfl (by kernel_rfl) (by kernel_rfl) (by kernel_rfl) (fun _ _ _ h => h) (Or.inl ⟨by rfl, ?_⟩) hS0 ?_
      rotate_left
      · intro X hX
        obtain ⟨x0, x1, x2⟩ := hX
        go_simp
        try with_reducible rfl
      simp only [Act.put, List.setIfInBounds_toArray, List.set_cons_zero, List.set_cons_succ, Array.toArray_toList]
      refine wpAnyH_take (i := 1) (oi := { dst := some 24, op := Op.fieldAddr 24 (Operand.tmp 4) 0, type := 0, pos := "ref.go:57", after := #[], guard := none }) (v := ?_) rfl (by kernel_rfl) (by kernel_rfl) (by kernel_rfl) (fun _ _ _ h => h) (Or.inl ⟨by rfl, ?_⟩) hS0 ?_
      rotate_left
      · intro X hX
        obtain ⟨x0, x1, x2⟩ := hX
        go_simp
        try with_reducible rfl
      simp only [Act.put, List.setIfInBounds_toArray, List.set_cons_zero, List.set_cons_succ, Array.toArray_toList]
      refine wpAnyH_take (i := 2) (oi := { dst := some 25, op := Op.load 22 (Operand.tmp 24), type := 22, pos := "ref.go:57", after := #[{ on := 1, ground := Ground.data }], guard := none }) (v := ?_) rfl (by kernel_rfl) (by kernel_rfl) (by kernel_rfl) (fun _ _ _ h => h) (Or.inl ⟨by rfl, ?_⟩) hS0 ?_
      rotate_left
      · intro X hX
        obtain ⟨x0, x1, x2⟩ := hX
        go_simp
        try with_reducible rfl
      simp only [Act.put, List.setIfInBounds_toArray, List.set_cons_zero, List.set_cons_succ, Array.toArray_toList]
      refine wpAnyH_take (i := 3) (oi := { dst := some 26, op := Op.move (Operand.tmp 11), type := 3, pos := "ref.go:57", after := #[], guard := none }) (v := ?_) rfl (by kernel_rfl) (by kernel_rfl) (by kernel_rfl) (fun _ _ _ h => h) (Or.inl ⟨by rfl, ?_⟩) hS0 ?_
      rotate_left
      · intro X hX
        obtain ⟨x0, x1, x2⟩ := hX
        go_simp
        try with_reducible rfl
      simp only [Act.put, List.setIfInBounds_toArray, List.set_cons_zero, List.set_cons_succ, Array.toArray_toList]
      refine wpAnyH_take (i := 4) (oi := { dst := some 27, op := Op.indexAddr 22 (Operand.tmp 25) (Operand.tmp 26), type := 0, pos := "ref.go:57", after := #[{ on := 2, ground := Ground.data }, { on := 3, ground := Ground.data }], guard := none }) (v := ?_) rfl (by kernel_rfl) (by kernel_rfl) (by kernel_rfl) (fun _ _ _ h => h) (Or.inl ⟨by rfl, ?_⟩) hS0 ?_
      rotate_left
      · intro X hX
        obtain ⟨x0, x1, x2⟩ := hX
        go_simp
        try with_reducible rfl
      simp only [Act.put, List.setIfInBounds_toArray, List.set_cons_zero, List.set_cons_succ, Array.toArray_toList]
      refine wpAnyH_take (i := 5) (oi := { dst := some 28, op := Op.fieldAddr 71 (Operand.tmp 27) 0, type := 0, pos := "ref.go:57", after := #[{ on := 4, ground := Ground.data }], guard := none }) (v := ?_) rfl (by kernel_rfl) (by kernel_rfl) (by kernel_rfl) (fun _ _ _ h => h) (Or.inl ⟨by rfl, ?_⟩) hS0 ?_
      rotate_left
      · intro X hX
        obtain ⟨x0, x1, x2⟩ := hX
        go_simp
        try with_reducible rfl
      simp only [Act.put, List.setIfInBounds_toArray, List.set_cons_zero, List.set_cons_succ, Array.toArray_toList]
      refine wpAnyH_take (i := 6) (oi := { dst := some 29, op := Op.load 3 (Operand.tmp 28), type := 3, pos := "ref.go:57", after := #[{ on := 5, ground := Ground.data }], guard := none }) (v := ?_) rfl (by kernel_rfl) (by kernel_rfl) (by kernel_rfl) (fun _ _ _ h => h) (Or.inl ⟨by rfl, ?_⟩) hS0 ?_
      rotate_left
      · intro X hX
        obtain ⟨x0, x1, x2⟩ := hX
        go_simp
        try with_reducible rfl
      simp only [Act.put, List.setIfInBounds_toArray, List.set_cons_zero, List.set_cons_succ, Array.toArray_toList]
      refine wpAnyH_take (i := 8) (oi := { dst := some 31, op := Op.move (Operand.tmp 3), type := 3, pos := "ref.go:57", after := #[], guard := none }) (v := ?_) rfl (by kernel_rfl) (by kernel_rfl) (by kernel_rfl) (fun _ _ _ h => h) (Or.inl ⟨by rfl, ?_⟩) hS0 ?_
      rotate_left
      · intro X hX
        obtain ⟨x0, x1, x2⟩ := hX
        go_simp
        try with_reducible rfl
      simp only [Act.put, List.setIfInBounds_toArray, List.set_cons_zero, List.set_cons_succ, Array.toArray_toList]
      refine wpAnyH_take (i := 9) (oi := { dst := some 32, op := Op.fieldAddr 24 (Operand.tmp 4) 0, type := 0, pos := "ref.go:57", after := #[], guard := none }) (v := ?_) rfl (by kernel_rfl) (by kernel_rfl) (by kernel_rfl) (fun _ _ _ h => h) (Or.inl ⟨by rfl, ?_⟩) hS0 ?_
      rotate_left
      · intro X hX
        obtain ⟨x0, x1, x2⟩ := hX
        go_simp
        try with_reducible rfl
      simp only [Act.put, List.setIfInBounds_toArray, List.set_cons_zero, List.set_cons_succ, Array.toArray_toList]
      refine wpAnyH_take (i := 10) (oi := { dst := some 33, op := Op.load 22 (Operand.tmp 32), type := 22, pos := "ref.go:57", after := #[{ on := 9, ground := Ground.data }], guard := none }) (v := ?_) rfl (by kernel_rfl) (by kernel_rfl) (by kernel_rfl) (fun _ _ _ h => h) (Or.inl ⟨by rfl, ?_⟩) hS0 ?_
      rotate_left
      · intro X hX
        obtain ⟨x0, x1, x2⟩ := hX
        go_simp
        try with_reducible rfl
      simp only [Act.put, List.setIfInBounds_toArray, List.set_cons_zero, List.set_cons_succ, Array.toArray_toList]
      refine wpAnyH_take (i := 11) (oi := { dst := some 34, op := Op.move (Operand.tmp 11), type := 3, pos := "ref.go:57", after := #[], guard := none }) (v := ?_) rfl (by kernel_rfl) (by kernel_rfl) (by kernel_rfl) (fun _ _ _ h => h) (Or.inl ⟨by rfl, ?_⟩) hS0 ?_
      rotate_left
      · intro X hX
        obtain ⟨x0, x1, x2⟩ := hX
        go_simp
        try with_reducible rfl
      simp only [Act.put, List.setIfInBounds_toArray, List.set_cons_zero, List.set_cons_succ, Array.toArray_toList]
      refine wpAnyH_take (i := 12) (oi := { dst := some 35, op := Op.indexAddr 22 (Operand.tmp 33) (Operand.tmp 34), type := 0, pos := "ref.go:57", after := #[{ on := 10, ground := Ground.data }, { on := 11, ground := Ground.data }], guard := none }) (v := ?_) rfl (by kernel_rfl) (by kernel_rfl) (by kernel_rfl) (fun _ _ _ h => h) (Or.inl ⟨by rfl, ?_⟩) hS0 ?_
      rotate_left
      · intro X hX
        obtain ⟨x0, x1, x2⟩ := hX
        go_simp
        try with_reducible rfl
      simp only [Act.put, List.setIfInBounds_toArray, List.set_cons_zero, List.set_cons_succ, Array.toArray_toList]
      refine wpAnyH_take (i := 13) (oi := { dst := some 36, op := Op.fieldAddr 71 (Operand.tmp 35) 1, type := 0, pos := "ref.go:57", after := #[{ on := 12, ground := Ground.data }], guard := none }) (v := ?_) rfl (by kernel_rfl) (by kernel_rfl) (by kernel_rfl) (fun _ _ _ h => h) (Or.inl ⟨by rfl, ?_⟩) hS0 ?_
      rotate_left
      · intro X hX
        obtain ⟨x0, x1, x2⟩ := hX
        go_simp
        try with_reducible rfl
      simp only [Act.put, List.setIfInBounds_toArray, List.set_cons_zero, List.set_cons_succ, Array.toArray_toList]
      refine wpAnyH_take (i := 14) (oi := { dst := some 37, op := Op.load 3 (Operand.tmp 36), type := 3, pos := "ref.go:57", after := #[{ on := 13, ground := Ground.data }], guard := none }) (v := ?_) rfl (by kernel_rfl) (by kernel_rfl) (by kernel_rfl) (fun _ _ _ h => h) (Or.inl ⟨by rfl, ?_⟩) hS0 ?_
      rotate_left
      · intro X hX
        obtain ⟨x0, x1, x2⟩ := hX
        go_simp
        try with_reducible rfl
      simp only [Act.put, List.setIfInBounds_toArray, List.set_cons_zero, List.set_cons_succ, Array.toArray_toList]
      refine wpAnyH_ready (rs := [7]) (by kernel_rfl) (by simp) (AllReadyH.cons (o := { dst := some 30, op := Op.call { callee := Callee.value (Operand.func 101), args := #[Operand.tmp 23, Operand.tmp 29], argTypes := #[3, 3] }, type := 4, pos := "ref.go:57", after := #[{ on := 0, ground := Ground.data }, { on := 6, ground := Ground.data }], guard := none }) rfl (fun K hK => ?_) AllReadyH.nil)
      go_simp
      refine (hq1.out _).mono ?_
      rintro e w' ⟨rfl, rfl⟩
      go_wp2_with fail
      refine hK.out _ _ (hS0) (fun hS1 => ?_)
      clear hS0 hK K
      refine wpAnyH_ready (rs := [15]) (by kernel_rfl) (by simp) (AllReadyH.cons (o := { dst := some 38, op := Op.call { callee := Callee.value (Operand.func 101), args := #[Operand.tmp 31, Operand.tmp 37], argTypes := #[3, 3] }, type := 4, pos := "ref.go:57", after := #[{ on := 8, ground := Ground.data }, { on := 14, ground := Ground.data }, { on := 7, ground := Ground.chain }], guard := none }) rfl (fun K hK => ?_) AllReadyH.nil)
      go_simp
      refine (hq2.out _).mono ?_
      rintro e w' ⟨rfl, rfl⟩
      go_wp2_with fail
      refine hK.out _ _ (hS1) (fun hS2 => ?_)
      clear hS1 hK K
      refine wpAnyH_take (i := 16) (oi := { dst := some 12, op := Op.assign (Operand.tmp 30), type := 4, pos := "ref.go:57", after := #[{ on := 7, ground := Ground.data }, { on := 15, ground := Ground.chain }, { on := 0, ground := Ground.phase }, { on := 1, ground := Ground.phase }, { on := 2, ground := Ground.phase }, { on := 3, ground := Ground.phase }, { on := 4, ground := Ground.phase }, { on := 5, ground := Ground.phase }, { on := 6, ground := Ground.phase }, { on := 7, ground := Ground.phase }, { on := 8, ground := Ground.textOnly Departure.lateStores }, { on := 9, ground := Ground.textOnly Departure.lateStores }, { on := 10, ground := Ground.textOnly Departure.lateStores }, { on := 11, ground := Ground.textOnly Departure.lateStores }, { on := 12, ground := Ground.textOnly Departure.lateStores }, { on := 13, ground := Ground.textOnly Departure.lateStores }, { on := 14, ground := Ground.textOnly Departure.lateStores }, { on := 15, ground := Ground.textOnly Departure.lateStoresUnsure }], guard := none }) (v := ?_) rfl (by kernel_rfl) (by kernel_rfl) (by kernel_rfl) (fun _ _ _ h => h) (Or.inl ⟨by rfl, ?_⟩) hS2 ?_
      rotate_left
      · intro X hX
        obtain ⟨x0, x1, x2⟩ := hX
        go_simp
        try with_reducible rfl
      simp only [Act.put, List.setIfInBounds_toArray, List.set_cons_zero, List.set_cons_succ, Array.toArray_toList]
      refine wpAnyH_take (i := 17) (oi := { dst := some 13, op := Op.assign (Operand.tmp 38), type := 4, pos := "ref.go:57", after := #[{ on := 15, ground := Ground.data }, { on := 16, ground := Ground.chain }, { on := 0, ground := Ground.phase }, { on := 1, ground := Ground.phase }, { on := 2, ground := Ground.phase }, { on := 3, ground := Ground.phase }, { on := 4, ground := Ground.phase }, { on := 5, ground := Ground.phase }, { on := 6, ground := Ground.phase }, { on := 7, ground := Ground.phase }, { on := 8, ground := Ground.phase }, { on := 9, ground := Ground.phase }, { on := 10, ground := Ground.phase }, { on := 11, ground := Ground.phase }, { on := 12, ground := Ground.phase }, { on := 13, ground := Ground.phase }, { on := 14, ground := Ground.phase }, { on := 15, ground := Ground.phase }, { on := 16, ground := Ground.phase }], guard := none }) (v := ?_) rfl (by kernel_rfl) (by kernel_rfl) (by kernel_rfl) (fun _ _ _ h => h) (Or.inl ⟨by rfl, ?_⟩) hS2 ?_
      rotate_left
      · intro X hX
        obtain ⟨x0, x1, x2⟩ := hX
        go_simp
        try with_reducible rfl
      simp only [Act.put, List.setIfInBounds_toArray, List.set_cons_zero, List.set_cons_succ, Array.toArray_toList]
      refine wpAnyH_done (by kernel_rfl) ?_ _
      clear hS2
      try simp only [Act.put, List.setIfInBounds_toArray, List.set_cons_zero, List.set_cons_succ]
      obtain ⟨w6, hw6⟩ : ∃ w6, wr.drew = w6 := ⟨_, rfl⟩
      have hI6 := HI.out
      rw [show wr.heap = w6.heap by rw [← hw6]; rfl] at hI6
      have hB6 : Below w.heap.size w w6 := by rw [← hw6]; exact HBe.out.drew
      have s0 : w6.cell? ⟨rb, ro + k * 2, none⟩ = some (.int .i64 L) := by rw [← hw6]; exact r0
      have s1 : w6.cell? ⟨rb, ro + k * 2 + 1, none⟩ = some (.int .i64 H) := by rw [← hw6]; exact r1
      rw [hw6]
      have HI6 := Lib.hid hI6
      have HB6 := Lib.hid hB6
      clear hI6 hB6 HI HBe r0 r1 x0 ak0 ak1 ak2 ak3 hw6 hq1 hq2
      cases ou <;> cases inn
      · have hsl : lowM (k + 1) (frL l) (toL l) lo hi (mOf t c) = P := by rw [HSL.out]; simp
        have hsh : highM (k + 1) (frL l) (toL l) lo hi (mOf t c) = Q := by rw [HSH.out]; simp
        have HSL2 := Lib.hid hsl
        have HSH2 := Lib.hid hsh
        clear hsl hsh HSL HSH
        go_wp2_with fail
        go_roundw
        case rel => exact ⟨k + 1, by omega, by go_num, by rw [HSL2.out], by rw [HSH2.out], HI6.out, HB6.out⟩
        case measure => simp [intOf]; omega
      · have hsl : lowM (k + 1) (frL l) (toL l) lo hi (mOf t c) = P - H := by rw [HSL.out]; simp; omega
        have hsh : highM (k + 1) (frL l) (toL l) lo hi (mOf t c) = Q - L := by rw [HSH.out]; simp; omega
        have HSL2 := Lib.hid hsl
        have HSH2 := Lib.hid hsh
        clear hsl hsh HSL HSH
        have wp1 : IntKind.i64.wrap (P - H) = P - H := IntWalk.i64_in _ (by omega)
        have wp2 : IntKind.i64.wrap (Q - L) = Q - L := IntWalk.i64_in _ (by omega)
        go_wp2_with fail
        go_quiet (fail)
        go_wp2_with fail
        go_roundw
        case rel => exact ⟨k + 1, by omega, by go_num, by rw [HSL2.out], by rw [HSH2.out], HI6.out, HB6.out.drewN _⟩
        case measure => simp [intOf]; omega
      · have hsl : lowM (k + 1) (frL l) (toL l) lo hi (mOf t c) = P + L := by rw [HSL.out]; simp
        have hsh : highM (k + 1) (frL l) (toL l) lo hi (mOf t c) = Q + H := by rw [HSH.out]; simp
        have HSL2 := Lib.hid hsl
        have HSH2 := Lib.hid hsh
        clear hsl hsh HSL HSH
        have wp1 : IntKind.i64.wrap (P + L) = P + L := IntWalk.i64_in _ (by omega)
        have wp2 : IntKind.i64.wrap (Q + H) = Q + H := IntWalk.i64_in _ (by omega)
        go_wp2_with fail
        go_quiet (fail)
        go_wp2_with fail
        go_roundw
        case rel => exact ⟨k + 1, by omega, by go_num, by rw [HSL2.out], by rw [HSH2.out], HI6.out, HB6.out.drewN _⟩
        case measure => simp [intOf]; omega
      · have hsl : lowM (k + 1) (frL l) (toL l) lo hi (mOf t c) = P := by rw [HSL.out]; simp
        have hsh : highM (k + 1) (frL l) (toL l) lo hi (mOf t c) = Q := by rw [HSH.out]; simp
        have HSL2 := Lib.hid hsl
        have HSH2 := Lib.hid hsh
        clear hsl hsh HSL HSH
        go_wp2_with fail
        go_roundw
        case rel => exact ⟨k + 1, by omega, by go_num, by rw [HSL2.out], by rw [HSH2.out], HI6.out, HB6.out⟩
        case measure => simp [intOf]; omega
    · have hlt' : decide ((k : Int) < (n : Int)) = false := by simpa using hlt
      obtain rfl : k = n := by omega
      obtain ⟨P, hP⟩ : ∃ P, lowM k (frL l) (toL l) lo hi (mOf t c) = P := ⟨_, rfl⟩
      obtain ⟨Q, hQ⟩ : ∃ Q, highM k (frL l) (toL l) lo hi (mOf t c) = Q := ⟨_, rfl⟩
      rw [hP, hQ] at hbd ⊢
      have hden : denyB k T C (frL l) (toL l) lo hi t c = (decide (difR t c 5 < P) || decide (Q < difR t c 5)) := by unfold denyB; rw [hP, hQ, hdif.out]
      have HDEN := Lib.hid hden
      have HBe := Lib.hid hBe
      clear hden hP hQ hBe hI hdif
      go_wp2_with fail
      go_loop [14, 15] (fun d i => ∃ j : Nat, j ≤ 5 ∧ i = .int .i64 j ∧ d = .int .i64 (difR t c j)) (fun _ i => 5 - (intOf i).toNat)
      case atStart => exact ⟨0, by omega, rfl, rfl⟩
      case round =>
        obtain ⟨j, hj, rfl, rfl⟩ := hrel
        have hdb := difR_bd t c j
        by_cases hlt5 : j < 5
        · have hlt' : decide ((j : Int) < 5) = true := by simp; omega
          have hq1 := Lib.hid (fun w => has_any t j w (by omega) (by omega) ht32)
          have hq2 := Lib.hid (fun w => has_any c j w (by omega) (by omega) hc32)
          rw [decide_eq_true (show (0 : Int) ≤ (j : Int) by omega), Bool.true_and, Int.toNat_natCast] at hq1 hq2
          have hsd : difR t c (j + 1) = difR t c j + ((if t.testBit j then 36 else 0) - (if c.testBit j then 72 else 0)) := rfl
          obtain ⟨D, hD⟩ : ∃ D, difR t c j = D := ⟨_, rfl⟩
          rw [hD] at hsd hdb ⊢
          have HSD := Lib.hid hsd
          clear hsd hD
          cases e1 : t.testBit j <;> cases e2 : c.testBit j
          all_goals
            rw [e1] at hq1 HSD
            rw [e2] at hq2 HSD
            go_wp2_with fail
            refine (hq1.out _).mono ?_
            rintro e w' ⟨rfl, rfl⟩
            go_wp2_with fail
            refine (hq2.out _).mono ?_
            rintro e w' ⟨rfl, rfl⟩
            go_wp2_with fail
            go_round
            case rel => exact ⟨j + 1, by omega, by go_num, by rw [HSD.out]; first | go_num | (simp; try omega)⟩
            case measure => simp [intOf]; omega
        · have hlt' : decide ((j : Int) < 5) = false := by simp; omega
          obtain rfl : j = 5 := by omega
          obtain ⟨D, hD⟩ : ∃ D, difR t c 5 = D := ⟨_, rfl⟩
          rw [hD] at HDEN ⊢
          clear hD hdb
          cases e1 : decide (D < P)
          · rw [e1] at HDEN
            go_wp2_with fail
            go_ret
            exact ⟨by rw [HDEN.out]; rfl, HBe.out⟩
          · rw [e1] at HDEN
            go_wp2_with fail
            go_ret
            exact ⟨by rw [HDEN.out]; rfl, HBe.out⟩
end Go.Proofs.Ytkloaeaepjoijaa

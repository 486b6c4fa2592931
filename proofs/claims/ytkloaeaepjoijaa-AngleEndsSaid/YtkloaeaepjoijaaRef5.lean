/-
  The reference: IsTruth.
-/
import Derived.Test.YtkloaeaepjoijaaRef4
set_option linter.all false
namespace Go.Proofs.Ytkloaeaepjoijaa
open Go.RowKit Go.WalkArith

/-- Block B is a row of five integers. -/
def FiveAt (W : World) (B : Nat) (g : Int → Int) : Prop :=
  ∃ cs, W.heap[B]? = some (.cells cs 117 (0, 0)) ∧ cs.size = 5 ∧ ∀ i : Nat, i < 5 → cs[i]? = some (.int .i64 (g i))
section
variable {W W' : World} {B : Nat} {g : Int → Int}
theorem FiveAt.cell (h : FiveAt W B g) {i : Nat} (hi : i < 5) : W.cell? ⟨B, i, none⟩ = some (.int .i64 (g i)) := by
  obtain ⟨cs, hb, hs, hc⟩ := h
  simp [World.cell?, hb, hc i hi]
theorem FiveAt.frozen (h : FiveAt W B g) (i : Nat) : W.frozen? ⟨B, i, none⟩ = false := by
  obtain ⟨cs, hb, hs, hc⟩ := h
  simp [World.frozen?, hb]
theorem FiveAt.lt (h : FiveAt W B g) : B < W.heap.size := by
  obtain ⟨cs, hb, _⟩ := h
  exact (Array.getElem?_eq_some_iff.1 hb).1
theorem FiveAt.of_block (h : FiveAt W B g) (hb : W'.heap[B]? = W.heap[B]?) : FiveAt W' B g := by
  obtain ⟨cs, h1, h2⟩ := h
  exact ⟨cs, hb.trans h1, h2⟩
theorem FiveAt.congr {g' : Int → Int} (h : FiveAt W B g) (he : ∀ i : Nat, i < 5 → g' i = g i) : FiveAt W B g' := by
  obtain ⟨cs, h1, h2, h3⟩ := h
  exact ⟨cs, h1, h2, fun i hi => by rw [he i hi]; exact h3 i hi⟩
theorem FiveAt.set (h : FiveAt W B g) {v : Nat} (x : Int) (hv : v < 5) : FiveAt (W.setCell ⟨B, v, none⟩ (.int .i64 x)) B (updG g v x) := by
  obtain ⟨cs, hb, hs, hc⟩ := h
  refine ⟨cs.setIfInBounds v (.int .i64 x), ?_, by simp [hs], fun i hi => ?_⟩
  · simp [World.setCell, Array.getElem?_modify, hb]
  · rw [Array.getElem?_setIfInBounds]
    by_cases e : v = i
    · subst e; simp [hs, hv, updG]
    · rw [if_neg e, hc i hi]
      unfold updG
      rw [if_neg (by omega)]
end

/-- What comes together at a triangle, at a circle. -/
def triS (l : List Ang) (x : Int → Int) (k : Nat) (v : Int) : Int := sumR k fun i => if tOf l i = v then x i else 0
def cirS (l : List Ang) (x : Int → Int) (k : Nat) (v : Int) : Int := sumR k fun i => if cOf l i = v then x i else 0

theorem tri_sums {l : List Ang} {T C : Int} (hok : NetOk l T C) (x : Int → Int) {v : Nat} (hv : v < 5) : triS l x l.length v = sumsP l x l.length v := by
  unfold triS sumsP
  refine sumR_congr fun i hi => ?_
  have ha := hok.ang l[i] (List.getElem_mem hi)
  have hto := hok.to hi
  have ht1 := hok.t1
  rw [if_neg (show ¬ toL l i = (v : Int) by omega), frL_at hi, tOf_at hi]
  unfold nodeOf
  by_cases e : l[i].t = v
  · rw [if_pos e, if_neg (show ¬ l[i].t = -1 by omega), if_pos (show 0 + l[i].t = (v : Int) by omega)]; omega
  · rw [if_neg e]
    by_cases e2 : l[i].t = -1
    · rw [if_pos e2, if_neg (show ¬ (10 : Int) = (v : Int) by omega)]; rfl
    · rw [if_neg e2, if_neg (show ¬ 0 + l[i].t = (v : Int) by omega)]; rfl
theorem cir_sums {l : List Ang} {T C : Int} (hok : NetOk l T C) (x : Int → Int) {v : Nat} (hv : v < 5) : cirS l x l.length v = sumsP l x l.length (5 + v) := by
  unfold cirS sumsP
  refine sumR_congr fun i hi => ?_
  have ha := hok.ang l[i] (List.getElem_mem hi)
  have hfr := hok.fr hi
  have ht1 := hok.t1
  rw [if_neg (show ¬ frL l i = 5 + (v : Int) by omega), toL_at hi, cOf_at hi]
  unfold nodeOf
  by_cases e : l[i].c = v
  · rw [if_pos e, if_neg (show ¬ l[i].c = -1 by omega), if_pos (show 5 + l[i].c = 5 + (v : Int) by omega)]; omega
  · rw [if_neg e]
    by_cases e2 : l[i].c = -1
    · rw [if_pos e2, if_neg (show ¬ (10 : Int) = 5 + (v : Int) by omega)]; rfl
    · rw [if_neg e2, if_neg (show ¬ 5 + l[i].c = 5 + (v : Int) by omega)]; rfl
theorem triS_bd (f : Int → Int) (x : Int → Int) (v : Int) : ∀ k : Nat, (∀ i : Nat, i < k → 0 ≤ x i ∧ x i ≤ 40) → 0 ≤ sumR k (fun i => if f i = v then x i else 0) ∧ sumR k (fun i => if f i = v then x i else 0) ≤ 40 * (k : Int) := by
  intro k
  induction k with
  | zero => intro _; simp [sumR]
  | succ k ih =>
    intro h
    have h1 := ih (fun i hi => h i (by omega))
    have h2 := h k (by omega)
    simp only [sumR]
    split <;> omega

/-- A list is a truth, apart from the net's faults. -/
def isTruthB (l : List Ang) (T C err : Int) (xs : List Int) : Bool := decide (xs.length = l.length) && (roomsB l err (fnOf xs) l.length && sumsB l T C (fnOf xs))
theorem truthB_is {l : List Ang} {T C err : Int} {xs : List Int} : truthB l T C err xs = (decide (askedL l T C err = 0) && isTruthB l T C err xs) := rfl

def five (l : List Ang) (T C : Int) (x : Int → Int) (j : Nat) : Bool := (decide ((j : Int) < T) && triS l x l.length j != 36) || (decide ((j : Int) < C) && cirS l x l.length j != 72)
theorem sums_five {l : List Ang} {T C : Int} (hok : NetOk l T C) (x : Int → Int) : sumsB l T C x = true ↔ ∀ j : Nat, j < 5 → five l T C x j = false := by
  have ht1 := hok.t1
  have hc1 := hok.c1
  unfold sumsB five
  simp only [List.all_eq_true, List.mem_range, Bool.and_eq_true, beq_iff_eq, Bool.or_eq_false_iff, Bool.and_eq_false_iff, decide_eq_false_iff_not, bne_eq_false_iff_eq]
  constructor
  · rintro ⟨h1, h2⟩ j hj
    constructor
    · by_cases h : (j : Int) < T
      · exact .inr (by rw [tri_sums hok x hj]; exact h1 j (by omega))
      · exact .inl h
    · by_cases h : (j : Int) < C
      · exact .inr (by rw [cir_sums hok x hj]; exact h2 j (by omega))
      · exact .inl h
  · intro h
    refine ⟨fun t ht => ?_, fun c hc => ?_⟩
    · rcases (h t (by omega)).1 with h1 | h1
      · omega
      · rw [← tri_sums hok x (by omega)]; exact h1
    · rcases (h c (by omega)).2 with h1 | h1
      · omega
      · rw [← cir_sums hok x (by omega)]; exact h1

def zeros5 : Array Value := #[.int .i64 0, .int .i64 0, .int .i64 0, .int .i64 0, .int .i64 0]
theorem five_zero {W : World} {B : Nat} (h : W.heap[B]? = some (.cells zeros5 117 (0, 0))) : FiveAt W B (fun _ => 0) :=
  ⟨zeros5, h, rfl, fun i hi => by obtain rfl | rfl | rfl | rfl | rfl : i = 0 ∨ i = 1 ∨ i = 2 ∨ i = 3 ∨ i = 4 := (by omega)
                                  all_goals rfl⟩

def IRel (l : List Ang) (err : Int) (x : Int → Int) (n : Nat) (w : World) (Bi Bt Bc : Nat) (net : Obj) (i : Value) (wr : World) : Prop :=
  ∃ k : Nat, k ≤ n ∧ i = .int .i64 k ∧ roomsB l err x k = true ∧ FiveAt wr Bt (triS l x k) ∧ FiveAt wr Bc (cirS l x k) ∧ wr.heap[Bi]? = some net ∧ Below w.heap.size w wr

set_option maxRecDepth 100000 in
set_option maxHeartbeats 4000000 in
theorem refIsTruth_any (b o n cap : Nat) (T C err : Int) (l : List Ang) (rv tv : Value) (xs : List Int) (w : World) (hl : l.length = n) (hok : NetOk l T C) (hA : AngsAt w (some ⟨b, o, none⟩) l) (he0 : 0 ≤ err) (hr : RangesAt w rv n (roomLo l err []) (roomHi l err [])) (ht : IntsAt w tv xs) :
    Calls Try.prog 29 #[.agg #[.slice (some ⟨b, o, none⟩) n cap, .int .i64 T, .int .i64 C], rv, tv] w fun e w' => e = .returned (.bool (isTruthB l T C err xs)) ∧ Below w.heap.size w w' := by
  obtain ⟨Ar, rcap, rfl, hrc⟩ := hr
  obtain ⟨At, tcap, rfl, htx⟩ := ht
  have hn12 : n ≤ 12 := by rw [← hl]; exact hok.len
  by_cases hlen : xs.length = n
  · have hpos : 0 < n := by rw [← hl]; exact hok.pos
    obtain ⟨rb, ro, rfl, hrc2⟩ := hrc.resolve_left (by omega)
    obtain ⟨tb, tf, rfl, htc⟩ := htx.resolve_left (fun h => by rw [h] at hlen; simp at hlen; omega)
    have hxs : ∀ i : Nat, i < n → w.cell? ⟨tb, tf + i, none⟩ = some (.int .i64 (fnOf xs i)) := fun i hi => by rw [htc i (by omega), fnOf_at (by omega)]
    have hisb : isTruthB l T C err xs = (roomsB l err (fnOf xs) n && sumsB l T C (fnOf xs)) := by unfold isTruthB; rw [hl, decide_eq_true hlen, Bool.true_and]
    have HIS := Lib.hid hisb
    have HXS := Lib.hid hxs
    have HRC := Lib.hid hrc2
    have HA := Lib.hid hA
    have HL := Lib.hid hl
    have HO := Lib.hid hok
    have hneq : ((n : Int) != (n : Int)) = false := by simp
    rw [hlen]
    obtain ⟨x, hx⟩ : ∃ x, fnOf xs = x := ⟨_, rfl⟩
    rw [hx] at HIS HXS
    clear hx hisb hxs hrc2 hrc htc htx hA hl hok hlen
    go_enter Try.func29, Try.ntmps29
    go_wp2_with fail
    have hB : Below w.heap.size w (((w.alloc (.cells #[.slice (some ⟨b, o, none⟩) n cap, .int .i64 T, .int .i64 C] 24)).alloc (.cells zeros5 117)).alloc (.cells zeros5 117)) := (((Below.refl _ _).alloc (Nat.le_refl _) _).alloc (by simp) _).alloc (by simp; omega) _
    have h0 : (((w.alloc (.cells #[.slice (some ⟨b, o, none⟩) n cap, .int .i64 T, .int .i64 C] 24)).alloc (.cells zeros5 117)).alloc (.cells zeros5 117)).heap[w.heap.size]? = some (.cells #[.slice (some ⟨b, o, none⟩) n cap, .int .i64 T, .int .i64 C] 24 (0, 0)) := by
      rw [Below.heap_alloc _ _ _ (by simp; try omega), Below.heap_alloc _ _ _ (by simp)]; exact heap_new_at _ _ _ rfl
    have h1 : (((w.alloc (.cells #[.slice (some ⟨b, o, none⟩) n cap, .int .i64 T, .int .i64 C] 24)).alloc (.cells zeros5 117)).alloc (.cells zeros5 117)).heap[w.heap.size + 1]? = some (.cells zeros5 117 (0, 0)) := by
      rw [Below.heap_alloc _ _ _ (by simp)]; exact heap_new_at _ _ _ (by simp)
    have h2 : (((w.alloc (.cells #[.slice (some ⟨b, o, none⟩) n cap, .int .i64 T, .int .i64 C] 24)).alloc (.cells zeros5 117)).alloc (.cells zeros5 117)).heap[w.heap.size + 1 + 1]? = some (.cells zeros5 117 (0, 0)) := heap_new_at _ _ _ (by simp)
    have HB := Lib.hid hB
    have H0 := Lib.hid h0
    have H1 := Lib.hid (five_zero h1)
    have H2 := Lib.hid (five_zero h2)
    clear hB h0 h1 h2
    unfold zeros5 at HB H0 H1 H2
    generalize ((w.alloc (.cells #[.slice (some ⟨b, o, none⟩) n cap, .int .i64 T, .int .i64 C] 24)).alloc _).alloc _ = w1 at HB H0 H1 H2 ⊢
    obtain ⟨Bi, hBi⟩ : ∃ Bi, w.heap.size = Bi := ⟨_, rfl⟩
    obtain ⟨Bt, hBt⟩ : ∃ Bt, w.heap.size + 1 = Bt := ⟨_, rfl⟩
    obtain ⟨Bc, hBc⟩ : ∃ Bc, w.heap.size + 1 + 1 = Bc := ⟨_, rfl⟩
    have o1 : w.heap.size ≤ Bi := by omega
    have o2 : Bi < Bt := by omega
    have o3 : Bt < Bc := by omega
    rw [hBc] at H2 ⊢
    rw [hBt] at H1 ⊢
    rw [hBi] at H0 ⊢
    clear hBi hBt hBc
    go_loopw [9] (IRel l err x n w Bi Bt Bc (.cells #[.slice (some ⟨b, o, none⟩) n cap, .int .i64 T, .int .i64 C] 24 (0, 0))) (fun i _ => n - (intOf i).toNat)
    case atStart => exact ⟨0, by omega, rfl, rfl, H1.out.congr (fun i _ => rfl), H2.out.congr (fun i _ => rfl), H0.out, HB.out⟩
    case round =>
      clear HB H0 H1 H2
      obtain ⟨k, hk, rfl, hro, hS, hK, hI, hBe⟩ := hrel
      by_cases hlt : k < n
      · have hlt' : decide ((k : Int) < (n : Int)) = true := by simpa using hlt
        have hlk : k < l.length := by rw [HL.out]; exact hlt
        have hAw := HA.out.keep hBe (Nat.le_refl _)
        obtain ⟨b', o', hAe, hAs⟩ := hAw.resolve_left (fun h => by rw [h] at hlk; simp at hlk)
        obtain ⟨rfl, rfl⟩ : b = b' ∧ o = o' := by simpa using hAe
        obtain ⟨ak0, ak1, ak2, ak3⟩ := hAs k hlk
        have han := HO.out.ang l[k] (List.getElem_mem hlk)
        have htk := tOf_at hlk
        have hck := cOf_at hlk
        obtain ⟨a, ha⟩ : ∃ a, l[k] = a := ⟨_, rfl⟩
        rw [ha] at ak0 ak1 han htk hck
        have ht1 := HO.out.t1
        have hc1 := HO.out.c1
        have r0 := (HRC.out k hlt).1
        have r1 := (HRC.out k hlt).2
        have q0 := HXS.out k hlt
        have hrbl := World.block_lt_of_cell? w _ r0
        have hqbl := World.block_lt_of_cell? w _ q0
        rw [← hBe.cell (p := ⟨rb, ro + k * 2, none⟩) hrbl] at r0
        rw [← hBe.cell (p := ⟨rb, ro + k * 2 + 1, none⟩) hrbl] at r1
        rw [← hBe.cell (p := ⟨tb, tf + k, none⟩) hqbl] at q0
        have x0 : wr.cell? ⟨Bi, 0, none⟩ = some (.slice (some ⟨b, o, none⟩) n cap) := by simp [World.cell?, hI]
        have hrk := rooms_ok HO.out he0 []
        have hlo := hrk.lo0 k hlk
        have hhi := hrk.hi1 k hlk
        have hxall : ∀ i : Nat, i < k → 0 ≤ x i ∧ x i ≤ 40 := fun i hi => by
          have h1 : inB (x i) (roomLo l err [] i) (roomHi l err [] i) = true := by
            have := hro
            unfold roomsB at this
            exact List.all_eq_true.1 this i (List.mem_range.2 hi)
          have h2 := inB_true.1 h1
          have a1 := hrk.lo0 i (by omega)
          have a2 := hrk.hi1 i (by omega)
          omega
        have hbt := fun v => triS_bd (tOf l) x v k hxall
        have hbc := fun v => triS_bd (cOf l) x v k hxall
        have hst : ∀ v, triS l x (k + 1) v = triS l x k v + (if a.t = v then x k else 0) := fun v => by rw [← htk]; rfl
        have hsc : ∀ v, cirS l x (k + 1) v = cirS l x k v + (if a.c = v then x k else 0) := fun v => by rw [← hck]; rfl
        obtain ⟨L, hL⟩ : ∃ L, roomLo l err [] k = L := ⟨_, rfl⟩
        obtain ⟨H, hH⟩ : ∃ H, roomHi l err [] k = H := ⟨_, rfl⟩
        obtain ⟨X, hX⟩ : ∃ X, x k = X := ⟨_, rfl⟩
        rw [hL] at r0 hlo
        rw [hH] at r1 hhi
        rw [hX] at q0 hst hsc
        have HRO := Lib.hid hro
        have HS := Lib.hid hS
        have HK := Lib.hid hK
        have HI := Lib.hid hI
        have HBe := Lib.hid hBe
        have HL2 := Lib.hid hL
        have HH2 := Lib.hid hH
        have HX2 := Lib.hid hX
        have HST := Lib.hid hst
        have HSC := Lib.hid hsc
        have HBT := Lib.hid hbt
        have HBC := Lib.hid hbc
        have i1 : (0 : Int) ≤ (k : Int) := by omega
        have i2 : (k : Int) < (n : Int) := by omega
        have i3 : (k : Int) < (xs.length : Int) → True := fun _ => trivial
        clear hro hS hK hI hBe hL hH hX hst hsc hbt hbc hxall hrk htk hck ha hAs hAe hAw i3
        have hin := Lib.hid (fun w => refIn_any X L H w)
        cases hb : inB X L H with
        | false =>
          rw [hb] at hin
          have hrf : roomsB l err x n = false := roomsB_false hlt (by rw [HL2.out, HH2.out, HX2.out]; exact hb)
          have HRF := Lib.hid hrf
          clear hrf hb
          go_wp2_with fail
          go_region_held3 (fun Y => Y.cell? ⟨rb, ro + k * 2, none⟩ = some (.int .i64 L) ∧ Y.cell? ⟨rb, ro + k * 2 + 1, none⟩ = some (.int .i64 H) ∧ Y.cell? ⟨tb, tf + k, none⟩ = some (.int .i64 X)) (go_keep) (first | (go_at_call 46; refine (hin.out _).mono ?_; rintro e w' ⟨rfl, rfl⟩))
          go_wp2_with fail
          go_ret
          exact ⟨by rw [HIS.out, HRF.out]; rfl, HBe.out.drew⟩
        | true =>
          rw [hb] at hin
          have hin2 := inB_true.1 hb
          have hrs1 : roomsB l err x (k + 1) = true := by rw [roomsB_succ, HRO.out, HL2.out, HH2.out, HX2.out, hb]; rfl
          have HRS1 := Lib.hid hrs1
          clear hrs1 hb
          go_wp2_with fail
          go_region_held3 (fun Y => Y.cell? ⟨rb, ro + k * 2, none⟩ = some (.int .i64 L) ∧ Y.cell? ⟨rb, ro + k * 2 + 1, none⟩ = some (.int .i64 H) ∧ Y.cell? ⟨tb, tf + k, none⟩ = some (.int .i64 X)) (go_keep) (first | (go_at_call 46; refine (hin.out _).mono ?_; rintro e w' ⟨rfl, rfl⟩))
          obtain ⟨w4, hw4⟩ : ∃ w4, wr.drew = w4 := ⟨_, rfl⟩
          have hS4 : FiveAt w4 Bt (triS l x k) := HS.out.of_block (by rw [← hw4]; rfl)
          have hK4 : FiveAt w4 Bc (cirS l x k) := HK.out.of_block (by rw [← hw4]; rfl)
          have hI4 := HI.out
          rw [show wr.heap = w4.heap by rw [← hw4]; rfl] at hI4
          have hB4 : Below w.heap.size w w4 := by rw [← hw4]; exact HBe.out.drew
          have g0 : w4.cell? ⟨b, o + k * 4, none⟩ = some (.int .i64 a.t) := by rw [← hw4]; exact ak0
          have g1 : w4.cell? ⟨b, o + k * 4 + 1, none⟩ = some (.int .i64 a.c) := by rw [← hw4]; exact ak1
          have g2 : w4.cell? ⟨tb, tf + k, none⟩ = some (.int .i64 X) := by rw [← hw4]; exact q0
          have g3 : w4.cell? ⟨Bi, 0, none⟩ = some (.slice (some ⟨b, o, none⟩) n cap) := by rw [← hw4]; exact x0
          have hbb := World.block_lt_of_cell? w4 _ g0
          have hbl : b < w.heap.size := by
            obtain ⟨b', o', hAe, hAs⟩ := HA.out.resolve_left (fun h => by rw [h] at hlk; simp at hlk)
            obtain ⟨rfl, rfl⟩ : b = b' ∧ o = o' := by simpa using hAe
            exact World.block_lt_of_cell? w _ (hAs k hlk).1
          rw [hw4]
          have HS4 := Lib.hid hS4
          have HK4 := Lib.hid hK4
          have HI4 := Lib.hid hI4
          have HB4 := Lib.hid hB4
          clear hS4 hK4 hI4 hB4 HS HK HI HBe ak0 ak1 ak2 ak3 r0 r1 q0 x0 hw4 hin hbb
          by_cases ht : 0 ≤ a.t
          · obtain ⟨p, hp⟩ : ∃ p : Nat, a.t = p := ⟨a.t.toNat, by omega⟩
            have hbp := HBT.out p
            have hst2 := fun v => HST.out v
            rw [hp] at hst2 g0 ht
            have hd : decide ((0 : Int) ≤ (p : Int)) = true := by simp
            have p5 : p < 5 := by omega
            have c0 := HS4.out.cell p5
            have z0 := HS4.out.frozen p
            have i3 : (0 : Int) ≤ (p : Int) := by omega
            have i4 : (p : Int) < 5 := by omega
            obtain ⟨G, hG⟩ : ∃ G, triS l x k p = G := ⟨_, rfl⟩
            have hbp2 : 0 ≤ G ∧ G ≤ 40 * (k : Int) := by rw [← hG]; exact hbp
            rw [hG] at c0
            have HG := Lib.hid hG
            have HST2 := Lib.hid hst2
            clear hG hst2 hbp
            have wp1 : IntKind.i64.wrap (G + X) = G + X := IntWalk.i64_in _ (by omega)
            go_wp2_with fail
            go_region
            have hs7 : ∀ j, j ≠ Bt → (w4.setCell ⟨Bt, p, none⟩ (.int .i64 (G + X))).drew.heap[j]? = w4.heap[j]? := fun j hj => Below.heap_setCell _ _ _ _ hj
            have hS7 := (HS4.out.set (v := p) (G + X) p5).of_block (W' := (w4.setCell ⟨Bt, p, none⟩ (.int .i64 (G + X))).drew) rfl
            have hK7 := HK4.out.of_block (hs7 Bc (by omega))
            have hI7 := (hs7 Bi (by omega)).trans HI4.out
            have hB7 : Below w.heap.size w (w4.setCell ⟨Bt, p, none⟩ (.int .i64 (G + X))).drew := (HB4.out.setCell (by simp; omega) _).drew
            have f1 := (cell_block (p := ⟨b, o + k * 4 + 1, none⟩) (hs7 b (by omega))).trans g1
            have f2 := (cell_block (p := ⟨tb, tf + k, none⟩) (hs7 tb (by omega))).trans g2
            have f3 := (cell_block (p := ⟨Bi, 0, none⟩) (hs7 Bi (by omega))).trans g3
            clear hs7
            generalize (w4.setCell ⟨Bt, p, none⟩ (.int .i64 (G + X))).drew = w5 at hS7 hK7 hI7 hB7 f1 f2 f3 ⊢
            have hS8 : FiveAt w5 Bt (triS l x (k + 1)) := hS7.congr (fun i _ => by
              rw [HST2.out]; unfold updG
              by_cases e : (i : Int) = p
              · rw [if_pos e, if_pos e.symm, e, HG.out]
              · rw [if_neg e, if_neg (fun h => e h.symm)]; omega)
            have HS5 := Lib.hid hS8
            have HK5 := Lib.hid hK7
            have HI5 := Lib.hid hI7
            have HB5 := Lib.hid hB7
            clear hS7 hS8 hK7 hI7 hB7 HS4 HK4 HI4 HB4 g0 g1 g2 g3 c0 z0 wp1 HG HST2 hd
            by_cases hc : 0 ≤ a.c
            · obtain ⟨q, hq⟩ : ∃ q : Nat, a.c = q := ⟨a.c.toNat, by omega⟩
              have hbq := HBC.out q
              have hsc2 := fun v => HSC.out v
              rw [hq] at hsc2 f1 hc
              have he : decide ((0 : Int) ≤ (q : Int)) = true := by simp
              have q5 : q < 5 := by omega
              have c0 := HK5.out.cell q5
              have z0 := HK5.out.frozen q
              have i5 : (0 : Int) ≤ (q : Int) := by omega
              have i6 : (q : Int) < 5 := by omega
              obtain ⟨G, hG⟩ : ∃ G, cirS l x k q = G := ⟨_, rfl⟩
              have hbq2 : 0 ≤ G ∧ G ≤ 40 * (k : Int) := by rw [← hG]; exact hbq
              rw [hG] at c0
              have HG := Lib.hid hG
              have HSC2 := Lib.hid hsc2
              clear hG hsc2 hbq
              have wp1 : IntKind.i64.wrap (G + X) = G + X := IntWalk.i64_in _ (by omega)
              go_wp2_with fail
              go_region
              have hs7 : ∀ j, j ≠ Bc → (w5.setCell ⟨Bc, q, none⟩ (.int .i64 (G + X))).drew.heap[j]? = w5.heap[j]? := fun j hj => Below.heap_setCell _ _ _ _ hj
              have hK7 := (HK5.out.set (v := q) (G + X) q5).of_block (W' := (w5.setCell ⟨Bc, q, none⟩ (.int .i64 (G + X))).drew) rfl
              have hS7 := HS5.out.of_block (hs7 Bt (by omega))
              have hI7 := (hs7 Bi (by omega)).trans HI5.out
              have hB7 : Below w.heap.size w (w5.setCell ⟨Bc, q, none⟩ (.int .i64 (G + X))).drew := (HB5.out.setCell (by simp; omega) _).drew
              clear hs7
              generalize (w5.setCell ⟨Bc, q, none⟩ (.int .i64 (G + X))).drew = w6 at hS7 hK7 hI7 hB7 ⊢
              have hK8 : FiveAt w6 Bc (cirS l x (k + 1)) := hK7.congr (fun i _ => by
                rw [HSC2.out]; unfold updG
                by_cases e : (i : Int) = q
                · rw [if_pos e, if_pos e.symm, e, HG.out]
                · rw [if_neg e, if_neg (fun h => e h.symm)]; omega)
              have HS6 := Lib.hid hS7
              have HK6 := Lib.hid hK8
              have HI6 := Lib.hid hI7
              have HB6 := Lib.hid hB7
              clear hS7 hK7 hK8 hI7 hB7 HS5 HK5 HI5 HB5 f1 f2 f3 c0 z0 wp1 HG HSC2 he
              go_wp2_with fail
              go_roundw
              case rel => exact ⟨k + 1, by omega, by go_num, HRS1.out, HS6.out, HK6.out, HI6.out, HB6.out⟩
              case measure => simp [intOf]; omega
            · have he : decide (0 ≤ a.c) = false := by simpa using hc
              have hK8 : FiveAt w5 Bc (cirS l x (k + 1)) := HK5.out.congr (fun i _ => by rw [HSC.out, if_neg (by omega)]; omega)
              have HK6 := Lib.hid hK8
              clear hK8 HK5
              go_wp2_with fail
              go_roundw
              case rel => exact ⟨k + 1, by omega, by go_num, HRS1.out, HS5.out, HK6.out, HI5.out, HB5.out⟩
              case measure => simp [intOf]; omega
          · have hd : decide (0 ≤ a.t) = false := by simpa using ht
            have hS8 : FiveAt w4 Bt (triS l x (k + 1)) := HS4.out.congr (fun i _ => by rw [HST.out, if_neg (by omega)]; omega)
            have HS5 := Lib.hid hS8
            have HK5 := Lib.hid HK4.out
            have HI5 := Lib.hid HI4.out
            have HB5 := Lib.hid HB4.out
            have f1 := g1
            have f2 := g2
            have f3 := g3
            clear hS8 HS4 HK4 HI4 HB4 g1 g2
            obtain ⟨w5, hw5⟩ : ∃ w5, w4 = w5 := ⟨_, rfl⟩
            rw [hw5] at HS5 HK5 HI5 HB5 f1 f2 f3 g0 g3 ⊢
            by_cases hc : 0 ≤ a.c
            · obtain ⟨q, hq⟩ : ∃ q : Nat, a.c = q := ⟨a.c.toNat, by omega⟩
              have hbq := HBC.out q
              have hsc2 := fun v => HSC.out v
              rw [hq] at hsc2 f1 hc
              have he : decide ((0 : Int) ≤ (q : Int)) = true := by simp
              have q5 : q < 5 := by omega
              have c0 := HK5.out.cell q5
              have z0 := HK5.out.frozen q
              have i5 : (0 : Int) ≤ (q : Int) := by omega
              have i6 : (q : Int) < 5 := by omega
              obtain ⟨G, hG⟩ : ∃ G, cirS l x k q = G := ⟨_, rfl⟩
              have hbq2 : 0 ≤ G ∧ G ≤ 40 * (k : Int) := by rw [← hG]; exact hbq
              rw [hG] at c0
              have HG := Lib.hid hG
              have HSC2 := Lib.hid hsc2
              clear hG hsc2 hbq
              have wp1 : IntKind.i64.wrap (G + X) = G + X := IntWalk.i64_in _ (by omega)
              go_wp2_with fail
              go_region
              have hs7 : ∀ j, j ≠ Bc → (w5.setCell ⟨Bc, q, none⟩ (.int .i64 (G + X))).drew.heap[j]? = w5.heap[j]? := fun j hj => Below.heap_setCell _ _ _ _ hj
              have hK7 := (HK5.out.set (v := q) (G + X) q5).of_block (W' := (w5.setCell ⟨Bc, q, none⟩ (.int .i64 (G + X))).drew) rfl
              have hS7 := HS5.out.of_block (hs7 Bt (by omega))
              have hI7 := (hs7 Bi (by omega)).trans HI5.out
              have hB7 : Below w.heap.size w (w5.setCell ⟨Bc, q, none⟩ (.int .i64 (G + X))).drew := (HB5.out.setCell (by simp; omega) _).drew
              clear hs7
              generalize (w5.setCell ⟨Bc, q, none⟩ (.int .i64 (G + X))).drew = w6 at hS7 hK7 hI7 hB7 ⊢
              have hK8 : FiveAt w6 Bc (cirS l x (k + 1)) := hK7.congr (fun i _ => by
                rw [HSC2.out]; unfold updG
                by_cases e : (i : Int) = q
                · rw [if_pos e, if_pos e.symm, e, HG.out]
                · rw [if_neg e, if_neg (fun h => e h.symm)]; omega)
              have HS6 := Lib.hid hS7
              have HK6 := Lib.hid hK8
              have HI6 := Lib.hid hI7
              have HB6 := Lib.hid hB7
              clear hS7 hK7 hK8 hI7 hB7 HS5 HK5 HI5 HB5 f1 f2 f3 c0 z0 wp1 HG HSC2 he
              go_wp2_with fail
              go_roundw
              case rel => exact ⟨k + 1, by omega, by go_num, HRS1.out, HS6.out, HK6.out, HI6.out, HB6.out⟩
              case measure => simp [intOf]; omega
            · have he : decide (0 ≤ a.c) = false := by simpa using hc
              have hK8 : FiveAt w5 Bc (cirS l x (k + 1)) := HK5.out.congr (fun i _ => by rw [HSC.out, if_neg (by omega)]; omega)
              have HK6 := Lib.hid hK8
              clear hK8 HK5
              go_wp2_with fail
              go_roundw
              case rel => exact ⟨k + 1, by omega, by go_num, HRS1.out, HS5.out, HK6.out, HI5.out, HB5.out⟩
              case measure => simp [intOf]; omega
      · have hlt' : decide ((k : Int) < (n : Int)) = false := by simpa using hlt
        obtain rfl : k = n := by omega
        have c1 : wr.cell? ⟨Bi, 1, none⟩ = some (.int .i64 T) := by simp [World.cell?, hI]
        have c2 : wr.cell? ⟨Bi, 2, none⟩ = some (.int .i64 C) := by simp [World.cell?, hI]
        have hsf := Lib.hid (sums_five HO.out x)
        have HIS2 := Lib.hid (show isTruthB l T C err xs = sumsB l T C x by rw [HIS.out, hro]; rfl)
        have HS := Lib.hid hS
        have HK := Lib.hid hK
        have HBe := Lib.hid hBe
        have ht1 := HO.out.t1
        have hc1 := HO.out.c1
        clear hro hS hK hI hBe HIS
        go_wp2_with fail
        go_loop [12] (fun i => ∃ j : Nat, j ≤ 5 ∧ i = .int .i64 j ∧ ∀ m : Nat, m < j → five l T C x m = false) (fun i => 5 - (intOf i).toNat)
        case atStart => exact ⟨0, by omega, rfl, fun m h => by omega⟩
        case round =>
          obtain ⟨j, hj, rfl, hall⟩ := hrel
          have HALL := Lib.hid hall
          clear hall
          by_cases hj5 : j < 5
          · have hlt5 : decide ((j : Int) < 5) = true := by simp; omega
            have s0 := HS.out.cell hj5
            have s1 := HK.out.cell hj5
            have i1 : (0 : Int) ≤ (j : Int) := by omega
            have i2 : (j : Int) < 5 := by omega
            have hfv : five l T C x j = ((decide ((j : Int) < T) && triS l x k j != 36) || (decide ((j : Int) < C) && cirS l x k j != 72)) := by unfold five; rw [HL.out]
            obtain ⟨G, hG⟩ : ∃ G, triS l x k j = G := ⟨_, rfl⟩
            obtain ⟨K, hK⟩ : ∃ K, cirS l x k j = K := ⟨_, rfl⟩
            rw [hG] at s0
            rw [hK] at s1
            rw [hG, hK] at hfv
            have HFV := Lib.hid hfv
            clear hfv hG hK
            cases e1 : decide ((j : Int) < T) <;> cases e2 : decide ((j : Int) < C) <;> cases e3 : (G != 36) <;> cases e4 : (K != 72)
            all_goals
              rw [e1, e2, e3, e4] at HFV
              first
              | (have hfv : five l T C x j = false := HFV.out
                 have HF2 := Lib.hid hfv
                 clear hfv HFV
                 go_wp2_with fail
                 go_round
                 case rel => exact ⟨j + 1, by omega, by go_num, fun m hm => by
                   by_cases e : m = j
                   · rw [e]; exact HF2.out
                   · exact HALL.out m (by omega)⟩
                 case measure => simp [intOf]; omega)
              | (have hfv : five l T C x j = true := HFV.out
                 have hff : isTruthB l T C err xs = false := by
                   rw [HIS2.out]
                   cases h : sumsB l T C x with
                   | false => rfl
                   | true => have := hsf.out.1 h j hj5; rw [hfv] at this; cases this
                 have HFF := Lib.hid hff
                 clear hfv hff HFV
                 go_wp2_with fail
                 go_ret
                 exact ⟨by rw [HFF.out]; rfl, HBe.out⟩)
          · have hlt5 : decide ((j : Int) < 5) = false := by simp; omega
            have hff : isTruthB l T C err xs = true := by rw [HIS2.out]; exact hsf.out.2 fun m hm => HALL.out m (by omega)
            have HFF := Lib.hid hff
            clear hff
            go_wp2_with fail
            go_ret
            exact ⟨by rw [HFF.out]; rfl, HBe.out⟩
  · have hneq : ((xs.length : Int) != (n : Int)) = true := by rw [bne_iff_ne]; omega
    have hf : isTruthB l T C err xs = false := by unfold isTruthB; rw [hl, decide_eq_false hlen]; rfl
    have HF := Lib.hid hf
    clear hf hrc htx hA hl hok hlen
    go_enter Try.func29, Try.ntmps29
    go_wp2_with fail
    go_ret
    exact ⟨by rw [HF.out]; rfl, (Below.refl _ _).alloc (Nat.le_refl _) _⟩
end Go.Proofs.Ytkloaeaepjoijaa

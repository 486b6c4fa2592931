/-
  Plain: what ProveTruth says; the chapter's net. six, ints.
-/
import Derived.Test.YtkloaeaepjoijaaPCut
set_option linter.all false
namespace Go.Proofs.Ytkloaeaepjoijaa
open Go.RowKit Go.WalkArith

theorem sumR_nil {k : Nat} {f : Nat → Int} (h : ∀ i : Nat, i < k → f i = 0) : sumR k f = 0 := by
  rw [sumR_congr h, sumR_zero]

/-- What a triangle's node gives, what a circle's gives. -/
theorem give9_tri {l : List Ang} {T C : Int} (hok : NetOk l T C) (x : Int → Int) {v : Nat} (hv : v < 5) : give9 l.length T C (frL l) (toL l) x v = (if (v : Int) < T then 36 else 0) - sumsP l x l.length v := by
  unfold give9 sumsP
  have hb : base T C v = if (v : Int) < T then 36 else 0 := by
    unfold base
    by_cases h : (v : Int) < T
    · rw [if_pos ⟨by omega, h⟩, if_pos h]
    · rw [if_neg (by omega), if_neg (by omega), if_neg h]
  rw [hb]
  have : sumR l.length (fun i => (if toL l i = v then x i else 0) - (if frL l i = v then x i else 0)) = sumR l.length (fun i => - ((if frL l i = v then x i else 0) + (if toL l i = v then x i else 0))) := sumR_congr fun i hi => by
    have := hok.to hi
    rw [if_neg (show ¬ toL l i = v by omega)]
    omega
  rw [this, sumR_neg]
  omega
theorem give9_cir {l : List Ang} {T C : Int} (hok : NetOk l T C) (x : Int → Int) {v : Nat} (hv : v < 5) : give9 l.length T C (frL l) (toL l) x ((5 + v : Nat) : Int) = sumsP l x l.length (5 + v) - (if (v : Int) < C then 72 else 0) := by
  unfold give9 sumsP
  have ht1 := hok.t1
  have hb : base T C ((5 + v : Nat) : Int) = - if (v : Int) < C then 72 else 0 := by
    unfold base
    rw [if_neg (by omega)]
    by_cases h : (v : Int) < C
    · rw [if_pos (by omega), if_pos h]
    · rw [if_neg (by omega), if_neg h]; rfl
  rw [hb]
  have : sumR l.length (fun i => (if toL l i = ((5 + v : Nat) : Int) then x i else 0) - (if frL l i = ((5 + v : Nat) : Int) then x i else 0)) = sumR l.length (fun i => (if frL l i = 5 + (v : Int) then x i else 0) + (if toL l i = 5 + (v : Int) then x i else 0)) := sumR_congr fun i hi => by
    have := hok.fr hi
    rw [if_neg (show ¬ frL l i = ((5 + v : Nat) : Int) by omega), if_neg (show ¬ frL l i = 5 + (v : Int) by omega), show ((5 + v : Nat) : Int) = 5 + (v : Int) by omega]
    omega
  rw [this]
  omega

/-- No angle belongs to a node beyond the net's. -/
theorem sumsP_out {l : List Ang} {T C : Int} (hok : NetOk l T C) (x : Int → Int) {v : Nat} (hv : v < 10) (h : ¬ ((v : Int) < T ∨ (5 ≤ (v : Int) ∧ (v : Int) < 5 + C))) : sumsP l x l.length v = 0 := by
  unfold sumsP
  refine sumR_nil fun i hi => ?_
  have h1 := hok.fr hi
  have h2 := hok.to hi
  rw [if_neg (by omega), if_neg (by omega)]
  rfl

theorem truth_iff {l : List Ang} {T C err : Int} (hok : NetOk l T C) (x : Int → Int) : TruthE l T C err [] x ↔ (roomsB l err x l.length = true ∧ sumsB l T C x = true) := by
  have ht0 := hok.t0
  have ht1 := hok.t1
  have hc0 := hok.c0
  have hc1 := hok.c1
  unfold TruthE TruthN roomsB sumsB
  simp only [List.all_eq_true, List.mem_range, Bool.and_eq_true, inB_true, beq_iff_eq]
  constructor
  · rintro ⟨h1, h2⟩
    refine ⟨h1, fun t ht => ?_, fun c hc => ?_⟩
    · have := h2 t (by omega)
      rw [give9_tri hok x (by omega), if_pos (by omega)] at this
      omega
    · have := h2 (5 + c) (by omega)
      rw [give9_cir hok x (by omega), if_pos (by omega)] at this
      omega
  · rintro ⟨h1, h2, h3⟩
    refine ⟨h1, fun v hv => ?_⟩
    by_cases h5 : v < 5
    · rw [give9_tri hok x h5]
      by_cases h : (v : Int) < T
      · rw [if_pos h]; have := h2 v (by omega); omega
      · rw [if_neg h, sumsP_out hok x hv (by omega)]; rfl
    · obtain ⟨c, rfl⟩ : ∃ c, v = 5 + c := ⟨v - 5, by omega⟩
      rw [give9_cir hok x (by omega)]
      by_cases h : (c : Int) < C
      · rw [if_pos h]; have := h3 c (by omega); omega
      · have := sumsP_out hok x hv (by omega)
        rw [show ((5 + c : Nat) : Int) = 5 + (c : Int) by omega] at this
        rw [if_neg h, this]; rfl

theorem truthB_iff {l : List Ang} {T C err : Int} {xs : List Int} : truthB l T C err xs = true ↔ askedL l T C err = 0 ∧ xs.length = l.length ∧ TruthE l T C err [] (fnOf xs) := by
  unfold truthB
  simp only [Bool.and_eq_true, decide_eq_true_eq]
  constructor
  · rintro ⟨h1, h2, h3, h4⟩
    exact ⟨h1, h2, (truth_iff (askedL_ok h1).1 _).2 ⟨h3, h4⟩⟩
  · rintro ⟨h1, h2, h3⟩
    have := (truth_iff (askedL_ok h1).1 _).1 h3
    exact ⟨h1, h2, this.1, this.2⟩

theorem TruthE.congr {l : List Ang} {T C err : Int} {out : List Int} {x y : Int → Int} (h : TruthE l T C err out x) (e : ∀ i : Nat, i < l.length → y i = x i) : TruthE l T C err out y := by
  refine ⟨fun i hi => ?_, fun v hv => ?_⟩
  · rw [e i hi]; exact h.1 i hi
  · rw [← h.2 v hv]
    unfold give9
    congr 1
    exact sumR_congr fun i hi => by rw [e i hi]

theorem truthB_can {l : List Ang} {T C err : Int} {xs : List Int} (h : truthB l T C err xs = true) : canE l T C err [] = true := by
  obtain ⟨h1, _, h3⟩ := truthB_iff.1 h
  exact canB_of_truth (askedL_ok h1).1 h3

/-- The chapter's net. -/
def sixL : List Ang := [⟨0, -1, 10, 1⟩, ⟨0, -1, 12, 1⟩, ⟨0, 0, 17, 1⟩, ⟨1, 0, 18, 1⟩, ⟨-1, 0, 36, 1⟩, ⟨1, -1, 20, 1⟩]

theorem six_ok : NetOk sixL 2 1 := faultL_zero.1 (by decide +kernel)
theorem six_leastN : leastN sixL 2 1 = 2 := by decide +kernel
theorem six_leastE : leastE sixL 2 1 = 0 := by decide +kernel
theorem six_sure2 : sureL sixL 2 1 2 = 0 := by decide +kernel
theorem six_can1 : canE sixL 2 1 1 [] = false := by decide +kernel
theorem six_leave : leaveO sixL 2 1 0 = some [0, 2, 3] := by decide +kernel
theorem six_asked0 : askedL sixL 2 1 0 = 0 := by decide +kernel
theorem six_asked2 : askedL sixL 2 1 2 = 0 := by decide +kernel
theorem six_cut : cutB sixL 2 1 1 [0, 1] [0] = true := by decide +kernel
theorem six_ctl : (ctlL sixL 2 1 2 6).length = 6 := by decide +kernel

theorem IsLow.unique {P : Int → Bool} {lo hi r s : Int} (h : IsLow P lo hi r) (g : IsLow P lo hi s) : r = s := by
  rcases Int.lt_trichotomy r s with a | a | a
  · have := g.no r h.ge a; rw [h.yes] at this; cases this
  · exact a
  · have := h.no s g.ge a; rw [g.yes] at this; cases this
theorem IsHigh.unique {P : Int → Bool} {lo hi r s : Int} (h : IsHigh P lo hi r) (g : IsHigh P lo hi s) : r = s := by
  rcases Int.lt_trichotomy r s with a | a | a
  · have := h.no s a g.le; rw [g.yes] at this; cases this
  · exact a
  · have := g.no r a h.le; rw [h.yes] at this; cases this

theorem six_low0 : IsLow (pointB sixL 2 1 (roomLo sixL 2 []) (roomHi sixL 2 []) 0) (roomLo sixL 2 [] 0) (roomHi sixL 2 [] 0) 8 :=
  ⟨by decide +kernel, by decide +kernel, by decide +kernel, fun y h1 h2 => by have : roomLo sixL 2 [] 0 = 8 := by decide +kernel
                                                                              omega⟩
theorem six_high0 : IsHigh (pointB sixL 2 1 (roomLo sixL 2 []) (roomHi sixL 2 []) 0) (roomLo sixL 2 [] 0) (roomHi sixL 2 [] 0) 10 :=
  ⟨by decide +kernel, by decide +kernel, by decide +kernel, fun y h1 h2 => by
    have : roomHi sixL 2 [] 0 = 12 := by decide +kernel
    obtain rfl | rfl : y = 11 ∨ y = 12 := by omega
    all_goals decide +kernel⟩
theorem six_low4 : IsLow (pointB sixL 2 1 (roomLo sixL 2 []) (roomHi sixL 2 []) 4) (roomLo sixL 2 [] 4) (roomHi sixL 2 [] 4) 36 :=
  ⟨by decide +kernel, by decide +kernel, by decide +kernel, fun y h1 h2 => by
    have : roomLo sixL 2 [] 4 = 34 := by decide +kernel
    obtain rfl | rfl : y = 34 ∨ y = 35 := by omega
    all_goals decide +kernel⟩
theorem six_high4 : IsHigh (pointB sixL 2 1 (roomLo sixL 2 []) (roomHi sixL 2 []) 4) (roomLo sixL 2 [] 4) (roomHi sixL 2 [] 4) 38 :=
  ⟨by decide +kernel, by decide +kernel, by decide +kernel, fun y h1 h2 => by have : roomHi sixL 2 [] 4 = 38 := by decide +kernel
                                                                              omega⟩
theorem six_low5 : IsLow (pointB sixL 2 1 (roomLo sixL 2 []) (roomHi sixL 2 []) 5) (roomLo sixL 2 [] 5) (roomHi sixL 2 [] 5) 18 :=
  ⟨by decide +kernel, by decide +kernel, by decide +kernel, fun y h1 h2 => by have : roomLo sixL 2 [] 5 = 18 := by decide +kernel
                                                                              omega⟩
theorem six_high5 : IsHigh (pointB sixL 2 1 (roomLo sixL 2 []) (roomHi sixL 2 []) 5) (roomLo sixL 2 [] 5) (roomHi sixL 2 [] 5) 20 :=
  ⟨by decide +kernel, by decide +kernel, by decide +kernel, fun y h1 h2 => by
    have : roomHi sixL 2 [] 5 = 22 := by decide +kernel
    obtain rfl | rfl : y = 21 ∨ y = 22 := by omega
    all_goals decide +kernel⟩

def SixPost (w : World) (e : Ending) (w' : World) : Prop := ∃ b, e = .returned (.agg #[.slice (some ⟨b, 0, none⟩) 6 6, .int .i64 2, .int .i64 1]) ∧ AngsAt w' (some ⟨b, 0, none⟩) sixL ∧ Below w.heap.size w w'

set_option maxRecDepth 100000 in
set_option maxHeartbeats 2000000 in
theorem six_any (w : World) : Calls Try.prog 65 #[] w (SixPost w) := by
  go_enter Try.func65, Try.ntmps65
  go_wp2_with fail
  have hcell : ((w.alloc (.cells #[.slice (some ⟨w.heap.size + 1, 0, none⟩) 6 6, .int .i64 2, .int .i64 1] 33)).alloc (.cells #[.int .i64 0, .int .i64 (-1), .int .i64 10, .int .i64 1, .int .i64 0, .int .i64 (-1), .int .i64 12, .int .i64 1, .int .i64 0, .int .i64 0, .int .i64 17, .int .i64 1, .int .i64 1, .int .i64 0, .int .i64 18, .int .i64 1, .int .i64 (-1), .int .i64 0, .int .i64 36, .int .i64 1, .int .i64 1, .int .i64 (-1), .int .i64 20, .int .i64 1] 104)).heap[w.heap.size + 1]? = _ := heap_alloc2 _ _ _
  refine bodyPost_ret (v := .agg #[.slice (some ⟨w.heap.size + 1, 0, none⟩) 6 6, .int .i64 2, .int .i64 1]) (by simp [results, Try.results65, go_sem]) rfl ⟨_, rfl, .inr ⟨_, 0, rfl, fun i h => ?_⟩, ((Below.refl _ _).alloc (Nat.le_refl _) _).alloc (by simp) _⟩
  have h6 : i < 6 := h
  revert hcell
  generalize (w.alloc _).alloc _ = W
  intro hcell
  obtain rfl | rfl | rfl | rfl | rfl | rfl : i = 0 ∨ i = 1 ∨ i = 2 ∨ i = 3 ∨ i = 4 ∨ i = 5 := by omega
  all_goals exact ⟨by simp [World.cell?, hcell, sixL], by simp [World.cell?, hcell, sixL], by simp [World.cell?, hcell, sixL], by simp [World.cell?, hcell, sixL]⟩

set_option maxRecDepth 100000 in
set_option maxHeartbeats 2000000 in
theorem ints_any (va vb : Value) (xs ys : List Int) (w : World) (ha : IntsAt w va xs) (hb : IntsAt w vb ys) (hn : xs.length ≤ 1000000) :
    Calls Try.prog 42 #[va, vb] w fun e w' => e = .returned (.bool (decide (xs = ys))) ∧ Below w.heap.size w w' := by
  obtain ⟨A, cap, rfl, hx⟩ := ha
  obtain ⟨B, cap2, rfl, hy⟩ := hb
  have HX := Lib.hid hx
  have HY := Lib.hid hy
  clear hx hy
  by_cases hl : xs.length = ys.length
  · have hne : ((xs.length : Int) != (ys.length : Int)) = false := by simp [hl]
    have HLL := Lib.hid hl
    rw [← hl]
    clear hl
    go_enter Try.func42, Try.ntmps42
    go_wp2_with fail
    go_loopw [5] (fun i wr => ∃ k : Nat, k ≤ xs.length ∧ i = .int .i64 k ∧ (∀ j, j < k → xs.getD j 0 = ys.getD j 0) ∧ Below w.heap.size w wr) (fun i _ => xs.length - (intOf i).toNat)
    case atStart => exact ⟨0, by omega, rfl, fun j h => by omega, Below.refl _ _⟩
    case round =>
      obtain ⟨k, hk, rfl, hno, hbe⟩ := hrel
      have HNO := Lib.hid hno
      have HBE := Lib.hid hbe
      clear hno hbe
      by_cases hlt : k < xs.length
      · have hlt' : decide ((k : Int) < (xs.length : Int)) = true := by simpa using hlt
        obtain ⟨b, o, rfl, hc⟩ := HX.out.resolve_left (fun h => by rw [h] at hlt; simp at hlt)
        have hlt2 : k < ys.length := by rw [← HLL.out]; exact hlt
        obtain ⟨b2, o2, rfl, hd⟩ := HY.out.resolve_left (fun h => by rw [h] at hlt2; simp at hlt2)
        have ck := hc k hlt
        have dk := hd k hlt2
        rw [← HBE.out.cell (World.block_lt_of_cell? w _ ck)] at ck
        rw [← HBE.out.cell (World.block_lt_of_cell? w _ dk)] at dk
        obtain ⟨y, hy⟩ : ∃ y, xs[k] = y := ⟨_, rfl⟩
        obtain ⟨z, hz⟩ : ∃ z, ys[k] = z := ⟨_, rfl⟩
        rw [hy] at ck
        rw [hz] at dk
        have hyd : xs.getD k 0 = y := by simp [hlt, hy]
        have hzd : ys.getD k 0 = z := by simp [hlt2, hz]
        have HYD := Lib.hid hyd
        have HZD := Lib.hid hzd
        have i1 : (0 : Int) ≤ (k : Int) := by omega
        have i2 : (k : Int) < (xs.length : Int) := by omega
        clear hc hd hyd hzd hy hz
        by_cases e : y = z
        · subst e
          have hb : (y != y) = false := by simp
          go_wp2_with fail
          go_region_held3 (fun X => X.cell? ⟨b, o + k, none⟩ = some (.int .i64 y) ∧ X.cell? ⟨b2, o2 + k, none⟩ = some (.int .i64 y)) (go_keep) (fail)
          go_wp2_with fail
          go_roundw
          case rel => exact ⟨k + 1, by omega, by go_num, fun j hj => by
            by_cases e : j = k
            · rw [e, HYD.out, HZD.out]
            · exact HNO.out j (by omega), HBE.out.drew⟩
          case measure => simp [intOf]; omega
        · have hb : (y != z) = true := by simpa using e
          have hf : decide (xs = ys) = false := by
            rw [decide_eq_false_iff_not]
            rintro rfl
            exact e (HYD.out.symm.trans HZD.out)
          have HF := Lib.hid hf
          clear hf
          go_wp2_with fail
          go_region_held3 (fun X => X.cell? ⟨b, o + k, none⟩ = some (.int .i64 y) ∧ X.cell? ⟨b2, o2 + k, none⟩ = some (.int .i64 z)) (go_keep) (fail)
          go_wp2_with fail
          go_ret
          exact ⟨by rw [HF.out]; rfl, HBE.out.drew⟩
      · have hlt' : decide ((k : Int) < (xs.length : Int)) = false := by simpa using hlt
        have hf : decide (xs = ys) = true := by
          rw [decide_eq_true_eq]
          apply List.ext_getElem HLL.out
          intro j h1 h2
          have := HNO.out j (by omega)
          simpa [h1, h2] using this
        have HF := Lib.hid hf
        clear hf
        go_wp2_with fail
        go_ret
        exact ⟨by rw [HF.out]; rfl, HBE.out⟩
  · have hne : ((xs.length : Int) != (ys.length : Int)) = true := by rw [bne_iff_ne]; omega
    have hf : decide (xs = ys) = false := by
      rw [decide_eq_false_iff_not]
      rintro rfl
      exact hl rfl
    have HF := Lib.hid hf
    clear hf hl
    go_enter Try.func42, Try.ntmps42
    go_wp2_with fail
    go_ret
    exact ⟨by rw [HF.out]; rfl, Below.refl _ _⟩
end Go.Proofs.Ytkloaeaepjoijaa

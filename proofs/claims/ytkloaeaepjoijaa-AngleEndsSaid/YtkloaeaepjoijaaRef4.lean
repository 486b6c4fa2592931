/-
  The reference: Proves.
-/
import Derived.Test.YtkloaeaepjoijaaRef3
set_option linter.all false
namespace Go.Proofs.Ytkloaeaepjoijaa
open Go.RowKit Go.WalkArith

/-- The bits of some numbers. -/
def orL (xs : List Int) (k : Nat) : Nat := (xs.take k).foldl (fun a x => a ||| 2 ^ x.toNat) 0

theorem orL_succ {xs : List Int} {k : Nat} (h : k < xs.length) : orL xs (k + 1) = orL xs k ||| 2 ^ xs[k].toNat := by
  unfold orL
  rw [List.take_succ_eq_append_getElem h, List.foldl_append]
  rfl
theorem orL_bit {xs : List Int} (h0 : ∀ x ∈ xs, 0 ≤ x) (i : Nat) : ∀ k, k ≤ xs.length → (orL xs k).testBit i = (xs.take k).contains (i : Int) := by
  intro k
  induction k with
  | zero => intro _; simp [orL]
  | succ k ih =>
    intro hk
    rw [orL_succ (by omega), Nat.testBit_or, ih (by omega), List.take_succ_eq_append_getElem (by omega)]
    rw [Bool.eq_iff_iff]
    have hx := h0 xs[k] (List.getElem_mem (by omega))
    simp only [Bool.or_eq_true, Nat.testBit_two_pow, List.contains_iff_mem, List.mem_append, List.mem_singleton, decide_eq_true_eq]
    constructor
    · rintro (h | h)
      · exact .inl h
      · exact .inr (by omega)
    · rintro (h | h)
      · exact .inl h
      · exact .inr (by omega)
theorem orL_lt {xs : List Int} {T : Nat} (h0 : ∀ x ∈ xs, 0 ≤ x ∧ x < T) : ∀ k, k ≤ xs.length → orL xs k < 2 ^ T := by
  intro k
  induction k with
  | zero => intro _; exact Nat.two_pow_pos T
  | succ k ih =>
    intro hk
    rw [orL_succ (by omega)]
    have hx := h0 xs[k] (List.getElem_mem (by omega))
    exact Nat.or_lt_two_pow (ih (by omega)) (Nat.pow_lt_pow_right (by decide) (by omega))

theorem rises_in {xs : List Int} {many : Int} (h : risingB xs many = true) : ∀ x ∈ xs, 0 ≤ x ∧ x < many := by
  intro x hx
  obtain ⟨i, hi, rfl⟩ := List.getElem_of_mem hx
  have := List.all_eq_true.1 h i (List.mem_range.2 hi)
  unfold risesAt at this
  rw [Bool.and_eq_true] at this
  have h1 := inB_true.1 this.1
  have e : xs.getD i 0 = xs[i] := by simp [hi]
  omega
theorem rises_lt {xs : List Int} {many : Int} (h : risingB xs many = true) : ∀ j i : Nat, (hj : j < xs.length) → (hi : i < j) → xs[i] < xs[j] := by
  intro j
  induction j with
  | zero => intro i _ hi; omega
  | succ j ih =>
    intro i hj hi
    have := List.all_eq_true.1 h (j + 1) (List.mem_range.2 hj)
    unfold risesAt at this
    rw [Bool.and_eq_true, show j + 1 - 1 = j by omega] at this
    have h3 : xs.getD j 0 < xs.getD (j + 1) 0 := by simpa using this.2
    have e1 : xs.getD j 0 = xs[j] := by simp [show j < xs.length by omega]
    have e2 : xs.getD (j + 1) 0 = xs[j + 1] := by simp [hj]
    rw [e1, e2] at h3
    by_cases e : i = j
    · subst e; exact h3
    · have := ih i (by omega) (by omega); omega

theorem sumR_hit {m : Nat} {x : Int} (h0 : 0 ≤ x) (h1 : x < m) (f : Int) : sumR m (fun i => if x = (i : Int) then f else 0) = f := by
  induction m with
  | zero => omega
  | succ m ih =>
    simp only [sumR]
    by_cases e : x = m
    · rw [if_pos e, sumR_nil (fun i hi => by rw [if_neg (by omega)])]; omega
    · rw [if_neg e, ih (by omega)]; omega

theorem sum_count (f : Int) (m : Nat) : ∀ xs : List Int, xs.Pairwise (· < ·) → (∀ x ∈ xs, 0 ≤ x ∧ x < m) → sumR m (fun i => if xs.contains (i : Int) then f else 0) = f * xs.length := by
  intro xs
  induction xs with
  | nil => intro _ _; rw [sumR_nil (fun i _ => by simp)]; simp
  | cons x r ih =>
    intro hp hb
    rw [List.pairwise_cons] at hp
    have h1 := ih hp.2 (fun y hy => hb y (List.mem_cons_of_mem _ hy))
    have hx := hb x (List.mem_cons_self ..)
    have e : sumR m (fun i => if (x :: r).contains (i : Int) then f else 0) = sumR m (fun i => (if x = (i : Int) then f else 0) + (if r.contains (i : Int) then f else 0)) := sumR_congr fun i _ => by
      by_cases e : x = (i : Int)
      · have : r.contains (i : Int) = false := by
          cases h : r.contains (i : Int) with
          | false => rfl
          | true => have := hp.1 _ (List.contains_iff_mem.1 h); omega
        rw [if_pos e, this, show (x :: r).contains (i : Int) = true by rw [List.contains_iff_mem]; exact List.mem_cons.2 (.inl e.symm)]
        simp
      · have : (x :: r).contains (i : Int) = r.contains (i : Int) := by
          rw [Bool.eq_iff_iff]; simp only [List.contains_iff_mem, List.mem_cons]
          exact ⟨fun h => h.resolve_left (fun h => e h.symm), .inr⟩
        rw [this, if_neg e]; omega
    rw [e, sumR_add, sumR_hit hx.1 hx.2, h1, List.length_cons]
    rw [show ((r.length + 1 : Nat) : Int) = (r.length : Int) + 1 by omega, Int.mul_add]; omega

/-- What a cut of lists says, by bits. -/
theorem cut_deny {l : List Ang} {T C err : Int} (hok : NetOk l T C) {ts cs : List Int} (ht : risingB ts T = true) (hc : risingB cs C = true) (lo hi : Int → Int) :
    denyB l.length T C (frL l) (toL l) lo hi (orL ts ts.length) (orL cs cs.length) = !inB ((ts.length : Int) * 36 - (cs.length : Int) * 72) (lowC l lo hi ts cs l.length) (highC l lo hi ts cs l.length) := by
  have ht0 := hok.t0
  have ht1 := hok.t1
  have hc0 := hok.c0
  have hc1 := hok.c1
  have bt := rises_in ht
  have bc := rises_in hc
  have lt1 := orL_lt (T := T.toNat) (fun x hx => ⟨(bt x hx).1, by have := (bt x hx).2; omega⟩) ts.length (Nat.le_refl _)
  have lt2 := orL_lt (T := C.toNat) (fun x hx => ⟨(bc x hx).1, by have := (bc x hx).2; omega⟩) cs.length (Nat.le_refl _)
  have b1 : ∀ i : Nat, (orL ts ts.length).testBit i = ts.contains (i : Int) := fun i => by rw [orL_bit (fun x hx => (bt x hx).1) i _ (Nat.le_refl _), List.take_length]
  have b2 : ∀ i : Nat, (orL cs cs.length).testBit i = cs.contains (i : Int) := fun i => by rw [orL_bit (fun x hx => (bc x hx).1) i _ (Nat.le_refl _), List.take_length]
  have hd : diffM T C (mOf (orL ts ts.length) (orL cs cs.length)) = (ts.length : Int) * 36 - (cs.length : Int) * 72 := by
    rw [← difR_eq ht1 hc1 lt1 lt2]
    unfold difR
    have e : sumR 5 (fun i => (if (orL ts ts.length).testBit i = true then (36 : Int) else 0) - (if (orL cs cs.length).testBit i = true then 72 else 0)) = sumR 5 (fun i => (if ts.contains (i : Int) = true then (36 : Int) else 0) + - (if cs.contains (i : Int) = true then 72 else 0)) := sumR_congr fun i _ => by rw [b1, b2]; omega
    rw [e, sumR_add, sumR_neg, sum_count 36 5 ts (List.pairwise_iff_getElem.2 fun i j hi hj hij => rises_lt ht j i hj hij) (fun x hx => by have := bt x hx; omega), sum_count 72 5 cs (List.pairwise_iff_getElem.2 fun i j hi hj hij => rises_lt hc j i hj hij) (fun x hx => by have := bc x hx; omega)]
    omega
  have hm1 : ∀ i : Nat, i < l.length → mOf (orL ts ts.length) (orL cs cs.length) (frL l i) = ts.contains (tOf l i) := fun i hi => by
    have ha := hok.ang l[i] (List.getElem_mem hi)
    rw [frL_at hi, mOf_tri (by omega) (by omega), tOf_at hi]
    by_cases h : 0 ≤ l[i].t
    · rw [decide_eq_true h, Bool.true_and, b1]; rw [show ((l[i].t.toNat : Nat) : Int) = l[i].t by omega]
    · rw [decide_eq_false h, Bool.false_and]
      cases e : ts.contains l[i].t with
      | false => rfl
      | true => have := bt _ (List.contains_iff_mem.1 e); omega
  have hm2 : ∀ i : Nat, i < l.length → mOf (orL ts ts.length) (orL cs cs.length) (toL l i) = cs.contains (cOf l i) := fun i hi => by
    have ha := hok.ang l[i] (List.getElem_mem hi)
    rw [toL_at hi, mOf_cir (by omega) (by omega), cOf_at hi]
    by_cases h : 0 ≤ l[i].c
    · rw [decide_eq_true h, Bool.true_and, b2]; rw [show ((l[i].c.toNat : Nat) : Int) = l[i].c by omega]
    · rw [decide_eq_false h, Bool.false_and]
      cases e : cs.contains l[i].c with
      | false => rfl
      | true => have := bc _ (List.contains_iff_mem.1 e); omega
  have hlo : lowM l.length (frL l) (toL l) lo hi (mOf (orL ts ts.length) (orL cs cs.length)) = lowC l lo hi ts cs l.length := sumR_congr fun i hi => by rw [hm1 i hi, hm2 i hi]
  have hhi : highM l.length (frL l) (toL l) lo hi (mOf (orL ts ts.length) (orL cs cs.length)) = highC l lo hi ts cs l.length := sumR_congr fun i hi => by rw [hm1 i hi, hm2 i hi]
  unfold denyB
  rw [hd, hlo, hhi]
  unfold inB
  rw [Bool.eq_iff_iff]
  simp only [Bool.or_eq_true, decide_eq_true_eq, Bool.not_eq_true', decide_eq_false_iff_not]
  omega

theorem or_at {a y : Nat} (ha : a < 2 ^ 5) (hy : y ≤ 4) : bits BinOp.or IntKind.i64 (a : Int) (wrap64 (2 ^ y)) = ((a ||| 2 ^ y : Nat) : Int) := by
  have key : ∀ a : Fin 32, ∀ y : Fin 5, bits BinOp.or IntKind.i64 (a.1 : Int) (wrap64 (2 ^ y.1)) = ((a.1 ||| 2 ^ y.1 : Nat) : Int) := by decide +kernel
  exact key ⟨a, ha⟩ ⟨y, by omega⟩

/-- A cut proves, apart from the net's faults. -/
def provesB (l : List Ang) (T C err : Int) (ts cs : List Int) : Bool :=
  risingB ts T && (risingB cs C && !inB ((ts.length : Int) * 36 - (cs.length : Int) * 72) (lowC l (roomLo l err []) (roomHi l err []) ts cs l.length) (highC l (roomLo l err []) (roomHi l err []) ts cs l.length))
theorem cutB_proves {l : List Ang} {T C err : Int} {ts cs : List Int} : cutB l T C err ts cs = (decide (askedL l T C err = 0) && provesB l T C err ts cs) := rfl

set_option maxRecDepth 100000 in
set_option maxHeartbeats 4000000 in
theorem refProves_any (b o n cap : Nat) (T C err : Int) (l : List Ang) (tv cv : Value) (ts cs : List Int) (w : World) (hl : l.length = n) (hok : NetOk l T C) (hA : AngsAt w (some ⟨b, o, none⟩) l) (he0 : 0 ≤ err) (he1 : err ≤ 40) (ht : IntsAt w tv ts) (hc : IntsAt w cv cs) (htl : ts.length ≤ 1000000) (hcl : cs.length ≤ 1000000) :
    Calls Try.prog 31 #[.agg #[.slice (some ⟨b, o, none⟩) n cap, .int .i64 T, .int .i64 C], .int .i64 err, .agg #[tv, cv]] w fun e w' => e = .returned (.bool (provesB l T C err ts cs)) ∧ Below w.heap.size w w' := by
  obtain ⟨At, tcap, htv, htx⟩ := ht
  obtain ⟨Ac, ccap, hcv, hcx⟩ := hc
  have ht2 : IntsAt w tv ts := ⟨At, tcap, htv, htx⟩
  have hc2 : IntsAt w cv cs := ⟨Ac, ccap, hcv, hcx⟩
  rw [htv] at ht2 ⊢
  rw [hcv] at hc2 ⊢
  have HT := Lib.hid ht2
  have HC := Lib.hid hc2
  have HTX := Lib.hid htx
  have HCX := Lib.hid hcx
  clear htv hcv htx hcx ht2 hc2
  have hB : Below w.heap.size w ((w.alloc (.cells #[.slice (some ⟨b, o, none⟩) n cap, .int .i64 T, .int .i64 C] 24)).alloc (.cells #[.slice At ts.length tcap, .slice Ac cs.length ccap] 27)) := ((Below.refl _ _).alloc (Nat.le_refl _) _).alloc (by simp) _
  have n0 : ((w.alloc (.cells #[.slice (some ⟨b, o, none⟩) n cap, .int .i64 T, .int .i64 C] 24)).alloc (.cells #[.slice At ts.length tcap, .slice Ac cs.length ccap] 27)).heap[w.heap.size]? = some (.cells #[.slice (some ⟨b, o, none⟩) n cap, .int .i64 T, .int .i64 C] 24 (0, 0)) := (Below.heap_alloc _ _ _ (by simp)).trans (heap_new_at _ _ _ rfl)
  have u0 := heap_alloc2 w (.cells #[.slice (some ⟨b, o, none⟩) n cap, .int .i64 T, .int .i64 C] 24) (.cells #[.slice At ts.length tcap, .slice Ac cs.length ccap] 27)
  have c1 : ((w.alloc (.cells #[.slice (some ⟨b, o, none⟩) n cap, .int .i64 T, .int .i64 C] 24)).alloc (.cells #[.slice At ts.length tcap, .slice Ac cs.length ccap] 27)).cell? ⟨w.heap.size, 1, none⟩ = some (.int .i64 T) := by simp only [World.cell?, n0]; rfl
  have hr1 := Lib.hid (refRising_any _ ts T _ (HT.out.keep hB (Nat.le_refl _)) htl hok.t0 hok.t1)
  have HB := Lib.hid hB
  have HN := Lib.hid n0
  have HU := Lib.hid u0
  have HA := Lib.hid hA
  have HO := Lib.hid hok
  have HL := Lib.hid hl
  have ht0 := hok.t0
  have ht1 := hok.t1
  have hc0 := hok.c0
  have hc1 := hok.c1
  clear hB n0 u0 hA hok hl c1
  go_enter Try.func31, Try.ntmps31
  go_wp2_with fail
  refine hr1.out.mono ?_
  rintro e w1 ⟨rfl, hb1⟩
  have hB1 : Below w.heap.size w w1 := HB.out.trans (hb1.mono HB.out.size)
  have hN1 := (hb1.block w.heap.size (by simp; omega)).trans HN.out
  have hU1 := (hb1.block (w.heap.size + 1) (by simp)).trans HU.out
  obtain ⟨Bi, hBi⟩ : ∃ Bi, w.heap.size = Bi := ⟨_, rfl⟩
  obtain ⟨Bu, hBu⟩ : ∃ Bu, w.heap.size + 1 = Bu := ⟨_, rfl⟩
  rw [hBu] at hU1 ⊢
  rw [hBi] at hN1 ⊢
  have c2 : w1.cell? ⟨Bi, 2, none⟩ = some (.int .i64 C) := by simp [World.cell?, hN1]
  have d0 : w1.cell? ⟨Bu, 0, none⟩ = some (.slice At ts.length tcap) := by simp [World.cell?, hU1]
  have d1 : w1.cell? ⟨Bu, 1, none⟩ = some (.slice Ac cs.length ccap) := by simp [World.cell?, hU1]
  have hr2 := Lib.hid (refRising_any _ cs C w1 (HC.out.keep hB1 (Nat.le_refl _)) hcl hc0 hc1)
  have HB1 := Lib.hid hB1
  have HN1 := Lib.hid hN1
  have HU1 := Lib.hid hU1
  clear hB1 hN1 hU1 hb1 hr1 HB HN HU hBi hBu
  cases hrt : risingB ts T with
  | false =>
    have hcb : provesB l T C err ts cs = false := by unfold provesB; rw [hrt]; rfl
    have HCB := Lib.hid hcb
    clear hrt hcb
    go_wp2_with fail
    go_ret
    exact ⟨by rw [HCB.out]; rfl, HB1.out⟩
  | true =>
    have htin := rises_in hrt
    cases hrc : risingB cs C with
    | false =>
      rw [hrc] at hr2
      have hcb : provesB l T C err ts cs = false := by unfold provesB; rw [hrc]; simp
      have HCB := Lib.hid hcb
      clear hrt hcb hrc
      go_wp2_with fail
      refine hr2.out.mono ?_
      rintro e w2 ⟨rfl, hb2⟩
      have hB2 := Lib.hid (HB1.out.trans (hb2.mono HB1.out.size))
      clear hb2
      go_wp2_with fail
      go_ret
      exact ⟨by rw [HCB.out]; rfl, hB2.out⟩
    | true =>
      rw [hrc] at hr2
      have hcin := rises_in hrc
      have hcb : provesB l T C err ts cs = denyB l.length T C (frL l) (toL l) (roomLo l err []) (roomHi l err []) (orL ts ts.length) (orL cs cs.length) := by rw [cut_deny (err := err) HO.out hrt hrc]; unfold provesB; rw [hrt, hrc]; rfl
      have HCB := Lib.hid hcb
      clear hcb
      go_wp2_with fail
      refine hr2.out.mono ?_
      rintro e w2 ⟨rfl, hb2⟩
      have hB2 := HB1.out.trans (hb2.mono HB1.out.size)
      have hN2 := (hb2.block Bi (Array.getElem?_eq_some_iff.1 HN1.out).1).trans HN1.out
      have hU2 := (hb2.block Bu (Array.getElem?_eq_some_iff.1 HU1.out).1).trans HU1.out
      have e0 : w2.cell? ⟨Bu, 0, none⟩ = some (.slice At ts.length tcap) := by simp [World.cell?, hU2]
      have e1 : w2.cell? ⟨Bu, 1, none⟩ = some (.slice Ac cs.length ccap) := by simp [World.cell?, hU2]
      have HB2 := Lib.hid hB2
      have HN2 := Lib.hid hN2
      have HU2 := Lib.hid hU2
      have HTIN := Lib.hid htin
      have HCIN := Lib.hid hcin
      clear hB2 hN2 hU2 hb2 hr2 HB1 HN1 HU1 c2 d0 d1 hrt hrc htin hcin
      go_wp2_with fail
      go_loop [7, 9] (fun a i => ∃ k : Nat, k ≤ ts.length ∧ i = .int .i64 k ∧ a = .int .i64 (orL ts k)) (fun _ i => ts.length - (intOf i).toNat)
      case atStart => exact ⟨0, by omega, rfl, rfl⟩
      case round =>
        obtain ⟨k, hk, rfl, rfl⟩ := hrel
        by_cases hlt : k < ts.length
        · have hlt' : decide ((k : Int) < (ts.length : Int)) = true := by simpa using hlt
          obtain ⟨tb, tf, rfl, htc⟩ := HTX.out.resolve_left (fun h => by rw [h] at hlt; simp at hlt)
          have ck := htc k hlt
          rw [← HB2.out.cell (World.block_lt_of_cell? w _ ck)] at ck
          have hin := HTIN.out ts[k] (List.getElem_mem hlt)
          have hor := orL_succ hlt
          obtain ⟨y, hy⟩ : ∃ y : Nat, ts[k] = y := ⟨ts[k].toNat, by omega⟩
          rw [hy] at ck hor hin
          rw [Int.toNat_natCast] at hor
          have HOR := Lib.hid hor
          have y4 : y ≤ 4 := by omega
          have i1 : (0 : Int) ≤ (k : Int) := by omega
          have i2 : (k : Int) < (ts.length : Int) := by omega
          clear hor hy htc
          have hlt5 := orL_lt (T := 5) (fun x hx => by have := HTIN.out x hx; omega) k hk
          have hoa := or_at hlt5 y4
          have HOA := Lib.hid hoa
          clear hoa
          go_wp2_with fail
          refine ⟨⟨k + 1, by omega, by go_num, by rw [HOA.out, HOR.out]⟩, ?_⟩
          simp [intOf]; omega
        · have hlt' : decide ((k : Int) < (ts.length : Int)) = false := by simpa using hlt
          obtain rfl : k = ts.length := by omega
          have hlt5 := orL_lt (T := T.toNat) (fun x hx => by have := HTIN.out x hx; omega) ts.length (Nat.le_refl _)
          go_wp2_with fail
          go_loop [8, 10] (fun a i => ∃ k : Nat, k ≤ cs.length ∧ i = .int .i64 k ∧ a = .int .i64 (orL cs k)) (fun _ i => cs.length - (intOf i).toNat)
          case atStart => exact ⟨0, by omega, rfl, rfl⟩
          case round =>
            obtain ⟨k, hk, rfl, rfl⟩ := hrel
            by_cases hlt : k < cs.length
            · have hlt' : decide ((k : Int) < (cs.length : Int)) = true := by simpa using hlt
              obtain ⟨tb, tf, rfl, htc⟩ := HCX.out.resolve_left (fun h => by rw [h] at hlt; simp at hlt)
              have ck := htc k hlt
              rw [← HB2.out.cell (World.block_lt_of_cell? w _ ck)] at ck
              have hin := HCIN.out cs[k] (List.getElem_mem hlt)
              have hor := orL_succ hlt
              obtain ⟨y, hy⟩ : ∃ y : Nat, cs[k] = y := ⟨cs[k].toNat, by omega⟩
              rw [hy] at ck hor hin
              rw [Int.toNat_natCast] at hor
              have HOR := Lib.hid hor
              have y4 : y ≤ 4 := by omega
              have i1 : (0 : Int) ≤ (k : Int) := by omega
              have i2 : (k : Int) < (cs.length : Int) := by omega
              clear hor hy htc
              have hoa := or_at (orL_lt (T := 5) (fun x hx => by have := HCIN.out x hx; omega) k hk) y4
              have HOA := Lib.hid hoa
              clear hoa
              go_wp2_with fail
              refine ⟨⟨k + 1, by omega, by go_num, by rw [HOA.out, HOR.out]⟩, ?_⟩
              simp [intOf]; omega
            · have hlt' : decide ((k : Int) < (cs.length : Int)) = false := by simpa using hlt
              obtain rfl : k = cs.length := by omega
              have hltc := orL_lt (T := C.toNat) (fun x hx => by have := HCIN.out x hx; omega) cs.length (Nat.le_refl _)
              have x0 : w2.cell? ⟨Bi, 0, none⟩ = some (.slice (some ⟨b, o, none⟩) n cap) := by simp [World.cell?, HN2.out]
              have x1 : w2.cell? ⟨Bi, 1, none⟩ = some (.int .i64 T) := by simp [World.cell?, HN2.out]
              have x2 : w2.cell? ⟨Bi, 2, none⟩ = some (.int .i64 C) := by simp [World.cell?, HN2.out]
              have hrm := refRooms_any b o n cap T C err l 0 w2.drew HL.out HO.out (HA.out.keep HB2.out.drew (Nat.le_refl _)) he0 he1 (by decide)
              rw [bitsL_zero] at hrm
              have HRM := Lib.hid hrm
              clear hrm
              obtain ⟨tt, htt⟩ : ∃ tt, orL ts ts.length = tt := ⟨_, rfl⟩
              obtain ⟨cc, hcc⟩ : ∃ cc, orL cs cs.length = cc := ⟨_, rfl⟩
              rw [htt] at hlt5 HCB ⊢
              rw [hcc] at hltc HCB ⊢
              clear htt hcc
              go_wp2_with fail
              refine wp_region_held_drew (S := fun X => X.cell? ⟨Bi, 0, none⟩ = some (.slice (some ⟨b, o, none⟩) n cap) ∧ X.cell? ⟨Bi, 1, none⟩ = some (.int .i64 T) ∧ X.cell? ⟨Bi, 2, none⟩ = some (.int .i64 C)) (by kernel_rfl) (⟨x0, x1, x2⟩) (fun hS0 => ?_)
              refine wpAnyH_take (i := 0) (oi := { dst := some 57, op := Op.load 24 (Operand.tmp 3), type := 24, pos := "ref.go:197", after := #[], guard := none }) (v := ?_) rfl (by kernel_rfl) (by kernel_rfl) (by kernel_rfl) (fun _ _ _ h => h) (Or.inl ⟨by rfl, ?_⟩) hS0 ?_
              rotate_left
              · intro X hX
                obtain ⟨x0, x1, x2⟩ := hX
                go_simp
                try with_reducible rfl
              simp only [Act.put, List.setIfInBounds_toArray, List.set_cons_zero, List.set_cons_succ, Array.toArray_toList]
              refine wpAnyH_take (i := 1) (oi := { dst := some 58, op := Op.load 24 (Operand.tmp 3), type := 24, pos := "ref.go:197", after := #[], guard := none }) (v := ?_) rfl (by kernel_rfl) (by kernel_rfl) (by kernel_rfl) (fun _ _ _ h => h) (Or.inl ⟨by rfl, ?_⟩) hS0 ?_
              rotate_left
              · intro X hX
                obtain ⟨x0, x1, x2⟩ := hX
                go_simp
                try with_reducible rfl
              simp only [Act.put, List.setIfInBounds_toArray, List.set_cons_zero, List.set_cons_succ, Array.toArray_toList]
              refine wpAnyH_take (i := 2) (oi := { dst := some 59, op := Op.move (Operand.tmp 1), type := 3, pos := "ref.go:197", after := #[], guard := none }) (v := ?_) rfl (by kernel_rfl) (by kernel_rfl) (by kernel_rfl) (fun _ _ _ h => h) (Or.inl ⟨by rfl, ?_⟩) hS0 ?_
              rotate_left
              · intro X hX
                obtain ⟨x0, x1, x2⟩ := hX
                go_simp
                try with_reducible rfl
              simp only [Act.put, List.setIfInBounds_toArray, List.set_cons_zero, List.set_cons_succ, Array.toArray_toList]
              refine wpAnyH_take (i := 4) (oi := { dst := some 61, op := Op.move (Operand.tmp 7), type := 3, pos := "ref.go:197", after := #[], guard := none }) (v := ?_) rfl (by kernel_rfl) (by kernel_rfl) (by kernel_rfl) (fun _ _ _ h => h) (Or.inl ⟨by rfl, ?_⟩) hS0 ?_
              rotate_left
              · intro X hX
                obtain ⟨x0, x1, x2⟩ := hX
                go_simp
                try with_reducible rfl
              simp only [Act.put, List.setIfInBounds_toArray, List.set_cons_zero, List.set_cons_succ, Array.toArray_toList]
              refine wpAnyH_take (i := 5) (oi := { dst := some 62, op := Op.move (Operand.tmp 8), type := 3, pos := "ref.go:197", after := #[], guard := none }) (v := ?_) rfl (by kernel_rfl) (by kernel_rfl) (by kernel_rfl) (fun _ _ _ h => h) (Or.inl ⟨by rfl, ?_⟩) hS0 ?_
              rotate_left
              · intro X hX
                obtain ⟨x0, x1, x2⟩ := hX
                go_simp
                try with_reducible rfl
              simp only [Act.put, List.setIfInBounds_toArray, List.set_cons_zero, List.set_cons_succ, Array.toArray_toList]
              refine wpAnyH_ready (rs := [3]) (by kernel_rfl) (by simp) (AllReadyH.cons (o := { dst := some 60, op := Op.call { callee := Callee.value (Operand.func 30), args := #[Operand.tmp 58, Operand.tmp 59, Operand.const (Value.int IntKind.i64 0)], argTypes := #[24, 3, 3] }, type := 44, pos := "ref.go:197", after := #[{ on := 1, ground := Ground.data }, { on := 2, ground := Ground.data }], guard := none }) rfl (fun K hK => ?_) AllReadyH.nil)
              go_simp
              refine HRM.out.mono ?_
              rintro e w3 ⟨rv, rfl, hrv, hb3⟩
              have y0 := cell_later hb3 x0
              have y1 := cell_later hb3 x1
              have y2 := cell_later hb3 x2
              go_wp2_with fail
              refine hK.out _ _ (⟨y0, y1, y2⟩) (fun hS1 => ?_)
              clear hS0 hK K
              refine wpAnyH_ready (rs := [6]) (by kernel_rfl) (by simp) (AllReadyH.cons (o := { dst := some 63, op := Op.call { callee := Callee.value (Operand.func 75), args := #[Operand.tmp 57, Operand.tmp 60, Operand.tmp 61, Operand.tmp 62], argTypes := #[24, 44, 3, 3] }, type := 4, pos := "ref.go:197", after := #[{ on := 0, ground := Ground.data }, { on := 3, ground := Ground.data }, { on := 4, ground := Ground.data }, { on := 5, ground := Ground.data }, { on := 3, ground := Ground.chain }], guard := none }) rfl (fun K hK => ?_) AllReadyH.nil)
              go_simp
              refine (refDenies_any b o n cap T C l rv (roomLo l err []) (roomHi l err []) tt cc w3 HL.out HO.out (HA.out.keep (HB2.out.drew.trans (hb3.mono HB2.out.drew.size)) (Nat.le_refl _)) hrv (HL.out ▸ rooms_ok HO.out he0 []) hlt5 hltc).mono ?_
              rintro e w4 ⟨rfl, hb4⟩
              have z0 := cell_later hb4 y0
              have z1 := cell_later hb4 y1
              have z2 := cell_later hb4 y2
              go_wp2_with fail
              refine hK.out _ _ (⟨z0, z1, z2⟩) (fun hS2 => ?_)
              clear hS1 hK K
              refine wpAnyH_take (i := 7) (oi := { dst := some 6, op := Op.assign (Operand.tmp 63), type := 4, pos := "ref.go:197", after := #[{ on := 6, ground := Ground.data }, { on := 6, ground := Ground.chain }, { on := 0, ground := Ground.phase }, { on := 1, ground := Ground.phase }, { on := 2, ground := Ground.phase }, { on := 3, ground := Ground.phase }, { on := 4, ground := Ground.phase }, { on := 5, ground := Ground.phase }, { on := 6, ground := Ground.phase }], guard := none }) (v := ?_) rfl (by kernel_rfl) (by kernel_rfl) (by kernel_rfl) (fun _ _ _ h => h) (Or.inl ⟨by rfl, ?_⟩) hS2 ?_
              rotate_left
              · intro X hX
                obtain ⟨x0, x1, x2⟩ := hX
                go_simp
                try with_reducible rfl
              simp only [Act.put, List.setIfInBounds_toArray, List.set_cons_zero, List.set_cons_succ, Array.toArray_toList]
              refine wpAnyH_done (by kernel_rfl) ?_ _
              clear hS2
              have hB3 := HB2.out.drew.trans (hb3.mono HB2.out.drew.size)
              have hB4 := hB3.trans (hb4.mono hB3.size)
              have HB4 := Lib.hid hB4
              clear hB3 hB4 hb3 hb4 hrv
              go_wp2_with fail
              go_ret
              exact ⟨by rw [HCB.out, HL.out]; rfl, HB4.out⟩
end Go.Proofs.Ytkloaeaepjoijaa

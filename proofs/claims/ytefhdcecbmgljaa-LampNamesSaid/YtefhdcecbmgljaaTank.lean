/-
  The document's examples: tank, plan, between; what comes of them.
-/
import Derived.Test.YtefhdcecbmgljaaMem
import Derived.Test.YtefhdcecbmgljaaLeaveP
import Derived.Test.YtefhdcecbmgljaaJobs
set_option linter.all false
namespace Go.Proofs.Ytefhdcecbmgljaa
open Go.RowKit Go.WalkArith

def tankS : St := ⟨100, 50, 20, 30, [⟨5, 1, 3, 2, 3⟩, ⟨4, 1, 2, 2, 2⟩]⟩

theorem between_any (a b : Int) (w : World) : Calls Try.prog 57 #[.int .i64 a, .int .i64 b] w fun e w' => e = .returned (.agg #[.int .i64 a, .int .i64 b]) ∧ Below w.heap.size w w' := by
  have hb0 : Below w.heap.size w (w.alloc (.cells #[.int .i64 a, .int .i64 b] 36)) := (Below.refl _ _).alloc (Nat.le_refl _) _
  have HB := Lib.hid hb0
  clear hb0
  go_enter Try.func57, Try.ntmps57
  go_wp2_with fail
  have hn := Go.heap_alloc_new w (.cells #[.int .i64 a, .int .i64 b] 36)
  generalize w.alloc (.cells #[.int .i64 a, .int .i64 b] 36) = W at hn HB ⊢
  have q0 : W.cell? ⟨w.heap.size, 0, none⟩ = some (.int .i64 a) := by simp [World.cell?, hn]
  have q1 : W.cell? ⟨w.heap.size, 1, none⟩ = some (.int .i64 b) := by simp [World.cell?, hn]
  exact bodyPost_ret (v := .agg #[.int .i64 a, .int .i64 b]) (by simp [results, Try.results57, go_sem, q0, q1]) rfl ⟨rfl, HB.out⟩

set_option maxRecDepth 100000 in
set_option maxHeartbeats 2000000 in
theorem tank_any (w : World) : Calls Try.prog 55 #[] w fun e w' => ∃ b, e = .returned (.agg #[.int .i64 100, .int .i64 50, .int .i64 20, .int .i64 30, .slice (some ⟨b, 0, none⟩) 2 2]) ∧ NtsAt w' (some ⟨b, 0, none⟩) tankS.ns ∧ w.heap.size ≤ b ∧ Below w.heap.size w w' := by
  have hb0 : Below w.heap.size w (w.alloc (.cells #[.int .i64 0, .int .i64 0, .int .i64 0, .int .i64 0, .slice none 0 0] 39)) := (Below.refl _ _).alloc (Nat.le_refl _) _
  have hn0 := Go.heap_alloc_new w (.cells #[.int .i64 0, .int .i64 0, .int .i64 0, .int .i64 0, .slice none 0 0] 39)
  obtain ⟨w1, hw1⟩ : ∃ w1, w.alloc (.cells #[.int .i64 0, .int .i64 0, .int .i64 0, .int .i64 0, .slice none 0 0] 39) = w1 := ⟨_, rfl⟩
  rw [hw1] at hb0 hn0
  have HW1 := Lib.hid hw1
  have HB1 := Lib.hid hb0
  have HN1 := Lib.hid hn0
  clear hw1 hb0 hn0
  go_enter Try.func55, Try.ntmps55
  go_wp2_with fail
  rw [HW1.out]
  refine (between_any _ _ _).mono ?_
  rintro e w2 ⟨rfl, hb2⟩
  go_wp2_with fail
  refine (between_any _ _ _).mono ?_
  rintro e w3 ⟨rfl, hb3⟩
  go_wp2_with fail
  refine (between_any _ _ _).mono ?_
  rintro e w4 ⟨rfl, hb4⟩
  have h14 : Below w1.heap.size w1 w4 := (hb2.trans (hb3.mono hb2.size)).trans (hb4.mono (hb2.trans (hb3.mono hb2.size)).size)
  have HB4 := Lib.hid (HB1.out.trans (h14.mono HB1.out.size))
  have hn4 := (h14.block _ (Array.getElem?_eq_some_iff.1 HN1.out).1).trans HN1.out
  have HN4 := Lib.hid hn4
  have l4 := (Array.getElem?_eq_some_iff.1 hn4).1
  have r0 : w4.cell? ⟨w.heap.size, 0, none⟩ = some (.int .i64 0) := by simp [World.cell?, hn4]
  have r1 : w4.cell? ⟨w.heap.size, 1, none⟩ = some (.int .i64 0) := by simp [World.cell?, hn4]
  have r2 : w4.cell? ⟨w.heap.size, 2, none⟩ = some (.int .i64 0) := by simp [World.cell?, hn4]
  have r3 : w4.cell? ⟨w.heap.size, 3, none⟩ = some (.int .i64 0) := by simp [World.cell?, hn4]
  have r4 : w4.cell? ⟨w.heap.size, 4, none⟩ = some (.slice none 0 0) := by simp [World.cell?, hn4]
  have z : ∀ o, w4.frozen? ⟨w.heap.size, o, none⟩ = false := fun o => by simp [World.frozen?, hn4]
  have z0 := z 0
  have z1 := z 1
  have z2 := z 2
  have z3 := z 3
  have z4 := z 4
  clear hb2 hb3 hb4 h14 hn4 z HW1 HB1 HN1
  go_wp2_with fail
  have hq : (((((w4.setCell ⟨w.heap.size, 0, none⟩ (.int .i64 100)).setCell ⟨w.heap.size, 1, none⟩ (.int .i64 50)).setCell ⟨w.heap.size, 2, none⟩ (.int .i64 20)).setCell ⟨w.heap.size, 3, none⟩ (.int .i64 30)).setCell ⟨w.heap.size, 4, none⟩ (.slice (some ⟨w4.heap.size, 0, none⟩) 2 2)).heap[w.heap.size]? = some (.cells #[.int .i64 100, .int .i64 50, .int .i64 20, .int .i64 30, .slice (some ⟨w4.heap.size, 0, none⟩) 2 2] 39 (0, 0)) := by simp [World.setCell, Array.getElem?_modify, HN4.out]
  have hbl := ((((HB4.out.setCell (p := ⟨w.heap.size, 0, none⟩) (Nat.le_refl _) (.int .i64 100)).setCell (p := ⟨w.heap.size, 1, none⟩) (Nat.le_refl _) (.int .i64 50)).setCell (p := ⟨w.heap.size, 2, none⟩) (Nat.le_refl _) (.int .i64 20)).setCell (p := ⟨w.heap.size, 3, none⟩) (Nat.le_refl _) (.int .i64 30)).setCell (p := ⟨w.heap.size, 4, none⟩) (Nat.le_refl _) (.slice (some ⟨w4.heap.size, 0, none⟩) 2 2)
  have hsz : (((((w4.setCell ⟨w.heap.size, 0, none⟩ (.int .i64 100)).setCell ⟨w.heap.size, 1, none⟩ (.int .i64 50)).setCell ⟨w.heap.size, 2, none⟩ (.int .i64 20)).setCell ⟨w.heap.size, 3, none⟩ (.int .i64 30)).setCell ⟨w.heap.size, 4, none⟩ (.slice (some ⟨w4.heap.size, 0, none⟩) 2 2)).heap.size = w4.heap.size := by simp
  generalize (((((w4.setCell ⟨w.heap.size, 0, none⟩ (.int .i64 100)).setCell ⟨w.heap.size, 1, none⟩ (.int .i64 50)).setCell ⟨w.heap.size, 2, none⟩ (.int .i64 20)).setCell ⟨w.heap.size, 3, none⟩ (.int .i64 30)).setCell ⟨w.heap.size, 4, none⟩ (.slice (some ⟨w4.heap.size, 0, none⟩) 2 2)) = V at hq hbl hsz ⊢
  rw [← hsz] at hq ⊢
  have hn := Go.heap_alloc_new V (.cells #[.int .i64 5, .int .i64 1, .int .i64 3, .int .i64 2, .int .i64 3, .int .i64 4, .int .i64 1, .int .i64 2, .int .i64 2, .int .i64 2] 105)
  have hq2 := (Below.heap_alloc V (.cells #[.int .i64 5, .int .i64 1, .int .i64 3, .int .i64 2, .int .i64 3, .int .i64 4, .int .i64 1, .int .i64 2, .int .i64 2, .int .i64 2] 105) w.heap.size (by omega)).trans hq
  have hb2 := hbl.alloc hbl.size (.cells #[.int .i64 5, .int .i64 1, .int .i64 3, .int .i64 2, .int .i64 3, .int .i64 4, .int .i64 1, .int .i64 2, .int .i64 2, .int .i64 2] 105)
  have hle := hbl.size
  generalize V.alloc (.cells #[.int .i64 5, .int .i64 1, .int .i64 3, .int .i64 2, .int .i64 3, .int .i64 4, .int .i64 1, .int .i64 2, .int .i64 2, .int .i64 2] 105) = W at hn hq2 hb2 ⊢
  have q0 : W.cell? ⟨w.heap.size, 0, none⟩ = some (.int .i64 100) := by simp [World.cell?, hq2]
  have q1 : W.cell? ⟨w.heap.size, 1, none⟩ = some (.int .i64 50) := by simp [World.cell?, hq2]
  have q2 : W.cell? ⟨w.heap.size, 2, none⟩ = some (.int .i64 20) := by simp [World.cell?, hq2]
  have q3 : W.cell? ⟨w.heap.size, 3, none⟩ = some (.int .i64 30) := by simp [World.cell?, hq2]
  have q4 : W.cell? ⟨w.heap.size, 4, none⟩ = some (.slice (some ⟨V.heap.size, 0, none⟩) 2 2) := by simp [World.cell?, hq2]
  refine bodyPost_ret (v := .agg #[.int .i64 100, .int .i64 50, .int .i64 20, .int .i64 30, .slice (some ⟨V.heap.size, 0, none⟩) 2 2]) (by simp [results, Try.results55, go_sem, q0, q1, q2, q3, q4]) rfl ⟨V.heap.size, rfl, .inr ⟨_, 0, rfl, fun i hi => ?_⟩, hle, hb2⟩
  match i, hi with
  | 0, _ => exact ⟨by simp [World.cell?, hn, tankS], by simp [World.cell?, hn, tankS], by simp [World.cell?, hn, tankS], by simp [World.cell?, hn, tankS], by simp [World.cell?, hn, tankS]⟩
  | 1, _ => exact ⟨by simp [World.cell?, hn, tankS], by simp [World.cell?, hn, tankS], by simp [World.cell?, hn, tankS], by simp [World.cell?, hn, tankS], by simp [World.cell?, hn, tankS]⟩

/-- What a literal slice of integers reads as. -/
theorem ints_new (w : World) (xs : List Int) : IntsAt (w.alloc (.cells ((xs.map (Value.int .i64)).toArray) 3)) (.slice (some ⟨w.heap.size, 0, none⟩) xs.length xs.length) xs := by
  refine ⟨_, _, rfl, .inr ⟨_, 0, rfl, fun i hi => ?_⟩⟩
  have := Go.heap_alloc_new w (.cells ((xs.map (Value.int .i64)).toArray) 3)
  revert this
  generalize w.alloc _ = W
  intro this
  simp [World.cell?, this, hi]

set_option maxRecDepth 100000 in
set_option maxHeartbeats 2000000 in
theorem plan_any (a b c d : Int) (w : World) : Calls Try.prog 56 #[.int .i64 a, .int .i64 b, .int .i64 c, .int .i64 d] w fun e w' => ∃ p q, e = .returned (.agg #[.slice (some ⟨p, 0, none⟩) 2 2, .slice (some ⟨q, 0, none⟩) 2 2]) ∧ IntsAt w' (.slice (some ⟨p, 0, none⟩) 2 2) [a, b] ∧ IntsAt w' (.slice (some ⟨q, 0, none⟩) 2 2) [c, d] ∧ Below w.heap.size w w' := by
  go_enter Try.func56, Try.ntmps56
  go_wp2_with fail
  have hb : Below w.heap.size w (((w.alloc (.cells #[.slice (some ⟨w.heap.size + 1, 0, none⟩) 2 2, .slice (some ⟨w.heap.size + 1 + 1, 0, none⟩) 2 2] 44)).alloc (.cells #[.int .i64 a, .int .i64 b] 3)).alloc (.cells #[.int .i64 c, .int .i64 d] 3)) := (((Below.refl _ _).alloc (Nat.le_refl _) _).alloc (by simp) _).alloc (by simp; omega) _
  have h0 : (((w.alloc (.cells #[.slice (some ⟨w.heap.size + 1, 0, none⟩) 2 2, .slice (some ⟨w.heap.size + 1 + 1, 0, none⟩) 2 2] 44)).alloc (.cells #[.int .i64 a, .int .i64 b] 3)).alloc (.cells #[.int .i64 c, .int .i64 d] 3)).heap[w.heap.size]? = some (.cells #[.slice (some ⟨w.heap.size + 1, 0, none⟩) 2 2, .slice (some ⟨w.heap.size + 1 + 1, 0, none⟩) 2 2] 44 (0, 0)) := (Below.heap_alloc _ _ _ (by simp <;> omega)).trans ((Below.heap_alloc _ _ _ (by simp <;> omega)).trans (heap_new_at _ _ _ rfl))
  have h1 : (((w.alloc (.cells #[.slice (some ⟨w.heap.size + 1, 0, none⟩) 2 2, .slice (some ⟨w.heap.size + 1 + 1, 0, none⟩) 2 2] 44)).alloc (.cells #[.int .i64 a, .int .i64 b] 3)).alloc (.cells #[.int .i64 c, .int .i64 d] 3)).heap[w.heap.size + 1]? = some (.cells #[.int .i64 a, .int .i64 b] 3 (0, 0)) := (Below.heap_alloc _ _ _ (by simp <;> omega)).trans (heap_new_at _ _ _ (by simp))
  have h2 : (((w.alloc (.cells #[.slice (some ⟨w.heap.size + 1, 0, none⟩) 2 2, .slice (some ⟨w.heap.size + 1 + 1, 0, none⟩) 2 2] 44)).alloc (.cells #[.int .i64 a, .int .i64 b] 3)).alloc (.cells #[.int .i64 c, .int .i64 d] 3)).heap[w.heap.size + 1 + 1]? = some (.cells #[.int .i64 c, .int .i64 d] 3 (0, 0)) := heap_new_at _ _ _ (by simp)
  generalize (((w.alloc (.cells #[.slice (some ⟨w.heap.size + 1, 0, none⟩) 2 2, .slice (some ⟨w.heap.size + 1 + 1, 0, none⟩) 2 2] 44)).alloc (.cells #[.int .i64 a, .int .i64 b] 3)).alloc (.cells #[.int .i64 c, .int .i64 d] 3)) = W at hb h0 h1 h2 ⊢
  have q0 : W.cell? ⟨w.heap.size, 0, none⟩ = some (.slice (some ⟨w.heap.size + 1, 0, none⟩) 2 2) := by simp [World.cell?, h0]
  have q1 : W.cell? ⟨w.heap.size, 1, none⟩ = some (.slice (some ⟨w.heap.size + 1 + 1, 0, none⟩) 2 2) := by simp [World.cell?, h0]
  refine bodyPost_ret (v := .agg #[.slice (some ⟨w.heap.size + 1, 0, none⟩) 2 2, .slice (some ⟨w.heap.size + 1 + 1, 0, none⟩) 2 2]) (by simp [results, Try.results56, go_sem, q0, q1]) rfl ⟨_, _, rfl, ⟨_, _, rfl, .inr ⟨_, 0, rfl, fun i hi => ?_⟩⟩, ⟨_, _, rfl, .inr ⟨_, 0, rfl, fun i hi => ?_⟩⟩, hb⟩
  · match i, hi with
    | 0, _ => simp [World.cell?, h1]
    | 1, _ => simp [World.cell?, h1]
  · match i, hi with
    | 0, _ => simp [World.cell?, h2]
    | 1, _ => simp [World.cell?, h2]

theorem tank_ok : StOk tankS := faultS_zero.1 (by decide +kernel)
theorem tank_rng (t : Int) (b : Nat → Int) (h : Tr tankS t b) : (5 ≤ oilF tankS (atL [0, 1]) (atL [1, 2]) b t 1 ∧ oilF tankS (atL [0, 1]) (atL [1, 2]) b t 1 ≤ 20) ∧ (39 ≤ oilF tankS (atL [0, 1]) (atL [1, 2]) b t 2 ∧ oilF tankS (atL [0, 1]) (atL [1, 2]) b t 2 ≤ 54) := by
  have h0 := h.t0
  have h1 := h.t1
  have h2 := h.bb 0 (by decide)
  have h3 := h.bb 1 (by decide)
  simp [tankS, ntAt] at h0 h1 h2 h3
  have e1 : oilF tankS (atL [0, 1]) (atL [1, 2]) b t 1 = t - 5 * b 0 := by
    simp [oilF, leftO, nowO, needO, tankS, ntAt, atL]
    omega
  have e2 : oilF tankS (atL [0, 1]) (atL [1, 2]) b t 2 = t - 5 * b 0 + 50 - 8 * b 1 := by
    rw [oilF, e1]
    simp [leftO, nowO, needO, tankS, ntAt, atL]
    omega
  rw [e1, e2]
  omega
theorem tank_tr {t x y : Int} (h : 20 ≤ t ∧ t ≤ 30 ∧ 2 ≤ x ∧ x ≤ 3 ∧ y = 2) : Tr tankS t (atL [x, y]) := by
  refine ⟨h.1, h.2.1, fun i hi => ?_⟩
  have hi2 : i < 2 := hi
  match i, hi2 with
  | 0, _ => simp [ntAt, tankS, atL]; omega
  | 1, _ => simp [ntAt, tankS, atL]; omega
theorem tank_isrng : IsRng tankS (atL [0, 1]) (atL [1, 2]) [] (atL [5, 39]) (atL [20, 54]) := by
  refine ⟨fun i hi => ?_, fun i hi => ?_, fun i hi t b ht _ => ?_⟩
  · have hi2 : i < 2 := hi
    match i, hi2 with
    | 0, _ => exact ⟨20, atL [3, 2], tank_tr (by omega), fun i _ => rfl, by decide +kernel⟩
    | 1, _ => exact ⟨20, atL [3, 2], tank_tr (by omega), fun i _ => rfl, by decide +kernel⟩
  · have hi2 : i < 2 := hi
    match i, hi2 with
    | 0, _ => exact ⟨30, atL [2, 2], tank_tr (by omega), fun i _ => rfl, by decide +kernel⟩
    | 1, _ => exact ⟨30, atL [2, 2], tank_tr (by omega), fun i _ => rfl, by decide +kernel⟩
  · have hi2 : i < 2 := hi
    have h := tank_rng t b ht
    match i, hi2 with
    | 0, _ => exact h.1
    | 1, _ => exact h.2
theorem tank_cons : Cons tankS (atL [0, 1]) (atL [1, 2]) [] := cons_nil tank_ok
theorem tank_dipped : dippedL tankS [0, 1] [1, 2] [] = 0 := by decide +kernel
theorem tank_truth : truthB tankS 22 [3, 2] = true := by decide +kernel
theorem tank_plan : planL tankS [0, 1] [1, 2] = 0 := by decide +kernel
theorem tank_plan2 : planL tankS [0, 0] [2, 1] = 0 := by decide +kernel
theorem tank_dark : darkL tankS (atL [0, 0]) (atL [2, 1]) = [0, 1] := by decide +kernel
theorem tank_wicks : wicksB tankS [1, 2] = true := by decide +kernel
theorem tank_chpD : chp tankS (jobD [1, 2]) 2 0 20 = 1 := by decide +kernel
theorem tank_bestD : bestL tankS (jobD [1, 2]) 2 0 20 = [0, 1] := by decide +kernel
theorem tank_cans : cansB tankS [1, 0] = true := by decide +kernel
theorem tank_chpT : chp tankS (jobT tankS [1, 0]) 2 0 20 = -23 := by decide +kernel
theorem tank_bestT : bestL tankS (jobT tankS [1, 0]) 2 0 20 = [3, 2] := by decide +kernel
theorem tank_dipped2 : dippedL tankS [0, 1] [1, 2] [⟨0, 0, 4⟩, ⟨0, 5, 20⟩] = 0 := by decide +kernel
theorem tank_leave : leaveL tankS (atL [0, 1]) (atL [1, 2]) [⟨0, 0, 4⟩, ⟨0, 5, 20⟩] = [0] := by decide +kernel
theorem tank_fault : faultS tankS = 0 := by decide +kernel
end Go.Proofs.Ytefhdcecbmgljaa

/-
  AngleProves: the walk.
-/
import Derived.Test.YtkloaeaepjoijaaOpen
set_option linter.all false
namespace Go.Proofs.Ytkloaeaepjoijaa
open Go.RowKit Go.WalkArith

theorem AngsAt.drew {W : World} {A : Option Addr} {l : List Ang} (h : AngsAt W A l) : AngsAt W.drew A l := h
theorem IntsAt.drew {W : World} {v : Value} {xs : List Int} (h : IntsAt W v xs) : IntsAt W.drew v xs := h

set_option maxRecDepth 100000 in
set_option maxHeartbeats 8000000 in
theorem proves_walk (A : Option Addr) (n cap : Nat) (T C : Int) (l : List Ang) (err : Int) (At : Option Addr) (tcap : Nat) (xs : List Int) (Ac Bc : Option Addr) (ccap ccap2 : Nat) (ts cs : List Int) (w : World)
    (hl : l.length = n) (hA : AngsAt w A l) (hN : NilOk A cap) (hI : IntsAt w (.slice At xs.length tcap) xs) (hN2 : NilOk At tcap) (hJ : IntsAt w (.slice Ac ts.length ccap) ts) (hK : IntsAt w (.slice Bc cs.length ccap2) cs) (hN3 : NilOk Ac ccap) (hN4 : NilOk Bc ccap2) :
    Calls Try.prog 3 #[.agg #[.slice A n cap, .int .i64 T, .int .i64 C], .int .i64 err, .slice At xs.length tcap, .agg #[.slice Ac ts.length ccap, .slice Bc cs.length ccap2]] w fun e w' => e = .returned (.bool true) ∧ Below w.heap.size w w' := by
  subst hl
  have HA := Lib.hid hA
  have HI := Lib.hid hI
  have HJ := Lib.hid hJ
  have HK := Lib.hid hK
  clear hA hI hJ hK hN
  have hB0 : Below w.heap.size w ((w.alloc (.cells #[.slice A l.length cap, .int .i64 T, .int .i64 C] 24)).alloc (.cells #[.slice Ac ts.length ccap, .slice Bc cs.length ccap2] 27)) := ((Below.refl _ _).alloc (Nat.le_refl _) _).alloc (by simp) _
  have hn0 : ((w.alloc (.cells #[.slice A l.length cap, .int .i64 T, .int .i64 C] 24)).alloc (.cells #[.slice Ac ts.length ccap, .slice Bc cs.length ccap2] 27)).heap[w.heap.size]? = some (.cells #[.slice A l.length cap, .int .i64 T, .int .i64 C] 24 (0, 0)) := (Below.heap_alloc _ _ _ (by simp <;> omega)).trans (heap_new_at _ _ _ rfl)
  have hn1 : ((w.alloc (.cells #[.slice A l.length cap, .int .i64 T, .int .i64 C] 24)).alloc (.cells #[.slice Ac ts.length ccap, .slice Bc cs.length ccap2] 27)).heap[w.heap.size + 1]? = some (.cells #[.slice Ac ts.length ccap, .slice Bc cs.length ccap2] 27 (0, 0)) := heap_new_at _ _ _ (by simp)
  have HB1 := Lib.hid hB0
  have NBi1 := Lib.hid hn0
  have NBu1 := Lib.hid hn1
  clear hB0 hn0 hn1
  go_enter Try.func3, Try.ntmps3
  go_wp2_with fail
  generalize ((w.alloc (.cells #[.slice A l.length cap, .int .i64 T, .int .i64 C] 24)).alloc (.cells #[.slice Ac ts.length ccap, .slice Bc cs.length ccap2] 27)) = w1 at HB1 NBi1 NBu1 ⊢
  obtain ⟨Bu, hBu⟩ : ∃ Bu, w.heap.size + 1 = Bu := ⟨_, rfl⟩
  obtain ⟨Bi, hBi⟩ : ∃ Bi, w.heap.size = Bi := ⟨_, rfl⟩
  have oBu : w.heap.size ≤ Bu := by omega
  have oBiBu : Bi < Bu := by omega
  have oBi : w.heap.size ≤ Bi := by omega
  rw [hBu] at NBu1 ⊢
  rw [hBi] at NBi1 ⊢
  clear hBi hBu
  have cBi0_1 : w1.cell? ⟨Bi, 0, none⟩ = some (.slice A l.length cap) := by simp [World.cell?, NBi1.out]
  have cBi1_1 : w1.cell? ⟨Bi, 1, none⟩ = some (.int .i64 T) := by simp [World.cell?, NBi1.out]
  have cBi2_1 : w1.cell? ⟨Bi, 2, none⟩ = some (.int .i64 C) := by simp [World.cell?, NBi1.out]
  have cBu0_1 : w1.cell? ⟨Bu, 0, none⟩ = some (.slice Ac ts.length ccap) := by simp [World.cell?, NBu1.out]
  have cBu1_1 : w1.cell? ⟨Bu, 1, none⟩ = some (.slice Bc cs.length ccap2) := by simp [World.cell?, NBu1.out]
  by_cases h15 : l.length ≤ 15
  rotate_left
  · have hx15 : 15 < l.length := by omega
    have hth := Lib.hid (thin_any A l.length cap T C w1)
    rw [show decide (l.length ≤ 15) = false from (by simp; omega)] at hth
    go_wp2_with fail
    refine (hth.out).mono ?_
    rintro e w2 ⟨rfl, hb⟩
    have HB2 := Lib.hid ((HB1.out).trans (hb.mono (HB1.out).size))
    have NBi2 := Lib.hid ((hb.block Bi (Array.getElem?_eq_some_iff.1 NBi1.out).1).trans NBi1.out)
    have NBu2 := Lib.hid ((hb.block Bu (Array.getElem?_eq_some_iff.1 NBu1.out).1).trans NBu1.out)
    clear HB1 NBi1 NBu1 cBi0_1 cBi1_1 cBi2_1 cBu0_1 cBu1_1  hb hth
    have cBi0_2 : w2.cell? ⟨Bi, 0, none⟩ = some (.slice A l.length cap) := by simp [World.cell?, NBi2.out]
    have cBi1_2 : w2.cell? ⟨Bi, 1, none⟩ = some (.int .i64 T) := by simp [World.cell?, NBi2.out]
    have cBi2_2 : w2.cell? ⟨Bi, 2, none⟩ = some (.int .i64 C) := by simp [World.cell?, NBi2.out]
    have cBu0_2 : w2.cell? ⟨Bu, 0, none⟩ = some (.slice Ac ts.length ccap) := by simp [World.cell?, NBu2.out]
    have cBu1_2 : w2.cell? ⟨Bu, 1, none⟩ = some (.slice Bc cs.length ccap2) := by simp [World.cell?, NBu2.out]
    go_wp2_with fail
    refine (awake_any _).mono ?_
    rintro e w3 ⟨rfl, hb⟩
    have HB3 := Lib.hid ((HB2.out).trans (hb.mono (HB2.out).size))
    have NBi3 := Lib.hid ((hb.block Bi (Array.getElem?_eq_some_iff.1 NBi2.out).1).trans NBi2.out)
    have NBu3 := Lib.hid ((hb.block Bu (Array.getElem?_eq_some_iff.1 NBu2.out).1).trans NBu2.out)
    clear HB2 NBi2 NBu2 cBi0_2 cBi1_2 cBi2_2 cBu0_2 cBu1_2  hb 
    have cBi0_3 : w3.cell? ⟨Bi, 0, none⟩ = some (.slice A l.length cap) := by simp [World.cell?, NBi3.out]
    have cBi1_3 : w3.cell? ⟨Bi, 1, none⟩ = some (.int .i64 T) := by simp [World.cell?, NBi3.out]
    have cBi2_3 : w3.cell? ⟨Bi, 2, none⟩ = some (.int .i64 C) := by simp [World.cell?, NBi3.out]
    have cBu0_3 : w3.cell? ⟨Bu, 0, none⟩ = some (.slice Ac ts.length ccap) := by simp [World.cell?, NBu3.out]
    have cBu1_3 : w3.cell? ⟨Bu, 1, none⟩ = some (.slice Bc cs.length ccap2) := by simp [World.cell?, NBu3.out]
    go_wp2_with fail
    go_ret
    exact ⟨rfl, HB3.out⟩
  · by_cases hx : 15 < xs.length
    · have hx' : decide (15 < xs.length) = true := by simpa using hx
      have hx'' : decide ((15 : Int) < (xs.length : Int)) = true := by simp; omega
      have hth := Lib.hid (thin_any A l.length cap T C w1)
      rw [show decide (l.length ≤ 15) = true from (by simp; omega)] at hth
      go_wp2_with fail
      refine (hth.out).mono ?_
      rintro e w2 ⟨rfl, hb⟩
      have HB2 := Lib.hid ((HB1.out).trans (hb.mono (HB1.out).size))
      have NBi2 := Lib.hid ((hb.block Bi (Array.getElem?_eq_some_iff.1 NBi1.out).1).trans NBi1.out)
      have NBu2 := Lib.hid ((hb.block Bu (Array.getElem?_eq_some_iff.1 NBu1.out).1).trans NBu1.out)
      clear HB1 NBi1 NBu1 cBi0_1 cBi1_1 cBi2_1 cBu0_1 cBu1_1  hb hth
      have cBi0_2 : w2.cell? ⟨Bi, 0, none⟩ = some (.slice A l.length cap) := by simp [World.cell?, NBi2.out]
      have cBi1_2 : w2.cell? ⟨Bi, 1, none⟩ = some (.int .i64 T) := by simp [World.cell?, NBi2.out]
      have cBi2_2 : w2.cell? ⟨Bi, 2, none⟩ = some (.int .i64 C) := by simp [World.cell?, NBi2.out]
      have cBu0_2 : w2.cell? ⟨Bu, 0, none⟩ = some (.slice Ac ts.length ccap) := by simp [World.cell?, NBu2.out]
      have cBu1_2 : w2.cell? ⟨Bu, 1, none⟩ = some (.slice Bc cs.length ccap2) := by simp [World.cell?, NBu2.out]
      go_wp2_with fail
      refine (awake_any _).mono ?_
      rintro e w3 ⟨rfl, hb⟩
      have HB3 := Lib.hid ((HB2.out).trans (hb.mono (HB2.out).size))
      have NBi3 := Lib.hid ((hb.block Bi (Array.getElem?_eq_some_iff.1 NBi2.out).1).trans NBi2.out)
      have NBu3 := Lib.hid ((hb.block Bu (Array.getElem?_eq_some_iff.1 NBu2.out).1).trans NBu2.out)
      clear HB2 NBi2 NBu2 cBi0_2 cBi1_2 cBi2_2 cBu0_2 cBu1_2  hb 
      have cBi0_3 : w3.cell? ⟨Bi, 0, none⟩ = some (.slice A l.length cap) := by simp [World.cell?, NBi3.out]
      have cBi1_3 : w3.cell? ⟨Bi, 1, none⟩ = some (.int .i64 T) := by simp [World.cell?, NBi3.out]
      have cBi2_3 : w3.cell? ⟨Bi, 2, none⟩ = some (.int .i64 C) := by simp [World.cell?, NBi3.out]
      have cBu0_3 : w3.cell? ⟨Bu, 0, none⟩ = some (.slice Ac ts.length ccap) := by simp [World.cell?, NBu3.out]
      have cBu1_3 : w3.cell? ⟨Bu, 1, none⟩ = some (.slice Bc cs.length ccap2) := by simp [World.cell?, NBu3.out]
      go_wp2_with fail
      go_ret
      exact ⟨rfl, HB3.out⟩
    · have hx' : decide (15 < xs.length) = false := by simpa using hx
      have hx'' : decide ((15 : Int) < (xs.length : Int)) = false := by simp; omega
      by_cases hy : 9 < ts.length
      · have hy'' : decide ((9 : Int) < (ts.length : Int)) = true := by simp; omega
        have hth := Lib.hid (thin_any A l.length cap T C w1)
        rw [show decide (l.length ≤ 15) = true from (by simp; omega)] at hth
        go_wp2_with fail
        refine (hth.out).mono ?_
        rintro e w2 ⟨rfl, hb⟩
        have HB2 := Lib.hid ((HB1.out).trans (hb.mono (HB1.out).size))
        have NBi2 := Lib.hid ((hb.block Bi (Array.getElem?_eq_some_iff.1 NBi1.out).1).trans NBi1.out)
        have NBu2 := Lib.hid ((hb.block Bu (Array.getElem?_eq_some_iff.1 NBu1.out).1).trans NBu1.out)
        clear HB1 NBi1 NBu1 cBi0_1 cBi1_1 cBi2_1 cBu0_1 cBu1_1  hb hth
        have cBi0_2 : w2.cell? ⟨Bi, 0, none⟩ = some (.slice A l.length cap) := by simp [World.cell?, NBi2.out]
        have cBi1_2 : w2.cell? ⟨Bi, 1, none⟩ = some (.int .i64 T) := by simp [World.cell?, NBi2.out]
        have cBi2_2 : w2.cell? ⟨Bi, 2, none⟩ = some (.int .i64 C) := by simp [World.cell?, NBi2.out]
        have cBu0_2 : w2.cell? ⟨Bu, 0, none⟩ = some (.slice Ac ts.length ccap) := by simp [World.cell?, NBu2.out]
        have cBu1_2 : w2.cell? ⟨Bu, 1, none⟩ = some (.slice Bc cs.length ccap2) := by simp [World.cell?, NBu2.out]
        go_wp2_with fail
        refine (awake_any _).mono ?_
        rintro e w3 ⟨rfl, hb⟩
        have HB3 := Lib.hid ((HB2.out).trans (hb.mono (HB2.out).size))
        have NBi3 := Lib.hid ((hb.block Bi (Array.getElem?_eq_some_iff.1 NBi2.out).1).trans NBi2.out)
        have NBu3 := Lib.hid ((hb.block Bu (Array.getElem?_eq_some_iff.1 NBu2.out).1).trans NBu2.out)
        clear HB2 NBi2 NBu2 cBi0_2 cBi1_2 cBi2_2 cBu0_2 cBu1_2  hb 
        have cBi0_3 : w3.cell? ⟨Bi, 0, none⟩ = some (.slice A l.length cap) := by simp [World.cell?, NBi3.out]
        have cBi1_3 : w3.cell? ⟨Bi, 1, none⟩ = some (.int .i64 T) := by simp [World.cell?, NBi3.out]
        have cBi2_3 : w3.cell? ⟨Bi, 2, none⟩ = some (.int .i64 C) := by simp [World.cell?, NBi3.out]
        have cBu0_3 : w3.cell? ⟨Bu, 0, none⟩ = some (.slice Ac ts.length ccap) := by simp [World.cell?, NBu3.out]
        have cBu1_3 : w3.cell? ⟨Bu, 1, none⟩ = some (.slice Bc cs.length ccap2) := by simp [World.cell?, NBu3.out]
        go_wp2_with fail
        go_ret
        exact ⟨rfl, HB3.out⟩
      · have hy'' : decide ((9 : Int) < (ts.length : Int)) = false := by simp; omega
        by_cases hz : 9 < cs.length
        · have hz'' : decide ((9 : Int) < (cs.length : Int)) = true := by simp; omega
          have hth := Lib.hid (thin_any A l.length cap T C w1)
          rw [show decide (l.length ≤ 15) = true from (by simp; omega)] at hth
          go_wp2_with fail
          refine (hth.out).mono ?_
          rintro e w2 ⟨rfl, hb⟩
          have HB2 := Lib.hid ((HB1.out).trans (hb.mono (HB1.out).size))
          have NBi2 := Lib.hid ((hb.block Bi (Array.getElem?_eq_some_iff.1 NBi1.out).1).trans NBi1.out)
          have NBu2 := Lib.hid ((hb.block Bu (Array.getElem?_eq_some_iff.1 NBu1.out).1).trans NBu1.out)
          clear HB1 NBi1 NBu1 cBi0_1 cBi1_1 cBi2_1 cBu0_1 cBu1_1  hb hth
          have cBi0_2 : w2.cell? ⟨Bi, 0, none⟩ = some (.slice A l.length cap) := by simp [World.cell?, NBi2.out]
          have cBi1_2 : w2.cell? ⟨Bi, 1, none⟩ = some (.int .i64 T) := by simp [World.cell?, NBi2.out]
          have cBi2_2 : w2.cell? ⟨Bi, 2, none⟩ = some (.int .i64 C) := by simp [World.cell?, NBi2.out]
          have cBu0_2 : w2.cell? ⟨Bu, 0, none⟩ = some (.slice Ac ts.length ccap) := by simp [World.cell?, NBu2.out]
          have cBu1_2 : w2.cell? ⟨Bu, 1, none⟩ = some (.slice Bc cs.length ccap2) := by simp [World.cell?, NBu2.out]
          go_wp2_with fail
          refine (awake_any _).mono ?_
          rintro e w3 ⟨rfl, hb⟩
          have HB3 := Lib.hid ((HB2.out).trans (hb.mono (HB2.out).size))
          have NBi3 := Lib.hid ((hb.block Bi (Array.getElem?_eq_some_iff.1 NBi2.out).1).trans NBi2.out)
          have NBu3 := Lib.hid ((hb.block Bu (Array.getElem?_eq_some_iff.1 NBu2.out).1).trans NBu2.out)
          clear HB2 NBi2 NBu2 cBi0_2 cBi1_2 cBi2_2 cBu0_2 cBu1_2  hb 
          have cBi0_3 : w3.cell? ⟨Bi, 0, none⟩ = some (.slice A l.length cap) := by simp [World.cell?, NBi3.out]
          have cBi1_3 : w3.cell? ⟨Bi, 1, none⟩ = some (.int .i64 T) := by simp [World.cell?, NBi3.out]
          have cBi2_3 : w3.cell? ⟨Bi, 2, none⟩ = some (.int .i64 C) := by simp [World.cell?, NBi3.out]
          have cBu0_3 : w3.cell? ⟨Bu, 0, none⟩ = some (.slice Ac ts.length ccap) := by simp [World.cell?, NBu3.out]
          have cBu1_3 : w3.cell? ⟨Bu, 1, none⟩ = some (.slice Bc cs.length ccap2) := by simp [World.cell?, NBu3.out]
          go_wp2_with fail
          go_ret
          exact ⟨rfl, HB3.out⟩
        · have hz'' : decide ((9 : Int) < (cs.length : Int)) = false := by simp; omega
          have hth := Lib.hid (thin_any A l.length cap T C w1)
          rw [show decide (l.length ≤ 15) = true from (by simp; omega)] at hth
          go_wp2_with fail
          refine (hth.out).mono ?_
          rintro e w2 ⟨rfl, hb⟩
          have HB2 := Lib.hid ((HB1.out).trans (hb.mono (HB1.out).size))
          have NBi2 := Lib.hid ((hb.block Bi (Array.getElem?_eq_some_iff.1 NBi1.out).1).trans NBi1.out)
          have NBu2 := Lib.hid ((hb.block Bu (Array.getElem?_eq_some_iff.1 NBu1.out).1).trans NBu1.out)
          clear HB1 NBi1 NBu1 cBi0_1 cBi1_1 cBi2_1 cBu0_1 cBu1_1  hb hth
          have cBi0_2 : w2.cell? ⟨Bi, 0, none⟩ = some (.slice A l.length cap) := by simp [World.cell?, NBi2.out]
          have cBi1_2 : w2.cell? ⟨Bi, 1, none⟩ = some (.int .i64 T) := by simp [World.cell?, NBi2.out]
          have cBi2_2 : w2.cell? ⟨Bi, 2, none⟩ = some (.int .i64 C) := by simp [World.cell?, NBi2.out]
          have cBu0_2 : w2.cell? ⟨Bu, 0, none⟩ = some (.slice Ac ts.length ccap) := by simp [World.cell?, NBu2.out]
          have cBu1_2 : w2.cell? ⟨Bu, 1, none⟩ = some (.slice Bc cs.length ccap2) := by simp [World.cell?, NBu2.out]
          go_wp2_with fail
          refine (net_any A cap T C l _ (HA.out.keep HB2.out (Nat.le_refl _)) (by omega)).mono ?_
          rintro e w3 ⟨A2, cap2, rfl, hA2, hN2x, hb⟩
          have HB3 := Lib.hid ((HB2.out).trans (hb.mono (HB2.out).size))
          have NBi3 := Lib.hid ((hb.block Bi (Array.getElem?_eq_some_iff.1 NBi2.out).1).trans NBi2.out)
          have NBu3 := Lib.hid ((hb.block Bu (Array.getElem?_eq_some_iff.1 NBu2.out).1).trans NBu2.out)
          have FA3 := Lib.hid hA2
          clear HB2 NBi2 NBu2 cBi0_2 cBi1_2 cBi2_2 cBu0_2 cBu1_2 hA2 hb hN2x
          have cBi0_3 : w3.cell? ⟨Bi, 0, none⟩ = some (.slice A l.length cap) := by simp [World.cell?, NBi3.out]
          have cBi1_3 : w3.cell? ⟨Bi, 1, none⟩ = some (.int .i64 T) := by simp [World.cell?, NBi3.out]
          have cBi2_3 : w3.cell? ⟨Bi, 2, none⟩ = some (.int .i64 C) := by simp [World.cell?, NBi3.out]
          have cBu0_3 : w3.cell? ⟨Bu, 0, none⟩ = some (.slice Ac ts.length ccap) := by simp [World.cell?, NBu3.out]
          have cBu1_3 : w3.cell? ⟨Bu, 1, none⟩ = some (.slice Bc cs.length ccap2) := by simp [World.cell?, NBu3.out]
          go_wp2_with fail
          refine (list_any At tcap xs _ hN2 (HI.out.keep HB3.out (Nat.le_refl _)) (by omega)).mono ?_
          rintro e w4 ⟨v, rfl, hv, hb⟩
          have HB4 := Lib.hid ((HB3.out).trans (hb.mono (HB3.out).size))
          have NBi4 := Lib.hid ((hb.block Bi (Array.getElem?_eq_some_iff.1 NBi3.out).1).trans NBi3.out)
          have NBu4 := Lib.hid ((hb.block Bu (Array.getElem?_eq_some_iff.1 NBu3.out).1).trans NBu3.out)
          have FA4 := Lib.hid ((FA3.out).keep hb (Nat.le_refl _))
          have FV4 := Lib.hid hv
          clear HB3 NBi3 NBu3 cBi0_3 cBi1_3 cBi2_3 cBu0_3 cBu1_3 FA3 hv hb 
          have cBi0_4 : w4.cell? ⟨Bi, 0, none⟩ = some (.slice A l.length cap) := by simp [World.cell?, NBi4.out]
          have cBi1_4 : w4.cell? ⟨Bi, 1, none⟩ = some (.int .i64 T) := by simp [World.cell?, NBi4.out]
          have cBi2_4 : w4.cell? ⟨Bi, 2, none⟩ = some (.int .i64 C) := by simp [World.cell?, NBi4.out]
          have cBu0_4 : w4.cell? ⟨Bu, 0, none⟩ = some (.slice Ac ts.length ccap) := by simp [World.cell?, NBu4.out]
          have cBu1_4 : w4.cell? ⟨Bu, 1, none⟩ = some (.slice Bc cs.length ccap2) := by simp [World.cell?, NBu4.out]
          go_wp2_with fail
          refine (proveTruth_any A2 l.length cap2 T C err l v xs _ (by omega) rfl FA4.out FV4.out).mono ?_
          rintro e w5 ⟨rfl, hb⟩
          have HB5 := Lib.hid ((HB4.out).trans (hb.mono (HB4.out).size))
          have NBi5 := Lib.hid ((hb.block Bi (Array.getElem?_eq_some_iff.1 NBi4.out).1).trans NBi4.out)
          have NBu5 := Lib.hid ((hb.block Bu (Array.getElem?_eq_some_iff.1 NBu4.out).1).trans NBu4.out)
          have FA5 := Lib.hid ((FA4.out).keep hb (Nat.le_refl _))
          have FV5 := Lib.hid ((FV4.out).keep hb (Nat.le_refl _))
          clear HB4 NBi4 NBu4 cBi0_4 cBi1_4 cBi2_4 cBu0_4 cBu1_4 FA4 FV4 hb 
          have cBi0_5 : w5.cell? ⟨Bi, 0, none⟩ = some (.slice A l.length cap) := by simp [World.cell?, NBi5.out]
          have cBi1_5 : w5.cell? ⟨Bi, 1, none⟩ = some (.int .i64 T) := by simp [World.cell?, NBi5.out]
          have cBi2_5 : w5.cell? ⟨Bi, 2, none⟩ = some (.int .i64 C) := by simp [World.cell?, NBi5.out]
          have cBu0_5 : w5.cell? ⟨Bu, 0, none⟩ = some (.slice Ac ts.length ccap) := by simp [World.cell?, NBu5.out]
          have cBu1_5 : w5.cell? ⟨Bu, 1, none⟩ = some (.slice Bc cs.length ccap2) := by simp [World.cell?, NBu5.out]
          clear FA5
          clear FV5
          obtain ⟨bt, hbt⟩ : ∃ bt, truthB l T C err xs = bt := ⟨_, rfl⟩
          obtain ⟨bc, hbc⟩ : ∃ bc, cutB l T C err ts cs = bc := ⟨_, rfl⟩
          rw [hbt]
          have HBT := Lib.hid hbt
          have HBC := Lib.hid hbc
          clear hbt hbc
          go_wp2_with fail
          go_region_held3 (fun X => X.cell? ⟨Bi, 0, none⟩ = some (.slice A l.length cap) ∧ X.cell? ⟨Bi, 1, none⟩ = some (.int .i64 T) ∧ X.cell? ⟨Bi, 2, none⟩ = some (.int .i64 C) ∧ X.cell? ⟨Bu, 0, none⟩ = some (.slice Ac ts.length ccap) ∧ X.cell? ⟨Bu, 1, none⟩ = some (.slice Bc cs.length ccap2))
            (first | go_keep | exact ⟨(cell_later hb0 cBi0_5), (cell_later hb0 cBi1_5), (cell_later hb0 cBi2_5), (cell_later hb0 cBu0_5), (cell_later hb0 cBu1_5)⟩ | exact ⟨(cell_later hb1 (cell_later hb0 cBi0_5)), (cell_later hb1 (cell_later hb0 cBi1_5)), (cell_later hb1 (cell_later hb0 cBi2_5)), (cell_later hb1 (cell_later hb0 cBu0_5)), (cell_later hb1 (cell_later hb0 cBu1_5))⟩ | exact ⟨(cell_later hb2 (cell_later hb1 (cell_later hb0 cBi0_5))), (cell_later hb2 (cell_later hb1 (cell_later hb0 cBi1_5))), (cell_later hb2 (cell_later hb1 (cell_later hb0 cBi2_5))), (cell_later hb2 (cell_later hb1 (cell_later hb0 cBu0_5))), (cell_later hb2 (cell_later hb1 (cell_later hb0 cBu1_5)))⟩)
            (first | (go_at_call 22; refine (net_any A cap T C l w5.drew (HA.out.keep HB5.out.drew (Nat.le_refl _)) (by omega)).mono ?_; rintro e w5_0 ⟨A3, cap3, rfl, hA3, hN3x, hb0⟩; have hB0 := HB5.out.drew.trans (hb0.mono HB5.out.drew.size)) | (go_at_call 25; refine (cut_any Ac Bc ccap ccap2 ts cs w5_0 hN3 hN4 (HJ.out.keep hB0 (Nat.le_refl _)) (HK.out.keep hB0 (Nat.le_refl _)) (by omega) (by omega)).mono ?_; rintro e w5_1 ⟨u3, v3, rfl, hu3, hv3, hb1⟩; have hB1 := hB0.trans (hb1.mono hB0.size); have hA3b := hA3.keep hb1 (Nat.le_refl _)) | (go_at_call 24; refine (proveCut_any A3 l.length cap3 T C err l u3 v3 ts cs w5_1 (by omega) rfl hA3b hu3 hv3 (by omega) (by omega)).mono ?_; rintro e w6 ⟨rfl, hb2⟩; have hB2 := hB1.trans (hb2.mono hB1.size)))
          have hbR : Below w5.drew.heap.size w5.drew w6 := ((((hb0).trans (hb1.mono (hb0).size))).trans (hb2.mono (((hb0).trans (hb1.mono (hb0).size))).size))
          have HB6 := Lib.hid ((HB5.out.drew).trans (hbR.mono (HB5.out.drew).size))
          have NBi6 := Lib.hid ((hbR.block Bi (Array.getElem?_eq_some_iff.1 NBi5.out).1).trans NBi5.out)
          have NBu6 := Lib.hid ((hbR.block Bu (Array.getElem?_eq_some_iff.1 NBu5.out).1).trans NBu5.out)
          clear HB5 NBi5 NBu5 cBi0_5 cBi1_5 cBi2_5 cBu0_5 cBu1_5  hbR hb0 hB0 hb1 hB1 hb2 hB2 hA3 hA3b hN3x hu3 hv3
          have cBi0_6 : w6.cell? ⟨Bi, 0, none⟩ = some (.slice A l.length cap) := by simp [World.cell?, NBi6.out]
          have cBi1_6 : w6.cell? ⟨Bi, 1, none⟩ = some (.int .i64 T) := by simp [World.cell?, NBi6.out]
          have cBi2_6 : w6.cell? ⟨Bi, 2, none⟩ = some (.int .i64 C) := by simp [World.cell?, NBi6.out]
          have cBu0_6 : w6.cell? ⟨Bu, 0, none⟩ = some (.slice Ac ts.length ccap) := by simp [World.cell?, NBu6.out]
          have cBu1_6 : w6.cell? ⟨Bu, 1, none⟩ = some (.slice Bc cs.length ccap2) := by simp [World.cell?, NBu6.out]
          rw [HBC.out]
          obtain ⟨F, hF⟩ : ∃ F, faultL l T C = F := ⟨_, rfl⟩
          have HF := Lib.hid hF
          clear hF
          have hff : (F != F) = false := by simp
          go_wp2_with fail
          go_region_held3 (fun X => X.cell? ⟨Bi, 0, none⟩ = some (.slice A l.length cap) ∧ X.cell? ⟨Bi, 1, none⟩ = some (.int .i64 T) ∧ X.cell? ⟨Bi, 2, none⟩ = some (.int .i64 C))
            (first | go_keep | exact ⟨(cell_later hb0 cBi0_6), (cell_later hb0 cBi1_6), (cell_later hb0 cBi2_6)⟩ | exact ⟨(cell_later hb1 (cell_later hb0 cBi0_6)), (cell_later hb1 (cell_later hb0 cBi1_6)), (cell_later hb1 (cell_later hb0 cBi2_6))⟩ | exact ⟨(cell_later hb2 (cell_later hb1 (cell_later hb0 cBi0_6))), (cell_later hb2 (cell_later hb1 (cell_later hb0 cBi1_6))), (cell_later hb2 (cell_later hb1 (cell_later hb0 cBi2_6)))⟩)
            (first | (go_at_call 22; refine (net_any A cap T C l w6.drew (HA.out.keep HB6.out.drew (Nat.le_refl _)) (by omega)).mono ?_; rintro e w6_0 ⟨A3, cap3, rfl, hA3, hN3x, hb0⟩; have hB0 := HB6.out.drew.trans (hb0.mono HB6.out.drew.size)) | (go_at_call 26; refine (checkNet_any A3 l.length cap3 T C l w6_0 (by omega) rfl hA3).mono ?_; rintro e w6_1 ⟨he, hb1⟩; rw [HF.out] at he; subst he; have hB1 := hB0.trans (hb1.mono hB0.size)) | (go_at_call 27; refine (lawFault_any A l.length cap T C l w6_1 (by omega) rfl (HA.out.keep hB1 (Nat.le_refl _))).mono ?_; rintro e w7 ⟨he, hb2⟩; rw [HF.out] at he; subst he; have hB2 := hB1.trans (hb2.mono hB1.size)))
          have hbR : Below w6.drew.heap.size w6.drew w7 := ((((hb0).trans (hb1.mono (hb0).size))).trans (hb2.mono (((hb0).trans (hb1.mono (hb0).size))).size))
          have HB7 := Lib.hid ((HB6.out.drew).trans (hbR.mono (HB6.out.drew).size))
          have NBi7 := Lib.hid ((hbR.block Bi (Array.getElem?_eq_some_iff.1 NBi6.out).1).trans NBi6.out)
          have NBu7 := Lib.hid ((hbR.block Bu (Array.getElem?_eq_some_iff.1 NBu6.out).1).trans NBu6.out)
          clear HB6 NBi6 NBu6 cBi0_6 cBi1_6 cBi2_6 cBu0_6 cBu1_6  hbR hb0 hB0 hb1 hB1 hb2 hB2 hA3 hN3x
          have cBi0_7 : w7.cell? ⟨Bi, 0, none⟩ = some (.slice A l.length cap) := by simp [World.cell?, NBi7.out]
          have cBi1_7 : w7.cell? ⟨Bi, 1, none⟩ = some (.int .i64 T) := by simp [World.cell?, NBi7.out]
          have cBi2_7 : w7.cell? ⟨Bi, 2, none⟩ = some (.int .i64 C) := by simp [World.cell?, NBi7.out]
          have cBu0_7 : w7.cell? ⟨Bu, 0, none⟩ = some (.slice Ac ts.length ccap) := by simp [World.cell?, NBu7.out]
          have cBu1_7 : w7.cell? ⟨Bu, 1, none⟩ = some (.slice Bc cs.length ccap2) := by simp [World.cell?, NBu7.out]
          obtain ⟨Q, hQ⟩ : ∃ Q, askedL l T C err = Q := ⟨_, rfl⟩
          have hask := lawAsked_any A l.length cap T C err l w7 (by omega) rfl (HA.out.keep HB7.out (Nat.le_refl _))
          rw [hQ] at hask
          have HASK := Lib.hid hask
          clear hask
          by_cases h0 : Q = 0
          · obtain ⟨hok, he0, he1⟩ := askedL_ok (hQ.trans h0)
            obtain ⟨b, o, hAe⟩ := HA.out.some hok.pos
            subst hAe
            subst h0
            have HBT2 := Lib.hid (show isTruthB l T C err xs = bt by rw [← HBT.out, truthB_is, hQ]; rfl)
            have HBC2 := Lib.hid (show provesB l T C err ts cs = bc by rw [← HBC.out, cutB_proves, hQ]; rfl)
            have HO := Lib.hid hok
            clear hok hQ HBT HBC
            have ht : (bt == bt) = true := by simp
            have hc : (bc == bc) = true := by simp
            go_wp2_with fail
            refine (HASK.out).mono ?_
            rintro e w8 ⟨rfl, hb⟩
            have HB8 := Lib.hid ((HB7.out).trans (hb.mono (HB7.out).size))
            have NBi8 := Lib.hid ((hb.block Bi (Array.getElem?_eq_some_iff.1 NBi7.out).1).trans NBi7.out)
            have NBu8 := Lib.hid ((hb.block Bu (Array.getElem?_eq_some_iff.1 NBu7.out).1).trans NBu7.out)
            clear HB7 NBi7 NBu7 cBi0_7 cBi1_7 cBi2_7 cBu0_7 cBu1_7  hb HASK
            have cBi0_8 : w8.cell? ⟨Bi, 0, none⟩ = some (.slice (some ⟨b, o, none⟩) l.length cap) := by simp [World.cell?, NBi8.out]
            have cBi1_8 : w8.cell? ⟨Bi, 1, none⟩ = some (.int .i64 T) := by simp [World.cell?, NBi8.out]
            have cBi2_8 : w8.cell? ⟨Bi, 2, none⟩ = some (.int .i64 C) := by simp [World.cell?, NBi8.out]
            have cBu0_8 : w8.cell? ⟨Bu, 0, none⟩ = some (.slice Ac ts.length ccap) := by simp [World.cell?, NBu8.out]
            have cBu1_8 : w8.cell? ⟨Bu, 1, none⟩ = some (.slice Bc cs.length ccap2) := by simp [World.cell?, NBu8.out]
            have hrm := fun W hW => refRooms_any b o l.length cap T C err l 0 W rfl HO.out hW he0 he1 (by decide)
            rw [bitsL_zero] at hrm
            have HRM := Lib.hid hrm
            clear hrm
            go_wp2_with fail
            go_region_held3 (fun X => X.cell? ⟨Bi, 0, none⟩ = some (.slice (some ⟨b, o, none⟩) l.length cap) ∧ X.cell? ⟨Bi, 1, none⟩ = some (.int .i64 T) ∧ X.cell? ⟨Bi, 2, none⟩ = some (.int .i64 C) ∧ X.cell? ⟨Bu, 0, none⟩ = some (.slice Ac ts.length ccap) ∧ X.cell? ⟨Bu, 1, none⟩ = some (.slice Bc cs.length ccap2))
              (first | go_keep | exact ⟨(cell_later hb0 cBi0_8), (cell_later hb0 cBi1_8), (cell_later hb0 cBi2_8), (cell_later hb0 cBu0_8), (cell_later hb0 cBu1_8)⟩ | exact ⟨(cell_later hb1 (cell_later hb0 cBi0_8)), (cell_later hb1 (cell_later hb0 cBi1_8)), (cell_later hb1 (cell_later hb0 cBi2_8)), (cell_later hb1 (cell_later hb0 cBu0_8)), (cell_later hb1 (cell_later hb0 cBu1_8))⟩ | exact ⟨(cell_later hb2 (cell_later hb1 (cell_later hb0 cBi0_8))), (cell_later hb2 (cell_later hb1 (cell_later hb0 cBi1_8))), (cell_later hb2 (cell_later hb1 (cell_later hb0 cBi2_8))), (cell_later hb2 (cell_later hb1 (cell_later hb0 cBu0_8))), (cell_later hb2 (cell_later hb1 (cell_later hb0 cBu1_8)))⟩ | exact ⟨(cell_later hb3 (cell_later hb2 (cell_later hb1 (cell_later hb0 cBi0_8)))), (cell_later hb3 (cell_later hb2 (cell_later hb1 (cell_later hb0 cBi1_8)))), (cell_later hb3 (cell_later hb2 (cell_later hb1 (cell_later hb0 cBi2_8)))), (cell_later hb3 (cell_later hb2 (cell_later hb1 (cell_later hb0 cBu0_8)))), (cell_later hb3 (cell_later hb2 (cell_later hb1 (cell_later hb0 cBu1_8))))⟩)
              (first | (go_at_call 30; refine (HRM.out w8.drew (HA.out.keep HB8.out.drew (Nat.le_refl _))).mono ?_; rintro e w8_0 ⟨rv, rfl, hrv, hb0⟩; have hB0 := HB8.out.drew.trans (hb0.mono HB8.out.drew.size)) | (go_at_call 29; refine (refIsTruth_any b o l.length cap T C err l rv (.slice At xs.length tcap) xs w8_0 rfl HO.out (HA.out.keep hB0 (Nat.le_refl _)) he0 hrv (HI.out.keep hB0 (Nat.le_refl _))).mono ?_; rintro e w8_1 ⟨he, hb1⟩; rw [HBT2.out] at he; subst he; have hB1 := hB0.trans (hb1.mono hB0.size)) | (go_at_call 31; refine (refProves_any b o l.length cap T C err l (.slice Ac ts.length ccap) (.slice Bc cs.length ccap2) ts cs w8_1 rfl HO.out (HA.out.keep hB1 (Nat.le_refl _)) he0 he1 (HJ.out.keep hB1 (Nat.le_refl _)) (HK.out.keep hB1 (Nat.le_refl _)) (by omega) (by omega)).mono ?_; rintro e w8_2 ⟨he, hb2⟩; rw [HBC2.out] at he; subst he; have hB2 := hB1.trans (hb2.mono hB1.size)) | (go_at_call 20; refine (awake_any w8_2).mono ?_; rintro e w9 ⟨rfl, hb3⟩; have hB3 := hB2.trans (hb3.mono hB2.size)))
            have hbR : Below w8.drew.heap.size w8.drew w9 := ((((((hb0).trans (hb1.mono (hb0).size))).trans (hb2.mono (((hb0).trans (hb1.mono (hb0).size))).size))).trans (hb3.mono (((((hb0).trans (hb1.mono (hb0).size))).trans (hb2.mono (((hb0).trans (hb1.mono (hb0).size))).size))).size))
            have HB9 := Lib.hid ((HB8.out.drew).trans (hbR.mono (HB8.out.drew).size))
            have NBi9 := Lib.hid ((hbR.block Bi (Array.getElem?_eq_some_iff.1 NBi8.out).1).trans NBi8.out)
            have NBu9 := Lib.hid ((hbR.block Bu (Array.getElem?_eq_some_iff.1 NBu8.out).1).trans NBu8.out)
            clear HB8 NBi8 NBu8 cBi0_8 cBi1_8 cBi2_8 cBu0_8 cBu1_8  hbR hb0 hB0 hb1 hB1 hb2 hB2 hb3 hB3 hrv
            have cBi0_9 : w9.cell? ⟨Bi, 0, none⟩ = some (.slice (some ⟨b, o, none⟩) l.length cap) := by simp [World.cell?, NBi9.out]
            have cBi1_9 : w9.cell? ⟨Bi, 1, none⟩ = some (.int .i64 T) := by simp [World.cell?, NBi9.out]
            have cBi2_9 : w9.cell? ⟨Bi, 2, none⟩ = some (.int .i64 C) := by simp [World.cell?, NBi9.out]
            have cBu0_9 : w9.cell? ⟨Bu, 0, none⟩ = some (.slice Ac ts.length ccap) := by simp [World.cell?, NBu9.out]
            have cBu1_9 : w9.cell? ⟨Bu, 1, none⟩ = some (.slice Bc cs.length ccap2) := by simp [World.cell?, NBu9.out]
            go_wp2_with fail
            go_ret
            exact ⟨rfl, HB9.out⟩
          · have hne : (Q != 0) = true := by simpa using h0
            have hf1 : bt = false := by rw [← HBT.out, truthB_is, hQ, decide_eq_false h0]; rfl
            have hf2 : bc = false := by rw [← HBC.out, cutB_proves, hQ, decide_eq_false h0]; rfl
            subst hf1 hf2
            clear h0 hQ HBT HBC
            go_wp2_with fail
            refine (HASK.out).mono ?_
            rintro e w8 ⟨rfl, hb⟩
            have HB8 := Lib.hid ((HB7.out).trans (hb.mono (HB7.out).size))
            have NBi8 := Lib.hid ((hb.block Bi (Array.getElem?_eq_some_iff.1 NBi7.out).1).trans NBi7.out)
            have NBu8 := Lib.hid ((hb.block Bu (Array.getElem?_eq_some_iff.1 NBu7.out).1).trans NBu7.out)
            clear HB7 NBi7 NBu7 cBi0_7 cBi1_7 cBi2_7 cBu0_7 cBu1_7  hb HASK
            have cBi0_8 : w8.cell? ⟨Bi, 0, none⟩ = some (.slice A l.length cap) := by simp [World.cell?, NBi8.out]
            have cBi1_8 : w8.cell? ⟨Bi, 1, none⟩ = some (.int .i64 T) := by simp [World.cell?, NBi8.out]
            have cBi2_8 : w8.cell? ⟨Bi, 2, none⟩ = some (.int .i64 C) := by simp [World.cell?, NBi8.out]
            have cBu0_8 : w8.cell? ⟨Bu, 0, none⟩ = some (.slice Ac ts.length ccap) := by simp [World.cell?, NBu8.out]
            have cBu1_8 : w8.cell? ⟨Bu, 1, none⟩ = some (.slice Bc cs.length ccap2) := by simp [World.cell?, NBu8.out]
            go_wp2_with fail
            refine (awake_any _).mono ?_
            rintro e w9 ⟨rfl, hb⟩
            have HB9 := Lib.hid ((HB8.out).trans (hb.mono (HB8.out).size))
            have NBi9 := Lib.hid ((hb.block Bi (Array.getElem?_eq_some_iff.1 NBi8.out).1).trans NBi8.out)
            have NBu9 := Lib.hid ((hb.block Bu (Array.getElem?_eq_some_iff.1 NBu8.out).1).trans NBu8.out)
            clear HB8 NBi8 NBu8 cBi0_8 cBi1_8 cBi2_8 cBu0_8 cBu1_8  hb 
            have cBi0_9 : w9.cell? ⟨Bi, 0, none⟩ = some (.slice A l.length cap) := by simp [World.cell?, NBi9.out]
            have cBi1_9 : w9.cell? ⟨Bi, 1, none⟩ = some (.int .i64 T) := by simp [World.cell?, NBi9.out]
            have cBi2_9 : w9.cell? ⟨Bi, 2, none⟩ = some (.int .i64 C) := by simp [World.cell?, NBi9.out]
            have cBu0_9 : w9.cell? ⟨Bu, 0, none⟩ = some (.slice Ac ts.length ccap) := by simp [World.cell?, NBu9.out]
            have cBu1_9 : w9.cell? ⟨Bu, 1, none⟩ = some (.slice Bc cs.length ccap2) := by simp [World.cell?, NBu9.out]
            go_wp2_with fail
            go_ret
            exact ⟨rfl, HB9.out⟩
end Go.Proofs.Ytkloaeaepjoijaa

/-
  AngleCuts: the walk.
-/
import Derived.Test.YtkloaeaepjoijaaLawD
set_option linter.all false
namespace Go.Proofs.Ytkloaeaepjoijaa
open Go.RowKit Go.WalkArith

set_option maxRecDepth 100000 in
set_option maxHeartbeats 4000000 in
theorem cuts_walk (A : Option Addr) (n cap : Nat) (T C : Int) (l : List Ang) (err : Int) (w : World)
    (hl : l.length = n) (hA : AngsAt w A l) (_ : NilOk A cap) :
    Calls Try.prog 16 #[.agg #[.slice A n cap, .int .i64 T, .int .i64 C], .int .i64 err] w fun e w' => e = .returned (.bool true) ∧ Below w.heap.size w w' := by
  subst hl
  have HA := Lib.hid hA
  clear hA
  have hB0 : Below w.heap.size w (w.alloc (.cells #[.slice A l.length cap, .int .i64 T, .int .i64 C] 24)) := (Below.refl _ _).alloc (Nat.le_refl _) _
  have hn0 : (w.alloc (.cells #[.slice A l.length cap, .int .i64 T, .int .i64 C] 24)).heap[w.heap.size]? = some (.cells #[.slice A l.length cap, .int .i64 T, .int .i64 C] 24 (0, 0)) := heap_new_at _ _ _ rfl
  have HB1 := Lib.hid hB0
  have NBi1 := Lib.hid hn0
  clear hB0 hn0
  go_enter Try.func16, Try.ntmps16
  go_wp2_with fail
  generalize (w.alloc (.cells #[.slice A l.length cap, .int .i64 T, .int .i64 C] 24)) = w1 at HB1 NBi1 ⊢
  obtain ⟨Bi, hBi⟩ : ∃ Bi, w.heap.size = Bi := ⟨_, rfl⟩
  have oBi : w.heap.size ≤ Bi := by omega
  rw [hBi] at NBi1 ⊢
  clear hBi
  have cBi0_1 : w1.cell? ⟨Bi, 0, none⟩ = some (.slice A l.length cap) := by simp [World.cell?, NBi1.out]
  have cBi1_1 : w1.cell? ⟨Bi, 1, none⟩ = some (.int .i64 T) := by simp [World.cell?, NBi1.out]
  have cBi2_1 : w1.cell? ⟨Bi, 2, none⟩ = some (.int .i64 C) := by simp [World.cell?, NBi1.out]
  have hth := Lib.hid (thin_any A l.length cap T C w1)
  by_cases h15 : l.length ≤ 15
  rotate_left
  · have hx15 : 15 < l.length := by omega
    rw [show decide (l.length ≤ 15) = false from (by simp; omega)] at hth
    go_wp2_with fail
    refine (hth.out).mono ?_
    rintro e w2 ⟨rfl, hb⟩
    have HB2 := Lib.hid ((HB1.out).trans (hb.mono (HB1.out).size))
    have NBi2 := Lib.hid ((hb.block Bi (Array.getElem?_eq_some_iff.1 NBi1.out).1).trans NBi1.out)
    clear HB1 NBi1 cBi0_1 cBi1_1 cBi2_1  hb hth
    have cBi0_2 : w2.cell? ⟨Bi, 0, none⟩ = some (.slice A l.length cap) := by simp [World.cell?, NBi2.out]
    have cBi1_2 : w2.cell? ⟨Bi, 1, none⟩ = some (.int .i64 T) := by simp [World.cell?, NBi2.out]
    have cBi2_2 : w2.cell? ⟨Bi, 2, none⟩ = some (.int .i64 C) := by simp [World.cell?, NBi2.out]
    go_wp2_with fail
    refine (awake_any _).mono ?_
    rintro e w3 ⟨rfl, hb⟩
    have HB3 := Lib.hid ((HB2.out).trans (hb.mono (HB2.out).size))
    have NBi3 := Lib.hid ((hb.block Bi (Array.getElem?_eq_some_iff.1 NBi2.out).1).trans NBi2.out)
    clear HB2 NBi2 cBi0_2 cBi1_2 cBi2_2  hb 
    have cBi0_3 : w3.cell? ⟨Bi, 0, none⟩ = some (.slice A l.length cap) := by simp [World.cell?, NBi3.out]
    have cBi1_3 : w3.cell? ⟨Bi, 1, none⟩ = some (.int .i64 T) := by simp [World.cell?, NBi3.out]
    have cBi2_3 : w3.cell? ⟨Bi, 2, none⟩ = some (.int .i64 C) := by simp [World.cell?, NBi3.out]
    go_wp2_with fail
    go_ret
    exact ⟨rfl, HB3.out⟩
  · rw [show decide (l.length ≤ 15) = true from (by simp; omega)] at hth
    go_wp2_with fail
    refine (hth.out).mono ?_
    rintro e w2 ⟨rfl, hb⟩
    have HB2 := Lib.hid ((HB1.out).trans (hb.mono (HB1.out).size))
    have NBi2 := Lib.hid ((hb.block Bi (Array.getElem?_eq_some_iff.1 NBi1.out).1).trans NBi1.out)
    clear HB1 NBi1 cBi0_1 cBi1_1 cBi2_1  hb hth
    have cBi0_2 : w2.cell? ⟨Bi, 0, none⟩ = some (.slice A l.length cap) := by simp [World.cell?, NBi2.out]
    have cBi1_2 : w2.cell? ⟨Bi, 1, none⟩ = some (.int .i64 T) := by simp [World.cell?, NBi2.out]
    have cBi2_2 : w2.cell? ⟨Bi, 2, none⟩ = some (.int .i64 C) := by simp [World.cell?, NBi2.out]
    go_wp2_with fail
    refine (net_any A cap T C l _ (HA.out.keep HB2.out (Nat.le_refl _)) (by omega)).mono ?_
    rintro e w3 ⟨A2, cap2, rfl, hA2, hN2x, hb⟩
    have HB3 := Lib.hid ((HB2.out).trans (hb.mono (HB2.out).size))
    have NBi3 := Lib.hid ((hb.block Bi (Array.getElem?_eq_some_iff.1 NBi2.out).1).trans NBi2.out)
    have FA3 := Lib.hid hA2
    clear HB2 NBi2 cBi0_2 cBi1_2 cBi2_2 hA2 hb hN2x
    have cBi0_3 : w3.cell? ⟨Bi, 0, none⟩ = some (.slice A l.length cap) := by simp [World.cell?, NBi3.out]
    have cBi1_3 : w3.cell? ⟨Bi, 1, none⟩ = some (.int .i64 T) := by simp [World.cell?, NBi3.out]
    have cBi2_3 : w3.cell? ⟨Bi, 2, none⟩ = some (.int .i64 C) := by simp [World.cell?, NBi3.out]
    have hask := Lib.hid (fun W hW => lawSure_any A l.length cap T C err l W (by omega) rfl hW)
    by_cases h9 : sureL l T C err = 9
    · obtain ⟨has, hcan⟩ := sure_nine h9
      obtain ⟨hok, he0, he1⟩ := askedL_ok has
      obtain ⟨b, o, hAe⟩ := HA.out.some hok.pos
      subst hAe
      have hpv := Lib.hid (prove_yes (cap := cap2) (by omega) rfl FA3.out h9)
      rw [h9] at hask
      have HO := Lib.hid hok
      clear hok h9 has hcan
      go_wp2_with fail
      refine (hpv.out).mono ?_
      rintro e w4 ⟨At, Ac, tc, cc, ts, cs, rfl, hIt, hIc, ht5, hc5, hpr, hb⟩; have HPR := Lib.hid hpr
      have HB4 := Lib.hid ((HB3.out).trans (hb.mono (HB3.out).size))
      have NBi4 := Lib.hid ((hb.block Bi (Array.getElem?_eq_some_iff.1 NBi3.out).1).trans NBi3.out)
      have FA4 := Lib.hid ((FA3.out).keep hb (Nat.le_refl _))
      have FT4 := Lib.hid hIt
      have FC4 := Lib.hid hIc
      clear HB3 NBi3 cBi0_3 cBi1_3 cBi2_3 FA3 hIt hIc hb hpv hpr
      have cBi0_4 : w4.cell? ⟨Bi, 0, none⟩ = some (.slice (some ⟨b, o, none⟩) l.length cap) := by simp [World.cell?, NBi4.out]
      have cBi1_4 : w4.cell? ⟨Bi, 1, none⟩ = some (.int .i64 T) := by simp [World.cell?, NBi4.out]
      have cBi2_4 : w4.cell? ⟨Bi, 2, none⟩ = some (.int .i64 C) := by simp [World.cell?, NBi4.out]
      clear FA4
      have lBi := (Array.getElem?_eq_some_iff.1 NBi4.out).1
      go_wp2_with fail
      have hbx : Below w4.heap.size w4 (w4.alloc (.cells #[.slice At ts.length tc, .slice Ac cs.length cc] 37)) := (Below.refl _ _).alloc (Nat.le_refl _) _
      have hnx := Go.heap_alloc_new w4 (.cells #[.slice At ts.length tc, .slice Ac cs.length cc] 37)
      obtain ⟨Bc, hBc⟩ : ∃ Bc, w4.heap.size = Bc := ⟨_, rfl⟩
      have oBiBc : Bi < Bc := by omega
      clear lBi
      generalize hwx : w4.alloc (.cells #[.slice At ts.length tc, .slice Ac cs.length cc] 37) = w5 at hbx hnx ⊢
      have HB5 := Lib.hid ((HB4.out).trans (hbx.mono (HB4.out).size))
      have NBi5 := Lib.hid ((hbx.block Bi (Array.getElem?_eq_some_iff.1 NBi4.out).1).trans NBi4.out)
      have FT5 := Lib.hid ((FT4.out).keep hbx (Nat.le_refl _))
      have FC5 := Lib.hid ((FC4.out).keep hbx (Nat.le_refl _))
      clear HB4 NBi4 cBi0_4 cBi1_4 cBi2_4 FT4 FC4 hbx 
      have cBi0_5 : w5.cell? ⟨Bi, 0, none⟩ = some (.slice (some ⟨b, o, none⟩) l.length cap) := by simp [World.cell?, NBi5.out]
      have cBi1_5 : w5.cell? ⟨Bi, 1, none⟩ = some (.int .i64 T) := by simp [World.cell?, NBi5.out]
      have cBi2_5 : w5.cell? ⟨Bi, 2, none⟩ = some (.int .i64 C) := by simp [World.cell?, NBi5.out]
      rw [hBc] at hnx ⊢
      have NBc5 := Lib.hid hnx
      clear hnx hwx hBc
      have cBc0_5 : w5.cell? ⟨Bc, 0, none⟩ = some (.slice At ts.length tc) := by simp [World.cell?, NBc5.out]
      have cBc1_5 : w5.cell? ⟨Bc, 1, none⟩ = some (.slice Ac cs.length cc) := by simp [World.cell?, NBc5.out]
      go_wp2_with fail
      refine (hask.out _ (HA.out.keep HB5.out (Nat.le_refl _))).mono ?_
      rintro e w6 ⟨rfl, hb⟩
      have HB6 := Lib.hid ((HB5.out).trans (hb.mono (HB5.out).size))
      have NBi6 := Lib.hid ((hb.block Bi (Array.getElem?_eq_some_iff.1 NBi5.out).1).trans NBi5.out)
      have NBc6 := Lib.hid ((hb.block Bc (Array.getElem?_eq_some_iff.1 NBc5.out).1).trans NBc5.out)
      have FT6 := Lib.hid ((FT5.out).keep hb (Nat.le_refl _))
      have FC6 := Lib.hid ((FC5.out).keep hb (Nat.le_refl _))
      clear HB5 NBi5 NBc5 cBi0_5 cBi1_5 cBi2_5 cBc0_5 cBc1_5 FT5 FC5 hb hask
      have cBi0_6 : w6.cell? ⟨Bi, 0, none⟩ = some (.slice (some ⟨b, o, none⟩) l.length cap) := by simp [World.cell?, NBi6.out]
      have cBi1_6 : w6.cell? ⟨Bi, 1, none⟩ = some (.int .i64 T) := by simp [World.cell?, NBi6.out]
      have cBi2_6 : w6.cell? ⟨Bi, 2, none⟩ = some (.int .i64 C) := by simp [World.cell?, NBi6.out]
      have cBc0_6 : w6.cell? ⟨Bc, 0, none⟩ = some (.slice At ts.length tc) := by simp [World.cell?, NBc6.out]
      have cBc1_6 : w6.cell? ⟨Bc, 1, none⟩ = some (.slice Ac cs.length cc) := by simp [World.cell?, NBc6.out]
      have hrp := Lib.hid (refProves_any b o l.length cap T C err l _ _ ts cs _ rfl HO.out (HA.out.keep HB6.out (Nat.le_refl _)) he0 he1 FT6.out FC6.out (by omega) (by omega))
      rw [HPR.out] at hrp
      go_wp2_with fail
      refine (hrp.out).mono ?_
      rintro e w7 ⟨rfl, hb⟩
      have HB7 := Lib.hid ((HB6.out).trans (hb.mono (HB6.out).size))
      have NBi7 := Lib.hid ((hb.block Bi (Array.getElem?_eq_some_iff.1 NBi6.out).1).trans NBi6.out)
      have NBc7 := Lib.hid ((hb.block Bc (Array.getElem?_eq_some_iff.1 NBc6.out).1).trans NBc6.out)
      have FT7 := Lib.hid ((FT6.out).keep hb (Nat.le_refl _))
      have FC7 := Lib.hid ((FC6.out).keep hb (Nat.le_refl _))
      clear HB6 NBi6 NBc6 cBi0_6 cBi1_6 cBi2_6 cBc0_6 cBc1_6 FT6 FC6 hb hrp
      have cBi0_7 : w7.cell? ⟨Bi, 0, none⟩ = some (.slice (some ⟨b, o, none⟩) l.length cap) := by simp [World.cell?, NBi7.out]
      have cBi1_7 : w7.cell? ⟨Bi, 1, none⟩ = some (.int .i64 T) := by simp [World.cell?, NBi7.out]
      have cBi2_7 : w7.cell? ⟨Bi, 2, none⟩ = some (.int .i64 C) := by simp [World.cell?, NBi7.out]
      have cBc0_7 : w7.cell? ⟨Bc, 0, none⟩ = some (.slice At ts.length tc) := by simp [World.cell?, NBc7.out]
      have cBc1_7 : w7.cell? ⟨Bc, 1, none⟩ = some (.slice Ac cs.length cc) := by simp [World.cell?, NBc7.out]
      go_wp2_with fail
      refine (awake_any _).mono ?_
      rintro e w8 ⟨rfl, hb⟩
      have HB8 := Lib.hid ((HB7.out).trans (hb.mono (HB7.out).size))
      have NBi8 := Lib.hid ((hb.block Bi (Array.getElem?_eq_some_iff.1 NBi7.out).1).trans NBi7.out)
      have NBc8 := Lib.hid ((hb.block Bc (Array.getElem?_eq_some_iff.1 NBc7.out).1).trans NBc7.out)
      have FT8 := Lib.hid ((FT7.out).keep hb (Nat.le_refl _))
      have FC8 := Lib.hid ((FC7.out).keep hb (Nat.le_refl _))
      clear HB7 NBi7 NBc7 cBi0_7 cBi1_7 cBi2_7 cBc0_7 cBc1_7 FT7 FC7 hb 
      have cBi0_8 : w8.cell? ⟨Bi, 0, none⟩ = some (.slice (some ⟨b, o, none⟩) l.length cap) := by simp [World.cell?, NBi8.out]
      have cBi1_8 : w8.cell? ⟨Bi, 1, none⟩ = some (.int .i64 T) := by simp [World.cell?, NBi8.out]
      have cBi2_8 : w8.cell? ⟨Bi, 2, none⟩ = some (.int .i64 C) := by simp [World.cell?, NBi8.out]
      have cBc0_8 : w8.cell? ⟨Bc, 0, none⟩ = some (.slice At ts.length tc) := by simp [World.cell?, NBc8.out]
      have cBc1_8 : w8.cell? ⟨Bc, 1, none⟩ = some (.slice Ac cs.length cc) := by simp [World.cell?, NBc8.out]
      go_wp2_with fail
      go_ret
      exact ⟨rfl, HB8.out⟩
    · have hpv := Lib.hid (prove_no (cap := cap2) (by omega) rfl FA3.out h9)
      by_cases h0 : sureL l T C err = 0
      · rw [h0] at hpv hask
        simp only [if_true] at hpv
        clear h0 h9
        go_wp2_with fail
        refine (hpv.out).mono ?_
        rintro e w4 ⟨At, Ac, tc, cc, rfl, hb⟩
        have HB4 := Lib.hid ((HB3.out).trans (hb.mono (HB3.out).size))
        have NBi4 := Lib.hid ((hb.block Bi (Array.getElem?_eq_some_iff.1 NBi3.out).1).trans NBi3.out)
        have FA4 := Lib.hid ((FA3.out).keep hb (Nat.le_refl _))
        clear HB3 NBi3 cBi0_3 cBi1_3 cBi2_3 FA3 hb hpv
        have cBi0_4 : w4.cell? ⟨Bi, 0, none⟩ = some (.slice A l.length cap) := by simp [World.cell?, NBi4.out]
        have cBi1_4 : w4.cell? ⟨Bi, 1, none⟩ = some (.int .i64 T) := by simp [World.cell?, NBi4.out]
        have cBi2_4 : w4.cell? ⟨Bi, 2, none⟩ = some (.int .i64 C) := by simp [World.cell?, NBi4.out]
        clear FA4
        have lBi := (Array.getElem?_eq_some_iff.1 NBi4.out).1
        go_wp2_with fail
        have hbx : Below w4.heap.size w4 (w4.alloc (.cells #[.slice At 0 tc, .slice Ac 0 cc] 37)) := (Below.refl _ _).alloc (Nat.le_refl _) _
        have hnx := Go.heap_alloc_new w4 (.cells #[.slice At 0 tc, .slice Ac 0 cc] 37)
        obtain ⟨Bc, hBc⟩ : ∃ Bc, w4.heap.size = Bc := ⟨_, rfl⟩
        have oBiBc : Bi < Bc := by omega
        clear lBi
        generalize hwx : w4.alloc (.cells #[.slice At 0 tc, .slice Ac 0 cc] 37) = w5 at hbx hnx ⊢
        have HB5 := Lib.hid ((HB4.out).trans (hbx.mono (HB4.out).size))
        have NBi5 := Lib.hid ((hbx.block Bi (Array.getElem?_eq_some_iff.1 NBi4.out).1).trans NBi4.out)
        clear HB4 NBi4 cBi0_4 cBi1_4 cBi2_4  hbx 
        have cBi0_5 : w5.cell? ⟨Bi, 0, none⟩ = some (.slice A l.length cap) := by simp [World.cell?, NBi5.out]
        have cBi1_5 : w5.cell? ⟨Bi, 1, none⟩ = some (.int .i64 T) := by simp [World.cell?, NBi5.out]
        have cBi2_5 : w5.cell? ⟨Bi, 2, none⟩ = some (.int .i64 C) := by simp [World.cell?, NBi5.out]
        rw [hBc] at hnx ⊢
        have NBc5 := Lib.hid hnx
        clear hnx hwx hBc
        have cBc0_5 : w5.cell? ⟨Bc, 0, none⟩ = some (.slice At 0 tc) := by simp [World.cell?, NBc5.out]
        have cBc1_5 : w5.cell? ⟨Bc, 1, none⟩ = some (.slice Ac 0 cc) := by simp [World.cell?, NBc5.out]
        go_wp2_with fail
        refine (hask.out _ (HA.out.keep HB5.out (Nat.le_refl _))).mono ?_
        rintro e w6 ⟨rfl, hb⟩
        have HB6 := Lib.hid ((HB5.out).trans (hb.mono (HB5.out).size))
        have NBi6 := Lib.hid ((hb.block Bi (Array.getElem?_eq_some_iff.1 NBi5.out).1).trans NBi5.out)
        have NBc6 := Lib.hid ((hb.block Bc (Array.getElem?_eq_some_iff.1 NBc5.out).1).trans NBc5.out)
        clear HB5 NBi5 NBc5 cBi0_5 cBi1_5 cBi2_5 cBc0_5 cBc1_5  hb hask
        have cBi0_6 : w6.cell? ⟨Bi, 0, none⟩ = some (.slice A l.length cap) := by simp [World.cell?, NBi6.out]
        have cBi1_6 : w6.cell? ⟨Bi, 1, none⟩ = some (.int .i64 T) := by simp [World.cell?, NBi6.out]
        have cBi2_6 : w6.cell? ⟨Bi, 2, none⟩ = some (.int .i64 C) := by simp [World.cell?, NBi6.out]
        have cBc0_6 : w6.cell? ⟨Bc, 0, none⟩ = some (.slice At 0 tc) := by simp [World.cell?, NBc6.out]
        have cBc1_6 : w6.cell? ⟨Bc, 1, none⟩ = some (.slice Ac 0 cc) := by simp [World.cell?, NBc6.out]
        go_wp2_with fail
        refine (awake_any _).mono ?_
        rintro e w7 ⟨rfl, hb⟩
        have HB7 := Lib.hid ((HB6.out).trans (hb.mono (HB6.out).size))
        have NBi7 := Lib.hid ((hb.block Bi (Array.getElem?_eq_some_iff.1 NBi6.out).1).trans NBi6.out)
        have NBc7 := Lib.hid ((hb.block Bc (Array.getElem?_eq_some_iff.1 NBc6.out).1).trans NBc6.out)
        clear HB6 NBi6 NBc6 cBi0_6 cBi1_6 cBi2_6 cBc0_6 cBc1_6  hb 
        have cBi0_7 : w7.cell? ⟨Bi, 0, none⟩ = some (.slice A l.length cap) := by simp [World.cell?, NBi7.out]
        have cBi1_7 : w7.cell? ⟨Bi, 1, none⟩ = some (.int .i64 T) := by simp [World.cell?, NBi7.out]
        have cBi2_7 : w7.cell? ⟨Bi, 2, none⟩ = some (.int .i64 C) := by simp [World.cell?, NBi7.out]
        have cBc0_7 : w7.cell? ⟨Bc, 0, none⟩ = some (.slice At 0 tc) := by simp [World.cell?, NBc7.out]
        have cBc1_7 : w7.cell? ⟨Bc, 1, none⟩ = some (.slice Ac 0 cc) := by simp [World.cell?, NBc7.out]
        go_wp2_with fail
        go_ret
        exact ⟨rfl, HB7.out⟩
      · rw [if_neg h0] at hpv
        obtain ⟨Q, hQ⟩ : ∃ Q, sureL l T C err = Q := ⟨_, rfl⟩
        rw [hQ] at hpv hask h0 h9
        have q0 : (Q == 0) = false := by simpa using h0
        have q9 : (Q == 9) = false := by simpa using h9
        have qq : (Q == Q) = true := by simp
        clear hQ h0 h9
        go_wp2_with fail
        refine (hpv.out).mono ?_
        rintro e w4 ⟨At, Ac, tc, cc, rfl, hb⟩
        have HB4 := Lib.hid ((HB3.out).trans (hb.mono (HB3.out).size))
        have NBi4 := Lib.hid ((hb.block Bi (Array.getElem?_eq_some_iff.1 NBi3.out).1).trans NBi3.out)
        have FA4 := Lib.hid ((FA3.out).keep hb (Nat.le_refl _))
        clear HB3 NBi3 cBi0_3 cBi1_3 cBi2_3 FA3 hb hpv
        have cBi0_4 : w4.cell? ⟨Bi, 0, none⟩ = some (.slice A l.length cap) := by simp [World.cell?, NBi4.out]
        have cBi1_4 : w4.cell? ⟨Bi, 1, none⟩ = some (.int .i64 T) := by simp [World.cell?, NBi4.out]
        have cBi2_4 : w4.cell? ⟨Bi, 2, none⟩ = some (.int .i64 C) := by simp [World.cell?, NBi4.out]
        clear FA4
        have lBi := (Array.getElem?_eq_some_iff.1 NBi4.out).1
        go_wp2_with fail
        have hbx : Below w4.heap.size w4 (w4.alloc (.cells #[.slice At 0 tc, .slice Ac 0 cc] 37)) := (Below.refl _ _).alloc (Nat.le_refl _) _
        have hnx := Go.heap_alloc_new w4 (.cells #[.slice At 0 tc, .slice Ac 0 cc] 37)
        obtain ⟨Bc, hBc⟩ : ∃ Bc, w4.heap.size = Bc := ⟨_, rfl⟩
        have oBiBc : Bi < Bc := by omega
        clear lBi
        generalize hwx : w4.alloc (.cells #[.slice At 0 tc, .slice Ac 0 cc] 37) = w5 at hbx hnx ⊢
        have HB5 := Lib.hid ((HB4.out).trans (hbx.mono (HB4.out).size))
        have NBi5 := Lib.hid ((hbx.block Bi (Array.getElem?_eq_some_iff.1 NBi4.out).1).trans NBi4.out)
        clear HB4 NBi4 cBi0_4 cBi1_4 cBi2_4  hbx 
        have cBi0_5 : w5.cell? ⟨Bi, 0, none⟩ = some (.slice A l.length cap) := by simp [World.cell?, NBi5.out]
        have cBi1_5 : w5.cell? ⟨Bi, 1, none⟩ = some (.int .i64 T) := by simp [World.cell?, NBi5.out]
        have cBi2_5 : w5.cell? ⟨Bi, 2, none⟩ = some (.int .i64 C) := by simp [World.cell?, NBi5.out]
        rw [hBc] at hnx ⊢
        have NBc5 := Lib.hid hnx
        clear hnx hwx hBc
        have cBc0_5 : w5.cell? ⟨Bc, 0, none⟩ = some (.slice At 0 tc) := by simp [World.cell?, NBc5.out]
        have cBc1_5 : w5.cell? ⟨Bc, 1, none⟩ = some (.slice Ac 0 cc) := by simp [World.cell?, NBc5.out]
        go_wp2_with fail
        refine (hask.out _ (HA.out.keep HB5.out (Nat.le_refl _))).mono ?_
        rintro e w6 ⟨rfl, hb⟩
        have HB6 := Lib.hid ((HB5.out).trans (hb.mono (HB5.out).size))
        have NBi6 := Lib.hid ((hb.block Bi (Array.getElem?_eq_some_iff.1 NBi5.out).1).trans NBi5.out)
        have NBc6 := Lib.hid ((hb.block Bc (Array.getElem?_eq_some_iff.1 NBc5.out).1).trans NBc5.out)
        clear HB5 NBi5 NBc5 cBi0_5 cBi1_5 cBi2_5 cBc0_5 cBc1_5  hb hask
        have cBi0_6 : w6.cell? ⟨Bi, 0, none⟩ = some (.slice A l.length cap) := by simp [World.cell?, NBi6.out]
        have cBi1_6 : w6.cell? ⟨Bi, 1, none⟩ = some (.int .i64 T) := by simp [World.cell?, NBi6.out]
        have cBi2_6 : w6.cell? ⟨Bi, 2, none⟩ = some (.int .i64 C) := by simp [World.cell?, NBi6.out]
        have cBc0_6 : w6.cell? ⟨Bc, 0, none⟩ = some (.slice At 0 tc) := by simp [World.cell?, NBc6.out]
        have cBc1_6 : w6.cell? ⟨Bc, 1, none⟩ = some (.slice Ac 0 cc) := by simp [World.cell?, NBc6.out]
        go_wp2_with fail
        refine (awake_any _).mono ?_
        rintro e w7 ⟨rfl, hb⟩
        have HB7 := Lib.hid ((HB6.out).trans (hb.mono (HB6.out).size))
        have NBi7 := Lib.hid ((hb.block Bi (Array.getElem?_eq_some_iff.1 NBi6.out).1).trans NBi6.out)
        have NBc7 := Lib.hid ((hb.block Bc (Array.getElem?_eq_some_iff.1 NBc6.out).1).trans NBc6.out)
        clear HB6 NBi6 NBc6 cBi0_6 cBi1_6 cBi2_6 cBc0_6 cBc1_6  hb 
        have cBi0_7 : w7.cell? ⟨Bi, 0, none⟩ = some (.slice A l.length cap) := by simp [World.cell?, NBi7.out]
        have cBi1_7 : w7.cell? ⟨Bi, 1, none⟩ = some (.int .i64 T) := by simp [World.cell?, NBi7.out]
        have cBi2_7 : w7.cell? ⟨Bi, 2, none⟩ = some (.int .i64 C) := by simp [World.cell?, NBi7.out]
        have cBc0_7 : w7.cell? ⟨Bc, 0, none⟩ = some (.slice At 0 tc) := by simp [World.cell?, NBc7.out]
        have cBc1_7 : w7.cell? ⟨Bc, 1, none⟩ = some (.slice Ac 0 cc) := by simp [World.cell?, NBc7.out]
        go_wp2_with fail
        go_ret
        exact ⟨rfl, HB7.out⟩
end Go.Proofs.Ytkloaeaepjoijaa

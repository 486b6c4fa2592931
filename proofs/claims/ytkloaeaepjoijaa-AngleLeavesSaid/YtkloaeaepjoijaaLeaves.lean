/-
  AngleLeaves: the walk.
-/
import Derived.Test.YtkloaeaepjoijaaLawA
set_option linter.all false
namespace Go.Proofs.Ytkloaeaepjoijaa
open Go.RowKit Go.WalkArith

set_option maxRecDepth 100000 in
set_option maxHeartbeats 8000000 in
theorem leaves_walk (A : Option Addr) (n cap : Nat) (T C : Int) (l : List Ang) (err : Int) (w : World)
    (hl : l.length = n) (hA : AngsAt w A l) (_ : NilOk A cap) :
    Calls Try.prog 7 #[.agg #[.slice A n cap, .int .i64 T, .int .i64 C], .int .i64 err] w fun e w' => e = .returned (.bool true) ∧ Below w.heap.size w w' := by
  subst hl
  have HA := Lib.hid hA
  clear hA
  have hB0 : Below w.heap.size w (w.alloc (.cells #[.slice A l.length cap, .int .i64 T, .int .i64 C] 24)) := (Below.refl _ _).alloc (Nat.le_refl _) _
  have hn0 : (w.alloc (.cells #[.slice A l.length cap, .int .i64 T, .int .i64 C] 24)).heap[w.heap.size]? = some (.cells #[.slice A l.length cap, .int .i64 T, .int .i64 C] 24 (0, 0)) := heap_new_at _ _ _ rfl
  have HB1 := Lib.hid hB0
  have NBi1 := Lib.hid hn0
  clear hB0 hn0
  go_enter Try.func7, Try.ntmps7
  go_wp2_with fail
  generalize (w.alloc (.cells #[.slice A l.length cap, .int .i64 T, .int .i64 C] 24)) = w1 at HB1 NBi1 ⊢
  obtain ⟨Bi, hBi⟩ : ∃ Bi, w.heap.size = Bi := ⟨_, rfl⟩
  have oBi : w.heap.size ≤ Bi := by omega
  rw [hBi] at NBi1 ⊢
  clear hBi
  have cBi0_1 : w1.cell? ⟨Bi, 0, none⟩ = some (.slice A l.length cap) := by simp [World.cell?, NBi1.out]
  have cBi1_1 : w1.cell? ⟨Bi, 1, none⟩ = some (.int .i64 T) := by simp [World.cell?, NBi1.out]
  have cBi2_1 : w1.cell? ⟨Bi, 2, none⟩ = some (.int .i64 C) := by simp [World.cell?, NBi1.out]
  have hth := Lib.hid (few_all A l.length cap T C 8 l w1 rfl (HA.out.keep HB1.out (Nat.le_refl _)))
  obtain ⟨fb, hfb⟩ : ∃ fb, fewB l T C 8 = fb := ⟨_, rfl⟩
  rw [hfb] at hth
  cases fb with
  | false =>
    go_wp2_with fail
    refine (hth.out).mono ?_
    rintro e w2 ⟨rfl, hb⟩
    have HB2 := Lib.hid ((HB1.out).trans (hb.mono (HB1.out).size))
    have NBi2 := Lib.hid ((hb.block Bi (Array.getElem?_eq_some_iff.1 NBi1.out).1).trans NBi1.out)
    clear HB1 NBi1 cBi0_1 cBi1_1 cBi2_1  hb hth
    have cBi0_2 : w2.cell? ⟨Bi, 0, none⟩ = some (.slice A l.length cap) := by simp [World.cell?, NBi2.out]
    have cBi1_2 : w2.cell? ⟨Bi, 1, none⟩ = some (.int .i64 T) := by simp [World.cell?, NBi2.out]
    have cBi2_2 : w2.cell? ⟨Bi, 2, none⟩ = some (.int .i64 C) := by simp [World.cell?, NBi2.out]
    go_wp2_with fail
    refine (awake_any _).mono ?_
    rintro e w3 ⟨rfl, hb⟩
    have HB3 := Lib.hid ((HB2.out).trans (hb.mono (HB2.out).size))
    have NBi3 := Lib.hid ((hb.block Bi (Array.getElem?_eq_some_iff.1 NBi2.out).1).trans NBi2.out)
    clear HB2 NBi2 cBi0_2 cBi1_2 cBi2_2  hb 
    have cBi0_3 : w3.cell? ⟨Bi, 0, none⟩ = some (.slice A l.length cap) := by simp [World.cell?, NBi3.out]
    have cBi1_3 : w3.cell? ⟨Bi, 1, none⟩ = some (.int .i64 T) := by simp [World.cell?, NBi3.out]
    have cBi2_3 : w3.cell? ⟨Bi, 2, none⟩ = some (.int .i64 C) := by simp [World.cell?, NBi3.out]
    go_wp2_with fail
    go_ret
    exact ⟨rfl, HB3.out⟩
  | true =>
    have h15 := fewB_len hfb
    clear hfb
    go_wp2_with fail
    refine (hth.out).mono ?_
    rintro e w2 ⟨rfl, hb⟩
    have HB2 := Lib.hid ((HB1.out).trans (hb.mono (HB1.out).size))
    have NBi2 := Lib.hid ((hb.block Bi (Array.getElem?_eq_some_iff.1 NBi1.out).1).trans NBi1.out)
    clear HB1 NBi1 cBi0_1 cBi1_1 cBi2_1  hb hth
    have cBi0_2 : w2.cell? ⟨Bi, 0, none⟩ = some (.slice A l.length cap) := by simp [World.cell?, NBi2.out]
    have cBi1_2 : w2.cell? ⟨Bi, 1, none⟩ = some (.int .i64 T) := by simp [World.cell?, NBi2.out]
    have cBi2_2 : w2.cell? ⟨Bi, 2, none⟩ = some (.int .i64 C) := by simp [World.cell?, NBi2.out]
    go_wp2_with fail
    refine (net_any A cap T C l _ (HA.out.keep HB2.out (Nat.le_refl _)) (by omega)).mono ?_
    rintro e w3 ⟨A2, cap2, rfl, hA2, hN2x, hb⟩
    have HB3 := Lib.hid ((HB2.out).trans (hb.mono (HB2.out).size))
    have NBi3 := Lib.hid ((hb.block Bi (Array.getElem?_eq_some_iff.1 NBi2.out).1).trans NBi2.out)
    have FA3 := Lib.hid hA2
    clear HB2 NBi2 cBi0_2 cBi1_2 cBi2_2 hA2 hb hN2x
    have cBi0_3 : w3.cell? ⟨Bi, 0, none⟩ = some (.slice A l.length cap) := by simp [World.cell?, NBi3.out]
    have cBi1_3 : w3.cell? ⟨Bi, 1, none⟩ = some (.int .i64 T) := by simp [World.cell?, NBi3.out]
    have cBi2_3 : w3.cell? ⟨Bi, 2, none⟩ = some (.int .i64 C) := by simp [World.cell?, NBi3.out]
    have hask := Lib.hid (fun W hW => lawAsked_any A l.length cap T C err l W (by omega) rfl hW)
    by_cases h0 : askedL l T C err = 0
    ·   obtain ⟨hok, he0, he1⟩ := askedL_ok h0
        obtain ⟨b, o, hAe⟩ := HA.out.some hok.pos
        subst hAe
        rw [h0] at hask
        have HO := Lib.hid hok
        have hfull := leaveO_full (err := err) hok he0
        have hn12 := hok.len
        clear hok
        cases hlo : leaveO l T C err with
        | none =>
          rw [hlo] at hfull
          have HFU := Lib.hid hfull.symm
          have hlv := Lib.hid (leave_none (cap := cap2) (by omega) rfl FA3.out h0 hlo)
          clear hfull hlo h0
          go_wp2_with fail
          refine (hlv.out).mono ?_
          rintro e w4 ⟨rfl, hb⟩
          have HB4 := Lib.hid ((HB3.out).trans (hb.mono (HB3.out).size))
          have NBi4 := Lib.hid ((hb.block Bi (Array.getElem?_eq_some_iff.1 NBi3.out).1).trans NBi3.out)
          have FA4 := Lib.hid ((FA3.out).keep hb (Nat.le_refl _))
          clear HB3 NBi3 cBi0_3 cBi1_3 cBi2_3 FA3 hb hlv
          have cBi0_4 : w4.cell? ⟨Bi, 0, none⟩ = some (.slice (some ⟨b, o, none⟩) l.length cap) := by simp [World.cell?, NBi4.out]
          have cBi1_4 : w4.cell? ⟨Bi, 1, none⟩ = some (.int .i64 T) := by simp [World.cell?, NBi4.out]
          have cBi2_4 : w4.cell? ⟨Bi, 2, none⟩ = some (.int .i64 C) := by simp [World.cell?, NBi4.out]
          clear FA4
          go_wp2_with fail
          refine (hask.out _ (HA.out.keep HB4.out (Nat.le_refl _))).mono ?_
          rintro e w5 ⟨rfl, hb⟩
          have HB5 := Lib.hid ((HB4.out).trans (hb.mono (HB4.out).size))
          have NBi5 := Lib.hid ((hb.block Bi (Array.getElem?_eq_some_iff.1 NBi4.out).1).trans NBi4.out)
          clear HB4 NBi4 cBi0_4 cBi1_4 cBi2_4  hb hask
          have cBi0_5 : w5.cell? ⟨Bi, 0, none⟩ = some (.slice (some ⟨b, o, none⟩) l.length cap) := by simp [World.cell?, NBi5.out]
          have cBi1_5 : w5.cell? ⟨Bi, 1, none⟩ = some (.int .i64 T) := by simp [World.cell?, NBi5.out]
          have cBi2_5 : w5.cell? ⟨Bi, 2, none⟩ = some (.int .i64 C) := by simp [World.cell?, NBi5.out]
          go_wp2_with fail
          refine (refLeave_any b o l.length cap T C err l _ rfl HO.out (HA.out.keep HB5.out (Nat.le_refl _)) he0 he1).mono ?_
          rintro e w6 ⟨lv, best, he, hlvI, hbest, hb⟩; rw [HFU.out] at he; subst he
          have HB6 := Lib.hid ((HB5.out).trans (hb.mono (HB5.out).size))
          have NBi6 := Lib.hid ((hb.block Bi (Array.getElem?_eq_some_iff.1 NBi5.out).1).trans NBi5.out)
          clear HB5 NBi5 cBi0_5 cBi1_5 cBi2_5  hb hbest
          have cBi0_6 : w6.cell? ⟨Bi, 0, none⟩ = some (.slice (some ⟨b, o, none⟩) l.length cap) := by simp [World.cell?, NBi6.out]
          have cBi1_6 : w6.cell? ⟨Bi, 1, none⟩ = some (.int .i64 T) := by simp [World.cell?, NBi6.out]
          have cBi2_6 : w6.cell? ⟨Bi, 2, none⟩ = some (.int .i64 C) := by simp [World.cell?, NBi6.out]
          go_wp2_with fail
          refine (awake_any _).mono ?_
          rintro e w7 ⟨rfl, hb⟩
          have HB7 := Lib.hid ((HB6.out).trans (hb.mono (HB6.out).size))
          have NBi7 := Lib.hid ((hb.block Bi (Array.getElem?_eq_some_iff.1 NBi6.out).1).trans NBi6.out)
          clear HB6 NBi6 cBi0_6 cBi1_6 cBi2_6  hb 
          have cBi0_7 : w7.cell? ⟨Bi, 0, none⟩ = some (.slice (some ⟨b, o, none⟩) l.length cap) := by simp [World.cell?, NBi7.out]
          have cBi1_7 : w7.cell? ⟨Bi, 1, none⟩ = some (.int .i64 T) := by simp [World.cell?, NBi7.out]
          have cBi2_7 : w7.cell? ⟨Bi, 2, none⟩ = some (.int .i64 C) := by simp [World.cell?, NBi7.out]
          go_wp2_with fail
          go_ret
          exact ⟨rfl, HB7.out⟩
        | some L =>
          rw [hlo] at hfull
          have HFU := Lib.hid hfull.symm
          have HLO := Lib.hid hlo
          have hlv := Lib.hid (leave_some (cap := cap2) (by omega) rfl FA3.out h0 hlo)
          clear hfull hlo h0
          go_wp2_with fail
          refine (hlv.out).mono ?_
          rintro e w4 ⟨Av, cp, rfl, hI, hb⟩
          have HB4 := Lib.hid ((HB3.out).trans (hb.mono (HB3.out).size))
          have NBi4 := Lib.hid ((hb.block Bi (Array.getElem?_eq_some_iff.1 NBi3.out).1).trans NBi3.out)
          have FA4 := Lib.hid ((FA3.out).keep hb (Nat.le_refl _))
          have FV4 := Lib.hid hI
          clear HB3 NBi3 cBi0_3 cBi1_3 cBi2_3 FA3 hI hb hlv
          have cBi0_4 : w4.cell? ⟨Bi, 0, none⟩ = some (.slice (some ⟨b, o, none⟩) l.length cap) := by simp [World.cell?, NBi4.out]
          have cBi1_4 : w4.cell? ⟨Bi, 1, none⟩ = some (.int .i64 T) := by simp [World.cell?, NBi4.out]
          have cBi2_4 : w4.cell? ⟨Bi, 2, none⟩ = some (.int .i64 C) := by simp [World.cell?, NBi4.out]
          clear FA4
          go_wp2_with fail
          refine (hask.out _ (HA.out.keep HB4.out (Nat.le_refl _))).mono ?_
          rintro e w5 ⟨rfl, hb⟩
          have HB5 := Lib.hid ((HB4.out).trans (hb.mono (HB4.out).size))
          have NBi5 := Lib.hid ((hb.block Bi (Array.getElem?_eq_some_iff.1 NBi4.out).1).trans NBi4.out)
          have FV5 := Lib.hid ((FV4.out).keep hb (Nat.le_refl _))
          clear HB4 NBi4 cBi0_4 cBi1_4 cBi2_4 FV4 hb hask
          have cBi0_5 : w5.cell? ⟨Bi, 0, none⟩ = some (.slice (some ⟨b, o, none⟩) l.length cap) := by simp [World.cell?, NBi5.out]
          have cBi1_5 : w5.cell? ⟨Bi, 1, none⟩ = some (.int .i64 T) := by simp [World.cell?, NBi5.out]
          have cBi2_5 : w5.cell? ⟨Bi, 2, none⟩ = some (.int .i64 C) := by simp [World.cell?, NBi5.out]
          go_wp2_with fail
          refine (refLeave_any b o l.length cap T C err l _ rfl HO.out (HA.out.keep HB5.out (Nat.le_refl _)) he0 he1).mono ?_
          rintro e w6 ⟨lv, best, he, hlvI, hbest, hb⟩; rw [HFU.out] at he; subst he; obtain rfl := hbest.fin (by omega) HLO.out HFU.out
          have HB6 := Lib.hid ((HB5.out).trans (hb.mono (HB5.out).size))
          have NBi6 := Lib.hid ((hb.block Bi (Array.getElem?_eq_some_iff.1 NBi5.out).1).trans NBi5.out)
          have FV6 := Lib.hid ((FV5.out).keep hb (Nat.le_refl _))
          have FD6 := Lib.hid hlvI
          clear HB5 NBi5 cBi0_5 cBi1_5 cBi2_5 FV5 hlvI hb hbest
          have cBi0_6 : w6.cell? ⟨Bi, 0, none⟩ = some (.slice (some ⟨b, o, none⟩) l.length cap) := by simp [World.cell?, NBi6.out]
          have cBi1_6 : w6.cell? ⟨Bi, 1, none⟩ = some (.int .i64 T) := by simp [World.cell?, NBi6.out]
          have cBi2_6 : w6.cell? ⟨Bi, 2, none⟩ = some (.int .i64 C) := by simp [World.cell?, NBi6.out]
          have hLn : best.length ≤ 1000000 := by
            rcases leaveO_spec l T C err with ⟨h, _⟩ | ⟨L2, h, hu, _⟩
            · rw [HLO.out] at h; cases h
            · obtain rfl : best = L2 := by rw [HLO.out] at h; simpa using h
              rcases hu.len with h | h
              · rw [h]; simp
              · omega
          have hin := Lib.hid (ints_any _ _ best best w6 FV6.out FD6.out hLn)
          rw [decide_eq_true rfl] at hin
          go_wp2_with fail
          refine (hin.out).mono ?_
          rintro e w7 ⟨rfl, hb⟩
          have HB7 := Lib.hid ((HB6.out).trans (hb.mono (HB6.out).size))
          have NBi7 := Lib.hid ((hb.block Bi (Array.getElem?_eq_some_iff.1 NBi6.out).1).trans NBi6.out)
          have FV7 := Lib.hid ((FV6.out).keep hb (Nat.le_refl _))
          have FD7 := Lib.hid ((FD6.out).keep hb (Nat.le_refl _))
          clear HB6 NBi6 cBi0_6 cBi1_6 cBi2_6 FV6 FD6 hb hin
          have cBi0_7 : w7.cell? ⟨Bi, 0, none⟩ = some (.slice (some ⟨b, o, none⟩) l.length cap) := by simp [World.cell?, NBi7.out]
          have cBi1_7 : w7.cell? ⟨Bi, 1, none⟩ = some (.int .i64 T) := by simp [World.cell?, NBi7.out]
          have cBi2_7 : w7.cell? ⟨Bi, 2, none⟩ = some (.int .i64 C) := by simp [World.cell?, NBi7.out]
          go_wp2_with fail
          refine (awake_any _).mono ?_
          rintro e w8 ⟨rfl, hb⟩
          have HB8 := Lib.hid ((HB7.out).trans (hb.mono (HB7.out).size))
          have NBi8 := Lib.hid ((hb.block Bi (Array.getElem?_eq_some_iff.1 NBi7.out).1).trans NBi7.out)
          have FV8 := Lib.hid ((FV7.out).keep hb (Nat.le_refl _))
          have FD8 := Lib.hid ((FD7.out).keep hb (Nat.le_refl _))
          clear HB7 NBi7 cBi0_7 cBi1_7 cBi2_7 FV7 FD7 hb 
          have cBi0_8 : w8.cell? ⟨Bi, 0, none⟩ = some (.slice (some ⟨b, o, none⟩) l.length cap) := by simp [World.cell?, NBi8.out]
          have cBi1_8 : w8.cell? ⟨Bi, 1, none⟩ = some (.int .i64 T) := by simp [World.cell?, NBi8.out]
          have cBi2_8 : w8.cell? ⟨Bi, 2, none⟩ = some (.int .i64 C) := by simp [World.cell?, NBi8.out]
          go_wp2_with fail
          go_ret
          exact ⟨rfl, HB8.out⟩
    ·   have hlv := Lib.hid (leave_no (cap := cap2) (by omega) rfl FA3.out h0)
        obtain ⟨Q, hQ⟩ : ∃ Q, askedL l T C err = Q := ⟨_, rfl⟩
        rw [hQ] at hlv hask h0
        have hne : (Q != 0) = true := by simpa using h0
        have hee : (Q == Q) = true := by simp
        clear hQ h0
        go_wp2_with fail
        refine (hlv.out).mono ?_
        rintro e w4 ⟨rfl, hb⟩
        have HB4 := Lib.hid ((HB3.out).trans (hb.mono (HB3.out).size))
        have NBi4 := Lib.hid ((hb.block Bi (Array.getElem?_eq_some_iff.1 NBi3.out).1).trans NBi3.out)
        have FA4 := Lib.hid ((FA3.out).keep hb (Nat.le_refl _))
        clear HB3 NBi3 cBi0_3 cBi1_3 cBi2_3 FA3 hb hlv
        have cBi0_4 : w4.cell? ⟨Bi, 0, none⟩ = some (.slice A l.length cap) := by simp [World.cell?, NBi4.out]
        have cBi1_4 : w4.cell? ⟨Bi, 1, none⟩ = some (.int .i64 T) := by simp [World.cell?, NBi4.out]
        have cBi2_4 : w4.cell? ⟨Bi, 2, none⟩ = some (.int .i64 C) := by simp [World.cell?, NBi4.out]
        clear FA4
        go_wp2_with fail
        refine (hask.out _ (HA.out.keep HB4.out (Nat.le_refl _))).mono ?_
        rintro e w5 ⟨rfl, hb⟩
        have HB5 := Lib.hid ((HB4.out).trans (hb.mono (HB4.out).size))
        have NBi5 := Lib.hid ((hb.block Bi (Array.getElem?_eq_some_iff.1 NBi4.out).1).trans NBi4.out)
        clear HB4 NBi4 cBi0_4 cBi1_4 cBi2_4  hb hask
        have cBi0_5 : w5.cell? ⟨Bi, 0, none⟩ = some (.slice A l.length cap) := by simp [World.cell?, NBi5.out]
        have cBi1_5 : w5.cell? ⟨Bi, 1, none⟩ = some (.int .i64 T) := by simp [World.cell?, NBi5.out]
        have cBi2_5 : w5.cell? ⟨Bi, 2, none⟩ = some (.int .i64 C) := by simp [World.cell?, NBi5.out]
        go_wp2_with fail
        refine (awake_any _).mono ?_
        rintro e w6 ⟨rfl, hb⟩
        have HB6 := Lib.hid ((HB5.out).trans (hb.mono (HB5.out).size))
        have NBi6 := Lib.hid ((hb.block Bi (Array.getElem?_eq_some_iff.1 NBi5.out).1).trans NBi5.out)
        clear HB5 NBi5 cBi0_5 cBi1_5 cBi2_5  hb 
        have cBi0_6 : w6.cell? ⟨Bi, 0, none⟩ = some (.slice A l.length cap) := by simp [World.cell?, NBi6.out]
        have cBi1_6 : w6.cell? ⟨Bi, 1, none⟩ = some (.int .i64 T) := by simp [World.cell?, NBi6.out]
        have cBi2_6 : w6.cell? ⟨Bi, 2, none⟩ = some (.int .i64 C) := by simp [World.cell?, NBi6.out]
        go_wp2_with fail
        go_ret
        exact ⟨rfl, HB6.out⟩
end Go.Proofs.Ytkloaeaepjoijaa

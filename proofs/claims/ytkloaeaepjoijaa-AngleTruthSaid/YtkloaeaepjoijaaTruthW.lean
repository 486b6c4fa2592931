/-
  AngleTruth: the walk.
-/
import Derived.Test.YtkloaeaepjoijaaClosedL
set_option linter.all false
namespace Go.Proofs.Ytkloaeaepjoijaa
open Go.RowKit Go.WalkArith

def AtRel (n : Nat) (w2 : World) (i : Value) (wr : World) : Prop :=
  ∃ k : Nat, k ≤ n ∧ i = .int .i64 k ∧ Below w2.heap.size w2 wr

set_option maxRecDepth 100000 in
set_option maxHeartbeats 4000000 in
theorem truth_walk (A0 : Option Addr) (cap0 : Nat) (ws : List Int) (er : Int) (w : World) (hW : WordsAt w (.slice A0 ws.length cap0) ws) (hn : ws.length ≤ 9223372036854775807) (he0 : 0 ≤ er) (he1 : er ≤ 255) :
    Calls Try.prog 8 #[.slice A0 ws.length cap0, .int .u8 er] w fun e w' => e = .returned (.bool true) ∧ Below w.heap.size w w' := by
  have HW := Lib.hid hW
  clear hW
  obtain ⟨e, hE⟩ : ∃ e, er % 6 = e := ⟨_, rfl⟩
  have e0 : 0 ≤ e ∧ e ≤ 5 := by omega
  have hcl := Lib.hid (closed_any (.slice A0 ws.length cap0) ws e w HW.out hn e0)
  go_enter Try.func8, Try.ntmps8
  go_wp2_with fail
  refine hcl.out.mono ?_
  rintro e' w1 ⟨hb, A, cap, T, C, vt, l, xs, rfl, hA, hI, ⟨gA, rfl⟩, hlen, hcl2⟩
  obtain ⟨Av, cv, rfl, _⟩ := id hI
  have HB1 := Lib.hid hb
  have FA1 := Lib.hid hA
  have FV1 := Lib.hid hI
  have HLEN := Lib.hid hlen
  clear hb hA hI hlen hcl
  rcases hcl2 with ⟨h13, hf3⟩ | ⟨hok, htb⟩
  · have HF := Lib.hid hf3
    have hl13 : l.length ≤ 1000000 := by omega
    clear hf3 h13
    go_wp2_with fail
    have hbx : Below w1.heap.size w1 (w1.alloc (.cells #[.slice (some ⟨gA, 0, none⟩) l.length cap, .int .i64 T, .int .i64 C] 24)) := (Below.refl _ _).alloc (Nat.le_refl _) _
    have hnx := Go.heap_alloc_new w1 (.cells #[.slice (some ⟨gA, 0, none⟩) l.length cap, .int .i64 T, .int .i64 C] 24)
    obtain ⟨Bi, hBi⟩ : ∃ x, w1.heap.size = x := ⟨_, rfl⟩
    have oBi : w.heap.size ≤ Bi := by have := HB1.out.size; omega
    generalize hwx : w1.alloc (.cells #[.slice (some ⟨gA, 0, none⟩) l.length cap, .int .i64 T, .int .i64 C] 24) = w2 at hbx hnx ⊢
    have HB2 := Lib.hid ((HB1.out).trans (hbx.mono (HB1.out).size))
    have FA2 := Lib.hid ((FA1.out).keep hbx (Nat.le_refl _))
    have FV2 := Lib.hid ((FV1.out).keep hbx (Nat.le_refl _))
    clear HB1 FA1 FV1 hbx 
    rw [hBi] at hnx ⊢
    have NBi2 := Lib.hid hnx
    clear hnx hwx hBi
    have cBi0_2 : w2.cell? ⟨Bi, 0, none⟩ = some (.slice (some ⟨gA, 0, none⟩) l.length cap) := by simp [World.cell?, NBi2.out]
    have cBi1_2 : w2.cell? ⟨Bi, 1, none⟩ = some (.int .i64 T) := by simp [World.cell?, NBi2.out]
    have cBi2_2 : w2.cell? ⟨Bi, 2, none⟩ = some (.int .i64 C) := by simp [World.cell?, NBi2.out]
    have hfa := Lib.hid (lawFault_any (some ⟨gA, 0, none⟩) l.length cap T C l w2 hl13 rfl FA2.out)
    rw [HF.out] at hfa
    go_wp2_with fail
    refine (hfa.out).mono ?_
    rintro e w3 ⟨rfl, hb⟩
    have HB3 := Lib.hid ((HB2.out).trans (hb.mono (HB2.out).size))
    have NBi3 := Lib.hid ((hb.block Bi (Array.getElem?_eq_some_iff.1 NBi2.out).1).trans NBi2.out)
    have FA3 := Lib.hid ((FA2.out).keep hb (Nat.le_refl _))
    have FV3 := Lib.hid ((FV2.out).keep hb (Nat.le_refl _))
    clear HB2 NBi2 cBi0_2 cBi1_2 cBi2_2 FA2 FV2 hb hfa
    have cBi0_3 : w3.cell? ⟨Bi, 0, none⟩ = some (.slice (some ⟨gA, 0, none⟩) l.length cap) := by simp [World.cell?, NBi3.out]
    have cBi1_3 : w3.cell? ⟨Bi, 1, none⟩ = some (.int .i64 T) := by simp [World.cell?, NBi3.out]
    have cBi2_3 : w3.cell? ⟨Bi, 2, none⟩ = some (.int .i64 C) := by simp [World.cell?, NBi3.out]
    go_wp2_with fail
    refine (awake_any _).mono ?_
    rintro e w4 ⟨rfl, hb⟩
    have HB4 := Lib.hid ((HB3.out).trans (hb.mono (HB3.out).size))
    have NBi4 := Lib.hid ((hb.block Bi (Array.getElem?_eq_some_iff.1 NBi3.out).1).trans NBi3.out)
    have FA4 := Lib.hid ((FA3.out).keep hb (Nat.le_refl _))
    have FV4 := Lib.hid ((FV3.out).keep hb (Nat.le_refl _))
    clear HB3 NBi3 cBi0_3 cBi1_3 cBi2_3 FA3 FV3 hb 
    have cBi0_4 : w4.cell? ⟨Bi, 0, none⟩ = some (.slice (some ⟨gA, 0, none⟩) l.length cap) := by simp [World.cell?, NBi4.out]
    have cBi1_4 : w4.cell? ⟨Bi, 1, none⟩ = some (.int .i64 T) := by simp [World.cell?, NBi4.out]
    have cBi2_4 : w4.cell? ⟨Bi, 2, none⟩ = some (.int .i64 C) := by simp [World.cell?, NBi4.out]
    go_wp2_with fail
    go_ret
    exact ⟨rfl, HB4.out⟩
  · have HO := Lib.hid hok
    have HTB := Lib.hid htb
    have hn12 := hok.len
    have hpos := hok.pos
    have hft := faultL_zero.2 hok
    obtain ⟨hle, hl0, hl1⟩ := truth_least htb
    have hsu := truth_sure htb
    have hlo := truth_leave htb
    have has := (truthB_iff.1 htb).1
    obtain ⟨LN, hLN⟩ : ∃ N, leastN l T C = N := ⟨_, rfl⟩
    rw [hLN] at hl0 hl1
    have HFT := Lib.hid hft
    have HLE := Lib.hid (And.intro hle hLN)
    have HSU := Lib.hid hsu
    have HLO := Lib.hid hlo
    have HAS := Lib.hid has
    clear hok htb hft hle hsu hlo has hLN
    go_wp2_with fail
    have hbx : Below w1.heap.size w1 (w1.alloc (.cells #[.slice (some ⟨gA, 0, none⟩) l.length cap, .int .i64 T, .int .i64 C] 24)) := (Below.refl _ _).alloc (Nat.le_refl _) _
    have hnx := Go.heap_alloc_new w1 (.cells #[.slice (some ⟨gA, 0, none⟩) l.length cap, .int .i64 T, .int .i64 C] 24)
    obtain ⟨Bi, hBi⟩ : ∃ x, w1.heap.size = x := ⟨_, rfl⟩
    have oBi : w.heap.size ≤ Bi := by have := HB1.out.size; omega
    generalize hwx : w1.alloc (.cells #[.slice (some ⟨gA, 0, none⟩) l.length cap, .int .i64 T, .int .i64 C] 24) = w2 at hbx hnx ⊢
    have HB2 := Lib.hid ((HB1.out).trans (hbx.mono (HB1.out).size))
    have FA2 := Lib.hid ((FA1.out).keep hbx (Nat.le_refl _))
    have FV2 := Lib.hid ((FV1.out).keep hbx (Nat.le_refl _))
    clear HB1 FA1 FV1 hbx 
    rw [hBi] at hnx ⊢
    have NBi2 := Lib.hid hnx
    clear hnx hwx hBi
    have cBi0_2 : w2.cell? ⟨Bi, 0, none⟩ = some (.slice (some ⟨gA, 0, none⟩) l.length cap) := by simp [World.cell?, NBi2.out]
    have cBi1_2 : w2.cell? ⟨Bi, 1, none⟩ = some (.int .i64 T) := by simp [World.cell?, NBi2.out]
    have cBi2_2 : w2.cell? ⟨Bi, 2, none⟩ = some (.int .i64 C) := by simp [World.cell?, NBi2.out]
    have hfa := Lib.hid (lawFault_any (some ⟨gA, 0, none⟩) l.length cap T C l w2 (by omega) rfl FA2.out)
    rw [HFT.out] at hfa
    go_wp2_with fail
    refine (hfa.out).mono ?_
    rintro e w3 ⟨rfl, hb⟩
    have HB3 := Lib.hid ((HB2.out).trans (hb.mono (HB2.out).size))
    have NBi3 := Lib.hid ((hb.block Bi (Array.getElem?_eq_some_iff.1 NBi2.out).1).trans NBi2.out)
    have FA3 := Lib.hid ((FA2.out).keep hb (Nat.le_refl _))
    have FV3 := Lib.hid ((FV2.out).keep hb (Nat.le_refl _))
    clear HB2 NBi2 cBi0_2 cBi1_2 cBi2_2 FA2 FV2 hb hfa
    have cBi0_3 : w3.cell? ⟨Bi, 0, none⟩ = some (.slice (some ⟨gA, 0, none⟩) l.length cap) := by simp [World.cell?, NBi3.out]
    have cBi1_3 : w3.cell? ⟨Bi, 1, none⟩ = some (.int .i64 T) := by simp [World.cell?, NBi3.out]
    have cBi2_3 : w3.cell? ⟨Bi, 2, none⟩ = some (.int .i64 C) := by simp [World.cell?, NBi3.out]
    go_wp2_with fail
    refine (net_any _ cap T C l _ FA3.out (by omega)).mono ?_
    rintro e w4 ⟨Aq1, cq1, rfl, hq, hqn, hb⟩
    have HB4 := Lib.hid ((HB3.out).trans (hb.mono (HB3.out).size))
    have NBi4 := Lib.hid ((hb.block Bi (Array.getElem?_eq_some_iff.1 NBi3.out).1).trans NBi3.out)
    have FA4 := Lib.hid ((FA3.out).keep hb (Nat.le_refl _))
    have FV4 := Lib.hid ((FV3.out).keep hb (Nat.le_refl _))
    have FQ14 := Lib.hid hq
    clear HB3 NBi3 cBi0_3 cBi1_3 cBi2_3 FA3 FV3 hq hb hqn
    have cBi0_4 : w4.cell? ⟨Bi, 0, none⟩ = some (.slice (some ⟨gA, 0, none⟩) l.length cap) := by simp [World.cell?, NBi4.out]
    have cBi1_4 : w4.cell? ⟨Bi, 1, none⟩ = some (.int .i64 T) := by simp [World.cell?, NBi4.out]
    have cBi2_4 : w4.cell? ⟨Bi, 2, none⟩ = some (.int .i64 C) := by simp [World.cell?, NBi4.out]
    have hle := Lib.hid (least_any _ l.length cq1 T C l _ (by omega) rfl FQ14.out)
    rw [HLE.out.1, HLE.out.2] at hle
    clear FQ14
    go_wp2_with fail
    refine (hle.out).mono ?_
    rintro e w5 ⟨rfl, hb⟩
    have HB5 := Lib.hid ((HB4.out).trans (hb.mono (HB4.out).size))
    have NBi5 := Lib.hid ((hb.block Bi (Array.getElem?_eq_some_iff.1 NBi4.out).1).trans NBi4.out)
    have FA5 := Lib.hid ((FA4.out).keep hb (Nat.le_refl _))
    have FV5 := Lib.hid ((FV4.out).keep hb (Nat.le_refl _))
    clear HB4 NBi4 cBi0_4 cBi1_4 cBi2_4 FA4 FV4 hb hle
    have cBi0_5 : w5.cell? ⟨Bi, 0, none⟩ = some (.slice (some ⟨gA, 0, none⟩) l.length cap) := by simp [World.cell?, NBi5.out]
    have cBi1_5 : w5.cell? ⟨Bi, 1, none⟩ = some (.int .i64 T) := by simp [World.cell?, NBi5.out]
    have cBi2_5 : w5.cell? ⟨Bi, 2, none⟩ = some (.int .i64 C) := by simp [World.cell?, NBi5.out]
    go_wp2_with fail
    refine (net_any _ cap T C l _ FA5.out (by omega)).mono ?_
    rintro e w6 ⟨Aq2, cq2, rfl, hq, hqn, hb⟩
    have HB6 := Lib.hid ((HB5.out).trans (hb.mono (HB5.out).size))
    have NBi6 := Lib.hid ((hb.block Bi (Array.getElem?_eq_some_iff.1 NBi5.out).1).trans NBi5.out)
    have FA6 := Lib.hid ((FA5.out).keep hb (Nat.le_refl _))
    have FV6 := Lib.hid ((FV5.out).keep hb (Nat.le_refl _))
    have FQ26 := Lib.hid hq
    clear HB5 NBi5 cBi0_5 cBi1_5 cBi2_5 FA5 FV5 hq hb hqn
    have cBi0_6 : w6.cell? ⟨Bi, 0, none⟩ = some (.slice (some ⟨gA, 0, none⟩) l.length cap) := by simp [World.cell?, NBi6.out]
    have cBi1_6 : w6.cell? ⟨Bi, 1, none⟩ = some (.int .i64 T) := by simp [World.cell?, NBi6.out]
    have cBi2_6 : w6.cell? ⟨Bi, 2, none⟩ = some (.int .i64 C) := by simp [World.cell?, NBi6.out]
    have hbv := Lib.hid (bounds_yes (cap := cq2) (by omega) rfl FQ26.out HSU.out)
    clear FQ26
    go_wp2_with fail
    refine (hbv.out).mono ?_
    rintro e w7 ⟨bb, bo, bcp, bl, bh, rfl, hcells, hbe, hb⟩; have HBE := Lib.hid hbe; have hRg : RangesAt w7 (.slice (some ⟨bb, bo, none⟩) l.length bcp) l.length bl bh := ⟨_, _, rfl, .inr ⟨_, _, rfl, hcells⟩⟩
    have HB7 := Lib.hid ((HB6.out).trans (hb.mono (HB6.out).size))
    have NBi7 := Lib.hid ((hb.block Bi (Array.getElem?_eq_some_iff.1 NBi6.out).1).trans NBi6.out)
    have FA7 := Lib.hid ((FA6.out).keep hb (Nat.le_refl _))
    have FV7 := Lib.hid ((FV6.out).keep hb (Nat.le_refl _))
    have FG7 := Lib.hid hRg
    clear HB6 NBi6 cBi0_6 cBi1_6 cBi2_6 FA6 FV6 hRg hb hbv hcells hbe
    have cBi0_7 : w7.cell? ⟨Bi, 0, none⟩ = some (.slice (some ⟨gA, 0, none⟩) l.length cap) := by simp [World.cell?, NBi7.out]
    have cBi1_7 : w7.cell? ⟨Bi, 1, none⟩ = some (.int .i64 T) := by simp [World.cell?, NBi7.out]
    have cBi2_7 : w7.cell? ⟨Bi, 2, none⟩ = some (.int .i64 C) := by simp [World.cell?, NBi7.out]
    go_wp2_with fail
    refine (net_any _ cap T C l _ FA7.out (by omega)).mono ?_
    rintro e w8 ⟨Aq3, cq3, rfl, hq, hqn, hb⟩
    have HB8 := Lib.hid ((HB7.out).trans (hb.mono (HB7.out).size))
    have NBi8 := Lib.hid ((hb.block Bi (Array.getElem?_eq_some_iff.1 NBi7.out).1).trans NBi7.out)
    have FA8 := Lib.hid ((FA7.out).keep hb (Nat.le_refl _))
    have FV8 := Lib.hid ((FV7.out).keep hb (Nat.le_refl _))
    have FG8 := Lib.hid ((FG7.out).keep hb (Nat.le_refl _))
    have FQ38 := Lib.hid hq
    clear HB7 NBi7 cBi0_7 cBi1_7 cBi2_7 FA7 FV7 FG7 hq hb hqn
    have cBi0_8 : w8.cell? ⟨Bi, 0, none⟩ = some (.slice (some ⟨gA, 0, none⟩) l.length cap) := by simp [World.cell?, NBi8.out]
    have cBi1_8 : w8.cell? ⟨Bi, 1, none⟩ = some (.int .i64 T) := by simp [World.cell?, NBi8.out]
    have cBi2_8 : w8.cell? ⟨Bi, 2, none⟩ = some (.int .i64 C) := by simp [World.cell?, NBi8.out]
    have hlv := Lib.hid (leave_some (cap := cq3) (by omega) rfl FQ38.out HAS.out HLO.out)
    clear FQ38
    go_wp2_with fail
    refine (hlv.out).mono ?_
    rintro e w9 ⟨Al, cl, rfl, hli, hb⟩
    have HB9 := Lib.hid ((HB8.out).trans (hb.mono (HB8.out).size))
    have NBi9 := Lib.hid ((hb.block Bi (Array.getElem?_eq_some_iff.1 NBi8.out).1).trans NBi8.out)
    have FA9 := Lib.hid ((FA8.out).keep hb (Nat.le_refl _))
    have FV9 := Lib.hid ((FV8.out).keep hb (Nat.le_refl _))
    have FG9 := Lib.hid ((FG8.out).keep hb (Nat.le_refl _))
    clear HB8 NBi8 cBi0_8 cBi1_8 cBi2_8 FA8 FV8 FG8 hb hlv hli
    have cBi0_9 : w9.cell? ⟨Bi, 0, none⟩ = some (.slice (some ⟨gA, 0, none⟩) l.length cap) := by simp [World.cell?, NBi9.out]
    have cBi1_9 : w9.cell? ⟨Bi, 1, none⟩ = some (.int .i64 T) := by simp [World.cell?, NBi9.out]
    have cBi2_9 : w9.cell? ⟨Bi, 2, none⟩ = some (.int .i64 C) := by simp [World.cell?, NBi9.out]
    have hxl : xs.length ≤ 1000000 := by rw [← HLEN.out]; omega
    have d1 : decide (e < LN) = false := decide_eq_false (by omega)
    have d2 : decide (LN < 0) = false := decide_eq_false (by omega)
    have d3 : ((l.length : Int) != (xs.length : Int)) = false := by rw [← HLEN.out]; simp
    go_wp2_with fail
    refine (net_any _ cap T C l _ FA9.out (by omega)).mono ?_
    rintro e w10 ⟨Aq4, cq4, rfl, hq, hqn, hb⟩
    have HB10 := Lib.hid ((HB9.out).trans (hb.mono (HB9.out).size))
    have NBi10 := Lib.hid ((hb.block Bi (Array.getElem?_eq_some_iff.1 NBi9.out).1).trans NBi9.out)
    have FA10 := Lib.hid ((FA9.out).keep hb (Nat.le_refl _))
    have FV10 := Lib.hid ((FV9.out).keep hb (Nat.le_refl _))
    have FG10 := Lib.hid ((FG9.out).keep hb (Nat.le_refl _))
    have FQ410 := Lib.hid hq
    clear HB9 NBi9 cBi0_9 cBi1_9 cBi2_9 FA9 FV9 FG9 hq hb hqn
    have cBi0_10 : w10.cell? ⟨Bi, 0, none⟩ = some (.slice (some ⟨gA, 0, none⟩) l.length cap) := by simp [World.cell?, NBi10.out]
    have cBi1_10 : w10.cell? ⟨Bi, 1, none⟩ = some (.int .i64 T) := by simp [World.cell?, NBi10.out]
    have cBi2_10 : w10.cell? ⟨Bi, 2, none⟩ = some (.int .i64 C) := by simp [World.cell?, NBi10.out]
    have hnil : Av = none → cv = 0 := fun h => by
      obtain ⟨A2, c2, he2, hc2⟩ := FV10.out
      cases he2
      rcases hc2 with hc2 | ⟨b2, o2, h2, _⟩
      · have := HLEN.out; rw [hc2] at this; simp at this; rw [this] at hpos; simp at hpos
      · rw [h] at h2; cases h2
    go_wp2_with fail
    refine (list_any Av cv xs _ hnil FV10.out hxl).mono ?_
    rintro e w11 ⟨vl, rfl, hvl, hb⟩
    have HB11 := Lib.hid ((HB10.out).trans (hb.mono (HB10.out).size))
    have NBi11 := Lib.hid ((hb.block Bi (Array.getElem?_eq_some_iff.1 NBi10.out).1).trans NBi10.out)
    have FA11 := Lib.hid ((FA10.out).keep hb (Nat.le_refl _))
    have FV11 := Lib.hid ((FV10.out).keep hb (Nat.le_refl _))
    have FG11 := Lib.hid ((FG10.out).keep hb (Nat.le_refl _))
    have FQ411 := Lib.hid ((FQ410.out).keep hb (Nat.le_refl _))
    have FW11 := Lib.hid hvl
    clear HB10 NBi10 cBi0_10 cBi1_10 cBi2_10 FA10 FV10 FG10 FQ410 hvl hb 
    have cBi0_11 : w11.cell? ⟨Bi, 0, none⟩ = some (.slice (some ⟨gA, 0, none⟩) l.length cap) := by simp [World.cell?, NBi11.out]
    have cBi1_11 : w11.cell? ⟨Bi, 1, none⟩ = some (.int .i64 T) := by simp [World.cell?, NBi11.out]
    have cBi2_11 : w11.cell? ⟨Bi, 2, none⟩ = some (.int .i64 C) := by simp [World.cell?, NBi11.out]
    have hpt := Lib.hid (proveTruth_any _ l.length cq4 T C e l vl xs _ (by omega) rfl FQ411.out FW11.out)
    rw [HTB.out] at hpt
    clear FQ411
    clear FW11
    go_wp2_with fail
    refine (hpt.out).mono ?_
    rintro e w12 ⟨rfl, hb⟩
    have HB12 := Lib.hid ((HB11.out).trans (hb.mono (HB11.out).size))
    have NBi12 := Lib.hid ((hb.block Bi (Array.getElem?_eq_some_iff.1 NBi11.out).1).trans NBi11.out)
    have FA12 := Lib.hid ((FA11.out).keep hb (Nat.le_refl _))
    have FV12 := Lib.hid ((FV11.out).keep hb (Nat.le_refl _))
    have FG12 := Lib.hid ((FG11.out).keep hb (Nat.le_refl _))
    clear HB11 NBi11 cBi0_11 cBi1_11 cBi2_11 FA11 FV11 FG11 hb hpt
    have cBi0_12 : w12.cell? ⟨Bi, 0, none⟩ = some (.slice (some ⟨gA, 0, none⟩) l.length cap) := by simp [World.cell?, NBi12.out]
    have cBi1_12 : w12.cell? ⟨Bi, 1, none⟩ = some (.int .i64 T) := by simp [World.cell?, NBi12.out]
    have cBi2_12 : w12.cell? ⟨Bi, 2, none⟩ = some (.int .i64 C) := by simp [World.cell?, NBi12.out]
    go_wp2_with fail
    go_loopw [14] (AtRel l.length w12) (fun i _ => l.length - (intOf i).toNat)
    case atStart => exact ⟨0, by omega, rfl, Below.refl _ _⟩
    case round =>
      obtain ⟨k, hk, rfl, hbe⟩ := hrel
      by_cases hlt : k < l.length
      · have hlt' : decide ((k : Int) < (l.length : Int)) = true := by simpa using hlt
        have hxk : k < xs.length := by rw [← HLEN.out]; exact hlt
        obtain ⟨A2, c2, he2, hc2⟩ := FV12.out.keep hbe (Nat.le_refl _)
        cases he2
        obtain ⟨bt, ot, rfl, hct⟩ := hc2.resolve_left (fun h => by rw [h] at hxk; simp at hxk)
        have ct := hct k hxk
        obtain ⟨A3, c3, he3, hc3⟩ := FG12.out.keep hbe (Nat.le_refl _)
        cases he3
        obtain ⟨b3, o3, he4, hcg⟩ := hc3.resolve_left (by omega)
        obtain ⟨rfl, rfl⟩ : bb = b3 ∧ bo = o3 := by simpa using he4
        obtain ⟨g0, g1⟩ := hcg k hlt
        have hbt := truth_between HTB.out HBE.out hlt
        rw [fnOf_at hxk] at hbt
        obtain ⟨x, hx⟩ : ∃ x, xs[k] = x := ⟨_, rfl⟩
        obtain ⟨p, hp⟩ : ∃ p, bl k = p := ⟨_, rfl⟩
        obtain ⟨q, hq⟩ : ∃ q, bh k = q := ⟨_, rfl⟩
        rw [hx] at ct hbt
        rw [hp] at g0 hbt
        rw [hq] at g1 hbt
        have HBX := Lib.hid hbe
        have t1 : decide (x < p) = false := decide_eq_false (by omega)
        have t2 : decide (q < x) = false := decide_eq_false (by omega)
        have i1 : (0 : Int) ≤ (k : Int) := by omega
        have i2 : (k : Int) < (l.length : Int) := by omega
        have i3 : (k : Int) < (xs.length : Int) := by omega
        clear hx hp hq hct hcg hbe
        go_wp2_with fail
        go_quiet (fail)
        go_wp2_with fail
        go_roundw
        case rel => exact ⟨k + 1, by omega, by go_num, HBX.out.drewN _⟩
        case measure => simp [intOf]; omega
      · have hlt' : decide ((k : Int) < (l.length : Int)) = false := by simpa using hlt
        have HBX := Lib.hid (HB12.out.trans (hbe.mono HB12.out.size))
        clear hbe
        go_wp2_with fail
        refine (awake_any _).mono ?_
        rintro e' wz ⟨rfl, hb⟩
        have HBZ := Lib.hid (HBX.out.trans (hb.mono HBX.out.size))
        clear hb
        go_wp2_with fail
        go_ret
        exact ⟨rfl, HBZ.out⟩
end Go.Proofs.Ytkloaeaepjoijaa

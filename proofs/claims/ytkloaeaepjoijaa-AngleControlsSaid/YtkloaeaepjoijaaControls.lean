/-
  AngleControls: the walk.
-/
import Derived.Test.YtkloaeaepjoijaaLawA
set_option linter.all false
namespace Go.Proofs.Ytkloaeaepjoijaa
open Go.RowKit Go.WalkArith

def ACRel (l : List Ang) (T C err : Int) (n : Nat) (w2 : World) (Bi : Nat) (net : Obj) (v i : Value) (wr : World) : Prop :=
  ∃ k : Nat, k ≤ n ∧ i = .int .i64 k ∧ wr.ownsRow w2.heap.size 3 1 v (ctlL l T C err k).length ((ctlL l T C err k).map (Value.int .i64)) ∧ Below w2.heap.size w2 wr

set_option maxRecDepth 100000 in
set_option maxHeartbeats 8000000 in
theorem controls_walk (A : Option Addr) (n cap : Nat) (T C : Int) (l : List Ang) (err : Int) (w : World)
    (hl : l.length = n) (hA : AngsAt w A l) (_ : NilOk A cap) :
    Calls Try.prog 6 #[.agg #[.slice A n cap, .int .i64 T, .int .i64 C], .int .i64 err] w fun e w' => e = .returned (.bool true) ∧ Below w.heap.size w w' := by
  obtain ⟨i0, hi0, hz0, hz1, hz2⟩ := info_parts Try.info3
  subst hl
  have HA := Lib.hid hA
  clear hA
  have hB0 : Below w.heap.size w (w.alloc (.cells #[.slice A l.length cap, .int .i64 T, .int .i64 C] 24)) := (Below.refl _ _).alloc (Nat.le_refl _) _
  have hn0 : (w.alloc (.cells #[.slice A l.length cap, .int .i64 T, .int .i64 C] 24)).heap[w.heap.size]? = some (.cells #[.slice A l.length cap, .int .i64 T, .int .i64 C] 24 (0, 0)) := heap_new_at _ _ _ rfl
  have HB1 := Lib.hid hB0
  have NBi1 := Lib.hid hn0
  clear hB0 hn0
  go_enter Try.func6, Try.ntmps6
  go_wp2_with fail
  generalize (w.alloc (.cells #[.slice A l.length cap, .int .i64 T, .int .i64 C] 24)) = w1 at HB1 NBi1 ⊢
  obtain ⟨Bi, hBi⟩ : ∃ Bi, w.heap.size = Bi := ⟨_, rfl⟩
  have oBi : w.heap.size ≤ Bi := by omega
  rw [hBi] at NBi1 ⊢
  clear hBi
  have cBi0_1 : w1.cell? ⟨Bi, 0, none⟩ = some (.slice A l.length cap) := by simp [World.cell?, NBi1.out]
  have cBi1_1 : w1.cell? ⟨Bi, 1, none⟩ = some (.int .i64 T) := by simp [World.cell?, NBi1.out]
  have cBi2_1 : w1.cell? ⟨Bi, 2, none⟩ = some (.int .i64 C) := by simp [World.cell?, NBi1.out]
  have hth := Lib.hid (few_all A l.length cap T C 8 l w1 rfl (HA.out.keep HB1.out (Nat.le_refl _)))
  obtain ⟨fb, hfb⟩ : ∃ fb, fewB l T C 8 = fb := ⟨_, rfl⟩
  rw [hfb] at hth
  cases fb with
  | false =>
    go_wp2_with fail
    refine (hth.out).mono ?_
    rintro e w2 ⟨rfl, hb⟩
    have HB2 := Lib.hid ((HB1.out).trans (hb.mono (HB1.out).size))
    have NBi2 := Lib.hid ((hb.block Bi (Array.getElem?_eq_some_iff.1 NBi1.out).1).trans NBi1.out)
    clear HB1 NBi1 cBi0_1 cBi1_1 cBi2_1  hb hth
    have cBi0_2 : w2.cell? ⟨Bi, 0, none⟩ = some (.slice A l.length cap) := by simp [World.cell?, NBi2.out]
    have cBi1_2 : w2.cell? ⟨Bi, 1, none⟩ = some (.int .i64 T) := by simp [World.cell?, NBi2.out]
    have cBi2_2 : w2.cell? ⟨Bi, 2, none⟩ = some (.int .i64 C) := by simp [World.cell?, NBi2.out]
    go_wp2_with fail
    refine (awake_any _).mono ?_
    rintro e w3 ⟨rfl, hb⟩
    have HB3 := Lib.hid ((HB2.out).trans (hb.mono (HB2.out).size))
    have NBi3 := Lib.hid ((hb.block Bi (Array.getElem?_eq_some_iff.1 NBi2.out).1).trans NBi2.out)
    clear HB2 NBi2 cBi0_2 cBi1_2 cBi2_2  hb 
    have cBi0_3 : w3.cell? ⟨Bi, 0, none⟩ = some (.slice A l.length cap) := by simp [World.cell?, NBi3.out]
    have cBi1_3 : w3.cell? ⟨Bi, 1, none⟩ = some (.int .i64 T) := by simp [World.cell?, NBi3.out]
    have cBi2_3 : w3.cell? ⟨Bi, 2, none⟩ = some (.int .i64 C) := by simp [World.cell?, NBi3.out]
    go_wp2_with fail
    go_ret
    exact ⟨rfl, HB3.out⟩
  | true =>
    have h15 := fewB_len hfb
    clear hfb
    go_wp2_with fail
    refine (hth.out).mono ?_
    rintro e w2 ⟨rfl, hb⟩
    have HB2 := Lib.hid ((HB1.out).trans (hb.mono (HB1.out).size))
    have NBi2 := Lib.hid ((hb.block Bi (Array.getElem?_eq_some_iff.1 NBi1.out).1).trans NBi1.out)
    clear HB1 NBi1 cBi0_1 cBi1_1 cBi2_1  hb hth
    have cBi0_2 : w2.cell? ⟨Bi, 0, none⟩ = some (.slice A l.length cap) := by simp [World.cell?, NBi2.out]
    have cBi1_2 : w2.cell? ⟨Bi, 1, none⟩ = some (.int .i64 T) := by simp [World.cell?, NBi2.out]
    have cBi2_2 : w2.cell? ⟨Bi, 2, none⟩ = some (.int .i64 C) := by simp [World.cell?, NBi2.out]
    go_wp2_with fail
    refine (net_any A cap T C l _ (HA.out.keep HB2.out (Nat.le_refl _)) (by omega)).mono ?_
    rintro e w3 ⟨A2, cap2, rfl, hA2, hN2x, hb⟩
    have HB3 := Lib.hid ((HB2.out).trans (hb.mono (HB2.out).size))
    have NBi3 := Lib.hid ((hb.block Bi (Array.getElem?_eq_some_iff.1 NBi2.out).1).trans NBi2.out)
    have FA3 := Lib.hid hA2
    clear HB2 NBi2 cBi0_2 cBi1_2 cBi2_2 hA2 hb hN2x
    have cBi0_3 : w3.cell? ⟨Bi, 0, none⟩ = some (.slice A l.length cap) := by simp [World.cell?, NBi3.out]
    have cBi1_3 : w3.cell? ⟨Bi, 1, none⟩ = some (.int .i64 T) := by simp [World.cell?, NBi3.out]
    have cBi2_3 : w3.cell? ⟨Bi, 2, none⟩ = some (.int .i64 C) := by simp [World.cell?, NBi3.out]
    have hask := Lib.hid (fun W hW => lawSure_any A l.length cap T C err l W (by omega) rfl hW)
    by_cases h0 : sureL l T C err = 0
    ·   obtain ⟨has, hcan⟩ := sureL_ok h0
        obtain ⟨hok, he0, he1⟩ := askedL_ok has
        obtain ⟨b, o, hAe⟩ := HA.out.some hok.pos
        subst hAe
        have hcv := Lib.hid (control_yes (cap := cap2) (by omega) rfl FA3.out h0)
        rw [h0] at hask
        have HO := Lib.hid hok
        have hn12 := hok.len
        have HC := Lib.hid hcan
        clear hok h0 has hcan
        go_wp2_with fail
        refine (hcv.out).mono ?_
        rintro e w4 ⟨Av, cp, rfl, hI, hb⟩
        have HB4 := Lib.hid ((HB3.out).trans (hb.mono (HB3.out).size))
        have NBi4 := Lib.hid ((hb.block Bi (Array.getElem?_eq_some_iff.1 NBi3.out).1).trans NBi3.out)
        have FA4 := Lib.hid ((FA3.out).keep hb (Nat.le_refl _))
        have FV4 := Lib.hid hI
        clear HB3 NBi3 cBi0_3 cBi1_3 cBi2_3 FA3 hI hb hcv
        have cBi0_4 : w4.cell? ⟨Bi, 0, none⟩ = some (.slice (some ⟨b, o, none⟩) l.length cap) := by simp [World.cell?, NBi4.out]
        have cBi1_4 : w4.cell? ⟨Bi, 1, none⟩ = some (.int .i64 T) := by simp [World.cell?, NBi4.out]
        have cBi2_4 : w4.cell? ⟨Bi, 2, none⟩ = some (.int .i64 C) := by simp [World.cell?, NBi4.out]
        clear FA4
        go_wp2_with fail
        refine (hask.out _ (HA.out.keep HB4.out (Nat.le_refl _))).mono ?_
        rintro e w5 ⟨rfl, hb⟩
        have HB5 := Lib.hid ((HB4.out).trans (hb.mono (HB4.out).size))
        have NBi5 := Lib.hid ((hb.block Bi (Array.getElem?_eq_some_iff.1 NBi4.out).1).trans NBi4.out)
        have FV5 := Lib.hid ((FV4.out).keep hb (Nat.le_refl _))
        clear HB4 NBi4 cBi0_4 cBi1_4 cBi2_4 FV4 hb hask
        have cBi0_5 : w5.cell? ⟨Bi, 0, none⟩ = some (.slice (some ⟨b, o, none⟩) l.length cap) := by simp [World.cell?, NBi5.out]
        have cBi1_5 : w5.cell? ⟨Bi, 1, none⟩ = some (.int .i64 T) := by simp [World.cell?, NBi5.out]
        have cBi2_5 : w5.cell? ⟨Bi, 2, none⟩ = some (.int .i64 C) := by simp [World.cell?, NBi5.out]
        go_wp2_with fail
        have hcn := ctlL_length l T C err l.length
        go_loopw [8, 9] (ACRel l T C err l.length w5 Bi (.cells #[.slice (some ⟨b, o, none⟩) l.length cap, .int .i64 T, .int .i64 C] 24 (0, 0))) (fun _ i _ => l.length - (intOf i).toNat)
        case atStart => exact ⟨0, by omega, rfl, World.ownsRow_nil _ _ _ _, Below.refl _ _⟩
        case round =>
          clear cBi0_5 cBi1_5 cBi2_5
          obtain ⟨k, hk, rfl, hown, hbe⟩ := hrel
          have HNX := Lib.hid ((hbe.block Bi (Array.getElem?_eq_some_iff.1 NBi5.out).1).trans NBi5.out)
          have HBX := Lib.hid (HB5.out.trans (hbe.mono HB5.out.size))
          have x0 : wr.cell? ⟨Bi, 0, none⟩ = some (.slice (some ⟨b, o, none⟩) l.length cap) := by simp [World.cell?, HNX.out]
          have x1 : wr.cell? ⟨Bi, 1, none⟩ = some (.int .i64 T) := by simp [World.cell?, HNX.out]
          have x2 : wr.cell? ⟨Bi, 2, none⟩ = some (.int .i64 C) := by simp [World.cell?, HNX.out]
          obtain ⟨Ao, capo, rfl⟩ := own_slice hown
          have HOW := Lib.hid hown
          have HBE := Lib.hid hbe
          clear hown hbe
          by_cases hlt : k < l.length
          · have hlt' : decide ((k : Int) < (l.length : Int)) = true := by simpa using hlt
            have hcc := Lib.hid (refControlled_any b o l.length cap k T C err l wr rfl HO.out (HA.out.keep HBX.out (Nat.le_refl _)) he0 he1 hlt HC.out)
            have hsn := ctlL_succ l T C err k
            have hln := ctlL_length l T C err k
            cases hcb : ctlB l T C err k with
            | false =>
              rw [hcb] at hcc hsn
              have HSN := Lib.hid hsn
              clear hsn hcb
              go_wp2_with fail
              refine hcc.out.mono ?_
              rintro e w9 ⟨rfl, hb⟩
              have hown9 := Lib.hid (HOW.out.kept (row := none) ⟨hb.os, hb.tape, hb.output, hb.size, fun j hj _ => hb.block j hj⟩ (own_none _))
              have hbe9 := Lib.hid (HBE.out.trans (hb.mono HBE.out.size))
              clear hb hcc HOW HBE
              go_wp2_with fail
              go_roundw
              case rel => exact ⟨k + 1, by omega, by go_num, by rw [HSN.out]; simpa using hown9.out, hbe9.out⟩
              case measure => simp [intOf]; omega
            | true =>
              rw [hcb] at hcc hsn
              have HSN := Lib.hid hsn
              clear hsn hcb
              go_wp2_with fail
              refine hcc.out.mono ?_
              rintro e w9 ⟨rfl, hb⟩
              have hown9 := Lib.hid (HOW.out.kept (row := none) ⟨hb.os, hb.tape, hb.output, hb.size, fun j hj _ => hb.block j hj⟩ (own_none _))
              have hbe9 := Lib.hid (HBE.out.trans (hb.mono HBE.out.size))
              clear hb hcc HOW HBE
              go_wp2_with (at_builtin; refine wpList_append_own _ rfl _ _ 25 rfl w5.heap.size 3 i0 (.int .i64 0) 1 8 Try.underlying25 hi0 hz0 hz1 hz2 rfl (by decide) _ _ _ rfl (hown9.out.alloc _) ⟨w9.heap.size, 0, none⟩ 1 1 [.int .i64 k] rfl rfl (World.news_of_block (cs := #[.int .i64 k]) (t := 3) (fr := (0, 0)) (Go.heap_alloc_new w9 _)) ?c2 ?c3 ?c4 ?c5 ?_)
              case c2 => simp [Value.oneCell']
              case c3 => unfold maxLen; omega
              case c4 => omega
              case c5 => have := hbe9.out.size; simp; omega
              intro v' w6 hown6 hgrow _
              have hbel6 : Below w5.heap.size w5 w6 := by
                refine hbe9.out.trans ?_
                have hsz := hbe9.out.size
                have hbx : Below w5.heap.size w9 (w9.alloc (.cells #[.int .i64 k] 3)) := (((Below.refl _ w9).alloc (Nat.le_refl _) _).mono hsz)
                refine hbx.trans ⟨hgrow.os, hgrow.tape, hgrow.output, hgrow.size, fun j hj => hgrow.block j (by simp; omega) (fun e => ?_)⟩
                have := hown9.out.lt j e.symm
                omega
              have hown7 : w6.ownsRow w5.heap.size 3 1 v' (ctlL l T C err (k + 1)).length ((ctlL l T C err (k + 1)).map (Value.int .i64)) := by
                rw [HSN.out]; simp only [if_true, List.map_append, List.length_append]; exact hown6
              have HOWN7 := Lib.hid hown7
              have HBEL6 := Lib.hid hbel6
              clear hown6 hgrow hbel6 hown7
              go_wp2_with fail
              go_roundw
              case rel => exact ⟨k + 1, by omega, by go_num, HOWN7.out, HBEL6.out⟩
              case measure => simp [intOf]; omega
          · have hlt' : decide ((k : Int) < (l.length : Int)) = false := by simpa using hlt
            obtain rfl : k = l.length := by omega
            have hI2 := IntsAt.of_own HOW.out
            have hin := Lib.hid (ints_any _ _ (ctlL l T C err l.length) (ctlL l T C err l.length) wr (FV5.out.keep HBE.out (Nat.le_refl _)) hI2 (by omega))
            rw [decide_eq_true rfl] at hin
            clear hI2 HOW
            go_wp2_with fail
            refine hin.out.mono ?_
            rintro e w7 ⟨rfl, hb⟩
            have HB7 := Lib.hid (HBX.out.trans (hb.mono HBX.out.size))
            clear hb hin x0 x1 x2
            go_wp2_with fail
            refine (awake_any _).mono ?_
            rintro e w8 ⟨rfl, hb⟩
            have HB8 := Lib.hid (HB7.out.trans (hb.mono HB7.out.size))
            clear hb
            go_wp2_with fail
            go_ret
            exact ⟨rfl, HB8.out⟩
    ·   have hlv := Lib.hid (control_no (cap := cap2) (by omega) rfl FA3.out h0)
        obtain ⟨Q, hQ⟩ : ∃ Q, sureL l T C err = Q := ⟨_, rfl⟩
        rw [hQ] at hlv hask h0
        have hne : (Q != 0) = true := by simpa using h0
        have hee : (Q == Q) = true := by simp
        clear hQ h0
        go_wp2_with fail
        refine (hlv.out).mono ?_
        rintro e w4 ⟨rfl, hb⟩
        have HB4 := Lib.hid ((HB3.out).trans (hb.mono (HB3.out).size))
        have NBi4 := Lib.hid ((hb.block Bi (Array.getElem?_eq_some_iff.1 NBi3.out).1).trans NBi3.out)
        have FA4 := Lib.hid ((FA3.out).keep hb (Nat.le_refl _))
        clear HB3 NBi3 cBi0_3 cBi1_3 cBi2_3 FA3 hb hlv
        have cBi0_4 : w4.cell? ⟨Bi, 0, none⟩ = some (.slice A l.length cap) := by simp [World.cell?, NBi4.out]
        have cBi1_4 : w4.cell? ⟨Bi, 1, none⟩ = some (.int .i64 T) := by simp [World.cell?, NBi4.out]
        have cBi2_4 : w4.cell? ⟨Bi, 2, none⟩ = some (.int .i64 C) := by simp [World.cell?, NBi4.out]
        clear FA4
        go_wp2_with fail
        refine (hask.out _ (HA.out.keep HB4.out (Nat.le_refl _))).mono ?_
        rintro e w5 ⟨rfl, hb⟩
        have HB5 := Lib.hid ((HB4.out).trans (hb.mono (HB4.out).size))
        have NBi5 := Lib.hid ((hb.block Bi (Array.getElem?_eq_some_iff.1 NBi4.out).1).trans NBi4.out)
        clear HB4 NBi4 cBi0_4 cBi1_4 cBi2_4  hb hask
        have cBi0_5 : w5.cell? ⟨Bi, 0, none⟩ = some (.slice A l.length cap) := by simp [World.cell?, NBi5.out]
        have cBi1_5 : w5.cell? ⟨Bi, 1, none⟩ = some (.int .i64 T) := by simp [World.cell?, NBi5.out]
        have cBi2_5 : w5.cell? ⟨Bi, 2, none⟩ = some (.int .i64 C) := by simp [World.cell?, NBi5.out]
        go_wp2_with fail
        refine (awake_any _).mono ?_
        rintro e w6 ⟨rfl, hb⟩
        have HB6 := Lib.hid ((HB5.out).trans (hb.mono (HB5.out).size))
        have NBi6 := Lib.hid ((hb.block Bi (Array.getElem?_eq_some_iff.1 NBi5.out).1).trans NBi5.out)
        clear HB5 NBi5 cBi0_5 cBi1_5 cBi2_5  hb 
        have cBi0_6 : w6.cell? ⟨Bi, 0, none⟩ = some (.slice A l.length cap) := by simp [World.cell?, NBi6.out]
        have cBi1_6 : w6.cell? ⟨Bi, 1, none⟩ = some (.int .i64 T) := by simp [World.cell?, NBi6.out]
        have cBi2_6 : w6.cell? ⟨Bi, 2, none⟩ = some (.int .i64 C) := by simp [World.cell?, NBi6.out]
        go_wp2_with fail
        go_ret
        exact ⟨rfl, HB6.out⟩
end Go.Proofs.Ytkloaeaepjoijaa

/-
  AngleBounds: the walk.
-/
import Derived.Test.YtkloaeaepjoijaaLawA
set_option linter.all false
namespace Go.Proofs.Ytkloaeaepjoijaa
open Go.RowKit Go.WalkArith

def ABRel (n : Nat) (w2 : World) (i : Value) (wr : World) : Prop :=
  ∃ k : Nat, k ≤ n ∧ i = .int .i64 k ∧ Below w2.heap.size w2 wr

set_option maxRecDepth 100000 in
set_option maxHeartbeats 4000000 in
theorem bounds_walk (A : Option Addr) (n cap : Nat) (T C : Int) (l : List Ang) (err : Int) (w : World)
    (hl : l.length = n) (hA : AngsAt w A l) (_ : NilOk A cap) :
    Calls Try.prog 5 #[.agg #[.slice A n cap, .int .i64 T, .int .i64 C], .int .i64 err] w fun e w' => e = .returned (.bool true) ∧ Below w.heap.size w w' := by
  subst hl
  have HA := Lib.hid hA
  clear hA
  have hB0 : Below w.heap.size w (w.alloc (.cells #[.slice A l.length cap, .int .i64 T, .int .i64 C] 24)) := (Below.refl _ _).alloc (Nat.le_refl _) _
  have hn0 : (w.alloc (.cells #[.slice A l.length cap, .int .i64 T, .int .i64 C] 24)).heap[w.heap.size]? = some (.cells #[.slice A l.length cap, .int .i64 T, .int .i64 C] 24 (0, 0)) := heap_new_at _ _ _ rfl
  have HB1 := Lib.hid hB0
  have NBi1 := Lib.hid hn0
  clear hB0 hn0
  go_enter Try.func5, Try.ntmps5
  go_wp2_with fail
  generalize (w.alloc (.cells #[.slice A l.length cap, .int .i64 T, .int .i64 C] 24)) = w1 at HB1 NBi1 ⊢
  obtain ⟨Bi, hBi⟩ : ∃ Bi, w.heap.size = Bi := ⟨_, rfl⟩
  have oBi : w.heap.size ≤ Bi := by omega
  rw [hBi] at NBi1 ⊢
  clear hBi
  have cBi0_1 : w1.cell? ⟨Bi, 0, none⟩ = some (.slice A l.length cap) := by simp [World.cell?, NBi1.out]
  have cBi1_1 : w1.cell? ⟨Bi, 1, none⟩ = some (.int .i64 T) := by simp [World.cell?, NBi1.out]
  have cBi2_1 : w1.cell? ⟨Bi, 2, none⟩ = some (.int .i64 C) := by simp [World.cell?, NBi1.out]
  have hth := Lib.hid (few_all A l.length cap T C 8 l w1 rfl (HA.out.keep HB1.out (Nat.le_refl _)))
  obtain ⟨fb, hfb⟩ : ∃ fb, fewB l T C 8 = fb := ⟨_, rfl⟩
  rw [hfb] at hth
  cases fb with
  | false =>
    go_wp2_with fail
    refine (hth.out).mono ?_
    rintro e w2 ⟨rfl, hb⟩
    have HB2 := Lib.hid ((HB1.out).trans (hb.mono (HB1.out).size))
    have NBi2 := Lib.hid ((hb.block Bi (Array.getElem?_eq_some_iff.1 NBi1.out).1).trans NBi1.out)
    clear HB1 NBi1 cBi0_1 cBi1_1 cBi2_1  hb hth
    have cBi0_2 : w2.cell? ⟨Bi, 0, none⟩ = some (.slice A l.length cap) := by simp [World.cell?, NBi2.out]
    have cBi1_2 : w2.cell? ⟨Bi, 1, none⟩ = some (.int .i64 T) := by simp [World.cell?, NBi2.out]
    have cBi2_2 : w2.cell? ⟨Bi, 2, none⟩ = some (.int .i64 C) := by simp [World.cell?, NBi2.out]
    go_wp2_with fail
    refine (awake_any _).mono ?_
    rintro e w3 ⟨rfl, hb⟩
    have HB3 := Lib.hid ((HB2.out).trans (hb.mono (HB2.out).size))
    have NBi3 := Lib.hid ((hb.block Bi (Array.getElem?_eq_some_iff.1 NBi2.out).1).trans NBi2.out)
    clear HB2 NBi2 cBi0_2 cBi1_2 cBi2_2  hb 
    have cBi0_3 : w3.cell? ⟨Bi, 0, none⟩ = some (.slice A l.length cap) := by simp [World.cell?, NBi3.out]
    have cBi1_3 : w3.cell? ⟨Bi, 1, none⟩ = some (.int .i64 T) := by simp [World.cell?, NBi3.out]
    have cBi2_3 : w3.cell? ⟨Bi, 2, none⟩ = some (.int .i64 C) := by simp [World.cell?, NBi3.out]
    go_wp2_with fail
    go_ret
    exact ⟨rfl, HB3.out⟩
  | true =>
    have h15 := fewB_len hfb
    clear hfb
    go_wp2_with fail
    refine (hth.out).mono ?_
    rintro e w2 ⟨rfl, hb⟩
    have HB2 := Lib.hid ((HB1.out).trans (hb.mono (HB1.out).size))
    have NBi2 := Lib.hid ((hb.block Bi (Array.getElem?_eq_some_iff.1 NBi1.out).1).trans NBi1.out)
    clear HB1 NBi1 cBi0_1 cBi1_1 cBi2_1  hb hth
    have cBi0_2 : w2.cell? ⟨Bi, 0, none⟩ = some (.slice A l.length cap) := by simp [World.cell?, NBi2.out]
    have cBi1_2 : w2.cell? ⟨Bi, 1, none⟩ = some (.int .i64 T) := by simp [World.cell?, NBi2.out]
    have cBi2_2 : w2.cell? ⟨Bi, 2, none⟩ = some (.int .i64 C) := by simp [World.cell?, NBi2.out]
    go_wp2_with fail
    refine (net_any A cap T C l _ (HA.out.keep HB2.out (Nat.le_refl _)) (by omega)).mono ?_
    rintro e w3 ⟨A2, cap2, rfl, hA2, hN2x, hb⟩
    have HB3 := Lib.hid ((HB2.out).trans (hb.mono (HB2.out).size))
    have NBi3 := Lib.hid ((hb.block Bi (Array.getElem?_eq_some_iff.1 NBi2.out).1).trans NBi2.out)
    have FA3 := Lib.hid hA2
    clear HB2 NBi2 cBi0_2 cBi1_2 cBi2_2 hA2 hb hN2x
    have cBi0_3 : w3.cell? ⟨Bi, 0, none⟩ = some (.slice A l.length cap) := by simp [World.cell?, NBi3.out]
    have cBi1_3 : w3.cell? ⟨Bi, 1, none⟩ = some (.int .i64 T) := by simp [World.cell?, NBi3.out]
    have cBi2_3 : w3.cell? ⟨Bi, 2, none⟩ = some (.int .i64 C) := by simp [World.cell?, NBi3.out]
    have hask := Lib.hid (fun W hW => lawSure_any A l.length cap T C err l W (by omega) rfl hW)
    by_cases h0 : sureL l T C err = 0
    ·   obtain ⟨has, hcan⟩ := sureL_ok h0
        obtain ⟨hok, he0, he1⟩ := askedL_ok has
        obtain ⟨b, o, hAe⟩ := HA.out.some hok.pos
        subst hAe
        have hbv := Lib.hid (bounds_yes (cap := cap2) (by omega) rfl FA3.out h0)
        have hsv := Lib.hid (fun A cap W hW => show_yes (A := A) (cap := cap) (T := T) (C := C) (err := err) (l := l) (w := W) (by omega : l.length ≤ 1000000) rfl hW h0)
        rw [h0] at hask
        have HO := Lib.hid hok
        have hn12 := hok.len
        have HC := Lib.hid hcan
        clear hok h0 has hcan
        go_wp2_with fail
        refine (hbv.out).mono ?_
        rintro e w4 ⟨bb, bo, bcp, bl, bh, rfl, hcells, hbe, hb⟩; have HBE := Lib.hid hbe; have hRg : RangesAt w4 (.slice (some ⟨bb, bo, none⟩) l.length bcp) l.length bl bh := ⟨_, _, rfl, .inr ⟨_, _, rfl, hcells⟩⟩
        have HB4 := Lib.hid ((HB3.out).trans (hb.mono (HB3.out).size))
        have NBi4 := Lib.hid ((hb.block Bi (Array.getElem?_eq_some_iff.1 NBi3.out).1).trans NBi3.out)
        have FA4 := Lib.hid ((FA3.out).keep hb (Nat.le_refl _))
        have FG4 := Lib.hid hRg
        clear HB3 NBi3 cBi0_3 cBi1_3 cBi2_3 FA3 hRg hb hbv hcells hbe
        have cBi0_4 : w4.cell? ⟨Bi, 0, none⟩ = some (.slice (some ⟨b, o, none⟩) l.length cap) := by simp [World.cell?, NBi4.out]
        have cBi1_4 : w4.cell? ⟨Bi, 1, none⟩ = some (.int .i64 T) := by simp [World.cell?, NBi4.out]
        have cBi2_4 : w4.cell? ⟨Bi, 2, none⟩ = some (.int .i64 C) := by simp [World.cell?, NBi4.out]
        clear FA4
        go_wp2_with fail
        refine (net_any _ cap T C l _ (HA.out.keep HB4.out (Nat.le_refl _)) (by omega)).mono ?_
        rintro e w5 ⟨A3, cap3, rfl, hA3, hN3x, hb⟩
        have HB5 := Lib.hid ((HB4.out).trans (hb.mono (HB4.out).size))
        have NBi5 := Lib.hid ((hb.block Bi (Array.getElem?_eq_some_iff.1 NBi4.out).1).trans NBi4.out)
        have FG5 := Lib.hid ((FG4.out).keep hb (Nat.le_refl _))
        have FA5 := Lib.hid hA3
        clear HB4 NBi4 cBi0_4 cBi1_4 cBi2_4 FG4 hA3 hb hN3x
        have cBi0_5 : w5.cell? ⟨Bi, 0, none⟩ = some (.slice (some ⟨b, o, none⟩) l.length cap) := by simp [World.cell?, NBi5.out]
        have cBi1_5 : w5.cell? ⟨Bi, 1, none⟩ = some (.int .i64 T) := by simp [World.cell?, NBi5.out]
        have cBi2_5 : w5.cell? ⟨Bi, 2, none⟩ = some (.int .i64 C) := by simp [World.cell?, NBi5.out]
        go_wp2_with fail
        refine (hsv.out A3 cap3 _ FA5.out).mono ?_
        rintro e w6 ⟨Av, vcp, xs, rfl, hxl, hI, hit, hb⟩; have HIT := Lib.hid hit
        have HB6 := Lib.hid ((HB5.out).trans (hb.mono (HB5.out).size))
        have NBi6 := Lib.hid ((hb.block Bi (Array.getElem?_eq_some_iff.1 NBi5.out).1).trans NBi5.out)
        have FG6 := Lib.hid ((FG5.out).keep hb (Nat.le_refl _))
        have FA6 := Lib.hid ((FA5.out).keep hb (Nat.le_refl _))
        have FV6 := Lib.hid hI
        clear HB5 NBi5 cBi0_5 cBi1_5 cBi2_5 FG5 FA5 hI hb hsv hit hxl
        have cBi0_6 : w6.cell? ⟨Bi, 0, none⟩ = some (.slice (some ⟨b, o, none⟩) l.length cap) := by simp [World.cell?, NBi6.out]
        have cBi1_6 : w6.cell? ⟨Bi, 1, none⟩ = some (.int .i64 T) := by simp [World.cell?, NBi6.out]
        have cBi2_6 : w6.cell? ⟨Bi, 2, none⟩ = some (.int .i64 C) := by simp [World.cell?, NBi6.out]
        clear FA6
        go_wp2_with fail
        refine (hask.out _ (HA.out.keep HB6.out (Nat.le_refl _))).mono ?_
        rintro e w7 ⟨rfl, hb⟩
        have HB7 := Lib.hid ((HB6.out).trans (hb.mono (HB6.out).size))
        have NBi7 := Lib.hid ((hb.block Bi (Array.getElem?_eq_some_iff.1 NBi6.out).1).trans NBi6.out)
        have FG7 := Lib.hid ((FG6.out).keep hb (Nat.le_refl _))
        have FV7 := Lib.hid ((FV6.out).keep hb (Nat.le_refl _))
        clear HB6 NBi6 cBi0_6 cBi1_6 cBi2_6 FG6 FV6 hb hask
        have cBi0_7 : w7.cell? ⟨Bi, 0, none⟩ = some (.slice (some ⟨b, o, none⟩) l.length cap) := by simp [World.cell?, NBi7.out]
        have cBi1_7 : w7.cell? ⟨Bi, 1, none⟩ = some (.int .i64 T) := by simp [World.cell?, NBi7.out]
        have cBi2_7 : w7.cell? ⟨Bi, 2, none⟩ = some (.int .i64 C) := by simp [World.cell?, NBi7.out]
        have hrm := fun W hW => refRooms_any b o l.length cap T C err l 0 W rfl HO.out hW he0 he1 (by decide)
        rw [bitsL_zero] at hrm
        have HRM := Lib.hid hrm
        clear hrm
        go_wp2_with fail
        refine (HRM.out _ (HA.out.keep HB7.out (Nat.le_refl _))).mono ?_
        rintro e w8 ⟨rv, rfl, hrv, hb⟩
        have HB8 := Lib.hid ((HB7.out).trans (hb.mono (HB7.out).size))
        have NBi8 := Lib.hid ((hb.block Bi (Array.getElem?_eq_some_iff.1 NBi7.out).1).trans NBi7.out)
        have FG8 := Lib.hid ((FG7.out).keep hb (Nat.le_refl _))
        have FV8 := Lib.hid ((FV7.out).keep hb (Nat.le_refl _))
        have FR8 := Lib.hid hrv
        clear HB7 NBi7 cBi0_7 cBi1_7 cBi2_7 FG7 FV7 hrv hb HRM
        have cBi0_8 : w8.cell? ⟨Bi, 0, none⟩ = some (.slice (some ⟨b, o, none⟩) l.length cap) := by simp [World.cell?, NBi8.out]
        have cBi1_8 : w8.cell? ⟨Bi, 1, none⟩ = some (.int .i64 T) := by simp [World.cell?, NBi8.out]
        have cBi2_8 : w8.cell? ⟨Bi, 2, none⟩ = some (.int .i64 C) := by simp [World.cell?, NBi8.out]
        have hll : ((l.length : Int) != (l.length : Int)) = false := by simp
        go_wp2_with fail
        refine (refIsTruth_any b o l.length cap T C err l rv _ xs _ rfl HO.out (HA.out.keep HB8.out (Nat.le_refl _)) he0 FR8.out FV8.out).mono ?_
        rintro e w9 ⟨he, hb⟩; rw [HIT.out] at he; subst he
        have HB9 := Lib.hid ((HB8.out).trans (hb.mono (HB8.out).size))
        have NBi9 := Lib.hid ((hb.block Bi (Array.getElem?_eq_some_iff.1 NBi8.out).1).trans NBi8.out)
        have FG9 := Lib.hid ((FG8.out).keep hb (Nat.le_refl _))
        have FV9 := Lib.hid ((FV8.out).keep hb (Nat.le_refl _))
        have FR9 := Lib.hid ((FR8.out).keep hb (Nat.le_refl _))
        clear HB8 NBi8 cBi0_8 cBi1_8 cBi2_8 FG8 FV8 FR8 hb 
        have cBi0_9 : w9.cell? ⟨Bi, 0, none⟩ = some (.slice (some ⟨b, o, none⟩) l.length cap) := by simp [World.cell?, NBi9.out]
        have cBi1_9 : w9.cell? ⟨Bi, 1, none⟩ = some (.int .i64 T) := by simp [World.cell?, NBi9.out]
        have cBi2_9 : w9.cell? ⟨Bi, 2, none⟩ = some (.int .i64 C) := by simp [World.cell?, NBi9.out]
        clear FV9
        go_wp2_with fail
        go_loopw [11] (ABRel l.length w9) (fun i _ => l.length - (intOf i).toNat)
        case atStart => exact ⟨0, by omega, rfl, Below.refl _ _⟩
        case round =>
          clear cBi0_9 cBi1_9 cBi2_9
          obtain ⟨k, hk, rfl, hbe⟩ := hrel
          have HNX := Lib.hid ((hbe.block Bi (Array.getElem?_eq_some_iff.1 NBi9.out).1).trans NBi9.out)
          have HBX := Lib.hid (HB9.out.trans (hbe.mono HB9.out.size))
          have HRX := Lib.hid (FR9.out.keep hbe (Nat.le_refl _))
          have hGX := FG9.out.keep hbe (Nat.le_refl _)
          have x0 : wr.cell? ⟨Bi, 0, none⟩ = some (.slice (some ⟨b, o, none⟩) l.length cap) := by simp [World.cell?, HNX.out]
          have x1 : wr.cell? ⟨Bi, 1, none⟩ = some (.int .i64 T) := by simp [World.cell?, HNX.out]
          have x2 : wr.cell? ⟨Bi, 2, none⟩ = some (.int .i64 C) := by simp [World.cell?, HNX.out]
          have HBE2 := Lib.hid hbe
          clear hbe
          by_cases hlt : k < l.length
          · have hlt' : decide ((k : Int) < (l.length : Int)) = true := by simpa using hlt
            have i1 : (0 : Int) ≤ (k : Int) := by omega
            have i2 : (k : Int) < (l.length : Int) := by omega
            obtain ⟨_, _, hge, hgc⟩ := hGX
            obtain ⟨_, _, hgd, hgc⟩ := hgc.resolve_left (by omega)
            obtain ⟨rfl, rfl⟩ : _ = some (⟨bb, bo, none⟩ : Addr) ∧ _ = bcp := ⟨(Value.slice.inj hge).1.symm, (Value.slice.inj hge).2.2.symm⟩
            obtain ⟨rfl, rfl⟩ : bb = _ ∧ bo = _ := by simpa using hgd
            obtain ⟨g0, g1⟩ := hgc k hlt
            have hHP := Lib.hid (hasP_left (cap := cap) (rs := .bool true) k hlt rfl HO.out (HA.out.keep HBX.out (Nat.le_refl _)) he0 HC.out)
            have hlo := HBE.out.lo k hlt
            have hhi := HBE.out.hi k hlt
            obtain ⟨p, hp⟩ : ∃ p, bl (k : Int) = p := ⟨_, rfl⟩
            obtain ⟨q, hq⟩ : ∃ q, bh (k : Int) = q := ⟨_, rfl⟩
            rw [hp] at g0 hlo
            rw [hq] at g1 hhi
            have HLO := Lib.hid hlo
            have HHI := Lib.hid hhi
            clear hgc hlo hhi hp hq hge hgd
            go_wp2_with fail
            refine wp_region_held_drew (S := fun X => X.cell? ⟨Bi, 0, none⟩ = some (.slice (some ⟨b, o, none⟩) l.length cap) ∧ X.cell? ⟨Bi, 1, none⟩ = some (.int .i64 T) ∧ X.cell? ⟨Bi, 2, none⟩ = some (.int .i64 C) ∧ X.cell? ⟨bb, bo + k * 2, none⟩ = some (.int .i64 p) ∧ X.cell? ⟨bb, bo + k * 2 + 1, none⟩ = some (.int .i64 q)) (by kernel_rfl) (⟨x0, x1, x2, g0, g1⟩) (fun hS0 => ?_)
            refine wpAnyH_take (i := 0) (oi := { dst := some 84, op := Op.move (Operand.tmp 5), type := 52, pos := "law.go:133", after := #[], guard := none }) (v := ?_) rfl (by kernel_rfl) (by kernel_rfl) (by kernel_rfl) (fun _ _ _ h => h) (Or.inl ⟨by rfl, ?_⟩) hS0 ?_
            rotate_left
            · intro X hX
              obtain ⟨x0, x1, x2, x3, x4⟩ := hX
              go_simp
              try with_reducible rfl
            simp only [Act.put, List.setIfInBounds_toArray, List.set_cons_zero, List.set_cons_succ, Array.toArray_toList]
            refine wpAnyH_take (i := 1) (oi := { dst := some 85, op := Op.move (Operand.tmp 11), type := 3, pos := "law.go:133", after := #[], guard := none }) (v := ?_) rfl (by kernel_rfl) (by kernel_rfl) (by kernel_rfl) (fun _ _ _ h => h) (Or.inl ⟨by rfl, ?_⟩) hS0 ?_
            rotate_left
            · intro X hX
              obtain ⟨x0, x1, x2, x3, x4⟩ := hX
              go_simp
              try with_reducible rfl
            simp only [Act.put, List.setIfInBounds_toArray, List.set_cons_zero, List.set_cons_succ, Array.toArray_toList]
            refine wpAnyH_take (i := 2) (oi := { dst := some 86, op := Op.indexAddr 52 (Operand.tmp 84) (Operand.tmp 85), type := 0, pos := "law.go:133", after := #[{ on := 0, ground := Ground.data }, { on := 1, ground := Ground.data }], guard := none }) (v := ?_) rfl (by kernel_rfl) (by kernel_rfl) (by kernel_rfl) (fun _ _ _ h => h) (Or.inl ⟨by rfl, ?_⟩) hS0 ?_
            rotate_left
            · intro X hX
              obtain ⟨x0, x1, x2, x3, x4⟩ := hX
              go_simp
              try with_reducible rfl
            simp only [Act.put, List.setIfInBounds_toArray, List.set_cons_zero, List.set_cons_succ, Array.toArray_toList]
            refine wpAnyH_take (i := 3) (oi := { dst := some 87, op := Op.load 58 (Operand.tmp 86), type := 58, pos := "law.go:133", after := #[{ on := 2, ground := Ground.data }], guard := none }) (v := ?_) rfl (by kernel_rfl) (by kernel_rfl) (by kernel_rfl) (fun _ _ _ h => h) (Or.inl ⟨by rfl, ?_⟩) hS0 ?_
            rotate_left
            · intro X hX
              obtain ⟨x0, x1, x2, x3, x4⟩ := hX
              go_simp
              try with_reducible rfl
            simp only [Act.put, List.setIfInBounds_toArray, List.set_cons_zero, List.set_cons_succ, Array.toArray_toList]
            refine wpAnyH_take (i := 4) (oi := { dst := some 88, op := Op.load 24 (Operand.tmp 2), type := 24, pos := "law.go:133", after := #[], guard := none }) (v := ?_) rfl (by kernel_rfl) (by kernel_rfl) (by kernel_rfl) (fun _ _ _ h => h) (Or.inl ⟨by rfl, ?_⟩) hS0 ?_
            rotate_left
            · intro X hX
              obtain ⟨x0, x1, x2, x3, x4⟩ := hX
              go_simp
              try with_reducible rfl
            simp only [Act.put, List.setIfInBounds_toArray, List.set_cons_zero, List.set_cons_succ, Array.toArray_toList]
            refine wpAnyH_take (i := 5) (oi := { dst := some 89, op := Op.move (Operand.tmp 10), type := 44, pos := "law.go:133", after := #[], guard := none }) (v := ?_) rfl (by kernel_rfl) (by kernel_rfl) (by kernel_rfl) (fun _ _ _ h => h) (Or.inl ⟨by rfl, ?_⟩) hS0 ?_
            rotate_left
            · intro X hX
              obtain ⟨x0, x1, x2, x3, x4⟩ := hX
              go_simp
              try with_reducible rfl
            simp only [Act.put, List.setIfInBounds_toArray, List.set_cons_zero, List.set_cons_succ, Array.toArray_toList]
            refine wpAnyH_take (i := 6) (oi := { dst := some 90, op := Op.move (Operand.tmp 11), type := 3, pos := "law.go:133", after := #[], guard := none }) (v := ?_) rfl (by kernel_rfl) (by kernel_rfl) (by kernel_rfl) (fun _ _ _ h => h) (Or.inl ⟨by rfl, ?_⟩) hS0 ?_
            rotate_left
            · intro X hX
              obtain ⟨x0, x1, x2, x3, x4⟩ := hX
              go_simp
              try with_reducible rfl
            simp only [Act.put, List.setIfInBounds_toArray, List.set_cons_zero, List.set_cons_succ, Array.toArray_toList]
            refine wpAnyH_ready (rs := [7]) (by kernel_rfl) (by simp) (AllReadyH.cons (o := { dst := some 91, op := Op.call { callee := Callee.value (Operand.func 39), args := #[Operand.tmp 88, Operand.tmp 89, Operand.tmp 90], argTypes := #[24, 44, 3] }, type := 60, pos := "law.go:133", after := #[{ on := 4, ground := Ground.data }, { on := 5, ground := Ground.data }, { on := 6, ground := Ground.data }], guard := none }) rfl (fun K hK => ?_) AllReadyH.nil)
            go_simp
            refine (refBounds_any b o l.length cap k T C l rv _ _ wr.drew rfl HO.out (HA.out.keep HBX.out.drew (Nat.le_refl _)) (HRX.out.keep (Below.drew (Below.refl _ wr)) (Nat.le_refl _)) (rooms_ok HO.out he0 []) hlt).mono ?_
            rintro e w20 ⟨r1, r2, rfl, hr12, hb3⟩
            obtain ⟨rfl, rfl⟩ : r1 = p ∧ r2 = q := ⟨low_unique (hr12 hHP.out).1 HLO.out, high_unique (hr12 hHP.out).2 HHI.out⟩
            have y0 := cell_later hb3 x0
            have y1 := cell_later hb3 x1
            have y2 := cell_later hb3 x2
            have y3 := cell_later hb3 g0
            have y4 := cell_later hb3 g1
            clear hr12
            go_wp2_with fail
            refine hK.out _ _ (⟨y0, y1, y2, y3, y4⟩) (fun hS1 => ?_)
            clear hS0 hK K
            refine wpAnyH_ready (rs := [8]) (by kernel_rfl) (by simp) (AllReadyH.cons (o := { dst := some 92, op := Op.call { callee := Callee.value (Operand.func 38), args := #[Operand.tmp 91], argTypes := #[60] }, type := 58, pos := "law.go:133", after := #[{ on := 7, ground := Ground.data }, { on := 7, ground := Ground.chain }], guard := none }) rfl (fun K hK => ?_) AllReadyH.nil)
            go_simp
            refine (to_any r1 r2 _).mono ?_
            rintro e w21 ⟨rfl, hb4⟩
            have v0 := cell_later hb4 y0
            have v1 := cell_later hb4 y1
            have v2 := cell_later hb4 y2
            have v3 := cell_later hb4 y3
            have v4 := cell_later hb4 y4
            go_wp2_with fail
            refine hK.out _ _ (⟨v0, v1, v2, v3, v4⟩) (fun hS2 => ?_)
            clear hS1 hK K
            refine wpAnyH_take (i := 9) (oi := { dst := some 93, op := Op.binOp BinOp.neq 58 (Operand.tmp 87) (Operand.tmp 92) 58, type := 4, pos := "law.go:133", after := #[{ on := 3, ground := Ground.data }, { on := 8, ground := Ground.data }], guard := none }) (v := ?_) rfl (by kernel_rfl) (by kernel_rfl) (by kernel_rfl) (fun _ _ _ h => h) (Or.inl ⟨by rfl, ?_⟩) hS2 ?_
            rotate_left
            · intro X hX
              obtain ⟨x0, x1, x2, x3, x4⟩ := hX
              go_simp
              try with_reducible rfl
            simp only [Act.put, List.setIfInBounds_toArray, List.set_cons_zero, List.set_cons_succ, Array.toArray_toList]
            refine wpAnyH_done (by kernel_rfl) ?_ _
            clear hS2
            have hbd : Below wr.heap.size wr w21 := (Below.drew (Below.refl _ wr)).trans (hb3.trans (hb4.mono hb3.size))
            have HBE3 := Lib.hid (HBE2.out.trans (hbd.mono HBE2.out.size))
            clear hbd hb3 hb4 y0 y1 y2 y3 y4 v0 v1 v2 v3 v4 x0 x1 x2 g0 g1 HRX HBX HNX HBE2 HLO HHI
            go_wp2_with fail
            go_roundw
            case rel => exact ⟨k + 1, by omega, by go_num, HBE3.out⟩
            case measure => simp [intOf]; omega
          · have hlt' : decide ((k : Int) < (l.length : Int)) = false := by simpa using hlt
            clear x0 x1 x2 hGX
            go_wp2_with fail
            refine (awake_any _).mono ?_
            rintro e w8 ⟨rfl, hb⟩
            have HB8 := Lib.hid (HBX.out.trans (hb.mono HBX.out.size))
            clear hb
            go_wp2_with fail
            go_ret
            exact ⟨rfl, HB8.out⟩
    ·   have hlv := Lib.hid (bounds_no (cap := cap2) (by omega) rfl FA3.out h0)
        have hsv := Lib.hid (fun A cap W hW => show_no (A := A) (cap := cap) (T := T) (C := C) (err := err) (l := l) (w := W) (by omega : l.length ≤ 1000000) rfl hW h0)
        obtain ⟨Q, hQ⟩ : ∃ Q, sureL l T C err = Q := ⟨_, rfl⟩
        rw [hQ] at hlv hsv hask h0
        have hne : (Q != 0) = true := by simpa using h0
        have hee : (Q == Q) = true := by simp
        clear hQ h0
        go_wp2_with fail
        refine (hlv.out).mono ?_
        rintro e w4 ⟨rfl, hb⟩
        have HB4 := Lib.hid ((HB3.out).trans (hb.mono (HB3.out).size))
        have NBi4 := Lib.hid ((hb.block Bi (Array.getElem?_eq_some_iff.1 NBi3.out).1).trans NBi3.out)
        have FA4 := Lib.hid ((FA3.out).keep hb (Nat.le_refl _))
        clear HB3 NBi3 cBi0_3 cBi1_3 cBi2_3 FA3 hb hlv
        have cBi0_4 : w4.cell? ⟨Bi, 0, none⟩ = some (.slice A l.length cap) := by simp [World.cell?, NBi4.out]
        have cBi1_4 : w4.cell? ⟨Bi, 1, none⟩ = some (.int .i64 T) := by simp [World.cell?, NBi4.out]
        have cBi2_4 : w4.cell? ⟨Bi, 2, none⟩ = some (.int .i64 C) := by simp [World.cell?, NBi4.out]
        clear FA4
        go_wp2_with fail
        refine (net_any A cap T C l _ (HA.out.keep HB4.out (Nat.le_refl _)) (by omega)).mono ?_
        rintro e w5 ⟨A3, cap3, rfl, hA3, hN3x, hb⟩
        have HB5 := Lib.hid ((HB4.out).trans (hb.mono (HB4.out).size))
        have NBi5 := Lib.hid ((hb.block Bi (Array.getElem?_eq_some_iff.1 NBi4.out).1).trans NBi4.out)
        have FA5 := Lib.hid hA3
        clear HB4 NBi4 cBi0_4 cBi1_4 cBi2_4 hA3 hb hN3x
        have cBi0_5 : w5.cell? ⟨Bi, 0, none⟩ = some (.slice A l.length cap) := by simp [World.cell?, NBi5.out]
        have cBi1_5 : w5.cell? ⟨Bi, 1, none⟩ = some (.int .i64 T) := by simp [World.cell?, NBi5.out]
        have cBi2_5 : w5.cell? ⟨Bi, 2, none⟩ = some (.int .i64 C) := by simp [World.cell?, NBi5.out]
        go_wp2_with fail
        refine (hsv.out A3 cap3 _ FA5.out).mono ?_
        rintro e w6 ⟨rfl, hb⟩
        have HB6 := Lib.hid ((HB5.out).trans (hb.mono (HB5.out).size))
        have NBi6 := Lib.hid ((hb.block Bi (Array.getElem?_eq_some_iff.1 NBi5.out).1).trans NBi5.out)
        have FA6 := Lib.hid ((FA5.out).keep hb (Nat.le_refl _))
        clear HB5 NBi5 cBi0_5 cBi1_5 cBi2_5 FA5 hb hsv
        have cBi0_6 : w6.cell? ⟨Bi, 0, none⟩ = some (.slice A l.length cap) := by simp [World.cell?, NBi6.out]
        have cBi1_6 : w6.cell? ⟨Bi, 1, none⟩ = some (.int .i64 T) := by simp [World.cell?, NBi6.out]
        have cBi2_6 : w6.cell? ⟨Bi, 2, none⟩ = some (.int .i64 C) := by simp [World.cell?, NBi6.out]
        clear FA6
        go_wp2_with fail
        refine (hask.out _ (HA.out.keep HB6.out (Nat.le_refl _))).mono ?_
        rintro e w7 ⟨rfl, hb⟩
        have HB7 := Lib.hid ((HB6.out).trans (hb.mono (HB6.out).size))
        have NBi7 := Lib.hid ((hb.block Bi (Array.getElem?_eq_some_iff.1 NBi6.out).1).trans NBi6.out)
        clear HB6 NBi6 cBi0_6 cBi1_6 cBi2_6  hb hask
        have cBi0_7 : w7.cell? ⟨Bi, 0, none⟩ = some (.slice A l.length cap) := by simp [World.cell?, NBi7.out]
        have cBi1_7 : w7.cell? ⟨Bi, 1, none⟩ = some (.int .i64 T) := by simp [World.cell?, NBi7.out]
        have cBi2_7 : w7.cell? ⟨Bi, 2, none⟩ = some (.int .i64 C) := by simp [World.cell?, NBi7.out]
        go_wp2_with fail
        refine (awake_any _).mono ?_
        rintro e w8 ⟨rfl, hb⟩
        have HB8 := Lib.hid ((HB7.out).trans (hb.mono (HB7.out).size))
        have NBi8 := Lib.hid ((hb.block Bi (Array.getElem?_eq_some_iff.1 NBi7.out).1).trans NBi7.out)
        clear HB7 NBi7 cBi0_7 cBi1_7 cBi2_7  hb 
        have cBi0_8 : w8.cell? ⟨Bi, 0, none⟩ = some (.slice A l.length cap) := by simp [World.cell?, NBi8.out]
        have cBi1_8 : w8.cell? ⟨Bi, 1, none⟩ = some (.int .i64 T) := by simp [World.cell?, NBi8.out]
        have cBi2_8 : w8.cell? ⟨Bi, 2, none⟩ = some (.int .i64 C) := by simp [World.cell?, NBi8.out]
        go_wp2_with fail
        go_ret
        exact ⟨rfl, HB8.out⟩
end Go.Proofs.Ytkloaeaepjoijaa

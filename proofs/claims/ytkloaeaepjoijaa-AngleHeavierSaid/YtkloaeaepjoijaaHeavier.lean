/-
  AngleHeavier: the walk.
-/
import Derived.Test.YtkloaeaepjoijaaLawC
set_option linter.all false
namespace Go.Proofs.Ytkloaeaepjoijaa
open Go.RowKit Go.WalkArith

/-- One angle weighs more. -/
def heavL (l : List Ang) (i : Nat) (h : i < l.length) : List Ang := l.set i (putF l[i] 3 (min 3 (l[i].g + 1)))

section
variable {l : List Ang} {T C : Int} {i : Nat} {h : i < l.length}
theorem heavL_len : (heavL l i h).length = l.length := by simp [heavL]
theorem heavL_at (j : Nat) (hj : j < l.length) : (heavL l i h)[j]'(by rw [heavL_len]; exact hj) = if i = j then putF l[j] 3 (min 3 (l[j].g + 1)) else l[j] := by
  unfold heavL
  by_cases e : i = j
  · subst e; simp
  · rw [List.getElem_set_ne e, if_neg e]
theorem heavL_same : SameNet l (heavL l i h) := by
  refine ⟨heavL_len, fun j hj hj' => ?_, fun j hj hj' => ?_⟩
  · rw [heavL_at j hj]; split <;> simp [putF]
  · rw [heavL_at j hj]; split <;> simp [putF]
theorem heavL_more (j : Nat) (hj : j < l.length) (hg : l[j].g ≤ 3) : l[j].g ≤ ((heavL l i h)[j]'(by rw [heavL_len]; exact hj)).g ∧ ((heavL l i h)[j]'(by rw [heavL_len]; exact hj)).r = l[j].r := by
  rw [heavL_at j hj]
  split
  · simp [putF]; omega
  · exact ⟨Int.le_refl _, rfl⟩
theorem heavL_ok (hok : NetOk l T C) : NetOk (heavL l i h) T C := by
  refine ⟨by rw [heavL_len]; exact hok.pos, by rw [heavL_len]; exact hok.len, hok.t0, hok.t1, hok.c0, hok.c1, fun a ha => ?_⟩
  obtain ⟨j, hj, rfl⟩ := List.mem_iff_getElem.1 ha
  rw [heavL_len] at hj
  have hx := hok.ang l[j] (List.getElem_mem hj)
  rw [heavL_at j hj]
  split
  · simp [putF]; omega
  · exact hx
theorem heavL_room (hok : NetOk l T C) {e : Int} (he : 0 ≤ e) (j : Nat) (hj : j < l.length) : roomLo (heavL l i h) e [] j ≤ roomLo l e [] j ∧ roomHi l e [] j ≤ roomHi (heavL l i h) e [] j := by
  have hx := hok.ang l[j] (List.getElem_mem hj)
  obtain ⟨a, b⟩ := heavL_more (i := i) (h := h) j hj (by omega)
  have hm : e * l[j].g ≤ e * ((heavL l i h)[j]'(by rw [heavL_len]; exact hj)).g := Int.mul_le_mul_of_nonneg_left a he
  rw [roomLo_at hj, roomLo_at (by rw [heavL_len]; exact hj), roomHi_at hj, roomHi_at (by rw [heavL_len]; exact hj), b]
  simp only [List.contains_nil, Bool.false_eq_true, if_false]
  omega
theorem heavL_can (hok : NetOk l T C) {e : Int} (he : 0 ≤ e) (hc : canE l T C e [] = true) : canE (heavL l i h) T C e [] = true := by
  have h1 : canB (heavL l i h) T C (roomLo l e []) (roomHi l e []) = true := by rw [heavL_same.canB]; exact hc
  exact canB_mono (heavL_ok hok) (fun j hj => (heavL_room hok he j (by rw [heavL_len] at hj; exact hj)).1) (fun j hj => (heavL_room hok he j (by rw [heavL_len] at hj; exact hj)).2) h1
theorem room40 (hok : NetOk l T C) (j : Nat) (hj : j < l.length) : roomLo l 40 [] j = 0 ∧ roomHi l 40 [] j = 40 := by
  have hx := hok.ang l[j] (List.getElem_mem hj)
  rw [roomLo_at hj, roomHi_at hj]
  simp only [List.contains_nil, Bool.false_eq_true, if_false]
  omega
theorem heavL_40 (hok : NetOk l T C) : canE (heavL l i h) T C 40 [] = canE l T C 40 [] := by
  unfold canE
  rw [heavL_same.canB]
  exact canB_congr (fun j hj => by rw [(room40 hok j hj).1, (room40 (heavL_ok hok) j (by rw [heavL_len]; exact hj)).1]) (fun j hj => by rw [(room40 hok j hj).2, (room40 (heavL_ok hok) j (by rw [heavL_len]; exact hj)).2])
theorem tmod_idx {n : Nat} {wh : Int} (h0 : 0 ≤ wh) (hn : 0 < n) : ∃ i : Nat, i < n ∧ wh.tmod (n : Int) = i := by
  have h1 : wh.tmod (n : Int) = wh % (n : Int) := Int.tmod_eq_emod_of_nonneg h0
  have h2 := Int.emod_nonneg wh (by omega : (n : Int) ≠ 0)
  have h3 := Int.emod_lt_of_pos wh (by omega : 0 < (n : Int))
  rw [h1]
  generalize wh % (n : Int) = r at h2 h3 ⊢
  exact ⟨r.toNat, by omega, by omega⟩
theorem leastO_40 (hok : NetOk l T C) : (leastO l T C).isSome = canE l T C 40 [] := by
  cases e : leastO l T C with
  | none => exact (leastO_none e 40 (by omega)).symm
  | some k =>
    obtain ⟨a, b, _⟩ := leastO_some e
    exact (canE_more hok (by omega) a).symm
/-- The smallest error is not greater. -/
theorem heavier (hok : NetOk l T C) : leastE (heavL l i h) T C = leastE l T C ∧ (leastE l T C = 9 ∨ leastE l T C = 0 ∧ leastN (heavL l i h) T C ≤ leastN l T C) := by
  have f1 := faultL_zero.2 hok
  have f2 := faultL_zero.2 (heavL_ok (i := i) (h := h) hok)
  have h1 := leastO_40 hok
  have h2 := leastO_40 (heavL_ok (i := i) (h := h) hok)
  rw [heavL_40 hok] at h2
  unfold leastE leastN
  rw [f1, f2]
  simp only [ne_eq, not_true, if_false]
  cases e : leastO l T C with
  | none =>
    rw [e] at h1
    rw [← h1] at h2
    have : leastO (heavL l i h) T C = none := by simpa using h2
    rw [this]; simp
  | some k =>
    rw [e] at h1
    rw [← h1] at h2
    obtain ⟨k', e'⟩ := Option.isSome_iff_exists.1 h2
    rw [e']
    refine ⟨rfl, .inr ⟨rfl, ?_⟩⟩
    obtain ⟨a, b, c⟩ := leastO_some e
    obtain ⟨a', b', c'⟩ := leastO_some e'
    simp only
    refine Int.not_lt.1 fun hlt => ?_
    have := c' k (by omega)
    rw [heavL_can hok (by omega) a] at this; cases this
end

set_option maxRecDepth 100000 in
set_option maxHeartbeats 600000 in
theorem heavier_walk (A : Option Addr) (n cap : Nat) (T C : Int) (l : List Ang) (wh : Int) (w : World)
    (hl : l.length = n) (hA : AngsAt w A l) (_ : NilOk A cap) (hw0 : 0 ≤ wh) (hw1 : wh ≤ 255) :
    Calls Try.prog 13 #[.agg #[.slice A n cap, .int .i64 T, .int .i64 C], .int .u8 wh] w fun e w' => e = .returned (.bool true) ∧ Below w.heap.size w w' := by
  obtain ⟨i0, hi0, hz0, hz1, hz2⟩ := info_parts Try.info71
  subst hl
  have HA := Lib.hid hA
  clear hA
  have hB0 : Below w.heap.size w (w.alloc (.cells #[.slice A l.length cap, .int .i64 T, .int .i64 C] 24)) := (Below.refl _ _).alloc (Nat.le_refl _) _
  have hn0 : (w.alloc (.cells #[.slice A l.length cap, .int .i64 T, .int .i64 C] 24)).heap[w.heap.size]? = some (.cells #[.slice A l.length cap, .int .i64 T, .int .i64 C] 24 (0, 0)) := heap_new_at _ _ _ rfl
  have HB1 := Lib.hid hB0
  have NBi1 := Lib.hid hn0
  clear hB0 hn0
  go_enter Try.func13, Try.ntmps13
  go_wp2_with fail
  generalize (w.alloc (.cells #[.slice A l.length cap, .int .i64 T, .int .i64 C] 24)) = w1 at HB1 NBi1 ⊢
  obtain ⟨Bi, hBi⟩ : ∃ Bi, w.heap.size = Bi := ⟨_, rfl⟩
  have oBi : w.heap.size ≤ Bi := by omega
  rw [hBi] at NBi1 ⊢
  clear hBi
  have cBi0_1 : w1.cell? ⟨Bi, 0, none⟩ = some (.slice A l.length cap) := by simp [World.cell?, NBi1.out]
  have cBi1_1 : w1.cell? ⟨Bi, 1, none⟩ = some (.int .i64 T) := by simp [World.cell?, NBi1.out]
  have cBi2_1 : w1.cell? ⟨Bi, 2, none⟩ = some (.int .i64 C) := by simp [World.cell?, NBi1.out]
  have hth := Lib.hid (thin_any A l.length cap T C w1)
  by_cases h15 : l.length ≤ 15
  rotate_left
  · have hx15 : 15 < l.length := by omega
    rw [show decide (l.length ≤ 15) = false from (by simp; omega)] at hth
    go_wp2_with fail
    refine (hth.out).mono ?_
    rintro e w2 ⟨rfl, hb⟩
    have HB2 := Lib.hid ((HB1.out).trans (hb.mono (HB1.out).size))
    have NBi2 := Lib.hid ((hb.block Bi (Array.getElem?_eq_some_iff.1 NBi1.out).1).trans NBi1.out)
    clear HB1 NBi1 cBi0_1 cBi1_1 cBi2_1  hb hth
    have cBi0_2 : w2.cell? ⟨Bi, 0, none⟩ = some (.slice A l.length cap) := by simp [World.cell?, NBi2.out]
    have cBi1_2 : w2.cell? ⟨Bi, 1, none⟩ = some (.int .i64 T) := by simp [World.cell?, NBi2.out]
    have cBi2_2 : w2.cell? ⟨Bi, 2, none⟩ = some (.int .i64 C) := by simp [World.cell?, NBi2.out]
    go_wp2_with fail
    refine (awake_any _).mono ?_
    rintro e w3 ⟨rfl, hb⟩
    have HB3 := Lib.hid ((HB2.out).trans (hb.mono (HB2.out).size))
    have NBi3 := Lib.hid ((hb.block Bi (Array.getElem?_eq_some_iff.1 NBi2.out).1).trans NBi2.out)
    clear HB2 NBi2 cBi0_2 cBi1_2 cBi2_2  hb 
    have cBi0_3 : w3.cell? ⟨Bi, 0, none⟩ = some (.slice A l.length cap) := by simp [World.cell?, NBi3.out]
    have cBi1_3 : w3.cell? ⟨Bi, 1, none⟩ = some (.int .i64 T) := by simp [World.cell?, NBi3.out]
    have cBi2_3 : w3.cell? ⟨Bi, 2, none⟩ = some (.int .i64 C) := by simp [World.cell?, NBi3.out]
    go_wp2_with fail
    go_ret
    exact ⟨rfl, HB3.out⟩
  · rw [show decide (l.length ≤ 15) = true from (by simp; omega)] at hth
    go_wp2_with fail
    refine (hth.out).mono ?_
    rintro e w2 ⟨rfl, hb⟩
    have HB2 := Lib.hid ((HB1.out).trans (hb.mono (HB1.out).size))
    have NBi2 := Lib.hid ((hb.block Bi (Array.getElem?_eq_some_iff.1 NBi1.out).1).trans NBi1.out)
    clear HB1 NBi1 cBi0_1 cBi1_1 cBi2_1  hb hth
    have cBi0_2 : w2.cell? ⟨Bi, 0, none⟩ = some (.slice A l.length cap) := by simp [World.cell?, NBi2.out]
    have cBi1_2 : w2.cell? ⟨Bi, 1, none⟩ = some (.int .i64 T) := by simp [World.cell?, NBi2.out]
    have cBi2_2 : w2.cell? ⟨Bi, 2, none⟩ = some (.int .i64 C) := by simp [World.cell?, NBi2.out]
    have hfa := Lib.hid (lawFault_any A l.length cap T C l w2 (by omega) rfl (HA.out.keep HB2.out (Nat.le_refl _)))
    by_cases hf0 : faultL l T C = 0
    rotate_left
    · obtain ⟨F, hF⟩ : ∃ F, faultL l T C = F := ⟨_, rfl⟩
      rw [hF] at hfa hf0
      have hne : (F != 0) = true := by simpa using hf0
      clear hF hf0
      go_wp2_with fail
      refine (hfa.out).mono ?_
      rintro e w3 ⟨rfl, hb⟩
      have HB3 := Lib.hid ((HB2.out).trans (hb.mono (HB2.out).size))
      have NBi3 := Lib.hid ((hb.block Bi (Array.getElem?_eq_some_iff.1 NBi2.out).1).trans NBi2.out)
      clear HB2 NBi2 cBi0_2 cBi1_2 cBi2_2  hb hfa
      have cBi0_3 : w3.cell? ⟨Bi, 0, none⟩ = some (.slice A l.length cap) := by simp [World.cell?, NBi3.out]
      have cBi1_3 : w3.cell? ⟨Bi, 1, none⟩ = some (.int .i64 T) := by simp [World.cell?, NBi3.out]
      have cBi2_3 : w3.cell? ⟨Bi, 2, none⟩ = some (.int .i64 C) := by simp [World.cell?, NBi3.out]
      go_wp2_with fail
      refine (awake_any _).mono ?_
      rintro e w4 ⟨rfl, hb⟩
      have HB4 := Lib.hid ((HB3.out).trans (hb.mono (HB3.out).size))
      have NBi4 := Lib.hid ((hb.block Bi (Array.getElem?_eq_some_iff.1 NBi3.out).1).trans NBi3.out)
      clear HB3 NBi3 cBi0_3 cBi1_3 cBi2_3  hb 
      have cBi0_4 : w4.cell? ⟨Bi, 0, none⟩ = some (.slice A l.length cap) := by simp [World.cell?, NBi4.out]
      have cBi1_4 : w4.cell? ⟨Bi, 1, none⟩ = some (.int .i64 T) := by simp [World.cell?, NBi4.out]
      have cBi2_4 : w4.cell? ⟨Bi, 2, none⟩ = some (.int .i64 C) := by simp [World.cell?, NBi4.out]
      go_wp2_with fail
      go_ret
      exact ⟨rfl, HB4.out⟩
    · rw [hf0] at hfa
      have hok := faultL_zero.1 hf0
      obtain ⟨b, o, hAe⟩ := HA.out.some hok.pos
      subst hAe
      have HO := Lib.hid hok
      have hn12 := hok.len
      have hpos := hok.pos
      clear hok hf0
      go_wp2_with fail
      refine (hfa.out).mono ?_
      rintro e w3 ⟨rfl, hb⟩
      have HB3 := Lib.hid ((HB2.out).trans (hb.mono (HB2.out).size))
      have NBi3 := Lib.hid ((hb.block Bi (Array.getElem?_eq_some_iff.1 NBi2.out).1).trans NBi2.out)
      clear HB2 NBi2 cBi0_2 cBi1_2 cBi2_2  hb hfa
      have cBi0_3 : w3.cell? ⟨Bi, 0, none⟩ = some (.slice (some ⟨b, o, none⟩) l.length cap) := by simp [World.cell?, NBi3.out]
      have cBi1_3 : w3.cell? ⟨Bi, 1, none⟩ = some (.int .i64 T) := by simp [World.cell?, NBi3.out]
      have cBi2_3 : w3.cell? ⟨Bi, 2, none⟩ = some (.int .i64 C) := by simp [World.cell?, NBi3.out]
      have lBi := (Array.getElem?_eq_some_iff.1 NBi3.out).1
      have hX0 := (copy_block lBi (.cells #[.slice (some ⟨b, o, none⟩) l.length cap, .int .i64 T, .int .i64 C] 24) (.cells #[] 71)).trans NBi3.out
      have hX1 : ((w3.alloc (.cells #[.slice (some ⟨b, o, none⟩) l.length cap, .int .i64 T, .int .i64 C] 24)).alloc (.cells #[] 71)).cell? ⟨Bi, 0, none⟩ = some (.slice (some ⟨b, o, none⟩) l.length cap) := by simp only [World.cell?, hX0]; rfl
      have hMD := Lib.hid (copy_made w3 (.slice (some ⟨b, o, none⟩) l.length cap) T C)
      have hFL := Lib.hid (copy_flat (HA.out.keep HB3.out (Nat.le_refl _)) (.cells #[.slice (some ⟨b, o, none⟩) l.length cap, .int .i64 T, .int .i64 C] 24) (.cells #[] 71))
      clear hX0
      go_wp2_with (at_builtin; refine wpList_append_own _ rfl _ _ 22 rfl (w3.heap.size + 1) 71 i0 (.agg #[.int .i64 0, .int .i64 0, .int .i64 0, .int .i64 0]) 4 32 Try.underlying22 hi0 hz0 hz1 hz2 rfl (by decide) _ 0 [] rfl hMD.out ⟨b, o, none⟩ l.length cap (flatA l) rfl (flatA_length _) hFL.out (flatA_one _) ?c3 ?c4 ?c5 ?_)
      case c3 => unfold maxLen; omega
      case c4 => omega
      case c5 => simp
      intro v' w1x hown1 hgrow _
      obtain ⟨gx, cpx, rfl, hx1, hcop⟩ := copied (Bi := Bi) (w0 := w) rfl hpos HB3.out lBi hown1 hgrow
      have z0 : w1x.frozen? ⟨w3.heap.size, 0, none⟩ = false := by simp [World.frozen?, hx1]
      have z1 : w1x.cell? ⟨w3.heap.size, 0, none⟩ = some (.slice (some ⟨b, o, none⟩) l.length cap) := by simp only [World.cell?, hx1]; rfl
      have HCOP := Lib.hid hcop
      clear hown1 hgrow hcop hMD hFL hX1 hx1
      go_wp2_with fail
      generalize w1x.setCell ⟨w3.heap.size, 0, none⟩ (.slice (some ⟨gx, 0, none⟩) l.length cpx) = w4 at HCOP ⊢
      obtain ⟨Bx, hBx⟩ : ∃ B, w3.heap.size = B := ⟨_, rfl⟩
      have oBx : w.heap.size ≤ Bx := by have := HB3.out.size; omega
      have oBix : Bi < Bx := by omega
      rw [hBx] at HCOP ⊢
      have HB4 := Lib.hid HCOP.out.below
      have NBi4 := Lib.hid (HCOP.out.old.trans NBi3.out)
      have NBx4 := Lib.hid HCOP.out.new
      have FRx4 := Lib.hid HCOP.out.row
      have gBx := HCOP.out.far
      clear HCOP z0 z1 hBx
      clear HB3 NBi3 cBi0_3 cBi1_3 cBi2_3 
      have cBi0_4 : w4.cell? ⟨Bi, 0, none⟩ = some (.slice (some ⟨b, o, none⟩) l.length cap) := by simp [World.cell?, NBi4.out]
      have cBi1_4 : w4.cell? ⟨Bi, 1, none⟩ = some (.int .i64 T) := by simp [World.cell?, NBi4.out]
      have cBi2_4 : w4.cell? ⟨Bi, 2, none⟩ = some (.int .i64 C) := by simp [World.cell?, NBi4.out]
      have cBx0_4 : w4.cell? ⟨Bx, 0, none⟩ = some (.slice (some ⟨gx, 0, none⟩) l.length cpx) := by simp [World.cell?, NBx4.out]
      have cBx1_4 : w4.cell? ⟨Bx, 1, none⟩ = some (.int .i64 T) := by simp [World.cell?, NBx4.out]
      have cBx2_4 : w4.cell? ⟨Bx, 2, none⟩ = some (.int .i64 C) := by simp [World.cell?, NBx4.out]
      obtain ⟨i, hi, hwi⟩ := tmod_idx hw0 hpos
      have hl0 : (l.length : Int) ≠ 0 := by omega
      have i1 : (0 : Int) ≤ (i : Int) := by omega
      have i2 : (i : Int) < (l.length : Int) := by omega
      obtain ⟨q, hq⟩ : ∃ q, l[i].g = q := ⟨_, rfl⟩
      have x3 : w4.cell? ⟨gx, i * 4 + 3, none⟩ = some (.int .i64 q) := by rw [← hq]; exact (FRx4.out.cells hi).2.2.2
      have z3 := FRx4.out.frozen (i * 4 + 3)
      have hqr := HO.out.ang l[i] (List.getElem_mem hi)
      rw [hq] at hqr
      obtain ⟨q0, q1⟩ : 1 ≤ q ∧ q ≤ 3 := ⟨by omega, by omega⟩
      clear hqr
      go_quiet (fail)
      go_wp2_with fail
      · have hrow := (FRx4.out.of_block (W' := w4.drewN nq) rfl).put hi (f := 3) (by omega) (q + 1)
        have hLL : l.set i (putF l[i] 3 (q + 1)) = heavL l i hi := by unfold heavL; rw [hq, show min 3 (q + 1) = q + 1 by omega]
        rw [hLL] at hrow
        have hBs : Below w.heap.size w ((w4.drewN nq).setCell ⟨gx, i * 4 + 3, none⟩ (.int .i64 (q + 1))) := (HB4.out.drewN _).setCell (by simp; omega) _
        have hIs : ((w4.drewN nq).setCell ⟨gx, i * 4 + 3, none⟩ (.int .i64 (q + 1))).heap[Bi]? = _ := (Below.heap_setCell _ _ _ _ (by show Bi ≠ gx; omega)).trans NBi4.out
        have hXs : ((w4.drewN nq).setCell ⟨gx, i * 4 + 3, none⟩ (.int .i64 (q + 1))).heap[Bx]? = _ := (Below.heap_setCell _ _ _ _ (by show Bx ≠ gx; omega)).trans NBx4.out
        have hhv := Lib.hid (heavier (i := i) (h := hi) HO.out)
        generalize (w4.drewN nq).setCell ⟨gx, i * 4 + 3, none⟩ (.int .i64 (q + 1)) = w5 at hrow hBs hIs hXs ⊢
        have HB5 := Lib.hid hBs
        have NBi5 := Lib.hid hIs
        have NBx5 := Lib.hid hXs
        have FRx5 := Lib.hid hrow
        clear hBs hIs hXs hrow hLL x3 z3 FRx4 hq
        clear HB4 NBi4 NBx4 cBi0_4 cBi1_4 cBi2_4 cBx0_4 cBx1_4 cBx2_4 
        have cBi0_5 : w5.cell? ⟨Bi, 0, none⟩ = some (.slice (some ⟨b, o, none⟩) l.length cap) := by simp [World.cell?, NBi5.out]
        have cBi1_5 : w5.cell? ⟨Bi, 1, none⟩ = some (.int .i64 T) := by simp [World.cell?, NBi5.out]
        have cBi2_5 : w5.cell? ⟨Bi, 2, none⟩ = some (.int .i64 C) := by simp [World.cell?, NBi5.out]
        have cBx0_5 : w5.cell? ⟨Bx, 0, none⟩ = some (.slice (some ⟨gx, 0, none⟩) l.length cpx) := by simp [World.cell?, NBx5.out]
        have cBx1_5 : w5.cell? ⟨Bx, 1, none⟩ = some (.int .i64 T) := by simp [World.cell?, NBx5.out]
        have cBx2_5 : w5.cell? ⟨Bx, 2, none⟩ = some (.int .i64 C) := by simp [World.cell?, NBx5.out]
        refine (net_any _ cap T C l _ (HA.out.keep HB5.out (Nat.le_refl _)) (by omega)).mono ?_
        rintro e w6 ⟨A1, c1, rfl, ha1, hn1, hb⟩
        have HB6 := Lib.hid ((HB5.out).trans (hb.mono (HB5.out).size))
        have NBi6 := Lib.hid ((hb.block Bi (Array.getElem?_eq_some_iff.1 NBi5.out).1).trans NBi5.out)
        have NBx6 := Lib.hid ((hb.block Bx (Array.getElem?_eq_some_iff.1 NBx5.out).1).trans NBx5.out)
        have FRx6 := Lib.hid ((FRx5.out).keep hb (Nat.le_refl _))
        have FA6 := Lib.hid ha1
        clear HB5 NBi5 NBx5 cBi0_5 cBi1_5 cBi2_5 cBx0_5 cBx1_5 cBx2_5 FRx5 ha1 hb hn1
        have cBi0_6 : w6.cell? ⟨Bi, 0, none⟩ = some (.slice (some ⟨b, o, none⟩) l.length cap) := by simp [World.cell?, NBi6.out]
        have cBi1_6 : w6.cell? ⟨Bi, 1, none⟩ = some (.int .i64 T) := by simp [World.cell?, NBi6.out]
        have cBi2_6 : w6.cell? ⟨Bi, 2, none⟩ = some (.int .i64 C) := by simp [World.cell?, NBi6.out]
        have cBx0_6 : w6.cell? ⟨Bx, 0, none⟩ = some (.slice (some ⟨gx, 0, none⟩) l.length cpx) := by simp [World.cell?, NBx6.out]
        have cBx1_6 : w6.cell? ⟨Bx, 1, none⟩ = some (.int .i64 T) := by simp [World.cell?, NBx6.out]
        have cBx2_6 : w6.cell? ⟨Bx, 2, none⟩ = some (.int .i64 C) := by simp [World.cell?, NBx6.out]
        go_wp2_with fail
        refine (least_any A1 l.length c1 T C l _ (by omega) rfl FA6.out).mono ?_
        rintro e w7 ⟨rfl, hb⟩
        have HB7 := Lib.hid ((HB6.out).trans (hb.mono (HB6.out).size))
        have NBi7 := Lib.hid ((hb.block Bi (Array.getElem?_eq_some_iff.1 NBi6.out).1).trans NBi6.out)
        have NBx7 := Lib.hid ((hb.block Bx (Array.getElem?_eq_some_iff.1 NBx6.out).1).trans NBx6.out)
        have FRx7 := Lib.hid ((FRx6.out).keep hb (Nat.le_refl _))
        have FA7 := Lib.hid ((FA6.out).keep hb (Nat.le_refl _))
        clear HB6 NBi6 NBx6 cBi0_6 cBi1_6 cBi2_6 cBx0_6 cBx1_6 cBx2_6 FRx6 FA6 hb 
        have cBi0_7 : w7.cell? ⟨Bi, 0, none⟩ = some (.slice (some ⟨b, o, none⟩) l.length cap) := by simp [World.cell?, NBi7.out]
        have cBi1_7 : w7.cell? ⟨Bi, 1, none⟩ = some (.int .i64 T) := by simp [World.cell?, NBi7.out]
        have cBi2_7 : w7.cell? ⟨Bi, 2, none⟩ = some (.int .i64 C) := by simp [World.cell?, NBi7.out]
        have cBx0_7 : w7.cell? ⟨Bx, 0, none⟩ = some (.slice (some ⟨gx, 0, none⟩) l.length cpx) := by simp [World.cell?, NBx7.out]
        have cBx1_7 : w7.cell? ⟨Bx, 1, none⟩ = some (.int .i64 T) := by simp [World.cell?, NBx7.out]
        have cBx2_7 : w7.cell? ⟨Bx, 2, none⟩ = some (.int .i64 C) := by simp [World.cell?, NBx7.out]
        clear FA7
        have hhl := heavL_len (l := l) (i := i) (h := hi)
        obtain ⟨H, hH⟩ : ∃ H, heavL l i hi = H := ⟨_, rfl⟩
        rw [hH] at hhl hhv
        have hang : AngsAt w7 (some ⟨gx, 0, none⟩) H := by rw [← hH]; exact FRx7.out.angs
        have hnet := net_any (some ⟨gx, 0, none⟩) cpx T C H w7 hang (by omega)
        rw [hhl] at hnet
        have HNET := Lib.hid hnet
        have HHL := Lib.hid hhl
        clear hang hnet hhl hH
        go_wp2_with fail
        refine (HNET.out).mono ?_
        rintro e w8 ⟨A2, c2, rfl, ha2, hn2, hb⟩
        have HB8 := Lib.hid ((HB7.out).trans (hb.mono (HB7.out).size))
        have NBi8 := Lib.hid ((hb.block Bi (Array.getElem?_eq_some_iff.1 NBi7.out).1).trans NBi7.out)
        have NBx8 := Lib.hid ((hb.block Bx (Array.getElem?_eq_some_iff.1 NBx7.out).1).trans NBx7.out)
        have FRx8 := Lib.hid ((FRx7.out).keep hb (Nat.le_refl _))
        have FA8 := Lib.hid ha2
        clear HB7 NBi7 NBx7 cBi0_7 cBi1_7 cBi2_7 cBx0_7 cBx1_7 cBx2_7 FRx7 ha2 hb hn2 HNET
        have cBi0_8 : w8.cell? ⟨Bi, 0, none⟩ = some (.slice (some ⟨b, o, none⟩) l.length cap) := by simp [World.cell?, NBi8.out]
        have cBi1_8 : w8.cell? ⟨Bi, 1, none⟩ = some (.int .i64 T) := by simp [World.cell?, NBi8.out]
        have cBi2_8 : w8.cell? ⟨Bi, 2, none⟩ = some (.int .i64 C) := by simp [World.cell?, NBi8.out]
        have cBx0_8 : w8.cell? ⟨Bx, 0, none⟩ = some (.slice (some ⟨gx, 0, none⟩) l.length cpx) := by simp [World.cell?, NBx8.out]
        have cBx1_8 : w8.cell? ⟨Bx, 1, none⟩ = some (.int .i64 T) := by simp [World.cell?, NBx8.out]
        have cBx2_8 : w8.cell? ⟨Bx, 2, none⟩ = some (.int .i64 C) := by simp [World.cell?, NBx8.out]
        go_wp2_with fail
        refine (least_any A2 H.length c2 T C H _ (by have := HHL.out; omega) rfl FA8.out).mono ?_
        rintro e w9 ⟨rfl, hb⟩
        have HB9 := Lib.hid ((HB8.out).trans (hb.mono (HB8.out).size))
        have NBi9 := Lib.hid ((hb.block Bi (Array.getElem?_eq_some_iff.1 NBi8.out).1).trans NBi8.out)
        have NBx9 := Lib.hid ((hb.block Bx (Array.getElem?_eq_some_iff.1 NBx8.out).1).trans NBx8.out)
        have FRx9 := Lib.hid ((FRx8.out).keep hb (Nat.le_refl _))
        have FA9 := Lib.hid ((FA8.out).keep hb (Nat.le_refl _))
        clear HB8 NBi8 NBx8 cBi0_8 cBi1_8 cBi2_8 cBx0_8 cBx1_8 cBx2_8 FRx8 FA8 hb 
        have cBi0_9 : w9.cell? ⟨Bi, 0, none⟩ = some (.slice (some ⟨b, o, none⟩) l.length cap) := by simp [World.cell?, NBi9.out]
        have cBi1_9 : w9.cell? ⟨Bi, 1, none⟩ = some (.int .i64 T) := by simp [World.cell?, NBi9.out]
        have cBi2_9 : w9.cell? ⟨Bi, 2, none⟩ = some (.int .i64 C) := by simp [World.cell?, NBi9.out]
        have cBx0_9 : w9.cell? ⟨Bx, 0, none⟩ = some (.slice (some ⟨gx, 0, none⟩) l.length cpx) := by simp [World.cell?, NBx9.out]
        have cBx1_9 : w9.cell? ⟨Bx, 1, none⟩ = some (.int .i64 T) := by simp [World.cell?, NBx9.out]
        have cBx2_9 : w9.cell? ⟨Bx, 2, none⟩ = some (.int .i64 C) := by simp [World.cell?, NBx9.out]
        clear FA9
        obtain ⟨hE, hN⟩ := hhv.out
        rw [hE]
        generalize leastE l T C = E at hE hN ⊢
        generalize leastN l T C = N at hN ⊢
        generalize leastN H T C = M at hN ⊢
        clear hE hhv
        dsimp only
        rcases hN with rfl | ⟨rfl, hN⟩
        · go_wp2_with fail
          refine (awake_any _).mono ?_
          rintro e w10 ⟨rfl, hb⟩
          have HB10 := Lib.hid ((HB9.out).trans (hb.mono (HB9.out).size))
          have NBi10 := Lib.hid ((hb.block Bi (Array.getElem?_eq_some_iff.1 NBi9.out).1).trans NBi9.out)
          have NBx10 := Lib.hid ((hb.block Bx (Array.getElem?_eq_some_iff.1 NBx9.out).1).trans NBx9.out)
          have FRx10 := Lib.hid ((FRx9.out).keep hb (Nat.le_refl _))
          clear HB9 NBi9 NBx9 cBi0_9 cBi1_9 cBi2_9 cBx0_9 cBx1_9 cBx2_9 FRx9 hb 
          have cBi0_10 : w10.cell? ⟨Bi, 0, none⟩ = some (.slice (some ⟨b, o, none⟩) l.length cap) := by simp [World.cell?, NBi10.out]
          have cBi1_10 : w10.cell? ⟨Bi, 1, none⟩ = some (.int .i64 T) := by simp [World.cell?, NBi10.out]
          have cBi2_10 : w10.cell? ⟨Bi, 2, none⟩ = some (.int .i64 C) := by simp [World.cell?, NBi10.out]
          have cBx0_10 : w10.cell? ⟨Bx, 0, none⟩ = some (.slice (some ⟨gx, 0, none⟩) l.length cpx) := by simp [World.cell?, NBx10.out]
          have cBx1_10 : w10.cell? ⟨Bx, 1, none⟩ = some (.int .i64 T) := by simp [World.cell?, NBx10.out]
          have cBx2_10 : w10.cell? ⟨Bx, 2, none⟩ = some (.int .i64 C) := by simp [World.cell?, NBx10.out]
          go_wp2_with fail
          go_ret
          exact ⟨rfl, HB10.out⟩
        · have hd : decide (M ≤ N) = true := by simpa using hN
          go_wp2_with fail
          refine (awake_any _).mono ?_
          rintro e w10 ⟨rfl, hb⟩
          have HB10 := Lib.hid ((HB9.out).trans (hb.mono (HB9.out).size))
          have NBi10 := Lib.hid ((hb.block Bi (Array.getElem?_eq_some_iff.1 NBi9.out).1).trans NBi9.out)
          have NBx10 := Lib.hid ((hb.block Bx (Array.getElem?_eq_some_iff.1 NBx9.out).1).trans NBx9.out)
          have FRx10 := Lib.hid ((FRx9.out).keep hb (Nat.le_refl _))
          clear HB9 NBi9 NBx9 cBi0_9 cBi1_9 cBi2_9 cBx0_9 cBx1_9 cBx2_9 FRx9 hb 
          have cBi0_10 : w10.cell? ⟨Bi, 0, none⟩ = some (.slice (some ⟨b, o, none⟩) l.length cap) := by simp [World.cell?, NBi10.out]
          have cBi1_10 : w10.cell? ⟨Bi, 1, none⟩ = some (.int .i64 T) := by simp [World.cell?, NBi10.out]
          have cBi2_10 : w10.cell? ⟨Bi, 2, none⟩ = some (.int .i64 C) := by simp [World.cell?, NBi10.out]
          have cBx0_10 : w10.cell? ⟨Bx, 0, none⟩ = some (.slice (some ⟨gx, 0, none⟩) l.length cpx) := by simp [World.cell?, NBx10.out]
          have cBx1_10 : w10.cell? ⟨Bx, 1, none⟩ = some (.int .i64 T) := by simp [World.cell?, NBx10.out]
          have cBx2_10 : w10.cell? ⟨Bx, 2, none⟩ = some (.int .i64 C) := by simp [World.cell?, NBx10.out]
          go_wp2_with fail
          go_ret
          exact ⟨rfl, HB10.out⟩
      · have hrow := (FRx4.out.of_block (W' := w4.drewN nq) rfl).put hi (f := 3) (by omega) (3)
        have hLL : l.set i (putF l[i] 3 (3)) = heavL l i hi := by unfold heavL; rw [hq, show min 3 (q + 1) = 3 by omega]
        rw [hLL] at hrow
        have hBs : Below w.heap.size w ((w4.drewN nq).setCell ⟨gx, i * 4 + 3, none⟩ (.int .i64 (3))) := (HB4.out.drewN _).setCell (by simp; omega) _
        have hIs : ((w4.drewN nq).setCell ⟨gx, i * 4 + 3, none⟩ (.int .i64 (3))).heap[Bi]? = _ := (Below.heap_setCell _ _ _ _ (by show Bi ≠ gx; omega)).trans NBi4.out
        have hXs : ((w4.drewN nq).setCell ⟨gx, i * 4 + 3, none⟩ (.int .i64 (3))).heap[Bx]? = _ := (Below.heap_setCell _ _ _ _ (by show Bx ≠ gx; omega)).trans NBx4.out
        have hhv := Lib.hid (heavier (i := i) (h := hi) HO.out)
        generalize (w4.drewN nq).setCell ⟨gx, i * 4 + 3, none⟩ (.int .i64 (3)) = w5 at hrow hBs hIs hXs ⊢
        have HB5 := Lib.hid hBs
        have NBi5 := Lib.hid hIs
        have NBx5 := Lib.hid hXs
        have FRx5 := Lib.hid hrow
        clear hBs hIs hXs hrow hLL x3 z3 FRx4 hq
        clear HB4 NBi4 NBx4 cBi0_4 cBi1_4 cBi2_4 cBx0_4 cBx1_4 cBx2_4 
        have cBi0_5 : w5.cell? ⟨Bi, 0, none⟩ = some (.slice (some ⟨b, o, none⟩) l.length cap) := by simp [World.cell?, NBi5.out]
        have cBi1_5 : w5.cell? ⟨Bi, 1, none⟩ = some (.int .i64 T) := by simp [World.cell?, NBi5.out]
        have cBi2_5 : w5.cell? ⟨Bi, 2, none⟩ = some (.int .i64 C) := by simp [World.cell?, NBi5.out]
        have cBx0_5 : w5.cell? ⟨Bx, 0, none⟩ = some (.slice (some ⟨gx, 0, none⟩) l.length cpx) := by simp [World.cell?, NBx5.out]
        have cBx1_5 : w5.cell? ⟨Bx, 1, none⟩ = some (.int .i64 T) := by simp [World.cell?, NBx5.out]
        have cBx2_5 : w5.cell? ⟨Bx, 2, none⟩ = some (.int .i64 C) := by simp [World.cell?, NBx5.out]
        refine (net_any _ cap T C l _ (HA.out.keep HB5.out (Nat.le_refl _)) (by omega)).mono ?_
        rintro e w6 ⟨A1, c1, rfl, ha1, hn1, hb⟩
        have HB6 := Lib.hid ((HB5.out).trans (hb.mono (HB5.out).size))
        have NBi6 := Lib.hid ((hb.block Bi (Array.getElem?_eq_some_iff.1 NBi5.out).1).trans NBi5.out)
        have NBx6 := Lib.hid ((hb.block Bx (Array.getElem?_eq_some_iff.1 NBx5.out).1).trans NBx5.out)
        have FRx6 := Lib.hid ((FRx5.out).keep hb (Nat.le_refl _))
        have FA6 := Lib.hid ha1
        clear HB5 NBi5 NBx5 cBi0_5 cBi1_5 cBi2_5 cBx0_5 cBx1_5 cBx2_5 FRx5 ha1 hb hn1
        have cBi0_6 : w6.cell? ⟨Bi, 0, none⟩ = some (.slice (some ⟨b, o, none⟩) l.length cap) := by simp [World.cell?, NBi6.out]
        have cBi1_6 : w6.cell? ⟨Bi, 1, none⟩ = some (.int .i64 T) := by simp [World.cell?, NBi6.out]
        have cBi2_6 : w6.cell? ⟨Bi, 2, none⟩ = some (.int .i64 C) := by simp [World.cell?, NBi6.out]
        have cBx0_6 : w6.cell? ⟨Bx, 0, none⟩ = some (.slice (some ⟨gx, 0, none⟩) l.length cpx) := by simp [World.cell?, NBx6.out]
        have cBx1_6 : w6.cell? ⟨Bx, 1, none⟩ = some (.int .i64 T) := by simp [World.cell?, NBx6.out]
        have cBx2_6 : w6.cell? ⟨Bx, 2, none⟩ = some (.int .i64 C) := by simp [World.cell?, NBx6.out]
        go_wp2_with fail
        refine (least_any A1 l.length c1 T C l _ (by omega) rfl FA6.out).mono ?_
        rintro e w7 ⟨rfl, hb⟩
        have HB7 := Lib.hid ((HB6.out).trans (hb.mono (HB6.out).size))
        have NBi7 := Lib.hid ((hb.block Bi (Array.getElem?_eq_some_iff.1 NBi6.out).1).trans NBi6.out)
        have NBx7 := Lib.hid ((hb.block Bx (Array.getElem?_eq_some_iff.1 NBx6.out).1).trans NBx6.out)
        have FRx7 := Lib.hid ((FRx6.out).keep hb (Nat.le_refl _))
        have FA7 := Lib.hid ((FA6.out).keep hb (Nat.le_refl _))
        clear HB6 NBi6 NBx6 cBi0_6 cBi1_6 cBi2_6 cBx0_6 cBx1_6 cBx2_6 FRx6 FA6 hb 
        have cBi0_7 : w7.cell? ⟨Bi, 0, none⟩ = some (.slice (some ⟨b, o, none⟩) l.length cap) := by simp [World.cell?, NBi7.out]
        have cBi1_7 : w7.cell? ⟨Bi, 1, none⟩ = some (.int .i64 T) := by simp [World.cell?, NBi7.out]
        have cBi2_7 : w7.cell? ⟨Bi, 2, none⟩ = some (.int .i64 C) := by simp [World.cell?, NBi7.out]
        have cBx0_7 : w7.cell? ⟨Bx, 0, none⟩ = some (.slice (some ⟨gx, 0, none⟩) l.length cpx) := by simp [World.cell?, NBx7.out]
        have cBx1_7 : w7.cell? ⟨Bx, 1, none⟩ = some (.int .i64 T) := by simp [World.cell?, NBx7.out]
        have cBx2_7 : w7.cell? ⟨Bx, 2, none⟩ = some (.int .i64 C) := by simp [World.cell?, NBx7.out]
        clear FA7
        have hhl := heavL_len (l := l) (i := i) (h := hi)
        obtain ⟨H, hH⟩ : ∃ H, heavL l i hi = H := ⟨_, rfl⟩
        rw [hH] at hhl hhv
        have hang : AngsAt w7 (some ⟨gx, 0, none⟩) H := by rw [← hH]; exact FRx7.out.angs
        have hnet := net_any (some ⟨gx, 0, none⟩) cpx T C H w7 hang (by omega)
        rw [hhl] at hnet
        have HNET := Lib.hid hnet
        have HHL := Lib.hid hhl
        clear hang hnet hhl hH
        go_wp2_with fail
        refine (HNET.out).mono ?_
        rintro e w8 ⟨A2, c2, rfl, ha2, hn2, hb⟩
        have HB8 := Lib.hid ((HB7.out).trans (hb.mono (HB7.out).size))
        have NBi8 := Lib.hid ((hb.block Bi (Array.getElem?_eq_some_iff.1 NBi7.out).1).trans NBi7.out)
        have NBx8 := Lib.hid ((hb.block Bx (Array.getElem?_eq_some_iff.1 NBx7.out).1).trans NBx7.out)
        have FRx8 := Lib.hid ((FRx7.out).keep hb (Nat.le_refl _))
        have FA8 := Lib.hid ha2
        clear HB7 NBi7 NBx7 cBi0_7 cBi1_7 cBi2_7 cBx0_7 cBx1_7 cBx2_7 FRx7 ha2 hb hn2 HNET
        have cBi0_8 : w8.cell? ⟨Bi, 0, none⟩ = some (.slice (some ⟨b, o, none⟩) l.length cap) := by simp [World.cell?, NBi8.out]
        have cBi1_8 : w8.cell? ⟨Bi, 1, none⟩ = some (.int .i64 T) := by simp [World.cell?, NBi8.out]
        have cBi2_8 : w8.cell? ⟨Bi, 2, none⟩ = some (.int .i64 C) := by simp [World.cell?, NBi8.out]
        have cBx0_8 : w8.cell? ⟨Bx, 0, none⟩ = some (.slice (some ⟨gx, 0, none⟩) l.length cpx) := by simp [World.cell?, NBx8.out]
        have cBx1_8 : w8.cell? ⟨Bx, 1, none⟩ = some (.int .i64 T) := by simp [World.cell?, NBx8.out]
        have cBx2_8 : w8.cell? ⟨Bx, 2, none⟩ = some (.int .i64 C) := by simp [World.cell?, NBx8.out]
        go_wp2_with fail
        refine (least_any A2 H.length c2 T C H _ (by have := HHL.out; omega) rfl FA8.out).mono ?_
        rintro e w9 ⟨rfl, hb⟩
        have HB9 := Lib.hid ((HB8.out).trans (hb.mono (HB8.out).size))
        have NBi9 := Lib.hid ((hb.block Bi (Array.getElem?_eq_some_iff.1 NBi8.out).1).trans NBi8.out)
        have NBx9 := Lib.hid ((hb.block Bx (Array.getElem?_eq_some_iff.1 NBx8.out).1).trans NBx8.out)
        have FRx9 := Lib.hid ((FRx8.out).keep hb (Nat.le_refl _))
        have FA9 := Lib.hid ((FA8.out).keep hb (Nat.le_refl _))
        clear HB8 NBi8 NBx8 cBi0_8 cBi1_8 cBi2_8 cBx0_8 cBx1_8 cBx2_8 FRx8 FA8 hb 
        have cBi0_9 : w9.cell? ⟨Bi, 0, none⟩ = some (.slice (some ⟨b, o, none⟩) l.length cap) := by simp [World.cell?, NBi9.out]
        have cBi1_9 : w9.cell? ⟨Bi, 1, none⟩ = some (.int .i64 T) := by simp [World.cell?, NBi9.out]
        have cBi2_9 : w9.cell? ⟨Bi, 2, none⟩ = some (.int .i64 C) := by simp [World.cell?, NBi9.out]
        have cBx0_9 : w9.cell? ⟨Bx, 0, none⟩ = some (.slice (some ⟨gx, 0, none⟩) l.length cpx) := by simp [World.cell?, NBx9.out]
        have cBx1_9 : w9.cell? ⟨Bx, 1, none⟩ = some (.int .i64 T) := by simp [World.cell?, NBx9.out]
        have cBx2_9 : w9.cell? ⟨Bx, 2, none⟩ = some (.int .i64 C) := by simp [World.cell?, NBx9.out]
        clear FA9
        obtain ⟨hE, hN⟩ := hhv.out
        rw [hE]
        generalize leastE l T C = E at hE hN ⊢
        generalize leastN l T C = N at hN ⊢
        generalize leastN H T C = M at hN ⊢
        clear hE hhv
        dsimp only
        rcases hN with rfl | ⟨rfl, hN⟩
        · go_wp2_with fail
          refine (awake_any _).mono ?_
          rintro e w10 ⟨rfl, hb⟩
          have HB10 := Lib.hid ((HB9.out).trans (hb.mono (HB9.out).size))
          have NBi10 := Lib.hid ((hb.block Bi (Array.getElem?_eq_some_iff.1 NBi9.out).1).trans NBi9.out)
          have NBx10 := Lib.hid ((hb.block Bx (Array.getElem?_eq_some_iff.1 NBx9.out).1).trans NBx9.out)
          have FRx10 := Lib.hid ((FRx9.out).keep hb (Nat.le_refl _))
          clear HB9 NBi9 NBx9 cBi0_9 cBi1_9 cBi2_9 cBx0_9 cBx1_9 cBx2_9 FRx9 hb 
          have cBi0_10 : w10.cell? ⟨Bi, 0, none⟩ = some (.slice (some ⟨b, o, none⟩) l.length cap) := by simp [World.cell?, NBi10.out]
          have cBi1_10 : w10.cell? ⟨Bi, 1, none⟩ = some (.int .i64 T) := by simp [World.cell?, NBi10.out]
          have cBi2_10 : w10.cell? ⟨Bi, 2, none⟩ = some (.int .i64 C) := by simp [World.cell?, NBi10.out]
          have cBx0_10 : w10.cell? ⟨Bx, 0, none⟩ = some (.slice (some ⟨gx, 0, none⟩) l.length cpx) := by simp [World.cell?, NBx10.out]
          have cBx1_10 : w10.cell? ⟨Bx, 1, none⟩ = some (.int .i64 T) := by simp [World.cell?, NBx10.out]
          have cBx2_10 : w10.cell? ⟨Bx, 2, none⟩ = some (.int .i64 C) := by simp [World.cell?, NBx10.out]
          go_wp2_with fail
          go_ret
          exact ⟨rfl, HB10.out⟩
        · have hd : decide (M ≤ N) = true := by simpa using hN
          go_wp2_with fail
          refine (awake_any _).mono ?_
          rintro e w10 ⟨rfl, hb⟩
          have HB10 := Lib.hid ((HB9.out).trans (hb.mono (HB9.out).size))
          have NBi10 := Lib.hid ((hb.block Bi (Array.getElem?_eq_some_iff.1 NBi9.out).1).trans NBi9.out)
          have NBx10 := Lib.hid ((hb.block Bx (Array.getElem?_eq_some_iff.1 NBx9.out).1).trans NBx9.out)
          have FRx10 := Lib.hid ((FRx9.out).keep hb (Nat.le_refl _))
          clear HB9 NBi9 NBx9 cBi0_9 cBi1_9 cBi2_9 cBx0_9 cBx1_9 cBx2_9 FRx9 hb 
          have cBi0_10 : w10.cell? ⟨Bi, 0, none⟩ = some (.slice (some ⟨b, o, none⟩) l.length cap) := by simp [World.cell?, NBi10.out]
          have cBi1_10 : w10.cell? ⟨Bi, 1, none⟩ = some (.int .i64 T) := by simp [World.cell?, NBi10.out]
          have cBi2_10 : w10.cell? ⟨Bi, 2, none⟩ = some (.int .i64 C) := by simp [World.cell?, NBi10.out]
          have cBx0_10 : w10.cell? ⟨Bx, 0, none⟩ = some (.slice (some ⟨gx, 0, none⟩) l.length cpx) := by simp [World.cell?, NBx10.out]
          have cBx1_10 : w10.cell? ⟨Bx, 1, none⟩ = some (.int .i64 T) := by simp [World.cell?, NBx10.out]
          have cBx2_10 : w10.cell? ⟨Bx, 2, none⟩ = some (.int .i64 C) := by simp [World.cell?, NBx10.out]
          go_wp2_with fail
          go_ret
          exact ⟨rfl, HB10.out⟩
end Go.Proofs.Ytkloaeaepjoijaa

/-
  AngleMore: the walk.
-/
import Derived.Test.YtkloaeaepjoijaaLawB
set_option linter.all false
namespace Go.Proofs.Ytkloaeaepjoijaa
open Go.RowKit Go.WalkArith

theorem RangesAt.at_ {W : World} {A : Option Addr} {n cap : Nat} {lo hi : Int → Int} (h : RangesAt W (.slice A n cap) n lo hi) {k : Nat} (hk : k < n) : ∃ b o, A = some ⟨b, o, none⟩ ∧ W.cell? ⟨b, o + k * 2, none⟩ = some (.int .i64 (lo k)) ∧ W.cell? ⟨b, o + k * 2 + 1, none⟩ = some (.int .i64 (hi k)) := by
  obtain ⟨A', c, he, h⟩ := h
  obtain ⟨rfl, rfl⟩ : A = A' ∧ cap = c := by simpa using he
  obtain ⟨b, o, rfl, hc⟩ := h.resolve_left (by omega)
  exact ⟨b, o, rfl, (hc k hk).1, (hc k hk).2⟩

/-- Wider bounds, range by range. -/
def Wider (n : Nat) (al ah bl bh : Int → Int) : Prop := ∀ i : Nat, i < n → bl i ≤ al i ∧ ah i ≤ bh i

theorem bounds_more {l : List Ang} {T C e f : Int} (hok : NetOk l T C) (h : e ≤ f) {al ah bl bh : Int → Int} (h1 : BoundsE l T C e l.length al ah) (h2 : BoundsE l T C f l.length bl bh) : Wider l.length al ah bl bh := by
  intro i hi
  have hr := room_more hok h [] hi
  have hp : ∀ x, pointB l T C (roomLo l e []) (roomHi l e []) i x = true → pointB l T C (roomLo l f []) (roomHi l f []) i x = true := fun x hx =>
    canB_point_more hok (fun j hj => (room_more hok h [] hj).1) (fun j hj => (room_more hok h [] hj).2) hx
  have a1 := h1.lo i hi
  have a2 := h1.hi i hi
  have b1 := h2.lo i hi
  have b2 := h2.hi i hi
  refine ⟨Int.not_lt.1 fun hlt => ?_, Int.not_lt.1 fun hlt => ?_⟩
  · have := b1.no (al i) (by have := a1.ge; omega) hlt
    rw [hp _ a1.yes] at this; cases this
  · have := b2.no (ah i) hlt (by have := a2.le; omega)
    rw [hp _ a2.yes] at this; cases this
theorem ctl_more {l : List Ang} {T C e f : Int} (hok : NetOk l T C) (h : e ≤ f) {i : Nat} (hi : ctlB l T C f i = true) : ctlB l T C e i = true := by
  have hp : ∀ x, pointB l T C (roomLo l e [(i : Int)]) (roomHi l e [(i : Int)]) i x = true → pointB l T C (roomLo l f [(i : Int)]) (roomHi l f [(i : Int)]) i x = true := fun x hx =>
    canB_point_more hok (fun j hj => (room_more hok h _ hj).1) (fun j hj => (room_more hok h _ hj).2) hx
  unfold ctlB at hi ⊢
  cases a : pointB l T C (roomLo l e [(i : Int)]) (roomHi l e [(i : Int)]) i 0 with
  | false => rfl
  | true =>
    cases b : pointB l T C (roomLo l e [(i : Int)]) (roomHi l e [(i : Int)]) i 40 with
    | false => rfl
    | true => rw [hp _ a, hp _ b] at hi; cases hi
theorem ctl_inside {l : List Ang} {T C e f : Int} (hok : NetOk l T C) (h : e ≤ f) : insideB (ctlL l T C f l.length) (ctlL l T C e l.length) = true := by
  unfold insideB
  rw [List.all_eq_true]
  intro x hx
  simp only [ctlL, List.mem_map, List.mem_filter, List.mem_range] at hx
  obtain ⟨i, ⟨h1, h2⟩, rfl⟩ := hx
  simp only [ctlL, List.contains_iff_mem, List.mem_map, List.mem_filter, List.mem_range]
  exact ⟨i, ⟨h1, ctl_more hok h h2⟩, rfl⟩

def MRel (n : Nat) (w2 : World) (i : Value) (wr : World) : Prop := ∃ k : Nat, k ≤ n ∧ i = .int .i64 k ∧ Below w2.heap.size w2 wr

set_option maxRecDepth 100000 in
set_option maxHeartbeats 8000000 in
theorem more_walk (A : Option Addr) (n cap : Nat) (T C : Int) (l : List Ang) (er by_ : Int) (w : World)
    (hl : l.length = n) (hA : AngsAt w A l) (_ : NilOk A cap) (he0 : 0 ≤ er) (he1 : er ≤ 255) (hb0 : 0 ≤ by_) (hb1 : by_ ≤ 255) :
    Calls Try.prog 11 #[.agg #[.slice A n cap, .int .i64 T, .int .i64 C], .int .u8 er, .int .u8 by_] w fun e w' => e = .returned (.bool true) ∧ Below w.heap.size w w' := by
  subst hl
  have HA := Lib.hid hA
  clear hA
  have hB0 : Below w.heap.size w (w.alloc (.cells #[.slice A l.length cap, .int .i64 T, .int .i64 C] 24)) := (Below.refl _ _).alloc (Nat.le_refl _) _
  have hn0 : (w.alloc (.cells #[.slice A l.length cap, .int .i64 T, .int .i64 C] 24)).heap[w.heap.size]? = some (.cells #[.slice A l.length cap, .int .i64 T, .int .i64 C] 24 (0, 0)) := heap_new_at _ _ _ rfl
  have HB1 := Lib.hid hB0
  have NBi1 := Lib.hid hn0
  clear hB0 hn0
  go_enter Try.func11, Try.ntmps11
  go_wp2_with fail
  generalize (w.alloc (.cells #[.slice A l.length cap, .int .i64 T, .int .i64 C] 24)) = w1 at HB1 NBi1 ⊢
  obtain ⟨Bi, hBi⟩ : ∃ Bi, w.heap.size = Bi := ⟨_, rfl⟩
  have oBi : w.heap.size ≤ Bi := by omega
  rw [hBi] at NBi1 ⊢
  clear hBi
  have cBi0_1 : w1.cell? ⟨Bi, 0, none⟩ = some (.slice A l.length cap) := by simp [World.cell?, NBi1.out]
  have cBi1_1 : w1.cell? ⟨Bi, 1, none⟩ = some (.int .i64 T) := by simp [World.cell?, NBi1.out]
  have cBi2_1 : w1.cell? ⟨Bi, 2, none⟩ = some (.int .i64 C) := by simp [World.cell?, NBi1.out]
  have hth := Lib.hid (thin_any A l.length cap T C w1)
  by_cases h15 : l.length ≤ 15
  rotate_left
  · have hx15 : 15 < l.length := by omega
    rw [show decide (l.length ≤ 15) = false from (by simp; omega)] at hth
    go_wp2_with fail
    refine (hth.out).mono ?_
    rintro e w2 ⟨rfl, hb⟩
    have HB2 := Lib.hid ((HB1.out).trans (hb.mono (HB1.out).size))
    have NBi2 := Lib.hid ((hb.block Bi (Array.getElem?_eq_some_iff.1 NBi1.out).1).trans NBi1.out)
    clear HB1 NBi1 cBi0_1 cBi1_1 cBi2_1  hb hth
    have cBi0_2 : w2.cell? ⟨Bi, 0, none⟩ = some (.slice A l.length cap) := by simp [World.cell?, NBi2.out]
    have cBi1_2 : w2.cell? ⟨Bi, 1, none⟩ = some (.int .i64 T) := by simp [World.cell?, NBi2.out]
    have cBi2_2 : w2.cell? ⟨Bi, 2, none⟩ = some (.int .i64 C) := by simp [World.cell?, NBi2.out]
    go_wp2_with fail
    refine (awake_any _).mono ?_
    rintro e w3 ⟨rfl, hb⟩
    have HB3 := Lib.hid ((HB2.out).trans (hb.mono (HB2.out).size))
    have NBi3 := Lib.hid ((hb.block Bi (Array.getElem?_eq_some_iff.1 NBi2.out).1).trans NBi2.out)
    clear HB2 NBi2 cBi0_2 cBi1_2 cBi2_2  hb 
    have cBi0_3 : w3.cell? ⟨Bi, 0, none⟩ = some (.slice A l.length cap) := by simp [World.cell?, NBi3.out]
    have cBi1_3 : w3.cell? ⟨Bi, 1, none⟩ = some (.int .i64 T) := by simp [World.cell?, NBi3.out]
    have cBi2_3 : w3.cell? ⟨Bi, 2, none⟩ = some (.int .i64 C) := by simp [World.cell?, NBi3.out]
    go_wp2_with fail
    go_ret
    exact ⟨rfl, HB3.out⟩
  · rw [show decide (l.length ≤ 15) = true from (by simp; omega)] at hth
    go_wp2_with fail
    refine (hth.out).mono ?_
    rintro e w2 ⟨rfl, hb⟩
    have HB2 := Lib.hid ((HB1.out).trans (hb.mono (HB1.out).size))
    have NBi2 := Lib.hid ((hb.block Bi (Array.getElem?_eq_some_iff.1 NBi1.out).1).trans NBi1.out)
    clear HB1 NBi1 cBi0_1 cBi1_1 cBi2_1  hb hth
    have cBi0_2 : w2.cell? ⟨Bi, 0, none⟩ = some (.slice A l.length cap) := by simp [World.cell?, NBi2.out]
    have cBi1_2 : w2.cell? ⟨Bi, 1, none⟩ = some (.int .i64 T) := by simp [World.cell?, NBi2.out]
    have cBi2_2 : w2.cell? ⟨Bi, 2, none⟩ = some (.int .i64 C) := by simp [World.cell?, NBi2.out]
    have hfa := Lib.hid (lawFault_any A l.length cap T C l w2 (by omega) rfl (HA.out.keep HB2.out (Nat.le_refl _)))
    by_cases hf0 : faultL l T C = 0
    rotate_left
    · obtain ⟨F, hF⟩ : ∃ F, faultL l T C = F := ⟨_, rfl⟩
      rw [hF] at hfa hf0
      have hne : (F != 0) = true := by simpa using hf0
      clear hF hf0
      go_wp2_with fail
      refine (hfa.out).mono ?_
      rintro e w3 ⟨rfl, hb⟩
      have HB3 := Lib.hid ((HB2.out).trans (hb.mono (HB2.out).size))
      have NBi3 := Lib.hid ((hb.block Bi (Array.getElem?_eq_some_iff.1 NBi2.out).1).trans NBi2.out)
      clear HB2 NBi2 cBi0_2 cBi1_2 cBi2_2  hb hfa
      have cBi0_3 : w3.cell? ⟨Bi, 0, none⟩ = some (.slice A l.length cap) := by simp [World.cell?, NBi3.out]
      have cBi1_3 : w3.cell? ⟨Bi, 1, none⟩ = some (.int .i64 T) := by simp [World.cell?, NBi3.out]
      have cBi2_3 : w3.cell? ⟨Bi, 2, none⟩ = some (.int .i64 C) := by simp [World.cell?, NBi3.out]
      go_wp2_with fail
      refine (awake_any _).mono ?_
      rintro e w4 ⟨rfl, hb⟩
      have HB4 := Lib.hid ((HB3.out).trans (hb.mono (HB3.out).size))
      have NBi4 := Lib.hid ((hb.block Bi (Array.getElem?_eq_some_iff.1 NBi3.out).1).trans NBi3.out)
      clear HB3 NBi3 cBi0_3 cBi1_3 cBi2_3  hb 
      have cBi0_4 : w4.cell? ⟨Bi, 0, none⟩ = some (.slice A l.length cap) := by simp [World.cell?, NBi4.out]
      have cBi1_4 : w4.cell? ⟨Bi, 1, none⟩ = some (.int .i64 T) := by simp [World.cell?, NBi4.out]
      have cBi2_4 : w4.cell? ⟨Bi, 2, none⟩ = some (.int .i64 C) := by simp [World.cell?, NBi4.out]
      go_wp2_with fail
      go_ret
      exact ⟨rfl, HB4.out⟩
    · rw [hf0] at hfa
      have hok := faultL_zero.1 hf0
      obtain ⟨b, o, hAe⟩ := HA.out.some hok.pos
      subst hAe
      have HO := Lib.hid hok
      have hn12 := hok.len
      have hpos := hok.pos
      clear hok hf0
      go_wp2_with fail
      refine (hfa.out).mono ?_
      rintro e w3 ⟨rfl, hb⟩
      have HB3 := Lib.hid ((HB2.out).trans (hb.mono (HB2.out).size))
      have NBi3 := Lib.hid ((hb.block Bi (Array.getElem?_eq_some_iff.1 NBi2.out).1).trans NBi2.out)
      clear HB2 NBi2 cBi0_2 cBi1_2 cBi2_2  hb hfa
      have cBi0_3 : w3.cell? ⟨Bi, 0, none⟩ = some (.slice (some ⟨b, o, none⟩) l.length cap) := by simp [World.cell?, NBi3.out]
      have cBi1_3 : w3.cell? ⟨Bi, 1, none⟩ = some (.int .i64 T) := by simp [World.cell?, NBi3.out]
      have cBi2_3 : w3.cell? ⟨Bi, 2, none⟩ = some (.int .i64 C) := by simp [World.cell?, NBi3.out]
      go_wp2_with fail
      · generalize hE : er % 41 = e
        have e0 : 0 ≤ e := by omega
        have e1 : e ≤ 40 := by omega
        generalize hF : e + by_ % 8 = f
        have ef : e ≤ f := by omega
        have f1 : f ≤ 40 := by omega
        clear he0 he1 hb0 hb1
        have a1 : askedL l T C e = 0 := by unfold askedL; rw [if_neg (by rw [faultL_zero.2 HO.out]; simp), if_pos ⟨e0, e1⟩]
        have a2 : askedL l T C f = 0 := by unfold askedL; rw [if_neg (by rw [faultL_zero.2 HO.out]; simp), if_pos ⟨by omega, by omega⟩]
        have hs1 := sureL_ans a1
        have hs2 := sureL_ans a2
        obtain ⟨S1, hS1⟩ : ∃ S, sureL l T C e = S := ⟨_, rfl⟩
        obtain ⟨S2, hS2⟩ : ∃ S, sureL l T C f = S := ⟨_, rfl⟩
        have HS1 := Lib.hid hS1
        have HS2 := Lib.hid hS2
        have H1 := Lib.hid hs1
        have H2 := Lib.hid hs2
        have A1 := Lib.hid a1
        have A2x := Lib.hid a2
        clear hS1 hS2 hs1 hs2 a1 a2
        refine (net_any _ cap T C l _ (HA.out.keep HB3.out (Nat.le_refl _)) (by omega)).mono ?_
        rintro e w4 ⟨Aq1, cq1, rfl, hq, hqn, hb⟩
        have HB4 := Lib.hid ((HB3.out).trans (hb.mono (HB3.out).size))
        have NBi4 := Lib.hid ((hb.block Bi (Array.getElem?_eq_some_iff.1 NBi3.out).1).trans NBi3.out)
        have FQ4 := Lib.hid hq
        clear HB3 NBi3 cBi0_3 cBi1_3 cBi2_3 hq hb hqn
        have cBi0_4 : w4.cell? ⟨Bi, 0, none⟩ = some (.slice (some ⟨b, o, none⟩) l.length cap) := by simp [World.cell?, NBi4.out]
        have cBi1_4 : w4.cell? ⟨Bi, 1, none⟩ = some (.int .i64 T) := by simp [World.cell?, NBi4.out]
        have cBi2_4 : w4.cell? ⟨Bi, 2, none⟩ = some (.int .i64 C) := by simp [World.cell?, NBi4.out]
        go_wp2_with fail
        refine (bounds_gen (cap := cq1) (by omega) rfl FQ4.out).mono ?_
        rintro e w5 ⟨Ab1, m1, cb1, bl1, bh1, rfl, hrg, hbi, hb⟩; rw [HS1.out]; have HBI1 := Lib.hid hbi
        have HB5 := Lib.hid ((HB4.out).trans (hb.mono (HB4.out).size))
        have NBi5 := Lib.hid ((hb.block Bi (Array.getElem?_eq_some_iff.1 NBi4.out).1).trans NBi4.out)
        have FQ5 := Lib.hid ((FQ4.out).keep hb (Nat.le_refl _))
        have FG15 := Lib.hid hrg
        clear HB4 NBi4 cBi0_4 cBi1_4 cBi2_4 FQ4 hrg hb hbi
        have cBi0_5 : w5.cell? ⟨Bi, 0, none⟩ = some (.slice (some ⟨b, o, none⟩) l.length cap) := by simp [World.cell?, NBi5.out]
        have cBi1_5 : w5.cell? ⟨Bi, 1, none⟩ = some (.int .i64 T) := by simp [World.cell?, NBi5.out]
        have cBi2_5 : w5.cell? ⟨Bi, 2, none⟩ = some (.int .i64 C) := by simp [World.cell?, NBi5.out]
        clear FQ5
        go_wp2_with fail
        refine (net_any _ cap T C l _ (HA.out.keep HB5.out (Nat.le_refl _)) (by omega)).mono ?_
        rintro e w6 ⟨Aq2, cq2, rfl, hq, hqn, hb⟩
        have HB6 := Lib.hid ((HB5.out).trans (hb.mono (HB5.out).size))
        have NBi6 := Lib.hid ((hb.block Bi (Array.getElem?_eq_some_iff.1 NBi5.out).1).trans NBi5.out)
        have FG16 := Lib.hid ((FG15.out).keep hb (Nat.le_refl _))
        have FQ6 := Lib.hid hq
        clear HB5 NBi5 cBi0_5 cBi1_5 cBi2_5 FG15 hq hb hqn
        have cBi0_6 : w6.cell? ⟨Bi, 0, none⟩ = some (.slice (some ⟨b, o, none⟩) l.length cap) := by simp [World.cell?, NBi6.out]
        have cBi1_6 : w6.cell? ⟨Bi, 1, none⟩ = some (.int .i64 T) := by simp [World.cell?, NBi6.out]
        have cBi2_6 : w6.cell? ⟨Bi, 2, none⟩ = some (.int .i64 C) := by simp [World.cell?, NBi6.out]
        go_wp2_with fail
        refine (bounds_gen (cap := cq2) (by omega) rfl FQ6.out).mono ?_
        rintro e w7 ⟨Ab2, m2, cb2, bl2, bh2, rfl, hrg, hbi, hb⟩; rw [HS2.out]; have HBI2 := Lib.hid hbi
        have HB7 := Lib.hid ((HB6.out).trans (hb.mono (HB6.out).size))
        have NBi7 := Lib.hid ((hb.block Bi (Array.getElem?_eq_some_iff.1 NBi6.out).1).trans NBi6.out)
        have FG17 := Lib.hid ((FG16.out).keep hb (Nat.le_refl _))
        have FQ7 := Lib.hid ((FQ6.out).keep hb (Nat.le_refl _))
        have FG27 := Lib.hid hrg
        clear HB6 NBi6 cBi0_6 cBi1_6 cBi2_6 FG16 FQ6 hrg hb hbi
        have cBi0_7 : w7.cell? ⟨Bi, 0, none⟩ = some (.slice (some ⟨b, o, none⟩) l.length cap) := by simp [World.cell?, NBi7.out]
        have cBi1_7 : w7.cell? ⟨Bi, 1, none⟩ = some (.int .i64 T) := by simp [World.cell?, NBi7.out]
        have cBi2_7 : w7.cell? ⟨Bi, 2, none⟩ = some (.int .i64 C) := by simp [World.cell?, NBi7.out]
        clear FQ7
        go_wp2_with fail
        refine (net_any _ cap T C l _ (HA.out.keep HB7.out (Nat.le_refl _)) (by omega)).mono ?_
        rintro e w8 ⟨Aq3, cq3, rfl, hq, hqn, hb⟩
        have HB8 := Lib.hid ((HB7.out).trans (hb.mono (HB7.out).size))
        have NBi8 := Lib.hid ((hb.block Bi (Array.getElem?_eq_some_iff.1 NBi7.out).1).trans NBi7.out)
        have FG18 := Lib.hid ((FG17.out).keep hb (Nat.le_refl _))
        have FG28 := Lib.hid ((FG27.out).keep hb (Nat.le_refl _))
        have FQ8 := Lib.hid hq
        clear HB7 NBi7 cBi0_7 cBi1_7 cBi2_7 FG17 FG27 hq hb hqn
        have cBi0_8 : w8.cell? ⟨Bi, 0, none⟩ = some (.slice (some ⟨b, o, none⟩) l.length cap) := by simp [World.cell?, NBi8.out]
        have cBi1_8 : w8.cell? ⟨Bi, 1, none⟩ = some (.int .i64 T) := by simp [World.cell?, NBi8.out]
        have cBi2_8 : w8.cell? ⟨Bi, 2, none⟩ = some (.int .i64 C) := by simp [World.cell?, NBi8.out]
        go_wp2_with fail
        refine (leave_gen (cap := cq3) (by omega) rfl FQ8.out A1.out).mono ?_
        rintro e w9 ⟨Al3, cl3, L3, E3, rfl, hli, hlv, hb⟩; have HLV3 := Lib.hid hlv
        have HB9 := Lib.hid ((HB8.out).trans (hb.mono (HB8.out).size))
        have NBi9 := Lib.hid ((hb.block Bi (Array.getElem?_eq_some_iff.1 NBi8.out).1).trans NBi8.out)
        have FG19 := Lib.hid ((FG18.out).keep hb (Nat.le_refl _))
        have FG29 := Lib.hid ((FG28.out).keep hb (Nat.le_refl _))
        have FQ9 := Lib.hid ((FQ8.out).keep hb (Nat.le_refl _))
        clear HB8 NBi8 cBi0_8 cBi1_8 cBi2_8 FG18 FG28 FQ8 hb hlv hli
        have cBi0_9 : w9.cell? ⟨Bi, 0, none⟩ = some (.slice (some ⟨b, o, none⟩) l.length cap) := by simp [World.cell?, NBi9.out]
        have cBi1_9 : w9.cell? ⟨Bi, 1, none⟩ = some (.int .i64 T) := by simp [World.cell?, NBi9.out]
        have cBi2_9 : w9.cell? ⟨Bi, 2, none⟩ = some (.int .i64 C) := by simp [World.cell?, NBi9.out]
        clear FQ9
        go_wp2_with fail
        refine (net_any _ cap T C l _ (HA.out.keep HB9.out (Nat.le_refl _)) (by omega)).mono ?_
        rintro e w10 ⟨Aq4, cq4, rfl, hq, hqn, hb⟩
        have HB10 := Lib.hid ((HB9.out).trans (hb.mono (HB9.out).size))
        have NBi10 := Lib.hid ((hb.block Bi (Array.getElem?_eq_some_iff.1 NBi9.out).1).trans NBi9.out)
        have FG110 := Lib.hid ((FG19.out).keep hb (Nat.le_refl _))
        have FG210 := Lib.hid ((FG29.out).keep hb (Nat.le_refl _))
        have FQ10 := Lib.hid hq
        clear HB9 NBi9 cBi0_9 cBi1_9 cBi2_9 FG19 FG29 hq hb hqn
        have cBi0_10 : w10.cell? ⟨Bi, 0, none⟩ = some (.slice (some ⟨b, o, none⟩) l.length cap) := by simp [World.cell?, NBi10.out]
        have cBi1_10 : w10.cell? ⟨Bi, 1, none⟩ = some (.int .i64 T) := by simp [World.cell?, NBi10.out]
        have cBi2_10 : w10.cell? ⟨Bi, 2, none⟩ = some (.int .i64 C) := by simp [World.cell?, NBi10.out]
        go_wp2_with fail
        refine (leave_gen (cap := cq4) (by omega) rfl FQ10.out A2x.out).mono ?_
        rintro e w11 ⟨Al4, cl4, L4, E4, rfl, hli, hlv, hb⟩; have HLV4 := Lib.hid hlv
        have HB11 := Lib.hid ((HB10.out).trans (hb.mono (HB10.out).size))
        have NBi11 := Lib.hid ((hb.block Bi (Array.getElem?_eq_some_iff.1 NBi10.out).1).trans NBi10.out)
        have FG111 := Lib.hid ((FG110.out).keep hb (Nat.le_refl _))
        have FG211 := Lib.hid ((FG210.out).keep hb (Nat.le_refl _))
        have FQ11 := Lib.hid ((FQ10.out).keep hb (Nat.le_refl _))
        clear HB10 NBi10 cBi0_10 cBi1_10 cBi2_10 FG110 FG210 FQ10 hb hlv hli
        have cBi0_11 : w11.cell? ⟨Bi, 0, none⟩ = some (.slice (some ⟨b, o, none⟩) l.length cap) := by simp [World.cell?, NBi11.out]
        have cBi1_11 : w11.cell? ⟨Bi, 1, none⟩ = some (.int .i64 T) := by simp [World.cell?, NBi11.out]
        have cBi2_11 : w11.cell? ⟨Bi, 2, none⟩ = some (.int .i64 C) := by simp [World.cell?, NBi11.out]
        clear FQ11
        go_wp2_with fail
        refine (net_any _ cap T C l _ (HA.out.keep HB11.out (Nat.le_refl _)) (by omega)).mono ?_
        rintro e w12 ⟨Aq5, cq5, rfl, hq, hqn, hb⟩
        have HB12 := Lib.hid ((HB11.out).trans (hb.mono (HB11.out).size))
        have NBi12 := Lib.hid ((hb.block Bi (Array.getElem?_eq_some_iff.1 NBi11.out).1).trans NBi11.out)
        have FG112 := Lib.hid ((FG111.out).keep hb (Nat.le_refl _))
        have FG212 := Lib.hid ((FG211.out).keep hb (Nat.le_refl _))
        have FQ12 := Lib.hid hq
        clear HB11 NBi11 cBi0_11 cBi1_11 cBi2_11 FG111 FG211 hq hb hqn
        have cBi0_12 : w12.cell? ⟨Bi, 0, none⟩ = some (.slice (some ⟨b, o, none⟩) l.length cap) := by simp [World.cell?, NBi12.out]
        have cBi1_12 : w12.cell? ⟨Bi, 1, none⟩ = some (.int .i64 T) := by simp [World.cell?, NBi12.out]
        have cBi2_12 : w12.cell? ⟨Bi, 2, none⟩ = some (.int .i64 C) := by simp [World.cell?, NBi12.out]
        go_wp2_with fail
        refine (control_gen (cap := cq5) (by omega) rfl FQ12.out).mono ?_
        rintro e w13 ⟨Ac5, cc5, D5, rfl, hci, hcv, hb⟩; rw [HS1.out]; have HCV5 := Lib.hid hcv
        have HB13 := Lib.hid ((HB12.out).trans (hb.mono (HB12.out).size))
        have NBi13 := Lib.hid ((hb.block Bi (Array.getElem?_eq_some_iff.1 NBi12.out).1).trans NBi12.out)
        have FG113 := Lib.hid ((FG112.out).keep hb (Nat.le_refl _))
        have FG213 := Lib.hid ((FG212.out).keep hb (Nat.le_refl _))
        have FQ13 := Lib.hid ((FQ12.out).keep hb (Nat.le_refl _))
        have FC513 := Lib.hid hci
        clear HB12 NBi12 cBi0_12 cBi1_12 cBi2_12 FG112 FG212 FQ12 hci hb hcv
        have cBi0_13 : w13.cell? ⟨Bi, 0, none⟩ = some (.slice (some ⟨b, o, none⟩) l.length cap) := by simp [World.cell?, NBi13.out]
        have cBi1_13 : w13.cell? ⟨Bi, 1, none⟩ = some (.int .i64 T) := by simp [World.cell?, NBi13.out]
        have cBi2_13 : w13.cell? ⟨Bi, 2, none⟩ = some (.int .i64 C) := by simp [World.cell?, NBi13.out]
        clear FQ13
        go_wp2_with fail
        refine (net_any _ cap T C l _ (HA.out.keep HB13.out (Nat.le_refl _)) (by omega)).mono ?_
        rintro e w14 ⟨Aq6, cq6, rfl, hq, hqn, hb⟩
        have HB14 := Lib.hid ((HB13.out).trans (hb.mono (HB13.out).size))
        have NBi14 := Lib.hid ((hb.block Bi (Array.getElem?_eq_some_iff.1 NBi13.out).1).trans NBi13.out)
        have FG114 := Lib.hid ((FG113.out).keep hb (Nat.le_refl _))
        have FG214 := Lib.hid ((FG213.out).keep hb (Nat.le_refl _))
        have FC514 := Lib.hid ((FC513.out).keep hb (Nat.le_refl _))
        have FQ14 := Lib.hid hq
        clear HB13 NBi13 cBi0_13 cBi1_13 cBi2_13 FG113 FG213 FC513 hq hb hqn
        have cBi0_14 : w14.cell? ⟨Bi, 0, none⟩ = some (.slice (some ⟨b, o, none⟩) l.length cap) := by simp [World.cell?, NBi14.out]
        have cBi1_14 : w14.cell? ⟨Bi, 1, none⟩ = some (.int .i64 T) := by simp [World.cell?, NBi14.out]
        have cBi2_14 : w14.cell? ⟨Bi, 2, none⟩ = some (.int .i64 C) := by simp [World.cell?, NBi14.out]
        go_wp2_with fail
        refine (control_gen (cap := cq6) (by omega) rfl FQ14.out).mono ?_
        rintro e w15 ⟨Ac6, cc6, D6, rfl, hci, hcv, hb⟩; rw [HS2.out]; have HCV6 := Lib.hid hcv
        have HB15 := Lib.hid ((HB14.out).trans (hb.mono (HB14.out).size))
        have NBi15 := Lib.hid ((hb.block Bi (Array.getElem?_eq_some_iff.1 NBi14.out).1).trans NBi14.out)
        have FG115 := Lib.hid ((FG114.out).keep hb (Nat.le_refl _))
        have FG215 := Lib.hid ((FG214.out).keep hb (Nat.le_refl _))
        have FC515 := Lib.hid ((FC514.out).keep hb (Nat.le_refl _))
        have FQ15 := Lib.hid ((FQ14.out).keep hb (Nat.le_refl _))
        have FC615 := Lib.hid hci
        clear HB14 NBi14 cBi0_14 cBi1_14 cBi2_14 FG114 FG214 FC514 FQ14 hci hb hcv
        have cBi0_15 : w15.cell? ⟨Bi, 0, none⟩ = some (.slice (some ⟨b, o, none⟩) l.length cap) := by simp [World.cell?, NBi15.out]
        have cBi1_15 : w15.cell? ⟨Bi, 1, none⟩ = some (.int .i64 T) := by simp [World.cell?, NBi15.out]
        have cBi2_15 : w15.cell? ⟨Bi, 2, none⟩ = some (.int .i64 C) := by simp [World.cell?, NBi15.out]
        clear FQ15
        dsimp only
        have hss : (S2 != S2) = false := by simp
        have hss1 : (S1 != S1) = false := by simp
        have hlen := leave_shorter HO.out ef HLV3.out HLV4.out
        have hEE : E4 = E3 := by rw [HLV3.out.err, HLV4.out.err, leave_same HO.out (by omega) (by omega)]
        have HEE := Lib.hid hEE
        clear hEE
        have hgt : decide (L3.length < L4.length) = false := by simp; omega
        have hgt2 : decide ((L3.length : Int) < (L4.length : Int)) = false := by simp; omega
        have h1 := H1.out
        have h2 := H2.out
        rw [HS1.out] at h1
        rw [HS2.out] at h2
        rcases (by cases canE l T C e [] <;> simp : canE l T C e [] = false ∨ canE l T C e [] = true) with hc1 | hc1
        · rw [hc1] at h1
          replace h1 : S1 = 9 := by simpa using h1
          subst h1
          clear h2 hss1
          rcases (by rw [HLV3.out.err]; cases leaveO l T C e <;> simp : E3 = 9 ∨ E3 = 0) with hE | hE
          · subst hE
            have hE4 := HEE.out
            subst hE4
            clear hc1 hlen
            go_wp2_with fail
            refine (awake_any _).mono ?_
            rintro e w16 ⟨rfl, hb⟩
            have HB16 := Lib.hid ((HB15.out).trans (hb.mono (HB15.out).size))
            have NBi16 := Lib.hid ((hb.block Bi (Array.getElem?_eq_some_iff.1 NBi15.out).1).trans NBi15.out)
            have FG116 := Lib.hid ((FG115.out).keep hb (Nat.le_refl _))
            have FG216 := Lib.hid ((FG215.out).keep hb (Nat.le_refl _))
            have FC516 := Lib.hid ((FC515.out).keep hb (Nat.le_refl _))
            have FC616 := Lib.hid ((FC615.out).keep hb (Nat.le_refl _))
            clear HB15 NBi15 cBi0_15 cBi1_15 cBi2_15 FG115 FG215 FC515 FC615 hb 
            have cBi0_16 : w16.cell? ⟨Bi, 0, none⟩ = some (.slice (some ⟨b, o, none⟩) l.length cap) := by simp [World.cell?, NBi16.out]
            have cBi1_16 : w16.cell? ⟨Bi, 1, none⟩ = some (.int .i64 T) := by simp [World.cell?, NBi16.out]
            have cBi2_16 : w16.cell? ⟨Bi, 2, none⟩ = some (.int .i64 C) := by simp [World.cell?, NBi16.out]
            go_wp2_with fail
            go_ret
            exact ⟨rfl, HB16.out⟩
          · subst hE
            have hE4 := HEE.out
            subst hE4
            have hne := HLV3.out.ne hc1
            have hlp : 0 < L3.length := List.length_pos_iff.2 hne
            have hlp2 : decide (0 < L3.length) = true := by simpa using hlp
            have hlp3 : decide ((0 : Int) < (L3.length : Int)) = true := by simpa using hlp
            clear hc1 hlen hne hlp
            go_wp2_with fail
            refine (awake_any _).mono ?_
            rintro e w16 ⟨rfl, hb⟩
            have HB16 := Lib.hid ((HB15.out).trans (hb.mono (HB15.out).size))
            have NBi16 := Lib.hid ((hb.block Bi (Array.getElem?_eq_some_iff.1 NBi15.out).1).trans NBi15.out)
            have FG116 := Lib.hid ((FG115.out).keep hb (Nat.le_refl _))
            have FG216 := Lib.hid ((FG215.out).keep hb (Nat.le_refl _))
            have FC516 := Lib.hid ((FC515.out).keep hb (Nat.le_refl _))
            have FC616 := Lib.hid ((FC615.out).keep hb (Nat.le_refl _))
            clear HB15 NBi15 cBi0_15 cBi1_15 cBi2_15 FG115 FG215 FC515 FC615 hb 
            have cBi0_16 : w16.cell? ⟨Bi, 0, none⟩ = some (.slice (some ⟨b, o, none⟩) l.length cap) := by simp [World.cell?, NBi16.out]
            have cBi1_16 : w16.cell? ⟨Bi, 1, none⟩ = some (.int .i64 T) := by simp [World.cell?, NBi16.out]
            have cBi2_16 : w16.cell? ⟨Bi, 2, none⟩ = some (.int .i64 C) := by simp [World.cell?, NBi16.out]
            go_wp2_with fail
            go_ret
            exact ⟨rfl, HB16.out⟩
        · have hc2 := canE_more HO.out ef hc1
          rw [hc1] at h1
          rw [hc2] at h2
          replace h1 : S1 = 0 := by simpa using h1
          replace h2 : S2 = 0 := by simpa using h2
          clear hss hss1
          subst h1 h2
          obtain ⟨hL, hE⟩ := HLV3.out.nil hc1
          subst hE hL
          have hE4 := HEE.out
          subst hE4
          obtain rfl : L4 = [] := List.length_eq_zero_iff.1 (by simpa using hlen)
          obtain ⟨rfl, hb1⟩ : m1 = l.length ∧ BoundsE l T C e l.length bl1 bh1 := by
            rcases HBI1.out with ⟨h, _⟩ | ⟨_, h1, h2⟩
            · exact absurd HS1.out h
            · exact ⟨h1, h2⟩
          obtain ⟨rfl, hb2⟩ : m2 = l.length ∧ BoundsE l T C f l.length bl2 bh2 := by
            rcases HBI2.out with ⟨h, _⟩ | ⟨_, h1, h2⟩
            · exact absurd HS2.out h
            · exact ⟨h1, h2⟩
          obtain rfl : D5 = ctlL l T C e l.length := by
            rcases HCV5.out with ⟨h, _⟩ | ⟨_, h⟩
            · exact absurd HS1.out h
            · exact h
          obtain rfl : D6 = ctlL l T C f l.length := by
            rcases HCV6.out with ⟨h, _⟩ | ⟨_, h⟩
            · exact absurd HS2.out h
            · exact h
          have HWI := Lib.hid (bounds_more HO.out ef hb1 hb2)
          have hin := ctl_inside HO.out ef
          have hcl1 := ctlL_length l T C e l.length
          have hcl2 := ctlL_length l T C f l.length
          have hia := Lib.hid (inside_any _ _ _ _ w15 FC615.out FC515.out (by omega) (by omega))
          rw [hin] at hia
          have hll : ((l.length : Int) != (l.length : Int)) = false := by simp
          clear hb1 hb2 hin hc1 hc2 hlen hgt hgt2 hcl1 hcl2 HEE
          go_wp2_with fail
          refine (hia.out).mono ?_
          rintro e w16 ⟨rfl, hb⟩
          have HB16 := Lib.hid ((HB15.out).trans (hb.mono (HB15.out).size))
          have NBi16 := Lib.hid ((hb.block Bi (Array.getElem?_eq_some_iff.1 NBi15.out).1).trans NBi15.out)
          have FG116 := Lib.hid ((FG115.out).keep hb (Nat.le_refl _))
          have FG216 := Lib.hid ((FG215.out).keep hb (Nat.le_refl _))
          have FC516 := Lib.hid ((FC515.out).keep hb (Nat.le_refl _))
          have FC616 := Lib.hid ((FC615.out).keep hb (Nat.le_refl _))
          clear HB15 NBi15 cBi0_15 cBi1_15 cBi2_15 FG115 FG215 FC515 FC615 hb hia
          have cBi0_16 : w16.cell? ⟨Bi, 0, none⟩ = some (.slice (some ⟨b, o, none⟩) l.length cap) := by simp [World.cell?, NBi16.out]
          have cBi1_16 : w16.cell? ⟨Bi, 1, none⟩ = some (.int .i64 T) := by simp [World.cell?, NBi16.out]
          have cBi2_16 : w16.cell? ⟨Bi, 2, none⟩ = some (.int .i64 C) := by simp [World.cell?, NBi16.out]
          clear FC516
          clear FC616
          go_wp2_with fail
          go_loopw [21] (MRel l.length w16) (fun i _ => l.length - (intOf i).toNat)
          case atStart => exact ⟨0, by omega, rfl, Below.refl _ _⟩
          case round =>
            obtain ⟨k, hk, rfl, hbe⟩ := hrel
            have HBX := Lib.hid (HB16.out.trans (hbe.mono HB16.out.size))
            have g1 := FG116.out.keep hbe (Nat.le_refl _)
            have g2 := FG216.out.keep hbe (Nat.le_refl _)
            have HBE2 := Lib.hid hbe
            clear hbe cBi0_16 cBi1_16 cBi2_16
            by_cases hlt : k < l.length
            · have hlt' : decide ((k : Int) < (l.length : Int)) = true := by simpa using hlt
              have i1 : (0 : Int) ≤ (k : Int) := by omega
              have i2 : (k : Int) < (l.length : Int) := by omega
              obtain ⟨b1, o1, rfl, g10, g11⟩ := g1.at_ hlt
              obtain ⟨b2, o2, rfl, g20, g21⟩ := g2.at_ hlt
              obtain ⟨w1, w2⟩ := HWI.out k hlt
              obtain ⟨p1, hp1⟩ : ∃ p, bl1 (k : Int) = p := ⟨_, rfl⟩
              obtain ⟨q1, hq1⟩ : ∃ p, bh1 (k : Int) = p := ⟨_, rfl⟩
              obtain ⟨p2, hp2⟩ : ∃ p, bl2 (k : Int) = p := ⟨_, rfl⟩
              obtain ⟨q2, hq2⟩ : ∃ p, bh2 (k : Int) = p := ⟨_, rfl⟩
              rw [hp1] at g10 w1
              rw [hq1] at g11 w2
              rw [hp2] at g20 w1
              rw [hq2] at g21 w2
              have d1 : decide (p1 < p2) = false := by simp; omega
              have d2 : decide (q2 < q1) = false := by simp; omega
              clear hp1 hq1 hp2 hq2 w1 w2
              go_wp2_with fail
              go_quiet (fail)
              go_wp2_with fail
              go_roundw
              case rel => exact ⟨k + 1, by omega, by go_num, HBE2.out.drewN _⟩
              case measure => simp [intOf]; omega
            · have hlt' : decide ((k : Int) < (l.length : Int)) = false := by simpa using hlt
              go_wp2_with fail
              refine (awake_any _).mono ?_
              rintro e' w8x ⟨rfl, hb⟩
              have HB8 := Lib.hid (HBX.out.trans (hb.mono HBX.out.size))
              clear hb
              go_wp2_with fail
              go_ret
              exact ⟨rfl, HB8.out⟩
      · generalize hE : er % 41 = e
        have e0 : 0 ≤ e := by omega
        have e1 : e ≤ 40 := by omega
        obtain ⟨f, hF⟩ : ∃ f : Int, f = 40 := ⟨_, rfl⟩
        have ef : e ≤ f := by omega
        have f1 : f ≤ 40 := by omega
        rw [hF] at ef f1
        clear hF
        clear he0 he1 hb0 hb1
        have a1 : askedL l T C e = 0 := by unfold askedL; rw [if_neg (by rw [faultL_zero.2 HO.out]; simp), if_pos ⟨e0, e1⟩]
        have a2 : askedL l T C 40 = 0 := by unfold askedL; rw [if_neg (by rw [faultL_zero.2 HO.out]; simp), if_pos ⟨by omega, by omega⟩]
        have hs1 := sureL_ans a1
        have hs2 := sureL_ans a2
        obtain ⟨S1, hS1⟩ : ∃ S, sureL l T C e = S := ⟨_, rfl⟩
        obtain ⟨S2, hS2⟩ : ∃ S, sureL l T C 40 = S := ⟨_, rfl⟩
        have HS1 := Lib.hid hS1
        have HS2 := Lib.hid hS2
        have H1 := Lib.hid hs1
        have H2 := Lib.hid hs2
        have A1 := Lib.hid a1
        have A2x := Lib.hid a2
        clear hS1 hS2 hs1 hs2 a1 a2
        refine (net_any _ cap T C l _ (HA.out.keep HB3.out (Nat.le_refl _)) (by omega)).mono ?_
        rintro e w4 ⟨Aq1, cq1, rfl, hq, hqn, hb⟩
        have HB4 := Lib.hid ((HB3.out).trans (hb.mono (HB3.out).size))
        have NBi4 := Lib.hid ((hb.block Bi (Array.getElem?_eq_some_iff.1 NBi3.out).1).trans NBi3.out)
        have FQ4 := Lib.hid hq
        clear HB3 NBi3 cBi0_3 cBi1_3 cBi2_3 hq hb hqn
        have cBi0_4 : w4.cell? ⟨Bi, 0, none⟩ = some (.slice (some ⟨b, o, none⟩) l.length cap) := by simp [World.cell?, NBi4.out]
        have cBi1_4 : w4.cell? ⟨Bi, 1, none⟩ = some (.int .i64 T) := by simp [World.cell?, NBi4.out]
        have cBi2_4 : w4.cell? ⟨Bi, 2, none⟩ = some (.int .i64 C) := by simp [World.cell?, NBi4.out]
        go_wp2_with fail
        refine (bounds_gen (cap := cq1) (by omega) rfl FQ4.out).mono ?_
        rintro e w5 ⟨Ab1, m1, cb1, bl1, bh1, rfl, hrg, hbi, hb⟩; rw [HS1.out]; have HBI1 := Lib.hid hbi
        have HB5 := Lib.hid ((HB4.out).trans (hb.mono (HB4.out).size))
        have NBi5 := Lib.hid ((hb.block Bi (Array.getElem?_eq_some_iff.1 NBi4.out).1).trans NBi4.out)
        have FQ5 := Lib.hid ((FQ4.out).keep hb (Nat.le_refl _))
        have FG15 := Lib.hid hrg
        clear HB4 NBi4 cBi0_4 cBi1_4 cBi2_4 FQ4 hrg hb hbi
        have cBi0_5 : w5.cell? ⟨Bi, 0, none⟩ = some (.slice (some ⟨b, o, none⟩) l.length cap) := by simp [World.cell?, NBi5.out]
        have cBi1_5 : w5.cell? ⟨Bi, 1, none⟩ = some (.int .i64 T) := by simp [World.cell?, NBi5.out]
        have cBi2_5 : w5.cell? ⟨Bi, 2, none⟩ = some (.int .i64 C) := by simp [World.cell?, NBi5.out]
        clear FQ5
        go_wp2_with fail
        refine (net_any _ cap T C l _ (HA.out.keep HB5.out (Nat.le_refl _)) (by omega)).mono ?_
        rintro e w6 ⟨Aq2, cq2, rfl, hq, hqn, hb⟩
        have HB6 := Lib.hid ((HB5.out).trans (hb.mono (HB5.out).size))
        have NBi6 := Lib.hid ((hb.block Bi (Array.getElem?_eq_some_iff.1 NBi5.out).1).trans NBi5.out)
        have FG16 := Lib.hid ((FG15.out).keep hb (Nat.le_refl _))
        have FQ6 := Lib.hid hq
        clear HB5 NBi5 cBi0_5 cBi1_5 cBi2_5 FG15 hq hb hqn
        have cBi0_6 : w6.cell? ⟨Bi, 0, none⟩ = some (.slice (some ⟨b, o, none⟩) l.length cap) := by simp [World.cell?, NBi6.out]
        have cBi1_6 : w6.cell? ⟨Bi, 1, none⟩ = some (.int .i64 T) := by simp [World.cell?, NBi6.out]
        have cBi2_6 : w6.cell? ⟨Bi, 2, none⟩ = some (.int .i64 C) := by simp [World.cell?, NBi6.out]
        go_wp2_with fail
        refine (bounds_gen (cap := cq2) (by omega) rfl FQ6.out).mono ?_
        rintro e w7 ⟨Ab2, m2, cb2, bl2, bh2, rfl, hrg, hbi, hb⟩; rw [HS2.out]; have HBI2 := Lib.hid hbi
        have HB7 := Lib.hid ((HB6.out).trans (hb.mono (HB6.out).size))
        have NBi7 := Lib.hid ((hb.block Bi (Array.getElem?_eq_some_iff.1 NBi6.out).1).trans NBi6.out)
        have FG17 := Lib.hid ((FG16.out).keep hb (Nat.le_refl _))
        have FQ7 := Lib.hid ((FQ6.out).keep hb (Nat.le_refl _))
        have FG27 := Lib.hid hrg
        clear HB6 NBi6 cBi0_6 cBi1_6 cBi2_6 FG16 FQ6 hrg hb hbi
        have cBi0_7 : w7.cell? ⟨Bi, 0, none⟩ = some (.slice (some ⟨b, o, none⟩) l.length cap) := by simp [World.cell?, NBi7.out]
        have cBi1_7 : w7.cell? ⟨Bi, 1, none⟩ = some (.int .i64 T) := by simp [World.cell?, NBi7.out]
        have cBi2_7 : w7.cell? ⟨Bi, 2, none⟩ = some (.int .i64 C) := by simp [World.cell?, NBi7.out]
        clear FQ7
        go_wp2_with fail
        refine (net_any _ cap T C l _ (HA.out.keep HB7.out (Nat.le_refl _)) (by omega)).mono ?_
        rintro e w8 ⟨Aq3, cq3, rfl, hq, hqn, hb⟩
        have HB8 := Lib.hid ((HB7.out).trans (hb.mono (HB7.out).size))
        have NBi8 := Lib.hid ((hb.block Bi (Array.getElem?_eq_some_iff.1 NBi7.out).1).trans NBi7.out)
        have FG18 := Lib.hid ((FG17.out).keep hb (Nat.le_refl _))
        have FG28 := Lib.hid ((FG27.out).keep hb (Nat.le_refl _))
        have FQ8 := Lib.hid hq
        clear HB7 NBi7 cBi0_7 cBi1_7 cBi2_7 FG17 FG27 hq hb hqn
        have cBi0_8 : w8.cell? ⟨Bi, 0, none⟩ = some (.slice (some ⟨b, o, none⟩) l.length cap) := by simp [World.cell?, NBi8.out]
        have cBi1_8 : w8.cell? ⟨Bi, 1, none⟩ = some (.int .i64 T) := by simp [World.cell?, NBi8.out]
        have cBi2_8 : w8.cell? ⟨Bi, 2, none⟩ = some (.int .i64 C) := by simp [World.cell?, NBi8.out]
        go_wp2_with fail
        refine (leave_gen (cap := cq3) (by omega) rfl FQ8.out A1.out).mono ?_
        rintro e w9 ⟨Al3, cl3, L3, E3, rfl, hli, hlv, hb⟩; have HLV3 := Lib.hid hlv
        have HB9 := Lib.hid ((HB8.out).trans (hb.mono (HB8.out).size))
        have NBi9 := Lib.hid ((hb.block Bi (Array.getElem?_eq_some_iff.1 NBi8.out).1).trans NBi8.out)
        have FG19 := Lib.hid ((FG18.out).keep hb (Nat.le_refl _))
        have FG29 := Lib.hid ((FG28.out).keep hb (Nat.le_refl _))
        have FQ9 := Lib.hid ((FQ8.out).keep hb (Nat.le_refl _))
        clear HB8 NBi8 cBi0_8 cBi1_8 cBi2_8 FG18 FG28 FQ8 hb hlv hli
        have cBi0_9 : w9.cell? ⟨Bi, 0, none⟩ = some (.slice (some ⟨b, o, none⟩) l.length cap) := by simp [World.cell?, NBi9.out]
        have cBi1_9 : w9.cell? ⟨Bi, 1, none⟩ = some (.int .i64 T) := by simp [World.cell?, NBi9.out]
        have cBi2_9 : w9.cell? ⟨Bi, 2, none⟩ = some (.int .i64 C) := by simp [World.cell?, NBi9.out]
        clear FQ9
        go_wp2_with fail
        refine (net_any _ cap T C l _ (HA.out.keep HB9.out (Nat.le_refl _)) (by omega)).mono ?_
        rintro e w10 ⟨Aq4, cq4, rfl, hq, hqn, hb⟩
        have HB10 := Lib.hid ((HB9.out).trans (hb.mono (HB9.out).size))
        have NBi10 := Lib.hid ((hb.block Bi (Array.getElem?_eq_some_iff.1 NBi9.out).1).trans NBi9.out)
        have FG110 := Lib.hid ((FG19.out).keep hb (Nat.le_refl _))
        have FG210 := Lib.hid ((FG29.out).keep hb (Nat.le_refl _))
        have FQ10 := Lib.hid hq
        clear HB9 NBi9 cBi0_9 cBi1_9 cBi2_9 FG19 FG29 hq hb hqn
        have cBi0_10 : w10.cell? ⟨Bi, 0, none⟩ = some (.slice (some ⟨b, o, none⟩) l.length cap) := by simp [World.cell?, NBi10.out]
        have cBi1_10 : w10.cell? ⟨Bi, 1, none⟩ = some (.int .i64 T) := by simp [World.cell?, NBi10.out]
        have cBi2_10 : w10.cell? ⟨Bi, 2, none⟩ = some (.int .i64 C) := by simp [World.cell?, NBi10.out]
        go_wp2_with fail
        refine (leave_gen (cap := cq4) (by omega) rfl FQ10.out A2x.out).mono ?_
        rintro e w11 ⟨Al4, cl4, L4, E4, rfl, hli, hlv, hb⟩; have HLV4 := Lib.hid hlv
        have HB11 := Lib.hid ((HB10.out).trans (hb.mono (HB10.out).size))
        have NBi11 := Lib.hid ((hb.block Bi (Array.getElem?_eq_some_iff.1 NBi10.out).1).trans NBi10.out)
        have FG111 := Lib.hid ((FG110.out).keep hb (Nat.le_refl _))
        have FG211 := Lib.hid ((FG210.out).keep hb (Nat.le_refl _))
        have FQ11 := Lib.hid ((FQ10.out).keep hb (Nat.le_refl _))
        clear HB10 NBi10 cBi0_10 cBi1_10 cBi2_10 FG110 FG210 FQ10 hb hlv hli
        have cBi0_11 : w11.cell? ⟨Bi, 0, none⟩ = some (.slice (some ⟨b, o, none⟩) l.length cap) := by simp [World.cell?, NBi11.out]
        have cBi1_11 : w11.cell? ⟨Bi, 1, none⟩ = some (.int .i64 T) := by simp [World.cell?, NBi11.out]
        have cBi2_11 : w11.cell? ⟨Bi, 2, none⟩ = some (.int .i64 C) := by simp [World.cell?, NBi11.out]
        clear FQ11
        go_wp2_with fail
        refine (net_any _ cap T C l _ (HA.out.keep HB11.out (Nat.le_refl _)) (by omega)).mono ?_
        rintro e w12 ⟨Aq5, cq5, rfl, hq, hqn, hb⟩
        have HB12 := Lib.hid ((HB11.out).trans (hb.mono (HB11.out).size))
        have NBi12 := Lib.hid ((hb.block Bi (Array.getElem?_eq_some_iff.1 NBi11.out).1).trans NBi11.out)
        have FG112 := Lib.hid ((FG111.out).keep hb (Nat.le_refl _))
        have FG212 := Lib.hid ((FG211.out).keep hb (Nat.le_refl _))
        have FQ12 := Lib.hid hq
        clear HB11 NBi11 cBi0_11 cBi1_11 cBi2_11 FG111 FG211 hq hb hqn
        have cBi0_12 : w12.cell? ⟨Bi, 0, none⟩ = some (.slice (some ⟨b, o, none⟩) l.length cap) := by simp [World.cell?, NBi12.out]
        have cBi1_12 : w12.cell? ⟨Bi, 1, none⟩ = some (.int .i64 T) := by simp [World.cell?, NBi12.out]
        have cBi2_12 : w12.cell? ⟨Bi, 2, none⟩ = some (.int .i64 C) := by simp [World.cell?, NBi12.out]
        go_wp2_with fail
        refine (control_gen (cap := cq5) (by omega) rfl FQ12.out).mono ?_
        rintro e w13 ⟨Ac5, cc5, D5, rfl, hci, hcv, hb⟩; rw [HS1.out]; have HCV5 := Lib.hid hcv
        have HB13 := Lib.hid ((HB12.out).trans (hb.mono (HB12.out).size))
        have NBi13 := Lib.hid ((hb.block Bi (Array.getElem?_eq_some_iff.1 NBi12.out).1).trans NBi12.out)
        have FG113 := Lib.hid ((FG112.out).keep hb (Nat.le_refl _))
        have FG213 := Lib.hid ((FG212.out).keep hb (Nat.le_refl _))
        have FQ13 := Lib.hid ((FQ12.out).keep hb (Nat.le_refl _))
        have FC513 := Lib.hid hci
        clear HB12 NBi12 cBi0_12 cBi1_12 cBi2_12 FG112 FG212 FQ12 hci hb hcv
        have cBi0_13 : w13.cell? ⟨Bi, 0, none⟩ = some (.slice (some ⟨b, o, none⟩) l.length cap) := by simp [World.cell?, NBi13.out]
        have cBi1_13 : w13.cell? ⟨Bi, 1, none⟩ = some (.int .i64 T) := by simp [World.cell?, NBi13.out]
        have cBi2_13 : w13.cell? ⟨Bi, 2, none⟩ = some (.int .i64 C) := by simp [World.cell?, NBi13.out]
        clear FQ13
        go_wp2_with fail
        refine (net_any _ cap T C l _ (HA.out.keep HB13.out (Nat.le_refl _)) (by omega)).mono ?_
        rintro e w14 ⟨Aq6, cq6, rfl, hq, hqn, hb⟩
        have HB14 := Lib.hid ((HB13.out).trans (hb.mono (HB13.out).size))
        have NBi14 := Lib.hid ((hb.block Bi (Array.getElem?_eq_some_iff.1 NBi13.out).1).trans NBi13.out)
        have FG114 := Lib.hid ((FG113.out).keep hb (Nat.le_refl _))
        have FG214 := Lib.hid ((FG213.out).keep hb (Nat.le_refl _))
        have FC514 := Lib.hid ((FC513.out).keep hb (Nat.le_refl _))
        have FQ14 := Lib.hid hq
        clear HB13 NBi13 cBi0_13 cBi1_13 cBi2_13 FG113 FG213 FC513 hq hb hqn
        have cBi0_14 : w14.cell? ⟨Bi, 0, none⟩ = some (.slice (some ⟨b, o, none⟩) l.length cap) := by simp [World.cell?, NBi14.out]
        have cBi1_14 : w14.cell? ⟨Bi, 1, none⟩ = some (.int .i64 T) := by simp [World.cell?, NBi14.out]
        have cBi2_14 : w14.cell? ⟨Bi, 2, none⟩ = some (.int .i64 C) := by simp [World.cell?, NBi14.out]
        go_wp2_with fail
        refine (control_gen (cap := cq6) (by omega) rfl FQ14.out).mono ?_
        rintro e w15 ⟨Ac6, cc6, D6, rfl, hci, hcv, hb⟩; rw [HS2.out]; have HCV6 := Lib.hid hcv
        have HB15 := Lib.hid ((HB14.out).trans (hb.mono (HB14.out).size))
        have NBi15 := Lib.hid ((hb.block Bi (Array.getElem?_eq_some_iff.1 NBi14.out).1).trans NBi14.out)
        have FG115 := Lib.hid ((FG114.out).keep hb (Nat.le_refl _))
        have FG215 := Lib.hid ((FG214.out).keep hb (Nat.le_refl _))
        have FC515 := Lib.hid ((FC514.out).keep hb (Nat.le_refl _))
        have FQ15 := Lib.hid ((FQ14.out).keep hb (Nat.le_refl _))
        have FC615 := Lib.hid hci
        clear HB14 NBi14 cBi0_14 cBi1_14 cBi2_14 FG114 FG214 FC514 FQ14 hci hb hcv
        have cBi0_15 : w15.cell? ⟨Bi, 0, none⟩ = some (.slice (some ⟨b, o, none⟩) l.length cap) := by simp [World.cell?, NBi15.out]
        have cBi1_15 : w15.cell? ⟨Bi, 1, none⟩ = some (.int .i64 T) := by simp [World.cell?, NBi15.out]
        have cBi2_15 : w15.cell? ⟨Bi, 2, none⟩ = some (.int .i64 C) := by simp [World.cell?, NBi15.out]
        clear FQ15
        dsimp only
        have hss : (S2 != S2) = false := by simp
        have hss1 : (S1 != S1) = false := by simp
        have hlen := leave_shorter HO.out ef HLV3.out HLV4.out
        have hEE : E4 = E3 := by rw [HLV3.out.err, HLV4.out.err, leave_same HO.out (by omega) (by omega)]
        have HEE := Lib.hid hEE
        clear hEE
        have hgt : decide (L3.length < L4.length) = false := by simp; omega
        have hgt2 : decide ((L3.length : Int) < (L4.length : Int)) = false := by simp; omega
        have h1 := H1.out
        have h2 := H2.out
        rw [HS1.out] at h1
        rw [HS2.out] at h2
        rcases (by cases canE l T C e [] <;> simp : canE l T C e [] = false ∨ canE l T C e [] = true) with hc1 | hc1
        · rw [hc1] at h1
          replace h1 : S1 = 9 := by simpa using h1
          subst h1
          clear h2 hss1
          rcases (by rw [HLV3.out.err]; cases leaveO l T C e <;> simp : E3 = 9 ∨ E3 = 0) with hE | hE
          · subst hE
            have hE4 := HEE.out
            subst hE4
            clear hc1 hlen
            go_wp2_with fail
            refine (awake_any _).mono ?_
            rintro e w16 ⟨rfl, hb⟩
            have HB16 := Lib.hid ((HB15.out).trans (hb.mono (HB15.out).size))
            have NBi16 := Lib.hid ((hb.block Bi (Array.getElem?_eq_some_iff.1 NBi15.out).1).trans NBi15.out)
            have FG116 := Lib.hid ((FG115.out).keep hb (Nat.le_refl _))
            have FG216 := Lib.hid ((FG215.out).keep hb (Nat.le_refl _))
            have FC516 := Lib.hid ((FC515.out).keep hb (Nat.le_refl _))
            have FC616 := Lib.hid ((FC615.out).keep hb (Nat.le_refl _))
            clear HB15 NBi15 cBi0_15 cBi1_15 cBi2_15 FG115 FG215 FC515 FC615 hb 
            have cBi0_16 : w16.cell? ⟨Bi, 0, none⟩ = some (.slice (some ⟨b, o, none⟩) l.length cap) := by simp [World.cell?, NBi16.out]
            have cBi1_16 : w16.cell? ⟨Bi, 1, none⟩ = some (.int .i64 T) := by simp [World.cell?, NBi16.out]
            have cBi2_16 : w16.cell? ⟨Bi, 2, none⟩ = some (.int .i64 C) := by simp [World.cell?, NBi16.out]
            go_wp2_with fail
            go_ret
            exact ⟨rfl, HB16.out⟩
          · subst hE
            have hE4 := HEE.out
            subst hE4
            have hne := HLV3.out.ne hc1
            have hlp : 0 < L3.length := List.length_pos_iff.2 hne
            have hlp2 : decide (0 < L3.length) = true := by simpa using hlp
            have hlp3 : decide ((0 : Int) < (L3.length : Int)) = true := by simpa using hlp
            clear hc1 hlen hne hlp
            go_wp2_with fail
            refine (awake_any _).mono ?_
            rintro e w16 ⟨rfl, hb⟩
            have HB16 := Lib.hid ((HB15.out).trans (hb.mono (HB15.out).size))
            have NBi16 := Lib.hid ((hb.block Bi (Array.getElem?_eq_some_iff.1 NBi15.out).1).trans NBi15.out)
            have FG116 := Lib.hid ((FG115.out).keep hb (Nat.le_refl _))
            have FG216 := Lib.hid ((FG215.out).keep hb (Nat.le_refl _))
            have FC516 := Lib.hid ((FC515.out).keep hb (Nat.le_refl _))
            have FC616 := Lib.hid ((FC615.out).keep hb (Nat.le_refl _))
            clear HB15 NBi15 cBi0_15 cBi1_15 cBi2_15 FG115 FG215 FC515 FC615 hb 
            have cBi0_16 : w16.cell? ⟨Bi, 0, none⟩ = some (.slice (some ⟨b, o, none⟩) l.length cap) := by simp [World.cell?, NBi16.out]
            have cBi1_16 : w16.cell? ⟨Bi, 1, none⟩ = some (.int .i64 T) := by simp [World.cell?, NBi16.out]
            have cBi2_16 : w16.cell? ⟨Bi, 2, none⟩ = some (.int .i64 C) := by simp [World.cell?, NBi16.out]
            go_wp2_with fail
            go_ret
            exact ⟨rfl, HB16.out⟩
        · have hc2 := canE_more HO.out ef hc1
          rw [hc1] at h1
          rw [hc2] at h2
          replace h1 : S1 = 0 := by simpa using h1
          replace h2 : S2 = 0 := by simpa using h2
          clear hss hss1
          subst h1 h2
          obtain ⟨hL, hE⟩ := HLV3.out.nil hc1
          subst hE hL
          have hE4 := HEE.out
          subst hE4
          obtain rfl : L4 = [] := List.length_eq_zero_iff.1 (by simpa using hlen)
          obtain ⟨rfl, hb1⟩ : m1 = l.length ∧ BoundsE l T C e l.length bl1 bh1 := by
            rcases HBI1.out with ⟨h, _⟩ | ⟨_, h1, h2⟩
            · exact absurd HS1.out h
            · exact ⟨h1, h2⟩
          obtain ⟨rfl, hb2⟩ : m2 = l.length ∧ BoundsE l T C 40 l.length bl2 bh2 := by
            rcases HBI2.out with ⟨h, _⟩ | ⟨_, h1, h2⟩
            · exact absurd HS2.out h
            · exact ⟨h1, h2⟩
          obtain rfl : D5 = ctlL l T C e l.length := by
            rcases HCV5.out with ⟨h, _⟩ | ⟨_, h⟩
            · exact absurd HS1.out h
            · exact h
          obtain rfl : D6 = ctlL l T C 40 l.length := by
            rcases HCV6.out with ⟨h, _⟩ | ⟨_, h⟩
            · exact absurd HS2.out h
            · exact h
          have HWI := Lib.hid (bounds_more HO.out ef hb1 hb2)
          have hin := ctl_inside HO.out ef
          have hcl1 := ctlL_length l T C e l.length
          have hcl2 := ctlL_length l T C 40 l.length
          have hia := Lib.hid (inside_any _ _ _ _ w15 FC615.out FC515.out (by omega) (by omega))
          rw [hin] at hia
          have hll : ((l.length : Int) != (l.length : Int)) = false := by simp
          clear hb1 hb2 hin hc1 hc2 hlen hgt hgt2 hcl1 hcl2 HEE
          go_wp2_with fail
          refine (hia.out).mono ?_
          rintro e w16 ⟨rfl, hb⟩
          have HB16 := Lib.hid ((HB15.out).trans (hb.mono (HB15.out).size))
          have NBi16 := Lib.hid ((hb.block Bi (Array.getElem?_eq_some_iff.1 NBi15.out).1).trans NBi15.out)
          have FG116 := Lib.hid ((FG115.out).keep hb (Nat.le_refl _))
          have FG216 := Lib.hid ((FG215.out).keep hb (Nat.le_refl _))
          have FC516 := Lib.hid ((FC515.out).keep hb (Nat.le_refl _))
          have FC616 := Lib.hid ((FC615.out).keep hb (Nat.le_refl _))
          clear HB15 NBi15 cBi0_15 cBi1_15 cBi2_15 FG115 FG215 FC515 FC615 hb hia
          have cBi0_16 : w16.cell? ⟨Bi, 0, none⟩ = some (.slice (some ⟨b, o, none⟩) l.length cap) := by simp [World.cell?, NBi16.out]
          have cBi1_16 : w16.cell? ⟨Bi, 1, none⟩ = some (.int .i64 T) := by simp [World.cell?, NBi16.out]
          have cBi2_16 : w16.cell? ⟨Bi, 2, none⟩ = some (.int .i64 C) := by simp [World.cell?, NBi16.out]
          clear FC516
          clear FC616
          go_wp2_with fail
          go_loopw [21] (MRel l.length w16) (fun i _ => l.length - (intOf i).toNat)
          case atStart => exact ⟨0, by omega, rfl, Below.refl _ _⟩
          case round =>
            obtain ⟨k, hk, rfl, hbe⟩ := hrel
            have HBX := Lib.hid (HB16.out.trans (hbe.mono HB16.out.size))
            have g1 := FG116.out.keep hbe (Nat.le_refl _)
            have g2 := FG216.out.keep hbe (Nat.le_refl _)
            have HBE2 := Lib.hid hbe
            clear hbe cBi0_16 cBi1_16 cBi2_16
            by_cases hlt : k < l.length
            · have hlt' : decide ((k : Int) < (l.length : Int)) = true := by simpa using hlt
              have i1 : (0 : Int) ≤ (k : Int) := by omega
              have i2 : (k : Int) < (l.length : Int) := by omega
              obtain ⟨b1, o1, rfl, g10, g11⟩ := g1.at_ hlt
              obtain ⟨b2, o2, rfl, g20, g21⟩ := g2.at_ hlt
              obtain ⟨w1, w2⟩ := HWI.out k hlt
              obtain ⟨p1, hp1⟩ : ∃ p, bl1 (k : Int) = p := ⟨_, rfl⟩
              obtain ⟨q1, hq1⟩ : ∃ p, bh1 (k : Int) = p := ⟨_, rfl⟩
              obtain ⟨p2, hp2⟩ : ∃ p, bl2 (k : Int) = p := ⟨_, rfl⟩
              obtain ⟨q2, hq2⟩ : ∃ p, bh2 (k : Int) = p := ⟨_, rfl⟩
              rw [hp1] at g10 w1
              rw [hq1] at g11 w2
              rw [hp2] at g20 w1
              rw [hq2] at g21 w2
              have d1 : decide (p1 < p2) = false := by simp; omega
              have d2 : decide (q2 < q1) = false := by simp; omega
              clear hp1 hq1 hp2 hq2 w1 w2
              go_wp2_with fail
              go_quiet (fail)
              go_wp2_with fail
              go_roundw
              case rel => exact ⟨k + 1, by omega, by go_num, HBE2.out.drewN _⟩
              case measure => simp [intOf]; omega
            · have hlt' : decide ((k : Int) < (l.length : Int)) = false := by simpa using hlt
              go_wp2_with fail
              refine (awake_any _).mono ?_
              rintro e' w8x ⟨rfl, hb⟩
              have HB8 := Lib.hid (HBX.out.trans (hb.mono HBX.out.size))
              clear hb
              go_wp2_with fail
              go_ret
              exact ⟨rfl, HB8.out⟩
end Go.Proofs.Ytkloaeaepjoijaa

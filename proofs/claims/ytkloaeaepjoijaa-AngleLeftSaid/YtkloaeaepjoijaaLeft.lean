/-
  AngleLeft: the walk.
-/
import Derived.Test.YtkloaeaepjoijaaFreed
set_option linter.all false
namespace Go.Proofs.Ytkloaeaepjoijaa
open Go.RowKit Go.WalkArith

theorem net_row {W : World} {g cp n : Nat} {T C : Int} {R : List Ang} (hR : R.length = n) (hn : n ≤ 15) (h : AngRow W g R) :
    Calls Try.prog 22 #[.agg #[.slice (some ⟨g, 0, none⟩) n cp, .int .i64 T, .int .i64 C]] W (fun e w' => ∃ A c, e = .returned (.agg #[.slice A n c, .int .i64 T, .int .i64 C]) ∧ AngsAt w' A R ∧ Below W.heap.size W w') := by
  subst hR
  refine (net_any _ cp T C R W h.angs (by omega)).mono ?_
  rintro e w' ⟨A', c, rfl, ha, _, hb⟩
  exact ⟨A', c, rfl, ha, hb⟩

theorem or_small {a b : Nat} (ha : a < 2 ^ 20) (hb : b < 2 ^ 20) : bits BinOp.or IntKind.i64 (a : Int) (b : Int) = ((a ||| b : Nat) : Int) := by
  have h := Nat.or_lt_two_pow ha hb
  unfold bits
  simp only [BitVec.ofInt_natCast, BitVec.toNat_or, BitVec.toNat_ofNat]
  rw [Nat.mod_eq_of_lt (a := a) (Nat.lt_of_lt_of_le ha (by decide)), Nat.mod_eq_of_lt (a := b) (Nat.lt_of_lt_of_le hb (by decide))]
  exact IntWalk.i64_in _ (by omega)
theorem shl_small {y : Nat} (hy : y ≤ 12) : wrap64 (2 ^ y) = ((2 ^ y : Nat) : Int) := shl_at12 hy

theorem Ups.nth {n : Nat} : ∀ {xs : List Int} {s : Nat}, Ups n s xs → ∀ k (h : k < xs.length), ∃ y : Nat, xs[k] = y ∧ s + k ≤ y ∧ y < n ∧ ∀ j (hj : j < k), xs[j]'(by omega) < xs[k] := by
  intro xs
  induction xs with
  | nil => intro s _ k h; simp at h
  | cons x xs ih =>
    rintro s ⟨m, rfl, h1, h2, h3⟩ k h
    cases k with
    | zero => exact ⟨m, rfl, by omega, h2, fun j hj => by omega⟩
    | succ k =>
      obtain ⟨y, e, a, b, c⟩ := ih h3 k (by simpa using h)
      refine ⟨y, by simpa using e, by omega, b, fun j hj => ?_⟩
      cases j with
      | zero => simp only [List.getElem_cons_zero, List.getElem_cons_succ]; omega
      | succ j => simp only [List.getElem_cons_succ]; exact c j (by omega)
theorem orL_bits {n : Nat} {xs : List Int} (hn : n ≤ 16) (h : Ups n 0 xs) : bitsL (orL xs xs.length) = xs ∧ orL xs xs.length < 2 ^ n := by
  have h0 : ∀ x ∈ xs, 0 ≤ x ∧ x < (n : Int) := fun x hx => by obtain ⟨k, rfl, _, hk⟩ := h.mem x hx; omega
  have hlt := orL_lt h0 xs.length (Nat.le_refl _)
  refine ⟨(bitsL_ups hlt).ext h fun y => ?_, hlt⟩
  rw [bitsL_mem]
  have hb := fun i => orL_bit (fun x hx => (h0 x hx).1) i xs.length (Nat.le_refl _)
  rw [List.take_length] at hb
  constructor
  · rintro ⟨i, rfl, _, hi⟩; rw [hb] at hi; simpa using hi
  · intro hy
    obtain ⟨k, rfl, _, hk⟩ := h.mem y hy
    exact ⟨k, rfl, by omega, by rw [hb]; simpa using hy⟩

theorem tmod_idx {n : Nat} {wh : Int} (h0 : 0 ≤ wh) (hn : 0 < n) : ∃ i : Nat, i < n ∧ wh.tmod (n : Int) = i := by
  have h1 : wh.tmod (n : Int) = wh % (n : Int) := Int.tmod_eq_emod_of_nonneg h0
  have h2 := Int.emod_nonneg wh (by omega : (n : Int) ≠ 0)
  have h3 := Int.emod_lt_of_pos wh (by omega : 0 < (n : Int))
  rw [h1]
  generalize wh % (n : Int) = r at h2 h3 ⊢
  exact ⟨r.toNat, by omega, by omega⟩
theorem sure_freed {l : List Ang} {T C e : Int} {bits : Nat} (hok : NetOk l T C) (e0 : 7 ≤ e) (e1 : e ≤ 12) : sureL (freeL bits l) T C e = if canE l T C e (bitsL bits) then 0 else 9 := by
  have h : askedL (freeL bits l) T C e = 0 := by unfold askedL; rw [if_neg (by rw [faultL_zero.2 (freeL_ok hok)]; simp), if_pos ⟨by omega, by omega⟩]
  rw [sureL_ans h, freeL_can hok e0]
def LfRel (L : List Int) (w2 : World) (s i : Value) (wr : World) : Prop := ∃ k : Nat, k ≤ L.length ∧ i = .int .i64 k ∧ s = .int .i64 (orL L k) ∧ Below w2.heap.size w2 wr

set_option maxRecDepth 100000 in
set_option maxHeartbeats 1000000 in
theorem left_walk (A : Option Addr) (n cap : Nat) (T C : Int) (l : List Ang) (er ou : Int) (w : World)
    (hl : l.length = n) (hA : AngsAt w A l) (_ : NilOk A cap) (he0 : 0 ≤ er) (he1 : er ≤ 255) (hb0 : 0 ≤ ou) (hb1 : ou ≤ 65535) :
    Calls Try.prog 12 #[.agg #[.slice A n cap, .int .i64 T, .int .i64 C], .int .u8 er, .int .u16 ou] w fun e w' => e = .returned (.bool true) ∧ Below w.heap.size w w' := by
  subst hl
  have HA := Lib.hid hA
  clear hA
  have hB0 : Below w.heap.size w (w.alloc (.cells #[.slice A l.length cap, .int .i64 T, .int .i64 C] 24)) := (Below.refl _ _).alloc (Nat.le_refl _) _
  have hn0 : (w.alloc (.cells #[.slice A l.length cap, .int .i64 T, .int .i64 C] 24)).heap[w.heap.size]? = some (.cells #[.slice A l.length cap, .int .i64 T, .int .i64 C] 24 (0, 0)) := heap_new_at _ _ _ rfl
  have HB1 := Lib.hid hB0
  have NBi1 := Lib.hid hn0
  clear hB0 hn0
  go_enter Try.func12, Try.ntmps12
  go_wp2_with fail
  generalize (w.alloc (.cells #[.slice A l.length cap, .int .i64 T, .int .i64 C] 24)) = w1 at HB1 NBi1 ⊢
  obtain ⟨Bi, hBi⟩ : ∃ Bi, w.heap.size = Bi := ⟨_, rfl⟩
  have oBi : w.heap.size ≤ Bi := by omega
  rw [hBi] at NBi1 ⊢
  clear hBi
  have cBi0_1 : w1.cell? ⟨Bi, 0, none⟩ = some (.slice A l.length cap) := by simp [World.cell?, NBi1.out]
  have cBi1_1 : w1.cell? ⟨Bi, 1, none⟩ = some (.int .i64 T) := by simp [World.cell?, NBi1.out]
  have cBi2_1 : w1.cell? ⟨Bi, 2, none⟩ = some (.int .i64 C) := by simp [World.cell?, NBi1.out]
  have hth := Lib.hid (thin_any A l.length cap T C w1)
  by_cases h15 : l.length ≤ 15
  rotate_left
  · have hx15 : 15 < l.length := by omega
    rw [show decide (l.length ≤ 15) = false from (by simp; omega)] at hth
    go_wp2_with fail
    refine (hth.out).mono ?_
    rintro e w2 ⟨rfl, hb⟩
    have HB2 := Lib.hid ((HB1.out).trans (hb.mono (HB1.out).size))
    have NBi2 := Lib.hid ((hb.block Bi (Array.getElem?_eq_some_iff.1 NBi1.out).1).trans NBi1.out)
    clear HB1 NBi1 cBi0_1 cBi1_1 cBi2_1  hb hth
    have cBi0_2 : w2.cell? ⟨Bi, 0, none⟩ = some (.slice A l.length cap) := by simp [World.cell?, NBi2.out]
    have cBi1_2 : w2.cell? ⟨Bi, 1, none⟩ = some (.int .i64 T) := by simp [World.cell?, NBi2.out]
    have cBi2_2 : w2.cell? ⟨Bi, 2, none⟩ = some (.int .i64 C) := by simp [World.cell?, NBi2.out]
    go_wp2_with fail
    refine (awake_any _).mono ?_
    rintro e w3 ⟨rfl, hb⟩
    have HB3 := Lib.hid ((HB2.out).trans (hb.mono (HB2.out).size))
    have NBi3 := Lib.hid ((hb.block Bi (Array.getElem?_eq_some_iff.1 NBi2.out).1).trans NBi2.out)
    clear HB2 NBi2 cBi0_2 cBi1_2 cBi2_2  hb 
    have cBi0_3 : w3.cell? ⟨Bi, 0, none⟩ = some (.slice A l.length cap) := by simp [World.cell?, NBi3.out]
    have cBi1_3 : w3.cell? ⟨Bi, 1, none⟩ = some (.int .i64 T) := by simp [World.cell?, NBi3.out]
    have cBi2_3 : w3.cell? ⟨Bi, 2, none⟩ = some (.int .i64 C) := by simp [World.cell?, NBi3.out]
    go_wp2_with fail
    go_ret
    exact ⟨rfl, HB3.out⟩
  · rw [show decide (l.length ≤ 15) = true from (by simp; omega)] at hth
    go_wp2_with fail
    refine (hth.out).mono ?_
    rintro e w2 ⟨rfl, hb⟩
    have HB2 := Lib.hid ((HB1.out).trans (hb.mono (HB1.out).size))
    have NBi2 := Lib.hid ((hb.block Bi (Array.getElem?_eq_some_iff.1 NBi1.out).1).trans NBi1.out)
    clear HB1 NBi1 cBi0_1 cBi1_1 cBi2_1  hb hth
    have cBi0_2 : w2.cell? ⟨Bi, 0, none⟩ = some (.slice A l.length cap) := by simp [World.cell?, NBi2.out]
    have cBi1_2 : w2.cell? ⟨Bi, 1, none⟩ = some (.int .i64 T) := by simp [World.cell?, NBi2.out]
    have cBi2_2 : w2.cell? ⟨Bi, 2, none⟩ = some (.int .i64 C) := by simp [World.cell?, NBi2.out]
    have hfa := Lib.hid (lawFault_any A l.length cap T C l w2 (by omega) rfl (HA.out.keep HB2.out (Nat.le_refl _)))
    by_cases hf0 : faultL l T C = 0
    rotate_left
    · obtain ⟨F, hF⟩ : ∃ F, faultL l T C = F := ⟨_, rfl⟩
      rw [hF] at hfa hf0
      have hne : (F != 0) = true := by simpa using hf0
      clear hF hf0
      go_wp2_with fail
      refine (hfa.out).mono ?_
      rintro e w3 ⟨rfl, hb⟩
      have HB3 := Lib.hid ((HB2.out).trans (hb.mono (HB2.out).size))
      have NBi3 := Lib.hid ((hb.block Bi (Array.getElem?_eq_some_iff.1 NBi2.out).1).trans NBi2.out)
      clear HB2 NBi2 cBi0_2 cBi1_2 cBi2_2  hb hfa
      have cBi0_3 : w3.cell? ⟨Bi, 0, none⟩ = some (.slice A l.length cap) := by simp [World.cell?, NBi3.out]
      have cBi1_3 : w3.cell? ⟨Bi, 1, none⟩ = some (.int .i64 T) := by simp [World.cell?, NBi3.out]
      have cBi2_3 : w3.cell? ⟨Bi, 2, none⟩ = some (.int .i64 C) := by simp [World.cell?, NBi3.out]
      go_wp2_with fail
      refine (awake_any _).mono ?_
      rintro e w4 ⟨rfl, hb⟩
      have HB4 := Lib.hid ((HB3.out).trans (hb.mono (HB3.out).size))
      have NBi4 := Lib.hid ((hb.block Bi (Array.getElem?_eq_some_iff.1 NBi3.out).1).trans NBi3.out)
      clear HB3 NBi3 cBi0_3 cBi1_3 cBi2_3  hb 
      have cBi0_4 : w4.cell? ⟨Bi, 0, none⟩ = some (.slice A l.length cap) := by simp [World.cell?, NBi4.out]
      have cBi1_4 : w4.cell? ⟨Bi, 1, none⟩ = some (.int .i64 T) := by simp [World.cell?, NBi4.out]
      have cBi2_4 : w4.cell? ⟨Bi, 2, none⟩ = some (.int .i64 C) := by simp [World.cell?, NBi4.out]
      go_wp2_with fail
      go_ret
      exact ⟨rfl, HB4.out⟩
    · rw [hf0] at hfa
      have hok := faultL_zero.1 hf0
      obtain ⟨b, o, hAe⟩ := HA.out.some hok.pos
      subst hAe
      have HO := Lib.hid hok
      have hn12 := hok.len
      have hpos := hok.pos
      clear hok hf0
      go_wp2_with fail
      refine (hfa.out).mono ?_
      rintro e w3 ⟨rfl, hb⟩
      have HB3 := Lib.hid ((HB2.out).trans (hb.mono (HB2.out).size))
      have NBi3 := Lib.hid ((hb.block Bi (Array.getElem?_eq_some_iff.1 NBi2.out).1).trans NBi2.out)
      clear HB2 NBi2 cBi0_2 cBi1_2 cBi2_2  hb hfa
      have cBi0_3 : w3.cell? ⟨Bi, 0, none⟩ = some (.slice (some ⟨b, o, none⟩) l.length cap) := by simp [World.cell?, NBi3.out]
      have cBi1_3 : w3.cell? ⟨Bi, 1, none⟩ = some (.int .i64 T) := by simp [World.cell?, NBi3.out]
      have cBi2_3 : w3.cell? ⟨Bi, 2, none⟩ = some (.int .i64 C) := by simp [World.cell?, NBi3.out]
      go_wp2_with fail
      generalize hE : 7 + er % 6 = e
      have e0 : 7 ≤ e := by omega
      have e1 : e ≤ 12 := by omega
      clear he0 he1 hE
      refine (net_any _ cap T C l _ (HA.out.keep HB3.out (Nat.le_refl _)) (by omega)).mono ?_
      rintro e w4 ⟨Aq1, cq1, rfl, hq, hqn, hb⟩
      have HB4 := Lib.hid ((HB3.out).trans (hb.mono (HB3.out).size))
      have NBi4 := Lib.hid ((hb.block Bi (Array.getElem?_eq_some_iff.1 NBi3.out).1).trans NBi3.out)
      have FQ4 := Lib.hid hq
      clear HB3 NBi3 cBi0_3 cBi1_3 cBi2_3 hq hb hqn
      have cBi0_4 : w4.cell? ⟨Bi, 0, none⟩ = some (.slice (some ⟨b, o, none⟩) l.length cap) := by simp [World.cell?, NBi4.out]
      have cBi1_4 : w4.cell? ⟨Bi, 1, none⟩ = some (.int .i64 T) := by simp [World.cell?, NBi4.out]
      have cBi2_4 : w4.cell? ⟨Bi, 2, none⟩ = some (.int .i64 C) := by simp [World.cell?, NBi4.out]
      have a1 : askedL l T C e = 0 := by unfold askedL; rw [if_neg (by rw [faultL_zero.2 HO.out]; simp), if_pos ⟨by omega, by omega⟩]
      have A1 := Lib.hid a1
      clear a1
      go_wp2_with fail
      refine (leave_gen (cap := cq1) (by omega) rfl FQ4.out A1.out).mono ?_
      rintro e w5 ⟨Al, cl, L, E, rfl, hli, hlv, hb⟩; have HLV := Lib.hid hlv
      have HB5 := Lib.hid ((HB4.out).trans (hb.mono (HB4.out).size))
      have NBi5 := Lib.hid ((hb.block Bi (Array.getElem?_eq_some_iff.1 NBi4.out).1).trans NBi4.out)
      have FQ5 := Lib.hid ((FQ4.out).keep hb (Nat.le_refl _))
      have FV5 := Lib.hid hli
      clear HB4 NBi4 cBi0_4 cBi1_4 cBi2_4 FQ4 hli hb hlv
      have cBi0_5 : w5.cell? ⟨Bi, 0, none⟩ = some (.slice (some ⟨b, o, none⟩) l.length cap) := by simp [World.cell?, NBi5.out]
      have cBi1_5 : w5.cell? ⟨Bi, 1, none⟩ = some (.int .i64 T) := by simp [World.cell?, NBi5.out]
      have cBi2_5 : w5.cell? ⟨Bi, 2, none⟩ = some (.int .i64 C) := by simp [World.cell?, NBi5.out]
      clear FQ5
      have hEE : E = 9 ∨ E = 0 := by
        rcases HLV.out with ⟨_, _, h⟩ | ⟨_, h⟩
        · exact .inl h
        · exact .inr h
      dsimp only
      rcases hEE with rfl | rfl
      · go_wp2_with fail
        refine (awake_any _).mono ?_
        rintro e w6 ⟨rfl, hb⟩
        have HB6 := Lib.hid ((HB5.out).trans (hb.mono (HB5.out).size))
        have NBi6 := Lib.hid ((hb.block Bi (Array.getElem?_eq_some_iff.1 NBi5.out).1).trans NBi5.out)
        have FV6 := Lib.hid ((FV5.out).keep hb (Nat.le_refl _))
        clear HB5 NBi5 cBi0_5 cBi1_5 cBi2_5 FV5 hb 
        have cBi0_6 : w6.cell? ⟨Bi, 0, none⟩ = some (.slice (some ⟨b, o, none⟩) l.length cap) := by simp [World.cell?, NBi6.out]
        have cBi1_6 : w6.cell? ⟨Bi, 1, none⟩ = some (.int .i64 T) := by simp [World.cell?, NBi6.out]
        have cBi2_6 : w6.cell? ⟨Bi, 2, none⟩ = some (.int .i64 C) := by simp [World.cell?, NBi6.out]
        go_wp2_with fail
        go_ret
        exact ⟨rfl, HB6.out⟩
      · obtain ⟨hup, hcL, hmin⟩ := HLV.out.min
        obtain ⟨hset, hslt⟩ := orL_bits (by omega) hup
        have hnth := hup.nth
        have hLn : L.length ≤ 1000000 := by
          rcases hup.len with h | h
          · rw [h]; simp
          · omega
        have h0L : ∀ x ∈ L, 0 ≤ x ∧ x < ((12 : Nat) : Int) := fun x hx => by obtain ⟨k, rfl, _, hk⟩ := hup.mem x hx; omega
        have HUP := Lib.hid hup
        have HCL := Lib.hid hcL
        have HMIN := Lib.hid hmin
        have HSET := Lib.hid hset
        have HSLT := Lib.hid hslt
        have HNTH := Lib.hid hnth
        have H0L := Lib.hid h0L
        clear hup hcL hmin hset hslt hnth h0L
        go_wp2_with fail
        go_loopw [10, 11] (LfRel L w5) (fun _ i _ => L.length - (intOf i).toNat)
        case atStart => exact ⟨0, by omega, rfl, rfl, Below.refl _ _⟩
        case round =>
          obtain ⟨k, hk, rfl, rfl, hbe⟩ := hrel
          have HBE := Lib.hid hbe
          have HBX := Lib.hid (HB5.out.trans (hbe.mono HB5.out.size))
          have HNX := Lib.hid ((hbe.block Bi (Array.getElem?_eq_some_iff.1 NBi5.out).1).trans NBi5.out)
          have HVX := Lib.hid (FV5.out.keep hbe (Nat.le_refl _))
          have x0 : wr.cell? ⟨Bi, 0, none⟩ = some (.slice (some ⟨b, o, none⟩) l.length cap) := by simp [World.cell?, HNX.out]
          have x1 : wr.cell? ⟨Bi, 1, none⟩ = some (.int .i64 T) := by simp [World.cell?, HNX.out]
          have x2 : wr.cell? ⟨Bi, 2, none⟩ = some (.int .i64 C) := by simp [World.cell?, HNX.out]
          clear hbe cBi0_5 cBi1_5 cBi2_5
          by_cases hlt : k < L.length
          · have hlt' : decide ((k : Int) < (L.length : Int)) = true := by simpa using hlt
            have i1 : (0 : Int) ≤ (k : Int) := by omega
            have i2 : (k : Int) < (L.length : Int) := by omega
            obtain ⟨y, hy, _, hyn, hyr⟩ := HNTH.out k hlt
            obtain ⟨_, _, he, hc⟩ := HVX.out
            obtain ⟨rfl, rfl⟩ : Al = _ ∧ cl = _ := by simpa using he
            obtain ⟨lb, lo, rfl, hcc⟩ := Or.resolve_left hc (fun h => by rw [h] at hlt; simp at hlt)
            have ck := hcc k hlt
            rw [hy] at ck
            have hor := orL_succ hlt
            rw [hy, Int.toNat_natCast] at hor
            have hol := orL_lt (T := 12) H0L.out k hk
            have hsh := shl_small (y := y) (by omega)
            have hy2 : 2 ^ y < 2 ^ 20 := Nat.pow_lt_pow_right (by decide) (by omega)
            have hoa := or_small (a := orL L k) (b := 2 ^ y) (Nat.lt_of_lt_of_le hol (by decide)) hy2
            rw [← hsh] at hoa
            obtain ⟨SK, hSK⟩ : ∃ s, orL L k = s := ⟨_, rfl⟩
            rw [hSK] at hoa hor
            rw [hSK]
            have HOR := Lib.hid hor
            have HOA := Lib.hid hoa
            have y0 : (0 : Int) ≤ (y : Int) := by omega
            have d1 : decide ((y : Int) < 0) = false := by simp
            have d2 : decide ((l.length : Int) ≤ (y : Int)) = false := by simp; omega
            have d3 : decide (l.length ≤ y) = false := by simp; omega
            clear hor hoa hsh hy2 hol
            by_cases hk0 : k = 0
            · subst hk0
              simp only [Int.ofNat_zero] at *
              have ck0 : wr.cell? ⟨lb, lo, none⟩ = some (.int .i64 y) := ck
              clear hyr hy he hc hcc HVX ck
              go_wp2_with fail
              go_quiet (fail)
              go_wp2_with fail
              go_roundw
              case rel => exact ⟨0 + 1, by omega, by rfl, by rw [HOA.out, HOR.out], HBE.out.drewN _⟩
              case measure => simp [intOf]; omega
            · obtain ⟨p, rfl⟩ : ∃ p, k = p + 1 := ⟨k - 1, by omega⟩
              have cm := hcc p (by omega)
              have hz := hyr p (by omega)
              rw [hy] at hz
              obtain ⟨z, hze⟩ : ∃ z, L[p]'(by omega) = z := ⟨_, rfl⟩
              rw [hze] at cm hz
              have d4 : decide ((y : Int) ≤ z) = false := decide_eq_false (by omega)
              have j1 : (0 : Int) ≤ (p : Int) := by omega
              have j2 : (p : Int) < (L.length : Int) := by omega
              have j3 : decide ((0 : Int) < ((p + 1 : Nat) : Int)) = true := decide_eq_true (by omega)
              clear hyr hy he hc hcc HVX hze
              go_wp2_with fail
              go_quiet (fail)
              go_wp2_with fail
              go_roundw
              case rel => exact ⟨p + 1 + 1, by omega, by go_num, by rw [HOA.out, HOR.out], HBE.out.drewN _⟩
              case measure => simp [intOf]; omega
          · have hlt' : decide ((k : Int) < (L.length : Int)) = false := by simpa using hlt
            obtain rfl : k = L.length := by omega
            have hset := HSET.out
            have hslt := HSLT.out
            obtain ⟨SS, hSS⟩ : ∃ s, orL L L.length = s := ⟨_, rfl⟩
            rw [hSS] at hset hslt
            rw [hSS]
            have P0 : 2 ^ l.length ≤ 4096 := Nat.pow_le_pow_right (n := 2) (by omega) hn12
            have P1 : 1 ≤ 2 ^ l.length := Nat.two_pow_pos _
            have hsp := shl_at12 hn12
            obtain ⟨NN, hNN⟩ : ∃ N : Nat, 2 ^ l.length = N := ⟨_, rfl⟩
            have hsp2 : wrap64 (2 ^ l.length) = (NN : Int) := by rw [hsp, hNN]
            rw [hNN] at P0 P1 hslt
            obtain ⟨tr, htr, hto⟩ := tmod_idx (n := NN) hb0 (by omega)
            have HNN := Lib.hid hNN
            have HST2 := Lib.hid hset
            have hN0 : (NN : Int) ≠ 0 := by omega
            clear hsp hNN hset hSS
            have NBi20 := HNX
            have HB20 := HBX
            have FV20 := HVX
            have HTR := Lib.hid htr
            clear x0 x1 x2 HBE HNX HBX HVX htr
            have cBi0_20 : wr.cell? ⟨Bi, 0, none⟩ = some (.slice (some ⟨b, o, none⟩) l.length cap) := by simp [World.cell?, NBi20.out]
            have cBi1_20 : wr.cell? ⟨Bi, 1, none⟩ = some (.int .i64 T) := by simp [World.cell?, NBi20.out]
            have cBi2_20 : wr.cell? ⟨Bi, 2, none⟩ = some (.int .i64 C) := by simp [World.cell?, NBi20.out]
            have hs1 := sure_freed (bits := SS) HO.out e0 e1
            rw [HST2.out, HCL.out] at hs1
            have hs2 := sure_freed (bits := tr) HO.out e0 e1
            have HS1 := Lib.hid hs1
            have HS2 := Lib.hid hs2
            clear hs1 hs2
            go_wp2_with fail
            refine (freed_any b o cap T C l SS _ hpos hn12 (HA.out.keep HB20.out (Nat.le_refl _))).mono ?_
            rintro e w21 ⟨g1, p1, rfl, hr1, hb⟩
            have HB21 := Lib.hid ((HB20.out).trans (hb.mono (HB20.out).size))
            have NBi21 := Lib.hid ((hb.block Bi (Array.getElem?_eq_some_iff.1 NBi20.out).1).trans NBi20.out)
            have FV21 := Lib.hid ((FV20.out).keep hb (Nat.le_refl _))
            have FR21 := Lib.hid hr1
            clear HB20 NBi20 cBi0_20 cBi1_20 cBi2_20 FV20 hr1 hb 
            have cBi0_21 : w21.cell? ⟨Bi, 0, none⟩ = some (.slice (some ⟨b, o, none⟩) l.length cap) := by simp [World.cell?, NBi21.out]
            have cBi1_21 : w21.cell? ⟨Bi, 1, none⟩ = some (.int .i64 T) := by simp [World.cell?, NBi21.out]
            have cBi2_21 : w21.cell? ⟨Bi, 2, none⟩ = some (.int .i64 C) := by simp [World.cell?, NBi21.out]
            go_wp2_with fail
            refine (net_row freeL_len (by omega) FR21.out).mono ?_
            rintro e w22 ⟨Aq1, cq1, rfl, hq, hb⟩
            have HB22 := Lib.hid ((HB21.out).trans (hb.mono (HB21.out).size))
            have NBi22 := Lib.hid ((hb.block Bi (Array.getElem?_eq_some_iff.1 NBi21.out).1).trans NBi21.out)
            have FV22 := Lib.hid ((FV21.out).keep hb (Nat.le_refl _))
            have FR22 := Lib.hid ((FR21.out).keep hb (Nat.le_refl _))
            have FQ22 := Lib.hid hq
            clear HB21 NBi21 cBi0_21 cBi1_21 cBi2_21 FV21 FR21 hq hb 
            have cBi0_22 : w22.cell? ⟨Bi, 0, none⟩ = some (.slice (some ⟨b, o, none⟩) l.length cap) := by simp [World.cell?, NBi22.out]
            have cBi1_22 : w22.cell? ⟨Bi, 1, none⟩ = some (.int .i64 T) := by simp [World.cell?, NBi22.out]
            have cBi2_22 : w22.cell? ⟨Bi, 2, none⟩ = some (.int .i64 C) := by simp [World.cell?, NBi22.out]
            clear FR22
            go_wp2_with fail
            refine (show_gen (cap := cq1) (by omega) freeL_len FQ22.out).mono ?_
            rintro e w23 ⟨As1, cs1, xs1, rfl, hsv, hst, hb⟩; rw [HS1.out]
            have HB23 := Lib.hid ((HB22.out).trans (hb.mono (HB22.out).size))
            have NBi23 := Lib.hid ((hb.block Bi (Array.getElem?_eq_some_iff.1 NBi22.out).1).trans NBi22.out)
            have FV23 := Lib.hid ((FV22.out).keep hb (Nat.le_refl _))
            have FQ23 := Lib.hid ((FQ22.out).keep hb (Nat.le_refl _))
            clear HB22 NBi22 cBi0_22 cBi1_22 cBi2_22 FV22 FQ22 hb hsv hst
            have cBi0_23 : w23.cell? ⟨Bi, 0, none⟩ = some (.slice (some ⟨b, o, none⟩) l.length cap) := by simp [World.cell?, NBi23.out]
            have cBi1_23 : w23.cell? ⟨Bi, 1, none⟩ = some (.int .i64 T) := by simp [World.cell?, NBi23.out]
            have cBi2_23 : w23.cell? ⟨Bi, 2, none⟩ = some (.int .i64 C) := by simp [World.cell?, NBi23.out]
            clear FQ23
            rcases (by cases canE l T C e (bitsL tr) <;> simp : canE l T C e (bitsL tr) = false ∨ canE l T C e (bitsL tr) = true) with hct | hct
            · replace HS2 := Lib.hid (HS2.out.trans (by rw [hct]; rfl : _ = (9 : Int)))
              clear hct
              go_wp2_with fail
              refine (freed_any b o cap T C l tr _ hpos hn12 (HA.out.keep HB23.out (Nat.le_refl _))).mono ?_
              rintro e w24 ⟨g2, p2, rfl, hr2, hb⟩
              have HB24 := Lib.hid ((HB23.out).trans (hb.mono (HB23.out).size))
              have NBi24 := Lib.hid ((hb.block Bi (Array.getElem?_eq_some_iff.1 NBi23.out).1).trans NBi23.out)
              have FV24 := Lib.hid ((FV23.out).keep hb (Nat.le_refl _))
              have FR24 := Lib.hid hr2
              clear HB23 NBi23 cBi0_23 cBi1_23 cBi2_23 FV23 hr2 hb 
              have cBi0_24 : w24.cell? ⟨Bi, 0, none⟩ = some (.slice (some ⟨b, o, none⟩) l.length cap) := by simp [World.cell?, NBi24.out]
              have cBi1_24 : w24.cell? ⟨Bi, 1, none⟩ = some (.int .i64 T) := by simp [World.cell?, NBi24.out]
              have cBi2_24 : w24.cell? ⟨Bi, 2, none⟩ = some (.int .i64 C) := by simp [World.cell?, NBi24.out]
              go_wp2_with fail
              refine (net_row freeL_len (by omega) FR24.out).mono ?_
              rintro e w25 ⟨Aq2, cq2, rfl, hq, hb⟩
              have HB25 := Lib.hid ((HB24.out).trans (hb.mono (HB24.out).size))
              have NBi25 := Lib.hid ((hb.block Bi (Array.getElem?_eq_some_iff.1 NBi24.out).1).trans NBi24.out)
              have FV25 := Lib.hid ((FV24.out).keep hb (Nat.le_refl _))
              have FR25 := Lib.hid ((FR24.out).keep hb (Nat.le_refl _))
              have FQ25 := Lib.hid hq
              clear HB24 NBi24 cBi0_24 cBi1_24 cBi2_24 FV24 FR24 hq hb 
              have cBi0_25 : w25.cell? ⟨Bi, 0, none⟩ = some (.slice (some ⟨b, o, none⟩) l.length cap) := by simp [World.cell?, NBi25.out]
              have cBi1_25 : w25.cell? ⟨Bi, 1, none⟩ = some (.int .i64 T) := by simp [World.cell?, NBi25.out]
              have cBi2_25 : w25.cell? ⟨Bi, 2, none⟩ = some (.int .i64 C) := by simp [World.cell?, NBi25.out]
              clear FR25
              go_wp2_with fail
              refine (show_gen (cap := cq2) (by omega) freeL_len FQ25.out).mono ?_
              rintro e w26 ⟨As2, cs2, xs2, rfl, hsv, hst, hb⟩; rw [HS2.out]
              have HB26 := Lib.hid ((HB25.out).trans (hb.mono (HB25.out).size))
              have NBi26 := Lib.hid ((hb.block Bi (Array.getElem?_eq_some_iff.1 NBi25.out).1).trans NBi25.out)
              have FV26 := Lib.hid ((FV25.out).keep hb (Nat.le_refl _))
              have FQ26 := Lib.hid ((FQ25.out).keep hb (Nat.le_refl _))
              clear HB25 NBi25 cBi0_25 cBi1_25 cBi2_25 FV25 FQ25 hb hsv hst
              have cBi0_26 : w26.cell? ⟨Bi, 0, none⟩ = some (.slice (some ⟨b, o, none⟩) l.length cap) := by simp [World.cell?, NBi26.out]
              have cBi1_26 : w26.cell? ⟨Bi, 1, none⟩ = some (.int .i64 T) := by simp [World.cell?, NBi26.out]
              have cBi2_26 : w26.cell? ⟨Bi, 2, none⟩ = some (.int .i64 C) := by simp [World.cell?, NBi26.out]
              clear FQ26
              go_wp2_with fail
              refine (awake_any _).mono ?_
              rintro e w27 ⟨rfl, hb⟩
              have HB27 := Lib.hid ((HB26.out).trans (hb.mono (HB26.out).size))
              have NBi27 := Lib.hid ((hb.block Bi (Array.getElem?_eq_some_iff.1 NBi26.out).1).trans NBi26.out)
              have FV27 := Lib.hid ((FV26.out).keep hb (Nat.le_refl _))
              clear HB26 NBi26 cBi0_26 cBi1_26 cBi2_26 FV26 hb 
              have cBi0_27 : w27.cell? ⟨Bi, 0, none⟩ = some (.slice (some ⟨b, o, none⟩) l.length cap) := by simp [World.cell?, NBi27.out]
              have cBi1_27 : w27.cell? ⟨Bi, 1, none⟩ = some (.int .i64 T) := by simp [World.cell?, NBi27.out]
              have cBi2_27 : w27.cell? ⟨Bi, 2, none⟩ = some (.int .i64 C) := by simp [World.cell?, NBi27.out]
              go_wp2_with fail
              go_ret
              exact ⟨rfl, HB27.out⟩
            · replace HS2 := Lib.hid (HS2.out.trans (by rw [hct]; rfl : _ = (0 : Int)))
              have htu : Ups l.length 0 (bitsL tr) := bitsL_ups (by rw [HNN.out]; exact HTR.out)
              have hls : lessB (bitsL tr) L = false := by
                cases q : lessB (bitsL tr) L with
                | false => rfl
                | true => rw [HMIN.out _ htu q] at hct; cases hct
              have hbl : (bitsL tr).length ≤ 1000000 := by
                rcases htu.len with h | h
                · rw [h]; simp
                · omega
              have HLS := Lib.hid hls
              have HBL := Lib.hid hbl
              clear hct htu hls hbl
              go_wp2_with fail
              refine (freed_any b o cap T C l tr _ hpos hn12 (HA.out.keep HB23.out (Nat.le_refl _))).mono ?_
              rintro e w24 ⟨g2, p2, rfl, hr2, hb⟩
              have HB24 := Lib.hid ((HB23.out).trans (hb.mono (HB23.out).size))
              have NBi24 := Lib.hid ((hb.block Bi (Array.getElem?_eq_some_iff.1 NBi23.out).1).trans NBi23.out)
              have FV24 := Lib.hid ((FV23.out).keep hb (Nat.le_refl _))
              have FR24 := Lib.hid hr2
              clear HB23 NBi23 cBi0_23 cBi1_23 cBi2_23 FV23 hr2 hb 
              have cBi0_24 : w24.cell? ⟨Bi, 0, none⟩ = some (.slice (some ⟨b, o, none⟩) l.length cap) := by simp [World.cell?, NBi24.out]
              have cBi1_24 : w24.cell? ⟨Bi, 1, none⟩ = some (.int .i64 T) := by simp [World.cell?, NBi24.out]
              have cBi2_24 : w24.cell? ⟨Bi, 2, none⟩ = some (.int .i64 C) := by simp [World.cell?, NBi24.out]
              go_wp2_with fail
              refine (net_row freeL_len (by omega) FR24.out).mono ?_
              rintro e w25 ⟨Aq2, cq2, rfl, hq, hb⟩
              have HB25 := Lib.hid ((HB24.out).trans (hb.mono (HB24.out).size))
              have NBi25 := Lib.hid ((hb.block Bi (Array.getElem?_eq_some_iff.1 NBi24.out).1).trans NBi24.out)
              have FV25 := Lib.hid ((FV24.out).keep hb (Nat.le_refl _))
              have FR25 := Lib.hid ((FR24.out).keep hb (Nat.le_refl _))
              have FQ25 := Lib.hid hq
              clear HB24 NBi24 cBi0_24 cBi1_24 cBi2_24 FV24 FR24 hq hb 
              have cBi0_25 : w25.cell? ⟨Bi, 0, none⟩ = some (.slice (some ⟨b, o, none⟩) l.length cap) := by simp [World.cell?, NBi25.out]
              have cBi1_25 : w25.cell? ⟨Bi, 1, none⟩ = some (.int .i64 T) := by simp [World.cell?, NBi25.out]
              have cBi2_25 : w25.cell? ⟨Bi, 2, none⟩ = some (.int .i64 C) := by simp [World.cell?, NBi25.out]
              clear FR25
              go_wp2_with fail
              refine (show_gen (cap := cq2) (by omega) freeL_len FQ25.out).mono ?_
              rintro e w26 ⟨As2, cs2, xs2, rfl, hsv, hst, hb⟩; rw [HS2.out]
              have HB26 := Lib.hid ((HB25.out).trans (hb.mono (HB25.out).size))
              have NBi26 := Lib.hid ((hb.block Bi (Array.getElem?_eq_some_iff.1 NBi25.out).1).trans NBi25.out)
              have FV26 := Lib.hid ((FV25.out).keep hb (Nat.le_refl _))
              have FQ26 := Lib.hid ((FQ25.out).keep hb (Nat.le_refl _))
              clear HB25 NBi25 cBi0_25 cBi1_25 cBi2_25 FV25 FQ25 hb hsv hst
              have cBi0_26 : w26.cell? ⟨Bi, 0, none⟩ = some (.slice (some ⟨b, o, none⟩) l.length cap) := by simp [World.cell?, NBi26.out]
              have cBi1_26 : w26.cell? ⟨Bi, 1, none⟩ = some (.int .i64 T) := by simp [World.cell?, NBi26.out]
              have cBi2_26 : w26.cell? ⟨Bi, 2, none⟩ = some (.int .i64 C) := by simp [World.cell?, NBi26.out]
              clear FQ26
              go_wp2_with fail
              refine (refBits_any tr _ (by have := HTR.out; omega)).mono ?_
              rintro e w27 ⟨vt, rfl, hvt, hb⟩
              have HB27 := Lib.hid ((HB26.out).trans (hb.mono (HB26.out).size))
              have NBi27 := Lib.hid ((hb.block Bi (Array.getElem?_eq_some_iff.1 NBi26.out).1).trans NBi26.out)
              have FV27 := Lib.hid ((FV26.out).keep hb (Nat.le_refl _))
              have FT27 := Lib.hid hvt
              clear HB26 NBi26 cBi0_26 cBi1_26 cBi2_26 FV26 hvt hb 
              have cBi0_27 : w27.cell? ⟨Bi, 0, none⟩ = some (.slice (some ⟨b, o, none⟩) l.length cap) := by simp [World.cell?, NBi27.out]
              have cBi1_27 : w27.cell? ⟨Bi, 1, none⟩ = some (.int .i64 T) := by simp [World.cell?, NBi27.out]
              have cBi2_27 : w27.cell? ⟨Bi, 2, none⟩ = some (.int .i64 C) := by simp [World.cell?, NBi27.out]
              have hle := Lib.hid (refLess_any _ _ (bitsL tr) L w27 FT27.out FV27.out HBL.out hLn)
              rw [HLS.out] at hle
              obtain ⟨At, ct, rfl, _⟩ := id FT27.out
              go_wp2_with fail
              refine (hle.out).mono ?_
              rintro e w28 ⟨rfl, hb⟩
              have HB28 := Lib.hid ((HB27.out).trans (hb.mono (HB27.out).size))
              have NBi28 := Lib.hid ((hb.block Bi (Array.getElem?_eq_some_iff.1 NBi27.out).1).trans NBi27.out)
              have FV28 := Lib.hid ((FV27.out).keep hb (Nat.le_refl _))
              have FT28 := Lib.hid ((FT27.out).keep hb (Nat.le_refl _))
              clear HB27 NBi27 cBi0_27 cBi1_27 cBi2_27 FV27 FT27 hb hle
              have cBi0_28 : w28.cell? ⟨Bi, 0, none⟩ = some (.slice (some ⟨b, o, none⟩) l.length cap) := by simp [World.cell?, NBi28.out]
              have cBi1_28 : w28.cell? ⟨Bi, 1, none⟩ = some (.int .i64 T) := by simp [World.cell?, NBi28.out]
              have cBi2_28 : w28.cell? ⟨Bi, 2, none⟩ = some (.int .i64 C) := by simp [World.cell?, NBi28.out]
              go_wp2_with fail
              refine (awake_any _).mono ?_
              rintro e w29 ⟨rfl, hb⟩
              have HB29 := Lib.hid ((HB28.out).trans (hb.mono (HB28.out).size))
              have NBi29 := Lib.hid ((hb.block Bi (Array.getElem?_eq_some_iff.1 NBi28.out).1).trans NBi28.out)
              have FV29 := Lib.hid ((FV28.out).keep hb (Nat.le_refl _))
              have FT29 := Lib.hid ((FT28.out).keep hb (Nat.le_refl _))
              clear HB28 NBi28 cBi0_28 cBi1_28 cBi2_28 FV28 FT28 hb 
              have cBi0_29 : w29.cell? ⟨Bi, 0, none⟩ = some (.slice (some ⟨b, o, none⟩) l.length cap) := by simp [World.cell?, NBi29.out]
              have cBi1_29 : w29.cell? ⟨Bi, 1, none⟩ = some (.int .i64 T) := by simp [World.cell?, NBi29.out]
              have cBi2_29 : w29.cell? ⟨Bi, 2, none⟩ = some (.int .i64 C) := by simp [World.cell?, NBi29.out]
              go_wp2_with fail
              go_ret
              exact ⟨rfl, HB29.out⟩
end Go.Proofs.Ytkloaeaepjoijaa

/-
  The reference: In, Fault, rising, has; the laws' fault, asked.
-/
import Derived.Test.YtkloaeaepjoijaaHelp
set_option linter.all false
namespace Go.Proofs.Ytkloaeaepjoijaa
open Go.RowKit Go.WalkArith

theorem refIn_any (n lo hi : Int) (w : World) :
    Calls Try.prog 46 #[.int .i64 n, .int .i64 lo, .int .i64 hi] w fun e w' => e = .returned (.bool (inB n lo hi)) ∧ w = w' := by
  by_cases h1 : lo ≤ n
  · by_cases h2 : n ≤ hi
    · go_enter Try.func46, Try.ntmps46
      go_wp2
      go_ret
      exact ⟨by simp [inB, h1, h2], rfl⟩
    · have h2' : decide (n ≤ hi) = false := by simpa using h2
      go_enter Try.func46, Try.ntmps46
      go_wp2
      go_ret
      exact ⟨by simp [inB, h2], rfl⟩
  · have h1' : decide (lo ≤ n) = false := by simpa using h1
    go_enter Try.func46, Try.ntmps46
    go_wp2
    go_ret
    exact ⟨by rw [show inB n lo hi = false from (by unfold inB; rw [decide_eq_false_iff_not]; omega)]; rfl, rfl⟩

def FRel (l : List Ang) (T C : Int) (n : Nat) (w : World) (Bi : Nat) (net : Obj) (i : Value) (wr : World) : Prop :=
  ∃ k : Nat, k ≤ n ∧ i = .int .i64 k ∧ wr.heap[Bi]? = some net ∧ (∀ j (h : j < l.length), j < k → angOk T C l[j] = true) ∧ Below w.heap.size w wr

theorem angs_not {l : List Ang} {T C : Int} {k : Nat} (h : k < l.length) (e : angOk T C l[k] = false) : l.all (angOk T C) = false := by
  rw [List.all_eq_false]
  exact ⟨_, List.getElem_mem h, by rw [e]; simp⟩
theorem angs_all {l : List Ang} {T C : Int} (h : ∀ j (hj : j < l.length), angOk T C l[j] = true) : l.all (angOk T C) = true := by
  rw [List.all_eq_true]
  intro a ha
  obtain ⟨j, hj, rfl⟩ := List.getElem_of_mem ha
  exact h j hj

set_option maxRecDepth 100000 in
set_option maxHeartbeats 4000000 in
theorem refFault_any (A : Option Addr) (n cap : Nat) (T C : Int) (l : List Ang) (w : World) (hn : n ≤ 1000000) (hl : l.length = n) (hA : AngsAt w A l) :
    Calls Try.prog 50 #[.agg #[.slice A n cap, .int .i64 T, .int .i64 C]] w fun e w' => e = .returned (.int .i64 (faultL l T C)) ∧ Below w.heap.size w w' := by
  have hB : Below w.heap.size w (w.alloc (.cells #[.slice A n cap, .int .i64 T, .int .i64 C] 24)) := (Below.refl _ _).alloc (Nat.le_refl _) _
  have HB := Lib.hid hB
  clear hB
  by_cases h1 : 12 < n
  · have hf : faultL l T C = 3 := by unfold faultL; rw [if_pos (.inl (by omega))]
    have HF := Lib.hid hf
    clear hf hl hA
    go_enter Try.func50, Try.ntmps50
    go_wp2_with fail
    go_ret
    exact ⟨by rw [HF.out]; rfl, HB.out⟩
  by_cases h2 : 5 < T
  · have hf : faultL l T C = 3 := by unfold faultL; rw [if_pos (.inr (.inl h2))]
    have HF := Lib.hid hf
    clear hf hl hA
    go_enter Try.func50, Try.ntmps50
    go_wp2_with fail
    go_ret
    exact ⟨by rw [HF.out]; rfl, HB.out⟩
  by_cases h3 : 5 < C
  · have hf : faultL l T C = 3 := by unfold faultL; rw [if_pos (.inr (.inr h3))]
    have HF := Lib.hid hf
    clear hf hl hA
    go_enter Try.func50, Try.ntmps50
    go_wp2_with fail
    go_ret
    exact ⟨by rw [HF.out]; rfl, HB.out⟩
  have hnn : ¬ (12 < l.length ∨ 5 < T ∨ 5 < C) := by omega
  by_cases h4 : n = 0
  · have hf : faultL l T C = 1 := by unfold faultL; rw [if_neg hnn, if_pos (.inl (by omega))]
    have HF := Lib.hid hf
    clear hf hl hA
    clear hnn
    subst h4
    go_enter Try.func50, Try.ntmps50
    go_wp2_with fail
    go_ret
    exact ⟨by rw [HF.out]; rfl, HB.out⟩
  have h4' : ((n : Int) == 0) = false := by simpa using h4
  by_cases h5 : T < 0
  · have hf : faultL l T C = 1 := by unfold faultL; rw [if_neg hnn, if_pos (.inr (.inl h5))]
    have HF := Lib.hid hf
    clear hf hl hA
    clear hnn
    go_enter Try.func50, Try.ntmps50
    go_wp2_with fail
    go_ret
    exact ⟨by rw [HF.out]; rfl, HB.out⟩
  by_cases h6 : C < 0
  · have hf : faultL l T C = 1 := by unfold faultL; rw [if_neg hnn, if_pos (.inr (.inr (.inl h6)))]
    have HF := Lib.hid hf
    clear hf hl hA
    clear hnn
    go_enter Try.func50, Try.ntmps50
    go_wp2_with fail
    go_ret
    exact ⟨by rw [HF.out]; rfl, HB.out⟩
  obtain ⟨b, o, rfl⟩ := hA.some (by omega)
  have hn0 := Go.heap_alloc_new w (.cells #[.slice (some ⟨b, o, none⟩) n cap, .int .i64 T, .int .i64 C] 24)
  have HN := Lib.hid hn0
  have HA := Lib.hid hA
  have HL := Lib.hid hl
  have HNN := Lib.hid hnn
  clear hn0 hA hl hnn
  go_enter Try.func50, Try.ntmps50
  go_wp2_with fail
  generalize w.alloc (.cells #[.slice (some ⟨b, o, none⟩) n cap, .int .i64 T, .int .i64 C] 24) = w1 at HB HN ⊢
  obtain ⟨Bi, hBi⟩ : ∃ Bi, w.heap.size = Bi := ⟨_, rfl⟩
  rw [hBi] at HN ⊢
  clear hBi
  go_loopw [3] (FRel l T C n w Bi (.cells #[.slice (some ⟨b, o, none⟩) n cap, .int .i64 T, .int .i64 C] 24 (0, 0))) (fun i _ => n - (intOf i).toNat)
  case atStart => exact ⟨0, by omega, rfl, HN.out, fun j _ h => by omega, HB.out⟩
  case round =>
    clear HB HN
    obtain ⟨k, hk, rfl, hI, hno, hBe⟩ := hrel
    have x0 : wr.cell? ⟨Bi, 0, none⟩ = some (.slice (some ⟨b, o, none⟩) n cap) := by simp [World.cell?, hI]
    have x1 : wr.cell? ⟨Bi, 1, none⟩ = some (.int .i64 T) := by simp [World.cell?, hI]
    have lBi : Bi < wr.heap.size := (Array.getElem?_eq_some_iff.1 hI).1
    by_cases hlt : k < n
    · have hlt' : decide ((k : Int) < (n : Int)) = true := by simpa using hlt
      have hlk : k < l.length := by rw [HL.out]; exact hlt
      have hAw := HA.out.keep hBe (Nat.le_refl _)
      obtain ⟨b', o', hAe, hAs⟩ := hAw.resolve_left (fun h => by rw [h] at hlk; simp at hlk)
      obtain ⟨rfl, rfl⟩ : b = b' ∧ o = o' := by simpa using hAe
      obtain ⟨ak0, ak1, ak2, ak3⟩ := hAs k hlk
      have hok : angOk T C l[k] = (inB l[k].t (-1) (T - 1) && inB l[k].c (-1) (C - 1) && inB l[k].r 0 40 && inB l[k].g 1 3) := rfl
      have HOK := Lib.hid hok
      obtain ⟨a, ha⟩ : ∃ a, l[k] = a := ⟨_, rfl⟩
      rw [ha] at ak0 ak1 ak2 ak3 HOK
      have HAE := Lib.hid ha
      have HNO := Lib.hid hno
      have HI := Lib.hid hI
      have HBe := Lib.hid hBe
      have i1 : (0 : Int) ≤ (k : Int) := by omega
      have i2 : (k : Int) < (n : Int) := by omega
      clear hno hI hBe ha hok hAs hAe hAw
      go_wp2_with fail
      have hblk := Go.heap_alloc_new wr (.cells #[.int .i64 a.t, .int .i64 a.c, .int .i64 a.r, .int .i64 a.g] 71)
      have hBw : Below wr.heap.size wr (wr.alloc (.cells #[.int .i64 a.t, .int .i64 a.c, .int .i64 a.r, .int .i64 a.g] 71)) := (Below.refl _ _).alloc (Nat.le_refl _) _
      generalize wr.alloc (.cells #[.int .i64 a.t, .int .i64 a.c, .int .i64 a.r, .int .i64 a.g] 71) = w2 at hblk hBw ⊢
      have hI2 := (hBw.block Bi (Array.getElem?_eq_some_iff.1 HI.out).1).trans HI.out
      have hB2 : Below w.heap.size w w2 := HBe.out.trans (hBw.mono HBe.out.size)
      obtain ⟨Ba, hBa⟩ : ∃ Ba, wr.heap.size = Ba := ⟨_, rfl⟩
      rw [hBa] at hblk ⊢
      have y1 : w2.cell? ⟨Bi, 1, none⟩ = some (.int .i64 T) := by simp [World.cell?, hI2]
      have y2 : w2.cell? ⟨Bi, 2, none⟩ = some (.int .i64 C) := by simp [World.cell?, hI2]
      have a0 : w2.cell? ⟨Ba, 0, none⟩ = some (.int .i64 a.t) := by simp [World.cell?, hblk]
      have a1 : w2.cell? ⟨Ba, 1, none⟩ = some (.int .i64 a.c) := by simp [World.cell?, hblk]
      have a2 : w2.cell? ⟨Ba, 2, none⟩ = some (.int .i64 a.r) := by simp [World.cell?, hblk]
      have a3 : w2.cell? ⟨Ba, 3, none⟩ = some (.int .i64 a.g) := by simp [World.cell?, hblk]
      have HI2 := Lib.hid hI2
      have HB2 := Lib.hid hB2
      clear hI2 hB2 hblk hBw hBa HI HBe ak0 ak1 ak2 ak3 x0 x1 lBi
      have q1 := Lib.hid (fun w => refIn_any a.t (-1) (T - 1) w)
      have q2 := Lib.hid (fun w => refIn_any a.c (-1) (C - 1) w)
      have q3 := Lib.hid (fun w => refIn_any a.r 0 40 w)
      have q4 := Lib.hid (fun w => refIn_any a.g 1 3 w)
      cases e1 : inB a.t (-1) (T - 1) with
      | false =>
        have hf : faultL l T C = 1 := by unfold faultL; rw [if_neg HNN.out, if_pos (.inr (.inr (.inr (angs_not hlk (by rw [HAE.out, HOK.out, e1]; simp)))))]
        have HF := Lib.hid hf
        rw [e1] at q1
        clear hf HOK HNN
        refine (q1.out _).mono ?_
        rintro e w' ⟨rfl, rfl⟩
        go_wp2_with fail
        go_ret
        exact ⟨by rw [HF.out]; rfl, HB2.out⟩
      | true =>
        cases e2 : inB a.c (-1) (C - 1) with
        | false =>
          have hf : faultL l T C = 1 := by unfold faultL; rw [if_neg HNN.out, if_pos (.inr (.inr (.inr (angs_not hlk (by rw [HAE.out, HOK.out, e1, e2]; simp)))))]
          have HF := Lib.hid hf
          rw [e1] at q1; rw [e2] at q2
          clear hf HOK HNN
          refine (q1.out _).mono ?_
          rintro e w' ⟨rfl, rfl⟩
          go_wp2_with fail
          refine (q2.out _).mono ?_
          rintro e w' ⟨rfl, rfl⟩
          go_wp2_with fail
          go_ret
          exact ⟨by rw [HF.out]; rfl, HB2.out⟩
        | true =>
          cases e3 : inB a.r 0 40 with
          | false =>
            have hf : faultL l T C = 1 := by unfold faultL; rw [if_neg HNN.out, if_pos (.inr (.inr (.inr (angs_not hlk (by rw [HAE.out, HOK.out, e1, e2, e3]; simp)))))]
            have HF := Lib.hid hf
            rw [e1] at q1; rw [e2] at q2; rw [e3] at q3
            clear hf HOK HNN
            refine (q1.out _).mono ?_
            rintro e w' ⟨rfl, rfl⟩
            go_wp2_with fail
            refine (q2.out _).mono ?_
            rintro e w' ⟨rfl, rfl⟩
            go_wp2_with fail
            refine (q3.out _).mono ?_
            rintro e w' ⟨rfl, rfl⟩
            go_wp2_with fail
            go_ret
            exact ⟨by rw [HF.out]; rfl, HB2.out⟩
          | true =>
            cases e4 : inB a.g 1 3 with
            | false =>
              have hf : faultL l T C = 1 := by unfold faultL; rw [if_neg HNN.out, if_pos (.inr (.inr (.inr (angs_not hlk (by rw [HAE.out, HOK.out, e1, e2, e3, e4]; rfl)))))]
              have HF := Lib.hid hf
              rw [e1] at q1; rw [e2] at q2; rw [e3] at q3; rw [e4] at q4
              clear hf HOK HNN
              refine (q1.out _).mono ?_
              rintro e w' ⟨rfl, rfl⟩
              go_wp2_with fail
              refine (q2.out _).mono ?_
              rintro e w' ⟨rfl, rfl⟩
              go_wp2_with fail
              refine (q3.out _).mono ?_
              rintro e w' ⟨rfl, rfl⟩
              go_wp2_with fail
              refine (q4.out _).mono ?_
              rintro e w' ⟨rfl, rfl⟩
              go_wp2_with fail
              go_ret
              exact ⟨by rw [HF.out]; rfl, HB2.out⟩
            | true =>
              have hone : angOk T C l[k] = true := by rw [HAE.out, HOK.out, e1, e2, e3, e4]; rfl
              have HONE := Lib.hid hone
              rw [e1] at q1; rw [e2] at q2; rw [e3] at q3; rw [e4] at q4
              clear hone HOK
              refine (q1.out _).mono ?_
              rintro e w' ⟨rfl, rfl⟩
              go_wp2_with fail
              refine (q2.out _).mono ?_
              rintro e w' ⟨rfl, rfl⟩
              go_wp2_with fail
              refine (q3.out _).mono ?_
              rintro e w' ⟨rfl, rfl⟩
              go_wp2_with fail
              refine (q4.out _).mono ?_
              rintro e w' ⟨rfl, rfl⟩
              go_wp2_with fail
              go_roundw
              case rel => exact ⟨k + 1, by omega, by go_num, HI2.out, fun j hj hjk => by
                by_cases e : j = k
                · subst e; exact HONE.out
                · exact HNO.out j hj (by omega), HB2.out⟩
              case measure => simp [intOf]; omega
    · have hlt' : decide ((k : Int) < (n : Int)) = false := by simpa using hlt
      have hf : faultL l T C = 0 := by
        have hlen := HL.out
        unfold faultL
        rw [if_neg HNN.out, if_neg (by rw [angs_all fun j hj => hno j hj (by omega)]; rintro (h | h | h | h) <;> first | omega | cases h)]
      have HF := Lib.hid hf
      have HBe := Lib.hid hBe
      clear hf hno hBe
      go_wp2_with fail
      go_ret
      exact ⟨by rw [HF.out]; rfl, HBe.out⟩

set_option maxRecDepth 100000 in
theorem lawFault_any (A : Option Addr) (n cap : Nat) (T C : Int) (l : List Ang) (w : World) (hn : n ≤ 1000000) (hl : l.length = n) (hA : AngsAt w A l) :
    Calls Try.prog 27 #[.agg #[.slice A n cap, .int .i64 T, .int .i64 C]] w fun e w' => e = .returned (.int .i64 (faultL l T C)) ∧ Below w.heap.size w w' := by
  have hB : Below w.heap.size w (w.alloc (.cells #[.slice A n cap, .int .i64 T, .int .i64 C] 24)) := (Below.refl _ _).alloc (Nat.le_refl _) _
  have hck := Lib.hid (refFault_any A n cap T C l _ hn hl (hA.keep hB (Nat.le_refl _)))
  have HB := Lib.hid hB
  clear hB hA hl
  go_enter Try.func27, Try.ntmps27
  go_wp2_with (go_at_call 50; refine hck.out.mono ?_; rintro e w' ⟨rfl, hb1⟩)
  go_ret
  exact ⟨rfl, HB.out.trans (hb1.mono HB.out.size)⟩

set_option maxRecDepth 100000 in
set_option maxHeartbeats 1000000 in
theorem lawAsked_any (A : Option Addr) (n cap : Nat) (T C err : Int) (l : List Ang) (w : World) (hn : n ≤ 1000000) (hl : l.length = n) (hA : AngsAt w A l) :
    Calls Try.prog 28 #[.agg #[.slice A n cap, .int .i64 T, .int .i64 C], .int .i64 err] w fun e w' => e = .returned (.int .i64 (askedL l T C err)) ∧ Below w.heap.size w w' := by
  have hB : Below w.heap.size w (w.alloc (.cells #[.slice A n cap, .int .i64 T, .int .i64 C] 24)) := (Below.refl _ _).alloc (Nat.le_refl _) _
  have hck := Lib.hid (lawFault_any A n cap T C l _ hn hl (hA.keep hB (Nat.le_refl _)))
  have HB := Lib.hid hB
  clear hB hA hl
  by_cases hf : faultL l T C = 0
  · have hin := Lib.hid (fun w => refIn_any err 0 40 w)
    cases hb : inB err 0 40 with
    | true =>
      have hfin : askedL l T C err = 0 := by unfold askedL; rw [if_neg (by omega), if_pos (inB_true.1 hb)]
      have HF := Lib.hid hfin
      rw [hf] at hck
      rw [hb] at hin
      clear hfin hf hb
      go_enter Try.func28, Try.ntmps28
      go_wp2_with fail
      refine hck.out.mono ?_
      rintro e w' ⟨rfl, hb1⟩
      go_wp2_with fail
      refine (hin.out _).mono ?_
      rintro e w' ⟨rfl, rfl⟩
      go_wp2_with fail
      go_ret
      exact ⟨by rw [HF.out]; rfl, HB.out.trans (hb1.mono HB.out.size)⟩
    | false =>
      have hfin : askedL l T C err = 2 := by unfold askedL; rw [if_neg (by omega), if_neg (fun h => by rw [inB_true.2 h] at hb; cases hb)]
      have HF := Lib.hid hfin
      rw [hf] at hck
      rw [hb] at hin
      clear hfin hf hb
      go_enter Try.func28, Try.ntmps28
      go_wp2_with fail
      refine hck.out.mono ?_
      rintro e w' ⟨rfl, hb1⟩
      go_wp2_with fail
      refine (hin.out _).mono ?_
      rintro e w' ⟨rfl, rfl⟩
      go_wp2_with fail
      go_ret
      exact ⟨by rw [HF.out]; rfl, HB.out.trans (hb1.mono HB.out.size)⟩
  · have hfin : askedL l T C err = faultL l T C := by unfold askedL; rw [if_pos hf]
    have HF := Lib.hid hfin
    have hne : (faultL l T C != 0) = true := by simpa using hf
    clear hfin hf
    go_enter Try.func28, Try.ntmps28
    go_wp2_with (go_at_call 27; refine hck.out.mono ?_; rintro e w' ⟨rfl, hb1⟩)
    go_ret
    exact ⟨by rw [HF.out]; rfl, HB.out.trans (hb1.mono HB.out.size)⟩

theorem bit_at (t k : Nat) : (((t : Int) / 2 ^ k).tmod 2 == 1) = t.testBit k := by
  have e : ((t : Int) / 2 ^ k).tmod 2 = ((t / 2 ^ k % 2 : Nat) : Int) := by
    have h2 : ((2 : Int) ^ k) = ((2 ^ k : Nat) : Int) := by simp
    rw [h2, ← Int.natCast_ediv]
    generalize t / 2 ^ k = q
    rw [Int.tmod_eq_emod_of_nonneg (by omega)]
    omega
  rw [e, Nat.testBit_eq_decide_div_mod_eq]
  by_cases h : t / 2 ^ k % 2 = 1
  · rw [h]; rfl
  · have h0 : t / 2 ^ k % 2 = 0 := by omega
    rw [h0]; rfl

set_option maxRecDepth 100000 in
theorem has_any (t : Nat) (x : Int) (w : World) (hx0 : -1 ≤ x) (hx1 : x ≤ 15) (ht : t < 65536) :
    Calls Try.prog 101 #[.int .i64 t, .int .i64 x] w fun e w' => e = .returned (.bool (decide (0 ≤ x) && t.testBit x.toNat)) ∧ w = w' := by
  by_cases h : 0 ≤ x
  · obtain ⟨k, rfl⟩ := Int.eq_ofNat_of_zero_le h
    have hd : decide ((0 : Int) ≤ (k : Int)) = true := by simp
    go_enter Try.func101, Try.ntmps101
    go_wp2_with fail
    go_ret
    exact ⟨by rw [hd, Bool.true_and, Int.toNat_natCast, ← bit_at]; rfl, rfl⟩
  · have hd : decide (0 ≤ x) = false := by simpa using h
    go_enter Try.func101, Try.ntmps101
    go_wp2_with fail
    go_ret
    exact ⟨rfl, rfl⟩
end Go.Proofs.Ytkloaeaepjoijaa

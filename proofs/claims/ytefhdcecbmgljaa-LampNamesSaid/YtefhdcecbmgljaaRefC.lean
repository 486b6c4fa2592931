/-
  The reference's Fault; fault, planned: the laws' errors.
-/
import Derived.Test.YtefhdcecbmgljaaRefB
set_option linter.all false
namespace Go.Proofs.Ytefhdcecbmgljaa
open Go.RowKit Go.WalkArith

theorem all_no {s : St} {k : Nat} (hk : k < s.ns.length) (h : ntOk (ntAt s k) = false) : s.ns.all ntOk = false := by
  rw [List.all_eq_false]
  exact ⟨s.ns[k], List.getElem_mem hk, by rw [← ntAt_at hk, h]; simp⟩
theorem all_yes {s : St} (h : ∀ j, j < s.ns.length → ntOk (ntAt s j) = true) : s.ns.all ntOk = true :=
  List.all_eq_true.2 fun x hx => by
    obtain ⟨i, hi, rfl⟩ := List.getElem_of_mem hx
    rw [← ntAt_at hi]; exact h i hi
theorem ntOk_parts (n : Nt) : ntOk n = (inB n.h 1 14 && inB n.a 1 n.b && decide (n.b ≤ 4) && spanB n.lo n.hi 10) := by
  unfold ntOk inB spanB; simp only [Bool.and_assoc]

def RFRel (s : St) (w : World) (Bs : Nat) (o : Obj) (i : Value) (wr : World) : Prop :=
  ∃ k : Nat, k ≤ s.ns.length ∧ i = .int .i64 k ∧ (∀ j, j < k → ntOk (ntAt s j) = true) ∧ wr.heap[Bs]? = some o ∧ Below w.heap.size w wr

set_option maxRecDepth 100000 in
set_option maxHeartbeats 4000000 in
theorem rfault_any (s : St) (A : Option Addr) (cp : Nat) (w : World) (hn : s.ns.length ≤ 1000000) (hA : NtsAt w A s.ns) :
    Calls Try.prog 67 #[.agg #[.int .i64 s.cap, .int .i64 s.can, .int .i64 s.sl, .int .i64 s.sh, .slice A s.ns.length cp]] w fun e w' => e = .returned (.int .i64 (faultS s)) ∧ Below w.heap.size w w' := by
  have hbel : Below w.heap.size w (w.alloc (.cells #[.int .i64 s.cap, .int .i64 s.can, .int .i64 s.sl, .int .i64 s.sh, .slice A s.ns.length cp] 26)) := (Below.refl _ _).alloc (Nat.le_refl _) _
  have HB := Lib.hid hbel
  have HA := Lib.hid hA
  have N0 := Lib.hid (Go.heap_alloc_new w (.cells #[.int .i64 s.cap, .int .i64 s.can, .int .i64 s.sl, .int .i64 s.sh, .slice A s.ns.length cp] 26))
  clear hbel hA
  by_cases h6 : 6 < s.ns.length
  · have HF := Lib.hid (show faultS s = 3 by unfold faultS; rw [if_pos h6])
    go_enter Try.func67, Try.ntmps67
    go_wp2_with fail
    go_ret
    exact ⟨by rw [HF.out]; rfl, HB.out⟩
  · have HD := Lib.hid (show faultS s = if !(inB s.cap 1 400) || !(inB s.can 1 200) || !(spanB s.sl s.sh s.cap) || decide (s.ns.length = 0) || !(s.ns.all ntOk) then 1 else 0 by unfold faultS spanB; rw [if_neg h6])
    cases e1 : inB s.cap 1 400 with
    | false =>
      have HF := Lib.hid (show faultS s = 1 by rw [HD.out, e1]; simp)
      go_enter Try.func67, Try.ntmps67
      go_wp2_with (first | (go_at_call 68; refine (refIn_any _ _ _ _).mono ?_; rintro e w1 ⟨rfl, rfl⟩) | (go_at_call 99; refine (span_any _ _ _ _).mono ?_; rintro e w2 ⟨rfl, hb2⟩))
      go_ret
      exact ⟨by rw [HF.out]; rfl, HB.out⟩
    | true =>
      cases e2 : inB s.can 1 200 with
      | false =>
        have HF := Lib.hid (show faultS s = 1 by rw [HD.out, e1, e2]; simp)
        go_enter Try.func67, Try.ntmps67
        go_wp2_with (first | (go_at_call 68; refine (refIn_any _ _ _ _).mono ?_; rintro e w1 ⟨rfl, rfl⟩) | (go_at_call 99; refine (span_any _ _ _ _).mono ?_; rintro e w2 ⟨rfl, hb2⟩))
        go_ret
        exact ⟨by rw [HF.out]; rfl, HB.out⟩
      | true =>
        cases e3 : spanB s.sl s.sh s.cap with
        | false =>
          have HF := Lib.hid (show faultS s = 1 by rw [HD.out, e1, e2, e3]; simp)
          go_enter Try.func67, Try.ntmps67
          go_wp2_with (first | (go_at_call 68; refine (refIn_any _ _ _ _).mono ?_; rintro e w1 ⟨rfl, rfl⟩) | (go_at_call 99; refine (span_any _ _ _ _).mono ?_; rintro e w2 ⟨rfl, hb2⟩))
          go_ret
          exact ⟨by rw [HF.out]; rfl, HB.out.trans (hb2.mono HB.out.size)⟩
        | true =>
          by_cases h0 : s.ns.length = 0
          · have HF := Lib.hid (show faultS s = 1 by rw [HD.out, e1, e2, e3, decide_eq_true h0]; simp)
            have h0b : ((s.ns.length : Int) == 0) = true := by simp [h0]
            have h0i : (s.ns.length : Int) ≤ 0 := by omega
            clear h0
            go_enter Try.func67, Try.ntmps67
            go_wp2_with (go_at_call 68; refine (refIn_any _ _ _ _).mono ?_; rintro e w1 ⟨rfl, rfl⟩)
            refine (span_any _ _ _ _).mono ?_
            rintro e w2 ⟨rfl, hb2⟩
            have n2 := (hb2.block w.heap.size (by simp)).trans N0.out
            have c4 : w2.cell? ⟨w.heap.size, 4, none⟩ = some (.slice A s.ns.length cp) := by simp [World.cell?, n2]
            go_wp2_with fail
            go_ret
            exact ⟨by rw [HF.out]; rfl, HB.out.trans (hb2.mono HB.out.size)⟩
          · have h0b : ((s.ns.length : Int) == 0) = false := by simpa using h0
            have HF := Lib.hid (show faultS s = if s.ns.all ntOk then 0 else 1 by rw [HD.out, e1, e2, e3, decide_eq_false h0]; cases s.ns.all ntOk <;> rfl)
            clear h0 HD
            go_enter Try.func67, Try.ntmps67
            go_wp2_with (go_at_call 68; refine (refIn_any _ _ _ _).mono ?_; rintro e w1 ⟨rfl, rfl⟩)
            refine (span_any _ _ _ _).mono ?_
            rintro e w2 ⟨rfl, hb2⟩
            have n2 := (hb2.block w.heap.size (by simp)).trans N0.out
            have c4 : w2.cell? ⟨w.heap.size, 4, none⟩ = some (.slice A s.ns.length cp) := by simp [World.cell?, n2]
            have HB2 := Lib.hid (HB.out.trans (hb2.mono HB.out.size))
            have N2 := Lib.hid n2
            clear n2 hb2 HB N0
            go_wp2_with fail
            clear e1 e2 e3
            go_loopw [3] (RFRel s w w.heap.size (.cells #[.int .i64 s.cap, .int .i64 s.can, .int .i64 s.sl, .int .i64 s.sh, .slice A s.ns.length cp] 26 (0, 0))) (fun i _ => s.ns.length - (intOf i).toNat)
            case atStart => exact ⟨0, by omega, rfl, fun j h => by omega, N2.out, HB2.out⟩
            case round =>
              clear HB2 N2 c4
              obtain ⟨k, hk, rfl, hall, hn0, hbe⟩ := hrel
              have HALL := Lib.hid hall
              have HBE := Lib.hid hbe
              have HN0 := Lib.hid hn0
              have q4 : wr.cell? ⟨w.heap.size, 4, none⟩ = some (.slice A s.ns.length cp) := by simp [World.cell?, hn0]
              clear hall hbe hn0
              by_cases hlt : k < s.ns.length
              · have hlt' : decide ((k : Int) < (s.ns.length : Int)) = true := by simpa using hlt
                obtain ⟨b, o, rfl, a0, a1, a2, a3, a4⟩ := (HA.out.keep HBE.out (Nat.le_refl _)).at hlt
                rw [← ntAt_at hlt] at a0 a1 a2 a3 a4
                obtain ⟨⟨nh, na, nb, nlo, nhi⟩, hN⟩ : ∃ N, ntAt s k = N := ⟨_, rfl⟩
                rw [hN] at a0 a1 a2 a3 a4
                dsimp only at a0 a1 a2 a3 a4
                have HN := Lib.hid hN
                have HP := Lib.hid (show ntOk (ntAt s k) = _ from (congrArg ntOk hN).trans (ntOk_parts _))
                dsimp only at HP
                have i1 : (0 : Int) ≤ (k : Int) := by omega
                have i2 : (k : Int) < (s.ns.length : Int) := by omega
                clear hN
                have hwa : Below wr.heap.size wr (wr.alloc (.cells #[.int .i64 nh, .int .i64 na, .int .i64 nb, .int .i64 nlo, .int .i64 nhi] 80)) := (Below.refl _ _).alloc (Nat.le_refl _) _
                have HWA := Lib.hid (HBE.out.trans (hwa.mono HBE.out.size))
                have HNA := Lib.hid ((hwa.block w.heap.size (Array.getElem?_eq_some_iff.1 HN0.out).1).trans HN0.out)
                clear hwa
                cases f1 : inB nh 1 14 with
                | false =>
                  have HF1 := Lib.hid (HF.out.trans (if_neg (by rw [all_no hlt (by rw [HP.out, f1]; simp)]; simp)))
                  go_wp2_with (first | (go_at_call 68; refine (refIn_any _ _ _ _).mono ?_; rintro e w1 ⟨rfl, rfl⟩) | (go_at_call 99; refine (span_any _ _ _ _).mono ?_; rintro e w2 ⟨rfl, hb2⟩))
                  go_ret
                  exact ⟨by rw [HF1.out]; rfl, HWA.out⟩
                | true =>
                  cases f2 : inB na 1 nb with
                  | false =>
                    have HF1 := Lib.hid (HF.out.trans (if_neg (by rw [all_no hlt (by rw [HP.out, f1, f2]; simp)]; simp)))
                    go_wp2_with (first | (go_at_call 68; refine (refIn_any _ _ _ _).mono ?_; rintro e w1 ⟨rfl, rfl⟩) | (go_at_call 99; refine (span_any _ _ _ _).mono ?_; rintro e w2 ⟨rfl, hb2⟩))
                    go_ret
                    exact ⟨by rw [HF1.out]; rfl, HWA.out⟩
                  | true =>
                    cases f3 : decide (nb ≤ 4) with
                    | false =>
                      have f3' : decide (nb > 4) = true := by simpa using f3
                      have f3'' : decide (4 < nb) = true := f3'
                      have HF1 := Lib.hid (HF.out.trans (if_neg (by rw [all_no hlt (by rw [HP.out, f1, f2, f3]; simp)]; simp)))
                      go_wp2_with (first | (go_at_call 68; refine (refIn_any _ _ _ _).mono ?_; rintro e w1 ⟨rfl, rfl⟩) | (go_at_call 99; refine (span_any _ _ _ _).mono ?_; rintro e w2 ⟨rfl, hb2⟩))
                      go_ret
                      exact ⟨by rw [HF1.out]; rfl, HWA.out⟩
                    | true =>
                      have f3' : decide (nb > 4) = false := by simpa using f3
                      have f3'' : decide (4 < nb) = false := f3'
                      cases f4 : spanB nlo nhi 10 with
                      | false =>
                        have HF1 := Lib.hid (HF.out.trans (if_neg (by rw [all_no hlt (by rw [HP.out, f1, f2, f3, f4]; simp)]; simp)))
                        go_wp2_with (first | (go_at_call 68; refine (refIn_any _ _ _ _).mono ?_; rintro e w1 ⟨rfl, rfl⟩) | (go_at_call 99; refine (span_any _ _ _ _).mono ?_; rintro e w2 ⟨rfl, hb2⟩))
                        go_ret
                        exact ⟨by rw [HF1.out]; rfl, HWA.out.trans (hb2.mono HWA.out.size)⟩
                      | true =>
                        have HH := Lib.hid (show ntOk (ntAt s k) = true by rw [HP.out, f1, f2, f3, f4]; rfl)
                        go_wp2_with (first | (go_at_call 68; refine (refIn_any _ _ _ _).mono ?_; rintro e w1 ⟨rfl, rfl⟩) | (go_at_call 99; refine (span_any _ _ _ _).mono ?_; rintro e w2 ⟨rfl, hb2⟩))
                        go_roundw
                        case rel => exact ⟨k + 1, by omega, by go_num, (fun j hj => by
                          by_cases e : j = k
                          · rw [e]; exact HH.out
                          · exact HALL.out j (by omega)), (hb2.block _ (Array.getElem?_eq_some_iff.1 HNA.out).1).trans HNA.out, HWA.out.trans (hb2.mono HWA.out.size)⟩
                        case measure => simp [intOf]; omega
              · have hlt' : decide ((k : Int) < (s.ns.length : Int)) = false := by simpa using hlt
                have HF1 := Lib.hid (HF.out.trans (if_pos (all_yes fun j hj => HALL.out j (by omega))))
                go_wp2_with fail
                go_ret
                exact ⟨by rw [HF1.out]; rfl, HBE.out⟩
end Go.Proofs.Ytefhdcecbmgljaa

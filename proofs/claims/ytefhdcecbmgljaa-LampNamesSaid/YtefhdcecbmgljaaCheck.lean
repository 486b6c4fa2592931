/-
  The checks of package lamp: CheckStore, check, truth, dipped.
-/
import Derived.Test.YtefhdcecbmgljaaAll
set_option linter.all false
namespace Go.Proofs.Ytefhdcecbmgljaa
open Go.RowKit Go.WalkArith

set_option maxRecDepth 100000 in
set_option maxHeartbeats 2000000 in
theorem checkStore_any (s : St) (A : Option Addr) (cp : Nat) (w : World) (hn : s.ns.length ≤ 1000000) (hA : NtsAt w A s.ns) :
    Calls Try.prog 18 #[.agg #[.int .i64 s.cap, .int .i64 s.can, .int .i64 s.sl, .int .i64 s.sh, .slice A s.ns.length cp]] w fun e w' => e = .returned (.int .i64 (faultS s)) ∧ Below w.heap.size w w' := by
  have hbel : Below w.heap.size w (w.alloc (.cells #[.int .i64 s.cap, .int .i64 s.can, .int .i64 s.sl, .int .i64 s.sh, .slice A s.ns.length cp] 39)) := (Below.refl _ _).alloc (Nat.le_refl _) _
  have HB := Lib.hid hbel
  have HA := Lib.hid (hA.keep hbel (Nat.le_refl _))
  have N0 := Lib.hid (Go.heap_alloc_new w (.cells #[.int .i64 s.cap, .int .i64 s.can, .int .i64 s.sl, .int .i64 s.sh, .slice A s.ns.length cp] 39))
  clear hbel hA
  by_cases h6 : 6 < s.ns.length
  · have HF := Lib.hid (show faultS s = 3 by unfold faultS; rw [if_pos h6])
    go_enter Try.func18, Try.ntmps18
    go_wp2_with fail
    go_ret
    exact ⟨by rw [HF.out]; rfl, HB.out⟩
  · have HD := Lib.hid (show faultS s = if !(inB s.cap 1 400) || !(inB s.can 1 200) || !(spanB s.sl s.sh s.cap) || decide (s.ns.length = 0) || !(s.ns.all ntOk) then 1 else 0 by unfold faultS spanB; rw [if_neg h6])

    cases e1 : inB s.cap 1 400 with
    | false =>
      have HF := Lib.hid (show faultS s = 1 by rw [HD.out, e1]; simp)
      go_enter Try.func18, Try.ntmps18
      go_wp2_with (first | (go_at_call 59; refine (within_any _ _ _ _).mono ?_; rintro e w1 ⟨rfl, rfl⟩) | (go_at_call 60; refine (to_any _ _ _ _).mono ?_; rintro e w2 ⟨rfl, hb2⟩))
      go_ret
      exact ⟨by rw [HF.out]; rfl, HB.out⟩
    | true =>
      cases e2 : inB s.can 1 200 with
      | false =>
        have HF := Lib.hid (show faultS s = 1 by rw [HD.out, e1, e2]; simp)
        go_enter Try.func18, Try.ntmps18
        go_wp2_with (first | (go_at_call 59; refine (within_any _ _ _ _).mono ?_; rintro e w1 ⟨rfl, rfl⟩) | (go_at_call 60; refine (to_any _ _ _ _).mono ?_; rintro e w2 ⟨rfl, hb2⟩))
        go_ret
        exact ⟨by rw [HF.out]; rfl, HB.out⟩
      | true =>
        cases e3 : spanB s.sl s.sh s.cap with
        | false =>
          have HF := Lib.hid (show faultS s = 1 by rw [HD.out, e1, e2, e3]; simp)
          go_enter Try.func18, Try.ntmps18
          go_wp2_with (first | (go_at_call 59; refine (within_any _ _ _ _).mono ?_; rintro e w1 ⟨rfl, rfl⟩) | (go_at_call 60; refine (to_any _ _ _ _).mono ?_; rintro e w2 ⟨rfl, hb2⟩))
          go_ret
          exact ⟨by rw [HF.out]; rfl, HB.out.trans (hb2.mono HB.out.size)⟩
        | true =>
          by_cases h0 : s.ns.length = 0
          · have HF := Lib.hid (show faultS s = 1 by rw [HD.out, e1, e2, e3, decide_eq_true h0]; simp)
            have h0b : ((s.ns.length : Int) == 0) = true := by simp [h0]
            have h0i : (s.ns.length : Int) ≤ 0 := by omega
            clear h0
            go_enter Try.func18, Try.ntmps18
            go_wp2_with (go_at_call 59; refine (within_any _ _ _ _).mono ?_; rintro e w1 ⟨rfl, rfl⟩)
            refine (to_any _ _ _ _).mono ?_
            rintro e w2 ⟨rfl, hb2⟩
            have n2 := (hb2.block w.heap.size (by simp)).trans N0.out
            have c4 : w2.cell? ⟨w.heap.size, 4, none⟩ = some (.slice A s.ns.length cp) := by simp [World.cell?, n2]
            go_wp2_with fail
            go_ret
            exact ⟨by rw [HF.out]; rfl, HB.out.trans (hb2.mono HB.out.size)⟩
          · have h0b : ((s.ns.length : Int) == 0) = false := by simpa using h0
            have HF := Lib.hid (show faultS s = if s.ns.all ntOk then 0 else 1 by rw [HD.out, e1, e2, e3, decide_eq_false h0]; cases s.ns.all ntOk <;> rfl)
            obtain ⟨q, hq⟩ : ∃ q, s.ns.all ntOk = q := ⟨_, rfl⟩
            rw [hq] at HF
            have HQ := Lib.hid hq
            clear hq h0
            go_enter Try.func18, Try.ntmps18
            go_wp2_with (go_at_call 59; refine (within_any _ _ _ _).mono ?_; rintro e w1 ⟨rfl, rfl⟩)
            refine (to_any _ _ _ _).mono ?_
            rintro e w2 ⟨rfl, hb2⟩
            have n2 := (hb2.block w.heap.size (by simp)).trans N0.out
            have c4 : w2.cell? ⟨w.heap.size, 4, none⟩ = some (.slice A s.ns.length cp) := by simp [World.cell?, n2]
            have HB2 := Lib.hid (HB.out.trans (hb2.mono HB.out.size))
            have HA2 := Lib.hid (HA.out.keep hb2 (Nat.le_refl _))
            clear n2 hb2 HB HA N0
            go_wp2_with fail
            refine (allNt_any A cp s.ns _ hn HA2.out).mono ?_
            rintro e w3 ⟨rfl, hb3⟩
            rw [HQ.out]
            have HB3 := Lib.hid (HB2.out.trans (hb3.mono HB2.out.size))
            clear hb3
            cases q with
            | false =>
              have HF1 := Lib.hid (HF.out.trans (if_neg (by simp)))
              go_wp2_with fail
              go_ret
              exact ⟨by rw [HF1.out]; rfl, HB3.out⟩
            | true =>
              have HF1 := Lib.hid (HF.out.trans (if_pos rfl))
              go_wp2_with fail
              go_ret
              exact ⟨by rw [HF1.out]; rfl, HB3.out⟩

set_option maxHeartbeats 1000000 in
theorem cans_any (s : St) (A : Option Addr) (cp : Nat) (v : Value) (l : List Int) (w : World) (hn : s.ns.length ≤ 1000000) (hl : l.length ≤ 1000000) (hv : IntsAt w v l) :
    Calls Try.prog 84 #[.agg #[.int .i64 s.cap, .int .i64 s.can, .int .i64 s.sl, .int .i64 s.sh, .slice A s.ns.length cp], v] w fun e w' => e = .returned (.bool (cansB s l)) ∧ Below w.heap.size w w' := by
  obtain ⟨Al, cl, rfl⟩ := hv.slice
  have hbel : Below w.heap.size w (w.alloc (.cells #[.int .i64 s.cap, .int .i64 s.can, .int .i64 s.sl, .int .i64 s.sh, .slice A s.ns.length cp] 39)) := (Below.refl _ _).alloc (Nat.le_refl _) _
  have HB := Lib.hid hbel
  have HV := Lib.hid (hv.keep hbel (Nat.le_refl _))
  clear hbel hv
  by_cases he : l.length = s.ns.length
  · have heb : ((l.length : Int) == (s.ns.length : Int)) = true := by simp [he]
    have HF := Lib.hid (show cansB s l = l.all canB by unfold cansB; rw [decide_eq_true he]; rfl)
    clear he
    go_enter Try.func84, Try.ntmps84
    go_wp2_with fail
    refine (allInt_any Al cl l _ hl HV.out).mono ?_
    rintro e w3 ⟨rfl, hb3⟩
    have HB3 := Lib.hid (HB.out.trans (hb3.mono HB.out.size))
    clear hb3
    go_wp2_with fail
    go_ret
    exact ⟨by rw [HF.out]; rfl, HB3.out⟩
  · have heb : ((l.length : Int) == (s.ns.length : Int)) = false := by simp; omega
    have HF := Lib.hid (show cansB s l = false by unfold cansB; rw [decide_eq_false he]; rfl)
    clear he
    go_enter Try.func84, Try.ntmps84
    go_wp2_with fail
    go_ret
    exact ⟨by rw [HF.out]; rfl, HB.out⟩

def WRel (s : St) (l : List Int) (w : World) (Bs : Nat) (o : Obj) (i : Value) (wr : World) : Prop :=
  ∃ k : Nat, k ≤ s.ns.length ∧ i = .int .i64 k ∧ (∀ j, j < k → inB (atL l j) (ntAt s j).a (ntAt s j).b = true) ∧ wr.heap[Bs]? = some o ∧ Below w.heap.size w wr
theorem wicks_no {s : St} {l : List Int} {k : Nat} (hl : l.length = s.ns.length) (hk : k < s.ns.length) (h : inB (atL l k) (ntAt s k).a (ntAt s k).b = false) : wicksB s l = false := by
  cases e : wicksB s l with
  | false => rfl
  | true => have := (wicksB_true.1 e).2 k hk; rw [inB_false] at h; omega
theorem wicks_yes {s : St} {l : List Int} (hl : l.length = s.ns.length) (h : ∀ j, j < s.ns.length → inB (atL l j) (ntAt s j).a (ntAt s j).b = true) : wicksB s l = true :=
  wicksB_true.2 ⟨hl, fun i hi => inB_true.1 (h i hi)⟩

set_option maxRecDepth 100000 in
set_option maxHeartbeats 2000000 in
theorem wicks_any (s : St) (A : Option Addr) (cp : Nat) (v : Value) (l : List Int) (w : World) (hn : s.ns.length ≤ 1000000) (hA : NtsAt w A s.ns) (hv : IntsAt w v l) :
    Calls Try.prog 77 #[.agg #[.int .i64 s.cap, .int .i64 s.can, .int .i64 s.sl, .int .i64 s.sh, .slice A s.ns.length cp], v] w fun e w' => e = .returned (.bool (wicksB s l)) ∧ Below w.heap.size w w' := by
  obtain ⟨Al, cl, rfl⟩ := hv.slice
  have hbel : Below w.heap.size w (w.alloc (.cells #[.int .i64 s.cap, .int .i64 s.can, .int .i64 s.sl, .int .i64 s.sh, .slice A s.ns.length cp] 39)) := (Below.refl _ _).alloc (Nat.le_refl _) _
  have HB := Lib.hid hbel
  have HV := Lib.hid hv
  have HA := Lib.hid hA
  have N0 := Lib.hid (Go.heap_alloc_new w (.cells #[.int .i64 s.cap, .int .i64 s.can, .int .i64 s.sl, .int .i64 s.sh, .slice A s.ns.length cp] 39))
  clear hbel hv hA
  by_cases he : l.length = s.ns.length
  · have heb : ((l.length : Int) != (s.ns.length : Int)) = false := by simp [he]
    have HE := Lib.hid he
    clear he
    go_enter Try.func77, Try.ntmps77
    go_wp2_with fail
    go_loopw [16] (WRel s l w w.heap.size (.cells #[.int .i64 s.cap, .int .i64 s.can, .int .i64 s.sl, .int .i64 s.sh, .slice A s.ns.length cp] 39 (0, 0))) (fun i _ => s.ns.length - (intOf i).toNat)
    case atStart => exact ⟨0, by omega, rfl, fun j h => by omega, N0.out, HB.out⟩
    case round =>
      clear HB N0
      obtain ⟨k, hk, rfl, hall, hn0, hbe⟩ := hrel
      have HALL := Lib.hid hall
      have HBE := Lib.hid hbe
      have HN0 := Lib.hid hn0
      clear hall hbe hn0
      by_cases hlt : k < s.ns.length
      · have hlt' : decide ((k : Int) < (s.ns.length : Int)) = true := by simpa using hlt
        obtain ⟨b, o, rfl, a0, a1, a2, a3, a4⟩ := (HA.out.keep HBE.out (Nat.le_refl _)).at hlt
        rw [← ntAt_at hlt] at a0 a1 a2 a3 a4
        obtain ⟨b', o', rfl, d0⟩ := (HV.out.keep HBE.out (Nat.le_refl _)).at (k := k) (by rw [HE.out]; exact hlt)
        obtain ⟨N, hN⟩ : ∃ N, ntAt s k = N := ⟨_, rfl⟩
        obtain ⟨X, hX⟩ : ∃ X, atL l k = X := ⟨_, rfl⟩
        rw [hN] at a0 a1 a2 a3 a4
        rw [hX] at d0
        have HNX := Lib.hid (And.intro hN hX)
        have i1 : (0 : Int) ≤ (k : Int) := by omega
        have i2 : (k : Int) < (s.ns.length : Int) := by omega
        have i3 : (k : Int) < (l.length : Int) := by rw [HE.out]; omega
        have hbl := World.block_lt_of_cell? wr _ d0
        clear hN hX
        have hin := Lib.hid (fun W => within_any X N.a N.b W)
        cases hb : inB X N.a N.b with
        | false =>
          rw [hb] at hin
          have HF := Lib.hid (wicks_no HE.out hlt (by rw [HNX.out.1, HNX.out.2]; exact hb))
          go_wp2_with fail
          go_quiet ((go_at_call 59; exact Calls.quiet_of_same ((hin.out _).mono fun _ _ h => ⟨h.1, h.2.symm⟩)))
          go_wp2_with fail
          go_ret
          exact ⟨by rw [HF.out]; rfl, ((HBE.out.alloc HBE.out.size _).drewN _)⟩
        | true =>
          rw [hb] at hin
          have HH := Lib.hid hb
          clear hb
          go_wp2_with fail
          go_quiet ((go_at_call 59; exact Calls.quiet_of_same ((hin.out _).mono fun _ _ h => ⟨h.1, h.2.symm⟩)))
          go_wp2_with fail
          go_roundw
          case rel => exact ⟨k + 1, by omega, by go_num, (fun j hj => by
            by_cases e : j = k
            · rw [e, HNX.out.1, HNX.out.2]; exact HH.out
            · exact HALL.out j (by omega)), (Below.heap_alloc _ _ _ (Array.getElem?_eq_some_iff.1 HN0.out).1).trans HN0.out, ((HBE.out.alloc HBE.out.size _).drewN _)⟩
          case measure => simp [intOf]; omega
      · have hlt' : decide ((k : Int) < (s.ns.length : Int)) = false := by simpa using hlt
        have HF := Lib.hid (wicks_yes HE.out fun j hj => HALL.out j (by omega))
        go_wp2_with fail
        go_ret
        exact ⟨by rw [HF.out]; rfl, HBE.out⟩
  · have heb : ((l.length : Int) != (s.ns.length : Int)) = true := by simp; omega
    have HF := Lib.hid (show wicksB s l = false by unfold wicksB; rw [decide_eq_false he]; rfl)
    clear he
    go_enter Try.func77, Try.ntmps77
    go_wp2_with fail
    go_ret
    exact ⟨by rw [HF.out]; rfl, HB.out⟩

end Go.Proofs.Ytefhdcecbmgljaa

/-
  The reference's IsCans and IsWicks.
-/
import Derived.Test.YtefhdcecbmgljaaRefA
set_option linter.all false
namespace Go.Proofs.Ytefhdcecbmgljaa
open Go.RowKit Go.WalkArith

def RWRel (s : St) (l : List Int) (w : World) (Bs : Nat) (o : Obj) (i : Value) (wr : World) : Prop :=
  ∃ k : Nat, k ≤ l.length ∧ k ≤ s.ns.length ∧ i = .int .i64 k ∧ (∀ j, j < k → inB (atL l j) (ntAt s j).a (ntAt s j).b = true) ∧ wr.heap[Bs]? = some o ∧ Below w.heap.size w wr

theorem rwicks_no {s : St} {l : List Int} {k : Nat} (hl : k < l.length) (hk : k < s.ns.length) (h : inB (atL l k) (ntAt s k).a (ntAt s k).b = false) : wicksB s l = false := by
  cases e : wicksB s l with
  | false => rfl
  | true => have := (wicksB_true.1 e).2 k hk; rw [inB_false] at h; omega
theorem rwicks_end {s : St} {l : List Int} {k : Nat} (hk : k ≤ l.length) (hk2 : k ≤ s.ns.length) (he : k = l.length ∨ k = s.ns.length) (h : ∀ j, j < k → inB (atL l j) (ntAt s j).a (ntAt s j).b = true) : wicksB s l = decide (l.length = s.ns.length) := by
  by_cases e : l.length = s.ns.length
  · rw [decide_eq_true e]
    exact wicksB_true.2 ⟨e, fun i hi => inB_true.1 (h i (by omega))⟩
  · rw [decide_eq_false e]
    unfold wicksB
    rw [decide_eq_false e]; rfl

set_option maxRecDepth 100000 in
set_option maxHeartbeats 2000000 in
theorem rwicks_any (s : St) (A : Option Addr) (cp : Nat) (v : Value) (l : List Int) (w : World) (hn : s.ns.length ≤ 1000000) (hln : l.length ≤ 1000000) (hA : NtsAt w A s.ns) (hv : IntsAt w v l) :
    Calls Try.prog 35 #[.agg #[.int .i64 s.cap, .int .i64 s.can, .int .i64 s.sl, .int .i64 s.sh, .slice A s.ns.length cp], v] w fun e w' => e = .returned (.bool (wicksB s l)) ∧ Below w.heap.size w w' := by
  obtain ⟨Al, cl, rfl⟩ := hv.slice
  have hbel : Below w.heap.size w (w.alloc (.cells #[.int .i64 s.cap, .int .i64 s.can, .int .i64 s.sl, .int .i64 s.sh, .slice A s.ns.length cp] 26)) := (Below.refl _ _).alloc (Nat.le_refl _) _
  have HB := Lib.hid hbel
  have HV := Lib.hid hv
  have HA := Lib.hid hA
  have N0 := Lib.hid (Go.heap_alloc_new w (.cells #[.int .i64 s.cap, .int .i64 s.can, .int .i64 s.sl, .int .i64 s.sh, .slice A s.ns.length cp] 26))
  clear hbel hv hA
  go_enter Try.func35, Try.ntmps35
  go_wp2_with fail
  go_loopw [5] (RWRel s l w w.heap.size (.cells #[.int .i64 s.cap, .int .i64 s.can, .int .i64 s.sl, .int .i64 s.sh, .slice A s.ns.length cp] 26 (0, 0))) (fun i _ => l.length - (intOf i).toNat)
  case atStart => exact ⟨0, by omega, by omega, rfl, fun j h => by omega, N0.out, HB.out⟩
  case round =>
    clear HB N0
    obtain ⟨k, hk, hk2, rfl, hall, hn0, hbe⟩ := hrel
    have HALL := Lib.hid hall
    have HBE := Lib.hid hbe
    have HN0 := Lib.hid hn0
    have q4 : wr.cell? ⟨w.heap.size, 4, none⟩ = some (.slice A s.ns.length cp) := by simp [World.cell?, hn0]
    clear hall hbe hn0
    by_cases hlt : k < l.length
    · have hlt' : decide ((k : Int) < (l.length : Int)) = true := by simpa using hlt
      by_cases hlt2 : k < s.ns.length
      · have hlt2' : decide ((k : Int) < (s.ns.length : Int)) = true := by simpa using hlt2
        obtain ⟨b, o, rfl, a0, a1, a2, a3, a4⟩ := (HA.out.keep HBE.out (Nat.le_refl _)).at hlt2
        rw [← ntAt_at hlt2] at a0 a1 a2 a3 a4
        obtain ⟨b', o', rfl, d0⟩ := (HV.out.keep HBE.out (Nat.le_refl _)).at (k := k) hlt
        obtain ⟨N, hN⟩ : ∃ N, ntAt s k = N := ⟨_, rfl⟩
        obtain ⟨X, hX⟩ : ∃ X, atL l k = X := ⟨_, rfl⟩
        rw [hN] at a0 a1 a2 a3 a4
        rw [hX] at d0
        have HNX := Lib.hid (And.intro hN hX)
        have i1 : (0 : Int) ≤ (k : Int) := by omega
        have i2 : (k : Int) < (s.ns.length : Int) := by omega
        have i3 : (k : Int) < (l.length : Int) := by omega
        clear hN hX
        have hin := Lib.hid (fun W => refIn_any X N.a N.b W)
        cases hb : inB X N.a N.b with
        | false =>
          rw [hb] at hin
          have HF := Lib.hid (rwicks_no hlt hlt2 (by rw [HNX.out.1, HNX.out.2]; exact hb))
          clear hb
          go_wp2_with fail
          go_quiet ((go_at_call 68; exact Calls.quiet_of_same ((hin.out _).mono fun _ _ h => ⟨h.1, h.2.symm⟩)))
          go_wp2_with fail
          go_ret
          exact ⟨by rw [HF.out]; rfl, HBE.out.drewN _⟩
        | true =>
          rw [hb] at hin
          have HH := Lib.hid hb
          clear hb
          go_wp2_with fail
          go_quiet ((go_at_call 68; exact Calls.quiet_of_same ((hin.out _).mono fun _ _ h => ⟨h.1, h.2.symm⟩)))
          go_wp2_with fail
          go_roundw
          case rel => exact ⟨k + 1, by omega, by omega, by go_num, (fun j hj => by
            by_cases e : j = k
            · rw [e, HNX.out.1, HNX.out.2]; exact HH.out
            · exact HALL.out j (by omega)), HN0.out, HBE.out.drewN _⟩
          case measure => simp [intOf]; omega
      · have hlt2' : decide ((k : Int) < (s.ns.length : Int)) = false := by simpa using hlt2
        have HF := Lib.hid ((rwicks_end hk hk2 (.inr (by omega)) HALL.out).trans (show decide (l.length = s.ns.length) = ((l.length : Int) == (s.ns.length : Int)) by rw [Bool.eq_iff_iff]; simp; omega))
        go_wp2_with fail
        go_ret
        exact ⟨by rw [HF.out]; rfl, HBE.out⟩
    · have hlt' : decide ((k : Int) < (l.length : Int)) = false := by simpa using hlt
      have HF := Lib.hid ((rwicks_end hk hk2 (.inl (by omega)) HALL.out).trans (show decide (l.length = s.ns.length) = ((l.length : Int) == (s.ns.length : Int)) by rw [Bool.eq_iff_iff]; simp; omega))
      go_wp2_with fail
      go_ret
      exact ⟨by rw [HF.out]; rfl, HBE.out⟩

def RCRel (l : List Int) (w : World) (Bs : Nat) (o : Obj) (i : Value) (wr : World) : Prop :=
  ∃ k : Nat, k ≤ l.length ∧ i = .int .i64 k ∧ (∀ j, j < k → inB (atL l j) 0 2 = true) ∧ wr.heap[Bs]? = some o ∧ Below w.heap.size w wr
theorem rcans_no {s : St} {l : List Int} {k : Nat} (hl : k < l.length) (h : inB (atL l k) 0 2 = false) : cansB s l = false := by
  unfold cansB
  rw [Bool.and_eq_false_iff]
  right
  rw [List.all_eq_false]
  exact ⟨l[k], List.getElem_mem hl, by rw [← atL_at hl, h]; simp⟩
theorem rcans_end {s : St} {l : List Int} (h : ∀ j, j < l.length → inB (atL l j) 0 2 = true) : cansB s l = decide (l.length = s.ns.length) := by
  unfold cansB
  rw [show (l.all fun x => inB x 0 2) = true from List.all_eq_true.2 fun x hx => by
    obtain ⟨i, hi, rfl⟩ := List.getElem_of_mem hx
    rw [← atL_at hi]; exact h i hi]
  simp

set_option maxRecDepth 100000 in
set_option maxHeartbeats 2000000 in
theorem rcans_any (s : St) (A : Option Addr) (cp : Nat) (v : Value) (l : List Int) (w : World) (hn : s.ns.length ≤ 1000000) (hln : l.length ≤ 1000000) (hv : IntsAt w v l) :
    Calls Try.prog 39 #[.agg #[.int .i64 s.cap, .int .i64 s.can, .int .i64 s.sl, .int .i64 s.sh, .slice A s.ns.length cp], v] w fun e w' => e = .returned (.bool (cansB s l)) ∧ Below w.heap.size w w' := by
  obtain ⟨Al, cl, rfl⟩ := hv.slice
  have hbel : Below w.heap.size w (w.alloc (.cells #[.int .i64 s.cap, .int .i64 s.can, .int .i64 s.sl, .int .i64 s.sh, .slice A s.ns.length cp] 26)) := (Below.refl _ _).alloc (Nat.le_refl _) _
  have HB := Lib.hid hbel
  have HV := Lib.hid hv
  have N0 := Lib.hid (Go.heap_alloc_new w (.cells #[.int .i64 s.cap, .int .i64 s.can, .int .i64 s.sl, .int .i64 s.sh, .slice A s.ns.length cp] 26))
  clear hbel hv
  go_enter Try.func39, Try.ntmps39
  go_wp2_with fail
  go_loopw [5] (RCRel l w w.heap.size (.cells #[.int .i64 s.cap, .int .i64 s.can, .int .i64 s.sl, .int .i64 s.sh, .slice A s.ns.length cp] 26 (0, 0))) (fun i _ => l.length - (intOf i).toNat)
  case atStart => exact ⟨0, by omega, rfl, fun j h => by omega, N0.out, HB.out⟩
  case round =>
    clear HB N0
    obtain ⟨k, hk, rfl, hall, hn0, hbe⟩ := hrel
    have HALL := Lib.hid hall
    have HBE := Lib.hid hbe
    have HN0 := Lib.hid hn0
    have q4 : wr.cell? ⟨w.heap.size, 4, none⟩ = some (.slice A s.ns.length cp) := by simp [World.cell?, hn0]
    clear hall hbe hn0
    by_cases hlt : k < l.length
    · have hlt' : decide ((k : Int) < (l.length : Int)) = true := by simpa using hlt
      obtain ⟨b', o', rfl, d0⟩ := (HV.out.keep HBE.out (Nat.le_refl _)).at (k := k) hlt
      obtain ⟨X, hX⟩ : ∃ X, atL l k = X := ⟨_, rfl⟩
      rw [hX] at d0
      have HNX := Lib.hid hX
      have i1 : (0 : Int) ≤ (k : Int) := by omega
      have i3 : (k : Int) < (l.length : Int) := by omega
      clear hX
      cases hb : inB X 0 2 with
      | false =>
        have HF := Lib.hid (rcans_no (s := s) hlt (by rw [HNX.out]; exact hb))
        have HH := Lib.hid hb
        clear hb
        go_wp2_with (go_at_call 68; refine (refIn_any _ _ _ _).mono ?_; rintro e w1 ⟨rfl, rfl⟩; rw [HH.out])
        go_ret
        exact ⟨by rw [HF.out]; rfl, HBE.out⟩
      | true =>
        have HH := Lib.hid hb
        clear hb
        go_wp2_with (go_at_call 68; refine (refIn_any _ _ _ _).mono ?_; rintro e w1 ⟨rfl, rfl⟩; rw [HH.out])
        go_roundw
        case rel => exact ⟨k + 1, by omega, by go_num, (fun j hj => by
          by_cases e : j = k
          · rw [e, HNX.out]; exact HH.out
          · exact HALL.out j (by omega)), HN0.out, HBE.out⟩
        case measure => simp [intOf]; omega
    · have hlt' : decide ((k : Int) < (l.length : Int)) = false := by simpa using hlt
      have HF := Lib.hid ((rcans_end (s := s) fun j hj => HALL.out j (by omega)).trans (show decide (l.length = s.ns.length) = ((l.length : Int) == (s.ns.length : Int)) by rw [Bool.eq_iff_iff]; simp; omega))
      go_wp2_with fail
      go_ret
      exact ⟨by rw [HF.out]; rfl, HBE.out⟩
end Go.Proofs.Ytefhdcecbmgljaa

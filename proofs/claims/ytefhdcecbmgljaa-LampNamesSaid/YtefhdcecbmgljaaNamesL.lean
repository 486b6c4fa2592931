/-
  LampNames: what the calls of the document's examples answer.
-/
import Derived.Test.YtefhdcecbmgljaaAwake
set_option linter.all false
namespace Go.Proofs.Ytefhdcecbmgljaa
open Go.RowKit Go.WalkArith

/-! ## Plainly -/
theorem nm_rng (t : Int) (b : Nat → Int) (h : Tr tankS t b) (ha : Ag tankS (atL [0, 1]) (atL [1, 2]) [⟨0, 16, 20⟩] t b) : (16 ≤ oilF tankS (atL [0, 1]) (atL [1, 2]) b t 1 ∧ oilF tankS (atL [0, 1]) (atL [1, 2]) b t 1 ≤ 20) ∧ (50 ≤ oilF tankS (atL [0, 1]) (atL [1, 2]) b t 2 ∧ oilF tankS (atL [0, 1]) (atL [1, 2]) b t 2 ≤ 54) := by
  have h0 := h.t0
  have h1 := h.t1
  have h2 := h.bb 0 (by decide)
  have h3 := h.bb 1 (by decide)
  simp [tankS, ntAt] at h0 h1 h2 h3
  have e1 : oilF tankS (atL [0, 1]) (atL [1, 2]) b t 1 = t - 5 * b 0 := by
    simp [oilF, leftO, nowO, needO, tankS, ntAt, atL]
    omega
  have e2 : oilF tankS (atL [0, 1]) (atL [1, 2]) b t 2 = t - 5 * b 0 + 50 - 8 * b 1 := by
    rw [oilF, e1]
    simp [leftO, nowO, needO, tankS, ntAt, atL]
    omega
  have h4 := ha 0 (by decide)
  rw [e1] at h4
  simp [agN, inB] at h4
  rw [e1, e2]
  omega
theorem nm_isrng : IsRng tankS (atL [0, 1]) (atL [1, 2]) [⟨0, 16, 20⟩] (atL [16, 50]) (atL [20, 54]) := by
  have hag : ∀ t, 26 ≤ t → t ≤ 30 → Ag tankS (atL [0, 1]) (atL [1, 2]) [⟨0, 16, 20⟩] t (atL [2, 2]) := fun t h1 h2 => by
    intro i hi
    have hi2 : i < 2 := hi
    match i, hi2 with
    | 0, _ => simp [agN, inB, oilF, leftO, nowO, needO, tankS, ntAt, atL]; omega
    | 1, _ => simp [agN, inB]
  refine ⟨fun i hi => ?_, fun i hi => ?_, fun i hi t b ht ha => ?_⟩
  · have hi2 : i < 2 := hi
    match i, hi2 with
    | 0, _ => exact ⟨26, atL [2, 2], tank_tr (by omega), hag _ (by omega) (by omega), by decide +kernel⟩
    | 1, _ => exact ⟨26, atL [2, 2], tank_tr (by omega), hag _ (by omega) (by omega), by decide +kernel⟩
  · have hi2 : i < 2 := hi
    match i, hi2 with
    | 0, _ => exact ⟨30, atL [2, 2], tank_tr (by omega), hag _ (by omega) (by omega), by decide +kernel⟩
    | 1, _ => exact ⟨30, atL [2, 2], tank_tr (by omega), hag _ (by omega) (by omega), by decide +kernel⟩
  · have hi2 : i < 2 := hi
    have h := nm_rng t b ht ha
    match i, hi2 with
    | 0, _ => exact h.1
    | 1, _ => exact h.2
theorem nm_cons : Cons tankS (atL [0, 1]) (atL [1, 2]) [⟨0, 16, 20⟩] := by
  obtain ⟨t, b, h1, h2, _⟩ := nm_isrng.lo 0 (by decide)
  exact ⟨t, b, h1, h2⟩
theorem nm_nocons : ¬ Cons tankS (atL [0, 1]) (atL [1, 2]) [⟨0, 0, 4⟩] := by
  rintro ⟨t, b, h, ha⟩
  have h1 := tank_rng t b h
  have h4 := ha 0 (by decide)
  generalize oilF tankS (atL [0, 1]) (atL [1, 2]) b t (0 + 1) = q at h1 h4
  simp [agN, inB] at h4
  omega

/-! ## The calls -/
section
variable (b p q x : Nat) (W : World)
theorem nm_oil (hT : NtsAt W (some ⟨b, 0, none⟩) tankS.ns) (hC : IntsAt W (.slice (some ⟨p, 0, none⟩) 2 2) [0, 1]) (hK : IntsAt W (.slice (some ⟨q, 0, none⟩) 2 2) [1, 2]) (hD : DpsAt W (some ⟨x, 0, none⟩) [⟨0, 16, 20⟩]) :
    Calls Try.prog 45 #[.agg #[.int .i64 100, .int .i64 50, .int .i64 20, .int .i64 30, .slice (some ⟨b, 0, none⟩) 2 2], .agg #[.slice (some ⟨p, 0, none⟩) 2 2, .slice (some ⟨q, 0, none⟩) 2 2], .slice (some ⟨x, 0, none⟩) 1 1] W fun e w' => ∃ i o c, e = .returned (.tuple #[.slice (some ⟨i, o, none⟩) 2 c, .int .i64 0]) ∧ w'.cell? ⟨i, o, none⟩ = some (.int .i64 16) ∧ w'.cell? ⟨i, o + 1, none⟩ = some (.int .i64 20) ∧ w'.cell? ⟨i, o + 2, none⟩ = some (.int .i64 50) ∧ w'.cell? ⟨i, o + 3, none⟩ = some (.int .i64 54) ∧ Below W.heap.size W w' := by
  have hp : Calls Try.prog 45 #[.agg #[.int .i64 100, .int .i64 50, .int .i64 20, .int .i64 30, .slice (some ⟨b, 0, none⟩) 2 2], .agg #[.slice (some ⟨p, 0, none⟩) 2 2, .slice (some ⟨q, 0, none⟩) 2 2], .slice (some ⟨x, 0, none⟩) 1 1] W (OilPost tankS [0, 1] [1, 2] [⟨0, 16, 20⟩] W) := oil_any tankS (some ⟨b, 0, none⟩) 2 (some ⟨p, 0, none⟩) (some ⟨q, 0, none⟩) 2 2 [0, 1] [1, 2] (some ⟨x, 0, none⟩) 1 [⟨0, 16, 20⟩] W (by decide) (by decide) (by decide) (by decide) hT hC hK hD
  refine hp.mono ?_
  rintro e w' ⟨hb, ⟨hne, _⟩ | ⟨_, hne, _⟩ | ⟨_, _, v4, lL, lH, rfl, hr, ho⟩⟩
  · exact absurd (by decide +kernel) hne
  · exact absurd nm_cons hne
  · have hra : RngsAt w' v4 2 lL lH := RngsAt.of_own ho
    have e0 := hr.unique nm_isrng (i := 0) (by decide)
    have e1 := hr.unique nm_isrng (i := 1) (by decide)
    obtain ⟨A4, c4, rfl, h4⟩ := hra
    obtain ⟨i, o, rfl, g⟩ := h4.resolve_left (by simp)
    refine ⟨i, o, c4, rfl, ?_, ?_, ?_, ?_, hb⟩
    · have h := (g 0 (by decide)).1; rw [e0.1] at h; exact h
    · have h := (g 0 (by decide)).2; rw [e0.2] at h; exact h
    · have h := (g 1 (by decide)).1; rw [e1.1] at h; exact h
    · have h := (g 1 (by decide)).2; rw [e1.2] at h; exact h
theorem nm_oil2 (hT : NtsAt W (some ⟨b, 0, none⟩) tankS.ns) (hC : IntsAt W (.slice (some ⟨p, 0, none⟩) 2 2) [0, 1]) (hK : IntsAt W (.slice (some ⟨q, 0, none⟩) 2 2) [1, 2]) (hD : DpsAt W (some ⟨x, 0, none⟩) [⟨0, 0, 4⟩]) :
    Calls Try.prog 45 #[.agg #[.int .i64 100, .int .i64 50, .int .i64 20, .int .i64 30, .slice (some ⟨b, 0, none⟩) 2 2], .agg #[.slice (some ⟨p, 0, none⟩) 2 2, .slice (some ⟨q, 0, none⟩) 2 2], .slice (some ⟨x, 0, none⟩) 1 1] W fun e w' => e = .returned (.tuple #[.slice none 0 0, .int .i64 9]) ∧ Below W.heap.size W w' := by
  have hp : Calls Try.prog 45 #[.agg #[.int .i64 100, .int .i64 50, .int .i64 20, .int .i64 30, .slice (some ⟨b, 0, none⟩) 2 2], .agg #[.slice (some ⟨p, 0, none⟩) 2 2, .slice (some ⟨q, 0, none⟩) 2 2], .slice (some ⟨x, 0, none⟩) 1 1] W (OilPost tankS [0, 1] [1, 2] [⟨0, 0, 4⟩] W) := oil_any tankS (some ⟨b, 0, none⟩) 2 (some ⟨p, 0, none⟩) (some ⟨q, 0, none⟩) 2 2 [0, 1] [1, 2] (some ⟨x, 0, none⟩) 1 [⟨0, 0, 4⟩] W (by decide) (by decide) (by decide) (by decide) hT hC hK hD
  refine hp.mono ?_
  rintro e w' ⟨hb, ⟨hne, _⟩ | ⟨_, _, rfl⟩ | ⟨_, hc, _⟩⟩
  · exact absurd (by decide +kernel) hne
  · exact ⟨rfl, hb⟩
  · exact absurd hc nm_nocons
theorem nm_del (hT : NtsAt W (some ⟨b, 0, none⟩) tankS.ns) (hD : IntsAt W (.slice (some ⟨x, 0, none⟩) 2 2) [2, 2]) :
    Calls Try.prog 33 #[.agg #[.int .i64 100, .int .i64 50, .int .i64 20, .int .i64 30, .slice (some ⟨b, 0, none⟩) 2 2], .slice (some ⟨x, 0, none⟩) 2 2] W fun e w' => ∃ A c, e = .returned (.tuple #[.slice A 2 c, .int .i64 1, .int .i64 0]) ∧ IntsAt w' (.slice A 2 c) [1, 0] ∧ Below W.heap.size W w' := by
  have hp : Calls Try.prog 33 #[.agg #[.int .i64 100, .int .i64 50, .int .i64 20, .int .i64 30, .slice (some ⟨b, 0, none⟩) 2 2], .slice (some ⟨x, 0, none⟩) 2 2] W (DeliverPost tankS [2, 2] W) := deliver_any tankS (some ⟨b, 0, none⟩) 2 (some ⟨x, 0, none⟩) 2 [2, 2] W (by decide) (by decide) hT hD
  have h1 : chp tankS (jobD [2, 2]) tankS.ns.length 0 tankS.sl = 1 := by decide +kernel
  have h2 : bestL tankS (jobD [2, 2]) tankS.ns.length 0 tankS.sl = [1, 0] := by decide +kernel
  refine hp.mono ?_
  rintro e w' ⟨hb, ⟨hne, _⟩ | ⟨_, hne, _⟩ | ⟨_, _, hne, _⟩ | ⟨_, _, _, v, rfl, hd⟩⟩
  · exact absurd tank_fault hne
  · rw [show wicksB tankS [2, 2] = true by decide +kernel] at hne; cases hne
  · omega
  · rw [h2] at hd
    have i1 : IntsAt w' v [1, 0] := IntsAt.of_own hd
    obtain ⟨A, c, rfl, j1⟩ := id i1
    exact ⟨A, c, (by rw [h1]; rfl), i1, hb⟩
theorem nm_del1 (hT : NtsAt W (some ⟨b, 0, none⟩) tankS.ns) (hD : IntsAt W (.slice (some ⟨x, 0, none⟩) 1 1) [1]) :
    Calls Try.prog 33 #[.agg #[.int .i64 100, .int .i64 50, .int .i64 20, .int .i64 30, .slice (some ⟨b, 0, none⟩) 2 2], .slice (some ⟨x, 0, none⟩) 1 1] W fun e w' => e = .returned (.tuple #[.slice none 0 0, .int .i64 0, .int .i64 2]) ∧ Below W.heap.size W w' := by
  have hp : Calls Try.prog 33 #[.agg #[.int .i64 100, .int .i64 50, .int .i64 20, .int .i64 30, .slice (some ⟨b, 0, none⟩) 2 2], .slice (some ⟨x, 0, none⟩) 1 1] W (DeliverPost tankS [1] W) := deliver_any tankS (some ⟨b, 0, none⟩) 2 (some ⟨x, 0, none⟩) 1 [1] W (by decide) (by decide) hT hD
  refine hp.mono ?_
  have hw : wicksB tankS [1] = false := by decide +kernel
  rintro e w' ⟨hb, ⟨hne, _⟩ | ⟨_, hne, rfl⟩ | ⟨_, hne, _⟩ | ⟨_, hne, _⟩⟩
  · exact absurd tank_fault hne
  · exact ⟨rfl, hb⟩
  · rw [hw] at hne; cases hne
  · rw [hw] at hne; cases hne
theorem nm_trim (hT : NtsAt W (some ⟨b, 0, none⟩) tankS.ns) (hD : IntsAt W (.slice (some ⟨x, 0, none⟩) 2 2) [0, 1]) :
    Calls Try.prog 38 #[.agg #[.int .i64 100, .int .i64 50, .int .i64 20, .int .i64 30, .slice (some ⟨b, 0, none⟩) 2 2], .slice (some ⟨x, 0, none⟩) 2 2] W fun e w' => ∃ A c, e = .returned (.tuple #[.slice A 2 c, .int .i64 13, .int .i64 0]) ∧ IntsAt w' (.slice A 2 c) [1, 2] ∧ Below W.heap.size W w' := by
  have hp : Calls Try.prog 38 #[.agg #[.int .i64 100, .int .i64 50, .int .i64 20, .int .i64 30, .slice (some ⟨b, 0, none⟩) 2 2], .slice (some ⟨x, 0, none⟩) 2 2] W (TrimPost tankS [0, 1] W) := trim_any tankS (some ⟨b, 0, none⟩) 2 (some ⟨x, 0, none⟩) 2 [0, 1] W (by decide) (by decide) hT hD
  have h1 : chp tankS (jobT tankS [0, 1]) tankS.ns.length 0 tankS.sl = -13 := by decide +kernel
  have h2 : bestL tankS (jobT tankS [0, 1]) tankS.ns.length 0 tankS.sl = [1, 2] := by decide +kernel
  refine hp.mono ?_
  rintro e w' ⟨hb, ⟨hne, _⟩ | ⟨_, hne, _⟩ | ⟨_, _, hne, _⟩ | ⟨_, _, _, v, rfl, hd⟩⟩
  · exact absurd tank_fault hne
  · rw [show cansB tankS [0, 1] = true by decide +kernel] at hne; cases hne
  · omega
  · rw [h2] at hd
    have i1 : IntsAt w' v [1, 2] := IntsAt.of_own hd
    obtain ⟨A, c, rfl, j1⟩ := id i1
    exact ⟨A, c, (by rw [h1]; rfl), i1, hb⟩
theorem nm_trim0 (hT : NtsAt W (some ⟨b, 0, none⟩) tankS.ns) (hD : IntsAt W (.slice (some ⟨x, 0, none⟩) 2 2) [0, 0]) :
    Calls Try.prog 38 #[.agg #[.int .i64 100, .int .i64 50, .int .i64 20, .int .i64 30, .slice (some ⟨b, 0, none⟩) 2 2], .slice (some ⟨x, 0, none⟩) 2 2] W fun e w' => e = .returned (.tuple #[.slice none 0 0, .int .i64 0, .int .i64 10]) ∧ Below W.heap.size W w' := by
  have hp : Calls Try.prog 38 #[.agg #[.int .i64 100, .int .i64 50, .int .i64 20, .int .i64 30, .slice (some ⟨b, 0, none⟩) 2 2], .slice (some ⟨x, 0, none⟩) 2 2] W (TrimPost tankS [0, 0] W) := trim_any tankS (some ⟨b, 0, none⟩) 2 (some ⟨x, 0, none⟩) 2 [0, 0] W (by decide) (by decide) hT hD
  refine hp.mono ?_
  rintro e w' ⟨hb, ⟨hne, _⟩ | ⟨_, hne, _⟩ | ⟨_, _, _, rfl⟩ | ⟨_, _, hne, _⟩⟩
  · exact absurd tank_fault hne
  · rw [show cansB tankS [0, 0] = true by decide +kernel] at hne; cases hne
  · exact ⟨rfl, hb⟩
  · exact absurd hne (by decide +kernel)
theorem nm_leave0 (hT : NtsAt W (some ⟨b, 0, none⟩) tankS.ns) (hC : IntsAt W (.slice (some ⟨p, 0, none⟩) 2 2) [0, 1]) (hK : IntsAt W (.slice (some ⟨q, 0, none⟩) 2 2) [1, 2]) :
    Calls Try.prog 30 #[.agg #[.int .i64 100, .int .i64 50, .int .i64 20, .int .i64 30, .slice (some ⟨b, 0, none⟩) 2 2], .agg #[.slice (some ⟨p, 0, none⟩) 2 2, .slice (some ⟨q, 0, none⟩) 2 2], .slice none 0 0] W fun e w' => ∃ A c, e = .returned (.tuple #[.slice A 0 c, .int .i64 0]) ∧ Below W.heap.size W w' := by
  have hp : Calls Try.prog 30 #[.agg #[.int .i64 100, .int .i64 50, .int .i64 20, .int .i64 30, .slice (some ⟨b, 0, none⟩) 2 2], .agg #[.slice (some ⟨p, 0, none⟩) 2 2, .slice (some ⟨q, 0, none⟩) 2 2], .slice none 0 0] W (LeavePost tankS [0, 1] [1, 2] [] W) := leaveAll_any tankS (some ⟨b, 0, none⟩) 2 (some ⟨p, 0, none⟩) (some ⟨q, 0, none⟩) 2 2 [0, 1] [1, 2] none 0 [] W (by decide) (by decide) (by decide) (by decide) hT hC hK (.inl rfl)
  have h2 : leaveL tankS (atL [0, 1]) (atL [1, 2]) [] = [] := by decide +kernel
  refine hp.mono ?_
  rintro e w' ⟨hb, ⟨hne, _⟩ | ⟨_, v, rfl, hd⟩⟩
  · exact absurd tank_dipped hne
  · rw [h2] at hd
    have i1 : IntsAt w' v [] := IntsAt.of_own hd
    obtain ⟨A, c, rfl, j1⟩ := id i1
    exact ⟨A, c, rfl, hb⟩
theorem nm_leaveE (dips : List Dp) (e0 : Int) (hT : NtsAt W (some ⟨b, 0, none⟩) tankS.ns) (hC : IntsAt W (.slice (some ⟨p, 0, none⟩) 2 2) [0, 1]) (hK : IntsAt W (.slice (some ⟨q, 0, none⟩) 2 2) [1, 2]) (hD : DpsAt W (some ⟨x, 0, none⟩) dips) (hl : dips.length ≤ 100) (he : dippedL tankS [0, 1] [1, 2] dips = e0) (hn : e0 ≠ 0) :
    Calls Try.prog 30 #[.agg #[.int .i64 100, .int .i64 50, .int .i64 20, .int .i64 30, .slice (some ⟨b, 0, none⟩) 2 2], .agg #[.slice (some ⟨p, 0, none⟩) 2 2, .slice (some ⟨q, 0, none⟩) 2 2], .slice (some ⟨x, 0, none⟩) dips.length dips.length] W fun e w' => e = .returned (.tuple #[.slice none 0 0, .int .i64 e0]) ∧ Below W.heap.size W w' := by
  have hp : Calls Try.prog 30 #[.agg #[.int .i64 100, .int .i64 50, .int .i64 20, .int .i64 30, .slice (some ⟨b, 0, none⟩) 2 2], .agg #[.slice (some ⟨p, 0, none⟩) 2 2, .slice (some ⟨q, 0, none⟩) 2 2], .slice (some ⟨x, 0, none⟩) dips.length dips.length] W (LeavePost tankS [0, 1] [1, 2] dips W) := leaveAll_any tankS (some ⟨b, 0, none⟩) 2 (some ⟨p, 0, none⟩) (some ⟨q, 0, none⟩) 2 2 [0, 1] [1, 2] (some ⟨x, 0, none⟩) dips.length dips W (by decide) (by decide) (by decide) (by omega) hT hC hK hD
  refine hp.mono ?_
  rintro e w' ⟨hb, ⟨_, rfl⟩ | ⟨hz, _⟩⟩
  · exact ⟨by rw [he], hb⟩
  · exact absurd (he.symm.trans hz) hn
theorem nm_play (hT : NtsAt W (some ⟨b, 0, none⟩) tankS.ns) (hC : IntsAt W (.slice (some ⟨p, 0, none⟩) 2 2) [0, 1]) (hK : IntsAt W (.slice (some ⟨q, 0, none⟩) 2 2) [1, 2]) (hD : IntsAt W (.slice (some ⟨x, 0, none⟩) 2 2) [3, 2]) :
    Calls Try.prog 20 #[.agg #[.int .i64 100, .int .i64 50, .int .i64 20, .int .i64 30, .slice (some ⟨b, 0, none⟩) 2 2], .agg #[.slice (some ⟨p, 0, none⟩) 2 2, .slice (some ⟨q, 0, none⟩) 2 2], .agg #[.int .i64 31, .slice (some ⟨x, 0, none⟩) 2 2]] W fun e w' => e = .returned (.tuple #[.slice none 0 0, .slice none 0 0, .slice none 0 0, .int .i64 2]) ∧ Below W.heap.size W w' := by
  have hp : Calls Try.prog 20 #[.agg #[.int .i64 100, .int .i64 50, .int .i64 20, .int .i64 30, .slice (some ⟨b, 0, none⟩) 2 2], .agg #[.slice (some ⟨p, 0, none⟩) 2 2, .slice (some ⟨q, 0, none⟩) 2 2], .agg #[.int .i64 31, .slice (some ⟨x, 0, none⟩) 2 2]] W (PlayPost tankS [0, 1] [1, 2] 31 [3, 2] W) := play_any tankS (some ⟨b, 0, none⟩) 2 (some ⟨p, 0, none⟩) (some ⟨q, 0, none⟩) 2 2 [0, 1] [1, 2] 31 (some ⟨x, 0, none⟩) 2 [3, 2] W (by decide) (by decide) (by decide) (by decide) hT hC hK hD
  refine hp.mono ?_
  rintro e w' ⟨hb, ⟨hne, _⟩ | ⟨_, _, rfl⟩ | ⟨_, hne, _⟩⟩
  · exact absurd tank_plan hne
  · exact ⟨rfl, hb⟩
  · rw [show truthB tankS 31 [3, 2] = false by decide +kernel] at hne; cases hne
theorem nm_dark (hT : NtsAt W (some ⟨b, 0, none⟩) tankS.ns) (hC : IntsAt W (.slice (some ⟨p, 0, none⟩) 2 2) [0, 1]) (hK : IntsAt W (.slice (some ⟨q, 0, none⟩) 2 2) [4, 2]) :
    Calls Try.prog 46 #[.agg #[.int .i64 100, .int .i64 50, .int .i64 20, .int .i64 30, .slice (some ⟨b, 0, none⟩) 2 2], .agg #[.slice (some ⟨p, 0, none⟩) 2 2, .slice (some ⟨q, 0, none⟩) 2 2]] W fun e w' => e = .returned (.tuple #[.slice none 0 0, .int .i64 2]) ∧ Below W.heap.size W w' := by
  have hp : Calls Try.prog 46 #[.agg #[.int .i64 100, .int .i64 50, .int .i64 20, .int .i64 30, .slice (some ⟨b, 0, none⟩) 2 2], .agg #[.slice (some ⟨p, 0, none⟩) 2 2, .slice (some ⟨q, 0, none⟩) 2 2]] W (DarkPost tankS [0, 1] [4, 2] W) := Dark_any tankS (some ⟨b, 0, none⟩) 2 (some ⟨p, 0, none⟩) (some ⟨q, 0, none⟩) 2 2 [0, 1] [4, 2] W (by decide) (by decide) (by decide) hT hC hK
  have h2 : planL tankS [0, 1] [4, 2] = 2 := by decide +kernel
  refine hp.mono ?_
  rintro e w' ⟨hb, ⟨_, rfl⟩ | ⟨hz, _⟩⟩
  · exact ⟨by rw [h2], hb⟩
  · rw [h2] at hz; cases hz
theorem nm_prove (y : Int) (r : Bool) (hr : provePlanB tankS [0, y] [1, 2] = r) (hT : NtsAt W (some ⟨b, 0, none⟩) tankS.ns) (hC : IntsAt W (.slice (some ⟨p, 0, none⟩) 2 2) [0, y]) (hK : IntsAt W (.slice (some ⟨q, 0, none⟩) 2 2) [1, 2]) :
    Calls Try.prog 51 #[.agg #[.int .i64 100, .int .i64 50, .int .i64 20, .int .i64 30, .slice (some ⟨b, 0, none⟩) 2 2], .agg #[.slice (some ⟨p, 0, none⟩) 2 2, .slice (some ⟨q, 0, none⟩) 2 2]] W fun e w' => e = .returned (.bool r) ∧ Below W.heap.size W w' := by
  have hp : Calls Try.prog 51 #[.agg #[.int .i64 100, .int .i64 50, .int .i64 20, .int .i64 30, .slice (some ⟨b, 0, none⟩) 2 2], .agg #[.slice (some ⟨p, 0, none⟩) 2 2, .slice (some ⟨q, 0, none⟩) 2 2]] W (fun e w' => e = .returned (.bool (provePlanB tankS [0, y] [1, 2])) ∧ Below W.heap.size W w') := provePlan_any tankS (some ⟨b, 0, none⟩) 2 (some ⟨p, 0, none⟩) (some ⟨q, 0, none⟩) 2 2 [0, y] [1, 2] W (by decide) (by simp) (by decide) hT hC hK
  rw [hr] at hp
  exact hp
end
theorem nm_p1 : provePlanB tankS [0, 1] [1, 2] = true := by decide +kernel
theorem nm_p2 : provePlanB tankS [0, 0] [1, 2] = false := by decide +kernel
theorem nm_p3 : provePlanB tankS [0, 3] [1, 2] = false := by decide +kernel
theorem nm_d7 : dippedL tankS [0, 1] [1, 2] (List.replicate 7 ⟨0, 0, 0⟩) = 3 := by decide +kernel
theorem nm_d2 : dippedL tankS [0, 1] [1, 2] [⟨2, 0, 0⟩] = 2 := by decide +kernel
theorem nm_f1 : faultS ⟨401, 50, 20, 30, [⟨5, 1, 3, 2, 3⟩, ⟨4, 1, 2, 2, 2⟩]⟩ = 1 := by decide +kernel
theorem nm_f2 : faultS ⟨100, 0, 20, 30, [⟨5, 1, 3, 2, 3⟩, ⟨4, 1, 2, 2, 2⟩]⟩ = 1 := by decide +kernel
theorem nm_f3 : faultS ⟨100, 50, 20, 101, [⟨5, 1, 3, 2, 3⟩, ⟨4, 1, 2, 2, 2⟩]⟩ = 1 := by decide +kernel
theorem nm_f4 : faultS ⟨100, 50, 20, 30, [⟨15, 1, 3, 2, 3⟩, ⟨4, 1, 2, 2, 2⟩]⟩ = 1 := by decide +kernel
theorem nm_f5 : faultS ⟨100, 50, 20, 30, [⟨5, 4, 3, 2, 3⟩, ⟨4, 1, 2, 2, 2⟩]⟩ = 1 := by decide +kernel
theorem nm_f6 : faultS ⟨100, 50, 20, 30, List.replicate 7 ⟨0, 0, 0, 0, 0⟩⟩ = 3 := by decide +kernel
theorem nm_f7 : faultS ⟨0, 0, 0, 0, []⟩ = 1 := by decide +kernel
end Go.Proofs.Ytefhdcecbmgljaa

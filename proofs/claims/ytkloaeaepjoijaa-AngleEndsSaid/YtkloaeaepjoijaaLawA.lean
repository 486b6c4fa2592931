/-
  What several laws need: few, truths that are shown.
-/
import Derived.Test.YtkloaeaepjoijaaOpen
import Derived.Test.YtkloaeaepjoijaaRef11
set_option linter.all false
namespace Go.Proofs.Ytkloaeaepjoijaa
open Go.RowKit Go.WalkArith

theorem angs_drew {W : World} {A : Option Addr} {l : List Ang} (h : AngsAt W A l) : AngsAt W.drew A l := h

set_option maxRecDepth 100000 in
set_option maxHeartbeats 4000000 in
theorem few_all (A : Option Addr) (n cap : Nat) (T C m : Int) (l : List Ang) (w : World) (hl : l.length = n) (hA : AngsAt w A l) :
    Calls Try.prog 34 #[.agg #[.slice A n cap, .int .i64 T, .int .i64 C], .int .i64 m] w fun e w' => e = .returned (.bool (fewB l T C m)) ∧ Below w.heap.size w w' := by
  by_cases hn : n ≤ 1000000
  · exact few_any A n cap T C m l w hn hl hA
  · have hB : Below w.heap.size w (w.alloc (.cells #[.slice A n cap, .int .i64 T, .int .i64 C] 24)) := (Below.refl _ _).alloc (Nat.le_refl _) _
    have hth := Lib.hid (thin_any A n cap T C (w.alloc (.cells #[.slice A n cap, .int .i64 T, .int .i64 C] 24)))
    have HB := Lib.hid hB
    have hd : decide (n ≤ 15) = false := by simp; omega
    rw [hd] at hth
    have HFB2 := Lib.hid (show fewB l T C m = false by unfold fewB; rw [hl, hd]; rfl)
    clear hd hB hA
    go_enter Try.func34, Try.ntmps34
    go_wp2_with fail
    refine hth.out.mono ?_
    rintro e w1 ⟨rfl, hb1⟩
    have HB1 := Lib.hid (HB.out.trans (hb1.mono HB.out.size))
    clear hb1 hth HB
    go_wp2_with fail
    go_ret
    exact ⟨by rw [HFB2.out]; rfl, HB1.out⟩

theorem fewB_len {l : List Ang} {T C m : Int} (h : fewB l T C m = true) : l.length ≤ 15 := by
  unfold fewB at h
  simp only [Bool.and_eq_true, decide_eq_true_eq] at h
  exact h.1

/-- What Show hands back is a truth by the reference. -/
theorem shown_truth {l : List Ang} {T C err : Int} {x : Int → Int} (h0 : askedL l T C err = 0) (ht : TruthE l T C err [] x) : isTruthB l T C err ((List.range l.length).map fun i : Nat => x i) = true := by
  have h := truthB_iff.2 ⟨h0, by simp, ht.congr (y := fnOf ((List.range l.length).map fun i : Nat => x i)) (fun i hi => by rw [fnOf_at (by simpa using hi)]; simp)⟩
  rw [truthB_is, h0] at h
  simpa using h

theorem low_unique {P : Int → Bool} {lo hi a b : Int} (h1 : IsLow P lo hi a) (h2 : IsLow P lo hi b) : a = b := by
  rcases Int.lt_trichotomy a b with h | h | h
  · have := h2.no a h1.ge h; rw [h1.yes] at this; cases this
  · exact h
  · have := h1.no b h2.ge h; rw [h2.yes] at this; cases this
theorem high_unique {P : Int → Bool} {lo hi a b : Int} (h1 : IsHigh P lo hi a) (h2 : IsHigh P lo hi b) : a = b := by
  rcases Int.lt_trichotomy a b with h | h | h
  · have := h1.no b h h2.le; rw [h2.yes] at this; cases this
  · exact h
  · have := h2.no a h h1.le; rw [h1.yes] at this; cases this

section
variable {A : Option Addr} {n cap : Nat} {T C err : Int} {l : List Ang} {w : World}
theorem bounds_no (hn : n ≤ 1000000) (hl : l.length = n) (hA : AngsAt w A l) (hs : sureL l T C err ≠ 0) :
    Calls Try.prog 35 #[.agg #[.slice A n cap, .int .i64 T, .int .i64 C], .int .i64 err] w fun e w' => e = .returned (.tuple #[.slice none 0 0, .int .i64 (sureL l T C err)]) ∧ Below w.heap.size w w' := by
  refine (boundsAll_any A n cap T C err l w hn hl hA).mono ?_
  rintro e w' ⟨hb, ⟨_, rfl⟩ | ⟨h0, _⟩⟩
  · exact ⟨rfl, hb⟩
  · exact absurd h0 hs
theorem bounds_yes (hn : n ≤ 1000000) (hl : l.length = n) (hA : AngsAt w A l) (hs : sureL l T C err = 0) :
    Calls Try.prog 35 #[.agg #[.slice A n cap, .int .i64 T, .int .i64 C], .int .i64 err] w fun e w' => ∃ b o cp bl bh, e = .returned (.tuple #[.slice (some ⟨b, o, none⟩) n cp, .int .i64 0]) ∧ (∀ i : Nat, i < n → w'.cell? ⟨b, o + i * 2, none⟩ = some (.int .i64 (bl i)) ∧ w'.cell? ⟨b, o + i * 2 + 1, none⟩ = some (.int .i64 (bh i))) ∧ BoundsE l T C err n bl bh ∧ Below w.heap.size w w' := by
  have hpos := (askedL_ok (sureL_ok hs).1).1.pos
  refine (boundsAll_any A n cap T C err l w hn hl hA).mono ?_
  rintro e w' ⟨hb, ⟨h0, _⟩ | ⟨_, v, bl, bh, rfl, ho, hbe⟩⟩
  · exact absurd hs h0
  · obtain ⟨A', cp, rfl, hc⟩ := RangesAt.of_own ho
    obtain ⟨b, o, rfl, hcc⟩ := hc.resolve_left (by omega)
    subst hl
    exact ⟨b, o, cp, bl, bh, rfl, hcc, hbe, hb⟩
theorem show_no (hn : n ≤ 1000000) (hl : l.length = n) (hA : AngsAt w A l) (hs : sureL l T C err ≠ 0) :
    Calls Try.prog 36 #[.agg #[.slice A n cap, .int .i64 T, .int .i64 C], .int .i64 err] w fun e w' => e = .returned (.tuple #[.slice none 0 0, .int .i64 (sureL l T C err)]) ∧ Below w.heap.size w w' := by
  refine (show_any A n cap T C err l w hn hl hA).mono ?_
  rintro e w' ⟨hb, ⟨_, rfl⟩ | ⟨h0, _⟩⟩
  · exact ⟨rfl, hb⟩
  · exact absurd h0 hs
theorem show_yes (hn : n ≤ 1000000) (hl : l.length = n) (hA : AngsAt w A l) (hs : sureL l T C err = 0) :
    Calls Try.prog 36 #[.agg #[.slice A n cap, .int .i64 T, .int .i64 C], .int .i64 err] w fun e w' => ∃ Av cp xs, e = .returned (.tuple #[.slice Av (List.length xs) cp, .int .i64 0]) ∧ List.length xs = n ∧ IntsAt w' (.slice Av (List.length xs) cp) xs ∧ isTruthB l T C err xs = true ∧ Below w.heap.size w w' := by
  refine (show_any A n cap T C err l w hn hl hA).mono ?_
  rintro e w' ⟨hb, ⟨h0, _⟩ | ⟨_, v, x, rfl, ho, hx⟩⟩
  · exact absurd hs h0
  · have ho2 : w'.ownsRow w.heap.size 3 1 v ((List.range l.length).map fun i : Nat => x i).length (((List.range l.length).map fun i : Nat => x i).map (Value.int .i64)) := by
      rw [List.map_map]; simp only [List.length_map, List.length_range]; exact ho
    have hI := IntsAt.of_own ho2
    obtain ⟨Av, cp, rfl⟩ := own_slice ho2
    exact ⟨Av, cp, _, rfl, by simpa using hl, hI, shown_truth (sureL_ok hs).1 hx, hb⟩
theorem control_no (hn : n ≤ 1000000) (hl : l.length = n) (hA : AngsAt w A l) (hs : sureL l T C err ≠ 0) :
    Calls Try.prog 40 #[.agg #[.slice A n cap, .int .i64 T, .int .i64 C], .int .i64 err] w fun e w' => e = .returned (.tuple #[.slice none 0 0, .int .i64 (sureL l T C err)]) ∧ Below w.heap.size w w' := by
  refine (control_any A n cap T C err l w hn hl hA).mono ?_
  rintro e w' ⟨hb, ⟨_, rfl⟩ | ⟨h0, _⟩⟩
  · exact ⟨rfl, hb⟩
  · exact absurd h0 hs
theorem control_yes (hn : n ≤ 1000000) (hl : l.length = n) (hA : AngsAt w A l) (hs : sureL l T C err = 0) :
    Calls Try.prog 40 #[.agg #[.slice A n cap, .int .i64 T, .int .i64 C], .int .i64 err] w fun e w' => ∃ Av cp, e = .returned (.tuple #[.slice Av (ctlL l T C err n).length cp, .int .i64 0]) ∧ IntsAt w' (.slice Av (ctlL l T C err n).length cp) (ctlL l T C err n) ∧ Below w.heap.size w w' := by
  refine (control_any A n cap T C err l w hn hl hA).mono ?_
  rintro e w' ⟨hb, ⟨h0, _⟩ | ⟨_, v, rfl, ho⟩⟩
  · exact absurd hs h0
  · subst hl
    have hI := IntsAt.of_own ho
    obtain ⟨Av, cp, rfl⟩ := own_slice ho
    exact ⟨Av, cp, rfl, hI, hb⟩
theorem leave_no (hn : n ≤ 1000000) (hl : l.length = n) (hA : AngsAt w A l) (hs : askedL l T C err ≠ 0) :
    Calls Try.prog 43 #[.agg #[.slice A n cap, .int .i64 T, .int .i64 C], .int .i64 err] w fun e w' => e = .returned (.tuple #[.slice none 0 0, .int .i64 (askedL l T C err)]) ∧ Below w.heap.size w w' := by
  refine (leaveAll_any A n cap T C err l w hn hl hA).mono ?_
  rintro e w' ⟨hb, ⟨_, rfl⟩ | ⟨h0, _⟩ | ⟨h0, _⟩⟩
  · exact ⟨rfl, hb⟩
  · exact absurd h0 hs
  · exact absurd h0 hs
theorem leave_none (hn : n ≤ 1000000) (hl : l.length = n) (hA : AngsAt w A l) (hs : askedL l T C err = 0) (ho : leaveO l T C err = none) :
    Calls Try.prog 43 #[.agg #[.slice A n cap, .int .i64 T, .int .i64 C], .int .i64 err] w fun e w' => e = .returned (.tuple #[.slice none 0 0, .int .i64 9]) ∧ Below w.heap.size w w' := by
  refine (leaveAll_any A n cap T C err l w hn hl hA).mono ?_
  rintro e w' ⟨hb, ⟨h0, _⟩ | ⟨_, _, rfl⟩ | ⟨_, xs, v, h1, _⟩⟩
  · exact absurd hs h0
  · exact ⟨rfl, hb⟩
  · rw [ho] at h1; cases h1
theorem leave_some {L : List Int} (hn : n ≤ 1000000) (hl : l.length = n) (hA : AngsAt w A l) (hs : askedL l T C err = 0) (ho : leaveO l T C err = some L) :
    Calls Try.prog 43 #[.agg #[.slice A n cap, .int .i64 T, .int .i64 C], .int .i64 err] w fun e w' => ∃ Av cp, e = .returned (.tuple #[.slice Av L.length cp, .int .i64 0]) ∧ IntsAt w' (.slice Av L.length cp) L ∧ Below w.heap.size w w' := by
  refine (leaveAll_any A n cap T C err l w hn hl hA).mono ?_
  rintro e w' ⟨hb, ⟨h0, _⟩ | ⟨_, h1, _⟩ | ⟨_, xs, v, h1, rfl, how⟩⟩
  · exact absurd hs h0
  · rw [ho] at h1; cases h1
  · obtain rfl : L = xs := by rw [ho] at h1; simpa using h1
    have hI := IntsAt.of_own how
    obtain ⟨Av, cp, rfl⟩ := own_slice how
    exact ⟨Av, cp, rfl, hI, hb⟩
end
end Go.Proofs.Ytkloaeaepjoijaa

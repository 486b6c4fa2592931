/-
  AngleLeasts: the walk.
-/
import Derived.Test.YtkloaeaepjoijaaOpen
set_option linter.all false
namespace Go.Proofs.Ytkloaeaepjoijaa
open Go.RowKit Go.WalkArith

set_option maxRecDepth 100000 in
set_option maxHeartbeats 4000000 in
theorem leasts_walk (A : Option Addr) (n cap : Nat) (T C : Int) (l : List Ang) (w : World) (hl : l.length = n) (hA : AngsAt w A l) (_ : NilOk A cap) :
    Calls Try.prog 4 #[.agg #[.slice A n cap, .int .i64 T, .int .i64 C]] w fun e w' => e = .returned (.bool true) ∧ Below w.heap.size w w' := by
  subst hl
  have hB : Below w.heap.size w (w.alloc (.cells #[.slice A l.length cap, .int .i64 T, .int .i64 C] 24)) := (Below.refl _ _).alloc (Nat.le_refl _) _
  have hn0 := Go.heap_alloc_new w (.cells #[.slice A l.length cap, .int .i64 T, .int .i64 C] 24)
  have hth := Lib.hid (thin_any A l.length cap T C (w.alloc (.cells #[.slice A l.length cap, .int .i64 T, .int .i64 C] 24)))
  have HB := Lib.hid hB
  have HN := Lib.hid hn0
  have HA := Lib.hid hA
  clear hB hn0 hA
  by_cases h15 : l.length ≤ 15
  · have hd : decide (l.length ≤ 15) = true := by simpa using h15
    rw [hd] at hth
    clear hd
    go_enter Try.func4, Try.ntmps4
    go_wp2_with fail
    refine hth.out.mono ?_
    rintro e w1 ⟨rfl, hb1⟩
    have hB1 : Below w.heap.size w w1 := HB.out.trans (hb1.mono HB.out.size)
    have n1 := (hb1.block w.heap.size (by simp)).trans HN.out
    obtain ⟨Bi, hBi⟩ : ∃ Bi, w.heap.size = Bi := ⟨_, rfl⟩
    rw [hBi] at n1 ⊢
    have c0 : w1.cell? ⟨Bi, 0, none⟩ = some (.slice A l.length cap) := by simp [World.cell?, n1]
    have c1 : w1.cell? ⟨Bi, 1, none⟩ = some (.int .i64 T) := by simp [World.cell?, n1]
    have c2 : w1.cell? ⟨Bi, 2, none⟩ = some (.int .i64 C) := by simp [World.cell?, n1]
    have hnet := Lib.hid (net_any A cap T C l w1 (HA.out.keep hB1 (Nat.le_refl _)) (by omega))
    have HB1 := Lib.hid hB1
    have HN1 := Lib.hid n1
    clear n1 hb1 hB1 hth HB HN hBi
    go_wp2_with fail
    refine hnet.out.mono ?_
    rintro e w2 ⟨A2, cap2, rfl, hA2, hN2, hb2⟩
    have hB2 := HB1.out.trans (hb2.mono HB1.out.size)
    have n2 := (hb2.block Bi (Array.getElem?_eq_some_iff.1 HN1.out).1).trans HN1.out
    have hle := Lib.hid (least_any A2 l.length cap2 T C l w2 (by omega) rfl hA2)
    have HB2 := Lib.hid hB2
    have HN2 := Lib.hid n2
    clear hB2 n2 hb2 hA2 hN2 hnet HB1 HN1 c0 c1 c2
    go_wp2_with fail
    refine hle.out.mono ?_
    rintro e w3 ⟨rfl, hb3⟩
    have hB3 := HB2.out.trans (hb3.mono HB2.out.size)
    have n3 := (hb3.block Bi (Array.getElem?_eq_some_iff.1 HN2.out).1).trans HN2.out
    have c0 : w3.cell? ⟨Bi, 0, none⟩ = some (.slice A l.length cap) := by simp [World.cell?, n3]
    have c1 : w3.cell? ⟨Bi, 1, none⟩ = some (.int .i64 T) := by simp [World.cell?, n3]
    have c2 : w3.cell? ⟨Bi, 2, none⟩ = some (.int .i64 C) := by simp [World.cell?, n3]
    have hfa := Lib.hid (lawFault_any A l.length cap T C l w3 (by omega) rfl (HA.out.keep hB3 (Nat.le_refl _)))
    have HB3 := Lib.hid hB3
    have HN3 := Lib.hid n3
    clear hB3 n3 hb3 hle HB2 HN2
    obtain ⟨F, hF⟩ : ∃ F, faultL l T C = F := ⟨_, rfl⟩
    obtain ⟨N, hN⟩ : ∃ N, leastN l T C = N := ⟨_, rfl⟩
    obtain ⟨E, hE⟩ : ∃ E, leastE l T C = E := ⟨_, rfl⟩
    rw [hF] at hfa
    rw [hN, hE]
    by_cases h0 : F = 0
    · have hok := faultL_zero.1 (hF.trans h0)
      obtain ⟨b, o, rfl⟩ := HA.out.some hok.pos
      subst h0
      go_wp2_with fail
      refine hfa.out.mono ?_
      rintro e w4 ⟨rfl, hb4⟩
      have hB4 := HB3.out.trans (hb4.mono HB3.out.size)
      have n4 := (hb4.block Bi (Array.getElem?_eq_some_iff.1 HN3.out).1).trans HN3.out
      have d0 : w4.cell? ⟨Bi, 0, none⟩ = some (.slice (some ⟨b, o, none⟩) l.length cap) := by simp [World.cell?, n4]
      have d1 : w4.cell? ⟨Bi, 1, none⟩ = some (.int .i64 T) := by simp [World.cell?, n4]
      have d2 : w4.cell? ⟨Bi, 2, none⟩ = some (.int .i64 C) := by simp [World.cell?, n4]
      have hrl := refLeast_any b o l.length cap T C l w4 rfl hok (HA.out.keep hB4 (Nat.le_refl _))
      have HB4 := Lib.hid hB4
      have hlo : (∃ k : Nat, leastR l T C = k ∧ N = k ∧ E = 0) ∨ (leastR l T C = -1 ∧ N = 0 ∧ E = 9) := by
        rw [← hN, ← hE]
        unfold leastR leastN leastE
        rw [hF]
        cases leastO l T C with
        | none => exact .inr ⟨rfl, rfl, rfl⟩
        | some k => exact .inl ⟨k, rfl, rfl, rfl⟩
      clear hB4 n4 hb4 hfa HB3 HN3 hF hN hE hok c0 c1 c2
      rcases hlo with ⟨k, hR, rfl, rfl⟩ | ⟨hR, rfl, rfl⟩
      · rw [hR] at hrl
        have hrl2 := Lib.hid hrl
        clear hrl hR
        go_wp2_with fail
        refine hrl2.out.mono ?_
        rintro e w5 ⟨rfl, hb5⟩
        have HB5 := Lib.hid (HB4.out.trans (hb5.mono HB4.out.size))
        have haw := Lib.hid (awake_any w5)
        have hk : decide ((k : Int) < 0) = false := by simp
        clear hb5 hrl2
        go_wp2_with fail
        refine haw.out.mono ?_
        rintro e w6 ⟨rfl, hb6⟩
        have HB6 := Lib.hid (HB5.out.trans (hb6.mono HB5.out.size))
        clear hb6
        go_wp2_with fail
        go_ret
        exact ⟨rfl, HB6.out⟩
      · rw [hR] at hrl
        have hrl2 := Lib.hid hrl
        clear hrl hR
        go_wp2_with fail
        refine hrl2.out.mono ?_
        rintro e w5 ⟨rfl, hb5⟩
        have HB5 := Lib.hid (HB4.out.trans (hb5.mono HB4.out.size))
        have haw := Lib.hid (awake_any w5)
        clear hb5 hrl2
        go_wp2_with fail
        refine haw.out.mono ?_
        rintro e w6 ⟨rfl, hb6⟩
        have HB6 := Lib.hid (HB5.out.trans (hb6.mono HB5.out.size))
        clear hb6
        go_wp2_with fail
        go_ret
        exact ⟨rfl, HB6.out⟩
    · have hne : (F != 0) = true := by simpa using h0
      have hN0 : N = 0 := by rw [← hN]; unfold leastN; rw [hF, if_pos h0]
      have hE0 : E = F := by rw [← hE]; unfold leastE; rw [hF, if_pos h0]
      subst hN0 hE0
      clear hF hN hE h0
      go_wp2_with fail
      refine hfa.out.mono ?_
      rintro e w4 ⟨rfl, hb4⟩
      have HB4 := Lib.hid (HB3.out.trans (hb4.mono HB3.out.size))
      have haw := Lib.hid (awake_any w4)
      have hee : (E == E) = true := by simp
      clear hb4 hfa
      go_wp2_with fail
      refine haw.out.mono ?_
      rintro e w6 ⟨rfl, hb6⟩
      have HB6 := Lib.hid (HB4.out.trans (hb6.mono HB4.out.size))
      clear hb6
      go_wp2_with fail
      go_ret
      exact ⟨rfl, HB6.out⟩
  · have hd : decide (l.length ≤ 15) = false := by simpa using h15
    rw [hd] at hth
    clear hd
    go_enter Try.func4, Try.ntmps4
    go_wp2_with fail
    refine hth.out.mono ?_
    rintro e w1 ⟨rfl, hb1⟩
    have HB1 := Lib.hid (HB.out.trans (hb1.mono HB.out.size))
    have haw := Lib.hid (awake_any w1)
    clear hb1 hth HB HN
    go_wp2_with fail
    refine haw.out.mono ?_
    rintro e w6 ⟨rfl, hb6⟩
    have HB6 := Lib.hid (HB1.out.trans (hb6.mono HB1.out.size))
    clear hb6
    go_wp2_with fail
    go_ret
    exact ⟨rfl, HB6.out⟩
end Go.Proofs.Ytkloaeaepjoijaa

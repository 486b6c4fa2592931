/-
  Nets in memory; node, within, arc.
-/
import Derived.Test.YtkloaeaepjoijaaSmall
import Derived.Test.YtkloaeaepjoijaaCut
import Derived.Outline
set_option linter.all false
namespace Go.Proofs.Ytkloaeaepjoijaa
open Go.RowKit Go.WalkArith

theorem within_any (n lo hi : Int) (w : World) :
    Calls Try.prog 68 #[.int .i64 n, .int .i64 lo, .int .i64 hi] w fun e w' => e = .returned (.bool (decide (lo ≤ n ∧ n ≤ hi))) ∧ w = w' := by
  by_cases h1 : lo ≤ n
  · by_cases h2 : n ≤ hi
    · go_enter Try.func68, Try.ntmps68
      go_wp2
      go_ret
      exact ⟨by simp [h1, h2], rfl⟩
    · have h2' : decide (n ≤ hi) = false := by simpa using h2
      go_enter Try.func68, Try.ntmps68
      go_wp2
      go_ret
      exact ⟨by simp [h2], rfl⟩
  · have h1' : decide (lo ≤ n) = false := by simpa using h1
    go_enter Try.func68, Try.ntmps68
    go_wp2
    go_ret
    exact ⟨by simp [h1], rfl⟩

theorem node_any (i base : Int) (w : World) (hi0 : -1 ≤ i) (hi1 : i ≤ 1000) (hb0 : 0 ≤ base) (hb1 : base ≤ 1000) :
    Calls Try.prog 97 #[.int .i64 i, .int .i64 base] w fun e w' => e = .returned (.int .i64 (nodeOf i base)) ∧ w = w' := by
  by_cases h : i = -1
  · subst h
    go_enter Try.func97, Try.ntmps97
    go_wp2
    go_ret
    exact ⟨rfl, rfl⟩
  · have hb : (i == -1) = false := by simpa using h
    go_enter Try.func97, Try.ntmps97
    go_wp2
    go_ret
    exact ⟨by simp [nodeOf, h], rfl⟩

/-- An angle, as a net has it. -/
structure Ang where
  t : Int
  c : Int
  r : Int
  g : Int

/-- Its four numbers lie from an address on. -/
def AngAt (W : World) (b o : Nat) (a : Ang) : Prop :=
  W.cell? ⟨b, o, none⟩ = some (.int .i64 a.t) ∧ W.cell? ⟨b, o + 1, none⟩ = some (.int .i64 a.c) ∧ W.cell? ⟨b, o + 2, none⟩ = some (.int .i64 a.r) ∧ W.cell? ⟨b, o + 3, none⟩ = some (.int .i64 a.g)

/-- A slice of angles reads as a list. -/
def AngsAt (W : World) (A : Option Addr) (l : List Ang) : Prop :=
  l = [] ∨ ∃ b o, A = some ⟨b, o, none⟩ ∧ ∀ i (h : i < l.length), AngAt W b (o + i * 4) l[i]

set_option maxRecDepth 100000 in
set_option maxHeartbeats 1000000 in
theorem arc_any (b o n cap : Nat) (T C : Int) (i : Nat) (a : Ang) (w : World) (hi : i < n) (hn : n ≤ 1000) (ha : AngAt w b (o + i * 4) a) (ht0 : -1 ≤ a.t) (ht1 : a.t ≤ 4) (hc0 : -1 ≤ a.c) (hc1 : a.c ≤ 4) :
    Calls Try.prog 69 #[.agg #[.slice (some ⟨b, o, none⟩) n cap, .int .i64 T, .int .i64 C], .int .i64 i] w fun e w' => e = .returned (.agg #[.int .i64 (nodeOf a.t 0), .int .i64 (nodeOf a.c 5), .int .i64 i]) ∧ Below w.heap.size w w' := by
  obtain ⟨h1, h2, _, _⟩ := ha
  have hbl := World.block_lt_of_cell? w _ h1
  have hi0 : (0 : Int) ≤ (i : Int) := by omega
  have hi1 : (i : Int) < (n : Int) := by omega
  go_enter Try.func69, Try.ntmps69
  go_wp2_with fail
  go_region_held3 (fun X => X.cell? ⟨w.heap.size, 0, none⟩ = some (.slice (some ⟨b, o, none⟩) n cap) ∧ X.cell? ⟨b, o + i * 4, none⟩ = some (.int .i64 a.t) ∧ X.cell? ⟨b, o + i * 4 + 1, none⟩ = some (.int .i64 a.c)) (go_keep) (first | (go_at_call 97; refine (node_any _ _ _ (by omega) (by omega) (by omega) (by omega)).mono ?_; rintro e w' ⟨rfl, rfl⟩))
  go_wp2_with fail
  exact bodyPost_ret (v := .agg #[.int .i64 (nodeOf a.t 0), .int .i64 (nodeOf a.c 5), .int .i64 i]) (by simp [results, Try.results69, go_sem]) rfl ⟨rfl, (((Below.refl _ _).alloc (Nat.le_refl _) _).alloc (by simp) _).drew⟩
end Go.Proofs.Ytkloaeaepjoijaa

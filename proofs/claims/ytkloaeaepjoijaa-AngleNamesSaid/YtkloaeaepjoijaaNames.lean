/-
  AngleNames: the walk.
-/
import Derived.Test.YtkloaeaepjoijaaLawD
import Derived.Test.YtkloaeaepjoijaaAwake
set_option linter.all false
namespace Go.Proofs.Ytkloaeaepjoijaa
open Go.RowKit Go.WalkArith

theorem names_leave : leaveO sixL 2 1 2 = some [] := by decide +kernel
theorem names_sure1 : sureL sixL 2 1 1 = 9 := by decide +kernel
theorem names_cut0 : cutB sixL 2 1 0 [0] [] = true := by decide +kernel
theorem names_cut1 : cutB sixL 2 1 1 [0] [] = false := by decide +kernel
theorem names_cute : cutB sixL 2 1 0 [] [] = false := by decide +kernel
theorem names_tr1 : truthB sixL 2 1 2 [9, 11, 16, 18, 38, 18] = true := by decide +kernel
theorem names_tr2 : truthB sixL 2 1 2 [9, 11, 16, 18, 37, 18] = false := by decide +kernel
theorem names_sure41 : sureL sixL 2 1 41 = 2 := by decide +kernel
theorem names_asked_1 : askedL sixL 2 1 (-1) = 2 := by decide +kernel
theorem names_least3 : leastE sixL 3 1 = 9 := by decide +kernel
def aloneL : List Ang := [⟨-1, 0, 40, 1⟩]
theorem names_least1 : leastE aloneL 0 1 = 9 := by decide +kernel
theorem names_sure40 : sureL aloneL 0 1 40 = 9 := by decide +kernel
def wrongL : List Ang := [⟨2, -1, 10, 1⟩, ⟨0, -1, 12, 1⟩, ⟨0, 0, 17, 1⟩, ⟨1, 0, 18, 1⟩, ⟨-1, 0, 36, 1⟩, ⟨1, -1, 20, 1⟩]
def weightL : List Ang := [⟨0, -1, 10, 0⟩, ⟨0, -1, 12, 1⟩, ⟨0, 0, 17, 1⟩, ⟨1, 0, 18, 1⟩, ⟨-1, 0, 36, 1⟩, ⟨1, -1, 20, 1⟩]
theorem names_wrong : faultL wrongL 2 1 = 1 := by decide +kernel
theorem names_weight : faultL weightL 2 1 = 1 := by decide +kernel
theorem names_many : faultL sixL 2 6 = 3 := by decide +kernel
theorem names_big : faultL (List.replicate 13 ⟨0, 0, 0, 0⟩) 2 1 = 3 := by decide +kernel
theorem names_none : faultL [] 0 0 = 1 := by decide +kernel
theorem names_cutc {ts cs : List Int} (h : provesB aloneL 0 1 40 ts cs = true) : ts = [] ∧ cs = [0] := by
  unfold provesB at h
  rw [Bool.and_eq_true, Bool.and_eq_true] at h
  have bt := rises_in h.1
  have bc := rises_in h.2.1
  have hl := rises_lt h.2.1
  have ht : ts = [] := by
    cases ts with
    | nil => rfl
    | cons x xs => have := bt x (by simp); omega
  subst ht
  refine ⟨rfl, ?_⟩
  cases cs with
  | nil => exact absurd h.2.2 (by decide +kernel)
  | cons x xs =>
    have h1 := bc x (by simp)
    obtain rfl : x = 0 := by omega
    cases xs with
    | nil => rfl
    | cons y ys =>
      have h2 := bc y (by simp)
      have h3 := hl 1 0 (by simp) (by omega)
      simp at h3
      omega

/-- The block of the chapter's net. -/
def SixBlk (x y : Int) : Obj := .cells #[.int .i64 x, .int .i64 (-1), .int .i64 10, .int .i64 y, .int .i64 0, .int .i64 (-1), .int .i64 12, .int .i64 1, .int .i64 0, .int .i64 0, .int .i64 17, .int .i64 1, .int .i64 1, .int .i64 0, .int .i64 18, .int .i64 1, .int .i64 (-1), .int .i64 0, .int .i64 36, .int .i64 1, .int .i64 1, .int .i64 (-1), .int .i64 20, .int .i64 1] 104 (0, 0)
theorem six_angs {W : World} {b : Nat} {x y : Int} (hcell : W.heap[b]? = some (SixBlk x y)) : AngsAt W (some ⟨b, 0, none⟩) [⟨x, -1, 10, y⟩, ⟨0, -1, 12, 1⟩, ⟨0, 0, 17, 1⟩, ⟨1, 0, 18, 1⟩, ⟨-1, 0, 36, 1⟩, ⟨1, -1, 20, 1⟩] := by
  refine .inr ⟨_, 0, rfl, fun i h => ?_⟩
  unfold SixBlk at hcell
  have h6 : i < 6 := h
  obtain rfl | rfl | rfl | rfl | rfl | rfl : i = 0 ∨ i = 1 ∨ i = 2 ∨ i = 3 ∨ i = 4 ∨ i = 5 := by omega
  all_goals exact ⟨by simp [World.cell?, hcell], by simp [World.cell?, hcell], by simp [World.cell?, hcell], by simp [World.cell?, hcell]⟩
theorem six_angs0 {W : World} {b : Nat} (hcell : W.heap[b]? = some (SixBlk 0 1)) : AngsAt W (some ⟨b, 0, none⟩) sixL := six_angs hcell
def SixNew (w : World) (e : Ending) (w' : World) : Prop := ∃ b, e = .returned (.agg #[.slice (some ⟨b, 0, none⟩) 6 6, .int .i64 2, .int .i64 1]) ∧ w.heap.size ≤ b ∧ w'.heap[b]? = some (SixBlk 0 1) ∧ Below w.heap.size w w'
set_option maxRecDepth 100000 in
set_option maxHeartbeats 2000000 in
theorem six_new (w : World) : Calls Try.prog 65 #[] w (SixNew w) := by
  go_enter Try.func65, Try.ntmps65
  go_wp2_with fail
  exact bodyPost_ret (v := .agg #[.slice (some ⟨w.heap.size + 1, 0, none⟩) 6 6, .int .i64 2, .int .i64 1]) (by simp [results, Try.results65, go_sem]) rfl ⟨_, rfl, by omega, heap_alloc2 _ _ _, ((Below.refl _ _).alloc (Nat.le_refl _) _).alloc (by simp) _⟩
end Go.Proofs.Ytkloaeaepjoijaa

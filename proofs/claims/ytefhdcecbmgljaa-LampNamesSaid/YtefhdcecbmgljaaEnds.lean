/-
  ends: the first and the last oil of a row.
-/
import Derived.Test.YtefhdcecbmgljaaBase
import Derived.Test.YtefhdcecbmgljaaLevL
set_option linter.all false
namespace Go.Proofs.Ytefhdcecbmgljaa
open Go.RowKit Go.WalkArith

/-- A row of 401 booleans. -/
def RowV (cs : Array Value) (f : Nat → Bool) : Prop := cs.size = 401 ∧ ∀ i, i < 401 → cs[i]? = some (.bool (f i))

theorem index_bool (B : Nat) (f : Nat → Bool) (lo hi : Nat) (w : World) (he : EndsOf f lo hi) (hc : ∀ i, i < 401 → w.cell? ⟨B, i, none⟩ = some (.bool (f i))) :
    Calls Try.prog 111 #[.slice (some ⟨B, 0, none⟩) 401 401, .bool true] w fun e w' => e = .returned (.int .i64 lo) ∧ w = w' := by
  have hlo : lo < 401 := Nat.lt_of_le_of_lt he.l0 he.h1
  have HE := Lib.hid he
  have HC := Lib.hid hc
  clear he hc
  go_enter Try.func111, Try.ntmps111
  go_wp2
  go_loop [8] (fun i => ∃ k : Nat, k ≤ lo ∧ i = .int .i64 k) (fun i => 401 - (intOf i).toNat)
  case atStart => exact ⟨0, by omega, rfl⟩
  case round =>
    obtain ⟨k, hk, rfl⟩ := hrel
    have hck := HC.out k (by omega)
    have hlt : decide ((k : Int) < 401) = true := decide_eq_true (by omega)
    by_cases e : k = lo
    · subst e
      rw [HE.out.fl] at hck
      go_wp2
      go_ret
      exact ⟨rfl, rfl⟩
    · rw [HE.out.below k (by omega)] at hck
      go_wp2
      go_round
      case rel => exact ⟨k + 1, by omega, by go_num⟩
      case measure => simp [intOf]; omega

theorem ends_any (cs : Array Value) (f : Nat → Bool) (lo hi : Nat) (w : World) (hr : RowV cs f) (he : EndsOf f lo hi) :
    Calls Try.prog 91 #[.agg cs] w fun e w' => e = .returned (.tuple #[.agg #[.int .i64 lo, .int .i64 hi], .bool true]) ∧ Below w.heap.size w w' := by
  have hlo : lo < 401 := Nat.lt_of_le_of_lt he.l0 he.h1
  have hhi := he.h1
  have HE := Lib.hid he
  have hb0 : Below w.heap.size w ((w.alloc (.cells cs 139)).alloc (.cells #[.int .i64 0, .int .i64 0] 36)) := ((Below.refl _ _).alloc (Nat.le_refl _) _).alloc (by simp) _
  have hn0 : ((w.alloc (.cells cs 139)).alloc (.cells #[.int .i64 0, .int .i64 0] 36)).heap[w.heap.size]? = some (.cells cs 139 (0, 0)) := (Below.heap_alloc _ _ _ (by simp)).trans (heap_new_at _ _ _ rfl)
  have hn1 : ((w.alloc (.cells cs 139)).alloc (.cells #[.int .i64 0, .int .i64 0] 36)).heap[w.heap.size + 1]? = some (.cells #[.int .i64 0, .int .i64 0] 36 (0, 0)) := heap_alloc2 _ _ _
  obtain ⟨W, hW⟩ : ∃ W, (w.alloc (.cells cs 139)).alloc (.cells #[.int .i64 0, .int .i64 0] 36) = W := ⟨_, rfl⟩
  rw [hW] at hb0 hn0 hn1
  have hc : ∀ i, i < 401 → W.cell? ⟨w.heap.size, i, none⟩ = some (.bool (f i)) := fun i hi => by simp [World.cell?, hn0, hr.2 i hi]
  have r0 : W.cell? ⟨w.heap.size + 1, 0, none⟩ = some (.int .i64 0) := by simp [World.cell?, hn1]
  have r1 : W.cell? ⟨w.heap.size + 1, 1, none⟩ = some (.int .i64 0) := by simp [World.cell?, hn1]
  have HI := Lib.hid (index_bool w.heap.size f lo hi W he hc)
  have z1 : ∀ o, W.frozen? ⟨w.heap.size + 1, o, none⟩ = false := fun o => by simp [World.frozen?, hn1]
  have z10 := z1 0
  have z11 := z1 1
  have HC := Lib.hid hc
  have HB := Lib.hid hb0
  have HW := Lib.hid hW
  have HN1 := Lib.hid hn1
  clear he hr hW hc hb0 hn0 hn1 z1
  go_enter Try.func91, Try.ntmps91
  go_wp2_with fail
  rw [HW.out]
  refine HI.out.mono ?_
  rintro e w' ⟨rfl, rfl⟩
  clear HW HI
  go_wp2_with fail
  go_loop [5] (fun i => ∃ k : Nat, hi ≤ k ∧ k ≤ 400 ∧ i = .int .i64 k) (fun i => (intOf i).toNat)
  case atStart => exact ⟨400, by omega, by omega, rfl⟩
  case round =>
    obtain ⟨k, hk0, hk1, rfl⟩ := hrel
    have hck := HC.out k (by omega)
    by_cases e : k = hi
    · subst e
      rw [HE.out.fh] at hck
      go_wp2_with fail
      have hq : (((W.setCell ⟨w.heap.size + 1, 0, none⟩ (.int .i64 lo)).setCell ⟨w.heap.size + 1, 1, none⟩ (.int .i64 k)).heap[w.heap.size + 1]?) = some (.cells #[.int .i64 lo, .int .i64 k] 36 (0, 0)) := by simp [World.setCell, Array.getElem?_modify, HN1.out]
      have hbl := (HB.out.setCell (p := ⟨w.heap.size + 1, 0, none⟩) (Nat.le_succ _) (.int .i64 lo)).setCell (p := ⟨w.heap.size + 1, 1, none⟩) (Nat.le_succ _) (.int .i64 k)
      generalize (W.setCell ⟨w.heap.size + 1, 0, none⟩ (.int .i64 lo)).setCell ⟨w.heap.size + 1, 1, none⟩ (.int .i64 k) = W2 at hq hbl ⊢
      have q0 : W2.cell? ⟨w.heap.size + 1, 0, none⟩ = some (.int .i64 lo) := by simp [World.cell?, hq]
      have q1 : W2.cell? ⟨w.heap.size + 1, 1, none⟩ = some (.int .i64 k) := by simp [World.cell?, hq]
      exact bodyPost_ret (v := .tuple #[.agg #[.int .i64 lo, .int .i64 k], .bool true]) (by simp [results, Try.results91, go_sem, q0, q1]) rfl ⟨rfl, hbl⟩
    · rw [HE.out.above k (by omega) (by omega)] at hck
      go_wp2
      go_round
      case rel => exact ⟨k - 1, by omega, by omega, by rw [Int.ofNat_sub (by omega)]; rfl⟩
      case measure => simp [intOf]; omega
end Go.Proofs.Ytefhdcecbmgljaa

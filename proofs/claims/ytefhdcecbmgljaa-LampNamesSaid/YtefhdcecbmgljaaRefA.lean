/-
  The laws' and the reference's small functions: Span, to, Thin, list, IsCans, IsWicks.
-/
import Derived.Test.YtefhdcecbmgljaaCheck2
import Derived.Test.YtefhdcecbmgljaaClone
set_option linter.all false
namespace Go.Proofs.Ytefhdcecbmgljaa
open Go.RowKit Go.WalkArith

theorem span_any (lo hi most : Int) (w : World) :
    Calls Try.prog 99 #[.agg #[.int .i64 lo, .int .i64 hi], .int .i64 most] w fun e w' => e = .returned (.bool (spanB lo hi most)) ∧ Below w.heap.size w w' := by
  have HB := Lib.hid (show Below w.heap.size w (w.alloc (.cells #[.int .i64 lo, .int .i64 hi] 23)) from (Below.refl _ _).alloc (Nat.le_refl _) _)
  have HS := Lib.hid (show spanB lo hi most = (inB lo 0 hi && decide (hi ≤ most)) from rfl)
  cases h1 : inB lo 0 hi with
  | false =>
    rw [h1] at HS
    go_enter Try.func99, Try.ntmps99
    go_wp2_with (go_at_call 68; refine (refIn_any _ _ _ _).mono ?_; rintro e w1 ⟨rfl, rfl⟩)
    go_ret
    exact ⟨by rw [HS.out]; rfl, HB.out⟩
  | true =>
    rw [h1] at HS
    go_enter Try.func99, Try.ntmps99
    go_wp2_with (go_at_call 68; refine (refIn_any _ _ _ _).mono ?_; rintro e w1 ⟨rfl, rfl⟩)
    go_ret
    exact ⟨by rw [HS.out]; rfl, HB.out⟩

theorem conv_any (lo hi : Int) (w : World) :
    Calls Try.prog 54 #[.agg #[.int .i64 lo, .int .i64 hi]] w fun e w' => e = .returned (.agg #[.int .i64 lo, .int .i64 hi]) ∧ Below w.heap.size w w' := by
  go_enter Try.func54, Try.ntmps54
  go_wp2_with fail
  have hb : Below w.heap.size w ((w.alloc (.cells #[.int .i64 lo, .int .i64 hi] 23)).alloc (.cells #[.int .i64 lo, .int .i64 hi] 36)) := ((Below.refl _ _).alloc (Nat.le_refl _) _).alloc (by simp) _
  have hn := heap_alloc2 w (.cells #[.int .i64 lo, .int .i64 hi] 23) (.cells #[.int .i64 lo, .int .i64 hi] 36)
  generalize (w.alloc (.cells #[.int .i64 lo, .int .i64 hi] 23)).alloc (.cells #[.int .i64 lo, .int .i64 hi] 36) = W at hn hb ⊢
  have q0 : W.cell? ⟨w.heap.size + 1, 0, none⟩ = some (.int .i64 lo) := by simp [World.cell?, hn]
  have q1 : W.cell? ⟨w.heap.size + 1, 1, none⟩ = some (.int .i64 hi) := by simp [World.cell?, hn]
  exact bodyPost_ret (v := .agg #[.int .i64 lo, .int .i64 hi]) (by simp [results, Try.results54, go_sem, q0, q1]) rfl ⟨rfl, hb⟩

set_option maxRecDepth 100000 in
theorem thin_any (A Ac Ak : Option Addr) (n cp nc cc nk ck : Nat) (a b c d : Int) (w : World) :
    Calls Try.prog 16 #[.agg #[.int .i64 a, .int .i64 b, .int .i64 c, .int .i64 d, .slice A n cp], .agg #[.slice Ac nc cc, .slice Ak nk ck]] w fun e w' => e = .returned (.bool (decide (n ≤ 9) && decide (nc ≤ 9) && decide (nk ≤ 9))) ∧ Below w.heap.size w w' := by
  have HB := Lib.hid (show Below w.heap.size w ((w.alloc (.cells #[.int .i64 a, .int .i64 b, .int .i64 c, .int .i64 d, .slice A n cp] 26)).alloc (.cells #[.slice Ac nc cc, .slice Ak nk ck] 29)) from ((Below.refl _ _).alloc (Nat.le_refl _) _).alloc (by simp) _)
  have e1 : decide (n ≤ 9) = decide ((n : Int) ≤ 9) := decide_eq_decide.2 (by omega)
  have e2 : decide (nc ≤ 9) = decide ((nc : Int) ≤ 9) := decide_eq_decide.2 (by omega)
  have e3 : decide (nk ≤ 9) = decide ((nk : Int) ≤ 9) := decide_eq_decide.2 (by omega)
  rw [e1, e2, e3]
  clear e1 e2 e3
  cases h1 : decide ((n : Int) ≤ 9) with
  | false =>
    go_enter Try.func16, Try.ntmps16
    go_wp2
    go_ret
    exact ⟨rfl, HB.out⟩
  | true =>
    cases h2 : decide ((nc : Int) ≤ 9) with
    | false =>
      go_enter Try.func16, Try.ntmps16
      go_wp2
      go_ret
      exact ⟨rfl, HB.out⟩
    | true =>
      go_enter Try.func16, Try.ntmps16
      go_wp2
      go_ret
      exact ⟨rfl, HB.out⟩

set_option maxRecDepth 100000 in
set_option maxHeartbeats 1000000 in
theorem list_any (A : Option Addr) (cap : Nat) (xs : List Int) (w : World) (h0 : A = none → cap = 0) (hv : IntsAt w (.slice A xs.length cap) xs) (hn : xs.length ≤ 1000000) :
    Calls Try.prog 34 #[.slice A xs.length cap] w fun e w' => ∃ v, e = .returned v ∧ w'.ownsRow w.heap.size 3 1 v xs.length (xs.map (Value.int .i64)) ∧ Below w.heap.size w w' := by
  obtain ⟨i0, hi0, hz0, hz1, hz2⟩ := info_parts Try.info3
  obtain ⟨A', cap', he, hx⟩ := hv
  obtain ⟨rfl, rfl⟩ : A = A' ∧ cap = cap' := by simpa using he
  clear he
  go_enter Try.func34, Try.ntmps34
  cases A with
  | none =>
    obtain rfl := h0 rfl
    have hxs : xs = [] := by
      rcases hx with h | ⟨b, o, h, _⟩
      · exact h
      · cases h
    subst hxs
    simp only [List.length_nil]
    go_wp2_with (at_builtin; refine wpList_append_own_none rfl _ _ 27 rfl w.heap.size 3 i0 1 Try.underlying27 hi0 _ 0 [] rfl (World.ownsRow_made (base := w.heap.size) (e := 3) (size := 1) w #[] 0 (Nat.le_refl _) (by decide) rfl) rfl ?_)
    go_ret
    exact ⟨_, rfl, World.ownsRow_made (base := w.heap.size) (e := 3) (size := 1) w #[] 0 (Nat.le_refl _) (by decide) rfl, (Below.refl _ _).alloc (Nat.le_refl _) _⟩
  | some ad =>
    have hc : ∀ j u, (xs.map (Value.int .i64))[j]? = some u → w.cell? (ad.add j) = some u := by
      rcases hx with rfl | ⟨b, o, ha, hc⟩
      · intro j u hu; simp at hu
      · cases ha
        exact ints_cells (cap := cap) ⟨_, _, rfl, .inr ⟨b, o, rfl, hc⟩⟩
    have hcel : ∀ j u, (xs.map (Value.int .i64))[j]? = some u → (w.alloc (.cells #[] 3)).cell? (ad.add j) = some u := fun j u h => cell_later ((Below.refl _ w).alloc (Nat.le_refl _) (.cells #[] 3)) (hc j u h)
    have HC := Lib.hid hcel
    clear hc hx hcel
    go_wp2_with (at_builtin; refine wpList_append_own _ rfl _ _ 27 rfl w.heap.size 3 i0 (.int .i64 0) 1 8 Try.underlying27 hi0 hz0 hz1 hz2 rfl (by decide) _ 0 [] rfl (World.ownsRow_made (base := w.heap.size) (e := 3) (size := 1) w #[] 0 (Nat.le_refl _) (by decide) rfl) ad xs.length cap (xs.map (Value.int .i64)) rfl (by simp) HC.out ?c2 ?c3 ?c4 ?c5 ?_)
    case c2 => simp [Value.oneCell']
    case c3 => unfold maxLen; omega
    case c4 => omega
    case c5 => simp
    intro v2 w6 hown6 hgrow hnil6
    have hbe : Below w.heap.size w w6 := ((Below.refl _ w).alloc (Nat.le_refl _) (.cells #[] 3)).trans (below_of_grown hgrow (World.ownsRow_made (base := w.heap.size) (e := 3) (size := 1) w #[] 0 (Nat.le_refl _) (by decide) rfl) (Nat.le_refl _) (by simp))
    have HOWN := Lib.hid hown6
    have HBE := Lib.hid hbe
    clear hown6 hgrow hnil6 hbe
    go_wp2
    go_ret
    exact ⟨_, rfl, by simpa using HOWN.out, HBE.out⟩
end Go.Proofs.Ytefhdcecbmgljaa

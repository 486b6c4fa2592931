/-
  The small functions of package lamp.
-/
import Derived.Test.YtefhdcecbmgljaaMem
set_option linter.all false
namespace Go.Proofs.Ytefhdcecbmgljaa
open Go.RowKit Go.WalkArith

theorem within_any (n lo hi : Int) (w : World) :
    Calls Try.prog 59 #[.int .i64 n, .int .i64 lo, .int .i64 hi] w fun e w' => e = .returned (.bool (inB n lo hi)) ∧ w = w' := by
  by_cases h1 : lo ≤ n
  · by_cases h2 : n ≤ hi
    · go_enter Try.func59, Try.ntmps59
      go_wp2
      go_ret
      exact ⟨by simp [inB, h1, h2], rfl⟩
    · have h2' : decide (n ≤ hi) = false := by simpa using h2
      go_enter Try.func59, Try.ntmps59
      go_wp2
      go_ret
      exact ⟨by simp [inB, h2], rfl⟩
  · have h1' : decide (lo ≤ n) = false := by simpa using h1
    go_enter Try.func59, Try.ntmps59
    go_wp2
    go_ret
    exact ⟨by rw [inB, h1']; rfl, rfl⟩

theorem refIn_any (n lo hi : Int) (w : World) :
    Calls Try.prog 68 #[.int .i64 n, .int .i64 lo, .int .i64 hi] w fun e w' => e = .returned (.bool (inB n lo hi)) ∧ w = w' := by
  by_cases h1 : lo ≤ n
  · by_cases h2 : n ≤ hi
    · go_enter Try.func68, Try.ntmps68
      go_wp2
      go_ret
      exact ⟨by simp [inB, h1, h2], rfl⟩
    · have h2' : decide (n ≤ hi) = false := by simpa using h2
      go_enter Try.func68, Try.ntmps68
      go_wp2
      go_ret
      exact ⟨by simp [inB, h2], rfl⟩
  · have h1' : decide (lo ≤ n) = false := by simpa using h1
    go_enter Try.func68, Try.ntmps68
    go_wp2
    go_ret
    exact ⟨by rw [inB, h1']; rfl, rfl⟩

theorem has_any (lo hi n : Int) (w : World) :
    Calls Try.prog 97 #[.agg #[.int .i64 lo, .int .i64 hi], .int .i64 n] w fun e w' => e = .returned (.bool (inB n lo hi)) ∧ Below w.heap.size w w' := by
  have HB := Lib.hid (show Below w.heap.size w (w.alloc (.cells #[.int .i64 lo, .int .i64 hi] 36)) from (Below.refl _ _).alloc (Nat.le_refl _) _)
  go_enter Try.func97, Try.ntmps97
  go_wp2_with fail
  refine (within_any _ _ _ _).mono ?_
  rintro e w' ⟨rfl, rfl⟩
  go_wp2_with fail
  go_ret
  exact ⟨rfl, HB.out⟩

/-- A range from 0 to at most a number. -/
def spanB (lo hi most : Int) : Bool := decide (0 ≤ lo) && decide (lo ≤ hi) && decide (hi ≤ most)
theorem to_any (lo hi most : Int) (w : World) :
    Calls Try.prog 60 #[.agg #[.int .i64 lo, .int .i64 hi], .int .i64 most] w fun e w' => e = .returned (.bool (spanB lo hi most)) ∧ Below w.heap.size w w' := by
  have HB := Lib.hid (show Below w.heap.size w (w.alloc (.cells #[.int .i64 lo, .int .i64 hi] 36)) from (Below.refl _ _).alloc (Nat.le_refl _) _)
  by_cases h1 : 0 ≤ lo
  · by_cases h2 : lo ≤ hi
    · by_cases h3 : hi ≤ most
      · go_enter Try.func60, Try.ntmps60
        go_wp2
        go_ret
        exact ⟨by simp [spanB, h1, h2, h3], HB.out⟩
      · have h3' : decide (hi ≤ most) = false := by simpa using h3
        go_enter Try.func60, Try.ntmps60
        go_wp2
        go_ret
        exact ⟨by simp [spanB, h3], HB.out⟩
    · have h2' : decide (lo ≤ hi) = false := by simpa using h2
      go_enter Try.func60, Try.ntmps60
      go_wp2
      go_ret
      exact ⟨by rw [spanB, h2', Bool.and_false]; rfl, HB.out⟩
  · have h1' : decide (0 ≤ lo) = false := by simpa using h1
    go_enter Try.func60, Try.ntmps60
    go_wp2
    go_ret
    exact ⟨by rw [spanB, h1']; rfl, HB.out⟩

theorem min_two (B : Nat) (a c : Int) (w : World) (h0 : w.cell? ⟨B, 0, none⟩ = some (.int .i64 a)) (h1 : w.cell? ⟨B, 1, none⟩ = some (.int .i64 c)) :
    Calls Try.prog 114 #[.slice (some ⟨B, 0, none⟩) 2 2] w fun e w' => e = .returned (.int .i64 (min a c)) ∧ w = w' := by
  go_enter Try.func114, Try.ntmps114
  go_wp2
  go_loop [3, 4] (fun m i => ∃ k : Nat, (k = 1 ∨ k = 2) ∧ i = .int .i64 k ∧ m = .int .i64 (if k = 1 then a else min a c)) (fun _ i => 2 - (intOf i).toNat)
  case atStart => exact ⟨1, .inl rfl, rfl, rfl⟩
  case round =>
    obtain ⟨k, hk, rfl, rfl⟩ := hrel
    rcases hk with rfl | rfl
    · simp only [if_true]
      go_wp2
      go_round
      case rel => exact ⟨2, .inr rfl, rfl, by simp; rw [Int.min_def]; split <;> split <;> omega⟩
      case measure => simp [intOf]
    · go_wp2
      go_ret
      exact ⟨rfl, rfl⟩
theorem minimum_two (B : Nat) (a c : Int) (w : World) (h0 : w.cell? ⟨B, 0, none⟩ = some (.int .i64 a)) (h1 : w.cell? ⟨B, 1, none⟩ = some (.int .i64 c)) :
    Calls Try.prog 98 #[.slice (some ⟨B, 0, none⟩) 2 2] w fun e w' => e = .returned (.int .i64 (min a c)) ∧ w = w' := by
  go_enter Try.func98, Try.ntmps98
  go_wp2_with (go_at_call 114; refine (min_two _ _ _ _ h0 h1).mono ?_; rintro e w' ⟨rfl, rfl⟩)
  go_ret
  exact ⟨rfl, rfl⟩

theorem fewest_any (n : Nt) (w : World) : Calls Try.prog 117 #[.agg #[.int .i64 n.h, .int .i64 n.a, .int .i64 n.b, .int .i64 n.lo, .int .i64 n.hi]] w fun e w' => e = .returned (.int .i64 n.lo) ∧ Below w.heap.size w w' := by
  have HB := Lib.hid (show Below w.heap.size w (w.alloc (.cells #[.int .i64 n.h, .int .i64 n.a, .int .i64 n.b, .int .i64 n.lo, .int .i64 n.hi] 105)) from (Below.refl _ _).alloc (Nat.le_refl _) _)
  go_enter Try.func117, Try.ntmps117
  go_wp2
  go_ret
  exact ⟨rfl, HB.out⟩
theorem most_any (n : Nt) (w : World) : Calls Try.prog 118 #[.agg #[.int .i64 n.h, .int .i64 n.a, .int .i64 n.b, .int .i64 n.lo, .int .i64 n.hi]] w fun e w' => e = .returned (.int .i64 n.hi) ∧ Below w.heap.size w w' := by
  have HB := Lib.hid (show Below w.heap.size w (w.alloc (.cells #[.int .i64 n.h, .int .i64 n.a, .int .i64 n.b, .int .i64 n.lo, .int .i64 n.hi] 105)) from (Below.refl _ _).alloc (Nat.le_refl _) _)
  go_enter Try.func118, Try.ntmps118
  go_wp2
  go_ret
  exact ⟨rfl, HB.out⟩

set_option maxHeartbeats 1000000 in
theorem filled_any (A : Option Addr) (n cp : Nat) (s : St) (o c : Int) (w : World) (hcap : 1 ≤ s.cap ∧ s.cap ≤ 400) (hcan : 1 ≤ s.can ∧ s.can ≤ 200) (ho : 0 ≤ o ∧ o ≤ 400) (hc : 0 ≤ c ∧ c ≤ 2) :
    Calls Try.prog 65 #[.agg #[.int .i64 s.cap, .int .i64 s.can, .int .i64 s.sl, .int .i64 s.sh, .slice A n cp], .int .i64 o, .int .i64 c] w fun e w' => e = .returned (.tuple #[.int .i64 (nowO s c o), .int .i64 (o + c * s.can - nowO s c o)]) ∧ Below w.heap.size w w' := by
  have m0 : 0 ≤ c * s.can := Int.mul_nonneg hc.1 (by omega)
  have m1 : c * s.can ≤ 2 * 200 := Int.mul_le_mul hc.2 hcan.2 (by omega) (by omega)
  obtain ⟨cap, can, sl, sh, ns⟩ := s
  dsimp only at *
  obtain ⟨M, hM⟩ : ∃ M, c * can = M := ⟨_, rfl⟩
  have hN : nowO ⟨cap, can, sl, sh, ns⟩ c o = min cap (o + M) := by unfold nowO; rw [hM]
  rw [hN, hM]
  have HM := Lib.hid hM
  have hB0 : Below w.heap.size w (w.alloc (.cells #[.int .i64 cap, .int .i64 can, .int .i64 sl, .int .i64 sh, .slice A n cp] 39)) := (Below.refl _ _).alloc (Nat.le_refl _) _
  have hB1 : Below w.heap.size w ((w.alloc (.cells #[.int .i64 cap, .int .i64 can, .int .i64 sl, .int .i64 sh, .slice A n cp] 39)).alloc (.cells #[.int .i64 cap, .int .i64 (o + M)] 3)) := hB0.alloc (by simp) _
  have HB1 := Lib.hid hB1
  rw [hM] at m0 m1
  have wm : IntKind.i64.wrap (c * can) = M := by rw [hM]; exact IntWalk.i64_in _ (by omega)
  have wp : IntKind.i64.wrap (o + M) = o + M := IntWalk.i64_in _ (by omega)
  have ws : IntKind.i64.wrap (o + M - min cap (o + M)) = o + M - min cap (o + M) := IntWalk.i64_in _ (by omega)
  clear hN hM hB0 hB1
  go_enter Try.func65, Try.ntmps65
  go_wp2_with fail
  refine (minimum_two _ cap (o + M) _ (by simp) (by simp)).mono ?_
  rintro e w' ⟨rfl, rfl⟩
  go_wp2_with fail
  go_quiet (fail)
  go_wp2_with fail
  go_ret2
  exact ⟨rfl, HB1.out.drewN _⟩

set_option maxHeartbeats 1000000 in
theorem burned_any (s : St) (h : StOk s) {i : Nat} (hi : i < s.ns.length) (c k b o now : Int) (w : World) (hk : 0 ≤ k ∧ k ≤ 4) (hb : 0 ≤ b ∧ b ≤ 10) (hn : nowO s c o = now) (hn0 : 0 ≤ now ∧ now ≤ 400) :
    Calls Try.prog 66 #[.agg #[.int .i64 (ntAt s i).h, .int .i64 (ntAt s i).a, .int .i64 (ntAt s i).b, .int .i64 (ntAt s i).lo, .int .i64 (ntAt s i).hi], .int .i64 now, .int .i64 k, .int .i64 b] w fun e w' => e = .returned (.tuple #[.int .i64 (leftO s i c k b o), .bool (litO s i c k b o)]) ∧ Below w.heap.size w w' := by
  have hnt := h.nt i hi
  have hL : leftO s i c k b o = if now < needO s i k b then 0 else now - needO s i k b := by unfold leftO; rw [hn]
  have hI : litO s i c k b o = decide (needO s i k b ≤ now) := by unfold litO; rw [hn]
  rw [hL, hI]
  unfold needO
  obtain ⟨⟨H, a, bb, lo, hh⟩, hN⟩ : ∃ N, ntAt s i = N := ⟨_, rfl⟩
  rw [hN] at hnt ⊢
  dsimp only at hnt ⊢
  clear hN hn hL hI
  have p0 : 0 ≤ H * k := Int.mul_nonneg (by omega) hk.1
  have p1 : H * k ≤ 14 * 4 := Int.mul_le_mul (by omega) hk.2 hk.1 (by omega)
  have q0 : 0 ≤ H * k * b := Int.mul_nonneg p0 hb.1
  have q1 : H * k * b ≤ 56 * 10 := Int.mul_le_mul (by omega) hb.2 hb.1 (by omega)
  have HB := Lib.hid (show Below w.heap.size w (w.alloc (.cells #[.int .i64 H, .int .i64 a, .int .i64 bb, .int .i64 lo, .int .i64 hh] 105)) from (Below.refl _ _).alloc (Nat.le_refl _) _)
  obtain ⟨P, hP⟩ : ∃ P, H * k = P := ⟨_, rfl⟩
  have wp : IntKind.i64.wrap (H * k) = P := by rw [hP]; exact IntWalk.i64_in _ (by omega)
  rw [hP] at p0 p1 q0 q1 ⊢
  obtain ⟨N, hN⟩ : ∃ N, P * b = N := ⟨_, rfl⟩
  have wq : IntKind.i64.wrap (P * b) = N := by rw [hN]; exact IntWalk.i64_in _ (by omega)
  rw [hN] at q0 q1 ⊢
  have HP := Lib.hid hP
  have HN := Lib.hid hN
  clear hP hN
  by_cases hlt : now < N
  · have h1 : decide (now < N) = true := by simpa using hlt
    have hL := Lib.hid (show (if now < N then 0 else now - N) = (0 : Int) by rw [if_pos hlt])
    have hI := Lib.hid (show decide (N ≤ now) = false by simp; omega)
    rw [hL.out, hI.out]
    go_enter Try.func66, Try.ntmps66
    go_wp2_with fail
    go_ret2
    exact ⟨rfl, HB.out⟩
  · have h1 : decide (now < N) = false := by simpa using hlt
    have hL := Lib.hid (show (if now < N then 0 else now - N) = now - N by rw [if_neg hlt])
    have hI := Lib.hid (show decide (N ≤ now) = true by simp; omega)
    rw [hL.out, hI.out]
    go_enter Try.func66, Try.ntmps66
    go_wp2_with fail
    go_ret2
    exact ⟨rfl, HB.out⟩
end Go.Proofs.Ytefhdcecbmgljaa

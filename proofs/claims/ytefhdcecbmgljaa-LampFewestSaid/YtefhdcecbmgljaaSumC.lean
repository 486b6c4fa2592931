/-
  Sum, Light; Deliver and Trim, by cases.
-/
import Derived.Test.YtefhdcecbmgljaaOilC
import Derived.Test.YtefhdcecbmgljaaFewL
set_option linter.all false
namespace Go.Proofs.Ytefhdcecbmgljaa
open Go.RowKit Go.WalkArith

theorem sumTo_bd {f : Nat → Int} {n : Nat} {M : Int} (h : ∀ i, i < n → -M ≤ f i ∧ f i ≤ M) : -(M * n) ≤ sumTo f n ∧ sumTo f n ≤ M * n := by
  induction n with
  | zero => simp [sumTo]
  | succ n ih =>
    have h1 := ih fun i hi => h i (by omega)
    have h2 := h n (by omega)
    have h3 : M * ((n + 1 : Nat) : Int) = M * (n : Int) + M := by rw [show ((n + 1 : Nat) : Int) = (n : Int) + 1 by omega, Int.mul_add, Int.mul_one]
    simp only [sumTo]; omega
def SmRel (l : List Int) (w : World) (n i : Value) (wr : World) : Prop := ∃ k : Nat, k ≤ l.length ∧ i = .int .i64 k ∧ n = .int .i64 (sumTo (atL l) k) ∧ wr = w
theorem sum_any (v : Value) (l : List Int) (w : World) (hv : IntsAt w v l) (hl : l.length ≤ 1000) (hb : ∀ i, i < l.length → -1000 ≤ atL l i ∧ atL l i ≤ 1000) :
    Calls Try.prog 37 #[v] w fun e w' => e = .returned (.int .i64 (sumL l)) ∧ w = w' := by
  obtain ⟨A, cap, rfl⟩ := hv.slice
  have HV := Lib.hid hv
  have HB := Lib.hid hb
  clear hv hb
  go_enter Try.func37, Try.ntmps37
  go_wp2_with fail
  go_loopw [3, 4] (SmRel l w) (fun _ i _ => l.length - (intOf i).toNat)
  case atStart => exact ⟨0, by omega, rfl, rfl, rfl⟩
  case round =>
    obtain ⟨k, hk, rfl, rfl, rfl⟩ := hrel
    by_cases hlt : k < l.length
    · have hlt' : decide ((k : Int) < (l.length : Int)) = true := by simpa using hlt
      obtain ⟨b, o, rfl, d0⟩ := HV.out.at hlt
      have h1 := sumTo_bd (f := atL l) (n := k) (M := 1000) fun i hi => HB.out i (by omega)
      have h2 := HB.out k hlt
      have HS := Lib.hid (show sumTo (atL l) (k + 1) = sumTo (atL l) k + atL l k from rfl)
      obtain ⟨X, hX⟩ : ∃ X, atL l k = X := ⟨_, rfl⟩
      obtain ⟨Y, hY⟩ : ∃ Y, sumTo (atL l) k = Y := ⟨_, rfl⟩
      rw [hX] at d0 h2 HS
      rw [hY] at h1 HS ⊢
      have wr1 : IntKind.i64.wrap (Y + X) = Y + X := IntWalk.i64_in _ (by omega)
      have i1 : (0 : Int) ≤ (k : Int) := by omega
      have i2 : (k : Int) < (l.length : Int) := by omega
      clear hX hY h1 h2
      go_wp2_with fail
      go_roundw
      case rel => exact ⟨k + 1, by omega, by go_num, by rw [HS.out], rfl⟩
      case measure => simp [intOf]; omega
    · have hlt' : decide ((k : Int) < (l.length : Int)) = false := by simpa using hlt
      obtain rfl : k = l.length := by omega
      have HF := Lib.hid (show sumTo (atL l) l.length = sumL l from rfl)
      obtain ⟨Y, hY⟩ : ∃ Y, sumTo (atL l) l.length = Y := ⟨_, rfl⟩
      rw [hY] at HF ⊢
      clear hY
      go_wp2_with fail
      go_ret
      exact ⟨by rw [← HF.out]; rfl, rfl⟩
def LiRel (s : St) (l : List Int) (w : World) (Bs : Nat) (o : Obj) (n i : Value) (wr : World) : Prop := ∃ k : Nat, k ≤ s.ns.length ∧ i = .int .i64 k ∧ n = .int .i64 (sumTo (fun i => (ntAt s i).h * atL l i) k) ∧ wr.heap[Bs]? = some o ∧ Below w.heap.size w wr
set_option maxHeartbeats 1000000 in
theorem light_any (s : St) (A : Option Addr) (cp : Nat) (v : Value) (l : List Int) (w : World) (hok : StOk s) (hA : NtsAt w A s.ns) (hv : IntsAt w v l) (hl : l.length = s.ns.length) (hb : ∀ i, i < s.ns.length → 0 ≤ atL l i ∧ atL l i ≤ 4) :
    Calls Try.prog 41 #[.agg #[.int .i64 s.cap, .int .i64 s.can, .int .i64 s.sl, .int .i64 s.sh, .slice A s.ns.length cp], v] w fun e w' => e = .returned (.int .i64 (lightL s l)) ∧ Below w.heap.size w w' := by
  obtain ⟨Al, cap, rfl⟩ := hv.slice
  have HV := Lib.hid hv
  have HB := Lib.hid hb
  have HA := Lib.hid hA
  have HOK := Lib.hid hok
  have HL := Lib.hid hl
  have h6 := hok.len
  clear hv hb hA hok hl
  have HB0 := Lib.hid (show Below w.heap.size w (w.alloc (.cells #[.int .i64 s.cap, .int .i64 s.can, .int .i64 s.sl, .int .i64 s.sh, .slice A s.ns.length cp] 26)) from (Below.refl _ _).alloc (Nat.le_refl _) _)
  have HN0 := Lib.hid (Go.heap_alloc_new w (.cells #[.int .i64 s.cap, .int .i64 s.can, .int .i64 s.sl, .int .i64 s.sh, .slice A s.ns.length cp] 26))
  go_enter Try.func41, Try.ntmps41
  go_wp2_with fail
  generalize w.alloc (.cells #[.int .i64 s.cap, .int .i64 s.can, .int .i64 s.sl, .int .i64 s.sh, .slice A s.ns.length cp] 26) = w1 at HB0 HN0 ⊢
  obtain ⟨Bs, hBs⟩ : ∃ Bs, w.heap.size = Bs := ⟨_, rfl⟩
  rw [hBs] at HN0 ⊢
  have HBS := Lib.hid hBs
  clear hBs
  go_loopw [5, 6] (LiRel s l w Bs (.cells #[.int .i64 s.cap, .int .i64 s.can, .int .i64 s.sl, .int .i64 s.sh, .slice A s.ns.length cp] 26 (0, 0))) (fun _ i _ => s.ns.length - (intOf i).toNat)
  case atStart => exact ⟨0, by omega, rfl, rfl, HN0.out, HB0.out⟩
  case round =>
    obtain ⟨k, hk, rfl, rfl, hn, hbe⟩ := hrel
    have HN := Lib.hid hn
    have HBE := Lib.hid hbe
    obtain ⟨c0, c1, c2, c3, c4⟩ := cells5 hn
    clear hn hbe c0 c1 c2 c3
    by_cases hlt : k < s.ns.length
    · have hlt' : decide ((k : Int) < (s.ns.length : Int)) = true := by simpa using hlt
      have hll := HL.out
      obtain ⟨b, o, rfl, d0⟩ := (HV.out.keep HBE.out (Nat.le_refl _)).at (k := k) (by omega)
      obtain ⟨b', o', rfl, a0, a1, a2, a3, a4⟩ := (HA.out.keep HBE.out (Nat.le_refl _)).at hlt
      rw [← ntAt_at hlt] at a0
      have hpb : ∀ i, i < s.ns.length → -56 ≤ (ntAt s i).h * atL l i ∧ (ntAt s i).h * atL l i ≤ 56 := fun i hi => by
        have h1 := HOK.out.nt i hi
        have h2 := HB.out i hi
        have h3 : 0 ≤ (ntAt s i).h * atL l i := Int.mul_nonneg (by omega) h2.1
        have h4 : (ntAt s i).h * atL l i ≤ 14 * 4 := Int.mul_le_mul (by omega) h2.2 h2.1 (by omega)
        omega
      have h1 := sumTo_bd (f := fun i => (ntAt s i).h * atL l i) (n := k) (M := 56) fun i hi => hpb i (by omega)
      have h2 := hpb k hlt
      have HS := Lib.hid (show sumTo (fun i => (ntAt s i).h * atL l i) (k + 1) = sumTo (fun i => (ntAt s i).h * atL l i) k + (ntAt s k).h * atL l k from rfl)
      obtain ⟨X, hX⟩ : ∃ X, atL l k = X := ⟨_, rfl⟩
      obtain ⟨Z, hZ⟩ : ∃ Z, (ntAt s k).h = Z := ⟨_, rfl⟩
      obtain ⟨Y, hY⟩ : ∃ Y, sumTo (fun i => (ntAt s i).h * atL l i) k = Y := ⟨_, rfl⟩
      rw [hX, hZ] at h2 HS
      rw [hX] at d0
      rw [hZ] at a0
      rw [hY] at h1 HS ⊢
      obtain ⟨M, hM⟩ : ∃ M, Z * X = M := ⟨_, rfl⟩
      have wr0 : IntKind.i64.wrap (Z * X) = M := by rw [hM]; exact IntWalk.i64_in _ (by omega)
      rw [hM] at h2 HS
      have wr1 : IntKind.i64.wrap (Y + M) = Y + M := IntWalk.i64_in _ (by omega)
      have i1 : (0 : Int) ≤ (k : Int) := by omega
      have i2 : (k : Int) < (s.ns.length : Int) := by omega
      have i3 : (k : Int) < (l.length : Int) := by omega
      clear hX hY h1 h2 hM hZ hpb hll a1 a2 a3 a4
      go_wp2_with fail
      go_quiet (fail)
      go_wp2_with fail
      go_roundw
      case rel => exact ⟨k + 1, by omega, by go_num, by rw [HS.out], by simpa using HN.out, HBE.out.drewN _⟩
      case measure => simp [intOf]; omega
    · have hlt' : decide ((k : Int) < (s.ns.length : Int)) = false := by simpa using hlt
      obtain rfl : k = s.ns.length := by omega
      have HF := Lib.hid (show sumTo (fun i => (ntAt s i).h * atL l i) s.ns.length = lightL s l from rfl)
      obtain ⟨Y, hY⟩ : ∃ Y, sumTo (fun i => (ntAt s i).h * atL l i) s.ns.length = Y := ⟨_, rfl⟩
      rw [hY] at HF ⊢
      clear hY
      go_wp2_with fail
      go_ret
      exact ⟨by rw [← HF.out]; rfl, HBE.out⟩

theorem own_nilOk {w : World} {base e sz n n' c : Nat} {A : Option Addr} {xs : List Value} (h : w.ownsRow base e sz (.slice A n' c) n xs) : NilOk A c := by
  rcases h.2 with ⟨h1, _⟩ | ⟨g, cap, cur, h1, _⟩
  · simp only [Value.slice.injEq] at h1; exact fun _ => h1.2.2
  · simp only [Value.slice.injEq] at h1; exact fun h2 => by rw [h2] at h1; cases h1.1
section
variable (s : St) (A : Option Addr) (cp : Nat) (Ak : Option Addr) (ck : Nat) (k : List Int) (w : World) (hA : NtsAt w A s.ns) (hk : IntsAt w (.slice Ak k.length ck) k)
include hA hk
theorem deliver_yes (h : StOk s) (hw : wicksB s k = true) (hc : chp s (jobD k) s.ns.length 0 s.sl < 524288) :
    Calls Try.prog 33 #[.agg #[.int .i64 s.cap, .int .i64 s.can, .int .i64 s.sl, .int .i64 s.sh, .slice A s.ns.length cp], .slice Ak k.length ck] w fun e w' => ∃ A1 c1, e = .returned (.tuple #[.slice A1 (bestL s (jobD k) s.ns.length 0 s.sl).length c1, .int .i64 (chp s (jobD k) s.ns.length 0 s.sl), .int .i64 0]) ∧ IntsAt w' (.slice A1 (bestL s (jobD k) s.ns.length 0 s.sl).length c1) (bestL s (jobD k) s.ns.length 0 s.sl) ∧ NilOk A1 c1 ∧ Below w.heap.size w w' := by
  have hl := (wicksB_true.1 hw).1
  have h6 := h.len
  exact (deliver_any s A cp Ak ck k w (by omega) (by omega) hA hk).mono fun e w' ⟨h1, h2⟩ => by
    rcases h2 with ⟨h3, _⟩ | ⟨_, h3, _⟩ | ⟨_, _, h3, _⟩ | ⟨_, _, _, v, he, h6⟩
    · exact absurd (faultS_zero.2 h) h3
    · rw [hw] at h3; cases h3
    · omega
    · have i1 := IntsAt.of_own h6
      obtain ⟨A1, c1, rfl, j1⟩ := id i1
      exact ⟨A1, c1, he, i1, own_nilOk h6, h1⟩
theorem deliver_stuck (h : StOk s) (hw : wicksB s k = true) (hc : 524288 ≤ chp s (jobD k) s.ns.length 0 s.sl) :
    Calls Try.prog 33 #[.agg #[.int .i64 s.cap, .int .i64 s.can, .int .i64 s.sl, .int .i64 s.sh, .slice A s.ns.length cp], .slice Ak k.length ck] w fun e w' => e = .returned (.tuple #[.slice none 0 0, .int .i64 0, .int .i64 10]) ∧ Below w.heap.size w w' := by
  have hl := (wicksB_true.1 hw).1
  have h6 := h.len
  exact (deliver_any s A cp Ak ck k w (by omega) (by omega) hA hk).mono fun e w' ⟨h1, h2⟩ => by
    rcases h2 with ⟨h3, _⟩ | ⟨_, h3, _⟩ | ⟨_, _, h3, he⟩ | ⟨_, _, h3, _⟩
    · exact absurd (faultS_zero.2 h) h3
    · rw [hw] at h3; cases h3
    · exact ⟨he, h1⟩
    · omega
theorem trim_yes (h : StOk s) (hw : cansB s k = true) (hc : chp s (jobT s k) s.ns.length 0 s.sl < 524288) :
    Calls Try.prog 38 #[.agg #[.int .i64 s.cap, .int .i64 s.can, .int .i64 s.sl, .int .i64 s.sh, .slice A s.ns.length cp], .slice Ak k.length ck] w fun e w' => ∃ A1 c1, e = .returned (.tuple #[.slice A1 (bestL s (jobT s k) s.ns.length 0 s.sl).length c1, .int .i64 (-chp s (jobT s k) s.ns.length 0 s.sl), .int .i64 0]) ∧ IntsAt w' (.slice A1 (bestL s (jobT s k) s.ns.length 0 s.sl).length c1) (bestL s (jobT s k) s.ns.length 0 s.sl) ∧ NilOk A1 c1 ∧ Below w.heap.size w w' := by
  have hl := (cansB_true.1 hw).1
  have h6 := h.len
  exact (trim_any s A cp Ak ck k w (by omega) (by omega) hA hk).mono fun e w' ⟨h1, h2⟩ => by
    rcases h2 with ⟨h3, _⟩ | ⟨_, h3, _⟩ | ⟨_, _, h3, _⟩ | ⟨_, _, _, v, he, h6⟩
    · exact absurd (faultS_zero.2 h) h3
    · rw [hw] at h3; cases h3
    · omega
    · have i1 := IntsAt.of_own h6
      obtain ⟨A1, c1, rfl, j1⟩ := id i1
      exact ⟨A1, c1, he, i1, own_nilOk h6, h1⟩
theorem trim_stuck (h : StOk s) (hw : cansB s k = true) (hc : 524288 ≤ chp s (jobT s k) s.ns.length 0 s.sl) :
    Calls Try.prog 38 #[.agg #[.int .i64 s.cap, .int .i64 s.can, .int .i64 s.sl, .int .i64 s.sh, .slice A s.ns.length cp], .slice Ak k.length ck] w fun e w' => e = .returned (.tuple #[.slice none 0 0, .int .i64 0, .int .i64 10]) ∧ Below w.heap.size w w' := by
  have hl := (cansB_true.1 hw).1
  have h6 := h.len
  exact (trim_any s A cp Ak ck k w (by omega) (by omega) hA hk).mono fun e w' ⟨h1, h2⟩ => by
    rcases h2 with ⟨h3, _⟩ | ⟨_, h3, _⟩ | ⟨_, _, h3, he⟩ | ⟨_, _, h3, _⟩
    · exact absurd (faultS_zero.2 h) h3
    · rw [hw] at h3; cases h3
    · exact ⟨he, h1⟩
    · omega
end
/-- A list that was copied. -/
theorem list_some (A : Option Addr) (cap : Nat) (xs : List Int) (w : World) (h0 : A = none → cap = 0) (hv : IntsAt w (.slice A xs.length cap) xs) (hn : xs.length ≤ 1000000) :
    Calls Try.prog 34 #[.slice A xs.length cap] w fun e w' => ∃ A1 c1, e = .returned (.slice A1 xs.length c1) ∧ IntsAt w' (.slice A1 xs.length c1) xs ∧ NilOk A1 c1 ∧ Below w.heap.size w w' :=
  (list_any A cap xs w h0 hv hn).mono fun e w' ⟨v, he, h1, h2⟩ => by
    have i1 := IntsAt.of_own h1
    obtain ⟨A1, c1, rfl, j1⟩ := id i1
    exact ⟨A1, c1, he, i1, own_nilOk h1, h2⟩
end Go.Proofs.Ytefhdcecbmgljaa

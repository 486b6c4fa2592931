/-
  Reference: Before, Same.
-/
import Derived.Test.YtefhdcecbmgljaaMem
set_option linter.all false
namespace Go.Proofs.Ytefhdcecbmgljaa
open Go.RowKit Go.WalkArith

/-- One list is before another one. -/
def befB : List Int → List Int → Bool
  | x :: xs, y :: ys => if x = y then befB xs ys else decide (x < y)
  | [], ys => decide (0 < ys.length)
  | _ :: _, [] => false
theorem befB_self (a : List Int) : befB a a = false := by
  induction a with
  | nil => rfl
  | cons x xs ih => simp [befB, ih]
theorem befB_eq {a b : List Int} (hl : a.length = b.length) : (!befB a b && !befB b a) = decide (a = b) := by
  induction a generalizing b with
  | nil => cases b with
    | nil => rfl
    | cons y ys => simp at hl
  | cons x xs ih =>
    cases b with
    | nil => simp at hl
    | cons y ys =>
      simp only [befB]
      by_cases e : x = y
      · subst e
        rw [if_pos rfl, if_pos rfl, ih (by simpa using hl)]
        simp
      · rw [if_neg e, if_neg (Ne.symm e)]
        simp [e]
        omega
/-- The rest behind a place. -/
theorem befB_drop {a b : List Int} {i : Nat} (ha : i < a.length) (hb : i < b.length) : befB (a.drop i) (b.drop i) = if atL a i = atL b i then befB (a.drop (i + 1)) (b.drop (i + 1)) else decide (atL a i < atL b i) := by
  rw [List.drop_eq_getElem_cons ha, List.drop_eq_getElem_cons hb, atL_at ha, atL_at hb]
  rfl

def BfRel (a b : List Int) (v : Value) (wr w : World) : Prop := ∃ i : Nat, i ≤ a.length ∧ i ≤ b.length ∧ v = .int .i64 i ∧ befB (a.drop i) (b.drop i) = befB a b ∧ Below w.heap.size w wr

set_option maxRecDepth 100000 in
set_option maxHeartbeats 2000000 in
theorem before_any (va vb : Value) (a b : List Int) (w : World) (ha : IntsAt w va a) (hb : IntsAt w vb b) (hla : a.length ≤ 1000000) (hlb : b.length ≤ 1000000) :
    Calls Try.prog 58 #[va, vb] w fun e w' => e = .returned (.bool (befB a b)) ∧ Below w.heap.size w w' := by
  obtain ⟨Aa, ca, rfl⟩ := ha.slice
  obtain ⟨Ab, cb, rfl⟩ := hb.slice
  have HA := Lib.hid ha
  have HB := Lib.hid hb
  clear ha hb
  go_enter Try.func58, Try.ntmps58
  go_wp2_with fail
  go_loopw [5] (fun v wr => BfRel a b v wr w) (fun v _ => a.length - (intOf v).toNat)
  case atStart => exact ⟨0, by omega, by omega, rfl, rfl, Below.refl _ _⟩
  case round =>
    obtain ⟨i, hia, hib, rfl, hbf, hbe⟩ := hrel
    have HBF := Lib.hid hbf
    have HBE := Lib.hid hbe
    have ha1 := HA.out.keep hbe (Nat.le_refl _)
    have hb1 := HB.out.keep hbe (Nat.le_refl _)
    clear hbf hbe
    by_cases h1 : i < a.length
    · have h1' : decide (i < a.length) = true := by simpa using h1
      by_cases h2 : i < b.length
      · have h2' : decide (i < b.length) = true := by simpa using h2
        obtain ⟨ba, oa, rfl, d0⟩ := ha1.at h1
        obtain ⟨bb, ob, rfl, d1⟩ := hb1.at h2
        have hdr := befB_drop h1 h2
        have i0 : (0 : Int) ≤ (i : Int) := by omega
        have i1 : (i : Int) < (a.length : Int) := by omega
        have i2 : (i : Int) < (b.length : Int) := by omega
        obtain ⟨x, hx⟩ : ∃ x, atL a i = x := ⟨_, rfl⟩
        obtain ⟨y, hy⟩ : ∃ y, atL b i = y := ⟨_, rfl⟩
        rw [hx] at d0 hdr
        rw [hy] at d1 hdr
        have HDR := Lib.hid hdr
        clear hdr hx hy ha1 hb1
        by_cases e : x = y
        · have e' : (x != y) = false := by simpa using e
          have HE := Lib.hid e
          clear e
          go_wp2_with fail
          go_quiet (fail)
          go_wp2_with fail
          go_roundw
          case rel => exact ⟨i + 1, by omega, by omega, by go_num, by rw [← HBF.out, HDR.out, if_pos HE.out], (HBE.out).drewN _⟩
          case measure => simp [intOf]; omega
        · have e' : (x != y) = true := by simpa using e
          have hfin : befB a b = decide (x < y) := by rw [← HBF.out, HDR.out, if_neg e]
          have HFIN := Lib.hid hfin
          clear e hfin
          go_wp2_with fail
          go_quiet (fail)
          go_wp2_with fail
          go_quiet (fail)
          go_wp2_with fail
          go_ret
          exact ⟨by rw [HFIN.out]; rfl, ((HBE.out).drewN _).drewN _⟩
      · have h2' : decide (i < b.length) = false := by simpa using h2
        have hfin : befB a b = decide (a.length < b.length) := by
          have e1 : b.drop i = [] := List.drop_of_length_le (by omega)
          have e2 : decide (a.length < b.length) = false := decide_eq_false (by omega)
          rw [← HBF.out, e1, e2, List.drop_eq_getElem_cons h1]
          rfl
        have HFIN := Lib.hid hfin
        clear hfin ha1 hb1
        go_wp2_with fail
        go_ret
        exact ⟨by rw [HFIN.out]; simp, HBE.out⟩
    · have h1' : decide (i < a.length) = false := by simpa using h1
      have hfin : befB a b = decide (a.length < b.length) := by
        have e1 : a.drop i = [] := List.drop_of_length_le (by omega)
        rw [← HBF.out, e1]
        show decide (0 < (b.drop i).length) = _
        rw [List.length_drop, decide_eq_decide]; omega
      have HFIN := Lib.hid hfin
      clear hfin ha1 hb1
      go_wp2_with fail
      go_ret
      exact ⟨by rw [HFIN.out]; simp, HBE.out⟩

theorem same_any (va vb : Value) (a b : List Int) (w : World) (ha : IntsAt w va a) (hb : IntsAt w vb b) (hla : a.length ≤ 1000000) (hlb : b.length ≤ 1000000) :
    Calls Try.prog 27 #[va, vb] w fun e w' => e = .returned (.bool (decide (a = b))) ∧ Below w.heap.size w w' := by
  obtain ⟨Aa, ca, rfl⟩ := ha.slice
  obtain ⟨Ab, cb, rfl⟩ := hb.slice
  have H1 := Lib.hid (before_any (.slice Aa a.length ca) (.slice Ab b.length cb) a b w ha hb hla hlb)
  have HA := Lib.hid ha
  have HB := Lib.hid hb
  clear ha hb
  by_cases hl : a.length = b.length
  · have hl' : decide (a.length = b.length) = true := by simpa using hl
    have hl2 : ((a.length : Int) == (b.length : Int)) = true := by rw [hl]; simp
    have he := befB_eq hl
    have HE := Lib.hid he
    have HL := Lib.hid hl
    clear hl he
    obtain ⟨x, hx⟩ : ∃ x, befB a b = x := ⟨_, rfl⟩
    obtain ⟨y, hy⟩ : ∃ y, befB b a = y := ⟨_, rfl⟩
    rw [hx, hy] at HE
    rw [hx] at H1
    have HX := Lib.hid hx
    have HY := Lib.hid hy
    clear hx hy
    go_enter Try.func27, Try.ntmps27
    go_wp2_with fail
    with_reducible refine H1.out.mono ?_
    rintro e w1 ⟨rfl, hb1⟩
    have H2 := Lib.hid (before_any (.slice Ab b.length cb) (.slice Aa a.length ca) b a w1 (HB.out.keep hb1 (Nat.le_refl _)) (HA.out.keep hb1 (Nat.le_refl _)) hlb hla)
    rw [HY.out] at H2
    have HB1 := Lib.hid hb1
    clear hb1 H1
    cases x with
    | true =>
      have hfin : decide (a = b) = false := by rw [← HE.out]; rfl
      have HFIN := Lib.hid hfin
      clear hfin
      go_wp2_with fail
      go_ret
      exact ⟨by rw [HFIN.out]; rfl, HB1.out⟩
    | false =>
      have hfin : decide (a = b) = !y := by rw [← HE.out]; cases y <;> rfl
      have HFIN := Lib.hid hfin
      clear hfin
      go_wp2_with fail
      with_reducible refine H2.out.mono ?_
      rintro e w2 ⟨rfl, hb2⟩
      have HB2 := Lib.hid (HB1.out.trans (hb2.mono HB1.out.size))
      clear hb2 H2
      go_wp2_with fail
      go_ret
      exact ⟨by rw [HFIN.out]; rfl, HB2.out⟩
  · have hl' : decide (a.length = b.length) = false := by simpa using hl
    have hl2 : ((a.length : Int) == (b.length : Int)) = false := by simp; omega
    have hne : decide (a = b) = false := decide_eq_false (fun e => hl (by rw [e]))
    have HN := Lib.hid hne
    clear hl hne
    go_enter Try.func27, Try.ntmps27
    go_wp2_with fail
    go_ret
    exact ⟨by rw [HN.out]; rfl, Below.refl _ _⟩
end Go.Proofs.Ytefhdcecbmgljaa

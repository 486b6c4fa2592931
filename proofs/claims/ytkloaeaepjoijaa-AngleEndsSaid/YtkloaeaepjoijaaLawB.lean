/-
  What several laws need: the program's calls whatever they come to; inside; more errors, wider rooms.
-/
import Derived.Test.YtkloaeaepjoijaaLawA
set_option linter.all false
namespace Go.Proofs.Ytkloaeaepjoijaa
open Go.RowKit Go.WalkArith

theorem u8_range {a : Int} (h : (Go.Lit.int .u8 a).wf = true) : 0 ≤ a ∧ a ≤ 255 := by
  simp only [Go.Lit.wf, Bool.and_eq_true, decide_eq_true_eq] at h
  have e0 : Go.IntKind.u8.min = 0 := by decide
  have e1 : Go.IntKind.u8.max = 255 := by decide
  omega
theorem u16_range {a : Int} (h : (Go.Lit.int .u16 a).wf = true) : 0 ≤ a ∧ a ≤ 65535 := by
  simp only [Go.Lit.wf, Bool.and_eq_true, decide_eq_true_eq] at h
  have e0 : Go.IntKind.u16.min = 0 := by decide
  have e1 : Go.IntKind.u16.max = 65535 := by decide
  omega

def BoundsIs (l : List Ang) (T C err : Int) (m : Nat) (bl bh : Int → Int) : Prop :=
  (sureL l T C err ≠ 0 ∧ m = 0) ∨ (sureL l T C err = 0 ∧ m = l.length ∧ BoundsE l T C err l.length bl bh)
def LeaveIs (l : List Ang) (T C err : Int) (L : List Int) (E : Int) : Prop :=
  (leaveO l T C err = none ∧ L = [] ∧ E = 9) ∨ (leaveO l T C err = some L ∧ E = 0)
def CtlIs (l : List Ang) (T C err : Int) (L : List Int) : Prop :=
  (sureL l T C err ≠ 0 ∧ L = []) ∨ (sureL l T C err = 0 ∧ L = ctlL l T C err l.length)

section
variable {A : Option Addr} {n cap : Nat} {T C err : Int} {l : List Ang} {w : World}
theorem bounds_gen (hn : n ≤ 1000000) (hl : l.length = n) (hA : AngsAt w A l) :
    Calls Try.prog 35 #[.agg #[.slice A n cap, .int .i64 T, .int .i64 C], .int .i64 err] w fun e w' => ∃ Ab m cp bl bh, e = .returned (.tuple #[.slice Ab m cp, .int .i64 (sureL l T C err)]) ∧ RangesAt w' (.slice Ab m cp) m bl bh ∧ BoundsIs l T C err m bl bh ∧ Below w.heap.size w w' := by
  by_cases h : sureL l T C err = 0
  · refine (bounds_yes hn hl hA h).mono ?_
    rintro e w' ⟨b, o, cp, bl, bh, rfl, hc, hbe, hb⟩
    subst hl
    exact ⟨_, _, _, bl, bh, by rw [h], ⟨_, _, rfl, .inr ⟨b, o, rfl, hc⟩⟩, .inr ⟨h, rfl, hbe⟩, hb⟩
  · refine (bounds_no hn hl hA h).mono ?_
    rintro e w' ⟨rfl, hb⟩
    exact ⟨_, _, _, fun _ => 0, fun _ => 0, rfl, ⟨_, _, rfl, .inl rfl⟩, .inl ⟨h, rfl⟩, hb⟩
theorem control_gen (hn : n ≤ 1000000) (hl : l.length = n) (hA : AngsAt w A l) :
    Calls Try.prog 40 #[.agg #[.slice A n cap, .int .i64 T, .int .i64 C], .int .i64 err] w fun e w' => ∃ Av cp L, e = .returned (.tuple #[.slice Av (List.length L) cp, .int .i64 (sureL l T C err)]) ∧ IntsAt w' (.slice Av (List.length L) cp) L ∧ CtlIs l T C err L ∧ Below w.heap.size w w' := by
  by_cases h : sureL l T C err = 0
  · refine (control_yes hn hl hA h).mono ?_
    rintro e w' ⟨Av, cp, rfl, hI, hb⟩
    subst hl
    exact ⟨Av, cp, _, by rw [h], hI, .inr ⟨h, rfl⟩, hb⟩
  · refine (control_no hn hl hA h).mono ?_
    rintro e w' ⟨rfl, hb⟩
    exact ⟨none, 0, [], rfl, IntsAt.nil _, .inl ⟨h, rfl⟩, hb⟩
theorem leave_gen (hn : n ≤ 1000000) (hl : l.length = n) (hA : AngsAt w A l) (hs : askedL l T C err = 0) :
    Calls Try.prog 43 #[.agg #[.slice A n cap, .int .i64 T, .int .i64 C], .int .i64 err] w fun e w' => ∃ Av cp L E, e = .returned (.tuple #[.slice Av (List.length L) cp, .int .i64 E]) ∧ IntsAt w' (.slice Av (List.length L) cp) L ∧ LeaveIs l T C err L E ∧ Below w.heap.size w w' := by
  cases h : leaveO l T C err with
  | none =>
    refine (leave_none hn hl hA hs h).mono ?_
    rintro e w' ⟨rfl, hb⟩
    exact ⟨none, 0, [], 9, rfl, IntsAt.nil _, .inl ⟨h, rfl, rfl⟩, hb⟩
  | some L =>
    refine (leave_some hn hl hA hs h).mono ?_
    rintro e w' ⟨Av, cp, rfl, hI, hb⟩
    exact ⟨Av, cp, L, 0, rfl, hI, .inr ⟨h, rfl⟩, hb⟩
theorem show_gen (hn : n ≤ 1000000) (hl : l.length = n) (hA : AngsAt w A l) :
    Calls Try.prog 36 #[.agg #[.slice A n cap, .int .i64 T, .int .i64 C], .int .i64 err] w fun e w' => ∃ Av cp xs, e = .returned (.tuple #[.slice Av (List.length xs) cp, .int .i64 (sureL l T C err)]) ∧ IntsAt w' (.slice Av (List.length xs) cp) xs ∧ (sureL l T C err = 0 → isTruthB l T C err xs = true) ∧ Below w.heap.size w w' := by
  by_cases h : sureL l T C err = 0
  · refine (show_yes hn hl hA h).mono ?_
    rintro e w' ⟨Av, cp, xs, rfl, hx, hI, ht, hb⟩
    exact ⟨Av, cp, xs, by rw [h], hI, fun _ => ht, hb⟩
  · refine (show_no hn hl hA h).mono ?_
    rintro e w' ⟨rfl, hb⟩
    exact ⟨none, 0, [], rfl, IntsAt.nil _, fun h' => absurd h' h, hb⟩
end

/-- All numbers of a list are in another one. -/
def insideB (xs ys : List Int) : Bool := xs.all ys.contains

theorem insideB_no {xs ys : List Int} {k : Nat} (hk : k < xs.length) (h : ys.contains xs[k] = false) : insideB xs ys = false := by
  unfold insideB
  rw [List.all_eq_false]
  exact ⟨xs[k], List.getElem_mem hk, by simpa using h⟩
theorem insideB_yes {xs ys : List Int} (h : ∀ k, (hk : k < xs.length) → ys.contains xs[k] = true) : insideB xs ys = true := by
  unfold insideB
  rw [List.all_eq_true]
  intro x hx
  obtain ⟨k, hk, rfl⟩ := List.mem_iff_getElem.1 hx
  exact h k hk

def hasK (ys : List Int) (x : Int) (k : Nat) : Bool := (ys.take k).contains x
theorem hasK_succ {ys : List Int} {x : Int} {k : Nat} (hk : k < ys.length) : hasK ys x (k + 1) = (hasK ys x k || (ys[k] == x)) := by
  unfold hasK
  rw [List.take_succ_eq_append_getElem hk, Bool.eq_iff_iff]
  simp only [List.contains_iff_mem, List.mem_append, List.mem_singleton, Bool.or_eq_true, beq_iff_eq]
  exact or_congr Iff.rfl ⟨Eq.symm, Eq.symm⟩
theorem hasK_all (ys : List Int) (x : Int) : hasK ys x ys.length = ys.contains x := by unfold hasK; rw [List.take_length]

def InO (xs ys : List Int) (w : World) (i : Value) (wr : World) : Prop :=
  ∃ k : Nat, k ≤ xs.length ∧ i = .int .i64 k ∧ (∀ j, (hj : j < xs.length) → j < k → ys.contains xs[j] = true) ∧ Below w.heap.size w wr
def InI (ys : List Int) (x : Int) (w : World) (h i : Value) (wr : World) : Prop :=
  ∃ k : Nat, k ≤ ys.length ∧ i = .int .i64 k ∧ h = .bool (hasK ys x k) ∧ Below w.heap.size w wr

set_option maxRecDepth 100000 in
set_option maxHeartbeats 4000000 in
theorem inside_any (va vb : Value) (xs ys : List Int) (w : World) (ha : IntsAt w va xs) (hb : IntsAt w vb ys) (hn : xs.length ≤ 1000000) (hm : ys.length ≤ 1000000) :
    Calls Try.prog 60 #[va, vb] w fun e w' => e = .returned (.bool (insideB xs ys)) ∧ Below w.heap.size w w' := by
  obtain ⟨A, cap, rfl, hx⟩ := ha
  obtain ⟨B, cap2, rfl, hy⟩ := hb
  have HX := Lib.hid hx
  have HY := Lib.hid hy
  clear hx hy
  go_enter Try.func60, Try.ntmps60
  go_wp2_with fail
  go_loopw [5] (InO xs ys w) (fun i _ => xs.length - (intOf i).toNat)
  case atStart => exact ⟨0, by omega, rfl, fun j _ h => by omega, Below.refl _ _⟩
  case round =>
    obtain ⟨k, hk, rfl, hall, hbe⟩ := hrel
    have HALL := Lib.hid hall
    have HBE := Lib.hid hbe
    clear hall hbe
    by_cases hlt : k < xs.length
    · obtain ⟨b, o, rfl, hc⟩ := HX.out.resolve_left (fun h => by rw [h] at hlt; simp at hlt)
      have hlt' : decide ((k : Int) < (xs.length : Int)) = true := by simpa using hlt
      have i1 : (0 : Int) ≤ (k : Int) := by omega
      have i2 : (k : Int) < (xs.length : Int) := by omega
      have ck := hc k hlt
      have hbl := World.block_lt_of_cell? w _ ck
      obtain ⟨x, hx⟩ : ∃ x, xs[k] = x := ⟨_, rfl⟩
      rw [hx] at ck
      have HXK := Lib.hid hx
      clear hc hx
      go_wp2_with fail
      go_loopw [6, 7] (InI ys x w) (fun _ i _ => ys.length - (intOf i).toNat)
      case atStart => exact ⟨0, by omega, rfl, by simp [hasK], HBE.out⟩
      case round =>
        clear HBE
        obtain ⟨m, hmm, rfl, rfl, hbe⟩ := hrel
        have HBE := Lib.hid hbe
        clear hbe
        by_cases hlm : m < ys.length
        · obtain ⟨b', o', rfl, hc'⟩ := HY.out.resolve_left (fun h => by rw [h] at hlm; simp at hlm)
          have hlm' : decide ((m : Int) < (ys.length : Int)) = true := by simpa using hlm
          have j1 : (0 : Int) ≤ (m : Int) := by omega
          have j2 : (m : Int) < (ys.length : Int) := by omega
          have cm := hc' m hlm
          have hbl' := World.block_lt_of_cell? w _ cm
          rw [← HBE.out.cell hbl'] at cm
          rw [← HBE.out.cell (p := ⟨b, o + k, none⟩) hbl] at ck
          have hs := hasK_succ (x := x) hlm
          obtain ⟨y, hy⟩ : ∃ y, ys[m] = y := ⟨_, rfl⟩
          rw [hy] at cm hs
          have HS := Lib.hid hs
          clear hc' hy hs
          cases hh : hasK ys x m with
          | true =>
            rw [hh] at HS
            have HS2 := Lib.hid (show hasK ys x (m + 1) = true by rw [HS.out]; rfl)
            clear hh HS
            go_wp2_with fail
            go_quiet (fail)
            go_wp2_with fail
            go_roundw
            case rel => exact ⟨m + 1, by omega, by go_num, by rw [HS2.out], HBE.out.drewN _⟩
            case measure => simp [intOf]; omega
          | false =>
            rw [hh] at HS
            have HS2 := Lib.hid (show hasK ys x (m + 1) = (y == x) by rw [HS.out]; rfl)
            clear hh HS
            go_wp2_with fail
            go_quiet (fail)
            go_wp2_with fail
            go_roundw
            case rel => exact ⟨m + 1, by omega, by go_num, by rw [HS2.out], HBE.out.drewN _⟩
            case measure => simp [intOf]; omega
        · have hlm' : decide ((m : Int) < (ys.length : Int)) = false := by simpa using hlm
          obtain rfl : m = ys.length := by omega
          have hal := hasK_all ys x
          cases hh : hasK ys x ys.length with
          | true =>
            rw [hh] at hal
            have HAL := Lib.hid hal.symm
            clear hh hal ck
            go_wp2_with fail
            go_roundw
            case rel => exact ⟨k + 1, by omega, by go_num, fun j hj hjk => by
              by_cases e : j = k
              · subst e; rw [HXK.out]; exact HAL.out
              · exact HALL.out j hj (by omega), HBE.out⟩
            case measure => simp [intOf]; omega
          | false =>
            rw [hh] at hal
            have hf : insideB xs ys = false := insideB_no hlt (by rw [HXK.out]; exact hal.symm)
            have HF := Lib.hid hf
            clear hh hal hf ck
            go_wp2_with fail
            go_ret
            exact ⟨by rw [HF.out]; rfl, HBE.out⟩
    · have hlt' : decide ((k : Int) < (xs.length : Int)) = false := by simpa using hlt
      have hf : insideB xs ys = true := insideB_yes fun j hj => HALL.out j hj (by omega)
      have HF := Lib.hid hf
      clear hf
      go_wp2_with fail
      go_ret
      exact ⟨by rw [HF.out]; rfl, HBE.out⟩

/-! more errors -/
theorem room_more {l : List Ang} {T C e f : Int} (hok : NetOk l T C) (h : e ≤ f) (out : List Int) {i : Nat} (hi : i < l.length) : roomLo l f out i ≤ roomLo l e out i ∧ roomHi l e out i ≤ roomHi l f out i := by
  have ha := hok.ang l[i] (List.getElem_mem hi)
  have hm : e * l[i].g ≤ f * l[i].g := Int.mul_le_mul_of_nonneg_right h (by omega)
  rw [roomLo_at hi, roomLo_at hi, roomHi_at hi, roomHi_at hi]
  split
  · omega
  · omega
theorem canE_more {l : List Ang} {T C e f : Int} (hok : NetOk l T C) (h : e ≤ f) {out : List Int} (hc : canE l T C e out = true) : canE l T C f out = true :=
  canB_mono hok (fun i hi => (room_more hok h out hi).1) (fun i hi => (room_more hok h out hi).2) hc
theorem canB_point_more {l : List Ang} {T C : Int} (hok : NetOk l T C) {lo hi lo' hi' : Int → Int} (h1 : ∀ i : Nat, i < l.length → lo' i ≤ lo i) (h2 : ∀ i : Nat, i < l.length → hi i ≤ hi' i) {i x : Int} (h : pointB l T C lo hi i x = true) : pointB l T C lo' hi' i x = true := by
  refine canB_mono hok (fun j hj => ?_) (fun j hj => ?_) h
  · unfold updG; split
    · omega
    · exact h1 j hj
  · unfold updG; split
    · omega
    · exact h2 j hj
theorem full_room {l : List Ang} (hn : l.length ≤ 16) (e : Int) {i : Nat} (hi : i < l.length) : roomLo l e (bitsL (2 ^ l.length - 1)) i = 0 ∧ roomHi l e (bitsL (2 ^ l.length - 1)) i = 40 := by
  have hc : (bitsL (2 ^ l.length - 1)).contains (i : Int) = true := by
    rw [bitsL_has (by omega), Nat.testBit_two_pow_sub_one]; simpa using hi
  constructor
  · rw [roomLo_at hi, hc]; rfl
  · rw [roomHi_at hi, hc]; rfl
theorem full_same {l : List Ang} {T C e f : Int} (hn : l.length ≤ 16) : canE l T C e (bitsL (2 ^ l.length - 1)) = canE l T C f (bitsL (2 ^ l.length - 1)) :=
  canB_congr (fun i hi => by rw [(full_room hn e hi).1, (full_room hn f hi).1]) (fun i hi => by rw [(full_room hn e hi).2, (full_room hn f hi).2])
theorem leave_same {l : List Ang} {T C e f : Int} (hok : NetOk l T C) (he : 0 ≤ e) (hf : 0 ≤ f) : (leaveO l T C e).isSome = (leaveO l T C f).isSome := by
  rw [leaveO_full hok he, leaveO_full hok hf, full_same (f := f) (by have := hok.len; omega)]
theorem LeaveIs.err {l : List Ang} {T C e : Int} {L : List Int} {E : Int} (h : LeaveIs l T C e L E) : E = if (leaveO l T C e).isSome then 0 else 9 := by
  rcases h with ⟨h, _, rfl⟩ | ⟨h, rfl⟩ <;> rw [h] <;> rfl
theorem LeaveIs.min {l : List Ang} {T C e : Int} {L : List Int} (h : LeaveIs l T C e L 0) : Ups l.length 0 L ∧ canE l T C e L = true ∧ ∀ s, Ups l.length 0 s → lessB s L = true → canE l T C e s = false := by
  rcases h with ⟨_, _, h⟩ | ⟨h, _⟩
  · cases h
  · rcases leaveO_spec l T C e with ⟨h1, _⟩ | ⟨L2, h1, a⟩
    · rw [h] at h1; cases h1
    · obtain rfl : L = L2 := by rw [h] at h1; simpa using h1
      exact a
theorem LeaveIs.nil {l : List Ang} {T C e : Int} {L : List Int} {E : Int} (h : LeaveIs l T C e L E) (hc : canE l T C e [] = true) : L = [] ∧ E = 0 := by
  rcases h with ⟨h1, _, _⟩ | ⟨h1, rfl⟩
  · rcases leaveO_spec l T C e with ⟨_, h2⟩ | ⟨L2, h2, _⟩
    · rw [h2 [] trivial] at hc; cases hc
    · rw [h1] at h2; cases h2
  · refine ⟨?_, rfl⟩
    have := (LeaveIs.min (.inr ⟨h1, rfl⟩)).2.2 [] trivial
    cases L with
    | nil => rfl
    | cons x xs => rw [this (by unfold lessB; simp)] at hc; cases hc
theorem LeaveIs.ne {l : List Ang} {T C e : Int} {L : List Int} (h : LeaveIs l T C e L 0) (hc : canE l T C e [] = false) : L ≠ [] := by
  rintro rfl
  rw [h.min.2.1] at hc; cases hc
theorem leave_shorter {l : List Ang} {T C e f : Int} (hok : NetOk l T C) (hef : e ≤ f) {L M : List Int} {E F : Int} (h1 : LeaveIs l T C e L E) (h2 : LeaveIs l T C f M F) : M.length ≤ L.length := by
  rcases h2 with ⟨_, rfl, _⟩ | ⟨h2, rfl⟩
  · simp
  · have hm := LeaveIs.min (.inr ⟨h2, rfl⟩ : LeaveIs l T C f M 0)
    rcases h1 with ⟨h1, rfl, _⟩ | ⟨h1, rfl⟩
    · exfalso
      rcases leaveO_spec l T C f with ⟨h3, _⟩ | ⟨M2, h3, _⟩
      · rw [h2] at h3; cases h3
      · rcases leaveO_spec l T C e with ⟨_, h4⟩ | ⟨_, h4, _⟩
        · have a := h4 _ (full_ups l.length)
          rw [full_same (f := f) (by have := hok.len; omega)] at a
          have hM := hm.2.1
          have : canE l T C f (bitsL (2 ^ l.length - 1)) = true := by
            by_cases hf : 0 ≤ f
            · exact canE_full hok hf hM
            · refine canB_mono hok (fun i hi => ?_) (fun i hi => ?_) hM
              · rw [(full_room (by have := hok.len; omega) f hi).1, roomLo_at hi]; split <;> omega
              · rw [(full_room (by have := hok.len; omega) f hi).2, roomHi_at hi]; split <;> omega
          rw [this] at a; cases a
        · rw [h1] at h4; cases h4
    · have hl := LeaveIs.min (.inr ⟨h1, rfl⟩ : LeaveIs l T C e L 0)
      refine Nat.le_of_not_lt fun hlt => ?_
      have := hm.2.2 L hl.1 (by unfold lessB; rw [if_neg (by omega)]; simpa using hlt)
      rw [canE_more hok hef hl.2.1] at this; cases this
theorem sureL_ans {l : List Ang} {T C e : Int} (h : askedL l T C e = 0) : sureL l T C e = if canE l T C e [] then 0 else 9 := by unfold sureL; rw [if_neg (by rw [h]; simp)]
end Go.Proofs.Ytkloaeaepjoijaa

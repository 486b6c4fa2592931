/-
  The reference's IsTruth, DipsFault, Many; dipped and few of the laws.
-/
import Derived.Test.YtefhdcecbmgljaaRefG
import Derived.Test.YtefhdcecbmgljaaNthL
set_option linter.all false
namespace Go.Proofs.Ytefhdcecbmgljaa
open Go.RowKit Go.WalkArith

theorem rtruth_no {s : St} {t : Int} {bs : List Int} {k : Nat} (hl : k < bs.length) (hk : k < s.ns.length) (h : inB (atL bs k) (ntAt s k).lo (ntAt s k).hi = false) : truthB s t bs = false := by
  cases e : truthB s t bs with
  | false => rfl
  | true => have := (truthB_true.1 e).2.bb k hk; rw [inB_false] at h; omega
theorem rtruth_end {s : St} {t : Int} {bs : List Int} {k : Nat} (hk : k ≤ bs.length) (hk2 : k ≤ s.ns.length) (he : k = bs.length ∨ k = s.ns.length) (h : ∀ j, j < k → inB (atL bs j) (ntAt s j).lo (ntAt s j).hi = true) : truthB s t bs = (decide (bs.length = s.ns.length) && inB t s.sl s.sh) := by
  by_cases e : bs.length = s.ns.length
  · unfold truthB
    rw [show ((List.range bs.length).all fun i => inB (atL bs i) (ntAt s i).lo (ntAt s i).hi) = true from List.all_eq_true.2 fun i hi => h i (by have := List.mem_range.1 hi; omega)]
    rw [Bool.and_true]
  · unfold truthB
    rw [decide_eq_false e]; rfl
def RTRel (s : St) (bs : List Int) (w : World) (Bs Bt : Nat) (o o2 : Obj) (i : Value) (wr : World) : Prop :=
  ∃ k : Nat, k ≤ bs.length ∧ k ≤ s.ns.length ∧ i = .int .i64 k ∧ (∀ j, j < k → inB (atL bs j) (ntAt s j).lo (ntAt s j).hi = true) ∧ wr.heap[Bs]? = some o ∧ wr.heap[Bt]? = some o2 ∧ Below w.heap.size w wr

set_option maxRecDepth 100000 in
set_option maxHeartbeats 2000000 in
theorem rtruth_any (s : St) (A : Option Addr) (cp : Nat) (t : Int) (Ab : Option Addr) (cb : Nat) (bs : List Int) (w : World) (hn : s.ns.length ≤ 1000000) (hbl : bs.length ≤ 1000000) (hA : NtsAt w A s.ns) (hv : IntsAt w (.slice Ab bs.length cb) bs) :
    Calls Try.prog 25 #[.agg #[.int .i64 s.cap, .int .i64 s.can, .int .i64 s.sl, .int .i64 s.sh, .slice A s.ns.length cp], .agg #[.int .i64 t, .slice Ab bs.length cb]] w fun e w' => e = .returned (.bool (truthB s t bs)) ∧ Below w.heap.size w w' := by
  have hbel : Below w.heap.size w ((w.alloc (.cells #[.int .i64 s.cap, .int .i64 s.can, .int .i64 s.sl, .int .i64 s.sh, .slice A s.ns.length cp] 26)).alloc (.cells #[.int .i64 t, .slice Ab bs.length cb] 31)) := ((Below.refl _ _).alloc (Nat.le_refl _) _).alloc (by simp) _
  have hn0 : ((w.alloc (.cells #[.int .i64 s.cap, .int .i64 s.can, .int .i64 s.sl, .int .i64 s.sh, .slice A s.ns.length cp] 26)).alloc (.cells #[.int .i64 t, .slice Ab bs.length cb] 31)).heap[w.heap.size]? = some (.cells #[.int .i64 s.cap, .int .i64 s.can, .int .i64 s.sl, .int .i64 s.sh, .slice A s.ns.length cp] 26 (0, 0)) := (Below.heap_alloc _ _ _ (by simp)).trans (heap_new_at _ _ _ rfl)
  have hn1 := heap_alloc2 w (.cells #[.int .i64 s.cap, .int .i64 s.can, .int .i64 s.sl, .int .i64 s.sh, .slice A s.ns.length cp] 26) (.cells #[.int .i64 t, .slice Ab bs.length cb] 31)
  have HB := Lib.hid hbel
  have HV := Lib.hid hv
  have HA := Lib.hid hA
  have N0 := Lib.hid hn0
  have N1 := Lib.hid hn1
  clear hbel hv hA hn0 hn1
  go_enter Try.func25, Try.ntmps25
  go_wp2_with fail
  generalize ((w.alloc (.cells #[.int .i64 s.cap, .int .i64 s.can, .int .i64 s.sl, .int .i64 s.sh, .slice A s.ns.length cp] 26)).alloc (.cells #[.int .i64 t, .slice Ab bs.length cb] 31)) = w1 at HB N0 N1 ⊢
  obtain ⟨Bt, hBt⟩ : ∃ Bt, w.heap.size + 1 = Bt := ⟨_, rfl⟩
  obtain ⟨Bs, hBs⟩ : ∃ Bs, w.heap.size = Bs := ⟨_, rfl⟩
  rw [hBt] at N1 ⊢
  rw [hBs] at N0 ⊢
  clear hBt hBs
  go_loopw [5] (RTRel s bs w Bs Bt (.cells #[.int .i64 s.cap, .int .i64 s.can, .int .i64 s.sl, .int .i64 s.sh, .slice A s.ns.length cp] 26 (0, 0)) (.cells #[.int .i64 t, .slice Ab bs.length cb] 31 (0, 0))) (fun i _ => bs.length - (intOf i).toNat)
  case atStart => exact ⟨0, by omega, by omega, rfl, fun j h => by omega, N0.out, N1.out, HB.out⟩
  case round =>
    clear HB N0 N1
    obtain ⟨k, hk, hk2, rfl, hall, hn0, hn1, hbe⟩ := hrel
    have HALL := Lib.hid hall
    have HBE := Lib.hid hbe
    have HN0 := Lib.hid hn0
    have HN1 := Lib.hid hn1
    have q4 : wr.cell? ⟨Bs, 4, none⟩ = some (.slice A s.ns.length cp) := by simp [World.cell?, hn0]
    have q5 : wr.cell? ⟨Bt, 1, none⟩ = some (.slice Ab bs.length cb) := by simp [World.cell?, hn1]
    clear hall hbe hn0 hn1
    by_cases hlt : k < bs.length
    · have hlt' : decide ((k : Int) < (bs.length : Int)) = true := by simpa using hlt
      by_cases hlt2 : k < s.ns.length
      · have hlt2' : decide ((k : Int) < (s.ns.length : Int)) = true := by simpa using hlt2
        obtain ⟨b, o, rfl, a0, a1, a2, a3, a4⟩ := (HA.out.keep HBE.out (Nat.le_refl _)).at hlt2
        rw [← ntAt_at hlt2] at a0 a1 a2 a3 a4
        obtain ⟨b', o', rfl, d0⟩ := (HV.out.keep HBE.out (Nat.le_refl _)).at (k := k) hlt
        obtain ⟨N, hN⟩ : ∃ N, ntAt s k = N := ⟨_, rfl⟩
        obtain ⟨X, hX⟩ : ∃ X, atL bs k = X := ⟨_, rfl⟩
        rw [hN] at a0 a1 a2 a3 a4
        rw [hX] at d0
        have HNX := Lib.hid (And.intro hN hX)
        have i1 : (0 : Int) ≤ (k : Int) := by omega
        have i2 : (k : Int) < (s.ns.length : Int) := by omega
        have i3 : (k : Int) < (bs.length : Int) := by omega
        clear hN hX
        have hin := Lib.hid (fun W => refIn_any X N.lo N.hi W)
        cases hb : inB X N.lo N.hi with
        | false =>
          rw [hb] at hin
          have HF := Lib.hid (rtruth_no (t := t) hlt hlt2 (by rw [HNX.out.1, HNX.out.2]; exact hb))
          clear hb
          go_wp2_with fail
          go_quiet ((go_at_call 68; exact Calls.quiet_of_same ((hin.out _).mono fun _ _ h => ⟨h.1, h.2.symm⟩)))
          go_wp2_with fail
          go_ret
          exact ⟨by rw [HF.out]; rfl, HBE.out.drewN _⟩
        | true =>
          rw [hb] at hin
          have HH := Lib.hid hb
          clear hb
          go_wp2_with fail
          go_quiet ((go_at_call 68; exact Calls.quiet_of_same ((hin.out _).mono fun _ _ h => ⟨h.1, h.2.symm⟩)))
          go_wp2_with fail
          go_roundw
          case rel => exact ⟨k + 1, by omega, by omega, by go_num, (fun j hj => by
            by_cases e : j = k
            · rw [e, HNX.out.1, HNX.out.2]; exact HH.out
            · exact HALL.out j (by omega)), HN0.out, HN1.out, HBE.out.drewN _⟩
          case measure => simp [intOf]; omega
      · have hlt2' : decide ((k : Int) < (s.ns.length : Int)) = false := by simpa using hlt2
        have HF := Lib.hid (rtruth_end (t := t) hk hk2 (.inr (by omega)) HALL.out)
        have q0 : wr.cell? ⟨Bs, 2, none⟩ = some (.int .i64 s.sl) := by simp [World.cell?, HN0.out]
        have q1 : wr.cell? ⟨Bs, 3, none⟩ = some (.int .i64 s.sh) := by simp [World.cell?, HN0.out]
        have q2 : wr.cell? ⟨Bt, 0, none⟩ = some (.int .i64 t) := by simp [World.cell?, HN1.out]
        clear hk hk2
        by_cases hle : bs.length = s.ns.length
        · have HF2 := Lib.hid (HF.out.trans (show (decide (bs.length = s.ns.length) && inB t s.sl s.sh) = inB t s.sl s.sh by rw [decide_eq_true hle]; rfl))
          have hle' : ((bs.length : Int) == (s.ns.length : Int)) = true := by simp; omega
          clear hle
          go_wp2_with (go_at_call 68; refine (refIn_any _ _ _ _).mono ?_; rintro e w1 ⟨rfl, rfl⟩)
          go_ret
          exact ⟨by rw [HF2.out]; rfl, HBE.out⟩
        · have HF2 := Lib.hid (HF.out.trans (show (decide (bs.length = s.ns.length) && inB t s.sl s.sh) = false by rw [decide_eq_false hle]; rfl))
          have hle' : ((bs.length : Int) == (s.ns.length : Int)) = false := by simp; omega
          clear hle
          go_wp2_with fail
          go_ret
          exact ⟨by rw [HF2.out]; rfl, HBE.out⟩
    · have hlt' : decide ((k : Int) < (bs.length : Int)) = false := by simpa using hlt
      have HF := Lib.hid (rtruth_end (t := t) hk hk2 (.inl (by omega)) HALL.out)
      have q0 : wr.cell? ⟨Bs, 2, none⟩ = some (.int .i64 s.sl) := by simp [World.cell?, HN0.out]
      have q1 : wr.cell? ⟨Bs, 3, none⟩ = some (.int .i64 s.sh) := by simp [World.cell?, HN0.out]
      have q2 : wr.cell? ⟨Bt, 0, none⟩ = some (.int .i64 t) := by simp [World.cell?, HN1.out]
      clear hk hk2
      by_cases hle : bs.length = s.ns.length
      · have HF2 := Lib.hid (HF.out.trans (show (decide (bs.length = s.ns.length) && inB t s.sl s.sh) = inB t s.sl s.sh by rw [decide_eq_true hle]; rfl))
        have hle' : ((bs.length : Int) == (s.ns.length : Int)) = true := by simp; omega
        clear hle
        go_wp2_with (go_at_call 68; refine (refIn_any _ _ _ _).mono ?_; rintro e w1 ⟨rfl, rfl⟩)
        go_ret
        exact ⟨by rw [HF2.out]; rfl, HBE.out⟩
      · have HF2 := Lib.hid (HF.out.trans (show (decide (bs.length = s.ns.length) && inB t s.sl s.sh) = false by rw [decide_eq_false hle]; rfl))
        have hle' : ((bs.length : Int) == (s.ns.length : Int)) = false := by simp; omega
        clear hle
        go_wp2_with fail
        go_ret
        exact ⟨by rw [HF2.out]; rfl, HBE.out⟩

/-- The dips up to a place are a store's. -/
def RDRel (s : St) (dips : List Dp) (w : World) (Bs : Nat) (o : Obj) (i : Value) (wr : World) : Prop :=
  ∃ k : Nat, k ≤ dips.length ∧ i = .int .i64 k ∧ (∀ j (h : j < dips.length), j < k → dipB s dips[j] = true) ∧ wr.heap[Bs]? = some o ∧ Below w.heap.size w wr
theorem dips_no {s : St} {dips : List Dp} {k : Nat} (h6 : ¬ 6 < dips.length) (hk : k < dips.length) (h : dipB s dips[k] = false) : dipsL s dips = 2 := by
  unfold dipsL
  rw [if_neg h6, if_neg]
  rw [Bool.not_eq_true, List.all_eq_false]
  exact ⟨dips[k], List.getElem_mem hk, by rw [h]; simp⟩
theorem dips_yes {s : St} {dips : List Dp} (h6 : ¬ 6 < dips.length) (h : ∀ j (h : j < dips.length), dipB s dips[j] = true) : dipsL s dips = 0 := by
  unfold dipsL
  rw [if_neg h6, if_pos]
  rw [List.all_eq_true]
  intro x hx
  obtain ⟨i, hi, rfl⟩ := List.getElem_of_mem hx
  exact h i hi
theorem dipB_parts (s : St) (d : Dp) : dipB s d = (inB d.n 0 ((s.ns.length : Int) - 1) && spanB d.lo d.hi 400) := rfl

set_option maxRecDepth 100000 in
set_option maxHeartbeats 2000000 in
theorem rdips_any (s : St) (A : Option Addr) (cp : Nat) (Ad : Option Addr) (cd : Nat) (dips : List Dp) (w : World) (hn : s.ns.length ≤ 1000000) (hdl : dips.length ≤ 1000000) (hd : DpsAt w Ad dips) :
    Calls Try.prog 70 #[.agg #[.int .i64 s.cap, .int .i64 s.can, .int .i64 s.sl, .int .i64 s.sh, .slice A s.ns.length cp], .slice Ad dips.length cd] w fun e w' => e = .returned (.int .i64 (dipsL s dips)) ∧ Below w.heap.size w w' := by
  have hbel : Below w.heap.size w (w.alloc (.cells #[.int .i64 s.cap, .int .i64 s.can, .int .i64 s.sl, .int .i64 s.sh, .slice A s.ns.length cp] 26)) := (Below.refl _ _).alloc (Nat.le_refl _) _
  have HB := Lib.hid hbel
  have HD := Lib.hid hd
  have hwl : IntKind.i64.wrap ((s.ns.length : Int) - 1) = (s.ns.length : Int) - 1 := IntWalk.i64_in _ (by omega)
  have N0 := Lib.hid (Go.heap_alloc_new w (.cells #[.int .i64 s.cap, .int .i64 s.can, .int .i64 s.sl, .int .i64 s.sh, .slice A s.ns.length cp] 26))
  clear hbel hd
  by_cases h6 : 6 < dips.length
  · have HF := Lib.hid (show dipsL s dips = 3 by unfold dipsL; rw [if_pos h6])
    have h6' : decide ((dips.length : Int) > 6) = true := by simp; omega
    have h6'' : decide ((6 : Int) < (dips.length : Int)) = true := by simp; omega
    go_enter Try.func70, Try.ntmps70
    go_wp2_with fail
    go_ret
    exact ⟨by rw [HF.out]; rfl, HB.out⟩
  · have H6 := Lib.hid h6
    have h6' : decide ((dips.length : Int) > 6) = false := by simp; omega
    have h6'' : decide ((6 : Int) < (dips.length : Int)) = false := by simp; omega
    clear h6
    go_enter Try.func70, Try.ntmps70
    go_wp2_with fail
    generalize (w.alloc (.cells #[.int .i64 s.cap, .int .i64 s.can, .int .i64 s.sl, .int .i64 s.sh, .slice A s.ns.length cp] 26)) = w1 at HB N0 ⊢
    obtain ⟨Bs, hBs⟩ : ∃ Bs, w.heap.size = Bs := ⟨_, rfl⟩
    rw [hBs] at N0 ⊢
    clear hBs
    go_loopw [5] (RDRel s dips w Bs (.cells #[.int .i64 s.cap, .int .i64 s.can, .int .i64 s.sl, .int .i64 s.sh, .slice A s.ns.length cp] 26 (0, 0))) (fun i _ => dips.length - (intOf i).toNat)
    case atStart => exact ⟨0, by omega, rfl, fun j _ h => by omega, N0.out, HB.out⟩
    case round =>
      clear HB N0
      obtain ⟨k, hk, rfl, hall, hn0, hbe⟩ := hrel
      have HALL := Lib.hid hall
      have HBE := Lib.hid hbe
      have HN0 := Lib.hid hn0
      have q4 : wr.cell? ⟨Bs, 4, none⟩ = some (.slice A s.ns.length cp) := by simp [World.cell?, hn0]
      have lBs := (Array.getElem?_eq_some_iff.1 hn0).1
      clear hall hbe hn0
      by_cases hlt : k < dips.length
      · have hlt' : decide ((k : Int) < (dips.length : Int)) = true := by simpa using hlt
        obtain ⟨b, o, rfl, a0, a1, a2⟩ := (HD.out.keep HBE.out (Nat.le_refl _)).at hlt
        obtain ⟨⟨dn, dlo, dhi⟩, hN⟩ : ∃ N, dips[k] = N := ⟨_, rfl⟩
        rw [hN] at a0 a1 a2
        dsimp only at a0 a1 a2
        have HNX := Lib.hid hN
        have HPA := Lib.hid (dipB_parts s ⟨dn, dlo, dhi⟩)
        have i1 : (0 : Int) ≤ (k : Int) := by omega
        have i2 : (k : Int) < (dips.length : Int) := by omega
        clear hN
        cases hb : inB dn 0 ((s.ns.length : Int) - 1) with
        | false =>
          have HF := Lib.hid (dips_no (s := s) H6.out hlt (by rw [HNX.out, HPA.out, hb]; rfl))
          have HH := Lib.hid hb
          clear hb
          go_wp2_with fail
          refine wp_region_held_drew (S := fun X => X.cell? ⟨b, o + k * 3, none⟩ = some (.int .i64 dn) ∧ X.cell? ⟨b, o + k * 3 + 1, none⟩ = some (.int .i64 dlo) ∧ X.cell? ⟨b, o + k * 3 + 2, none⟩ = some (.int .i64 dhi) ∧ X.cell? ⟨Bs, 4, none⟩ = some (.slice A s.ns.length cp)) (by kernel_rfl) (⟨a0, a1, a2, q4⟩) (fun hS0 => ?_)
          refine tkH 0 ⟨some 15, .move (.tmp 1), 55, "ref.go:88", #[], none⟩ (v := ?_) hS0 ?_ ?_
          rotate_left
          · intro X ⟨x0, x1, x2, x3⟩; go_simp; try with_reducible rfl
          simp only [Act.put, List.setIfInBounds_toArray, List.set_cons_zero, List.set_cons_succ, Array.toArray_toList]
          refine tkH 1 ⟨some 16, .move (.tmp 5), 3, "ref.go:88", #[], none⟩ (v := ?_) hS0 ?_ ?_
          rotate_left
          · intro X ⟨x0, x1, x2, x3⟩; go_simp; try with_reducible rfl
          simp only [Act.put, List.setIfInBounds_toArray, List.set_cons_zero, List.set_cons_succ, Array.toArray_toList]
          refine tkH 2 ⟨some 17, .indexAddr 55 (.tmp 15) (.tmp 16), 0, "ref.go:88", #[⟨0, .data⟩, ⟨1, .data⟩], none⟩ (v := ?_) hS0 ?_ ?_
          rotate_left
          · intro X ⟨x0, x1, x2, x3⟩; go_simp; try with_reducible rfl
          simp only [Act.put, List.setIfInBounds_toArray, List.set_cons_zero, List.set_cons_succ, Array.toArray_toList]
          refine tkH 3 ⟨some 18, .fieldAddr 85 (.tmp 17) 0, 0, "ref.go:88", #[⟨2, .data⟩], none⟩ (v := ?_) hS0 ?_ ?_
          rotate_left
          · intro X ⟨x0, x1, x2, x3⟩; go_simp; try with_reducible rfl
          simp only [Act.put, List.setIfInBounds_toArray, List.set_cons_zero, List.set_cons_succ, Array.toArray_toList]
          refine tkH 4 ⟨some 19, .load 3 (.tmp 18), 3, "ref.go:88", #[⟨3, .data⟩], none⟩ (v := ?_) hS0 ?_ ?_
          rotate_left
          · intro X ⟨x0, x1, x2, x3⟩; go_simp; try with_reducible rfl
          simp only [Act.put, List.setIfInBounds_toArray, List.set_cons_zero, List.set_cons_succ, Array.toArray_toList]
          refine tkH 5 ⟨some 20, .fieldAddr 26 (.tmp 2) 3, 0, "ref.go:88", #[], none⟩ (v := ?_) hS0 ?_ ?_
          rotate_left
          · intro X ⟨x0, x1, x2, x3⟩; go_simp; try with_reducible rfl
          simp only [Act.put, List.setIfInBounds_toArray, List.set_cons_zero, List.set_cons_succ, Array.toArray_toList]
          refine tkH 6 ⟨some 21, .load 24 (.tmp 20), 24, "ref.go:88", #[⟨5, .data⟩], none⟩ (v := ?_) hS0 ?_ ?_
          rotate_left
          · intro X ⟨x0, x1, x2, x3⟩; go_simp; try with_reducible rfl
          simp only [Act.put, List.setIfInBounds_toArray, List.set_cons_zero, List.set_cons_succ, Array.toArray_toList]
          refine tkH 7 ⟨some 22, .call ⟨.builtin .len, #[.tmp 21], #[24]⟩, 3, "ref.go:88", #[⟨6, .data⟩], none⟩ (v := ?_) hS0 ?_ ?_
          rotate_left
          · intro X ⟨x0, x1, x2, x3⟩; go_simp; try with_reducible rfl
          simp only [Act.put, List.setIfInBounds_toArray, List.set_cons_zero, List.set_cons_succ, Array.toArray_toList]
          refine tkH 8 ⟨some 23, .binOp .sub 3 (.tmp 22) (.const (.int .i64 1)) 3, 3, "ref.go:88", #[⟨7, .data⟩], none⟩ (v := ?_) hS0 ?_ ?_
          rotate_left
          · intro X ⟨x0, x1, x2, x3⟩; go_simp; try with_reducible rfl
          simp only [Act.put, List.setIfInBounds_toArray, List.set_cons_zero, List.set_cons_succ, Array.toArray_toList]
          refine wpAnyH_ready (rs := [9]) (by kernel_rfl) (by simp) (AllReadyH.cons (o := ⟨some 24, .call ⟨.value (.func 68), #[.tmp 19, .const (.int .i64 0), .tmp 23], #[3, 3, 3]⟩, 4, "ref.go:88", #[⟨4, .data⟩, ⟨8, .data⟩], none⟩) rfl (fun K hK => ?_) AllReadyH.nil)
          go_simp
          refine (refIn_any dn 0 ((s.ns.length : Int) - 1) wr.drew).mono ?_
          rw [HH.out]
          rintro e w2 ⟨rfl, rfl⟩
          go_wp2_with fail
          refine hK.out _ _ (⟨a0, a1, a2, q4⟩) (fun hS1 => ?_)
          clear hS0 hK K
          refine tkH 10 ⟨some 25, .unOp .not 4 (.tmp 24), 4, "ref.go:88", #[⟨9, .data⟩], none⟩ (v := ?_) hS1 ?_ ?_
          rotate_left
          · intro X ⟨x0, x1, x2, x3⟩; go_simp; try with_reducible rfl
          simp only [Act.put, List.setIfInBounds_toArray, List.set_cons_zero, List.set_cons_succ, Array.toArray_toList]
          refine tkH 11 ⟨some 26, .move (.tmp 25), 4, "ref.go:88", #[⟨10, .data⟩, ⟨9, .chain⟩], none⟩ (v := ?_) hS1 ?_ ?_
          rotate_left
          · intro X ⟨x0, x1, x2, x3⟩; go_simp; try with_reducible rfl
          simp only [Act.put, List.setIfInBounds_toArray, List.set_cons_zero, List.set_cons_succ, Array.toArray_toList]
          refine wpAnyH_take (i := 12) (oi := ⟨some 27, .move (.tmp 1), 55, "ref.go:88", #[⟨11, .guard⟩], some (11, false)⟩) (v := undef) rfl (by kernel_rfl) (by kernel_rfl) (by kernel_rfl) (fun _ _ _ h => h) (Or.inr ⟨by rfl, rfl⟩) hS1 ?_
          simp only [Act.put, List.setIfInBounds_toArray, List.set_cons_zero, List.set_cons_succ, Array.toArray_toList]
          refine wpAnyH_take (i := 13) (oi := ⟨some 28, .move (.tmp 5), 3, "ref.go:88", #[⟨11, .guard⟩], some (11, false)⟩) (v := undef) rfl (by kernel_rfl) (by kernel_rfl) (by kernel_rfl) (fun _ _ _ h => h) (Or.inr ⟨by rfl, rfl⟩) hS1 ?_
          simp only [Act.put, List.setIfInBounds_toArray, List.set_cons_zero, List.set_cons_succ, Array.toArray_toList]
          refine wpAnyH_take (i := 14) (oi := ⟨some 29, .indexAddr 55 (.tmp 27) (.tmp 28), 0, "ref.go:88", #[⟨12, .data⟩, ⟨13, .data⟩, ⟨11, .guard⟩], some (11, false)⟩) (v := undef) rfl (by kernel_rfl) (by kernel_rfl) (by kernel_rfl) (fun _ _ _ h => h) (Or.inr ⟨by rfl, rfl⟩) hS1 ?_
          simp only [Act.put, List.setIfInBounds_toArray, List.set_cons_zero, List.set_cons_succ, Array.toArray_toList]
          refine wpAnyH_take (i := 15) (oi := ⟨some 30, .fieldAddr 85 (.tmp 29) 1, 0, "ref.go:88", #[⟨14, .data⟩, ⟨11, .guard⟩], some (11, false)⟩) (v := undef) rfl (by kernel_rfl) (by kernel_rfl) (by kernel_rfl) (fun _ _ _ h => h) (Or.inr ⟨by rfl, rfl⟩) hS1 ?_
          simp only [Act.put, List.setIfInBounds_toArray, List.set_cons_zero, List.set_cons_succ, Array.toArray_toList]
          refine wpAnyH_take (i := 16) (oi := ⟨some 31, .load 23 (.tmp 30), 23, "ref.go:88", #[⟨15, .data⟩, ⟨11, .guard⟩], some (11, false)⟩) (v := undef) rfl (by kernel_rfl) (by kernel_rfl) (by kernel_rfl) (fun _ _ _ h => h) (Or.inr ⟨by rfl, rfl⟩) hS1 ?_
          simp only [Act.put, List.setIfInBounds_toArray, List.set_cons_zero, List.set_cons_succ, Array.toArray_toList]
          refine wpAnyH_take (i := 17) (oi := ⟨some 32, .call ⟨.value (.func 99), #[.tmp 31, .const (.int .i64 400)], #[23, 3]⟩, 4, "ref.go:88", #[⟨16, .data⟩, ⟨11, .chain⟩, ⟨11, .guard⟩], some (11, false)⟩) (v := undef) rfl (by kernel_rfl) (by kernel_rfl) (by kernel_rfl) (fun _ _ _ h => h) (Or.inr ⟨by rfl, rfl⟩) hS1 ?_
          simp only [Act.put, List.setIfInBounds_toArray, List.set_cons_zero, List.set_cons_succ, Array.toArray_toList]
          refine wpAnyH_take (i := 18) (oi := ⟨some 33, .unOp .not 4 (.tmp 32), 4, "ref.go:88", #[⟨17, .data⟩, ⟨11, .guard⟩], some (11, false)⟩) (v := undef) rfl (by kernel_rfl) (by kernel_rfl) (by kernel_rfl) (fun _ _ _ h => h) (Or.inr ⟨by rfl, rfl⟩) hS1 ?_
          simp only [Act.put, List.setIfInBounds_toArray, List.set_cons_zero, List.set_cons_succ, Array.toArray_toList]
          refine tkH 19 ⟨some 34, .pick (.tmp 26) (.const (.bool true)) (.tmp 33), 4, "ref.go:88", #[⟨11, .data⟩, ⟨18, .data⟩], none⟩ (v := ?_) hS1 ?_ ?_
          rotate_left
          · intro X ⟨x0, x1, x2, x3⟩; go_simp; try with_reducible rfl
          simp only [Act.put, List.setIfInBounds_toArray, List.set_cons_zero, List.set_cons_succ, Array.toArray_toList]
          refine wpAnyH_done (by kernel_rfl) ?_ _
          clear hS1
          go_wp2_with fail
          go_ret
          exact ⟨by rw [HF.out]; rfl, HBE.out.drew⟩
        | true =>
          have HH := Lib.hid hb
          clear hb
          have hsp := Lib.hid (fun W => span_any dlo dhi 400 W)
          cases hs : spanB dlo dhi 400 with
          | false =>
            have HF := Lib.hid (dips_no (s := s) H6.out hlt (by rw [HNX.out, HPA.out, HH.out, hs]; rfl))
            rw [hs] at hsp
            clear hs
            go_wp2_with fail
            refine wp_region_held_drew (S := fun X => X.cell? ⟨b, o + k * 3, none⟩ = some (.int .i64 dn) ∧ X.cell? ⟨b, o + k * 3 + 1, none⟩ = some (.int .i64 dlo) ∧ X.cell? ⟨b, o + k * 3 + 2, none⟩ = some (.int .i64 dhi) ∧ X.cell? ⟨Bs, 4, none⟩ = some (.slice A s.ns.length cp)) (by kernel_rfl) (⟨a0, a1, a2, q4⟩) (fun hS0 => ?_)
            refine tkH 0 ⟨some 15, .move (.tmp 1), 55, "ref.go:88", #[], none⟩ (v := ?_) hS0 ?_ ?_
            rotate_left
            · intro X ⟨x0, x1, x2, x3⟩; go_simp; try with_reducible rfl
            simp only [Act.put, List.setIfInBounds_toArray, List.set_cons_zero, List.set_cons_succ, Array.toArray_toList]
            refine tkH 1 ⟨some 16, .move (.tmp 5), 3, "ref.go:88", #[], none⟩ (v := ?_) hS0 ?_ ?_
            rotate_left
            · intro X ⟨x0, x1, x2, x3⟩; go_simp; try with_reducible rfl
            simp only [Act.put, List.setIfInBounds_toArray, List.set_cons_zero, List.set_cons_succ, Array.toArray_toList]
            refine tkH 2 ⟨some 17, .indexAddr 55 (.tmp 15) (.tmp 16), 0, "ref.go:88", #[⟨0, .data⟩, ⟨1, .data⟩], none⟩ (v := ?_) hS0 ?_ ?_
            rotate_left
            · intro X ⟨x0, x1, x2, x3⟩; go_simp; try with_reducible rfl
            simp only [Act.put, List.setIfInBounds_toArray, List.set_cons_zero, List.set_cons_succ, Array.toArray_toList]
            refine tkH 3 ⟨some 18, .fieldAddr 85 (.tmp 17) 0, 0, "ref.go:88", #[⟨2, .data⟩], none⟩ (v := ?_) hS0 ?_ ?_
            rotate_left
            · intro X ⟨x0, x1, x2, x3⟩; go_simp; try with_reducible rfl
            simp only [Act.put, List.setIfInBounds_toArray, List.set_cons_zero, List.set_cons_succ, Array.toArray_toList]
            refine tkH 4 ⟨some 19, .load 3 (.tmp 18), 3, "ref.go:88", #[⟨3, .data⟩], none⟩ (v := ?_) hS0 ?_ ?_
            rotate_left
            · intro X ⟨x0, x1, x2, x3⟩; go_simp; try with_reducible rfl
            simp only [Act.put, List.setIfInBounds_toArray, List.set_cons_zero, List.set_cons_succ, Array.toArray_toList]
            refine tkH 5 ⟨some 20, .fieldAddr 26 (.tmp 2) 3, 0, "ref.go:88", #[], none⟩ (v := ?_) hS0 ?_ ?_
            rotate_left
            · intro X ⟨x0, x1, x2, x3⟩; go_simp; try with_reducible rfl
            simp only [Act.put, List.setIfInBounds_toArray, List.set_cons_zero, List.set_cons_succ, Array.toArray_toList]
            refine tkH 6 ⟨some 21, .load 24 (.tmp 20), 24, "ref.go:88", #[⟨5, .data⟩], none⟩ (v := ?_) hS0 ?_ ?_
            rotate_left
            · intro X ⟨x0, x1, x2, x3⟩; go_simp; try with_reducible rfl
            simp only [Act.put, List.setIfInBounds_toArray, List.set_cons_zero, List.set_cons_succ, Array.toArray_toList]
            refine tkH 7 ⟨some 22, .call ⟨.builtin .len, #[.tmp 21], #[24]⟩, 3, "ref.go:88", #[⟨6, .data⟩], none⟩ (v := ?_) hS0 ?_ ?_
            rotate_left
            · intro X ⟨x0, x1, x2, x3⟩; go_simp; try with_reducible rfl
            simp only [Act.put, List.setIfInBounds_toArray, List.set_cons_zero, List.set_cons_succ, Array.toArray_toList]
            refine tkH 8 ⟨some 23, .binOp .sub 3 (.tmp 22) (.const (.int .i64 1)) 3, 3, "ref.go:88", #[⟨7, .data⟩], none⟩ (v := ?_) hS0 ?_ ?_
            rotate_left
            · intro X ⟨x0, x1, x2, x3⟩; go_simp; try with_reducible rfl
            simp only [Act.put, List.setIfInBounds_toArray, List.set_cons_zero, List.set_cons_succ, Array.toArray_toList]
            refine wpAnyH_ready (rs := [9]) (by kernel_rfl) (by simp) (AllReadyH.cons (o := ⟨some 24, .call ⟨.value (.func 68), #[.tmp 19, .const (.int .i64 0), .tmp 23], #[3, 3, 3]⟩, 4, "ref.go:88", #[⟨4, .data⟩, ⟨8, .data⟩], none⟩) rfl (fun K hK => ?_) AllReadyH.nil)
            go_simp
            refine (refIn_any dn 0 ((s.ns.length : Int) - 1) wr.drew).mono ?_
            rw [HH.out]
            rintro e w2 ⟨rfl, rfl⟩
            go_wp2_with fail
            refine hK.out _ _ (⟨a0, a1, a2, q4⟩) (fun hS1 => ?_)
            clear hS0 hK K
            refine tkH 10 ⟨some 25, .unOp .not 4 (.tmp 24), 4, "ref.go:88", #[⟨9, .data⟩], none⟩ (v := ?_) hS1 ?_ ?_
            rotate_left
            · intro X ⟨x0, x1, x2, x3⟩; go_simp; try with_reducible rfl
            simp only [Act.put, List.setIfInBounds_toArray, List.set_cons_zero, List.set_cons_succ, Array.toArray_toList]
            refine tkH 11 ⟨some 26, .move (.tmp 25), 4, "ref.go:88", #[⟨10, .data⟩, ⟨9, .chain⟩], none⟩ (v := ?_) hS1 ?_ ?_
            rotate_left
            · intro X ⟨x0, x1, x2, x3⟩; go_simp; try with_reducible rfl
            simp only [Act.put, List.setIfInBounds_toArray, List.set_cons_zero, List.set_cons_succ, Array.toArray_toList]
            refine tkH 12 ⟨some 27, .move (.tmp 1), 55, "ref.go:88", #[⟨11, .guard⟩], some (11, false)⟩ (v := ?_) hS1 ?_ ?_
            rotate_left
            · intro X ⟨x0, x1, x2, x3⟩; go_simp; try with_reducible rfl
            simp only [Act.put, List.setIfInBounds_toArray, List.set_cons_zero, List.set_cons_succ, Array.toArray_toList]
            refine tkH 13 ⟨some 28, .move (.tmp 5), 3, "ref.go:88", #[⟨11, .guard⟩], some (11, false)⟩ (v := ?_) hS1 ?_ ?_
            rotate_left
            · intro X ⟨x0, x1, x2, x3⟩; go_simp; try with_reducible rfl
            simp only [Act.put, List.setIfInBounds_toArray, List.set_cons_zero, List.set_cons_succ, Array.toArray_toList]
            refine tkH 14 ⟨some 29, .indexAddr 55 (.tmp 27) (.tmp 28), 0, "ref.go:88", #[⟨12, .data⟩, ⟨13, .data⟩, ⟨11, .guard⟩], some (11, false)⟩ (v := ?_) hS1 ?_ ?_
            rotate_left
            · intro X ⟨x0, x1, x2, x3⟩; go_simp; try with_reducible rfl
            simp only [Act.put, List.setIfInBounds_toArray, List.set_cons_zero, List.set_cons_succ, Array.toArray_toList]
            refine tkH 15 ⟨some 30, .fieldAddr 85 (.tmp 29) 1, 0, "ref.go:88", #[⟨14, .data⟩, ⟨11, .guard⟩], some (11, false)⟩ (v := ?_) hS1 ?_ ?_
            rotate_left
            · intro X ⟨x0, x1, x2, x3⟩; go_simp; try with_reducible rfl
            simp only [Act.put, List.setIfInBounds_toArray, List.set_cons_zero, List.set_cons_succ, Array.toArray_toList]
            refine tkH 16 ⟨some 31, .load 23 (.tmp 30), 23, "ref.go:88", #[⟨15, .data⟩, ⟨11, .guard⟩], some (11, false)⟩ (v := ?_) hS1 ?_ ?_
            rotate_left
            · intro X ⟨x0, x1, x2, x3⟩; go_simp; try with_reducible rfl
            simp only [Act.put, List.setIfInBounds_toArray, List.set_cons_zero, List.set_cons_succ, Array.toArray_toList]
            refine wpAnyH_ready (rs := [17]) (by kernel_rfl) (by simp) (AllReadyH.cons (o := ⟨some 32, .call ⟨.value (.func 99), #[.tmp 31, .const (.int .i64 400)], #[23, 3]⟩, 4, "ref.go:88", #[⟨16, .data⟩, ⟨11, .chain⟩, ⟨11, .guard⟩], some (11, false)⟩) rfl (fun K hK => ?_) AllReadyH.nil)
            go_simp
            refine (hsp.out wr.drew).mono ?_
            rintro e w2 ⟨rfl, hb2⟩
            go_wp2_with fail
            refine hK.out _ _ (⟨cell_later hb2 a0, cell_later hb2 a1, cell_later hb2 a2, cell_later hb2 q4⟩) (fun hS2 => ?_)
            clear hS1 hK K
            refine tkH 18 ⟨some 33, .unOp .not 4 (.tmp 32), 4, "ref.go:88", #[⟨17, .data⟩, ⟨11, .guard⟩], some (11, false)⟩ (v := ?_) hS2 ?_ ?_
            rotate_left
            · intro X ⟨x0, x1, x2, x3⟩; go_simp; try with_reducible rfl
            simp only [Act.put, List.setIfInBounds_toArray, List.set_cons_zero, List.set_cons_succ, Array.toArray_toList]
            refine tkH 19 ⟨some 34, .pick (.tmp 26) (.const (.bool true)) (.tmp 33), 4, "ref.go:88", #[⟨11, .data⟩, ⟨18, .data⟩], none⟩ (v := ?_) hS2 ?_ ?_
            rotate_left
            · intro X ⟨x0, x1, x2, x3⟩; go_simp; try with_reducible rfl
            simp only [Act.put, List.setIfInBounds_toArray, List.set_cons_zero, List.set_cons_succ, Array.toArray_toList]
            refine wpAnyH_done (by kernel_rfl) ?_ _
            clear hS2
            go_wp2_with fail
            go_ret
            exact ⟨by rw [HF.out]; rfl, HBE.out.drew.trans (hb2.mono HBE.out.drew.size)⟩
          | true =>
            have HG := Lib.hid (show dipB s dips[k] = true by rw [HNX.out, HPA.out, HH.out, hs]; rfl)
            rw [hs] at hsp
            clear hs
            go_wp2_with fail
            refine wp_region_held_drew (S := fun X => X.cell? ⟨b, o + k * 3, none⟩ = some (.int .i64 dn) ∧ X.cell? ⟨b, o + k * 3 + 1, none⟩ = some (.int .i64 dlo) ∧ X.cell? ⟨b, o + k * 3 + 2, none⟩ = some (.int .i64 dhi) ∧ X.cell? ⟨Bs, 4, none⟩ = some (.slice A s.ns.length cp)) (by kernel_rfl) (⟨a0, a1, a2, q4⟩) (fun hS0 => ?_)
            refine tkH 0 ⟨some 15, .move (.tmp 1), 55, "ref.go:88", #[], none⟩ (v := ?_) hS0 ?_ ?_
            rotate_left
            · intro X ⟨x0, x1, x2, x3⟩; go_simp; try with_reducible rfl
            simp only [Act.put, List.setIfInBounds_toArray, List.set_cons_zero, List.set_cons_succ, Array.toArray_toList]
            refine tkH 1 ⟨some 16, .move (.tmp 5), 3, "ref.go:88", #[], none⟩ (v := ?_) hS0 ?_ ?_
            rotate_left
            · intro X ⟨x0, x1, x2, x3⟩; go_simp; try with_reducible rfl
            simp only [Act.put, List.setIfInBounds_toArray, List.set_cons_zero, List.set_cons_succ, Array.toArray_toList]
            refine tkH 2 ⟨some 17, .indexAddr 55 (.tmp 15) (.tmp 16), 0, "ref.go:88", #[⟨0, .data⟩, ⟨1, .data⟩], none⟩ (v := ?_) hS0 ?_ ?_
            rotate_left
            · intro X ⟨x0, x1, x2, x3⟩; go_simp; try with_reducible rfl
            simp only [Act.put, List.setIfInBounds_toArray, List.set_cons_zero, List.set_cons_succ, Array.toArray_toList]
            refine tkH 3 ⟨some 18, .fieldAddr 85 (.tmp 17) 0, 0, "ref.go:88", #[⟨2, .data⟩], none⟩ (v := ?_) hS0 ?_ ?_
            rotate_left
            · intro X ⟨x0, x1, x2, x3⟩; go_simp; try with_reducible rfl
            simp only [Act.put, List.setIfInBounds_toArray, List.set_cons_zero, List.set_cons_succ, Array.toArray_toList]
            refine tkH 4 ⟨some 19, .load 3 (.tmp 18), 3, "ref.go:88", #[⟨3, .data⟩], none⟩ (v := ?_) hS0 ?_ ?_
            rotate_left
            · intro X ⟨x0, x1, x2, x3⟩; go_simp; try with_reducible rfl
            simp only [Act.put, List.setIfInBounds_toArray, List.set_cons_zero, List.set_cons_succ, Array.toArray_toList]
            refine tkH 5 ⟨some 20, .fieldAddr 26 (.tmp 2) 3, 0, "ref.go:88", #[], none⟩ (v := ?_) hS0 ?_ ?_
            rotate_left
            · intro X ⟨x0, x1, x2, x3⟩; go_simp; try with_reducible rfl
            simp only [Act.put, List.setIfInBounds_toArray, List.set_cons_zero, List.set_cons_succ, Array.toArray_toList]
            refine tkH 6 ⟨some 21, .load 24 (.tmp 20), 24, "ref.go:88", #[⟨5, .data⟩], none⟩ (v := ?_) hS0 ?_ ?_
            rotate_left
            · intro X ⟨x0, x1, x2, x3⟩; go_simp; try with_reducible rfl
            simp only [Act.put, List.setIfInBounds_toArray, List.set_cons_zero, List.set_cons_succ, Array.toArray_toList]
            refine tkH 7 ⟨some 22, .call ⟨.builtin .len, #[.tmp 21], #[24]⟩, 3, "ref.go:88", #[⟨6, .data⟩], none⟩ (v := ?_) hS0 ?_ ?_
            rotate_left
            · intro X ⟨x0, x1, x2, x3⟩; go_simp; try with_reducible rfl
            simp only [Act.put, List.setIfInBounds_toArray, List.set_cons_zero, List.set_cons_succ, Array.toArray_toList]
            refine tkH 8 ⟨some 23, .binOp .sub 3 (.tmp 22) (.const (.int .i64 1)) 3, 3, "ref.go:88", #[⟨7, .data⟩], none⟩ (v := ?_) hS0 ?_ ?_
            rotate_left
            · intro X ⟨x0, x1, x2, x3⟩; go_simp; try with_reducible rfl
            simp only [Act.put, List.setIfInBounds_toArray, List.set_cons_zero, List.set_cons_succ, Array.toArray_toList]
            refine wpAnyH_ready (rs := [9]) (by kernel_rfl) (by simp) (AllReadyH.cons (o := ⟨some 24, .call ⟨.value (.func 68), #[.tmp 19, .const (.int .i64 0), .tmp 23], #[3, 3, 3]⟩, 4, "ref.go:88", #[⟨4, .data⟩, ⟨8, .data⟩], none⟩) rfl (fun K hK => ?_) AllReadyH.nil)
            go_simp
            refine (refIn_any dn 0 ((s.ns.length : Int) - 1) wr.drew).mono ?_
            rw [HH.out]
            rintro e w2 ⟨rfl, rfl⟩
            go_wp2_with fail
            refine hK.out _ _ (⟨a0, a1, a2, q4⟩) (fun hS1 => ?_)
            clear hS0 hK K
            refine tkH 10 ⟨some 25, .unOp .not 4 (.tmp 24), 4, "ref.go:88", #[⟨9, .data⟩], none⟩ (v := ?_) hS1 ?_ ?_
            rotate_left
            · intro X ⟨x0, x1, x2, x3⟩; go_simp; try with_reducible rfl
            simp only [Act.put, List.setIfInBounds_toArray, List.set_cons_zero, List.set_cons_succ, Array.toArray_toList]
            refine tkH 11 ⟨some 26, .move (.tmp 25), 4, "ref.go:88", #[⟨10, .data⟩, ⟨9, .chain⟩], none⟩ (v := ?_) hS1 ?_ ?_
            rotate_left
            · intro X ⟨x0, x1, x2, x3⟩; go_simp; try with_reducible rfl
            simp only [Act.put, List.setIfInBounds_toArray, List.set_cons_zero, List.set_cons_succ, Array.toArray_toList]
            refine tkH 12 ⟨some 27, .move (.tmp 1), 55, "ref.go:88", #[⟨11, .guard⟩], some (11, false)⟩ (v := ?_) hS1 ?_ ?_
            rotate_left
            · intro X ⟨x0, x1, x2, x3⟩; go_simp; try with_reducible rfl
            simp only [Act.put, List.setIfInBounds_toArray, List.set_cons_zero, List.set_cons_succ, Array.toArray_toList]
            refine tkH 13 ⟨some 28, .move (.tmp 5), 3, "ref.go:88", #[⟨11, .guard⟩], some (11, false)⟩ (v := ?_) hS1 ?_ ?_
            rotate_left
            · intro X ⟨x0, x1, x2, x3⟩; go_simp; try with_reducible rfl
            simp only [Act.put, List.setIfInBounds_toArray, List.set_cons_zero, List.set_cons_succ, Array.toArray_toList]
            refine tkH 14 ⟨some 29, .indexAddr 55 (.tmp 27) (.tmp 28), 0, "ref.go:88", #[⟨12, .data⟩, ⟨13, .data⟩, ⟨11, .guard⟩], some (11, false)⟩ (v := ?_) hS1 ?_ ?_
            rotate_left
            · intro X ⟨x0, x1, x2, x3⟩; go_simp; try with_reducible rfl
            simp only [Act.put, List.setIfInBounds_toArray, List.set_cons_zero, List.set_cons_succ, Array.toArray_toList]
            refine tkH 15 ⟨some 30, .fieldAddr 85 (.tmp 29) 1, 0, "ref.go:88", #[⟨14, .data⟩, ⟨11, .guard⟩], some (11, false)⟩ (v := ?_) hS1 ?_ ?_
            rotate_left
            · intro X ⟨x0, x1, x2, x3⟩; go_simp; try with_reducible rfl
            simp only [Act.put, List.setIfInBounds_toArray, List.set_cons_zero, List.set_cons_succ, Array.toArray_toList]
            refine tkH 16 ⟨some 31, .load 23 (.tmp 30), 23, "ref.go:88", #[⟨15, .data⟩, ⟨11, .guard⟩], some (11, false)⟩ (v := ?_) hS1 ?_ ?_
            rotate_left
            · intro X ⟨x0, x1, x2, x3⟩; go_simp; try with_reducible rfl
            simp only [Act.put, List.setIfInBounds_toArray, List.set_cons_zero, List.set_cons_succ, Array.toArray_toList]
            refine wpAnyH_ready (rs := [17]) (by kernel_rfl) (by simp) (AllReadyH.cons (o := ⟨some 32, .call ⟨.value (.func 99), #[.tmp 31, .const (.int .i64 400)], #[23, 3]⟩, 4, "ref.go:88", #[⟨16, .data⟩, ⟨11, .chain⟩, ⟨11, .guard⟩], some (11, false)⟩) rfl (fun K hK => ?_) AllReadyH.nil)
            go_simp
            refine (hsp.out wr.drew).mono ?_
            rintro e w2 ⟨rfl, hb2⟩
            have HN2 := Lib.hid ((hb2.block Bs lBs).trans HN0.out)
            have HB2 := Lib.hid (HBE.out.drew.trans (hb2.mono HBE.out.drew.size))
            go_wp2_with fail
            refine hK.out _ _ (⟨cell_later hb2 a0, cell_later hb2 a1, cell_later hb2 a2, cell_later hb2 q4⟩) (fun hS2 => ?_)
            clear hS1 hK K
            refine tkH 18 ⟨some 33, .unOp .not 4 (.tmp 32), 4, "ref.go:88", #[⟨17, .data⟩, ⟨11, .guard⟩], some (11, false)⟩ (v := ?_) hS2 ?_ ?_
            rotate_left
            · intro X ⟨x0, x1, x2, x3⟩; go_simp; try with_reducible rfl
            simp only [Act.put, List.setIfInBounds_toArray, List.set_cons_zero, List.set_cons_succ, Array.toArray_toList]
            refine tkH 19 ⟨some 34, .pick (.tmp 26) (.const (.bool true)) (.tmp 33), 4, "ref.go:88", #[⟨11, .data⟩, ⟨18, .data⟩], none⟩ (v := ?_) hS2 ?_ ?_
            rotate_left
            · intro X ⟨x0, x1, x2, x3⟩; go_simp; try with_reducible rfl
            simp only [Act.put, List.setIfInBounds_toArray, List.set_cons_zero, List.set_cons_succ, Array.toArray_toList]
            refine wpAnyH_done (by kernel_rfl) ?_ _
            clear hS2
            go_wp2_with fail
            go_roundw
            case rel => exact ⟨k + 1, by omega, by go_num, (fun j hj hjk => by
              by_cases e : j = k
              · subst e; exact HG.out
              · exact HALL.out j hj (by omega)), HN2.out, HB2.out⟩
            case measure => simp [intOf]; omega
      · have hlt' : decide ((k : Int) < (dips.length : Int)) = false := by simpa using hlt
        have HF := Lib.hid (dips_yes (s := s) H6.out (fun j hj => HALL.out j hj (by omega)))
        go_wp2_with fail
        go_ret
        exact ⟨by rw [HF.out]; rfl, HBE.out⟩

set_option maxRecDepth 100000 in
set_option maxHeartbeats 2000000 in
theorem ldipped_any (s : St) (A : Option Addr) (cp : Nat) (Ac Ak : Option Addr) (cc ck : Nat) (c k : List Int) (Ad : Option Addr) (cd : Nat) (dips : List Dp) (w : World) (hn : s.ns.length ≤ 1000000) (hcl : c.length ≤ 1000000) (hkl : k.length ≤ 1000000) (hdl : dips.length ≤ 1000000) (hA : NtsAt w A s.ns) (hc : IntsAt w (.slice Ac c.length cc) c) (hk : IntsAt w (.slice Ak k.length ck) k) (hd : DpsAt w Ad dips) :
    Calls Try.prog 29 #[.agg #[.int .i64 s.cap, .int .i64 s.can, .int .i64 s.sl, .int .i64 s.sh, .slice A s.ns.length cp], .agg #[.slice Ac c.length cc, .slice Ak k.length ck], .slice Ad dips.length cd] w fun e w' => e = .returned (.int .i64 (dippedL s c k dips)) ∧ Below w.heap.size w w' := by
  have hB0 : Below w.heap.size w ((w.alloc (.cells #[.int .i64 s.cap, .int .i64 s.can, .int .i64 s.sl, .int .i64 s.sh, .slice A s.ns.length cp] 26)).alloc (.cells #[.slice Ac c.length cc, .slice Ak k.length ck] 29)) := ((Below.refl _ _).alloc (Nat.le_refl _) _).alloc (by simp) _
  have hn0 : ((w.alloc (.cells #[.int .i64 s.cap, .int .i64 s.can, .int .i64 s.sl, .int .i64 s.sh, .slice A s.ns.length cp] 26)).alloc (.cells #[.slice Ac c.length cc, .slice Ak k.length ck] 29)).heap[w.heap.size]? = some (.cells #[.int .i64 s.cap, .int .i64 s.can, .int .i64 s.sl, .int .i64 s.sh, .slice A s.ns.length cp] 26 (0, 0)) := (Below.heap_alloc _ _ _ (by simp)).trans (heap_new_at _ _ _ rfl)
  obtain ⟨w1, hw1⟩ : ∃ w1, ((w.alloc (.cells #[.int .i64 s.cap, .int .i64 s.can, .int .i64 s.sl, .int .i64 s.sh, .slice A s.ns.length cp] 26)).alloc (.cells #[.slice Ac c.length cc, .slice Ak k.length ck] 29)) = w1 := ⟨_, rfl⟩
  rw [hw1] at hB0 hn0
  have hpl := Lib.hid (planned_any s A cp Ac Ak cc ck c k w1 hn hcl hkl (hA.keep hB0 (Nat.le_refl _)) (hc.keep hB0 (Nat.le_refl _)) (hk.keep hB0 (Nat.le_refl _)))
  have HD := Lib.hid hd
  have HB := Lib.hid hB0
  have N0 := Lib.hid hn0
  have HW1 := Lib.hid hw1
  clear hB0 hn0 hw1 hA hc hk hd
  obtain ⟨Q, hQ⟩ : ∃ Q, planL s c k = Q := ⟨_, rfl⟩
  rw [hQ] at hpl
  have HQ := Lib.hid hQ
  clear hQ
  go_enter Try.func29, Try.ntmps29
  go_wp2_with fail
  rw [HW1.out]
  with_reducible refine hpl.out.mono ?_
  rintro e w2 ⟨rfl, hb2⟩
  have HB2 := Lib.hid (HB.out.trans (hb2.mono HB.out.size))
  have n2 := (hb2.block w.heap.size (Array.getElem?_eq_some_iff.1 N0.out).1).trans N0.out
  have q0 : w2.cell? ⟨w.heap.size, 0, none⟩ = some (.int .i64 s.cap) := by simp [World.cell?, n2]
  have q1 : w2.cell? ⟨w.heap.size, 1, none⟩ = some (.int .i64 s.can) := by simp [World.cell?, n2]
  have q2 : w2.cell? ⟨w.heap.size, 2, none⟩ = some (.int .i64 s.sl) := by simp [World.cell?, n2]
  have q3 : w2.cell? ⟨w.heap.size, 3, none⟩ = some (.int .i64 s.sh) := by simp [World.cell?, n2]
  have q4 : w2.cell? ⟨w.heap.size, 4, none⟩ = some (.slice A s.ns.length cp) := by simp [World.cell?, n2]
  clear hb2 n2 hpl HW1
  by_cases h0 : Q = 0
  · subst h0
    have HF := Lib.hid (show dippedL s c k dips = dipsL s dips by unfold dippedL; rw [HQ.out]; simp)
    have hrd := Lib.hid (rdips_any s A cp Ad cd dips w2 hn hdl (HD.out.keep HB2.out (Nat.le_refl _)))
    go_wp2_with fail
    with_reducible refine hrd.out.mono ?_
    rintro e w3 ⟨rfl, hb3⟩
    go_wp2_with fail
    go_ret
    exact ⟨by rw [HF.out]; rfl, HB2.out.trans (hb3.mono HB2.out.size)⟩
  · have hne : (Q != 0) = true := by simpa using h0
    have HF := Lib.hid (show dippedL s c k dips = Q by unfold dippedL; rw [HQ.out, if_pos h0])
    clear h0
    go_wp2_with fail
    go_ret
    exact ⟨by rw [HF.out]; rfl, HB2.out⟩

def RMRel (s : St) (w : World) (Bs : Nat) (o : Obj) (n i : Value) (wr : World) : Prop :=
  ∃ k : Nat, k ≤ s.ns.length ∧ i = .int .i64 k ∧ n = .int .i64 (manyTo s k) ∧ wr.heap[Bs]? = some o ∧ Below w.heap.size w wr

set_option maxRecDepth 100000 in
set_option maxHeartbeats 2000000 in
theorem many_any (s : St) (A : Option Addr) (cp : Nat) (w : World) (hok : StOk s) (hA : NtsAt w A s.ns) :
    Calls Try.prog 69 #[.agg #[.int .i64 s.cap, .int .i64 s.can, .int .i64 s.sl, .int .i64 s.sh, .slice A s.ns.length cp]] w fun e w' => e = .returned (.int .i64 (manyN s)) ∧ Below w.heap.size w w' := by
  have hbel : Below w.heap.size w (w.alloc (.cells #[.int .i64 s.cap, .int .i64 s.can, .int .i64 s.sl, .int .i64 s.sh, .slice A s.ns.length cp] 26)) := (Below.refl _ _).alloc (Nat.le_refl _) _
  have HB := Lib.hid hbel
  have HA := Lib.hid hA
  have HO := Lib.hid hok
  have N0 := Lib.hid (Go.heap_alloc_new w (.cells #[.int .i64 s.cap, .int .i64 s.can, .int .i64 s.sl, .int .i64 s.sh, .slice A s.ns.length cp] 26))
  have hs0 := hok.s0
  have hs1 := hok.s1
  have hs2 := hok.s2
  have hc1 := hok.c1
  have h6 := hok.len
  have hm0 : IntKind.i64.wrap (s.sh - s.sl) + 1 = (manyTo s 0 : Int) := by
    rw [IntWalk.i64_in _ (by omega)]
    simp only [manyTo]; omega
  have hm1 : IntKind.i64.wrap (manyTo s 0 : Int) = (manyTo s 0 : Int) := IntWalk.i64_in _ (by have := manyTo_bd hok (Nat.zero_le _); simp at this; omega)
  clear hbel hA hok
  go_enter Try.func69, Try.ntmps69
  go_wp2_with fail
  generalize (w.alloc (.cells #[.int .i64 s.cap, .int .i64 s.can, .int .i64 s.sl, .int .i64 s.sh, .slice A s.ns.length cp] 26)) = w1 at HB N0 ⊢
  obtain ⟨Bs, hBs⟩ : ∃ Bs, w.heap.size = Bs := ⟨_, rfl⟩
  rw [hBs] at N0 ⊢
  clear hBs
  go_loopw [3, 4] (RMRel s w Bs (.cells #[.int .i64 s.cap, .int .i64 s.can, .int .i64 s.sl, .int .i64 s.sh, .slice A s.ns.length cp] 26 (0, 0))) (fun _ i _ => s.ns.length - (intOf i).toNat)
  case atStart => exact ⟨0, by omega, rfl, by rw [← hm0, IntWalk.i64_in _ (by omega)], N0.out, HB.out⟩
  case round =>
    clear HB N0
    obtain ⟨k, hk, rfl, rfl, hn0, hbe⟩ := hrel
    have HBE := Lib.hid hbe
    have HN0 := Lib.hid hn0
    have q4 : wr.cell? ⟨Bs, 4, none⟩ = some (.slice A s.ns.length cp) := by simp [World.cell?, hn0]
    clear hbe hn0
    by_cases hlt : k < s.ns.length
    · have hlt' : decide ((k : Int) < (s.ns.length : Int)) = true := by simpa using hlt
      obtain ⟨b, o, rfl, a0, a1, a2, a3, a4⟩ := (HA.out.keep HBE.out (Nat.le_refl _)).at hlt
      rw [← ntAt_at hlt] at a0 a1 a2 a3 a4
      have hbu := burnsN_bd HO.out hlt
      have hma := manyTo_big HO.out (i := k + 1) (by omega)
      have hsu : (manyTo s (k + 1) : Int) = (manyTo s k : Int) * ((ntAt s k).hi - (ntAt s k).lo + 1) := by rw [← hbu.2.2]; simp [manyTo]
      have hnt := HO.out.nt k hlt
      obtain ⟨⟨nh, na, nb, nlo, nhi⟩, hN⟩ : ∃ N, ntAt s k = N := ⟨_, rfl⟩
      rw [hN] at a0 a1 a2 a3 a4 hsu hnt
      dsimp only at a0 a1 a2 a3 a4 hsu hnt
      obtain ⟨M, hM⟩ : ∃ M, (manyTo s k : Int) = M := ⟨_, rfl⟩
      have hw1 : IntKind.i64.wrap (nhi - nlo) = nhi - nlo := IntWalk.i64_in _ (by omega)
      have hw2 : IntKind.i64.wrap (nhi - nlo + 1) = nhi - nlo + 1 := IntWalk.i64_in _ (by omega)
      rw [hM] at hsu ⊢
      have hw3 : IntKind.i64.wrap (M * (nhi - nlo + 1)) = M * (nhi - nlo + 1) := by rw [← hsu]; exact IntWalk.i64_in _ (by omega)
      have HSU := Lib.hid hsu
      have i1 : (0 : Int) ≤ (k : Int) := by omega
      have i2 : (k : Int) < (s.ns.length : Int) := by omega
      clear hbu hma hsu hnt hN hM
      go_wp2_with fail
      go_quiet (fail)
      go_wp2_with fail
      go_roundw
      case rel => exact ⟨k + 1, by omega, by go_num, by rw [HSU.out], HN0.out, HBE.out.drewN _⟩
      case measure => simp [intOf]; omega
    · have hlt' : decide ((k : Int) < (s.ns.length : Int)) = false := by simpa using hlt
      obtain rfl : k = s.ns.length := by omega
      go_wp2_with fail
      go_ret
      exact ⟨rfl, HBE.out⟩

def fewB (s : St) (m : Int) : Bool := if faultS s ≠ 0 then true else decide ((manyN s : Int) ≤ m)
set_option maxRecDepth 100000 in
set_option maxHeartbeats 2000000 in
theorem few_any (s : St) (A : Option Addr) (cp : Nat) (m : Int) (w : World) (hn : s.ns.length ≤ 1000000) (hA : NtsAt w A s.ns) :
    Calls Try.prog 28 #[.agg #[.int .i64 s.cap, .int .i64 s.can, .int .i64 s.sl, .int .i64 s.sh, .slice A s.ns.length cp], .int .i64 m] w fun e w' => e = .returned (.bool (fewB s m)) ∧ Below w.heap.size w w' := by
  have hB : Below w.heap.size w (w.alloc (.cells #[.int .i64 s.cap, .int .i64 s.can, .int .i64 s.sl, .int .i64 s.sh, .slice A s.ns.length cp] 26)) := (Below.refl _ _).alloc (Nat.le_refl _) _
  have hn0 := Go.heap_alloc_new w (.cells #[.int .i64 s.cap, .int .i64 s.can, .int .i64 s.sl, .int .i64 s.sh, .slice A s.ns.length cp] 26)
  obtain ⟨w1, hw1⟩ : ∃ w1, (w.alloc (.cells #[.int .i64 s.cap, .int .i64 s.can, .int .i64 s.sl, .int .i64 s.sh, .slice A s.ns.length cp] 26)) = w1 := ⟨_, rfl⟩
  rw [hw1] at hB hn0
  have hfa := Lib.hid (rfault_any s A cp w1 hn (hA.keep hB (Nat.le_refl _)))
  have HA := Lib.hid hA
  have HB := Lib.hid hB
  have N0 := Lib.hid hn0
  have HW1 := Lib.hid hw1
  clear hB hn0 hw1 hA
  by_cases h0 : faultS s = 0
  · have HF := Lib.hid (show fewB s m = decide ((manyN s : Int) ≤ m) by unfold fewB; rw [h0]; simp)
    have hok := faultS_zero.1 h0
    have HO := Lib.hid hok
    rw [h0] at hfa
    clear h0 hok
    go_enter Try.func28, Try.ntmps28
    go_wp2_with fail
    rw [HW1.out]
    with_reducible refine hfa.out.mono ?_
    rintro e w2 ⟨rfl, hb2⟩
    have HB2 := Lib.hid (HB.out.trans (hb2.mono HB.out.size))
    have n2 := (hb2.block w.heap.size (Array.getElem?_eq_some_iff.1 N0.out).1).trans N0.out
    have q0 : w2.cell? ⟨w.heap.size, 0, none⟩ = some (.int .i64 s.cap) := by simp [World.cell?, n2]
    have q1 : w2.cell? ⟨w.heap.size, 1, none⟩ = some (.int .i64 s.can) := by simp [World.cell?, n2]
    have q2 : w2.cell? ⟨w.heap.size, 2, none⟩ = some (.int .i64 s.sl) := by simp [World.cell?, n2]
    have q3 : w2.cell? ⟨w.heap.size, 3, none⟩ = some (.int .i64 s.sh) := by simp [World.cell?, n2]
    have q4 : w2.cell? ⟨w.heap.size, 4, none⟩ = some (.slice A s.ns.length cp) := by simp [World.cell?, n2]
    have hma := Lib.hid (many_any s A cp w2 HO.out (HA.out.keep HB2.out (Nat.le_refl _)))
    clear hb2 n2 hfa HW1
    go_wp2_with fail
    with_reducible refine hma.out.mono ?_
    rintro e w3 ⟨rfl, hb3⟩
    go_wp2_with fail
    go_ret
    exact ⟨by rw [HF.out]; rfl, HB2.out.trans (hb3.mono HB2.out.size)⟩
  · have HF := Lib.hid (show fewB s m = true by unfold fewB; rw [if_pos h0])
    obtain ⟨Q, hQ⟩ : ∃ Q, faultS s = Q := ⟨_, rfl⟩
    rw [hQ] at hfa h0
    have hne : (Q != 0) = true := by simpa using h0
    clear hQ h0
    go_enter Try.func28, Try.ntmps28
    go_wp2_with fail
    rw [HW1.out]
    with_reducible refine hfa.out.mono ?_
    rintro e w2 ⟨rfl, hb2⟩
    go_wp2_with fail
    go_ret
    exact ⟨by rw [HF.out]; rfl, HB.out.trans (hb2.mono HB.out.size)⟩
end Go.Proofs.Ytefhdcecbmgljaa

/-
  all: for nights, numbers and dips.
-/
import Derived.Test.YtefhdcecbmgljaaBase
set_option linter.all false
namespace Go.Proofs.Ytefhdcecbmgljaa
open Go.RowKit Go.WalkArith

def canB (n : Int) : Bool := inB n 0 2
theorem can_any (n : Int) (w : World) : Calls Try.prog 110 #[.int .i64 n] w fun e w' => e = .returned (.bool (canB n)) ∧ Below w.heap.size w w' := by
  go_enter Try.func110, Try.ntmps110
  go_wp2_with fail
  refine (within_any _ _ _ _).mono ?_
  rintro e w' ⟨rfl, rfl⟩
  go_wp2_with fail
  go_ret
  exact ⟨rfl, Below.refl _ _⟩

set_option maxHeartbeats 1000000 in
theorem valid_any (a : Nt) (w : World) : Calls Try.prog 62 #[.agg #[.int .i64 a.h, .int .i64 a.a, .int .i64 a.b, .int .i64 a.lo, .int .i64 a.hi]] w fun e w' => e = .returned (.bool (ntOk a)) ∧ Below w.heap.size w w' := by
  obtain ⟨h, a, b, lo, hi⟩ := a
  have hbel : Below w.heap.size w (w.alloc (.cells #[.int .i64 h, .int .i64 a, .int .i64 b, .int .i64 lo, .int .i64 hi] 105)) := (Below.refl _ _).alloc (Nat.le_refl _) _
  have HB := Lib.hid hbel
  dsimp only
  clear hbel
  have hdef : ntOk ⟨h, a, b, lo, hi⟩ = (inB h 1 14 && (decide (1 ≤ a) && decide (a ≤ b) && decide (b ≤ 4)) && spanB lo hi 10) := rfl
  have HD := Lib.hid hdef
  clear hdef
  cases h1 : inB h 1 14 with
  | false =>
    have HF := Lib.hid (show ntOk ⟨h, a, b, lo, hi⟩ = false by rw [HD.out, h1]; rfl)
    go_enter Try.func62, Try.ntmps62
    go_wp2_with (go_at_call 59; refine (within_any _ _ _ _).mono ?_; rintro e w' ⟨rfl, rfl⟩)
    go_ret
    exact ⟨by rw [HF.out]; rfl, HB.out⟩
  | true =>
    by_cases h2 : 1 ≤ a
    · by_cases h3 : a ≤ b
      · by_cases h4 : b ≤ 4
        · have HF := Lib.hid (show ntOk ⟨h, a, b, lo, hi⟩ = spanB lo hi 10 by rw [HD.out, h1, decide_eq_true h2, decide_eq_true h3, decide_eq_true h4]; rfl)
          go_enter Try.func62, Try.ntmps62
          go_wp2_with (first | (go_at_call 59; refine (within_any _ _ _ _).mono ?_; rintro e w' ⟨rfl, rfl⟩) | (go_at_call 60; refine (to_any _ _ _ _).mono ?_; rintro e w' ⟨rfl, hb⟩))
          go_ret
          exact ⟨by rw [HF.out]; rfl, HB.out.trans (hb.mono HB.out.size)⟩
        · have h4' : decide (b ≤ 4) = false := by simpa using h4
          have HF := Lib.hid (show ntOk ⟨h, a, b, lo, hi⟩ = false by rw [HD.out, h4']; simp)
          go_enter Try.func62, Try.ntmps62
          go_wp2_with (go_at_call 59; refine (within_any _ _ _ _).mono ?_; rintro e w' ⟨rfl, rfl⟩)
          go_ret
          exact ⟨by rw [HF.out]; rfl, HB.out⟩
      · have h3' : decide (a ≤ b) = false := by simpa using h3
        have HF := Lib.hid (show ntOk ⟨h, a, b, lo, hi⟩ = false by rw [HD.out, h3']; simp)
        go_enter Try.func62, Try.ntmps62
        go_wp2_with (go_at_call 59; refine (within_any _ _ _ _).mono ?_; rintro e w' ⟨rfl, rfl⟩)
        go_ret
        exact ⟨by rw [HF.out]; rfl, HB.out⟩
    · have h2' : decide (1 ≤ a) = false := by simpa using h2
      have HF := Lib.hid (show ntOk ⟨h, a, b, lo, hi⟩ = false by rw [HD.out, h2']; simp)
      go_enter Try.func62, Try.ntmps62
      go_wp2_with (go_at_call 59; refine (within_any _ _ _ _).mono ?_; rintro e w' ⟨rfl, rfl⟩)
      go_ret
      exact ⟨by rw [HF.out]; rfl, HB.out⟩

set_option maxHeartbeats 1000000 in
theorem dip_any (s : St) (A : Option Addr) (cp : Nat) (d : Dp) (w : World) (hn : s.ns.length ≤ 1000000) : Calls Try.prog 100 #[.agg #[.int .i64 s.cap, .int .i64 s.can, .int .i64 s.sl, .int .i64 s.sh, .slice A s.ns.length cp], .agg #[.int .i64 d.n, .int .i64 d.lo, .int .i64 d.hi]] w fun e w' => e = .returned (.bool (dipB s d)) ∧ Below w.heap.size w w' := by
  have hbel : Below w.heap.size w ((w.alloc (.cells #[.int .i64 s.cap, .int .i64 s.can, .int .i64 s.sl, .int .i64 s.sh, .slice A s.ns.length cp] 39)).alloc (.cells #[.int .i64 d.n, .int .i64 d.lo, .int .i64 d.hi] 103)) := ((Below.refl _ _).alloc (Nat.le_refl _) _).alloc (by simp) _
  have HB := Lib.hid hbel
  have hdef : dipB s d = (inB d.n 0 ((s.ns.length : Int) - 1) && spanB d.lo d.hi 400) := rfl
  have HD := Lib.hid hdef
  clear hbel hdef
  cases h1 : inB d.n 0 ((s.ns.length : Int) - 1) with
  | false =>
    have HF := Lib.hid (show dipB s d = false by rw [HD.out, h1]; rfl)
    go_enter Try.func100, Try.ntmps100
    go_wp2_with (go_at_call 59; refine (within_any _ _ _ _).mono ?_; rintro e w' ⟨rfl, rfl⟩)
    go_ret
    exact ⟨by rw [HF.out]; rfl, HB.out⟩
  | true =>
    have HF := Lib.hid (show dipB s d = spanB d.lo d.hi 400 by rw [HD.out, h1]; rfl)
    go_enter Try.func100, Try.ntmps100
    go_wp2_with (first | (go_at_call 59; refine (within_any _ _ _ _).mono ?_; rintro e w' ⟨rfl, rfl⟩) | (go_at_call 60; refine (to_any _ _ _ _).mono ?_; rintro e w' ⟨rfl, hb⟩))
    go_ret
    exact ⟨by rw [HF.out]; rfl, HB.out.trans (hb.mono HB.out.size)⟩

/-- The function value that all hands on: 'not pass'. -/
theorem notNt_any (pb : Nat) (a : Nt) (w : World) (hp : w.cell? ⟨pb, 0, none⟩ = some (.func (.func 62) #[] #[])) :
    Calls Try.prog 96 #[.agg #[.int .i64 a.h, .int .i64 a.a, .int .i64 a.b, .int .i64 a.lo, .int .i64 a.hi], .pointer (some ⟨pb, 0, none⟩)] w fun e w' => e = .returned (.bool (!ntOk a)) ∧ Below w.heap.size w w' := by
  have hpl := World.block_lt_of_cell? w _ hp
  go_enter Try.func96, Try.ntmps96
  go_wp2_with (go_at_call 62; refine (valid_any a _).mono ?_; rintro e w' ⟨rfl, hb⟩)
  have hb2 : Below w.heap.size w w' := ((Below.refl _ _).alloc (Nat.le_refl _) _).trans (hb.mono (by simp))
  go_ret
  exact ⟨rfl, hb2⟩

def IdxNtRel (l : List Nt) (w : World) (i : Value) (wr : World) : Prop :=
  ∃ k : Nat, k ≤ l.length ∧ i = .int .i64 k ∧ (∀ j (h : j < l.length), j < k → ntOk l[j] = true) ∧ Below w.heap.size w wr
def IdxNtPost (l : List Nt) (w : World) (e : Ending) (w' : World) : Prop :=
  ∃ r : Int, e = .returned (.int .i64 r) ∧ decide (0 ≤ r) = (!l.all ntOk) ∧ Below w.heap.size w w'

set_option maxRecDepth 100000 in
set_option maxHeartbeats 1000000 in
theorem indexNt_any (A : Option Addr) (cap pb : Nat) (l : List Nt) (w : World) (hn : l.length ≤ 1000000) (hA : NtsAt w A l) (hp : w.cell? ⟨pb, 0, none⟩ = some (.func (.func 62) #[] #[])) :
    Calls Try.prog 113 #[.slice A l.length cap, .func (.func 96) #[] #[.pointer (some ⟨pb, 0, none⟩)]] w (IdxNtPost l w) := by
  have HA := Lib.hid hA
  have HP := Lib.hid hp
  have hpl := World.block_lt_of_cell? w _ hp
  clear hA hp
  go_enter Try.func113, Try.ntmps113
  go_wp2_with fail
  go_loopw [8] (IdxNtRel l w) (fun i _ => l.length - (intOf i).toNat)
  case atStart => exact ⟨0, by omega, rfl, fun j _ h => by omega, Below.refl _ _⟩
  case round =>
    obtain ⟨k, hk, rfl, hall, hB⟩ := hrel
    have HALL := Lib.hid hall
    have HB := Lib.hid hB
    clear hall hB
    by_cases hlt : k < l.length
    · have hlt' : decide ((k : Int) < (l.length : Int)) = true := by simpa using hlt
      obtain ⟨b, o, rfl, a0, a1, a2, a3, a4⟩ := (HA.out.keep HB.out (Nat.le_refl _)).at hlt
      obtain ⟨a, ha⟩ : ∃ a, l[k] = a := ⟨_, rfl⟩
      rw [ha] at a0 a1 a2 a3 a4
      have HAK := Lib.hid ha
      have hp2 : wr.cell? ⟨pb, 0, none⟩ = some (.func (.func 62) #[] #[]) := (HB.out.cell (p := ⟨pb, 0, none⟩) hpl).trans HP.out
      have hcall := Lib.hid (notNt_any pb a wr hp2)
      have i1 : (0 : Int) ≤ (k : Int) := by omega
      have i2 : (k : Int) < (l.length : Int) := by omega
      clear ha hp2
      cases hok : ntOk a with
      | true =>
        rw [hok] at hcall
        have HOK := Lib.hid hok
        clear hok
        go_wp2_with (go_at_call 96; refine hcall.out.mono ?_; rintro e w1 ⟨rfl, hb1⟩)
        have hB1 := Lib.hid (HB.out.trans (hb1.mono HB.out.size))
        clear hb1
        go_roundw
        case rel => exact ⟨k + 1, by omega, by go_num, fun j h hj => by
          by_cases e : j = k
          · subst e; rw [HAK.out]; exact HOK.out
          · exact HALL.out j h (by omega), hB1.out⟩
        case measure => simp [intOf]; omega
      | false =>
        rw [hok] at hcall
        have HOK := Lib.hid hok
        clear hok
        go_wp2_with (go_at_call 96; refine hcall.out.mono ?_; rintro e w1 ⟨rfl, hb1⟩)
        have hfin : IdxNtPost l w (.returned (.int .i64 k)) w1 := ⟨k, rfl, by
          have : l.all ntOk = false := by
            rw [List.all_eq_false]
            exact ⟨a, by rw [← HAK.out]; exact List.getElem_mem hlt, by rw [HOK.out]; simp⟩
          rw [this]; simp, HB.out.trans (hb1.mono HB.out.size)⟩
        go_ret
        exact hfin
    · have hlt' : decide ((k : Int) < (l.length : Int)) = false := by simpa using hlt
      have hfin : IdxNtPost l w (.returned (.int .i64 (-1))) wr := ⟨-1, rfl, by
        have : l.all ntOk = true := by
          rw [List.all_eq_true]
          intro a ha
          obtain ⟨j, hj, e⟩ := List.getElem_of_mem ha
          rw [← e]
          exact HALL.out j hj (by omega)
        rw [this]; simp, HB.out⟩
      have HF := Lib.hid hfin
      clear hfin
      go_wp2_with fail
      go_ret
      exact HF.out

theorem containsNt_any (A : Option Addr) (cap pb : Nat) (l : List Nt) (w : World) (hn : l.length ≤ 1000000) (hA : NtsAt w A l) (hp : w.cell? ⟨pb, 0, none⟩ = some (.func (.func 62) #[] #[])) :
    Calls Try.prog 95 #[.slice A l.length cap, .func (.func 96) #[] #[.pointer (some ⟨pb, 0, none⟩)]] w fun e w' => e = .returned (.bool (!l.all ntOk)) ∧ Below w.heap.size w w' := by
  have HI := Lib.hid (indexNt_any A cap pb l w hn hA hp)
  clear hA hp
  go_enter Try.func95, Try.ntmps95
  go_wp2_with fail
  refine HI.out.mono ?_
  rintro e w1 ⟨r, rfl, hr, hb⟩
  have HR := Lib.hid hr
  clear hr
  go_wp2_with fail
  go_ret
  exact ⟨by rw [← HR.out]; rfl, hb⟩

theorem allNt_any (A : Option Addr) (cap : Nat) (l : List Nt) (w : World) (hn : l.length ≤ 1000000) (hA : NtsAt w A l) :
    Calls Try.prog 61 #[.slice A l.length cap, .func (.func 62) #[] #[]] w fun e w' => e = .returned (.bool (l.all ntOk)) ∧ Below w.heap.size w w' := by
  have hB : Below w.heap.size w (w.alloc (.cells #[.func (.func 62) #[] #[]] 110)) := (Below.refl _ _).alloc (Nat.le_refl _) _
  have HI := Lib.hid (containsNt_any A cap w.heap.size l _ hn (hA.keep hB (Nat.le_refl _)) (Boxed.new w 110 _).cell)
  have HB := Lib.hid hB
  clear hA hB
  go_enter Try.func61, Try.ntmps61
  go_wp2_with fail
  refine HI.out.mono ?_
  rintro e w1 ⟨rfl, hb⟩
  have hb2 := HB.out.trans (hb.mono HB.out.size)
  go_wp2_with fail
  go_ret
  exact ⟨by simp, hb2⟩

/-- The same for numbers: 'not pass'. -/
theorem notInt_any (pb : Nat) (a : Int) (w : World) (hp : w.cell? ⟨pb, 0, none⟩ = some (.func (.func 110) #[] #[])) :
    Calls Try.prog 121 #[.int .i64 a, .pointer (some ⟨pb, 0, none⟩)] w fun e w' => e = .returned (.bool (!canB a)) ∧ Below w.heap.size w w' := by
  have hpl := World.block_lt_of_cell? w _ hp
  go_enter Try.func121, Try.ntmps121
  go_wp2_with (go_at_call 110; refine (can_any a _).mono ?_; rintro e w' ⟨rfl, hb⟩)
  have hb2 : Below w.heap.size w w' := hb
  go_ret
  exact ⟨rfl, hb2⟩

def IdxIntRel (l : List Int) (w : World) (i : Value) (wr : World) : Prop :=
  ∃ k : Nat, k ≤ l.length ∧ i = .int .i64 k ∧ (∀ j (h : j < l.length), j < k → canB l[j] = true) ∧ Below w.heap.size w wr
def IdxIntPost (l : List Int) (w : World) (e : Ending) (w' : World) : Prop :=
  ∃ r : Int, e = .returned (.int .i64 r) ∧ decide (0 ≤ r) = (!l.all canB) ∧ Below w.heap.size w w'

set_option maxRecDepth 100000 in
set_option maxHeartbeats 1000000 in
theorem indexInt_any (A : Option Addr) (cap pb : Nat) (l : List Int) (w : World) (hn : l.length ≤ 1000000) (hA : IntsAt w (.slice A l.length cap) l) (hp : w.cell? ⟨pb, 0, none⟩ = some (.func (.func 110) #[] #[])) :
    Calls Try.prog 120 #[.slice A l.length cap, .func (.func 121) #[] #[.pointer (some ⟨pb, 0, none⟩)]] w (IdxIntPost l w) := by
  have HA := Lib.hid hA
  have HP := Lib.hid hp
  have hpl := World.block_lt_of_cell? w _ hp
  clear hA hp
  go_enter Try.func120, Try.ntmps120
  go_wp2_with fail
  go_loopw [8] (IdxIntRel l w) (fun i _ => l.length - (intOf i).toNat)
  case atStart => exact ⟨0, by omega, rfl, fun j _ h => by omega, Below.refl _ _⟩
  case round =>
    obtain ⟨k, hk, rfl, hall, hB⟩ := hrel
    have HALL := Lib.hid hall
    have HB := Lib.hid hB
    clear hall hB
    by_cases hlt : k < l.length
    · have hlt' : decide ((k : Int) < (l.length : Int)) = true := by simpa using hlt
      obtain ⟨b, o, rfl, a0⟩ := (HA.out.keep HB.out (Nat.le_refl _)).at hlt
      rw [atL_at hlt] at a0
      obtain ⟨a, ha⟩ : ∃ a, l[k] = a := ⟨_, rfl⟩
      rw [ha] at a0
      have HAK := Lib.hid ha
      have hp2 : wr.cell? ⟨pb, 0, none⟩ = some (.func (.func 110) #[] #[]) := (HB.out.cell (p := ⟨pb, 0, none⟩) hpl).trans HP.out
      have hcall := Lib.hid (notInt_any pb a wr hp2)
      have i1 : (0 : Int) ≤ (k : Int) := by omega
      have i2 : (k : Int) < (l.length : Int) := by omega
      clear ha hp2
      cases hok : canB a with
      | true =>
        rw [hok] at hcall
        have HOK := Lib.hid hok
        clear hok
        go_wp2_with (go_at_call 121; refine hcall.out.mono ?_; rintro e w1 ⟨rfl, hb1⟩)
        have hB1 := Lib.hid (HB.out.trans (hb1.mono HB.out.size))
        clear hb1
        go_roundw
        case rel => exact ⟨k + 1, by omega, by go_num, fun j h hj => by
          by_cases e : j = k
          · subst e; rw [HAK.out]; exact HOK.out
          · exact HALL.out j h (by omega), hB1.out⟩
        case measure => simp [intOf]; omega
      | false =>
        rw [hok] at hcall
        have HOK := Lib.hid hok
        clear hok
        go_wp2_with (go_at_call 121; refine hcall.out.mono ?_; rintro e w1 ⟨rfl, hb1⟩)
        have hfin : IdxIntPost l w (.returned (.int .i64 k)) w1 := ⟨k, rfl, by
          have : l.all canB = false := by
            rw [List.all_eq_false]
            exact ⟨a, by rw [← HAK.out]; exact List.getElem_mem hlt, by rw [HOK.out]; simp⟩
          rw [this]; simp, HB.out.trans (hb1.mono HB.out.size)⟩
        go_ret
        exact hfin
    · have hlt' : decide ((k : Int) < (l.length : Int)) = false := by simpa using hlt
      have hfin : IdxIntPost l w (.returned (.int .i64 (-1))) wr := ⟨-1, rfl, by
        have : l.all canB = true := by
          rw [List.all_eq_true]
          intro a ha
          obtain ⟨j, hj, e⟩ := List.getElem_of_mem ha
          rw [← e]
          exact HALL.out j hj (by omega)
        rw [this]; simp, HB.out⟩
      have HF := Lib.hid hfin
      clear hfin
      go_wp2_with fail
      go_ret
      exact HF.out

theorem containsInt_any (A : Option Addr) (cap pb : Nat) (l : List Int) (w : World) (hn : l.length ≤ 1000000) (hA : IntsAt w (.slice A l.length cap) l) (hp : w.cell? ⟨pb, 0, none⟩ = some (.func (.func 110) #[] #[])) :
    Calls Try.prog 105 #[.slice A l.length cap, .func (.func 121) #[] #[.pointer (some ⟨pb, 0, none⟩)]] w fun e w' => e = .returned (.bool (!l.all canB)) ∧ Below w.heap.size w w' := by
  have HI := Lib.hid (indexInt_any A cap pb l w hn hA hp)
  clear hA hp
  go_enter Try.func105, Try.ntmps105
  go_wp2_with fail
  refine HI.out.mono ?_
  rintro e w1 ⟨r, rfl, hr, hb⟩
  have HR := Lib.hid hr
  clear hr
  go_wp2_with fail
  go_ret
  exact ⟨by rw [← HR.out]; rfl, hb⟩

theorem allInt_any (A : Option Addr) (cap : Nat) (l : List Int) (w : World) (hn : l.length ≤ 1000000) (hA : IntsAt w (.slice A l.length cap) l) :
    Calls Try.prog 109 #[.slice A l.length cap, .func (.func 110) #[] #[]] w fun e w' => e = .returned (.bool (l.all canB)) ∧ Below w.heap.size w w' := by
  have hB : Below w.heap.size w (w.alloc (.cells #[.func (.func 110) #[] #[]] 108)) := (Below.refl _ _).alloc (Nat.le_refl _) _
  have HI := Lib.hid (containsInt_any A cap w.heap.size l _ hn (hA.keep hB (Nat.le_refl _)) (Boxed.new w 108 _).cell)
  have HB := Lib.hid hB
  clear hA hB
  go_enter Try.func109, Try.ntmps109
  go_wp2_with fail
  refine HI.out.mono ?_
  rintro e w1 ⟨rfl, hb⟩
  have hb2 := HB.out.trans (hb.mono HB.out.size)
  go_wp2_with fail
  go_ret
  exact ⟨by simp, hb2⟩

/-- The same for dips: 'not pass'. -/
theorem notDp_any (s : St) (As : Option Addr) (cs pb : Nat) (a : Dp) (w : World) (hns : s.ns.length ≤ 1000000) (hp : w.cell? ⟨pb, 0, none⟩ = some (.func (.func 100) #[.agg #[.int .i64 s.cap, .int .i64 s.can, .int .i64 s.sl, .int .i64 s.sh, .slice As s.ns.length cs]] #[])) :
    Calls Try.prog 116 #[.agg #[.int .i64 a.n, .int .i64 a.lo, .int .i64 a.hi], .pointer (some ⟨pb, 0, none⟩)] w fun e w' => e = .returned (.bool (!dipB s a)) ∧ Below w.heap.size w w' := by
  have hpl := World.block_lt_of_cell? w _ hp
  go_enter Try.func116, Try.ntmps116
  go_wp2_with (go_at_call 100; refine (dip_any s As cs a _ hns).mono ?_; rintro e w' ⟨rfl, hb⟩)
  have hb2 : Below w.heap.size w w' := ((Below.refl _ _).alloc (Nat.le_refl _) _).trans (hb.mono (by simp))
  go_ret
  exact ⟨rfl, hb2⟩

def IdxDpRel (l : List Dp) (s : St) (w : World) (i : Value) (wr : World) : Prop :=
  ∃ k : Nat, k ≤ l.length ∧ i = .int .i64 k ∧ (∀ j (h : j < l.length), j < k → dipB s l[j] = true) ∧ Below w.heap.size w wr
def IdxDpPost (l : List Dp) (s : St) (w : World) (e : Ending) (w' : World) : Prop :=
  ∃ r : Int, e = .returned (.int .i64 r) ∧ decide (0 ≤ r) = (!l.all (dipB s)) ∧ Below w.heap.size w w'

set_option maxRecDepth 100000 in
set_option maxHeartbeats 1000000 in
theorem indexDp_any (s : St) (As : Option Addr) (cs : Nat) (A : Option Addr) (cap pb : Nat) (l : List Dp) (w : World) (hns : s.ns.length ≤ 1000000) (hn : l.length ≤ 1000000) (hA : DpsAt w A l) (hp : w.cell? ⟨pb, 0, none⟩ = some (.func (.func 100) #[.agg #[.int .i64 s.cap, .int .i64 s.can, .int .i64 s.sl, .int .i64 s.sh, .slice As s.ns.length cs]] #[])) :
    Calls Try.prog 122 #[.slice A l.length cap, .func (.func 116) #[] #[.pointer (some ⟨pb, 0, none⟩)]] w (IdxDpPost l s w) := by
  have HA := Lib.hid hA
  have HP := Lib.hid hp
  have hpl := World.block_lt_of_cell? w _ hp
  clear hA hp
  go_enter Try.func122, Try.ntmps122
  go_wp2_with fail
  go_loopw [8] (IdxDpRel l s w) (fun i _ => l.length - (intOf i).toNat)
  case atStart => exact ⟨0, by omega, rfl, fun j _ h => by omega, Below.refl _ _⟩
  case round =>
    obtain ⟨k, hk, rfl, hall, hB⟩ := hrel
    have HALL := Lib.hid hall
    have HB := Lib.hid hB
    clear hall hB
    by_cases hlt : k < l.length
    · have hlt' : decide ((k : Int) < (l.length : Int)) = true := by simpa using hlt
      obtain ⟨b, o, rfl, a0, a1, a2⟩ := (HA.out.keep HB.out (Nat.le_refl _)).at hlt
      obtain ⟨a, ha⟩ : ∃ a, l[k] = a := ⟨_, rfl⟩
      rw [ha] at a0 a1 a2
      have HAK := Lib.hid ha
      have hp2 : wr.cell? ⟨pb, 0, none⟩ = some (.func (.func 100) #[.agg #[.int .i64 s.cap, .int .i64 s.can, .int .i64 s.sl, .int .i64 s.sh, .slice As s.ns.length cs]] #[]) := (HB.out.cell (p := ⟨pb, 0, none⟩) hpl).trans HP.out
      have hcall := Lib.hid (notDp_any s As cs pb a wr hns hp2)
      have i1 : (0 : Int) ≤ (k : Int) := by omega
      have i2 : (k : Int) < (l.length : Int) := by omega
      clear ha hp2
      cases hok : dipB s a with
      | true =>
        rw [hok] at hcall
        have HOK := Lib.hid hok
        clear hok
        go_wp2_with (go_at_call 116; refine hcall.out.mono ?_; rintro e w1 ⟨rfl, hb1⟩)
        have hB1 := Lib.hid (HB.out.trans (hb1.mono HB.out.size))
        clear hb1
        go_roundw
        case rel => exact ⟨k + 1, by omega, by go_num, fun j h hj => by
          by_cases e : j = k
          · subst e; rw [HAK.out]; exact HOK.out
          · exact HALL.out j h (by omega), hB1.out⟩
        case measure => simp [intOf]; omega
      | false =>
        rw [hok] at hcall
        have HOK := Lib.hid hok
        clear hok
        go_wp2_with (go_at_call 116; refine hcall.out.mono ?_; rintro e w1 ⟨rfl, hb1⟩)
        have hfin : IdxDpPost l s w (.returned (.int .i64 k)) w1 := ⟨k, rfl, by
          have : l.all (dipB s) = false := by
            rw [List.all_eq_false]
            exact ⟨a, by rw [← HAK.out]; exact List.getElem_mem hlt, by rw [HOK.out]; simp⟩
          rw [this]; simp, HB.out.trans (hb1.mono HB.out.size)⟩
        go_ret
        exact hfin
    · have hlt' : decide ((k : Int) < (l.length : Int)) = false := by simpa using hlt
      have hfin : IdxDpPost l s w (.returned (.int .i64 (-1))) wr := ⟨-1, rfl, by
        have : l.all (dipB s) = true := by
          rw [List.all_eq_true]
          intro a ha
          obtain ⟨j, hj, e⟩ := List.getElem_of_mem ha
          rw [← e]
          exact HALL.out j hj (by omega)
        rw [this]; simp, HB.out⟩
      have HF := Lib.hid hfin
      clear hfin
      go_wp2_with fail
      go_ret
      exact HF.out

theorem containsDp_any (s : St) (As : Option Addr) (cs : Nat) (A : Option Addr) (cap pb : Nat) (l : List Dp) (w : World) (hns : s.ns.length ≤ 1000000) (hn : l.length ≤ 1000000) (hA : DpsAt w A l) (hp : w.cell? ⟨pb, 0, none⟩ = some (.func (.func 100) #[.agg #[.int .i64 s.cap, .int .i64 s.can, .int .i64 s.sl, .int .i64 s.sh, .slice As s.ns.length cs]] #[])) :
    Calls Try.prog 115 #[.slice A l.length cap, .func (.func 116) #[] #[.pointer (some ⟨pb, 0, none⟩)]] w fun e w' => e = .returned (.bool (!l.all (dipB s))) ∧ Below w.heap.size w w' := by
  have HI := Lib.hid (indexDp_any s As cs A cap pb l w hns hn hA hp)
  clear hA hp
  go_enter Try.func115, Try.ntmps115
  go_wp2_with fail
  refine HI.out.mono ?_
  rintro e w1 ⟨r, rfl, hr, hb⟩
  have HR := Lib.hid hr
  clear hr
  go_wp2_with fail
  go_ret
  exact ⟨by rw [← HR.out]; rfl, hb⟩

theorem allDp_any (s : St) (As : Option Addr) (cs : Nat) (A : Option Addr) (cap : Nat) (l : List Dp) (w : World) (hns : s.ns.length ≤ 1000000) (hn : l.length ≤ 1000000) (hA : DpsAt w A l) :
    Calls Try.prog 101 #[.slice A l.length cap, .func (.func 100) #[.agg #[.int .i64 s.cap, .int .i64 s.can, .int .i64 s.sl, .int .i64 s.sh, .slice As s.ns.length cs]] #[]] w fun e w' => e = .returned (.bool (l.all (dipB s))) ∧ Below w.heap.size w w' := by
  have hB : Below w.heap.size w (w.alloc (.cells #[.func (.func 100) #[.agg #[.int .i64 s.cap, .int .i64 s.can, .int .i64 s.sl, .int .i64 s.sh, .slice As s.ns.length cs]] #[]] 148)) := (Below.refl _ _).alloc (Nat.le_refl _) _
  have HI := Lib.hid (containsDp_any s As cs A cap w.heap.size l _ hns hn (hA.keep hB (Nat.le_refl _)) (Boxed.new w 148 _).cell)
  have HB := Lib.hid hB
  clear hA hB
  go_enter Try.func101, Try.ntmps101
  go_wp2_with fail
  refine HI.out.mono ?_
  rintro e w1 ⟨rfl, hb⟩
  have hb2 := HB.out.trans (hb.mono HB.out.size)
  go_wp2_with fail
  go_ret
  exact ⟨by simp, hb2⟩
end Go.Proofs.Ytefhdcecbmgljaa

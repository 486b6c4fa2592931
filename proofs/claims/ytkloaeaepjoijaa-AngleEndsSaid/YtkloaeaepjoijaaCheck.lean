/-
  CheckNet: the error of a net; asked.
-/
import Derived.Test.YtkloaeaepjoijaaRooms
set_option linter.all false
namespace Go.Proofs.Ytkloaeaepjoijaa
open Go.RowKit Go.WalkArith

def inB (n lo hi : Int) : Bool := decide (lo ≤ n ∧ n ≤ hi)
theorem inB_true {n lo hi : Int} : inB n lo hi = true ↔ lo ≤ n ∧ n ≤ hi := by simp [inB]

theorem within_b (n lo hi : Int) (w : World) :
    Calls Try.prog 68 #[.int .i64 n, .int .i64 lo, .int .i64 hi] w fun e w' => e = .returned (.bool (inB n lo hi)) ∧ w = w' := within_any n lo hi w

/-- An angle is one of a net. -/
def angOk (T C : Int) (a : Ang) : Bool := inB a.t (-1) (T - 1) && inB a.c (-1) (C - 1) && inB a.r 0 40 && inB a.g 1 3

set_option maxRecDepth 100000 in
set_option maxHeartbeats 1000000 in
theorem angle_any (A : Option Addr) (n cap : Nat) (T C : Int) (a : Ang) (w : World) (ht0 : 0 ≤ T) (ht1 : T ≤ 5) (hc0 : 0 ≤ C) (hc1 : C ≤ 5) :
    Calls Try.prog 72 #[.agg #[.slice A n cap, .int .i64 T, .int .i64 C], .agg #[.int .i64 a.t, .int .i64 a.c, .int .i64 a.r, .int .i64 a.g]] w fun e w' => e = .returned (.bool (angOk T C a)) ∧ Below w.heap.size w w' := by
  have hbel : Below w.heap.size w ((w.alloc (.cells #[.slice A n cap, .int .i64 T, .int .i64 C] 33)).alloc (.cells #[.int .i64 a.t, .int .i64 a.c, .int .i64 a.r, .int .i64 a.g] 104)) := ((Below.refl _ _).alloc (Nat.le_refl _) _).alloc (by simp) _
  have HB := Lib.hid hbel
  clear hbel
  cases h1 : inB a.t (-1) (T - 1) with
  | false =>
    have hf : angOk T C a = false := by simp [angOk, h1]
    have HF := Lib.hid hf
    clear hf
    go_enter Try.func72, Try.ntmps72
    go_wp2_with (go_at_call 68; refine (within_b _ _ _ _).mono ?_; rintro e w' ⟨rfl, rfl⟩)
    go_ret
    exact ⟨by rw [HF.out]; rfl, HB.out⟩
  | true =>
    cases h2 : inB a.c (-1) (C - 1) with
    | false =>
      have hf : angOk T C a = false := by simp [angOk, h2]
      have HF := Lib.hid hf
      clear hf
      go_enter Try.func72, Try.ntmps72
      go_wp2_with (go_at_call 68; refine (within_b _ _ _ _).mono ?_; rintro e w' ⟨rfl, rfl⟩)
      go_ret
      exact ⟨by rw [HF.out]; rfl, HB.out⟩
    | true =>
      cases h3 : inB a.r 0 40 with
      | false =>
        have hf : angOk T C a = false := by simp [angOk, h3]
        have HF := Lib.hid hf
        clear hf
        go_enter Try.func72, Try.ntmps72
        go_wp2_with (go_at_call 68; refine (within_b _ _ _ _).mono ?_; rintro e w' ⟨rfl, rfl⟩)
        go_ret
        exact ⟨by rw [HF.out]; rfl, HB.out⟩
      | true =>
        have hf : angOk T C a = inB a.g 1 3 := by simp [angOk, h1, h2, h3]
        have HF := Lib.hid hf
        clear hf
        go_enter Try.func72, Try.ntmps72
        go_wp2_with (go_at_call 68; refine (within_b _ _ _ _).mono ?_; rintro e w' ⟨rfl, rfl⟩)
        go_ret
        exact ⟨by rw [HF.out]; rfl, HB.out⟩

/-- The function value that all hands on: 'not pass'. -/
theorem notAngle_any (A : Option Addr) (n cap pb : Nat) (T C : Int) (a : Ang) (w : World) (ht0 : 0 ≤ T) (ht1 : T ≤ 5) (hc0 : 0 ≤ C) (hc1 : C ≤ 5) (hp : w.cell? ⟨pb, 0, none⟩ = some (.func (.func 72) #[.agg #[.slice A n cap, .int .i64 T, .int .i64 C]] #[])) :
    Calls Try.prog 100 #[.agg #[.int .i64 a.t, .int .i64 a.c, .int .i64 a.r, .int .i64 a.g], .pointer (some ⟨pb, 0, none⟩)] w fun e w' => e = .returned (.bool (!angOk T C a)) ∧ Below w.heap.size w w' := by
  have hpl := World.block_lt_of_cell? w _ hp
  go_enter Try.func100, Try.ntmps100
  go_wp2_with (go_at_call 72; refine (angle_any A n cap T C a _ ht0 ht1 hc0 hc1).mono ?_; rintro e w' ⟨rfl, hb⟩)
  have hb2 : Below w.heap.size w w' := ((Below.refl _ _).alloc (Nat.le_refl _) _).trans (hb.mono (by simp))
  go_ret
  exact ⟨rfl, hb2⟩

theorem AngsAt.keep {W W' : World} {A : Option Addr} {l : List Ang} {B : Nat} (h : AngsAt W A l) (hb : Below B W W') (hB : W.heap.size ≤ B) : AngsAt W' A l := by
  rcases h with h | ⟨b, o, h1, h2⟩
  · exact .inl h
  · refine .inr ⟨b, o, h1, fun i hi => ?_⟩
    have hak := h2 i hi
    have hbl : b < B := Nat.lt_of_lt_of_le (World.block_lt_of_cell? W _ hak.1) hB
    have hc := fun j => hb.cell (p := ⟨b, j, none⟩) hbl
    exact ⟨(hc _).trans hak.1, (hc _).trans hak.2.1, (hc _).trans hak.2.2.1, (hc _).trans hak.2.2.2⟩

def IdxRel (l : List Ang) (T C : Int) (w : World) (i : Value) (wr : World) : Prop :=
  ∃ k : Nat, k ≤ l.length ∧ i = .int .i64 k ∧ (∀ j (h : j < l.length), j < k → angOk T C l[j] = true) ∧ Below w.heap.size w wr

def IdxPost (l : List Ang) (T C : Int) (w : World) (e : Ending) (w' : World) : Prop :=
  ∃ r : Int, e = .returned (.int .i64 r) ∧ decide (0 ≤ r) = (!l.all (angOk T C)) ∧ Below w.heap.size w w'

set_option maxRecDepth 100000 in
set_option maxHeartbeats 1000000 in
theorem indexFunc_any (A A' : Option Addr) (n n' cap cap' pb : Nat) (T C : Int) (l : List Ang) (w : World) (hn : n ≤ 1000000) (hl : l.length = n) (hA : AngsAt w A l) (ht0 : 0 ≤ T) (ht1 : T ≤ 5) (hc0 : 0 ≤ C) (hc1 : C ≤ 5) (hp : w.cell? ⟨pb, 0, none⟩ = some (.func (.func 72) #[.agg #[.slice A' n' cap', .int .i64 T, .int .i64 C]] #[])) :
    Calls Try.prog 122 #[.slice A n cap, .func (.func 100) #[] #[.pointer (some ⟨pb, 0, none⟩)]] w (IdxPost l T C w) := by
  have HA := Lib.hid hA
  have HP := Lib.hid hp
  have HL := Lib.hid hl
  have hpl := World.block_lt_of_cell? w _ hp
  clear hA hp hl
  go_enter Try.func122, Try.ntmps122
  go_wp2_with fail
  go_loopw [8] (IdxRel l T C w) (fun i _ => n - (intOf i).toNat)
  case atStart => exact ⟨0, by omega, rfl, fun j _ h => by omega, Below.refl _ _⟩
  case round =>
    obtain ⟨k, hk, rfl, hall, hB⟩ := hrel
    have HALL := Lib.hid hall
    have HB := Lib.hid hB
    clear hall hB
    by_cases hlt : k < n
    · have hlk : k < l.length := by rw [HL.out]; exact hlt
      have hlt' : decide ((k : Int) < (n : Int)) = true := by simpa using hlt
      obtain ⟨b, o, rfl, hAs⟩ := (HA.out.keep HB.out (Nat.le_refl _)).resolve_left (fun h => by rw [h] at hlk; simp at hlk)
      obtain ⟨a0, a1, a2, a3⟩ := hAs k hlk
      obtain ⟨a, ha⟩ : ∃ a, l[k] = a := ⟨_, rfl⟩
      rw [ha] at a0 a1 a2 a3
      have HAK := Lib.hid ha
      have hp2 : wr.cell? ⟨pb, 0, none⟩ = some (.func (.func 72) #[.agg #[.slice A' n' cap', .int .i64 T, .int .i64 C]] #[]) := (HB.out.cell (p := ⟨pb, 0, none⟩) hpl).trans HP.out
      have hcall := Lib.hid (notAngle_any A' n' cap' pb T C a wr ht0 ht1 hc0 hc1 hp2)
      clear hAs ha hp2
      cases hok : angOk T C a with
      | true =>
        rw [hok] at hcall
        have HOK := Lib.hid hok
        clear hok
        go_wp2_with (go_at_call 100; refine hcall.out.mono ?_; rintro e w1 ⟨rfl, hb1⟩)
        have hB1 := Lib.hid (HB.out.trans (hb1.mono HB.out.size))
        clear hb1
        go_roundw
        case rel => exact ⟨k + 1, by omega, by go_num, fun j h hj => by
          by_cases e : j = k
          · subst e; rw [HAK.out]; exact HOK.out
          · exact HALL.out j h (by omega), hB1.out⟩
        case measure => simp [intOf]; omega
      | false =>
        rw [hok] at hcall
        have HOK := Lib.hid hok
        clear hok
        go_wp2_with (go_at_call 100; refine hcall.out.mono ?_; rintro e w1 ⟨rfl, hb1⟩)
        have hfin : IdxPost l T C w (.returned (.int .i64 k)) w1 := ⟨k, rfl, by
          have : l.all (angOk T C) = false := by
            rw [List.all_eq_false]
            exact ⟨a, by rw [← HAK.out]; exact List.getElem_mem hlk, by rw [HOK.out]; simp⟩
          rw [this]; simp, HB.out.trans (hb1.mono HB.out.size)⟩
        go_ret
        exact hfin
    · have hlt' : decide ((k : Int) < (n : Int)) = false := by simpa using hlt
      have hfin : IdxPost l T C w (.returned (.int .i64 (-1))) wr := ⟨-1, rfl, by
        have : l.all (angOk T C) = true := by
          rw [List.all_eq_true]
          intro a ha
          obtain ⟨j, hj, e⟩ := List.getElem_of_mem ha
          rw [← e]
          exact HALL.out j hj (by rw [HL.out] at hj; omega)
        rw [this]; simp, HB.out⟩
      have HF := Lib.hid hfin
      clear hfin
      go_wp2_with fail
      go_ret
      exact HF.out

theorem containsFunc_any (A A' : Option Addr) (n n' cap cap' pb : Nat) (T C : Int) (l : List Ang) (w : World) (hn : n ≤ 1000000) (hl : l.length = n) (hA : AngsAt w A l) (ht0 : 0 ≤ T) (ht1 : T ≤ 5) (hc0 : 0 ≤ C) (hc1 : C ≤ 5) (hp : w.cell? ⟨pb, 0, none⟩ = some (.func (.func 72) #[.agg #[.slice A' n' cap', .int .i64 T, .int .i64 C]] #[])) :
    Calls Try.prog 99 #[.slice A n cap, .func (.func 100) #[] #[.pointer (some ⟨pb, 0, none⟩)]] w fun e w' => e = .returned (.bool (!l.all (angOk T C))) ∧ Below w.heap.size w w' := by
  have HI := Lib.hid (indexFunc_any A A' n n' cap cap' pb T C l w hn hl hA ht0 ht1 hc0 hc1 hp)
  clear hA hp hl
  go_enter Try.func99, Try.ntmps99
  go_wp2_with fail
  refine HI.out.mono ?_
  rintro e w1 ⟨r, rfl, hr, hb⟩
  have HR := Lib.hid hr
  clear hr
  go_wp2_with fail
  go_ret
  exact ⟨by rw [← HR.out]; rfl, hb⟩

theorem all_any (A A' : Option Addr) (n n' cap cap' : Nat) (T C : Int) (l : List Ang) (w : World) (hn : n ≤ 1000000) (hl : l.length = n) (hA : AngsAt w A l) (ht0 : 0 ≤ T) (ht1 : T ≤ 5) (hc0 : 0 ≤ C) (hc1 : C ≤ 5) :
    Calls Try.prog 73 #[.slice A n cap, .func (.func 72) #[.agg #[.slice A' n' cap', .int .i64 T, .int .i64 C]] #[]] w fun e w' => e = .returned (.bool (l.all (angOk T C))) ∧ Below w.heap.size w w' := by
  have hB : Below w.heap.size w (w.alloc (.cells #[.func (.func 72) #[.agg #[.slice A' n' cap', .int .i64 T, .int .i64 C]] #[]] 115)) := (Below.refl _ _).alloc (Nat.le_refl _) _
  have HI := Lib.hid (containsFunc_any A A' n n' cap cap' w.heap.size T C l _ hn hl (hA.keep hB (Nat.le_refl _)) ht0 ht1 hc0 hc1 (Boxed.new w 115 _).cell)
  have HB := Lib.hid hB
  clear hA hl hB
  go_enter Try.func73, Try.ntmps73
  go_wp2_with fail
  refine HI.out.mono ?_
  rintro e w1 ⟨rfl, hb⟩
  have hb2 := HB.out.trans (hb.mono HB.out.size)
  go_wp2_with fail
  go_ret
  exact ⟨by simp, hb2⟩

/-- The error of a net. -/
def faultL (l : List Ang) (T C : Int) : Int :=
  if 12 < l.length ∨ 5 < T ∨ 5 < C then 3 else if l.length = 0 ∨ T < 0 ∨ C < 0 ∨ l.all (angOk T C) = false then 1 else 0

theorem faultL_zero {l : List Ang} {T C : Int} : faultL l T C = 0 ↔ NetOk l T C := by
  have key : ∀ a : Ang, angOk T C a = true ↔ -1 ≤ a.t ∧ a.t < T ∧ -1 ≤ a.c ∧ a.c < C ∧ 0 ≤ a.r ∧ a.r ≤ 40 ∧ 1 ≤ a.g ∧ a.g ≤ 3 := by
    intro a
    simp only [angOk, Bool.and_eq_true, inB_true]
    omega
  unfold faultL
  constructor
  · intro h
    split at h
    · simp at h
    · split at h
      · simp at h
      · rename_i h1 h2
        refine ⟨by omega, by omega, by omega, by omega, by omega, by omega, fun a ha => ?_⟩
        have : l.all (angOk T C) = true := by
          cases e : l.all (angOk T C) with
          | true => rfl
          | false => exact absurd (.inr (.inr (.inr e))) h2
        exact (key a).1 (List.all_eq_true.1 this a ha)
  · intro h
    have h1 := h.pos
    have h2 := h.len
    have h3 := h.t0
    have h4 := h.t1
    have h5 := h.c0
    have h6 := h.c1
    have h7 : l.all (angOk T C) = true := List.all_eq_true.2 fun a ha => (key a).2 (h.ang a ha)
    rw [if_neg (by omega), if_neg]
    rw [h7]
    simp
    refine ⟨fun e => by rw [e] at h1; simp at h1, by omega, by omega⟩

set_option maxRecDepth 100000 in
set_option maxHeartbeats 1000000 in
theorem checkNet_any (A : Option Addr) (n cap : Nat) (T C : Int) (l : List Ang) (w : World) (hn : n ≤ 1000000) (hl : l.length = n) (hA : AngsAt w A l) :
    Calls Try.prog 26 #[.agg #[.slice A n cap, .int .i64 T, .int .i64 C]] w fun e w' => e = .returned (.int .i64 (faultL l T C)) ∧ Below w.heap.size w w' := by
  have hB : Below w.heap.size w (w.alloc (.cells #[.slice A n cap, .int .i64 T, .int .i64 C] 33)) := (Below.refl _ _).alloc (Nat.le_refl _) _
  have HB := Lib.hid hB
  clear hB
  by_cases h1 : 12 < n
  · have hf : faultL l T C = 3 := by unfold faultL; rw [if_pos (.inl (by omega))]
    have HF := Lib.hid hf
    clear hf hl hA
    go_enter Try.func26, Try.ntmps26
    go_wp2_with fail
    go_ret
    exact ⟨by rw [HF.out]; rfl, HB.out⟩
  by_cases h2 : 5 < T
  · have hf : faultL l T C = 3 := by unfold faultL; rw [if_pos (.inr (.inl h2))]
    have HF := Lib.hid hf
    clear hf hl hA
    go_enter Try.func26, Try.ntmps26
    go_wp2_with fail
    go_ret
    exact ⟨by rw [HF.out]; rfl, HB.out⟩
  by_cases h3 : 5 < C
  · have hf : faultL l T C = 3 := by unfold faultL; rw [if_pos (.inr (.inr h3))]
    have HF := Lib.hid hf
    clear hf hl hA
    go_enter Try.func26, Try.ntmps26
    go_wp2_with fail
    go_ret
    exact ⟨by rw [HF.out]; rfl, HB.out⟩
  have hnn : ¬ (12 < l.length ∨ 5 < T ∨ 5 < C) := by omega
  by_cases h4 : n = 0
  · have hf : faultL l T C = 1 := by unfold faultL; rw [if_neg hnn, if_pos (.inl (by omega))]
    have HF := Lib.hid hf
    clear hf hl hA hnn
    subst h4
    go_enter Try.func26, Try.ntmps26
    go_wp2_with fail
    go_ret
    exact ⟨by rw [HF.out]; rfl, HB.out⟩
  have h4' : ((n : Int) == 0) = false := by simpa using h4
  by_cases h5 : T < 0
  · have hf : faultL l T C = 1 := by unfold faultL; rw [if_neg hnn, if_pos (.inr (.inl h5))]
    have HF := Lib.hid hf
    clear hf hl hA hnn
    go_enter Try.func26, Try.ntmps26
    go_wp2_with fail
    go_ret
    exact ⟨by rw [HF.out]; rfl, HB.out⟩
  by_cases h6 : C < 0
  · have hf : faultL l T C = 1 := by unfold faultL; rw [if_neg hnn, if_pos (.inr (.inr (.inl h6)))]
    have HF := Lib.hid hf
    clear hf hl hA hnn
    go_enter Try.func26, Try.ntmps26
    go_wp2_with fail
    go_ret
    exact ⟨by rw [HF.out]; rfl, HB.out⟩
  have hall := Lib.hid (all_any A A n n cap cap T C l _ hn hl (hA.keep HB.out (Nat.le_refl _)) (by omega) (by omega) (by omega) (by omega))
  cases hb : l.all (angOk T C) with
  | false =>
    have hf : faultL l T C = 1 := by unfold faultL; rw [if_neg hnn, if_pos (.inr (.inr (.inr hb)))]
    have HF := Lib.hid hf
    rw [hb] at hall
    clear hf hl hA hnn hb
    go_enter Try.func26, Try.ntmps26
    go_wp2_with (go_at_call 73; refine hall.out.mono ?_; rintro e w' ⟨rfl, hb1⟩)
    go_ret
    exact ⟨by rw [HF.out]; rfl, HB.out.trans (hb1.mono HB.out.size)⟩
  | true =>
    have hf : faultL l T C = 0 := by unfold faultL; rw [if_neg hnn, if_neg (by rw [hb]; rintro (h | h | h | h) <;> first | omega | cases h)]
    have HF := Lib.hid hf
    rw [hb] at hall
    clear hf hl hA hnn hb
    go_enter Try.func26, Try.ntmps26
    go_wp2_with (go_at_call 73; refine hall.out.mono ?_; rintro e w' ⟨rfl, hb1⟩)
    go_ret
    exact ⟨by rw [HF.out]; rfl, HB.out.trans (hb1.mono HB.out.size)⟩

/-- The error of a net with an error. -/
def askedL (l : List Ang) (T C err : Int) : Int := if faultL l T C ≠ 0 then faultL l T C else if 0 ≤ err ∧ err ≤ 40 then 0 else 2

set_option maxHeartbeats 1000000 in
theorem asked_any (A : Option Addr) (n cap : Nat) (T C err : Int) (l : List Ang) (w : World) (hn : n ≤ 1000000) (hl : l.length = n) (hA : AngsAt w A l) :
    Calls Try.prog 66 #[.agg #[.slice A n cap, .int .i64 T, .int .i64 C], .int .i64 err] w fun e w' => e = .returned (.int .i64 (askedL l T C err)) ∧ Below w.heap.size w w' := by
  have hB : Below w.heap.size w (w.alloc (.cells #[.slice A n cap, .int .i64 T, .int .i64 C] 33)) := (Below.refl _ _).alloc (Nat.le_refl _) _
  have hck := Lib.hid (checkNet_any A n cap T C l _ hn hl (hA.keep hB (Nat.le_refl _)))
  have HB := Lib.hid hB
  clear hB hA hl
  by_cases hf : faultL l T C = 0
  · have hin := Lib.hid (fun w => within_b err 0 40 w)
    cases hb : inB err 0 40 with
    | true =>
      have hfin : askedL l T C err = 0 := by unfold askedL; rw [if_neg (by omega), if_pos (inB_true.1 hb)]
      have HF := Lib.hid hfin
      rw [hf] at hck
      rw [hb] at hin
      clear hfin hf hb
      go_enter Try.func66, Try.ntmps66
      go_wp2_with (first | (go_at_call 26; refine hck.out.mono ?_; rintro e w' ⟨rfl, hb1⟩) | (go_at_call 68; refine (hin.out _).mono ?_; rintro e w' ⟨rfl, rfl⟩))
      go_ret
      exact ⟨by rw [HF.out]; rfl, HB.out.trans (hb1.mono HB.out.size)⟩
    | false =>
      have hfin : askedL l T C err = 2 := by unfold askedL; rw [if_neg (by omega), if_neg (by rw [← inB_true, hb]; simp)]
      have HF := Lib.hid hfin
      rw [hf] at hck
      rw [hb] at hin
      clear hfin hf hb
      go_enter Try.func66, Try.ntmps66
      go_wp2_with (first | (go_at_call 26; refine hck.out.mono ?_; rintro e w' ⟨rfl, hb1⟩) | (go_at_call 68; refine (hin.out _).mono ?_; rintro e w' ⟨rfl, rfl⟩))
      go_ret
      exact ⟨by rw [HF.out]; rfl, HB.out.trans (hb1.mono HB.out.size)⟩
  · have hfin : askedL l T C err = faultL l T C := by unfold askedL; rw [if_pos hf]
    have HF := Lib.hid hfin
    have hne : (faultL l T C != 0) = true := by simpa using hf
    clear hfin hf
    go_enter Try.func66, Try.ntmps66
    go_wp2_with (go_at_call 26; refine hck.out.mono ?_; rintro e w' ⟨rfl, hb1⟩)
    go_ret
    exact ⟨by rw [HF.out]; rfl, HB.out.trans (hb1.mono HB.out.size)⟩
end Go.Proofs.Ytkloaeaepjoijaa

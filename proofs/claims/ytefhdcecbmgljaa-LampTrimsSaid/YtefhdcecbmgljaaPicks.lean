/-
  ready, has, subset, word, picked: the laws' small functions.
-/
import Derived.Test.YtefhdcecbmgljaaRefD
import Derived.Test.YtefhdcecbmgljaaBefore
set_option linter.all false
namespace Go.Proofs.Ytefhdcecbmgljaa
open Go.RowKit Go.WalkArith


def readyB (s : St) (c k : List Int) : Bool := decide (s.ns.length ≤ 9) && decide (c.length ≤ 9) && decide (k.length ≤ 9) && decide (planL s c k = 0)
theorem readyB_true {s : St} {c k : List Int} (h : readyB s c k = true) : planL s c k = 0 := by unfold readyB at h; simp at h; exact h.2

set_option maxHeartbeats 2000000 in
theorem ready_any (s : St) (A : Option Addr) (cp : Nat) (Ac Ak : Option Addr) (cc ck : Nat) (c k : List Int) (w : World) (hA : NtsAt w A s.ns) (hc : IntsAt w (.slice Ac c.length cc) c) (hk : IntsAt w (.slice Ak k.length ck) k) :
    Calls Try.prog 42 #[.agg #[.int .i64 s.cap, .int .i64 s.can, .int .i64 s.sl, .int .i64 s.sh, .slice A s.ns.length cp], .agg #[.slice Ac c.length cc, .slice Ak k.length ck]] w fun e w' => e = .returned (.bool (readyB s c k)) ∧ Below w.heap.size w w' := by
  have HA := Lib.hid hA
  have HC := Lib.hid hc
  have HK := Lib.hid hk
  clear hA hc hk
  have hB0 : Below w.heap.size w ((w.alloc (.cells #[.int .i64 s.cap, .int .i64 s.can, .int .i64 s.sl, .int .i64 s.sh, .slice A s.ns.length cp] 26)).alloc (.cells #[.slice Ac c.length cc, .slice Ak k.length ck] 29)) := ((Below.refl _ _).alloc (Nat.le_refl _) _).alloc (by simp) _
  have hn0 : ((w.alloc (.cells #[.int .i64 s.cap, .int .i64 s.can, .int .i64 s.sl, .int .i64 s.sh, .slice A s.ns.length cp] 26)).alloc (.cells #[.slice Ac c.length cc, .slice Ak k.length ck] 29)).heap[w.heap.size]? = some (.cells #[.int .i64 s.cap, .int .i64 s.can, .int .i64 s.sl, .int .i64 s.sh, .slice A s.ns.length cp] 26 (0, 0)) := (Below.heap_alloc _ _ _ (by simp <;> omega)).trans (heap_new_at _ _ _ rfl)
  have hn1 : ((w.alloc (.cells #[.int .i64 s.cap, .int .i64 s.can, .int .i64 s.sl, .int .i64 s.sh, .slice A s.ns.length cp] 26)).alloc (.cells #[.slice Ac c.length cc, .slice Ak k.length ck] 29)).heap[w.heap.size + 1]? = some (.cells #[.slice Ac c.length cc, .slice Ak k.length ck] 29 (0, 0)) := heap_new_at _ _ _ (by simp)
  have HB1 := Lib.hid hB0
  have NBs1 := Lib.hid hn0
  have NBp1 := Lib.hid hn1
  clear hB0 hn0 hn1
  go_enter Try.func42, Try.ntmps42
  go_wp2_with fail
  generalize ((w.alloc (.cells #[.int .i64 s.cap, .int .i64 s.can, .int .i64 s.sl, .int .i64 s.sh, .slice A s.ns.length cp] 26)).alloc (.cells #[.slice Ac c.length cc, .slice Ak k.length ck] 29)) = w1 at HB1 NBs1 NBp1 ⊢
  obtain ⟨Bp, hBp⟩ : ∃ Bp, w.heap.size + 1 = Bp := ⟨_, rfl⟩
  obtain ⟨Bs, hBs⟩ : ∃ Bs, w.heap.size = Bs := ⟨_, rfl⟩
  have oBp : w.heap.size ≤ Bp := by omega
  have oBsBp : Bs < Bp := by omega
  have oBs : w.heap.size ≤ Bs := by omega
  rw [hBp] at NBp1 ⊢
  rw [hBs] at NBs1 ⊢
  clear hBs hBp
  obtain ⟨cBs0_1, cBs1_1, cBs2_1, cBs3_1, cBs4_1⟩ := cells5 NBs1.out
  obtain ⟨cBp0_1, cBp1_1⟩ := cells2 NBp1.out
  have hth := Lib.hid (thin_any A Ac Ak s.ns.length cp c.length cc k.length ck s.cap s.can s.sl s.sh w1)
  by_cases hT : s.ns.length ≤ 9 ∧ c.length ≤ 9 ∧ k.length ≤ 9
  rotate_left
  · have hr : (decide (s.ns.length ≤ 9) && decide (c.length ≤ 9) && decide (k.length ≤ 9)) = false := by simp; omega
    have HR := Lib.hid (show readyB s c k = false by unfold readyB; rw [hr]; rfl)
    rw [hr] at hth
    clear hT hr
    go_wp2_with fail
    refine (hth.out).mono ?_
    rintro e w2 ⟨rfl, hb⟩
    have HB2 := Lib.hid ((HB1.out).trans (hb.mono (HB1.out).size))
    have NBs2 := Lib.hid ((hb.block Bs (Array.getElem?_eq_some_iff.1 NBs1.out).1).trans NBs1.out)
    have NBp2 := Lib.hid ((hb.block Bp (Array.getElem?_eq_some_iff.1 NBp1.out).1).trans NBp1.out)
    clear HB1 NBs1 NBp1 cBs0_1 cBs1_1 cBs2_1 cBs3_1 cBs4_1 cBp0_1 cBp1_1  hb hth
    obtain ⟨cBs0_2, cBs1_2, cBs2_2, cBs3_2, cBs4_2⟩ := cells5 NBs2.out
    obtain ⟨cBp0_2, cBp1_2⟩ := cells2 NBp2.out
    go_wp2_with fail
    go_ret
    exact ⟨by rw [HR.out]; rfl, HB2.out⟩
  · have hr : (decide (s.ns.length ≤ 9) && decide (c.length ≤ 9) && decide (k.length ≤ 9)) = true := by simp; omega
    have HR := Lib.hid (show readyB s c k = decide (planL s c k = 0) by unfold readyB; rw [hr]; rfl)
    rw [hr] at hth
    obtain ⟨hn9, hc9, hk9⟩ := hT
    clear hr
    go_wp2_with fail
    refine (hth.out).mono ?_
    rintro e w2 ⟨rfl, hb⟩
    have HB2 := Lib.hid ((HB1.out).trans (hb.mono (HB1.out).size))
    have NBs2 := Lib.hid ((hb.block Bs (Array.getElem?_eq_some_iff.1 NBs1.out).1).trans NBs1.out)
    have NBp2 := Lib.hid ((hb.block Bp (Array.getElem?_eq_some_iff.1 NBp1.out).1).trans NBp1.out)
    clear HB1 NBs1 NBp1 cBs0_1 cBs1_1 cBs2_1 cBs3_1 cBs4_1 cBp0_1 cBp1_1  hb hth
    obtain ⟨cBs0_2, cBs1_2, cBs2_2, cBs3_2, cBs4_2⟩ := cells5 NBs2.out
    obtain ⟨cBp0_2, cBp1_2⟩ := cells2 NBp2.out
    have hpl := Lib.hid (planned_any s A cp Ac Ak cc ck c k w2 (by omega) (by omega) (by omega) (HA.out.keep HB2.out (Nat.le_refl _)) (HC.out.keep HB2.out (Nat.le_refl _)) (HK.out.keep HB2.out (Nat.le_refl _)))
    by_cases h0 : planL s c k = 0
    · rw [h0] at hpl
      have HR2 := Lib.hid (HR.out.trans (show decide (planL s c k = 0) = true by simp [h0]))
      clear h0
      go_wp2_with fail
      refine (hpl.out).mono ?_
      rintro e w3 ⟨rfl, hb⟩
      have HB3 := Lib.hid ((HB2.out).trans (hb.mono (HB2.out).size))
      have NBs3 := Lib.hid ((hb.block Bs (Array.getElem?_eq_some_iff.1 NBs2.out).1).trans NBs2.out)
      have NBp3 := Lib.hid ((hb.block Bp (Array.getElem?_eq_some_iff.1 NBp2.out).1).trans NBp2.out)
      clear HB2 NBs2 NBp2 cBs0_2 cBs1_2 cBs2_2 cBs3_2 cBs4_2 cBp0_2 cBp1_2  hb hpl
      obtain ⟨cBs0_3, cBs1_3, cBs2_3, cBs3_3, cBs4_3⟩ := cells5 NBs3.out
      obtain ⟨cBp0_3, cBp1_3⟩ := cells2 NBp3.out
      go_wp2_with fail
      go_ret
      exact ⟨by rw [HR2.out]; rfl, HB3.out⟩
    · have HR2 := Lib.hid (HR.out.trans (show decide (planL s c k = 0) = false by simp [h0]))
      obtain ⟨Q, hQ⟩ : ∃ Q, planL s c k = Q := ⟨_, rfl⟩
      rw [hQ] at hpl h0
      have hq : (Q == 0) = false := by simpa using h0
      clear h0 hQ
      go_wp2_with fail
      refine (hpl.out).mono ?_
      rintro e w3 ⟨rfl, hb⟩
      have HB3 := Lib.hid ((HB2.out).trans (hb.mono (HB2.out).size))
      have NBs3 := Lib.hid ((hb.block Bs (Array.getElem?_eq_some_iff.1 NBs2.out).1).trans NBs2.out)
      have NBp3 := Lib.hid ((hb.block Bp (Array.getElem?_eq_some_iff.1 NBp2.out).1).trans NBp2.out)
      clear HB2 NBs2 NBp2 cBs0_2 cBs1_2 cBs2_2 cBs3_2 cBs4_2 cBp0_2 cBp1_2  hb hpl
      obtain ⟨cBs0_3, cBs1_3, cBs2_3, cBs3_3, cBs4_3⟩ := cells5 NBs3.out
      obtain ⟨cBp0_3, cBp1_3⟩ := cells2 NBp3.out
      go_wp2_with fail
      go_ret
      exact ⟨by rw [HR2.out]; rfl, HB3.out⟩

theorem own_cell1 {w : World} {base e g n cap : Nat} {xs : List Value} (h : w.ownsRow base e 1 (.slice (some ⟨g, 0, none⟩) n cap) n xs) : (∀ k v, xs[k]? = some v → w.cell? ⟨g, k, none⟩ = some v) ∧ ∀ k, w.frozen? ⟨g, k, none⟩ = false := by
  obtain ⟨_, ⟨h0, _⟩ | ⟨g', cap', cur, h1, h2, h3, h4, h5, h6, h7⟩⟩ := h
  · cases h0
  · cases h1
    refine ⟨fun k v hk => ?_, fun k => by simp [World.frozen?, h3]⟩
    rw [← h7] at hk
    have hlt : k < n * 1 := by
      have := (List.getElem?_eq_some_iff.1 hk).1
      rw [List.length_take] at this
      omega
    rw [List.getElem?_take_of_lt hlt] at hk
    have : cur[k]? = some v := by simpa using hk
    simp [World.cell?, h3, this]
theorem own_setS {w : World} {base e size g n cap : Nat} {xs : List Value} (h : w.ownsRow base e size (.slice (some ⟨g, 0, none⟩) n cap) n xs) (k : Nat) (v : Value) : (w.setCell ⟨g, k, none⟩ v).ownsRow base e size (.slice (some ⟨g, 0, none⟩) n cap) n (xs.set k v) := by
  obtain ⟨hl, ⟨h0, _⟩ | ⟨g', cap', cur, h1, h2, h3, h4, h5, h6, h7⟩⟩ := h
  · cases h0
  · cases h1
    refine ⟨by simpa using hl, .inr ⟨g, cap, cur.setIfInBounds k v, rfl, h2, by simp [World.setCell, Array.getElem?_modify, h3], h4, h5, by simpa using h6, ?_⟩⟩
    rw [Array.toList_setIfInBounds, ← h7, List.take_set]
/-- A number in a list. -/
def hasB (l : List Int) (n : Int) : Bool := l.contains n
theorem hasB_no {l : List Int} {n : Int} (h : ∀ j, j < l.length → atL l j ≠ n) : hasB l n = false := by
  cases e : hasB l n with
  | false => rfl
  | true =>
    obtain ⟨j, hj, h2⟩ := List.mem_iff_getElem.1 (show n ∈ l by simpa [hasB] using e)
    exact absurd (by rw [atL_at hj]; exact h2) (h j hj)
theorem hasB_yes {l : List Int} {n : Int} {j : Nat} (hj : j < l.length) (h : atL l j = n) : hasB l n = true := by
  have : n ∈ l := List.mem_iff_getElem.2 ⟨j, hj, by rw [← atL_at hj]; exact h⟩
  simpa [hasB] using this
def HRel (l : List Int) (n : Int) (w : World) (i : Value) (wr : World) : Prop := ∃ k : Nat, k ≤ l.length ∧ i = .int .i64 k ∧ (∀ j, j < k → atL l j ≠ n) ∧ wr = w
theorem rhas_any (v : Value) (l : List Int) (n : Int) (w : World) (hv : IntsAt w v l) (hl : l.length ≤ 1000000) :
    Calls Try.prog 47 #[v, .int .i64 n] w fun e w' => e = .returned (.bool (hasB l n)) ∧ w = w' := by
  obtain ⟨A, cap, rfl⟩ := hv.slice
  have HV := Lib.hid hv
  clear hv
  go_enter Try.func47, Try.ntmps47
  go_wp2_with fail
  go_loopw [5] (HRel l n w) (fun i _ => l.length - (intOf i).toNat)
  case atStart => exact ⟨0, by omega, rfl, fun j h => by omega, rfl⟩
  case round =>
    obtain ⟨k, hk, rfl, hall, rfl⟩ := hrel
    have HALL := Lib.hid hall
    clear hall
    by_cases hlt : k < l.length
    · have hlt' : decide ((k : Int) < (l.length : Int)) = true := by simpa using hlt
      obtain ⟨b, o, rfl, d0⟩ := HV.out.at hlt
      have HY := Lib.hid (fun h => hasB_yes (l := l) (n := n) hlt h)
      have HN := Lib.hid (show atL l k ≠ n → ∀ j, j < k + 1 → atL l j ≠ n from fun h j hj => by
        by_cases e : j = k
        · rw [e]; exact h
        · exact HALL.out j (by omega))
      obtain ⟨X, hX⟩ : ∃ X, atL l k = X := ⟨_, rfl⟩
      rw [hX] at d0 HY HN
      have i1 : (0 : Int) ≤ (k : Int) := by omega
      have i2 : (k : Int) < (l.length : Int) := by omega
      clear hX
      by_cases he : X = n
      · have he' : (X == n) = true := by simpa using he
        have HF := Lib.hid (HY.out he)
        clear he
        go_wp2_with fail
        go_ret
        exact ⟨by rw [HF.out]; rfl, rfl⟩
      · have he' : (X == n) = false := by simpa using he
        have HF := Lib.hid (HN.out he)
        clear he
        go_wp2_with fail
        go_roundw
        case rel => exact ⟨k + 1, by omega, by go_num, HF.out, rfl⟩
        case measure => simp [intOf]; omega
    · have hlt' : decide ((k : Int) < (l.length : Int)) = false := by simpa using hlt
      have HF := Lib.hid (hasB_no (l := l) (n := n) fun j hj => HALL.out j (by omega))
      go_wp2_with fail
      go_ret
      exact ⟨by rw [HF.out]; rfl, rfl⟩
def subB (a b : List Int) : Bool := a.all fun x => hasB b x
def SbRel (a b : List Int) (w : World) (i : Value) (wr : World) : Prop := ∃ k : Nat, k ≤ a.length ∧ i = .int .i64 k ∧ (∀ j, j < k → hasB b (atL a j) = true) ∧ wr = w
theorem subset_any (v u : Value) (a b : List Int) (w : World) (hv : IntsAt w v a) (hu : IntsAt w u b) (ha : a.length ≤ 1000000) (hb : b.length ≤ 1000000) :
    Calls Try.prog 50 #[v, u] w fun e w' => e = .returned (.bool (subB a b)) ∧ w = w' := by
  obtain ⟨A, cap, rfl⟩ := hv.slice
  have HV := Lib.hid hv
  have hha := Lib.hid (fun n => rhas_any u b n w hu hb)
  clear hv
  go_enter Try.func50, Try.ntmps50
  go_wp2_with fail
  go_loopw [5] (SbRel a b w) (fun i _ => a.length - (intOf i).toNat)
  case atStart => exact ⟨0, by omega, rfl, fun j h => by omega, rfl⟩
  case round =>
    obtain ⟨k, hk, rfl, hall, rfl⟩ := hrel
    have HALL := Lib.hid hall
    clear hall
    by_cases hlt : k < a.length
    · have hlt' : decide ((k : Int) < (a.length : Int)) = true := by simpa using hlt
      obtain ⟨g, o, rfl, d0⟩ := HV.out.at hlt
      have HN := Lib.hid (show hasB b (atL a k) = true → ∀ j, j < k + 1 → hasB b (atL a j) = true from fun h j hj => by
        by_cases e : j = k
        · rw [e]; exact h
        · exact HALL.out j (by omega))
      have HY := Lib.hid (show hasB b (atL a k) = false → subB a b = false from fun h => by
        cases e : subB a b with
        | false => rfl
        | true =>
          have := List.all_eq_true.1 e (atL a k) (by rw [atL_at hlt]; exact List.getElem_mem hlt)
          rw [h] at this; cases this)
      obtain ⟨X, hX⟩ : ∃ X, atL a k = X := ⟨_, rfl⟩
      rw [hX] at d0 HY HN
      have hx := Lib.hid (hha.out X)
      have i1 : (0 : Int) ≤ (k : Int) := by omega
      have i2 : (k : Int) < (a.length : Int) := by omega
      clear hX
      cases he : hasB b X with
      | true =>
        rw [he] at hx
        have HF := Lib.hid (HN.out he)
        clear he
        go_wp2_with fail
        refine hx.out.mono ?_
        rintro e w2 ⟨rfl, rfl⟩
        go_wp2_with fail
        go_roundw
        case rel => exact ⟨k + 1, by omega, by go_num, HF.out, rfl⟩
        case measure => simp [intOf]; omega
      | false =>
        rw [he] at hx
        have HF := Lib.hid (HY.out he)
        clear he
        go_wp2_with fail
        refine hx.out.mono ?_
        rintro e w2 ⟨rfl, rfl⟩
        go_wp2_with fail
        go_ret
        exact ⟨by rw [HF.out]; rfl, rfl⟩
    · have hlt' : decide ((k : Int) < (a.length : Int)) = false := by simpa using hlt
      have HF := Lib.hid (show subB a b = true from List.all_eq_true.2 fun x hx => by
        obtain ⟨j, hj, h2⟩ := List.mem_iff_getElem.1 hx
        have := HALL.out j (by omega)
        rw [atL_at hj, h2] at this; exact this)
      go_wp2_with fail
      go_ret
      exact ⟨by rw [HF.out]; rfl, rfl⟩

/-- Words behind a slice. -/
def WordsAt (W : World) (v : Value) (ws : List Int) : Prop :=
  ∃ A cap, v = .slice A ws.length cap ∧ (∀ x ∈ ws, 0 ≤ x ∧ x ≤ 65535) ∧ (ws = [] ∨ ∃ b o, A = some ⟨b, o, none⟩ ∧ ∀ i (h : i < ws.length), W.cell? ⟨b, o + i, none⟩ = some (.int .u16 ws[i]))
theorem WordsAt.keep {W W' : World} {v : Value} {ws : List Int} {B : Nat} (h : WordsAt W v ws) (hb : Below B W W') (hB : W.heap.size ≤ B) : WordsAt W' v ws := by
  obtain ⟨A, cap, h1, h0, h2⟩ := h
  refine ⟨A, cap, h1, h0, ?_⟩
  rcases h2 with h2 | ⟨b, o, h3, h4⟩
  · exact .inl h2
  · exact .inr ⟨b, o, h3, fun i hi => (hb.cell (p := ⟨b, o + i, none⟩) (Nat.lt_of_lt_of_le (World.block_lt_of_cell? W _ (h4 i hi)) hB)).trans (h4 i hi)⟩
def WordPost (w : World) (e : Ending) (w' : World) : Prop := ∃ v : Int, e = .returned (.int .i64 v) ∧ 0 ≤ v ∧ v ≤ 65535 ∧ w = w'
set_option maxHeartbeats 1000000 in
theorem word_any (v : Value) (ws : List Int) (k : Nat) (w : World) (hw : WordsAt w v ws) (hn : ws.length ≤ 9223372036854775807) (hk : k ≤ 1000) :
    Calls Try.prog 90 #[v, .int .i64 k] w (WordPost w) := by
  obtain ⟨A, cap, rfl, h0, hc⟩ := hw
  by_cases hz : ws.length = 0
  · have hb : ((ws.length : Int) == 0) = true := by simp [hz]
    clear hz h0 hc
    go_enter Try.func90, Try.ntmps90
    go_wp2_with fail
    go_ret
    exact ⟨0, rfl, by omega, by omega, rfl⟩
  · have hb : ((ws.length : Int) == 0) = false := by simpa using hz
    obtain ⟨b, o, rfl, hd⟩ := hc.resolve_left (fun h => by rw [h] at hz; simp at hz)
    have hlt : k % ws.length < ws.length := Nat.mod_lt _ (by omega)
    have ck := hd _ hlt
    have hr := h0 ws[k % ws.length] (List.getElem_mem hlt)
    obtain ⟨x, hx⟩ : ∃ x, ws[k % ws.length] = x := ⟨_, rfl⟩
    rw [hx] at ck hr
    obtain ⟨i, hi⟩ : ∃ i, k % ws.length = i := ⟨_, rfl⟩
    rw [hi] at ck hlt
    have e1 : (k : Int) % (ws.length : Int) = (i : Int) := by rw [← hi]; rfl
    have e2 : (k : Int).tmod (ws.length : Int) = (i : Int) := by rw [Int.tmod_eq_emod_of_nonneg (by omega)]; exact e1
    have i1 : (0 : Int) ≤ (i : Int) := by omega
    have i2 : (i : Int) < (ws.length : Int) := by omega
    have p1 : 1 ≤ (ws.length : Int) := by omega
    have r0 := hr.1
    have r1 := hr.2
    clear hx hi hc hd h0 hz hr
    go_enter Try.func90, Try.ntmps90
    go_wp2_with fail
    go_ret
    exact ⟨x, rfl, r0, r1, rfl⟩
def PickPost (lo hi : Int) (w : World) (e : Ending) (w' : World) : Prop := ∃ v : Int, e = .returned (.int .i64 v) ∧ lo ≤ v ∧ v ≤ hi ∧ Below w.heap.size w w'
set_option maxHeartbeats 1000000 in
theorem picked_any (lo hi q : Int) (w : World) (h0 : 0 ≤ lo) (h1 : lo ≤ hi) (h2 : hi ≤ 1000) (hq : 0 ≤ q ∧ q ≤ 65535) :
    Calls Try.prog 89 #[.agg #[.int .i64 lo, .int .i64 hi], .int .i64 q] w (PickPost lo hi w) := by
  have HB := Lib.hid (show Below w.heap.size w (w.alloc (.cells #[.int .i64 lo, .int .i64 hi] 23)) from (Below.refl _ _).alloc (Nat.le_refl _) _)
  have e4 : q.tmod 4 = q % 4 := Int.tmod_eq_emod_of_nonneg hq.1
  obtain ⟨R, hR⟩ : ∃ R, q % 4 = R := ⟨_, rfl⟩
  rw [hR] at e4
  by_cases r0 : R = 0
  · subst r0
    clear hR
    go_enter Try.func89, Try.ntmps89
    go_wp2_with fail
    go_ret
    exact ⟨lo, rfl, by omega, by omega, HB.out⟩
  · have r0' : (R == 0) = false := by simpa using r0
    by_cases r1 : R = 1
    · subst r1
      clear hR r0
      go_enter Try.func89, Try.ntmps89
      go_wp2_with fail
      go_ret
      exact ⟨hi, rfl, by omega, by omega, HB.out⟩
    · have r1' : (R == 1) = false := by simpa using r1
      have ed : q.tdiv 4 = q / 4 := Int.tdiv_eq_ediv_of_nonneg hq.1
      obtain ⟨D, hD⟩ : ∃ D, q / 4 = D := ⟨_, rfl⟩
      have hD0 : 0 ≤ D := by omega
      have em : D.tmod (hi - lo + 1) = D % (hi - lo + 1) := Int.tmod_eq_emod_of_nonneg hD0
      have m0 := Int.emod_nonneg D (show hi - lo + 1 ≠ 0 by omega)
      have m1 := Int.emod_lt_of_pos D (show 0 < hi - lo + 1 by omega)
      obtain ⟨M, hM⟩ : ∃ M, D % (hi - lo + 1) = M := ⟨_, rfl⟩
      rw [hM] at em m0 m1
      rw [hD] at ed
      have wr0 : IntKind.i64.wrap D = D := IntWalk.i64_in _ (by omega)
      have wr1 : IntKind.i64.wrap (hi - lo) = hi - lo := IntWalk.i64_in _ (by omega)
      have wr2 : IntKind.i64.wrap (hi - lo + 1) = hi - lo + 1 := IntWalk.i64_in _ (by omega)
      have wr3 : IntKind.i64.wrap (lo + M) = lo + M := IntWalk.i64_in _ (by omega)
      clear hR hM hD r0 r1
      go_enter Try.func89, Try.ntmps89
      go_wp2_with fail
      go_quiet (fail)
      go_wp2_with fail
      go_ret
      exact ⟨lo + M, rfl, by omega, by omega, HB.out.drewN _⟩
end Go.Proofs.Ytefhdcecbmgljaa

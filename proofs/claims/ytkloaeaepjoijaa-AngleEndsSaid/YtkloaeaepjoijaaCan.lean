/-
  can; lists of integers; slices.Index, slices.Contains; everything.
-/
import Derived.Test.YtkloaeaepjoijaaCanB
set_option linter.all false
namespace Go.Proofs.Ytkloaeaepjoijaa
open Go.RowKit Go.WalkArith

set_option maxRecDepth 100000 in
set_option maxHeartbeats 1000000 in
theorem can_any (b o n cap : Nat) (T C : Int) (l : List Ang) (rs : Array Value) (lo hi : Int → Int) (w : World) (hl : l.length = n) (hok : NetOk l T C) (hA : AngsAt w (some ⟨b, o, none⟩) l) (hrs : RoomsV rs lo hi) (hro : RoomsOk n lo hi) :
    Calls Try.prog 76 #[.agg #[.slice (some ⟨b, o, none⟩) n cap, .int .i64 T, .int .i64 C], .agg rs] w fun e w' => e = .returned (.bool (canB l T C lo hi)) ∧ Below w.heap.size w w' := by
  have hpos : 0 < l.length := hok.pos
  have hB0 : Below w.heap.size w ((w.alloc (.cells #[.slice (some ⟨b, o, none⟩) n cap, .int .i64 T, .int .i64 C] 33)).alloc (.cells rs 109)) := ((Below.refl _ _).alloc (Nat.le_refl _) _).alloc (by simp) _
  have hA2 : AngsAt ((w.alloc (.cells #[.slice (some ⟨b, o, none⟩) n cap, .int .i64 T, .int .i64 C] 33)).alloc (.cells rs 109)) (some ⟨b, o, none⟩) l := by
    obtain ⟨b', o', hAe, hAs⟩ := hA.resolve_left (fun h => by rw [h] at hpos; simp at hpos)
    obtain ⟨rfl, rfl⟩ : b = b' ∧ o = o' := by simpa using hAe
    have hbl := World.block_lt_of_cell? w _ (hAs 0 hpos).1
    refine .inr ⟨b, o, rfl, fun i hi' => ?_⟩
    have hc := fun i => hB0.cell (p := ⟨b, i, none⟩) hbl
    have hak := hAs i hi'
    exact ⟨(hc _).trans hak.1, (hc _).trans hak.2.1, (hc _).trans hak.2.2.1, (hc _).trans hak.2.2.2⟩
  have HR := Lib.hid hrs.size
  have HT := Lib.hid (truth_any b o n cap T C l rs lo hi _ hl hok hA2 hrs hro)
  have HO := Lib.hid hok
  have HL := Lib.hid hl
  have HB := Lib.hid hB0
  clear hB0 hA2 hrs hro hA hok hl hpos
  go_enter Try.func76, Try.ntmps76
  go_wp2_with (refine wpList_load_row rfl 109 _ rfl _ rfl 109 rs _ _ (heap_alloc2 _ _ _) Try.underlying109 rfl HR.out ?_)
  refine HT.out.mono ?_
  rintro e w1 ⟨hb1, ⟨rfl, m, hm, hd⟩ | ⟨v, x, rfl, hown, ht⟩⟩
  · have hc : canB l T C lo hi = false := canB_of_denied HO.out hm (by rw [HL.out]; exact hd)
    have HC := Lib.hid hc
    have hb2 := HB.out.trans (hb1.mono HB.out.size)
    clear hc hd
    go_wp2_with fail
    go_ret
    exact ⟨by rw [HC.out]; rfl, hb2⟩
  · have hc : canB l T C lo hi = true := canB_of_truth HO.out (by rw [HL.out]; exact ht)
    have HC := Lib.hid hc
    have hb2 := HB.out.trans (hb1.mono HB.out.size)
    clear hc ht hown
    go_wp2_with fail
    go_ret
    exact ⟨by rw [HC.out]; rfl, hb2⟩

/-- A slice of integers reads as a list. -/
def IntsAt (W : World) (v : Value) (xs : List Int) : Prop :=
  ∃ A cap, v = .slice A xs.length cap ∧ (xs = [] ∨ ∃ b o, A = some ⟨b, o, none⟩ ∧ ∀ i (h : i < xs.length), W.cell? ⟨b, o + i, none⟩ = some (.int .i64 xs[i]))

theorem IntsAt.nil (W : World) : IntsAt W (.slice none 0 0) [] := ⟨none, 0, rfl, .inl rfl⟩

theorem IntsAt.keep {W W' : World} {v : Value} {xs : List Int} {B : Nat} (h : IntsAt W v xs) (hb : Below B W W') (hB : W.heap.size ≤ B) : IntsAt W' v xs := by
  obtain ⟨A, cap, h1, h2⟩ := h
  refine ⟨A, cap, h1, ?_⟩
  rcases h2 with h2 | ⟨b, o, h3, h4⟩
  · exact .inl h2
  · exact .inr ⟨b, o, h3, fun i hi => (hb.cell (p := ⟨b, o + i, none⟩) (Nat.lt_of_lt_of_le (World.block_lt_of_cell? W _ (h4 i hi)) hB)).trans (h4 i hi)⟩

theorem IntsAt.of_own {W : World} {base : Nat} {v : Value} {n : Nat} {xs : List Int} (h : W.ownsRow base 3 1 v n (xs.map (Value.int .i64))) : IntsAt W v xs := by
  have hl : xs.length = n := by have := h.1; simpa using this
  subst hl
  rcases h.2 with ⟨rfl, h0⟩ | ⟨g, cap, cur, rfl, h1, h2, h3, h4, h5, h6⟩
  · have : xs = [] := List.length_eq_zero_iff.1 h0
    subst this
    exact IntsAt.nil W
  · refine ⟨_, cap, rfl, .inr ⟨g, 0, rfl, fun i hi => ?_⟩⟩
    have hc : cur[i]? = some (.int .i64 xs[i]) := by
      have h7 : (cur.toList.take (xs.length * 1))[i]? = (xs.map (Value.int .i64))[i]? := by rw [h6]
      rw [List.getElem?_take_of_lt (by omega)] at h7
      rw [List.getElem?_map, List.getElem?_eq_getElem hi] at h7
      simpa using h7
    simp [World.cell?, h2, hc]

/-- Where a number stands first; -1 if nowhere. -/
def idxI : List Int → Int → Int
  | [], _ => -1
  | y :: r, x => if y = x then 0 else if idxI r x = -1 then -1 else idxI r x + 1

theorem idxI_ge (xs : List Int) (x : Int) : -1 ≤ idxI xs x := by
  induction xs with
  | nil => simp [idxI]
  | cons y r ih => unfold idxI; split <;> (try split) <;> omega

theorem idxI_none {xs : List Int} {x : Int} (h : ∀ j (h : j < xs.length), xs[j] ≠ x) : idxI xs x = -1 := by
  induction xs with
  | nil => rfl
  | cons y r ih =>
    unfold idxI
    rw [if_neg (by have := h 0 (by simp); simpa using this), if_pos]
    exact ih fun j hj => by have := h (j + 1) (by simpa using hj); simpa using this

theorem idxI_at {xs : List Int} {x : Int} {k : Nat} (hk : k < xs.length) (he : xs[k] = x) (h : ∀ j (h : j < xs.length), j < k → xs[j] ≠ x) : idxI xs x = k := by
  induction xs generalizing k with
  | nil => simp at hk
  | cons y r ih =>
    unfold idxI
    cases k with
    | zero => rw [if_pos (by simpa using he)]; rfl
    | succ k =>
      rw [if_neg (by have := h 0 (by simp) (by omega); simpa using this)]
      have := ih (k := k) (by simpa using hk) (by simpa using he) (fun j hj hjk => by have := h (j + 1) (by simpa using hj) (by omega); simpa using this)
      rw [if_neg (by omega), this]
      omega

theorem idxI_mem (xs : List Int) (x : Int) : decide (0 ≤ idxI xs x) = xs.contains x := by
  induction xs with
  | nil => simp [idxI]
  | cons y r ih =>
    have hg := idxI_ge r x
    rw [List.contains_cons]
    unfold idxI
    by_cases e : y = x
    · subst e; simp
    · rw [if_neg e, show (x == y) = false by simpa using fun h => e h.symm, Bool.false_or, ← ih]
      split
      · rename_i h; rw [h]
      · rw [Bool.eq_iff_iff]; simp; omega

set_option maxHeartbeats 400000 in
theorem index_any (v : Value) (xs : List Int) (x : Int) (w : World) (hv : IntsAt w v xs) (hn : xs.length ≤ 1000000) :
    Calls Try.prog 98 #[v, .int .i64 x] w fun e w' => e = .returned (.int .i64 (idxI xs x)) ∧ w = w' := by
  obtain ⟨A, cap, rfl, hx⟩ := hv
  have HX := Lib.hid hx
  clear hx
  go_enter Try.func98, Try.ntmps98
  go_wp2
  go_loop [8] (fun i => ∃ k : Nat, k ≤ xs.length ∧ i = .int .i64 k ∧ ∀ j (h : j < xs.length), j < k → xs[j] ≠ x) (fun i => xs.length - (intOf i).toNat)
  case atStart => exact ⟨0, by omega, rfl, fun j _ h => by omega⟩
  case round =>
    obtain ⟨k, hk, rfl, hno⟩ := hrel
    have HN := Lib.hid hno
    clear hno
    by_cases hlt : k < xs.length
    · obtain ⟨b, o, rfl, hc⟩ := HX.out.resolve_left (fun h => by rw [h] at hlt; simp at hlt)
      have ck := hc k hlt
      clear hc
      have hlt' : decide ((k : Int) < (xs.length : Int)) = true := by simpa using hlt
      obtain ⟨y, hy⟩ : ∃ y, xs[k] = y := ⟨_, rfl⟩
      rw [hy] at ck
      have HY := Lib.hid hy
      clear hy
      by_cases he : x = y
      · subst he
        have hb : (x == x) = true := by simp
        have hfin : idxI xs x = k := idxI_at hlt HY.out HN.out
        have HF := Lib.hid hfin
        clear hfin
        go_wp2
        go_ret
        exact ⟨by rw [HF.out]; rfl, rfl⟩
      · have hb : (x == y) = false := by simpa using he
        go_wp2
        go_round
        case rel => exact ⟨k + 1, by omega, by go_num, fun j h hj => by
          by_cases e : j = k
          · subst e; rw [HY.out]; exact fun h => he h.symm
          · exact HN.out j h (by omega)⟩
        case measure => simp [intOf]; omega
    · have hlt' : decide ((k : Int) < (xs.length : Int)) = false := by simpa using hlt
      have hfin : idxI xs x = -1 := idxI_none fun j hj => HN.out j hj (by omega)
      have HF := Lib.hid hfin
      clear hfin
      go_wp2
      go_ret
      exact ⟨by rw [HF.out]; rfl, rfl⟩

theorem contains_any (v : Value) (xs : List Int) (x : Int) (w : World) (hv : IntsAt w v xs) (hn : xs.length ≤ 1000000) :
    Calls Try.prog 71 #[v, .int .i64 x] w fun e w' => e = .returned (.bool (xs.contains x)) ∧ w = w' := by
  rw [← idxI_mem]
  have HI := Lib.hid (index_any v xs x w hv hn)
  clear hv
  go_enter Try.func71, Try.ntmps71
  go_wp2_with (go_at_call 98; refine HI.out.mono ?_; rintro e w' ⟨rfl, rfl⟩)
  go_ret
  exact ⟨rfl, rfl⟩

theorem everything_any (w : World) : Calls Try.prog 81 #[] w fun e w' => e = .returned (.agg #[.int .i64 0, .int .i64 40]) ∧ Below w.heap.size w w' := by
  go_enter Try.func81, Try.ntmps81
  go_wp2
  exact bodyPost_ret (v := .agg #[.int .i64 0, .int .i64 40]) (by simp [results, Try.results81, go_sem]) rfl ⟨rfl, (Below.refl _ _).alloc (Nat.le_refl _) _⟩
end Go.Proofs.Ytkloaeaepjoijaa

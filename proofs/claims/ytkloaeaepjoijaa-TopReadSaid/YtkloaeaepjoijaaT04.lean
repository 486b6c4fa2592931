/-
  can; lists of integers; slices.Index, slices.Contains; everything.
  rooms: those of all angles with an error.
  CheckNet: the error of a net; asked.
  The flashes' reference: what a valid code is (In, Thin, Fault).
  Package flash: which bytes strings have (has, all over bytes).
  A region whose loads are taken first, though its last operations store into what was loaded: the condition on the world is asked no more behind operations that wait for all the loads.
-/
import Derived.Test.YtkloaeaepjoijaaT01
import Derived.Test.YtkloaeaepjoijaaT02
import Derived.Test.YtkloaeaepjoijaaT03
import Derived.Deep.Cut
import Derived.Deep.CutRange
import Derived.Deep.RegionHeld3
import Derived.Laws.Externs
import Derived.Laws.IdiomStrings
import Derived.Laws.Tables
set_option linter.all false
namespace Go.Proofs.Ytkloaeaepjoijaa
section
open Go.RowKit Go.WalkArith
set_option maxRecDepth 100000 in
set_option maxHeartbeats 1000000 in
theorem can_any (b o n cap : Nat) (T C : Int) (l : List Ang) (rs : Array Value) (lo hi : Int → Int) (w : World) (hl : l.length = n) (hok : NetOk l T C) (hA : AngsAt w (some ⟨b, o, none⟩) l) (hrs : RoomsV rs lo hi) (hro : RoomsOk n lo hi) :
    Calls Try.prog 76 #[.agg #[.slice (some ⟨b, o, none⟩) n cap, .int .i64 T, .int .i64 C], .agg rs] w fun e w' => e = .returned (.bool (canB l T C lo hi)) ∧ Below w.heap.size w w' := by
  have hpos : 0 < l.length := hok.pos
  have hB0 : Below w.heap.size w ((w.alloc (.cells #[.slice (some ⟨b, o, none⟩) n cap, .int .i64 T, .int .i64 C] 33)).alloc (.cells rs 109)) := ((Below.refl _ _).alloc (Nat.le_refl _) _).alloc (by simp) _
  have hA2 : AngsAt ((w.alloc (.cells #[.slice (some ⟨b, o, none⟩) n cap, .int .i64 T, .int .i64 C] 33)).alloc (.cells rs 109)) (some ⟨b, o, none⟩) l := by
    obtain ⟨b', o', hAe, hAs⟩ := hA.resolve_left (fun h => by rw [h] at hpos; simp at hpos)
    obtain ⟨rfl, rfl⟩ : b = b' ∧ o = o' := by simpa using hAe
    have hbl := World.block_lt_of_cell? w _ (hAs 0 hpos).1
    refine .inr ⟨b, o, rfl, fun i hi' => ?_⟩
    have hc := fun i => hB0.cell (p := ⟨b, i, none⟩) hbl
    have hak := hAs i hi'
    exact ⟨(hc _).trans hak.1, (hc _).trans hak.2.1, (hc _).trans hak.2.2.1, (hc _).trans hak.2.2.2⟩
  have HR := Lib.hid hrs.size
  have HT := Lib.hid (truth_any b o n cap T C l rs lo hi _ hl hok hA2 hrs hro)
  have HO := Lib.hid hok
  have HL := Lib.hid hl
  have HB := Lib.hid hB0
  clear hB0 hA2 hrs hro hA hok hl hpos
  go_enter Try.func76, Try.ntmps76
  go_wp2_with (refine wpList_load_row rfl 109 _ rfl _ rfl 109 rs _ _ (heap_alloc2 _ _ _) Try.underlying109 rfl HR.out ?_)
  refine HT.out.mono ?_
  rintro e w1 ⟨hb1, ⟨rfl, m, hm, hd⟩ | ⟨v, x, rfl, hown, ht⟩⟩
  · have hc : canB l T C lo hi = false := canB_of_denied HO.out hm (by rw [HL.out]; exact hd)
    have HC := Lib.hid hc
    have hb2 := HB.out.trans (hb1.mono HB.out.size)
    clear hc hd
    go_wp2_with fail
    go_ret
    exact ⟨by rw [HC.out]; rfl, hb2⟩
  · have hc : canB l T C lo hi = true := canB_of_truth HO.out (by rw [HL.out]; exact ht)
    have HC := Lib.hid hc
    have hb2 := HB.out.trans (hb1.mono HB.out.size)
    clear hc ht hown
    go_wp2_with fail
    go_ret
    exact ⟨by rw [HC.out]; rfl, hb2⟩
/-- A slice of integers reads as a list. -/
def IntsAt (W : World) (v : Value) (xs : List Int) : Prop :=
  ∃ A cap, v = .slice A xs.length cap ∧ (xs = [] ∨ ∃ b o, A = some ⟨b, o, none⟩ ∧ ∀ i (h : i < xs.length), W.cell? ⟨b, o + i, none⟩ = some (.int .i64 xs[i]))
theorem IntsAt.nil (W : World) : IntsAt W (.slice none 0 0) [] := ⟨none, 0, rfl, .inl rfl⟩
theorem IntsAt.keep {W W' : World} {v : Value} {xs : List Int} {B : Nat} (h : IntsAt W v xs) (hb : Below B W W') (hB : W.heap.size ≤ B) : IntsAt W' v xs := by
  obtain ⟨A, cap, h1, h2⟩ := h
  refine ⟨A, cap, h1, ?_⟩
  rcases h2 with h2 | ⟨b, o, h3, h4⟩
  · exact .inl h2
  · exact .inr ⟨b, o, h3, fun i hi => (hb.cell (p := ⟨b, o + i, none⟩) (Nat.lt_of_lt_of_le (World.block_lt_of_cell? W _ (h4 i hi)) hB)).trans (h4 i hi)⟩
theorem IntsAt.of_own {W : World} {base : Nat} {v : Value} {n : Nat} {xs : List Int} (h : W.ownsRow base 3 1 v n (xs.map (Value.int .i64))) : IntsAt W v xs := by
  have hl : xs.length = n := by have := h.1; simpa using this
  subst hl
  rcases h.2 with ⟨rfl, h0⟩ | ⟨g, cap, cur, rfl, h1, h2, h3, h4, h5, h6⟩
  · have : xs = [] := List.length_eq_zero_iff.1 h0
    subst this
    exact IntsAt.nil W
  · refine ⟨_, cap, rfl, .inr ⟨g, 0, rfl, fun i hi => ?_⟩⟩
    have hc : cur[i]? = some (.int .i64 xs[i]) := by
      have h7 : (cur.toList.take (xs.length * 1))[i]? = (xs.map (Value.int .i64))[i]? := by rw [h6]
      rw [List.getElem?_take_of_lt (by omega)] at h7
      rw [List.getElem?_map, List.getElem?_eq_getElem hi] at h7
      simpa using h7
    simp [World.cell?, h2, hc]
/-- Where a number stands first; -1 if nowhere. -/
def idxI : List Int → Int → Int
  | [], _ => -1
  | y :: r, x => if y = x then 0 else if idxI r x = -1 then -1 else idxI r x + 1
theorem idxI_ge (xs : List Int) (x : Int) : -1 ≤ idxI xs x := by
  induction xs with
  | nil => simp [idxI]
  | cons y r ih => unfold idxI; split <;> (try split) <;> omega
theorem idxI_none {xs : List Int} {x : Int} (h : ∀ j (h : j < xs.length), xs[j] ≠ x) : idxI xs x = -1 := by
  induction xs with
  | nil => rfl
  | cons y r ih =>
    unfold idxI
    rw [if_neg (by have := h 0 (by simp); simpa using this), if_pos]
    exact ih fun j hj => by have := h (j + 1) (by simpa using hj); simpa using this
theorem idxI_at {xs : List Int} {x : Int} {k : Nat} (hk : k < xs.length) (he : xs[k] = x) (h : ∀ j (h : j < xs.length), j < k → xs[j] ≠ x) : idxI xs x = k := by
  induction xs generalizing k with
  | nil => simp at hk
  | cons y r ih =>
    unfold idxI
    cases k with
    | zero => rw [if_pos (by simpa using he)]; rfl
    | succ k =>
      rw [if_neg (by have := h 0 (by simp) (by omega); simpa using this)]
      have := ih (k := k) (by simpa using hk) (by simpa using he) (fun j hj hjk => by have := h (j + 1) (by simpa using hj) (by omega); simpa using this)
      rw [if_neg (by omega), this]
      omega
theorem idxI_mem (xs : List Int) (x : Int) : decide (0 ≤ idxI xs x) = xs.contains x := by
  induction xs with
  | nil => simp [idxI]
  | cons y r ih =>
    have hg := idxI_ge r x
    rw [List.contains_cons]
    unfold idxI
    by_cases e : y = x
    · subst e; simp
    · rw [if_neg e, show (x == y) = false by simpa using fun h => e h.symm, Bool.false_or, ← ih]
      split
      · rename_i h; rw [h]
      · rw [Bool.eq_iff_iff]; simp; omega
set_option maxHeartbeats 400000 in
theorem index_any (v : Value) (xs : List Int) (x : Int) (w : World) (hv : IntsAt w v xs) (hn : xs.length ≤ 1000000) :
    Calls Try.prog 98 #[v, .int .i64 x] w fun e w' => e = .returned (.int .i64 (idxI xs x)) ∧ w = w' := by
  obtain ⟨A, cap, rfl, hx⟩ := hv
  have HX := Lib.hid hx
  clear hx
  go_enter Try.func98, Try.ntmps98
  go_wp2
  go_loop [8] (fun i => ∃ k : Nat, k ≤ xs.length ∧ i = .int .i64 k ∧ ∀ j (h : j < xs.length), j < k → xs[j] ≠ x) (fun i => xs.length - (intOf i).toNat)
  case atStart => exact ⟨0, by omega, rfl, fun j _ h => by omega⟩
  case round =>
    obtain ⟨k, hk, rfl, hno⟩ := hrel
    have HN := Lib.hid hno
    clear hno
    by_cases hlt : k < xs.length
    · obtain ⟨b, o, rfl, hc⟩ := HX.out.resolve_left (fun h => by rw [h] at hlt; simp at hlt)
      have ck := hc k hlt
      clear hc
      have hlt' : decide ((k : Int) < (xs.length : Int)) = true := by simpa using hlt
      obtain ⟨y, hy⟩ : ∃ y, xs[k] = y := ⟨_, rfl⟩
      rw [hy] at ck
      have HY := Lib.hid hy
      clear hy
      by_cases he : x = y
      · subst he
        have hb : (x == x) = true := by simp
        have hfin : idxI xs x = k := idxI_at hlt HY.out HN.out
        have HF := Lib.hid hfin
        clear hfin
        go_wp2
        go_ret
        exact ⟨by rw [HF.out]; rfl, rfl⟩
      · have hb : (x == y) = false := by simpa using he
        go_wp2
        go_round
        case rel => exact ⟨k + 1, by omega, by go_num, fun j h hj => by
          by_cases e : j = k
          · subst e; rw [HY.out]; exact fun h => he h.symm
          · exact HN.out j h (by omega)⟩
        case measure => simp [intOf]; omega
    · have hlt' : decide ((k : Int) < (xs.length : Int)) = false := by simpa using hlt
      have hfin : idxI xs x = -1 := idxI_none fun j hj => HN.out j hj (by omega)
      have HF := Lib.hid hfin
      clear hfin
      go_wp2
      go_ret
      exact ⟨by rw [HF.out]; rfl, rfl⟩
theorem contains_any (v : Value) (xs : List Int) (x : Int) (w : World) (hv : IntsAt w v xs) (hn : xs.length ≤ 1000000) :
    Calls Try.prog 71 #[v, .int .i64 x] w fun e w' => e = .returned (.bool (xs.contains x)) ∧ w = w' := by
  rw [← idxI_mem]
  have HI := Lib.hid (index_any v xs x w hv hn)
  clear hv
  go_enter Try.func71, Try.ntmps71
  go_wp2_with (go_at_call 98; refine HI.out.mono ?_; rintro e w' ⟨rfl, rfl⟩)
  go_ret
  exact ⟨rfl, rfl⟩
theorem everything_any (w : World) : Calls Try.prog 81 #[] w fun e w' => e = .returned (.agg #[.int .i64 0, .int .i64 40]) ∧ Below w.heap.size w w' := by
  go_enter Try.func81, Try.ntmps81
  go_wp2
  exact bodyPost_ret (v := .agg #[.int .i64 0, .int .i64 40]) (by simp [results, Try.results81, go_sem]) rfl ⟨rfl, (Below.refl _ _).alloc (Nat.le_refl _) _⟩
end
end Go.Proofs.Ytkloaeaepjoijaa
namespace Go.Proofs.Ytkloaeaepjoijaa
section
open Go.RowKit Go.WalkArith
/-- The ends of the room of an angle; some readings can be left out. -/
def roomLo (l : List Ang) (err : Int) (out : List Int) (i : Int) : Int := match l[i.toNat]? with | none => 0 | some a => if out.contains i then 0 else max 0 (a.r - err * a.g)
def roomHi (l : List Ang) (err : Int) (out : List Int) (i : Int) : Int := match l[i.toNat]? with | none => 0 | some a => if out.contains i then 40 else min 40 (a.r + err * a.g)
theorem roomLo_at {l : List Ang} {i : Nat} (h : i < l.length) (err : Int) (out : List Int) : roomLo l err out i = if out.contains (i : Int) then 0 else max 0 (l[i].r - err * l[i].g) := by simp [roomLo, h]
theorem roomHi_at {l : List Ang} {i : Nat} (h : i < l.length) (err : Int) (out : List Int) : roomHi l err out i = if out.contains (i : Int) then 40 else min 40 (l[i].r + err * l[i].g) := by simp [roomHi, h]
theorem rooms_ok {l : List Ang} {T C : Int} (hok : NetOk l T C) {err : Int} (h0 : 0 ≤ err) (out : List Int) : RoomsOk l.length (roomLo l err out) (roomHi l err out) := by
  have key : ∀ i : Nat, (hi : i < l.length) → 0 ≤ l[i].r ∧ l[i].r ≤ 40 ∧ 0 ≤ err * l[i].g := fun i hi => by
    have := hok.ang l[i] (List.getElem_mem hi)
    exact ⟨by omega, by omega, Int.mul_nonneg h0 (by omega)⟩
  refine ⟨fun i hi => ?_, fun i hi => ?_, fun i hi => ?_⟩
  · rw [roomLo_at hi]; split <;> omega
  · rw [roomLo_at hi, roomHi_at hi]; have := key i hi; split <;> omega
  · rw [roomHi_at hi]; split <;> omega
/-- Block B is an array of rooms. -/
def RoomsAt (W : World) (B : Nat) (lo hi : Int → Int) : Prop := ∃ rs, W.heap[B]? = some (.cells rs 109 (0, 0)) ∧ RoomsV rs lo hi
theorem RoomsAt.of_block {W W' : World} {B : Nat} {lo hi : Int → Int} (h : RoomsAt W B lo hi) (hb : W'.heap[B]? = W.heap[B]?) : RoomsAt W' B lo hi := by
  obtain ⟨rs, h1, h2⟩ := h
  exact ⟨rs, hb.trans h1, h2⟩
theorem RoomsV.congr {rs : Array Value} {lo hi lo' hi' : Int → Int} (h : RoomsV rs lo hi) (h1 : ∀ i : Nat, i < 12 → lo' i = lo i) (h2 : ∀ i : Nat, i < 12 → hi' i = hi i) : RoomsV rs lo' hi' :=
  ⟨h.size, fun i hi => by rw [h1 i hi]; exact h.lo i hi, fun i hi => by rw [h2 i hi]; exact h.hi i hi⟩
theorem RoomsAt.congr {W : World} {B : Nat} {lo hi lo' hi' : Int → Int} (h : RoomsAt W B lo hi) (h1 : ∀ i : Nat, i < 12 → lo' i = lo i) (h2 : ∀ i : Nat, i < 12 → hi' i = hi i) : RoomsAt W B lo' hi' := by
  obtain ⟨rs, hb, h⟩ := h
  exact ⟨rs, hb, h.congr h1 h2⟩
theorem RoomsAt.cells {W : World} {B : Nat} {lo hi : Int → Int} (h : RoomsAt W B lo hi) {i : Nat} (hi' : i < 12) : W.cell? ⟨B, i * 2, none⟩ = some (.int .i64 (lo i)) ∧ W.cell? ⟨B, i * 2 + 1, none⟩ = some (.int .i64 (hi i)) := by
  obtain ⟨rs, hb, hr⟩ := h
  exact ⟨by simp [World.cell?, hb, hr.lo i hi'], by simp [World.cell?, hb, hr.hi i hi']⟩
theorem RoomsAt.frozen {W : World} {B : Nat} {lo hi : Int → Int} (h : RoomsAt W B lo hi) (i : Nat) : W.frozen? ⟨B, i, none⟩ = false := by
  obtain ⟨rs, hb, hr⟩ := h
  simp [World.frozen?, hb]
theorem RoomsAt.lt {W : World} {B : Nat} {lo hi : Int → Int} (h : RoomsAt W B lo hi) : B < W.heap.size := by
  obtain ⟨rs, hb, hr⟩ := h
  exact (Array.getElem?_eq_some_iff.1 hb).1
theorem RoomsV.set {rs : Array Value} {lo hi : Int → Int} (h : RoomsV rs lo hi) {i : Nat} (hi' : i < 12) (x y : Int) : RoomsV ((rs.setIfInBounds (i * 2) (.int .i64 x)).setIfInBounds (i * 2 + 1) (.int .i64 y)) (updG lo i x) (updG hi i y) := by
  have hs : rs.size = 24 := by
    have h1 := h.size
    have h2 : (Try.prog.info? 109).map (·.size) = some 24 := by kernel_rfl
    rw [h2] at h1
    simpa using h1.symm
  refine ⟨by rw [Array.size_setIfInBounds, Array.size_setIfInBounds]; exact h.size, fun j hj => ?_, fun j hj => ?_⟩
  · rw [Array.getElem?_setIfInBounds, if_neg (by omega), Array.getElem?_setIfInBounds]
    unfold updG
    by_cases e : i = j
    · subst e; rw [if_pos rfl, if_pos (by omega), if_pos rfl]
    · rw [if_neg (by omega), if_neg (by omega)]; exact h.lo j hj
  · rw [Array.getElem?_setIfInBounds]
    unfold updG
    by_cases e : i = j
    · subst e; rw [if_pos rfl, if_pos (by simp; omega), if_pos rfl]
    · rw [if_neg (by omega), Array.getElem?_setIfInBounds, if_neg (by omega), if_neg (by omega)]; exact h.hi j hj
theorem RoomsAt.set {W : World} {B : Nat} {lo hi : Int → Int} (h : RoomsAt W B lo hi) {i : Nat} (hi' : i < 12) (x y : Int) : RoomsAt ((W.setCell ⟨B, i * 2, none⟩ (.int .i64 x)).setCell ⟨B, i * 2 + 1, none⟩ (.int .i64 y)) B (updG lo i x) (updG hi i y) := by
  obtain ⟨rs, hb, hr⟩ := h
  exact ⟨_, by simp [World.setCell, Array.getElem?_modify, hb], hr.set hi' x y⟩
def zeros24 : Array Value := #[.int .i64 0, .int .i64 0, .int .i64 0, .int .i64 0, .int .i64 0, .int .i64 0, .int .i64 0, .int .i64 0, .int .i64 0, .int .i64 0, .int .i64 0, .int .i64 0, .int .i64 0, .int .i64 0, .int .i64 0, .int .i64 0, .int .i64 0, .int .i64 0, .int .i64 0, .int .i64 0, .int .i64 0, .int .i64 0, .int .i64 0, .int .i64 0]
theorem zeros24_at (i : Nat) (h : i < 24) : zeros24[i]? = some (.int .i64 0) := by
  have h1 : zeros24 = Array.replicate 24 (.int .i64 0) := by rfl
  rw [h1]; simp [h]
theorem zeros24_rooms : RoomsV zeros24 (fun _ => 0) (fun _ => 0) := ⟨by kernel_rfl, fun i hi => zeros24_at _ (by omega), fun i hi => zeros24_at _ (by omega)⟩
/-- Rooms of the first k angles. -/
def partLo (l : List Ang) (err : Int) (out : List Int) (k : Nat) (i : Int) : Int := if i < (k : Int) then roomLo l err out i else 0
def partHi (l : List Ang) (err : Int) (out : List Int) (k : Nat) (i : Int) : Int := if i < (k : Int) then roomHi l err out i else 0
theorem partLo_out {l : List Ang} {err : Int} {out : List Int} {k : Nat} {a : Ang} {M : Int} (hc : out.contains (k : Int) = false) (hk : k < l.length) (ha : l[k] = a) (hM : max 0 (a.r - err * a.g) = M) (i : Nat) : partLo l err out (k + 1) i = updG (partLo l err out k) k M i := by
  unfold updG
  by_cases e : (i : Int) = k
  · have : i = k := by omega
    subst this
    rw [if_pos rfl]; unfold partLo; rw [if_pos (by omega), roomLo_at hk, hc, ha, ← hM]; rfl
  · rw [if_neg e]; unfold partLo; by_cases h : (i : Int) < k
    · rw [if_pos h, if_pos (by omega)]
    · rw [if_neg h, if_neg (by omega)]
theorem partHi_out {l : List Ang} {err : Int} {out : List Int} {k : Nat} {a : Ang} {M : Int} (hc : out.contains (k : Int) = false) (hk : k < l.length) (ha : l[k] = a) (hM : min 40 (a.r + err * a.g) = M) (i : Nat) : partHi l err out (k + 1) i = updG (partHi l err out k) k M i := by
  unfold updG
  by_cases e : (i : Int) = k
  · have : i = k := by omega
    subst this
    rw [if_pos rfl]; unfold partHi; rw [if_pos (by omega), roomHi_at hk, hc, ha, ← hM]; rfl
  · rw [if_neg e]; unfold partHi; by_cases h : (i : Int) < k
    · rw [if_pos h, if_pos (by omega)]
    · rw [if_neg h, if_neg (by omega)]
theorem partLo_in {l : List Ang} {err : Int} {out : List Int} {k : Nat} {x : Int} (hc : out.contains (k : Int) = true) (hk : k < l.length) (i : Nat) : partLo l err out (k + 1) i = updG (updG (partLo l err out k) k x) k 0 i := by
  unfold updG
  by_cases e : (i : Int) = k
  · have : i = k := by omega
    subst this
    rw [if_pos rfl]; unfold partLo; rw [if_pos (by omega), roomLo_at hk, hc]; rfl
  · rw [if_neg e, if_neg e]; unfold partLo; by_cases h : (i : Int) < k
    · rw [if_pos h, if_pos (by omega)]
    · rw [if_neg h, if_neg (by omega)]
theorem partHi_in {l : List Ang} {err : Int} {out : List Int} {k : Nat} {x : Int} (hc : out.contains (k : Int) = true) (hk : k < l.length) (i : Nat) : partHi l err out (k + 1) i = updG (updG (partHi l err out k) k x) k 40 i := by
  unfold updG
  by_cases e : (i : Int) = k
  · have : i = k := by omega
    subst this
    rw [if_pos rfl]; unfold partHi; rw [if_pos (by omega), roomHi_at hk, hc]; rfl
  · rw [if_neg e, if_neg e]; unfold partHi; by_cases h : (i : Int) < k
    · rw [if_pos h, if_pos (by omega)]
    · rw [if_neg h, if_neg (by omega)]
theorem part_allLo {l : List Ang} {err : Int} {out : List Int} {n : Nat} (h : l.length = n) (i : Nat) : roomLo l err out i = partLo l err out n i := by
  unfold partLo
  split
  · rfl
  · rename_i h1; simp [roomLo, List.getElem?_eq_none (show l.length ≤ i by omega)]
theorem part_allHi {l : List Ang} {err : Int} {out : List Int} {n : Nat} (h : l.length = n) (i : Nat) : roomHi l err out i = partHi l err out n i := by
  unfold partHi
  split
  · rfl
  · rename_i h1; simp [roomHi, List.getElem?_eq_none (show l.length ≤ i by omega)]
theorem RoomsV.size24 {rs : Array Value} {lo hi : Int → Int} (h : RoomsV rs lo hi) : rs.size = 24 := by
  have h1 := h.size
  have h2 : (Try.prog.info? 109).map (·.size) = some 24 := by kernel_rfl
  rw [h2] at h1
  simpa using h1.symm
theorem roomsV_one {rs : Array Value} {lo hi : Int → Int} (h : RoomsV rs lo hi) : rs.all (·.oneCell') = true := by
  rw [Array.all_eq_true]
  intro i hi'
  have hs := h.size24
  rcases Nat.mod_two_eq_zero_or_one i with e | e
  · have := h.lo (i / 2) (by omega)
    rw [show i / 2 * 2 = i by omega, Array.getElem?_eq_getElem hi'] at this
    rw [Option.some.inj this]; rfl
  · have := h.hi (i / 2) (by omega)
    rw [show i / 2 * 2 + 1 = i by omega, Array.getElem?_eq_getElem hi'] at this
    rw [Option.some.inj this]; rfl
def RoomsRel (l : List Ang) (err : Int) (out : List Int) (n : Nat) (w : World) (Bn Br : Nat) (net : Obj) (i : Value) (wr : World) : Prop :=
  ∃ k : Nat, k ≤ n ∧ i = .int .i64 k ∧ RoomsAt wr Br (partLo l err out k) (partHi l err out k) ∧ wr.heap[Bn]? = some net ∧ Below w.heap.size w wr
set_option maxRecDepth 100000 in
set_option maxHeartbeats 4000000 in
theorem rooms_any (b o n cap : Nat) (T C : Int) (l : List Ang) (err : Int) (ov : Value) (out : List Int) (w : World) (hl : l.length = n) (hok : NetOk l T C) (hA : AngsAt w (some ⟨b, o, none⟩) l) (he0 : 0 ≤ err) (he1 : err ≤ 40) (hov : IntsAt w ov out) (hon : out.length ≤ 100) :
    Calls Try.prog 67 #[.agg #[.slice (some ⟨b, o, none⟩) n cap, .int .i64 T, .int .i64 C], .int .i64 err, ov] w fun e w' => ∃ rs, e = .returned (.agg rs) ∧ RoomsV rs (roomLo l err out) (roomHi l err out) ∧ Below w.heap.size w w' := by
  have HO := Lib.hid hok
  have HL := Lib.hid hl
  have HA := Lib.hid hA
  have HV := Lib.hid hov
  clear hok hl hA hov
  have hst : RoomsAt ((w.alloc (.cells #[.slice (some ⟨b, o, none⟩) n cap, .int .i64 T, .int .i64 C] 33)).alloc (.cells zeros24 109)) (w.heap.size + 1) (fun _ => 0) (fun _ => 0) := ⟨zeros24, heap_alloc2 _ _ _, zeros24_rooms⟩
  have hnt : ((w.alloc (.cells #[.slice (some ⟨b, o, none⟩) n cap, .int .i64 T, .int .i64 C] 33)).alloc (.cells zeros24 109)).heap[w.heap.size]? = some (.cells #[.slice (some ⟨b, o, none⟩) n cap, .int .i64 T, .int .i64 C] 33 (0, 0)) := (Below.heap_alloc _ _ _ (by simp)).trans (heap_new_at _ _ _ rfl)
  have hB0 : Below w.heap.size w ((w.alloc (.cells #[.slice (some ⟨b, o, none⟩) n cap, .int .i64 T, .int .i64 C] 33)).alloc (.cells zeros24 109)) := ((Below.refl _ _).alloc (Nat.le_refl _) _).alloc (by simp) _
  have HST := Lib.hid hst
  have HNT := Lib.hid hnt
  have HB0 := Lib.hid hB0
  clear hst hnt hB0
  unfold zeros24 at HST HNT HB0
  go_enter Try.func67, Try.ntmps67
  go_wp2_with fail
  generalize (w.alloc (.cells #[.slice (some ⟨b, o, none⟩) n cap, .int .i64 T, .int .i64 C] 33)).alloc (.cells #[.int .i64 0, .int .i64 0, .int .i64 0, .int .i64 0, .int .i64 0, .int .i64 0, .int .i64 0, .int .i64 0, .int .i64 0, .int .i64 0, .int .i64 0, .int .i64 0, .int .i64 0, .int .i64 0, .int .i64 0, .int .i64 0, .int .i64 0, .int .i64 0, .int .i64 0, .int .i64 0, .int .i64 0, .int .i64 0, .int .i64 0, .int .i64 0] 109) = W1 at HST HNT HB0 ⊢
  obtain ⟨Br, hBr⟩ : ∃ Br, w.heap.size + 1 = Br := ⟨_, rfl⟩
  obtain ⟨Bn, hBn⟩ : ∃ Bn, w.heap.size = Bn := ⟨_, rfl⟩
  have hn1 : w.heap.size ≤ Bn := by omega
  have hn2 : Bn < Br := by omega
  rw [hBr] at HST ⊢
  rw [hBn] at HNT ⊢
  clear hBr hBn
  go_loopw [13] (RoomsRel l err out n w Bn Br (.cells #[.slice (some ⟨b, o, none⟩) n cap, .int .i64 T, .int .i64 C] 33 (0, 0))) (fun i _ => n - (intOf i).toNat)
  case atStart => exact ⟨0, by omega, rfl, HST.out.congr (fun i hi => by unfold partLo; rw [if_neg (by omega)]) (fun i hi => by unfold partHi; rw [if_neg (by omega)]), HNT.out, HB0.out⟩
  case round =>
    clear HST HNT HB0
    obtain ⟨k, hk, rfl, hR, hN, hB⟩ := hrel
    by_cases hlt : k < n
    · have hlt' : decide ((k : Int) < (n : Int)) = true := by simpa using hlt
      have hlk : k < l.length := by rw [HL.out]; exact hlt
      have hn12 : n ≤ 12 := by rw [← HL.out]; exact HO.out.len
      obtain ⟨b', o', hAe, hAs⟩ := HA.out.resolve_left (fun h => by rw [h] at hlk; simp at hlk)
      obtain ⟨rfl, rfl⟩ : b = b' ∧ o = o' := by simpa using hAe
      have hak := hAs k hlk
      have hbl := World.block_lt_of_cell? w _ hak.1
      have hcB := fun i => hB.cell (p := ⟨b, i, none⟩) hbl
      have ak0 := (hcB _).trans hak.1
      have ak1 := (hcB _).trans hak.2.1
      have ak2 := (hcB _).trans hak.2.2.1
      have ak3 := (hcB _).trans hak.2.2.2
      have han := HO.out.ang l[k] (List.getElem_mem hlk)
      obtain ⟨a, ha⟩ : ∃ a, l[k] = a := ⟨_, rfl⟩
      rw [ha] at ak0 ak1 ak2 ak3 han
      have hm0 : 0 ≤ err * a.g := Int.mul_nonneg he0 (by omega)
      have hm1 : err * a.g ≤ 120 := by
        have : err * a.g ≤ 40 * a.g := Int.mul_le_mul_of_nonneg_right he1 (by omega)
        omega
      have hRN := hR.lt
      have hneR : Br ≠ wr.heap.size := by omega
      have HRR := Lib.hid hR
      have HNN := Lib.hid hN
      have HBB := Lib.hid hB
      have HAK := Lib.hid ha
      clear hR hN hB ha hcB hak hAs hAe hbl
      have i1 : (0 : Int) ≤ (k : Int) := by omega
      have i2 : (k : Int) < 12 := by omega
      obtain ⟨wid, hwid⟩ : ∃ wid, err * a.g = wid := ⟨_, rfl⟩
      go_wp2_with fail
      have hblk := Go.heap_alloc_new wr (.cells #[.int .i64 a.t, .int .i64 a.c, .int .i64 a.r, .int .i64 a.g] 104)
      have hBw : Below wr.heap.size wr (wr.alloc (.cells #[.int .i64 a.t, .int .i64 a.c, .int .i64 a.r, .int .i64 a.g] 104)) := (Below.refl _ _).alloc (Nat.le_refl _) _
      have hszw : wr.heap.size < (wr.alloc (.cells #[.int .i64 a.t, .int .i64 a.c, .int .i64 a.r, .int .i64 a.g] 104)).heap.size := by simp
      generalize wr.alloc (.cells #[.int .i64 a.t, .int .i64 a.c, .int .i64 a.r, .int .i64 a.g] 104) = w2 at hblk hBw hszw ⊢
      obtain ⟨Ba, hBa⟩ : ∃ Ba, wr.heap.size = Ba := ⟨_, rfl⟩
      rw [hBa] at hblk hszw ⊢
      have hne : Ba ≠ Br := by omega
      have hne' : Br ≠ Ba := by omega
      have hbn := (Array.getElem?_eq_some_iff.1 HNN.out).1
      have hR2 := HRR.out.of_block (hBw.block Br (by omega))
      have hN2 := (hBw.block Bn (by omega)).trans HNN.out
      have hB2 : Below w.heap.size w w2 := HBB.out.trans (hBw.mono HBB.out.size)
      have a2 : w2.cell? ⟨Ba, 2, none⟩ = some (.int .i64 a.r) := by simp [World.cell?, hblk]
      have r0 := (hR2.cells (i := k) (by omega)).1
      have r1 := (hR2.cells (i := k) (by omega)).2
      have z0 := hR2.frozen (k * 2)
      have z1 := hR2.frozen (k * 2 + 1)
      have lR := hR2.lt
      have lN : Bn < w2.heap.size := (Array.getElem?_eq_some_iff.1 hN2).1
      have HR2 := Lib.hid hR2
      have HN2 := Lib.hid hN2
      have HB2 := Lib.hid hB2
      have HW := Lib.hid hwid
      have wp1 : IntKind.i64.wrap (a.r - wid) = a.r - wid := IntWalk.i64_in _ (by omega)
      have wp2 : IntKind.i64.wrap (a.r + wid) = a.r + wid := IntWalk.i64_in _ (by omega)
      obtain ⟨M, hM⟩ : ∃ M, max 0 (a.r - wid) = M := ⟨_, rfl⟩
      have hM1 : (if wid < a.r then a.r - wid else 0) = M := by rw [← hM]; split <;> omega
      have hM2 : (if 0 < a.r - wid then a.r - wid else 0) = M := by rw [← hM]; split <;> omega
      have HM := Lib.hid hM
      clear hM
      clear hR2 hN2 hB2 hwid hblk hBw HRR HNN HBB hBa ak0 ak1 ak2 ak3 hm0 hm1 hneR hRN
      go_cut [13] from 13 to 42 (fun s13 wc => s13 = .int .i64 k ∧ RoomsAt wc Br (updG (partLo l err out k) k M) (updG (partHi l err out k) k (min 40 (a.r + wid))) ∧ wc.heap[Bn]? = some (.cells #[.slice (some ⟨b, o, none⟩) n cap, .int .i64 T, .int .i64 C] 33 (0, 0)) ∧ Below w.heap.size w wc)
      case first =>
        go_region_held3 (fun X => X.cell? ⟨Ba, 2, none⟩ = some (.int .i64 a.r)) (go_keep) (first | (go_at_call 96; refine (smallest_two _ 40 (a.r + wid) _ (by simp) (by simp)).mono ?_; rintro e w' ⟨rfl, rfl⟩))
        all_goals
          go_wp2
          go_meet
          case rel =>
            refine ⟨rfl, (HR2.out.set (i := k) (by omega) M (min 40 (a.r + wid))).of_block (Below.heap_alloc _ _ _ (by simp; omega)), ?_, ?_⟩
            · refine Eq.trans ?_ HN2.out
              exact (Below.heap_alloc _ _ _ (by simp; omega)).trans ((Below.heap_setCell _ _ _ _ (by simp; omega)).trans (Below.heap_setCell _ _ _ _ (by simp; omega)))
            · exact (((HB2.out.setCell (by simp; omega) _).setCell (by simp; omega) _).alloc (by have := HB2.out.size; simp; omega) _).drew
      case rest =>
        obtain ⟨rfl, hR3, hN3, hB3⟩ := hcut
        clear HR2 HN2 HB2 a2 r0 r1 z0 z1 hM1 hM2 wp1 wp2 lR lN hszw
        have r0 := (hR3.cells (i := k) (by omega)).1
        have r1 := (hR3.cells (i := k) (by omega)).2
        have z0 := hR3.frozen (k * 2)
        have z1 := hR3.frozen (k * 2 + 1)
        have hcon := Lib.hid (contains_any ov out k wc (HV.out.keep hB3 (Nat.le_refl _)) (by omega))
        have HR3 := Lib.hid hR3
        have HN3 := Lib.hid hN3
        have HB3 := Lib.hid hB3
        clear hR3 hN3 hB3
        cases hc : out.contains (k : Int) with
        | false =>
          rw [hc] at hcon
          have HC := Lib.hid hc
          clear hc
          go_wp2_with (go_at_call 71; refine hcon.out.mono ?_; rintro e w' ⟨rfl, rfl⟩)
          go_roundw
          case rel => exact ⟨k + 1, by omega, by go_num, HR3.out.congr (fun i hi => partLo_out HC.out hlk HAK.out (by rw [HW.out]; exact HM.out) i) (fun i hi => partHi_out HC.out hlk HAK.out (by rw [HW.out]) i), HN3.out, HB3.out⟩
          case measure => simp [intOf]; omega
        | true =>
          rw [hc] at hcon
          have HC := Lib.hid hc
          clear hc
          go_wp2_with (go_at_call 71; refine hcon.out.mono ?_; rintro e w' ⟨rfl, rfl⟩)
          refine (everything_any _).mono ?_
          rintro e w4 ⟨rfl, hb4⟩
          have lR := HR3.out.lt
          have hN4 := (hb4.block Bn (Array.getElem?_eq_some_iff.1 HN3.out).1).trans HN3.out
          have hR4 := HR3.out.of_block (hb4.block Br lR)
          have hB4 : Below w.heap.size w w4 := HB3.out.trans (hb4.mono HB3.out.size)
          clear r0 r1 z0 z1 hb4 HR3 HN3 HB3
          have r0 := (hR4.cells (i := k) (by omega)).1
          have r1 := (hR4.cells (i := k) (by omega)).2
          have z0 := hR4.frozen (k * 2)
          have z1 := hR4.frozen (k * 2 + 1)
          have HR4 := Lib.hid hR4
          have HN4 := Lib.hid hN4
          have HB4 := Lib.hid hB4
          clear hR4 hN4 hB4
          go_wp2_with fail
          go_roundw
          case rel =>
            refine ⟨k + 1, by omega, by go_num, (HR4.out.set (i := k) (by omega) 0 40).congr (fun i hi => partLo_in HC.out hlk i) (fun i hi => partHi_in HC.out hlk i), ?_, ?_⟩
            · exact ((Below.heap_setCell _ _ _ _ (by simp; omega)).trans (Below.heap_setCell _ _ _ _ (by simp; omega))).trans HN4.out
            · exact (HB4.out.setCell (by simp; omega) _).setCell (by simp; omega) _
          case measure => simp [intOf]; omega
    · have hlt' : decide ((k : Int) < (n : Int)) = false := by simpa using hlt
      obtain rfl : k = n := by omega
      obtain ⟨rs, hrb, hrv⟩ := hR
      have hfin : RoomsV rs (roomLo l err out) (roomHi l err out) := hrv.congr (fun i hi => part_allLo (by rw [HL.out]) i) (fun i hi => part_allHi (by rw [HL.out]) i)
      have HF := Lib.hid hfin
      have HRB := Lib.hid hrb
      have HBB := Lib.hid hB
      clear hfin hrv hN hrb hB
      go_wp2_with (first | (refine wpList_load_row rfl 109 _ rfl _ rfl 109 rs _ _ HRB.out Try.underlying109 rfl HF.out.size ?_) | (refine wpList_store_row rfl 109 _ _ rfl _ rs rfl rfl 109 rs HRB.out HF.out.size rfl (roomsV_one HF.out) ?_))
      have hrow : (wr.setRow Br rs).heap[Br]? = some (.cells rs 109 (0, 0)) := setRow_heap wr Br rs rs 109 (0, 0) HRB.out
      refine bodyPost_ret (v := .agg rs) (results_cell_row (p := 6) (ty := 109) rfl _ _ Br 109 rs (0, 0) _ (by rfl) hrow Try.underlying109 rfl HF.out.size) rfl ⟨rs, rfl, HF.out, HBB.out.trans ⟨rfl, rfl, rfl, by simp, fun j hj => setRow_other _ _ _ _ (by omega)⟩⟩
end
end Go.Proofs.Ytkloaeaepjoijaa
namespace Go.Proofs.Ytkloaeaepjoijaa
section
open Go.RowKit Go.WalkArith
def inB (n lo hi : Int) : Bool := decide (lo ≤ n ∧ n ≤ hi)
theorem inB_true {n lo hi : Int} : inB n lo hi = true ↔ lo ≤ n ∧ n ≤ hi := by simp [inB]
theorem within_b (n lo hi : Int) (w : World) :
    Calls Try.prog 68 #[.int .i64 n, .int .i64 lo, .int .i64 hi] w fun e w' => e = .returned (.bool (inB n lo hi)) ∧ w = w' := within_any n lo hi w
/-- An angle is one of a net. -/
def angOk (T C : Int) (a : Ang) : Bool := inB a.t (-1) (T - 1) && inB a.c (-1) (C - 1) && inB a.r 0 40 && inB a.g 1 3
set_option maxRecDepth 100000 in
set_option maxHeartbeats 1000000 in
theorem angle_any (A : Option Addr) (n cap : Nat) (T C : Int) (a : Ang) (w : World) (ht0 : 0 ≤ T) (ht1 : T ≤ 5) (hc0 : 0 ≤ C) (hc1 : C ≤ 5) :
    Calls Try.prog 72 #[.agg #[.slice A n cap, .int .i64 T, .int .i64 C], .agg #[.int .i64 a.t, .int .i64 a.c, .int .i64 a.r, .int .i64 a.g]] w fun e w' => e = .returned (.bool (angOk T C a)) ∧ Below w.heap.size w w' := by
  have hbel : Below w.heap.size w ((w.alloc (.cells #[.slice A n cap, .int .i64 T, .int .i64 C] 33)).alloc (.cells #[.int .i64 a.t, .int .i64 a.c, .int .i64 a.r, .int .i64 a.g] 104)) := ((Below.refl _ _).alloc (Nat.le_refl _) _).alloc (by simp) _
  have HB := Lib.hid hbel
  clear hbel
  cases h1 : inB a.t (-1) (T - 1) with
  | false =>
    have hf : angOk T C a = false := by simp [angOk, h1]
    have HF := Lib.hid hf
    clear hf
    go_enter Try.func72, Try.ntmps72
    go_wp2_with (go_at_call 68; refine (within_b _ _ _ _).mono ?_; rintro e w' ⟨rfl, rfl⟩)
    go_ret
    exact ⟨by rw [HF.out]; rfl, HB.out⟩
  | true =>
    cases h2 : inB a.c (-1) (C - 1) with
    | false =>
      have hf : angOk T C a = false := by simp [angOk, h2]
      have HF := Lib.hid hf
      clear hf
      go_enter Try.func72, Try.ntmps72
      go_wp2_with (go_at_call 68; refine (within_b _ _ _ _).mono ?_; rintro e w' ⟨rfl, rfl⟩)
      go_ret
      exact ⟨by rw [HF.out]; rfl, HB.out⟩
    | true =>
      cases h3 : inB a.r 0 40 with
      | false =>
        have hf : angOk T C a = false := by simp [angOk, h3]
        have HF := Lib.hid hf
        clear hf
        go_enter Try.func72, Try.ntmps72
        go_wp2_with (go_at_call 68; refine (within_b _ _ _ _).mono ?_; rintro e w' ⟨rfl, rfl⟩)
        go_ret
        exact ⟨by rw [HF.out]; rfl, HB.out⟩
      | true =>
        have hf : angOk T C a = inB a.g 1 3 := by simp [angOk, h1, h2, h3]
        have HF := Lib.hid hf
        clear hf
        go_enter Try.func72, Try.ntmps72
        go_wp2_with (go_at_call 68; refine (within_b _ _ _ _).mono ?_; rintro e w' ⟨rfl, rfl⟩)
        go_ret
        exact ⟨by rw [HF.out]; rfl, HB.out⟩
/-- The function value that all hands on: 'not pass'. -/
theorem notAngle_any (A : Option Addr) (n cap pb : Nat) (T C : Int) (a : Ang) (w : World) (ht0 : 0 ≤ T) (ht1 : T ≤ 5) (hc0 : 0 ≤ C) (hc1 : C ≤ 5) (hp : w.cell? ⟨pb, 0, none⟩ = some (.func (.func 72) #[.agg #[.slice A n cap, .int .i64 T, .int .i64 C]] #[])) :
    Calls Try.prog 100 #[.agg #[.int .i64 a.t, .int .i64 a.c, .int .i64 a.r, .int .i64 a.g], .pointer (some ⟨pb, 0, none⟩)] w fun e w' => e = .returned (.bool (!angOk T C a)) ∧ Below w.heap.size w w' := by
  have hpl := World.block_lt_of_cell? w _ hp
  go_enter Try.func100, Try.ntmps100
  go_wp2_with (go_at_call 72; refine (angle_any A n cap T C a _ ht0 ht1 hc0 hc1).mono ?_; rintro e w' ⟨rfl, hb⟩)
  have hb2 : Below w.heap.size w w' := ((Below.refl _ _).alloc (Nat.le_refl _) _).trans (hb.mono (by simp))
  go_ret
  exact ⟨rfl, hb2⟩
theorem AngsAt.keep {W W' : World} {A : Option Addr} {l : List Ang} {B : Nat} (h : AngsAt W A l) (hb : Below B W W') (hB : W.heap.size ≤ B) : AngsAt W' A l := by
  rcases h with h | ⟨b, o, h1, h2⟩
  · exact .inl h
  · refine .inr ⟨b, o, h1, fun i hi => ?_⟩
    have hak := h2 i hi
    have hbl : b < B := Nat.lt_of_lt_of_le (World.block_lt_of_cell? W _ hak.1) hB
    have hc := fun j => hb.cell (p := ⟨b, j, none⟩) hbl
    exact ⟨(hc _).trans hak.1, (hc _).trans hak.2.1, (hc _).trans hak.2.2.1, (hc _).trans hak.2.2.2⟩
def IdxRel (l : List Ang) (T C : Int) (w : World) (i : Value) (wr : World) : Prop :=
  ∃ k : Nat, k ≤ l.length ∧ i = .int .i64 k ∧ (∀ j (h : j < l.length), j < k → angOk T C l[j] = true) ∧ Below w.heap.size w wr
def IdxPost (l : List Ang) (T C : Int) (w : World) (e : Ending) (w' : World) : Prop :=
  ∃ r : Int, e = .returned (.int .i64 r) ∧ decide (0 ≤ r) = (!l.all (angOk T C)) ∧ Below w.heap.size w w'
set_option maxRecDepth 100000 in
set_option maxHeartbeats 1000000 in
theorem indexFunc_any (A A' : Option Addr) (n n' cap cap' pb : Nat) (T C : Int) (l : List Ang) (w : World) (hn : n ≤ 1000000) (hl : l.length = n) (hA : AngsAt w A l) (ht0 : 0 ≤ T) (ht1 : T ≤ 5) (hc0 : 0 ≤ C) (hc1 : C ≤ 5) (hp : w.cell? ⟨pb, 0, none⟩ = some (.func (.func 72) #[.agg #[.slice A' n' cap', .int .i64 T, .int .i64 C]] #[])) :
    Calls Try.prog 122 #[.slice A n cap, .func (.func 100) #[] #[.pointer (some ⟨pb, 0, none⟩)]] w (IdxPost l T C w) := by
  have HA := Lib.hid hA
  have HP := Lib.hid hp
  have HL := Lib.hid hl
  have hpl := World.block_lt_of_cell? w _ hp
  clear hA hp hl
  go_enter Try.func122, Try.ntmps122
  go_wp2_with fail
  go_loopw [8] (IdxRel l T C w) (fun i _ => n - (intOf i).toNat)
  case atStart => exact ⟨0, by omega, rfl, fun j _ h => by omega, Below.refl _ _⟩
  case round =>
    obtain ⟨k, hk, rfl, hall, hB⟩ := hrel
    have HALL := Lib.hid hall
    have HB := Lib.hid hB
    clear hall hB
    by_cases hlt : k < n
    · have hlk : k < l.length := by rw [HL.out]; exact hlt
      have hlt' : decide ((k : Int) < (n : Int)) = true := by simpa using hlt
      obtain ⟨b, o, rfl, hAs⟩ := (HA.out.keep HB.out (Nat.le_refl _)).resolve_left (fun h => by rw [h] at hlk; simp at hlk)
      obtain ⟨a0, a1, a2, a3⟩ := hAs k hlk
      obtain ⟨a, ha⟩ : ∃ a, l[k] = a := ⟨_, rfl⟩
      rw [ha] at a0 a1 a2 a3
      have HAK := Lib.hid ha
      have hp2 : wr.cell? ⟨pb, 0, none⟩ = some (.func (.func 72) #[.agg #[.slice A' n' cap', .int .i64 T, .int .i64 C]] #[]) := (HB.out.cell (p := ⟨pb, 0, none⟩) hpl).trans HP.out
      have hcall := Lib.hid (notAngle_any A' n' cap' pb T C a wr ht0 ht1 hc0 hc1 hp2)
      clear hAs ha hp2
      cases hok : angOk T C a with
      | true =>
        rw [hok] at hcall
        have HOK := Lib.hid hok
        clear hok
        go_wp2_with (go_at_call 100; refine hcall.out.mono ?_; rintro e w1 ⟨rfl, hb1⟩)
        have hB1 := Lib.hid (HB.out.trans (hb1.mono HB.out.size))
        clear hb1
        go_roundw
        case rel => exact ⟨k + 1, by omega, by go_num, fun j h hj => by
          by_cases e : j = k
          · subst e; rw [HAK.out]; exact HOK.out
          · exact HALL.out j h (by omega), hB1.out⟩
        case measure => simp [intOf]; omega
      | false =>
        rw [hok] at hcall
        have HOK := Lib.hid hok
        clear hok
        go_wp2_with (go_at_call 100; refine hcall.out.mono ?_; rintro e w1 ⟨rfl, hb1⟩)
        have hfin : IdxPost l T C w (.returned (.int .i64 k)) w1 := ⟨k, rfl, by
          have : l.all (angOk T C) = false := by
            rw [List.all_eq_false]
            exact ⟨a, by rw [← HAK.out]; exact List.getElem_mem hlk, by rw [HOK.out]; simp⟩
          rw [this]; simp, HB.out.trans (hb1.mono HB.out.size)⟩
        go_ret
        exact hfin
    · have hlt' : decide ((k : Int) < (n : Int)) = false := by simpa using hlt
      have hfin : IdxPost l T C w (.returned (.int .i64 (-1))) wr := ⟨-1, rfl, by
        have : l.all (angOk T C) = true := by
          rw [List.all_eq_true]
          intro a ha
          obtain ⟨j, hj, e⟩ := List.getElem_of_mem ha
          rw [← e]
          exact HALL.out j hj (by rw [HL.out] at hj; omega)
        rw [this]; simp, HB.out⟩
      have HF := Lib.hid hfin
      clear hfin
      go_wp2_with fail
      go_ret
      exact HF.out
theorem containsFunc_any (A A' : Option Addr) (n n' cap cap' pb : Nat) (T C : Int) (l : List Ang) (w : World) (hn : n ≤ 1000000) (hl : l.length = n) (hA : AngsAt w A l) (ht0 : 0 ≤ T) (ht1 : T ≤ 5) (hc0 : 0 ≤ C) (hc1 : C ≤ 5) (hp : w.cell? ⟨pb, 0, none⟩ = some (.func (.func 72) #[.agg #[.slice A' n' cap', .int .i64 T, .int .i64 C]] #[])) :
    Calls Try.prog 99 #[.slice A n cap, .func (.func 100) #[] #[.pointer (some ⟨pb, 0, none⟩)]] w fun e w' => e = .returned (.bool (!l.all (angOk T C))) ∧ Below w.heap.size w w' := by
  have HI := Lib.hid (indexFunc_any A A' n n' cap cap' pb T C l w hn hl hA ht0 ht1 hc0 hc1 hp)
  clear hA hp hl
  go_enter Try.func99, Try.ntmps99
  go_wp2_with fail
  refine HI.out.mono ?_
  rintro e w1 ⟨r, rfl, hr, hb⟩
  have HR := Lib.hid hr
  clear hr
  go_wp2_with fail
  go_ret
  exact ⟨by rw [← HR.out]; rfl, hb⟩
theorem all_any (A A' : Option Addr) (n n' cap cap' : Nat) (T C : Int) (l : List Ang) (w : World) (hn : n ≤ 1000000) (hl : l.length = n) (hA : AngsAt w A l) (ht0 : 0 ≤ T) (ht1 : T ≤ 5) (hc0 : 0 ≤ C) (hc1 : C ≤ 5) :
    Calls Try.prog 73 #[.slice A n cap, .func (.func 72) #[.agg #[.slice A' n' cap', .int .i64 T, .int .i64 C]] #[]] w fun e w' => e = .returned (.bool (l.all (angOk T C))) ∧ Below w.heap.size w w' := by
  have hB : Below w.heap.size w (w.alloc (.cells #[.func (.func 72) #[.agg #[.slice A' n' cap', .int .i64 T, .int .i64 C]] #[]] 115)) := (Below.refl _ _).alloc (Nat.le_refl _) _
  have HI := Lib.hid (containsFunc_any A A' n n' cap cap' w.heap.size T C l _ hn hl (hA.keep hB (Nat.le_refl _)) ht0 ht1 hc0 hc1 (Boxed.new w 115 _).cell)
  have HB := Lib.hid hB
  clear hA hl hB
  go_enter Try.func73, Try.ntmps73
  go_wp2_with fail
  refine HI.out.mono ?_
  rintro e w1 ⟨rfl, hb⟩
  have hb2 := HB.out.trans (hb.mono HB.out.size)
  go_wp2_with fail
  go_ret
  exact ⟨by simp, hb2⟩
/-- The error of a net. -/
def faultL (l : List Ang) (T C : Int) : Int :=
  if 12 < l.length ∨ 5 < T ∨ 5 < C then 3 else if l.length = 0 ∨ T < 0 ∨ C < 0 ∨ l.all (angOk T C) = false then 1 else 0
theorem faultL_zero {l : List Ang} {T C : Int} : faultL l T C = 0 ↔ NetOk l T C := by
  have key : ∀ a : Ang, angOk T C a = true ↔ -1 ≤ a.t ∧ a.t < T ∧ -1 ≤ a.c ∧ a.c < C ∧ 0 ≤ a.r ∧ a.r ≤ 40 ∧ 1 ≤ a.g ∧ a.g ≤ 3 := by
    intro a
    simp only [angOk, Bool.and_eq_true, inB_true]
    omega
  unfold faultL
  constructor
  · intro h
    split at h
    · simp at h
    · split at h
      · simp at h
      · rename_i h1 h2
        refine ⟨by omega, by omega, by omega, by omega, by omega, by omega, fun a ha => ?_⟩
        have : l.all (angOk T C) = true := by
          cases e : l.all (angOk T C) with
          | true => rfl
          | false => exact absurd (.inr (.inr (.inr e))) h2
        exact (key a).1 (List.all_eq_true.1 this a ha)
  · intro h
    have h1 := h.pos
    have h2 := h.len
    have h3 := h.t0
    have h4 := h.t1
    have h5 := h.c0
    have h6 := h.c1
    have h7 : l.all (angOk T C) = true := List.all_eq_true.2 fun a ha => (key a).2 (h.ang a ha)
    rw [if_neg (by omega), if_neg]
    rw [h7]
    simp
    refine ⟨fun e => by rw [e] at h1; simp at h1, by omega, by omega⟩
set_option maxRecDepth 100000 in
set_option maxHeartbeats 1000000 in
theorem checkNet_any (A : Option Addr) (n cap : Nat) (T C : Int) (l : List Ang) (w : World) (hn : n ≤ 1000000) (hl : l.length = n) (hA : AngsAt w A l) :
    Calls Try.prog 26 #[.agg #[.slice A n cap, .int .i64 T, .int .i64 C]] w fun e w' => e = .returned (.int .i64 (faultL l T C)) ∧ Below w.heap.size w w' := by
  have hB : Below w.heap.size w (w.alloc (.cells #[.slice A n cap, .int .i64 T, .int .i64 C] 33)) := (Below.refl _ _).alloc (Nat.le_refl _) _
  have HB := Lib.hid hB
  clear hB
  by_cases h1 : 12 < n
  · have hf : faultL l T C = 3 := by unfold faultL; rw [if_pos (.inl (by omega))]
    have HF := Lib.hid hf
    clear hf hl hA
    go_enter Try.func26, Try.ntmps26
    go_wp2_with fail
    go_ret
    exact ⟨by rw [HF.out]; rfl, HB.out⟩
  by_cases h2 : 5 < T
  · have hf : faultL l T C = 3 := by unfold faultL; rw [if_pos (.inr (.inl h2))]
    have HF := Lib.hid hf
    clear hf hl hA
    go_enter Try.func26, Try.ntmps26
    go_wp2_with fail
    go_ret
    exact ⟨by rw [HF.out]; rfl, HB.out⟩
  by_cases h3 : 5 < C
  · have hf : faultL l T C = 3 := by unfold faultL; rw [if_pos (.inr (.inr h3))]
    have HF := Lib.hid hf
    clear hf hl hA
    go_enter Try.func26, Try.ntmps26
    go_wp2_with fail
    go_ret
    exact ⟨by rw [HF.out]; rfl, HB.out⟩
  have hnn : ¬ (12 < l.length ∨ 5 < T ∨ 5 < C) := by omega
  by_cases h4 : n = 0
  · have hf : faultL l T C = 1 := by unfold faultL; rw [if_neg hnn, if_pos (.inl (by omega))]
    have HF := Lib.hid hf
    clear hf hl hA hnn
    subst h4
    go_enter Try.func26, Try.ntmps26
    go_wp2_with fail
    go_ret
    exact ⟨by rw [HF.out]; rfl, HB.out⟩
  have h4' : ((n : Int) == 0) = false := by simpa using h4
  by_cases h5 : T < 0
  · have hf : faultL l T C = 1 := by unfold faultL; rw [if_neg hnn, if_pos (.inr (.inl h5))]
    have HF := Lib.hid hf
    clear hf hl hA hnn
    go_enter Try.func26, Try.ntmps26
    go_wp2_with fail
    go_ret
    exact ⟨by rw [HF.out]; rfl, HB.out⟩
  by_cases h6 : C < 0
  · have hf : faultL l T C = 1 := by unfold faultL; rw [if_neg hnn, if_pos (.inr (.inr (.inl h6)))]
    have HF := Lib.hid hf
    clear hf hl hA hnn
    go_enter Try.func26, Try.ntmps26
    go_wp2_with fail
    go_ret
    exact ⟨by rw [HF.out]; rfl, HB.out⟩
  have hall := Lib.hid (all_any A A n n cap cap T C l _ hn hl (hA.keep HB.out (Nat.le_refl _)) (by omega) (by omega) (by omega) (by omega))
  cases hb : l.all (angOk T C) with
  | false =>
    have hf : faultL l T C = 1 := by unfold faultL; rw [if_neg hnn, if_pos (.inr (.inr (.inr hb)))]
    have HF := Lib.hid hf
    rw [hb] at hall
    clear hf hl hA hnn hb
    go_enter Try.func26, Try.ntmps26
    go_wp2_with (go_at_call 73; refine hall.out.mono ?_; rintro e w' ⟨rfl, hb1⟩)
    go_ret
    exact ⟨by rw [HF.out]; rfl, HB.out.trans (hb1.mono HB.out.size)⟩
  | true =>
    have hf : faultL l T C = 0 := by unfold faultL; rw [if_neg hnn, if_neg (by rw [hb]; rintro (h | h | h | h) <;> first | omega | cases h)]
    have HF := Lib.hid hf
    rw [hb] at hall
    clear hf hl hA hnn hb
    go_enter Try.func26, Try.ntmps26
    go_wp2_with (go_at_call 73; refine hall.out.mono ?_; rintro e w' ⟨rfl, hb1⟩)
    go_ret
    exact ⟨by rw [HF.out]; rfl, HB.out.trans (hb1.mono HB.out.size)⟩
/-- The error of a net with an error. -/
def askedL (l : List Ang) (T C err : Int) : Int := if faultL l T C ≠ 0 then faultL l T C else if 0 ≤ err ∧ err ≤ 40 then 0 else 2
set_option maxHeartbeats 1000000 in
theorem asked_any (A : Option Addr) (n cap : Nat) (T C err : Int) (l : List Ang) (w : World) (hn : n ≤ 1000000) (hl : l.length = n) (hA : AngsAt w A l) :
    Calls Try.prog 66 #[.agg #[.slice A n cap, .int .i64 T, .int .i64 C], .int .i64 err] w fun e w' => e = .returned (.int .i64 (askedL l T C err)) ∧ Below w.heap.size w w' := by
  have hB : Below w.heap.size w (w.alloc (.cells #[.slice A n cap, .int .i64 T, .int .i64 C] 33)) := (Below.refl _ _).alloc (Nat.le_refl _) _
  have hck := Lib.hid (checkNet_any A n cap T C l _ hn hl (hA.keep hB (Nat.le_refl _)))
  have HB := Lib.hid hB
  clear hB hA hl
  by_cases hf : faultL l T C = 0
  · have hin := Lib.hid (fun w => within_b err 0 40 w)
    cases hb : inB err 0 40 with
    | true =>
      have hfin : askedL l T C err = 0 := by unfold askedL; rw [if_neg (by omega), if_pos (inB_true.1 hb)]
      have HF := Lib.hid hfin
      rw [hf] at hck
      rw [hb] at hin
      clear hfin hf hb
      go_enter Try.func66, Try.ntmps66
      go_wp2_with (first | (go_at_call 26; refine hck.out.mono ?_; rintro e w' ⟨rfl, hb1⟩) | (go_at_call 68; refine (hin.out _).mono ?_; rintro e w' ⟨rfl, rfl⟩))
      go_ret
      exact ⟨by rw [HF.out]; rfl, HB.out.trans (hb1.mono HB.out.size)⟩
    | false =>
      have hfin : askedL l T C err = 2 := by unfold askedL; rw [if_neg (by omega), if_neg (by rw [← inB_true, hb]; simp)]
      have HF := Lib.hid hfin
      rw [hf] at hck
      rw [hb] at hin
      clear hfin hf hb
      go_enter Try.func66, Try.ntmps66
      go_wp2_with (first | (go_at_call 26; refine hck.out.mono ?_; rintro e w' ⟨rfl, hb1⟩) | (go_at_call 68; refine (hin.out _).mono ?_; rintro e w' ⟨rfl, rfl⟩))
      go_ret
      exact ⟨by rw [HF.out]; rfl, HB.out.trans (hb1.mono HB.out.size)⟩
  · have hfin : askedL l T C err = faultL l T C := by unfold askedL; rw [if_pos hf]
    have HF := Lib.hid hfin
    have hne : (faultL l T C != 0) = true := by simpa using hf
    clear hfin hf
    go_enter Try.func66, Try.ntmps66
    go_wp2_with (go_at_call 26; refine hck.out.mono ?_; rintro e w' ⟨rfl, hb1⟩)
    go_ret
    exact ⟨by rw [HF.out]; rfl, HB.out.trans (hb1.mono HB.out.size)⟩
end
end Go.Proofs.Ytkloaeaepjoijaa
namespace Go.Proofs.Ytkloaeaepjoijaa
section
open Go.RowKit Go.WalkArith
/-- A slice of strings reads as a list. -/
def StrsAt (W : World) (A : Option Addr) (cs : List ByteArray) : Prop :=
  cs = [] ∨ ∃ b o, A = some ⟨b, o, none⟩ ∧ ∀ i (h : i < cs.length), W.cell? ⟨b, o + i, none⟩ = some (.string cs[i])
theorem StrsAt.keep {W W' : World} {A : Option Addr} {cs : List ByteArray} {B : Nat} (h : StrsAt W A cs) (hb : Below B W W') (hB : W.heap.size ≤ B) : StrsAt W' A cs := by
  rcases h with h | ⟨b, o, h1, h2⟩
  · exact .inl h
  · exact .inr ⟨b, o, h1, fun i hi => (hb.cell (p := ⟨b, o + i, none⟩) (Nat.lt_of_lt_of_le (World.block_lt_of_cell? W _ (h2 i hi)) hB)).trans (h2 i hi)⟩
theorem StrsAt.at {W : World} {A : Option Addr} {cs : List ByteArray} (h : StrsAt W A cs) {k : Nat} (hk : k < cs.length) : ∃ b o, A = some ⟨b, o, none⟩ ∧ W.cell? ⟨b, o + k, none⟩ = some (.string cs[k]) := by
  rcases h with h | ⟨b, o, h1, h2⟩
  · subst h; simp at hk
  · exact ⟨b, o, h1, h2 k hk⟩
/-- A letter of a valid code. -/
def LetOk (s : ByteArray) : Prop := 1 ≤ s.size ∧ s.size ≤ 4 ∧ ∀ x ∈ nl s, x = 46 ∨ x = 45
/-- A valid code. -/
structure CodeOk (cs : List ByteArray) : Prop where
  pos : 1 ≤ cs.length
  six : cs.length ≤ 6
  letter : ∀ s ∈ cs, LetOk s
  apart : ∀ i j (hi : i < cs.length) (hj : j < cs.length), i < j → nl cs[i] ≠ nl cs[j]
theorem refIn2_any (n lo hi : Int) (w : World) :
    Calls Try.prog 84 #[.int .i64 n, .int .i64 lo, .int .i64 hi] w fun e w' => e = .returned (.bool (inB n lo hi)) ∧ w = w' := by
  by_cases h1 : lo ≤ n
  · by_cases h2 : n ≤ hi
    · go_enter Try.func84, Try.ntmps84
      go_wp2
      go_ret
      exact ⟨by simp [inB, h1, h2], rfl⟩
    · have h2' : decide (n ≤ hi) = false := by simpa using h2
      go_enter Try.func84, Try.ntmps84
      go_wp2
      go_ret
      exact ⟨by simp [inB, h2], rfl⟩
  · have h1' : decide (lo ≤ n) = false := by simpa using h1
    go_enter Try.func84, Try.ntmps84
    go_wp2
    go_ret
    exact ⟨by rw [show inB n lo hi = false from (by unfold inB; rw [decide_eq_false_iff_not]; omega)]; rfl, rfl⟩
def ThinPost (cs : List ByteArray) (w : World) (e : Ending) (w' : World) : Prop :=
  ∃ b, e = .returned (.bool b) ∧ (b = true → cs.length ≤ 9 ∧ ∀ j (h : j < cs.length), cs[j].size ≤ 9) ∧ Below w.heap.size w w'
set_option maxRecDepth 100000 in
set_option maxHeartbeats 1000000 in
theorem thin2_any (A : Option Addr) (cap : Nat) (cs : List ByteArray) (w : World) (hn : cs.length ≤ 9223372036854775807) (hA : StrsAt w A cs) (hsz : ∀ j (h : j < cs.length), cs[j].size ≤ 9223372036854775807) :
    Calls Try.prog 48 #[.agg #[.slice A cs.length cap], .string ⟨#[]⟩] w (ThinPost cs w) := by
  have hB : Below w.heap.size w (w.alloc (.cells #[.slice A cs.length cap] 77)) := (Below.refl _ _).alloc (Nat.le_refl _) _
  have HB := Lib.hid hB
  have HA := Lib.hid (hA.keep hB (Nat.le_refl _))
  have HS := Lib.hid hsz
  clear hB hA hsz
  go_enter Try.func48, Try.ntmps48
  go_wp2_with fail
  go_loop [5] (fun i => ∃ k : Nat, k ≤ cs.length ∧ k ≤ 10 ∧ i = .int .i64 k ∧ ∀ j (h : j < cs.length), j < k → cs[j].size ≤ 9) (fun i => 10 - (intOf i).toNat)
  case atStart => exact ⟨0, by omega, by omega, rfl, fun j _ h => by omega⟩
  case round =>
    obtain ⟨k, hk, hk10, rfl, hall⟩ := hrel
    have HALL := Lib.hid hall
    clear hall
    by_cases hlt : k < cs.length
    · have hlt' : decide ((k : Int) < (cs.length : Int)) = true := by simpa using hlt
      by_cases h10 : k < 10
      · have h10' : decide ((k : Int) < 10) = true := by simp; omega
        obtain ⟨b, o, rfl, hc⟩ := HA.out.at hlt
        have hsk := HS.out k hlt
        obtain ⟨s, hs⟩ : ∃ s, cs[k] = s := ⟨_, rfl⟩
        rw [hs] at hc hsk
        have HSK := Lib.hid hs
        clear hs
        have i0 : (0 : Int) ≤ (k : Int) := by omega
        have i1 : (k : Int) < (cs.length : Int) := by omega
        by_cases h9 : 9 < s.size
        · have h9' : decide ((9 : Int) < (s.size : Int)) = true := by simp; omega
          go_wp2_with fail
          go_ret
          exact ⟨false, rfl, fun h => by simp at h, HB.out⟩
        · have h9' : decide ((9 : Int) < (s.size : Int)) = false := by simp; omega
          go_wp2_with fail
          go_round
          case rel => exact ⟨k + 1, by omega, by omega, by go_num, fun j h1 h2 => by
            by_cases e : j = k
            · subst e; rw [HSK.out]; omega
            · exact HALL.out j h1 (by omega)⟩
          case measure => simp [intOf]; omega
      · have h10' : decide ((k : Int) < 10) = false := by simp; omega
        have h99 : decide ((cs.length : Int) ≤ 9) = false := by simp; omega
        go_wp2_with fail
        go_ret
        exact ⟨false, rfl, fun h => by simp at h, HB.out⟩
    · have hlt' : decide ((k : Int) < (cs.length : Int)) = false := by simpa using hlt
      by_cases h9 : cs.length ≤ 9
      · have h99 : decide ((cs.length : Int) ≤ 9) = true := by simp; omega
        go_wp2_with fail
        go_ret
        exact ⟨true, rfl, fun _ => ⟨h9, fun j h => HALL.out j h (by omega)⟩, HB.out⟩
      · have h99 : decide ((cs.length : Int) ≤ 9) = false := by simp; omega
        go_wp2_with fail
        go_ret
        exact ⟨false, rfl, fun h => by simp at h, HB.out⟩
theorem nl_get {s : ByteArray} {k : Nat} (h : k < s.size) : k < (nl s).length := by rw [nl_len]; exact h
theorem nl_elem {s : ByteArray} {k : Nat} (h : k < s.size) : (nl s)[k]'(nl_get h) = (s[k]).toNat := by
  have h1 := nl_at s k h
  rw [List.getElem?_eq_getElem (nl_get h)] at h1
  exact Option.some.inj h1
def FcPost (cs : List ByteArray) (w : World) (e : Ending) (w' : World) : Prop :=
  ∃ v : Int, e = .returned (.int .i64 v) ∧ (v = 0 → CodeOk cs) ∧ Below w.heap.size w w'
set_option maxRecDepth 100000 in
set_option maxHeartbeats 2000000 in
theorem codeFault_any (A : Option Addr) (cap : Nat) (cs : List ByteArray) (w : World) (hn : cs.length ≤ 9) (hA : StrsAt w A cs) (hsz : ∀ j (h : j < cs.length), cs[j].size ≤ 9) :
    Calls Try.prog 49 #[.agg #[.slice A cs.length cap]] w (FcPost cs w) := by
  have hB : Below w.heap.size w (w.alloc (.cells #[.slice A cs.length cap] 77)) := (Below.refl _ _).alloc (Nat.le_refl _) _
  have HB := Lib.hid hB
  have HA := Lib.hid (hA.keep hB (Nat.le_refl _))
  have HS := Lib.hid hsz
  clear hB hA hsz
  by_cases h6 : 6 < cs.length
  · have h6' : decide ((6 : Int) < (cs.length : Int)) = true := by simp; omega
    go_enter Try.func49, Try.ntmps49
    go_wp2_with fail
    go_ret
    exact ⟨3, rfl, fun h => by omega, HB.out⟩
  have h6' : decide ((6 : Int) < (cs.length : Int)) = false := by simp; omega
  go_enter Try.func49, Try.ntmps49
  go_wp2_with fail
  go_loop [3] (fun i => ∃ k : Nat, k ≤ cs.length ∧ i = .int .i64 k ∧ (∀ j (h : j < cs.length), j < k → LetOk cs[j]) ∧ ∀ q j (hq : q < cs.length) (hj : j < cs.length), j < k → q < j → nl cs[q] ≠ nl cs[j]) (fun i => cs.length - (intOf i).toNat)
  case atStart => exact ⟨0, by omega, rfl, fun j _ h => by omega, fun q j _ _ h => by omega⟩
  case round =>
    obtain ⟨k, hk, rfl, hall, hap⟩ := hrel
    have HALL := Lib.hid hall
    have HAP := Lib.hid hap
    clear hall hap
    by_cases hlt : k < cs.length
    · have hlt' : decide ((k : Int) < (cs.length : Int)) = true := by simpa using hlt
      obtain ⟨b, o, rfl, hc⟩ := HA.out.at hlt
      have hsk := HS.out k hlt
      obtain ⟨s, hs⟩ : ∃ s, cs[k] = s := ⟨_, rfl⟩
      rw [hs] at hc hsk
      have HSK := Lib.hid hs
      clear hs
      have i0 : (0 : Int) ≤ (k : Int) := by omega
      have i1 : (k : Int) < (cs.length : Int) := by omega
      have hin := Lib.hid (refIn2_any (s.size : Int) 1 4 (w.alloc (.cells #[.slice (some ⟨b, o, none⟩) cs.length cap] 77)))
      cases hi : inB (s.size : Int) 1 4 with
      | false =>
        rw [hi] at hin
        clear hi
        go_wp2_with fail
        refine hin.out.mono ?_
        rintro e w' ⟨rfl, rfl⟩
        go_wp2_with fail
        go_ret
        exact ⟨1, rfl, fun h => by omega, HB.out⟩
      | true =>
        rw [hi] at hin
        have hsz := inB_true.1 hi
        clear hi
        go_wp2_with fail
        refine hin.out.mono ?_
        rintro e w' ⟨rfl, rfl⟩
        clear hin
        go_wp2_with fail
        go_loop [5] (fun i => ∃ q : Nat, q ≤ s.size ∧ i = .int .i64 q ∧ ∀ j (h : j < (nl s).length), j < q → (nl s)[j] = 46 ∨ (nl s)[j] = 45) (fun i => s.size - (intOf i).toNat)
        case atStart => exact ⟨0, by omega, rfl, fun j _ h => by omega⟩
        case round =>
          obtain ⟨q, hq, rfl, hby⟩ := hrel
          have HBY := Lib.hid hby
          clear hby
          by_cases hql : q < s.size
          · have hql' : decide ((q : Int) < (s.size : Int)) = true := by simpa using hql
            have HX := Lib.hid (nl_elem hql)
            have HLT := Lib.hid (nl_get hql)
            have x256 := (s[q]).toNat_lt
            have q0 : (0 : Int) ≤ (q : Int) := by omega
            have q1 : (q : Int) < (s.size : Int) := by omega
            obtain ⟨x, hx⟩ : ∃ x, (s[q]).toNat = x := ⟨_, rfl⟩
            rw [hx] at x256
            have HX2 := Lib.hid hx
            have HR : (x = 46 ∨ x = 45) → ∀ j (h : j < (nl s).length), j < q + 1 → (nl s)[j] = 46 ∨ (nl s)[j] = 45 := fun hq46 j h1 h2 => by
              by_cases e : j = q
              · subst e; rw [HX.out, HX2.out]; exact hq46
              · exact HBY.out j h1 (by omega)
            have HRR := Lib.hid HR
            clear HR
            by_cases e1 : x = 46
            · have e2 : ((x : Int) == 46) = true := by simp [e1]
              have e3 : ((x : Int) != 46) = false := by simp [e1]
              go_wp2_with fail
              go_round
              case rel => exact ⟨q + 1, by omega, by go_num, HRR.out (.inl e1)⟩
              case measure => simp [intOf]; omega
            · have e2 : ((x : Int) == 46) = false := by simp; omega
              have e3 : ((x : Int) != 46) = true := by simp; omega
              by_cases d1 : x = 45
              · have d2 : ((x : Int) == 45) = true := by simp [d1]
                have d3 : ((x : Int) != 45) = false := by simp [d1]
                go_wp2_with fail
                go_round
                case rel => exact ⟨q + 1, by omega, by go_num, HRR.out (.inr d1)⟩
                case measure => simp [intOf]; omega
              · have d2 : ((x : Int) == 45) = false := by simp; omega
                have d3 : ((x : Int) != 45) = true := by simp; omega
                go_wp2_with fail
                go_ret
                exact ⟨1, rfl, fun h => by omega, HB.out⟩
          · have hql' : decide ((q : Int) < (s.size : Int)) = false := by simpa using hql
            have hlet : LetOk s := ⟨by omega, by omega, fun x hx => by
              obtain ⟨j, hj, rfl⟩ := List.mem_iff_getElem.1 hx
              exact HBY.out j hj (by rw [nl_len] at hj; omega)⟩
            have HLET := Lib.hid hlet
            clear hlet
            go_wp2_with fail
            go_loop [6] (fun i => ∃ p : Nat, p ≤ k ∧ i = .int .i64 p ∧ ∀ j (h : j < cs.length), j < p → nl cs[j] ≠ nl s) (fun i => k - (intOf i).toNat)
            case atStart => exact ⟨0, by omega, rfl, fun j _ h => by omega⟩
            case round =>
              obtain ⟨p, hp, rfl, hne⟩ := hrel
              have HNE := Lib.hid hne
              clear hne
              by_cases hpl : p < k
              · have hpl' : decide ((p : Int) < (k : Int)) = true := by simpa using hpl
                obtain ⟨b', o', he', hc'⟩ := HA.out.at (k := p) (by omega)
                obtain ⟨rfl, rfl⟩ : b = b' ∧ o = o' := by simpa using he'
                obtain ⟨t, ht⟩ : ∃ t, cs[p] = t := ⟨_, rfl⟩
                rw [ht] at hc'
                have HT := Lib.hid ht
                clear ht he'
                have p0 : (0 : Int) ≤ (p : Int) := by omega
                have p1 : (p : Int) < (cs.length : Int) := by omega
                cases hts : (t.toList == s.toList) with
                | true =>
                  go_wp2_with fail
                  go_ret
                  exact ⟨1, rfl, fun h => by omega, HB.out⟩
                | false =>
                  have HTS := Lib.hid hts
                  go_wp2_with fail
                  go_round
                  case rel => exact ⟨p + 1, by omega, by go_num, fun j h1 h2 => by
                    by_cases e : j = p
                    · subst e
                      rw [HT.out]
                      intro h3
                      have := HTS.out
                      rw [str_eq, h3] at this
                      simp at this
                    · exact HNE.out j h1 (by omega)⟩
                  case measure => simp [intOf]; omega
              · have hpl' : decide ((p : Int) < (k : Int)) = false := by simpa using hpl
                go_wp2_with fail
                go_round
                case rel => exact ⟨k + 1, by omega, by go_num, fun j h1 h2 => by
                  by_cases e : j = k
                  · subst e; rw [HSK.out]; exact HLET.out
                  · exact HALL.out j h1 (by omega), fun q j h1 h2 h3 h4 => by
                  by_cases e : j = k
                  · subst e; rw [HSK.out]; exact HNE.out q h1 (by omega)
                  · exact HAP.out q j h1 h2 (by omega) h4⟩
                case measure => simp [intOf]; omega
    · have hlt' : decide ((k : Int) < (cs.length : Int)) = false := by simpa using hlt
      obtain rfl : k = cs.length := by omega
      by_cases h0 : cs.length = 0
      · have h0' : ((cs.length : Int) == 0) = true := by simpa using h0
        clear h0
        go_wp2_with fail
        go_ret
        exact ⟨1, rfl, fun h => by omega, HB.out⟩
      · have h0' : ((cs.length : Int) == 0) = false := by simpa using h0
        go_wp2_with fail
        go_ret
        exact ⟨0, rfl, fun _ => ⟨by omega, by omega, fun s hs => by
          obtain ⟨j, hj, rfl⟩ := List.mem_iff_getElem.1 hs
          exact HALL.out j hj hj, fun i j hi hj hij => HAP.out i j hi hj hj hij⟩, HB.out⟩
end
end Go.Proofs.Ytkloaeaepjoijaa
namespace Go.Proofs.Ytkloaeaepjoijaa
section
open Go.RowKit Go.WalkArith
theorem within2_any (n lo hi : Int) (w : World) :
    Calls Try.prog 90 #[.int .i64 n, .int .i64 lo, .int .i64 hi] w fun e w' => e = .returned (.bool (inB n lo hi)) ∧ w = w' := by
  by_cases h1 : lo ≤ n
  · by_cases h2 : n ≤ hi
    · go_enter Try.func90, Try.ntmps90
      go_wp2
      go_ret
      exact ⟨by simp [inB, h1, h2], rfl⟩
    · have h2' : decide (n ≤ hi) = false := by simpa using h2
      go_enter Try.func90, Try.ntmps90
      go_wp2
      go_ret
      exact ⟨by simp [inB, h2], rfl⟩
  · have h1' : decide (lo ≤ n) = false := by simpa using h1
    go_enter Try.func90, Try.ntmps90
    go_wp2
    go_ret
    exact ⟨by rw [show inB n lo hi = false from (by unfold inB; rw [decide_eq_false_iff_not]; omega)]; rfl, rfl⟩
theorem call137 (args : Array Value) (w : World) : (callFunc 137 args).run Try.prog w = ((Extern.BytealgIndexByte.indexByte args).run Try.prog w).andThen fun v w' => .ok (.value v) w' :=
  run_callFunc_extern Try.func137 (by kernel_rfl) (by kernel_rfl) (by kernel_rfl) (by kernel_rfl) args w
theorem idx_run (S : ByteArray) (x i : Int) (h : firstIdx S x.toNat.toUInt8 = i) (w : World) : (callFunc 137 #[.string S, .int .u8 x]).run Try.prog w = .ok (.value (.int .i64 i)) w := by
  rw [call137, run_indexByte_string, h]; rfl
/-- A byte is one of a string's. -/
def InS (S : ByteArray) (x : Int) : Prop := ∃ i : Nat, i ≤ 100 ∧ firstIdx S x.toNat.toUInt8 = i
theorem inS2 {x : Nat} (h : x = 46 ∨ x = 45) : InS ⟨#[46, 45]⟩ x := by
  rcases h with rfl | rfl
  · exact ⟨0, by omega, rfl⟩
  · exact ⟨1, by omega, rfl⟩
theorem inS3 {x : Nat} (h : x = 46 ∨ x = 45 ∨ x = 32) : InS ⟨#[46, 45, 32]⟩ x := by
  rcases h with rfl | rfl | rfl
  · exact ⟨0, by omega, rfl⟩
  · exact ⟨1, by omega, rfl⟩
  · exact ⟨2, by omega, rfl⟩
set_option maxHeartbeats 1000000 in
theorem index134_any (S : ByteArray) (x : Int) (i : Nat) (h : firstIdx S x.toNat.toUInt8 = i) (w : World) :
    Calls Try.prog 134 #[.string S, .int .u8 x] w fun e w' => e = .returned (.int .i64 i) ∧ w = w' := by
  have hr := idx_run S x i h
  clear h
  go_enter Try.func134, Try.ntmps134
  go_wp2_with fail
  go_ret
  exact ⟨rfl, rfl⟩
theorem index126_any (S : ByteArray) (x : Int) (i : Nat) (h : firstIdx S x.toNat.toUInt8 = i) (w : World) :
    Calls Try.prog 126 #[.string S, .int .u8 x] w fun e w' => e = .returned (.int .i64 i) ∧ w = w' := by
  have hc := Lib.hid (index134_any S x i h w)
  clear h
  go_enter Try.func126, Try.ntmps126
  go_wp2_with fail
  refine hc.out.mono ?_
  rintro e w' ⟨rfl, rfl⟩
  go_wp2_with fail
  go_ret
  exact ⟨rfl, rfl⟩
theorem has109_any (S : ByteArray) (m x : Int) (w : World) (h : InS S x) :
    Calls Try.prog 109 #[.agg #[.string S, .int .i64 m], .int .u8 x] w fun e w' => e = .returned (.bool true) ∧ Below w.heap.size w w' := by
  obtain ⟨i, hi, h⟩ := h
  have hc := Lib.hid (fun X => index126_any S x i h X)
  have HB := Lib.hid (show Below w.heap.size w (w.alloc (.cells #[.string S, .int .i64 m] 156)) from (Below.refl _ _).alloc (Nat.le_refl _) _)
  clear h
  go_enter Try.func109, Try.ntmps109
  go_wp2_with fail
  refine (hc.out _).mono ?_
  rintro e w' ⟨rfl, rfl⟩
  go_wp2_with fail
  go_ret
  exact ⟨rfl, HB.out⟩
theorem notHas_any (S : ByteArray) (m x : Int) (fb : Nat) (w : World) (h : InS S x) (hf : w.cell? ⟨fb, 0, none⟩ = some (.func (.func 109) #[.agg #[.string S, .int .i64 m]] #[])) :
    Calls Try.prog 128 #[.int .u8 x, .pointer (some ⟨fb, 0, none⟩)] w fun e w' => e = .returned (.bool false) ∧ Below w.heap.size w w' := by
  have hc := Lib.hid (has109_any S m x w h)
  clear h
  go_enter Try.func128, Try.ntmps128
  go_wp2_with fail
  refine hc.out.mono ?_
  rintro e w' ⟨rfl, hb⟩
  have HB := Lib.hid hb
  clear hb hf
  go_wp2_with fail
  go_ret
  exact ⟨rfl, HB.out⟩
/-- The bytes of a string from a block's first cell on. -/
def BytesAt (W : World) (g : Nat) (s : ByteArray) : Prop := ∀ i (h : i < (nl s).length), W.cell? ⟨g, i, none⟩ = some (.int .u8 ((nl s)[i] : Nat))
theorem BytesAt.keep {W W' : World} {g : Nat} {s : ByteArray} {B : Nat} (h : BytesAt W g s) (hb : Below B W W') (hB : W.heap.size ≤ B) : BytesAt W' g s :=
  fun i hi => (hb.cell (p := ⟨g, i, none⟩) (Nat.lt_of_lt_of_le (World.block_lt_of_cell? W _ (h i hi)) hB)).trans (h i hi)
set_option maxRecDepth 100000 in
set_option maxHeartbeats 1000000 in
theorem indexFunc135_any (S s : ByteArray) (m : Int) (g cap fb : Nat) (w : World) (hS : ∀ x ∈ nl s, InS S x) (hs : s.size ≤ 1000) (hb : BytesAt w g s) (hf : w.cell? ⟨fb, 0, none⟩ = some (.func (.func 109) #[.agg #[.string S, .int .i64 m]] #[])) :
    Calls Try.prog 135 #[.slice (some ⟨g, 0, none⟩) s.size cap, .func (.func 128) #[] #[.pointer (some ⟨fb, 0, none⟩)]] w fun e w' => e = .returned (.int .i64 (-1)) ∧ Below w.heap.size w w' := by
  have HS := Lib.hid hS
  have HBY := Lib.hid hb
  have HF := Lib.hid hf
  clear hS hb hf
  go_enter Try.func135, Try.ntmps135
  go_wp2_with fail
  go_loopw [8] (fun i wr => ∃ k : Nat, k ≤ s.size ∧ i = .int .i64 k ∧ Below w.heap.size w wr) (fun i _ => s.size - (intOf i).toNat)
  case atStart => exact ⟨0, by omega, rfl, Below.refl _ _⟩
  case round =>
    obtain ⟨k, hk, rfl, hbe⟩ := hrel
    have HBE := Lib.hid hbe
    by_cases hlt : k < s.size
    · have hlt' : decide ((k : Int) < (s.size : Int)) = true := by simpa using hlt
      have hkl : k < (nl s).length := by rw [nl_len]; exact hlt
      have c0 := cell_later hbe (HBY.out k hkl)
      have hin := HS.out _ (List.getElem_mem hkl)
      obtain ⟨x, hx⟩ : ∃ x, (nl s)[k] = x := ⟨_, rfl⟩
      rw [hx] at c0 hin
      have hc := Lib.hid (notHas_any S m (x : Int) fb wr hin (cell_later hbe HF.out))
      have i0 : (0 : Int) ≤ (k : Int) := by omega
      have i1 : (k : Int) < (s.size : Int) := by omega
      clear hbe hx hin hkl
      go_wp2_with fail
      refine hc.out.mono ?_
      rintro e w' ⟨rfl, hb⟩
      have HB2 := Lib.hid (HBE.out.trans (hb.mono HBE.out.size))
      clear hb c0 hc
      go_wp2_with fail
      go_roundw
      case rel => exact ⟨k + 1, by omega, by go_num, HB2.out⟩
      case measure => simp [intOf]; omega
    · have hlt' : decide ((k : Int) < (s.size : Int)) = false := by simpa using hlt
      clear hbe
      go_wp2_with fail
      go_ret
      exact ⟨rfl, HBE.out⟩
theorem contains127_any (S s : ByteArray) (m : Int) (g cap fb : Nat) (w : World) (hS : ∀ x ∈ nl s, InS S x) (hs : s.size ≤ 1000) (hb : BytesAt w g s) (hf : w.cell? ⟨fb, 0, none⟩ = some (.func (.func 109) #[.agg #[.string S, .int .i64 m]] #[])) :
    Calls Try.prog 127 #[.slice (some ⟨g, 0, none⟩) s.size cap, .func (.func 128) #[] #[.pointer (some ⟨fb, 0, none⟩)]] w fun e w' => e = .returned (.bool false) ∧ Below w.heap.size w w' := by
  have hc := Lib.hid (indexFunc135_any S s m g cap fb w hS hs hb hf)
  clear hS hb hf
  go_enter Try.func127, Try.ntmps127
  go_wp2_with fail
  refine hc.out.mono ?_
  rintro e w' ⟨rfl, hb⟩
  have HB := Lib.hid hb
  clear hb
  go_wp2_with fail
  go_ret
  exact ⟨rfl, HB.out⟩
theorem all111_any (S s : ByteArray) (m : Int) (g cap : Nat) (w : World) (hS : ∀ x ∈ nl s, InS S x) (hs : s.size ≤ 1000) (hb : BytesAt w g s) :
    Calls Try.prog 111 #[.slice (some ⟨g, 0, none⟩) s.size cap, .func (.func 109) #[.agg #[.string S, .int .i64 m]] #[]] w fun e w' => e = .returned (.bool true) ∧ Below w.heap.size w w' := by
  have hB : Below w.heap.size w (w.alloc (.cells #[.func (.func 109) #[.agg #[.string S, .int .i64 m]] #[]] 159)) := (Below.refl _ _).alloc (Nat.le_refl _) _
  have hc := Lib.hid (contains127_any S s m g cap w.heap.size (w.alloc (.cells #[.func (.func 109) #[.agg #[.string S, .int .i64 m]] #[]] 159)) hS hs (hb.keep hB (Nat.le_refl _)) (by
    have := Go.heap_alloc_new w (.cells #[.func (.func 109) #[.agg #[.string S, .int .i64 m]] #[]] 159)
    simp only [World.cell?, this]; rfl))
  have HB := Lib.hid hB
  clear hS hb hB
  go_enter Try.func111, Try.ntmps111
  go_wp2_with fail
  refine hc.out.mono ?_
  rintro e w' ⟨rfl, hb⟩
  have HB2 := Lib.hid (HB.out.trans (hb.mono HB.out.size))
  clear hb
  go_wp2_with fail
  go_ret
  exact ⟨rfl, HB2.out⟩
/-- What a string's bytes are copied to. -/
theorem bytes_conv (W : World) (s : ByteArray) : ∃ cap W', (convert 9 161 (.string s)).run Try.prog W = .ok (.slice (some ⟨W.heap.size, 0, none⟩) s.size cap) W' ∧ BytesAt W' W.heap.size s ∧ Below W.heap.size W W' := by
  refine ⟨_, _, run_bytes_of_string W 9 161 5 s Try.underlying9 Try.underlying161 Try.underlying5, fun i hi => ?_, (Below.refl _ W).drew.alloc (Nat.le_refl _) _⟩
  have hi' : i < s.size := by rw [nl_len] at hi; exact hi
  have hh := Go.heap_alloc_new W.drew (.cells (bytesRow s (grownCap W s.size 0 5)) 5 ((bytesRow s (grownCap W s.size 0 5)).size, (bytesRow s (grownCap W s.size 0 5)).size + 1))
  have hh2 : (W.drew.alloc (.cells (bytesRow s (grownCap W s.size 0 5)) 5 ((bytesRow s (grownCap W s.size 0 5)).size, (bytesRow s (grownCap W s.size 0 5)).size + 1))).heap[W.heap.size]? = some (.cells (bytesRow s (grownCap W s.size 0 5)) 5 ((bytesRow s (grownCap W s.size 0 5)).size, (bytesRow s (grownCap W s.size 0 5)).size + 1)) := hh
  have hrow : (bytesRow s (grownCap W s.size 0 5))[i]? = some (.int .u8 ((nl s)[i] : Nat)) := by
    unfold bytesRow
    rw [Array.getElem?_append_left (by simpa using hi'), Array.getElem?_map]
    rw [nl_elem hi']
    have : s.data[i]? = some s[i] := Array.getElem?_eq_getElem (show i < s.data.size from hi')
    rw [this]; rfl
  simp only [World.cell?, hh2, hrow]
  rfl
end
end Go.Proofs.Ytkloaeaepjoijaa
namespace Go.Proofs.Ytkloaeaepjoijaa
section
open Go
section
variable {P : Program} {ops : Array Oper} {Q : Exit → Act → World → Prop} {md : Region.Mode} {S : World → Prop} {ts : List Nat}
/-- Whatever order is picked from here on; S holds behind every operation that is carried out, but for those of ts. -/
def wpAnyT (P : Program) (md : Region.Mode) (ops : Array Oper) (Q : Exit → Act → World → Prop) (S : World → Prop) (ts : List Nat) : Nat → Array Bool → Act → World → Prop
  | 0, listed, a, w => Region.ready md ops listed = [] ∧ Q .normal a w
  | fuel + 1, listed, a, w =>
    (Region.ready md ops listed = [] → Q .normal a w) ∧
    ∀ i ∈ Region.ready md ops listed, wpOp P ops Q i (fun a' w' => (ts.contains i = false → S w') ∧ wpAnyT P md ops Q S ts fuel (listed.setIfInBounds i true) a' w') a w
theorem wpAny_of_T : ∀ (fuel : Nat) (listed : Array Bool) (a : Act) (w : World), wpAnyT P md ops Q S ts fuel listed a w → wpAny P md ops Q fuel listed a w
  | 0, _, _, _, h => h
  | fuel + 1, _, _, _, h => ⟨h.1, fun i hi => wpOp_mono (fun a' w' h' => wpAny_of_T fuel _ a' w' h'.2) (h.2 i hi)⟩
theorem wpAnyT_first {i : Nat} {oi : Oper} {v : Value} (hi : ops[i]? = some oi) (hsel : ∀ (j : Nat) (o : Oper) cs b, ops[j]? = some o → o.op ≠ .select cs b)
    (hQ : ∀ c a w, Q (.panic c) (a.put oi.dst v) w → Q (.panic c) a w) (hT : ∀ t, ts.contains t = true → ∀ o, ops[t]? = some o → ∃ e ∈ o.after, Region.binds md e = true ∧ e.on = i) :
    ∀ (fuel : Nat) (listed : Array Bool) (a : Act) (w : World),
      (∀ j oj, ops[j]? = some oj → j ≠ i → listed.getD j true = false → (∀ e ∈ oj.after, Region.binds md e = true → e.on ≠ i) → oi.apart ops oj = true) →
      i ∈ Region.ready md ops listed → YieldsIf P ops S oi v a → S w →
      wpAnyT P md ops Q S ts fuel (listed.setIfInBounds i true) (a.put oi.dst v) w → wpAnyT P md ops Q S ts (fuel + 1) listed a w := by
  intro fuel
  induction fuel with
  | zero =>
    intro listed a w _ hr hy hS H
    refine ⟨fun h => (by rw [h] at hr; cases hr), fun j hj => ?_⟩
    by_cases hji : j = i
    · subst hji; exact hy.wpOp hi hS ⟨fun _ => hS, H⟩
    · have := ready_mono hj hji
      rw [H.1] at this
      cases this
  | succ fuel ih =>
    intro listed a w hfree hr hy hS H
    refine ⟨fun h => (by rw [h] at hr; cases hr), fun j hj => ?_⟩
    by_cases hji : j = i
    · subst hji; exact hy.wpOp hi hS ⟨fun _ => hS, H⟩
    · have h1 := H.2 j (ready_mono hj hji)
      obtain ⟨hjun, oj, hoj, hall⟩ := mem_ready.1 hj
      have hnot : ∀ e ∈ oj.after, Region.binds md e = true → e.on ≠ i := fun e he hb heq => by
        have h1 := hall e he hb
        have h0 := (mem_ready.1 hr).1
        rw [heq] at h1
        rcases Nat.lt_or_ge i listed.size with h' | h'
        · simp [h'] at h0 h1; rw [h0] at h1; cases h1
        · simp [Array.getElem?_eq_none h'] at h1
      have hjT : ts.contains j = false := by
        cases e : ts.contains j with
        | false => rfl
        | true =>
          obtain ⟨e, he, hb, heq⟩ := hT j e oj hoj
          exact absurd heq (hnot e he hb)
      have h2 := wpOp_putIf hoj (hfree j oj hoj hji hjun hnot) (fun cs b => hsel i oi cs b hi) (fun cs b => hsel j oj cs b hoj) hQ hy h1
      have hfree' : ∀ k ok, ops[k]? = some ok → k ≠ i → (listed.setIfInBounds j true).getD k true = false →
          (∀ e ∈ ok.after, Region.binds md e = true → e.on ≠ i) → oi.apart ops ok = true := fun k ok hk hki hun hno => by
        refine hfree k ok hk hki ?_ hno
        by_cases hjk : j = k
        · subst hjk; exact hjun
        · rw [getD_set_ne true hjk] at hun; exact hun
      refine wpOp_mono (fun a' w' h3 => ⟨h3.2.1, ih (listed.setIfInBounds j true) a' w' hfree' (ready_mono hr (Ne.symm hji)) h3.1 (h3.2.1 hjT) ?_⟩) h2
      rw [Array.setIfInBounds_comm _ _ hji]
      exact h3.2.2
/-- All operations of ts wait for number i. -/
def waitsB (md : Region.Mode) (ops : Array Oper) (ts : List Nat) (i : Nat) : Bool :=
  ts.all fun t => match ops[t]? with
    | some o => o.after.any fun e => Region.binds md e && e.on == i
    | none => true
theorem wpAnyT_take {i : Nat} {oi : Oper} {v : Value} {fuel : Nat} {listed : Array Bool} {a : Act} {w : World} (hi : ops[i]? = some oi)
    (hs : Region.noSelect ops = true) (hf : Region.free md ops listed i = true) (hr : (Region.ready md ops listed).contains i = true) (ht : waitsB md ops ts i = true)
    (hQ : ∀ c a w, Q (.panic c) (a.put oi.dst v) w → Q (.panic c) a w) (hy : YieldsIf P ops S oi v a) (hS : S w)
    (h : wpAnyT P md ops Q S ts fuel (listed.setIfInBounds i true) (a.put oi.dst v) w) : wpAnyT P md ops Q S ts (fuel + 1) listed a w :=
  wpAnyT_first hi (Region.noSelect_spec hs) hQ (fun t h1 o h2 => by
    have h3 := List.all_eq_true.1 ht t (by simpa using h1)
    rw [h2] at h3
    obtain ⟨e, he, h4⟩ := Array.any_eq_true'.1 h3
    rw [Bool.and_eq_true, beq_iff_eq] at h4
    exact ⟨e, he, h4.1, h4.2⟩) fuel listed a w (Region.free_spec hi hf) (by simpa using hr) hy hS h
/-- One operation comes up next. -/
theorem wpAnyT_one {i : Nat} {o : Oper} {fuel : Nat} {listed : Array Bool} {a : Act} {w : World} (hr : Region.ready md ops listed = [i]) (ho : ops[i]? = some o)
    (h : ∀ K' : Act → World → Prop, Shut (∀ a w, (ts.contains i = false → S w) → ((ts.contains i = false → S w) → wpAnyT P md ops Q S ts fuel (listed.setIfInBounds i true) a w) → K' a w) → if Region.wanted o (yielded ops a.tmps) = true then Oper.wp P o a w K' Q else K' (a.put o.dst undef) w) :
    wpAnyT P md ops Q S ts (fuel + 1) listed a w :=
  ⟨fun h0 => (by rw [hr] at h0; cases h0), fun j hj => by
    rw [hr] at hj
    obtain rfl := List.mem_singleton.1 hj
    exact wpOp_step ho (fun K' hK => h K' (fun a w h1 h2 => hK a w ⟨h1, h2 h1⟩))⟩
theorem wpAnyT_done {listed : Array Bool} {a : Act} {w : World} (hr : Region.ready md ops listed = []) (h : Q .normal a w) : ∀ fuel, wpAnyT P md ops Q S ts fuel listed a w
  | 0 => ⟨hr, h⟩
  | _ + 1 => ⟨fun _ => h, by rw [hr]; simp⟩
theorem wp_region_T (ts : List Nat) {id : Nat} {a : Act} {w : World} (hm : P.follows .mixedOrders = true) (hS : S w.drew)
    (h : S w.drew → wpAnyT P .any ops Q S ts ops.size (Array.replicate ops.size false) a w.drew) : (Code.region id ops true).wp P Q a w :=
  wp_region_any hm (wpAny_of_T _ _ _ _ (h hS))
end
end
end Go.Proofs.Ytkloaeaepjoijaa

/-
  levels: is one of some numbers in a row.
-/
import Derived.Test.YtefhdcecbmgljaaLevA
set_option linter.all false
namespace Go.Proofs.Ytefhdcecbmgljaa
open Go.RowKit Go.WalkArith

theorem inRow_any (Bo Bi g n cap i y : Nat) (f : Nat → Bool) (W : World) (hi : i + 1 < n) (hy : y < 401) (hn : n ≤ 100) (c0 : W.cell? ⟨Bo, 0, none⟩ = some (.slice (some ⟨g, 0, none⟩) n cap)) (c1 : W.cell? ⟨Bi, 0, none⟩ = some (.int .i64 i)) (c2 : W.cell? ⟨g, (i + 1) * 401 + y, none⟩ = some (.bool (f y))) :
    Calls Try.prog 106 #[.int .i64 y, .pointer (some ⟨Bo, 0, none⟩), .pointer (some ⟨Bi, 0, none⟩)] W fun e w' => e = .returned (.bool (f y)) ∧ W = w' := by
  have a0 : (0 : Int) ≤ (i : Int) + 1 := by omega
  have a1 : (i : Int) + 1 < (n : Int) := by omega
  have a2 : (0 : Int) ≤ (y : Int) := by omega
  have a3 : (y : Int) < 401 := by omega
  have a4 : (i : Int) ≤ 1000 := by omega
  have e1 : ((i : Int) + 1).toNat = i + 1 := by omega
  go_enter Try.func106, Try.ntmps106
  go_wp2
  go_ret
  exact ⟨rfl, rfl⟩
/-- How the search for an index ends. -/
def IxPost (b : Bool) (W : World) (e : Ending) (w' : World) : Prop := ∃ v : Int, e = .returned (.int .i64 v) ∧ decide (0 ≤ v) = b ∧ W = w'

set_option maxHeartbeats 1000000 in
theorem inRowIx_any (Bo Bi g n cap i : Nat) (f : Nat → Bool) (lA : Option Addr) (lc : Nat) (l : List Int) (W : World) (hi : i + 1 < n) (hn : n ≤ 100) (hl : l.length ≤ 1000) (hy : ∀ y ∈ l, 0 ≤ y ∧ y ≤ 400) (hL : IntsAt W (.slice lA l.length lc) l) (c0 : W.cell? ⟨Bo, 0, none⟩ = some (.slice (some ⟨g, 0, none⟩) n cap)) (c1 : W.cell? ⟨Bi, 0, none⟩ = some (.int .i64 i)) (c2 : ∀ y, y < 401 → W.cell? ⟨g, (i + 1) * 401 + y, none⟩ = some (.bool (f y))) :
    Calls Try.prog 120 #[.slice lA l.length lc, .func (.func 106) #[] #[.pointer (some ⟨Bo, 0, none⟩), .pointer (some ⟨Bi, 0, none⟩)]] W (IxPost (l.any fun y => f y.toNat) W) := by
  have HY := Lib.hid hy
  have HL := Lib.hid hL
  have hin := Lib.hid (fun y hy => inRow_any Bo Bi g n cap i y f W hi hy hn c0 c1 (c2 y hy))
  clear hy hL c0 c1 c2
  go_enter Try.func120, Try.ntmps120
  go_wp2_with fail
  go_loop [8] (fun v => ∃ k : Nat, k ≤ l.length ∧ v = .int .i64 k ∧ (l.take k).any (fun y => f y.toNat) = false) (fun v => l.length - (intOf v).toNat)
  case atStart => exact ⟨0, by omega, rfl, by simp⟩
  case round =>
    obtain ⟨k, hk, rfl, hno⟩ := hrel
    have HNO := Lib.hid hno
    clear hno
    by_cases hlt : k < l.length
    · have hlt' : decide ((k : Int) < (l.length : Int)) = true := by simp; omega
      obtain ⟨bl, ol, rfl, e0⟩ := HL.out.at hlt
      have hxb := HY.out (atL l k) (by rw [atL_at hlt]; exact List.getElem_mem hlt)
      have i0 : (0 : Int) ≤ (k : Int) := by omega
      have i1 : (k : Int) < (l.length : Int) := by omega
      obtain ⟨y, hy⟩ := Int.eq_ofNat_of_zero_le hxb.1
      have htk : l.take (k + 1) = l.take k ++ [(y : Int)] := by rw [List.take_succ_eq_append_getElem hlt, ← atL_at hlt, hy]
      have hgy : l[k] = (y : Int) := by rw [← atL_at hlt, hy]
      rw [hy] at e0 hxb
      have HTK := Lib.hid htk
      have HGY := Lib.hid hgy
      clear htk hy hgy
      have hc := hin.out y (by omega)
      cases hfy : f y with
      | true =>
        rw [hfy] at hc
        have HC := Lib.hid hc
        have HFY := Lib.hid hfy
        clear hfy hc
        go_wp2_with fail
        refine HC.out.mono ?_
        rintro e w' ⟨rfl, rfl⟩
        go_wp2_with fail
        go_ret
        refine ⟨k, rfl, ?_, rfl⟩
        have : l.any (fun y => f y.toNat) = true := List.any_eq_true.2 ⟨l[k], List.getElem_mem hlt, by rw [HGY.out]; simpa using HFY.out⟩
        rw [this]; simp
      | false =>
        rw [hfy] at hc
        have HC := Lib.hid hc
        have HFY := Lib.hid hfy
        clear hfy hc
        go_wp2_with fail
        refine HC.out.mono ?_
        rintro e w' ⟨rfl, rfl⟩
        go_wp2_with fail
        go_round
        case rel => exact ⟨k + 1, by omega, by go_num, by rw [HTK.out, List.any_append, HNO.out]; simpa using HFY.out⟩
        case measure => simp [intOf]; omega
    · have hlt' : decide ((k : Int) < (l.length : Int)) = false := by simp; omega
      obtain rfl : k = l.length := by omega
      go_wp2_with fail
      go_ret
      refine ⟨-1, rfl, ?_, rfl⟩
      have := HNO.out
      rw [List.take_length] at this
      rw [this]; rfl

theorem inRowAny_any (Bo Bi g n cap i : Nat) (f : Nat → Bool) (lA : Option Addr) (lc : Nat) (l : List Int) (W : World) (hi : i + 1 < n) (hn : n ≤ 100) (hl : l.length ≤ 1000) (hy : ∀ y ∈ l, 0 ≤ y ∧ y ≤ 400) (hL : IntsAt W (.slice lA l.length lc) l) (c0 : W.cell? ⟨Bo, 0, none⟩ = some (.slice (some ⟨g, 0, none⟩) n cap)) (c1 : W.cell? ⟨Bi, 0, none⟩ = some (.int .i64 i)) (c2 : ∀ y, y < 401 → W.cell? ⟨g, (i + 1) * 401 + y, none⟩ = some (.bool (f y))) :
    Calls Try.prog 105 #[.slice lA l.length lc, .func (.func 106) #[] #[.pointer (some ⟨Bo, 0, none⟩), .pointer (some ⟨Bi, 0, none⟩)]] W fun e w' => e = .returned (.bool (l.any fun y => f y.toNat)) ∧ W = w' := by
  have hix := Lib.hid (inRowIx_any Bo Bi g n cap i f lA lc l W hi hn hl hy hL c0 c1 c2)
  clear hy hL c0 c1 c2
  go_enter Try.func105, Try.ntmps105
  go_wp2_with fail
  refine hix.out.mono ?_
  rintro e w' ⟨v, rfl, hv, rfl⟩
  have HV := Lib.hid hv
  clear hv
  go_wp2_with fail
  go_ret
  exact ⟨by rw [← HV.out]; rfl, rfl⟩

/-- The rows, once all were found: they lie where they lie. -/
structure OutG (W : World) (Bo g cap n : Nat) (F : Nat → Nat → Bool) : Prop where
  var : W.heap[Bo]? = some (.cells #[.slice (some ⟨g, 0, none⟩) n cap] 121 (0, 0))
  own : ∃ xs, W.ownsRow (Bo + 1) 139 401 (.slice (some ⟨g, 0, none⟩) n cap) n xs ∧ RowsV xs n F
theorem own_cellF {w : World} {base g n cap : Nat} {xs : List Value} (h : w.ownsRow base 139 401 (.slice (some ⟨g, 0, none⟩) n cap) n xs) : (∀ k v, xs[k]? = some v → w.cell? ⟨g, k, none⟩ = some v) ∧ ∀ k, w.frozen? ⟨g, k, none⟩ = false := by
  obtain ⟨_, ⟨h0, _⟩ | ⟨g', cap', cur, h1, h2, h3, h4, h5, h6, h7⟩⟩ := h
  · cases h0
  · cases h1
    refine ⟨fun k v hk => ?_, fun k => by simp [World.frozen?, h3]⟩
    rw [← h7] at hk
    have hlt : k < n * 401 := by
      have := (List.getElem?_eq_some_iff.1 hk).1
      rw [List.length_take] at this
      omega
    rw [List.getElem?_take_of_lt hlt] at hk
    have : cur[k]? = some v := by simpa using hk
    simp [World.cell?, h3, this]
theorem own_setF {w : World} {base g n cap : Nat} {xs : List Value} (h : w.ownsRow base 139 401 (.slice (some ⟨g, 0, none⟩) n cap) n xs) (k : Nat) (v : Value) : (w.setCell ⟨g, k, none⟩ v).ownsRow base 139 401 (.slice (some ⟨g, 0, none⟩) n cap) n (xs.set k v) := by
  obtain ⟨hl, ⟨h0, _⟩ | ⟨g', cap', cur, h1, h2, h3, h4, h5, h6, h7⟩⟩ := h
  · cases h0
  · cases h1
    refine ⟨by simpa using hl, .inr ⟨g, cap, cur.setIfInBounds k v, rfl, h2, by simp [World.setCell, Array.getElem?_modify, h3], h4, h5, by simpa using h6, ?_⟩⟩
    rw [Array.toList_setIfInBounds, ← h7, List.take_set]
section
variable {W W' : World} {Bo g cap n : Nat} {F : Nat → Nat → Bool}
theorem OutG.cell (h : OutG W Bo g cap n F) {j x : Nat} (hj : j < n) (hx : x < 401) : W.cell? ⟨g, j * 401 + x, none⟩ = some (.bool (F j x)) := by
  obtain ⟨xs, h1, h2⟩ := h.own
  exact (own_cellF h1).1 _ _ (h2.2 j x hj hx)
theorem OutG.frozen (h : OutG W Bo g cap n F) (k : Nat) : W.frozen? ⟨g, k, none⟩ = false := by
  obtain ⟨xs, h1, h2⟩ := h.own
  exact (own_cellF h1).2 k
theorem OutG.lts (h : OutG W Bo g cap n F) : Bo < g ∧ g < W.heap.size ∧ Bo < W.heap.size := by
  obtain ⟨xs, h1, h2⟩ := h.own
  have := h1.lt g rfl
  exact ⟨by omega, this.2, (Array.getElem?_eq_some_iff.1 h.var).1⟩
theorem OutG.keep (h : OutG W Bo g cap n F) (hb : Below W.heap.size W W') : OutG W' Bo g cap n F := by
  obtain ⟨xs, h1, h2⟩ := h.own
  exact ⟨(hb.block _ h.lts.2.2).trans h.var, xs, h1.kept (Go_grown_of_below hb) (own_none _), h2⟩
theorem OutG.set (h : OutG W Bo g cap n F) {i x : Nat} (hi : i < n) (hx : x < 401) (v : Bool) : OutG (W.setCell ⟨g, i * 401 + x, none⟩ (.bool v)) Bo g cap n (fun j => if j = i then setF (F i) x v else F j) := by
  have hl := h.lts
  obtain ⟨xs, h1, h2⟩ := h.own
  exact ⟨(Below.heap_setCell _ _ _ _ (show Bo ≠ g by omega)).trans h.var, _, own_setF h1 _ _, h2.set hi hx v⟩
theorem OutG.other (h : OutG W Bo g cap n F) {B : Nat} (h1 : Bo ≠ B) (h2 : g ≠ B) (o : Nat) (x : Value) : OutG (W.setCell ⟨B, o, none⟩ x) Bo g cap n F := by
  obtain ⟨xs, g1, g2⟩ := h.own
  have hs : ∀ j, j ≠ B → (W.setCell ⟨B, o, none⟩ x).heap[j]? = W.heap[j]? := fun j hj => Below.heap_setCell _ _ _ _ hj
  exact ⟨(hs _ h1).trans h.var, xs, g1.kept (row := some B) ⟨rfl, rfl, rfl, by simp, fun j _ hj => hs j (fun e => hj (by rw [e]))⟩ (.inr (fun e => h2 (by simpa [Value.ownBlock] using e))), g2⟩
theorem OutG.congr {G : Nat → Nat → Bool} (h : OutG W Bo g cap n F) (hg : ∀ j x, j < n → x < 401 → G j x = F j x) : OutG W Bo g cap n G := by
  obtain ⟨xs, g1, g2⟩ := h.own
  exact ⟨h.var, xs, g1, g2.congr hg⟩
theorem OutG.of_at {N : Nat} (h : OutAt N W Bo n F) (hn : 0 < n) : ∃ g cap, OutG W Bo g cap n F := by
  obtain ⟨v, xs, h1, h2, h3, h4⟩ := h
  obtain ⟨hl, ⟨_, h0⟩ | ⟨g, cap, cur, rfl, h5⟩⟩ := h2
  · omega
  · exact ⟨g, cap, h1, xs, ⟨hl, .inr ⟨g, cap, cur, rfl, h5⟩⟩, h3⟩
/-- One row, as cells. -/
theorem OutG.row (h : OutG W Bo g cap n F) {i : Nat} (hi : i < n) : ∃ cs : List Value, RowV cs.toArray (F i) ∧ W.rangeAt g (i * 401) cs := by
  obtain ⟨xs, h1, h2⟩ := h.own
  have hle : (i + 1) * 401 ≤ n * 401 := Nat.mul_le_mul_right _ hi
  refine ⟨(xs.drop (i * 401)).take 401, ⟨by simp [h2.1]; omega, fun x hx => ?_⟩, fun j v hj => ?_⟩
  · have := h2.2 i x hi hx
    simp only [List.getElem?_toArray]
    rw [List.getElem?_take_of_lt hx, List.getElem?_drop]
    exact this
  · have hj' : j < 401 := by
      have := (List.getElem?_eq_some_iff.1 hj).1
      rw [List.length_take] at this
      omega
    rw [List.getElem?_take_of_lt hj', List.getElem?_drop] at hj
    exact (own_cellF h1).1 _ _ hj
end
theorem cells_of {W W' : World} {g Bo Bi Bs Bp : Nat} {a b c0 c1 c2 c3 c4 p0 p1 : Value} (h : ∀ B, B ≠ g → W'.heap[B]? = W.heap[B]?) (h1 : Bo ≠ g) (h2 : Bi ≠ g) (h3 : Bs ≠ g) (h4 : Bp ≠ g)
    (hc : W.cell? ⟨Bo, 0, none⟩ = some a ∧ W.cell? ⟨Bi, 0, none⟩ = some b ∧ W.cell? ⟨Bs, 0, none⟩ = some c0 ∧ W.cell? ⟨Bs, 1, none⟩ = some c1 ∧ W.cell? ⟨Bs, 2, none⟩ = some c2 ∧ W.cell? ⟨Bs, 3, none⟩ = some c3 ∧ W.cell? ⟨Bs, 4, none⟩ = some c4 ∧ W.cell? ⟨Bp, 0, none⟩ = some p0 ∧ W.cell? ⟨Bp, 1, none⟩ = some p1) :
    W'.cell? ⟨Bo, 0, none⟩ = some a ∧ W'.cell? ⟨Bi, 0, none⟩ = some b ∧ W'.cell? ⟨Bs, 0, none⟩ = some c0 ∧ W'.cell? ⟨Bs, 1, none⟩ = some c1 ∧ W'.cell? ⟨Bs, 2, none⟩ = some c2 ∧ W'.cell? ⟨Bs, 3, none⟩ = some c3 ∧ W'.cell? ⟨Bs, 4, none⟩ = some c4 ∧ W'.cell? ⟨Bp, 0, none⟩ = some p0 ∧ W'.cell? ⟨Bp, 1, none⟩ = some p1 := by
  obtain ⟨x0, x1, x2, x3, x4, x5, x6, x7, x8⟩ := hc
  have k := fun (B o : Nat) (hB : B ≠ g) => World.cell?_of_block (a := ⟨B, o, none⟩) (h B hB)
  exact ⟨(k _ _ h1).trans x0, (k _ _ h2).trans x1, (k _ _ h3).trans x2, (k _ _ h3).trans x3, (k _ _ h3).trans x4, (k _ _ h3).trans x5, (k _ _ h3).trans x6, (k _ _ h4).trans x7, (k _ _ h4).trans x8⟩
theorem keepS9 {W W' : World} {a b c d e f g h i : Addr} {x1 x2 x3 x4 x5 x6 x7 x8 x9 : Value} (hb : Below W.heap.size W W') (hS : W.cell? a = some x1 ∧ W.cell? b = some x2 ∧ W.cell? c = some x3 ∧ W.cell? d = some x4 ∧ W.cell? e = some x5 ∧ W.cell? f = some x6 ∧ W.cell? g = some x7 ∧ W.cell? h = some x8 ∧ W.cell? i = some x9) :
    W'.cell? a = some x1 ∧ W'.cell? b = some x2 ∧ W'.cell? c = some x3 ∧ W'.cell? d = some x4 ∧ W'.cell? e = some x5 ∧ W'.cell? f = some x6 ∧ W'.cell? g = some x7 ∧ W'.cell? h = some x8 ∧ W'.cell? i = some x9 := by
  obtain ⟨h1, h2, h3, h4, h5, h6, h7, h8, h9⟩ := hS
  exact ⟨cell_later hb h1, cell_later hb h2, cell_later hb h3, cell_later hb h4, cell_later hb h5, cell_later hb h6, cell_later hb h7, cell_later hb h8, cell_later hb h9⟩
/-- One row of those that were returned. -/
theorem own_row {w : World} {base g cap n : Nat} {xs : List Value} {F : Nat → Nat → Bool} (h1 : w.ownsRow base 139 401 (.slice (some ⟨g, 0, none⟩) n cap) n xs) (h2 : RowsV xs n F) {i : Nat} (hi : i < n) : ∃ cs : List Value, RowV cs.toArray (F i) ∧ w.rangeAt g (i * 401) cs := by
  have hle : (i + 1) * 401 ≤ n * 401 := Nat.mul_le_mul_right _ hi
  refine ⟨(xs.drop (i * 401)).take 401, ⟨by simp [h2.1]; omega, fun x hx => ?_⟩, fun j v hj => ?_⟩
  · have := h2.2 i x hi hx
    simp only [List.getElem?_toArray]
    rw [List.getElem?_take_of_lt hx, List.getElem?_drop]
    exact this
  · have hj' : j < 401 := by
      have := (List.getElem?_eq_some_iff.1 hj).1
      rw [List.length_take] at this
      omega
    rw [List.getElem?_take_of_lt hj', List.getElem?_drop] at hj
    exact (own_cellF h1).1 _ _ hj
theorem rangeAt_of' {W W' : World} {B o : Nat} {cs : List Value} (h : W.rangeAt B o cs) (hB : W'.heap[B]? = W.heap[B]?) : W'.rangeAt B o cs := fun j v hv => (World.cell?_of_block (a := ⟨B, o + j, none⟩) hB).trans (h j v hv)
/-- A row, gone through up to some oil: what cannot go on is removed. -/
def backF (s : St) (c k : Nat → Int) (i : Nat) (f h : Nat → Bool) (oil : Nat) : Nat → Bool := fun x => if x < oil then f x && (nightF s c k (i + 1) x).any (fun y => h y.toNat) else f x
theorem backF_succ (s : St) (c k : Nat → Int) (i : Nat) (f h : Nat → Bool) (oil x : Nat) : backF s c k i f h (oil + 1) x = setF (backF s c k i f h oil) oil (f oil && (nightF s c k (i + 1) oil).any (fun y => h y.toNat)) x := by
  unfold setF backF
  by_cases e : x = oil
  · subst e; rw [if_pos (by omega), if_pos rfl]
  · rw [if_neg e]
    by_cases e2 : x < oil
    · rw [if_pos e2, if_pos (by omega)]
    · rw [if_neg e2, if_neg (by omega)]
end Go.Proofs.Ytefhdcecbmgljaa

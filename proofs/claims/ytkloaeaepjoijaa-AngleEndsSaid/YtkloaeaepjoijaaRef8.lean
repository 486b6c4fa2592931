/-
  The reference: Bounds, Controlled.
-/
import Derived.Test.YtkloaeaepjoijaaRef7
import Derived.Test.YtkloaeaepjoijaaRef5
set_option linter.all false
namespace Go.Proofs.Ytkloaeaepjoijaa
open Go.RowKit Go.WalkArith

/-- Block g holds ranges. -/
def RowAt (W : World) (g n : Nat) (lo hi : Int → Int) : Prop :=
  ∃ cur, W.heap[g]? = some (.cells cur 60 (0, 0)) ∧ ∀ i : Nat, i < n → cur[i * 2]? = some (.int .i64 (lo i)) ∧ cur[i * 2 + 1]? = some (.int .i64 (hi i))

theorem RowAt.of_own {W : World} {base n : Nat} {v : Value} {lo hi : Int → Int} (hn : 0 < n) (h : W.ownsRow base 60 2 v n (flatR lo hi n)) : ∃ g cap, v = .slice (some ⟨g, 0, none⟩) n cap ∧ base ≤ g ∧ RowAt W g n lo hi := by
  obtain ⟨_, ⟨rfl, rfl⟩ | ⟨g, cap, cur, rfl, hb, hh, hnc, _, hsz, ht⟩⟩ := h
  · omega
  · refine ⟨g, cap, rfl, hb, cur, hh, fun i hi' => ?_⟩
    have := flatR_get lo hi n i hi'
    rw [← ht, List.getElem?_take_of_lt (by omega), List.getElem?_take_of_lt (by omega)] at this
    simpa only [Array.getElem?_toList] using this
theorem RowAt.of_block {W W' : World} {g n : Nat} {lo hi : Int → Int} (h : RowAt W g n lo hi) (hb : W'.heap[g]? = W.heap[g]?) : RowAt W' g n lo hi := by
  obtain ⟨cur, h1, h2⟩ := h
  exact ⟨cur, hb.trans h1, h2⟩
theorem RowAt.lt {W : World} {g n : Nat} {lo hi : Int → Int} (h : RowAt W g n lo hi) : g < W.heap.size := by
  obtain ⟨cur, h1, h2⟩ := h
  exact (Array.getElem?_eq_some_iff.1 h1).1
theorem RowAt.frozen {W : World} {g n : Nat} {lo hi : Int → Int} (h : RowAt W g n lo hi) (i : Nat) : W.frozen? ⟨g, i, none⟩ = false := by
  obtain ⟨cur, h1, h2⟩ := h
  simp [World.frozen?, h1]
theorem RowAt.cells {W : World} {g n : Nat} {lo hi : Int → Int} (h : RowAt W g n lo hi) {i : Nat} (hi' : i < n) : W.cell? ⟨g, i * 2, none⟩ = some (.int .i64 (lo i)) ∧ W.cell? ⟨g, i * 2 + 1, none⟩ = some (.int .i64 (hi i)) := by
  obtain ⟨cur, hb, hr⟩ := h
  exact ⟨by simp [World.cell?, hb, (hr i hi').1], by simp [World.cell?, hb, (hr i hi').2]⟩
theorem RowAt.set {W : World} {g n : Nat} {lo hi : Int → Int} (h : RowAt W g n lo hi) {i : Nat} (hi' : i < n) (x y : Int) : RowAt ((W.setCell ⟨g, i * 2, none⟩ (.int .i64 x)).setCell ⟨g, i * 2 + 1, none⟩ (.int .i64 y)) g n (updG lo i x) (updG hi i y) := by
  obtain ⟨cur, hb, hr⟩ := h
  have hs := (Array.getElem?_eq_some_iff.1 (hr i hi').2).1
  refine ⟨(cur.setIfInBounds (i * 2) (.int .i64 x)).setIfInBounds (i * 2 + 1) (.int .i64 y), by simp [World.setCell, Array.getElem?_modify, hb], fun j hj => ⟨?_, ?_⟩⟩
  · rw [Array.getElem?_setIfInBounds, if_neg (by omega), Array.getElem?_setIfInBounds]
    unfold updG
    by_cases e : i = j
    · subst e; rw [if_pos rfl, if_pos (by omega), if_pos rfl]
    · rw [if_neg (by omega), if_neg (by omega)]; exact (hr j hj).1
  · rw [Array.getElem?_setIfInBounds]
    unfold updG
    by_cases e : i = j
    · subst e; rw [if_pos rfl, if_pos (by simp; omega), if_pos rfl]
    · rw [if_neg (by omega), Array.getElem?_setIfInBounds, if_neg (by omega), if_neg (by omega)]; exact (hr j hj).2
theorem RowAt.congr {W : World} {g n : Nat} {lo hi lo' hi' : Int → Int} (h : RowAt W g n lo hi) (h1 : ∀ i : Nat, i < n → lo' i = lo i ∧ hi' i = hi i) : RowAt W g n lo' hi' := by
  obtain ⟨cur, hb, hr⟩ := h
  exact ⟨cur, hb, fun i hi => by rw [(h1 i hi).1, (h1 i hi).2]; exact hr i hi⟩
theorem RowAt.ranges {W : World} {g n cap : Nat} {lo hi : Int → Int} (h : RowAt W g n lo hi) : RangesAt W (.slice (some ⟨g, 0, none⟩) n cap) n lo hi :=
  ⟨_, _, rfl, .inr ⟨g, 0, rfl, fun i hi' => by rw [Nat.zero_add]; exact h.cells hi'⟩⟩
theorem RangesAt.flat {W : World} {b o n cap : Nat} {lo hi : Int → Int} (h : RangesAt W (.slice (some ⟨b, o, none⟩) n cap) n lo hi) : ∀ j u, (flatR lo hi n)[j]? = some u → W.cell? ((⟨b, o, none⟩ : Addr).add j) = some u := by
  intro j u hu
  obtain ⟨A, c, he, h⟩ := h
  obtain ⟨rfl, rfl⟩ : some (⟨b, o, none⟩ : Addr) = A ∧ cap = c := by simpa using he
  have hj := (List.getElem?_eq_some_iff.1 hu).1
  rw [flatR_length] at hj
  obtain ⟨b', o', hA, hc⟩ := h.resolve_left (by omega)
  obtain ⟨rfl, rfl⟩ : b = b' ∧ o = o' := by simpa using hA
  have hg := flatR_get lo hi n (j / 2) (by omega)
  have hc := hc (j / 2) (by omega)
  rw [add_at]
  obtain e | e : j = j / 2 * 2 ∨ j = j / 2 * 2 + 1 := by omega
  · rw [e] at hu ⊢; rw [hg.1] at hu; rw [hc.1]; exact hu
  · rw [e] at hu ⊢; rw [hg.2] at hu; rw [← Nat.add_assoc, hc.2]; exact hu
theorem flatR_one (lo hi : Int → Int) (n : Nat) : ∀ u ∈ flatR lo hi n, u.oneCell' = true := by
  intro u hu
  simp only [flatR, List.mem_flatMap] at hu
  obtain ⟨i, _, hu⟩ := hu
  simp at hu
  rcases hu with rfl | rfl <;> rfl

/-- What the reference's Bounds has found up to a number. -/
def RBd (P : Int → Bool) (lo x r1 r2 : Int) : Prop :=
  (r1 = 99 ∧ r2 = -1 ∧ ∀ y, lo ≤ y → y < x → P y = false) ∨ (IsLow P lo (x - 1) r1 ∧ IsHigh P lo (x - 1) r2)

theorem RBd.start (P : Int → Bool) (lo : Int) : RBd P lo lo 99 (-1) := .inl ⟨rfl, rfl, fun y h1 h2 => by omega⟩
theorem RBd.no {P : Int → Bool} {lo x r1 r2 : Int} (h : RBd P lo x r1 r2) (hp : P x = false) : RBd P lo (x + 1) r1 r2 := by
  rcases h with ⟨h1, h2, h3⟩ | ⟨h1, h2⟩
  · exact .inl ⟨h1, h2, fun y hy0 hy1 => by
      by_cases e : y = x
      · rw [e]; exact hp
      · exact h3 y hy0 (by omega)⟩
  · refine .inr ⟨⟨h1.ge, by have := h1.le; omega, h1.yes, h1.no⟩, ⟨h2.ge, by have := h2.le; omega, h2.yes, fun y hy0 hy1 => ?_⟩⟩
    by_cases e : y = x
    · rw [e]; exact hp
    · exact h2.no y hy0 (by omega)
theorem RBd.yes {P : Int → Bool} {lo x r1 r2 : Int} (h : RBd P lo x r1 r2) (hlo : lo ≤ x) (hx : x ≤ 99) (hp : P x = true) : RBd P lo (x + 1) (min r1 x) x := by
  have hh : IsHigh P lo (x + 1 - 1) x := ⟨hlo, by omega, hp, fun y h1 h2 => by omega⟩
  rcases h with ⟨h1, h2, h3⟩ | ⟨h1, h2⟩
  · rw [h1, Int.min_eq_right hx]
    exact .inr ⟨⟨hlo, by omega, hp, fun y hy0 hy1 => h3 y hy0 hy1⟩, hh⟩
  · have := h1.le
    rw [Int.min_eq_left (by omega)]
    exact .inr ⟨⟨h1.ge, by omega, h1.yes, h1.no⟩, hh⟩
theorem RBd.fin {P : Int → Bool} {lo hi r1 r2 : Int} (h : RBd P lo (hi + 1) r1 r2) (hex : ∃ y, lo ≤ y ∧ y ≤ hi ∧ P y = true) : IsLow P lo hi r1 ∧ IsHigh P lo hi r2 := by
  rcases h with ⟨h1, h2, h3⟩ | ⟨h1, h2⟩
  · obtain ⟨y, a, b, c⟩ := hex
    rw [h3 y a (by omega)] at c; cases c
  · rw [show hi + 1 - 1 = hi by omega] at h1 h2
    exact ⟨h1, h2⟩

/-- There is a number with which there is a truth. -/
def HasP (P : Int → Bool) (lo hi : Int) : Prop := ∃ y, lo ≤ y ∧ y ≤ hi ∧ P y = true

def RBRel (i n g : Nat) (lo hi : Int → Int) (P : Int → Bool) (Bi Bo Bu : Nat) (net : Obj) (w : World) (t : Value) (wr : World) : Prop :=
  ∃ x r1 r2 : Int, t = .int .i64 x ∧ lo i ≤ x ∧ x ≤ hi i + 1 ∧ RBd P (lo i) x r1 r2 ∧ (∃ lo' hi', RowAt wr g n lo' hi' ∧ ∀ j : Nat, j < n → j ≠ i → lo' j = lo j ∧ hi' j = hi j) ∧ wr.heap[Bi]? = some net ∧ wr.heap[Bo]? = some (.cells #[.int .i64 0, .int .i64 0] 60 (0, 0)) ∧ wr.heap[Bu]? = some (.cells #[.int .i64 r1, .int .i64 r2] 60 (0, 0)) ∧ Below w.heap.size w wr

set_option maxRecDepth 100000 in
set_option maxHeartbeats 4000000 in
theorem refBounds_any (b o n cap i : Nat) (T C : Int) (l : List Ang) (rv : Value) (lo hi : Int → Int) (w : World) (hl : l.length = n) (hok : NetOk l T C) (hA : AngsAt w (some ⟨b, o, none⟩) l) (hr : RangesAt w rv n lo hi) (hro : RoomsOk n lo hi) (hi' : i < n) :
    Calls Try.prog 39 #[.agg #[.slice (some ⟨b, o, none⟩) n cap, .int .i64 T, .int .i64 C], rv, .int .i64 i] w fun e w' => ∃ r1 r2, e = .returned (.agg #[.int .i64 r1, .int .i64 r2]) ∧ (HasP (pointB l T C lo hi i) (lo i) (hi i) → IsLow (pointB l T C lo hi i) (lo i) (hi i) r1 ∧ IsHigh (pointB l T C lo hi i) (lo i) (hi i) r2) ∧ Below w.heap.size w w' := by
  obtain ⟨i0, hi0, hz0, hz1, hz2⟩ := info_parts Try.info60
  have hn12 : n ≤ 12 := by rw [← hl]; exact hok.len
  obtain ⟨Ar, rcap, rfl, hrc⟩ := id hr
  obtain ⟨rb, ro, rfl, hcc⟩ := Or.resolve_left hrc (by omega : n ≠ 0)
  have hfl := hr.flat
  have r0 := (hcc i hi').1
  have r1 := (hcc i hi').2
  have hsz : (w.alloc (.cells #[.slice (some ⟨b, o, none⟩) n cap, .int .i64 T, .int .i64 C] 24)).heap.size = w.heap.size + 1 := by simp
  have hB : Below w.heap.size w ((((w.alloc (.cells #[.slice (some ⟨b, o, none⟩) n cap, .int .i64 T, .int .i64 C] 24)).alloc (.cells #[.int .i64 0, .int .i64 0] 60)).alloc (.cells #[.int .i64 99, .int .i64 (-1)] 60)).alloc (.cells #[] 60)) := ((((Below.refl _ _).alloc (Nat.le_refl _) _).alloc (by simp) _).alloc (by simp; omega) _).alloc (by simp; omega) _
  have n0 : ((((w.alloc (.cells #[.slice (some ⟨b, o, none⟩) n cap, .int .i64 T, .int .i64 C] 24)).alloc (.cells #[.int .i64 0, .int .i64 0] 60)).alloc (.cells #[.int .i64 99, .int .i64 (-1)] 60)).alloc (.cells #[] 60)).heap[w.heap.size]? = some (.cells #[.slice (some ⟨b, o, none⟩) n cap, .int .i64 T, .int .i64 C] 24 (0, 0)) := by
    rw [Below.heap_alloc _ _ _ (by simp; try omega), Below.heap_alloc _ _ _ (by simp; try omega), Below.heap_alloc _ _ _ (by simp)]; exact heap_new_at _ _ _ rfl
  have n1 : ((((w.alloc (.cells #[.slice (some ⟨b, o, none⟩) n cap, .int .i64 T, .int .i64 C] 24)).alloc (.cells #[.int .i64 0, .int .i64 0] 60)).alloc (.cells #[.int .i64 99, .int .i64 (-1)] 60)).alloc (.cells #[] 60)).heap[w.heap.size + 1]? = some (.cells #[.int .i64 0, .int .i64 0] 60 (0, 0)) := by
    rw [Below.heap_alloc _ _ _ (by simp; try omega), Below.heap_alloc _ _ _ (by simp)]; exact heap_new_at _ _ _ (by simp)
  have n2 : ((((w.alloc (.cells #[.slice (some ⟨b, o, none⟩) n cap, .int .i64 T, .int .i64 C] 24)).alloc (.cells #[.int .i64 0, .int .i64 0] 60)).alloc (.cells #[.int .i64 99, .int .i64 (-1)] 60)).alloc (.cells #[] 60)).heap[w.heap.size + 1 + 1]? = some (.cells #[.int .i64 99, .int .i64 (-1)] 60 (0, 0)) := by
    rw [Below.heap_alloc _ _ _ (by simp)]; exact heap_new_at _ _ _ (by simp)
  have hmade : ((((w.alloc (.cells #[.slice (some ⟨b, o, none⟩) n cap, .int .i64 T, .int .i64 C] 24)).alloc (.cells #[.int .i64 0, .int .i64 0] 60)).alloc (.cells #[.int .i64 99, .int .i64 (-1)] 60)).alloc (.cells #[] 60)).ownsRow (w.heap.size + 1 + 1 + 1) 60 2 (.slice (some ⟨w.heap.size + 1 + 1 + 1, 0, none⟩) 0 0) 0 [] := by
    have h := World.ownsRow_made (base := w.heap.size + 1 + 1 + 1) (e := 60) (size := 2) (((w.alloc (.cells #[.slice (some ⟨b, o, none⟩) n cap, .int .i64 T, .int .i64 C] 24)).alloc (.cells #[.int .i64 0, .int .i64 0] 60)).alloc (.cells #[.int .i64 99, .int .i64 (-1)] 60)) #[] 0 (by simp) (by decide) rfl
    rw [show (((w.alloc (.cells #[.slice (some ⟨b, o, none⟩) n cap, .int .i64 T, .int .i64 C] 24)).alloc (.cells #[.int .i64 0, .int .i64 0] 60)).alloc (.cells #[.int .i64 99, .int .i64 (-1)] 60)).heap.size = w.heap.size + 1 + 1 + 1 by simp] at h
    exact h
  have hfl2 : ∀ j u, (flatR lo hi n)[j]? = some u → ((((w.alloc (.cells #[.slice (some ⟨b, o, none⟩) n cap, .int .i64 T, .int .i64 C] 24)).alloc (.cells #[.int .i64 0, .int .i64 0] 60)).alloc (.cells #[.int .i64 99, .int .i64 (-1)] 60)).alloc (.cells #[] 60)).cell? ((⟨rb, ro, none⟩ : Addr).add j) = some u := fun j u hu => by
    have h := hfl j u hu
    rw [hB.cell (World.block_lt_of_cell? w _ h)]; exact h
  have HFL := Lib.hid hfl2
  have HB := Lib.hid hB
  have N0 := Lib.hid n0
  have N1 := Lib.hid n1
  have N2 := Lib.hid n2
  have HM := Lib.hid hmade
  have HA := Lib.hid hA
  have HL := Lib.hid hl
  have HO := Lib.hid hok
  have HRO := Lib.hid hro
  have HCC := Lib.hid hcc
  clear hfl2 hB n0 n1 n2 hmade hA hl hok hr hfl hcc r0 r1 hsz hro
  go_enter Try.func39, Try.ntmps39
  go_wp2_with (at_builtin; refine wpList_append_own _ rfl _ _ 44 rfl (w.heap.size + 1 + 1 + 1) 60 i0 (.agg #[.int .i64 0, .int .i64 0]) 2 16 Try.underlying44 hi0 hz0 hz1 hz2 rfl (by decide) _ 0 [] rfl HM.out ⟨rb, ro, none⟩ n rcap (flatR lo hi n) rfl (flatR_length _ _ _) HFL.out (flatR_one _ _ _) ?c3 ?c4 ?c5 ?_)
  case c3 => unfold maxLen; omega
  case c4 => omega
  case c5 => simp
  intro v' w1 hown1 hgrow _
  obtain ⟨g, lcap, rfl, hgb, hrow⟩ := RowAt.of_own (by omega) hown1
  have hblk : ∀ j, j < w.heap.size + 1 + 1 + 1 → w1.heap[j]? = ((((w.alloc (.cells #[.slice (some ⟨b, o, none⟩) n cap, .int .i64 T, .int .i64 C] 24)).alloc (.cells #[.int .i64 0, .int .i64 0] 60)).alloc (.cells #[.int .i64 99, .int .i64 (-1)] 60)).alloc (.cells #[] 60)).heap[j]? := fun j hj => hgrow.block j (by simp; omega) (by simp [Value.ownBlock]; omega)
  have m0 := (hblk _ (by omega)).trans N0.out
  have m1 := (hblk _ (by omega)).trans N1.out
  have m2 := (hblk _ (by omega)).trans N2.out
  have hB1 : Below w.heap.size w w1 := ⟨hgrow.os.trans HB.out.os, hgrow.tape.trans HB.out.tape, hgrow.output.trans HB.out.output, Nat.le_trans HB.out.size hgrow.size, fun j hj => (hblk j (by omega)).trans (HB.out.block j hj)⟩
  obtain ⟨Bu, hBu⟩ : ∃ Bu, w.heap.size + 1 + 1 = Bu := ⟨_, rfl⟩
  obtain ⟨Bo, hBo⟩ : ∃ Bo, w.heap.size + 1 = Bo := ⟨_, rfl⟩
  obtain ⟨Bi, hBi⟩ : ∃ Bi, w.heap.size = Bi := ⟨_, rfl⟩
  have o1 : w.heap.size ≤ Bi := by omega
  have o2 : Bi < Bo := by omega
  have o3 : Bo < Bu := by omega
  have o4 : Bu < g := by omega
  rw [hBu] at m2 ⊢
  rw [hBo] at m1 ⊢
  rw [hBi] at m0
  simp only [hBi]
  clear hBi hBo hBu hblk hgb hown1 hgrow HFL HB N0 N1 N2 HM
  have M0 := Lib.hid m0
  have M1 := Lib.hid m1
  have M2 := Lib.hid m2
  have HB1 := Lib.hid hB1
  have HROW := Lib.hid hrow
  have i1 : (0 : Int) ≤ (i : Int) := by omega
  have i2 : (i : Int) < (n : Int) := by omega
  have hc0 := (HCC.out i hi').1
  have lrb := World.block_lt_of_cell? w _ hc0
  rw [← hB1.cell lrb] at hc0
  clear m0 m1 m2 hB1 hrow
  go_wp2_with fail
  have hle := HRO.out.le i hi'
  have hlo0 := HRO.out.lo0 i hi'
  have hhi1 := HRO.out.hi1 i hi'
  clear hc0
  go_loopw [9] (RBRel i n g lo hi (pointB l T C lo hi i) Bi Bo Bu (.cells #[.slice (some ⟨b, o, none⟩) n cap, .int .i64 T, .int .i64 C] 24 (0, 0)) w) (fun t _ => (hi i + 1 - intOf t).toNat)
  case atStart => exact ⟨_, 99, -1, rfl, by omega, by omega, RBd.start _ _, ⟨lo, hi, HROW.out, fun _ _ _ => ⟨rfl, rfl⟩⟩, M0.out, M1.out, M2.out, HB1.out⟩
  case round =>
    clear M0 M1 M2 HB1 HROW
    obtain ⟨x, r1, r2, rfl, hx0, hx1, hrb, ⟨lo', hi2, hRA, hsame⟩, hM0, hM1, hM2, hB⟩ := hrel
    have hc1 := (HCC.out i hi').2
    rw [← hB.cell (p := ⟨rb, ro + i * 2 + 1, none⟩) lrb] at hc1
    have HRB := Lib.hid hrb
    have HM0 := Lib.hid hM0
    have HM1 := Lib.hid hM1
    have HM2 := Lib.hid hM2
    have HBB := Lib.hid hB
    clear hrb hM0 hM1 hM2 hB
    by_cases hlt : x ≤ hi i
    · have hlt' : decide (x ≤ hi i) = true := by simpa using hlt
      have hpt := Lib.hid (rooms_point HRO.out hi' hx0 hlt)
      have hRS := (hRA.set hi' x x).congr (lo' := updG lo i x) (hi' := updG hi i x) (fun j hj => by
        unfold updG
        by_cases e : (j : Int) = i
        · simp [e]
        · rw [if_neg e, if_neg e, if_neg e, if_neg e, (hsame j hj (by omega)).1, (hsame j hj (by omega)).2]; exact ⟨rfl, rfl⟩)
      have z0 := hRA.frozen (i * 2)
      have z1 := hRA.frozen (i * 2 + 1)
      have r0 := (hRA.cells hi').1
      have r1' := (hRA.cells hi').2
      have hs1 : ∀ j, j ≠ g → ((wr.setCell ⟨g, i * 2, none⟩ (.int .i64 x)).setCell ⟨g, i * 2 + 1, none⟩ (.int .i64 x)).heap[j]? = wr.heap[j]? := fun j hj => (Below.heap_setCell _ _ _ _ hj).trans (Below.heap_setCell _ _ _ _ hj)
      have hN1 := (hs1 Bi (by omega)).trans HM0.out
      have hN2 := (hs1 Bo (by omega)).trans HM1.out
      have hN3 := (hs1 Bu (by omega)).trans HM2.out
      have hB1 : Below w.heap.size w ((wr.setCell ⟨g, i * 2, none⟩ (.int .i64 x)).setCell ⟨g, i * 2 + 1, none⟩ (.int .i64 x)) := (HBB.out.setCell (by simp; omega) _).setCell (by simp; omega) _
      have c0 : ((wr.setCell ⟨g, i * 2, none⟩ (.int .i64 x)).setCell ⟨g, i * 2 + 1, none⟩ (.int .i64 x)).cell? ⟨Bi, 0, none⟩ = some (.slice (some ⟨b, o, none⟩) n cap) := by simp [World.cell?, hN1]
      have c1 : ((wr.setCell ⟨g, i * 2, none⟩ (.int .i64 x)).setCell ⟨g, i * 2 + 1, none⟩ (.int .i64 x)).cell? ⟨Bi, 1, none⟩ = some (.int .i64 T) := by simp [World.cell?, hN1]
      have c2 : ((wr.setCell ⟨g, i * 2, none⟩ (.int .i64 x)).setCell ⟨g, i * 2 + 1, none⟩ (.int .i64 x)).cell? ⟨Bi, 2, none⟩ = some (.int .i64 C) := by simp [World.cell?, hN1]
      have hcall := Lib.hid (refCan_any b o n cap T C l (.slice (some ⟨g, 0, none⟩) n lcap) _ _ _ HL.out HO.out (HA.out.keep hB1 (Nat.le_refl _)) hRS.ranges hpt.out)
      have HN1 := Lib.hid hN1
      have HN2 := Lib.hid hN2
      have HN3 := Lib.hid hN3
      have HRS := Lib.hid hRS
      have HB1 := Lib.hid hB1
      clear hs1 hN1 hN2 hN3 hB1 hRS hRA hsame
      obtain ⟨pb, hpb⟩ : ∃ pb, canB l T C (updG lo i x) (updG hi i x) = pb := ⟨_, rfl⟩
      rw [hpb] at hcall
      have HPB := Lib.hid hpb
      clear hpb
      go_wp2_with fail
      refine hcall.out.mono ?_
      rintro e w3 ⟨rfl, hb3⟩
      clear c0 c1 c2 r0 r1' z0 z1 hcall
      have hR3 := HRS.out.of_block (hb3.block g HRS.out.lt)
      have hN3' := (hb3.block Bi (Array.getElem?_eq_some_iff.1 HN1.out).1).trans HN1.out
      have hN4' := (hb3.block Bo (Array.getElem?_eq_some_iff.1 HN2.out).1).trans HN2.out
      have hN5' := (hb3.block Bu (Array.getElem?_eq_some_iff.1 HN3.out).1).trans HN3.out
      have hB3 : Below w.heap.size w w3 := HB1.out.trans (hb3.mono HB1.out.size)
      have HR3 := Lib.hid hR3
      have HN3' := Lib.hid hN3'
      have HN4' := Lib.hid hN4'
      have HN5' := Lib.hid hN5'
      have HB3 := Lib.hid hB3
      clear hR3 hN3' hN4' hN5' hb3 hB3 HN1 HN2 HN3 HM0 HM1 HM2 HB1 HBB HRS
      cases pb with
      | false =>
        go_wp2_with fail
        go_roundw
        case rel =>
          refine ⟨x + 1, r1, r2, by first | rfl | go_num, by omega, by omega, HRB.out.no HPB.out, ⟨_, _, HR3.out, fun j hj hji => ⟨by unfold updG; rw [if_neg (by omega)], by unfold updG; rw [if_neg (by omega)]⟩⟩, HN3'.out, HN4'.out, HN5'.out, HB3.out⟩
        case measure => simp [intOf]; omega
      | true =>
        have d0 : w3.cell? ⟨Bu, 0, none⟩ = some (.int .i64 r1) := by simp [World.cell?, HN5'.out]
        have d1 : w3.cell? ⟨Bu, 1, none⟩ = some (.int .i64 r2) := by simp [World.cell?, HN5'.out]
        have f0 : w3.frozen? ⟨Bu, 0, none⟩ = false := by simp [World.frozen?, HN5'.out]
        have f1 : w3.frozen? ⟨Bu, 1, none⟩ = false := by simp [World.frozen?, HN5'.out]
        go_wp2_with fail
        go_roundw
        case rel =>
          have hmn : (if x < r1 then x else r1) = min r1 x := by
            split <;> omega
          rw [hmn]
          have hz1 : ∀ j, j ≠ Bu → ((w3.setCell ⟨Bu, 0, none⟩ (.int .i64 (min r1 x))).setCell ⟨Bu, 1, none⟩ (.int .i64 x)).heap[j]? = w3.heap[j]? := fun j hj => (Below.heap_setCell _ _ _ _ hj).trans (Below.heap_setCell _ _ _ _ hj)
          refine ⟨x + 1, min r1 x, x, by first | rfl | go_num, by omega, by omega, HRB.out.yes hx0 (by omega) HPB.out, ⟨_, _, HR3.out.of_block (hz1 g (by omega)), fun j hj hji => ⟨by unfold updG; rw [if_neg (by omega)], by unfold updG; rw [if_neg (by omega)]⟩⟩, (hz1 Bi (by omega)).trans HN3'.out, (hz1 Bo (by omega)).trans HN4'.out, ?_, (HB3.out.setCell (by simp; omega) _).setCell (by simp; omega) _⟩
          simp [World.setCell, Array.getElem?_modify, HN5'.out]
        case measure => simp [intOf]; omega
    · have hlt' : decide (x ≤ hi i) = false := by simpa using hlt
      obtain rfl : x = hi i + 1 := by omega
      have d0 : wr.cell? ⟨Bu, 0, none⟩ = some (.int .i64 r1) := by simp [World.cell?, HM2.out]
      have d1 : wr.cell? ⟨Bu, 1, none⟩ = some (.int .i64 r2) := by simp [World.cell?, HM2.out]
      have f0 : wr.frozen? ⟨Bo, 0, none⟩ = false := by simp [World.frozen?, HM1.out]
      have f1 : wr.frozen? ⟨Bo, 1, none⟩ = false := by simp [World.frozen?, HM1.out]
      have e0 : wr.cell? ⟨Bo, 0, none⟩ = some (.int .i64 0) := by simp [World.cell?, HM1.out]
      have e1 : wr.cell? ⟨Bo, 1, none⟩ = some (.int .i64 0) := by simp [World.cell?, HM1.out]
      have HF := Lib.hid (fun hex => HRB.out.fin hex)
      clear hRA hsame HRB
      go_wp2_with fail
      have hW : ((wr.setCell ⟨Bo, 0, none⟩ (.int .i64 r1)).setCell ⟨Bo, 1, none⟩ (.int .i64 r2)).heap[Bo]? = some (.cells #[.int .i64 r1, .int .i64 r2] 60 (0, 0)) := by simp [World.setCell, Array.getElem?_modify, HM1.out]
      have w0 : ((wr.setCell ⟨Bo, 0, none⟩ (.int .i64 r1)).setCell ⟨Bo, 1, none⟩ (.int .i64 r2)).cell? ⟨Bo, 0, none⟩ = some (.int .i64 r1) := by simp only [World.cell?, hW]; rfl
      have w1 : ((wr.setCell ⟨Bo, 0, none⟩ (.int .i64 r1)).setCell ⟨Bo, 1, none⟩ (.int .i64 r2)).cell? ⟨Bo, 1, none⟩ = some (.int .i64 r2) := by simp only [World.cell?, hW]; rfl
      have hB9 : Below w.heap.size w ((wr.setCell ⟨Bo, 0, none⟩ (.int .i64 r1)).setCell ⟨Bo, 1, none⟩ (.int .i64 r2)) := (HBB.out.setCell (by simp; omega) _).setCell (by simp; omega) _
      refine bodyPost_ret (v := .agg #[.int .i64 r1, .int .i64 r2]) (by simp [results, Try.results39, go_sem, w0, w1]) rfl ⟨r1, r2, rfl, HF.out, hB9⟩
end Go.Proofs.Ytkloaeaepjoijaa

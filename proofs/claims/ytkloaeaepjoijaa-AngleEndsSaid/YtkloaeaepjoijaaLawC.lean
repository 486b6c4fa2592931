/-
  Nets that the laws change: a copied list of angles, one number of it written.
-/
import Derived.Test.YtkloaeaepjoijaaLawB
set_option linter.all false
namespace Go.Proofs.Ytkloaeaepjoijaa
open Go.RowKit Go.WalkArith

theorem Try.info71 : (Try.prog.info? 71).map (fun i => (i.zero, i.size, i.bytes)) = some (some (.agg #[.int .i64 0, .int .i64 0, .int .i64 0, .int .i64 0]), 4, 32) := by kernel_rfl

/-- Block g holds angles. -/
def AngRow (W : World) (g : Nat) (l : List Ang) : Prop :=
  ∃ cur, W.heap[g]? = some (.cells cur 71 (0, 0)) ∧ ∀ i (h : i < l.length), cur[i * 4]? = some (.int .i64 l[i].t) ∧ cur[i * 4 + 1]? = some (.int .i64 l[i].c) ∧ cur[i * 4 + 2]? = some (.int .i64 l[i].r) ∧ cur[i * 4 + 3]? = some (.int .i64 l[i].g)

theorem AngRow.of_own {W : World} {base : Nat} {v : Value} {l : List Ang} (hn : 0 < l.length) (h : W.ownsRow base 71 4 v l.length (flatA l)) : ∃ g cap, v = .slice (some ⟨g, 0, none⟩) l.length cap ∧ base ≤ g ∧ AngRow W g l := by
  obtain ⟨_, ⟨rfl, h0⟩ | ⟨g, cap, cur, rfl, hb, hh, _, _, _, ht⟩⟩ := h
  · omega
  · refine ⟨g, cap, rfl, hb, cur, hh, fun i hi => ?_⟩
    have := flatA_get l i hi
    rw [← ht, List.getElem?_take_of_lt (by omega), List.getElem?_take_of_lt (by omega), List.getElem?_take_of_lt (by omega), List.getElem?_take_of_lt (by omega)] at this
    simpa only [Array.getElem?_toList] using this
theorem AngRow.of_block {W W' : World} {g : Nat} {l : List Ang} (h : AngRow W g l) (hb : W'.heap[g]? = W.heap[g]?) : AngRow W' g l := by
  obtain ⟨cur, h1, h2⟩ := h
  exact ⟨cur, hb.trans h1, h2⟩
theorem AngRow.keep {W W' : World} {g k : Nat} {l : List Ang} (h : AngRow W g l) (hb : Below k W W') (hk : W.heap.size ≤ k) : AngRow W' g l := by
  obtain ⟨cur, h1, h2⟩ := h
  exact ⟨cur, (hb.block g (Nat.lt_of_lt_of_le (Array.getElem?_eq_some_iff.1 h1).1 hk)).trans h1, h2⟩
theorem AngRow.lt {W : World} {g : Nat} {l : List Ang} (h : AngRow W g l) : g < W.heap.size := by
  obtain ⟨cur, h1, h2⟩ := h
  exact (Array.getElem?_eq_some_iff.1 h1).1
theorem AngRow.frozen {W : World} {g : Nat} {l : List Ang} (h : AngRow W g l) (i : Nat) : W.frozen? ⟨g, i, none⟩ = false := by
  obtain ⟨cur, h1, h2⟩ := h
  simp [World.frozen?, h1]
theorem AngRow.cells {W : World} {g : Nat} {l : List Ang} (h : AngRow W g l) {i : Nat} (hi : i < l.length) : AngAt W g (i * 4) l[i] := by
  obtain ⟨cur, hb, hr⟩ := h
  obtain ⟨a, b, c, d⟩ := hr i hi
  exact ⟨by simp [World.cell?, hb, a], by simp [World.cell?, hb, b], by simp [World.cell?, hb, c], by simp [World.cell?, hb, d]⟩
theorem AngRow.angs {W : World} {g : Nat} {l : List Ang} (h : AngRow W g l) : AngsAt W (some ⟨g, 0, none⟩) l :=
  .inr ⟨g, 0, rfl, fun i hi => by rw [Nat.zero_add]; exact h.cells hi⟩

/-- One number of an angle is written. -/
def putF (a : Ang) (f : Nat) (x : Int) : Ang :=
  ⟨if f = 0 then x else a.t, if f = 1 then x else a.c, if f = 2 then x else a.r, if f = 3 then x else a.g⟩
theorem AngRow.put {W : World} {g : Nat} {l : List Ang} (h : AngRow W g l) {i f : Nat} (hi : i < l.length) (hf : f < 4) (x : Int) : AngRow (W.setCell ⟨g, i * 4 + f, none⟩ (.int .i64 x)) g (l.set i (putF l[i] f x)) := by
  obtain ⟨cur, hb, hr⟩ := h
  refine ⟨cur.setIfInBounds (i * 4 + f) (.int .i64 x), by simp [World.setCell, Array.getElem?_modify, hb], fun j hj => ?_⟩
  have hj' : j < l.length := by simpa using hj
  have hs := (Array.getElem?_eq_some_iff.1 (hr i hi).2.2.2).1
  obtain ⟨a, b, c, d⟩ := hr j hj'
  by_cases e : i = j
  · subst e
    simp only [List.getElem_set_self, putF]
    simp only [Array.getElem?_setIfInBounds]
    obtain rfl | rfl | rfl | rfl : f = 0 ∨ f = 1 ∨ f = 2 ∨ f = 3 := by omega
    · refine ⟨by rw [if_pos (by omega), if_pos (by omega), if_pos rfl], by rw [if_neg (by omega)]; exact b, by rw [if_neg (by omega)]; exact c, by rw [if_neg (by omega)]; exact d⟩
    · refine ⟨by rw [if_neg (by omega)]; exact a, by rw [if_pos rfl, if_pos (by omega), if_pos rfl], by rw [if_neg (by omega)]; exact c, by rw [if_neg (by omega)]; exact d⟩
    · refine ⟨by rw [if_neg (by omega)]; exact a, by rw [if_neg (by omega)]; exact b, by rw [if_pos rfl, if_pos (by omega), if_pos rfl], by rw [if_neg (by omega)]; exact d⟩
    · refine ⟨by rw [if_neg (by omega)]; exact a, by rw [if_neg (by omega)]; exact b, by rw [if_neg (by omega)]; exact c, by rw [if_pos rfl, if_pos (by omega), if_pos rfl]⟩
  · simp only [List.getElem_set_ne e, Array.getElem?_setIfInBounds]
    refine ⟨by rw [if_neg (by omega)]; exact a, by rw [if_neg (by omega)]; exact b, by rw [if_neg (by omega)]; exact c, by rw [if_neg (by omega)]; exact d⟩

theorem angs_flat {W : World} {b o : Nat} {l : List Ang} (h : AngsAt W (some ⟨b, o, none⟩) l) : ∀ j u, (flatA l)[j]? = some u → W.cell? ((⟨b, o, none⟩ : Addr).add j) = some u := by
  intro j u hu
  have hj := (List.getElem?_eq_some_iff.1 hu).1
  rw [flatA_length] at hj
  obtain ⟨b', o', hA, hc⟩ := Or.resolve_left h (fun e => by rw [e] at hj; simp at hj)
  obtain ⟨rfl, rfl⟩ : b = b' ∧ o = o' := by simpa using hA
  have hg := flatA_get l (j / 4) (by omega)
  obtain ⟨a1, a2, a3, a4⟩ := hc (j / 4) (by omega)
  rw [add_at]
  obtain e | e | e | e : j = j / 4 * 4 ∨ j = j / 4 * 4 + 1 ∨ j = j / 4 * 4 + 2 ∨ j = j / 4 * 4 + 3 := by omega
  · rw [e] at hu ⊢; rw [hg.1] at hu; rw [a1]; exact hu
  · rw [e] at hu ⊢; rw [hg.2.1] at hu; rw [← Nat.add_assoc, a2]; exact hu
  · rw [e] at hu ⊢; rw [hg.2.2.1] at hu; rw [← Nat.add_assoc, a3]; exact hu
  · rw [e] at hu ⊢; rw [hg.2.2.2] at hu; rw [← Nat.add_assoc, a4]; exact hu
theorem flatA_one (l : List Ang) : ∀ u ∈ flatA l, u.oneCell' = true := by
  intro u hu
  simp only [flatA, List.mem_flatMap] at hu
  obtain ⟨i, _, hu⟩ := hu
  simp at hu
  rcases hu with rfl | rfl | rfl | rfl <;> rfl

theorem set_first {w : World} {B t : Nat} {x y z : Value} {fr : Nat × Nat} (h : w.heap[B]? = some (.cells #[x, y, z] t fr)) (x' : Value) :
    (w.setCell ⟨B, 0, none⟩ x').heap[B]? = some (.cells #[x', y, z] t fr) := set_one h x'

/-- A net is copied into a block of its own, its list of angles into another: what stands then. -/
structure Copied (w0 w : World) (Bi Bx b o n cap : Nat) (T C : Int) (l : List Ang) (W : World) (g cp : Nat) : Prop where
  below : Below w0.heap.size w0 W
  old : W.heap[Bi]? = w.heap[Bi]?
  new : W.heap[Bx]? = some (.cells #[.slice (some ⟨g, 0, none⟩) n cp, .int .i64 T, .int .i64 C] 24 (0, 0))
  row : AngRow W g l
  far : Bx < g

theorem copied {w0 w w1 : World} {Bi b o n cap : Nat} {T C : Int} {l : List Ang} {v' : Value} (hl : l.length = n) (hpos : 0 < n) (hB : Below w0.heap.size w0 w) (hbi : Bi < w.heap.size)
    (hown : w1.ownsRow (w.heap.size + 1) 71 4 v' n (flatA l)) (hgrow : ((w.alloc (.cells #[.slice (some ⟨b, o, none⟩) n cap, .int .i64 T, .int .i64 C] 24)).alloc (.cells #[] 71)).grownBy w1 (Value.ownBlock (.slice (some ⟨w.heap.size + 1, 0, none⟩) 0 0))) :
    ∃ g cp, v' = .slice (some ⟨g, 0, none⟩) n cp ∧ w1.heap[w.heap.size]? = some (.cells #[.slice (some ⟨b, o, none⟩) n cap, .int .i64 T, .int .i64 C] 24 (0, 0)) ∧ Copied w0 w Bi w.heap.size b o n cap T C l (w1.setCell ⟨w.heap.size, 0, none⟩ (.slice (some ⟨g, 0, none⟩) n cp)) g cp := by
  subst hl
  obtain ⟨g, cp, rfl, hg, hrow⟩ := AngRow.of_own hpos hown
  have hblk : ∀ j, j < w.heap.size + 1 → w1.heap[j]? = ((w.alloc (.cells #[.slice (some ⟨b, o, none⟩) l.length cap, .int .i64 T, .int .i64 C] 24)).alloc (.cells #[] 71)).heap[j]? := fun j hj => hgrow.block j (by simp; omega) (by simp [Value.ownBlock]; omega)
  have hx : w1.heap[w.heap.size]? = some (.cells #[.slice (some ⟨b, o, none⟩) l.length cap, .int .i64 T, .int .i64 C] 24 (0, 0)) := by
    rw [hblk _ (by omega), Below.heap_alloc _ _ _ (by simp)]; exact heap_new_at _ _ _ rfl
  have hbw : ∀ j, j < w.heap.size → w1.heap[j]? = w.heap[j]? := fun j hj => by
    rw [hblk j (by omega), Below.heap_alloc _ _ _ (by simp; omega), Below.heap_alloc _ _ _ hj]
  have hsz := hgrow.size
  simp at hsz
  have hB1 : Below w0.heap.size w0 w1 := ⟨hgrow.os.trans hB.os, hgrow.tape.trans hB.tape, hgrow.output.trans hB.output, by have := hB.size; omega, fun j hj => (hbw j (Nat.lt_of_lt_of_le hj hB.size)).trans (hB.block j hj)⟩
  refine ⟨g, cp, rfl, hx, hB1.setCell (by simp; exact hB.size) _, (Below.heap_setCell _ _ _ _ (by show Bi ≠ w.heap.size; omega)).trans (hbw Bi hbi), set_one hx _, hrow.of_block (Below.heap_setCell _ _ _ _ (by show g ≠ w.heap.size; omega)), by omega⟩

theorem copy_made (w : World) (x : Value) (y z : Int) : ((w.alloc (.cells #[x, .int .i64 y, .int .i64 z] 24)).alloc (.cells #[] 71)).ownsRow (w.heap.size + 1) 71 4 (.slice (some ⟨w.heap.size + 1, 0, none⟩) 0 0) 0 [] := by
  have h := World.ownsRow_made (base := w.heap.size + 1) (e := 71) (size := 4) (w.alloc (.cells #[x, .int .i64 y, .int .i64 z] 24)) #[] 0 (by simp) (by decide) rfl
  rw [show (w.alloc (.cells #[x, .int .i64 y, .int .i64 z] 24)).heap.size = w.heap.size + 1 by simp] at h
  exact h
theorem copy_flat {w : World} {b o : Nat} {l : List Ang} (h : AngsAt w (some ⟨b, o, none⟩) l) (x y : Obj) : ∀ j u, (flatA l)[j]? = some u → ((w.alloc x).alloc y).cell? ((⟨b, o, none⟩ : Addr).add j) = some u := fun j u hu => by
  have h1 := angs_flat h j u hu
  have hB : Below w.heap.size w ((w.alloc x).alloc y) := ((Below.refl _ _).alloc (Nat.le_refl _) _).alloc (by simp) _
  rw [hB.cell (World.block_lt_of_cell? w _ h1)]; exact h1
theorem copy_block {w : World} {j : Nat} (hj : j < w.heap.size) (x y : Obj) : ((w.alloc x).alloc y).heap[j]? = w.heap[j]? := by
  rw [Below.heap_alloc _ _ _ (by simp; omega), Below.heap_alloc _ _ _ hj]

/-! nets that differ in what was read -/

/-- The same triangles and circles. -/
structure SameNet (l l' : List Ang) : Prop where
  len : l'.length = l.length
  t : ∀ i (h : i < l.length) (h' : i < l'.length), l'[i].t = l[i].t
  c : ∀ i (h : i < l.length) (h' : i < l'.length), l'[i].c = l[i].c

theorem SameNet.canB {l l' : List Ang} (h : SameNet l l') (T C : Int) (lo hi : Int → Int) : canB l' T C lo hi = canB l T C lo hi := by
  have hf : ∀ i : Nat, i < l.length → frL l' i = frL l i := fun i hi => by rw [frL_at hi, frL_at (by rw [h.len]; exact hi), h.t i hi]
  have ht : ∀ i : Nat, i < l.length → toL l' i = toL l i := fun i hi => by rw [toL_at hi, toL_at (by rw [h.len]; exact hi), h.c i hi]
  unfold Ytkloaeaepjoijaa.canB denyB
  have hl : ∀ m, lowM l.length (frL l') (toL l') lo hi m = lowM l.length (frL l) (toL l) lo hi m := fun m => sumR_congr fun i hi'' => by rw [hf i hi'', ht i hi'']
  have hh : ∀ m, highM l.length (frL l') (toL l') lo hi m = highM l.length (frL l) (toL l) lo hi m := fun m => sumR_congr fun i hi'' => by rw [hf i hi'', ht i hi'']
  simp only [h.len, hl, hh]
theorem SameNet.symm {l l' : List Ang} (h : SameNet l l') : SameNet l' l := ⟨h.len.symm, fun i a b => (h.t i b a).symm, fun i a b => (h.c i b a).symm⟩

theorem leastO_some {l : List Ang} {T C : Int} {k : Nat} (h : leastO l T C = some k) : canE l T C k [] = true ∧ k ≤ 40 ∧ ∀ j : Nat, j < k → canE l T C j [] = false := by
  have key : ∀ (p : Nat → Bool) (m s k : Nat), firstFrom p m s = some k → p k = true ∧ s ≤ k ∧ k < s + m ∧ ∀ j, s ≤ j → j < k → p j = false := by
    intro p m
    induction m with
    | zero => intro s k h; simp [firstFrom] at h
    | succ m ih =>
      intro s k h
      unfold firstFrom at h
      split at h
      · rename_i hp
        obtain rfl : s = k := by simpa using h
        exact ⟨hp, by omega, by omega, fun j h1 h2 => by omega⟩
      · rename_i hp
        obtain ⟨a, b, c, d⟩ := ih (s + 1) k h
        refine ⟨a, by omega, by omega, fun j h1 h2 => ?_⟩
        by_cases e : j = s
        · subst e; simpa using hp
        · exact d j (by omega) h2
  obtain ⟨a, b, c, d⟩ := key _ _ _ _ h
  exact ⟨a, by omega, fun j hj => d j (by omega) hj⟩
theorem leastO_none {l : List Ang} {T C : Int} (h : leastO l T C = none) : ∀ j : Nat, j ≤ 40 → canE l T C j [] = false := by
  have key : ∀ (p : Nat → Bool) (m s : Nat), firstFrom p m s = none → ∀ j, s ≤ j → j < s + m → p j = false := by
    intro p m
    induction m with
    | zero => intro s h j h1 h2; omega
    | succ m ih =>
      intro s h j h1 h2
      unfold firstFrom at h
      split at h
      · cases h
      · rename_i hp
        by_cases e : j = s
        · subst e; simpa using hp
        · exact ih (s + 1) h j (by omega) (by omega)
  exact fun j hj => key _ _ _ h j (by omega) (by omega)
end Go.Proofs.Ytkloaeaepjoijaa

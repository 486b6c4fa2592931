/-
  levels: its memory; whether one of some numbers is in a row.
-/
import Derived.Test.YtefhdcecbmgljaaAgrees2
import Derived.Test.YtefhdcecbmgljaaRowA
import Derived.Test.YtefhdcecbmgljaaNight
import Derived.Great.BuildSlice
import Derived.Great.FillDense
import Derived.Deep.MidRow
set_option linter.all false
namespace Go.Proofs.Ytefhdcecbmgljaa
open Go.RowKit Go.WalkArith

/-- Cells that read as rows, one behind the other. -/
def RowsV (xs : List Value) (n : Nat) (F : Nat → Nat → Bool) : Prop := xs.length = n * 401 ∧ ∀ j x, j < n → x < 401 → xs[j * 401 + x]? = some (.bool (F j x))
theorem RowsV.nil (F : Nat → Nat → Bool) : RowsV [] 0 F := ⟨rfl, fun j x h => by omega⟩
theorem RowsV.snoc {xs : List Value} {n : Nat} {F : Nat → Nat → Bool} (h : RowsV xs n F) {cs : Array Value} {g : Nat → Bool} (hg : RowV cs g) : RowsV (xs ++ cs.toList) (n + 1) (fun j => if j = n then g else F j) := by
  refine ⟨by simp [h.1, hg.1]; omega, fun j x hj hx => ?_⟩
  dsimp only
  by_cases e : j = n
  · subst e
    rw [List.getElem?_append_right (by rw [h.1]; omega), h.1, show j * 401 + x - j * 401 = x by omega, if_pos rfl]
    simpa using hg.2 x hx
  · rw [List.getElem?_append_left (by rw [h.1]; omega), if_neg e]
    exact h.2 j x (by omega) hx
theorem RowsV.set {xs : List Value} {n : Nat} {F : Nat → Nat → Bool} (h : RowsV xs n F) {i k : Nat} (hi : i < n) (hk : k < 401) (v : Bool) : RowsV (xs.set (i * 401 + k) (.bool v)) n (fun j => if j = i then setF (F i) k v else F j) := by
  refine ⟨by simp [h.1], fun j x hj hx => ?_⟩
  dsimp only
  rw [List.getElem?_set]
  by_cases e : j = i
  · subst e
    rw [if_pos rfl]
    unfold setF
    by_cases e2 : x = k
    · subst e2; rw [if_pos rfl, if_pos rfl, if_pos (by rw [h.1]; omega)]
    · rw [if_neg (by omega), if_neg e2]; exact h.2 j x hj hx
  · have : i * 401 + k ≠ j * 401 + x := by
      intro e3
      rcases Nat.lt_or_gt_of_ne e with h1 | h1
      · have : (j + 1) * 401 ≤ i * 401 := Nat.mul_le_mul_right _ h1
        omega
      · have : (i + 1) * 401 ≤ j * 401 := Nat.mul_le_mul_right _ h1
        omega
    rw [if_neg this, if_neg e]; exact h.2 j x hj hx
theorem RowsV.congr {xs : List Value} {n : Nat} {F G : Nat → Nat → Bool} (h : RowsV xs n F) (hg : ∀ j x, j < n → x < 401 → G j x = F j x) : RowsV xs n G := ⟨h.1, fun j x hj hx => by rw [h.2 j x hj hx, hg j x hj hx]⟩
theorem RowsV.one {xs : List Value} {n : Nat} {F : Nat → Nat → Bool} (h : RowsV xs n F) {v : Value} (hv : v ∈ xs) : v.oneCell' = true := by
  obtain ⟨i, hi, rfl⟩ := List.mem_iff_getElem.1 hv
  rw [h.1] at hi
  have := h.2 (i / 401) (i % 401) (by omega) (by omega)
  rw [show i / 401 * 401 + i % 401 = i by omega, List.getElem?_eq_getElem (by rw [h.1]; exact hi)] at this
  injection this with this
  rw [this]; rfl

theorem run_buildRow {cs : Array Value} {f : Nat → Bool} (h : RowV cs f) (w : World) : (Instr.buildSlice 121 1 #[(0, .agg cs)]).run Try.prog w = .ok (.slice (some ⟨w.heap.size, 0, none⟩) 1 1) (w.alloc (.cells cs 139)) := by
  have hi : ∃ ie z, Try.prog.info? 139 = some ie ∧ ie.zero = some z ∧ ie.size = 401 := by
    have h0 := Try.info139
    have h1 : ((Try.prog.info? 139).bind (·.zero)).isSome = true := by kernel_rfl
    cases e : Try.prog.info? 139 with
    | none => rw [e] at h0; cases h0
    | some ie =>
      rw [e] at h0 h1
      simp only [Option.map_some, Option.some.injEq, Option.bind_some] at h0 h1
      cases e2 : ie.zero with
      | none => rw [e2] at h1; cases h1
      | some z => exact ⟨ie, z, rfl, e2, h0⟩
  obtain ⟨ie, z, hi1, hi2, hi3⟩ := hi
  refine run_buildSlice w 121 139 1 _ cs ie z Try.underlying121 hi1 hi2 (by rw [hi3]; omega) (by rw [hi3]; omega) ?_
  rw [hi3]
  have hw := Go.Great.fill_whole (s := 401) (by omega) [.agg cs] ((Array.range (1 * 401)).map (z.cells[· % z.cells.size]!)) (fun v hv => by rw [List.mem_singleton.1 hv]; exact h.1) (by simp)
  refine hw.trans ?_
  simp [Value.cells]

theorem step_buildRow {cs : Array Value} {f : Nat → Bool} (h : RowV cs f) {ops : Array Oper} {o : Oper} {a : Act} {W : World} {K : Act → World → Prop} {Q : Exit → Act → World → Prop} {E : Prop} (hg : o.guard = none) (x : Operand) (ho : o.op = .buildSlice 121 1 #[(0, x)]) (hx : a.eval x = .agg cs)
    (hK : K (a.put o.dst (.slice (some ⟨W.heap.size, 0, none⟩) 1 1)) (W.alloc (.cells cs 139))) : if Region.wanted o (yielded ops a.tmps) = true then Oper.wp Try.prog o a W K Q else E := by
  have hw : Region.wanted o (yielded ops a.tmps) = true := by simp [Region.wanted, hg]
  rw [if_pos hw]
  unfold Oper.wp execOp
  simp only [ho, Sem.run_bind, List.map_toArray, List.map_cons, List.map_nil, hx, run_buildRow h W, Result.andThen_ok]
  exact hK

/-- What levels works with: the store, the plan; nothing that lay has turned. -/
structure LvEnv (w : World) (Bs Bp : Nat) (ST PL : Array Value) (W : World) : Prop where
  below : Below w.heap.size w W
  st : W.heap[Bs]? = some (.cells ST 39 (0, 0))
  pl : W.heap[Bp]? = some (.cells PL 44 (0, 0))
section
variable {w W W' : World} {Bs Bp : Nat} {ST PL : Array Value}
theorem LvEnv.keep (h : LvEnv w Bs Bp ST PL W) (hb : Below W.heap.size W W') : LvEnv w Bs Bp ST PL W' :=
  ⟨h.below.trans (hb.mono h.below.size), (hb.block _ (Array.getElem?_eq_some_iff.1 h.st).1).trans h.st, (hb.block _ (Array.getElem?_eq_some_iff.1 h.pl).1).trans h.pl⟩
theorem LvEnv.drew (h : LvEnv w Bs Bp ST PL W) : LvEnv w Bs Bp ST PL W.drew := ⟨h.below.drew, h.st, h.pl⟩
theorem LvEnv.lts (h : LvEnv w Bs Bp ST PL W) : Bs < W.heap.size ∧ Bp < W.heap.size := ⟨(Array.getElem?_eq_some_iff.1 h.st).1, (Array.getElem?_eq_some_iff.1 h.pl).1⟩
theorem LvEnv.set (h : LvEnv w Bs Bp ST PL W) {B : Nat} (h0 : w.heap.size ≤ B) (h1 : Bs ≠ B) (h2 : Bp ≠ B) (o : Nat) (v : Value) : LvEnv w Bs Bp ST PL (W.setCell ⟨B, o, none⟩ v) :=
  ⟨h.below.setCell h0 v, (Below.heap_setCell _ _ _ _ h1).trans h.st, (Below.heap_setCell _ _ _ _ h2).trans h.pl⟩
theorem LvEnv.row (h : LvEnv w Bs Bp ST PL W) {B : Nat} (h0 : w.heap.size ≤ B) (h1 : Bs ≠ B) (h2 : Bp ≠ B) (cs : Array Value) : LvEnv w Bs Bp ST PL (W.setRow B cs) := by
  have hb : ∀ k, k ≠ B → (W.setRow B cs).heap[k]? = W.heap[k]? := fun k hk => by unfold World.setRow; simp [Array.getElem?_modify, hk.symm]
  exact ⟨⟨h.below.os, h.below.tape, h.below.output, by unfold World.setRow; simpa using h.below.size, fun k hk => (hb k (by omega)).trans (h.below.block k hk)⟩, (hb _ h1).trans h.st, (hb _ h2).trans h.pl⟩
theorem LvEnv.grown (h : LvEnv w Bs Bp ST PL W) {row : Option Nat} (hg : W.grownBy W' row) (h0 : ∀ r, row = some r → w.heap.size ≤ r ∧ Bs ≠ r ∧ Bp ≠ r) : LvEnv w Bs Bp ST PL W' :=
  ⟨h.below.grown hg h.below.size fun k e => (h0 k e).1, (hg.block _ h.lts.1 fun e => (h0 _ e.symm).2.1 rfl).trans h.st, (hg.block _ h.lts.2 fun e => (h0 _ e.symm).2.2 rfl).trans h.pl⟩
end

/-- The rows that were found, behind a variable; they lie in a block below some number. -/
def OutAt (N : Nat) (W : World) (Bo n : Nat) (F : Nat → Nat → Bool) : Prop := ∃ v xs, W.heap[Bo]? = some (.cells #[v] 121 (0, 0)) ∧ W.ownsRow (Bo + 1) 139 401 v n xs ∧ RowsV xs n F ∧ ∀ g, v.ownBlock = some g → g < N
section
variable {W W' : World} {N Bo n : Nat} {F : Nat → Nat → Bool}
theorem OutAt.lt (h : OutAt N W Bo n F) : Bo < W.heap.size := by obtain ⟨v, xs, h1, _⟩ := h; exact (Array.getElem?_eq_some_iff.1 h1).1
theorem OutAt.keep (h : OutAt N W Bo n F) (hb : Below W.heap.size W W') : OutAt N W' Bo n F := by
  obtain ⟨v, xs, h1, h2, h3⟩ := h
  exact ⟨v, xs, (hb.block _ (Array.getElem?_eq_some_iff.1 h1).1).trans h1, h2.kept (Go_grown_of_below hb) (own_none _), h3⟩
theorem OutAt.cut (h : OutAt N W Bo n F) : OutAt W.heap.size W Bo n F := by
  obtain ⟨v, xs, h1, h2, h3, h4⟩ := h
  refine ⟨v, xs, h1, h2, h3, fun g hg => ?_⟩
  rcases h2.2 with ⟨rfl, _⟩ | ⟨g', cap', cur, rfl, h5, h6, _⟩
  · cases hg
  · cases hg; exact (Array.getElem?_eq_some_iff.1 h6).1
theorem OutAt.other (h : OutAt N W Bo n F) {B : Nat} (h1 : Bo ≠ B) (h2 : B ≤ Bo ∨ N ≤ B) (o : Nat) (x : Value) : OutAt N (W.setCell ⟨B, o, none⟩ x) Bo n F := by
  obtain ⟨v, xs, g1, g2, g3, g4⟩ := h
  have hs : ∀ j, j ≠ B → (W.setCell ⟨B, o, none⟩ x).heap[j]? = W.heap[j]? := fun j hj => Below.heap_setCell _ _ _ _ hj
  refine ⟨v, xs, (hs _ h1).trans g1, g2.kept (row := some B) ⟨rfl, rfl, rfl, by simp, fun j _ hj => hs j (fun e => hj (by rw [e]))⟩ ?_, g3, g4⟩
  cases hv : v.ownBlock with
  | none => exact .inl rfl
  | some g =>
    right
    intro e
    cases e
    have := g2.lt _ hv
    have := g4 _ hv
    omega
end
theorem Try.info139' : (Try.prog.info? 139).map (fun i => (i.zero, i.size, i.bytes)) = some (some (.agg Try.zeroCells139), 401, 401) := by kernel_rfl

theorem rangeAt_block {W : World} {B : Nat} {cs : Array Value} {t : TypeId} {fr : Nat × Nat} (h : W.heap[B]? = some (.cells cs t fr)) : W.rangeAt B 0 cs.toList := by
  intro j v hv
  have h1 : cs[j]? = some v := by simpa using hv
  simp [World.cell?, h, h1]
theorem rangeAt_alloc' {W : World} {B : Nat} {cs : List Value} {o : Obj} (h : W.rangeAt B 0 cs) (hB : B < W.heap.size) : (W.alloc o).rangeAt B 0 cs := fun j v hv => (World.cell?_alloc_lt _ _ _ hB).trans (h j v hv)
theorem rangeAt_of {W W' : World} {B : Nat} {cs : List Value} (h : W.rangeAt B 0 cs) (hB : W'.heap[B]? = W.heap[B]?) : W'.rangeAt B 0 cs := fun j v hv => (World.cell?_of_block (a := ⟨B, 0 + j, none⟩) hB).trans (h j v hv)
theorem RowV.mem_one {cs : Array Value} {f : Nat → Bool} (h : RowV cs f) {u : Value} (hu : u ∈ cs.toList) : u.oneCell' = true := by
  have := h.one
  rw [Array.all_eq_true_iff_forall_mem] at this
  exact this u (by simpa using hu)
/-- A night is done: its row lies behind the others, and is what was before the next one. -/
theorem row_done {w wr w5 : World} {Bs Bp Bb Bo i q cap : Nat} {ST PL gs : Array Value} {v : Value} {xs : List Value} {f g : Nat → Bool} {F : Nat → Nat → Bool} (hE : LvEnv w Bs Bp ST PL wr) (hR : RowAt wr Bb f) (o1 : wr.heap[Bo]? = some (.cells #[v] 121 (0, 0))) (o3 : RowsV xs i F) (hgs : RowV gs g)
    (hown : w5.ownsRow (Bo + 1) 139 401 (.slice (some ⟨q, 0, none⟩) (i + 1) cap) (i + 1) (xs ++ gs.toList)) (hgrow : (wr.drew.alloc (.cells gs 139)).grownBy w5 v.ownBlock) (hv : ∀ r, v.ownBlock = some r → Bo < r) (hsb : Bs < Bb) (hpb : Bp < Bb) (hbo : Bb < Bo) (hwb : w.heap.size ≤ Bb) :
    LvEnv w Bs Bp ST PL ((w5.setCell ⟨Bo, 0, none⟩ (.slice (some ⟨q, 0, none⟩) (i + 1) cap)).setRow Bb gs) ∧ RowAt ((w5.setCell ⟨Bo, 0, none⟩ (.slice (some ⟨q, 0, none⟩) (i + 1) cap)).setRow Bb gs) Bb g ∧
      OutAt ((w5.setCell ⟨Bo, 0, none⟩ (.slice (some ⟨q, 0, none⟩) (i + 1) cap)).setRow Bb gs).heap.size ((w5.setCell ⟨Bo, 0, none⟩ (.slice (some ⟨q, 0, none⟩) (i + 1) cap)).setRow Bb gs) Bo (i + 1) (fun j => if j = i then g else F j) := by
  have hb0 : Below wr.heap.size wr (wr.drew.alloc (.cells gs 139)) := (Below.refl _ _).drew.alloc (Nat.le_refl _) _
  have hblk : ∀ k, k < wr.heap.size → k ≤ Bo → w5.heap[k]? = wr.heap[k]? := fun k h1 h2 => (hgrow.block k (Nat.lt_of_lt_of_le h1 hb0.size) (fun e => by have := hv k e.symm; omega)).trans (hb0.block k h1)
  have lo := (Array.getElem?_eq_some_iff.1 o1).1
  have hE5 : LvEnv w Bs Bp ST PL w5 := (hE.keep hb0).grown hgrow (fun r e => by have := hv r e; omega)
  have hE6 := (hE5.set (B := Bo) (by omega) (by omega) (by omega) 0 (.slice (some ⟨q, 0, none⟩) (i + 1) cap)).row (B := Bb) hwb (by omega) (by omega) gs
  have hR5 := hR.of_block (hblk Bb hR.lt (by omega))
  have hR6 : RowAt (w5.setCell ⟨Bo, 0, none⟩ (.slice (some ⟨q, 0, none⟩) (i + 1) cap)) Bb f := hR5.of_block (Below.heap_setCell _ _ _ _ (show Bb ≠ Bo by omega))
  have hO5 := (hblk Bo lo (Nat.le_refl _)).trans o1
  have hO6 : (w5.setCell ⟨Bo, 0, none⟩ (.slice (some ⟨q, 0, none⟩) (i + 1) cap)).heap[Bo]? = some (.cells #[.slice (some ⟨q, 0, none⟩) (i + 1) cap] 121 (0, 0)) := by simp [World.setCell, Array.getElem?_modify, hO5]
  have hown6 := ownsRow_setCell_below hown (a := ⟨Bo, 0, none⟩) (Nat.lt_succ_self _) (.slice (some ⟨q, 0, none⟩) (i + 1) cap)
  generalize w5.setCell ⟨Bo, 0, none⟩ (.slice (some ⟨q, 0, none⟩) (i + 1) cap) = w6 at hE6 hR6 hO6 hown6 ⊢
  have hb : ∀ k, k ≠ Bb → (w6.setRow Bb gs).heap[k]? = w6.heap[k]? := fun k hk => by unfold World.setRow; simp [Array.getElem?_modify, hk.symm]
  refine ⟨hE6, ?_, ?_⟩
  · obtain ⟨cs, h1, h2⟩ := hR6
    exact ⟨gs, by unfold World.setRow; simp [Array.getElem?_modify, h1], hgs⟩
  · refine OutAt.cut (N := q + 1) ⟨_, _, (hb Bo (by omega)).trans hO6, ?_, o3.snoc hgs, fun r hr => by cases hr; exact Nat.lt_succ_self _⟩
    have hq : Bo + 1 ≤ q := (hown6.lt q rfl).1
    have hqb : (Value.slice (some ⟨q, 0, none⟩) (i + 1) cap).ownBlock ≠ some Bb := by
      intro e
      have e2 : q = Bb := by simpa [Value.ownBlock] using e
      omega
    exact hown6.kept (row := some Bb) ⟨rfl, rfl, rfl, by unfold World.setRow; simp, fun j _ hj => hb j (fun e => hj (by rw [e]))⟩ (.inr hqb)
theorem own_drew_alloc {w : World} {base : Nat} {E size : Nat} {v : Value} {n : Nat} {xs : List Value} (h : w.ownsRow base E size v n xs) (o : Obj) : (w.drew.alloc o).ownsRow base E size v n xs :=
  h.kept (Go_grown_of_below ((Below.refl _ w).drew.alloc (Nat.le_refl _) o)) (own_none v)
/-- Behind the append: what lay in three blocks lies there still. -/
theorem blocks_app {wr w5 : World} {gs : Array Value} {v : Value} {Bo : Nat} (hgrow : (wr.drew.alloc (.cells gs 139)).grownBy w5 v.ownBlock) (hv : ∀ r, v.ownBlock = some r → Bo < r) {B : Nat} (h1 : B < wr.heap.size) (h2 : B ≤ Bo ∨ ∀ r, v.ownBlock = some r → r < B) : w5.heap[B]? = wr.heap[B]? := by
  have hb0 : Below wr.heap.size wr (wr.drew.alloc (.cells gs 139)) := (Below.refl _ _).drew.alloc (Nat.le_refl _) _
  refine (hgrow.block B (Nat.lt_of_lt_of_le h1 hb0.size) (fun e => ?_)).trans (hb0.block B h1)
  have h3 := hv B e.symm
  rcases h2 with h | h
  · omega
  · have := h B e.symm; omega
theorem rangeAt_set' {W : World} {B Bo : Nat} {cs : List Value} (h : W.rangeAt B 0 cs) (hne : B ≠ Bo) (o : Nat) (x : Value) : (W.setCell ⟨Bo, o, none⟩ x).rangeAt B 0 cs := rangeAt_of h (Below.heap_setCell _ _ _ _ hne)
theorem heap_setRow (W : World) {B k : Nat} (gs : Array Value) (h : k ≠ B) : (W.setRow B gs).heap[k]? = W.heap[k]? := by unfold World.setRow; simp [Array.getElem?_modify, h.symm]
theorem rangeAt_row' {W : World} {B Bb : Nat} {cs : List Value} (h : W.rangeAt B 0 cs) (hne : B ≠ Bb) (gs : Array Value) : (W.setRow Bb gs).rangeAt B 0 cs := rangeAt_of h (heap_setRow W gs hne)
end Go.Proofs.Ytefhdcecbmgljaa

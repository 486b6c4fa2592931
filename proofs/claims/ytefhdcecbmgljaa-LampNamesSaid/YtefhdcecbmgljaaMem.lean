/-
  Stores, plans and dips in memory.
-/
import Derived.Test.YtefhdcecbmgljaaProg
import Derived.Test.YtefhdcecbmgljaaSpec
import Derived.WalkKit
import Derived.WalkSpells
import Derived.WalkLawsBesides
import Derived.WideKeyEntry
import Derived.DeepKeys4
import Derived.KernelRfl
import Derived.Lib.Hide
import Derived.Deep.RegionHeld3
import Derived.Deep.QuietTactic
import Derived.BigQuiet
import Derived.RangeFuncNested
import Derived.RangeFuncBound
import Derived.RangeFuncCalls
import Derived.RangeFuncLeaves
import Derived.Shelf.Abstract
import Derived.Shelf.RegionOpen
import Derived.OwnWalkIn
import Derived.TacticsInMore
import Derived.LoopNIn
import Derived.LoopIn
import Derived.RegionIn
import Derived.Sort.QuietIn
import Derived.Sort.CutIn
import Derived.Laws.EntriesVeiled
import Derived.Laws.AppendOwnNone
import Derived.Laws.Tables
import Derived.Laws.Rows
import Derived.Outline
import Derived.BigRegion
import Derived.IntWalk
import Derived.Deep.AppendLies
import Derived.Deep.Cut
import Derived.Deep.CutRange
set_option linter.all false
namespace Go.Proofs.Ytefhdcecbmgljaa
open Go.RowKit Go.WalkArith

theorem Try.laidOut : laidOutB Try.prog = true := by kernel_rfl
theorem heap_new_at (w : World) (o : Obj) (k : Nat) (hk : k = w.heap.size) : (w.alloc o).heap[k]? = some o := by subst hk; exact Go.heap_alloc_new w o
theorem heap_alloc2 (w : World) (o1 o2 : Obj) : ((w.alloc o1).alloc o2).heap[w.heap.size + 1]? = some o2 := by
  have := Go.heap_alloc_new (w.alloc o1) o2
  simpa using this
theorem _root_.Go.RowKit.Below.drewN {k : Nat} {w w' : World} (h : Below k w w') (n : Nat) : Below k w (w'.drewN n) := ⟨h.os, h.tape, h.output, h.size, h.block⟩
theorem own_none (v : Value) : v.ownBlock = none ∨ v.ownBlock ≠ none := by cases v.ownBlock <;> simp
theorem Go_grown_of_below {w w' : World} (h : Below w.heap.size w w') : w.grownBy w' none := ⟨h.os, h.tape, h.output, h.size, fun j hj _ => h.block j hj⟩

/-- A list of integers behind a slice. -/
def IntsAt (W : World) (v : Value) (xs : List Int) : Prop :=
  ∃ A cap, v = .slice A xs.length cap ∧ (xs = [] ∨ ∃ b o, A = some ⟨b, o, none⟩ ∧ ∀ i (h : i < xs.length), W.cell? ⟨b, o + i, none⟩ = some (.int .i64 xs[i]))
theorem IntsAt.nil (W : World) : IntsAt W (.slice none 0 0) [] := ⟨none, 0, rfl, .inl rfl⟩
theorem IntsAt.keep {W W' : World} {v : Value} {xs : List Int} {B : Nat} (h : IntsAt W v xs) (hb : Below B W W') (hB : W.heap.size ≤ B) : IntsAt W' v xs := by
  obtain ⟨A, cap, h1, h2⟩ := h
  refine ⟨A, cap, h1, ?_⟩
  rcases h2 with h2 | ⟨b, o, h3, h4⟩
  · exact .inl h2
  · exact .inr ⟨b, o, h3, fun i hi => (hb.cell (p := ⟨b, o + i, none⟩) (Nat.lt_of_lt_of_le (World.block_lt_of_cell? W _ (h4 i hi)) hB)).trans (h4 i hi)⟩
theorem IntsAt.drew {W : World} {v : Value} {xs : List Int} (h : IntsAt W v xs) : IntsAt W.drew v xs := h
theorem IntsAt.of_own {W : World} {base : Nat} {v : Value} {n : Nat} {xs : List Int} (h : W.ownsRow base 3 1 v n (xs.map (Value.int .i64))) : IntsAt W v xs := by
  have hl : xs.length = n := by have := h.1; simpa using this
  subst hl
  rcases h.2 with ⟨rfl, h0⟩ | ⟨g, cap, cur, rfl, h1, h2, h3, h4, h5, h6⟩
  · have : xs = [] := List.length_eq_zero_iff.1 h0
    subst this
    exact IntsAt.nil W
  · refine ⟨_, cap, rfl, .inr ⟨g, 0, rfl, fun i hi => ?_⟩⟩
    have hc : cur[i]? = some (.int .i64 xs[i]) := by
      have h7 : (cur.toList.take (xs.length * 1))[i]? = (xs.map (Value.int .i64))[i]? := by rw [h6]
      rw [List.getElem?_take_of_lt (by omega)] at h7
      rw [List.getElem?_map, List.getElem?_eq_getElem hi] at h7
      simpa using h7
    simp [World.cell?, h2, hc]
/-- One number of a list. -/
theorem IntsAt.at {W : World} {A : Option Addr} {n cap : Nat} {xs : List Int} (h : IntsAt W (.slice A n cap) xs) {k : Nat} (hk : k < xs.length) : ∃ b o, A = some ⟨b, o, none⟩ ∧ W.cell? ⟨b, o + k, none⟩ = some (.int .i64 (atL xs k)) := by
  obtain ⟨A', cap', he, hc⟩ := h
  cases he
  obtain ⟨b, o, rfl, hd⟩ := hc.resolve_left (fun h => by rw [h] at hk; simp at hk)
  exact ⟨b, o, rfl, by rw [atL_at hk]; exact hd k hk⟩
theorem IntsAt.len {W : World} {A : Option Addr} {n cap : Nat} {xs : List Int} (h : IntsAt W (.slice A n cap) xs) : n = xs.length := by
  obtain ⟨A', cap', he, hc⟩ := h
  cases he; rfl
theorem IntsAt.slice {W : World} {v : Value} {xs : List Int} (h : IntsAt W v xs) : ∃ A cap, v = .slice A xs.length cap := by obtain ⟨A, cap, h, _⟩ := h; exact ⟨A, cap, h⟩

/-- Booleans behind a slice. -/
def BoolsAt (W : World) (v : Value) (xs : List Bool) : Prop :=
  ∃ A cap, v = .slice A xs.length cap ∧ (xs = [] ∨ ∃ b o, A = some ⟨b, o, none⟩ ∧ ∀ i (h : i < xs.length), W.cell? ⟨b, o + i, none⟩ = some (.bool xs[i]))
theorem BoolsAt.nil (W : World) : BoolsAt W (.slice none 0 0) [] := ⟨none, 0, rfl, .inl rfl⟩
theorem BoolsAt.keep {W W' : World} {v : Value} {xs : List Bool} {B : Nat} (h : BoolsAt W v xs) (hb : Below B W W') (hB : W.heap.size ≤ B) : BoolsAt W' v xs := by
  obtain ⟨A, cap, h1, h2⟩ := h
  refine ⟨A, cap, h1, ?_⟩
  rcases h2 with h2 | ⟨b, o, h3, h4⟩
  · exact .inl h2
  · exact .inr ⟨b, o, h3, fun i hi => (hb.cell (p := ⟨b, o + i, none⟩) (Nat.lt_of_lt_of_le (World.block_lt_of_cell? W _ (h4 i hi)) hB)).trans (h4 i hi)⟩
theorem BoolsAt.of_own {W : World} {base : Nat} {v : Value} {n : Nat} {xs : List Bool} (h : W.ownsRow base 4 1 v n (xs.map Value.bool)) : BoolsAt W v xs := by
  have hl : xs.length = n := by have := h.1; simpa using this
  subst hl
  rcases h.2 with ⟨rfl, h0⟩ | ⟨g, cap, cur, rfl, h1, h2, h3, h4, h5, h6⟩
  · have : xs = [] := List.length_eq_zero_iff.1 h0
    subst this
    exact BoolsAt.nil W
  · refine ⟨_, cap, rfl, .inr ⟨g, 0, rfl, fun i hi => ?_⟩⟩
    have hc : cur[i]? = some (.bool xs[i]) := by
      have h7 : (cur.toList.take (xs.length * 1))[i]? = (xs.map Value.bool)[i]? := by rw [h6]
      rw [List.getElem?_take_of_lt (by omega)] at h7
      rw [List.getElem?_map, List.getElem?_eq_getElem hi] at h7
      simpa using h7
    simp [World.cell?, h2, hc]

/-- A night's five numbers, a dip's three, from an address on. -/
structure NtAt (W : World) (B o : Nat) (n : Nt) : Prop where
  h : W.cell? ⟨B, o, none⟩ = some (.int .i64 n.h)
  a : W.cell? ⟨B, o + 1, none⟩ = some (.int .i64 n.a)
  b : W.cell? ⟨B, o + 2, none⟩ = some (.int .i64 n.b)
  lo : W.cell? ⟨B, o + 3, none⟩ = some (.int .i64 n.lo)
  hi : W.cell? ⟨B, o + 4, none⟩ = some (.int .i64 n.hi)
structure DpAt (W : World) (b o : Nat) (d : Dp) : Prop where
  n : W.cell? ⟨b, o, none⟩ = some (.int .i64 d.n)
  lo : W.cell? ⟨b, o + 1, none⟩ = some (.int .i64 d.lo)
  hi : W.cell? ⟨b, o + 2, none⟩ = some (.int .i64 d.hi)
def NtsAt (W : World) (A : Option Addr) (l : List Nt) : Prop := l = [] ∨ ∃ b o, A = some ⟨b, o, none⟩ ∧ ∀ i (h : i < l.length), NtAt W b (o + i * 5) l[i]
def DpsAt (W : World) (A : Option Addr) (l : List Dp) : Prop := l = [] ∨ ∃ b o, A = some ⟨b, o, none⟩ ∧ ∀ i (h : i < l.length), DpAt W b (o + i * 3) l[i]
theorem NtsAt.keep {W W' : World} {A : Option Addr} {l : List Nt} {B : Nat} (h : NtsAt W A l) (hb : Below B W W') (hB : W.heap.size ≤ B) : NtsAt W' A l := by
  rcases h with h | ⟨b, o, h1, h2⟩
  · exact .inl h
  · refine .inr ⟨b, o, h1, fun i hi => ?_⟩
    obtain ⟨a0, a1, a2, a3, a4⟩ := h2 i hi
    have hbl : b < B := Nat.lt_of_lt_of_le (World.block_lt_of_cell? W _ a0) hB
    have hc := fun j => hb.cell (p := ⟨b, j, none⟩) hbl
    exact ⟨(hc _).trans a0, (hc _).trans a1, (hc _).trans a2, (hc _).trans a3, (hc _).trans a4⟩
theorem DpsAt.keep {W W' : World} {A : Option Addr} {l : List Dp} {B : Nat} (h : DpsAt W A l) (hb : Below B W W') (hB : W.heap.size ≤ B) : DpsAt W' A l := by
  rcases h with h | ⟨b, o, h1, h2⟩
  · exact .inl h
  · refine .inr ⟨b, o, h1, fun i hi => ?_⟩
    obtain ⟨a0, a1, a2⟩ := h2 i hi
    have hbl : b < B := Nat.lt_of_lt_of_le (World.block_lt_of_cell? W _ a0) hB
    have hc := fun j => hb.cell (p := ⟨b, j, none⟩) hbl
    exact ⟨(hc _).trans a0, (hc _).trans a1, (hc _).trans a2⟩
theorem NtsAt.drew {W : World} {A : Option Addr} {l : List Nt} (h : NtsAt W A l) : NtsAt W.drew A l := h.keep ((Below.refl _ _).drew) (Nat.le_refl _)
theorem DpsAt.drew {W : World} {A : Option Addr} {l : List Dp} (h : DpsAt W A l) : DpsAt W.drew A l := h.keep ((Below.refl _ _).drew) (Nat.le_refl _)
theorem NtsAt.at {W : World} {A : Option Addr} {l : List Nt} (h : NtsAt W A l) {k : Nat} (hk : k < l.length) : ∃ b o, A = some ⟨b, o, none⟩ ∧ NtAt W b (o + k * 5) l[k] := by
  obtain ⟨b, o, rfl, hc⟩ := h.resolve_left (fun h => by rw [h] at hk; simp at hk)
  exact ⟨b, o, rfl, hc k hk⟩
theorem DpsAt.at {W : World} {A : Option Addr} {l : List Dp} (h : DpsAt W A l) {k : Nat} (hk : k < l.length) : ∃ b o, A = some ⟨b, o, none⟩ ∧ DpAt W b (o + k * 3) l[k] := by
  obtain ⟨b, o, rfl, hc⟩ := h.resolve_left (fun h => by rw [h] at hk; simp at hk)
  exact ⟨b, o, rfl, hc k hk⟩
/-- A step of a held walk: the operation that is taken first. -/
theorem tkH {P : Program} {ops : Array Oper} {Q : Exit → Act → World → Prop} {md : Region.Mode} {S : World → Prop} {fuel : Nat} {listed : Array Bool} {a : Act} {w : World} (i : Nat) (oi : Oper) {v : Value} (hS : S w)
    (hy : ∀ X, S X → (execOp a.eval oi).run P X = .ok (.value v) X) (h : wpAnyH P md ops Q S fuel (listed.setIfInBounds i true) (a.put oi.dst v) w)
    (hw : Region.wanted oi (yielded ops a.tmps) = true := by rfl) (hi : ops[i]? = some oi := by rfl) (hs : Region.noSelect ops = true := by kernel_rfl) (hf : Region.free md ops listed i = true := by kernel_rfl) (hr : (Region.ready md ops listed).contains i = true := by kernel_rfl)
    (hQ : ∀ c a w, Q (.panic c) (a.put oi.dst v) w → Q (.panic c) a w := by exact fun _ _ _ h => h) : wpAnyH P md ops Q S (fuel + 1) listed a w :=
  wpAnyH_take hi hs hf hr hQ (Or.inl ⟨hw, hy⟩) hS h
theorem tkX {P : Program} {ops : Array Oper} {Q : Exit → Act → World → Prop} {md : Region.Mode} {S : World → Prop} {fuel : Nat} {listed : Array Bool} {a : Act} {w : World} (i : Nat) (oi : Oper) {v : Value} (hS : S w)
    (hy : ∀ X, S X → (execOp a.eval oi).run P X = .ok (.value v) X) (h : wpAnyH P md ops Q S fuel (listed.setIfInBounds i true) (a.put oi.dst v) w)
    (hw : Region.wanted oi (yielded ops a.tmps) = true := by rfl) (hi : ops[i]? = some oi := by rfl) (hs : Region.noSelect ops = true := by as_aux_lemma => kernel_rfl) (hf : Region.free md ops listed i = true := by as_aux_lemma => kernel_rfl) (hr : (Region.ready md ops listed).contains i = true := by as_aux_lemma => kernel_rfl)
    (hQ : ∀ c a w, Q (.panic c) (a.put oi.dst v) w → Q (.panic c) a w := by exact fun _ _ _ h => h) : wpAnyH P md ops Q S (fuel + 1) listed a w :=
  wpAnyH_take hi hs hf hr hQ (Or.inl ⟨hw, hy⟩) hS h
/-- A block's cells. -/
theorem cells2 {w : World} {B t : Nat} {fr : Nat × Nat} {x0 x1 : Value} (h : w.heap[B]? = some (.cells #[x0, x1] t fr)) : w.cell? ⟨B, 0, none⟩ = some x0 ∧ w.cell? ⟨B, 1, none⟩ = some x1 := by simp [World.cell?, h]
theorem cells3 {w : World} {B t : Nat} {fr : Nat × Nat} {x0 x1 x2 : Value} (h : w.heap[B]? = some (.cells #[x0, x1, x2] t fr)) : w.cell? ⟨B, 0, none⟩ = some x0 ∧ w.cell? ⟨B, 1, none⟩ = some x1 ∧ w.cell? ⟨B, 2, none⟩ = some x2 := by simp [World.cell?, h]
theorem cells5 {w : World} {B t : Nat} {fr : Nat × Nat} {x0 x1 x2 x3 x4 : Value} (h : w.heap[B]? = some (.cells #[x0, x1, x2, x3, x4] t fr)) : w.cell? ⟨B, 0, none⟩ = some x0 ∧ w.cell? ⟨B, 1, none⟩ = some x1 ∧ w.cell? ⟨B, 2, none⟩ = some x2 ∧ w.cell? ⟨B, 3, none⟩ = some x3 ∧ w.cell? ⟨B, 4, none⟩ = some x4 := by simp [World.cell?, h]

end Go.Proofs.Ytefhdcecbmgljaa

/-
  best: the best numbers of all nights.
-/
import Derived.Test.YtefhdcecbmgljaaCheap
import Derived.Test.YtefhdcecbmgljaaRows3
set_option linter.all false
namespace Go.Proofs.Ytefhdcecbmgljaa
open Go.RowKit Go.WalkArith

theorem own_drew_alloc' {w : World} {base : Nat} {E size : Nat} {v : Value} {n : Nat} {xs : List Value} (h : w.ownsRow base E size v n xs) (o : Obj) : (w.drew.alloc o).ownsRow base E size v n xs :=
  h.kept (Go_grown_of_below ((Below.refl _ w).drew.alloc (Nat.le_refl _) o)) (own_none v)
theorem own_mk {b base n : Nat} {W W' : World} {v : Value} {xs : List Value} (h : W.ownsRow base 3 1 v n xs) (k : MK b W W') (hb : b < base) : W'.ownsRow base 3 1 v n xs := by
  refine h.kept (row := some b) ⟨k.os, k.tape, k.output, k.size, fun j hj hne => k.block j hj (fun e => hne (by rw [e]))⟩ ?_
  cases hv : v.ownBlock with
  | none => exact .inl rfl
  | some g => right; intro e; have := (h.lt g hv).1; cases e; omega
/-- Behind an append to a row that lies between two blocks: what lies outside lies there still. -/
theorem after_app {w w' : World} {nn : Int} {v : Value} {Bx Bn : Nat} (hgrow : (w.drew.alloc (.cells #[.int .i64 nn] 3)).grownBy w' v.ownBlock) (h1 : ∀ r, v.ownBlock = some r → Bx + 1 ≤ r) (h2 : ∀ r, v.ownBlock = some r → r < Bn) :
    (∀ k, k < w.heap.size → k ≤ Bx → w'.heap[k]? = w.heap[k]?) ∧ (∀ k, k < w.heap.size → Bn ≤ k → w'.heap[k]? = w.heap[k]?) := by
  have hb : Below w.heap.size w (w.drew.alloc (.cells #[.int .i64 nn] 3)) := (Below.refl _ w).drew.alloc (Nat.le_refl _) _
  exact ⟨fun k hk hx => (hgrow.block k (Nat.lt_of_lt_of_le hk hb.size) (fun e => by have := h1 k e.symm; omega)).trans (hb.block k hk),
    fun k hk hx => (hgrow.block k (Nat.lt_of_lt_of_le hk hb.size) (fun e => by have := h2 k e.symm; omega)).trans (hb.block k hk)⟩
theorem keepSS {w : World} {A B C : Nat} {a b c : Nat} {x y z u v : Value} {D : Nat} (h : w.cell? ⟨A, a, none⟩ = some x ∧ w.cell? ⟨B, b, none⟩ = some y ∧ w.cell? ⟨C, c, none⟩ = some z) (h1 : A ≠ D) (h2 : B ≠ D) (h3 : C ≠ D) :
    ((w.setCell ⟨D, 0, none⟩ u).setCell ⟨D, 1, none⟩ v).cell? ⟨A, a, none⟩ = some x ∧ ((w.setCell ⟨D, 0, none⟩ u).setCell ⟨D, 1, none⟩ v).cell? ⟨B, b, none⟩ = some y ∧ ((w.setCell ⟨D, 0, none⟩ u).setCell ⟨D, 1, none⟩ v).cell? ⟨C, c, none⟩ = some z := by
  have k := fun (E e : Nat) (hE : E ≠ D) => World.cell?_of_block (a := ⟨E, e, none⟩) ((Below.heap_setCell (w.setCell ⟨D, 0, none⟩ u) ⟨D, 1, none⟩ v E hE).trans (Below.heap_setCell w ⟨D, 0, none⟩ u E hE))
  exact ⟨(k _ _ h1).trans h.1, (k _ _ h2).trans h.2.1, (k _ _ h3).trans h.2.2⟩
/-- How best ends. -/
def BPost (s : St) (J : Job) (Bk : Nat) (W : World) (e : Ending) (W' : World) : Prop :=
  MK Bk W W' ∧ ((524288 ≤ chp s J s.ns.length 0 s.sl ∧ e = .returned (.tuple #[.slice none 0 0, .int .i64 0, .bool false])) ∨
    (chp s J s.ns.length 0 s.sl < 524288 ∧ ∃ v, e = .returned (.tuple #[v, .int .i64 (chp s J s.ns.length 0 s.sl), .bool true]) ∧ W'.ownsRow W.heap.size 3 1 v s.ns.length ((bestL s J s.ns.length 0 s.sl).map (Value.int .i64))))
/-- Between two nights. -/
def BRel (s : St) (J : Job) (Bk Bx : Nat) (W : World) (v2 v6 : Value) (wr : World) : Prop :=
  ∃ (i r : Nat) (o : Int) (xs : List Int), i + r = s.ns.length ∧ wr.heap[Bx]? = some (.cells #[.int .i64 i, .int .i64 o] 155 (0, 0)) ∧ (0 ≤ o ∧ o ≤ 400) ∧ xs.length = i ∧ wr.ownsRow (Bx + 1) 3 1 v2 xs.length (xs.map (Value.int .i64)) ∧ v6 = .int .i64 (chp s J r i o) ∧
    chp s J r i o + 1000 * (r : Int) < 500000 ∧ bestL s J s.ns.length 0 s.sl = xs ++ bestL s J r i o ∧ MK Bk W wr ∧ ∃ m, SpotMap wr Bk m ∧ Memo s J m
/-- Between two numbers of a night. -/
def NRel (s : St) (J : Job) (Bk Bx i m0 : Nat) (o : Int) (xs : List Int) (L : Int) (W : World) (v2 v6 v7 : Value) (wr : World) : Prop :=
  ∃ q : Nat, q ≤ m0 ∧ v6 = .int .i64 L ∧ v7 = .int .i64 (J.lo i + (q : Int)) ∧ wr.heap[Bx]? = some (.cells #[.int .i64 i, .int .i64 o] 155 (0, 0)) ∧ wr.ownsRow (Bx + 1) 3 1 v2 xs.length (xs.map (Value.int .i64)) ∧ MK Bk W wr ∧ ∃ m, SpotMap wr Bk m ∧ Memo s J m
theorem MK.set {b : Nat} {W W' : World} (h : MK b W W') {B : Nat} (hB : W.heap.size ≤ B) (o : Nat) (v : Value) : MK b W (W'.setCell ⟨B, o, none⟩ v) :=
  ⟨h.os, h.tape, h.output, by simpa using h.size, fun k hk hne => (Below.heap_setCell _ _ _ _ (show k ≠ B by omega)).trans (h.block k hk hne)⟩
theorem MK.grown {b : Nat} {W W' W'' : World} (h : MK b W W') {row : Option Nat} (hg : W'.grownBy W'' row) (hr : ∀ r, row = some r → W.heap.size ≤ r) : MK b W W'' :=
  ⟨hg.os.trans h.os, hg.tape.trans h.tape, hg.output.trans h.output, Nat.le_trans h.size hg.size, fun k hk hne => (hg.block k (Nat.lt_of_lt_of_le hk h.size) (fun e => by have := hr k e.symm; omega)).trans (h.block k hk hne)⟩
end Go.Proofs.Ytefhdcecbmgljaa

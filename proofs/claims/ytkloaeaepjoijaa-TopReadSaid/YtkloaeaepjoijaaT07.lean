/-
  Package flash: the row after some signs.
  Package flash: whether no more signs can explain what is read.
  sure, Least, Show.
  Least, Show.
  Show.
  Bounds.
  Leave: its recursive closure.
-/
import Derived.Test.YtkloaeaepjoijaaT04
import Derived.Test.YtkloaeaepjoijaaT06
import Derived.ChangeKeysEq
import Derived.Deep.MidRow
import Derived.Laws.StructEq
set_option linter.all false
namespace Go.Proofs.Ytkloaeaepjoijaa
section
open Go.RowKit Go.WalkArith
/-- What after works with. -/
structure AEnv (w : World) (Bt Br Bs Bb : Nat) (A : Option Addr) (n cap : Nat) (rd : ByteArray) (er : Int) (W : World) (f g : Nat → Int) : Prop where
  tir : TirAt W Bt A n cap rd er
  rowr : RowN W Br f
  rowb : RowN W Bb g
  res : ∃ h, RowN W Bs h
  below : Below w.heap.size w W
  lo : w.heap.size ≤ Bt
  o1 : Bt < Br
  o2 : Br < Bs
  o3 : Bs < Bb
section
variable {w : World} {Bt Br Bs Bb : Nat} {A : Option Addr} {n cap : Nat} {rd : ByteArray} {er : Int} {W W' : World} {f g : Nat → Int}
theorem AEnv.keep (h : AEnv w Bt Br Bs Bb A n cap rd er W f g) (hb : Below W.heap.size W W') : AEnv w Bt Br Bs Bb A n cap rd er W' f g := by
  obtain ⟨h', hres⟩ := h.res
  exact ⟨(hb.block Bt (Array.getElem?_eq_some_iff.1 (show W.heap[Bt]? = _ from h.tir)).1).trans h.tir, h.rowr.keep hb (Nat.le_refl _), h.rowb.keep hb (Nat.le_refl _), ⟨h', hres.keep hb (Nat.le_refl _)⟩, h.below.trans (hb.mono h.below.size), h.lo, h.o1, h.o2, h.o3⟩
theorem AEnv.rows (h : AEnv w Bt Br Bs Bb A n cap rd er W f g) {cs cs2 : Array Value} {f2 g2 : Nat → Int} (h1 : RowV cs f2) (h2 : RowV cs2 g2) : AEnv w Bt Br Bs Bb A n cap rd er ((W.setRow Br cs).setRow Bb cs2) f2 g2 := by
  obtain ⟨h', hres⟩ := h.res
  have a1 := h.lo
  have a2 := h.o1
  have a3 := h.o2
  have a4 := h.o3
  obtain ⟨c1, p1, _⟩ := h.rowr
  obtain ⟨c2, p2, _⟩ := h.rowb
  have hb : ∀ j, j ≠ Br → j ≠ Bb → ((W.setRow Br cs).setRow Bb cs2).heap[j]? = W.heap[j]? := fun j e1 e2 => (heap_setRow _ _ e2).trans (heap_setRow _ _ e1)
  refine ⟨(hb Bt (by omega) (by omega)).trans h.tir, ⟨cs, (heap_setRow _ _ (by omega)).trans (heap_setRow_same p1), h1⟩, ⟨cs2, heap_setRow_same ((heap_setRow _ _ (by omega)).trans p2), h2⟩, ⟨h', hres.of_block (hb Bs (by omega) (by omega))⟩, ⟨h.below.os, h.below.tape, h.below.output, ?_, fun j hj => (hb j (by omega) (by omega)).trans (h.below.block j hj)⟩, a1, a2, a3, a4⟩
  have := h.below.size
  unfold World.setRow
  simpa using this
theorem AEnv.cells (h : AEnv w Bt Br Bs Bb A n cap rd er W f g) : W.cell? ⟨Bt, 0, none⟩ = some (.slice A n cap) ∧ W.cell? ⟨Bt, 1, none⟩ = some (.string rd) ∧ W.cell? ⟨Bt, 2, none⟩ = some (.int .i64 er) := by
  have := h.tir
  refine ⟨?_, ?_, ?_⟩ <;> (simp only [World.cell?, show W.heap[Bt]? = _ from this]; rfl)
end
theorem BytesAt.rows {W : World} {q : Nat} {s : ByteArray} {B1 B2 : Nat} {c1 c2 : Array Value} (h : BytesAt W q s) (h1 : q ≠ B1) (h2 : q ≠ B2) : BytesAt ((W.setRow B1 c1).setRow B2 c2) q s := fun i hi => (World.cell?_of_block (a := ⟨q, i, none⟩) ((heap_setRow _ _ h2).trans (heap_setRow _ _ h1))).trans (h i hi)
def AfRel (w : World) (Bt Br Bs Bb q : Nat) (A : Option Addr) (n cap : Nat) (rd s : ByteArray) (er : Int) (a : List Nat) (la i : Value) (wr : World) : Prop :=
  ∃ k : Nat, k ≤ s.size ∧ i = .int .i64 k ∧ la = .int .u8 (lastK a (nl s) k : Nat) ∧ AEnv w Bt Br Bs Bb A n cap rd er wr (rowR (nl rd) (soFar a (nl s) k)) (befK (nl rd) a (nl s) k) ∧ BytesAt wr q s
theorem rowR_bd (rd a : List Nat) (k : Nat) : 0 ≤ rowR rd a k ∧ rowR rd a k ≤ far := ⟨rowR_nn rd a k, rowR_far rd a k⟩
theorem befK_bd (rd a l : List Nat) (k j : Nat) : 0 ≤ befK rd a l k j ∧ befK rd a l k j ≤ far := ⟨befK_nn rd a l k j, befK_far rd a l k j⟩
set_option maxRecDepth 100000 in
set_option maxHeartbeats 4000000 in
theorem after_any (rd s : ByteArray) (A : Option Addr) (n cap : Nat) (er : Int) (cr : Array Value) (a : List Nat) (w : World) (hl : rd.size ≤ 40) (hs : s.size ≤ 1000) (hcr : RowV cr (rowR (nl rd) a)) (ha : a = [] ∨ (nl s).head? = some 32) :
    Calls Try.prog 115 #[.agg #[.slice A n cap, .string rd, .int .i64 er], .agg cr, .string s] w (RowPost (rowR (nl rd) ((nl s).reverse ++ a)) w) := by
  have hb0 : Below w.heap.size w ((((w.alloc (.cells #[.slice A n cap, .string rd, .int .i64 er] 134)).alloc (.cells cr 164)).alloc (.cells #[.int .i64 0, .int .i64 0, .int .i64 0, .int .i64 0, .int .i64 0, .int .i64 0, .int .i64 0, .int .i64 0, .int .i64 0, .int .i64 0, .int .i64 0, .int .i64 0, .int .i64 0, .int .i64 0, .int .i64 0, .int .i64 0, .int .i64 0, .int .i64 0, .int .i64 0, .int .i64 0, .int .i64 0, .int .i64 0, .int .i64 0, .int .i64 0, .int .i64 0, .int .i64 0, .int .i64 0, .int .i64 0, .int .i64 0, .int .i64 0, .int .i64 0, .int .i64 0, .int .i64 0, .int .i64 0, .int .i64 0, .int .i64 0, .int .i64 0, .int .i64 0, .int .i64 0, .int .i64 0, .int .i64 0] 164)).alloc (.cells #[.int .i64 0, .int .i64 0, .int .i64 0, .int .i64 0, .int .i64 0, .int .i64 0, .int .i64 0, .int .i64 0, .int .i64 0, .int .i64 0, .int .i64 0, .int .i64 0, .int .i64 0, .int .i64 0, .int .i64 0, .int .i64 0, .int .i64 0, .int .i64 0, .int .i64 0, .int .i64 0, .int .i64 0, .int .i64 0, .int .i64 0, .int .i64 0, .int .i64 0, .int .i64 0, .int .i64 0, .int .i64 0, .int .i64 0, .int .i64 0, .int .i64 0, .int .i64 0, .int .i64 0, .int .i64 0, .int .i64 0, .int .i64 0, .int .i64 0, .int .i64 0, .int .i64 0, .int .i64 0, .int .i64 0] 164)) := ((((Below.refl _ _).alloc (Nat.le_refl _) _).alloc (by simp) _).alloc (by simp <;> omega) _).alloc (by simp <;> omega) _
  have hn0 : ((((w.alloc (.cells #[.slice A n cap, .string rd, .int .i64 er] 134)).alloc (.cells cr 164)).alloc (.cells #[.int .i64 0, .int .i64 0, .int .i64 0, .int .i64 0, .int .i64 0, .int .i64 0, .int .i64 0, .int .i64 0, .int .i64 0, .int .i64 0, .int .i64 0, .int .i64 0, .int .i64 0, .int .i64 0, .int .i64 0, .int .i64 0, .int .i64 0, .int .i64 0, .int .i64 0, .int .i64 0, .int .i64 0, .int .i64 0, .int .i64 0, .int .i64 0, .int .i64 0, .int .i64 0, .int .i64 0, .int .i64 0, .int .i64 0, .int .i64 0, .int .i64 0, .int .i64 0, .int .i64 0, .int .i64 0, .int .i64 0, .int .i64 0, .int .i64 0, .int .i64 0, .int .i64 0, .int .i64 0, .int .i64 0] 164)).alloc (.cells #[.int .i64 0, .int .i64 0, .int .i64 0, .int .i64 0, .int .i64 0, .int .i64 0, .int .i64 0, .int .i64 0, .int .i64 0, .int .i64 0, .int .i64 0, .int .i64 0, .int .i64 0, .int .i64 0, .int .i64 0, .int .i64 0, .int .i64 0, .int .i64 0, .int .i64 0, .int .i64 0, .int .i64 0, .int .i64 0, .int .i64 0, .int .i64 0, .int .i64 0, .int .i64 0, .int .i64 0, .int .i64 0, .int .i64 0, .int .i64 0, .int .i64 0, .int .i64 0, .int .i64 0, .int .i64 0, .int .i64 0, .int .i64 0, .int .i64 0, .int .i64 0, .int .i64 0, .int .i64 0, .int .i64 0] 164)).heap[w.heap.size]? = some (.cells #[.slice A n cap, .string rd, .int .i64 er] 134 (0, 0)) := (Below.heap_alloc _ _ _ (by simp <;> omega)).trans ((Below.heap_alloc _ _ _ (by simp <;> omega)).trans ((Below.heap_alloc _ _ _ (by simp <;> omega)).trans (heap_new_at _ _ _ rfl)))
  have hn1 : ((((w.alloc (.cells #[.slice A n cap, .string rd, .int .i64 er] 134)).alloc (.cells cr 164)).alloc (.cells #[.int .i64 0, .int .i64 0, .int .i64 0, .int .i64 0, .int .i64 0, .int .i64 0, .int .i64 0, .int .i64 0, .int .i64 0, .int .i64 0, .int .i64 0, .int .i64 0, .int .i64 0, .int .i64 0, .int .i64 0, .int .i64 0, .int .i64 0, .int .i64 0, .int .i64 0, .int .i64 0, .int .i64 0, .int .i64 0, .int .i64 0, .int .i64 0, .int .i64 0, .int .i64 0, .int .i64 0, .int .i64 0, .int .i64 0, .int .i64 0, .int .i64 0, .int .i64 0, .int .i64 0, .int .i64 0, .int .i64 0, .int .i64 0, .int .i64 0, .int .i64 0, .int .i64 0, .int .i64 0, .int .i64 0] 164)).alloc (.cells #[.int .i64 0, .int .i64 0, .int .i64 0, .int .i64 0, .int .i64 0, .int .i64 0, .int .i64 0, .int .i64 0, .int .i64 0, .int .i64 0, .int .i64 0, .int .i64 0, .int .i64 0, .int .i64 0, .int .i64 0, .int .i64 0, .int .i64 0, .int .i64 0, .int .i64 0, .int .i64 0, .int .i64 0, .int .i64 0, .int .i64 0, .int .i64 0, .int .i64 0, .int .i64 0, .int .i64 0, .int .i64 0, .int .i64 0, .int .i64 0, .int .i64 0, .int .i64 0, .int .i64 0, .int .i64 0, .int .i64 0, .int .i64 0, .int .i64 0, .int .i64 0, .int .i64 0, .int .i64 0, .int .i64 0] 164)).heap[w.heap.size + 1]? = some (.cells cr 164 (0, 0)) := (Below.heap_alloc _ _ _ (by simp <;> omega)).trans ((Below.heap_alloc _ _ _ (by simp <;> omega)).trans (heap_new_at _ _ _ (by simp)))
  have hn2 : ((((w.alloc (.cells #[.slice A n cap, .string rd, .int .i64 er] 134)).alloc (.cells cr 164)).alloc (.cells #[.int .i64 0, .int .i64 0, .int .i64 0, .int .i64 0, .int .i64 0, .int .i64 0, .int .i64 0, .int .i64 0, .int .i64 0, .int .i64 0, .int .i64 0, .int .i64 0, .int .i64 0, .int .i64 0, .int .i64 0, .int .i64 0, .int .i64 0, .int .i64 0, .int .i64 0, .int .i64 0, .int .i64 0, .int .i64 0, .int .i64 0, .int .i64 0, .int .i64 0, .int .i64 0, .int .i64 0, .int .i64 0, .int .i64 0, .int .i64 0, .int .i64 0, .int .i64 0, .int .i64 0, .int .i64 0, .int .i64 0, .int .i64 0, .int .i64 0, .int .i64 0, .int .i64 0, .int .i64 0, .int .i64 0] 164)).alloc (.cells #[.int .i64 0, .int .i64 0, .int .i64 0, .int .i64 0, .int .i64 0, .int .i64 0, .int .i64 0, .int .i64 0, .int .i64 0, .int .i64 0, .int .i64 0, .int .i64 0, .int .i64 0, .int .i64 0, .int .i64 0, .int .i64 0, .int .i64 0, .int .i64 0, .int .i64 0, .int .i64 0, .int .i64 0, .int .i64 0, .int .i64 0, .int .i64 0, .int .i64 0, .int .i64 0, .int .i64 0, .int .i64 0, .int .i64 0, .int .i64 0, .int .i64 0, .int .i64 0, .int .i64 0, .int .i64 0, .int .i64 0, .int .i64 0, .int .i64 0, .int .i64 0, .int .i64 0, .int .i64 0, .int .i64 0] 164)).heap[w.heap.size + 1 + 1]? = some (.cells #[.int .i64 0, .int .i64 0, .int .i64 0, .int .i64 0, .int .i64 0, .int .i64 0, .int .i64 0, .int .i64 0, .int .i64 0, .int .i64 0, .int .i64 0, .int .i64 0, .int .i64 0, .int .i64 0, .int .i64 0, .int .i64 0, .int .i64 0, .int .i64 0, .int .i64 0, .int .i64 0, .int .i64 0, .int .i64 0, .int .i64 0, .int .i64 0, .int .i64 0, .int .i64 0, .int .i64 0, .int .i64 0, .int .i64 0, .int .i64 0, .int .i64 0, .int .i64 0, .int .i64 0, .int .i64 0, .int .i64 0, .int .i64 0, .int .i64 0, .int .i64 0, .int .i64 0, .int .i64 0, .int .i64 0] 164 (0, 0)) := (Below.heap_alloc _ _ _ (by simp <;> omega)).trans (heap_new_at _ _ _ (by simp))
  have hn3 : ((((w.alloc (.cells #[.slice A n cap, .string rd, .int .i64 er] 134)).alloc (.cells cr 164)).alloc (.cells #[.int .i64 0, .int .i64 0, .int .i64 0, .int .i64 0, .int .i64 0, .int .i64 0, .int .i64 0, .int .i64 0, .int .i64 0, .int .i64 0, .int .i64 0, .int .i64 0, .int .i64 0, .int .i64 0, .int .i64 0, .int .i64 0, .int .i64 0, .int .i64 0, .int .i64 0, .int .i64 0, .int .i64 0, .int .i64 0, .int .i64 0, .int .i64 0, .int .i64 0, .int .i64 0, .int .i64 0, .int .i64 0, .int .i64 0, .int .i64 0, .int .i64 0, .int .i64 0, .int .i64 0, .int .i64 0, .int .i64 0, .int .i64 0, .int .i64 0, .int .i64 0, .int .i64 0, .int .i64 0, .int .i64 0] 164)).alloc (.cells #[.int .i64 0, .int .i64 0, .int .i64 0, .int .i64 0, .int .i64 0, .int .i64 0, .int .i64 0, .int .i64 0, .int .i64 0, .int .i64 0, .int .i64 0, .int .i64 0, .int .i64 0, .int .i64 0, .int .i64 0, .int .i64 0, .int .i64 0, .int .i64 0, .int .i64 0, .int .i64 0, .int .i64 0, .int .i64 0, .int .i64 0, .int .i64 0, .int .i64 0, .int .i64 0, .int .i64 0, .int .i64 0, .int .i64 0, .int .i64 0, .int .i64 0, .int .i64 0, .int .i64 0, .int .i64 0, .int .i64 0, .int .i64 0, .int .i64 0, .int .i64 0, .int .i64 0, .int .i64 0, .int .i64 0] 164)).heap[w.heap.size + 1 + 1 + 1]? = some (.cells #[.int .i64 0, .int .i64 0, .int .i64 0, .int .i64 0, .int .i64 0, .int .i64 0, .int .i64 0, .int .i64 0, .int .i64 0, .int .i64 0, .int .i64 0, .int .i64 0, .int .i64 0, .int .i64 0, .int .i64 0, .int .i64 0, .int .i64 0, .int .i64 0, .int .i64 0, .int .i64 0, .int .i64 0, .int .i64 0, .int .i64 0, .int .i64 0, .int .i64 0, .int .i64 0, .int .i64 0, .int .i64 0, .int .i64 0, .int .i64 0, .int .i64 0, .int .i64 0, .int .i64 0, .int .i64 0, .int .i64 0, .int .i64 0, .int .i64 0, .int .i64 0, .int .i64 0, .int .i64 0, .int .i64 0] 164 (0, 0)) := heap_new_at _ _ _ (by simp)
  have HE1 := Lib.hid (show AEnv w w.heap.size (w.heap.size + 1) (w.heap.size + 1 + 1) (w.heap.size + 1 + 1 + 1) A n cap rd er _ (rowR (nl rd) (soFar a (nl s) 0)) (befK (nl rd) a (nl s) 0) from ⟨hn0, ⟨_, hn1, hcr⟩, ⟨_, hn3, zeros_row⟩, ⟨_, _, hn2, zeros_row⟩, hb0, by omega, by omega, by omega, by omega⟩)
  have HA := Lib.hid ha
  have HNL := Lib.hid (nl_len s)
  clear hb0 hn0 hn1 hn2 hn3 hcr ha
  go_enter Try.func115, Try.ntmps115
  go_upto_region 3 with fail
  generalize (((w.alloc (.cells #[.slice A n cap, .string rd, .int .i64 er] 134)).alloc (.cells cr 164)).alloc (.cells #[.int .i64 0, .int .i64 0, .int .i64 0, .int .i64 0, .int .i64 0, .int .i64 0, .int .i64 0, .int .i64 0, .int .i64 0, .int .i64 0, .int .i64 0, .int .i64 0, .int .i64 0, .int .i64 0, .int .i64 0, .int .i64 0, .int .i64 0, .int .i64 0, .int .i64 0, .int .i64 0, .int .i64 0, .int .i64 0, .int .i64 0, .int .i64 0, .int .i64 0, .int .i64 0, .int .i64 0, .int .i64 0, .int .i64 0, .int .i64 0, .int .i64 0, .int .i64 0, .int .i64 0, .int .i64 0, .int .i64 0, .int .i64 0, .int .i64 0, .int .i64 0, .int .i64 0, .int .i64 0, .int .i64 0] 164)).alloc (.cells #[.int .i64 0, .int .i64 0, .int .i64 0, .int .i64 0, .int .i64 0, .int .i64 0, .int .i64 0, .int .i64 0, .int .i64 0, .int .i64 0, .int .i64 0, .int .i64 0, .int .i64 0, .int .i64 0, .int .i64 0, .int .i64 0, .int .i64 0, .int .i64 0, .int .i64 0, .int .i64 0, .int .i64 0, .int .i64 0, .int .i64 0, .int .i64 0, .int .i64 0, .int .i64 0, .int .i64 0, .int .i64 0, .int .i64 0, .int .i64 0, .int .i64 0, .int .i64 0, .int .i64 0, .int .i64 0, .int .i64 0, .int .i64 0, .int .i64 0, .int .i64 0, .int .i64 0, .int .i64 0, .int .i64 0] 164) = w1 at HE1 ⊢
  obtain ⟨Bt, hBt⟩ : ∃ B, w.heap.size = B := ⟨_, rfl⟩
  obtain ⟨Br, hBr⟩ : ∃ B, w.heap.size + 1 = B := ⟨_, rfl⟩
  obtain ⟨Bs, hBs⟩ : ∃ B, w.heap.size + 1 + 1 = B := ⟨_, rfl⟩
  obtain ⟨Bb, hBb⟩ : ∃ B, w.heap.size + 1 + 1 + 1 = B := ⟨_, rfl⟩
  have HE := Lib.hid (show AEnv w Bt Br Bs Bb A n cap rd er w1 _ _ by rw [← hBb, ← hBs, ← hBr, ← hBt]; exact HE1.out)
  rw [hBb, hBs, hBr, hBt]
  clear hBb hBs hBr hBt HE1
  obtain ⟨cap2, w2, hcv, hby, hb2⟩ := bytes_conv w1 s
  have HQ := Lib.hid (show w1.heap.size > Bb from HE.out.rowb.lt)
  have HE2 := Lib.hid (HE.out.keep hb2)
  have HBY := Lib.hid hby
  obtain ⟨q, hq⟩ : ∃ q, w1.heap.size = q := ⟨_, rfl⟩
  rw [hq] at hcv HBY HQ
  clear hb2 hby HE hq
  go_wp2_with fail
  clear hcv
  go_loopw [8, 14] (AfRel w Bt Br Bs Bb q A n cap rd s er a) (fun _ i _ => s.size - (intOf i).toNat)
  case atStart => exact ⟨0, by omega, rfl, rfl, HE2.out, HBY.out⟩
  case round =>
    clear HE2 HBY
    obtain ⟨k, hk, rfl, rfl, hE, hBy⟩ := hrel
    by_cases hlt : k < s.size
    · have hlt' : decide ((k : Int) < (s.size : Int)) = true := by simpa using hlt
      have hkl : k < (nl s).length := by rw [nl_len]; exact hlt
      have c0 := hBy k hkl
      have hnx := row_next (rd := nl rd) hkl HA.out
      have hlk := lastK_succ (a := a) hkl
      have hbk := befK_succ (rd := nl rd) (a := a) hkl
      obtain ⟨x, hx⟩ : ∃ x, (nl s)[k] = x := ⟨_, rfl⟩
      rw [hx] at c0 hnx hlk
      have HNX := Lib.hid hnx
      have HLK := Lib.hid hlk
      have HBK := Lib.hid hbk
      have HE := Lib.hid hE
      have HBY := Lib.hid hBy
      have i0 : (0 : Int) ≤ (k : Int) := by omega
      have i1 : (k : Int) < (s.size : Int) := by omega
      obtain ⟨la, hla⟩ : ∃ l, lastK a (nl s) k = l := ⟨_, rfl⟩
      rw [hla] at HNX ⊢
      clear hnx hlk hbk hE hBy hla hx
      obtain ⟨csr, hcr1, hcr2⟩ := HE.out.rowr
      obtain ⟨csb, hcb1, hcb2⟩ := HE.out.rowb
      have HR1 := Lib.hid hcr1
      have HR2 := Lib.hid hcr2
      have HB1 := Lib.hid hcb1
      have HB2 := Lib.hid hcb2
      obtain ⟨t0, t1, t2⟩ := HE.out.cells
      have g1 := rangeAt_block hcr1
      have g2 := rangeAt_block hcb1
      have HS0 := Lib.hid (And.intro t0 (And.intro t1 (And.intro t2 (And.intro g1 g2))))
      clear hcr1 hcr2 hcb1 hcb2 t0 t1 t2 g1 g2
      go_upto_region 6 with fail
      go_cut [8, 14] from 14 to 26 (fun s8 s14 wc => s8 = .int .u8 (la : Nat) ∧ s14 = .int .i64 (k : Int) ∧ AEnv w Bt Br Bs Bb A n cap rd er wc (rowR (nl rd) (soFar a (nl s) (k + 1))) (befK (nl rd) a (nl s) (k + 1)) ∧ BytesAt wc q s)
      case first =>
        refine wp_region_T [7, 8] (S := fun X => X.cell? ⟨Bt, 0, none⟩ = some (.slice A n cap) ∧ X.cell? ⟨Bt, 1, none⟩ = some (.string rd) ∧ X.cell? ⟨Bt, 2, none⟩ = some (.int .i64 er) ∧ X.rangeAt Br 0 csr.toList ∧ X.rangeAt Bb 0 csb.toList) (by kernel_rfl) (HS0.out) (fun hS0 => ?_)
        refine wpAnyT_take (i := 0) (oi := { dst := some 18, op := Op.load 134 (Operand.tmp 3), type := 134, pos := "texts.go:60", after := #[], guard := none }) (v := ?_) rfl (by kernel_rfl) (by kernel_rfl) (by kernel_rfl) (by kernel_rfl) (fun _ _ _ h => h) (Or.inl ⟨by rfl, ?_⟩) hS0 ?_
        rotate_left
        · intro X hX
          obtain ⟨x0, x1, x2, x3, x4⟩ := hX
          go_simp
          try with_reducible rfl
        simp only [Act.put, List.setIfInBounds_toArray, List.set_cons_zero, List.set_cons_succ, Array.toArray_toList]
        refine wpAnyT_take (i := 3) (oi := { dst := some 21, op := Op.move (Operand.tmp 8), type := 5, pos := "texts.go:60", after := #[], guard := none }) (v := ?_) rfl (by kernel_rfl) (by kernel_rfl) (by kernel_rfl) (by kernel_rfl) (fun _ _ _ h => h) (Or.inl ⟨by rfl, ?_⟩) hS0 ?_
        rotate_left
        · intro X hX
          obtain ⟨x0, x1, x2, x3, x4⟩ := hX
          go_simp
          try with_reducible rfl
        simp only [Act.put, List.setIfInBounds_toArray, List.set_cons_zero, List.set_cons_succ, Array.toArray_toList]
        refine wpAnyT_take (i := 4) (oi := { dst := some 22, op := Op.move (Operand.tmp 10), type := 5, pos := "texts.go:60", after := #[], guard := none }) (v := ?_) rfl (by kernel_rfl) (by kernel_rfl) (by kernel_rfl) (by kernel_rfl) (fun _ _ _ h => h) (Or.inl ⟨by rfl, ?_⟩) hS0 ?_
        rotate_left
        · intro X hX
          obtain ⟨x0, x1, x2, x3, x4⟩ := hX
          go_simp
          try with_reducible rfl
        simp only [Act.put, List.setIfInBounds_toArray, List.set_cons_zero, List.set_cons_succ, Array.toArray_toList]
        refine wpAnyT_take (i := 1) (oi := { dst := some 19, op := Op.load 164 (Operand.tmp 4), type := 164, pos := "texts.go:60", after := #[], guard := none }) rfl (by kernel_rfl) (by kernel_rfl) (by kernel_rfl) (by kernel_rfl) (fun _ _ _ h => h) (yieldsIf_load_mid (by rfl) _ _ rfl _ _ rfl csr.toList _ (fun X hX => hX.2.2.2.1) Try.underlying164 rfl (by rw [Array.length_toList]; exact HR2.out.info)) hS0 ?_
        simp only [Act.put, List.setIfInBounds_toArray, List.set_cons_zero, List.set_cons_succ, Array.toArray_toList]
        refine wpAnyT_take (i := 2) (oi := { dst := some 20, op := Op.load 164 (Operand.tmp 7), type := 164, pos := "texts.go:60", after := #[], guard := none }) rfl (by kernel_rfl) (by kernel_rfl) (by kernel_rfl) (by kernel_rfl) (fun _ _ _ h => h) (yieldsIf_load_mid (by rfl) _ _ rfl _ _ rfl csb.toList _ (fun X hX => hX.2.2.2.2) Try.underlying164 rfl (by rw [Array.length_toList]; exact HB2.out.info)) hS0 ?_
        simp only [Act.put, List.setIfInBounds_toArray, List.set_cons_zero, List.set_cons_succ, Array.toArray_toList]
        refine wpAnyT_take (i := 6) (oi := { dst := some 24, op := Op.load 164 (Operand.tmp 4), type := 164, pos := "texts.go:60", after := #[], guard := none }) rfl (by kernel_rfl) (by kernel_rfl) (by kernel_rfl) (by kernel_rfl) (fun _ _ _ h => h) (yieldsIf_load_mid (by rfl) _ _ rfl _ _ rfl csr.toList _ (fun X hX => hX.2.2.2.1) Try.underlying164 rfl (by rw [Array.length_toList]; exact HR2.out.info)) hS0 ?_
        simp only [Act.put, List.setIfInBounds_toArray, List.set_cons_zero, List.set_cons_succ, Array.toArray_toList]
        refine wpAnyT_one (i := 5) (o := { dst := some 23, op := Op.call { callee := Callee.value (Operand.func 131), args := #[Operand.tmp 18, Operand.tmp 19, Operand.tmp 20, Operand.tmp 21, Operand.tmp 22], argTypes := #[134, 164, 164, 5, 5] }, type := 164, pos := "texts.go:60", after := #[{ on := 0, ground := Ground.data }, { on := 1, ground := Ground.data }, { on := 2, ground := Ground.data }, { on := 3, ground := Ground.data }, { on := 4, ground := Ground.data }], guard := none }) (by kernel_rfl) rfl (fun K hK => ?_)
        go_simp
        refine (sign_any rd A n cap er csr csb _ _ la x _ hl HR2.out HB2.out (rowR_bd _ _) (befK_bd _ _ _ _)).mono ?_
        rintro e y1 ⟨cs, rfl, hcs, hbe⟩
        have HCS := Lib.hid hcs
        have hbe2 : Below wr.heap.size wr y1 := (Below.refl _ wr).drew.trans hbe
        have HE3 := Lib.hid (HE.out.keep hbe2)
        have HBY3 := Lib.hid (HBY.out.keep hbe2 (Nat.le_refl _))
        have HR3 := Lib.hid ((hbe2.block Br (Array.getElem?_eq_some_iff.1 HR1.out).1).trans HR1.out)
        have HB3 := Lib.hid ((hbe2.block Bb (Array.getElem?_eq_some_iff.1 HB1.out).1).trans HB1.out)
        have HT3 := Lib.hid HE3.out.cells
        clear hcs hbe hbe2
        go_wp2_with fail
        refine hK.out _ _ (fun _ => ⟨HT3.out.1, HT3.out.2.1, HT3.out.2.2, rangeAt_block HR3.out, rangeAt_block HB3.out⟩) (fun hS1q => ?_)
        have hS1 := hS1q rfl
        clear hS1q hS0 hK K
        refine wpAnyT_one (i := 7) (o := { dst := none, op := Op.store 164 (Operand.tmp 4) (Operand.tmp 23), type := 0, pos := "texts.go:60", after := #[{ on := 5, ground := Ground.data }, { on := 5, ground := Ground.chain }, { on := 0, ground := Ground.phase }, { on := 1, ground := Ground.phase }, { on := 2, ground := Ground.phase }, { on := 3, ground := Ground.phase }, { on := 4, ground := Ground.phase }, { on := 5, ground := Ground.phase }, { on := 6, ground := Ground.phase }], guard := none }) (by kernel_rfl) rfl (fun K hK => ?_)
        rw [if_pos (by rfl)]
        refine wp_store_row 164 _ _ (by rfl) Br cs (by rfl) (by rfl) 164 csr HR3.out HCS.out.info (by rw [HCS.out.1, HR2.out.1]) HCS.out.one ?_
        refine hK.out _ _ (fun h => absurd h (by decide)) (fun _ => ?_)
        clear hK K
        simp only [Act.put, List.setIfInBounds_toArray, List.set_cons_zero, List.set_cons_succ, Array.toArray_toList]
        refine wpAnyT_one (i := 8) (o := { dst := none, op := Op.store 164 (Operand.tmp 7) (Operand.tmp 24), type := 0, pos := "texts.go:60", after := #[{ on := 6, ground := Ground.data }, { on := 7, ground := Ground.chain }, { on := 0, ground := Ground.phase }, { on := 1, ground := Ground.phase }, { on := 2, ground := Ground.phase }, { on := 3, ground := Ground.phase }, { on := 4, ground := Ground.phase }, { on := 5, ground := Ground.phase }, { on := 6, ground := Ground.phase }, { on := 7, ground := Ground.phase }], guard := none }) (by kernel_rfl) rfl (fun K hK => ?_)
        rw [if_pos (by rfl)]
        refine wp_store_row 164 _ _ (by rfl) Bb csr (by rfl) (by rfl) 164 csb ((heap_setRow _ _ (by have := HE3.out.o2; have := HE3.out.o3; omega)).trans HB3.out) HR2.out.info (by rw [HB2.out.1, HR2.out.1]) HR2.out.one ?_
        refine hK.out _ _ (fun h => absurd h (by decide)) (fun _ => ?_)
        clear hK K
        simp only [Act.put, List.setIfInBounds_toArray, List.set_cons_zero, List.set_cons_succ, Array.toArray_toList]
        refine wpAnyT_done (by kernel_rfl) ?_ _
        clear hS1
        have HE4 := Lib.hid (HE3.out.rows HCS.out HR2.out)
        have HBY4 := Lib.hid (HBY3.out.rows (B1 := Br) (B2 := Bb) (c1 := cs) (c2 := csr) (by have := HQ.out; have := HE3.out.o2; have := HE3.out.o3; omega) (by have := HQ.out; omega))
        clear HE3 HBY3 HR3 HB3 HT3
        go_wp2_with fail
        go_meet
        case rel => exact ⟨rfl, rfl, by
          have h1 := HE4.out
          rw [HBK.out]
          rwa [show sgnR (nl rd) (rowR (nl rd) (soFar a (nl s) k)) (befK (nl rd) a (nl s) k) la x = rowR (nl rd) (soFar a (nl s) (k + 1)) from funext HNX.out] at h1, HBY4.out⟩
      case rest =>
        generalize wc = w5 at hcut ⊢
        obtain ⟨rfl, rfl, hE5, hBy5⟩ := hcut
        have HE5 := Lib.hid hE5
        have HBY5 := Lib.hid hBy5
        clear hE5 hBy5 HE HBY HR1 HB1 HR2 HB2 HS0 HNX c0
        go_wp2_with fail
        go_roundw
        case rel => exact ⟨k + 1, by omega, by go_num, by rw [HLK.out], HE5.out, HBY5.out⟩
        case measure => simp [intOf]; omega
    · have hlt' : decide ((k : Int) < (s.size : Int)) = false := by simpa using hlt
      obtain rfl : k = s.size := by omega
      have hfull : soFar a (nl s) s.size = (nl s).reverse ++ a := by
        unfold soFar
        rw [← HNL.out, List.take_length]
      have hrr := hE.rowr
      rw [hfull] at hrr
      obtain ⟨cs, hcb, hcs⟩ := hrr
      obtain ⟨fz, cz, hz1, hz2⟩ := hE.res
      have HCB := Lib.hid hcb
      have HCS := Lib.hid hcs
      have HZ := Lib.hid hz1
      have HZ2 := Lib.hid hz2
      have hq := heap_setRow_same (gs := cs) hz1
      have hbs : Below w.heap.size w (wr.setRow Bs cs) := ⟨hE.below.os, hE.below.tape, hE.below.output, by unfold World.setRow; simpa using hE.below.size, fun j hj => (heap_setRow wr cs (by have := hE.lo; have := hE.o1; have := hE.o2; omega)).trans (hE.below.block j hj)⟩
      have HQ2 := Lib.hid hq
      have HBS := Lib.hid hbs
      clear hcb hcs hE hq hbs hBy hz1 hz2 hfull
      go_wp2_with (first | (refine wpList_load_row rfl 164 _ rfl _ rfl 164 cs _ _ HCB.out Try.underlying164 rfl HCS.out.info ?_) | (refine wpList_store_row rfl 164 _ _ rfl Bs cs rfl rfl 164 cz HZ.out HCS.out.info (by rw [HZ2.out.1, HCS.out.1]) HCS.out.one ?_))
      exact bodyPost_ret (v := .agg cs) (results_cell_row rfl _ _ Bs 164 cs _ _ rfl HQ2.out Try.underlying164 rfl HCS.out.info) rfl ⟨cs, rfl, HCS.out, HBS.out⟩
end
end Go.Proofs.Ytkloaeaepjoijaa
namespace Go.Proofs.Ytkloaeaepjoijaa
section
open Go.RowKit Go.WalkArith
def eqB (f g : Nat → Int) : Bool := (List.range 41).all fun i => f i == g i
theorem eqB_iff {f g : Nat → Int} : eqB f g = true ↔ ∀ i, i < 41 → f i = g i := by
  unfold eqB
  rw [List.all_eq_true]
  constructor
  · intro h i hi; simpa using h i (List.mem_range.2 hi)
  · intro h i hi; simpa using h i (List.mem_range.1 hi)
theorem part_int {cs : Array Value} {f : Nat → Int} (h : RowV cs f) {k : Nat} (hk : k < 41) (w : World) : (part 3 cs (k * 1)).run Try.prog w = .ok (.int .i64 (f k)) w := by
  have hsz : (sizeOf 3).run Try.prog w = .ok 1 w := by kernel_rfl
  have hag : (isAgg 3).run Try.prog w = .ok false w := by kernel_rfl
  have h1 := h.2 k hk
  rw [← h.1] at hk
  rw [Nat.mul_one]
  have h2 : cs[k] = .int .i64 (f k) := by rw [Array.getElem?_eq_getElem hk] at h1; injection h1
  simp [part, hsz, hag, Result.andThen, hk, h2]
theorem run_items {xs ys : Array Value} {f g : Nat → Int} (hx : RowV xs f) (hy : RowV ys g) (d : Nat) (w : World) : ∀ is : List Nat, (∀ i ∈ is, i < 41) → (Op.eqItems (d + 1) 3 (Try.prog.cellsOf 3) xs ys is).run Try.prog w = .ok (is.all fun i => f i == g i) w := by
  have hc : Try.prog.cellsOf 3 = 1 := by kernel_rfl
  intro is
  induction is with
  | nil => intro _; simp [Op.eqItems]
  | cons i is ih =>
    intro h
    have ih' := ih fun j hj => h j (by simp [hj])
    rw [hc] at ih' ⊢
    have h1 := part_int hx (h i (by simp)) w
    have h2 := part_int hy (h i (by simp)) w
    have h3 := run_equalIn_int w d 3 .i64 .i64 (f i) (g i) Try.underlying3
    simp only [Op.eqItems, Sem.run_bind, h1, h2, h3, Result.andThen_ok, List.all_cons]
    cases e : (f i == g i) with
    | false => simp
    | true => simpa using ih'
theorem run_rows_eq {xs ys : Array Value} {f g : Nat → Int} (hx : RowV xs f) (hy : RowV ys g) (w : World) : (Op.equalIn 10000 164 (.agg xs) (.agg ys)).run Try.prog w = .ok (eqB f g) w := by
  have hi : ∃ i, Try.prog.info? 3 = some i := by
    cases e : Try.prog.info? 3 with
    | none => exact absurd (show (Try.prog.info? 3).isSome = true by kernel_rfl) (by rw [e]; simp)
    | some i => exact ⟨i, rfl⟩
  obtain ⟨i, hi⟩ := hi
  rw [run_equalIn_array w 9999 xs ys (n := 41) Try.underlying164 hi]
  exact run_items hx hy 9998 w (List.range 41) (fun i hi => List.mem_range.1 hi)
theorem hopFew_any (n er : Int) (Bt : Nat) (w : World) (h : w.cell? ⟨Bt, 2, none⟩ = some (.int .i64 er)) :
    Calls Try.prog 130 #[.int .i64 n, .pointer (some ⟨Bt, 0, none⟩)] w fun e w' => e = .returned (.bool (decide (n ≤ er))) ∧ w = w' := by
  by_cases hn : n ≤ er
  · have hn' : decide (n ≤ er) = true := by simpa using hn
    go_enter Try.func130, Try.ntmps130
    go_wp2_with fail
    go_ret
    exact ⟨by simp [hn], rfl⟩
  · have hn' : decide (n ≤ er) = false := by simpa using hn
    clear hn
    go_enter Try.func130, Try.ntmps130
    go_wp2_with fail
    go_ret
    exact ⟨by simp [hn'], rfl⟩
def IxPost (b : Bool) (W : World) (e : Ending) (w' : World) : Prop := ∃ v : Int, e = .returned (.int .i64 v) ∧ decide (0 ≤ v) = b ∧ W = w'
set_option maxRecDepth 100000 in
set_option maxHeartbeats 1000000 in
theorem indexFew_any (Br Bt m cap : Nat) (f : Nat → Int) (er : Int) (W : World) (hm : m ≤ 41) (hR : RowN W Br f) (h : W.cell? ⟨Bt, 2, none⟩ = some (.int .i64 er)) :
    Calls Try.prog 136 #[.slice (some ⟨Br, 0, none⟩) m cap, .func (.func 130) #[] #[.pointer (some ⟨Bt, 0, none⟩)]] W (IxPost ((List.range m).any fun k => decide (f k ≤ er)) W) := by
  have HR := Lib.hid hR
  have hin := Lib.hid (fun n => hopFew_any n er Bt W h)
  clear hR h
  go_enter Try.func136, Try.ntmps136
  go_wp2_with fail
  go_loop [8] (fun v => ∃ k : Nat, k ≤ m ∧ v = .int .i64 k ∧ ∀ j, j < k → ¬ f j ≤ er) (fun v => m - (intOf v).toNat)
  case atStart => exact ⟨0, by omega, rfl, fun j h => by omega⟩
  case round =>
    obtain ⟨k, hk, rfl, hno⟩ := hrel
    have HNO := Lib.hid hno
    clear hno
    by_cases hlt : k < m
    · have hlt' : decide ((k : Int) < (m : Int)) = true := by simpa using hlt
      have c0 := HR.out.cell (i := k) (by omega)
      obtain ⟨x, hx⟩ : ∃ x, f k = x := ⟨_, rfl⟩
      rw [hx] at c0
      have HX := Lib.hid hx
      have i0 : (0 : Int) ≤ (k : Int) := by omega
      have i1 : (k : Int) < (m : Int) := by omega
      have hc := hin.out x
      clear hx
      by_cases hle : x ≤ er
      · rw [decide_eq_true hle] at hc
        have HC := Lib.hid hc
        have HLE := Lib.hid hle
        clear hc hle
        go_wp2_with fail
        refine HC.out.mono ?_
        rintro e w' ⟨rfl, rfl⟩
        go_wp2_with fail
        go_ret
        refine ⟨k, rfl, ?_, rfl⟩
        have : ((List.range m).any fun k => decide (f k ≤ er)) = true := List.any_eq_true.2 ⟨k, List.mem_range.2 hlt, by rw [HX.out]; exact decide_eq_true HLE.out⟩
        rw [this]; simp
      · rw [decide_eq_false hle] at hc
        have HC := Lib.hid hc
        have HLE := Lib.hid hle
        clear hc hle
        go_wp2_with fail
        refine HC.out.mono ?_
        rintro e w' ⟨rfl, rfl⟩
        go_wp2_with fail
        go_round
        case rel => exact ⟨k + 1, by omega, by go_num, fun j hj => by
          by_cases e : j = k
          · rw [e, HX.out]; have := HLE.out; omega
          · have := HNO.out j (by omega); omega⟩
        case measure => simp [intOf]; omega
    · have hlt' : decide ((k : Int) < (m : Int)) = false := by simpa using hlt
      obtain rfl : k = m := by omega
      go_wp2_with fail
      go_ret
      refine ⟨-1, rfl, ?_, rfl⟩
      have : ((List.range k).any fun k => decide (f k ≤ er)) = false := by
        rw [List.any_eq_false]
        intro j hj
        simpa using HNO.out j (List.mem_range.1 hj)
      rw [this]; rfl
theorem containsFew_any (Br Bt m cap : Nat) (f : Nat → Int) (er : Int) (W : World) (hm : m ≤ 41) (hR : RowN W Br f) (h : W.cell? ⟨Bt, 2, none⟩ = some (.int .i64 er)) :
    Calls Try.prog 129 #[.slice (some ⟨Br, 0, none⟩) m cap, .func (.func 130) #[] #[.pointer (some ⟨Bt, 0, none⟩)]] W fun e w' => e = .returned (.bool ((List.range m).any fun k => decide (f k ≤ er))) ∧ W = w' := by
  have hix := Lib.hid (indexFew_any Br Bt m cap f er W hm hR h)
  clear hR h
  go_enter Try.func129, Try.ntmps129
  go_wp2_with fail
  refine hix.out.mono ?_
  rintro e w' ⟨v, rfl, hv, rfl⟩
  have HV := Lib.hid hv
  clear hv
  go_wp2_with fail
  go_ret
  exact ⟨by rw [← HV.out]; rfl, rfl⟩
set_option maxRecDepth 100000 in
set_option maxHeartbeats 4000000 in
theorem hopeless_any (rd : ByteArray) (A : Option Addr) (n cap : Nat) (er : Int) (cr : Array Value) (f : Nat → Int) (w : World) (hl : rd.size ≤ 40) (hcr : RowV cr f) (he : 0 ≤ er) :
    Calls Try.prog 113 #[.agg #[.slice A n cap, .string rd, .int .i64 er], .agg cr] w fun e w' => e = .returned (.bool (hopB (nl rd) er f)) ∧ Below w.heap.size w w' := by
  have hb0 : Below w.heap.size w ((w.alloc (.cells #[.slice A n cap, .string rd, .int .i64 er] 134)).alloc (.cells cr 164)) := ((Below.refl _ _).alloc (Nat.le_refl _) _).alloc (by simp) _
  have hn0 : ((w.alloc (.cells #[.slice A n cap, .string rd, .int .i64 er] 134)).alloc (.cells cr 164)).heap[w.heap.size]? = some (.cells #[.slice A n cap, .string rd, .int .i64 er] 134 (0, 0)) := (Below.heap_alloc _ _ _ (by simp)).trans (heap_new_at _ _ _ rfl)
  have hn1 : ((w.alloc (.cells #[.slice A n cap, .string rd, .int .i64 er] 134)).alloc (.cells cr 164)).heap[w.heap.size + 1]? = some (.cells cr 164 (0, 0)) := heap_new_at _ _ _ (by simp)
  have HCR := Lib.hid hcr
  have HB0 := Lib.hid hb0
  have HN0 := Lib.hid hn0
  have HN1 := Lib.hid hn1
  clear hb0 hn0 hn1 hcr
  go_enter Try.func113, Try.ntmps113
  go_upto_region 1 with fail
  generalize (w.alloc (.cells #[.slice A n cap, .string rd, .int .i64 er] 134)).alloc (.cells cr 164) = w1 at HB0 HN0 HN1 ⊢
  obtain ⟨Bt, hBt⟩ : ∃ B, w.heap.size = B := ⟨_, rfl⟩
  obtain ⟨Br, hBr⟩ : ∃ B, w.heap.size + 1 = B := ⟨_, rfl⟩
  rw [hBt] at HN0
  rw [hBr] at HN1
  rw [hBr, hBt]
  clear hBr hBt
  have t0 : w1.cell? ⟨Bt, 0, none⟩ = some (.slice A n cap) := by simp only [World.cell?, HN0.out]; rfl
  have t1 : w1.cell? ⟨Bt, 1, none⟩ = some (.string rd) := by simp only [World.cell?, HN0.out]; rfl
  have t2 : w1.cell? ⟨Bt, 2, none⟩ = some (.int .i64 er) := by simp only [World.cell?, HN0.out]; rfl
  have HS0 := Lib.hid (And.intro t0 (And.intro t1 (And.intro t2 (rangeAt_block HN1.out))))
  have HR1 := Lib.hid (show RowN w1 Br f from ⟨cr, HN1.out, HCR.out⟩)
  clear t0 t1 t2
  refine wp_region_held_drew (S := fun X => X.cell? ⟨Bt, 0, none⟩ = some (.slice A n cap) ∧ X.cell? ⟨Bt, 1, none⟩ = some (.string rd) ∧ X.cell? ⟨Bt, 2, none⟩ = some (.int .i64 er) ∧ X.rangeAt Br 0 cr.toList) (by kernel_rfl) (HS0.out) (fun hS0 => ?_)
  refine wpAnyH_take (i := 1) (oi := { dst := some 6, op := Op.load 134 (Operand.tmp 2), type := 134, pos := "texts.go:68", after := #[], guard := none }) (v := ?_) rfl (by kernel_rfl) (by kernel_rfl) (by kernel_rfl) (fun _ _ _ h => h) (Or.inl ⟨by rfl, ?_⟩) hS0 ?_
  rotate_left
  · intro X hX
    obtain ⟨x0, x1, x2, x3⟩ := hX
    go_simp
    try with_reducible rfl
  simp only [Act.put, List.setIfInBounds_toArray, List.set_cons_zero, List.set_cons_succ, Array.toArray_toList]
  refine wpAnyH_take (i := 0) (oi := { dst := some 5, op := Op.load 164 (Operand.tmp 3), type := 164, pos := "texts.go:68", after := #[], guard := none }) rfl (by kernel_rfl) (by kernel_rfl) (by kernel_rfl) (fun _ _ _ h => h) (yieldsIf_load_mid (by rfl) _ _ rfl _ _ rfl cr.toList _ (fun X hX => hX.2.2.2) Try.underlying164 rfl (by rw [Array.length_toList]; exact HCR.out.info)) hS0 ?_
  simp only [Act.put, List.setIfInBounds_toArray, List.set_cons_zero, List.set_cons_succ, Array.toArray_toList]
  refine wpAnyH_ready (rs := [2]) (by kernel_rfl) (by simp) (AllReadyH.cons (o := { dst := some 7, op := Op.call { callee := Callee.value (Operand.func 116), args := #[Operand.tmp 6], argTypes := #[134] }, type := 164, pos := "texts.go:68", after := #[{ on := 1, ground := Ground.data }], guard := none }) rfl (fun K hK => ?_) AllReadyH.nil)
  go_simp
  refine (begun_any rd A n cap er _ hl).mono ?_
  rintro e y1 ⟨cs, rfl, hcs, hbe⟩
  have heq := fun W => run_rows_eq HCR.out hcs W
  obtain ⟨q, hq⟩ : ∃ q, eqB f (begR (nl rd)) = q := ⟨_, rfl⟩
  rw [hq] at heq
  have HQ := Lib.hid hq
  have hbe2 : Below w1.heap.size w1 y1 := (Below.refl _ w1).drew.trans hbe
  have HR2 := Lib.hid (HR1.out.keep hbe2 (Nat.le_refl _))
  have d0 := cell_later hbe2 HS0.out.1
  have d1 := cell_later hbe2 HS0.out.2.1
  have d2 := cell_later hbe2 HS0.out.2.2.1
  have d3 := rangeAt_of HS0.out.2.2.2 (hbe2.block Br (Array.getElem?_eq_some_iff.1 HN1.out).1)
  have HB2 := Lib.hid (HB0.out.trans (hbe2.mono HB0.out.size))
  clear hq hcs hbe hbe2
  go_wp2_with fail
  refine hK.out _ _ (⟨d0, d1, d2, d3⟩) (fun hS1 => ?_)
  clear hS0 hK K
  refine wpAnyH_take (i := 3) (oi := { dst := some 8, op := Op.binOp BinOp.eql 164 (Operand.tmp 5) (Operand.tmp 7) 164, type := 4, pos := "texts.go:68", after := #[{ on := 0, ground := Ground.data }, { on := 2, ground := Ground.data }], guard := none }) (v := ?_) rfl (by kernel_rfl) (by kernel_rfl) (by kernel_rfl) (fun _ _ _ h => h) (Or.inl ⟨by rfl, ?_⟩) hS1 ?_
  rotate_left
  · intro X hX
    obtain ⟨x0, x1, x2, x3⟩ := hX
    go_simp
    try with_reducible rfl
  simp only [Act.put, List.setIfInBounds_toArray, List.set_cons_zero, List.set_cons_succ, Array.toArray_toList]
  refine wpAnyH_done (by kernel_rfl) ?_ _
  clear hS1
  clear heq d0 HR1 HN0 HN1 HS0 HB0 d3
  cases q with
  | true =>
    have hf : hopB (nl rd) er f = false := hop_beg he (eqB_iff.1 HQ.out 0 (by omega))
    have HF := Lib.hid hf
    clear hf d1 d2
    go_wp2_with fail
    go_ret
    exact ⟨by rw [HF.out]; rfl, HB2.out⟩
  | false =>
    have HC := Lib.hid (containsFew_any Br Bt (rd.size + 1) 41 f er y1 (by omega) HR2.out d2)
    have hf : hopB (nl rd) er f = !((List.range (rd.size + 1)).any fun k => decide (f k ≤ er)) := by unfold hopB; rw [nl_len]
    have HF := Lib.hid hf
    have i0 : (0 : Int) ≤ (rd.size : Int) + 1 := by omega
    have i1 : (rd.size : Int) + 1 ≤ 41 := by omega
    have i2 : ((rd.size : Int) + 1).toNat = rd.size + 1 := by omega
    obtain ⟨q2, hq2⟩ : ∃ q, ((List.range (rd.size + 1)).any fun k => decide (f k ≤ er)) = q := ⟨_, rfl⟩
    rw [hq2] at HC HF
    clear hq2 hf d2
    go_wp2_with fail
    refine HC.out.mono ?_
    rintro e w' ⟨rfl, rfl⟩
    go_wp2_with fail
    go_ret
    exact ⟨by rw [HF.out]; rfl, HB2.out⟩
end
end Go.Proofs.Ytkloaeaepjoijaa
namespace Go.Proofs.Ytkloaeaepjoijaa
section
open Go.RowKit Go.WalkArith
/-- There is a truth within an error, some readings left out. -/
def canE (l : List Ang) (T C err : Int) (out : List Int) : Bool := canB l T C (roomLo l err out) (roomHi l err out)
def sureL (l : List Ang) (T C err : Int) : Int := if askedL l T C err ≠ 0 then askedL l T C err else if canE l T C err [] then 0 else 9
theorem askedL_ok {l : List Ang} {T C err : Int} (h : askedL l T C err = 0) : NetOk l T C ∧ 0 ≤ err ∧ err ≤ 40 := by
  unfold askedL at h
  split at h
  · rename_i h1; exact absurd h h1
  · rename_i h1
    split at h
    · rename_i h2; exact ⟨faultL_zero.1 (by omega), h2⟩
    · cases h
theorem AngsAt.some {W : World} {A : Option Addr} {l : List Ang} (h : AngsAt W A l) (hl : 0 < l.length) : ∃ b o, A = some ⟨b, o, none⟩ := by
  rcases h with rfl | ⟨b, o, h1, _⟩
  · simp at hl
  · exact ⟨b, o, h1⟩
theorem canE_any (b o n cap : Nat) (T C err : Int) (l : List Ang) (rs : Array Value) (out : List Int) (w : World) (hl : l.length = n) (hok : NetOk l T C) (hA : AngsAt w (some ⟨b, o, none⟩) l) (he0 : 0 ≤ err) (hrs : RoomsV rs (roomLo l err out) (roomHi l err out)) :
    Calls Try.prog 76 #[.agg #[.slice (some ⟨b, o, none⟩) n cap, .int .i64 T, .int .i64 C], .agg rs] w fun e w' => e = .returned (.bool (canE l T C err out)) ∧ Below w.heap.size w w' :=
  can_any b o n cap T C l rs _ _ w hl hok hA hrs (hl ▸ rooms_ok hok he0 out)
end
end Go.Proofs.Ytkloaeaepjoijaa
namespace Go.Proofs.Ytkloaeaepjoijaa
section
open Go.RowKit Go.WalkArith
/-- The first number from one on that passes. -/
def firstFrom (p : Nat → Bool) : Nat → Nat → Option Nat
  | 0, _ => none
  | f + 1, k => if p k then some k else firstFrom p f (k + 1)
theorem firstFrom_skip {p : Nat → Bool} {m : Nat} : ∀ k, k ≤ m → (∀ j, j < k → p j = false) → firstFrom p m 0 = firstFrom p (m - k) k := by
  intro k
  induction k with
  | zero => intro _ _; rfl
  | succ k ih =>
    intro hk h
    rw [ih (by omega) (fun j hj => h j (by omega)), show m - k = (m - (k + 1)) + 1 by omega]
    simp [firstFrom, h k (by omega)]
theorem firstFrom_none {p : Nat → Bool} {m : Nat} (h : ∀ j, j < m → p j = false) : firstFrom p m 0 = none := by
  rw [firstFrom_skip m (Nat.le_refl _) h, Nat.sub_self]; rfl
theorem firstFrom_some {p : Nat → Bool} {m k : Nat} (hk : k < m) (h : ∀ j, j < k → p j = false) (hp : p k = true) : firstFrom p m 0 = some k := by
  rw [firstFrom_skip k (by omega) h, show m - k = (m - (k + 1)) + 1 by omega]; simp [firstFrom, hp]
/-- The smallest error. -/
def leastO (l : List Ang) (T C : Int) : Option Nat := firstFrom (fun e => canE l T C e []) 41 0
def leastN (l : List Ang) (T C : Int) : Int := if faultL l T C ≠ 0 then 0 else match leastO l T C with | some e => (e : Int) | none => 0
def leastE (l : List Ang) (T C : Int) : Int := if faultL l T C ≠ 0 then faultL l T C else match leastO l T C with | some _ => 0 | none => 9
def LeastRel (l : List Ang) (T C : Int) (n cap : Nat) (A : Option Addr) (Bn : Nat) (w : World) (i : Value) (wr : World) : Prop :=
  ∃ k : Nat, k ≤ 41 ∧ i = .int .i64 k ∧ (∀ j : Nat, j < k → canE l T C j [] = false) ∧ Below w.heap.size w wr ∧ wr.heap[Bn]? = some (.cells #[.slice A n cap, .int .i64 T, .int .i64 C] 33 (0, 0))
set_option maxRecDepth 100000 in
set_option maxHeartbeats 2000000 in
theorem least_any (A : Option Addr) (n cap : Nat) (T C : Int) (l : List Ang) (w : World) (hn : n ≤ 1000000) (hl : l.length = n) (hA : AngsAt w A l) :
    Calls Try.prog 32 #[.agg #[.slice A n cap, .int .i64 T, .int .i64 C]] w fun e w' => e = .returned (.tuple #[.int .i64 (leastN l T C), .int .i64 (leastE l T C)]) ∧ Below w.heap.size w w' := by
  have hB : Below w.heap.size w (w.alloc (.cells #[.slice A n cap, .int .i64 T, .int .i64 C] 33)) := (Below.refl _ _).alloc (Nat.le_refl _) _
  have hck := Lib.hid (checkNet_any A n cap T C l _ hn hl (hA.keep hB (Nat.le_refl _)))
  have HB := Lib.hid hB
  by_cases hf : faultL l T C = 0
  · have hok := faultL_zero.1 hf
    obtain ⟨b, o, rfl⟩ := hA.some hok.pos
    have HA := Lib.hid hA
    have HO := Lib.hid hok
    have HL := Lib.hid hl
    rw [hf] at hck
    have HAS := Lib.hid hf
    have n0 := Lib.hid (Go.heap_alloc_new w (.cells #[.slice (some ⟨b, o, none⟩) n cap, .int .i64 T, .int .i64 C] 33))
    clear hB hA hl hok hf
    go_enter Try.func32, Try.ntmps32
    go_wp2_with fail
    refine hck.out.mono ?_
    rintro e w1 ⟨rfl, hb1⟩
    have hB1 : Below w.heap.size w w1 := HB.out.trans (hb1.mono HB.out.size)
    have n1 := Lib.hid ((hb1.block w.heap.size (by simp)).trans n0.out)
    have HB1 := Lib.hid hB1
    clear hb1 hB1 hck n0 HB
    go_wp2_with fail
    obtain ⟨Bn, hBn⟩ : ∃ Bn, w.heap.size = Bn := ⟨_, rfl⟩
    have hBn' : w.heap.size ≤ Bn := by omega
    rw [hBn] at n1 ⊢
    clear hBn
    go_loopw [11] (LeastRel l T C n cap (some ⟨b, o, none⟩) Bn w) (fun i _ => 41 - (intOf i).toNat)
    case atStart => exact ⟨0, by omega, rfl, fun j h => by omega, HB1.out, n1.out⟩
    case round =>
      clear HB1 n1
      obtain ⟨k, hk, rfl, hno, hBr, hnr⟩ := hrel
      have HNO := Lib.hid hno
      have HBR := Lib.hid hBr
      clear hno hBr
      by_cases hlt : k < 41
      · have hlt' : decide ((k : Int) < 41) = true := by simp; omega
        have c0 : wr.cell? ⟨Bn, 0, none⟩ = some (.slice (some ⟨b, o, none⟩) n cap) := by simp [World.cell?, hnr]
        have c1 : wr.cell? ⟨Bn, 1, none⟩ = some (.int .i64 T) := by simp [World.cell?, hnr]
        have c2 : wr.cell? ⟨Bn, 2, none⟩ = some (.int .i64 C) := by simp [World.cell?, hnr]
        have hnl := (Array.getElem?_eq_some_iff.1 hnr).1
        have HNR := Lib.hid hnr
        clear hnr
        have hr := Lib.hid (rooms_any b o n cap T C l k (.slice none 0 0) [] wr.drew HL.out HO.out (HA.out.keep HBR.out.drew (Nat.le_refl _)) (by omega) (by omega) (IntsAt.nil _) (by simp))
        cases hcan : canE l T C k [] with
        | true =>
          go_wp2_with fail
          go_region_held3 (fun X => X.cell? ⟨Bn, 0, none⟩ = some (.slice (some ⟨b, o, none⟩) n cap) ∧ X.cell? ⟨Bn, 1, none⟩ = some (.int .i64 T) ∧ X.cell? ⟨Bn, 2, none⟩ = some (.int .i64 C))
            (first | go_keep | exact ⟨cell_later hb2 c0, cell_later hb2 c1, cell_later hb2 c2⟩ | exact ⟨cell_later hb3 (cell_later hb2 c0), cell_later hb3 (cell_later hb2 c1), cell_later hb3 (cell_later hb2 c2)⟩)
            (first | (go_at_call 67; refine hr.out.mono ?_; rintro e w2 ⟨rs, rfl, hrs, hb2⟩) | (go_at_call 76; refine (canE_any b o n cap T C k l rs [] w2 HL.out HO.out (HA.out.keep (HBR.out.drew.trans (hb2.mono HBR.out.drew.size)) (Nat.le_refl _)) (by omega) hrs).mono ?_; rintro e w3 ⟨rfl, hb3⟩))
          have hB3 : Below w.heap.size w w3 := (HBR.out.drew.trans (hb2.mono HBR.out.drew.size)).trans (hb3.mono (HBR.out.drew.trans (hb2.mono HBR.out.drew.size)).size)
          have hlo : leastO l T C = some k := firstFrom_some hlt HNO.out hcan
          have hf1 : leastN l T C = k := by unfold leastN; rw [if_neg (by rw [HAS.out]; simp), hlo]
          have hf2 : leastE l T C = 0 := by unfold leastE; rw [if_neg (by rw [HAS.out]; simp), hlo]
          have HF1 := Lib.hid hf1
          have HF2 := Lib.hid hf2
          clear hf1 hf2 hlo
          go_wp2_with fail
          go_ret2
          exact ⟨by rw [HF1.out, HF2.out]; rfl, hB3⟩
        | false =>
          go_wp2_with fail
          go_region_held3 (fun X => X.cell? ⟨Bn, 0, none⟩ = some (.slice (some ⟨b, o, none⟩) n cap) ∧ X.cell? ⟨Bn, 1, none⟩ = some (.int .i64 T) ∧ X.cell? ⟨Bn, 2, none⟩ = some (.int .i64 C))
            (first | go_keep | exact ⟨cell_later hb2 c0, cell_later hb2 c1, cell_later hb2 c2⟩ | exact ⟨cell_later hb3 (cell_later hb2 c0), cell_later hb3 (cell_later hb2 c1), cell_later hb3 (cell_later hb2 c2)⟩)
            (first | (go_at_call 67; refine hr.out.mono ?_; rintro e w2 ⟨rs, rfl, hrs, hb2⟩) | (go_at_call 76; refine (canE_any b o n cap T C k l rs [] w2 HL.out HO.out (HA.out.keep (HBR.out.drew.trans (hb2.mono HBR.out.drew.size)) (Nat.le_refl _)) (by omega) hrs).mono ?_; rintro e w3 ⟨rfl, hb3⟩))
          have hB3 : Below wr.drew.heap.size wr.drew w3 := hb2.trans (hb3.mono hb2.size)
          have hn3 := Lib.hid ((hB3.block Bn hnl).trans HNR.out)
          have hB4 := Lib.hid (HBR.out.drew.trans (hB3.mono HBR.out.size))
          have HC := Lib.hid hcan
          clear hB3 hb2 hb3 hcan
          go_wp2_with fail
          go_roundw
          case rel => exact ⟨k + 1, by omega, by go_num, fun j hj => by
            by_cases e : j = k
            · subst e; exact HC.out
            · exact HNO.out j (by omega), hB4.out, hn3.out⟩
          case measure => simp [intOf]; omega
      · have hlt' : decide ((k : Int) < 41) = false := by simp; omega
        have hlo : leastO l T C = none := firstFrom_none (fun j hj => HNO.out j (by omega))
        have hf1 : leastN l T C = 0 := by unfold leastN; rw [if_neg (by rw [HAS.out]; simp), hlo]
        have hf2 : leastE l T C = 9 := by unfold leastE; rw [if_neg (by rw [HAS.out]; simp), hlo]
        have HF1 := Lib.hid hf1
        have HF2 := Lib.hid hf2
        clear hf1 hf2 hlo hnr
        go_wp2_with fail
        go_ret2
        exact ⟨by rw [HF1.out, HF2.out]; rfl, HBR.out⟩
  · have hf1 : leastN l T C = 0 := by unfold leastN; rw [if_pos hf]
    have hf2 : leastE l T C = faultL l T C := by unfold leastE; rw [if_pos hf]
    have HF1 := Lib.hid hf1
    have HF2 := Lib.hid hf2
    have hne : (faultL l T C != 0) = true := by simpa using hf
    clear hf1 hf2 hf hB hA hl
    go_enter Try.func32, Try.ntmps32
    go_wp2_with (go_at_call 26; refine hck.out.mono ?_; rintro e w' ⟨rfl, hb1⟩)
    go_ret2
    exact ⟨by rw [HF1.out, HF2.out]; rfl, HB.out.trans (hb1.mono HB.out.size)⟩
end
end Go.Proofs.Ytkloaeaepjoijaa
namespace Go.Proofs.Ytkloaeaepjoijaa
section
open Go.RowKit Go.WalkArith
/-- A truth within an error. -/
def TruthE (l : List Ang) (T C err : Int) (out : List Int) (x : Int → Int) : Prop := TruthN l.length T C (frL l) (toL l) (roomLo l err out) (roomHi l err out) x
theorem truth_yes (b o n cap : Nat) (T C err : Int) (l : List Ang) (rs : Array Value) (w : World) (hl : l.length = n) (hok : NetOk l T C) (hA : AngsAt w (some ⟨b, o, none⟩) l) (he0 : 0 ≤ err) (hrs : RoomsV rs (roomLo l err []) (roomHi l err [])) (hc : canE l T C err [] = true) :
    Calls Try.prog 80 #[.agg #[.slice (some ⟨b, o, none⟩) n cap, .int .i64 T, .int .i64 C], .agg rs] w fun e w' => ∃ (v : Value) (x : Int → Int), e = .returned (.tuple #[v, .bool true]) ∧ w'.ownsRow w.heap.size 3 1 v n ((List.range n).map fun i : Nat => .int .i64 (x i)) ∧ TruthE l T C err [] x ∧ Below w.heap.size w w' := by
  refine (truth_any b o n cap T C l rs _ _ w hl hok hA hrs (hl ▸ rooms_ok hok he0 [])).mono ?_
  rintro e w' ⟨hb, ⟨rfl, m, hm, hd⟩ | ⟨v, x, rfl, ho, ht⟩⟩
  · have : canE l T C err [] = false := canB_of_denied hok hm (by rw [hl]; exact hd)
    rw [hc] at this; cases this
  · exact ⟨v, x, rfl, ho, by unfold TruthE; rw [hl]; exact ht, hb⟩
theorem truth_no (b o n cap : Nat) (T C err : Int) (l : List Ang) (rs : Array Value) (w : World) (hl : l.length = n) (hok : NetOk l T C) (hA : AngsAt w (some ⟨b, o, none⟩) l) (he0 : 0 ≤ err) (hrs : RoomsV rs (roomLo l err []) (roomHi l err [])) (hc : canE l T C err [] = false) :
    Calls Try.prog 80 #[.agg #[.slice (some ⟨b, o, none⟩) n cap, .int .i64 T, .int .i64 C], .agg rs] w fun e w' => e = .returned (.tuple #[.slice none 0 0, .bool false]) ∧ Below w.heap.size w w' := by
  refine (truth_any b o n cap T C l rs _ _ w hl hok hA hrs (hl ▸ rooms_ok hok he0 [])).mono ?_
  rintro e w' ⟨hb, ⟨rfl, m, hm, hd⟩ | ⟨v, x, rfl, ho, ht⟩⟩
  · exact ⟨rfl, hb⟩
  · have : canE l T C err [] = true := canB_of_truth hok (by rw [hl]; exact ht)
    rw [hc] at this; cases this
/-- What Show hands back. -/
def ShowPost (l : List Ang) (T C err : Int) (w : World) (e : Ending) (w' : World) : Prop :=
  Below w.heap.size w w' ∧ ((sureL l T C err ≠ 0 ∧ e = .returned (.tuple #[.slice none 0 0, .int .i64 (sureL l T C err)])) ∨
    (sureL l T C err = 0 ∧ ∃ (v : Value) (x : Int → Int), e = .returned (.tuple #[v, .int .i64 0]) ∧ w'.ownsRow w.heap.size 3 1 v l.length ((List.range l.length).map fun i : Nat => .int .i64 (x i)) ∧ TruthE l T C err [] x))
set_option maxRecDepth 100000 in
set_option maxHeartbeats 2000000 in
theorem show_any (A : Option Addr) (n cap : Nat) (T C err : Int) (l : List Ang) (w : World) (hn : n ≤ 1000000) (hl : l.length = n) (hA : AngsAt w A l) :
    Calls Try.prog 36 #[.agg #[.slice A n cap, .int .i64 T, .int .i64 C], .int .i64 err] w (ShowPost l T C err w) := by
  have hB : Below w.heap.size w (w.alloc (.cells #[.slice A n cap, .int .i64 T, .int .i64 C] 33)) := (Below.refl _ _).alloc (Nat.le_refl _) _
  have hck := Lib.hid (asked_any A n cap T C err l _ hn hl (hA.keep hB (Nat.le_refl _)))
  have HB := Lib.hid hB
  by_cases hf : askedL l T C err = 0
  · obtain ⟨hok, he0, he1⟩ := askedL_ok hf
    obtain ⟨b, o, rfl⟩ := hA.some hok.pos
    have HA := Lib.hid hA
    have HO := Lib.hid hok
    have HL := Lib.hid hl
    rw [hf] at hck
    have hsr : sureL l T C err = if canE l T C err [] then 0 else 9 := by unfold sureL; rw [if_neg (by rw [hf]; simp)]
    have HSR := Lib.hid hsr
    have n0 := Lib.hid (Go.heap_alloc_new w (.cells #[.slice (some ⟨b, o, none⟩) n cap, .int .i64 T, .int .i64 C] 33))
    clear hB hA hl hok hf hsr
    go_enter Try.func36, Try.ntmps36
    go_wp2_with fail
    refine hck.out.mono ?_
    rintro e w1 ⟨rfl, hb1⟩
    have hB1 : Below w.heap.size w w1 := HB.out.trans (hb1.mono HB.out.size)
    have n1 := (hb1.block w.heap.size (by simp)).trans n0.out
    have c0 : w1.cell? ⟨w.heap.size, 0, none⟩ = some (.slice (some ⟨b, o, none⟩) n cap) := by simp [World.cell?, n1]
    have c1 : w1.cell? ⟨w.heap.size, 1, none⟩ = some (.int .i64 T) := by simp [World.cell?, n1]
    have c2 : w1.cell? ⟨w.heap.size, 2, none⟩ = some (.int .i64 C) := by simp [World.cell?, n1]
    have HB1 := Lib.hid hB1
    clear n1 hb1 hB1 hck n0 HB
    have hr := Lib.hid (rooms_any b o n cap T C l err (.slice none 0 0) [] w1.drew HL.out HO.out (HA.out.keep HB1.out.drew (Nat.le_refl _)) he0 he1 (IntsAt.nil _) (by simp))
    go_wp2_with fail
    cases hcan : canE l T C err [] with
    | true =>
      have HC := Lib.hid hcan
      rw [hcan] at HSR
      clear hcan
      go_region_held3 (fun X => X.cell? ⟨w.heap.size, 0, none⟩ = some (.slice (some ⟨b, o, none⟩) n cap) ∧ X.cell? ⟨w.heap.size, 1, none⟩ = some (.int .i64 T) ∧ X.cell? ⟨w.heap.size, 2, none⟩ = some (.int .i64 C))
        (first | go_keep | exact ⟨cell_later hb2 c0, cell_later hb2 c1, cell_later hb2 c2⟩ | exact ⟨cell_later hb3 (cell_later hb2 c0), cell_later hb3 (cell_later hb2 c1), cell_later hb3 (cell_later hb2 c2)⟩)
        (first | (go_at_call 67; refine hr.out.mono ?_; rintro e w2 ⟨rs, rfl, hrs, hb2⟩) | (go_at_call 80; refine (truth_yes b o n cap T C err l rs w2 HL.out HO.out (HA.out.keep (HB1.out.drew.trans (hb2.mono HB1.out.drew.size)) (Nat.le_refl _)) he0 hrs HC.out).mono ?_; rintro e w3 ⟨v, x, rfl, hown, hT, hb3⟩))
      have hB2 := HB1.out.drew.trans (hb2.mono HB1.out.drew.size)
      have hB3 : Below w.heap.size w w3 := hB2.trans (hb3.mono hB2.size)
      have hfin : ShowPost l T C err w (.returned (.tuple #[v, .int .i64 0])) w3 := ⟨hB3, .inr ⟨HSR.out, v, x, rfl, by rw [HL.out]; exact hown.lower hB2.size, hT⟩⟩
      have HF := Lib.hid hfin
      clear hfin hown hT
      go_wp2_with fail
      go_ret2
      exact HF.out
    | false =>
      have HC := Lib.hid hcan
      rw [hcan] at HSR
      clear hcan
      go_region_held3 (fun X => X.cell? ⟨w.heap.size, 0, none⟩ = some (.slice (some ⟨b, o, none⟩) n cap) ∧ X.cell? ⟨w.heap.size, 1, none⟩ = some (.int .i64 T) ∧ X.cell? ⟨w.heap.size, 2, none⟩ = some (.int .i64 C))
        (first | go_keep | exact ⟨cell_later hb2 c0, cell_later hb2 c1, cell_later hb2 c2⟩ | exact ⟨cell_later hb3 (cell_later hb2 c0), cell_later hb3 (cell_later hb2 c1), cell_later hb3 (cell_later hb2 c2)⟩)
        (first | (go_at_call 67; refine hr.out.mono ?_; rintro e w2 ⟨rs, rfl, hrs, hb2⟩) | (go_at_call 80; refine (truth_no b o n cap T C err l rs w2 HL.out HO.out (HA.out.keep (HB1.out.drew.trans (hb2.mono HB1.out.drew.size)) (Nat.le_refl _)) he0 hrs HC.out).mono ?_; rintro e w3 ⟨rfl, hb3⟩))
      have hB2 := HB1.out.drew.trans (hb2.mono HB1.out.drew.size)
      have hB3 : Below w.heap.size w w3 := hB2.trans (hb3.mono hB2.size)
      have h9 : sureL l T C err = 9 := HSR.out
      have hfin : ShowPost l T C err w (.returned (.tuple #[.slice none 0 0, .int .i64 9])) w3 := ⟨hB3, .inl ⟨by rw [h9]; simp, by rw [h9]⟩⟩
      have HF := Lib.hid hfin
      clear hfin h9
      go_wp2_with fail
      go_ret2
      exact HF.out
  · have hs : sureL l T C err = askedL l T C err := by unfold sureL; rw [if_pos hf]
    have hne : (askedL l T C err != 0) = true := by simpa using hf
    have HS := Lib.hid hs
    have HN := Lib.hid hf
    clear hf hB hA hl hs
    go_enter Try.func36, Try.ntmps36
    go_wp2_with (go_at_call 66; refine hck.out.mono ?_; rintro e w' ⟨rfl, hb1⟩)
    go_ret2
    exact ⟨HB.out.trans (hb1.mono HB.out.size), .inl ⟨by rw [HS.out]; exact HN.out, by rw [HS.out]; rfl⟩⟩
end
end Go.Proofs.Ytkloaeaepjoijaa
namespace Go.Proofs.Ytkloaeaepjoijaa
section
open Go.RowKit Go.WalkArith
/-- Ranges one behind the other. -/
def flatR (lo hi : Int → Int) (n : Nat) : List Value := (List.range n).flatMap fun i : Nat => [.int .i64 (lo i), .int .i64 (hi i)]
theorem flatR_succ (lo hi : Int → Int) (n : Nat) : flatR lo hi (n + 1) = flatR lo hi n ++ [.int .i64 (lo n), .int .i64 (hi n)] := by simp [flatR, List.range_succ, List.flatMap_append]
theorem sureL_ok {l : List Ang} {T C err : Int} (h : sureL l T C err = 0) : askedL l T C err = 0 ∧ canE l T C err [] = true := by
  unfold sureL at h
  split at h
  · rename_i h1; exact absurd h h1
  · rename_i h1
    split at h
    · rename_i h2; exact ⟨by omega, h2⟩
    · cases h
theorem own_none (v : Value) : v.ownBlock = none ∨ v.ownBlock ≠ none := by cases v.ownBlock <;> simp
end
end Go.Proofs.Ytkloaeaepjoijaa
namespace Go.Proofs.Ytkloaeaepjoijaa
section
open Go.RowKit Go.WalkArith
theorem own_pop {w : World} {base g cap n : Nat} {xs : List Value} {x : Value} (h : w.ownsRow base 3 1 (.slice (some ⟨g, 0, none⟩) (n + 1) cap) (n + 1) (xs ++ [x])) (hn : xs.length = n) : w.ownsRow base 3 1 (.slice (some ⟨g, 0, none⟩) n cap) n xs := by
  obtain ⟨_, ⟨h0, _⟩ | ⟨g', cap', cur, h1, h2, h3, h4, h5, h6, h7⟩⟩ := h
  · cases h0
  · cases h1
    refine ⟨by omega, .inr ⟨g, cap, cur, rfl, h2, h3, by omega, h5, h6, ?_⟩⟩
    have : (cur.toList.take ((n + 1) * 1)).take n = xs := by rw [h7, List.take_append_of_le_length (by omega), List.take_of_length_le (by omega)]
    rw [List.take_take] at this
    rw [← this]
    congr 1
    omega
end
end Go.Proofs.Ytkloaeaepjoijaa
